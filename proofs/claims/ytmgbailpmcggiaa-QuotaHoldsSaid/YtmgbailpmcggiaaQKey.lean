/- The key of a grant: a user and a band, told as one text. -/
import Derived.Test.YtmgbailpmcggiaaMapT
import Derived.Test.YtmgbailpmcggiaaChecked
import Derived.Test.YtmgbailpmcggiaaOpen
namespace Go.Proofs.Ytmgbailpmcggiaa
open Go.RowKit

abbrev kV (u : ByteArray) (b : Int) : Value := .agg #[.string u, .int .i64 b]
def kT (u : ByteArray) (b : Int) : List UInt8 := keyBytes [.string u.data.toList, .int .i64 b]
theorem gkeyed : Maps.Keyed Try.prog 60 := Maps.Keyed.of_law (deep_law_laid Try.laidOut (m := 9) (by decide) (of_decide_eq_true (by kernel_rfl)) (by kernel_rfl) (by kernel_rfl))
theorem lits_str {u : ByteArray} (hu : u.size ≤ maxLen) (d : Nat) : Try.prog.keyLits (d + 1) 9 [.string u] = some [.string u.data.toList] := by
  unfold Program.keyLits
  rw [Try.underlying9]
  simp [hu]
theorem lits_int {b : Int} (hb : (Lit.int .i64 b).wf = true) (d : Nat) : Try.prog.keyLits (d + 1) 3 [.int .i64 b] = some [.int .i64 b] := by
  unfold Program.keyLits
  rw [Try.underlying3]
  simp [hb]
theorem lits_k {u : ByteArray} {b : Int} (hu : u.size ≤ maxLen) (hb : (Lit.int .i64 b).wf = true) (d : Nat) : Try.prog.keyLits (d + 2) 60 [.string u, .int .i64 b] = some [.string u.data.toList, .int .i64 b] := by
  unfold Program.keyLits
  rw [Try.underlying60]
  have c0 : Try.prog.cellsOf 60 = 2 := by kernel_rfl
  have c1 : Try.prog.cellsOf 9 = 1 := by kernel_rfl
  have c2 : Try.prog.cellsOf 3 = 1 := by kernel_rfl
  simp [c0, c1, c2, lits_str hu, lits_int hb]
theorem keyOf_k {u : ByteArray} {b : Int} (hu : u.size ≤ maxLen) (hb : (Lit.int .i64 b).wf = true) : keyOf Try.prog 60 (kV u b) = some (.string (kT u b)) := by
  unfold keyOf
  rw [Try.underlying60]
  have h1 : Try.prog.keyType 60 = true := by kernel_rfl
  have h2 : (kV u b).formed Try.prog 60 = true := by
    unfold Value.formed
    have c0 : Try.prog.cellsOf 60 = 2 := by kernel_rfl
    rw [Try.underlying60]
    simp [c0]
  have h3 : Try.prog.types.size + 1 = (Try.prog.types.size - 1) + 2 := by kernel_rfl
  have h4 := lits_k hu hb (Try.prog.types.size - 1)
  rw [← h3] at h4
  simp only [h1, h2]
  have h5 : (kV u b).cells.toList = [.string u, .int .i64 b] := rfl
  rw [h5, h4]
  rfl
set_option maxRecDepth 100000 in
theorem lits_str_inv {v : Value} {d : Nat} {ls : List Lit} (h : Try.prog.keyLits (d + 1) 9 [v] = some ls) : ∃ u : ByteArray, v = .string u ∧ u.size ≤ maxLen ∧ ls = [.string u.data.toList] := by
  unfold Program.keyLits at h
  rw [Try.underlying9] at h
  cases v <;> simp at h
  rename_i u
  exact ⟨u, rfl, h.1, h.2.symm⟩
set_option maxRecDepth 100000 in
theorem lits_int_inv {v : Value} {d : Nat} {ls : List Lit} (h : Try.prog.keyLits (d + 1) 3 [v] = some ls) : ∃ b : Int, v = .int .i64 b ∧ (Lit.int .i64 b).wf = true ∧ ls = [.int .i64 b] := by
  unfold Program.keyLits at h
  rw [Try.underlying3] at h
  cases v <;> simp at h
  rename_i q b
  obtain ⟨⟨rfl, h1⟩, h2⟩ := h
  exact ⟨b, rfl, h1, h2.symm⟩
set_option maxRecDepth 100000 in
theorem keyOf_k_inv (key : Value) (kl : Lit) (h : keyOf Try.prog 60 key = some kl) : ∃ x : ByteArray × Int, key = kV x.1 x.2 ∧ kl = .string (kT x.1 x.2) ∧ x.1.size ≤ maxLen ∧ (Lit.int .i64 x.2).wf = true := by
  unfold keyOf at h
  rw [Try.underlying60] at h
  have h1 : Try.prog.keyType 60 = true := by kernel_rfl
  simp only [h1, Bool.true_and] at h
  by_cases hf : key.formed Try.prog 60 = true
  · rw [if_pos hf] at h
    have c0 : Try.prog.cellsOf 60 = 2 := by kernel_rfl
    have c1 : Try.prog.cellsOf 9 = 1 := by kernel_rfl
    have c2 : Try.prog.cellsOf 3 = 1 := by kernel_rfl
    unfold Value.formed at hf
    rw [Try.underlying60] at hf
    cases key <;> simp at hf
    rename_i cs
    rw [c0] at hf
    obtain ⟨l⟩ := cs
    match l, hf with
    | [x, y], _ =>
      obtain ⟨N, h3⟩ : ∃ N, Try.prog.types.size + 1 = N + 2 := ⟨Try.prog.types.size - 1, by kernel_rfl⟩
      rw [h3] at h
      have h5 : (Value.agg #[x, y]).cells.toList = [x, y] := rfl
      rw [h5] at h
      unfold Program.keyLits at h
      rw [Try.underlying60] at h
      simp [c0, c1, c2] at h
      cases hx : Try.prog.keyLits (N + 1) 9 [x] with
      | none => rw [hx] at h; simp at h
      | some lx =>
        rw [hx] at h
        cases hy : Try.prog.keyLits (N + 1) 3 [y] with
        | none => rw [hy] at h; simp at h
        | some ly =>
          rw [hy] at h
          obtain ⟨u, rfl, hu, rfl⟩ := lits_str_inv hx
          obtain ⟨b, rfl, hb, rfl⟩ := lits_int_inv hy
          simp at h
          exact ⟨(u, b), rfl, h.symm, hu, hb⟩
  · rw [if_neg hf] at h; cases h
theorem kT_inj {u v : ByteArray} {b c : Int} (hu : u.size ≤ maxLen) (hb : (Lit.int .i64 b).wf = true) (hv : v.size ≤ maxLen) (hc : (Lit.int .i64 c).wf = true) (h : kT u b = kT v c) : u = v ∧ b = c := by
  have h1 := keyOf_k hu hb
  have h2 := keyOf_k hv hc
  rw [h] at h1
  have h3 := gkeyed.inj h1 h2
  simp only [Value.agg.injEq, Array.mk.injEq, List.cons.injEq, Value.string.injEq, Value.int.injEq, true_and, and_true] at h3
  exact h3
end Go.Proofs.Ytmgbailpmcggiaa
