/- FtKey. -/
import Derived.Test.YtaipldegobjboaaDoorMMaps
import Derived.Test.YtaipldegobjboaaDoorChecked
import Derived.Test.YtaipldegobjboaaDoorMOp
import Derived.Test.YtaipldegobjboaaDoorFtTake
namespace Go.Proofs.YtaipldegobjboaaDoor.Ft
open Go.RowKit Go.Proofs.YtaipldegobjboaaDoor Go.Proofs.YtaipldegobjboaaDoor.Ru

abbrev kV (u : ByteArray) (b : Int) : Value := .agg #[.string u, .int .i64 b]
def kT (u : ByteArray) (b : Int) : List UInt8 := keyBytes [.string u.data.toList, .int .i64 b]
theorem gkeyed : Maps.Keyed Tryd.prog 43 := Maps.Keyed.of_law (deep_law_laid Tryd.laidOut (m := 9) (by decide) (of_decide_eq_true (by kernel_rfl)) (by kernel_rfl) (by kernel_rfl))
theorem lits_str {u : ByteArray} (hu : u.size ≤ maxLen) (d : Nat) : Tryd.prog.keyLits (d + 1) 9 [.string u] = some [.string u.data.toList] := by
  unfold Program.keyLits
  rw [Tryd.underlying9]
  simp [hu]
theorem lits_int {b : Int} (hb : (Lit.int .i64 b).wf = true) (d : Nat) : Tryd.prog.keyLits (d + 1) 3 [.int .i64 b] = some [.int .i64 b] := by
  unfold Program.keyLits
  rw [Tryd.underlying3]
  simp [hb]
theorem lits_k {u : ByteArray} {b : Int} (hu : u.size ≤ maxLen) (hb : (Lit.int .i64 b).wf = true) (d : Nat) : Tryd.prog.keyLits (d + 2) 43 [.string u, .int .i64 b] = some [.string u.data.toList, .int .i64 b] := by
  unfold Program.keyLits
  rw [Tryd.underlying43]
  have c0 : Tryd.prog.cellsOf 43 = 2 := by kernel_rfl
  have c1 : Tryd.prog.cellsOf 9 = 1 := by kernel_rfl
  have c2 : Tryd.prog.cellsOf 3 = 1 := by kernel_rfl
  simp [c0, c1, c2, lits_str hu, lits_int hb]
theorem keyOf_k {u : ByteArray} {b : Int} (hu : u.size ≤ maxLen) (hb : (Lit.int .i64 b).wf = true) : keyOf Tryd.prog 43 (kV u b) = some (.string (kT u b)) := by
  unfold keyOf
  rw [Tryd.underlying43]
  have h1 : Tryd.prog.keyType 43 = true := by kernel_rfl
  have h2 : (kV u b).formed Tryd.prog 43 = true := by
    unfold Value.formed
    have c0 : Tryd.prog.cellsOf 43 = 2 := by kernel_rfl
    rw [Tryd.underlying43]
    simp [c0]
  have h3 : Tryd.prog.types.size + 1 = (Tryd.prog.types.size - 1) + 2 := by kernel_rfl
  have h4 := lits_k hu hb (Tryd.prog.types.size - 1)
  rw [← h3] at h4
  simp only [h1, h2]
  have h5 : (kV u b).cells.toList = [.string u, .int .i64 b] := rfl
  rw [h5, h4]
  rfl
set_option maxRecDepth 100000 in
theorem lits_str_inv {v : Value} {d : Nat} {ls : List Lit} (h : Tryd.prog.keyLits (d + 1) 9 [v] = some ls) : ∃ u : ByteArray, v = .string u ∧ u.size ≤ maxLen ∧ ls = [.string u.data.toList] := by
  unfold Program.keyLits at h
  rw [Tryd.underlying9] at h
  cases v <;> simp at h
  rename_i u
  exact ⟨u, rfl, h.1, h.2.symm⟩
set_option maxRecDepth 100000 in
theorem lits_int_inv {v : Value} {d : Nat} {ls : List Lit} (h : Tryd.prog.keyLits (d + 1) 3 [v] = some ls) : ∃ b : Int, v = .int .i64 b ∧ (Lit.int .i64 b).wf = true ∧ ls = [.int .i64 b] := by
  unfold Program.keyLits at h
  rw [Tryd.underlying3] at h
  cases v <;> simp at h
  rename_i q b
  obtain ⟨⟨rfl, h1⟩, h2⟩ := h
  exact ⟨b, rfl, h1, h2.symm⟩
set_option maxRecDepth 100000 in
theorem keyOf_k_inv (key : Value) (kl : Lit) (h : keyOf Tryd.prog 43 key = some kl) : ∃ x : ByteArray × Int, key = kV x.1 x.2 ∧ kl = .string (kT x.1 x.2) ∧ x.1.size ≤ maxLen ∧ (Lit.int .i64 x.2).wf = true := by
  unfold keyOf at h
  rw [Tryd.underlying43] at h
  have h1 : Tryd.prog.keyType 43 = true := by kernel_rfl
  simp only [h1, Bool.true_and] at h
  by_cases hf : key.formed Tryd.prog 43 = true
  · rw [if_pos hf] at h
    have c0 : Tryd.prog.cellsOf 43 = 2 := by kernel_rfl
    have c1 : Tryd.prog.cellsOf 9 = 1 := by kernel_rfl
    have c2 : Tryd.prog.cellsOf 3 = 1 := by kernel_rfl
    unfold Value.formed at hf
    rw [Tryd.underlying43] at hf
    cases key <;> simp at hf
    rename_i cs
    rw [c0] at hf
    obtain ⟨l⟩ := cs
    match l, hf with
    | [x, y], _ =>
      obtain ⟨N, h3⟩ : ∃ N, Tryd.prog.types.size + 1 = N + 2 := ⟨Tryd.prog.types.size - 1, by kernel_rfl⟩
      rw [h3] at h
      have h5 : (Value.agg #[x, y]).cells.toList = [x, y] := rfl
      rw [h5] at h
      unfold Program.keyLits at h
      rw [Tryd.underlying43] at h
      simp [c0, c1, c2] at h
      cases hx : Tryd.prog.keyLits (N + 1) 9 [x] with
      | none => rw [hx] at h; simp at h
      | some lx =>
        rw [hx] at h
        cases hy : Tryd.prog.keyLits (N + 1) 3 [y] with
        | none => rw [hy] at h; simp at h
        | some ly =>
          rw [hy] at h
          obtain ⟨u, rfl, hu, rfl⟩ := lits_str_inv hx
          obtain ⟨b, rfl, hb, rfl⟩ := lits_int_inv hy
          simp at h
          exact ⟨(u, b), rfl, h.symm, hu, hb⟩
  · rw [if_neg hf] at h; cases h
theorem kT_inj {u v : ByteArray} {b c : Int} (hu : u.size ≤ maxLen) (hb : (Lit.int .i64 b).wf = true) (hv : v.size ≤ maxLen) (hc : (Lit.int .i64 c).wf = true) (h : kT u b = kT v c) : u = v ∧ b = c := by
  have h1 := keyOf_k hu hb
  have h2 := keyOf_k hv hc
  rw [h] at h1
  have h3 := gkeyed.inj h1 h2
  simp only [Value.agg.injEq, Array.mk.injEq, List.cons.injEq, Value.string.injEq, Value.int.injEq, true_and, and_true] at h3
  exact h3

/-! a map's look-up behind a store -/
theorem ins_find (s : List UInt8) (v : Value) (x : List UInt8) : ∀ m : SM, (∀ p ∈ m, p.1 ≠ s) → ((SM.ins s v m).find? (fun p => p.1 == x)) = if s = x then some (s, v) else m.find? (fun p => p.1 == x)
  | [], _ => by
    unfold SM.ins
    by_cases h : s = x
    · simp [h]
    · simp [h]
  | y :: r, hm => by
    unfold SM.ins
    have hy := hm y (by simp)
    by_cases h : s = x
    · subst h
      split
      · simp
      · rw [List.find?_cons, if_pos rfl]
        have : (y.1 == s) = false := by simpa using hy
        rw [this, ins_find s v s r (fun p hp => hm p (by simp [hp])), if_pos rfl]
    · split
      · rw [List.find?_cons]
        have : (s == x) = false := by simpa using h
        simp only [this, if_neg h]
      · rw [List.find?_cons, List.find?_cons, ins_find s v x r (fun p hp => hm p (by simp [hp])), if_neg h]
theorem get_put (m : SM) (s : List UInt8) (v : Value) (x : List UInt8) : (m.put s v).get x = if s = x then some v else m.get x := by
  unfold SM.get SM.put
  rw [ins_find s v x _ (fun p hp => by
    unfold SM.del at hp
    have := (List.mem_filter.1 hp).2
    simpa using this)]
  by_cases h : s = x
  · rw [if_pos h, if_pos h]; rfl
  · rw [if_neg h, if_neg h]
    congr 1
    unfold SM.del
    rw [List.find?_filter]
    congr 1
    funext p
    by_cases hp : p.1 = x
    · have : p.1 ≠ s := fun e => h (e.symm.trans hp)
      simp [hp, Ne.symm h]
    · simp [hp]
/-- which tasks were seen -/
def Seen (m : SM) (S : List (List UInt8 × Int)) : Prop := (∀ (j : List UInt8) (i : Int), j.length ≤ 1000000000000000 → (Lit.int .i64 i).wf = true → m.get (kT (bs j) i) = if (j, i) ∈ S then some (.bool true) else none) ∧ m.length ≤ S.length
theorem seen_nil : Seen [] [] := ⟨fun j i _ _ => by simp [SM.get], Nat.le_refl _⟩
theorem bs_eq {a b : List UInt8} (h : bs a = bs b) : a = b := by
  have := congrArg (fun s : ByteArray => s.data.toList) h
  simpa [bs] using this
theorem seen_put {m : SM} {S : List (List UInt8 × Int)} (h : Seen m S) {j : List UInt8} {i : Int} (hj : j.length ≤ 1000000000000000) (hi : (Lit.int .i64 i).wf = true) : Seen (m.put (kT (bs j) i) (.bool true)) ((j, i) :: S) := by
  refine ⟨fun j' i' hj' hi' => ?_, by have := SM.length_put m (kT (bs j) i) (.bool true); have := h.2; simp; omega⟩
  rw [get_put, h.1 j' i' hj' hi']
  by_cases e : (j', i') = (j, i)
  · cases e
    rw [if_pos rfl, if_pos (by simp)]
  · have hk : ¬ kT (bs j) i = kT (bs j') i' := fun hk => by
      obtain ⟨h1, h2⟩ := kT_inj (by rw [bs_size]; unfold maxLen; omega) hi (by rw [bs_size]; unfold maxLen; omega) hi' hk
      exact e (by rw [bs_eq h1, h2])
    rw [if_neg hk]
    congr 1
    simp [e]
theorem tkeyed_zero (w : World) : (zeroValue 4).run Tryd.prog w = .ok (.bool false) w := by kernel_rfl
end Go.Proofs.YtaipldegobjboaaDoor.Ft
