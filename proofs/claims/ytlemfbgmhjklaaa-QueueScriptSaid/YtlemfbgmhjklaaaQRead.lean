/- Slices of tasks: how they are read; the acts of the laws. -/
import Derived.Test.YtlemfbgmhjklaaaQLives
import Derived.Test.YtlemfbgmhjklaaaQTurnsP
import Derived.Test.YtlemfbgmhjklaaaOpen5
namespace Go.Proofs.Ytlemfbgmhjklaaa
open Go.RowKit

theorem pown_cell {base : Nat} {w : World} {p : Option Addr} {n c : Nat} {ps : List Pend} (h : w.ownsRow base 29 4 (.slice p n c) n (pcells ps)) {k : Nat} (hk : k < ps.length) (hn : n = ps.length) :
    ∃ q, p = some ⟨q, 0, none⟩ ∧ ∀ j u, j < 4 → (pend ps[k])[j]? = some u → w.cell? ⟨q, k * 4 + j, none⟩ = some u := by
  subst hn
  obtain ⟨q, c', e, -, -, -⟩ := own_block h (by omega)
  simp only [Value.slice.injEq] at e
  obtain ⟨rfl, -, rfl⟩ := e
  exact ⟨q, rfl, fun j u hj hu => own_cell h (by unfold pcells; rw [flat_at pend_len ps k hk j hj]; exact hu)⟩

theorem pend_list : ∀ es : List (List Value), (∀ x ∈ es, Leaves Try.prog [9, 3, 9, 3] x) → ∃ l : List Pend, l.length = es.length ∧ pcells l = es.flatten
  | [], _ => ⟨[], rfl, rfl⟩
  | cs :: es, hf => by
    obtain ⟨l, h1, h2⟩ := pend_list es fun x hx => hf x (List.mem_cons_of_mem _ hx)
    have h := hf cs List.mem_cons_self
    match cs, h.1, h.2 with
    | [v0, v1, v2, v3], _, hv =>
      obtain ⟨j, rfl, -⟩ := fieldOk.str (v := v0) (hv 0 _ rfl) Try.underlying9
      obtain ⟨i, rfl, -⟩ := fieldOk.int (v := v1) (hv 1 _ rfl) Try.underlying3
      obtain ⟨u, rfl, -⟩ := fieldOk.str (v := v2) (hv 2 _ rfl) Try.underlying9
      obtain ⟨d, rfl, -⟩ := fieldOk.int (v := v3) (hv 3 _ rfl) Try.underlying3
      refine ⟨⟨j, i, u, d⟩ :: l, by simp [h1], ?_⟩
      unfold pcells at h2 ⊢
      rw [List.flatMap_cons, List.flatten_cons, h2]
      rfl
/-- an act -/
structure QAct where
  k : Int
  p : Pend
def actC (x : QAct) : List Value := .int .i64 x.k :: pend x.p
theorem actC_len (x : QAct) : (actC x).length = 5 := rfl
def actsC (l : List QAct) : List Value := l.flatMap actC
theorem act_list : ∀ es : List (List Value), (∀ x ∈ es, Leaves Try.prog [3, 9, 3, 9, 3] x) → ∃ l : List QAct, l.length = es.length ∧ actsC l = es.flatten
  | [], _ => ⟨[], rfl, rfl⟩
  | cs :: es, hf => by
    obtain ⟨l, h1, h2⟩ := act_list es fun x hx => hf x (List.mem_cons_of_mem _ hx)
    have h := hf cs List.mem_cons_self
    match cs, h.1, h.2 with
    | [v, v0, v1, v2, v3], _, hv =>
      obtain ⟨k, rfl, -⟩ := fieldOk.int (v := v) (hv 0 _ rfl) Try.underlying3
      obtain ⟨j, rfl, -⟩ := fieldOk.str (v := v0) (hv 1 _ rfl) Try.underlying9
      obtain ⟨i, rfl, -⟩ := fieldOk.int (v := v1) (hv 2 _ rfl) Try.underlying3
      obtain ⟨u, rfl, -⟩ := fieldOk.str (v := v2) (hv 3 _ rfl) Try.underlying9
      obtain ⟨d, rfl, -⟩ := fieldOk.int (v := v3) (hv 4 _ rfl) Try.underlying3
      refine ⟨⟨k, j, i, u, d⟩ :: l, by simp [h1], ?_⟩
      unfold actsC at h2 ⊢
      rw [List.flatMap_cons, List.flatten_cons, h2]
      rfl
/-- a row of records, somewhere -/
theorem row_at {α : Type} {c : α → List Value} {n : Nat} (hc : ∀ x, (c x).length = n) {w : World} {p : Option Addr} {m cap : Nat} {l : List α} (h : Row w (.slice p m cap) n l.length (l.flatMap c)) {k : Nat} (hk : k < l.length) (hn : 0 < n) :
    ∃ b o, p = some ⟨b, o, none⟩ ∧ ∀ j u, j < n → (c l[k])[j]? = some u → w.cell? ⟨b, o + k * n + j, none⟩ = some u := by
  obtain ⟨p', c', hv, h1, h2, h3, h4, h5, h6⟩ := h
  simp only [Value.slice.injEq] at hv
  obtain ⟨rfl, rfl, rfl⟩ := hv
  rcases h6 with h6 | ⟨b, o, hp, ha⟩
  · have h7 : l.length * n = 0 := by rw [← h3, h6]; rfl
    rcases Nat.mul_eq_zero.1 h7 with h8 | h8 <;> omega
  · refine ⟨b, o, hp, fun j u hj hu => ?_⟩
    rw [Nat.add_assoc]
    exact ha _ _ (by rw [flat_at hc l k hk j hj]; exact hu)
theorem row_shape {w : World} {v : Value} {size n : Nat} {cs : List Value} (h : Row w v size n cs) : ∃ p c, v = .slice p n c ∧ n ≤ c ∧ c ≤ maxLen := by
  obtain ⟨p, c, hv, h1, h2, -⟩ := h
  exact ⟨p, c, hv, h1, h2⟩
end Go.Proofs.Ytlemfbgmhjklaaa
