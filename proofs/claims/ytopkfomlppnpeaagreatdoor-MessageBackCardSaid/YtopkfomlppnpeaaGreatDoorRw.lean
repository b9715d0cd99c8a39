/- Rw. -/
import Derived.Test.YtopkfomlppnpeaaGreatDoorFrp
namespace Go.Proofs.YtopkfomlppnpeaaGreatDoor
open Go.RowKit

section
variable {α : Type} (c : α → List Value)
def rwC (L : List α) : List Value := L.flatMap c
end
section
variable {α : Type} {c : α → List Value} {k : Nat}
theorem rwC_nil : rwC c [] = [] := rfl
theorem rwC_cons (x : α) (L : List α) : rwC c (x :: L) = c x ++ rwC c L := by unfold rwC; rw [List.flatMap_cons]
theorem rwC_append (L M : List α) : rwC c (L ++ M) = rwC c L ++ rwC c M := by unfold rwC; rw [List.flatMap_append]
theorem rwC_snoc (L : List α) (x : α) : rwC c (L ++ [x]) = rwC c L ++ c x := by rw [rwC_append, rwC_cons, rwC_nil, List.append_nil]
theorem rwC_len (hk : ∀ x, (c x).length = k) : ∀ L : List α, (rwC c L).length = L.length * k
  | [] => by simp [rwC]
  | x :: L => by rw [rwC_cons, List.length_append, hk, rwC_len hk L, List.length_cons, Nat.add_mul]; omega
theorem rwC_one (h1 : ∀ x, ∀ u ∈ c x, u.oneCell' = true) (L : List α) : ∀ u ∈ rwC c L, u.oneCell' = true := by
  intro u hu
  obtain ⟨x, -, hx⟩ := List.mem_flatMap.1 hu
  exact h1 x u hx
theorem rwC_take (hk : ∀ x, (c x).length = k) {L : List α} {m : Nat} (hm : m ≤ L.length) : (rwC c L).take (m * k) = rwC c (L.take m) := by
  conv => lhs; rw [← List.take_append_drop m L, rwC_append]
  rw [List.take_left' (by rw [rwC_len hk, List.length_take, Nat.min_eq_left hm])]
theorem rwC_drop (hk : ∀ x, (c x).length = k) {L : List α} {m : Nat} (hm : m ≤ L.length) : (rwC c L).drop (m * k) = rwC c (L.drop m) := by
  conv => lhs; rw [← List.take_append_drop m L, rwC_append]
  rw [List.drop_left' (by rw [rwC_len hk, List.length_take, Nat.min_eq_left hm])]
theorem rwC_at (hk : ∀ x, (c x).length = k) {L : List α} {i : Nat} (hi : i < L.length) {j : Nat} (hj : j < k) : (rwC c L)[i * k + j]? = (c L[i])[j]? := by
  have h1 := rwC_drop hk (L := L) (m := i) (by omega)
  have h2 : (rwC c L)[i * k + j]? = ((rwC c L).drop (i * k))[j]? := by rw [List.getElem?_drop]
  rw [h2, h1, List.drop_eq_getElem_cons hi, rwC_cons, List.getElem?_append_left (by rw [hk]; exact hj)]
theorem rwC_set (hk : ∀ x, (c x).length = k) {L : List α} {i : Nat} (hi : i < L.length) {j : Nat} (hj : j < k) {u : Value} {x : α} (hx : c x = (c L[i]).set j u) : (rwC c L).set (i * k + j) u = rwC c (L.set i x) := by
  have e : L = L.take i ++ L[i] :: L.drop (i + 1) := by rw [List.getElem_cons_drop, List.take_append_drop]
  have e2 : L.set i x = L.take i ++ x :: L.drop (i + 1) := by
    rw [List.set_eq_take_append_cons_drop, if_pos hi]
  have hl : (rwC c (L.take i)).length = i * k := by rw [rwC_len hk, List.length_take, Nat.min_eq_left (by omega)]
  rw [e2, rwC_append, rwC_cons, hx]
  conv => lhs; rw [e]
  rw [rwC_append, rwC_cons, List.set_append_right _ _ (by omega), hl, Nat.add_sub_cancel_left, List.set_append_left _ _ (by rw [hk]; exact hj)]
theorem rwC_erase (L : List α) (i : Nat) : rwC c (L.take i) ++ rwC c (L.drop (i + 1)) = rwC c (L.eraseIdx i) := by rw [← rwC_append, List.eraseIdx_eq_take_drop_succ]
theorem rwC_map {β : Type} (f : β → α) (L : List β) : rwC c (L.map f) = rwC (fun x => c (f x)) L := by unfold rwC; rw [List.flatMap_map]
end

/-- the first of a row -/
theorem row_first {w : World} {p : Option Addr} {n c m size : Nat} {cs : List Value} (h : Row w (.slice p n c) size n cs) (hm : m ≤ n) : Row w (.slice p m c) size m (cs.take (m * size)) := by
  obtain ⟨p1, c1, hv, h1, h2, h3, h4, h5, h6⟩ := h
  simp only [Value.slice.injEq] at hv
  obtain ⟨rfl, -, rfl⟩ := hv
  have hms : m * size ≤ n * size := Nat.mul_le_mul_right _ hm
  refine ⟨p, c, rfl, by omega, h2, by rw [List.length_take]; omega, fun u hu => h4 u (List.mem_of_mem_take hu), fun e => ?_, ?_⟩
  · have := h5 e
    omega
  · rcases h6 with h6 | ⟨b, o, hp, ha⟩
    · subst h6; left; simp
    · refine .inr ⟨b, o, hp, fun j u hj => ha j u ?_⟩
      rw [List.getElem?_take] at hj
      split at hj
      · exact hj
      · cases hj
/-- the rest of a row -/
theorem row_rest {w : World} {p : Option Addr} {n c m size : Nat} {cs : List Value} (h : Row w (.slice p n c) size n cs) (hm : m ≤ n) : Row w (.slice (if c = m then p else Option.map (fun x => x.add (m * size)) p) (n - m) (c - m)) size (n - m) (cs.drop (m * size)) := by
  obtain ⟨p1, c1, hv, h1, h2, h3, h4, h5, h6⟩ := h
  simp only [Value.slice.injEq] at hv
  obtain ⟨rfl, -, rfl⟩ := hv
  refine ⟨_, c - m, rfl, by omega, by omega, by rw [List.length_drop, h3, Nat.sub_mul], fun u hu => h4 u (List.mem_of_mem_drop hu), fun e => ?_, ?_⟩
  · have : p = none := by split at e <;> simp_all
    have := h5 this
    omega
  · by_cases hlt : m < n
    · rcases h6 with h6 | ⟨b, o, rfl, ha⟩
      · subst h6; left; simp
      · refine .inr ⟨b, o + m * size, by rw [if_neg (by omega)]; simp [add_off], fun j u hj => ?_⟩
        rw [List.getElem?_drop] at hj
        have := ha _ u hj
        rw [Nat.add_assoc]
        exact this
    · left
      rw [List.drop_eq_nil_iff, h3]
      exact Nat.mul_le_mul_right _ (by omega)
theorem row_own {w : World} {base : Nat} {e : TypeId} {size n : Nat} {v : Value} {cs : List Value} (h : w.ownsRow base e size v n cs) (h1 : ∀ u ∈ cs, u.oneCell' = true) : ∃ p c, v = .slice p n c ∧ n ≤ c ∧ c ≤ maxLen ∧ Row w (.slice p n c) size n cs := by
  obtain ⟨p, c, rfl, hc, hm⟩ := own_slice h
  exact ⟨p, c, rfl, hc, hm, row_of_owns h h1⟩
/-- two rows of elements of other types lie apart -/
theorem own_own {w : World} {base base' : Nat} {e e' : TypeId} {size size' n n' : Nat} {v v' : Value} {xs ys : List Value} (h : w.ownsRow base e size v n xs) (k : w.ownsRow base' e' size' v' n' ys) (ht : e ≠ e') {g : Nat} (hg : v.ownBlock = some g) : v'.ownBlock ≠ some g := by
  intro hg'
  rcases h.2 with ⟨rfl, -⟩ | ⟨q, cap, cur, rfl, -, hh, -⟩
  · simp [Value.ownBlock] at hg
  · rcases k.2 with ⟨rfl, -⟩ | ⟨q', cap', cur', rfl, -, hh', -⟩
    · simp [Value.ownBlock] at hg'
    · simp only [Value.ownBlock, Option.some.injEq] at hg hg'
      subst hg hg'
      rw [hh] at hh'
      simp only [Option.some.injEq, Obj.cells.injEq] at hh'
      exact ht hh'.2.1
end Go.Proofs.YtopkfomlppnpeaaGreatDoor
