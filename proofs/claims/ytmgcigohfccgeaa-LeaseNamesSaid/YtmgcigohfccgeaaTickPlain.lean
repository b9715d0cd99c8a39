/- What a tick tells, in plain Lean: all that are due, and the others stay. -/
import Derived.Test.YtmgcigohfccgeaaWTick
namespace Go.Proofs.Ytmgcigohfccgeaa

theorem bl_asym {a b : List UInt8} (h : a < b) : ¬ b < a := List.lt_asymm h
theorem bl_le_trans {a b c : List UInt8} (h1 : ¬ b < a) (h2 : ¬ c < b) : ¬ c < a := by
  rw [List.not_lt] at *
  exact List.le_trans h1 h2

theorem elt_ok : Hp.Ok elt where
  asym := fun x y h => by
    unfold elt at *
    simp only [Bool.or_eq_true, Bool.and_eq_true, decide_eq_true_eq, beq_iff_eq] at h
    simp only [Bool.or_eq_false_iff, Bool.and_eq_false_iff, decide_eq_false_iff_not]
    rcases h with h | ⟨h1, h2⟩
    · exact ⟨by omega, .inl (by simp; omega)⟩
    · exact ⟨by omega, .inr (bl_asym h2)⟩
  tr := fun x y z h1 h2 => by
    unfold elt at *
    simp only [Bool.or_eq_false_iff, Bool.and_eq_false_iff, decide_eq_false_iff_not, beq_eq_false_iff_ne, ne_eq] at *
    obtain ⟨a1, a2⟩ := h1
    obtain ⟨b1, b2⟩ := h2
    refine ⟨by omega, ?_⟩
    by_cases h : z.2 = x.2
    · right
      have e1 : y.2 = x.2 := by omega
      have e2 : z.2 = y.2 := by omega
      rcases a2 with a2 | a2
      · exact absurd e1 a2
      · rcases b2 with b2 | b2
        · exact absurd e2 b2
        · exact bl_le_trans a2 b2
    · exact .inl h

theorem first_least {L : List End} (h : Hp.IsH elt L L.length) {x : End} (hx : L[0]? = some x) {y : End} (hy : y ∈ L) : x.2 ≤ y.2 := by
  obtain ⟨k, hk, rfl⟩ := List.getElem_of_mem hy
  have := Hp.heap_first elt_ok h k hk
  unfold Hp.ltAt at this
  rw [hx, List.getElem?_eq_getElem hk] at this
  simp only [elt, Bool.or_eq_false_iff, decide_eq_false_iff_not] at this
  omega

theorem tick_perm (T : Int) : ∀ (n : Nat) (L : List End), L.length = n → Hp.IsH elt L L.length → (tick L T).1.Perm (L.filter fun x => decide (x.2 ≤ T)) ∧ (tick L T).2.Perm (L.filter fun x => decide (T < x.2)) ∧ Hp.IsH elt (tick L T).2 (tick L T).2.length
  | 0, L, hn, _ => by
    obtain rfl := List.eq_nil_of_length_eq_zero hn
    rw [tick_nil]
    exact ⟨by simp, by simp, fun i _ h => by simp at h⟩
  | n + 1, L, hn, hh => by
    obtain ⟨x, hx⟩ : ∃ x, L[0]? = some x := ⟨L[0], List.getElem?_eq_getElem (by omega)⟩
    by_cases hle : x.2 ≤ T
    · have hp := Hp.remove_perm elt L 0 x hx
      have hl : (Hp.remove elt L 0).length = n := by rw [length_remove]; omega
      obtain ⟨h1, h2, h3⟩ := tick_perm T n (Hp.remove elt L 0) hl (Hp.remove_heap elt_ok hh (by omega))
      rw [tick_go hx hle]
      refine ⟨?_, ?_, h3⟩
      · refine List.Perm.trans ?_ (hp.filter _).symm
        rw [List.filter_cons_of_pos (by simpa using hle)]
        exact h1.cons x
      · refine List.Perm.trans ?_ (hp.filter _).symm
        rw [List.filter_cons_of_neg (by simp; omega)]
        exact h2
    · have hall : ∀ y ∈ L, T < y.2 := fun y hy => by have := first_least hh hx hy; omega
      rw [tick_stop hx hle]
      refine ⟨?_, ?_, hh⟩
      · rw [List.filter_eq_nil_iff.2 (fun y hy => by have := hall y hy; simp; omega)]
      · rw [List.filter_eq_self.2 (fun y hy => by have := hall y hy; simpa using this)]
end Go.Proofs.Ytmgcigohfccgeaa
