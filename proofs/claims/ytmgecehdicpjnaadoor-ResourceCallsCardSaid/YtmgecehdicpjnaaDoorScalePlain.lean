/- So many times is so many additions: in plain Lean. -/
import Derived.Test.YtmgecehdicpjnaaDoorSumPlain
import Derived.Test.YtmgecehdicpjnaaDoorScale
namespace Go.Proofs.YtmgecehdicpjnaaDoor
open Go.RowKit

/-- so many times -/
def Am.mul (a : Am) (k : Int) : Am := .of fun i => a.get i * k
theorem Am.mul_get (a : Am) (k : Int) {i : Nat} (hi : i < 4) : (a.mul k).get i = a.get i * k := Am.of_get _ i hi
theorem mul_zero' (a : Am) : a.mul 0 = .zero := Am.ext_get fun i hi => by
  rw [Am.mul_get a 0 hi]
  match i, hi with
  | 0, _ => simp [Am.zero, Am.get]
  | 1, _ => simp [Am.zero, Am.get]
  | 2, _ => simp [Am.zero, Am.get]
  | 3, _ => simp [Am.zero, Am.get]
  | n + 4, h => omega

theorem sumF_times {a : Am} (ha : a.okB = true) : ∀ (m : Nat) (k : Int), 0 ≤ k → (∀ i, i < 4 → a.get i * k ≤ 1099511627776) →
    ((∀ i, i < 4 → a.get i * (k + m) ≤ 1099511627776) → sumF (a.mul k) (List.replicate m a) = (a.mul (k + m), 0)) ∧ ((∃ i, i < 4 ∧ 1099511627776 < a.get i * (k + m)) → sumF (a.mul k) (List.replicate m a) = (.zero, 9))
  | 0, k, hk, h => by
    constructor
    · intro _; simp [sumF]
    · rintro ⟨i, hi, h2⟩
      have := h i hi
      simp at h2
      omega
  | m + 1, k, hk, h => by
    have hko : (a.mul k).okB = true := by
      rw [Am.okB_iff]
      intro i hi
      rw [Am.mul_get a k hi]
      exact ⟨Int.mul_nonneg (ok_get ha hi).1 hk, h i hi⟩
    have hboth : ((a.mul k).okB && a.okB) = true := by rw [hko, ha]; rfl
    have hstep : ∀ i, i < 4 → (a.mul k).get i + a.get i = a.get i * (k + 1) := fun i hi => by rw [Am.mul_get a k hi, Int.mul_add, Int.mul_one]
    have hrep : List.replicate (m + 1) a = a :: List.replicate m a := rfl
    have hcast : k + ((m + 1 : Nat) : Int) = k + 1 + (m : Int) := by push_cast; omega
    rw [hrep, hcast]
    by_cases ho : ∃ i, i < 4 ∧ 1099511627776 < a.get i * (k + 1)
    · obtain ⟨i, hi, h2⟩ := ho
      have e : addR (a.mul k) a = (.zero, 9) := addR_over hboth hi (by rw [hstep i hi]; exact h2)
      have e2 : sumF (a.mul k) (a :: List.replicate m a) = (.zero, 9) := by
        show (if (addR (a.mul k) a).2 = 0 then _ else _) = _
        rw [e]; rfl
      refine ⟨fun hh => ?_, fun _ => e2⟩
      have h3 := hh i hi
      have h4 : a.get i * (k + 1) ≤ a.get i * (k + 1 + (m : Int)) := Int.mul_le_mul_of_nonneg_left (by omega) (ok_get ha hi).1
      omega
    · have ho' : ∀ i, i < 4 → a.get i * (k + 1) ≤ 1099511627776 := fun i hi => by
        by_cases h2 : 1099511627776 < a.get i * (k + 1)
        · exact absurd ⟨i, hi, h2⟩ ho
        · omega
      have e : addR (a.mul k) a = (a.mul (k + 1), 0) := addR_ok hboth (fun i hi => by rw [hstep i hi]; exact ho' i hi) (fun i hi => by rw [Am.mul_get a _ hi, hstep i hi])
      have e2 : sumF (a.mul k) (a :: List.replicate m a) = sumF (a.mul (k + 1)) (List.replicate m a) := by
        show (if (addR (a.mul k) a).2 = 0 then sumF (addR (a.mul k) a).1 _ else _) = _
        rw [e]; rfl
      rw [e2]
      exact sumF_times ha m (k + 1) (by omega) ho'

theorem scale_sum (a : Am) (m : Nat) (hm : 0 < m) : scaleR a (m : Int) = sumR (List.replicate m a) := by
  unfold sumR
  cases ha : a.okB
  · rw [scaleR_bad (.inl ha), if_pos]
    unfold allB
    rw [← Bool.not_eq_true, List.all_eq_true]
    intro hh
    have := hh a (List.mem_replicate.2 ⟨by omega, rfl⟩)
    rw [ha] at this; cases this
  · rw [if_neg (by
      have : allB (List.replicate m a) = true := by unfold allB; rw [List.all_eq_true]; intro x hx; rw [(List.mem_replicate.1 hx).2]; exact ha
      rw [this]; decide)]
    obtain ⟨h1, h2⟩ := sumF_times ha m 0 (Int.le_refl _) (fun i _ => by simp)
    rw [mul_zero' a] at h1 h2
    simp only [Int.zero_add] at h1 h2
    have hmp : (0 : Int) < (m : Int) := by omega
    by_cases ho : ∃ i, i < 4 ∧ 1099511627776 < a.get i * (m : Int)
    · rw [h2 ho]
      obtain ⟨i, hi, h3⟩ := ho
      exact scaleR_over ha hmp hi (Int.lt_of_not_ge fun h4 => by
        have := (Int.le_ediv_iff_mul_le hmp).1 h4
        omega)
    · have ho' : ∀ i, i < 4 → a.get i * (m : Int) ≤ 1099511627776 := fun i hi => by
        by_cases h2 : 1099511627776 < a.get i * (m : Int)
        · exact absurd ⟨i, hi, h2⟩ ho
        · omega
      rw [h1 ho']
      exact scaleR_ok ha (by omega) (fun i hi _ => (Int.le_ediv_iff_mul_le hmp).2 (ho' i hi)) (fun i hi => Am.mul_get a _ hi)
theorem scale_none (a : Am) : (scaleR a 0).1 = .zero ∧ ((scaleR a 0).2 = 0 ↔ a.okB = true) ∧ sumR [] = (.zero, 0) := by
  refine ⟨?_, ?_, rfl⟩
  · cases ha : a.okB
    · rw [scaleR_bad (.inl ha)]
    · rw [scaleR_ok (z := a.mul 0) ha (by omega) (fun _ _ h => by omega) (fun i hi => Am.mul_get a 0 hi), mul_zero']
  · cases ha : a.okB
    · rw [scaleR_bad (.inl ha)]; simp
    · rw [scaleR_ok (z := a.mul 0) ha (by omega) (fun _ _ h => by omega) (fun i hi => Am.mul_get a 0 hi)]; simp

theorem amsC_set (l : List Am) (i : Nat) (hi : i < l.length) (x : Am) : ((((amsC l).set (i * 4) (.int .i64 x.c)).set (i * 4 + 1) (.int .i64 x.r)).set (i * 4 + 2) (.int .i64 x.d)).set (i * 4 + 3) (.int .i64 x.p) = amsC (l.set i x) := by
  induction l generalizing i with
  | nil => simp at hi
  | cons y l ih =>
    cases i with
    | zero => rfl
    | succ i =>
      have := ih i (by simpa using hi)
      simp only [amsC, List.flatMap_cons, List.set_cons_succ] at *
      have e : ∀ (q : Nat) (v : Value) (t : List Value), (amC y ++ t).set (4 + q) v = amC y ++ t.set q v := fun q v t => by
        rw [List.set_append_right _ _ (by simp)]
        simp
      rw [show (i + 1) * 4 = 4 + i * 4 from by omega, show 4 + i * 4 + 1 = 4 + (i * 4 + 1) from by omega, show 4 + i * 4 + 2 = 4 + (i * 4 + 2) from by omega, show 4 + i * 4 + 3 = 4 + (i * 4 + 3) from by omega]
      rw [e, e, e, e, this]
theorem amsC_zero (n : Nat) : ∀ u ∈ amsC (List.replicate n .zero), u = .int .i64 0 := by
  intro u hu
  obtain ⟨x, hx, hu⟩ := List.mem_flatMap.1 hu
  rw [(List.mem_replicate.1 hx).2] at hu
  simp only [List.mem_cons, List.not_mem_nil, or_false] at hu
  rcases hu with rfl | rfl | rfl | rfl <;> rfl
theorem made_zero (j : Nat) (hj : j < 4) : ((Value.agg #[.int .i64 0, .int .i64 0, .int .i64 0, .int .i64 0]).cells)[j]! = Value.int .i64 0 := by
  match j, hj with
  | 0, _ => rfl
  | 1, _ => rfl
  | 2, _ => rfl
  | 3, _ => rfl
  | n + 4, h => omega
theorem amsC_rep (n : Nat) : madeCells (Value.agg #[.int .i64 0, .int .i64 0, .int .i64 0, .int .i64 0]).cells (n * 4) = (amsC (List.replicate n .zero)).toArray := by
  apply Array.ext
  · rw [size_madeCells]; simp [amsC_length]
  · intro i h1 h2
    have e2 := amsC_zero n _ (List.getElem_mem (l := amsC (List.replicate n .zero)) (n := i) (by simpa using h2))
    have e1 : (madeCells (Value.agg #[.int .i64 0, .int .i64 0, .int .i64 0, .int .i64 0]).cells (n * 4))[i] = Value.int .i64 0 := by
      have h3 : (madeCells (Value.agg #[.int .i64 0, .int .i64 0, .int .i64 0, .int .i64 0]).cells (n * 4))[i] = ((Value.agg #[.int .i64 0, .int .i64 0, .int .i64 0, .int .i64 0]).cells)[i % 4]! := by simp [madeCells, Value.cells]
      rw [h3]
      exact made_zero _ (Nat.mod_lt _ (by omega))
    rw [e1]
    simpa using e2.symm
end Go.Proofs.YtmgecehdicpjnaaDoor
