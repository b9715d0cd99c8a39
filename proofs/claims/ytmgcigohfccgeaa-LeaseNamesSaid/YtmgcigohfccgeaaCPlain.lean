/- What the clock's functions compute, in plain Lean: no program in sight. -/
namespace Go.Proofs.Ytmgcigohfccgeaa
namespace Clk

/-- how much a clock's step is too far from 1000 g -/
def sumL (l : List Int) : Int := l.foldl (· + ·) 0
theorem foldl_add (l : List Int) (a : Int) : l.foldl (· + ·) a = a + l.foldl (· + ·) 0 := by
  induction l generalizing a with
  | nil => simp
  | cons x l ih => simp only [List.foldl_cons]; rw [ih (a + x), ih (0 + x)]; omega
theorem sumL_cons (x : Int) (l : List Int) : sumL (x :: l) = x + sumL l := by
  unfold sumL; simp only [List.foldl_cons]; rw [foldl_add]; omega
theorem sumL_nil : sumL [] = 0 := rfl
theorem sumL_append (a b : List Int) : sumL (a ++ b) = sumL a + sumL b := by
  induction a with
  | nil => simp [sumL_nil]
  | cons x a ih => simp only [List.cons_append, sumL_cons, ih]; omega

/-- every part of a course keeps to the drift -/
def keepsAll (own : List Int) (d : Int) : Prop :=
  ∀ i g, 0 < g → i + g ≤ own.length → -2000 ≤ 1000 * sumL ((own.drop i).take g) - g * (1000 - d) ∧ 1000 * sumL ((own.drop i).take g) - g * (1000 + d) ≤ 2000

/-- the program's one pass: low, high, the greatest low and the least high so far -/
def pass (d : Int) : List Int → Int → Int → Int → Int → Bool
  | [], _, _, _, _ => true
  | n :: r, low, high, ml, lh =>
    let low' := low + (1000 * n - (1000 - d))
    let high' := high + (1000 * n - (1000 + d))
    if 2000 < ml - low' ∨ 2000 < high' - lh then false else pass d r low' high' (max ml low') (min lh high')

theorem take_succ_sum (l : List Int) (g : Nat) (h : g < l.length) : sumL (l.take (g + 1)) = sumL (l.take g) + l[g] := by
  rw [List.take_succ_eq_append_getElem h, sumL_append]; simp [sumL_cons, sumL_nil]

/-- a part of what is ahead, from here -/
def headOk (r : List Int) (d low high ml lh : Int) : Prop :=
  ∀ g, 0 < g → g ≤ r.length → ml - 2000 ≤ low + (1000 * sumL (r.take g) - g * (1000 - d)) ∧ high + (1000 * sumL (r.take g) - g * (1000 + d)) ≤ lh + 2000

theorem keepsAll_tail {x : Int} {r : List Int} {d : Int} : keepsAll (x :: r) d ↔ (∀ g, 0 < g → g ≤ r.length + 1 → -2000 ≤ 1000 * sumL ((x :: r).take g) - g * (1000 - d) ∧ 1000 * sumL ((x :: r).take g) - g * (1000 + d) ≤ 2000) ∧ keepsAll r d := by
  constructor
  · intro h
    refine ⟨fun g h0 h1 => ?_, fun i g h0 h1 => ?_⟩
    · have := h 0 g h0 (by simpa using h1)
      simpa using this
    · have := h (i + 1) g h0 (by simp; omega)
      simpa using this
  · rintro ⟨h1, h2⟩ i g h0 hi
    cases i with
    | zero =>
      have := h1 g h0 (by simpa using hi)
      simpa using this
    | succ i =>
      have := h2 i g h0 (by simp at hi; omega)
      simpa using this

theorem mul_succ' (g : Nat) (a : Int) : ((g + 1 : Nat) : Int) * a = g * a + a := by
  rw [Int.natCast_add, Int.add_mul]; simp

theorem pass_iff (d : Int) : ∀ (r : List Int) (low high ml lh : Int), low ≤ ml → lh ≤ high → (pass d r low high ml lh = true ↔ headOk r d low high ml lh ∧ keepsAll r d)
  | [], low, high, ml, lh, _, _ => by
    simp only [pass, true_iff]
    exact ⟨fun g h0 h1 => by simp at h1; omega, fun i g h0 h1 => by simp at h1; omega⟩
  | n :: r, low, high, ml, lh, hl, hh => by
    simp only [pass]
    have hd : ∀ g : Nat, sumL ((n :: r).take (g + 1)) = n + sumL (r.take g) := fun g => by rw [List.take_succ_cons, sumL_cons]
    by_cases hc : 2000 < ml - (low + (1000 * n - (1000 - d))) ∨ 2000 < high + (1000 * n - (1000 + d)) - lh
    · rw [if_pos hc]
      constructor
      · intro h; cases h
      · rintro ⟨h1, -⟩
        have := h1 1 (by omega) (by simp)
        have h2 := hd 0
        simp only [List.take_zero, sumL_nil, Nat.zero_add] at h2
        rw [h2] at this
        omega
    · rw [if_neg hc, pass_iff d r _ _ _ _ (by omega) (by omega), keepsAll_tail]
      constructor
      · rintro ⟨h1, h2⟩
        refine ⟨fun g h0 hg => ?_, fun g h0 hg => ?_, h2⟩
        · obtain ⟨k, rfl⟩ : ∃ k, g = k + 1 := ⟨g - 1, by omega⟩
          rw [hd, mul_succ', mul_succ']
          by_cases hk : k = 0
          · subst hk; simp only [List.take_zero, sumL_nil]; simp; omega
          · have := h1 k (by omega) (by simp at hg; omega)
            omega
        · obtain ⟨k, rfl⟩ : ∃ k, g = k + 1 := ⟨g - 1, by omega⟩
          rw [hd, mul_succ', mul_succ']
          by_cases hk : k = 0
          · subst hk; simp only [List.take_zero, sumL_nil]; simp; omega
          · have := h1 k (by omega) (by omega)
            omega
      · rintro ⟨h1, h3, h2⟩
        refine ⟨fun g h0 hg => ?_, h2⟩
        have a1 := h1 (g + 1) (by omega) (by simp; omega)
        have a2 := h2 0 g h0 (by omega)
        simp only [List.drop_zero] at a2
        rw [hd, mul_succ', mul_succ'] at a1
        simp only [Int.max_def, Int.min_def]
        split <;> split <;> omega

/-- what Keeps says of one clock -/
theorem pass_keeps (own : List Int) (d : Int) : pass d own 0 0 0 0 = true ↔ keepsAll own d := by
  rw [pass_iff d own 0 0 0 0 (by omega) (by omega)]
  constructor
  · exact fun h => h.2
  · intro h
    refine ⟨fun g h0 hg => ?_, h⟩
    have := h 0 g h0 (by simpa using hg)
    simp only [List.drop_zero] at this
    omega

/-- the wait -/
def wait (lease d : Int) : Int := 2 + ((lease + 2) * (1000 + d) + (1000 - d) - 1) / (1000 - d)

theorem wait_spec {lease d : Int} (h2 : 0 ≤ d) (h3 : d ≤ 500) : (lease + 2) * (1000 + d) ≤ (wait lease d - 2) * (1000 - d) := by
  unfold wait
  have hp : 0 < 1000 - d := by omega
  generalize (lease + 2) * (1000 + d) = u
  have h := Int.mul_ediv_add_emod (u + (1000 - d) - 1) (1000 - d)
  have h4 := Int.emod_lt_of_pos (u + (1000 - d) - 1) hp
  have e : (2 + (u + (1000 - d) - 1) / (1000 - d) - 2) * (1000 - d) = (1000 - d) * ((u + (1000 - d) - 1) / (1000 - d)) := by
    rw [Int.mul_comm]; congr 1; omega
  rw [e]
  omega

/-- the least m with the spec: what the document's search finds -/
theorem wait_least {lease d m : Int} (h2 : 0 ≤ d) (h3 : d ≤ 500) (h : (lease + 2) * (1000 + d) ≤ (m - 2) * (1000 - d)) : wait lease d ≤ m := by
  unfold wait
  have hp : 0 < 1000 - d := by omega
  have : ((lease + 2) * (1000 + d) + (1000 - d) - 1) / (1000 - d) ≤ m - 2 := by
    apply Int.le_of_lt_add_one
    apply Int.ediv_lt_of_lt_mul hp
    have e : (m - 2 + 1) * (1000 - d) = (m - 2) * (1000 - d) + (1000 - d) := by rw [Int.add_mul]; omega
    rw [e]
    omega
  omega

/-- who has waited by one clock knows that the lease is over by the other -/
theorem lease_over {lease d S0 S1 w : Int} {g : Nat} (h2 : 0 ≤ d) (h3 : d ≤ 500) (hw : w = wait lease d) (hs : w ≤ S0)
    (ha : 1000 * S0 - g * (1000 + d) ≤ 2000) (hb : -2000 ≤ 1000 * S1 - g * (1000 - d)) : lease ≤ S1 := by
  have hsp := wait_spec (lease := lease) h2 h3
  rw [← hw] at hsp
  have e1 : 1000 * (w - 2) ≤ (g : Int) * (1000 + d) := by omega
  have hp : 0 < 1000 + d := by omega
  have e2 : 1000 * ((w - 2) * (1000 - d)) ≤ ((g : Int) * (1000 - d)) * (1000 + d) := by
    have := Int.mul_le_mul_of_nonneg_right e1 (show 0 ≤ 1000 - d by omega)
    have x1 : 1000 * (w - 2) * (1000 - d) = 1000 * ((w - 2) * (1000 - d)) := Int.mul_assoc _ _ _
    have x2 : (g : Int) * (1000 + d) * (1000 - d) = ((g : Int) * (1000 - d)) * (1000 + d) := by rw [Int.mul_assoc, Int.mul_comm (1000 + d), ← Int.mul_assoc]
    omega
  have e3 : (1000 * (lease + 2)) * (1000 + d) ≤ ((g : Int) * (1000 - d)) * (1000 + d) := by
    have x1 : (1000 * (lease + 2)) * (1000 + d) = 1000 * ((lease + 2) * (1000 + d)) := Int.mul_assoc _ _ _
    omega
  have e4 := Int.le_of_mul_le_mul_right e3 hp
  omega

end Clk
end Go.Proofs.Ytmgcigohfccgeaa
