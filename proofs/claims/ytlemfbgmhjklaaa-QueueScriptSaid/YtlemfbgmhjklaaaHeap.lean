/- A binary heap in a list, as container/heap keeps it: plain Lean, no program in sight. -/
namespace Go.Proofs.Ytlemfbgmhjklaaa
namespace Hp
variable {α : Type}

def swap (l : List α) (i j : Nat) : List α :=
  match l[i]?, l[j]? with
  | some x, some y => (l.set i y).set j x
  | _, _ => l

def ltAt (lt : α → α → Bool) (l : List α) (i j : Nat) : Bool :=
  match l[i]?, l[j]? with
  | some x, some y => lt x y
  | _, _ => false

/-- the index that stands where k does, behind the swap -/
def sw (i j k : Nat) : Nat := if k = i then j else if k = j then i else k

theorem length_swap (l : List α) (i j : Nat) : (swap l i j).length = l.length := by
  unfold swap
  split <;> simp

theorem get_swap {l : List α} {i j : Nat} (hi : i < l.length) (hj : j < l.length) (k : Nat) : (swap l i j)[k]? = l[sw i j k]? := by
  unfold swap sw
  rw [List.getElem?_eq_getElem hi, List.getElem?_eq_getElem hj]
  simp only [List.getElem?_set, List.length_set]
  by_cases h1 : j = k
  · subst h1
    by_cases h2 : i = j
    · subst h2; simp [hi]
    · simp [hj, Ne.symm h2, hi]
  · by_cases h2 : i = k
    · subst h2; simp [h1, hi, hj]
    · simp [h1, h2, Ne.symm h1, Ne.symm h2]

theorem ltAt_swap (lt : α → α → Bool) {l : List α} {i j : Nat} (hi : i < l.length) (hj : j < l.length) (a b : Nat) : ltAt lt (swap l i j) a b = ltAt lt l (sw i j a) (sw i j b) := by
  unfold ltAt
  rw [get_swap hi hj, get_swap hi hj]

theorem set_perm (y : α) : ∀ (l : List α) (i : Nat) (x : α), l[i]? = some x → (x :: l.set i y).Perm (y :: l)
  | [], _, _, h => by simp at h
  | z :: l, 0, x, h => by
    simp at h
    subst h
    simpa using List.Perm.swap y z l
  | z :: l, i + 1, x, h => by
    simp at h
    have := set_perm y l i x h
    simp only [List.set_cons_succ]
    refine (List.Perm.swap z x _).trans ?_
    exact ((this.cons z).trans (List.Perm.swap y z l))

theorem swap_perm (l : List α) (i j : Nat) : (swap l i j).Perm l := by
  unfold swap
  split
  · rename_i x y hx hy
    have h1 := set_perm y l i x hx
    have h3 : (l.set i y)[j]? = some y := by
      rw [List.getElem?_set]
      split
      · rename_i h; subst h
        have := (List.getElem?_eq_some_iff.1 hx).1
        simp [this]
      · exact hy
    have h2 := set_perm x (l.set i y) j y h3
    exact (h2.trans h1).cons_inv
  · exact List.Perm.refl _

def up (lt : α → α → Bool) (l : List α) (j : Nat) : List α :=
  if h : j = 0 then l
  else if ltAt lt l j ((j - 1) / 2) then up lt (swap l ((j - 1) / 2) j) ((j - 1) / 2) else l
termination_by j
decreasing_by omega

def pickJ (lt : α → α → Bool) (l : List α) (n i : Nat) : Nat := if 2 * i + 2 < n ∧ ltAt lt l (2 * i + 2) (2 * i + 1) = true then 2 * i + 2 else 2 * i + 1

theorem pickJ_cases (lt : α → α → Bool) (l : List α) (n i : Nat) : pickJ lt l n i = 2 * i + 1 ∨ pickJ lt l n i = 2 * i + 2 := by
  unfold pickJ; split <;> simp

def down (lt : α → α → Bool) (l : List α) (n i : Nat) : List α × Nat :=
  if h : 2 * i + 1 < n then
    if ltAt lt l (pickJ lt l n i) i then down lt (swap l i (pickJ lt l n i)) n (pickJ lt l n i) else (l, i)
  else (l, i)
termination_by n - i
decreasing_by have := pickJ_cases lt l n i; omega

structure Ok (lt : α → α → Bool) : Prop where
  asym : ∀ x y, lt x y = true → lt y x = false
  tr : ∀ x y z, lt y x = false → lt z y = false → lt z x = false

theorem Ok.asymAt {lt : α → α → Bool} (ok : Ok lt) {l : List α} {a b : Nat} (h : ltAt lt l a b = true) : ltAt lt l b a = false := by
  unfold ltAt at *
  split at h
  · rename_i x y hx hy
    rw [hy, hx]
    exact ok.asym _ _ h
  · cases h
theorem Ok.trAt {lt : α → α → Bool} (ok : Ok lt) {l : List α} {a b c : Nat} (hb : b < l.length) (h1 : ltAt lt l b a = false) (h2 : ltAt lt l c b = false) : ltAt lt l c a = false := by
  unfold ltAt at *
  rw [List.getElem?_eq_getElem hb] at h1 h2
  split
  · rename_i x y hx hy
    rw [hy] at h1
    rw [hx] at h2
    exact ok.tr _ _ _ h1 h2
  · rfl
theorem ltAt_self {lt : α → α → Bool} (ok : Ok lt) (l : List α) (a : Nat) : ltAt lt l a a = false := by
  cases h : ltAt lt l a a
  · rfl
  · exact (by rw [ok.asymAt h] at h; cases h)

def IsH (lt : α → α → Bool) (l : List α) (n : Nat) : Prop := ∀ i, 0 < i → i < n → ltAt lt l i ((i - 1) / 2) = false

def U (lt : α → α → Bool) (l : List α) (n j : Nat) : Prop :=
  (∀ i, 0 < i → i < n → i ≠ j → ltAt lt l i ((i - 1) / 2) = false) ∧ (∀ i, 0 < i → i < n → (i - 1) / 2 = j → 0 < j → ltAt lt l i ((j - 1) / 2) = false)

theorem length_up (lt : α → α → Bool) (l : List α) (j : Nat) : (up lt l j).length = l.length := by
  induction j using Nat.strongRecOn generalizing l with
  | _ j ih =>
    rw [up]
    split
    · rfl
    · split
      · rw [ih _ (by omega), length_swap]
      · rfl

theorem up_perm (lt : α → α → Bool) (l : List α) (j : Nat) : (up lt l j).Perm l := by
  induction j using Nat.strongRecOn generalizing l with
  | _ j ih =>
    rw [up]
    split
    · exact List.Perm.refl _
    · split
      · exact (ih _ (by omega) _).trans (swap_perm _ _ _)
      · exact List.Perm.refl _

/-- 'up' turns nothing behind its place -/
theorem up_behind (lt : α → α → Bool) (l : List α) (j k : Nat) (hj : j < l.length) (hk : j < k) : (up lt l j)[k]? = l[k]? := by
  induction j using Nat.strongRecOn generalizing l with
  | _ j ih =>
    rw [up]
    split
    · rfl
    · split
      · rw [ih _ (by omega) _ (by rw [length_swap]; omega) (by omega), get_swap (by omega) hj]
        unfold sw
        rw [if_neg (by omega), if_neg (by omega)]
      · rfl

theorem up_heap {lt : α → α → Bool} (ok : Ok lt) {n : Nat} (l : List α) (j : Nat) (hn : n ≤ l.length) (hj : j < n) (hU : U lt l n j) : IsH lt (up lt l j) n := by
  induction j using Nat.strongRecOn generalizing l with
  | _ j ih =>
    rw [up]
    split
    · intro i h0 h1
      exact hU.1 i h0 h1 (by omega)
    · rename_i h0
      split
      · rename_i hlt
        have hi : (j - 1) / 2 < l.length := by omega
        have hjl : j < l.length := by omega
        refine ih _ (by omega) _ (by rw [length_swap]; exact hn) (by omega) ⟨fun i a1 a2 a3 => ?_, fun i a1 a2 a3 a4 => ?_⟩
        · rw [ltAt_swap lt hi hjl]
          unfold sw
          rw [if_neg a3]
          by_cases hij : i = j
          · subst hij
            rw [if_pos rfl, if_pos rfl]
            exact ok.asymAt hlt
          · rw [if_neg hij]
            by_cases hp : (i - 1) / 2 = (j - 1) / 2
            · rw [if_pos hp]
              have e1 := hU.1 i a1 a2 hij
              rw [hp] at e1
              exact ok.trAt hi (ok.asymAt hlt) e1
            · rw [if_neg hp]
              by_cases hp2 : (i - 1) / 2 = j
              · rw [if_pos hp2]
                exact hU.2 i a1 a2 hp2 (by omega)
              · rw [if_neg hp2]
                exact hU.1 i a1 a2 hij
        · rw [ltAt_swap lt hi hjl]
          have e0 := hU.1 ((j - 1) / 2) a4 (by omega) (by omega)
          have e2 : sw ((j - 1) / 2) j (((j - 1) / 2 - 1) / 2) = ((j - 1) / 2 - 1) / 2 := by
            unfold sw
            rw [if_neg (by omega), if_neg (by omega)]
          rw [e2]
          unfold sw
          rw [if_neg (by omega)]
          by_cases hij : i = j
          · rw [if_pos hij]
            exact e0
          · rw [if_neg hij]
            have e1 := hU.1 i a1 a2 hij
            rw [a3] at e1
            exact ok.trAt hi e0 e1
      · rename_i hlt
        intro i a1 a2
        by_cases hij : i = j
        · subst hij; simpa using hlt
        · exact hU.1 i a1 a2 hij

def D (lt : α → α → Bool) (l : List α) (n i : Nat) : Prop :=
  (∀ k, 0 < k → k < n → (k - 1) / 2 ≠ i → ltAt lt l k ((k - 1) / 2) = false) ∧ (∀ k, 0 < k → k < n → (k - 1) / 2 = i → 0 < i → ltAt lt l k ((i - 1) / 2) = false)

theorem length_down (lt : α → α → Bool) (l : List α) (n i : Nat) : (down lt l n i).1.length = l.length := by
  fun_induction down lt l n i with
  | case1 l i h h2 ih => rw [ih, length_swap]
  | case2 => rfl
  | case3 => rfl

theorem down_perm (lt : α → α → Bool) (l : List α) (n i : Nat) : (down lt l n i).1.Perm l := by
  fun_induction down lt l n i with
  | case1 l i h h2 ih => exact ih.trans (swap_perm _ _ _)
  | case2 => exact List.Perm.refl _
  | case3 => exact List.Perm.refl _

theorem down_ge (lt : α → α → Bool) (l : List α) (n i : Nat) : i ≤ (down lt l n i).2 := by
  fun_induction down lt l n i with
  | case1 l i h h2 ih => have := pickJ_cases lt l n i; omega
  | case2 => exact Nat.le_refl _
  | case3 => exact Nat.le_refl _

theorem pickJ_lt (lt : α → α → Bool) (l : List α) {n i : Nat} (h : 2 * i + 1 < n) : pickJ lt l n i < n := by
  unfold pickJ; split
  · rename_i h2; exact h2.1
  · exact h

/-- 'down' turns nothing at n or behind -/
theorem down_behind (lt : α → α → Bool) (l : List α) (n i k : Nat) (hn : n ≤ l.length) (hk : n ≤ k) : (down lt l n i).1[k]? = l[k]? := by
  fun_induction down lt l n i with
  | case1 l i h h2 ih =>
    have h3 := pickJ_lt lt l h
    rw [ih (by rw [length_swap]; exact hn), get_swap (by omega) (by omega)]
    unfold sw
    rw [if_neg (by omega), if_neg (by omega)]
  | case2 => rfl
  | case3 => rfl

/-- it has not moved: nothing has turned, and the place is no worse than those under it -/
theorem down_still (lt : α → α → Bool) (l : List α) (n i : Nat) (h : (down lt l n i).2 ≤ i) : (down lt l n i).1 = l := by
  rw [down] at h ⊢
  split
  · rename_i h1
    rw [dif_pos h1] at h
    split
    · rename_i h2
      rw [if_pos h2] at h
      have := down_ge lt (swap l i (pickJ lt l n i)) n (pickJ lt l n i)
      have := pickJ_cases lt l n i
      omega
    · rfl
  · rfl

theorem pickJ_least {lt : α → α → Bool} (ok : Ok lt) {l : List α} {n i : Nat} {k : Nat} (h0 : 0 < k) (h1 : k < n) (h2 : (k - 1) / 2 = i) : ltAt lt l k (pickJ lt l n i) = false := by
  unfold pickJ
  have hk : k = 2 * i + 1 ∨ k = 2 * i + 2 := by omega
  split
  · rename_i h
    rcases hk with rfl | rfl
    · exact ok.asymAt h.2
    · exact ltAt_self ok l _
  · rename_i h
    rcases hk with rfl | rfl
    · exact ltAt_self ok l _
    · cases hh : ltAt lt l (2 * i + 2) (2 * i + 1)
      · rfl
      · exact absurd ⟨h1, hh⟩ h

theorem down_heap {lt : α → α → Bool} (ok : Ok lt) (l : List α) (n i : Nat) (hn : n ≤ l.length) (hi : i < n) (hD : D lt l n i) : IsH lt (down lt l n i).1 n := by
  fun_induction down lt l n i with
  | case1 l i h h2 ih =>
    have hc := pickJ_cases lt l n i
    have hj := pickJ_lt lt l h
    have hil : i < l.length := by omega
    have hjl : pickJ lt l n i < l.length := by omega
    have hpj : (pickJ lt l n i - 1) / 2 = i := by omega
    have hle := fun k => pickJ_least ok (l := l) (n := n) (i := i) (k := k)
    generalize pickJ lt l n i = j at *
    refine ih (by rw [length_swap]; exact hn) hj ⟨fun k a1 a2 a3 => ?_, fun k a1 a2 a3 a4 => ?_⟩
    · rw [ltAt_swap lt hil hjl]
      unfold sw
      by_cases hki : k = i
      · subst hki
        rw [if_pos rfl, if_neg (by omega), if_neg a3]
        exact hD.2 j (by omega) hj hpj (by omega)
      · rw [if_neg hki]
        by_cases hkj : k = j
        · subst hkj
          rw [if_pos rfl, if_pos hpj]
          exact ok.asymAt h2
        · rw [if_neg hkj]
          by_cases hp : (k - 1) / 2 = i
          · rw [if_pos hp]
            exact hle k a1 a2 hp
          · rw [if_neg hp, if_neg a3]
            exact hD.1 k a1 a2 hp
    · rw [ltAt_swap lt hil hjl]
      unfold sw
      rw [if_neg (show ¬ k = i by omega), if_neg (show ¬ k = j by omega), if_pos hpj]
      have := hD.1 k a1 a2 (by omega)
      rw [a3] at this
      exact this
  | case2 l i h h2 =>
    intro k a1 a2
    show ltAt lt l k ((k - 1) / 2) = false
    have hj := pickJ_lt lt l h
    by_cases hp : (k - 1) / 2 = i
    · rw [hp]
      exact ok.trAt (b := pickJ lt l n i) (by omega) (by simpa using h2) (pickJ_least ok a1 a2 hp)
    · exact hD.1 k a1 a2 hp
  | case3 l i h =>
    intro k a1 a2
    exact hD.1 k a1 a2 (by omega)

/-! ### the three calls -/

def push (lt : α → α → Bool) (l : List α) (x : α) : List α := up lt (l ++ [x]) l.length

theorem ltAt_append (lt : α → α → Bool) (l r : List α) {a b : Nat} (ha : a < l.length) (hb : b < l.length) : ltAt lt (l ++ r) a b = ltAt lt l a b := by
  unfold ltAt
  rw [List.getElem?_append_left ha, List.getElem?_append_left hb]
theorem ltAt_take (lt : α → α → Bool) (l : List α) {n a b : Nat} (ha : a < n) (hb : b < n) : ltAt lt (l.take n) a b = ltAt lt l a b := by
  unfold ltAt
  rw [List.getElem?_take, List.getElem?_take, if_pos ha, if_pos hb]

theorem length_push (lt : α → α → Bool) (l : List α) (x : α) : (push lt l x).length = l.length + 1 := by
  unfold push; rw [length_up]; simp
theorem push_perm (lt : α → α → Bool) (l : List α) (x : α) : (push lt l x).Perm (x :: l) := by
  unfold push
  exact (up_perm lt _ _).trans (List.perm_append_comm (l₁ := l) (l₂ := [x]))
theorem push_heap {lt : α → α → Bool} (ok : Ok lt) {l : List α} (h : IsH lt l l.length) (x : α) : IsH lt (push lt l x) (push lt l x).length := by
  rw [length_push]
  refine up_heap ok _ _ (by simp) (by omega) ⟨fun i a1 a2 a3 => ?_, fun i a1 a2 a3 a4 => ?_⟩
  · rw [ltAt_append _ _ _ (by omega) (by omega)]
    exact h i a1 (by omega)
  · omega

/-- the list behind Remove(i), and what it hands back -/
def removeL (lt : α → α → Bool) (l : List α) (i : Nat) : List α :=
  if l.length - 1 = i then l
  else if (down lt (swap l i (l.length - 1)) (l.length - 1) i).2 ≤ i then up lt (down lt (swap l i (l.length - 1)) (l.length - 1) i).1 i
  else (down lt (swap l i (l.length - 1)) (l.length - 1) i).1

theorem length_removeL (lt : α → α → Bool) (l : List α) (i : Nat) : (removeL lt l i).length = l.length := by
  unfold removeL
  split
  · rfl
  · split <;> simp [length_up, length_down, length_swap]
theorem removeL_perm (lt : α → α → Bool) (l : List α) (i : Nat) : (removeL lt l i).Perm l := by
  unfold removeL
  split
  · exact List.Perm.refl _
  · split
    · exact (up_perm _ _ _).trans ((down_perm _ _ _ _).trans (swap_perm _ _ _))
    · exact (down_perm _ _ _ _).trans (swap_perm _ _ _)
theorem removeL_last (lt : α → α → Bool) (l : List α) (i : Nat) (hi : i < l.length) : (removeL lt l i)[l.length - 1]? = l[i]? := by
  have e : (swap l i (l.length - 1))[l.length - 1]? = l[i]? := by
    rw [get_swap hi (by omega)]
    unfold sw
    split
    · rename_i h; rw [h]
    · rw [if_pos rfl]
  unfold removeL
  split
  · rename_i h; rw [h]
  · split
    · rw [up_behind _ _ _ _ (by simp [length_down, length_swap]; omega) (by omega), down_behind _ _ _ _ _ (by rw [length_swap]; omega) (Nat.le_refl _), e]
    · rw [down_behind _ _ _ _ _ (by rw [length_swap]; omega) (Nat.le_refl _), e]

theorem removeL_heap {lt : α → α → Bool} (ok : Ok lt) {l : List α} (h : IsH lt l l.length) {i : Nat} (hi : i < l.length) : IsH lt (removeL lt l i) (l.length - 1) := by
  unfold removeL
  split
  · exact fun k a1 a2 => h k a1 (by omega)
  · rename_i hne
    have hm : l.length - 1 < l.length := by omega
    generalize hn : l.length - 1 = n at *
    have hs : ∀ a b, a < n → b < n → a ≠ i → b ≠ i → ltAt lt (swap l i n) a b = ltAt lt l a b := fun a b a1 b1 a2 b2 => by
      rw [ltAt_swap lt hi hm]
      unfold sw
      rw [if_neg a2, if_neg b2, if_neg (by omega), if_neg (by omega)]
    have hA : ∀ k, 0 < k → k < n → k ≠ i → (k - 1) / 2 ≠ i → ltAt lt (swap l i n) k ((k - 1) / 2) = false := fun k a1 a2 a3 a4 => by
      rw [hs _ _ a2 (by omega) a3 a4]
      exact h k a1 (by omega)
    have hB : ∀ k, 0 < k → k < n → (k - 1) / 2 = i → 0 < i → ltAt lt (swap l i n) k ((i - 1) / 2) = false := fun k a1 a2 a3 a4 => by
      rw [hs _ _ a2 (by omega) (by omega) (by omega)]
      have e1 := h k a1 (by omega)
      rw [a3] at e1
      exact ok.trAt hi (h i a4 hi) e1
    have hl : n ≤ (swap l i n).length := by rw [length_swap]; omega
    split
    · rename_i hst
      rw [down_still _ _ _ _ hst]
      refine up_heap ok _ _ hl (by omega) ⟨fun k a1 a2 a3 => ?_, hB⟩
      by_cases hp : (k - 1) / 2 = i
      · rw [hp]
        rw [down] at hst
        rw [dif_pos (by omega)] at hst
        split at hst
        · rename_i h2
          have := down_ge lt (swap (swap l i n) i (pickJ lt (swap l i n) n i)) n (pickJ lt (swap l i n) n i)
          have := pickJ_cases lt (swap l i n) n i
          omega
        · rename_i h2
          have hj := pickJ_lt lt (swap l i n) (n := n) (i := i) (by omega)
          exact ok.trAt (by omega) (by simpa using h2) (pickJ_least ok a1 a2 hp)
      · exact hA k a1 a2 a3 hp
    · rename_i hst
      refine down_heap ok _ _ _ hl (by omega) ⟨fun k a1 a2 a3 => ?_, hB⟩
      by_cases hk : k = i
      · subst hk
        rw [down] at hst
        split at hst
        · rename_i h1
          split at hst
          · rename_i h2
            have hc := pickJ_cases lt (swap l k n) n k
            have hj := pickJ_lt lt (swap l k n) h1
            exact ok.trAt (b := pickJ lt (swap l k n) n k) (by omega) (hB _ (by omega) hj (by omega) a1) (ok.asymAt h2)
          · simp at hst
        · simp at hst
      · exact hA k a1 a2 hk a3

def remove (lt : α → α → Bool) (l : List α) (i : Nat) : List α := (removeL lt l i).take (l.length - 1)

theorem remove_perm (lt : α → α → Bool) (l : List α) (i : Nat) (x : α) (hi : l[i]? = some x) : l.Perm (x :: remove lt l i) := by
  have hl := (List.getElem?_eq_some_iff.1 hi).1
  have e := removeL_last lt l i hl
  rw [hi] at e
  have h1 := (List.getElem?_eq_some_iff.1 e).1
  have h2 := (List.getElem?_eq_some_iff.1 e).2
  have : removeL lt l i = remove lt l i ++ [x] := by
    have h3 := length_removeL lt l i
    unfold remove
    rw [← h2, ← List.take_succ_eq_append_getElem h1, List.take_of_length_le (by omega)]
  have hp := removeL_perm lt l i
  rw [this] at hp
  exact hp.symm.trans (List.perm_append_comm (l₁ := remove lt l i) (l₂ := [x]))

theorem remove_heap {lt : α → α → Bool} (ok : Ok lt) {l : List α} (h : IsH lt l l.length) {i : Nat} (hi : i < l.length) : IsH lt (remove lt l i) (remove lt l i).length := by
  have hlen : (remove lt l i).length = l.length - 1 := by unfold remove; rw [List.length_take, length_removeL]; omega
  rw [hlen]
  intro k a1 a2
  unfold remove
  rw [ltAt_take _ _ a2 (by omega)]
  exact removeL_heap ok h hi k a1 a2

/-- the first is no worse than any -/
theorem heap_first {lt : α → α → Bool} (ok : Ok lt) {l : List α} (h : IsH lt l l.length) (k : Nat) (hk : k < l.length) : ltAt lt l k 0 = false := by
  induction k using Nat.strongRecOn with
  | _ k ih =>
    by_cases h0 : k = 0
    · subst h0; exact ltAt_self ok l 0
    · exact ok.trAt (b := (k - 1) / 2) (by omega) (ih _ (by omega) (by omega)) (h k (by omega) hk)
end Hp
end Go.Proofs.Ytlemfbgmhjklaaa
