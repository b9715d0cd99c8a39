/- Sums over the rows of a keyed list that have come up. -/
import Derived.Test.YtmgbailpmcggiaaKl
namespace Go.Proofs.Ytmgbailpmcggiaa
open Go.RowKit

section
variable {α : Type} (key : α → List UInt8) (f : α → Int)
def ksum (L : List α) : Int := (L.map f).sum
def kdone (left : Lit → Bool) (L : List α) : Int := (L.map fun e => if left (.string (key e)) then 0 else f e).sum
end
section
variable {α : Type} {key : α → List UInt8} {f : α → Int}
theorem ksum_cons (e : α) (L : List α) : ksum f (e :: L) = f e + ksum f L := by simp [ksum]
theorem kdone_cons (left : Lit → Bool) (e : α) (L : List α) : kdone key f left (e :: L) = (if left (.string (key e)) then 0 else f e) + kdone key f left L := by simp [kdone]
theorem kdone_start {L : List α} {left : Lit → Bool} (h : ∀ e ∈ L, left (.string (key e)) = true) : kdone key f left L = 0 := by
  induction L with
  | nil => rfl
  | cons e L ih => rw [kdone_cons, ih (fun x hx => h x (by simp [hx])), h e (by simp)]; rfl
theorem kdone_end {L : List α} {left : Lit → Bool} (h : ∀ s, left (.string s) = false) : kdone key f left L = ksum f L := by
  induction L with
  | nil => rfl
  | cons e L ih => rw [kdone_cons, ih, h, ksum_cons]; rfl
theorem kdone_congr {left left' : Lit → Bool} {L : List α} (h : ∀ e ∈ L, left (.string (key e)) = left' (.string (key e))) : kdone key f left L = kdone key f left' L := by
  unfold kdone
  congr 1
  exact List.map_congr_left fun e he => by rw [h e he]
theorem kdone_step {L : List α} {left : Lit → Bool} (hd : KApart key L) {e : α} (he : e ∈ L) (hl : left (.string (key e)) = true) :
    kdone key f (fun z => left z && !z.sameKey (.string (key e))) L = kdone key f left L + f e := by
  induction L with
  | nil => cases he
  | cons y L ih =>
    unfold KApart at hd
    rw [List.pairwise_cons] at hd
    rw [kdone_cons, kdone_cons]
    rcases List.mem_cons.1 he with rfl | h
    · have h1 : kdone key f (fun z => left z && !z.sameKey (.string (key e))) L = kdone key f left L := kdone_congr fun x hx => by
        have : (key x == key e) = false := by
          have := hd.1 x hx
          simp only [beq_eq_false_iff_ne, ne_eq]
          exact fun h => this h.symm
        show (left (.string (key x)) && !(key x == key e)) = _
        rw [this]; simp
      rw [h1]
      show (if (left (.string (key e)) && !(key e == key e)) = true then 0 else f e) + _ = (if left (.string (key e)) = true then 0 else f e) + _ + f e
      rw [hl]
      simp
      omega
    · have h2 : (key y == key e) = false := by simpa using hd.1 e h
      rw [ih hd.2 h]
      show (if (left (.string (key y)) && !(key y == key e)) = true then 0 else f y) + _ = _
      rw [h2]
      simp only [Bool.not_false, Bool.and_true]
      omega
theorem ksum_nonneg {L : List α} (h : ∀ e ∈ L, 0 ≤ f e) : 0 ≤ ksum f L := by
  induction L with
  | nil => exact Int.le_refl _
  | cons e L ih =>
    rw [ksum_cons]
    have := h e (by simp)
    have := ih (fun x hx => h x (by simp [hx]))
    omega
theorem kdone_bd {L : List α} (left : Lit → Bool) (h : ∀ e ∈ L, 0 ≤ f e) : 0 ≤ kdone key f left L ∧ kdone key f left L ≤ ksum f L := by
  induction L with
  | nil => exact ⟨Int.le_refl _, Int.le_refl _⟩
  | cons e L ih =>
    rw [kdone_cons, ksum_cons]
    have h1 := h e (by simp)
    have h2 := ih (fun x hx => h x (by simp [hx]))
    split <;> omega
theorem ksum_mem {L : List α} (h : ∀ e ∈ L, 0 ≤ f e) {e : α} (he : e ∈ L) : f e ≤ ksum f L := by
  induction L with
  | nil => cases he
  | cons y L ih =>
    rw [ksum_cons]
    have h1 := h y (by simp)
    rcases List.mem_cons.1 he with rfl | he
    · have := ksum_nonneg (f := f) (L := L) (fun x hx => h x (by simp [hx]))
      omega
    · have := ih (fun x hx => h x (by simp [hx])) he
      omega
theorem ksum_ins (x : α) : ∀ L : List α, ksum f (kins key x L) = f x + ksum f L
  | [] => by simp [kins, ksum]
  | y :: L => by
    unfold kins
    split
    · rw [ksum_cons]
    · rw [ksum_cons, ksum_ins x L, ksum_cons]; omega
theorem ksum_rem {L : List α} (hd : KApart key L) {e : α} (he : e ∈ L) : ksum f (krem key L (key e)) = ksum f L - f e := by
  induction L with
  | nil => cases he
  | cons y L ih =>
    unfold KApart at hd
    rw [List.pairwise_cons] at hd
    unfold krem at *
    simp only [List.filter_cons]
    rcases List.mem_cons.1 he with rfl | h
    · have h1 : L.filter (fun x => !(key x == key e)) = L := by
        rw [List.filter_eq_self]
        intro x hx
        have := hd.1 x hx
        simp only [Bool.not_eq_true', beq_eq_false_iff_ne, ne_eq]
        exact fun h => this h.symm
      simp only [beq_self_eq_true, Bool.not_true, Bool.false_eq_true, if_false, h1, ksum_cons]
      omega
    · have h2 : (key y == key e) = false := by simpa using hd.1 e h
      simp only [h2, Bool.not_false, if_true, ksum_cons, ih hd.2 h]
      omega
theorem ksum_map {β : Type} (g : β → α) (L : List β) : ksum f (L.map g) = ksum (fun x => f (g x)) L := by
  unfold ksum
  rw [List.map_map]; rfl
end
end Go.Proofs.Ytmgbailpmcggiaa
