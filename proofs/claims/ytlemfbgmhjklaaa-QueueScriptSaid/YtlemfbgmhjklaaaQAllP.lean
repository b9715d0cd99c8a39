/- The queue, plain: all tasks in the order in which they would be taken. -/
import Derived.Test.YtlemfbgmhjklaaaQMid
namespace Go.Proofs.Ytlemfbgmhjklaaa

def pend0 : Pend := ⟨⟨#[]⟩, 0, ⟨#[]⟩, 0⟩
def headP (M : List MRow) : Pend := (headM M).getD pend0
def headB (M : List MRow) : Bool := (headM M).isSome
def allN : Nat → List MRow → List Pend
  | 0, _ => []
  | n + 1, M => match headM M with
    | none => []
    | some p => p :: allN n (takeM M)
def allM (M : List MRow) : List Pend := allN (flatM M).length M

theorem MI.head {m : MRow} {M : List MRow} (h : MI (m :: M)) : ∃ p tl, m.2 = p :: tl ∧ headM (m :: M) = some p := by
  have := h.ne m List.mem_cons_self
  cases hm : m.2 with
  | nil => exact absurd hm this
  | cons p tl => exact ⟨p, tl, rfl, by show m.2.head? = _; rw [hm]; rfl⟩
theorem flatM_take {M : List MRow} (h : MI M) {p : Pend} (hp : headM M = some p) : (flatM M).Perm (p :: flatM (takeM M)) := by
  match M, h with
  | [], h => simp [headM] at hp
  | m :: M, h =>
    obtain ⟨q, tl, hm, hq⟩ := h.head
    rw [hq] at hp
    cases hp
    show (m.2 ++ flatM M).Perm (p :: flatM (if m.2.tail = [] then M else insM M (m.1, m.2.tail)))
    rw [hm, List.cons_append]
    refine (List.perm_cons p).2 ?_
    split
    · rename_i ht
      have : tl = [] := ht
      rw [this]
      exact List.Perm.refl _
    · have := ((insM_perm M (m.1, tl)).flatMap_right (·.2)).symm
      rw [List.flatMap_cons] at this
      exact this
theorem headM_none {M : List MRow} (h : MI M) (hp : headM M = none) : M = [] := by
  match M, h with
  | [], _ => rfl
  | m :: M, h =>
    obtain ⟨q, tl, -, hq⟩ := h.head
    rw [hq] at hp
    cases hp
theorem allN_succ (n : Nat) (M : List MRow) : allN (n + 1) M = match headM M with | none => [] | some p => p :: allN n (takeM M) := rfl
theorem allN_any : ∀ (n : Nat) (M : List MRow), MI M → (flatM M).length ≤ n → allN n M = allM M
  | 0, M, h, hn => by
    unfold allM
    rw [Nat.le_zero.1 hn]
  | n + 1, M, h, hn => by
    cases hp : headM M with
    | none =>
      have := headM_none h hp
      subst this
      rfl
    | some p =>
      have hl := (flatM_take h hp).length_eq
      rw [List.length_cons] at hl
      unfold allM
      rw [hl, allN_succ, allN_succ, hp]
      simp only []
      rw [allN_any n (takeM M) h.take (by omega)]
      rfl
theorem allM_eq {M : List MRow} (h : MI M) : allM M = if headB M = true then headP M :: allM (takeM M) else [] := by
  unfold headB headP
  cases hp : headM M with
  | none =>
    rw [headM_none h hp]
    rfl
  | some p =>
    have hl := (flatM_take h hp).length_eq
    rw [List.length_cons] at hl
    have : allM M = p :: allN (flatM (takeM M)).length (takeM M) := by
      show allN (flatM M).length M = _
      rw [hl]
      show (match headM M with | none => [] | some p => p :: allN (flatM (takeM M)).length (takeM M)) = _
      rw [hp]
    rw [this]
    rfl
theorem take_len {M : List MRow} (h : MI M) : (flatM (takeM M)).length + (if headB M = true then 1 else 0) = (flatM M).length := by
  unfold headB
  cases hp : headM M with
  | none =>
    rw [headM_none h hp]
    rfl
  | some p =>
    have hl := (flatM_take h hp).length_eq
    rw [List.length_cons] at hl
    simp [hl]
theorem allM_perm : ∀ (n : Nat) (M : List MRow), MI M → (flatM M).length ≤ n → (allM M).Perm (flatM M)
  | 0, M, h, hn => by
    have : flatM M = [] := List.eq_nil_of_length_eq_zero (Nat.le_zero.1 hn)
    rw [this]
    unfold allM
    rw [this]
    exact List.Perm.refl _
  | n + 1, M, h, hn => by
    rw [allM_eq h]
    unfold headB headP
    cases hp : headM M with
    | none =>
      rw [headM_none h hp]
      exact List.Perm.refl _
    | some p =>
      have hl := (flatM_take h hp).length_eq
      rw [List.length_cons] at hl
      simp only [Option.isSome_some, if_true, Option.getD_some]
      exact ((List.perm_cons p).2 (allM_perm n _ h.take (by omega))).trans (flatM_take h hp).symm
theorem allM_len {M : List MRow} (h : MI M) : (allM M).length = (flatM M).length := (allM_perm _ M h (Nat.le_refl _)).length_eq
end Go.Proofs.Ytlemfbgmhjklaaa
