/- RdNames, RdHoldP. -/
import Derived.Test.YtdemkfhkibmbnaaGreatDoorM26
import Derived.Lib.SlicesCompact
namespace Go.Proofs.YtdemkfhkibmbnaaGreatDoor.Ru
theorem lt_less : ∀ a b : List UInt8, Op.bytesLess a b = decide (a < b)
 | [], [] => by simp [Op.bytesLess]
 | [], _ :: _ => by simp [Op.bytesLess]
 | _ :: _, [] => by simp [Op.bytesLess]
 | x :: a, y :: b => by
  have h := lt_less a b
  unfold Op.bytesLess
  rw [h]; rw [Bool.eq_iff_iff]; simp only [Bool.or_eq_true, decide_eq_true_eq, Bool.and_eq_true, beq_iff_eq, List.cons_lt_cons_iff]
theorem lt_irr (a : List UInt8) : ¬ a < a := List.lt_irrefl a
theorem lt_tri (a b : List UInt8) : a < b ∨ a = b ∨ b < a := by
 rcases List.le_total a b with h | h
 ·by_cases e : a = b
  ·exact .inr (.inl e)
  ·left
   rcases Classical.em (a < b) with g | g
   ·exact g
   ·exact absurd (List.le_antisymm h (List.not_lt.1 g)) e
 ·by_cases e : a = b
  ·exact .inr (.inl e)
  ·right; right
   rcases Classical.em (b < a) with g | g
   ·exact g
   ·exact absurd (List.le_antisymm (List.not_lt.1 g) h) e
end Go.Proofs.YtdemkfhkibmbnaaGreatDoor.Ru
namespace Go.Proofs.YtdemkfhkibmbnaaGreatDoor.Ru
open Go.RowKit Go.Proofs.YtdemkfhkibmbnaaGreatDoor
def lastV (A : List At) (nm : List UInt8) : Option (List UInt8) := A.foldl (fun o a => if a.nm == nm then some a.vl else o) none
theorem fold_none {nm : List UInt8} : ∀ (A : List At) (o : Option (List UInt8)), (∀ a ∈ A, a.nm ≠ nm) → A.foldl (fun o a => if a.nm == nm then some a.vl else o) o = o
 | [], _, _ => rfl
 | a :: A, o, h => by
  have h1 : (a.nm == nm) = false := by simpa using h a (by simp)
  rw [List.foldl_cons, h1]; exact fold_none A o (fun x hx => h x (by simp [hx]))
theorem fold_find {nm : List UInt8} : ∀ (A : List At), A.Pairwise (fun a b => a.nm ≠ b.nm) → A.foldl (fun o a => if a.nm == nm then some a.vl else o) none = (A.find? (fun a => a.nm == nm)).map At.vl
 | [], _ => rfl
 | a :: A, h => by
  rw [List.pairwise_cons] at h; rw [List.foldl_cons, List.find?_cons]; cases hc : a.nm == nm
  ·exact fold_find A h.2
  ·have e := eq_of_beq hc
   exact fold_none A _ (fun x hx => by rw [← e]; exact (h.1 x hx).symm)
theorem attrs_apart {A : List At} (h : attrsB A = true) : A.Pairwise (fun a b => a.nm ≠ b.nm) := by
 have hr : ∀ i (hi : i + 1 < A.length), A[i].nm < A[i + 1].nm := by
  intro i hi
  unfold attrsB at h
  simp only [Bool.and_eq_true, decide_eq_true_eq, List.all_eq_true, List.mem_range] at h; have h1 := h.2 (i + 1) hi; rw [List.getElem?_eq_getElem hi] at h1
  unfold attrOk at h1
  simp only [Bool.and_eq_true, Bool.or_eq_true, beq_iff_eq, Nat.add_one_ne_zero, false_or, Nat.add_sub_cancel, Bool.not_eq_true'] at h1; have h2 := h1.2; rw [List.getElem?_eq_getElem (by omega : i < A.length)] at h2; simp only [Option.map_some, Option.getD_some] at h2
  unfold leB at h2
  rw [lt_less, Bool.or_eq_false_iff, decide_eq_false_iff_not, beq_eq_false_iff_ne] at h2; rcases lt_tri A[i].nm A[i + 1].nm with g | g | g
  ·exact g
  ·exact absurd g.symm h2.2
  ·exact absurd g h2.1
 have hlt : ∀ d i (hi : i + d + 1 < A.length), A[i].nm < A[i + d + 1].nm := by
  intro d
  induction d with
  | zero => intro i hi; exact hr i hi
  | succ d ih => intro i hi; exact List.lt_trans (ih i (by omega)) (hr (i + d + 1) hi)
 rw [List.pairwise_iff_getElem]; intro i j hi hj hij e; have := hlt (j - i - 1) i (by omega); have e2 : i + (j - i - 1) + 1 = j := by omega
 simp only [e2] at this; rw [e] at this; exact lt_irr _ this
theorem lastV_eq {A : List At} (h : attrsB A = true) (nm : List UInt8) : lastV A nm = valAt A nm := fold_find A (attrs_apart h)
theorem lastV_take {A : List At} {nm : List UInt8} {k : Nat} (hk : k < A.length) : lastV (A.take (k + 1)) nm = if A[k].nm == nm then some A[k].vl else lastV (A.take k) nm := by
 unfold lastV
 rw [List.take_succ_eq_append_getElem hk, List.foldl_append]
 rfl
