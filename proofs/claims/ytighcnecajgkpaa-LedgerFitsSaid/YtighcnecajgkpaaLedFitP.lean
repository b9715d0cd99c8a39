/- Sums that grow entry by entry: the plain part of the law's fits. -/
import Derived.Test.YtighcnecajgkpaaLedInv
namespace Go.Proofs.Ytighcnecajgkpaa
open Go.RowKit

theorem tot_snoc (f : Ent → Int) (x : Ent) : ∀ L : List Ent, tot f (L ++ [x]) = tot f L + f x
  | [] => by simp [tot]
  | y :: L => by rw [List.cons_append, tot_cons, tot_cons, tot_snoc f x L]; omega
/-- base, and the picked ones of the first k -/
def partF (p : Ent → Bool) (base : Am) (L : List Ent) (k : Nat) : Am := .of fun j => base.get j + (sumA p (L.take k)).get j
theorem partF_get (p : Ent → Bool) (base : Am) (L : List Ent) (k : Nat) {j : Nat} (hj : j < 4) : (partF p base L k).get j = base.get j + (sumA p (L.take k)).get j := Am.of_get _ j hj
theorem partF_zero (p : Ent → Bool) (base : Am) (L : List Ent) : partF p base L 0 = base := Am.ext_get fun j hj => by
  rw [partF_get p base L 0 hj, List.take_zero, sum_none (L := []) (fun e he => absurd he List.not_mem_nil) hj]; omega
theorem sum_snoc (p : Ent → Bool) {L : List Ent} {x : Ent} {k : Nat} (hk : k < L.length) (hx : x = L[k]) {j : Nat} (hj : j < 4) : (sumA p (L.take (k + 1))).get j = (sumA p (L.take k)).get j + pickF p j x := by
  rw [sumA_get _ _ hj, sumA_get _ _ hj, List.take_succ_eq_append_getElem hk, ← hx, tot_snoc]
theorem partF_skip {p : Ent → Bool} {base : Am} {L : List Ent} {x : Ent} {k : Nat} (hk : k < L.length) (hx : x = L[k]) (hp : p x = false) : partF p base L (k + 1) = partF p base L k := Am.ext_get fun j hj => by
  rw [partF_get _ _ _ _ hj, partF_get _ _ _ _ hj, sum_snoc p hk hx hj]
  unfold pickF
  rw [hp]
  simp
theorem sum_take {p : Ent → Bool} {L : List Ent} (ho : Oks L) (k : Nat) {j : Nat} (hj : j < 4) : 0 ≤ (sumA p (L.take k)).get j ∧ (sumA p (L.take k)).get j ≤ (sumA p L).get j := by
  have h1 : Oks (L.take k) := fun e he => ho e (List.mem_of_mem_take he)
  have h2 : Oks (L.drop k) := fun e he => ho e (List.mem_of_mem_drop he)
  refine ⟨sum_nonneg h1 hj, ?_⟩
  have h3 := sum_nonneg (p := p) h2 hj
  rw [sumA_get _ _ hj] at *
  rw [sumA_get _ _ hj]
  have h4 : tot (pickF p j) L = tot (pickF p j) (L.take k) + tot (pickF p j) (L.drop k) := by
    unfold tot
    rw [← List.sum_append, ← List.map_append, List.take_append_drop]
  omega
theorem partF_ok {p : Ent → Bool} {base top : Am} {L : List Ent} (ho : Oks L) (hb : base.okB = true) (ht : top.okB = true) (h : ∀ j, j < 4 → base.get j + (sumA p L).get j = top.get j) (k : Nat) : (partF p base L k).okB = true := by
  rw [Am.okB_iff]
  intro j hj
  rw [partF_get _ _ _ _ hj]
  have h1 := sum_take (p := p) ho k hj
  have h2 := h j hj
  have h3 := ok_get hb hj
  have h4 := ok_get ht hj
  omega
theorem partF_add {p : Ent → Bool} {base top : Am} {L : List Ent} {x : Ent} {k : Nat} (ho : Oks L) (hb : base.okB = true) (ht : top.okB = true) (h : ∀ j, j < 4 → base.get j + (sumA p L).get j = top.get j) (hk : k < L.length) (hx : x = L[k]) (hp : p x = true) :
    addR (partF p base L k) x.a = (partF p base L (k + 1), 0) := by
  have hxo : x.a.okB = true := ho x (by rw [hx]; exact List.getElem_mem hk)
  refine addR_ok (by rw [partF_ok ho hb ht h k, hxo]; rfl) (fun j hj => ?_) (fun j hj => ?_)
  · have h1 := ok_get (partF_ok ho hb ht h (k + 1)) hj
    rw [partF_get _ _ _ _ hj, sum_snoc p hk hx hj] at h1
    rw [partF_get _ _ _ _ hj]
    unfold pickF at h1
    rw [hp] at h1
    simp only [if_true] at h1
    omega
  · rw [partF_get _ _ _ _ hj, partF_get _ _ _ _ hj, sum_snoc p hk hx hj]
    unfold pickF
    rw [hp]
    simp only [if_true]
    omega
theorem partF_end {p : Ent → Bool} {base top : Am} {L : List Ent} (h : ∀ j, j < 4 → base.get j + (sumA p L).get j = top.get j) : partF p base L L.length = top := Am.ext_get fun j hj => by
  rw [partF_get _ _ _ _ hj, List.take_length, h j hj]

/-- what is free, and what is left, as sums -/
theorem Inv.free {cap : Am} {L : List Ent} (h : Inv cap L) : ∃ z, subR cap (sumA (inR ⟨#[]⟩) L) = (z, 0) ∧ z.okB = true ∧ ∀ j, j < 4 → z.get j + (sumA (inR ⟨#[]⟩) L).get j = cap.get j := by
  refine ⟨_, subR_le h.cok (h.fit ⟨#[]⟩) h.capF, ?_, fun j hj => by rw [Am.of_get _ j hj]; omega⟩
  rw [Am.okB_iff]
  intro j hj
  rw [Am.of_get _ j hj]
  have h1 := h.capF j hj
  have h2 := sum_nonneg (p := inR ⟨#[]⟩) h.oks hj
  have h3 := ok_get h.cok hj
  omega
theorem Inv.left {cap : Am} {L : List Ent} (h : Inv cap L) {y : Ent} (hy : y ∈ L) (hi : y.i.toList = []) : ∃ z, subR y.a (sumA (inR y.n) L) = (z, 0) ∧ z.okB = true ∧ ∀ j, j < 4 → z.get j + (sumA (inR y.n) L).get j = y.a.get j := by
  refine ⟨_, subR_le (h.oks y hy) (h.fit y.n) (h.parF y hy hi), ?_, fun j hj => by rw [Am.of_get _ j hj]; omega⟩
  rw [Am.okB_iff]
  intro j hj
  rw [Am.of_get _ j hj]
  have h1 := h.parF y hy hi j hj
  have h2 := sum_nonneg (p := inR y.n) h.oks hj
  have h3 := ok_get (h.oks y hy) hj
  omega
end Go.Proofs.Ytighcnecajgkpaa
