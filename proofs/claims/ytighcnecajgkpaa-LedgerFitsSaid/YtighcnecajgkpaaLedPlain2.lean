/- Sums over the entries that have come up. -/
import Derived.Test.YtighcnecajgkpaaLedPlain
namespace Go.Proofs.Ytighcnecajgkpaa
open Go.RowKit

def Oks (L : List Ent) : Prop := ∀ e ∈ L, e.a.okB = true
def doneF (p : Ent → Bool) (left : Lit → Bool) (k : Nat) (e : Ent) : Int := if left (.string e.key) then 0 else pickF p k e
def doneA (p : Ent → Bool) (L : List Ent) (left : Lit → Bool) : Am := .of fun k => tot (doneF p left k) L
theorem doneA_get (p : Ent → Bool) (L : List Ent) (left : Lit → Bool) {k : Nat} (hk : k < 4) : (doneA p L left).get k = tot (doneF p left k) L := Am.of_get _ k hk
theorem zero_get (k : Nat) (hk : k < 4) : Am.zero.get k = 0 := by
  match k, hk with
  | 0, _ => rfl
  | 1, _ => rfl
  | 2, _ => rfl
  | 3, _ => rfl
theorem tot_zero : ∀ L : List Ent, tot (fun _ => 0) L = 0
  | [] => rfl
  | e :: L => by rw [tot_cons, tot_zero L]; rfl
theorem doneA_start {p : Ent → Bool} {L : List Ent} {left : Lit → Bool} (h : ∀ e ∈ L, left (.string e.key) = true) : doneA p L left = .zero := Am.ext_get fun k hk => by
  rw [doneA_get p L left hk, zero_get k hk, ← tot_zero L]
  exact tot_congr fun e he => by unfold doneF; rw [h e he]; rfl
theorem doneA_end {p : Ent → Bool} {L : List Ent} {left : Lit → Bool} (h : ∀ s, left (.string s) = false) : doneA p L left = sumA p L := Am.ext_get fun k hk => by
  rw [doneA_get p L left hk, sumA_get p L hk]
  exact tot_congr fun e he => by unfold doneF; rw [h]; rfl
theorem doneA_step {p : Ent → Bool} {L : List Ent} {left : Lit → Bool} (hd : Apart L) {e : Ent} (he : e ∈ L) (hl : left (.string e.key) = true) {k : Nat} (hk : k < 4) :
    (doneA p L (fun z => left z && !z.sameKey (.string e.key))).get k = (doneA p L left).get k + pickF p k e := by
  rw [doneA_get p L _ hk, doneA_get p L _ hk]
  exact tot_step hd he (fun s => left (.string s)) hl (pickF p k)
theorem doneA_skip {p : Ent → Bool} {L : List Ent} {left : Lit → Bool} (hd : Apart L) {e : Ent} (he : e ∈ L) (hl : left (.string e.key) = true) (hp : p e = false) :
    doneA p L (fun z => left z && !z.sameKey (.string e.key)) = doneA p L left := Am.ext_get fun k hk => by
  rw [doneA_step hd he hl hk]
  unfold pickF
  rw [hp]
  simp
theorem pickF_nonneg {p : Ent → Bool} {L : List Ent} (ho : Oks L) {k : Nat} (hk : k < 4) : ∀ e ∈ L, 0 ≤ pickF p k e := fun e he => by
  have := ok_get (ho e he) hk
  unfold pickF
  split <;> omega
theorem doneA_bd {p : Ent → Bool} {L : List Ent} (left : Lit → Bool) (ho : Oks L) {k : Nat} (hk : k < 4) : 0 ≤ (doneA p L left).get k ∧ (doneA p L left).get k ≤ (sumA p L).get k := by
  rw [doneA_get p L left hk, sumA_get p L hk]
  refine ⟨tot_nonneg fun e he => ?_, tot_le fun e he => ?_⟩
  · have := pickF_nonneg (p := p) ho hk e he
    unfold doneF
    split <;> omega
  · have := pickF_nonneg (p := p) ho hk e he
    unfold doneF
    split <;> omega
/-- the picked ones are not too many -/
def Fit (p : Ent → Bool) (L : List Ent) : Prop := (sumA p L).okB = true
theorem doneA_add {p : Ent → Bool} {L : List Ent} {left : Lit → Bool} (hd : Apart L) (ho : Oks L) (hf : Fit p L) {e : Ent} (he : e ∈ L) (hl : left (.string e.key) = true) (hp : p e = true) :
    addR (doneA p L left) e.a = (doneA p L (fun z => left z && !z.sameKey (.string e.key)), 0) := by
  have hb : ∀ (l : Lit → Bool) k, k < 4 → 0 ≤ (doneA p L l).get k ∧ (doneA p L l).get k ≤ 1099511627776 := fun l k hk => by
    have h1 := doneA_bd (p := p) l ho hk
    have h2 := ok_get hf hk
    omega
  have hst : ∀ k, k < 4 → (doneA p L (fun z => left z && !z.sameKey (.string e.key))).get k = (doneA p L left).get k + e.a.get k := fun k hk => by
    rw [doneA_step hd he hl hk]; unfold pickF; rw [hp]; simp
  have h1 : (doneA p L left).okB = true := by rw [Am.okB_iff]; exact hb left
  exact addR_ok (by rw [h1, ho e he]; rfl) (fun k hk => by rw [← hst k hk]; exact (hb _ k hk).2) hst
end Go.Proofs.Ytighcnecajgkpaa
