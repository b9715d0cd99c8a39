/- WFitLess. -/
import Derived.Test.YtaipldegobjboaaGreatDoorFtOpen
import Derived.Test.YtaipldegobjboaaGreatDoorFtLess
import Derived.Test.YtaipldegobjboaaGreatDoorMOp
namespace Go.Proofs.YtaipldegobjboaaGreatDoor.fitLess
open Go.RowKit Go.Proofs.YtaipldegobjboaaGreatDoor Go.Proofs.YtaipldegobjboaaGreatDoor.Ru Go.Proofs.YtaipldegobjboaaGreatDoor.Ft
theorem am_of' (cs : List Value) (hl : cs.length = 4) (h0 : fieldOk Tryz.prog 2 (cs.getD 0 undef)) (h1 : fieldOk Tryz.prog 2 (cs.getD 1 undef)) (h2 : fieldOk Tryz.prog 2 (cs.getD 2 undef)) (h3 : fieldOk Tryz.prog 2 (cs.getD 3 undef)) : ∃ x : Am, (.agg cs.toArray : Value) = amV x := by
  match cs, hl, h0, h1, h2, h3 with
  | [a, b, c, d], _, h0, h1, h2, h3 =>
    obtain ⟨k, rfl, -⟩ := fieldOk.int (v := a) h0 Tryz.underlying2
    obtain ⟨l, rfl, -⟩ := fieldOk.int (v := b) h1 Tryz.underlying2
    obtain ⟨m, rfl, -⟩ := fieldOk.int (v := c) h2 Tryz.underlying2
    obtain ⟨n, rfl, -⟩ := fieldOk.int (v := d) h3 Tryz.underlying2
    exact ⟨⟨k, l, m, n⟩, rfl⟩
theorem fitLess_walk (N : Ne) (vl : Value) (V : Vw) (va vu : Value) (which : Int) (xs ys : List Value) (W : World) (hn : Nds W N vl) (hnk : NeOk N) (hv : Vws W V va vu) (hus : ∀ u ∈ V.us, UsOk u) (hnm : V.nm.length ≤ 1000000000000000) (hat : ∀ a ∈ V.at', a.vl.length ≤ 1000000000000000) (_hb : (Lit.int .i64 which).wf = true)
    (hl : xs.length = 4) (h0 : fieldOk Tryz.prog 2 (xs.getD 0 undef)) (h1 : fieldOk Tryz.prog 2 (xs.getD 1 undef)) (h2 : fieldOk Tryz.prog 2 (xs.getD 2 undef)) (h3 : fieldOk Tryz.prog 2 (xs.getD 3 undef)) (kl : ys.length = 4) (k0 : fieldOk Tryz.prog 2 (ys.getD 0 undef)) (k1 : fieldOk Tryz.prog 2 (ys.getD 1 undef)) (k2 : fieldOk Tryz.prog 2 (ys.getD 2 undef)) (k3 : fieldOk Tryz.prog 2 (ys.getD 3 undef)) (hE : ErrV W) (hT : Tab W) :
    Calls Tryz.prog 3 #[neV N vl, vwV V va vu, .int .i64 which, .agg xs.toArray, .agg ys.toArray] W fun r w' => r = .returned (.bool true) ∧ Below W.heap.size W w' := by
  obtain ⟨a, ha⟩ := am_of' xs hl h0 h1 h2 h3
  obtain ⟨b, hb⟩ := am_of' ys kl k0 k1 k2 k3
  rw [ha, hb]
  exact less_any N V vl va vu which a b W hn hnk hv hus hnm hat hE hT
end Go.Proofs.YtaipldegobjboaaGreatDoor.fitLess
