/- WFitBand. -/
import Derived.Test.YtaipldegobjboaaGreatDoorFtOpen
namespace Go.Proofs.YtaipldegobjboaaGreatDoor.fitBand
open Go.RowKit Go.Proofs.YtaipldegobjboaaGreatDoor Go.Proofs.YtaipldegobjboaaGreatDoor.Ru Go.Proofs.YtaipldegobjboaaGreatDoor.Ft
theorem fitBand_walk (N : Ne) (vl : Value) (V : Vw) (va vu : Value) (band : Int) (W : World) (hn : Nds W N vl) (hnk : NeOk N) (hv : Vws W V va vu) (hus : ∀ u ∈ V.us, UsOk u) (hnm : V.nm.length ≤ 1000000000000000) (hat : ∀ a ∈ V.at', a.vl.length ≤ 1000000000000000) (_hb : (Lit.int .i64 band).wf = true) (hE : ErrV W) (hT : Tab W) :
    Calls Tryz.prog 5 #[neV N vl, vwV V va vu, .int .i64 band] W fun r w' => r = .returned (.bool true) ∧ Below W.heap.size W w' :=
  band_any N V vl va vu band W hn hnk hv hus hnm hat hE hT
end Go.Proofs.YtaipldegobjboaaGreatDoor.fitBand
