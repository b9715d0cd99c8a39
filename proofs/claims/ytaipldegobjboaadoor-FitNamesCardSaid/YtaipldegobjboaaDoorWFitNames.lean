/- WFitNames. -/
import Derived.Test.YtaipldegobjboaaDoorFtNames
namespace Go.Proofs.YtaipldegobjboaaDoor.fitNames
open Go.RowKit Go.Proofs.YtaipldegobjboaaDoor Go.Proofs.YtaipldegobjboaaDoor.Ru Go.Proofs.YtaipldegobjboaaDoor.Ft
theorem fitNames_walk (W : World) (hE : ErrV W) (hT : Tab W) :
    Calls Tryd.prog 3 #[] W fun r w' => r = .returned (.bool true) ∧ Below W.heap.size W w' := names_any W hE hT
end Go.Proofs.YtaipldegobjboaaDoor.fitNames
