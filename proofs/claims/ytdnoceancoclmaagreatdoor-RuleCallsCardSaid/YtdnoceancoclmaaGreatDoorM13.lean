/- , laid together: Open, IRows. -/
import Derived.Test.YtdnoceancoclmaaGreatDoorM02
import Derived.OpenShut
import Derived.ShutString
import Derived.ChangeOld
import Derived.SizedLaws
namespace Go.Proofs.YtdnoceancoclmaaGreatDoor
open Go.ChangeShapes Go.WideShapes Go.ChangeAt Go.RowKit
open Go.ChangeMaps (open_string shut_string)

theorem Tryz.laidOut : laidOutB Tryz.prog = true := by kernel_rfl

end Go.Proofs.YtdnoceancoclmaaGreatDoor

namespace Go.Proofs.YtdnoceancoclmaaGreatDoor
open Go.RowKit

/-- a block whole, as a row -/
theorem row_block {w : World} {g : Nat} {us : List Value} {e : TypeId} {fr : Nat × Nat} (hg : w.heap[g]? = some (.cells us.toArray e fr)) (hm : us.length ≤ maxLen) (h1 : ∀ u ∈ us, u.oneCell' = true) : Row w (.slice (some ⟨g, 0, none⟩) us.length us.length) 1 us.length us := by
  refine ⟨some ⟨g, 0, none⟩, us.length, rfl, Nat.le_refl _, hm, by simp, h1, by simp, .inr ⟨g, 0, rfl, fun j u hj => ?_⟩⟩
  rw [cell_of_row w g (0 + j) us.toArray e fr hg]
  simpa using hj
end Go.Proofs.YtdnoceancoclmaaGreatDoor
