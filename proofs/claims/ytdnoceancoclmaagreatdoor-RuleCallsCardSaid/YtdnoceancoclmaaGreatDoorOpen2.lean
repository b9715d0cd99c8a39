/- Open2. -/
import Derived.Test.YtdnoceancoclmaaGreatDoorM13
import Derived.Deep.Matrix
namespace Go.Proofs.YtdnoceancoclmaaGreatDoor
open Go.ChangeShapes Go.WideShapes Go.ChangeAt Go.RowKit

theorem spot_none {W : World} {x : Addr} {u : Value} (h : W.cell? x = some u) : x.spot = none := by
  unfold World.cell? at h
  split at h
  · split at h
    · simp at h
    · rename_i hh; simpa using hh
  · simp at h

end Go.Proofs.YtdnoceancoclmaaGreatDoor
