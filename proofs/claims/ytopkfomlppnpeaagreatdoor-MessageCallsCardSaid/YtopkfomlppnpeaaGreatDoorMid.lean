/- Mid. -/
import Derived.Test.YtopkfomlppnpeaaGreatDoorLib2
import Derived.Deep.MidRow
namespace Go.Proofs.YtopkfomlppnpeaaGreatDoor
open Go.RowKit

theorem Blk.there {w : World} {g : Nat} {cs : List Value} {t : TypeId} (h : Blk w g cs t) {o n : Nat} (hn : o + n ≤ cs.length) : w.there g o n := fun j hj => ⟨by rw [h.cell (List.getElem?_eq_getElem (by omega : o + j < cs.length))]; rfl, h.free _⟩
end Go.Proofs.YtopkfomlppnpeaaGreatDoor
