/- Mid. -/
import Derived.Test.YtopkfomlppnpeaaGreatDoorLib2
import Derived.Deep.MidRow
namespace Go.Proofs.YtopkfomlppnpeaaGreatDoor
open Go.RowKit

theorem Blk.range {w : World} {g : Nat} {cs : List Value} {t : TypeId} (h : Blk w g cs t) {o : Nat} {vs : List Value} (hv : ∀ j v, vs[j]? = some v → cs[o + j]? = some v) : w.rangeAt g o vs := fun j v hj => h.cell (hv j v hj)
theorem Blk.range0 {w : World} {g : Nat} {cs : List Value} {t : TypeId} (h : Blk w g cs t) : w.rangeAt g 0 cs := fun j v hj => by rw [Nat.zero_add]; exact h.cell hj
theorem Blk.there {w : World} {g : Nat} {cs : List Value} {t : TypeId} (h : Blk w g cs t) {o n : Nat} (hn : o + n ≤ cs.length) : w.there g o n := fun j hj => ⟨by rw [h.cell (List.getElem?_eq_getElem (by omega : o + j < cs.length))]; rfl, h.free _⟩
theorem one_all {cs : List Value} (h : ∀ v ∈ cs, v.oneCell' = true) : (cs.toArray).all (·.oneCell') = true := all_oneCell_toArray h
theorem Blk.cells4 {w : World} {g : Nat} {cs : List Value} {t : TypeId} (h : Blk w g cs t) (o : Nat) (a b c d : Value) : Blk (w.setCells g o (#[a, b, c, d] : Array Value).toList) g ((((cs.set o a).set (o + 1) b).set (o + 2) c).set (o + 3) d) t :=
  (((h.set o a).set (o + 1) b).set (o + 2) c).set (o + 3) d
theorem Blk.cellsO {g k : Nat} {cs : List Value} {t : TypeId} (hk : g ≠ k) : ∀ (vs : List Value) (o : Nat) (w : World), Blk w g cs t → Blk (w.setCells k o vs) g cs t
  | [], _, _, h => h
  | v :: r, o, w, h => Blk.cellsO hk r (o + 1) _ (h.other (a := ⟨k, o, none⟩) hk v)
theorem bel_cells {n : Nat} {a : World} {k : Nat} (hk : n ≤ k) : ∀ (vs : List Value) (o : Nat) (w : World), Below n a w → Below n a (w.setCells k o vs)
  | [], _, _, h => h
  | v :: r, o, w, h => bel_cells hk r (o + 1) _ (h.setCell (p := ⟨k, o, none⟩) hk v)
end Go.Proofs.YtopkfomlppnpeaaGreatDoor
