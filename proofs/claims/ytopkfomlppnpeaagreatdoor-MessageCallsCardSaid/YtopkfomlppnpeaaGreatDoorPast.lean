/- Past. -/
import Derived.Test.YtopkfomlppnpeaaGreatDoorLib2
import Derived.Test.YtopkfomlppnpeaaGreatDoorPop
import Derived.Deep.QuietTactic
import Derived.BigQuiet
namespace Go.Proofs.YtopkfomlppnpeaaGreatDoor
open Go.RowKit Go

/-- a world behind w, in which nothing that was there has turned -/
structure Past (w : World) where
  val : World
  h : Below w.heap.size w val
instance (w : World) : Nonempty (Past w) := ⟨⟨w, Below.refl _ _⟩⟩
def Past.more {w : World} (s : Past w) {w' : World} (hb : Below s.val.heap.size s.val w') : Past w := ⟨w', below_and s.h hb⟩

theorem Past.blk {w : World} {g : Nat} {cs : List Value} {t : TypeId} (h : Blk w g cs t) {j : Nat} {u : Value} (hj : cs[j]? = some u) : ∀ s : Past w, s.val.cell? ⟨g, j, none⟩ = some u := fun s => cell_kept (h.cell hj) s.h

section
variable {P : Program}
/-- a call that answers v in the world at hand, and makes memory alone -/
theorem past_call {f : FuncId} {args : Array Value} {w : World} {s : Past w} {v : Value}
    (h : Calls P f args s.val fun e w' => e = .returned v ∧ Below s.val.heap.size s.val w') : Calls P f args s.val fun e w'' => e = .returned v ∧ ∃ s' : Past w, w'' = s'.val :=
  h.mono fun _ _ ⟨he, hb⟩ => ⟨he, s.more hb, rfl⟩
theorem past_call_same {f : FuncId} {args : Array Value} {w : World} {s : Past w} {v : Value}
    (h : Calls P f args s.val fun e w' => e = .returned v ∧ s.val = w') : Calls P f args s.val fun e w'' => e = .returned v ∧ ∃ s' : Past w, w'' = s'.val :=
  h.mono fun _ _ ⟨he, hb⟩ => ⟨he, s, hb.symm⟩

/-- the region, walked in the order of the text -/
theorem wp_region_past {id : Nat} {Q : Exit → Act → World → Prop} {a : Act} {w : World} {l : List Oper} (hm : P.follows .mixedOrders = true) (hB : Region.lexB .any l.toArray = true)
    (h : wpQuiet P l.toArray (fun w' => ∃ s : Past w, w' = s.val) (fun a' => ∀ w', (∃ s : Past w, w' = s.val) → Q .normal a' w') l a) : (Code.region id l.toArray true).wp P Q a w :=
  wp_region_quiet (C := fun w' => ∃ s : Past w, w' = s.val) hm hB ⟨⟨{ w with drawn := w.drawn + 1 }, below_drewN 1⟩, rfl⟩ (by simpa using h)

end
end Go.Proofs.YtopkfomlppnpeaaGreatDoor
