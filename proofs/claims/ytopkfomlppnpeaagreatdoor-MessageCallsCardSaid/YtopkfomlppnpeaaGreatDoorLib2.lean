/- Lib2. -/
import Derived.Test.YtopkfomlppnpeaaGreatDoorLib
namespace Go.Proofs.YtopkfomlppnpeaaGreatDoor
open Go.RowKit

theorem below_alloc (w : World) (o : Obj) : Below w.heap.size w (w.alloc o) := (Below.refl _ _).alloc (Nat.le_refl _) o
/-- one step more, where nothing that was there turns -/
theorem below_and {a w w' : World} (h : Below a.heap.size a w) (k : Below w.heap.size w w') : Below a.heap.size a w' := h.trans (k.mono h.size)
theorem cell_kept {w w' : World} {a : Addr} {v : Value} (h : w.cell? a = some v) (hb : Below w.heap.size w w') : w'.cell? a = some v := by
  rw [hb.cell (p := a) (World.block_lt_of_cell? w _ h)]
  exact h

theorem below_ad (w : World) (o : Obj) : Below w.heap.size w (w.alloc o).drew := Below.drewN' (below_alloc w o) 1
abbrev ptr (b : Nat) : Value := .pointer (some ⟨b, 0, none⟩)
end Go.Proofs.YtopkfomlppnpeaaGreatDoor
