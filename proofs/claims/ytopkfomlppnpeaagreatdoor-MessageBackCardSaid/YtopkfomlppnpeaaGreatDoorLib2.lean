/- Lib2. -/
import Derived.Test.YtopkfomlppnpeaaGreatDoorLib
namespace Go.Proofs.YtopkfomlppnpeaaGreatDoor
open Go.RowKit

/-- what a quiet call leaves, said of no world by name -/
theorem opq {P : Program} {f : FuncId} {args : Array Value} {w : World} {v : Value} (h : Calls P f args w fun e w' => e = .returned v ∧ ∃ n, w' = w.drewN n) : Calls P f args w fun e w' => e = .returned v ∧ Below w.heap.size w w' :=
  h.mono fun _ _ ⟨he, n, hw⟩ => ⟨he, by subst hw; exact below_drewN n⟩
theorem opq_same {P : Program} {f : FuncId} {args : Array Value} {w : World} {v : Value} (h : Calls P f args w fun e w' => e = .returned v ∧ w' = w) : Calls P f args w fun e w' => e = .returned v ∧ Below w.heap.size w w' :=
  h.mono fun _ _ ⟨he, hw⟩ => ⟨he, by subst hw; exact Below.refl _ _⟩

theorem below_alloc (w : World) (o : Obj) : Below w.heap.size w (w.alloc o) := (Below.refl _ _).alloc (Nat.le_refl _) o
/-- one step more, where nothing that was there turns -/
theorem below_and {a w w' : World} (h : Below a.heap.size a w) (k : Below w.heap.size w w') : Below a.heap.size a w' := h.trans (k.mono h.size)
/-- one step more, where one block alone turns, and it is new -/
theorem below_andG {a w w' : World} {b : Nat} (h : Below a.heap.size a w) (k : w.grownBy w' (some b)) (hb : a.heap.size ≤ b) : Below a.heap.size a w' := h.trans (grown_below k hb h.size)

/-- nothing is asked of a world: for 'go_region_held3' at a region without loads -/
def AnyW (w : World) : Prop := w = w
theorem anyW (w : World) : AnyW w := rfl

theorem cell_kept {w w' : World} {a : Addr} {v : Value} (h : w.cell? a = some v) (hb : Below w.heap.size w w') : w'.cell? a = some v := by
  rw [hb.cell (p := a) (World.block_lt_of_cell? w _ h)]
  exact h

theorem below_ad (w : World) (o : Obj) : Below w.heap.size w (w.alloc o).drew := Below.drewN' (below_alloc w o) 1
abbrev ptr (b : Nat) : Value := .pointer (some ⟨b, 0, none⟩)
end Go.Proofs.YtopkfomlppnpeaaGreatDoor
