/- A function whose first result is a variable of its own with several cells. -/
import Derived.Test.YtlemfbgmhjklaaaQPut2
import Derived.Laws.ResultCell
import Derived.Laws.Rows
namespace Go.Proofs.Ytlemfbgmhjklaaa
open Go.RowKit

theorem ret_cell {P : Program} {fn : Func} {R : Ending → World → Prop} {a : Act} {w : World} {p u : Tmp} {ty t : TypeId} {g : Nat} {cs : List Value} {d : TypeDesc} (h : fn.results = #[.cell p ty, .tmp u]) (hd : a.defers = [])
    (hp : a.tmps.getD p undef = .pointer (some ⟨g, 0, none⟩)) (hg : Blk w g cs t) (hu : P.underlying ty = some d) (hs : (match d with | .struct _ | .array _ _ => true | _ => false) = true) (hi : (P.info? ty).map (·.size) = some cs.length)
    (hR : R (.returned (.tuple #[.agg cs.toArray, a.tmps.getD u undef])) w) : bodyPost P fn R .ret a w := by
  refine bodyPost_ret ?_ hd hR
  rw [results_cell_tmp h]
  have h1 : (asAddr (a.tmps.getD p undef)).run P w = .ok ⟨g, 0, none⟩ w := by rw [hp]; rfl
  rw [h1]
  simp only [Result.andThen_ok]
  rw [run_loadVar_row w g t ty cs.toArray (0, 0) d hg hu hs (by simpa using hi)]
  rfl

theorem blk_fill {w : World} {g : Nat} {a b c d x y z u : Value} {t : TypeId} (h : Blk w g [a, b, c, d] t) : Blk ((((w.setCell ⟨g, 0, none⟩ x).setCell ⟨g, 1, none⟩ y).setCell ⟨g, 2, none⟩ z).setCell ⟨g, 3, none⟩ u) g [x, y, z, u] t := (((h.set 0 x).set 1 y).set 2 z).set 3 u
theorem below_fill {w w1 : World} {n g : Nat} (h : Below n w w1) (hg : n ≤ g) (hn : n ≤ w.heap.size) (x y z u : Value) : Below n w ((((w1.setCell ⟨g, 0, none⟩ x).setCell ⟨g, 1, none⟩ y).setCell ⟨g, 2, none⟩ z).setCell ⟨g, 3, none⟩ u) := by
  have hf : Fr [g] w1 ((((w1.setCell ⟨g, 0, none⟩ x).setCell ⟨g, 1, none⟩ y).setCell ⟨g, 2, none⟩ z).setCell ⟨g, 3, none⟩ u) := ((((Fr.refl [g] w1).set (p := ⟨g, 0, none⟩) (by simp) x).set (p := ⟨g, 1, none⟩) (by simp) y).set (p := ⟨g, 2, none⟩) (by simp) z).set (p := ⟨g, 3, none⟩) (by simp) u
  exact h.trans (hf.below (by simpa using hg) (Nat.le_trans hn h.size))
theorem info_pend2 : (Try.prog.info? 29).map (·.size) = some 4 := by kernel_rfl
end Go.Proofs.Ytlemfbgmhjklaaa
