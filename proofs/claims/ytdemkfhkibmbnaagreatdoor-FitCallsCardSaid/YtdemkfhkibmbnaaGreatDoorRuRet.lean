/- RuRet. -/
import Derived.Test.YtdemkfhkibmbnaaGreatDoorM01
import Derived.Laws.ResultCell
import Derived.Laws.Rows
namespace Go.Proofs.YtdemkfhkibmbnaaGreatDoor.Ru
open Go.RowKit Go.Proofs.YtdemkfhkibmbnaaGreatDoor
theorem results_cell_cell {P : Program} {fn : Func} {p u : Tmp} {ty tz : TypeId} (h : fn.results = #[.cell p ty, .cell u tz]) (tmps : Array Value) (w : World) :
  (results fn tmps).run P w =
   ((asAddr (tmps.getD p undef)).run P w).andThen fun a w₁ => ((loadVar ty a).run P w₁).andThen fun v w₂ => ((asAddr (tmps.getD u undef)).run P w₂).andThen fun b w₃ => ((loadVar tz b).run P w₃).andThen fun y w₄ => .ok (.tuple #[v, y]) w₄ := by
 simp only [results, h]
 simp [Sem.run_bind, Result.andThen]
theorem ret_cells {P : Program} {fn : Func} {R : Ending → World → Prop} {a : Act} {w : World} {p u : Tmp} {ty tz t tt : TypeId} {g k : Nat} {cs ds : List Value} {d e : TypeDesc} (h : fn.results = #[.cell p ty, .cell u tz]) (hd : a.defers = [])
  (hp : a.tmps.getD p undef = .pointer (some ⟨g, 0, none⟩)) (hg : Blk w g cs t) (hu : P.underlying ty = some d) (hs : (match d with | .struct _ | .array _ _ => true | _ => false) = true) (hi : (P.info? ty).map (·.size) = some cs.length)
  (hq : a.tmps.getD u undef = .pointer (some ⟨k, 0, none⟩)) (hk : Blk w k ds tt) (hv : P.underlying tz = some e) (ht : (match e with | .struct _ | .array _ _ => true | _ => false) = true) (hj : (P.info? tz).map (·.size) = some ds.length)
  (hR : R (.returned (.tuple #[.agg cs.toArray, .agg ds.toArray])) w) : bodyPost P fn R .ret a w := by
 refine bodyPost_ret ?_ hd hR; rw [results_cell_cell h]; have h1 : (asAddr (a.tmps.getD p undef)).run P w = .ok ⟨g, 0, none⟩ w := by rw [hp]; rfl
 have h2 : (asAddr (a.tmps.getD u undef)).run P w = .ok ⟨k, 0, none⟩ w := by rw [hq]; rfl
 rw [h1]; simp only [Result.andThen_ok]; rw [run_loadVar_row w g t ty cs.toArray (0, 0) d hg hu hs (by simpa using hi)]; simp only [Result.andThen_ok]; rw [h2]; simp only [Result.andThen_ok]; rw [run_loadVar_row w k tt tz ds.toArray (0, 0) e hk hv ht (by simpa using hj)]
 rfl
