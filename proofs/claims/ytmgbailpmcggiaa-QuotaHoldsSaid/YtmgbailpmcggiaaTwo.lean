/- Two arrays of the call's own: what the functions over two amounts share. -/
import Derived.Test.YtmgbailpmcggiaaAll
import Derived.Deep.DeepCutAuto
namespace Go.Proofs.Ytmgbailpmcggiaa
open Go.RowKit

set_option maxRecDepth 100000 in
set_option maxHeartbeats 400000 in
theorem array_exact (x : Am) (w : World) :
    Calls Try.prog 33 #[amV x] w fun e w' => e = .returned (amV x) ∧ w' = (w.alloc (.cells #[.int .i64 x.c, .int .i64 x.r, .int .i64 x.d, .int .i64 x.p] 28)).alloc (.cells #[.int .i64 x.c, .int .i64 x.r, .int .i64 x.d, .int .i64 x.p] 73) := by
  go_enter Try.func33, Try.ntmps33
  go_wp2
  refine bodyPost_ret (results_row rfl _ _ (w.heap.size + 1) 73 #[.int .i64 x.c, .int .i64 x.r, .int .i64 x.d, .int .i64 x.p] (0, 0) _ rfl ?_ Try.underlying73 rfl (by kernel_rfl)) rfl ⟨rfl, rfl⟩
  have := Blk.made (w.alloc (.cells #[.int .i64 x.c, .int .i64 x.r, .int .i64 x.d, .int .i64 x.p] 28)) [.int .i64 x.c, .int .i64 x.r, .int .i64 x.d, .int .i64 x.p] 73
  simpa [Blk] using this

set_option maxRecDepth 100000 in
set_option maxHeartbeats 400000 in
theorem amounts_any (x : Am) (w : World) :
    Calls Try.prog 43 #[amV x] w fun e w' => e = .returned (amV x) ∧ Below w.heap.size w w' := by
  go_enter Try.func43, Try.ntmps43
  go_wp2
  refine bodyPost_ret (results_row rfl _ _ (w.heap.size + 1) 28 #[.int .i64 x.c, .int .i64 x.r, .int .i64 x.d, .int .i64 x.p] (0, 0) _ rfl ?_ Try.underlying28 rfl (by kernel_rfl)) rfl ⟨rfl, below_and (below_alloc w _) (below_alloc _ _)⟩
  have := Blk.made (w.alloc (.cells #[.int .i64 x.c, .int .i64 x.r, .int .i64 x.d, .int .i64 x.p] 73)) [.int .i64 x.c, .int .i64 x.r, .int .i64 x.d, .int .i64 x.p] 28
  simpa [Blk] using this

theorem Blk.drew {w : World} {g : Nat} {cs : List Value} {t : TypeId} (h : Blk w g cs t) : Blk w.drew g cs t := h
theorem Blk.made_at {w : World} {g : Nat} {cs : List Value} {t : TypeId} (h : w.heap.size = g) : Blk (w.alloc (.cells cs.toArray t)) g cs t := h ▸ Blk.made w cs t
theorem bl_drew {n : Nat} {a w : World} (h : Below n a w) : Below n a w.drew := Below.drewN' h 1
theorem bl_alloc {n : Nat} {a w : World} (o : Obj) (h : Below n a w) (hB : n ≤ w.heap.size) : Below n a (w.alloc o) := h.alloc hB o
theorem eight {w : World} {g h : Nat} {x y : Am} {t u : TypeId} (h0 : Blk w g (amC x) t) (h1 : Blk w h (amC y) u) : w.cell? ⟨g, 0, none⟩ = some (.int .i64 x.c) ∧ w.cell? ⟨g, 1, none⟩ = some (.int .i64 x.r) ∧ w.cell? ⟨g, 2, none⟩ = some (.int .i64 x.d) ∧ w.cell? ⟨g, 3, none⟩ = some (.int .i64 x.p) ∧ w.cell? ⟨h, 0, none⟩ = some (.int .i64 y.c) ∧ w.cell? ⟨h, 1, none⟩ = some (.int .i64 y.r) ∧ w.cell? ⟨h, 2, none⟩ = some (.int .i64 y.d) ∧ w.cell? ⟨h, 3, none⟩ = some (.int .i64 y.p) :=
  ⟨h0.cell (j := 0) rfl, h0.cell (j := 1) rfl, h0.cell (j := 2) rfl, h0.cell (j := 3) rfl, h1.cell (j := 0) rfl, h1.cell (j := 1) rfl, h1.cell (j := 2) rfl, h1.cell (j := 3) rfl⟩

/-- two arrays of the call's own, from block B on -/
def Two (B : Nat) (w : World) (u v : Value) (x y : Am) : Prop :=
  ∃ g h, u = ptr g ∧ v = ptr h ∧ g ≠ h ∧ B ≤ g ∧ B ≤ h ∧ Blk w g (amC x) 73 ∧ Blk w h (amC y) 73

/-- the first k of z, then x's -/
def Am.mix (k : Nat) (x z : Am) : Am := ⟨if 0 < k then z.c else x.c, if 1 < k then z.r else x.r, if 2 < k then z.d else x.d, if 3 < k then z.p else x.p⟩
theorem Am.mix_zero (x z : Am) : Am.mix 0 x z = x := rfl
theorem Am.mix_four (x z : Am) : Am.mix 4 x z = z := rfl
theorem Am.mix_get (k : Nat) (hk : k < 4) (x z : Am) : (amC (Am.mix k x z))[k]? = some (.int .i64 (x.get k)) := by
  match k, hk with
  | 0, _ => rfl
  | 1, _ => rfl
  | 2, _ => rfl
  | 3, _ => rfl
  | n + 4, h => omega
theorem Am.mix_set (k : Nat) (hk : k < 4) (x z : Am) : (amC (Am.mix k x z)).set k (.int .i64 (z.get k)) = amC (Am.mix (k + 1) x z) := by
  match k, hk with
  | 0, _ => rfl
  | 1, _ => rfl
  | 2, _ => rfl
  | 3, _ => rfl
  | n + 4, h => omega
end Go.Proofs.Ytmgbailpmcggiaa
