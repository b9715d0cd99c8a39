/- Two, AddP. -/
import Derived.Test.YtdemkfhkibmbnaaGreatDoorM24
import Derived.Deep.DeepCutAuto
set_option maxRecDepth 100000
set_option maxHeartbeats 8000000
namespace Go.Proofs.YtdemkfhkibmbnaaGreatDoor
open Go.RowKit
theorem array_exact (x : Am) (w : World) :
  Calls Tryz.prog 54 #[amV x] w fun e w' => e = .returned (amV x) ∧ w' = (w.alloc (.cells #[.int .i64 x.c, .int .i64 x.r, .int .i64 x.d, .int .i64 x.p] 23)).alloc (.cells #[.int .i64 x.c, .int .i64 x.r, .int .i64 x.d, .int .i64 x.p] 84) := by
 go_enter Tryz.func54, Tryz.ntmps54; go_wp2; refine bodyPost_ret (results_row rfl _ _ (w.heap.size + 1) 84 #[.int .i64 x.c, .int .i64 x.r, .int .i64 x.d, .int .i64 x.p] (0, 0) _ rfl ?_ Tryz.underlying84 rfl (by kernel_rfl)) rfl ⟨rfl, rfl⟩; have := Blk.made (w.alloc (.cells #[.int .i64 x.c, .int .i64 x.r, .int .i64 x.d, .int .i64 x.p] 23)) [.int .i64 x.c, .int .i64 x.r, .int .i64 x.d, .int .i64 x.p] 84
 simpa [Blk] using this
theorem amounts_any (x : Am) (w : World) :
  Calls Tryz.prog 102 #[amV x] w fun e w' => e = .returned (amV x) ∧ Below w.heap.size w w' := by
 go_enter Tryz.func102, Tryz.ntmps102; go_wp2; refine bodyPost_ret (results_row rfl _ _ (w.heap.size + 1) 23 #[.int .i64 x.c, .int .i64 x.r, .int .i64 x.d, .int .i64 x.p] (0, 0) _ rfl ?_ Tryz.underlying23 rfl (by kernel_rfl)) rfl ⟨rfl, below_and (below_alloc w _) (below_alloc _ _)⟩; have := Blk.made (w.alloc (.cells #[.int .i64 x.c, .int .i64 x.r, .int .i64 x.d, .int .i64 x.p] 84)) [.int .i64 x.c, .int .i64 x.r, .int .i64 x.d, .int .i64 x.p] 23
 simpa [Blk] using this
theorem Blk.drew {w : World} {g : Nat} {cs : List Value} {t : TypeId} (h : Blk w g cs t) : Blk w.drew g cs t := h
theorem Blk.made_at {w : World} {g : Nat} {cs : List Value} {t : TypeId} (h : w.heap.size = g) : Blk (w.alloc (.cells cs.toArray t)) g cs t := h ▸ Blk.made w cs t
theorem bl_drew {n : Nat} {a w : World} (h : Below n a w) : Below n a w.drew := Below.drewN' h 1
theorem bl_alloc {n : Nat} {a w : World} (o : Obj) (h : Below n a w) (hB : n ≤ w.heap.size) : Below n a (w.alloc o) := h.alloc hB o
theorem eight {w : World} {g h : Nat} {x y : Am} {t u : TypeId} (h0 : Blk w g (amC x) t) (h1 : Blk w h (amC y) u) : w.cell? ⟨g, 0, none⟩ = some (.int .i64 x.c) ∧ w.cell? ⟨g, 1, none⟩ = some (.int .i64 x.r) ∧ w.cell? ⟨g, 2, none⟩ = some (.int .i64 x.d) ∧ w.cell? ⟨g, 3, none⟩ = some (.int .i64 x.p) ∧ w.cell? ⟨h, 0, none⟩ = some (.int .i64 y.c) ∧ w.cell? ⟨h, 1, none⟩ = some (.int .i64 y.r) ∧ w.cell? ⟨h, 2, none⟩ = some (.int .i64 y.d) ∧ w.cell? ⟨h, 3, none⟩ = some (.int .i64 y.p) :=
 ⟨h0.cell (j := 0) rfl, h0.cell (j := 1) rfl, h0.cell (j := 2) rfl, h0.cell (j := 3) rfl, h1.cell (j := 0) rfl, h1.cell (j := 1) rfl, h1.cell (j := 2) rfl, h1.cell (j := 3) rfl⟩
def Two (B : Nat) (w : World) (u v : Value) (x y : Am) : Prop :=
 ∃ g h, u = ptr g ∧ v = ptr h ∧ g ≠ h ∧ B ≤ g ∧ B ≤ h ∧ Blk w g (amC x) 84 ∧ Blk w h (amC y) 84
def Am.mix (k : Nat) (x z : Am) : Am := ⟨if 0 < k then z.c else x.c, if 1 < k then z.r else x.r, if 2 < k then z.d else x.d, if 3 < k then z.p else x.p⟩
theorem Am.mix_get (k : Nat) (hk : k < 4) (x z : Am) : (amC (Am.mix k x z))[k]? = some (.int .i64 (x.get k)) := by
 match k, hk with
 | 0, _ => rfl
 | 1, _ => rfl
 | 2, _ => rfl
 | 3, _ => rfl
 | n + 4, h => omega
theorem Am.mix_set (k : Nat) (hk : k < 4) (x z : Am) : (amC (Am.mix k x z)).set k (.int .i64 (z.get k)) = amC (Am.mix (k + 1) x z) := by
 match k, hk with
 | 0, _ => rfl
 | 1, _ => rfl
 | 2, _ => rfl
 | 3, _ => rfl
 | n + 4, h => omega
theorem Am.ext_get {x y : Am} (h : ∀ k, k < 4 → x.get k = y.get k) : x = y := by
 cases x; cases y; have h0 := h 0 (by omega); have h1 := h 1 (by omega); have h2 := h 2 (by omega); have h3 := h 3 (by omega); simp only [Am.get] at h0 h1 h2 h3; rw [h0, h1, h2, h3]
def Am.of (f : Nat → Int) : Am := ⟨f 0, f 1, f 2, f 3⟩
theorem Am.of_get (f : Nat → Int) (k : Nat) (hk : k < 4) : (Am.of f).get k = f k := by
 match k, hk with
 | 0, _ => rfl
 | 1, _ => rfl
 | 2, _ => rfl
 | 3, _ => rfl
 | n + 4, h => omega
def any4 (f : Nat → Bool) : Bool := f 0 || f 1 || f 2 || f 3
theorem any4_yes {f : Nat → Bool} {k : Nat} (hk : k < 4) (h : f k = true) : any4 f = true := by
 unfold any4
 match k, hk with
 | 0, _ => simp [h]
 | 1, _ => simp [h]
 | 2, _ => simp [h]
 | 3, _ => simp [h]
 | n + 4, hk => omega
theorem any4_no {f : Nat → Bool} (h : ∀ k, k < 4 → f k = false) : any4 f = false := by
 unfold any4
 rw [h 0 (by omega), h 1 (by omega), h 2 (by omega), h 3 (by omega)]
 rfl
theorem any4_false {f : Nat → Bool} (h : any4 f = false) {k : Nat} (hk : k < 4) : f k = false := by
 cases hf : f k
 ·rfl
 ·rw [any4_yes hk hf] at h; cases h
def addR (x y : Am) : Am × Int :=
 if (x.okB && y.okB) = false then (.zero, 2) else if any4 (fun k => decide (1099511627776 < x.get k + y.get k)) = true then (.zero, 9) else (.of fun k => x.get k + y.get k, 0)
def fitsB (x y : Am) : Bool := !any4 (fun k => decide (y.get k < x.get k))
def subR (x y : Am) : Am × Int :=
 if (x.okB && y.okB) = false then (.zero, 2) else if fitsB y x = false then (.zero, 14) else (.of fun k => x.get k - y.get k, 0)
theorem addR_bad {x y : Am} (h : (x.okB && y.okB) = false) : addR x y = (.zero, 2) := by unfold addR; rw [if_pos h]
theorem addR_over {x y : Am} (h : (x.okB && y.okB) = true) {k : Nat} (hk : k < 4) (ho : 1099511627776 < x.get k + y.get k) : addR x y = (.zero, 9) := by
 unfold addR; rw [if_neg (by rw [h]; decide), if_pos (any4_yes hk (by simpa using ho))]
theorem addR_ok {x y z : Am} (h : (x.okB && y.okB) = true) (ho : ∀ k, k < 4 → x.get k + y.get k ≤ 1099511627776) (hz : ∀ k, k < 4 → z.get k = x.get k + y.get k) : addR x y = (z, 0) := by
 unfold addR
 rw [if_neg (by rw [h]; decide), if_neg (by rw [any4_no (fun k hk => by have := ho k hk; simpa using this)]; decide)]
 congr 1
 exact Am.ext_get fun k hk => by rw [Am.of_get _ k hk, hz k hk]
theorem subR_bad {x y : Am} (h : (x.okB && y.okB) = false) : subR x y = (.zero, 2) := by unfold subR; rw [if_pos h]
theorem subR_fit {x y : Am} (h : (x.okB && y.okB) = true) (hf : fitsB y x = false) : subR x y = (.zero, 14) := by
 unfold subR; rw [if_neg (by rw [h]; decide), if_pos hf]
theorem subR_ok {x y z : Am} (h : (x.okB && y.okB) = true) (hf : fitsB y x = true) (hz : ∀ k, k < 4 → z.get k = x.get k - y.get k) : subR x y = (z, 0) := by
 unfold subR
 rw [if_neg (by rw [h]; decide), if_neg (by rw [hf]; decide)]
 congr 1
 exact Am.ext_get fun k hk => by rw [Am.of_get _ k hk, hz k hk]
theorem ok_get {x : Am} (h : x.okB = true) {k : Nat} (hk : k < 4) : 0 ≤ x.get k ∧ x.get k ≤ 1099511627776 := (Am.okB_iff x).1 h k hk
theorem amsC_one (xs : List Am) : ∀ u ∈ amsC xs, u.oneCell' = true := by
 intro u hu; obtain ⟨x, -, hx⟩ := List.mem_flatMap.1 hu; simp only [List.mem_cons, List.not_mem_nil, or_false] at hx; rcases hx with rfl | rfl | rfl | rfl <;> rfl
theorem ams_block {w : World} {g : Nat} {xs : List Am} {e : TypeId} {fr : Nat × Nat} (hg : w.heap[g]? = some (.cells (amsC xs).toArray e fr)) (hm : xs.length ≤ maxLen) : Ams w (.slice (some ⟨g, 0, none⟩) xs.length xs.length) xs := by
 refine ⟨_, _, rfl, Nat.le_refl _, hm, amsC_length xs, amsC_one xs, by simp, .inr ⟨g, 0, rfl, fun j u hj => ?_⟩⟩; rw [cell_of_row w g (0 + j) _ _ _ hg]
 simpa using hj
theorem ams_two (w : World) (x y : Am) : Ams (w.alloc (.cells #[.int .i64 x.c, .int .i64 x.r, .int .i64 x.d, .int .i64 x.p, .int .i64 y.c, .int .i64 y.r, .int .i64 y.d, .int .i64 y.p] 23)) (.slice (some ⟨w.heap.size, 0, none⟩) 2 2) [x, y] :=
 ams_block (xs := [x, y]) (heap_alloc_new w _) (by simp [maxLen])
theorem all_two (w : World) (x y : Am) : Calls Tryz.prog 101 #[.slice (some ⟨w.heap.size, 0, none⟩) 2 2] (w.alloc (.cells #[.int .i64 x.c, .int .i64 x.r, .int .i64 x.d, .int .i64 x.p, .int .i64 y.c, .int .i64 y.r, .int .i64 y.d, .int .i64 y.p] 23)) fun e w' => e = .returned (.bool (x.okB && y.okB)) ∧ Below w.heap.size w w' :=
 (all_any _ [x, y] _ (ams_two w x y)).mono fun e w' ⟨h1, h2⟩ => ⟨by rw [h1]; simp [allB], below_and (below_alloc w _) h2⟩
