/- Texts of one proof, laid together: RGet, CutH, RGive, Mid, RResize, RTake. No condition of ours. -/
import Derived.Test.YtighcnecajgkpaaLS6
import Derived.Deep.RegionHeld3
import Derived.Deep.MidRow
namespace Go.Proofs.Ytighcnecajgkpaa
open Go.RowKit

theorem bel_set6R {n : Nat} {a w : World} {k : Nat} {p q r s t u : Value} (h : Below n a w) (hk : n ≤ k) : Below n a ((((((w.setCell ⟨k, 0, none⟩ p).setCell ⟨k, 1, none⟩ q).setCell ⟨k, 2, none⟩ r).setCell ⟨k, 3, none⟩ s).setCell ⟨k, 4, none⟩ t).setCell ⟨k, 5, none⟩ u) :=
  (((((h.setCell (p := ⟨k, 0, none⟩) hk _).setCell (p := ⟨k, 1, none⟩) hk _).setCell (p := ⟨k, 2, none⟩) hk _).setCell (p := ⟨k, 3, none⟩) hk _).setCell (p := ⟨k, 4, none⟩) hk _).setCell (p := ⟨k, 5, none⟩) hk _

set_option maxRecDepth 100000 in
set_option maxHeartbeats 2000000 in
theorem rfree_any (base g : Nat) (v : Value) (cap : Am) (L : List Ent) (w : World) (h : RLed base w g v cap L) (ho : Oks L) (hf : Fit (inB ⟨#[]⟩ ⟨#[]⟩) L) (hl : L.length ≤ 100000) (z : Am) (er : Int) (hz : subR cap (sumA (inB ⟨#[]⟩ ⟨#[]⟩) L) = (z, er)) :
    Calls Try.prog 41 #[ptr g] w fun e w' => e = .returned (.agg #[.int .i64 z.c, .int .i64 z.r, .int .i64 z.d, .int .i64 z.p]) ∧ Below w.heap.size w w' := by
  obtain ⟨w3, hw3⟩ : ∃ w3, w3 = w.alloc (.cells #[.int .i64 0, .int .i64 0, .int .i64 0, .int .i64 0] 28) := ⟨_, rfl⟩
  obtain ⟨B, hB⟩ : ∃ B, B = w.heap.size := ⟨_, rfl⟩
  have S0 : Hid (Blk w3 B (amC .zero) 28) := Lib.hid (by rw [hw3, hB]; exact Blk.made w (amC .zero) _)
  have HBL : Hid (Below w.heap.size w w3) := Lib.hid (by rw [hw3]; exact below_alloc w _)
  have HBW : Hid (w.heap.size ≤ B) := Lib.hid (by omega)
  have HRM := Lib.hid (rroom_top base g v cap L ⟨#[]⟩ ⟨#[]⟩ w3 (h.kept HBL.out) ho hf hl (by rw [nil_list]; rfl) z er hz)
  clear h ho hf hz
  go_enter Try.func41, Try.ntmps41
  go_upto_region 1 with fail
  rw [← hw3, ← hB]
  clear hw3 hB
  go_wp2_with (go_at_call 36; refine HRM.out.mono ?_; rintro e w4 ⟨rfl, hb⟩; have hbr := S0.out.kept hb; have BR := Lib.hid hbr; have HB4 := Lib.hid (below_and HBL.out hb); have r0 := hbr.cell (j := 0) rfl; have r1 := hbr.cell (j := 1) rfl; have r2 := hbr.cell (j := 2) rfl; have r3 := hbr.cell (j := 3) rfl; have f0 := hbr.free 0; have f1 := hbr.free 1; have f2 := hbr.free 2; have f3 := hbr.free 3; clear hb hbr)
  refine bodyPost_ret (results_row rfl _ _ B 28 #[.int .i64 z.c, .int .i64 z.r, .int .i64 z.d, .int .i64 z.p] (0, 0) _ rfl ?_ Try.underlying28 rfl (by kernel_rfl)) rfl ⟨rfl, bel_set4 HB4.out HBW.out⟩
  exact (((BR.out.set 0 (.int .i64 z.c)).set 1 (.int .i64 z.r)).set 2 (.int .i64 z.d)).set 3 (.int .i64 z.p)

set_option maxRecDepth 100000 in
set_option maxHeartbeats 2000000 in
theorem rleft_no (base g : Nat) (v : Value) (cap : Am) (L : List Ent) (s : ByteArray) (w : World) (h : RLed base w g v cap L) (hp : plc L s = none) :
    Calls Try.prog 15 #[ptr g, .string s] w fun e w' => e = .returned (.tuple #[.agg #[.int .i64 0, .int .i64 0, .int .i64 0, .int .i64 0], .int .i64 6]) ∧ Below w.heap.size w w' := by
  obtain ⟨w3, hw3⟩ : ∃ w3, w3 = w.alloc (.cells #[.int .i64 0, .int .i64 0, .int .i64 0, .int .i64 0] 28) := ⟨_, rfl⟩
  obtain ⟨B, hB⟩ : ∃ B, B = w.heap.size := ⟨_, rfl⟩
  have S0 : Hid (Blk w3 B (amC .zero) 28) := Lib.hid (by rw [hw3, hB]; exact Blk.made w (amC .zero) _)
  have HBL : Hid (Below w.heap.size w w3) := Lib.hid (by rw [hw3]; exact below_alloc w _)
  have HBW : Hid (w.heap.size ≤ B) := Lib.hid (by omega)
  have HP := Lib.hid (place_any base g v cap L s w3 (h.kept HBL.out))
  have HPI : Hid (plcI L s = -1) := Lib.hid (by unfold plcI; rw [hp])
  clear h hp
  go_enter Try.func15, Try.ntmps15
  go_upto_region 1 with fail
  rw [← hw3, ← hB]
  clear hw3 hB
  go_wp2_with (go_at_call 35; refine HP.out.mono ?_; rw [HPI.out]; rintro e w4 ⟨rfl, hb⟩; have hbr := S0.out.kept hb; have BR := Lib.hid hbr; have HB4 := Lib.hid (below_and HBL.out hb); have r0 := hbr.cell (j := 0) rfl; have r1 := hbr.cell (j := 1) rfl; have r2 := hbr.cell (j := 2) rfl; have r3 := hbr.cell (j := 3) rfl; have f0 := hbr.free 0; have f1 := hbr.free 1; have f2 := hbr.free 2; have f3 := hbr.free 3; clear hb hbr)
  refine bodyPost_ret (results_row_tmp rfl _ _ B 28 #[.int .i64 0, .int .i64 0, .int .i64 0, .int .i64 0] (0, 0) _ rfl ?_ Try.underlying28 rfl (by kernel_rfl)) rfl ⟨rfl, bel_set4 HB4.out HBW.out⟩
  exact (((BR.out.set 0 (.int .i64 0)).set 1 (.int .i64 0)).set 2 (.int .i64 0)).set 3 (.int .i64 0)

set_option maxRecDepth 100000 in
set_option maxHeartbeats 2000000 in
theorem rleft_yes (base g : Nat) (v : Value) (cap : Am) (L : List Ent) (s : ByteArray) (w : World) (h : RLed base w g v cap L) (ho : Oks L) (hf : Fit (inB s ⟨#[]⟩) L) (hl : L.length ≤ 100000) (hs : s.toList.isEmpty = false) (k : Nat) (hk : k < L.length) (hp : plc L s = some k) (z : Am) (er : Int) (hz : subR L[k].a (sumA (inB s ⟨#[]⟩) L) = (z, er)) :
    Calls Try.prog 15 #[ptr g, .string s] w fun e w' => e = .returned (.tuple #[.agg #[.int .i64 z.c, .int .i64 z.r, .int .i64 z.d, .int .i64 z.p], .int .i64 0]) ∧ Below w.heap.size w w' := by
  obtain ⟨w3, hw3⟩ : ∃ w3, w3 = w.alloc (.cells #[.int .i64 0, .int .i64 0, .int .i64 0, .int .i64 0] 28) := ⟨_, rfl⟩
  obtain ⟨B, hB⟩ : ∃ B, B = w.heap.size := ⟨_, rfl⟩
  have S0 : Hid (Blk w3 B (amC .zero) 28) := Lib.hid (by rw [hw3, hB]; exact Blk.made w (amC .zero) _)
  have HBL : Hid (Below w.heap.size w w3) := Lib.hid (by rw [hw3]; exact below_alloc w _)
  have HBW : Hid (w.heap.size ≤ B) := Lib.hid (by omega)
  have H3 := Lib.hid (h.kept HBL.out)
  have HP := Lib.hid (place_any base g v cap L s w3 (h.kept HBL.out))
  have HPI : Hid (plcI L s = (k : Int)) := Lib.hid (by unfold plcI; rw [hp])
  have HRM : Hid (∀ w, RLed base w g v cap L → Calls Try.prog 36 #[ptr g, .string s, .string ⟨#[]⟩] w fun e w' => e = .returned (amV z) ∧ Below w.heap.size w w') := Lib.hid (fun w h => rroom_in base g v cap L s ⟨#[]⟩ w h ho hf hl hs k hk hp z er hz)
  have i1 : ¬ ((k : Int) < 0) := by omega
  clear h ho hf hz hp hs hk
  go_enter Try.func15, Try.ntmps15
  go_upto_region 1 with fail
  rw [← hw3, ← hB]
  clear hw3 hB
  go_wp2_with (first
    | (go_at_call 35; refine HP.out.mono ?_; rw [HPI.out]; rintro e w4 ⟨rfl, hb⟩; have HB4 := Lib.hid hb; clear hb)
    | (go_at_call 36; refine (HRM.out _ (H3.out.kept HB4.out)).mono ?_; rintro e w5 ⟨rfl, hb⟩; have hbr := (S0.out.kept HB4.out).kept hb; have BR := Lib.hid hbr; have HB5 := Lib.hid (below_and HBL.out (below_and HB4.out hb)); have r0 := hbr.cell (j := 0) rfl; have r1 := hbr.cell (j := 1) rfl; have r2 := hbr.cell (j := 2) rfl; have r3 := hbr.cell (j := 3) rfl; have f0 := hbr.free 0; have f1 := hbr.free 1; have f2 := hbr.free 2; have f3 := hbr.free 3; clear hb hbr))
  refine bodyPost_ret (results_row_tmp rfl _ _ B 28 #[.int .i64 z.c, .int .i64 z.r, .int .i64 z.d, .int .i64 z.p] (0, 0) _ rfl ?_ Try.underlying28 rfl (by kernel_rfl)) rfl ⟨rfl, bel_set4 HB5.out HBW.out⟩
  exact (((BR.out.set 0 (.int .i64 z.c)).set 1 (.int .i64 z.r)).set 2 (.int .i64 z.d)).set 3 (.int .i64 z.p)

set_option maxRecDepth 100000 in
set_option maxHeartbeats 2000000 in
theorem rget_no (base g : Nat) (v : Value) (cap : Am) (L : List Ent) (s : ByteArray) (w : World) (h : RLed base w g v cap L) (hp : plc L s = none) :
    Calls Try.prog 23 #[ptr g, .string s] w fun e w' => e = .returned (.tuple #[entV zE, .int .i64 6]) ∧ Below w.heap.size w w' := by
  obtain ⟨w3, hw3⟩ : ∃ w3, w3 = w.alloc (.cells #[.string ⟨#[]⟩, .string ⟨#[]⟩, .int .i64 0, .int .i64 0, .int .i64 0, .int .i64 0] 48) := ⟨_, rfl⟩
  obtain ⟨B, hB⟩ : ∃ B, B = w.heap.size := ⟨_, rfl⟩
  have S0 : Hid (Blk w3 B (entC zE) 48) := Lib.hid (by rw [hw3, hB]; exact Blk.made w (entC zE) _)
  have HBL : Hid (Below w.heap.size w w3) := Lib.hid (by rw [hw3]; exact below_alloc w _)
  have HBW : Hid (w.heap.size ≤ B) := Lib.hid (by omega)
  have HP := Lib.hid (place_any base g v cap L s w3 (h.kept HBL.out))
  have HPI : Hid (plcI L s = -1) := Lib.hid (by unfold plcI; rw [hp])
  clear h hp
  go_enter Try.func23, Try.ntmps23
  go_upto_region 1 with fail
  rw [← hw3, ← hB]
  clear hw3 hB
  go_wp2_with (go_at_call 35; refine HP.out.mono ?_; rw [HPI.out]; rintro e w4 ⟨rfl, hb⟩; have hbr := S0.out.kept hb; have BR := Lib.hid hbr; have HB4 := Lib.hid (below_and HBL.out hb); have r0 := hbr.cell (j := 0) rfl; have r1 := hbr.cell (j := 1) rfl; have r2 := hbr.cell (j := 2) rfl; have r3 := hbr.cell (j := 3) rfl; have r4 := hbr.cell (j := 4) rfl; have r5 := hbr.cell (j := 5) rfl; have f0 := hbr.free 0; have f1 := hbr.free 1; have f2 := hbr.free 2; have f3 := hbr.free 3; have f4 := hbr.free 4; have f5 := hbr.free 5; clear hb hbr)
  refine bodyPost_ret (results_row_tmp rfl _ _ B 48 #[.string ⟨#[]⟩, .string ⟨#[]⟩, .int .i64 0, .int .i64 0, .int .i64 0, .int .i64 0] (0, 0) _ rfl ?_ Try.underlying48 rfl (by kernel_rfl)) rfl ⟨rfl, bel_set6R HB4.out HBW.out⟩
  exact blk6 (x := zE) (z := zE) BR.out

set_option maxRecDepth 100000 in
set_option maxHeartbeats 2000000 in
theorem rget_yes (base g : Nat) (v : Value) (cap : Am) (L : List Ent) (s : ByteArray) (w : World) (h : RLed base w g v cap L) (k : Nat) (hk : k < L.length) (hp : plc L s = some k) :
    Calls Try.prog 23 #[ptr g, .string s] w fun e w' => e = .returned (.tuple #[entV L[k], .int .i64 0]) ∧ Below w.heap.size w w' := by
  obtain ⟨p, c, rfl, hc, hm⟩ := h.shape
  have hml : maxLen ≤ 9223372036854775807 := by decide
  obtain ⟨w3, hw3⟩ : ∃ w3, w3 = w.alloc (.cells #[.string ⟨#[]⟩, .string ⟨#[]⟩, .int .i64 0, .int .i64 0, .int .i64 0, .int .i64 0] 48) := ⟨_, rfl⟩
  obtain ⟨B, hB⟩ : ∃ B, B = w.heap.size := ⟨_, rfl⟩
  have S0 : Hid (Blk w3 B (entC zE) 48) := Lib.hid (by rw [hw3, hB]; exact Blk.made w (entC zE) _)
  have HBL : Hid (Below w.heap.size w w3) := Lib.hid (by rw [hw3]; exact below_alloc w _)
  have HBW : Hid (w.heap.size ≤ B) := Lib.hid (by omega)
  have H3 := Lib.hid (h.kept HBL.out)
  have HP := Lib.hid (place_any base g _ cap L s w3 (h.kept HBL.out))
  have HPI : Hid (plcI L s = (k : Int)) := Lib.hid (by unfold plcI; rw [hp])
  have i0 : ¬ ((k : Int) < 0) := by omega
  have i1 : (k : Int) < (L.length : Int) := by omega
  obtain ⟨x, hx⟩ : ∃ x, x = L[k] := ⟨_, rfl⟩
  obtain ⟨q0, rfl, hcs⟩ := h.at hk
  rw [← hx] at hcs ⊢
  have HCS := Lib.hid hcs
  clear h hp hcs hx
  go_enter Try.func23, Try.ntmps23
  go_upto_region 1 with fail
  rw [← hw3, ← hB]
  clear hw3 hB
  go_wp2_with (go_at_call 35; refine HP.out.mono ?_; rw [HPI.out]; rintro e w4 ⟨rfl, hb⟩; have hbr := S0.out.kept hb; have BR := Lib.hid hbr; have HB4 := Lib.hid (below_and HBL.out hb); have r0 := hbr.cell (j := 0) rfl; have r1 := hbr.cell (j := 1) rfl; have r2 := hbr.cell (j := 2) rfl; have r3 := hbr.cell (j := 3) rfl; have r4 := hbr.cell (j := 4) rfl; have r5 := hbr.cell (j := 5) rfl; have f0 := hbr.free 0; have f1 := hbr.free 1; have f2 := hbr.free 2; have f3 := hbr.free 3; have f4 := hbr.free 4; have f5 := hbr.free 5; have c4 := (H3.out.kept hb).blk.cell (j := 4) rfl; have x0 : w4.cell? ⟨q0, k * 6, none⟩ = some (.string x.n) := cell_kept (HCS.out 0 _ (by omega) rfl) (below_and HBL.out hb); have x1 : w4.cell? ⟨q0, k * 6 + 1, none⟩ = some (.string x.i) := cell_kept (HCS.out 1 _ (by omega) rfl) (below_and HBL.out hb); have x2 : w4.cell? ⟨q0, k * 6 + 2, none⟩ = some (.int .i64 x.a.c) := cell_kept (HCS.out 2 _ (by omega) rfl) (below_and HBL.out hb); have x3 : w4.cell? ⟨q0, k * 6 + 3, none⟩ = some (.int .i64 x.a.r) := cell_kept (HCS.out 3 _ (by omega) rfl) (below_and HBL.out hb); have x4 : w4.cell? ⟨q0, k * 6 + 4, none⟩ = some (.int .i64 x.a.d) := cell_kept (HCS.out 4 _ (by omega) rfl) (below_and HBL.out hb); have x5 : w4.cell? ⟨q0, k * 6 + 5, none⟩ = some (.int .i64 x.a.p) := cell_kept (HCS.out 5 _ (by omega) rfl) (below_and HBL.out hb); clear hb hbr)
  refine bodyPost_ret (results_row_tmp rfl _ _ B 48 #[.string x.n, .string x.i, .int .i64 x.a.c, .int .i64 x.a.r, .int .i64 x.a.d, .int .i64 x.a.p] (0, 0) _ rfl ?_ Try.underlying48 rfl (by kernel_rfl)) rfl ⟨rfl, bel_set6R HB4.out HBW.out⟩
  exact blk6 (x := zE) (z := x) BR.out
end Go.Proofs.Ytighcnecajgkpaa
namespace Go.Proofs.Ytighcnecajgkpaa
open Go.RowKit Go

section
variable {P : Program}
theorem lastQ_start {M : List Oper} {o : Oper} {Q : Exit → Act → World → Prop} {a : Act} {w : World} (h : wpList P (M ++ [o]).toArray Q [o] a w) : popQ P (M ++ [o]).toArray Q M.length .normal a w := by
  have g1 : (M ++ [o]).toArray[M.length]? = some o := by simp
  show wpOp P (M ++ [o]).toArray Q M.length (fun a' w' => Q .normal a' w') a w
  unfold wpOp
  rw [g1]
  exact h
/-- what is asked behind the front -/
def LastQ (P : Program) (L M : List Oper) (Q : Exit → Act → World → Prop) : Exit → Act → World → Prop := popQ P L.toArray Q M.length
theorem LastQ.start {L M : List Oper} {o : Oper} {Q : Exit → Act → World → Prop} {a : Act} {w : World} (hL : cut1 L = some (M, o)) (h : wpList P L.toArray Q [o] a w) : LastQ P L M Q .normal a w := by
  have hL' := cut1_spec hL
  subst hL'
  exact lastQ_start h
theorem wp_region_lastH {id : Nat} {Q : Exit → Act → World → Prop} {a : Act} {w : World} {L M : List Oper} {o : Oper} (S : World → Prop) (n : Nat) (hL : cut1 L = some (M, o)) (hMn : M.length = n) (hm : P.follows .mixedOrders = true) (hp : popB L.toArray = true) (hS : S w.drew)
    (h : S w.drew → wpAnyH P .any M.toArray (LastQ P L M Q) S n (Array.replicate n false) a w.drew) : (Code.region id L.toArray true).wp P Q a w := by
  have hL' := cut1_spec hL
  subst hL'
  subst hMn
  refine wp_region_pop (S := S) hm hp ?_
  have hn : (M ++ [o]).toArray.size - 1 = M.length := by simp
  have hpop : (M ++ [o]).toArray.pop = M.toArray := by simp
  rw [hn, hpop]
  exact h hS
end
end Go.Proofs.Ytighcnecajgkpaa
namespace Go.Proofs.Ytighcnecajgkpaa
open Go.RowKit

theorem i64_in {n : Int} (h : -9223372036854775808 ≤ n ∧ n ≤ 9223372036854775807) : IntKind.i64.wrap n = n := by
  rw [IntKind.wrap_i64]; omega
/-- what a call of the document's ledger turns -/
structure RStep (w w' : World) (g : Nat) (v v' : Value) : Prop where
  fr : Fr (g :: v.ownBlock.toList) w w'
  new : ∀ k, v'.ownBlock = some k → v.ownBlock = some k ∨ w.heap.size ≤ k
theorem own_mono {w : World} {b c : Nat} {e : TypeId} {size : Nat} {v : Value} {n : Nat} {xs : List Value} (h : w.ownsRow b e size v n xs) (hc : c ≤ b) : w.ownsRow c e size v n xs := by
  refine ⟨h.1, ?_⟩
  rcases h.2 with hn | ⟨g, cap, cur, rfl, hb, rest⟩
  · exact .inl hn
  · exact .inr ⟨g, cap, cur, rfl, Nat.le_trans hc hb, rest⟩
/-- a part of a row -/
theorem row_part {w : World} {base q n c size : Nat} {e : TypeId} {xs : List Value} (h : w.ownsRow base e size (.slice (some ⟨q, 0, none⟩) n c) n xs) (h1 : ∀ u ∈ xs, u.oneCell' = true) {o m c' : Nat} (hm : o + m ≤ n) (hmc : m ≤ c') (hcc : c' ≤ maxLen) (p : Option Addr) (hp : p ≠ none) (hp2 : 0 < m → p = some ⟨q, o * size, none⟩) :
    Row w (.slice p m c') size m ((xs.drop (o * size)).take (m * size)) := by
  have hlen : xs.length = n * size := h.1
  have hos : o * size + m * size ≤ n * size := by rw [← Nat.add_mul]; exact Nat.mul_le_mul_right _ hm
  refine ⟨p, c', rfl, hmc, hcc, by rw [List.length_take, List.length_drop]; omega, fun u hu => h1 u (List.mem_of_mem_drop (List.mem_of_mem_take hu)), fun e => absurd e hp, ?_⟩
  by_cases hm0 : 0 < m
  · refine .inr ⟨q, o * size, hp2 hm0, fun j u hj => own_cell h ?_⟩
    rw [List.getElem?_take] at hj
    split at hj
    · rw [List.getElem?_drop] at hj
      exact hj
    · cases hj
  · refine .inl ?_
    rw [show m = 0 from by omega, Nat.zero_mul, List.take_zero]
theorem entsC_split (L : List Ent) (k : Nat) : entsC L = entsC (L.take k) ++ entsC (L.drop k) := by
  unfold entsC
  rw [← List.flatMap_append, List.take_append_drop]
theorem entsC_first {L : List Ent} {k : Nat} (hk : k ≤ L.length) : ((entsC L).drop (0 * 6)).take (k * 6) = entsC (L.take k) := by
  rw [Nat.zero_mul, List.drop_zero, entsC_split L k, List.take_left' (by rw [entsC_len, List.length_take]; omega)]
theorem entsC_from {L : List Ent} {k : Nat} (hk : k ≤ L.length) : ((entsC L).drop (k * 6)).take ((L.length - k) * 6) = entsC (L.drop k) := by
  rw [entsC_split L k, List.drop_left' (by rw [entsC_len, List.length_take]; omega), List.take_of_length_le (by rw [entsC_len, List.length_drop]; omega)]

set_option maxRecDepth 100000 in
set_option maxHeartbeats 4000000 in
theorem rgive_ok (base g : Nat) (v : Value) (cap : Am) (L : List Ent) (s : ByteArray) (w : World) (h : RLed base w g v cap L) (hl : L.length ≤ 100000) (hbs : base ≤ w.heap.size) (k : Nat) (hk : k < L.length) (hp : plc L s = some k) (hin : inL s L = []) :
    Calls Try.prog 39 #[ptr g, .string s] w fun e w' => e = .returned (.int .i64 0) ∧ ∃ v', RLed base w' g v' cap (L.eraseIdx k) ∧ RStep w w' g v v' := by
  obtain ⟨i0, hi, hz0, hz1, hz2⟩ := info_parts info_ent
  obtain ⟨p, c, rfl, hc, hm⟩ := h.shape
  have hml : maxLen ≤ 9223372036854775807 := by decide
  obtain ⟨q0, rfl, -⟩ := h.at hk
  have H := Lib.hid h
  have HP := Lib.hid (place_any base g _ cap L s w h)
  have HPI : Hid (plcI L s = (k : Int)) := Lib.hid (by unfold plcI; rw [hp])
  have HIN : Hid (∀ w, RLed base w g (.slice (some ⟨q0, 0, none⟩) L.length c) cap L → Calls Try.prog 21 #[ptr g, .string s] w fun e w' => ∃ p c, e = .returned (.slice p 0 c) ∧ Below w.heap.size w w') := Lib.hid (fun w h => (rin_any base g _ cap L s w h hl).mono fun e w' ⟨v, he, hv, hb⟩ => by
    rw [hin] at hv
    obtain ⟨p, c, rfl, -, -⟩ := own_slice hv
    exact ⟨p, c, he, hb⟩)
  have HL := Lib.hid hl
  have HBS := Lib.hid hbs
  have i1 : ¬ ((k : Int) < 0) := by omega
  have b1 : (0 : Int) ≤ (k : Int) := by omega
  have b2 : (k : Int) ≤ (L.length : Int) := by omega
  have b3 : (k : Int) ≤ (c : Int) := by omega
  have b4 : (0 : Int) ≤ (k : Int) + 1 := by omega
  have b5 : (k : Int) + 1 ≤ (L.length : Int) := by omega
  have b6 : (L.length : Int) ≤ (c : Int) := by omega
  have u1 : IntKind.i64.wrap ((k : Int) + 1) = (k : Int) + 1 := i64_in (by omega)
  have u2 : ((k : Int) + 1).toNat = k + 1 := by omega
  clear h hp hin
  go_enter Try.func39, Try.ntmps39
  go_upto_region 6 with (first
    | (go_at_call 35; refine HP.out.mono ?_; rw [HPI.out]; rintro e w4 ⟨rfl, hb⟩; have HB4 := Lib.hid hb; have H4 := Lib.hid (H.out.kept hb); clear hb)
    | (go_at_call 21; refine (HIN.out _ H4.out).mono ?_; rintro e w5 ⟨p5, c5, rfl, hb⟩; have HB5 := Lib.hid (below_and HB4.out hb); have H5 := Lib.hid (H4.out.kept hb); clear hb))
  have c4 := H5.out.blk.cell (j := 4) rfl
  refine wp_region_noPanic ?_
  refine wp_region_lastH (fun w' => w'.cell? ⟨g, 4, none⟩ = some (.slice (some ⟨q0, 0, none⟩) L.length c) ∧ Below w5.heap.size w5 w') 19 rfl rfl (by kernel_rfl) (by kernel_rfl) ⟨c4, bl_drew (Below.refl _ _)⟩ (fun hHeld => ?_)
  refine wpAnyH_take (i := 0) (v := ?v0) rfl (by kernel_rfl) (by kernel_rfl) (by kernel_rfl) (fun _ _ _ h => h) (Or.inl ⟨by rfl, ?hy0⟩) (by assumption) ?rest0
  case hy0 => (intro _ hSw; (try dsimp only at hSw); go_simp; (try with_reducible rfl))
  (try simp only [Act.put]); (try simp only [List.setIfInBounds_toArray]); (try simp only [List.set_cons_succ]); (try simp only [List.set_cons_zero])
  refine wpAnyH_take (i := 2) (v := ?v2) rfl (by kernel_rfl) (by kernel_rfl) (by kernel_rfl) (fun _ _ _ h => h) (Or.inl ⟨by rfl, ?hy2⟩) (by assumption) ?rest2
  case hy2 => (intro _ hSw; (try dsimp only at hSw); go_simp; (try with_reducible rfl))
  (try simp only [Act.put]); (try simp only [List.setIfInBounds_toArray]); (try simp only [List.set_cons_succ]); (try simp only [List.set_cons_zero])
  refine wpAnyH_take (i := 3) (v := ?v3) rfl (by kernel_rfl) (by kernel_rfl) (by kernel_rfl) (fun _ _ _ h => h) (Or.inl ⟨by rfl, ?hy3⟩) (by assumption) ?rest3
  case hy3 => (intro _ hSw; (try dsimp only at hSw); go_simp; (try with_reducible rfl))
  (try simp only [Act.put]); (try simp only [List.setIfInBounds_toArray]); (try simp only [List.set_cons_succ]); (try simp only [List.set_cons_zero])
  refine wpAnyH_take (i := 4) (v := ?v4) rfl (by kernel_rfl) (by kernel_rfl) (by kernel_rfl) (fun _ _ _ h => h) (Or.inl ⟨by rfl, ?hy4⟩) (by assumption) ?rest4
  case hy4 => (intro _ hSw; (try dsimp only at hSw); go_simp; (try with_reducible rfl))
  (try simp only [Act.put]); (try simp only [List.setIfInBounds_toArray]); (try simp only [List.set_cons_succ]); (try simp only [List.set_cons_zero])
  refine wpAnyH_take (i := 5) (v := ?v5) rfl (by kernel_rfl) (by kernel_rfl) (by kernel_rfl) (fun _ _ _ h => h) (Or.inl ⟨by rfl, ?hy5⟩) (by assumption) ?rest5
  case hy5 => (intro _ hSw; (try dsimp only at hSw); go_simp; (try with_reducible rfl))
  (try simp only [Act.put]); (try simp only [List.setIfInBounds_toArray]); (try simp only [List.set_cons_succ]); (try simp only [List.set_cons_zero])
  refine wpAnyH_take (i := 6) (v := ?v6) rfl (by kernel_rfl) (by kernel_rfl) (by kernel_rfl) (fun _ _ _ h => h) (Or.inl ⟨by rfl, ?hy6⟩) (by assumption) ?rest6
  case hy6 => (intro _ hSw; (try dsimp only at hSw); go_simp; (try with_reducible rfl))
  (try simp only [Act.put]); (try simp only [List.setIfInBounds_toArray]); (try simp only [List.set_cons_succ]); (try simp only [List.set_cons_zero])
  refine wpAnyH_take (i := 7) (v := ?v7) rfl (by kernel_rfl) (by kernel_rfl) (by kernel_rfl) (fun _ _ _ h => h) (Or.inl ⟨by rfl, ?hy7⟩) (by assumption) ?rest7
  case hy7 => (intro _ hSw; (try dsimp only at hSw); go_simp; (try with_reducible rfl))
  (try simp only [Act.put]); (try simp only [List.setIfInBounds_toArray]); (try simp only [List.set_cons_succ]); (try simp only [List.set_cons_zero])
  refine wpAnyH_take (i := 9) (v := ?v9) rfl (by kernel_rfl) (by kernel_rfl) (by kernel_rfl) (fun _ _ _ h => h) (Or.inl ⟨by rfl, ?hy9⟩) (by assumption) ?rest9
  case hy9 => (intro _ hSw; (try dsimp only at hSw); go_simp; (try with_reducible rfl))
  (try simp only [Act.put]); (try simp only [List.setIfInBounds_toArray]); (try simp only [List.set_cons_succ]); (try simp only [List.set_cons_zero])
  refine wpAnyH_take (i := 10) (v := ?v10) rfl (by kernel_rfl) (by kernel_rfl) (by kernel_rfl) (fun _ _ _ h => h) (Or.inl ⟨by rfl, ?hy10⟩) (by assumption) ?rest10
  case hy10 => (intro _ hSw; (try dsimp only at hSw); go_simp; (try with_reducible rfl))
  (try simp only [Act.put]); (try simp only [List.setIfInBounds_toArray]); (try simp only [List.set_cons_succ]); (try simp only [List.set_cons_zero])
  refine wpAnyH_take (i := 11) (v := ?v11) rfl (by kernel_rfl) (by kernel_rfl) (by kernel_rfl) (fun _ _ _ h => h) (Or.inl ⟨by rfl, ?hy11⟩) (by assumption) ?rest11
  case hy11 => (intro _ hSw; (try dsimp only at hSw); go_simp; (try with_reducible rfl))
  (try simp only [Act.put]); (try simp only [List.setIfInBounds_toArray]); (try simp only [List.set_cons_succ]); (try simp only [List.set_cons_zero])
  refine wpAnyH_take (i := 12) (v := ?v12) rfl (by kernel_rfl) (by kernel_rfl) (by kernel_rfl) (fun _ _ _ h => h) (Or.inl ⟨by rfl, ?hy12⟩) (by assumption) ?rest12
  case hy12 => (intro _ hSw; (try dsimp only at hSw); go_simp; (try with_reducible rfl))
  (try simp only [Act.put]); (try simp only [List.setIfInBounds_toArray]); (try simp only [List.set_cons_succ]); (try simp only [List.set_cons_zero])
  refine wpAnyH_take (i := 13) (v := ?v13) rfl (by kernel_rfl) (by kernel_rfl) (by kernel_rfl) (fun _ _ _ h => h) (Or.inl ⟨by rfl, ?hy13⟩) (by assumption) ?rest13
  case hy13 => (intro _ hSw; (try dsimp only at hSw); go_simp; (try with_reducible rfl))
  (try simp only [Act.put]); (try simp only [List.setIfInBounds_toArray]); (try simp only [List.set_cons_succ]); (try simp only [List.set_cons_zero])
  refine wpAnyH_take (i := 14) (v := ?v14) rfl (by kernel_rfl) (by kernel_rfl) (by kernel_rfl) (fun _ _ _ h => h) (Or.inl ⟨by rfl, ?hy14⟩) (by assumption) ?rest14
  case hy14 => (intro _ hSw; (try dsimp only at hSw); go_simp; (try with_reducible rfl))
  (try simp only [Act.put]); (try simp only [List.setIfInBounds_toArray]); (try simp only [List.set_cons_succ]); (try simp only [List.set_cons_zero])
  refine wpAnyH_take (i := 15) (v := ?v15) rfl (by kernel_rfl) (by kernel_rfl) (by kernel_rfl) (fun _ _ _ h => h) (Or.inl ⟨by rfl, ?hy15⟩) (by assumption) ?rest15
  case hy15 => (intro _ hSw; (try dsimp only at hSw); go_simp; (try with_reducible rfl))
  (try simp only [Act.put]); (try simp only [List.setIfInBounds_toArray]); (try simp only [List.set_cons_succ]); (try simp only [List.set_cons_zero])
  refine wpAnyH_ready (rs := [1]) (by kernel_rfl) (by simp) ?_
  refine AllReadyH.cons rfl (fun K hK => ?_) AllReadyH.nil
  (try simp only [List.getElem_toArray]); (try simp only [List.getElem_cons_succ]); (try simp only [List.getElem_cons_zero])
  go_simp
  obtain ⟨w6, hw6⟩ : ∃ w6, w6 = (w5.alloc (.cells #[] 48)).drew := ⟨_, rfl⟩
  obtain ⟨z, hz⟩ : ∃ z, z = w5.heap.size := ⟨_, rfl⟩
  have hb6 : Below w5.heap.size w5 w6 := by rw [hw6]; exact below_ad w5 _
  have HO6 : Hid (w6.ownsRow z 48 6 (.slice (some ⟨z, 0, none⟩) 0 0) 0 []) := Lib.hid (by rw [hw6, hz]; exact own_fr (World.ownsRow_made w5 #[] 0 (Nat.le_refl _) (by decide) rfl) (Fr.of_below (below_drewN 1) []) (fun _ _ => by simp))
  have HB6 := Lib.hid hb6
  have H6 := Lib.hid (H5.out.kept hb6)
  have HZ := Lib.hid hz
  rw [← hw6, ← hz]
  refine hK.out _ _ ⟨H6.out.blk.cell (j := 4) rfl, hb6⟩ (fun hS1 => ?_)
  clear hw6 hz hb6 hK K
  (try simp only [Act.put]); (try simp only [List.setIfInBounds_toArray]); (try simp only [List.set_cons_succ]); (try simp only [List.set_cons_zero])
  refine wpAnyH_ready (rs := [8]) (by kernel_rfl) (by simp) ?_
  refine AllReadyH.cons rfl (fun K hK => ?_) AllReadyH.nil
  refine step_app rfl (.tmp 17) (.tmp 23) 56 56 rfl z 48 i0 (entV zE) 6 64 Try.underlying56 hi hz0 hz1 hz2 rfl (.slice (some ⟨z, 0, none⟩) 0 0) 0 [] (by rfl) HO6.out (.slice (some ⟨q0, 0, none⟩) k c) k (entsC (L.take k)) (by rfl) (Row.src Try.underlying56 (by have := row_part H6.out.row (entsC_one L) (o := 0) (m := k) (c' := c) (by omega) (by omega) hm (some ⟨q0, 0, none⟩) (by simp) (fun _ => by simp); rw [entsC_first (by omega)] at this; exact this)) (by have := HL.out; unfold maxLen; omega) (by have := HL.out; omega) (by rw [HZ.out]; exact HB6.out.size) ?_
  intro v7 w7 ho7 hg7 hn7 hk7
  have HO7 : Hid (w7.ownsRow z 48 6 v7 k (entsC (L.take k))) := Lib.hid (by simpa using ho7)
  have hf7 : Fr [z] w6 w7 := by simpa [Value.ownBlock] using Fr.of_grown hg7
  have hb7 : Below w5.heap.size w5 w7 := HB6.out.trans (hf7.below (by intro y hy; rw [List.mem_singleton.1 hy, HZ.out]; exact Nat.le_refl _) HB6.out.size)
  have HB7 := Lib.hid hb7
  have H7 := Lib.hid (H5.out.kept hb7)
  have HK7 : Hid (∀ y, v7.ownBlock = some y → z ≤ y) := Lib.hid (fun y hy => own_base HO7.out hy)
  refine hK.out _ _ ⟨H7.out.blk.cell (j := 4) rfl, hb7⟩ (fun hS2 => ?_)
  clear hK K ho7 hg7 hn7 hk7 hf7 hb7 hS1
  (try simp only [Act.put]); (try simp only [List.setIfInBounds_toArray]); (try simp only [List.set_cons_succ]); (try simp only [List.set_cons_zero])
  refine wpAnyH_ready (rs := [16]) (by kernel_rfl) (by simp) ?_
  refine AllReadyH.cons rfl (fun K hK => ?_) AllReadyH.nil
  refine step_app rfl (.tmp 24) (.tmp 31) 56 56 rfl z 48 i0 (entV zE) 6 64 Try.underlying56 hi hz0 hz1 hz2 rfl v7 k (entsC (L.take k)) (by rfl) HO7.out (.slice (if c = k + 1 then some ⟨q0, 0, none⟩ else some ⟨q0, (k + 1) * 6, none⟩) (L.length - (k + 1)) (c - (k + 1))) (L.length - (k + 1)) (entsC (L.drop (k + 1))) (by rfl) (Row.src Try.underlying56 (by have := row_part H7.out.row (entsC_one L) (o := k + 1) (m := L.length - (k + 1)) (c' := c - (k + 1)) (by omega) (by omega) (by omega) (if c = k + 1 then some ⟨q0, 0, none⟩ else some ⟨q0, (k + 1) * 6, none⟩) (by split <;> simp) (fun _ => by rw [if_neg (by omega)]); rw [entsC_from (by omega)] at this; exact this)) (by have := HL.out; unfold maxLen; omega) (by have := HL.out; omega) (by rw [HZ.out]; exact HB7.out.size) ?_
  intro v8 w8 ho8 hg8 hn8 hk8
  have HO8 : Hid (w8.ownsRow z 48 6 v8 (L.eraseIdx k).length (entsC (L.eraseIdx k))) := Lib.hid (by
    have e1 : entsC (L.take k) ++ entsC (L.drop (k + 1)) = entsC (L.eraseIdx k) := by rw [List.eraseIdx_eq_take_drop_succ]; unfold entsC; rw [List.flatMap_append]
    have e2 : k + (L.length - (k + 1)) = (L.eraseIdx k).length := by rw [List.length_eraseIdx_of_lt (by omega)]; omega
    rw [e1, e2] at ho8
    exact ho8)
  have hb8 : Below w5.heap.size w5 w8 := HB7.out.trans ((Fr.of_grown hg8).below (by intro y hy; rw [← HZ.out]; exact HK7.out y (Option.mem_toList.1 hy)) HB7.out.size)
  have HB8 := Lib.hid hb8
  have H8 := Lib.hid (H5.out.kept hb8)
  refine hK.out _ _ ⟨H8.out.blk.cell (j := 4) rfl, hb8⟩ (fun hS3 => ?_)
  clear hK K ho8 hg8 hn8 hk8 hb8 hS2
  (try simp only [Act.put]); (try simp only [List.setIfInBounds_toArray]); (try simp only [List.set_cons_succ]); (try simp only [List.set_cons_zero])
  refine wpAnyH_take (i := 17) (v := ?v17) rfl (by kernel_rfl) (by kernel_rfl) (by kernel_rfl) (fun _ _ _ h => h) (Or.inl ⟨by rfl, ?hy17⟩) (by assumption) ?rest17
  case hy17 => (intro _ hSw; (try dsimp only at hSw); go_simp; (try with_reducible rfl))
  (try simp only [Act.put]); (try simp only [List.setIfInBounds_toArray]); (try simp only [List.set_cons_succ]); (try simp only [List.set_cons_zero])
  refine wpAnyH_take (i := 18) (v := ?v18) rfl (by kernel_rfl) (by kernel_rfl) (by kernel_rfl) (fun _ _ _ h => h) (Or.inl ⟨by rfl, ?hy18⟩) (by assumption) ?rest18
  case hy18 => (intro _ hSw; (try dsimp only at hSw); go_simp; (try with_reducible rfl))
  (try simp only [Act.put]); (try simp only [List.setIfInBounds_toArray]); (try simp only [List.set_cons_succ]); (try simp only [List.set_cons_zero])
  refine wpAnyH_done (by kernel_rfl) ?_ _
  refine LastQ.start rfl ?_
  have d4 := H8.out.blk.cell (j := 4) rfl
  have f4 := H8.out.blk.free 4
  clear hS3 hHeld c4
  obtain ⟨p8, c8, rfl, -, -⟩ := own_slice HO8.out
  generalize (if c = k + 1 then some (⟨q0, 0, none⟩ : Addr) else some ⟨q0, (k + 1) * 6, none⟩) = pp
  go_wp2
  refine NoPanic.normal ?_
  go_wp2
  go_ret
  have hgz : g < z := by rw [HZ.out]; exact H5.out.blk.lt
  have hb8 := HB8.out
  refine ⟨rfl, _, ⟨H8.out.blk.set 4 _, own_mono (own_fr HO8.out ((Fr.refl [g] w8).set (p := ⟨g, 4, none⟩) (by simp) _) (fun y hy => by have := own_base HO8.out hy; simp; omega)) ?_, fun hq => ?_⟩, ⟨?_, fun y hy => ?_⟩⟩
  · rw [HZ.out]; have := HB5.out.size; have := HBS.out; omega
  · have := own_base HO8.out hq; omega
  · exact ((Fr.of_below HB5.out _).then (Fr.of_below hb8 _)).set (p := ⟨g, 4, none⟩) (by simp) _
  · have := own_base HO8.out hy; rw [HZ.out] at this; have := HB5.out.size; exact .inr (by omega)

theorem RStep.of_below {w w' : World} {g : Nat} {v : Value} (h : Below w.heap.size w w') : RStep w w' g v v := ⟨Fr.of_below h _, fun _ h => .inl h⟩
set_option maxRecDepth 100000 in
set_option maxHeartbeats 2000000 in
theorem rgive_none (base g : Nat) (v : Value) (cap : Am) (L : List Ent) (s : ByteArray) (w : World) (h : RLed base w g v cap L) (hp : plc L s = none) :
    Calls Try.prog 39 #[ptr g, .string s] w fun e w' => e = .returned (.int .i64 6) ∧ Below w.heap.size w w' := by
  have HP := Lib.hid (place_any base g _ cap L s w h)
  have HPI : Hid (plcI L s = -1) := Lib.hid (by unfold plcI; rw [hp])
  clear h hp
  go_enter Try.func39, Try.ntmps39
  go_wp2_with (go_at_call 35; refine HP.out.mono ?_; rw [HPI.out]; rintro e w4 ⟨rfl, hb⟩; have HB4 := Lib.hid hb; clear hb)
  go_ret
  exact ⟨rfl, HB4.out⟩
set_option maxRecDepth 100000 in
set_option maxHeartbeats 2000000 in
theorem rgive_state (base g : Nat) (v : Value) (cap : Am) (L : List Ent) (s : ByteArray) (w : World) (h : RLed base w g v cap L) (hl : L.length ≤ 100000) (k : Nat) (hp : plc L s = some k) (hin : inL s L ≠ []) :
    Calls Try.prog 39 #[ptr g, .string s] w fun e w' => e = .returned (.int .i64 13) ∧ Below w.heap.size w w' := by
  have HP := Lib.hid (place_any base g _ cap L s w h)
  have HPI : Hid (plcI L s = (k : Int)) := Lib.hid (by unfold plcI; rw [hp])
  have H := Lib.hid h
  obtain ⟨m, hm⟩ : ∃ m, (inL s L).length = m + 1 := ⟨(inL s L).length - 1, by have : (inL s L).length ≠ 0 := fun h0 => hin (List.length_eq_zero_iff.1 h0); omega⟩
  have HIN : Hid (∀ w, RLed base w g v cap L → Calls Try.prog 21 #[ptr g, .string s] w fun e w' => ∃ p c, e = .returned (.slice p (m + 1) c) ∧ Below w.heap.size w w') := Lib.hid (fun w h => (rin_any base g _ cap L s w h hl).mono fun e w' ⟨v, he, hv, hb⟩ => by
    rw [hm] at hv
    obtain ⟨p, c, rfl, -, -⟩ := own_slice hv
    exact ⟨p, c, he, hb⟩)
  have i1 : ¬ ((k : Int) < 0) := by omega
  have i2 : (0 : Int) < ((m + 1 : Nat) : Int) := by omega
  have i3 : (0 : Int) < (m : Int) + 1 := by omega
  clear h hp hin hm
  go_enter Try.func39, Try.ntmps39
  go_wp2_with (first
    | (go_at_call 35; refine HP.out.mono ?_; rw [HPI.out]; rintro e w4 ⟨rfl, hb⟩; have HB4 := Lib.hid hb; have H4 := Lib.hid (H.out.kept hb); clear hb)
    | (go_at_call 21; refine (HIN.out _ H4.out).mono ?_; rintro e w5 ⟨p5, c5, rfl, hb⟩; have HB5 := Lib.hid (below_and HB4.out hb); clear hb))
  go_ret
  exact ⟨rfl, HB5.out⟩
theorem rem_erase : ∀ (L : List Ent) (k : Nat) (hk : k < L.length), Apart L → rem L L[k].key = L.eraseIdx k
  | [], k, hk, _ => absurd hk (Nat.not_lt_zero _)
  | x :: L, 0, _, h => by
    have h1 := (List.pairwise_cons.1 h).1
    show rem (x :: L) x.key = L
    unfold rem
    rw [List.filter_cons_of_neg (by simp), List.filter_eq_self]
    intro y hy
    simpa using fun e => h1 y hy (by rw [e])
  | x :: L, k + 1, hk, h => by
    have h1 := (List.pairwise_cons.1 h)
    have hk' : k < L.length := by simpa using hk
    have ih := rem_erase L k hk' h1.2
    have hne := h1.1 L[k] (List.getElem_mem hk')
    show rem (x :: L) L[k].key = x :: L.eraseIdx k
    unfold rem at ih ⊢
    rw [List.filter_cons_of_pos (by simpa using hne), ih]
theorem key_of {e : Ent} {s : ByteArray} (h : e.n.toList = s.toList) : e.key = s.data.toList := by rw [← tl_key, h, Lib.toList_data]
theorem rgive_all (base g : Nat) (v : Value) (cap : Am) (L : List Ent) (s : ByteArray) (w : World) (h : RLed base w g v cap L) (hI : Inv cap L) (hl : L.length ≤ 100000) (hbs : base ≤ w.heap.size) :
    Calls Try.prog 39 #[ptr g, .string s] w fun e w' => e = .returned (.int .i64 (giveP L s).1) ∧ ∃ v', RLed base w' g v' cap (giveP L s).2 ∧ RStep w w' g v v' := by
  cases hp : plc L s with
  | none =>
    have e : giveP L s = (6, L) := by unfold giveP; rw [plc_none hp]
    rw [e]
    exact (rgive_none base g v cap L s w h hp).mono fun e w' ⟨h1, h2⟩ => ⟨h1, v, h.kept h2, .of_below h2⟩
  | some k =>
    obtain ⟨hk, hn, hf⟩ := plc_some hp
    by_cases hin : inL s L = []
    · have e : giveP L s = (0, L.eraseIdx k) := by
        unfold giveP
        rw [hf]
        simp only
        rw [if_pos hin, ← key_of hn, rem_erase L k hk hI.rise.apart]
      rw [e]
      exact rgive_ok base g v cap L s w h hl hbs k hk hp hin
    · have e : giveP L s = (13, L) := by unfold giveP; rw [hf]; simp only; rw [if_neg hin]
      rw [e]
      exact (rgive_state base g v cap L s w h hl k hp hin).mono fun e w' ⟨h1, h2⟩ => ⟨h1, v, h.kept h2, .of_below h2⟩
end Go.Proofs.Ytighcnecajgkpaa
namespace Go.Proofs.Ytighcnecajgkpaa
open Go.RowKit

theorem Blk.range {w : World} {g : Nat} {cs : List Value} {t : TypeId} (h : Blk w g cs t) {o : Nat} {vs : List Value} (hv : ∀ j v, vs[j]? = some v → cs[o + j]? = some v) : w.rangeAt g o vs := fun j v hj => h.cell (hv j v hj)
theorem Blk.range0 {w : World} {g : Nat} {cs : List Value} {t : TypeId} (h : Blk w g cs t) : w.rangeAt g 0 cs := fun j v hj => by rw [Nat.zero_add]; exact h.cell hj
theorem Blk.there {w : World} {g : Nat} {cs : List Value} {t : TypeId} (h : Blk w g cs t) {o n : Nat} (hn : o + n ≤ cs.length) : w.there g o n := fun j hj => ⟨by rw [h.cell (List.getElem?_eq_getElem (by omega : o + j < cs.length))]; rfl, h.free _⟩
theorem one_all {cs : List Value} (h : ∀ v ∈ cs, v.oneCell' = true) : (cs.toArray).all (·.oneCell') = true := all_oneCell_toArray h
theorem Blk.cells4 {w : World} {g : Nat} {cs : List Value} {t : TypeId} (h : Blk w g cs t) (o : Nat) (a b c d : Value) : Blk (w.setCells g o (#[a, b, c, d] : Array Value).toList) g ((((cs.set o a).set (o + 1) b).set (o + 2) c).set (o + 3) d) t :=
  (((h.set o a).set (o + 1) b).set (o + 2) c).set (o + 3) d
theorem Blk.cellsO {g k : Nat} {cs : List Value} {t : TypeId} (hk : g ≠ k) : ∀ (vs : List Value) (o : Nat) (w : World), Blk w g cs t → Blk (w.setCells k o vs) g cs t
  | [], _, _, h => h
  | v :: r, o, w, h => Blk.cellsO hk r (o + 1) _ (h.other (a := ⟨k, o, none⟩) hk v)
theorem bel_cells {n : Nat} {a : World} {k : Nat} (hk : n ≤ k) : ∀ (vs : List Value) (o : Nat) (w : World), Below n a w → Below n a (w.setCells k o vs)
  | [], _, _, h => h
  | v :: r, o, w, h => bel_cells hk r (o + 1) _ (h.setCell (p := ⟨k, o, none⟩) hk v)
end Go.Proofs.Ytighcnecajgkpaa
namespace Go.Proofs.Ytighcnecajgkpaa
open Go.RowKit

theorem rfits_val {x y : Am} {v : Bool} (h : fitsB x y = v) (w : World) : Calls Try.prog 51 #[.agg #[.int .i64 x.c, .int .i64 x.r, .int .i64 x.d, .int .i64 x.p], .agg #[.int .i64 y.c, .int .i64 y.r, .int .i64 y.d, .int .i64 y.p]] w fun e w' => e = .returned (.bool v) ∧ Below w.heap.size w w' :=
  (rfits_any x y w).mono fun e w' ⟨h1, h2⟩ => ⟨by rw [h1, h], h2⟩
theorem entsC_set : ∀ (L : List Ent) (k : Nat) (hk : k < L.length) (a : Am), ((((entsC L).set (k * 6 + 2) (.int .i64 a.c)).set (k * 6 + 2 + 1) (.int .i64 a.r)).set (k * 6 + 2 + 2) (.int .i64 a.d)).set (k * 6 + 2 + 3) (.int .i64 a.p) = entsC (L.set k ⟨L[k].n, L[k].i, a⟩)
  | [], k, hk, _ => absurd hk (Nat.not_lt_zero _)
  | y :: L, 0, _, a => rfl
  | y :: L, k + 1, hk, a => by
    have ih := entsC_set L k (by simpa using hk) a
    simp only [entsC, List.flatMap_cons, List.set_cons_succ, List.getElem_cons_succ] at *
    have e : ∀ (q : Nat) (v : Value) (t : List Value), (entC y ++ t).set (6 + q) v = entC y ++ t.set q v := fun q v t => by
      rw [List.set_append_right _ _ (by simp)]
      simp
    rw [show (k + 1) * 6 + 2 = 6 + (k * 6 + 2) from by omega, show 6 + (k * 6 + 2) + 1 = 6 + (k * 6 + 2 + 1) from by omega, show 6 + (k * 6 + 2) + 2 = 6 + (k * 6 + 2 + 2) from by omega, show 6 + (k * 6 + 2) + 3 = 6 + (k * 6 + 2 + 3) from by omega]
    rw [e, e, e, e, ih]
theorem own_cells4 {w : World} {base : Nat} {e : TypeId} {size g n cap : Nat} {xs : List Value} (h : w.ownsRow base e size (.slice (some ⟨g, 0, none⟩) n cap) n xs) (o : Nat) (ho : o + 3 < n * size) (a b c d : Value) :
    (w.setCells g o (#[a, b, c, d] : Array Value).toList).ownsRow base e size (.slice (some ⟨g, 0, none⟩) n cap) n ((((xs.set o a).set (o + 1) b).set (o + 2) c).set (o + 3) d) :=
  own_set (own_set (own_set (own_set h (by omega) a) (by omega) b) (by omega) c) (by omega) d
theorem fr_cells {S : List Nat} {a : World} {k : Nat} (hk : k ∈ S) : ∀ (vs : List Value) (o : Nat) (w : World), Fr S a w → Fr S a (w.setCells k o vs)
  | [], _, _, h => h
  | v :: r, o, w, h => fr_cells hk r (o + 1) _ (h.set (p := ⟨k, o, none⟩) hk v)

set_option maxRecDepth 100000 in
set_option maxHeartbeats 4000000 in
theorem rresize_none (base g : Nat) (v : Value) (cap : Am) (L : List Ent) (s : ByteArray) (a : Am) (w : World) (h : RLed base w g v cap L) (hp : plc L s = none) :
    Calls Try.prog 40 #[ptr g, .string s, amV a] w fun e w' => e = .returned (.int .i64 6) ∧ Below w.heap.size w w' := by
  obtain ⟨w3, hw3⟩ : ∃ w3, w3 = w.alloc (.cells #[.int .i64 a.c, .int .i64 a.r, .int .i64 a.d, .int .i64 a.p] 28) := ⟨_, rfl⟩
  obtain ⟨B, hB⟩ : ∃ B, B = w.heap.size := ⟨_, rfl⟩
  have S0 : Hid (Blk w3 B (amC a) 28) := Lib.hid (by rw [hw3, hB]; exact Blk.made w (amC a) _)
  have HBL : Hid (Below w.heap.size w w3) := Lib.hid (by rw [hw3]; exact below_alloc w _)
  have H3 := Lib.hid (h.kept HBL.out)
  have HP := Lib.hid (place_any base g _ cap L s w3 H3.out)
  have HPI : Hid (plcI L s = -1) := Lib.hid (by unfold plcI; rw [hp])
  clear h hp
  go_enter Try.func40, Try.ntmps40
  go_upto_region 1 with fail
  rw [← hw3, ← hB]
  clear hw3 hB
  go_wp2_with (first | (go_at_call 35; refine HP.out.mono ?_; rw [HPI.out]; rintro e w4 ⟨rfl, hb⟩; have hbr := S0.out.kept hb; have S4 := Lib.hid hbr; have a0 := hbr.cell (j := 0) rfl; have a1 := hbr.cell (j := 1) rfl; have a2 := hbr.cell (j := 2) rfl; have a3 := hbr.cell (j := 3) rfl; have HB4 := Lib.hid (below_and HBL.out hb); have H4 := Lib.hid (H3.out.kept hb); clear hb hbr))
  go_ret
  exact ⟨rfl, HB4.out⟩

set_option maxRecDepth 100000 in
set_option maxHeartbeats 4000000 in
theorem rresize_bad (base g : Nat) (v : Value) (cap : Am) (L : List Ent) (s : ByteArray) (a : Am) (w : World) (h : RLed base w g v cap L) (k : Nat) (hp : plc L s = some k) (ha : a.okB = false) :
    Calls Try.prog 40 #[ptr g, .string s, amV a] w fun e w' => e = .returned (.int .i64 2) ∧ Below w.heap.size w w' := by
  obtain ⟨w3, hw3⟩ : ∃ w3, w3 = w.alloc (.cells #[.int .i64 a.c, .int .i64 a.r, .int .i64 a.d, .int .i64 a.p] 28) := ⟨_, rfl⟩
  obtain ⟨B, hB⟩ : ∃ B, B = w.heap.size := ⟨_, rfl⟩
  have S0 : Hid (Blk w3 B (amC a) 28) := Lib.hid (by rw [hw3, hB]; exact Blk.made w (amC a) _)
  have HBL : Hid (Below w.heap.size w w3) := Lib.hid (by rw [hw3]; exact below_alloc w _)
  have H3 := Lib.hid (h.kept HBL.out)
  have HP := Lib.hid (place_any base g _ cap L s w3 H3.out)
  have HPI : Hid (plcI L s = (k : Int)) := Lib.hid (by unfold plcI; rw [hp])
  have HC := Lib.hid (Am.chk_no ha)
  have i1 : ¬ ((k : Int) < 0) := by omega
  clear h hp ha
  go_enter Try.func40, Try.ntmps40
  go_upto_region 1 with fail
  rw [← hw3, ← hB]
  clear hw3 hB
  go_wp2_with (first | (go_at_call 35; refine HP.out.mono ?_; rw [HPI.out]; rintro e w4 ⟨rfl, hb⟩; have hbr := S0.out.kept hb; have S4 := Lib.hid hbr; have a0 := hbr.cell (j := 0) rfl; have a1 := hbr.cell (j := 1) rfl; have a2 := hbr.cell (j := 2) rfl; have a3 := hbr.cell (j := 3) rfl; have HB4 := Lib.hid (below_and HBL.out hb); have H4 := Lib.hid (H3.out.kept hb); clear hb hbr) | (go_at_call 34; refine (rcheck_any a _).mono ?_; rw [HC.out]; rintro e w5 ⟨rfl, hb⟩; have S5 := Lib.hid (S4.out.kept hb); have HB5 := Lib.hid (below_and HB4.out hb); have H5 := Lib.hid (H4.out.kept hb); clear hb a0 a1 a2 a3))
  go_ret
  exact ⟨rfl, HB5.out⟩

set_option maxRecDepth 100000 in
set_option maxHeartbeats 4000000 in
theorem rresize_state (base g : Nat) (v : Value) (cap : Am) (L : List Ent) (s : ByteArray) (a : Am) (w : World) (h : RLed base w g v cap L) (k : Nat) (hp : plc L s = some k) (ha : a.okB = true) (ho : Oks L) (hl : L.length ≤ 100000) (hf : Fit (inB s ⟨#[]⟩) L) (u : Am) (hu : u = sumA (inB s ⟨#[]⟩) L) (h1 : fitsB u a = false) :
    Calls Try.prog 40 #[ptr g, .string s, amV a] w fun e w' => e = .returned (.int .i64 13) ∧ Below w.heap.size w w' := by
  obtain ⟨w3, hw3⟩ : ∃ w3, w3 = w.alloc (.cells #[.int .i64 a.c, .int .i64 a.r, .int .i64 a.d, .int .i64 a.p] 28) := ⟨_, rfl⟩
  obtain ⟨B, hB⟩ : ∃ B, B = w.heap.size := ⟨_, rfl⟩
  have S0 : Hid (Blk w3 B (amC a) 28) := Lib.hid (by rw [hw3, hB]; exact Blk.made w (amC a) _)
  have HBL : Hid (Below w.heap.size w w3) := Lib.hid (by rw [hw3]; exact below_alloc w _)
  have H3 := Lib.hid (h.kept HBL.out)
  have HP := Lib.hid (place_any base g _ cap L s w3 H3.out)
  have HPI : Hid (plcI L s = (k : Int)) := Lib.hid (by unfold plcI; rw [hp])
  have HC := Lib.hid (Am.chk_yes ha)
  have i1 : ¬ ((k : Int) < 0) := by omega
  have HTK : Hid (∀ w, RLed base w g v cap L → Calls Try.prog 50 #[ptr g, .string s, .string ⟨#[]⟩] w fun e w' => e = .returned (.agg #[.int .i64 u.c, .int .i64 u.r, .int .i64 u.d, .int .i64 u.p]) ∧ Below w.heap.size w w') := Lib.hid (fun w h => by rw [hu]; exact taken_any base g v cap L s ⟨#[]⟩ w h ho hf hl)
  have HF1 := Lib.hid h1
  clear h hp ha ho hf hu h1
  go_enter Try.func40, Try.ntmps40
  go_upto_region 1 with fail
  rw [← hw3, ← hB]
  clear hw3 hB
  go_upto_region 6 with (first | (go_at_call 35; refine HP.out.mono ?_; rw [HPI.out]; rintro e w4 ⟨rfl, hb⟩; have hbr := S0.out.kept hb; have S4 := Lib.hid hbr; have a0 := hbr.cell (j := 0) rfl; have a1 := hbr.cell (j := 1) rfl; have a2 := hbr.cell (j := 2) rfl; have a3 := hbr.cell (j := 3) rfl; have HB4 := Lib.hid (below_and HBL.out hb); have H4 := Lib.hid (H3.out.kept hb); clear hb hbr) | (go_at_call 34; refine (rcheck_any a _).mono ?_; rw [HC.out]; rintro e w5 ⟨rfl, hb⟩; have S5 := Lib.hid (S4.out.kept hb); have HB5 := Lib.hid (below_and HB4.out hb); have H5 := Lib.hid (H4.out.kept hb); clear hb a0 a1 a2 a3))
  have d0 : ∀ y : Past w5, y.val.cell? ⟨B, 0, none⟩ = some (.int .i64 a.c) := Past.blk S5.out (j := 0) rfl
  have d1 : ∀ y : Past w5, y.val.cell? ⟨B, 1, none⟩ = some (.int .i64 a.r) := Past.blk S5.out (j := 1) rfl
  have d2 : ∀ y : Past w5, y.val.cell? ⟨B, 2, none⟩ = some (.int .i64 a.d) := Past.blk S5.out (j := 2) rfl
  have d3 : ∀ y : Past w5, y.val.cell? ⟨B, 3, none⟩ = some (.int .i64 a.p) := Past.blk S5.out (j := 3) rfl
  go_wp2
  refine wp_region_past (by kernel_rfl) (by kernel_rfl) ?_
  repeat (go_big_quiet_step (first | (go_at_call 50; exact past_call (HTK.out _ (H5.out.kept (Past.h _)))) | (go_at_call 51; exact past_call (rfits_val HF1.out _))))
  refine wpQuiet_nil ?_
  intro _ hw'
  obtain ⟨s9, hw''⟩ := hw'
  subst hw''
  obtain ⟨w6, h9, e9⟩ : ∃ w6, Below w5.heap.size w5 w6 ∧ w6 = s9.val := ⟨_, s9.h, rfl⟩
  rw [← e9]
  have HB6 := Lib.hid (below_and HB5.out h9)
  clear h9 e9 d0 d1 d2 d3
  go_wp2
  go_ret
  exact ⟨rfl, HB6.out⟩

set_option maxRecDepth 100000 in
set_option maxHeartbeats 4000000 in
theorem rresize_nofit (base g : Nat) (v : Value) (cap : Am) (L : List Ent) (s : ByteArray) (a : Am) (w : World) (h : RLed base w g v cap L) (k : Nat) (hp : plc L s = some k) (ha : a.okB = true) (ho : Oks L) (hl : L.length ≤ 100000) (hf : Fit (inB s ⟨#[]⟩) L) (u : Am) (hu : u = sumA (inB s ⟨#[]⟩) L) (hk : k < L.length) (x : Ent) (hx : x = L[k]) (h1 : fitsB u a = true) (z : Am) (hr : ∀ w, RLed base w g v cap L → Calls Try.prog 36 #[ptr g, .string x.i, .string s] w fun e w' => e = .returned (.agg #[.int .i64 z.c, .int .i64 z.r, .int .i64 z.d, .int .i64 z.p]) ∧ Below w.heap.size w w') (h2 : fitsB a z = false) :
    Calls Try.prog 40 #[ptr g, .string s, amV a] w fun e w' => e = .returned (.int .i64 14) ∧ Below w.heap.size w w' := by
  obtain ⟨w3, hw3⟩ : ∃ w3, w3 = w.alloc (.cells #[.int .i64 a.c, .int .i64 a.r, .int .i64 a.d, .int .i64 a.p] 28) := ⟨_, rfl⟩
  obtain ⟨B, hB⟩ : ∃ B, B = w.heap.size := ⟨_, rfl⟩
  have S0 : Hid (Blk w3 B (amC a) 28) := Lib.hid (by rw [hw3, hB]; exact Blk.made w (amC a) _)
  have HBL : Hid (Below w.heap.size w w3) := Lib.hid (by rw [hw3]; exact below_alloc w _)
  have H3 := Lib.hid (h.kept HBL.out)
  have HP := Lib.hid (place_any base g _ cap L s w3 H3.out)
  have HPI : Hid (plcI L s = (k : Int)) := Lib.hid (by unfold plcI; rw [hp])
  have HC := Lib.hid (Am.chk_yes ha)
  have i1 : ¬ ((k : Int) < 0) := by omega
  have HTK : Hid (∀ w, RLed base w g v cap L → Calls Try.prog 50 #[ptr g, .string s, .string ⟨#[]⟩] w fun e w' => e = .returned (.agg #[.int .i64 u.c, .int .i64 u.r, .int .i64 u.d, .int .i64 u.p]) ∧ Below w.heap.size w w') := Lib.hid (fun w h => by rw [hu]; exact taken_any base g v cap L s ⟨#[]⟩ w h ho hf hl)
  obtain ⟨p, c, rfl, hc, hm⟩ := h.shape
  have hml : maxLen ≤ 9223372036854775807 := by decide
  obtain ⟨q0, rfl, hcs⟩ := h.at hk
  have i2 : (k : Int) < (L.length : Int) := by omega
  have HCS := Lib.hid hcs
  rw [← hx] at HCS
  have HF1 := Lib.hid h1
  have HF2 := Lib.hid h2
  have HRM := Lib.hid hr
  have HXX := Lib.hid hx
  clear h hp ha ho hf hu h1 h2 hr hcs hx
  go_enter Try.func40, Try.ntmps40
  go_upto_region 1 with fail
  rw [← hw3, ← hB]
  clear hw3 hB
  go_upto_region 6 with (first | (go_at_call 35; refine HP.out.mono ?_; rw [HPI.out]; rintro e w4 ⟨rfl, hb⟩; have hbr := S0.out.kept hb; have S4 := Lib.hid hbr; have a0 := hbr.cell (j := 0) rfl; have a1 := hbr.cell (j := 1) rfl; have a2 := hbr.cell (j := 2) rfl; have a3 := hbr.cell (j := 3) rfl; have HB4 := Lib.hid (below_and HBL.out hb); have H4 := Lib.hid (H3.out.kept hb); clear hb hbr) | (go_at_call 34; refine (rcheck_any a _).mono ?_; rw [HC.out]; rintro e w5 ⟨rfl, hb⟩; have S5 := Lib.hid (S4.out.kept hb); have HB5 := Lib.hid (below_and HB4.out hb); have H5 := Lib.hid (H4.out.kept hb); clear hb a0 a1 a2 a3))
  have d0 : ∀ y : Past w5, y.val.cell? ⟨B, 0, none⟩ = some (.int .i64 a.c) := Past.blk S5.out (j := 0) rfl
  have d1 : ∀ y : Past w5, y.val.cell? ⟨B, 1, none⟩ = some (.int .i64 a.r) := Past.blk S5.out (j := 1) rfl
  have d2 : ∀ y : Past w5, y.val.cell? ⟨B, 2, none⟩ = some (.int .i64 a.d) := Past.blk S5.out (j := 2) rfl
  have d3 : ∀ y : Past w5, y.val.cell? ⟨B, 3, none⟩ = some (.int .i64 a.p) := Past.blk S5.out (j := 3) rfl
  go_wp2
  refine wp_region_past (by kernel_rfl) (by kernel_rfl) ?_
  repeat (go_big_quiet_step (first | (go_at_call 50; exact past_call (HTK.out _ (H5.out.kept (Past.h _)))) | (go_at_call 51; exact past_call (rfits_val HF1.out _))))
  refine wpQuiet_nil ?_
  intro _ hw'
  obtain ⟨s9, hw''⟩ := hw'
  subst hw''
  obtain ⟨w6, h9, e9⟩ : ∃ w6, Below w5.heap.size w5 w6 ∧ w6 = s9.val := ⟨_, s9.h, rfl⟩
  rw [← e9]
  have HB56 := Lib.hid h9
  have HB6 := Lib.hid (below_and HB5.out h9)
  have H6 := Lib.hid (H5.out.kept h9)
  have S6 := Lib.hid (S5.out.kept h9)
  have HW6 : Hid (∀ j y, j < 6 → (entC x)[j]? = some y → w6.cell? ⟨q0, k * 6 + j, none⟩ = some y) := Lib.hid (fun j y hj hy => own_cell H6.out.row (by rw [entsC_at L k hk j hj, ← HXX.out]; exact hy))
  clear h9 e9 d0 d1 d2 d3
  have d0 : ∀ y : Past w6, y.val.cell? ⟨B, 0, none⟩ = some (.int .i64 a.c) := Past.blk S6.out (j := 0) rfl
  have d1 : ∀ y : Past w6, y.val.cell? ⟨B, 1, none⟩ = some (.int .i64 a.r) := Past.blk S6.out (j := 1) rfl
  have d2 : ∀ y : Past w6, y.val.cell? ⟨B, 2, none⟩ = some (.int .i64 a.d) := Past.blk S6.out (j := 2) rfl
  have d3 : ∀ y : Past w6, y.val.cell? ⟨B, 3, none⟩ = some (.int .i64 a.p) := Past.blk S6.out (j := 3) rfl
  have x1 : ∀ y : Past w6, y.val.cell? ⟨q0, k * 6 + 1, none⟩ = some (.string x.i) := Past.cell (HW6.out 1 _ (by omega) rfl)
  have x4 : ∀ y : Past w6, y.val.cell? ⟨g, 4, none⟩ = some (.slice (some ⟨q0, 0, none⟩) L.length c) := Past.blk H6.out.blk (j := 4) rfl
  go_wp2
  refine wp_region_past (by kernel_rfl) (by kernel_rfl) ?_
  repeat (go_big_quiet_step (first | (go_at_call 36; exact past_call (HRM.out _ (H6.out.kept (Past.h _)))) | (go_at_call 51; exact past_call (rfits_val HF2.out _))))
  refine wpQuiet_nil ?_
  intro _ hw'
  obtain ⟨s9, hw''⟩ := hw'
  subst hw''
  obtain ⟨w7, h9, e9⟩ : ∃ w7, Below w6.heap.size w6 w7 ∧ w7 = s9.val := ⟨_, s9.h, rfl⟩
  rw [← e9]
  have HB7 := Lib.hid (below_and HB6.out h9)
  clear h9 e9 d0 d1 d2 d3 x1 x4
  go_wp2
  go_ret
  exact ⟨rfl, HB7.out⟩

set_option maxRecDepth 100000 in
set_option maxHeartbeats 4000000 in
theorem rresize_ok (base g : Nat) (v : Value) (cap : Am) (L : List Ent) (s : ByteArray) (a : Am) (w : World) (h : RLed base w g v cap L) (k : Nat) (hp : plc L s = some k) (ha : a.okB = true) (ho : Oks L) (hl : L.length ≤ 100000) (hf : Fit (inB s ⟨#[]⟩) L) (u : Am) (hu : u = sumA (inB s ⟨#[]⟩) L) (hk : k < L.length) (x : Ent) (hx : x = L[k]) (h1 : fitsB u a = true) (z : Am) (hr : ∀ w, RLed base w g v cap L → Calls Try.prog 36 #[ptr g, .string x.i, .string s] w fun e w' => e = .returned (.agg #[.int .i64 z.c, .int .i64 z.r, .int .i64 z.d, .int .i64 z.p]) ∧ Below w.heap.size w w') (h2 : fitsB a z = true) :
    Calls Try.prog 40 #[ptr g, .string s, amV a] w fun e w' => e = .returned (.int .i64 0) ∧ RLed base w' g v cap (L.set k ⟨x.n, x.i, a⟩) ∧ RStep w w' g v v := by
  obtain ⟨i0, hi, hz0, hz1, hz2⟩ := info_parts (show (Try.prog.info? 28).map (fun i => (i.zero, i.size, i.bytes)) = some (some (amV .zero), 4, 32) by kernel_rfl)
  obtain ⟨w3, hw3⟩ : ∃ w3, w3 = w.alloc (.cells #[.int .i64 a.c, .int .i64 a.r, .int .i64 a.d, .int .i64 a.p] 28) := ⟨_, rfl⟩
  obtain ⟨B, hB⟩ : ∃ B, B = w.heap.size := ⟨_, rfl⟩
  have S0 : Hid (Blk w3 B (amC a) 28) := Lib.hid (by rw [hw3, hB]; exact Blk.made w (amC a) _)
  have HBL : Hid (Below w.heap.size w w3) := Lib.hid (by rw [hw3]; exact below_alloc w _)
  have H3 := Lib.hid (h.kept HBL.out)
  have HP := Lib.hid (place_any base g _ cap L s w3 H3.out)
  have HPI : Hid (plcI L s = (k : Int)) := Lib.hid (by unfold plcI; rw [hp])
  have HC := Lib.hid (Am.chk_yes ha)
  have i1 : ¬ ((k : Int) < 0) := by omega
  have HTK : Hid (∀ w, RLed base w g v cap L → Calls Try.prog 50 #[ptr g, .string s, .string ⟨#[]⟩] w fun e w' => e = .returned (.agg #[.int .i64 u.c, .int .i64 u.r, .int .i64 u.d, .int .i64 u.p]) ∧ Below w.heap.size w w') := Lib.hid (fun w h => by rw [hu]; exact taken_any base g v cap L s ⟨#[]⟩ w h ho hf hl)
  obtain ⟨p, c, rfl, hc, hm⟩ := h.shape
  have hml : maxLen ≤ 9223372036854775807 := by decide
  obtain ⟨q0, rfl, hcs⟩ := h.at hk
  have i2 : (k : Int) < (L.length : Int) := by omega
  have HCS := Lib.hid hcs
  rw [← hx] at HCS
  have HF1 := Lib.hid h1
  have HF2 := Lib.hid h2
  have HRM := Lib.hid hr
  have HXX := Lib.hid hx
  clear h hp ha ho hf hu h1 h2 hr hcs hx
  have HI4 : Hid ((Try.prog.info? 28).map (·.size) = some 4) := Lib.hid (by kernel_rfl)
  have HA1 : Hid ((#[.int .i64 a.c, .int .i64 a.r, .int .i64 a.d, .int .i64 a.p] : Array Value).all (·.oneCell') = true) := Lib.hid (one_all (amC_one a))
  go_enter Try.func40, Try.ntmps40
  go_upto_region 1 with fail
  rw [← hw3, ← hB]
  clear hw3 hB
  go_upto_region 6 with (first | (go_at_call 35; refine HP.out.mono ?_; rw [HPI.out]; rintro e w4 ⟨rfl, hb⟩; have hbr := S0.out.kept hb; have S4 := Lib.hid hbr; have a0 := hbr.cell (j := 0) rfl; have a1 := hbr.cell (j := 1) rfl; have a2 := hbr.cell (j := 2) rfl; have a3 := hbr.cell (j := 3) rfl; have HB4 := Lib.hid (below_and HBL.out hb); have H4 := Lib.hid (H3.out.kept hb); clear hb hbr) | (go_at_call 34; refine (rcheck_any a _).mono ?_; rw [HC.out]; rintro e w5 ⟨rfl, hb⟩; have S5 := Lib.hid (S4.out.kept hb); have HB5 := Lib.hid (below_and HB4.out hb); have H5 := Lib.hid (H4.out.kept hb); clear hb a0 a1 a2 a3))
  have d0 : ∀ y : Past w5, y.val.cell? ⟨B, 0, none⟩ = some (.int .i64 a.c) := Past.blk S5.out (j := 0) rfl
  have d1 : ∀ y : Past w5, y.val.cell? ⟨B, 1, none⟩ = some (.int .i64 a.r) := Past.blk S5.out (j := 1) rfl
  have d2 : ∀ y : Past w5, y.val.cell? ⟨B, 2, none⟩ = some (.int .i64 a.d) := Past.blk S5.out (j := 2) rfl
  have d3 : ∀ y : Past w5, y.val.cell? ⟨B, 3, none⟩ = some (.int .i64 a.p) := Past.blk S5.out (j := 3) rfl
  go_wp2
  refine wp_region_past (by kernel_rfl) (by kernel_rfl) ?_
  repeat (go_big_quiet_step (first | (go_at_call 50; exact past_call (HTK.out _ (H5.out.kept (Past.h _)))) | (go_at_call 51; exact past_call (rfits_val HF1.out _))))
  refine wpQuiet_nil ?_
  intro _ hw'
  obtain ⟨s9, hw''⟩ := hw'
  subst hw''
  obtain ⟨w6, h9, e9⟩ : ∃ w6, Below w5.heap.size w5 w6 ∧ w6 = s9.val := ⟨_, s9.h, rfl⟩
  rw [← e9]
  have HB56 := Lib.hid h9
  have HB6 := Lib.hid (below_and HB5.out h9)
  have H6 := Lib.hid (H5.out.kept h9)
  have S6 := Lib.hid (S5.out.kept h9)
  have HW6 : Hid (∀ j y, j < 6 → (entC x)[j]? = some y → w6.cell? ⟨q0, k * 6 + j, none⟩ = some y) := Lib.hid (fun j y hj hy => own_cell H6.out.row (by rw [entsC_at L k hk j hj, ← HXX.out]; exact hy))
  clear h9 e9 d0 d1 d2 d3
  have d0 : ∀ y : Past w6, y.val.cell? ⟨B, 0, none⟩ = some (.int .i64 a.c) := Past.blk S6.out (j := 0) rfl
  have d1 : ∀ y : Past w6, y.val.cell? ⟨B, 1, none⟩ = some (.int .i64 a.r) := Past.blk S6.out (j := 1) rfl
  have d2 : ∀ y : Past w6, y.val.cell? ⟨B, 2, none⟩ = some (.int .i64 a.d) := Past.blk S6.out (j := 2) rfl
  have d3 : ∀ y : Past w6, y.val.cell? ⟨B, 3, none⟩ = some (.int .i64 a.p) := Past.blk S6.out (j := 3) rfl
  have x1 : ∀ y : Past w6, y.val.cell? ⟨q0, k * 6 + 1, none⟩ = some (.string x.i) := Past.cell (HW6.out 1 _ (by omega) rfl)
  have x4 : ∀ y : Past w6, y.val.cell? ⟨g, 4, none⟩ = some (.slice (some ⟨q0, 0, none⟩) L.length c) := Past.blk H6.out.blk (j := 4) rfl
  go_wp2
  refine wp_region_past (by kernel_rfl) (by kernel_rfl) ?_
  repeat (go_big_quiet_step (first | (go_at_call 36; exact past_call (HRM.out _ (H6.out.kept (Past.h _)))) | (go_at_call 51; exact past_call (rfits_val HF2.out _))))
  refine wpQuiet_nil ?_
  intro _ hw'
  obtain ⟨s9, hw''⟩ := hw'
  subst hw''
  obtain ⟨w7, h9, e9⟩ : ∃ w7, Below w6.heap.size w6 w7 ∧ w7 = s9.val := ⟨_, s9.h, rfl⟩
  rw [← e9]
  have H7 := Lib.hid (H6.out.kept h9)
  have S7 := Lib.hid (S6.out.kept h9)
  have HB7 := Lib.hid (below_and HB6.out h9)
  clear h9 e9 d0 d1 d2 d3 x1 x4
  have d0 : ∀ y : Past w7, y.val.cell? ⟨B, 0, none⟩ = some (.int .i64 a.c) := Past.blk S7.out (j := 0) rfl
  have d1 : ∀ y : Past w7, y.val.cell? ⟨B, 1, none⟩ = some (.int .i64 a.r) := Past.blk S7.out (j := 1) rfl
  have d2 : ∀ y : Past w7, y.val.cell? ⟨B, 2, none⟩ = some (.int .i64 a.d) := Past.blk S7.out (j := 2) rfl
  have d3 : ∀ y : Past w7, y.val.cell? ⟨B, 3, none⟩ = some (.int .i64 a.p) := Past.blk S7.out (j := 3) rfl
  have x4 : ∀ y : Past w7, y.val.cell? ⟨g, 4, none⟩ = some (.slice (some ⟨q0, 0, none⟩) L.length c) := Past.blk H7.out.blk (j := 4) rfl
  go_wp2
  refine wp_region_past_one rfl (by kernel_rfl) (by kernel_rfl) (by kernel_rfl) ?_
  repeat (go_big_quiet_step (fail))
  refine wpQuiet_nil ?_
  intro _ hw'
  obtain ⟨s9, hw''⟩ := hw'
  subst hw''
  obtain ⟨w8, h9, e9⟩ : ∃ w8, Below w7.heap.size w7 w8 ∧ w8 = s9.val := ⟨_, s9.h, rfl⟩
  rw [← e9]
  have H8 := Lib.hid (H7.out.kept h9)
  have HB8 := Lib.hid (below_and HB7.out h9)
  clear h9 e9 d0 d1 d2 d3 x4
  have HTH : Hid (w8.there q0 (k * 6 + 2) 4) := Lib.hid (fun j hj => ⟨by rw [own_cell H8.out.row (j := k * 6 + 2 + j) (List.getElem?_eq_getElem (by rw [entsC_len]; omega))]; rfl, own_free H8.out.row _⟩)
  have HN : Hid (∃ wS, wS = w8.setCells q0 (k * 6 + 2) (#[.int .i64 a.c, .int .i64 a.r, .int .i64 a.d, .int .i64 a.p] : Array Value).toList ∧ RLed base wS g (.slice (some ⟨q0, 0, none⟩) L.length c) cap (L.set k ⟨x.n, x.i, a⟩) ∧ RStep w wS g (.slice (some ⟨q0, 0, none⟩) L.length c) (.slice (some ⟨q0, 0, none⟩) L.length c)) := Lib.hid ⟨_, rfl, by
    have hne : g ≠ q0 := fun e => H8.out.ne (by rw [e]; rfl)
    refine ⟨Blk.cellsO hne _ _ _ H8.out.blk, ?_, H8.out.ne⟩
    have h1 := own_cells4 H8.out.row (k * 6 + 2) (by omega) (.int .i64 a.c) (.int .i64 a.r) (.int .i64 a.d) (.int .i64 a.p)
    rw [entsC_set L k hk a, ← HXX.out] at h1
    rw [List.length_set]
    exact h1, ⟨fr_cells (by simp [Value.ownBlock]) _ _ _ (Fr.of_below HB8.out _), fun _ hy => .inl hy⟩⟩
  go_wp2_with (refine wpList_store_mid rfl 28 _ _ rfl q0 (k * 6 + 2) #[.int .i64 a.c, .int .i64 a.r, .int .i64 a.d, .int .i64 a.p] rfl rfl HTH.out HI4.out HA1.out ?_; obtain ⟨wS, hwS, hs1, hs2⟩ := HN.out; rw [← hwS]; have N1 := Lib.hid hs1; have N2 := Lib.hid hs2; clear hwS hs1 hs2)
  go_ret
  exact ⟨rfl, N1.out, N2.out⟩
end Go.Proofs.Ytighcnecajgkpaa
namespace Go.Proofs.Ytighcnecajgkpaa
open Go.RowKit

theorem own_lt {w : World} {base : Nat} {e : TypeId} {size n : Nat} {v : Value} {xs : List Value} (h : w.ownsRow base e size v n xs) {g : Nat} (hg : v.ownBlock = some g) : g < w.heap.size := by
  rcases h.2 with ⟨rfl, -⟩ | ⟨g', cap, cur, rfl, -, hh, -⟩
  · cases hg
  · cases hg
    exact (Array.getElem?_eq_some_iff.1 hh).1


set_option maxRecDepth 100000 in
set_option maxHeartbeats 8000000 in
theorem rtake_len (base g : Nat) (v : Value) (cap : Am) (L : List Ent) (s t : ByteArray) (a : Am) (w : World) (h : RLed base w g v cap L) (hn : s.size = 0 ∨ 64 < s.size) :
    Calls Try.prog 38 #[ptr g, .string s, .string t, amV a] w fun e w' => e = .returned (.int .i64 2) ∧ Below w.heap.size w w' := by
  obtain ⟨w3, hw3⟩ : ∃ w3, w3 = w.alloc (.cells #[.int .i64 a.c, .int .i64 a.r, .int .i64 a.d, .int .i64 a.p] 28) := ⟨_, rfl⟩
  obtain ⟨B, hB⟩ : ∃ B, B = w.heap.size := ⟨_, rfl⟩
  have S3 : Hid (Blk w3 B (amC a) 28) := Lib.hid (by rw [hw3, hB]; exact Blk.made w (amC a) _)
  have HB3 : Hid (Below w.heap.size w w3) := Lib.hid (by rw [hw3]; exact below_alloc w _)
  have H3 := Lib.hid (h.kept HB3.out)
  have a0 := S3.out.cell (j := 0) rfl
  have a1 := S3.out.cell (j := 1) rfl
  have a2 := S3.out.cell (j := 2) rfl
  have a3 := S3.out.cell (j := 3) rfl
  clear h
  rcases hn with hn | hn
  · have d1 : (s.size : Int) < 1 := by omega
    clear hn
    go_enter Try.func38, Try.ntmps38
    go_upto_region 1 with fail
    rw [← hw3, ← hB]
    clear hw3 hB
    go_wp2
    go_ret
    exact ⟨rfl, HB3.out⟩
  · have d1 : ¬ ((s.size : Int) < 1) := by omega
    have d2 : (64 : Int) < (s.size : Int) := by omega
    clear hn
    go_enter Try.func38, Try.ntmps38
    go_upto_region 1 with fail
    rw [← hw3, ← hB]
    clear hw3 hB
    go_wp2
    go_ret
    exact ⟨rfl, HB3.out⟩

set_option maxRecDepth 100000 in
set_option maxHeartbeats 8000000 in
theorem rtake_bad (base g : Nat) (v : Value) (cap : Am) (L : List Ent) (s t : ByteArray) (a : Am) (w : World) (h : RLed base w g v cap L) (h1 : 1 ≤ s.size) (h2 : s.size ≤ 64) (ha : a.okB = false) :
    Calls Try.prog 38 #[ptr g, .string s, .string t, amV a] w fun e w' => e = .returned (.int .i64 2) ∧ Below w.heap.size w w' := by
  obtain ⟨w3, hw3⟩ : ∃ w3, w3 = w.alloc (.cells #[.int .i64 a.c, .int .i64 a.r, .int .i64 a.d, .int .i64 a.p] 28) := ⟨_, rfl⟩
  obtain ⟨B, hB⟩ : ∃ B, B = w.heap.size := ⟨_, rfl⟩
  have S3 : Hid (Blk w3 B (amC a) 28) := Lib.hid (by rw [hw3, hB]; exact Blk.made w (amC a) _)
  have HB3 : Hid (Below w.heap.size w w3) := Lib.hid (by rw [hw3]; exact below_alloc w _)
  have H3 := Lib.hid (h.kept HB3.out)
  have a0 := S3.out.cell (j := 0) rfl
  have a1 := S3.out.cell (j := 1) rfl
  have a2 := S3.out.cell (j := 2) rfl
  have a3 := S3.out.cell (j := 3) rfl
  have d1 : ¬ ((s.size : Int) < 1) := by omega
  have d2 : ¬ ((64 : Int) < (s.size : Int)) := by omega
  have HC := Lib.hid (Am.chk_no ha)
  clear h h1 h2 ha
  go_enter Try.func38, Try.ntmps38
  go_upto_region 1 with fail
  rw [← hw3, ← hB]
  clear hw3 hB
  go_wp2_with (first | (go_at_call 34; refine (rcheck_any a _).mono ?_; rw [HC.out]; rintro e w4 ⟨rfl, hb⟩; have S4 := Lib.hid (S3.out.kept hb); have HB4 := Lib.hid (below_and HB3.out hb); have H4 := Lib.hid (H3.out.kept hb); clear hb a0 a1 a2 a3))
  go_ret
  exact ⟨rfl, HB4.out⟩

set_option maxRecDepth 100000 in
set_option maxHeartbeats 8000000 in
theorem rtake_there (base g : Nat) (v : Value) (cap : Am) (L : List Ent) (s t : ByteArray) (a : Am) (w : World) (h : RLed base w g v cap L) (h1 : 1 ≤ s.size) (h2 : s.size ≤ 64) (ha : a.okB = true) (k : Nat) (hp1 : plc L s = some k) :
    Calls Try.prog 38 #[ptr g, .string s, .string t, amV a] w fun e w' => e = .returned (.int .i64 7) ∧ Below w.heap.size w w' := by
  obtain ⟨w3, hw3⟩ : ∃ w3, w3 = w.alloc (.cells #[.int .i64 a.c, .int .i64 a.r, .int .i64 a.d, .int .i64 a.p] 28) := ⟨_, rfl⟩
  obtain ⟨B, hB⟩ : ∃ B, B = w.heap.size := ⟨_, rfl⟩
  have S3 : Hid (Blk w3 B (amC a) 28) := Lib.hid (by rw [hw3, hB]; exact Blk.made w (amC a) _)
  have HB3 : Hid (Below w.heap.size w w3) := Lib.hid (by rw [hw3]; exact below_alloc w _)
  have H3 := Lib.hid (h.kept HB3.out)
  have a0 := S3.out.cell (j := 0) rfl
  have a1 := S3.out.cell (j := 1) rfl
  have a2 := S3.out.cell (j := 2) rfl
  have a3 := S3.out.cell (j := 3) rfl
  have d1 : ¬ ((s.size : Int) < 1) := by omega
  have d2 : ¬ ((64 : Int) < (s.size : Int)) := by omega
  have HC := Lib.hid (Am.chk_yes ha)
  have HP1 : Hid (∀ w, RLed base w g v cap L → Calls Try.prog 35 #[ptr g, .string s] w fun e w' => e = .returned (.int .i64 (k : Int)) ∧ Below w.heap.size w w') := Lib.hid (fun w h => by have := place_any base g v cap L s w h; unfold plcI at this; rw [hp1] at this; exact this)
  have i1 : (0 : Int) ≤ (k : Int) := by omega
  clear h h1 h2 ha hp1
  go_enter Try.func38, Try.ntmps38
  go_upto_region 1 with fail
  rw [← hw3, ← hB]
  clear hw3 hB
  go_wp2_with (first | (go_at_call 34; refine (rcheck_any a _).mono ?_; rw [HC.out]; rintro e w4 ⟨rfl, hb⟩; have S4 := Lib.hid (S3.out.kept hb); have HB4 := Lib.hid (below_and HB3.out hb); have H4 := Lib.hid (H3.out.kept hb); clear hb a0 a1 a2 a3) | (go_at_call 35; refine (HP1.out _ H4.out).mono ?_; rintro e w5 ⟨rfl, hb⟩; have S5 := Lib.hid (S4.out.kept hb); have HB5 := Lib.hid (below_and HB4.out hb); have H5 := Lib.hid (H4.out.kept hb); clear hb))
  go_ret
  exact ⟨rfl, HB5.out⟩

set_option maxRecDepth 100000 in
set_option maxHeartbeats 8000000 in
theorem rtake_none (base g : Nat) (v : Value) (cap : Am) (L : List Ent) (s t : ByteArray) (a : Am) (w : World) (h : RLed base w g v cap L) (h1 : 1 ≤ s.size) (h2 : s.size ≤ 64) (ha : a.okB = true) (hp1 : plc L s = none) (ht : t.toList.isEmpty = false) (hp2 : plc L t = none) :
    Calls Try.prog 38 #[ptr g, .string s, .string t, amV a] w fun e w' => e = .returned (.int .i64 6) ∧ Below w.heap.size w w' := by
  obtain ⟨w3, hw3⟩ : ∃ w3, w3 = w.alloc (.cells #[.int .i64 a.c, .int .i64 a.r, .int .i64 a.d, .int .i64 a.p] 28) := ⟨_, rfl⟩
  obtain ⟨B, hB⟩ : ∃ B, B = w.heap.size := ⟨_, rfl⟩
  have S3 : Hid (Blk w3 B (amC a) 28) := Lib.hid (by rw [hw3, hB]; exact Blk.made w (amC a) _)
  have HB3 : Hid (Below w.heap.size w w3) := Lib.hid (by rw [hw3]; exact below_alloc w _)
  have H3 := Lib.hid (h.kept HB3.out)
  have a0 := S3.out.cell (j := 0) rfl
  have a1 := S3.out.cell (j := 1) rfl
  have a2 := S3.out.cell (j := 2) rfl
  have a3 := S3.out.cell (j := 3) rfl
  have d1 : ¬ ((s.size : Int) < 1) := by omega
  have d2 : ¬ ((64 : Int) < (s.size : Int)) := by omega
  have HC := Lib.hid (Am.chk_yes ha)
  have HP1 : Hid (∀ w, RLed base w g v cap L → Calls Try.prog 35 #[ptr g, .string s] w fun e w' => e = .returned (.int .i64 (-1)) ∧ Below w.heap.size w w') := Lib.hid (fun w h => by have := place_any base g v cap L s w h; unfold plcI at this; rw [hp1] at this; exact this)
  have HP2 : Hid (∀ w, RLed base w g v cap L → Calls Try.prog 35 #[ptr g, .string t] w fun e w' => e = .returned (.int .i64 (-1)) ∧ Below w.heap.size w w') := Lib.hid (fun w h => by have := place_any base g v cap L t w h; unfold plcI at this; rw [hp2] at this; exact this)
  clear h h1 h2 ha hp1 hp2
  go_enter Try.func38, Try.ntmps38
  go_upto_region 1 with fail
  rw [← hw3, ← hB]
  clear hw3 hB
  go_wp2_with (first | (go_at_call 34; refine (rcheck_any a _).mono ?_; rw [HC.out]; rintro e w4 ⟨rfl, hb⟩; have S4 := Lib.hid (S3.out.kept hb); have HB4 := Lib.hid (below_and HB3.out hb); have H4 := Lib.hid (H3.out.kept hb); clear hb a0 a1 a2 a3) | fail)
  refine (HP1.out _ H4.out).mono ?_
  rintro e w5 ⟨rfl, hb⟩
  have S5 := Lib.hid (S4.out.kept hb)
  have HB5 := Lib.hid (below_and HB4.out hb)
  have H5 := Lib.hid (H4.out.kept hb)
  clear hb
  go_wp2_with (first | (go_at_call 35; refine (HP2.out _ H5.out).mono ?_; rintro e w6 ⟨rfl, hb⟩; have S6 := Lib.hid (S5.out.kept hb); have HB6 := Lib.hid (below_and HB5.out hb); have H6 := Lib.hid (H5.out.kept hb); clear hb))
  go_ret
  exact ⟨rfl, HB6.out⟩

set_option maxRecDepth 100000 in
set_option maxHeartbeats 8000000 in
theorem rtake_state (base g : Nat) (v : Value) (cap : Am) (L : List Ent) (s t : ByteArray) (a : Am) (w : World) (h : RLed base w g v cap L) (h1 : 1 ≤ s.size) (h2 : s.size ≤ 64) (ha : a.okB = true) (hp1 : plc L s = none) (ht : t.toList.isEmpty = false) (k : Nat) (hk : k < L.length) (y : Ent) (hy : y = L[k]) (hp2 : plc L t = some k) (hyi : y.i.toList.isEmpty = false) :
    Calls Try.prog 38 #[ptr g, .string s, .string t, amV a] w fun e w' => e = .returned (.int .i64 13) ∧ Below w.heap.size w w' := by
  obtain ⟨p, c, rfl, hc, hm⟩ := h.shape
  have hml : maxLen ≤ 9223372036854775807 := by decide
  obtain ⟨q0, rfl, hcs⟩ := h.at hk
  have i2 : (k : Int) < (L.length : Int) := by omega
  have i3 : ¬ ((k : Int) < 0) := by omega
  have i4 : (0 : Int) ≤ (k : Int) := by omega
  have HCS := Lib.hid hcs
  rw [← hy] at HCS
  have HYY := Lib.hid hy
  obtain ⟨w3, hw3⟩ : ∃ w3, w3 = w.alloc (.cells #[.int .i64 a.c, .int .i64 a.r, .int .i64 a.d, .int .i64 a.p] 28) := ⟨_, rfl⟩
  obtain ⟨B, hB⟩ : ∃ B, B = w.heap.size := ⟨_, rfl⟩
  have S3 : Hid (Blk w3 B (amC a) 28) := Lib.hid (by rw [hw3, hB]; exact Blk.made w (amC a) _)
  have HB3 : Hid (Below w.heap.size w w3) := Lib.hid (by rw [hw3]; exact below_alloc w _)
  have H3 := Lib.hid (h.kept HB3.out)
  have a0 := S3.out.cell (j := 0) rfl
  have a1 := S3.out.cell (j := 1) rfl
  have a2 := S3.out.cell (j := 2) rfl
  have a3 := S3.out.cell (j := 3) rfl
  have d1 : ¬ ((s.size : Int) < 1) := by omega
  have d2 : ¬ ((64 : Int) < (s.size : Int)) := by omega
  have HC := Lib.hid (Am.chk_yes ha)
  have HP1 : Hid (∀ w, RLed base w g (.slice (some ⟨q0, 0, none⟩) L.length c) cap L → Calls Try.prog 35 #[ptr g, .string s] w fun e w' => e = .returned (.int .i64 (-1)) ∧ Below w.heap.size w w') := Lib.hid (fun w h => by have := place_any base g _ cap L s w h; unfold plcI at this; rw [hp1] at this; exact this)
  have HP2 : Hid (∀ w, RLed base w g (.slice (some ⟨q0, 0, none⟩) L.length c) cap L → Calls Try.prog 35 #[ptr g, .string t] w fun e w' => e = .returned (.int .i64 (k : Int)) ∧ Below w.heap.size w w') := Lib.hid (fun w h => by have := place_any base g _ cap L t w h; unfold plcI at this; rw [hp2] at this; exact this)
  clear h h1 h2 ha hp1 hp2 hcs hy
  go_enter Try.func38, Try.ntmps38
  go_upto_region 1 with fail
  rw [← hw3, ← hB]
  clear hw3 hB
  go_wp2_with (first | (go_at_call 34; refine (rcheck_any a _).mono ?_; rw [HC.out]; rintro e w4 ⟨rfl, hb⟩; have S4 := Lib.hid (S3.out.kept hb); have HB4 := Lib.hid (below_and HB3.out hb); have H4 := Lib.hid (H3.out.kept hb); clear hb a0 a1 a2 a3) | fail)
  refine (HP1.out _ H4.out).mono ?_
  rintro e w5 ⟨rfl, hb⟩
  have S5 := Lib.hid (S4.out.kept hb)
  have HB5 := Lib.hid (below_and HB4.out hb)
  have H5 := Lib.hid (H4.out.kept hb)
  clear hb
  go_upto_region 7 with (first | (go_at_call 35; refine (HP2.out _ H5.out).mono ?_; rintro e w6 ⟨rfl, hb⟩; have S6 := Lib.hid (S5.out.kept hb); have HB6 := Lib.hid (below_and HB5.out hb); have H6 := Lib.hid (H5.out.kept hb); clear hb))
  have x4 := H6.out.blk.cell (j := 4) rfl
  have x1 : w6.cell? ⟨q0, k * 6 + 1, none⟩ = some (.string y.i) := own_cell H6.out.row (by rw [entsC_at L k hk 1 (by omega), ← HYY.out]; rfl)
  go_wp2
  go_ret
  exact ⟨rfl, HB6.out⟩

set_option maxRecDepth 100000 in
set_option maxHeartbeats 8000000 in
theorem rtake_nofit_top (base g : Nat) (v : Value) (cap : Am) (L : List Ent) (s t : ByteArray) (a : Am) (w : World) (h : RLed base w g v cap L) (h1 : 1 ≤ s.size) (h2 : s.size ≤ 64) (ha : a.okB = true) (hp1 : plc L s = none) (ht : t.toList.isEmpty = true) (z : Am) (hr : ∀ w, RLed base w g v cap L → Calls Try.prog 36 #[ptr g, .string t, .string ⟨#[]⟩] w fun e w' => e = .returned (.agg #[.int .i64 z.c, .int .i64 z.r, .int .i64 z.d, .int .i64 z.p]) ∧ Below w.heap.size w w') (hf : fitsB a z = false) :
    Calls Try.prog 38 #[ptr g, .string s, .string t, amV a] w fun e w' => e = .returned (.int .i64 14) ∧ Below w.heap.size w w' := by
  obtain ⟨p, c, rfl, hc, hm⟩ := h.shape
  have hml : maxLen ≤ 9223372036854775807 := by decide
  obtain ⟨w3, hw3⟩ : ∃ w3, w3 = w.alloc (.cells #[.int .i64 a.c, .int .i64 a.r, .int .i64 a.d, .int .i64 a.p] 28) := ⟨_, rfl⟩
  obtain ⟨B, hB⟩ : ∃ B, B = w.heap.size := ⟨_, rfl⟩
  have S3 : Hid (Blk w3 B (amC a) 28) := Lib.hid (by rw [hw3, hB]; exact Blk.made w (amC a) _)
  have HB3 : Hid (Below w.heap.size w w3) := Lib.hid (by rw [hw3]; exact below_alloc w _)
  have H3 := Lib.hid (h.kept HB3.out)
  have a0 := S3.out.cell (j := 0) rfl
  have a1 := S3.out.cell (j := 1) rfl
  have a2 := S3.out.cell (j := 2) rfl
  have a3 := S3.out.cell (j := 3) rfl
  have d1 : ¬ ((s.size : Int) < 1) := by omega
  have d2 : ¬ ((64 : Int) < (s.size : Int)) := by omega
  have HC := Lib.hid (Am.chk_yes ha)
  have HP1 : Hid (∀ w, RLed base w g (.slice p L.length c) cap L → Calls Try.prog 35 #[ptr g, .string s] w fun e w' => e = .returned (.int .i64 (-1)) ∧ Below w.heap.size w w') := Lib.hid (fun w h => by have := place_any base g _ cap L s w h; unfold plcI at this; rw [hp1] at this; exact this)
  have HRM := Lib.hid hr
  have HF := Lib.hid hf
  clear h h1 h2 ha hp1 hr hf 
  go_enter Try.func38, Try.ntmps38
  go_upto_region 1 with fail
  rw [← hw3, ← hB]
  clear hw3 hB
  go_wp2_with (first | (go_at_call 34; refine (rcheck_any a _).mono ?_; rw [HC.out]; rintro e w4 ⟨rfl, hb⟩; have S4 := Lib.hid (S3.out.kept hb); have HB4 := Lib.hid (below_and HB3.out hb); have H4 := Lib.hid (H3.out.kept hb); clear hb a0 a1 a2 a3) | fail)
  refine (HP1.out _ H4.out).mono ?_
  rintro e w5 ⟨rfl, hb⟩
  have S5 := Lib.hid (S4.out.kept hb)
  have HB5 := Lib.hid (below_and HB4.out hb)
  have H5 := Lib.hid (H4.out.kept hb)
  clear hb
  obtain ⟨w6, hw6⟩ : ∃ w6, w6 = w5 := ⟨_, rfl⟩
  rw [← hw6] at S5 HB5 H5 ⊢
  have S6 := S5
  have HB6 := HB5
  have H6 := H5
  clear hw6 S5 HB5 H5
  have e0 : ∀ y : Past w6, y.val.cell? ⟨B, 0, none⟩ = some (.int .i64 a.c) := Past.blk S6.out (j := 0) rfl
  have e1 : ∀ y : Past w6, y.val.cell? ⟨B, 1, none⟩ = some (.int .i64 a.r) := Past.blk S6.out (j := 1) rfl
  have e2 : ∀ y : Past w6, y.val.cell? ⟨B, 2, none⟩ = some (.int .i64 a.d) := Past.blk S6.out (j := 2) rfl
  have e3 : ∀ y : Past w6, y.val.cell? ⟨B, 3, none⟩ = some (.int .i64 a.p) := Past.blk S6.out (j := 3) rfl
  go_wp2
  refine wp_region_past (by kernel_rfl) (by kernel_rfl) ?_
  repeat (go_big_quiet_step (first | (go_at_call 36; exact past_call (HRM.out _ (H6.out.kept (Past.h _)))) | (go_at_call 51; exact past_call (rfits_val HF.out _))))
  refine wpQuiet_nil ?_
  intro _ hw'
  obtain ⟨s9, hw''⟩ := hw'
  subst hw''
  obtain ⟨w7, h9, e9⟩ : ∃ w7, Below w6.heap.size w6 w7 ∧ w7 = s9.val := ⟨_, s9.h, rfl⟩
  rw [← e9]
  have H7 := Lib.hid (H6.out.kept h9)
  have S7 := Lib.hid (S6.out.kept h9)
  have HB7 := Lib.hid (below_and HB6.out h9)
  clear h9 e9 e0 e1 e2 e3
  go_wp2
  go_ret
  exact ⟨rfl, HB7.out⟩

set_option maxRecDepth 100000 in
set_option maxHeartbeats 8000000 in
theorem rtake_nofit_in (base g : Nat) (v : Value) (cap : Am) (L : List Ent) (s t : ByteArray) (a : Am) (w : World) (h : RLed base w g v cap L) (h1 : 1 ≤ s.size) (h2 : s.size ≤ 64) (ha : a.okB = true) (hp1 : plc L s = none) (ht : t.toList.isEmpty = false) (k : Nat) (hk : k < L.length) (y : Ent) (hy : y = L[k]) (hp2 : plc L t = some k) (hyi : y.i.toList.isEmpty = true) (z : Am) (hr : ∀ w, RLed base w g v cap L → Calls Try.prog 36 #[ptr g, .string t, .string ⟨#[]⟩] w fun e w' => e = .returned (.agg #[.int .i64 z.c, .int .i64 z.r, .int .i64 z.d, .int .i64 z.p]) ∧ Below w.heap.size w w') (hf : fitsB a z = false) :
    Calls Try.prog 38 #[ptr g, .string s, .string t, amV a] w fun e w' => e = .returned (.int .i64 14) ∧ Below w.heap.size w w' := by
  obtain ⟨p, c, rfl, hc, hm⟩ := h.shape
  have hml : maxLen ≤ 9223372036854775807 := by decide
  obtain ⟨q0, rfl, hcs⟩ := h.at hk
  have i2 : (k : Int) < (L.length : Int) := by omega
  have i3 : ¬ ((k : Int) < 0) := by omega
  have i4 : (0 : Int) ≤ (k : Int) := by omega
  have HCS := Lib.hid hcs
  rw [← hy] at HCS
  have HYY := Lib.hid hy
  obtain ⟨w3, hw3⟩ : ∃ w3, w3 = w.alloc (.cells #[.int .i64 a.c, .int .i64 a.r, .int .i64 a.d, .int .i64 a.p] 28) := ⟨_, rfl⟩
  obtain ⟨B, hB⟩ : ∃ B, B = w.heap.size := ⟨_, rfl⟩
  have S3 : Hid (Blk w3 B (amC a) 28) := Lib.hid (by rw [hw3, hB]; exact Blk.made w (amC a) _)
  have HB3 : Hid (Below w.heap.size w w3) := Lib.hid (by rw [hw3]; exact below_alloc w _)
  have H3 := Lib.hid (h.kept HB3.out)
  have a0 := S3.out.cell (j := 0) rfl
  have a1 := S3.out.cell (j := 1) rfl
  have a2 := S3.out.cell (j := 2) rfl
  have a3 := S3.out.cell (j := 3) rfl
  have d1 : ¬ ((s.size : Int) < 1) := by omega
  have d2 : ¬ ((64 : Int) < (s.size : Int)) := by omega
  have HC := Lib.hid (Am.chk_yes ha)
  have HP1 : Hid (∀ w, RLed base w g (.slice (some ⟨q0, 0, none⟩) L.length c) cap L → Calls Try.prog 35 #[ptr g, .string s] w fun e w' => e = .returned (.int .i64 (-1)) ∧ Below w.heap.size w w') := Lib.hid (fun w h => by have := place_any base g _ cap L s w h; unfold plcI at this; rw [hp1] at this; exact this)
  have HP2 : Hid (∀ w, RLed base w g (.slice (some ⟨q0, 0, none⟩) L.length c) cap L → Calls Try.prog 35 #[ptr g, .string t] w fun e w' => e = .returned (.int .i64 (k : Int)) ∧ Below w.heap.size w w') := Lib.hid (fun w h => by have := place_any base g _ cap L t w h; unfold plcI at this; rw [hp2] at this; exact this)
  have HRM := Lib.hid hr
  have HF := Lib.hid hf
  clear h h1 h2 ha hp1 hr hf hp2 hcs hy
  go_enter Try.func38, Try.ntmps38
  go_upto_region 1 with fail
  rw [← hw3, ← hB]
  clear hw3 hB
  go_wp2_with (first | (go_at_call 34; refine (rcheck_any a _).mono ?_; rw [HC.out]; rintro e w4 ⟨rfl, hb⟩; have S4 := Lib.hid (S3.out.kept hb); have HB4 := Lib.hid (below_and HB3.out hb); have H4 := Lib.hid (H3.out.kept hb); clear hb a0 a1 a2 a3) | fail)
  refine (HP1.out _ H4.out).mono ?_
  rintro e w5 ⟨rfl, hb⟩
  have S5 := Lib.hid (S4.out.kept hb)
  have HB5 := Lib.hid (below_and HB4.out hb)
  have H5 := Lib.hid (H4.out.kept hb)
  clear hb
  go_upto_region 7 with (first | (go_at_call 35; refine (HP2.out _ H5.out).mono ?_; rintro e w6 ⟨rfl, hb⟩; have S6 := Lib.hid (S5.out.kept hb); have HB6 := Lib.hid (below_and HB5.out hb); have H6 := Lib.hid (H5.out.kept hb); clear hb))
  have x4 := H6.out.blk.cell (j := 4) rfl
  have x1 : w6.cell? ⟨q0, k * 6 + 1, none⟩ = some (.string y.i) := own_cell H6.out.row (by rw [entsC_at L k hk 1 (by omega), ← HYY.out]; rfl)
  have e0 : ∀ y : Past w6, y.val.cell? ⟨B, 0, none⟩ = some (.int .i64 a.c) := Past.blk S6.out (j := 0) rfl
  have e1 : ∀ y : Past w6, y.val.cell? ⟨B, 1, none⟩ = some (.int .i64 a.r) := Past.blk S6.out (j := 1) rfl
  have e2 : ∀ y : Past w6, y.val.cell? ⟨B, 2, none⟩ = some (.int .i64 a.d) := Past.blk S6.out (j := 2) rfl
  have e3 : ∀ y : Past w6, y.val.cell? ⟨B, 3, none⟩ = some (.int .i64 a.p) := Past.blk S6.out (j := 3) rfl
  go_wp2
  refine wp_region_past (by kernel_rfl) (by kernel_rfl) ?_
  repeat (go_big_quiet_step (first | (go_at_call 36; exact past_call (HRM.out _ (H6.out.kept (Past.h _)))) | (go_at_call 51; exact past_call (rfits_val HF.out _))))
  refine wpQuiet_nil ?_
  intro _ hw'
  obtain ⟨s9, hw''⟩ := hw'
  subst hw''
  obtain ⟨w7, h9, e9⟩ : ∃ w7, Below w6.heap.size w6 w7 ∧ w7 = s9.val := ⟨_, s9.h, rfl⟩
  rw [← e9]
  have H7 := Lib.hid (H6.out.kept h9)
  have S7 := Lib.hid (S6.out.kept h9)
  have HB7 := Lib.hid (below_and HB6.out h9)
  clear h9 e9 e0 e1 e2 e3
  go_wp2
  go_ret
  exact ⟨rfl, HB7.out⟩

end Go.Proofs.Ytighcnecajgkpaa
