/- The ledger's Free, Left. -/
import Derived.Test.YtighcnecajgkpaaLedRoom
import Derived.Lib.Strings
namespace Go.Proofs.Ytighcnecajgkpaa
open Go.RowKit

set_option maxRecDepth 100000 in
set_option maxHeartbeats 2000000 in
theorem free_made (b mb : Nat) (cap : Am) (L : List Ent) (w : World) (h : Led w b mb cap L) (hd : Apart L) (ho : Oks L) (hf : Fit (inB ⟨#[]⟩ ⟨#[]⟩) L) (z : Am) (er : Int) (hz : subR cap (sumA (inB ⟨#[]⟩ ⟨#[]⟩) L) = (z, er)) :
    Calls Try.prog 13 #[ptr b] w fun e w' => e = .returned (amV z) ∧ Below w.heap.size w w' := by
  obtain ⟨w3, hw3⟩ : ∃ w3, w3 = w.alloc (.cells #[.int .i64 0, .int .i64 0, .int .i64 0, .int .i64 0] 28) := ⟨_, rfl⟩
  obtain ⟨B, hB⟩ : ∃ B, B = w.heap.size := ⟨_, rfl⟩
  have S0 : Hid (Blk w3 B (amC .zero) 28) := Lib.hid (by rw [hw3, hB]; exact Blk.made w (amC .zero) _)
  have HBL : Hid (Below w.heap.size w w3) := Lib.hid (by rw [hw3]; exact below_alloc w _)
  have HBW : Hid (w.heap.size ≤ B) := Lib.hid (by omega)
  have H3 : Hid (Led w3 b mb cap L) := Lib.hid (h.kept HBL.out)
  have HRM : Hid (Calls Try.prog 31 #[ptr b, .string ⟨#[]⟩, .string ⟨#[]⟩] w3 fun e w' => e = .returned (amV z) ∧ Below w3.heap.size w3 w') := Lib.hid (room_top b mb cap L ⟨#[]⟩ ⟨#[]⟩ w3 H3.out hd ho hf (by rw [Lib.toList_data]) z er hz)
  clear h hd ho hf hz
  go_enter Try.func13, Try.ntmps13
  go_upto_region 1 with fail
  rw [← hw3, ← hB]
  clear hw3 hB
  go_wp2_with (first
    | (go_at_call 29; refine (none_made b mb _ _ _ H3.out).mono ?_; rintro e w' ⟨rfl, rfl⟩)
    | (go_at_call 31; refine HRM.out.mono ?_; rintro e w4 ⟨rfl, hb⟩; have hbr := S0.out.kept hb; have BR := Lib.hid hbr; have HB4 := Lib.hid (below_and HBL.out hb); have r0 := hbr.cell (j := 0) rfl; have r1 := hbr.cell (j := 1) rfl; have r2 := hbr.cell (j := 2) rfl; have r3 := hbr.cell (j := 3) rfl; have f0 := hbr.free 0; have f1 := hbr.free 1; have f2 := hbr.free 2; have f3 := hbr.free 3; clear hb hbr))
  refine bodyPost_ret (results_row rfl _ _ B 28 #[.int .i64 z.c, .int .i64 z.r, .int .i64 z.d, .int .i64 z.p] (0, 0) _ rfl ?_ Try.underlying28 rfl (by kernel_rfl)) rfl ⟨rfl, bel_set4 HB4.out HBW.out⟩
  exact (((BR.out.set 0 (.int .i64 z.c)).set 1 (.int .i64 z.r)).set 2 (.int .i64 z.d)).set 3 (.int .i64 z.p)

set_option maxRecDepth 100000 in
set_option maxHeartbeats 2000000 in
theorem left_no (b mb : Nat) (cap : Am) (L : List Ent) (s : ByteArray) (w : World) (h : Led w b mb cap L) (hs : s.size ≤ maxLen) (hx : fnd L s.data.toList = none) :
    Calls Try.prog 10 #[ptr b, .string s] w fun e w' => e = .returned (.tuple #[amV ⟨0, 0, 0, 0⟩, .int .i64 6]) ∧ Below w.heap.size w w' := by
  obtain ⟨w3, hw3⟩ : ∃ w3, w3 = w.alloc (.cells #[.int .i64 0, .int .i64 0, .int .i64 0, .int .i64 0] 28) := ⟨_, rfl⟩
  obtain ⟨B, hB⟩ : ∃ B, B = w.heap.size := ⟨_, rfl⟩
  have S0 : Hid (Blk w3 B (amC .zero) 28) := Lib.hid (by rw [hw3, hB]; exact Blk.made w (amC .zero) _)
  have HBL : Hid (Below w.heap.size w w3) := Lib.hid (by rw [hw3]; exact below_alloc w _)
  have HBW : Hid (w.heap.size ≤ B) := Lib.hid (by omega)
  have HG := Lib.hid (lget_no b mb cap L s w3 (h.kept HBL.out) hs hx)
  clear h hs hx
  go_enter Try.func10, Try.ntmps10
  go_upto_region 1 with fail
  rw [← hw3, ← hB]
  clear hw3 hB
  go_wp2_with (go_at_call 22; refine HG.out.mono ?_; rintro e w4 ⟨rfl, hb⟩; have hbr : Blk (w4.alloc (.cells #[.string ⟨#[]⟩, .string ⟨#[]⟩, .int .i64 0, .int .i64 0, .int .i64 0, .int .i64 0] 48)) B (amC .zero) 28 := (S0.out.kept hb).alloc _; have BR := Lib.hid hbr; have HB4 := Lib.hid (below_and (below_and HBL.out hb) (below_alloc w4 (.cells #[.string ⟨#[]⟩, .string ⟨#[]⟩, .int .i64 0, .int .i64 0, .int .i64 0, .int .i64 0] 48))); have r0 := hbr.cell (j := 0) rfl; have r1 := hbr.cell (j := 1) rfl; have r2 := hbr.cell (j := 2) rfl; have r3 := hbr.cell (j := 3) rfl; have f0 := hbr.free 0; have f1 := hbr.free 1; have f2 := hbr.free 2; have f3 := hbr.free 3; clear hb hbr)
  refine bodyPost_ret (results_row_tmp rfl _ _ B 28 #[.int .i64 0, .int .i64 0, .int .i64 0, .int .i64 0] (0, 0) _ rfl ?_ Try.underlying28 rfl (by kernel_rfl)) rfl ⟨rfl, bel_set4 HB4.out HBW.out⟩
  exact (((BR.out.set 0 (.int .i64 0)).set 1 (.int .i64 0)).set 2 (.int .i64 0)).set 3 (.int .i64 0)

set_option maxRecDepth 100000 in
set_option maxHeartbeats 2000000 in
theorem left_yes (b mb : Nat) (cap : Am) (L : List Ent) (s : ByteArray) (x : Ent) (w : World) (h : Led w b mb cap L) (hs : s.size ≤ maxLen) (hn : ¬ s.toList = []) (hx : fnd L s.data.toList = some x) (hd : Apart L) (ho : Oks L) (hf : Fit (inB s ⟨#[]⟩) L) (z : Am) (er : Int) (hz : subR x.a (sumA (inB s ⟨#[]⟩) L) = (z, er)) :
    Calls Try.prog 10 #[ptr b, .string s] w fun e w' => e = .returned (.tuple #[amV z, .int .i64 0]) ∧ Below w.heap.size w w' := by
  obtain ⟨w3, hw3⟩ : ∃ w3, w3 = w.alloc (.cells #[.int .i64 0, .int .i64 0, .int .i64 0, .int .i64 0] 28) := ⟨_, rfl⟩
  obtain ⟨B, hB⟩ : ∃ B, B = w.heap.size := ⟨_, rfl⟩
  have S0 : Hid (Blk w3 B (amC .zero) 28) := Lib.hid (by rw [hw3, hB]; exact Blk.made w (amC .zero) _)
  have HBL : Hid (Below w.heap.size w w3) := Lib.hid (by rw [hw3]; exact below_alloc w _)
  have HBW : Hid (w.heap.size ≤ B) := Lib.hid (by omega)
  have H3 := Lib.hid (h.kept HBL.out)
  have HG := Lib.hid (lget_yes b mb cap L s x w3 H3.out hs hx)
  have HRM : Hid (∀ w, Led w b mb cap L → Calls Try.prog 31 #[ptr b, .string s, .string ⟨#[]⟩] w fun e w' => e = .returned (amV z) ∧ Below w.heap.size w w') := Lib.hid (fun w h => room_in b mb cap L s ⟨#[]⟩ x w h hd ho hf hn hs hx z er hz)
  clear h hs hx hd ho hf hz hn
  go_enter Try.func10, Try.ntmps10
  go_upto_region 1 with fail
  rw [← hw3, ← hB]
  clear hw3 hB
  go_wp2_with (first
    | (go_at_call 22; refine HG.out.mono ?_; rintro e w4 ⟨rfl, hb⟩; have H4 := Lib.hid (H3.out.kept hb); have S4 := Lib.hid (S0.out.kept hb); have HB4 := Lib.hid (below_and HBL.out hb); clear hb)
    | (go_at_call 31; refine (HRM.out _ (H4.out.kept (below_alloc _ _))).mono ?_; rintro e w5 ⟨rfl, hb⟩; have hbr := S4.out.kept (below_and (below_alloc _ _) hb); have BR := Lib.hid hbr; have HB5 := Lib.hid (below_and HB4.out (below_and (below_alloc _ _) hb)); have r0 := hbr.cell (j := 0) rfl; have r1 := hbr.cell (j := 1) rfl; have r2 := hbr.cell (j := 2) rfl; have r3 := hbr.cell (j := 3) rfl; have f0 := hbr.free 0; have f1 := hbr.free 1; have f2 := hbr.free 2; have f3 := hbr.free 3; clear hb hbr))
  refine bodyPost_ret (results_row_tmp rfl _ _ B 28 #[.int .i64 z.c, .int .i64 z.r, .int .i64 z.d, .int .i64 z.p] (0, 0) _ rfl ?_ Try.underlying28 rfl (by kernel_rfl)) rfl ⟨rfl, bel_set4 HB5.out HBW.out⟩
  exact (((BR.out.set 0 (.int .i64 z.c)).set 1 (.int .i64 z.r)).set 2 (.int .i64 z.d)).set 3 (.int .i64 z.p)
end Go.Proofs.Ytighcnecajgkpaa
