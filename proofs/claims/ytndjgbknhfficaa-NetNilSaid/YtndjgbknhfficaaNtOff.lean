/- a net that is not there, or that nobody made (written by gennet.py). -/
import Derived.Test.YtndjgbknhfficaaNtFlight
import Derived.Test.YtndjgbknhfficaaNtDbl
import Derived.Test.YtndjgbknhfficaaNtSend
namespace Go.Proofs.Ytndjgbknhfficaa.Nt
open Go.RowKit Go.Proofs.Ytndjgbknhfficaa Go.Proofs.Ytndjgbknhfficaa.So

def NoNet (w : World) (v : Value) : Prop := v = .pointer none ∨ ∃ b x, v = ptr b ∧ Blk w b [.map none, x] 59
theorem NoNet.kept {w w' : World} {v : Value} (h : NoNet w v) (hb : Below w.heap.size w w') : NoNet w' v := by
  rcases h with h | ⟨b, x, h, h2⟩
  · exact .inl h
  · exact .inr ⟨b, x, h, h2.kept hb⟩
theorem none_off {w : World} {v : Value} (h : NoNet w v) : Calls Try.prog 31 #[v] w fun e w' => e = .returned (.bool true) ∧ w = w' := by
  rcases h with rfl | ⟨b, x, rfl, h⟩
  · exact none_nil w
  · exact none_un b w (h.cell (j := 0) rfl)
set_option maxRecDepth 100000 in
set_option maxHeartbeats 2000000 in
theorem send_off {w : World} (v u : Value) (sd rc : Int) (h : NoNet w v) : Calls Try.prog 9 #[v, .int .i64 sd, .int .i64 rc, u] w fun e w' => e = .returned (.tuple #[.int .u64 0, .int .i64 1]) ∧ Below w.heap.size w w' := by
  have HN := Lib.hid h
  clear h
  go_enter Try.func9, Try.ntmps9
  go_wp2_with (go_at_call 31; refine (none_off HN.out).mono ?_; rintro e w' ⟨rfl, rfl⟩)
  go_ret2
  exact ⟨rfl, Below.refl _ _⟩
set_option maxRecDepth 100000 in
set_option maxHeartbeats 2000000 in
theorem sent_off {w : World} (v : Value) (h : NoNet w v) : Calls Try.prog 27 #[v] w fun e w' => e = .returned (.int .u64 0) ∧ Below w.heap.size w w' := by
  have HN := Lib.hid h
  clear h
  go_enter Try.func27, Try.ntmps27
  go_wp2_with (go_at_call 31; refine (none_off HN.out).mono ?_; rintro e w' ⟨rfl, rfl⟩)
  go_ret
  exact ⟨rfl, Below.refl _ _⟩
set_option maxRecDepth 100000 in
set_option maxHeartbeats 2000000 in
theorem find_off {w : World} (v : Value) (n : Int) (h : NoNet w v) : Calls Try.prog 35 #[v, .int .u64 n] w fun e w' => e = .returned (.tuple #[zeV, .int .i64 1]) ∧ Below w.heap.size w w' := by
  have HN := Lib.hid (h.kept (below_alloc w (.cells #[.int .u64 0, .int .u64 0, .int .i64 0, .int .i64 0, .slice none 0 0] 32)))
  clear h
  go_enter Try.func35, Try.ntmps35
  go_wp2_with (go_at_call 31; refine (none_off HN.out).mono ?_; rintro e w' ⟨rfl, rfl⟩)
  refine ret_cell rfl rfl rfl (Blk.made w [.int .u64 0, .int .u64 0, .int .i64 0, .int .i64 0, .slice none 0 0] 32) Try.underlying32 rfl (by kernel_rfl) ?_
  exact ⟨rfl, below_alloc w _⟩
set_option maxRecDepth 100000 in
set_option maxHeartbeats 2000000 in
theorem deliver_off {w : World} (v : Value) (n : Int) (h : NoNet w v) :
    Calls Try.prog 11 #[v, .int .u64 n] w fun e w' => e = .returned (.tuple #[zeV, .int .i64 1]) ∧ Below w.heap.size w w' := by
  obtain ⟨w0, hw0⟩ : ∃ w0, w0 = w.alloc (.cells #[.int .u64 0, .int .u64 0, .int .i64 0, .int .i64 0, .slice none 0 0] 32) := ⟨_, rfl⟩
  have H0 := Lib.hid (h.kept (below_alloc w (.cells #[.int .u64 0, .int .u64 0, .int .i64 0, .int .i64 0, .slice none 0 0] 32)))
  have HX0 := Lib.hid (Blk.made w [.int .u64 0, .int .u64 0, .int .i64 0, .int .i64 0, .slice none 0 0] 32)
  have HB0 := Lib.hid (below_alloc w (.cells #[.int .u64 0, .int .u64 0, .int .i64 0, .int .i64 0, .slice none 0 0] 32))
  rw [← hw0] at H0 HX0 HB0
  have HFI := Lib.hid (find_off v n H0.out)
  clear h
  go_enter Try.func11, Try.ntmps11
  go_upto_region 1 with fail
  rw [← hw0]
  obtain ⟨R, hR⟩ : ∃ R, R = w.heap.size := ⟨_, rfl⟩
  rw [← hR] at HX0 HB0 ⊢
  have HRW : Hid (w.heap.size ≤ R) := Lib.hid (by omega)
  have HRR : Hid (R = w.heap.size) := Lib.hid hR
  clear hw0 hR
  go_upto_region 2 with (go_at_call 35; refine HFI.out.mono ?_; rintro e w2 ⟨rfl, hb⟩; have HB2 := Lib.hid hb; have HX2 := Lib.hid (HX0.out.kept hb); have H2 := Lib.hid (H0.out.kept hb); clear hb)
  obtain ⟨w3, hw3⟩ : ∃ w3, w3 = w2.alloc (.cells #[.int .u64 0, .int .u64 0, .int .i64 0, .int .i64 0, .slice none 0 0] 32) := ⟨_, rfl⟩
  obtain ⟨K, hK⟩ : ∃ K, K = w2.heap.size := ⟨_, rfl⟩
  have HB3 : Hid (Below w.heap.size w w3) := Lib.hid (by rw [hw3]; have h1 := HB0.out; rw [HRR.out] at h1; exact below_and (below_and h1 HB2.out) (below_alloc _ _))
  have HK3 : Hid (Blk w3 K [.int .u64 0, .int .u64 0, .int .i64 0, .int .i64 0, .slice none 0 0] 32) := Lib.hid (by rw [hw3, hK]; exact Blk.made w2 [.int .u64 0, .int .u64 0, .int .i64 0, .int .i64 0, .slice none 0 0] 32)
  have HX3 : Hid (Blk w3 R [.int .u64 0, .int .u64 0, .int .i64 0, .int .i64 0, .slice none 0 0] 32) := Lib.hid (by rw [hw3]; exact HX2.out.alloc _)
  have H3 : Hid (NoNet w3 v) := Lib.hid (by rw [hw3]; exact H2.out.kept (below_alloc _ _))
  rw [← hw3, ← hK]
  clear hw3 hK HX2 H2 HB2 HX0 HB0 HFI
  have x0 := HK3.out.cell (j := 0) rfl
  have x1 := HK3.out.cell (j := 1) rfl
  have x2 := HK3.out.cell (j := 2) rfl
  have x3 := HK3.out.cell (j := 3) rfl
  have x4 := HK3.out.cell (j := 4) rfl
  have f0 := HX3.out.free 0
  have f1 := HX3.out.free 1
  have f2 := HX3.out.free 2
  have f3 := HX3.out.free 3
  have f4 := HX3.out.free 4
  have y0 := HX3.out.cell (j := 0) rfl
  have y1 := HX3.out.cell (j := 1) rfl
  have y2 := HX3.out.cell (j := 2) rfl
  have y3 := HX3.out.cell (j := 3) rfl
  have y4 := HX3.out.cell (j := 4) rfl
  go_wp2
  refine ret_cell rfl rfl rfl (blk_fill5 HX3.out _ _ _ _ _) Try.underlying32 rfl (by kernel_rfl) ?_
  refine ⟨rfl, HB3.out.trans ((frp_fill5 w3 R _ _ _ _ _).below (fun k hk => by subst hk; exact HRW.out) HB3.out.size)⟩
set_option maxRecDepth 100000 in
set_option maxHeartbeats 2000000 in
theorem double_off {w : World} (v : Value) (n : Int) (h : NoNet w v) : Calls Try.prog 10 #[v, .int .u64 n] w fun e w' => e = .returned (.tuple #[.int .u64 0, .int .i64 1]) ∧ Below w.heap.size w w' := by
  have H := Lib.hid (find_off v n h)
  clear h
  go_enter Try.func10, Try.ntmps10
  go_wp2_with (go_at_call 35; refine H.out.mono ?_; rintro e w2 ⟨rfl, hb⟩; have HB := Lib.hid hb; clear hb H)
  go_ret2
  exact ⟨rfl, below_and HB.out (below_alloc _ _)⟩
set_option maxRecDepth 100000 in
set_option maxHeartbeats 2000000 in
theorem lose_off {w : World} (v : Value) (n : Int) (h : NoNet w v) : Calls Try.prog 14 #[v, .int .u64 n] w fun e w' => e = .returned (.int .i64 1) ∧ Below w.heap.size w w' := by
  have H := Lib.hid (deliver_off v n h)
  clear h
  go_enter Try.func14, Try.ntmps14
  go_wp2_with (go_at_call 11; refine H.out.mono ?_; rintro e w2 ⟨rfl, hb⟩; have HB := Lib.hid hb; clear hb H)
  go_ret
  exact ⟨rfl, below_and HB.out (below_alloc _ _)⟩
set_option maxRecDepth 100000 in
set_option maxHeartbeats 2000000 in
theorem numbers_off {w : World} (v f : Value) (h : NoNet w v) : Calls Try.prog 36 #[v, f] w fun e w' => e = .returned (.slice none 0 0) ∧ Below w.heap.size w w' := by
  have HN := Lib.hid h
  clear h
  go_enter Try.func36, Try.ntmps36
  go_wp2_with (go_at_call 31; refine (none_off HN.out).mono ?_; rintro e w' ⟨rfl, rfl⟩)
  go_ret
  exact ⟨rfl, Below.refl _ _⟩
set_option maxRecDepth 100000 in
set_option maxHeartbeats 2000000 in
theorem to_off {w : World} (v : Value) (x : Int) (h : NoNet w v) : Calls Try.prog 13 #[v, .int .i64 x] w fun e w' => e = .returned (.slice none 0 0) ∧ Below w.heap.size w w' := by
  have HN := Lib.hid h
  clear h
  go_enter Try.func13, Try.ntmps13
  go_wp2_with (go_at_call 36; refine (numbers_off v _ HN.out).mono ?_; rintro e w2 ⟨rfl, hb⟩; have HB := Lib.hid hb; clear hb HN)
  go_ret
  exact ⟨rfl, HB.out⟩
set_option maxRecDepth 100000 in
set_option maxHeartbeats 2000000 in
theorem clear_off {w : World} (v : Value) (x : Int) (h : NoNet w v) : Calls Try.prog 18 #[v, .int .i64 x] w fun e w' => e = .returned (.tuple #[]) ∧ Below w.heap.size w w' := by
  have HN := Lib.hid h
  clear h
  go_enter Try.func18, Try.ntmps18
  go_upto_region 1 with (go_at_call 13; refine (to_off v x HN.out).mono ?_; rintro e wk ⟨rfl, hb⟩; have HB := Lib.hid hb; clear hb HN)
  go_loopw [10] (fun vi wr => vi = .int .i64 0 ∧ wr = wk) (fun _ _ => 0)
  case atStart => exact ⟨rfl, rfl⟩
  case round =>
    obtain ⟨rfl, rfl⟩ := hrel
    go_wp2
    go_end0
    exact ⟨rfl, HB.out⟩
set_option maxRecDepth 100000 in
set_option maxHeartbeats 2000000 in
theorem flight_off {w : World} (v : Value) (h : NoNet w v) : Calls Try.prog 30 #[v] w fun e w' => e = .returned (.slice none 0 0) ∧ Below w.heap.size w w' := by
  have HN := Lib.hid h
  clear h
  go_enter Try.func30, Try.ntmps30
  go_upto_region 3 with (go_at_call 36; refine (numbers_off v _ HN.out).mono ?_; rintro e wk ⟨rfl, hb⟩; have HB := Lib.hid hb; clear hb HN)
  go_loopw [3, 10] (fun vo vi wr => vo = .slice none 0 0 ∧ vi = .int .i64 0 ∧ wr = wk) (fun _ _ _ => 0)
  case atStart => exact ⟨rfl, rfl, rfl⟩
  case round =>
    obtain ⟨rfl, rfl, rfl⟩ := hrel
    go_wp2
    go_ret
    exact ⟨rfl, HB.out⟩
end Go.Proofs.Ytndjgbknhfficaa.Nt
