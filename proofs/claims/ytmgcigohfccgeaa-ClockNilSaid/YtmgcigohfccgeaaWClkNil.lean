/- the walk of ClockNil -/
import Derived.Test.YtmgcigohfccgeaaWatchNil
import Derived.Test.YtmgcigohfccgeaaCLives
import Derived.Test.YtmgcigohfccgeaaOpen3
namespace Go.Proofs.Ytmgcigohfccgeaa
open Go.RowKit

set_option maxRecDepth 100000 in
set_option maxHeartbeats 1000000 in
theorem clockNil_go (k n : Int) (s : ByteArray) (w : World) :
    Calls Try.prog 12 #[.agg #[.int .i64 k, .string s, .int .i64 n]] w fun e w' => e = .returned (.bool true) ∧ Below w.heap.size w w' := by
  go_enter Try.func12, Try.ntmps12
  obtain ⟨w3, hw3⟩ : ∃ w3, w3 = (((w.alloc (.cells #[.int .i64 k, .string s, .int .i64 n] 82)).alloc (.cells #[.int .i64 0, .slice none 0 0, .bool false] 87)).alloc (.cells #[.pointer none, .pointer (some ⟨w.heap.size + 1, 0, none⟩)] 45)) := ⟨_, rfl⟩
  have hb3 : Below w.heap.size w w3 := hw3 ▸ below_and (below_and (below_alloc w _) (below_alloc _ _)) (below_alloc _ _)
  have hb1 : Blk w3 w.heap.size [.int .i64 k, .string s, .int .i64 n] 82 := hw3 ▸ ((Blk.made w [.int .i64 k, .string s, .int .i64 n] _).alloc _).alloc _
  have hb2 : Blk w3 (w.heap.size + 1) [.int .i64 0, .slice none 0 0, .bool false] 87 := hw3 ▸ (by
    have := (Blk.made (w.alloc (.cells #[.int .i64 k, .string s, .int .i64 n] 82)) [.int .i64 0, .slice none 0 0, .bool false] 87).alloc (.cells #[.pointer none, .pointer (some ⟨w.heap.size + 1, 0, none⟩)] 45)
    simpa using this)
  have hb4 : Blk w3 (w.heap.size + 1 + 1) [.pointer none, .pointer (some ⟨w.heap.size + 1, 0, none⟩)] 45 := hw3 ▸ (by
    have := Blk.made ((w.alloc (.cells #[.int .i64 k, .string s, .int .i64 n] 82)).alloc (.cells #[.int .i64 0, .slice none 0 0, .bool false] 87)) [.pointer none, .pointer (some ⟨w.heap.size + 1, 0, none⟩)] 45
    simpa using this)
  have c0 := hb1.cell (j := 0) rfl
  have c1 := hb1.cell (j := 1) rfl
  have c2 := hb1.cell (j := 2) rfl
  have d0 := hb4.cell (j := 0) rfl
  have d1 := hb4.cell (j := 1) rfl
  have N0 : Hid (Nw w3 (.pointer none)) := Lib.hid (.inl rfl)
  have N1 : Hid (Nw w3 (ptr (w.heap.size + 1))) := Lib.hid (.inr ⟨_, rfl, hb2⟩)
  have HB3 := Lib.hid hb3
  clear hb1 hb2 hb3 hb4
  go_wp2
  rw [← hw3]
  have HW3 := Lib.hid hw3
  clear hw3
  go_loop [4] (fun i => ∃ q : Nat, q ≤ 2 ∧ i = .int .i64 (q : Int)) (fun i => 2 - (intOf i).toNat)
  case atStart => exact ⟨0, by omega, rfl⟩
  case round =>
    obtain ⟨q, hq, rfl⟩ := hrel
    obtain rfl | rfl | rfl : q = 0 ∨ q = 1 ∨ q = 2 := by omega
    · go_wp2_with (first
      | (go_at_call 29; refine (wtick_not _ _ _ N0.out).mono ?_; rintro e w4 ⟨rfl, rfl⟩)
      | (go_at_call 32; refine (wleft_not _ _ _ N0.out).mono ?_; rintro e w4 ⟨rfl, rfl⟩)
      | (go_at_call 28; refine (wset_not _ _ _ _ N0.out).mono ?_; rintro e w4 ⟨rfl, rfl⟩)
      | (go_at_call 35; refine (wdrop_not _ _ _ N0.out).mono ?_; rintro e w4 ⟨rfl, rfl⟩)
      | (go_at_call 34; refine (wnow_not _ _ N0.out).mono ?_; rintro e w4 ⟨rfl, rfl⟩)
      | (go_at_call 55; refine (wnames_not _ _ N0.out).mono ?_; rintro e w4 ⟨rfl, rfl⟩))
      go_round
      case rel => exact ⟨1, by omega, by go_num⟩
      case measure => simp [intOf]
    · go_wp2_with (first
      | (go_at_call 29; refine (wtick_not _ _ _ N1.out).mono ?_; rintro e w4 ⟨rfl, rfl⟩)
      | (go_at_call 32; refine (wleft_not _ _ _ N1.out).mono ?_; rintro e w4 ⟨rfl, rfl⟩)
      | (go_at_call 28; refine (wset_not _ _ _ _ N1.out).mono ?_; rintro e w4 ⟨rfl, rfl⟩)
      | (go_at_call 35; refine (wdrop_not _ _ _ N1.out).mono ?_; rintro e w4 ⟨rfl, rfl⟩)
      | (go_at_call 34; refine (wnow_not _ _ N1.out).mono ?_; rintro e w4 ⟨rfl, rfl⟩)
      | (go_at_call 55; refine (wnames_not _ _ N1.out).mono ?_; rintro e w4 ⟨rfl, rfl⟩))
      go_round
      case rel => exact ⟨2, by omega, by go_num⟩
      case measure => simp [intOf]
    · go_wp2_with (go_at_call 21; refine (clives _).mono ?_; rintro e w4 ⟨rfl, hb⟩; have HB4 := Lib.hid (below_and HB3.out hb); clear hb)
      go_ret
      exact ⟨rfl, HB4.out⟩

theorem clockNil_walk (cs : List Value) (w : World) (hl : cs.length = 3) (h0 : fieldOk Try.prog 3 (cs.getD 0 undef)) (h1 : fieldOk Try.prog 9 (cs.getD 1 undef)) (h2 : fieldOk Try.prog 3 (cs.getD 2 undef)) :
    Calls Try.prog 12 #[.agg cs.toArray] w fun e w' => e = .returned (.bool true) ∧ Below w.heap.size w w' := by
  match cs, hl, h0, h1, h2 with
  | [a, b, c], _, h0, h1, h2 =>
    obtain ⟨k, rfl, -⟩ := fieldOk.int (v := a) h0 Try.underlying3
    obtain ⟨s, rfl, -⟩ := fieldOk.str (v := b) h1 Try.underlying9
    obtain ⟨n, rfl, -⟩ := fieldOk.int (v := c) h2 Try.underlying3
    exact clockNil_go k n s w
end Go.Proofs.Ytmgcigohfccgeaa
