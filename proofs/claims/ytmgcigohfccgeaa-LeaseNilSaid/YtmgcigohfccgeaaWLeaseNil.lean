/- the walk of LeaseNil -/
import Derived.Test.YtmgcigohfccgeaaTabNil
import Derived.Test.YtmgcigohfccgeaaLLives
import Derived.Test.YtmgcigohfccgeaaOpen3
namespace Go.Proofs.Ytmgcigohfccgeaa
open Go.RowKit

set_option maxRecDepth 100000 in
set_option maxHeartbeats 2000000 in
theorem leaseNil_go (k bt nw n : Int) (s : ByteArray) (w : World) :
    Calls Try.prog 10 #[.agg #[.int .i64 k, .string s, .int .u64 bt, .int .i64 nw, .int .i64 n]] w fun e w' => e = .returned (.bool true) ∧ Below w.heap.size w w' := by
  go_enter Try.func10, Try.ntmps10
  obtain ⟨w3, hw3⟩ : ∃ w3, w3 = (((w.alloc (.cells #[.int .i64 k, .string s, .int .u64 bt, .int .i64 nw, .int .i64 n] 66)).alloc (.cells #[.int .i64 0, .int .i64 0, .int .i64 0, .map none] 71)).alloc (.cells #[.pointer none, .pointer (some ⟨w.heap.size + 1, 0, none⟩)] 28)) := ⟨_, rfl⟩
  have hb3 : Below w.heap.size w w3 := hw3 ▸ below_and (below_and (below_alloc w _) (below_alloc _ _)) (below_alloc _ _)
  have HA : Hid (Blk w3 w.heap.size [.int .i64 k, .string s, .int .u64 bt, .int .i64 nw, .int .i64 n] 66) := Lib.hid (hw3 ▸ ((Blk.made w [.int .i64 k, .string s, .int .u64 bt, .int .i64 nw, .int .i64 n] _).alloc _).alloc _)
  have hb2 : Blk w3 (w.heap.size + 1) [.int .i64 0, .int .i64 0, .int .i64 0, .map none] 71 := hw3 ▸ (by
    have := (Blk.made (w.alloc (.cells #[.int .i64 k, .string s, .int .u64 bt, .int .i64 nw, .int .i64 n] 66)) [.int .i64 0, .int .i64 0, .int .i64 0, .map none] 71).alloc (.cells #[.pointer none, .pointer (some ⟨w.heap.size + 1, 0, none⟩)] 28)
    simpa using this)
  have HL : Hid (Blk w3 (w.heap.size + 1 + 1) [.pointer none, .pointer (some ⟨w.heap.size + 1, 0, none⟩)] 28) := Lib.hid (hw3 ▸ (by
    have := Blk.made ((w.alloc (.cells #[.int .i64 k, .string s, .int .u64 bt, .int .i64 nw, .int .i64 n] 66)).alloc (.cells #[.int .i64 0, .int .i64 0, .int .i64 0, .map none] 71)) [.pointer none, .pointer (some ⟨w.heap.size + 1, 0, none⟩)] 28
    simpa using this))
  have N0 : Hid (Nt w3 (.pointer none)) := Lib.hid (.inl rfl)
  have N1 : Hid (Nt w3 (ptr (w.heap.size + 1))) := Lib.hid (.inr ⟨_, rfl, hb2⟩)
  have HB3 := Lib.hid hb3
  clear hb2 hb3
  go_wp2
  rw [← hw3]
  have HW3 := Lib.hid hw3
  clear hw3
  go_loopw [4] (fun i wc => ∃ q : Nat, q ≤ 2 ∧ i = .int .i64 (q : Int) ∧ Hid (Below w3.heap.size w3 wc)) (fun i _ => 2 - (intOf i).toNat)
  case atStart => exact ⟨0, by omega, rfl, Lib.hid (Below.refl _ _)⟩
  case round =>
    obtain ⟨q, hq, rfl, HB4⟩ := hrel
    have c1 := (HA.out.kept HB4.out).cell (j := 1) rfl
    have c2 := (HA.out.kept HB4.out).cell (j := 2) rfl
    have c3 := (HA.out.kept HB4.out).cell (j := 3) rfl
    have c4 := (HA.out.kept HB4.out).cell (j := 4) rfl
    have d0 := (HL.out.kept HB4.out).cell (j := 0) rfl
    have d1 := (HL.out.kept HB4.out).cell (j := 1) rfl
    obtain rfl | rfl | rfl : q = 0 ∨ q = 1 ∨ q = 2 := by omega
    · go_wp2_with (first
      | (go_at_call 37; refine (techo_not _ _ _ (N0.out.kept HB4.out)).mono ?_; rintro e w4 ⟨rfl, hb⟩; have HB5 := Lib.hid (below_and HB4.out hb); clear hb HB4; have HB4 := HB5; clear HB5 c1 c2 c3 c4; have c1 := (HA.out.kept HB4.out).cell (j := 1) rfl; have c2 := (HA.out.kept HB4.out).cell (j := 2) rfl; have c3 := (HA.out.kept HB4.out).cell (j := 3) rfl; have c4 := (HA.out.kept HB4.out).cell (j := 4) rfl)
      | (go_at_call 20; refine (tsure_not _ _ _ (N0.out.kept HB4.out)).mono ?_; rintro e w4 ⟨rfl, hb⟩; have HB5 := Lib.hid (below_and HB4.out hb); clear hb HB4; have HB4 := HB5; clear HB5 c1 c2 c3 c4; have c1 := (HA.out.kept HB4.out).cell (j := 1) rfl; have c2 := (HA.out.kept HB4.out).cell (j := 2) rfl; have c3 := (HA.out.kept HB4.out).cell (j := 3) rfl; have c4 := (HA.out.kept HB4.out).cell (j := 4) rfl)
      | (go_at_call 50; refine (tleft_not _ _ _ (N0.out.kept HB4.out)).mono ?_; rintro e w4 ⟨rfl, hb⟩; have HB5 := Lib.hid (below_and HB4.out hb); clear hb HB4; have HB4 := HB5; clear HB5 c1 c2 c3 c4; have c1 := (HA.out.kept HB4.out).cell (j := 1) rfl; have c2 := (HA.out.kept HB4.out).cell (j := 2) rfl; have c3 := (HA.out.kept HB4.out).cell (j := 3) rfl; have c4 := (HA.out.kept HB4.out).cell (j := 4) rfl)
      | (go_at_call 18; refine (theard_not _ _ _ _ _ (N0.out.kept HB4.out)).mono ?_; rintro e w4 ⟨rfl, hb⟩; have HB5 := Lib.hid (below_and HB4.out hb); clear hb HB4; have HB4 := HB5; clear HB5 c1 c2 c3 c4; have c1 := (HA.out.kept HB4.out).cell (j := 1) rfl; have c2 := (HA.out.kept HB4.out).cell (j := 2) rfl; have c3 := (HA.out.kept HB4.out).cell (j := 3) rfl; have c4 := (HA.out.kept HB4.out).cell (j := 4) rfl)
      | (go_at_call 36; refine (tover_not _ _ (N0.out.kept HB4.out)).mono ?_; rintro e w4 ⟨rfl, hb⟩; have HB5 := Lib.hid (below_and HB4.out hb); clear hb HB4; have HB4 := HB5; clear HB5 c1 c2 c3 c4; have c1 := (HA.out.kept HB4.out).cell (j := 1) rfl; have c2 := (HA.out.kept HB4.out).cell (j := 2) rfl; have c3 := (HA.out.kept HB4.out).cell (j := 3) rfl; have c4 := (HA.out.kept HB4.out).cell (j := 4) rfl)
      | (go_at_call 16; refine (tadd_not _ _ _ (N0.out.kept HB4.out)).mono ?_; rintro e w4 ⟨rfl, rfl⟩)
      | (go_at_call 19; refine (ttick_not _ _ _ (N0.out.kept HB4.out)).mono ?_; rintro e w4 ⟨rfl, rfl⟩)
      | (go_at_call 45; refine (tnames_not _ _ (N0.out.kept HB4.out)).mono ?_; rintro e w4 ⟨rfl, rfl⟩)
      | (go_at_call 38; refine (tnow_not _ _ (N0.out.kept HB4.out)).mono ?_; rintro e w4 ⟨rfl, rfl⟩)
      | (go_at_call 39; refine (tlease_not _ _ (N0.out.kept HB4.out)).mono ?_; rintro e w4 ⟨rfl, rfl⟩))
      go_roundw
      case rel => exact ⟨1, by omega, by go_num, HB4⟩
      case measure => simp [intOf]
    · go_wp2_with (first
      | (go_at_call 37; refine (techo_not _ _ _ (N1.out.kept HB4.out)).mono ?_; rintro e w4 ⟨rfl, hb⟩; have HB5 := Lib.hid (below_and HB4.out hb); clear hb HB4; have HB4 := HB5; clear HB5 c1 c2 c3 c4; have c1 := (HA.out.kept HB4.out).cell (j := 1) rfl; have c2 := (HA.out.kept HB4.out).cell (j := 2) rfl; have c3 := (HA.out.kept HB4.out).cell (j := 3) rfl; have c4 := (HA.out.kept HB4.out).cell (j := 4) rfl)
      | (go_at_call 20; refine (tsure_not _ _ _ (N1.out.kept HB4.out)).mono ?_; rintro e w4 ⟨rfl, hb⟩; have HB5 := Lib.hid (below_and HB4.out hb); clear hb HB4; have HB4 := HB5; clear HB5 c1 c2 c3 c4; have c1 := (HA.out.kept HB4.out).cell (j := 1) rfl; have c2 := (HA.out.kept HB4.out).cell (j := 2) rfl; have c3 := (HA.out.kept HB4.out).cell (j := 3) rfl; have c4 := (HA.out.kept HB4.out).cell (j := 4) rfl)
      | (go_at_call 50; refine (tleft_not _ _ _ (N1.out.kept HB4.out)).mono ?_; rintro e w4 ⟨rfl, hb⟩; have HB5 := Lib.hid (below_and HB4.out hb); clear hb HB4; have HB4 := HB5; clear HB5 c1 c2 c3 c4; have c1 := (HA.out.kept HB4.out).cell (j := 1) rfl; have c2 := (HA.out.kept HB4.out).cell (j := 2) rfl; have c3 := (HA.out.kept HB4.out).cell (j := 3) rfl; have c4 := (HA.out.kept HB4.out).cell (j := 4) rfl)
      | (go_at_call 18; refine (theard_not _ _ _ _ _ (N1.out.kept HB4.out)).mono ?_; rintro e w4 ⟨rfl, hb⟩; have HB5 := Lib.hid (below_and HB4.out hb); clear hb HB4; have HB4 := HB5; clear HB5 c1 c2 c3 c4; have c1 := (HA.out.kept HB4.out).cell (j := 1) rfl; have c2 := (HA.out.kept HB4.out).cell (j := 2) rfl; have c3 := (HA.out.kept HB4.out).cell (j := 3) rfl; have c4 := (HA.out.kept HB4.out).cell (j := 4) rfl)
      | (go_at_call 36; refine (tover_not _ _ (N1.out.kept HB4.out)).mono ?_; rintro e w4 ⟨rfl, hb⟩; have HB5 := Lib.hid (below_and HB4.out hb); clear hb HB4; have HB4 := HB5; clear HB5 c1 c2 c3 c4; have c1 := (HA.out.kept HB4.out).cell (j := 1) rfl; have c2 := (HA.out.kept HB4.out).cell (j := 2) rfl; have c3 := (HA.out.kept HB4.out).cell (j := 3) rfl; have c4 := (HA.out.kept HB4.out).cell (j := 4) rfl)
      | (go_at_call 16; refine (tadd_not _ _ _ (N1.out.kept HB4.out)).mono ?_; rintro e w4 ⟨rfl, rfl⟩)
      | (go_at_call 19; refine (ttick_not _ _ _ (N1.out.kept HB4.out)).mono ?_; rintro e w4 ⟨rfl, rfl⟩)
      | (go_at_call 45; refine (tnames_not _ _ (N1.out.kept HB4.out)).mono ?_; rintro e w4 ⟨rfl, rfl⟩)
      | (go_at_call 38; refine (tnow_not _ _ (N1.out.kept HB4.out)).mono ?_; rintro e w4 ⟨rfl, rfl⟩)
      | (go_at_call 39; refine (tlease_not _ _ (N1.out.kept HB4.out)).mono ?_; rintro e w4 ⟨rfl, rfl⟩))
      go_roundw
      case rel => exact ⟨2, by omega, by go_num, HB4⟩
      case measure => simp [intOf]
    · go_wp2_with (go_at_call 13; refine (llives _).mono ?_; rintro e w4 ⟨rfl, hb⟩; have HB5 := Lib.hid (below_and HB3.out (below_and HB4.out hb)); clear hb)
      go_ret
      exact ⟨rfl, HB5.out⟩

theorem leaseNil_walk (cs : List Value) (w : World) (hl : cs.length = 5) (h0 : fieldOk Try.prog 3 (cs.getD 0 undef)) (h1 : fieldOk Try.prog 9 (cs.getD 1 undef)) (h2 : fieldOk Try.prog 34 (cs.getD 2 undef)) (h3 : fieldOk Try.prog 2 (cs.getD 3 undef)) (h4 : fieldOk Try.prog 3 (cs.getD 4 undef)) :
    Calls Try.prog 10 #[.agg cs.toArray] w fun e w' => e = .returned (.bool true) ∧ Below w.heap.size w w' := by
  match cs, hl, h0, h1, h2, h3, h4 with
  | [a, b, c, d, f], _, h0, h1, h2, h3, h4 =>
    obtain ⟨k, rfl, -⟩ := fieldOk.int (v := a) h0 Try.underlying3
    obtain ⟨s, rfl, -⟩ := fieldOk.str (v := b) h1 Try.underlying9
    obtain ⟨bt, rfl, -⟩ := fieldOk.int (v := c) h2 Try.underlying34
    obtain ⟨nw, rfl, -⟩ := fieldOk.int (v := d) h3 Try.underlying2
    obtain ⟨n, rfl, -⟩ := fieldOk.int (v := f) h4 Try.underlying3
    exact leaseNil_go k bt nw n s w
end Go.Proofs.Ytmgcigohfccgeaa
