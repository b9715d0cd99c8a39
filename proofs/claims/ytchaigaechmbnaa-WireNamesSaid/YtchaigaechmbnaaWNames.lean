/- WireNames, walked -/
import Derived.Test.YtchaigaechmbnaaWReads
namespace Go.Proofs.Ytchaigaechmbnaa
open Go.RowKit

set_option maxRecDepth 100000 in
set_option maxHeartbeats 2000000 in
theorem wireNames_walk (w : World) :
    Calls Try.prog 5 #[] w fun e w' => e = .returned (.bool true) ∧ Below w.heap.size w w' := by
  have L0 := Lib.hid (show ∀ w : World, Rd (w.alloc (.cells #[.int .u8 128] 5)) (.slice (some ⟨w.heap.size, 0, none⟩) 1 1) [128] from fun w => rd_lit w [128] (by decide))
  have L1 := Lib.hid (show ∀ w : World, Rd (w.alloc (.cells #[.int .u8 128, .int .u8 0] 5)) (.slice (some ⟨w.heap.size, 0, none⟩) 2 2) [128, 0] from fun w => rd_lit w [128, 0] (by decide))
  have L2 := Lib.hid (show ∀ w : World, Rd (w.alloc (.cells #[.int .u8 255, .int .u8 255, .int .u8 255, .int .u8 255, .int .u8 255, .int .u8 255, .int .u8 255, .int .u8 255, .int .u8 255, .int .u8 255] 5)) (.slice (some ⟨w.heap.size, 0, none⟩) 10 10) [255, 255, 255, 255, 255, 255, 255, 255, 255, 255] from fun w => rd_lit w [255, 255, 255, 255, 255, 255, 255, 255, 255, 255] (by decide))
  have L3 := Lib.hid (show ∀ w : World, Rd (w.alloc (.cells #[.int .u8 2] 5)) (.slice (some ⟨w.heap.size, 0, none⟩) 1 1) [2] from fun w => rd_lit w [2] (by decide))
  have L4 := Lib.hid (show ∀ w : World, Rd (w.alloc (.cells #[.int .u8 0, .int .u8 1, .int .u8 2, .int .u8 127, .int .u8 128, .int .u8 1] 5)) (.slice (some ⟨w.heap.size, 0, none⟩) 6 6) [0, 1, 2, 127, 128, 1] from fun w => rd_lit w [0, 1, 2, 127, 128, 1] (by decide))
  have L5 := Lib.hid (show ∀ w : World, Rd (w.alloc (.cells #[.int .u8 0, .int .u8 127, .int .u8 128, .int .u8 1] 5)) (.slice (some ⟨w.heap.size, 0, none⟩) 4 4) [0, 127, 128, 1] from fun w => rd_lit w [0, 127, 128, 1] (by decide))
  have L6 := Lib.hid (show ∀ w : World, Rd (w.alloc (.cells #[.int .u8 2, .int .u8 97, .int .u8 98] 5)) (.slice (some ⟨w.heap.size, 0, none⟩) 3 3) [2, 97, 98] from fun w => rd_lit w [2, 97, 98] (by decide))
  go_enter Try.func5, Try.ntmps5
  go_wp2_with fail
  refine (lives_any w).mono ?_
  rintro e w1 ⟨rfl, hb⟩
  have HB := Lib.hid hb
  clear hb
  go_wp2_with fail
  refine (appendInt_any _ _ 0 _ (rd_nil _) (by unfold Room; decide +kernel) (by decide) (by decide)).mono ?_
  rintro e w2 ⟨vb0, rfl, hf, hb⟩
  have HVB0 := Lib.hid hf.rd
  have HB := Lib.hid (below_and HB.out hb)
  clear hf hb
  go_wp2_with fail
  refine (appendInt_any vb0 _ (-1) _ HVB0.out (by unfold Room; decide +kernel) (by decide) (by decide)).mono ?_
  rintro e w2 ⟨vb1, rfl, hf, hb⟩
  have HVB1 := Lib.hid hf.rd
  have HB := Lib.hid (below_and HB.out hb)
  clear hf hb
  go_wp2_with fail
  refine (appendInt_any vb1 _ 1 _ HVB1.out (by unfold Room; decide +kernel) (by decide) (by decide)).mono ?_
  rintro e w2 ⟨vb2, rfl, hf, hb⟩
  have HVB2 := Lib.hid hf.rd
  have HB := Lib.hid (below_and HB.out hb)
  clear hf hb
  go_wp2_with fail
  refine (appendInt_any vb2 _ (-64) _ HVB2.out (by unfold Room; decide +kernel) (by decide) (by decide)).mono ?_
  rintro e w2 ⟨vb3, rfl, hf, hb⟩
  have HVB3 := Lib.hid hf.rd
  have HB := Lib.hid (below_and HB.out hb)
  clear hf hb
  go_wp2_with fail
  refine (appendInt_any vb3 _ 64 _ HVB3.out (by unfold Room; decide +kernel) (by decide) (by decide)).mono ?_
  rintro e w2 ⟨vb4, rfl, hf, hb⟩
  have HVB4 := Lib.hid hf.rd
  have HB := Lib.hid (below_and HB.out hb)
  clear hf hb
  go_wp2_with fail
  refine (appendUint_any _ _ 0 _ (rd_nil _) (by unfold Room; decide +kernel) (by decide)).mono ?_
  rintro e w2 ⟨vc0, rfl, hf, hb⟩
  have HVB4 := Lib.hid (HVB4.out.below hb)
  have HB := Lib.hid (below_and HB.out hb)
  have HVC0 := Lib.hid hf.rd
  clear hf hb
  go_wp2_with fail
  refine (appendUint_any vc0 _ 127 _ HVC0.out (by unfold Room; decide +kernel) (by decide)).mono ?_
  rintro e w2 ⟨vc1, rfl, hf, hb⟩
  have HVB4 := Lib.hid (HVB4.out.below hb)
  have HB := Lib.hid (below_and HB.out hb)
  have HVC1 := Lib.hid hf.rd
  clear hf hb
  go_wp2_with fail
  refine (appendUint_any vc1 _ 128 _ HVC1.out (by unfold Room; decide +kernel) (by decide)).mono ?_
  rintro e w2 ⟨vc2, rfl, hf, hb⟩
  have HVB4 := Lib.hid (HVB4.out.below hb)
  have HB := Lib.hid (below_and HB.out hb)
  have HVC2 := Lib.hid hf.rd
  clear hf hb
  go_wp2_with fail
  refine (opq (read_any _ [128] _ (L0.out _))).mono ?_
  rw [show Wire.read [128] = (0, 0, 4) from by decide]
  rintro e w2 ⟨rfl, hb⟩
  have HVB4 := Lib.hid ((HVB4.out.below (below_alloc _ _)).below hb)
  have HVC2 := Lib.hid ((HVC2.out.below (below_alloc _ _)).below hb)
  have HB := Lib.hid (below_and (below_and HB.out (below_alloc _ _)) hb)
  clear hb
  go_wp2_with fail
  refine (opq (read_any _ [128, 0] _ (L1.out _))).mono ?_
  rw [show Wire.read [128, 0] = (0, 0, 5) from by decide]
  rintro e w2 ⟨rfl, hb⟩
  have HVB4 := Lib.hid ((HVB4.out.below (below_alloc _ _)).below hb)
  have HVC2 := Lib.hid ((HVC2.out.below (below_alloc _ _)).below hb)
  have HB := Lib.hid (below_and (below_and HB.out (below_alloc _ _)) hb)
  clear hb
  go_wp2_with fail
  refine (opq (read_any _ [255, 255, 255, 255, 255, 255, 255, 255, 255, 255] _ (L2.out _))).mono ?_
  rw [show Wire.read [255, 255, 255, 255, 255, 255, 255, 255, 255, 255] = (0, 0, 5) from by decide]
  rintro e w2 ⟨rfl, hb⟩
  have HVB4 := Lib.hid ((HVB4.out.below (below_alloc _ _)).below hb)
  have HVC2 := Lib.hid ((HVC2.out.below (below_alloc _ _)).below hb)
  have HB := Lib.hid (below_and (below_and HB.out (below_alloc _ _)) hb)
  clear hb
  go_wp2_with fail
  refine (appendText_any _ [] ⟨#[97, 98]⟩ _ (rd_nil _) (by decide) (by decide)).mono ?_
  rintro e w2 ⟨vt, rfl, hf, hb⟩
  have HVB4 := Lib.hid (HVB4.out.below hb)
  have HVC2 := Lib.hid (HVC2.out.below hb)
  have HB := Lib.hid (below_and HB.out hb)
  have HVT := Lib.hid hf.rd
  clear hf hb
  go_wp2_with fail
  refine (new_op _ [2] _ (L3.out _) (by intro _ b hb; simp [Value.ownBlock] at hb; subst hb; simp)).mono ?_
  rintro e w2 ⟨b, rfl, hbb, hr, hb⟩
  have HN := Lib.hid (show w.heap.size ≤ b by have := HB.out.size; simp at hbb; omega)
  have HVB4 := Lib.hid ((HVB4.out.below (below_alloc _ _)).below hb)
  have HVC2 := Lib.hid ((HVC2.out.below (below_alloc _ _)).below hb)
  have HVT := Lib.hid ((HVT.out.below (below_alloc _ _)).below hb)
  have HB := Lib.hid (below_and (below_and HB.out (below_alloc _ _)) hb)
  have HR := Lib.hid hr
  clear hb hr hbb
  go_wp2_with fail
  refine (opq (same_any vb4 _ _ _ _ (HVB4.out.below (below_alloc _ _)) (L4.out _))).mono ?_
  rintro e w2 ⟨he, hb⟩
  obtain rfl : e = .returned (.bool true) := he.trans (ret_bool (by decide +kernel))
  clear he
  have HVC2 := Lib.hid ((HVC2.out.below (below_alloc _ _)).below hb)
  have HVT := Lib.hid ((HVT.out.below (below_alloc _ _)).below hb)
  have HR := Lib.hid ((HR.out.kept (below_alloc _ _)).kept hb)
  have HB := Lib.hid (below_and (below_and HB.out (below_alloc _ _)) hb)
  clear hb HVB4
  go_wp2_with fail
  refine (opq (same_any vc2 _ _ _ _ (HVC2.out.below (below_alloc _ _)) (L5.out _))).mono ?_
  rintro e w2 ⟨he, hb⟩
  obtain rfl : e = .returned (.bool true) := he.trans (ret_bool (by decide +kernel))
  clear he
  have HVT := Lib.hid ((HVT.out.below (below_alloc _ _)).below hb)
  have HR := Lib.hid ((HR.out.kept (below_alloc _ _)).kept hb)
  have HB := Lib.hid (below_and (below_and HB.out (below_alloc _ _)) hb)
  clear hb HVC2
  go_wp2_with fail
  refine (opq (same_any vt _ _ _ _ (HVT.out.below (below_alloc _ _)) (L6.out _))).mono ?_
  rintro e w2 ⟨he, hb⟩
  obtain rfl : e = .returned (.bool true) := he.trans (ret_bool (by decide +kernel))
  clear he
  have HR := Lib.hid ((HR.out.kept (below_alloc _ _)).kept hb)
  have HB := Lib.hid (below_and (below_and HB.out (below_alloc _ _)) hb)
  clear hb HVT
  go_wp2_with fail
  refine (bool_any b [2] 0 0 _ HR.out).mono ?_
  intro e w2 hrm
  obtain ⟨rfl, hr, hg⟩ := hrm.state (at_ := 0) (er := 5) (u := .bool false) (by decide) (by rfl)
  have HB := Lib.hid (below_andG HB.out hg HN.out)
  have HR := Lib.hid hr
  clear hr hg hrm
  go_wp2_with fail
  refine (opq_same (err_any b [2] 0 5 _ HR.out)).mono ?_
  rintro e w2 ⟨rfl, hb⟩
  have HR := Lib.hid (HR.out.kept hb)
  have HB := Lib.hid (below_and HB.out hb)
  clear hb
  go_wp2_with fail
  refine (uint_any b [2] 0 5 _ HR.out (by decide)).mono ?_
  intro e w2 hrm
  obtain ⟨rfl, hr, hg⟩ := hrm.state (at_ := 0) (er := 5) (u := .int .u64 0) (by decide) (by rfl)
  have HB := Lib.hid (below_andG HB.out hg HN.out)
  have HR := Lib.hid hr
  clear hr hg hrm
  go_wp2_with fail
  refine (opq_same (at_any b [2] 0 5 _ HR.out)).mono ?_
  rintro e w2 ⟨rfl, hb⟩
  have HR := Lib.hid (HR.out.kept hb)
  have HB := Lib.hid (below_and HB.out hb)
  clear hb
  go_wp2_with fail
  go_ret
  exact ⟨rfl, HB.out⟩
end Go.Proofs.Ytchaigaechmbnaa
