/- WireWrites, walked -/
import Derived.Test.YtchaigaechmbnaaWReads
namespace Go.Proofs.Ytchaigaechmbnaa
open Go.RowKit

theorem reach_text {n : Nat} (h : n ≤ 140737488351232) : n ≤ 199999999999000 := by omega

set_option maxRecDepth 100000 in
set_option maxHeartbeats 1000000 in
theorem wireWrites_true_short (v : Value) (l : List UInt8) (x : Nat) (y : Int) (s : ByteArray) (w : World) (h : Rd w v l) (hl : l.length ≤ 140737488351232) (hx : x < 18446744073709551616) (hy1 : -9223372036854775808 ≤ y) (hy2 : y < 9223372036854775808) (hs2 : s.size ≤ 9223372036854775807) (hy : 0 < y) (hs : s.size ≤ 65536) :
    Calls Try.prog 6 #[v, .int .u64 (x : Int), .int .i64 y, .string s] w fun e w' => e = .returned (.bool true) ∧ Below w.heap.size w w' := by
  have HV := Lib.hid h
  have HL := Lib.hid (room_reach hl)
  have HR := Lib.hid (reach_text hl)
  have HX := Lib.hid hx
  have HY1 := Lib.hid hy1
  have HY2 := Lib.hid hy2
  have t1 : decide (0 < y) = true := by simp; omega
  clear h hl hx hy1 hy2 hy
  go_enter Try.func6, Try.ntmps6
  go_wp2_with fail
  refine (lives_any w).mono ?_
  rintro e w1 ⟨rfl, hb⟩
  have HB1 := Lib.hid hb
  clear hb
  go_wp2_with fail
  refine (own_any v l w1 (HV.out.below HB1.out) HL.out).mono ?_
  rintro e w2 ⟨v2, rfl, ho, hb⟩
  have HO := Lib.hid ho
  have HB := Lib.hid (below_and HB1.out hb)
  clear hb ho HB1
  go_wp2_with fail
  refine (appendUint_any v2 l x _ (HO.out.rd HL.out) HL.out HX.out).mono ?_
  rintro e w1 ⟨v3, rfl, hf, hb⟩
  have HF := Lib.hid hf.rd
  have HO1 := Lib.hid (HO.out.below hb)
  have HB1 := Lib.hid (below_and HB.out hb)
  clear hf hb HO HB
  go_wp2_with fail
  refine (refAppendUint_any v l x _ (HV.out.below HB1.out) HL.out HX.out).mono ?_
  rintro e w2 ⟨v4, rfl, hf, hb⟩
  have HF2 := Lib.hid hf.rd
  have HF1 := Lib.hid (HF.out.below hb)
  have HO := Lib.hid (HO1.out.below hb)
  have HB := Lib.hid (below_and HB1.out hb)
  clear hf hb HO1 HB1 HF
  go_wp2_with fail
  refine (opq (same_any v3 v4 _ _ _ HF1.out HF2.out)).mono ?_
  rw [beq_self_eq_true]
  rintro e w3 ⟨rfl, hb⟩
  have HO1 := Lib.hid (HO.out.below hb)
  have HB1 := Lib.hid (below_and HB.out hb)
  clear hb HO HB HF1 HF2
  have HO := HO1
  have HB := HB1
  clear HO1 HB1
  go_wp2_with fail
  refine (appendInt_any v2 l y _ (HO.out.rd HL.out) HL.out HY1.out HY2.out).mono ?_
  rintro e w1 ⟨v3, rfl, hf, hb⟩
  have HF := Lib.hid hf.rd
  have HO1 := Lib.hid (HO.out.below hb)
  have HB1 := Lib.hid (below_and HB.out hb)
  clear hf hb HO HB
  go_wp2_with fail
  refine (refAppendInt_any v l y _ (HV.out.below HB1.out) HL.out HY1.out HY2.out).mono ?_
  rintro e w2 ⟨v4, rfl, hf, hb⟩
  have HF2 := Lib.hid hf.rd
  have HF1 := Lib.hid (HF.out.below hb)
  have HO := Lib.hid (HO1.out.below hb)
  have HB := Lib.hid (below_and HB1.out hb)
  clear hf hb HO1 HB1 HF
  go_wp2_with fail
  refine (opq (same_any v3 v4 _ _ _ HF1.out HF2.out)).mono ?_
  rw [beq_self_eq_true]
  rintro e w3 ⟨rfl, hb⟩
  have HO1 := Lib.hid (HO.out.below hb)
  have HB1 := Lib.hid (below_and HB.out hb)
  clear hb HO HB HF1 HF2
  have HO := HO1
  have HB := HB1
  clear HO1 HB1
  go_wp2_with fail
  refine (appendBool_true v2 l _ (HO.out.rd HL.out) HL.out).mono ?_
  rintro e w1 ⟨v3, rfl, hf, hb⟩
  have HF := Lib.hid hf.rd
  have HO1 := Lib.hid (HO.out.below hb)
  have HB1 := Lib.hid (below_and HB.out hb)
  clear hf hb HO HB
  go_wp2_with fail
  refine (refAppendBool_true v l _ (HV.out.below HB1.out) HL.out).mono ?_
  rintro e w2 ⟨v4, rfl, hf, hb⟩
  have HF2 := Lib.hid hf.rd
  have HF1 := Lib.hid (HF.out.below hb)
  have HO := Lib.hid (HO1.out.below hb)
  have HB := Lib.hid (below_and HB1.out hb)
  clear hf hb HO1 HB1 HF
  go_wp2_with fail
  refine (opq (same_any v3 v4 _ _ _ HF1.out HF2.out)).mono ?_
  rw [beq_self_eq_true]
  rintro e w3 ⟨rfl, hb⟩
  have HO1 := Lib.hid (HO.out.below hb)
  have HB1 := Lib.hid (below_and HB.out hb)
  clear hb HO HB HF1 HF2
  have HO := HO1
  have HB := HB1
  clear HO1 HB1
  go_wp2_with fail
  refine (appendText_any v2 l s _ (HO.out.rd HL.out) HR.out hs).mono ?_
  rintro e w1 ⟨v3, rfl, hf, hb⟩
  have HF := Lib.hid hf.rd
  have HO1 := Lib.hid (HO.out.below hb)
  have HB1 := Lib.hid (below_and HB.out hb)
  clear hf hb HO HB
  go_wp2_with fail
  refine (refAppendText_any v l s _ (HV.out.below HB1.out) HR.out hs).mono ?_
  rintro e w2 ⟨v4, rfl, hf, hb⟩
  have HF2 := Lib.hid hf.rd
  have HF1 := Lib.hid (HF.out.below hb)
  have HO := Lib.hid (HO1.out.below hb)
  have HB := Lib.hid (below_and HB1.out hb)
  clear hf hb HO1 HB1 HF
  go_wp2_with fail
  refine (opq (same_any v3 v4 _ _ _ HF1.out HF2.out)).mono ?_
  rw [beq_self_eq_true]
  rintro e w3 ⟨rfl, hb⟩
  have HO1 := Lib.hid (HO.out.below hb)
  have HB1 := Lib.hid (below_and HB.out hb)
  clear hb HO HB HF1 HF2
  go_wp2_with fail
  refine (opq (kept_any v2 v l _ HO1.out (HV.out.below HB1.out) HL.out)).mono ?_
  rintro e w5 ⟨rfl, hb⟩
  have HB := Lib.hid (below_and HB1.out hb)
  clear hb HO1 HB1
  go_wp2_with fail
  go_ret
  exact ⟨rfl, HB.out⟩

set_option maxRecDepth 100000 in
set_option maxHeartbeats 1000000 in
theorem wireWrites_true_long (v : Value) (l : List UInt8) (x : Nat) (y : Int) (s : ByteArray) (w : World) (h : Rd w v l) (hl : l.length ≤ 140737488351232) (hx : x < 18446744073709551616) (hy1 : -9223372036854775808 ≤ y) (hy2 : y < 9223372036854775808) (hs2 : s.size ≤ 9223372036854775807) (hy : 0 < y) (hs : 65536 < s.size) :
    Calls Try.prog 6 #[v, .int .u64 (x : Int), .int .i64 y, .string s] w fun e w' => e = .returned (.bool true) ∧ Below w.heap.size w w' := by
  have HV := Lib.hid h
  have HL := Lib.hid (room_reach hl)
  have HR := Lib.hid (reach_text hl)
  have HX := Lib.hid hx
  have HY1 := Lib.hid hy1
  have HY2 := Lib.hid hy2
  have t1 : decide (0 < y) = true := by simp; omega
  clear h hl hx hy1 hy2 hy
  go_enter Try.func6, Try.ntmps6
  go_wp2_with fail
  refine (lives_any w).mono ?_
  rintro e w1 ⟨rfl, hb⟩
  have HB1 := Lib.hid hb
  clear hb
  go_wp2_with fail
  refine (own_any v l w1 (HV.out.below HB1.out) HL.out).mono ?_
  rintro e w2 ⟨v2, rfl, ho, hb⟩
  have HO := Lib.hid ho
  have HB := Lib.hid (below_and HB1.out hb)
  clear hb ho HB1
  go_wp2_with fail
  refine (appendUint_any v2 l x _ (HO.out.rd HL.out) HL.out HX.out).mono ?_
  rintro e w1 ⟨v3, rfl, hf, hb⟩
  have HF := Lib.hid hf.rd
  have HO1 := Lib.hid (HO.out.below hb)
  have HB1 := Lib.hid (below_and HB.out hb)
  clear hf hb HO HB
  go_wp2_with fail
  refine (refAppendUint_any v l x _ (HV.out.below HB1.out) HL.out HX.out).mono ?_
  rintro e w2 ⟨v4, rfl, hf, hb⟩
  have HF2 := Lib.hid hf.rd
  have HF1 := Lib.hid (HF.out.below hb)
  have HO := Lib.hid (HO1.out.below hb)
  have HB := Lib.hid (below_and HB1.out hb)
  clear hf hb HO1 HB1 HF
  go_wp2_with fail
  refine (opq (same_any v3 v4 _ _ _ HF1.out HF2.out)).mono ?_
  rw [beq_self_eq_true]
  rintro e w3 ⟨rfl, hb⟩
  have HO1 := Lib.hid (HO.out.below hb)
  have HB1 := Lib.hid (below_and HB.out hb)
  clear hb HO HB HF1 HF2
  have HO := HO1
  have HB := HB1
  clear HO1 HB1
  go_wp2_with fail
  refine (appendInt_any v2 l y _ (HO.out.rd HL.out) HL.out HY1.out HY2.out).mono ?_
  rintro e w1 ⟨v3, rfl, hf, hb⟩
  have HF := Lib.hid hf.rd
  have HO1 := Lib.hid (HO.out.below hb)
  have HB1 := Lib.hid (below_and HB.out hb)
  clear hf hb HO HB
  go_wp2_with fail
  refine (refAppendInt_any v l y _ (HV.out.below HB1.out) HL.out HY1.out HY2.out).mono ?_
  rintro e w2 ⟨v4, rfl, hf, hb⟩
  have HF2 := Lib.hid hf.rd
  have HF1 := Lib.hid (HF.out.below hb)
  have HO := Lib.hid (HO1.out.below hb)
  have HB := Lib.hid (below_and HB1.out hb)
  clear hf hb HO1 HB1 HF
  go_wp2_with fail
  refine (opq (same_any v3 v4 _ _ _ HF1.out HF2.out)).mono ?_
  rw [beq_self_eq_true]
  rintro e w3 ⟨rfl, hb⟩
  have HO1 := Lib.hid (HO.out.below hb)
  have HB1 := Lib.hid (below_and HB.out hb)
  clear hb HO HB HF1 HF2
  have HO := HO1
  have HB := HB1
  clear HO1 HB1
  go_wp2_with fail
  refine (appendBool_true v2 l _ (HO.out.rd HL.out) HL.out).mono ?_
  rintro e w1 ⟨v3, rfl, hf, hb⟩
  have HF := Lib.hid hf.rd
  have HO1 := Lib.hid (HO.out.below hb)
  have HB1 := Lib.hid (below_and HB.out hb)
  clear hf hb HO HB
  go_wp2_with fail
  refine (refAppendBool_true v l _ (HV.out.below HB1.out) HL.out).mono ?_
  rintro e w2 ⟨v4, rfl, hf, hb⟩
  have HF2 := Lib.hid hf.rd
  have HF1 := Lib.hid (HF.out.below hb)
  have HO := Lib.hid (HO1.out.below hb)
  have HB := Lib.hid (below_and HB1.out hb)
  clear hf hb HO1 HB1 HF
  go_wp2_with fail
  refine (opq (same_any v3 v4 _ _ _ HF1.out HF2.out)).mono ?_
  rw [beq_self_eq_true]
  rintro e w3 ⟨rfl, hb⟩
  have HO1 := Lib.hid (HO.out.below hb)
  have HB1 := Lib.hid (below_and HB.out hb)
  clear hb HO HB HF1 HF2
  have HO := HO1
  have HB := HB1
  clear HO1 HB1
  go_wp2_with fail
  refine (opq_same ((appendText_long v2 s _ hs hs2).mono fun _ _ ⟨h1, h2⟩ => ⟨h1, h2.symm⟩)).mono ?_
  rintro e w1 ⟨rfl, hb⟩
  have HO1 := Lib.hid (HO.out.below hb)
  have HB1 := Lib.hid (below_and HB.out hb)
  clear hb HO HB
  go_wp2_with fail
  refine (opq_same ((refAppendText_long v s _ hs hs2).mono fun _ _ ⟨h1, h2⟩ => ⟨h1, h2.symm⟩)).mono ?_
  rintro e w2 ⟨rfl, hb⟩
  have HO := Lib.hid (HO1.out.below hb)
  have HB := Lib.hid (below_and HB1.out hb)
  clear hb HO1 HB1
  go_wp2_with fail
  refine (opq (same_any _ _ [] [] _ (rd_nil _) (rd_nil _))).mono ?_
  rw [beq_self_eq_true]
  rintro e w3 ⟨rfl, hb⟩
  have HO1 := Lib.hid (HO.out.below hb)
  have HB1 := Lib.hid (below_and HB.out hb)
  clear hb HO HB
  go_wp2_with fail
  refine (opq (kept_any v2 v l _ HO1.out (HV.out.below HB1.out) HL.out)).mono ?_
  rintro e w5 ⟨rfl, hb⟩
  have HB := Lib.hid (below_and HB1.out hb)
  clear hb HO1 HB1
  go_wp2_with fail
  go_ret
  exact ⟨rfl, HB.out⟩

set_option maxRecDepth 100000 in
set_option maxHeartbeats 1000000 in
theorem wireWrites_false_short (v : Value) (l : List UInt8) (x : Nat) (y : Int) (s : ByteArray) (w : World) (h : Rd w v l) (hl : l.length ≤ 140737488351232) (hx : x < 18446744073709551616) (hy1 : -9223372036854775808 ≤ y) (hy2 : y < 9223372036854775808) (hs2 : s.size ≤ 9223372036854775807) (hy : ¬ 0 < y) (hs : s.size ≤ 65536) :
    Calls Try.prog 6 #[v, .int .u64 (x : Int), .int .i64 y, .string s] w fun e w' => e = .returned (.bool true) ∧ Below w.heap.size w w' := by
  have HV := Lib.hid h
  have HL := Lib.hid (room_reach hl)
  have HR := Lib.hid (reach_text hl)
  have HX := Lib.hid hx
  have HY1 := Lib.hid hy1
  have HY2 := Lib.hid hy2
  have t1 : decide (0 < y) = false := by simp; omega
  clear h hl hx hy1 hy2 hy
  go_enter Try.func6, Try.ntmps6
  go_wp2_with fail
  refine (lives_any w).mono ?_
  rintro e w1 ⟨rfl, hb⟩
  have HB1 := Lib.hid hb
  clear hb
  go_wp2_with fail
  refine (own_any v l w1 (HV.out.below HB1.out) HL.out).mono ?_
  rintro e w2 ⟨v2, rfl, ho, hb⟩
  have HO := Lib.hid ho
  have HB := Lib.hid (below_and HB1.out hb)
  clear hb ho HB1
  go_wp2_with fail
  refine (appendUint_any v2 l x _ (HO.out.rd HL.out) HL.out HX.out).mono ?_
  rintro e w1 ⟨v3, rfl, hf, hb⟩
  have HF := Lib.hid hf.rd
  have HO1 := Lib.hid (HO.out.below hb)
  have HB1 := Lib.hid (below_and HB.out hb)
  clear hf hb HO HB
  go_wp2_with fail
  refine (refAppendUint_any v l x _ (HV.out.below HB1.out) HL.out HX.out).mono ?_
  rintro e w2 ⟨v4, rfl, hf, hb⟩
  have HF2 := Lib.hid hf.rd
  have HF1 := Lib.hid (HF.out.below hb)
  have HO := Lib.hid (HO1.out.below hb)
  have HB := Lib.hid (below_and HB1.out hb)
  clear hf hb HO1 HB1 HF
  go_wp2_with fail
  refine (opq (same_any v3 v4 _ _ _ HF1.out HF2.out)).mono ?_
  rw [beq_self_eq_true]
  rintro e w3 ⟨rfl, hb⟩
  have HO1 := Lib.hid (HO.out.below hb)
  have HB1 := Lib.hid (below_and HB.out hb)
  clear hb HO HB HF1 HF2
  have HO := HO1
  have HB := HB1
  clear HO1 HB1
  go_wp2_with fail
  refine (appendInt_any v2 l y _ (HO.out.rd HL.out) HL.out HY1.out HY2.out).mono ?_
  rintro e w1 ⟨v3, rfl, hf, hb⟩
  have HF := Lib.hid hf.rd
  have HO1 := Lib.hid (HO.out.below hb)
  have HB1 := Lib.hid (below_and HB.out hb)
  clear hf hb HO HB
  go_wp2_with fail
  refine (refAppendInt_any v l y _ (HV.out.below HB1.out) HL.out HY1.out HY2.out).mono ?_
  rintro e w2 ⟨v4, rfl, hf, hb⟩
  have HF2 := Lib.hid hf.rd
  have HF1 := Lib.hid (HF.out.below hb)
  have HO := Lib.hid (HO1.out.below hb)
  have HB := Lib.hid (below_and HB1.out hb)
  clear hf hb HO1 HB1 HF
  go_wp2_with fail
  refine (opq (same_any v3 v4 _ _ _ HF1.out HF2.out)).mono ?_
  rw [beq_self_eq_true]
  rintro e w3 ⟨rfl, hb⟩
  have HO1 := Lib.hid (HO.out.below hb)
  have HB1 := Lib.hid (below_and HB.out hb)
  clear hb HO HB HF1 HF2
  have HO := HO1
  have HB := HB1
  clear HO1 HB1
  go_wp2_with fail
  refine (appendBool_false v2 l _ (HO.out.rd HL.out) HL.out).mono ?_
  rintro e w1 ⟨v3, rfl, hf, hb⟩
  have HF := Lib.hid hf.rd
  have HO1 := Lib.hid (HO.out.below hb)
  have HB1 := Lib.hid (below_and HB.out hb)
  clear hf hb HO HB
  go_wp2_with fail
  refine (refAppendBool_false v l _ (HV.out.below HB1.out) HL.out).mono ?_
  rintro e w2 ⟨v4, rfl, hf, hb⟩
  have HF2 := Lib.hid hf.rd
  have HF1 := Lib.hid (HF.out.below hb)
  have HO := Lib.hid (HO1.out.below hb)
  have HB := Lib.hid (below_and HB1.out hb)
  clear hf hb HO1 HB1 HF
  go_wp2_with fail
  refine (opq (same_any v3 v4 _ _ _ HF1.out HF2.out)).mono ?_
  rw [beq_self_eq_true]
  rintro e w3 ⟨rfl, hb⟩
  have HO1 := Lib.hid (HO.out.below hb)
  have HB1 := Lib.hid (below_and HB.out hb)
  clear hb HO HB HF1 HF2
  have HO := HO1
  have HB := HB1
  clear HO1 HB1
  go_wp2_with fail
  refine (appendText_any v2 l s _ (HO.out.rd HL.out) HR.out hs).mono ?_
  rintro e w1 ⟨v3, rfl, hf, hb⟩
  have HF := Lib.hid hf.rd
  have HO1 := Lib.hid (HO.out.below hb)
  have HB1 := Lib.hid (below_and HB.out hb)
  clear hf hb HO HB
  go_wp2_with fail
  refine (refAppendText_any v l s _ (HV.out.below HB1.out) HR.out hs).mono ?_
  rintro e w2 ⟨v4, rfl, hf, hb⟩
  have HF2 := Lib.hid hf.rd
  have HF1 := Lib.hid (HF.out.below hb)
  have HO := Lib.hid (HO1.out.below hb)
  have HB := Lib.hid (below_and HB1.out hb)
  clear hf hb HO1 HB1 HF
  go_wp2_with fail
  refine (opq (same_any v3 v4 _ _ _ HF1.out HF2.out)).mono ?_
  rw [beq_self_eq_true]
  rintro e w3 ⟨rfl, hb⟩
  have HO1 := Lib.hid (HO.out.below hb)
  have HB1 := Lib.hid (below_and HB.out hb)
  clear hb HO HB HF1 HF2
  go_wp2_with fail
  refine (opq (kept_any v2 v l _ HO1.out (HV.out.below HB1.out) HL.out)).mono ?_
  rintro e w5 ⟨rfl, hb⟩
  have HB := Lib.hid (below_and HB1.out hb)
  clear hb HO1 HB1
  go_wp2_with fail
  go_ret
  exact ⟨rfl, HB.out⟩

set_option maxRecDepth 100000 in
set_option maxHeartbeats 1000000 in
theorem wireWrites_false_long (v : Value) (l : List UInt8) (x : Nat) (y : Int) (s : ByteArray) (w : World) (h : Rd w v l) (hl : l.length ≤ 140737488351232) (hx : x < 18446744073709551616) (hy1 : -9223372036854775808 ≤ y) (hy2 : y < 9223372036854775808) (hs2 : s.size ≤ 9223372036854775807) (hy : ¬ 0 < y) (hs : 65536 < s.size) :
    Calls Try.prog 6 #[v, .int .u64 (x : Int), .int .i64 y, .string s] w fun e w' => e = .returned (.bool true) ∧ Below w.heap.size w w' := by
  have HV := Lib.hid h
  have HL := Lib.hid (room_reach hl)
  have HR := Lib.hid (reach_text hl)
  have HX := Lib.hid hx
  have HY1 := Lib.hid hy1
  have HY2 := Lib.hid hy2
  have t1 : decide (0 < y) = false := by simp; omega
  clear h hl hx hy1 hy2 hy
  go_enter Try.func6, Try.ntmps6
  go_wp2_with fail
  refine (lives_any w).mono ?_
  rintro e w1 ⟨rfl, hb⟩
  have HB1 := Lib.hid hb
  clear hb
  go_wp2_with fail
  refine (own_any v l w1 (HV.out.below HB1.out) HL.out).mono ?_
  rintro e w2 ⟨v2, rfl, ho, hb⟩
  have HO := Lib.hid ho
  have HB := Lib.hid (below_and HB1.out hb)
  clear hb ho HB1
  go_wp2_with fail
  refine (appendUint_any v2 l x _ (HO.out.rd HL.out) HL.out HX.out).mono ?_
  rintro e w1 ⟨v3, rfl, hf, hb⟩
  have HF := Lib.hid hf.rd
  have HO1 := Lib.hid (HO.out.below hb)
  have HB1 := Lib.hid (below_and HB.out hb)
  clear hf hb HO HB
  go_wp2_with fail
  refine (refAppendUint_any v l x _ (HV.out.below HB1.out) HL.out HX.out).mono ?_
  rintro e w2 ⟨v4, rfl, hf, hb⟩
  have HF2 := Lib.hid hf.rd
  have HF1 := Lib.hid (HF.out.below hb)
  have HO := Lib.hid (HO1.out.below hb)
  have HB := Lib.hid (below_and HB1.out hb)
  clear hf hb HO1 HB1 HF
  go_wp2_with fail
  refine (opq (same_any v3 v4 _ _ _ HF1.out HF2.out)).mono ?_
  rw [beq_self_eq_true]
  rintro e w3 ⟨rfl, hb⟩
  have HO1 := Lib.hid (HO.out.below hb)
  have HB1 := Lib.hid (below_and HB.out hb)
  clear hb HO HB HF1 HF2
  have HO := HO1
  have HB := HB1
  clear HO1 HB1
  go_wp2_with fail
  refine (appendInt_any v2 l y _ (HO.out.rd HL.out) HL.out HY1.out HY2.out).mono ?_
  rintro e w1 ⟨v3, rfl, hf, hb⟩
  have HF := Lib.hid hf.rd
  have HO1 := Lib.hid (HO.out.below hb)
  have HB1 := Lib.hid (below_and HB.out hb)
  clear hf hb HO HB
  go_wp2_with fail
  refine (refAppendInt_any v l y _ (HV.out.below HB1.out) HL.out HY1.out HY2.out).mono ?_
  rintro e w2 ⟨v4, rfl, hf, hb⟩
  have HF2 := Lib.hid hf.rd
  have HF1 := Lib.hid (HF.out.below hb)
  have HO := Lib.hid (HO1.out.below hb)
  have HB := Lib.hid (below_and HB1.out hb)
  clear hf hb HO1 HB1 HF
  go_wp2_with fail
  refine (opq (same_any v3 v4 _ _ _ HF1.out HF2.out)).mono ?_
  rw [beq_self_eq_true]
  rintro e w3 ⟨rfl, hb⟩
  have HO1 := Lib.hid (HO.out.below hb)
  have HB1 := Lib.hid (below_and HB.out hb)
  clear hb HO HB HF1 HF2
  have HO := HO1
  have HB := HB1
  clear HO1 HB1
  go_wp2_with fail
  refine (appendBool_false v2 l _ (HO.out.rd HL.out) HL.out).mono ?_
  rintro e w1 ⟨v3, rfl, hf, hb⟩
  have HF := Lib.hid hf.rd
  have HO1 := Lib.hid (HO.out.below hb)
  have HB1 := Lib.hid (below_and HB.out hb)
  clear hf hb HO HB
  go_wp2_with fail
  refine (refAppendBool_false v l _ (HV.out.below HB1.out) HL.out).mono ?_
  rintro e w2 ⟨v4, rfl, hf, hb⟩
  have HF2 := Lib.hid hf.rd
  have HF1 := Lib.hid (HF.out.below hb)
  have HO := Lib.hid (HO1.out.below hb)
  have HB := Lib.hid (below_and HB1.out hb)
  clear hf hb HO1 HB1 HF
  go_wp2_with fail
  refine (opq (same_any v3 v4 _ _ _ HF1.out HF2.out)).mono ?_
  rw [beq_self_eq_true]
  rintro e w3 ⟨rfl, hb⟩
  have HO1 := Lib.hid (HO.out.below hb)
  have HB1 := Lib.hid (below_and HB.out hb)
  clear hb HO HB HF1 HF2
  have HO := HO1
  have HB := HB1
  clear HO1 HB1
  go_wp2_with fail
  refine (opq_same ((appendText_long v2 s _ hs hs2).mono fun _ _ ⟨h1, h2⟩ => ⟨h1, h2.symm⟩)).mono ?_
  rintro e w1 ⟨rfl, hb⟩
  have HO1 := Lib.hid (HO.out.below hb)
  have HB1 := Lib.hid (below_and HB.out hb)
  clear hb HO HB
  go_wp2_with fail
  refine (opq_same ((refAppendText_long v s _ hs hs2).mono fun _ _ ⟨h1, h2⟩ => ⟨h1, h2.symm⟩)).mono ?_
  rintro e w2 ⟨rfl, hb⟩
  have HO := Lib.hid (HO1.out.below hb)
  have HB := Lib.hid (below_and HB1.out hb)
  clear hb HO1 HB1
  go_wp2_with fail
  refine (opq (same_any _ _ [] [] _ (rd_nil _) (rd_nil _))).mono ?_
  rw [beq_self_eq_true]
  rintro e w3 ⟨rfl, hb⟩
  have HO1 := Lib.hid (HO.out.below hb)
  have HB1 := Lib.hid (below_and HB.out hb)
  clear hb HO HB
  go_wp2_with fail
  refine (opq (kept_any v2 v l _ HO1.out (HV.out.below HB1.out) HL.out)).mono ?_
  rintro e w5 ⟨rfl, hb⟩
  have HB := Lib.hid (below_and HB1.out hb)
  clear hb HO1 HB1
  go_wp2_with fail
  go_ret
  exact ⟨rfl, HB.out⟩

theorem wireWrites_walk (v : Value) (l : List UInt8) (x y : Int) (s : ByteArray) (w : World) (h : Rd w v l) (hl : l.length ≤ 140737488351232) (hx : (Lit.int .u64 x).wf = true) (hy : (Lit.int .i64 y).wf = true) (hs : s.size ≤ 140737488351232) :
    Calls Try.prog 6 #[v, .int .u64 x, .int .i64 y, .string s] w fun e w' => e = .returned (.bool true) ∧ Below w.heap.size w w' := by
  obtain ⟨hx0, hx1⟩ : 0 ≤ x ∧ x ≤ 18446744073709551615 := by simpa [Lit.wf, IntKind.min, IntKind.max, IntKind.signed, IntKind.bits] using hx
  obtain ⟨hy0, hy1⟩ : -9223372036854775808 ≤ y ∧ y ≤ 9223372036854775807 := by simpa [Lit.wf, IntKind.min, IntKind.max, IntKind.signed, IntKind.bits] using hy
  obtain ⟨k, rfl⟩ := Int.eq_ofNat_of_zero_le hx0
  by_cases h1 : 0 < y
  · by_cases h2 : s.size ≤ 65536
    · exact wireWrites_true_short v l k y s w h hl (by omega) hy0 (by omega) (by omega) h1 h2
    · exact wireWrites_true_long v l k y s w h hl (by omega) hy0 (by omega) (by omega) h1 (by omega)
  · by_cases h2 : s.size ≤ 65536
    · exact wireWrites_false_short v l k y s w h hl (by omega) hy0 (by omega) (by omega) h1 h2
    · exact wireWrites_false_long v l k y s w h hl (by omega) hy0 (by omega) (by omega) h1 (by omega)
end Go.Proofs.Ytchaigaechmbnaa
