/- WireBack, walked -/
import Derived.Test.YtchaigaechmbnaaWOne
namespace Go.Proofs.Ytchaigaechmbnaa
open Go.RowKit

theorem bytes_eta (s : ByteArray) : (⟨s.data.toList.toArray⟩ : ByteArray) = s := by
  cases s; simp

/-- what is put down, and what stands behind it -/
def back (x : Nat) (y : Int) (c : UInt8) (s : ByteArray) : List UInt8 := Wire.enc x ++ Wire.enc (Wire.zig y) ++ [c] ++ Wire.enc s.size ++ s.data.toList

theorem back_len (x : Nat) (y : Int) (c : UInt8) (s : ByteArray) (hs : s.size ≤ 65536) : (back x y c s).length ≤ 70000 := by
  have h1 := Wire.enc_len x
  have h2 := Wire.enc_len (Wire.zig y)
  have h3 := Wire.enc_len s.size
  unfold back; simp; omega

theorem done_back {l more c : List UInt8} (h : l = c ++ more) : ((Wire.done l c.length 0 : Int) == 0) = ((more.length : Int) == 0) := by
  unfold Wire.done
  subst h
  by_cases hm : more.length = 0
  · simp [hm]
  · have e : ((more.length : Int) == 0) = false := by rw [beq_eq_false_iff_ne]; omega
    rw [e, if_pos ⟨rfl, by simp; omega⟩]
    rfl

set_option maxRecDepth 100000 in
set_option maxHeartbeats 2000000 in
theorem wireBack_true (x : Nat) (y : Int) (s : ByteArray) (v : Value) (l : List UInt8) (w : World) (h : Rd w v l) (hl : l.length ≤ 140737488351232) (hx : x < 18446744073709551616) (hy1 : -9223372036854775808 ≤ y) (hy2 : y < 9223372036854775808) (hp : ((x : Int) % 2 == 0) = true) (hs : s.size ≤ 65536) :
    Calls Try.prog 7 #[.int .u64 (x : Int), .int .i64 y, .string s, v] w fun e w' => e = .returned (.bool true) ∧ Below w.heap.size w w' := by
  obtain ⟨i0, hi, hz0, hz1, hz2⟩ := info_parts Try.uinfo
  obtain ⟨pm, cm, rfl, -⟩ := h.parts
  obtain ⟨cb, hcb⟩ : ∃ cb, cb = back x y 1 s := ⟨_, rfl⟩
  have HCB := Lib.hid hcb
  have HCL := Lib.hid (show cb.length ≤ 70000 by rw [hcb]; exact back_len x y 1 s hs)
  have hU := Wire.uint_here (l := cb ++ l) (pre := []) (post := Wire.enc (Wire.zig y) ++ ([1] ++ (Wire.enc s.size ++ (s.data.toList ++ l)))) (x := x) hx (by rw [hcb]; simp [back])
  have hI := Wire.int_here (l := cb ++ l) (pre := Wire.enc x) (post := ([1] ++ (Wire.enc s.size ++ (s.data.toList ++ l)))) hy1 hy2 (by rw [hcb]; simp [back])
  have hB := Wire.bool_here (l := cb ++ l) (pre := Wire.enc x ++ Wire.enc (Wire.zig y)) (post := Wire.enc s.size ++ (s.data.toList ++ l)) (b := true) (by rw [hcb]; simp [back])
  have hT := Wire.text_here (l := cb ++ l) (pre := Wire.enc x ++ Wire.enc (Wire.zig y) ++ [1]) (t := s.data.toList) (post := l) (by simpa using hs) (by rw [hcb]; simp [back])
  have hE : (Wire.enc x ++ Wire.enc (Wire.zig y) ++ [1]).length + (Wire.enc s.data.toList.length).length + s.data.toList.length = cb.length := by rw [hcb]; simp [back]; omega
  rw [hE] at hT
  simp only [List.length_append, List.length_nil, Nat.zero_add, List.length_singleton] at hU hI hB hT
  obtain ⟨p1, hp1⟩ : ∃ p1, p1 = (Wire.enc x).length := ⟨_, rfl⟩
  obtain ⟨p2, hp2⟩ : ∃ p2, p2 = (Wire.enc x).length + (Wire.enc (Wire.zig y)).length := ⟨_, rfl⟩
  obtain ⟨p3, hp3⟩ : ∃ p3, p3 = (Wire.enc x).length + (Wire.enc (Wire.zig y)).length + 1 := ⟨_, rfl⟩
  rw [← hp1] at hU hI hp2 hp3
  rw [← hp1] at hB hT
  rw [← hp2] at hI hB hp3 hT
  rw [← hp3] at hB hT
  have HU := Lib.hid hU
  have HI := Lib.hid hI
  have HBB := Lib.hid hB
  have HT := Lib.hid hT
  have HV := Lib.hid h
  have HL := Lib.hid hl
  have HX := Lib.hid hx
  have HY1 := Lib.hid hy1
  have HY2 := Lib.hid hy2
  have HS := Lib.hid hs
  have HLL := Lib.hid (show (cb ++ l).length ≤ 9223372036854775807 by have := HCL.out; simp; omega)
  clear h hl hx hy1 hy2 hU hI hB hT hE hp1 hp2 hp3 hcb hs
  go_enter Try.func7, Try.ntmps7
  go_wp2_with fail
  refine (lives_any w).mono ?_
  rintro e w1 ⟨rfl, hb⟩
  have HB := Lib.hid hb
  clear hb
  go_wp2_with fail
  refine (appendUint_any _ [] x _ (rd_nil _) (by unfold Room; decide) HX.out).mono ?_
  rintro e w2 ⟨v1, rfl, hf, hb⟩
  have HF := Lib.hid hf.rd
  have HB2 := Lib.hid (below_and HB.out hb)
  clear hf hb HB
  go_wp2_with fail
  refine (appendInt_any v1 _ y _ HF.out (by have := Wire.enc_len x; unfold Room; simp; omega) HY1.out HY2.out).mono ?_
  rintro e w3 ⟨v2, rfl, hf, hb⟩
  have HF2 := Lib.hid hf.rd
  have HB := Lib.hid (below_and HB2.out hb)
  clear hf hb HB2 HF
  go_wp2_with fail
  refine (appendBool_true v2 _ _ HF2.out (by have := Wire.enc_len x; have := Wire.enc_len (Wire.zig y); unfold Room; simp; omega)).mono ?_
  rintro e w4 ⟨v3, rfl, hf, hb⟩
  have HF := Lib.hid hf.rd
  have HB2 := Lib.hid (below_and HB.out hb)
  clear hf hb HB HF2
  go_wp2_with fail
  refine (appendText_any v3 _ s _ HF.out (by have := Wire.enc_len x; have := Wire.enc_len (Wire.zig y); simp; omega) HS.out).mono ?_
  rintro e w5 ⟨v4, rfl, hf, hb⟩
  have hf2 : Rd w5 v4 cb := by rw [HCB.out]; exact hf.rd
  have HF2 := Lib.hid hf2
  have HB := Lib.hid (below_and HB2.out hb)
  clear hf hb HB2 HF hf2
  obtain ⟨pc, cc, rfl, -⟩ := HF2.out.parts
  go_wp2_with (first
    | (at_builtin; refine wpList_app _ rfl _ _ 22 22 rfl w5.heap.size 5 i0 (.int .u8 0) 1 1 Try.underlying22 hi hz0 hz1 hz2 rfl _ cb.length (cb.map B) rfl HF6.out _ l.length (l.map B) rfl (Row.src Try.underlying22 (HV.out.below HB6.out)) (by have := HL.out; have := HCL.out; unfold maxLen; omega) (by have := HL.out; have := HCL.out; omega) HS6.out ?_; intro v7 w7 hown' hgrow hnil; have HF7 := Lib.hid (Fresh.app (r := l) hown' rfl rfl rfl); have HB7 := Lib.hid (below_and HB.out (below_grown HG6.out HS6.out HF6.out hgrow)); clear hown' hgrow hnil)
    | (at_builtin; refine wpList_app _ rfl _ _ 22 22 rfl w5.heap.size 5 i0 (.int .u8 0) 1 1 Try.underlying22 hi hz0 hz1 hz2 rfl _ 0 [] rfl (own_none _) _ cb.length (cb.map B) rfl (HF2.out.lit0) (by have := HCL.out; unfold maxLen; omega) (by have := HCL.out; omega) (by simp) ?_; intro v6 w6 hown' hgrow hnil; have HF6 := Lib.hid (fresh_zero hown'); have HG6 := Lib.hid (below_grown ((Below.refl _ _).alloc (Nat.le_refl _) _) (by simp) (own_none _) hgrow); have HS6 := Lib.hid HG6.out.size; have HB6 := Lib.hid (below_and HB.out HG6.out); clear hown' hgrow hnil))
  refine (new_op v7 (cb ++ l) w7 HF7.out.rd (fun _ b hb => (HF7.out.lt b hb).2)).mono ?_
  rintro e w8 ⟨b, rfl, hbb, hr, hb⟩
  have HR := Lib.hid hr
  have HB8 := Lib.hid (below_and HB7.out hb)
  have HN := Lib.hid (show w.heap.size ≤ b by have := HB7.out.size; omega)
  clear hb hr hbb HB HB6 HB7 HF6 HF7 HG6 HS6 HF2
  go_wp2_with fail
  refine (uint_any b (cb ++ l) 0 0 _ HR.out HLL.out).mono ?_
  intro e w9 hrm
  obtain ⟨rfl, hr, hg⟩ := hrm.state (at_ := p1) (er := 0) (u := .int .u64 (x : Int)) (by rw [HU.out]) (by rw [HU.out])
  have HR9 := Lib.hid hr
  have HB9 := Lib.hid (below_andG HB8.out hg HN.out)
  clear hr hg hrm HR HB8
  go_wp2_with fail
  refine (int_any b (cb ++ l) p1 0 _ HR9.out HLL.out).mono ?_
  intro e w10 hrm
  obtain ⟨rfl, hr, hg⟩ := hrm.state (at_ := p2) (er := 0) (u := .int .i64 y) (by rw [HI.out]) (by rw [HI.out])
  have HR := Lib.hid hr
  have HB := Lib.hid (below_andG HB9.out hg HN.out)
  clear hr hg hrm HR9 HB9
  go_wp2_with fail
  refine (bool_any b (cb ++ l) p2 0 _ HR.out).mono ?_
  intro e w11 hrm
  obtain ⟨rfl, hr, hg⟩ := hrm.state (at_ := p3) (er := 0) (u := .bool true) (by rw [HBB.out]) (by rw [HBB.out])
  have HR9 := Lib.hid hr
  have HB9 := Lib.hid (below_andG HB.out hg HN.out)
  clear hr hg hrm HR HB
  go_wp2_with fail
  refine (text_any b (cb ++ l) p3 0 _ HR9.out HLL.out).mono ?_
  intro e w12 hrm
  obtain ⟨rfl, hr, hg⟩ := hrm.state (at_ := cb.length) (er := 0) (u := .string s) (by rw [HT.out]) (by rw [HT.out, bytes_eta])
  have HR := Lib.hid hr
  have HB := Lib.hid (below_andG HB9.out hg HN.out)
  clear hr hg hrm HR9 HB9
  go_wp2_with fail
  refine (opq_same (err_any b (cb ++ l) cb.length 0 _ HR.out)).mono ?_
  rintro e w13 ⟨rfl, hb⟩
  have HR9 := Lib.hid (HR.out.kept hb)
  have HB9 := Lib.hid (below_and HB.out hb)
  clear hb HR HB
  go_wp2_with fail
  refine (opq_same (at_any b (cb ++ l) cb.length 0 _ HR9.out)).mono ?_
  rintro e w14 ⟨rfl, hb⟩
  have HR := Lib.hid (HR9.out.kept hb)
  have HB := Lib.hid (below_and HB9.out hb)
  clear hb HR9 HB9
  go_wp2_with fail
  refine (appendUint_any _ [] x _ (rd_nil _) (by unfold Room; decide) HX.out).mono ?_
  rintro e w15 ⟨vn, rfl, hf, hb⟩
  have hf2 : Rd w15 vn (Wire.enc x) := hf.rd
  have HR9 := Lib.hid (HR.out.kept hb)
  have HB9 := Lib.hid (below_and HB.out hb)
  obtain ⟨pn, cn, rfl, hcn, hmn, -⟩ := hf2.parts
  have HF := Lib.hid hf2
  have hel := Wire.enc_len x
  clear hb HR HB hf hf2 hmn HU HI HBB HT
  go_wp2_with fail
  go_loopw [14] (fun i wr => ∃ k : Nat, k ≤ (Wire.enc x).length ∧ i = .int .i64 (k : Int) ∧ Hid (Rd wr (.slice pn (Wire.enc x).length cn) (Wire.enc x)) ∧ Hid (Rdr wr b (cb ++ l) cb.length 0) ∧ Hid (Below w.heap.size w wr)) (fun i _ => (Wire.enc x).length - (intOf i).toNat)
  case atStart => exact ⟨0, Nat.zero_le _, rfl, HF, HR9, HB9⟩
  case round =>
    obtain ⟨k, hk, rfl, hf, hr, hb⟩ := hrel
    clear HF HR9 HB9
    by_cases hlt : k < (Wire.enc x).length
    · have q1 : (k : Int) ≤ (cn : Int) := by omega
      have q2 : ((Wire.read ((Wire.enc x).take k)).2.2 : Int) = 4 := by rw [Wire.read_short HX.out hlt]; rfl
      have Q2 := Lib.hid q2
      clear q2
      go_wp2_with fail
      refine (opq (read_any _ ((Wire.enc x).take k) _ (rd_first hf.out hk))).mono ?_
      rw [Q2.out]
      rintro e wa ⟨rfl, hb2⟩
      have HF := Lib.hid (hf.out.below hb2)
      have HR := Lib.hid (hr.out.kept hb2)
      have HB := Lib.hid (below_and hb.out hb2)
      clear hb2 hf hr hb
      go_wp2_with fail
      go_roundw
      case rel => exact ⟨k + 1, by omega, by go_num, HF, HR, HB⟩
      case measure => simp [intOf]; omega
    · go_wp2_with fail
      refine (done_any b (cb ++ l) cb.length 0 _ hr.out).mono ?_
      intro e wz hrm
      obtain ⟨rfl, hr2, hg⟩ := hrm
      have HB := Lib.hid (below_andG hb.out hg HN.out)
      have tm := done_back (l := cb ++ l) (more := l) (c := cb) rfl
      generalize Wire.done (cb ++ l) cb.length 0 = dn at *
      clear hr2 hg hb hr hf
      go_wp2_with fail
      go_ret
      refine ⟨?_, HB.out⟩
      simp

set_option maxRecDepth 100000 in
set_option maxHeartbeats 2000000 in
theorem wireBack_false (x : Nat) (y : Int) (s : ByteArray) (v : Value) (l : List UInt8) (w : World) (h : Rd w v l) (hl : l.length ≤ 140737488351232) (hx : x < 18446744073709551616) (hy1 : -9223372036854775808 ≤ y) (hy2 : y < 9223372036854775808) (hp : ((x : Int) % 2 == 0) = false) (hs : s.size ≤ 65536) :
    Calls Try.prog 7 #[.int .u64 (x : Int), .int .i64 y, .string s, v] w fun e w' => e = .returned (.bool true) ∧ Below w.heap.size w w' := by
  obtain ⟨i0, hi, hz0, hz1, hz2⟩ := info_parts Try.uinfo
  obtain ⟨pm, cm, rfl, -⟩ := h.parts
  obtain ⟨cb, hcb⟩ : ∃ cb, cb = back x y 0 s := ⟨_, rfl⟩
  have HCB := Lib.hid hcb
  have HCL := Lib.hid (show cb.length ≤ 70000 by rw [hcb]; exact back_len x y 0 s hs)
  have hU := Wire.uint_here (l := cb ++ l) (pre := []) (post := Wire.enc (Wire.zig y) ++ ([0] ++ (Wire.enc s.size ++ (s.data.toList ++ l)))) (x := x) hx (by rw [hcb]; simp [back])
  have hI := Wire.int_here (l := cb ++ l) (pre := Wire.enc x) (post := ([0] ++ (Wire.enc s.size ++ (s.data.toList ++ l)))) hy1 hy2 (by rw [hcb]; simp [back])
  have hB := Wire.bool_here (l := cb ++ l) (pre := Wire.enc x ++ Wire.enc (Wire.zig y)) (post := Wire.enc s.size ++ (s.data.toList ++ l)) (b := false) (by rw [hcb]; simp [back])
  have hT := Wire.text_here (l := cb ++ l) (pre := Wire.enc x ++ Wire.enc (Wire.zig y) ++ [0]) (t := s.data.toList) (post := l) (by simpa using hs) (by rw [hcb]; simp [back])
  have hE : (Wire.enc x ++ Wire.enc (Wire.zig y) ++ [0]).length + (Wire.enc s.data.toList.length).length + s.data.toList.length = cb.length := by rw [hcb]; simp [back]; omega
  rw [hE] at hT
  simp only [List.length_append, List.length_nil, Nat.zero_add, List.length_singleton] at hU hI hB hT
  obtain ⟨p1, hp1⟩ : ∃ p1, p1 = (Wire.enc x).length := ⟨_, rfl⟩
  obtain ⟨p2, hp2⟩ : ∃ p2, p2 = (Wire.enc x).length + (Wire.enc (Wire.zig y)).length := ⟨_, rfl⟩
  obtain ⟨p3, hp3⟩ : ∃ p3, p3 = (Wire.enc x).length + (Wire.enc (Wire.zig y)).length + 1 := ⟨_, rfl⟩
  rw [← hp1] at hU hI hp2 hp3
  rw [← hp1] at hB hT
  rw [← hp2] at hI hB hp3 hT
  rw [← hp3] at hB hT
  have HU := Lib.hid hU
  have HI := Lib.hid hI
  have HBB := Lib.hid hB
  have HT := Lib.hid hT
  have HV := Lib.hid h
  have HL := Lib.hid hl
  have HX := Lib.hid hx
  have HY1 := Lib.hid hy1
  have HY2 := Lib.hid hy2
  have HS := Lib.hid hs
  have HLL := Lib.hid (show (cb ++ l).length ≤ 9223372036854775807 by have := HCL.out; simp; omega)
  clear h hl hx hy1 hy2 hU hI hB hT hE hp1 hp2 hp3 hcb hs
  go_enter Try.func7, Try.ntmps7
  go_wp2_with fail
  refine (lives_any w).mono ?_
  rintro e w1 ⟨rfl, hb⟩
  have HB := Lib.hid hb
  clear hb
  go_wp2_with fail
  refine (appendUint_any _ [] x _ (rd_nil _) (by unfold Room; decide) HX.out).mono ?_
  rintro e w2 ⟨v1, rfl, hf, hb⟩
  have HF := Lib.hid hf.rd
  have HB2 := Lib.hid (below_and HB.out hb)
  clear hf hb HB
  go_wp2_with fail
  refine (appendInt_any v1 _ y _ HF.out (by have := Wire.enc_len x; unfold Room; simp; omega) HY1.out HY2.out).mono ?_
  rintro e w3 ⟨v2, rfl, hf, hb⟩
  have HF2 := Lib.hid hf.rd
  have HB := Lib.hid (below_and HB2.out hb)
  clear hf hb HB2 HF
  go_wp2_with fail
  refine (appendBool_false v2 _ _ HF2.out (by have := Wire.enc_len x; have := Wire.enc_len (Wire.zig y); unfold Room; simp; omega)).mono ?_
  rintro e w4 ⟨v3, rfl, hf, hb⟩
  have HF := Lib.hid hf.rd
  have HB2 := Lib.hid (below_and HB.out hb)
  clear hf hb HB HF2
  go_wp2_with fail
  refine (appendText_any v3 _ s _ HF.out (by have := Wire.enc_len x; have := Wire.enc_len (Wire.zig y); simp; omega) HS.out).mono ?_
  rintro e w5 ⟨v4, rfl, hf, hb⟩
  have hf2 : Rd w5 v4 cb := by rw [HCB.out]; exact hf.rd
  have HF2 := Lib.hid hf2
  have HB := Lib.hid (below_and HB2.out hb)
  clear hf hb HB2 HF hf2
  obtain ⟨pc, cc, rfl, -⟩ := HF2.out.parts
  go_wp2_with (first
    | (at_builtin; refine wpList_app _ rfl _ _ 22 22 rfl w5.heap.size 5 i0 (.int .u8 0) 1 1 Try.underlying22 hi hz0 hz1 hz2 rfl _ cb.length (cb.map B) rfl HF6.out _ l.length (l.map B) rfl (Row.src Try.underlying22 (HV.out.below HB6.out)) (by have := HL.out; have := HCL.out; unfold maxLen; omega) (by have := HL.out; have := HCL.out; omega) HS6.out ?_; intro v7 w7 hown' hgrow hnil; have HF7 := Lib.hid (Fresh.app (r := l) hown' rfl rfl rfl); have HB7 := Lib.hid (below_and HB.out (below_grown HG6.out HS6.out HF6.out hgrow)); clear hown' hgrow hnil)
    | (at_builtin; refine wpList_app _ rfl _ _ 22 22 rfl w5.heap.size 5 i0 (.int .u8 0) 1 1 Try.underlying22 hi hz0 hz1 hz2 rfl _ 0 [] rfl (own_none _) _ cb.length (cb.map B) rfl (HF2.out.lit0) (by have := HCL.out; unfold maxLen; omega) (by have := HCL.out; omega) (by simp) ?_; intro v6 w6 hown' hgrow hnil; have HF6 := Lib.hid (fresh_zero hown'); have HG6 := Lib.hid (below_grown ((Below.refl _ _).alloc (Nat.le_refl _) _) (by simp) (own_none _) hgrow); have HS6 := Lib.hid HG6.out.size; have HB6 := Lib.hid (below_and HB.out HG6.out); clear hown' hgrow hnil))
  refine (new_op v7 (cb ++ l) w7 HF7.out.rd (fun _ b hb => (HF7.out.lt b hb).2)).mono ?_
  rintro e w8 ⟨b, rfl, hbb, hr, hb⟩
  have HR := Lib.hid hr
  have HB8 := Lib.hid (below_and HB7.out hb)
  have HN := Lib.hid (show w.heap.size ≤ b by have := HB7.out.size; omega)
  clear hb hr hbb HB HB6 HB7 HF6 HF7 HG6 HS6 HF2
  go_wp2_with fail
  refine (uint_any b (cb ++ l) 0 0 _ HR.out HLL.out).mono ?_
  intro e w9 hrm
  obtain ⟨rfl, hr, hg⟩ := hrm.state (at_ := p1) (er := 0) (u := .int .u64 (x : Int)) (by rw [HU.out]) (by rw [HU.out])
  have HR9 := Lib.hid hr
  have HB9 := Lib.hid (below_andG HB8.out hg HN.out)
  clear hr hg hrm HR HB8
  go_wp2_with fail
  refine (int_any b (cb ++ l) p1 0 _ HR9.out HLL.out).mono ?_
  intro e w10 hrm
  obtain ⟨rfl, hr, hg⟩ := hrm.state (at_ := p2) (er := 0) (u := .int .i64 y) (by rw [HI.out]) (by rw [HI.out])
  have HR := Lib.hid hr
  have HB := Lib.hid (below_andG HB9.out hg HN.out)
  clear hr hg hrm HR9 HB9
  go_wp2_with fail
  refine (bool_any b (cb ++ l) p2 0 _ HR.out).mono ?_
  intro e w11 hrm
  obtain ⟨rfl, hr, hg⟩ := hrm.state (at_ := p3) (er := 0) (u := .bool false) (by rw [HBB.out]) (by rw [HBB.out])
  have HR9 := Lib.hid hr
  have HB9 := Lib.hid (below_andG HB.out hg HN.out)
  clear hr hg hrm HR HB
  go_wp2_with fail
  refine (text_any b (cb ++ l) p3 0 _ HR9.out HLL.out).mono ?_
  intro e w12 hrm
  obtain ⟨rfl, hr, hg⟩ := hrm.state (at_ := cb.length) (er := 0) (u := .string s) (by rw [HT.out]) (by rw [HT.out, bytes_eta])
  have HR := Lib.hid hr
  have HB := Lib.hid (below_andG HB9.out hg HN.out)
  clear hr hg hrm HR9 HB9
  go_wp2_with fail
  refine (opq_same (err_any b (cb ++ l) cb.length 0 _ HR.out)).mono ?_
  rintro e w13 ⟨rfl, hb⟩
  have HR9 := Lib.hid (HR.out.kept hb)
  have HB9 := Lib.hid (below_and HB.out hb)
  clear hb HR HB
  go_wp2_with fail
  refine (opq_same (at_any b (cb ++ l) cb.length 0 _ HR9.out)).mono ?_
  rintro e w14 ⟨rfl, hb⟩
  have HR := Lib.hid (HR9.out.kept hb)
  have HB := Lib.hid (below_and HB9.out hb)
  clear hb HR9 HB9
  go_wp2_with fail
  refine (appendUint_any _ [] x _ (rd_nil _) (by unfold Room; decide) HX.out).mono ?_
  rintro e w15 ⟨vn, rfl, hf, hb⟩
  have hf2 : Rd w15 vn (Wire.enc x) := hf.rd
  have HR9 := Lib.hid (HR.out.kept hb)
  have HB9 := Lib.hid (below_and HB.out hb)
  obtain ⟨pn, cn, rfl, hcn, hmn, -⟩ := hf2.parts
  have HF := Lib.hid hf2
  have hel := Wire.enc_len x
  clear hb HR HB hf hf2 hmn HU HI HBB HT
  go_wp2_with fail
  go_loopw [14] (fun i wr => ∃ k : Nat, k ≤ (Wire.enc x).length ∧ i = .int .i64 (k : Int) ∧ Hid (Rd wr (.slice pn (Wire.enc x).length cn) (Wire.enc x)) ∧ Hid (Rdr wr b (cb ++ l) cb.length 0) ∧ Hid (Below w.heap.size w wr)) (fun i _ => (Wire.enc x).length - (intOf i).toNat)
  case atStart => exact ⟨0, Nat.zero_le _, rfl, HF, HR9, HB9⟩
  case round =>
    obtain ⟨k, hk, rfl, hf, hr, hb⟩ := hrel
    clear HF HR9 HB9
    by_cases hlt : k < (Wire.enc x).length
    · have q1 : (k : Int) ≤ (cn : Int) := by omega
      have q2 : ((Wire.read ((Wire.enc x).take k)).2.2 : Int) = 4 := by rw [Wire.read_short HX.out hlt]; rfl
      have Q2 := Lib.hid q2
      clear q2
      go_wp2_with fail
      refine (opq (read_any _ ((Wire.enc x).take k) _ (rd_first hf.out hk))).mono ?_
      rw [Q2.out]
      rintro e wa ⟨rfl, hb2⟩
      have HF := Lib.hid (hf.out.below hb2)
      have HR := Lib.hid (hr.out.kept hb2)
      have HB := Lib.hid (below_and hb.out hb2)
      clear hb2 hf hr hb
      go_wp2_with fail
      go_roundw
      case rel => exact ⟨k + 1, by omega, by go_num, HF, HR, HB⟩
      case measure => simp [intOf]; omega
    · go_wp2_with fail
      refine (done_any b (cb ++ l) cb.length 0 _ hr.out).mono ?_
      intro e wz hrm
      obtain ⟨rfl, hr2, hg⟩ := hrm
      have HB := Lib.hid (below_andG hb.out hg HN.out)
      have tm := done_back (l := cb ++ l) (more := l) (c := cb) rfl
      generalize Wire.done (cb ++ l) cb.length 0 = dn at *
      clear hr2 hg hb hr hf
      go_wp2_with fail
      go_ret
      refine ⟨?_, HB.out⟩
      simp

set_option maxRecDepth 100000 in
set_option maxHeartbeats 1000000 in
theorem wireBack_long_true (x : Nat) (y : Int) (s : ByteArray) (v : Value) (l : List UInt8) (w : World) (hx : x < 18446744073709551616) (hy1 : -9223372036854775808 ≤ y) (hy2 : y < 9223372036854775808) (hp : ((x : Int) % 2 == 0) = true) (hs : 65536 < s.size) (hs2 : s.size ≤ 9223372036854775807) :
    Calls Try.prog 7 #[.int .u64 (x : Int), .int .i64 y, .string s, v] w fun e w' => e = .returned (.bool true) ∧ Below w.heap.size w w' := by
  have HX := Lib.hid hx
  have HY1 := Lib.hid hy1
  have HY2 := Lib.hid hy2
  clear hx hy1 hy2
  go_enter Try.func7, Try.ntmps7
  go_wp2_with fail
  refine (lives_any w).mono ?_
  rintro e w1 ⟨rfl, hb⟩
  have HB := Lib.hid hb
  clear hb
  go_wp2_with fail
  refine (appendUint_any _ [] x _ (rd_nil _) (by unfold Room; decide) HX.out).mono ?_
  rintro e w2 ⟨v1, rfl, hf, hb⟩
  have HF := Lib.hid hf.rd
  have HB2 := Lib.hid (below_and HB.out hb)
  clear hf hb HB
  go_wp2_with fail
  refine (appendInt_any v1 _ y _ HF.out (by have := Wire.enc_len x; unfold Room; simp; omega) HY1.out HY2.out).mono ?_
  rintro e w3 ⟨v2, rfl, hf, hb⟩
  have HF2 := Lib.hid hf.rd
  have HB := Lib.hid (below_and HB2.out hb)
  clear hf hb HB2 HF
  go_wp2_with fail
  refine (appendBool_true v2 _ _ HF2.out (by have := Wire.enc_len x; have := Wire.enc_len (Wire.zig y); unfold Room; simp; omega)).mono ?_
  rintro e w4 ⟨v3, rfl, hf, hb⟩
  have HB2 := Lib.hid (below_and HB.out hb)
  clear hf hb HB HF2
  go_wp2_with fail
  refine (opq_same ((appendText_long v3 s _ hs hs2).mono fun _ _ ⟨h1, h2⟩ => ⟨h1, h2.symm⟩)).mono ?_
  rintro e w5 ⟨rfl, hb⟩
  have HB := Lib.hid (below_and HB2.out hb)
  clear hb HB2
  go_wp2_with fail
  go_ret
  exact ⟨rfl, HB.out⟩

set_option maxRecDepth 100000 in
set_option maxHeartbeats 1000000 in
theorem wireBack_long_false (x : Nat) (y : Int) (s : ByteArray) (v : Value) (l : List UInt8) (w : World) (hx : x < 18446744073709551616) (hy1 : -9223372036854775808 ≤ y) (hy2 : y < 9223372036854775808) (hp : ((x : Int) % 2 == 0) = false) (hs : 65536 < s.size) (hs2 : s.size ≤ 9223372036854775807) :
    Calls Try.prog 7 #[.int .u64 (x : Int), .int .i64 y, .string s, v] w fun e w' => e = .returned (.bool true) ∧ Below w.heap.size w w' := by
  have HX := Lib.hid hx
  have HY1 := Lib.hid hy1
  have HY2 := Lib.hid hy2
  clear hx hy1 hy2
  go_enter Try.func7, Try.ntmps7
  go_wp2_with fail
  refine (lives_any w).mono ?_
  rintro e w1 ⟨rfl, hb⟩
  have HB := Lib.hid hb
  clear hb
  go_wp2_with fail
  refine (appendUint_any _ [] x _ (rd_nil _) (by unfold Room; decide) HX.out).mono ?_
  rintro e w2 ⟨v1, rfl, hf, hb⟩
  have HF := Lib.hid hf.rd
  have HB2 := Lib.hid (below_and HB.out hb)
  clear hf hb HB
  go_wp2_with fail
  refine (appendInt_any v1 _ y _ HF.out (by have := Wire.enc_len x; unfold Room; simp; omega) HY1.out HY2.out).mono ?_
  rintro e w3 ⟨v2, rfl, hf, hb⟩
  have HF2 := Lib.hid hf.rd
  have HB := Lib.hid (below_and HB2.out hb)
  clear hf hb HB2 HF
  go_wp2_with fail
  refine (appendBool_false v2 _ _ HF2.out (by have := Wire.enc_len x; have := Wire.enc_len (Wire.zig y); unfold Room; simp; omega)).mono ?_
  rintro e w4 ⟨v3, rfl, hf, hb⟩
  have HB2 := Lib.hid (below_and HB.out hb)
  clear hf hb HB HF2
  go_wp2_with fail
  refine (opq_same ((appendText_long v3 s _ hs hs2).mono fun _ _ ⟨h1, h2⟩ => ⟨h1, h2.symm⟩)).mono ?_
  rintro e w5 ⟨rfl, hb⟩
  have HB := Lib.hid (below_and HB2.out hb)
  clear hb HB2
  go_wp2_with fail
  go_ret
  exact ⟨rfl, HB.out⟩

theorem wireBack_walk (x y : Int) (s : ByteArray) (v : Value) (l : List UInt8) (w : World) (hx : (Lit.int .u64 x).wf = true) (hy : (Lit.int .i64 y).wf = true) (hs : s.size ≤ 140737488351232) (h : Rd w v l) (hl : l.length ≤ 140737488351232) :
    Calls Try.prog 7 #[.int .u64 x, .int .i64 y, .string s, v] w fun e w' => e = .returned (.bool true) ∧ Below w.heap.size w w' := by
  obtain ⟨hx0, hx1⟩ : 0 ≤ x ∧ x ≤ 18446744073709551615 := by simpa [Lit.wf, IntKind.min, IntKind.max, IntKind.signed, IntKind.bits] using hx
  obtain ⟨hy0, hy1⟩ : -9223372036854775808 ≤ y ∧ y ≤ 9223372036854775807 := by simpa [Lit.wf, IntKind.min, IntKind.max, IntKind.signed, IntKind.bits] using hy
  obtain ⟨k, rfl⟩ := Int.eq_ofNat_of_zero_le hx0
  by_cases h2 : s.size ≤ 65536
  · cases hp : ((k : Int) % 2 == 0)
    · exact wireBack_false k y s v l w h hl (by omega) hy0 (by omega) hp h2
    · exact wireBack_true k y s v l w h hl (by omega) hy0 (by omega) hp h2
  · cases hp : ((k : Int) % 2 == 0)
    · exact wireBack_long_false k y s v l w (by omega) hy0 (by omega) hp (by omega) (by omega)
    · exact wireBack_long_true k y s v l w (by omega) hy0 (by omega) hp (by omega) (by omega)
end Go.Proofs.Ytchaigaechmbnaa
