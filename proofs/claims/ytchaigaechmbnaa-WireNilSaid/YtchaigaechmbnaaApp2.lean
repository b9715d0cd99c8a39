/- AppendInt, AppendBool, AppendText, the program's and the document's. -/
import Derived.Test.YtchaigaechmbnaaApp
namespace Go.Proofs.Ytchaigaechmbnaa
open Go.RowKit

set_option maxRecDepth 100000 in
set_option maxHeartbeats 1000000 in
theorem appendInt_any (v : Value) (l : List UInt8) (y : Int) (w : World) (h1 : Rd w v l) (hl : Room l.length) (h2 : -9223372036854775808 ≤ y) (h3 : y < 9223372036854775808) :
    Calls Try.prog 17 #[v, .int .i64 y] w fun e w' => ∃ v', e = .returned v' ∧ Fresh w.heap.size w' v' (l ++ Wire.enc (Wire.zig y)) ∧ Below w.heap.size w w' := by
  have H2 := Lib.hid h2
  have H3 := Lib.hid h3
  clear h2 h3
  go_enter Try.func17, Try.ntmps17
  go_wp2_with (go_at_call 16; rw [Wire.zig_wire H2.out H3.out]; refine (appendUint_any v l _ _ h1 hl (Wire.zig_lt H2.out H3.out)).mono ?_; rintro e w1 ⟨v1, rfl, hf1, hb1⟩)
  go_ret
  exact ⟨v1, rfl, hf1, hb1⟩

set_option maxRecDepth 100000 in
set_option maxHeartbeats 1000000 in
theorem refAppendInt_any (v : Value) (l : List UInt8) (y : Int) (w : World) (h1 : Rd w v l) (hl : Room l.length) (h2 : -9223372036854775808 ≤ y) (h3 : y < 9223372036854775808) :
    Calls Try.prog 25 #[v, .int .i64 y] w fun e w' => ∃ v', e = .returned v' ∧ Fresh w.heap.size w' v' (l ++ Wire.enc (Wire.zig y)) ∧ Below w.heap.size w w' := by
  have H2 := Lib.hid h2
  have H3 := Lib.hid h3
  clear h2 h3
  by_cases hy : 0 ≤ y
  · go_enter Try.func25, Try.ntmps25
    go_wp2_with (go_at_call 24; rw [Wire.zig_pos hy H3.out]; refine (refAppendUint_any v l _ _ h1 hl (Wire.zig_lt H2.out H3.out)).mono ?_; rintro e w1 ⟨v1, rfl, hf1, hb1⟩)
    go_ret
    exact ⟨v1, rfl, hf1, hb1⟩
  · go_enter Try.func25, Try.ntmps25
    go_wp2_with (go_at_call 24; rw [Wire.zig_neg hy H2.out]; refine (refAppendUint_any v l _ _ h1 hl (Wire.zig_lt H2.out H3.out)).mono ?_; rintro e w1 ⟨v1, rfl, hf1, hb1⟩)
    go_ret
    exact ⟨v1, rfl, hf1, hb1⟩

/-- room for a number's bytes -/
theorem room_enc {l : List UInt8} (x : Nat) (h : l.length ≤ 199999999999000) : Room (l ++ Wire.enc x).length := by
  have := Wire.enc_len x
  unfold Room; simp; omega

theorem src_byte (w : World) (u : UInt8) : Src Try.prog 1 22 (.slice (some ⟨w.heap.size, 0, none⟩) 1 1) 1 [B u] (w.alloc (.cells #[B u] 5)) := src_one Try.underlying22 w _ rfl

set_option maxRecDepth 100000 in
set_option maxHeartbeats 1000000 in
theorem appendBool_true (v : Value) (l : List UInt8) (w : World) (h1 : Rd w v l) (hl : Room l.length) :
    Calls Try.prog 26 #[v, .bool true] w fun e w' => ∃ v', e = .returned v' ∧ Fresh w.heap.size w' v' (l ++ [1]) ∧ Below w.heap.size w w' := by
  obtain ⟨i0, hi, hz0, hz1, hz2⟩ := info_parts Try.uinfo
  go_enter Try.func26, Try.ntmps26
  go_wp2_with (first
    | (at_builtin; refine wpList_app _ rfl _ _ 22 22 rfl w.heap.size 5 i0 (.int .u8 0) 1 1 Try.underlying22 hi hz0 hz1 hz2 rfl _ l.length (l.map B) rfl (World.ownsRow.alloc HF1.out _) _ 1 _ rfl (src_one Try.underlying22 _ _ rfl) (hl.h63 (m := 1) (by omega)) (hl.bytes (m := 1) (by omega)) (by have := HS.out; simp; omega) ?_; intro v' w' hown' hgrow hnil; have HN := Lib.hid (Fresh.push (c := 1) hown' rfl rfl); have HB := Lib.hid (below_grown (HB1.out.alloc HS.out _) (by have := HS.out; simp; omega) (World.ownsRow.alloc HF1.out _) hgrow); clear hown' hgrow hnil)
    | (go_at_call 43; refine (clone_any v l _ h1 hl).mono ?_; rintro e w1 ⟨v1, rfl, hf1, hb1⟩; have HS := Lib.hid hb1.size; have HF1 := Lib.hid hf1; have HB1 := Lib.hid hb1; clear hf1 hb1))
  go_ret
  exact ⟨_, rfl, HN.out, HB.out⟩

set_option maxRecDepth 100000 in
set_option maxHeartbeats 1000000 in
theorem appendBool_false (v : Value) (l : List UInt8) (w : World) (h1 : Rd w v l) (hl : Room l.length) :
    Calls Try.prog 26 #[v, .bool false] w fun e w' => ∃ v', e = .returned v' ∧ Fresh w.heap.size w' v' (l ++ [0]) ∧ Below w.heap.size w w' := by
  obtain ⟨i0, hi, hz0, hz1, hz2⟩ := info_parts Try.uinfo
  go_enter Try.func26, Try.ntmps26
  go_wp2_with (first
    | (at_builtin; refine wpList_app _ rfl _ _ 22 22 rfl w.heap.size 5 i0 (.int .u8 0) 1 1 Try.underlying22 hi hz0 hz1 hz2 rfl _ l.length (l.map B) rfl (World.ownsRow.alloc HF1.out _) _ 1 _ rfl (src_one Try.underlying22 _ _ rfl) (hl.h63 (m := 1) (by omega)) (hl.bytes (m := 1) (by omega)) (by have := HS.out; simp; omega) ?_; intro v' w' hown' hgrow hnil; have HN := Lib.hid (Fresh.push (c := 0) hown' rfl rfl); have HB := Lib.hid (below_grown (HB1.out.alloc HS.out _) (by have := HS.out; simp; omega) (World.ownsRow.alloc HF1.out _) hgrow); clear hown' hgrow hnil)
    | (go_at_call 43; refine (clone_any v l _ h1 hl).mono ?_; rintro e w1 ⟨v1, rfl, hf1, hb1⟩; have HS := Lib.hid hb1.size; have HF1 := Lib.hid hf1; have HB1 := Lib.hid hb1; clear hf1 hb1))
  go_ret
  exact ⟨_, rfl, HN.out, HB.out⟩

set_option maxRecDepth 100000 in
set_option maxHeartbeats 1000000 in
theorem refAppendBool_true (v : Value) (l : List UInt8) (w : World) (h1 : Rd w v l) (hl : Room l.length) :
    Calls Try.prog 27 #[v, .bool true] w fun e w' => ∃ v', e = .returned v' ∧ Fresh w.heap.size w' v' (l ++ [1]) ∧ Below w.heap.size w w' := by
  obtain ⟨i0, hi, hz0, hz1, hz2⟩ := info_parts Try.uinfo
  go_enter Try.func27, Try.ntmps27
  go_wp2_with (first
    | (at_builtin; refine wpList_app _ rfl _ _ 22 22 rfl w.heap.size 5 i0 (.int .u8 0) 1 1 Try.underlying22 hi hz0 hz1 hz2 rfl _ l.length (l.map B) rfl (World.ownsRow.alloc HF1.out _) _ 1 _ rfl (src_one Try.underlying22 _ _ rfl) (hl.h63 (m := 1) (by omega)) (hl.bytes (m := 1) (by omega)) (by have := HS.out; simp; omega) ?_; intro v' w' hown' hgrow hnil; have HN := Lib.hid (Fresh.push (c := 1) hown' rfl rfl); have HB := Lib.hid (below_grown (HB1.out.alloc HS.out _) (by have := HS.out; simp; omega) (World.ownsRow.alloc HF1.out _) hgrow); clear hown' hgrow hnil)
    | (at_builtin; refine wpList_app _ rfl _ _ 22 22 rfl w.heap.size 5 i0 (.int .u8 0) 1 1 Try.underlying22 hi hz0 hz1 hz2 rfl _ 0 [] rfl (own_none _) _ l.length (l.map B) rfl (h1.lit0) hl.h630 hl.bytes0 (by simp) ?_; intro v1 w1 hown' hgrow hnil; have HF1 := Lib.hid (fresh_zero hown'); have HB1 := Lib.hid (below_grown ((Below.refl _ _).alloc (Nat.le_refl _) _) (by simp) (own_none _) hgrow); have HS := Lib.hid HB1.out.size; clear hown' hgrow hnil))
  go_ret
  exact ⟨_, rfl, HN.out, HB.out⟩

set_option maxRecDepth 100000 in
set_option maxHeartbeats 1000000 in
theorem refAppendBool_false (v : Value) (l : List UInt8) (w : World) (h1 : Rd w v l) (hl : Room l.length) :
    Calls Try.prog 27 #[v, .bool false] w fun e w' => ∃ v', e = .returned v' ∧ Fresh w.heap.size w' v' (l ++ [0]) ∧ Below w.heap.size w w' := by
  obtain ⟨i0, hi, hz0, hz1, hz2⟩ := info_parts Try.uinfo
  go_enter Try.func27, Try.ntmps27
  go_wp2_with (first
    | (at_builtin; refine wpList_app _ rfl _ _ 22 22 rfl w.heap.size 5 i0 (.int .u8 0) 1 1 Try.underlying22 hi hz0 hz1 hz2 rfl _ l.length (l.map B) rfl (World.ownsRow.alloc HF1.out _) _ 1 _ rfl (src_one Try.underlying22 _ _ rfl) (hl.h63 (m := 1) (by omega)) (hl.bytes (m := 1) (by omega)) (by have := HS.out; simp; omega) ?_; intro v' w' hown' hgrow hnil; have HN := Lib.hid (Fresh.push (c := 0) hown' rfl rfl); have HB := Lib.hid (below_grown (HB1.out.alloc HS.out _) (by have := HS.out; simp; omega) (World.ownsRow.alloc HF1.out _) hgrow); clear hown' hgrow hnil)
    | (at_builtin; refine wpList_app _ rfl _ _ 22 22 rfl w.heap.size 5 i0 (.int .u8 0) 1 1 Try.underlying22 hi hz0 hz1 hz2 rfl _ 0 [] rfl (own_none _) _ l.length (l.map B) rfl (h1.lit0) hl.h630 hl.bytes0 (by simp) ?_; intro v1 w1 hown' hgrow hnil; have HF1 := Lib.hid (fresh_zero hown'); have HB1 := Lib.hid (below_grown ((Below.refl _ _).alloc (Nat.le_refl _) _) (by simp) (own_none _) hgrow); have HS := Lib.hid HB1.out.size; clear hown' hgrow hnil))
  go_ret
  exact ⟨_, rfl, HN.out, HB.out⟩

set_option maxRecDepth 100000 in
set_option maxHeartbeats 1000000 in
theorem appendText_any (v : Value) (l : List UInt8) (s : ByteArray) (w : World) (h1 : Rd w v l) (hl0 : l.length ≤ 199999999999000) (hs : s.size ≤ 65536) :
    Calls Try.prog 18 #[v, .string s] w fun e w' => ∃ v', e = .returned (.tuple #[v', .int .i64 0]) ∧ Fresh w.heap.size w' v' (l ++ Wire.enc s.size ++ s.data.toList) ∧ Below w.heap.size w w' := by
  obtain ⟨i0, hi, hz0, hz1, hz2⟩ := info_parts Try.uinfo
  have hl : Room l.length := by unfold Room; omega
  have HL0 := Lib.hid hl0
  clear hl0
  have hwr : IntKind.u64.wrap (s.size : Int) = (s.size : Int) := by rw [IntKind.wrap_u64]; omega
  go_enter Try.func18, Try.ntmps18
  go_wp2_with (first
    | (at_builtin; refine wpList_app _ rfl _ _ 22 9 rfl w.heap.size 5 i0 (.int .u8 0) 1 1 Try.underlying22 hi hz0 hz1 hz2 rfl _ (l ++ Wire.enc s.size).length ((l ++ Wire.enc s.size).map B) rfl HF1.out _ s.size (byteCells s) rfl (Src.ofString _ Try.underlying9 s) (HR.out.h63 (m := s.size) (by omega)) (HR.out.bytes (m := s.size) (by omega)) HS.out ?_; intro v' w' hown' hgrow hnil; have HN := Lib.hid (Fresh.app (r := s.data.toList) hown' rfl (by simp) (by simp [byteCells])); have HB := Lib.hid (below_grown HB1.out HS.out HF1.out hgrow); clear hown' hgrow hnil)
    | (go_at_call 16; refine (appendUint_any v l s.size _ h1 hl (by omega)).mono ?_; rintro e w1 ⟨v1, rfl, hf1, hb1⟩; have HS := Lib.hid hb1.size; have HF1 := Lib.hid hf1; have HB1 := Lib.hid hb1; have HR := Lib.hid (room_enc s.size HL0.out); clear hf1 hb1))
  go_ret2
  exact ⟨_, rfl, HN.out, HB.out⟩

set_option maxRecDepth 100000 in
set_option maxHeartbeats 1000000 in
theorem appendText_long (v : Value) (s : ByteArray) (w : World) (hs : 65536 < s.size) (hs2 : s.size ≤ 9223372036854775807) :
    Calls Try.prog 18 #[v, .string s] w fun e w' => e = .returned (.tuple #[.slice none 0 0, .int .i64 3]) ∧ w = w' := by
  go_enter Try.func18, Try.ntmps18
  go_wp2
  go_ret2
  exact ⟨rfl, rfl⟩

set_option maxRecDepth 100000 in
set_option maxHeartbeats 1000000 in
theorem refAppendText_any (v : Value) (l : List UInt8) (s : ByteArray) (w : World) (h1 : Rd w v l) (hl0 : l.length ≤ 199999999999000) (hs : s.size ≤ 65536) :
    Calls Try.prog 28 #[v, .string s] w fun e w' => ∃ v', e = .returned (.tuple #[v', .int .i64 0]) ∧ Fresh w.heap.size w' v' (l ++ Wire.enc s.size ++ s.data.toList) ∧ Below w.heap.size w w' := by
  obtain ⟨i0, hi, hz0, hz1, hz2⟩ := info_parts Try.uinfo
  have hl : Room l.length := by unfold Room; omega
  have HL0 := Lib.hid hl0
  clear hl0
  have hwr : IntKind.u64.wrap (s.size : Int) = (s.size : Int) := by rw [IntKind.wrap_u64]; omega
  go_enter Try.func28, Try.ntmps28
  go_wp2_with (first
    | (at_builtin; refine wpList_app _ rfl _ _ 22 9 rfl w.heap.size 5 i0 (.int .u8 0) 1 1 Try.underlying22 hi hz0 hz1 hz2 rfl _ (l ++ Wire.enc s.size).length ((l ++ Wire.enc s.size).map B) rfl HF1.out _ s.size (byteCells s) rfl (Src.ofString _ Try.underlying9 s) (HR.out.h63 (m := s.size) (by omega)) (HR.out.bytes (m := s.size) (by omega)) HS.out ?_; intro v' w' hown' hgrow hnil; have HN := Lib.hid (Fresh.app (r := s.data.toList) hown' rfl (by simp) (by simp [byteCells])); have HB := Lib.hid (below_grown HB1.out HS.out HF1.out hgrow); clear hown' hgrow hnil)
    | (go_at_call 24; refine (refAppendUint_any v l s.size _ h1 hl (by omega)).mono ?_; rintro e w1 ⟨v1, rfl, hf1, hb1⟩; have HS := Lib.hid hb1.size; have HF1 := Lib.hid hf1; have HB1 := Lib.hid hb1; have HR := Lib.hid (room_enc s.size HL0.out); clear hf1 hb1))
  go_ret2
  exact ⟨_, rfl, HN.out, HB.out⟩

set_option maxRecDepth 100000 in
set_option maxHeartbeats 1000000 in
theorem refAppendText_long (v : Value) (s : ByteArray) (w : World) (hs : 65536 < s.size) (hs2 : s.size ≤ 9223372036854775807) :
    Calls Try.prog 28 #[v, .string s] w fun e w' => e = .returned (.tuple #[.slice none 0 0, .int .i64 3]) ∧ w = w' := by
  go_enter Try.func28, Try.ntmps28
  go_wp2
  go_ret2
  exact ⟨rfl, rfl⟩

end Go.Proofs.Ytchaigaechmbnaa
