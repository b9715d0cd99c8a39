/- , laid together: App, App2. -/
import Derived.Test.YtopkfomlppnpeaaGreatDoorLib
import Derived.Test.YtopkfomlppnpeaaGreatDoorMPl
namespace Go.Proofs.YtopkfomlppnpeaaGreatDoor
open Go.RowKit

/-- the room that every append here asks for -/
def Room (n : Nat) : Prop := n ≤ 200000000000000
theorem Room.h63 {n m : Nat} (h : Room n) (hm : m ≤ 1000000) : n + m ≤ maxLen := by unfold Room at h; unfold maxLen; omega
theorem Room.bytes {n m : Nat} (h : Room n) (hm : m ≤ 1000000) : (n + m + (n + m) / 4 + 256) * 1 ≤ 281474976710656 := by unfold Room at h; omega
theorem Room.h630 {n : Nat} (h : Room n) : 0 + n ≤ maxLen := by unfold Room at h; unfold maxLen; omega
theorem Room.bytes0 {n : Nat} (h : Room n) : (0 + n + (0 + n) / 4 + 256) * 1 ≤ 281474976710656 := by unfold Room at h; omega

set_option maxHeartbeats 400000 in
theorem clone_any (v : Value) (l : List UInt8) (w : World) (h1 : Rd w v l) (hl : Room l.length) :
    Calls Tryz.prog 137 #[v] w fun e w' => ∃ v', e = .returned v' ∧ Fresh w.heap.size w' v' l ∧ Below w.heap.size w w' := by
  obtain ⟨p, c, rfl, hc, hm, hp⟩ : ∃ p c, v = .slice p l.length c ∧ l.length ≤ c ∧ c ≤ maxLen ∧ (p = none → l.length = 0 ∧ c = 0) := by
    obtain ⟨p, c, h⟩ := h1
    exact ⟨p, c, h.1, h.2.1, h.2.2.1, h.2.2.2.2.2.1⟩
  cases p with
  | none =>
    obtain ⟨h0, rfl⟩ := hp rfl
    have hl0 : l = [] := List.eq_nil_of_length_eq_zero h0
    subst hl0
    go_enter Tryz.func137, Tryz.ntmps137
    have hq : ∀ w : World, (binOp .eql 23 (.slice none 0 0) (.slice none 0 0)).run Tryz.prog w = .ok (.bool true) w := fun w => by kernel_rfl
    go_wp2
    go_ret
    exact ⟨_, rfl, World.ownsRow_nil _ _ _ _, Below.refl _ _⟩
  | some a =>
    obtain ⟨i0, hi, hz0, hz1, hz2⟩ := info_parts Tryz.uinfo
    have hq : ∀ w : World, (binOp .eql 23 (.slice (some a) l.length c) (.slice none 0 0)).run Tryz.prog w = .ok (.bool false) w := fun w => Lib.run_eql_slice_nil w _ _ (some a) l.length c 0 0 Tryz.underlying23
    go_enter Tryz.func137, Tryz.ntmps137
    have hsrc : Src Tryz.prog 1 23 (.slice (some a) l.length c) l.length (l.map B) (w.alloc (.cells #[] 5)) := (h1.below ((Below.refl _ _).alloc (Nat.le_refl _) _)).src Tryz.underlying23
    have hown : (w.alloc (.cells #[] 5)).ownsRow w.heap.size 5 1 (.slice (some ⟨w.heap.size, 0, none⟩) 0 0) 0 [] := World.ownsRow_lit w #[] 0 (Nat.le_refl _) (by simp [maxLen]) rfl
    have HS := Lib.hid hsrc
    have HO := Lib.hid hown
    clear hsrc hown h1
    go_wp2_with (at_builtin; refine wpList_app _ rfl _ _ 23 23 rfl w.heap.size 5 i0 (.int .u8 0) 1 1 Tryz.underlying23 hi hz0 hz1 hz2 rfl _ 0 [] rfl HO.out _ l.length (l.map B) rfl HS.out hl.h630 hl.bytes0 (by simp) ?_)
    intro v' w' hown' hgrow _
    have hb : Below w.heap.size w w' := below_grown ((Below.refl _ _).alloc (Nat.le_refl _) _) (by simp) HO.out hgrow
    have HB := Lib.hid hb
    have HN := Lib.hid hown'
    clear hb hown' hgrow
    go_wp2
    go_ret
    exact ⟨_, rfl, HN.out, HB.out⟩
theorem own_none (w : World) : (w.alloc (.cells #[] 5)).ownsRow w.heap.size 5 1 (.slice (some ⟨w.heap.size, 0, none⟩) 0 0) 0 [] := World.ownsRow_lit w #[] 0 (Nat.le_refl _) (by simp [maxLen]) rfl
theorem Rd.lit0 {w : World} {v : Value} {l : List UInt8} (h : Rd w v l) : Src Tryz.prog 1 23 v l.length (l.map B) (w.alloc (.cells #[] 5)) := (h.below ((Below.refl _ _).alloc (Nat.le_refl _) _)).src Tryz.underlying23
theorem fresh_zero {base : Nat} {w : World} {v : Value} {l : List UInt8} (h : w.ownsRow base 5 1 v (0 + l.length) ([] ++ l.map B)) : Fresh base w v l := by
  unfold Fresh; simpa using h

set_option maxRecDepth 100000 in
set_option maxHeartbeats 1000000 in
theorem appendUint_any (v : Value) (l : List UInt8) (x : Nat) (w : World) (h1 : Rd w v l) (hl : Room l.length) (hx : x < 18446744073709551616) :
    Calls Tryz.prog 109 #[v, .int .u64 (x : Int)] w fun e w' => ∃ v', e = .returned v' ∧ Fresh w.heap.size w' v' (l ++ Wire.enc x) ∧ Below w.heap.size w w' := by
  obtain ⟨i0, hi, hz0, hz1, hz2⟩ := info_parts Tryz.uinfo
  have HX := Lib.hid hx
  clear hx
  go_enter Tryz.func109, Tryz.ntmps109
  go_wp2_with (go_at_call 137; refine (clone_any v l _ h1 hl).mono ?_; rintro e w1 ⟨v1, rfl, hf1, hb1⟩)
  have HF1 := Lib.hid hf1
  have HB1 := Lib.hid hb1
  clear hf1 hb1
  go_loopw [1, 5] (fun y o wr => ∃ (k z : Nat) (pre : List UInt8), Hid (k ≤ 9 ∧ z < 2 ^ (64 - 7 * k) ∧ Wire.enc x = pre ++ Wire.encF (10 - k) z ∧ pre.length = k) ∧ y = .int .u64 (z : Int) ∧ Hid (Fresh w.heap.size wr o (l ++ pre)) ∧ Hid (Below w.heap.size w wr)) (fun y _ _ => (intOf y).toNat)
  case atStart => exact ⟨0, x, [], ⟨by omega, HX.out, rfl, rfl⟩, rfl, by simpa using HF1, HB1⟩
  case round =>
    obtain ⟨k, z, pre, hk, rfl, hf, hb⟩ := hrel
    have hown := hf.out
    unfold Fresh at hown
    have hlen : (l ++ pre).length = l.length + k := by simp [hk.out.2.2.2]
    have hk9 : k ≤ 9 := hk.out.1
    rw [hlen] at hown
    have HO := Lib.hid hown
    have hbase : w.heap.size ≤ wr.heap.size := hb.out.size
    clear hown hf HF1 HB1 h1
    have HL := Lib.hid hlen
    clear hlen
    by_cases hz : 128 ≤ z
    · go_wp2_with (at_builtin; refine wpList_app _ rfl _ _ 23 23 rfl w.heap.size 5 i0 (.int .u8 0) 1 1 Tryz.underlying23 hi hz0 hz1 hz2 rfl _ (l.length + k) ((l ++ pre).map B) rfl (HO.out.alloc _) _ 1 _ rfl (src_one Tryz.underlying23 _ _ rfl) (hl.h63 (m := k + 1) (by omega)) (hl.bytes (m := k + 1) (by omega)) (by simp; omega) ?_; intro v' w' hown' hgrow hnil; have HN := Lib.hid (Fresh.push (c := UInt8.ofNat (z % 128 + 128)) hown' HL.out (Wire.or_byte z)); have HB := Lib.hid (below_grown (hb.out.alloc hbase _) (by simp; omega) (HO.out.alloc _) hgrow); clear hown' hgrow hnil)
      go_roundw
      case rel => exact ⟨k + 1, z / 128, pre ++ [UInt8.ofNat (z % 128 + 128)], Wire.step_more hz hk.out, by go_num, by simpa using HN, HB⟩
      case measure => simp [intOf]; omega
    · go_wp2_with (at_builtin; refine wpList_app _ rfl _ _ 23 23 rfl w.heap.size 5 i0 (.int .u8 0) 1 1 Tryz.underlying23 hi hz0 hz1 hz2 rfl _ (l.length + k) ((l ++ pre).map B) rfl (HO.out.alloc _) _ 1 _ rfl (src_one Tryz.underlying23 _ _ rfl) (hl.h63 (m := k + 1) (by omega)) (hl.bytes (m := k + 1) (by omega)) (by simp; omega) ?_; intro v' w' hown' hgrow hnil; have HN := Lib.hid (Fresh.push (c := UInt8.ofNat z) hown' HL.out (by simp; omega)); have HB := Lib.hid (below_grown (hb.out.alloc hbase _) (by simp; omega) (HO.out.alloc _) hgrow); clear hown' hgrow hnil)
      go_ret
      exact ⟨_, rfl, by rw [Wire.step_end (by omega) hk.out, ← List.append_assoc]; exact HN.out, HB.out⟩
set_option maxRecDepth 100000 in
set_option maxHeartbeats 1000000 in
theorem refAppendUint_any (v : Value) (l : List UInt8) (x : Nat) (w : World) (h1 : Rd w v l) (hl : Room l.length) (hx : x < 18446744073709551616) :
    Calls Tryz.prog 154 #[v, .int .u64 (x : Int)] w fun e w' => ∃ v', e = .returned v' ∧ Fresh w.heap.size w' v' (l ++ Wire.enc x) ∧ Below w.heap.size w w' := by
  obtain ⟨i0, hi, hz0, hz1, hz2⟩ := info_parts Tryz.uinfo
  have HX := Lib.hid hx
  clear hx
  go_enter Tryz.func154, Tryz.ntmps154
  go_wp2_with (at_builtin; refine wpList_app _ rfl _ _ 23 23 rfl w.heap.size 5 i0 (.int .u8 0) 1 1 Tryz.underlying23 hi hz0 hz1 hz2 rfl _ 0 [] rfl (own_none _) _ l.length (l.map B) rfl (h1.lit0) hl.h630 hl.bytes0 (by simp) ?_; intro v1 w1 hown' hgrow hnil; have HF1 := Lib.hid (fresh_zero hown'); have HB1 := Lib.hid (below_grown ((Below.refl _ _).alloc (Nat.le_refl _) _) (by simp) (own_none _) hgrow); clear hown' hgrow hnil)
  go_loopw [1, 5] (fun y o wr => ∃ (k z : Nat) (pre : List UInt8), Hid (k ≤ 9 ∧ z < 2 ^ (64 - 7 * k) ∧ Wire.enc x = pre ++ Wire.encF (10 - k) z ∧ pre.length = k) ∧ y = .int .u64 (z : Int) ∧ Hid (Fresh w.heap.size wr o (l ++ pre)) ∧ Hid (Below w.heap.size w wr)) (fun y _ _ => (intOf y).toNat)
  case atStart => exact ⟨0, x, [], ⟨by omega, HX.out, rfl, rfl⟩, rfl, by simpa using HF1, HB1⟩
  case round =>
    obtain ⟨k, z, pre, hk, rfl, hf, hb⟩ := hrel
    have hown := hf.out
    unfold Fresh at hown
    have hlen : (l ++ pre).length = l.length + k := by simp [hk.out.2.2.2]
    have hk9 : k ≤ 9 := hk.out.1
    rw [hlen] at hown
    have HO := Lib.hid hown
    have hbase : w.heap.size ≤ wr.heap.size := hb.out.size
    clear hown hf HF1 HB1 h1
    have HL := Lib.hid hlen
    clear hlen
    by_cases hz : 128 ≤ z
    · have hq := Wire.quo_wrap hk.out
      go_wp2_with (at_builtin; refine wpList_app _ rfl _ _ 23 23 rfl w.heap.size 5 i0 (.int .u8 0) 1 1 Tryz.underlying23 hi hz0 hz1 hz2 rfl _ (l.length + k) ((l ++ pre).map B) rfl (HO.out.alloc _) _ 1 _ rfl (src_one Tryz.underlying23 _ _ rfl) (hl.h63 (m := k + 1) (by omega)) (hl.bytes (m := k + 1) (by omega)) (by simp; omega) ?_; intro v' w' hown' hgrow hnil; have HN := Lib.hid (Fresh.push (c := UInt8.ofNat (z % 128 + 128)) hown' HL.out (Wire.add_byte z)); have HB := Lib.hid (below_grown (hb.out.alloc hbase _) (by simp; omega) (HO.out.alloc _) hgrow); clear hown' hgrow hnil)
      go_roundw
      case rel => exact ⟨k + 1, z / 128, pre ++ [UInt8.ofNat (z % 128 + 128)], Wire.step_more hz hk.out, by go_num, by simpa using HN, HB⟩
      case measure => simp [intOf]; omega
    · go_wp2_with (at_builtin; refine wpList_app _ rfl _ _ 23 23 rfl w.heap.size 5 i0 (.int .u8 0) 1 1 Tryz.underlying23 hi hz0 hz1 hz2 rfl _ (l.length + k) ((l ++ pre).map B) rfl (HO.out.alloc _) _ 1 _ rfl (src_one Tryz.underlying23 _ _ rfl) (hl.h63 (m := k + 1) (by omega)) (hl.bytes (m := k + 1) (by omega)) (by simp; omega) ?_; intro v' w' hown' hgrow hnil; have HN := Lib.hid (Fresh.push (c := UInt8.ofNat z) hown' HL.out (by simp; omega)); have HB := Lib.hid (below_grown (hb.out.alloc hbase _) (by simp; omega) (HO.out.alloc _) hgrow); clear hown' hgrow hnil)
      go_ret
      exact ⟨_, rfl, by rw [Wire.step_end (by omega) hk.out, ← List.append_assoc]; exact HN.out, HB.out⟩
end Go.Proofs.YtopkfomlppnpeaaGreatDoor

namespace Go.Proofs.YtopkfomlppnpeaaGreatDoor
open Go.RowKit

set_option maxRecDepth 100000 in
set_option maxHeartbeats 1000000 in
theorem appendInt_any (v : Value) (l : List UInt8) (y : Int) (w : World) (h1 : Rd w v l) (hl : Room l.length) (h2 : -9223372036854775808 ≤ y) (h3 : y < 9223372036854775808) :
    Calls Tryz.prog 30 #[v, .int .i64 y] w fun e w' => ∃ v', e = .returned v' ∧ Fresh w.heap.size w' v' (l ++ Wire.enc (Wire.zig y)) ∧ Below w.heap.size w w' := by
  have H2 := Lib.hid h2
  have H3 := Lib.hid h3
  clear h2 h3
  go_enter Tryz.func30, Tryz.ntmps30
  go_wp2_with (go_at_call 109; rw [Wire.zig_wire H2.out H3.out]; refine (appendUint_any v l _ _ h1 hl (Wire.zig_lt H2.out H3.out)).mono ?_; rintro e w1 ⟨v1, rfl, hf1, hb1⟩)
  go_ret
  exact ⟨v1, rfl, hf1, hb1⟩

set_option maxRecDepth 100000 in
set_option maxHeartbeats 1000000 in
theorem refAppendInt_any (v : Value) (l : List UInt8) (y : Int) (w : World) (h1 : Rd w v l) (hl : Room l.length) (h2 : -9223372036854775808 ≤ y) (h3 : y < 9223372036854775808) :
    Calls Tryz.prog 128 #[v, .int .i64 y] w fun e w' => ∃ v', e = .returned v' ∧ Fresh w.heap.size w' v' (l ++ Wire.enc (Wire.zig y)) ∧ Below w.heap.size w w' := by
  have H2 := Lib.hid h2
  have H3 := Lib.hid h3
  clear h2 h3
  by_cases hy : 0 ≤ y
  · go_enter Tryz.func128, Tryz.ntmps128
    go_wp2_with (go_at_call 154; rw [Wire.zig_pos hy H3.out]; refine (refAppendUint_any v l _ _ h1 hl (Wire.zig_lt H2.out H3.out)).mono ?_; rintro e w1 ⟨v1, rfl, hf1, hb1⟩)
    go_ret
    exact ⟨v1, rfl, hf1, hb1⟩
  · go_enter Tryz.func128, Tryz.ntmps128
    go_wp2_with (go_at_call 154; rw [Wire.zig_neg hy H2.out]; refine (refAppendUint_any v l _ _ h1 hl (Wire.zig_lt H2.out H3.out)).mono ?_; rintro e w1 ⟨v1, rfl, hf1, hb1⟩)
    go_ret
    exact ⟨v1, rfl, hf1, hb1⟩

/-- room for a number's bytes -/
theorem room_enc {l : List UInt8} (x : Nat) (h : l.length ≤ 199999999999000) : Room (l ++ Wire.enc x).length := by
  have := Wire.enc_len x
  unfold Room; simp; omega

set_option maxRecDepth 100000 in
set_option maxHeartbeats 1000000 in
theorem appendText_any (v : Value) (l : List UInt8) (s : ByteArray) (w : World) (h1 : Rd w v l) (hl0 : l.length ≤ 199999999999000) (hs : s.size ≤ 65536) :
    Calls Tryz.prog 110 #[v, .string s] w fun e w' => ∃ v', e = .returned (.tuple #[v', .int .i64 0]) ∧ Fresh w.heap.size w' v' (l ++ Wire.enc s.size ++ s.data.toList) ∧ Below w.heap.size w w' := by
  obtain ⟨i0, hi, hz0, hz1, hz2⟩ := info_parts Tryz.uinfo
  have hl : Room l.length := by unfold Room; omega
  have HL0 := Lib.hid hl0
  clear hl0
  have hwr : IntKind.u64.wrap (s.size : Int) = (s.size : Int) := by rw [IntKind.wrap_u64]; omega
  go_enter Tryz.func110, Tryz.ntmps110
  go_wp2_with (first
    | (at_builtin; refine wpList_app _ rfl _ _ 23 9 rfl w.heap.size 5 i0 (.int .u8 0) 1 1 Tryz.underlying23 hi hz0 hz1 hz2 rfl _ (l ++ Wire.enc s.size).length ((l ++ Wire.enc s.size).map B) rfl HF1.out _ s.size (byteCells s) rfl (Src.ofString _ Tryz.underlying9 s) (HR.out.h63 (m := s.size) (by omega)) (HR.out.bytes (m := s.size) (by omega)) HS.out ?_; intro v' w' hown' hgrow hnil; have HN := Lib.hid (Fresh.app (r := s.data.toList) hown' rfl (by simp) (by simp [byteCells])); have HB := Lib.hid (below_grown HB1.out HS.out HF1.out hgrow); clear hown' hgrow hnil)
    | (go_at_call 109; refine (appendUint_any v l s.size _ h1 hl (by omega)).mono ?_; rintro e w1 ⟨v1, rfl, hf1, hb1⟩; have HS := Lib.hid hb1.size; have HF1 := Lib.hid hf1; have HB1 := Lib.hid hb1; have HR := Lib.hid (room_enc s.size HL0.out); clear hf1 hb1))
  go_ret2
  exact ⟨_, rfl, HN.out, HB.out⟩

set_option maxRecDepth 100000 in
set_option maxHeartbeats 1000000 in
theorem refAppendText_any (v : Value) (l : List UInt8) (s : ByteArray) (w : World) (h1 : Rd w v l) (hl0 : l.length ≤ 199999999999000) (hs : s.size ≤ 65536) :
    Calls Tryz.prog 155 #[v, .string s] w fun e w' => ∃ v', e = .returned (.tuple #[v', .int .i64 0]) ∧ Fresh w.heap.size w' v' (l ++ Wire.enc s.size ++ s.data.toList) ∧ Below w.heap.size w w' := by
  obtain ⟨i0, hi, hz0, hz1, hz2⟩ := info_parts Tryz.uinfo
  have hl : Room l.length := by unfold Room; omega
  have HL0 := Lib.hid hl0
  clear hl0
  have hwr : IntKind.u64.wrap (s.size : Int) = (s.size : Int) := by rw [IntKind.wrap_u64]; omega
  go_enter Tryz.func155, Tryz.ntmps155
  go_wp2_with (first
    | (at_builtin; refine wpList_app _ rfl _ _ 23 9 rfl w.heap.size 5 i0 (.int .u8 0) 1 1 Tryz.underlying23 hi hz0 hz1 hz2 rfl _ (l ++ Wire.enc s.size).length ((l ++ Wire.enc s.size).map B) rfl HF1.out _ s.size (byteCells s) rfl (Src.ofString _ Tryz.underlying9 s) (HR.out.h63 (m := s.size) (by omega)) (HR.out.bytes (m := s.size) (by omega)) HS.out ?_; intro v' w' hown' hgrow hnil; have HN := Lib.hid (Fresh.app (r := s.data.toList) hown' rfl (by simp) (by simp [byteCells])); have HB := Lib.hid (below_grown HB1.out HS.out HF1.out hgrow); clear hown' hgrow hnil)
    | (go_at_call 154; refine (refAppendUint_any v l s.size _ h1 hl (by omega)).mono ?_; rintro e w1 ⟨v1, rfl, hf1, hb1⟩; have HS := Lib.hid hb1.size; have HF1 := Lib.hid hf1; have HB1 := Lib.hid hb1; have HR := Lib.hid (room_enc s.size HL0.out); clear hf1 hb1))
  go_ret2
  exact ⟨_, rfl, HN.out, HB.out⟩

end Go.Proofs.YtopkfomlppnpeaaGreatDoor
