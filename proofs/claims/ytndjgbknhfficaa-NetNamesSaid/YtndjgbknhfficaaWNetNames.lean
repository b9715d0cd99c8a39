/- NetNames (written by gennet.py). -/
import Derived.Test.YtndjgbknhfficaaNtLives
import Derived.Sort.Walk0
namespace Go.Proofs.Ytndjgbknhfficaa.Nt
open Go.RowKit Go.Proofs.Ytndjgbknhfficaa Go.Proofs.Ytndjgbknhfficaa.So

theorem ni32 (u v : Value) : NI 3 [e1 u, e2 v] 3 := (ni3 u v (.bool true)).del 3
theorem ni31 (v : Value) : NI 3 [e2 v] 3 := (ni32 (.bool true) v).del 1
theorem one_deliver {w0 w : World} {b mb : Nat} {u v x : Value} (h : ON w0 w b mb 3 [e1 u, e2 v, e3 x]) : Calls Try.prog 11 #[ptr b, .int .u64 3] w fun e w' => e = .returned (.tuple #[.agg #[.int .u64 3, .int .u64 1, .int .i64 0, .int .i64 1, x], .int .i64 0]) ∧ ON w0 w' b mb 3 [e1 u, e2 v] ∧ w'.ownsRow 0 5 1 x 1 ([97].map B) :=
  (deliver_yes 3 (e3 x) h.p (by decide) rfl).mono fun e w' ⟨he, hp, hf⟩ => ⟨he, h.step hp hf, own_frp (h.p.own (e3 x) (by simp)) hf (h.p.ap (h.p.own (e3 x) (by simp)))⟩
theorem two_deliver {w0 w : World} {b mb : Nat} {u v : Value} (h : ON w0 w b mb 3 [e1 u, e2 v]) : Calls Try.prog 11 #[ptr b, .int .u64 3] w fun e w' => e = .returned (.tuple #[zeV, .int .i64 6]) ∧ Below w.heap.size w w' :=
  deliver_no 3 h.p (by decide) rfl
theorem one_to {w0 w : World} {b mb : Nat} {u v : Value} (h : ON w0 w b mb 3 [e1 u, e2 v]) : Calls Try.prog 13 #[ptr b, .int .i64 1] w fun e w' => ∃ p c, e = .returned (.slice p 1 c) ∧ w'.ownsRow 0 25 1 (.slice p 1 c) 1 ([1].map encU) ∧ Below w.heap.size w w' :=
  (to_any 1 h.p (ni32 u v) (by omega)).mono fun e w' ⟨x, he, ho, hb⟩ => by
    have ho2 : w'.ownsRow w.heap.size 25 1 x 1 ([1].map encU) := ho
    obtain ⟨p, c, rfl, -, -⟩ := own_slice ho2
    exact ⟨p, c, he, So.row_low ho2 (Nat.zero_le _), hb⟩
theorem two_to {w0 w : World} {b mb : Nat} {v : Value} (h : ON w0 w b mb 3 [e2 v]) : Calls Try.prog 13 #[ptr b, .int .i64 1] w fun e w' => ∃ p c, e = .returned (.slice p 0 c) ∧ Below w.heap.size w w' :=
  (to_any 1 h.p (ni31 v) (by omega)).mono fun e w' ⟨x, he, ho, hb⟩ => by
    have ho2 : w'.ownsRow w.heap.size 25 1 x 0 [] := ho
    obtain ⟨p, c, rfl, -, -⟩ := own_slice ho2
    exact ⟨p, c, he, hb⟩
theorem one_lose {w0 w : World} {b mb : Nat} {u v : Value} (h : ON w0 w b mb 3 [e1 u, e2 v]) : Calls Try.prog 14 #[ptr b, .int .u64 1] w fun e w' => e = .returned (.int .i64 0) ∧ ON w0 w' b mb 3 [e2 v] :=
  (lose_yes 1 (e1 u) h.p (by decide) rfl).mono fun e w' ⟨he, hp, hf⟩ => ⟨he, h.step hp hf⟩
theorem own_lit1 (w : World) : (w.alloc (.cells #[.int .u64 1] 25)).ownsRow w.heap.size 25 1 (.slice (some ⟨w.heap.size, 0, none⟩) 1 1) 1 ([1].map encU) := World.ownsRow_lit w #[.int .u64 1] 1 (Nat.le_refl _) (by simp [maxLen]) rfl
theorem make_bytes (m : Nat) (hm : m ≤ 100000) (w : World) : (Instr.makeSlice 29 (.int .i64 (m : Int)) (.int .i64 (m : Int))).run Try.prog w = .ok (.slice (some ⟨w.heap.size, 0, none⟩) m m) (w.alloc (.cells (List.replicate m (B 0)).toArray 5)) := by
  obtain ⟨i, hi, hz0, hz1, hz2⟩ := info_parts Try.uinfo
  have h := run_make (P := Try.prog) w 29 5 i _ Try.underlying29 hi hz0 .i64 .i64 (m : Int) (m : Int) (by omega) (Int.le_refl _) (by rw [hz2]; omega) (by omega)
  rw [Int.toNat_natCast, hz1] at h
  have e : (madeCells (Value.cells (.int .u8 0)) (m * 1)).toList = List.replicate m (B 0) := by rw [Nat.mul_one]; exact toList_madeCells_one _ _
  have e2 : madeCells (Value.cells (.int .u8 0)) (m * 1) = (List.replicate m (B 0)).toArray := by rw [← e]
  rw [e2] at h
  exact h
theorem made_rd (w : World) (m : Nat) (hm : m ≤ 100000) : Go.Proofs.Ytndjgbknhfficaa.Rd (w.alloc (.cells (List.replicate m (B 0)).toArray 5)) (.slice (some ⟨w.heap.size, 0, none⟩) m m) (List.replicate m 0) := by
  have h := lit_bytes w (List.replicate m 0) (by simp; unfold maxLen; omega) (0, 0)
  simpa [List.map_replicate] using h
theorem big_made (m : Nat) (hm : m ≤ 100000) : ∃ (zz : Array Value) (l : List UInt8), l.length = m ∧ (∀ w2 : World, (Instr.makeSlice 29 (.int .i64 (m : Int)) (.int .i64 (m : Int))).run Try.prog w2 = .ok (.slice (some ⟨w2.heap.size, 0, none⟩) m m) (w2.alloc (.cells zz 5))) ∧ ∀ w2 : World, Go.Proofs.Ytndjgbknhfficaa.Rd (w2.alloc (.cells zz 5)) (.slice (some ⟨w2.heap.size, 0, none⟩) m m) l :=
  ⟨(List.replicate m (B 0)).toArray, List.replicate m 0, List.length_replicate, fun w2 => make_bytes m hm w2, fun w2 => made_rd w2 m hm⟩
theorem big_16385 : ∃ (zz : Array Value) (l : List UInt8), l.length = 16385 ∧ (∀ w2 : World, (Instr.makeSlice 29 (.int .i64 16385) (.int .i64 16385)).run Try.prog w2 = .ok (.slice (some ⟨w2.heap.size, 0, none⟩) 16385 16385) (w2.alloc (.cells zz 5))) ∧ ∀ w2 : World, Go.Proofs.Ytndjgbknhfficaa.Rd (w2.alloc (.cells zz 5)) (.slice (some ⟨w2.heap.size, 0, none⟩) 16385 16385) l := big_made 16385 (by decide)
theorem long_send {w0 w wm : World} {b mb : Nat} {v x : Value} {l : List UInt8} (h : ON w0 w b mb 3 [e2 v]) (hb : Below w.heap.size w wm) (hr : Go.Proofs.Ytndjgbknhfficaa.Rd wm x l) (hl : l.length = 16385) : Calls Try.prog 9 #[ptr b, .int .i64 0, .int .i64 1, x] wm fun e w' => e = .returned (.tuple #[.int .u64 0, .int .i64 3]) ∧ wm = w' :=
  send_long 0 1 x l (h.kept hb).p hr (by decide) (by omega)
set_option maxRecDepth 100000 in
set_option maxHeartbeats 400000 in
theorem netNames_walk (w : World) : Calls Try.prog 3 #[] w fun e w' => e = .returned (.bool true) ∧ Below w.heap.size w w' := by
  obtain ⟨zz, l, hl, HMK, hr⟩ := big_16385
  have HL := Lib.hid hl
  have HRD := Lib.hid hr
  clear hl hr
  have hcv := fun (w : World) (C : Array Value) (n c : Nat) => Lib.run_convert_bytes_const (P := Try.prog) w 29 5 C n c Try.underlying29 Try.underlying5
  go_enter Try.func3, Try.ntmps3
  go_upto_region 8 with (first | (go_at_call 7; refine (nlives _).mono ?_; rintro e w0 ⟨rfl, hb⟩; have HB0 := Lib.hid hb; clear hb) | (go_at_call 8; refine (new_any _).mono ?_; rintro e wn ⟨b, mb, rfl, hb1, hb2, hp, hb⟩; have HN := Lib.hid (ON.of_new HB0.out hb1 hb2 hp hb); clear hb1 hb2 hp hb) | (go_at_call 9; refine (one_sendA HN.out).mono ?_; rintro e wa ⟨rfl, ua, ha⟩; have HA := Lib.hid ha; clear ha HN) | (go_at_call 9; refine (one_sendB HA.out).mono ?_; rintro e wb ⟨rfl, ub, ha⟩; have HB := Lib.hid ha; clear ha HA) | (go_at_call 10; refine (one_double HB.out).mono ?_; rintro e wd ⟨rfl, ud, ha⟩; have HD := Lib.hid ha; clear ha HB) | (go_at_call 11; refine (one_deliver HD.out).mono ?_; rintro e w7 ⟨rfl, ho, hx⟩; obtain ⟨p, c, rfl, -, -⟩ := own_slice hx; have HX := Lib.hid hx; have HO := Lib.hid ho; clear ho hx HD))
  obtain ⟨K, hK⟩ : ∃ K, K = w7.heap.size := ⟨_, rfl⟩
  obtain ⟨w8, hw8⟩ : ∃ w8, w8 = w7.alloc (.cells #[.int .u64 3, .int .u64 1, .int .i64 0, .int .i64 1, .slice p 1 c] 32) := ⟨_, rfl⟩
  have HK8 : Hid (Blk w8 K [.int .u64 3, .int .u64 1, .int .i64 0, .int .i64 1, .slice p 1 c] 32) := Lib.hid (by rw [hw8, hK]; exact Blk.made w7 [.int .u64 3, .int .u64 1, .int .i64 0, .int .i64 1, .slice p 1 c] _)
  have HO8 : Hid (ON w w8 b mb 3 [e1 ua, e2 ub]) := Lib.hid (by rw [hw8]; exact HO.out.kept (below_alloc _ _))
  have HX8 : Hid (w8.ownsRow 0 5 1 (.slice p 1 c) 1 ([97].map B)) := Lib.hid (by rw [hw8]; exact own_fr HX.out (Fr.of_below (below_alloc _ _) []) (fun _ _ => by simp))
  rw [← hw8, ← hK]
  clear hw8 hK HO HX
  go_upto_region 9 with (go_at_call 11; refine (two_deliver HO8.out).mono ?_; rintro e wd2 ⟨rfl, hb⟩; have HB9 := Lib.hid hb; clear hb)
  obtain ⟨w9, hw9⟩ : ∃ w9, w9 = wd2.alloc (.cells #[.int .u64 0, .int .u64 0, .int .i64 0, .int .i64 0, .slice none 0 0] 32) := ⟨_, rfl⟩
  have HB : Hid (Below w8.heap.size w8 w9) := Lib.hid (by rw [hw9]; exact below_and HB9.out (below_alloc _ _))
  rw [← hw9]
  clear hw9 HB9
  have c4 := (HK8.out.kept HB.out).cell (j := 4) rfl
  have HO9 := Lib.hid (HO8.out.kept HB.out)
  have hst : (convert 29 9 (.slice p 1 c)).run Try.prog w9 = .ok (.string ⟨#[97]⟩) w9 := run_str (l := [97]) (Fresh.rd (base := 0) (own_fr HX8.out (Fr.of_below HB.out []) (fun _ _ => by simp))) Try.underlying29 Try.underlying5 _ Try.underlying9
  clear HB HO8 HK8 HX8
  go_upto_region 11 with (first | (go_at_call 13; refine (one_to HO9.out).mono ?_; rintro e wa ⟨pa, ca, rfl, ho, hb⟩; have HR := Lib.hid (own_fr ho (Fr.of_below (below_alloc wa (.cells #[.int .u64 1] 25)) []) (fun _ _ => by simp)); have HOa := Lib.hid ((HO9.out.kept hb).kept (below_alloc wa (.cells #[.int .u64 1] 25))); clear ho hb HO9) | (go_at_call 12; refine (samenum_any _ _ [1] [1] _ HR.out (own_lit1 _)).mono ?_; rw [show (([1] : List Int) == [1]) = true from rfl]; rintro e wb ⟨rfl, hb⟩; have HOb := Lib.hid (HOa.out.kept hb); clear hb HOa) | (go_at_call 14; refine (one_lose HOb.out).mono ?_; rintro e wc ⟨rfl, ho⟩; have HOc := Lib.hid ho; clear ho HOb) | (go_at_call 13; refine (two_to HOc.out).mono ?_; rintro e we ⟨pe, ce, rfl, hb⟩; have HOe := Lib.hid (HOc.out.kept hb); clear hb HOc) | (go_at_call 9; refine (send_arg 0 64 _ HOe.out.p (by decide)).mono ?_; rintro e we ⟨rfl, rfl⟩))
  skip
  go_wp2_with fail
  go_at_call 9
  refine (long_send HOe.out (below_alloc _ _) (HRD.out _) HL.out).mono ?_
  rintro e we2 ⟨rfl, rfl⟩
  go_wp2
  go_ret
  exact ⟨rfl, (HOe.out.kept (below_alloc _ _)).bel⟩
end Go.Proofs.Ytndjgbknhfficaa.Nt
