/- RdOne, RdRun, RdDig, RdAdd. -/
import Derived.Test.YtdemkfhkibmbnaaGreatDoorM31
import Derived.Test.YtdemkfhkibmbnaaGreatDoorRdSim
set_option maxRecDepth 100000
set_option maxHeartbeats 8000000
namespace Go.Proofs.YtdemkfhkibmbnaaGreatDoor.Ru
open Go.RowKit Go.Proofs.YtdemkfhkibmbnaaGreatDoor
theorem dfail_any {base b : Nat} {s : ByteArray} {k : Nat} {n : Int} {v : Value} {L : List Nd} {bd : Bool} {e a : Int} {w : World} (h : Dp base w b s k v L bd e a n) (x y : Int) (hx : x ≠ 0) : Calls Tryz.prog 94 #[ptr b, .int .i64 x, .int .i64 y] w fun r w' => r = .returned (.tuple #[]) ∧ Dq base w' b s k v L true n ∧ Onb b w w' := by
 have H := zz h; have HX := zz hx; obtain ⟨-, -, -, c3, c4, c5⟩ := cl6 h.blk; obtain ⟨-, -, -, f3, f4, f5⟩ := fz6 h.blk; clear h hx; cases bd
 ·go_enter Tryz.func94, Tryz.ntmps94
  go_wp2; refine end0 rfl rfl ⟨rfl, ⟨x, y, H.o.fault x y HX.o⟩, Onb.set (Onb.set (Onb.set (Frp.refl _ w) 5 _) 3 _) 4 _⟩
 ·go_enter Tryz.func94, Tryz.ntmps94
  go_wp2; refine end0 rfl rfl ⟨rfl, ⟨e, a, H.o⟩, Frp.refl _ _⟩
theorem dcount_any {base b : Nat} {s : ByteArray} {k : Nat} {n : Int} {v : Value} {L : List Nd} {bd : Bool} {e a : Int} {w : World} (h : Dp base w b s k v L bd e a n) (hn : 0 ≤ n ∧ n ≤ 1000) (y : Int) : Calls Tryz.prog 111 #[ptr b, .int .i64 y] w fun r w' => r = .returned (.tuple #[]) ∧ Dq base w' b s k v L (bd || decide (64 < n + 1)) (n + 1) ∧ Onb b w w' := by
 have H1 := zz (h.num (n + 1)); have c6 := h.blk.cell (j := 6) rfl; have f6 := h.blk.free 6; have HO : Hid (Onb b w (w.setCell ⟨b, 6, none⟩ (.int .i64 (n + 1)))) := zz (Onb.set (Frp.refl _ w) 6 _); have e1 : IntKind.i64.wrap (n + 1) = n + 1 := by rw [IntKind.wrap_i64]; omega
 clear h
 by_cases hl : 64 < n + 1
 ·have d1 : decide (64 < n + 1) = true := decide_eq_true hl
  have HD : Hid ((bd || decide (64 < n + 1)) = true) := zz (by rw [d1, Bool.or_true]); have d2 : (64 : Int) < n + 1 := hl; have c6' := H1.o.blk.cell (j := 6) rfl; clear hl; go_enter Tryz.func111, Tryz.ntmps111; go_wp2_with (go_at_call 94; refine (dfail_any H1.o 3 y (by decide)).mono ?_; rintro r w2 ⟨rfl, hq, ho⟩; have HQ := zz hq; have HO2 := zz (HO.o.then ho); clear hq ho); refine end0 rfl rfl ⟨rfl, by (have h9 := HQ.o; first | exact h9 | (rw [HD.o]; exact h9)), HO2.o⟩
 ·have d1 : decide (64 < n + 1) = false := decide_eq_false hl
  have HD : Hid ((bd || decide (64 < n + 1)) = bd) := zz (by rw [d1, Bool.or_false]); have d2 : ¬ (64 : Int) < n + 1 := hl; have c6' := H1.o.blk.cell (j := 6) rfl; clear hl; go_enter Tryz.func111, Tryz.ntmps111; go_wp2; refine end0 rfl rfl ⟨rfl, by (have h9 : Dq base _ b s k v L bd (n + 1) := ⟨_, _, H1.o⟩; first | exact h9 | (rw [HD.o]; exact h9)), HO.o⟩
def pkB (s : ByteArray) (k : Nat) : Int := match blk (rest s k) with | [] => 0 | c :: _ => (c.toNat : Int)
theorem pkB_at {s : ByteArray} {k : Nat} (hk : k ≤ s.size) (h : skip s k < s.size) : pkB s k = (s[skip s k].toNat : Int) := by
 obtain ⟨-, -, h3, -, -⟩ := skip_is hk
 unfold pkB
 rw [h3, rest_at h]
 rfl
theorem pkB_end {s : ByteArray} {k : Nat} (hk : k ≤ s.size) (h : ¬ skip s k < s.size) : pkB s k = 0 := by
 obtain ⟨-, h2, h3, -, -⟩ := skip_is hk
 unfold pkB
 have e : skip s k = s.size := by omega
 rw [h3, e, rest_end]
theorem dpeek_any {base b : Nat} {s : ByteArray} {k : Nat} {n : Int} {v : Value} {L : List Nd} {bd : Bool} {e a : Int} {w : World} (h : Dp base w b s k v L bd e a n) (hk : k ≤ s.size) : Calls Tryz.prog 93 #[ptr b] w fun r w' => r = .returned (.int .u8 (pkB s k)) ∧ Dp base w' b s (skip s k) v L bd e a n ∧ Onb b w w' := by
 have HBL := zz (dblanks_any base b s k n v L bd e a w h hk); obtain ⟨-, hj2, -, -, -⟩ := skip_is hk; obtain ⟨j, hj⟩ : ∃ j, j = skip s k := ⟨_, rfl⟩; have hsz := h.sz
 by_cases hlt : j < s.size
 ·have HR : Hid (pkB s k = (s[j].toNat : Int)) := zz (by subst hj; exact pkB_at hk hlt)
  obtain ⟨c, hc⟩ : ∃ c, c = s[j] := ⟨_, rfl⟩; rw [← hc] at HR; have hcc : s[j] = c := hc.symm; rw [← hj] at HBL ⊢; have i0 : (0 : Int) ≤ (j : Int) := by omega
  have i1 : (j : Int) < (s.size : Int) := by omega
  clear h hc hj hk; go_enter Tryz.func93, Tryz.ntmps93; go_upto_region 2 with (go_at_call 113; refine HBL.o.mono ?_; rintro r w2 ⟨rfl, hq, ho⟩; have HQ := zz hq; have HO := zz ho; clear hq ho); obtain ⟨b0, b1⟩ := ps2 HQ.o.blk; refine wp_region_past (by kernel_rfl) (by kernel_rfl) ?_
  repeat (go_big_quiet_step (fail))
  refine wpQuiet_past ?_; intro w3 h9; have HQ3 := zz (HQ.o.kept h9); have HO3 := zz (HO.o.next h9); clear h9 b0 b1 HQ HO; go_upto_region 3 with fail; obtain ⟨b0, b1⟩ := ps2 HQ3.o.blk; refine wp_region_past (by kernel_rfl) (by kernel_rfl) ?_
  repeat (go_big_quiet_step (fail))
  refine wpQuiet_past ?_; intro w4 h9; have HQ4 := zz (HQ3.o.kept h9); have HO4 := zz (HO3.o.next h9); clear h9 b0 b1 HQ3 HO3; go_wp2; go_ret; exact ⟨by rw [HR.o]; rfl, HQ4.o, HO4.o⟩
 ·have HR : Hid (pkB s k = 0) := zz (by subst hj; exact pkB_end hk hlt)
  rw [← hj] at HBL ⊢; have i1 : ¬ (j : Int) < (s.size : Int) := by omega
  clear h hj hk; go_enter Tryz.func93, Tryz.ntmps93; go_upto_region 2 with (go_at_call 113; refine HBL.o.mono ?_; rintro r w2 ⟨rfl, hq, ho⟩; have HQ := zz hq; have HO := zz ho; clear hq ho); obtain ⟨b0, b1⟩ := ps2 HQ.o.blk; refine wp_region_past (by kernel_rfl) (by kernel_rfl) ?_
  repeat (go_big_quiet_step (fail))
  refine wpQuiet_past ?_; intro w3 h9; have HQ3 := zz (HQ.o.kept h9); have HO3 := zz (HO.o.next h9); clear h9 b0 b1 HQ HO; go_wp2; go_ret; exact ⟨by rw [HR.o]; rfl, HQ3.o, HO3.o⟩
theorem runW_run (r : List UInt8) : runW r = run (r.length + 1) wdc r := by unfold runW run; rw [List.take_of_length_le (by omega)]
theorem runW_spec {s : ByteArray} {k : Nat} (hk : k ≤ s.size) : k + (runW (rest s k)).length ≤ s.size ∧
  (∀ i (h : k + i < s.size), i < (runW (rest s k)).length → wdc s[k + i] = true) ∧ (∀ h : k + (runW (rest s k)).length < s.size, wdc s[k + (runW (rest s k)).length] = false) ∧
  s.extract k (k + (runW (rest s k)).length) = bs (runW (rest s k)) := by
 have h0 := runW_run (rest s k); obtain ⟨g1, g2, g3, g4⟩ := run_spec (m := (rest s k).length + 1) (p := wdc) hk; refine ⟨by rw [h0]; exact g1, fun i h hi => g3 i h (by rw [← h0]; exact hi), fun h => ?_, ?_⟩
 ·have h9 := runW_len (rest s k)
  have := g4 (by rw [← h0]; exact h) (by rw [← h0]; omega); simp only [← h0] at this; exact this
 ·rw [bs_sub]
  congr 1
  have := run_take ((rest s k).length + 1) wdc (rest s k); rw [← h0] at this; exact this.symm
theorem hdw_rest {s : ByteArray} {j : Nat} (p : UInt8 → Bool) (h : j < s.size) : hd p (rest s j) = p s[j] := by
 rw [rest_at h]; rfl
theorem hdw_end {s : ByteArray} {j : Nat} (p : UInt8 → Bool) (hj : j ≤ s.size) (h : ¬ j < s.size) : hd p (rest s j) = false := by
 have : j = s.size := by omega
 rw [this, rest_end]; rfl
def badN (s : ByteArray) (k : Nat) : Bool := decide ((nmR (rest s k)).length = 0) || hd wdc (rest s (k + (nmR (rest s k)).length))
theorem nm_sub {s : ByteArray} {k i : Nat} : (s.extract k (k + i)).data.toList = (rest s k).take i := by
 rw [bs_sub]; simp [bs]
theorem drun_any {base b : Nat} {s : ByteArray} {k : Nat} {n : Int} {v : Value} {L : List Nd} {bd : Bool} {e a : Int} {w : World} (h : Dp base w b s k v L bd e a n) (hk : k ≤ s.size) : Calls Tryz.prog 156 #[ptr b] w fun r w' => r = .returned (.string (bs (runW (rest s k)))) ∧ Dp base w' b s (k + (runW (rest s k)).length) v L bd e a n ∧ Onb b w w' := by
 obtain ⟨g1, g3, g4, g5⟩ := runW_spec hk; obtain ⟨t, ht⟩ : ∃ t, t = bs (runW (rest s k)) := ⟨_, rfl⟩; obtain ⟨l, hl⟩ : ∃ l, l = (runW (rest s k)).length := ⟨_, rfl⟩; have HEX : Hid (s.extract k (k + l) = t) := zz (by rw [ht, hl, g5]); rw [← ht, ← hl]; rw [← hl] at g1; have HYES : Hid (∀ i (h : k + i < s.size), i < l → wdc s[k + i] = true) := zz (fun i h hi => g3 i h (by omega)); have HNO : Hid (∀ h : k + l < s.size, wdc s[k + l] = false) := zz (by subst hl; exact g4); have HPC : Hid (∀ (c : UInt8) w, Calls Tryz.prog 84 #[.int .u8 (c.toNat : Int)] w fun e w' => e = .returned (.bool (wdc c)) ∧ w = w') := zz wordByte_any; have H := zz h; have hsz := h.sz; have c1 := h.blk.cell (j := 1) rfl; clear h g3 g4 g5 ht hl; go_enter Tryz.func156, Tryz.ntmps156; go_wp2
 go_loopw [] (fun wr => ∃ i : Nat, i ≤ l ∧ Hid (Dp base wr b s (k + i) v L bd e a n) ∧ Hid (Onb b w wr)) (fun wr => k + l - (intOf ((wr.cell? ⟨b, 1, none⟩).getD undef)).toNat)
 case atStart => exact ⟨0, Nat.zero_le _, H, zz (Frp.refl _ _)⟩
 case round =>
  obtain ⟨i, h2, HP, HF⟩ := hrel; obtain ⟨j, hj⟩ : ∃ j, j = k + i := ⟨_, rfl⟩; rw [← hj] at HP; have HJ := zz hj; have hkj : k ≤ j ∧ j ≤ s.size ∧ j - k = i := by omega
  obtain ⟨k1, k2, k3⟩ := hkj; clear hj; obtain ⟨b0, b1⟩ := ps2 HP.o.blk; have i0 : (0 : Int) ≤ (j : Int) := by omega
  by_cases hlt : i < l
  ·have i2 : j < s.size := by have := HJ.o; omega
   have i1 : (j : Int) < (s.size : Int) := by omega
   obtain ⟨c, hc⟩ : ∃ c, c = s[j] := ⟨_, rfl⟩; have hcc : s[j] = c := hc.symm; have t1 : wdc c = true := by rw [hc]; have := HJ.o; subst this; exact HYES.o i i2 hlt
   clear hc; go_wp2; refine wp_region_past (by kernel_rfl) (by kernel_rfl) ?_
   repeat (go_big_quiet_step ((go_at_call 84; exact past_call_same (HPC.o _ _))))
   refine wpQuiet_past ?_; intro w9 h9; have HN := zz (HP.o.kept h9); have HF9 : Hid (Onb b w w9) := zz (HF.o.next h9); clear h9 b0 b1; have c1 := HN.o.blk.cell (j := 1) rfl; have f1 := HN.o.blk.free 1; go_wp2; go_roundw
   case rel => exact ⟨i + 1, hlt, zz (by have := HN.o.at (k + (i + 1)); rw [HJ.o]; simpa [Int.add_assoc] using this), zz (Onb.set HF9.o 1 _)⟩
   case measure =>
    have e1 := HP.o.blk.cell (j := 1) rfl; have e2 := (HN.o.blk.set 1 (.int .i64 ((j : Int) + 1))).cell (j := 1) rfl; rw [e1, e2]
    simp [intOf]; omega
  ·obtain rfl : l = i := by omega
   have j1 : (k : Int) ≤ (j : Int) := by omega
   have j2 : (j : Int) ≤ (s.size : Int) := by omega
   have hj := HJ.o; rw [← hj] at HEX ⊢; clear hj
   by_cases hin : j < s.size
   ·have i1 : (j : Int) < (s.size : Int) := by omega
    obtain ⟨c, hc⟩ : ∃ c, c = s[j] := ⟨_, rfl⟩; have hcc : s[j] = c := hc.symm; have t1 : wdc c = false := by rw [hc]; have := HJ.o; subst this; exact HNO.o hin
    clear hc; go_wp2; refine wp_region_past (by kernel_rfl) (by kernel_rfl) ?_
    repeat (go_big_quiet_step ((go_at_call 84; exact past_call_same (HPC.o _ _))))
    refine wpQuiet_past ?_; intro w9 h9; have HN := zz (HP.o.kept h9); have HF9 : Hid (Onb b w w9) := zz (HF.o.next h9); clear h9 b0 b1; go_upto_region 4 with fail; obtain ⟨b0, b1⟩ := ps2 HN.o.blk; refine wp_region_past (by kernel_rfl) (by kernel_rfl) ?_
    repeat (go_big_quiet_step (fail))
    refine wpQuiet_past ?_; intro w8 h9; have H8 := zz (HN.o.kept h9); have HF8 : Hid (Onb b w w8) := zz (HF9.o.next h9); clear h9 b0 b1; go_wp2; go_ret; exact ⟨(by rw [HEX.o]; rfl), (by rw [← HJ.o]; exact H8.o), HF8.o⟩
   ·have i1 : ¬ (j : Int) < (s.size : Int) := by omega
    go_wp2; refine wp_region_past (by kernel_rfl) (by kernel_rfl) ?_
    repeat (go_big_quiet_step (fail))
    refine wpQuiet_past ?_; intro w9 h9; have HN := zz (HP.o.kept h9); have HF9 : Hid (Onb b w w9) := zz (HF.o.next h9); clear h9 b0 b1; go_upto_region 4 with fail; obtain ⟨b0, b1⟩ := ps2 HN.o.blk; refine wp_region_past (by kernel_rfl) (by kernel_rfl) ?_
    repeat (go_big_quiet_step (fail))
    refine wpQuiet_past ?_; intro w8 h9; have H8 := zz (HN.o.kept h9); have HF8 : Hid (Onb b w w8) := zz (HF9.o.next h9); clear h9 b0 b1; go_wp2; go_ret; exact ⟨(by rw [HEX.o]; rfl), (by rw [← HJ.o]; exact H8.o), HF8.o⟩
theorem dpname_any {base b : Nat} {s : ByteArray} {k : Nat} {n : Int} {v : Value} {L : List Nd} {bd : Bool} {e a : Int} {w : World} (h : Dp base w b s k v L bd e a n) (hk : k ≤ s.size) : Calls Tryz.prog 149 #[ptr b] w fun r w' => r = .returned (.string (bs (nmR (rest s k)))) ∧ Dq base w' b s (k + (nmR (rest s k)).length) v L (bd || badN s k) n ∧ Onb b w w' := by
 obtain ⟨l, hl⟩ : ∃ l, l = (nmR (rest s k)).length := ⟨_, rfl⟩; have hl2 := nmR_len (rest s k); rw [← hl, rest_len] at hl2; have g1 : k + l ≤ s.size := by omega
 have g2 : l ≤ 24 := hl2.1; obtain ⟨t, ht⟩ : ∃ t, t = bs (nmR (rest s k)) := ⟨_, rfl⟩; have HEX : Hid (s.extract k (k + l) = t) := zz (by rw [ht, bs_sub, hl, nmR_take]); have HB : Hid (badN s k = (decide (l = 0) || hd wdc (rest s (k + l)))) := zz (by unfold badN; rw [← hl]); have HYES : Hid (∀ i, i < l → specM 24 ((rest s k).take (i + 1)) = true) := zz (fun i hi => nmR_pre (by rw [← hl]; exact hi)); have HNO : Hid (k + l < s.size → specM 24 ((rest s k).take (l + 1)) = false) := zz (fun hi => by rw [hl]; exact nmR_more (by rw [← hl, rest_len]; omega)); rw [← ht, ← hl]; obtain ⟨B, hB⟩ : ∃ B, B = badN s k := ⟨_, rfl⟩; rw [← hB] at HB ⊢; have HPC : Hid (∀ (c : UInt8) w, Calls Tryz.prog 84 #[.int .u8 (c.toNat : Int)] w fun e w' => e = .returned (.bool (wdc c)) ∧ w = w') := zz wordByte_any; have H := zz h; have hsz := h.sz; have c1 := h.blk.cell (j := 1) rfl; clear h ht hl hl2 hB; go_enter Tryz.func149, Tryz.ntmps149; go_wp2
 go_loopw [] (fun wr => ∃ i : Nat, i ≤ l ∧ Hid (Dp base wr b s (k + i) v L bd e a n) ∧ Hid (Onb b w wr)) (fun wr => k + l - (intOf ((wr.cell? ⟨b, 1, none⟩).getD undef)).toNat)
 case atStart => exact ⟨0, Nat.zero_le _, H, zz (Frp.refl _ _)⟩
 case round =>
  obtain ⟨i, h2, HP, HF⟩ := hrel; obtain ⟨j, hj⟩ : ∃ j, j = k + i := ⟨_, rfl⟩; rw [← hj] at HP; have HJ := zz hj; have hkj : k ≤ j ∧ j ≤ s.size ∧ j - k = i := by omega
  obtain ⟨k1, k2, k3⟩ := hkj; clear hj; obtain ⟨b0, b1⟩ := ps2 HP.o.blk; have i0 : (0 : Int) ≤ (j : Int) := by omega
  have j1 : (k : Int) ≤ (j : Int) := by omega
  have j2 : (j : Int) ≤ (s.size : Int) := by omega
  have j3 : (k : Int) ≤ (j : Int) + 1 := by omega
  have i9 : (0 : Int) ≤ (k : Int) := by omega
  have u1 : IntKind.i64.wrap ((j : Int) + 1) = (j : Int) + 1 := by rw [IntKind.wrap_i64]; omega
  have HSL : Hid ((s.extract k (j + 1)).data.toList = (rest s k).take (i + 1)) := zz (by have := HJ.o; rw [this, Nat.add_assoc]; exact nm_sub); have hsl : (s.extract k (j + 1)).size ≤ 140737488351232 := by rw [ByteArray.size_extract]; omega
  obtain ⟨q, hq⟩ : ∃ q, q = specM 24 ((rest s k).take (i + 1)) := ⟨_, rfl⟩; have HNM : Hid (∀ w, Calls Tryz.prog 58 #[.string (s.extract k (j + 1)), .int .i64 24] w fun e w' => e = .returned (.bool q) ∧ w = w') := zz (fun w => by rw [hq, ← HSL.o]; exact dname_any 24 _ w (by omega) hsl); have HQ := zz hq; clear hq hsl
  by_cases hlt : i < l
  ·have i2 : j < s.size := by have := HJ.o; omega
   have i1 : (j : Int) < (s.size : Int) := by omega
   have j4 : (j : Int) + 1 ≤ (s.size : Int) := by omega
   obtain rfl : q = true := by rw [HQ.o]; exact HYES.o i hlt
   go_wp2; refine wp_region_past (by kernel_rfl) (by kernel_rfl) ?_
   repeat (go_big_quiet_step ((go_at_call 58; exact past_call_same (HNM.o _))))
   refine wpQuiet_past ?_; intro w9 h9; have HN := zz (HP.o.kept h9); have HF9 : Hid (Onb b w w9) := zz (HF.o.next h9); clear h9 b0 b1; have c1 := HN.o.blk.cell (j := 1) rfl; have f1 := HN.o.blk.free 1; go_wp2; go_roundw
   case rel => exact ⟨i + 1, hlt, zz (by have := HN.o.at (k + (i + 1)); rw [HJ.o]; simpa [Int.add_assoc] using this), zz (Onb.set HF9.o 1 _)⟩
   case measure =>
    have e1 := HP.o.blk.cell (j := 1) rfl; have e2 := (HN.o.blk.set 1 (.int .i64 ((j : Int) + 1))).cell (j := 1) rfl; rw [e1, e2]
    simp [intOf]; omega
  ·obtain rfl : l = i := by omega
   have hj := HJ.o; rw [← hj] at HEX ⊢; clear hj
   by_cases hin : j < s.size
   ·have i1 : (j : Int) < (s.size : Int) := by omega
    have j4 : (j : Int) + 1 ≤ (s.size : Int) := by omega
    obtain rfl : q = false := by rw [HQ.o]; exact HNO.o (by have := HJ.o; omega)
    go_wp2; refine wp_region_past (by kernel_rfl) (by kernel_rfl) ?_
    repeat (go_big_quiet_step ((go_at_call 58; exact past_call_same (HNM.o _))))
    refine wpQuiet_past ?_; intro w9 h9; have HN := zz (HP.o.kept h9); have HF9 : Hid (Onb b w w9) := zz (HF.o.next h9); clear h9 b0 b1
    by_cases hz : l = 0
    ·have z1 : ((j : Int) == (k : Int)) = true := by simp; omega
     have HBV : Hid (B = true) := zz (by rw [HB.o, decide_eq_true hz]; rfl); go_upto_region 4 with fail; obtain ⟨b0, b1⟩ := ps2 HN.o.blk; refine wp_region_past (by kernel_rfl) (by kernel_rfl) ?_
     repeat (go_big_quiet_step (fail))
     refine wpQuiet_past ?_; intro w7 h9; have HN2 := zz (HN.o.kept h9); have HF2 : Hid (Onb b w w7) := zz (HF9.o.next h9); clear h9 b0 b1 HN HF9; go_upto_region 5 with fail; have c1 := HN2.o.blk.cell (j := 1) rfl; go_upto_region 6 with (go_at_call 94; refine (dfail_any HN2.o 5 _ (by decide)).mono ?_; rintro r w4 ⟨rfl, hq, ho⟩; have HQ4 := zz hq; have HF4 : Hid (Onb b w w4) := zz (HF2.o.then ho); clear hq ho); obtain ⟨e4, a4, h4⟩ := HQ4.o; have HN4 := zz h4; clear HQ4 h4 c1; obtain ⟨b0, b1⟩ := ps2 HN4.o.blk; refine wp_region_past (by kernel_rfl) (by kernel_rfl) ?_
     repeat (go_big_quiet_step (fail))
     refine wpQuiet_past ?_; intro w8 h9; have H8 := zz (HN4.o.kept h9); have HF8 : Hid (Onb b w w8) := zz (HF4.o.next h9); clear h9 b0 b1; go_wp2; go_ret; exact ⟨(by rw [HEX.o]; rfl), (by have h9 : Dq base _ b s j v L true n := ⟨_, _, H8.o⟩; rw [HBV.o, Bool.or_true, ← HJ.o]; exact h9), HF8.o⟩
    have z1 : ((j : Int) == (k : Int)) = false := by simp; omega
    obtain ⟨c, hc⟩ : ∃ c, c = s[j] := ⟨_, rfl⟩; have hcc : s[j] = c := hc.symm; have HHD : Hid (hd wdc (rest s j) = wdc c) := zz (by rw [hdw_rest _ hin, hc]); clear hc; cases t1 : wdc c
    ·have HBV : Hid (B = false) := zz (by rw [HB.o, decide_eq_false hz, ← HJ.o, HHD.o, t1]; rfl)
     go_upto_region 4 with fail; obtain ⟨b0, b1⟩ := ps2 HN.o.blk; refine wp_region_past (by kernel_rfl) (by kernel_rfl) ?_
     repeat (go_big_quiet_step ((go_at_call 84; exact past_call_same (HPC.o _ _))))
     refine wpQuiet_past ?_; intro w7 h9; have HN2 := zz (HN.o.kept h9); have HF2 : Hid (Onb b w w7) := zz (HF9.o.next h9); clear h9 b0 b1 HN HF9; go_upto_region 6 with fail; obtain ⟨b0, b1⟩ := ps2 HN2.o.blk; refine wp_region_past (by kernel_rfl) (by kernel_rfl) ?_
     repeat (go_big_quiet_step (fail))
     refine wpQuiet_past ?_; intro w8 h9; have H8 := zz (HN2.o.kept h9); have HF8 : Hid (Onb b w w8) := zz (HF2.o.next h9); clear h9 b0 b1; go_wp2; go_ret; exact ⟨(by rw [HEX.o]; rfl), (by have h9 : Dq base _ b s j v L bd n := ⟨_, _, H8.o⟩; rw [HBV.o, Bool.or_false, ← HJ.o]; exact h9), HF8.o⟩
    ·have HBV : Hid (B = true) := zz (by rw [HB.o, ← HJ.o, HHD.o, t1, Bool.or_true])
     go_upto_region 4 with fail; obtain ⟨b0, b1⟩ := ps2 HN.o.blk; refine wp_region_past (by kernel_rfl) (by kernel_rfl) ?_
     repeat (go_big_quiet_step ((go_at_call 84; exact past_call_same (HPC.o _ _))))
     refine wpQuiet_past ?_; intro w7 h9; have HN2 := zz (HN.o.kept h9); have HF2 : Hid (Onb b w w7) := zz (HF9.o.next h9); clear h9 b0 b1 HN HF9; go_upto_region 5 with fail; have c1 := HN2.o.blk.cell (j := 1) rfl; go_upto_region 6 with (go_at_call 94; refine (dfail_any HN2.o 5 _ (by decide)).mono ?_; rintro r w4 ⟨rfl, hq, ho⟩; have HQ4 := zz hq; have HF4 : Hid (Onb b w w4) := zz (HF2.o.then ho); clear hq ho); obtain ⟨e4, a4, h4⟩ := HQ4.o; have HN4 := zz h4; clear HQ4 h4 c1; obtain ⟨b0, b1⟩ := ps2 HN4.o.blk; refine wp_region_past (by kernel_rfl) (by kernel_rfl) ?_
     repeat (go_big_quiet_step (fail))
     refine wpQuiet_past ?_; intro w8 h9; have H8 := zz (HN4.o.kept h9); have HF8 : Hid (Onb b w w8) := zz (HF4.o.next h9); clear h9 b0 b1; go_wp2; go_ret; exact ⟨(by rw [HEX.o]; rfl), (by have h9 : Dq base _ b s j v L true n := ⟨_, _, H8.o⟩; rw [HBV.o, Bool.or_true, ← HJ.o]; exact h9), HF8.o⟩
   ·have i1 : ¬ (j : Int) < (s.size : Int) := by omega
    clear HNM; go_wp2; refine wp_region_past (by kernel_rfl) (by kernel_rfl) ?_
    repeat (go_big_quiet_step (fail))
    refine wpQuiet_past ?_; intro w9 h9; have HN := zz (HP.o.kept h9); have HF9 : Hid (Onb b w w9) := zz (HF.o.next h9); clear h9 b0 b1
    by_cases hz : l = 0
    ·have z1 : ((j : Int) == (k : Int)) = true := by simp; omega
     have HBV : Hid (B = true) := zz (by rw [HB.o, decide_eq_true hz]; rfl); go_upto_region 4 with fail; obtain ⟨b0, b1⟩ := ps2 HN.o.blk; refine wp_region_past (by kernel_rfl) (by kernel_rfl) ?_
     repeat (go_big_quiet_step (fail))
     refine wpQuiet_past ?_; intro w7 h9; have HN2 := zz (HN.o.kept h9); have HF2 : Hid (Onb b w w7) := zz (HF9.o.next h9); clear h9 b0 b1 HN HF9; go_upto_region 5 with fail; have c1 := HN2.o.blk.cell (j := 1) rfl; go_upto_region 6 with (go_at_call 94; refine (dfail_any HN2.o 5 _ (by decide)).mono ?_; rintro r w4 ⟨rfl, hq, ho⟩; have HQ4 := zz hq; have HF4 : Hid (Onb b w w4) := zz (HF2.o.then ho); clear hq ho); obtain ⟨e4, a4, h4⟩ := HQ4.o; have HN4 := zz h4; clear HQ4 h4 c1; obtain ⟨b0, b1⟩ := ps2 HN4.o.blk; refine wp_region_past (by kernel_rfl) (by kernel_rfl) ?_
     repeat (go_big_quiet_step (fail))
     refine wpQuiet_past ?_; intro w8 h9; have H8 := zz (HN4.o.kept h9); have HF8 : Hid (Onb b w w8) := zz (HF4.o.next h9); clear h9 b0 b1; go_wp2; go_ret; exact ⟨(by rw [HEX.o]; rfl), (by have h9 : Dq base _ b s j v L true n := ⟨_, _, H8.o⟩; rw [HBV.o, Bool.or_true, ← HJ.o]; exact h9), HF8.o⟩
    have z1 : ((j : Int) == (k : Int)) = false := by simp; omega
    have HBV : Hid (B = false) := zz (by rw [HB.o, decide_eq_false hz, ← HJ.o, hdw_end _ k2 hin]; rfl); go_upto_region 4 with fail; obtain ⟨b0, b1⟩ := ps2 HN.o.blk; refine wp_region_past (by kernel_rfl) (by kernel_rfl) ?_
    repeat (go_big_quiet_step (fail))
    refine wpQuiet_past ?_; intro w7 h9; have HN2 := zz (HN.o.kept h9); have HF2 : Hid (Onb b w w7) := zz (HF9.o.next h9); clear h9 b0 b1 HN HF9; go_upto_region 6 with fail; obtain ⟨b0, b1⟩ := ps2 HN2.o.blk; refine wp_region_past (by kernel_rfl) (by kernel_rfl) ?_
    repeat (go_big_quiet_step (fail))
    refine wpQuiet_past ?_; intro w8 h9; have H8 := zz (HN2.o.kept h9); have HF8 : Hid (Onb b w w8) := zz (HF2.o.next h9); clear h9 b0 b1; go_wp2; go_ret; exact ⟨(by rw [HEX.o]; rfl), (by have h9 : Dq base _ b s j v L bd n := ⟨_, _, H8.o⟩; rw [HBV.o, Bool.or_false, ← HJ.o]; exact h9), HF8.o⟩
def digX (l : List UInt8) : Int := if l.all dgt then digV (l.take 12) else 0
def digK (l : List UInt8) : Bool := l.all dgt && (decide (1 ≤ l.length) && decide (l.length ≤ 12))
theorem take_min {l : List UInt8} {k : Nat} (hk : k < l.length) (h : k < 12) : digV (l.take (min (k + 1) 12)) = 10 * digV (l.take (min k 12)) + ((l[k].toNat : Int) - 48) := by
 rw [Nat.min_eq_left (by omega), Nat.min_eq_left (by omega), List.take_succ_eq_append_getElem hk, digV_snoc]
theorem take_min' {l : List UInt8} {k : Nat} (h : ¬ k < 12) : l.take (min (k + 1) 12) = l.take (min k 12) := by
 rw [Nat.min_eq_right (by omega), Nat.min_eq_right (by omega)]
theorem ddig_any (l : List UInt8) (w : World) (hs : l.length ≤ 140737488351232) : Calls Tryz.prog 104 #[.string (bs l)] w fun e w' => e = .returned (.tuple #[.int .i64 (digX l), .bool (digK l)]) ∧ w = w' := by
 obtain ⟨s, hs0⟩ : ∃ s, s = bs l := ⟨_, rfl⟩; have hsz : s.size = l.length := by rw [hs0]; simp [bs, ByteArray.size]
 have HG : Hid (∀ k (h1 : k < s.size) (h2 : k < l.length), s[k] = l[k]) := zz (fun k h1 h2 => by subst hs0; rfl); rw [← hs0]; have HSZ := zz hsz; clear hs0 hsz; obtain ⟨X, hX⟩ : ∃ X, X = digX l := ⟨_, rfl⟩; obtain ⟨K, hK⟩ : ∃ K, K = digK l := ⟨_, rfl⟩; rw [← hX, ← hK]; have HX := zz hX; have HK := zz hK; clear hX hK; go_enter Tryz.func104, Tryz.ntmps104; go_wp2
 go_loopw [4, 5] (fun x i wr => wr = w ∧ ∃ k : Nat, k ≤ l.length ∧ i = .int .i64 (k : Int) ∧ x = .int .i64 (digV (l.take (min k 12))) ∧ Hid ((l.take k).all dgt = true)) (fun _ i _ => l.length - (intOf i).toNat)
 case atStart => exact ⟨rfl, 0, Nat.zero_le _, rfl, rfl, by simp [Hid]⟩
 case round =>
  obtain ⟨rfl, k, hk, rfl, rfl, HD⟩ := hrel; have nb := digV_le (s := l.take (min k 12)) (fun c hc => List.all_eq_true.1 HD.o c (List.mem_of_mem_take (i := 12) (by rw [List.take_take, Nat.min_comm]; exact hc))) (by rw [List.length_take]; omega); obtain ⟨n1, n2⟩ := nb
  by_cases hlt : k < l.length
  ·have i1 : (k : Int) < (s.size : Int) := by have := HSZ.o; omega
   have i2 : k < s.size := by have := HSZ.o; omega
   have i3 : (0 : Int) ≤ (k : Int) := by omega
   obtain ⟨c, hc⟩ : ∃ c, c = s[k] := ⟨_, rfl⟩; have HCC : Hid (c = l[k]) := zz (by rw [hc]; exact HG.o k i2 hlt); have hcc : s[k] = c := hc.symm; have cb := c.toNat_lt; clear hc
   by_cases hd1 : c.toNat < 48
   ·have hbd : l.all dgt = false := all_not hlt (by rw [← HCC.o]; unfold dgt; simp; omega)
    have HX2 : Hid (X = 0) := zz (by rw [HX.o]; unfold digX; rw [hbd]; rfl); have HK2 : Hid (K = false) := zz (by rw [HK.o]; unfold digK; rw [hbd]; rfl); clear hbd; have d1 : decide ((c.toNat : Int) < 48) = true := by simp; omega
    go_wp2; go_ret2; exact ⟨by rw [HX2.o, HK2.o]; rfl, rfl⟩
   by_cases hd2 : 57 < c.toNat
   ·have hbd : l.all dgt = false := all_not hlt (by rw [← HCC.o]; unfold dgt; simp; omega)
    have HX2 : Hid (X = 0) := zz (by rw [HX.o]; unfold digX; rw [hbd]; rfl); have HK2 : Hid (K = false) := zz (by rw [HK.o]; unfold digK; rw [hbd]; rfl); clear hbd; have d1 : decide ((c.toNat : Int) < 48) = false := by simp; omega
    have d2 : decide ((57 : Int) < (c.toNat : Int)) = true := by simp; omega
    go_wp2; go_ret2; exact ⟨by rw [HX2.o, HK2.o]; rfl, rfl⟩
   have HD2 : Hid ((l.take (k + 1)).all dgt = true) := zz (by rw [List.take_succ_eq_append_getElem hlt, List.all_append, HD.o, ← HCC.o]; unfold dgt; simp; omega); have d1 : decide ((c.toNat : Int) < 48) = false := by simp; omega
   have d2 : decide ((57 : Int) < (c.toNat : Int)) = false := by simp; omega
   have v1 : (48 : Int) ≤ (c.toNat : Int) := by omega
   have v2 : (c.toNat : Int) ≤ 57 := by omega
   have w1 : IntKind.u8.wrap ((c.toNat : Int) - 48) = (c.toNat : Int) - 48 := by rw [IntKind.wrap_u8]; omega
   by_cases h12 : k < 12
   ·have HS : Hid (digV (l.take (min (k + 1) 12)) = 10 * digV (l.take (min k 12)) + ((c.toNat : Int) - 48)) := zz (by rw [take_min hlt h12, HCC.o])
    obtain ⟨m, hm⟩ : ∃ m, m = digV (l.take (min k 12)) := ⟨_, rfl⟩; rw [← hm] at HS n1 n2; rw [← hm]; clear hm; have y1 : IntKind.i64.wrap (m * 10) = m * 10 := by rw [IntKind.wrap_i64]; omega
    have y2 : IntKind.i64.wrap (m * 10 + ((c.toNat : Int) - 48)) = m * 10 + ((c.toNat : Int) - 48) := by rw [IntKind.wrap_i64]; omega
    have e12 : decide ((k : Int) < 12) = true := by simp; omega
    go_wp2; go_roundw
    case rel => exact ⟨(by first | rfl | trivial), k + 1, hlt, by go_num, by rw [HS.o]; congr 1; omega, HD2⟩
    case measure => simp [intOf]; omega
   ·have HS : Hid (l.take (min (k + 1) 12) = l.take (min k 12)) := zz (take_min' h12)
    have e12 : decide ((k : Int) < 12) = false := by simp; omega
    go_wp2; go_roundw
    case rel => exact ⟨(by first | rfl | trivial), k + 1, hlt, by go_num, by rw [HS.o], HD2⟩
    case measure => simp [intOf]; omega
  ·obtain rfl : k = l.length := by omega
   have i1 : ¬ ((l.length : Int) < (s.size : Int)) := by have := HSZ.o; omega
   have hall : l.all dgt = true := by have := HD.o; rwa [List.take_length] at this
   have HX2 : Hid (X = digV (l.take (min l.length 12))) := zz (by rw [HX.o]; unfold digX; rw [hall, if_pos rfl]; congr 1; rw [Nat.min_comm, ← List.take_take, List.take_length]); have HK2 : Hid (K = (decide (1 ≤ l.length) && decide (l.length ≤ 12))) := zz (by rw [HK.o]; unfold digK; rw [hall, Bool.true_and]); clear hall
   by_cases g1 : 1 ≤ l.length
   ·have e1 : decide ((1 : Int) ≤ (s.size : Int)) = true := by have := HSZ.o; simp; omega
    by_cases g2 : l.length ≤ 12
    ·have e2 : decide ((s.size : Int) ≤ 12) = true := by have := HSZ.o; simp; omega
     have HK3 : Hid (K = true) := zz (by rw [HK2.o, decide_eq_true g1, decide_eq_true g2]; rfl); go_wp2; go_ret2; exact ⟨by first | (rw [HX2.o, HK3.o]; rfl) | (rw [HX2.o, HK3.o, Nat.min_eq_left g2, List.take_length]; rfl), rfl⟩
    ·have e2 : decide ((s.size : Int) ≤ 12) = false := by have := HSZ.o; simp; omega
     have HK3 : Hid (K = false) := zz (by rw [HK2.o, decide_eq_false g2, Bool.and_false]); go_wp2; go_ret2; exact ⟨by first | (rw [HX2.o, HK3.o]; rfl) | (rw [HX2.o, HK3.o, Nat.min_eq_left g2, List.take_length]; rfl), rfl⟩
   ·have e1 : decide ((1 : Int) ≤ (s.size : Int)) = false := by have := HSZ.o; simp; omega
    have HK3 : Hid (K = false) := zz (by rw [HK2.o, decide_eq_false g1]; rfl); go_wp2; go_ret2; exact ⟨by first | (rw [HX2.o, HK3.o]; rfl) | (rw [HX2.o, HK3.o, Nat.min_eq_left g2, List.take_length]; rfl), rfl⟩
def lenB (m : Nat) (l : List UInt8) : Bool := decide (l.length = 0) || decide (m < l.length)
theorem dvalue_any {base b : Nat} {s : ByteArray} {k : Nat} {n : Int} {v : Value} {L : List Nd} {bd : Bool} {e a : Int} {w : World} (h : Dp base w b s k v L bd e a n) (hk : k ≤ s.size) : Calls Tryz.prog 150 #[ptr b] w fun r w' => r = .returned (.string (bs (runW (blk (rest s k))))) ∧ Dq base w' b s (skip s k + (runW (blk (rest s k))).length) v L (bd || lenB 32 (runW (blk (rest s k)))) n ∧ Onb b w w' := by
 have HBL := zz (dblanks_any base b s k n v L bd e a w h hk); obtain ⟨-, hj2, hj3, -, -⟩ := skip_is hk; obtain ⟨j, hj⟩ : ∃ j, j = skip s k := ⟨_, rfl⟩; rw [hj3]; rw [← hj] at hj2 HBL ⊢; have HJK := zz hj2; have hsz := h.sz; obtain ⟨t, ht⟩ : ∃ t, t = runW (rest s j) := ⟨_, rfl⟩; obtain ⟨l, hl⟩ : ∃ l, l = t.length := ⟨_, rfl⟩; have HT : Hid (runW (rest s j) = t) := zz ht.symm; have HTL : Hid (t.length = l) := zz hl.symm; rw [← ht]; have htl : j + l ≤ s.size := by rw [hl, ht]; exact (runW_spec hj2).1
 have htz : ((bs t).size : Int) = (l : Int) := by rw [hl]; simp [bs, ByteArray.size]
 clear h hk hj hj3 hl ht; go_enter Tryz.func150, Tryz.ntmps150; go_upto_region 2 with (go_at_call 113; refine HBL.o.mono ?_; rintro r w2 ⟨rfl, hq, ho⟩; have H2 := zz hq; have HO2 := zz ho; clear hq ho); have c1 := H2.o.blk.cell (j := 1) rfl; go_upto_region 4 with (go_at_call 156; refine (drun_any H2.o HJK.o).mono ?_; rw [HT.o, HTL.o]; rintro r w3 ⟨rfl, hq, ho⟩; have H3 := zz hq; have HO3 : Hid (Onb b w w3) := zz (HO2.o.then ho); clear hq ho); clear c1 HBL H2 HO2
 by_cases g1 : l = 0
 ·have e1 : ((l : Int) == 0) = true := by simp; omega
  have e2 : decide ((32 : Int) < (l : Int)) = false := by simp; omega
  have HB : Hid (lenB 32 t = true) := zz (by unfold lenB; rw [HTL.o, decide_eq_true g1]; rfl); go_wp2_with (go_at_call 94; refine (dfail_any H3.o 5 _ (by decide)).mono ?_; rintro r w4 ⟨rfl, hq, ho⟩; have HQ4 := zz hq; have HO4 : Hid (Onb b w w4) := zz (HO3.o.then ho); clear hq ho); go_ret; exact ⟨rfl, (by have h9 := HQ4.o; rw [HTL.o, HB.o, Bool.or_true]; exact h9), HO4.o⟩
 have e1 : ((l : Int) == 0) = false := by simp; omega
 by_cases g2 : 32 < l
 ·have e2 : decide ((32 : Int) < (l : Int)) = true := by simp; omega
  have HB : Hid (lenB 32 t = true) := zz (by unfold lenB; rw [HTL.o, decide_eq_true g2, Bool.or_true]); go_wp2_with (go_at_call 94; refine (dfail_any H3.o 5 _ (by decide)).mono ?_; rintro r w4 ⟨rfl, hq, ho⟩; have HQ4 := zz hq; have HO4 : Hid (Onb b w w4) := zz (HO3.o.then ho); clear hq ho); go_ret; exact ⟨rfl, (by have h9 := HQ4.o; rw [HTL.o, HB.o, Bool.or_true]; exact h9), HO4.o⟩
 have e2 : decide ((32 : Int) < (l : Int)) = false := by simp; omega
 have HB : Hid (lenB 32 t = false) := zz (by unfold lenB; rw [HTL.o, decide_eq_false g1, decide_eq_false g2]; rfl); go_wp2; go_ret; exact ⟨rfl, (by have h9 : Dq base w3 b s (j + l) v L bd n := ⟨_, _, H3.o⟩; rw [HTL.o, HB.o, Bool.or_false]; exact h9), HO3.o⟩
def numB (l : List UInt8) : Bool := !(digK l)
theorem dnumber_any {base b : Nat} {s : ByteArray} {k : Nat} {n : Int} {v : Value} {L : List Nd} {bd : Bool} {e a : Int} {w : World} (h : Dp base w b s k v L bd e a n) (hk : k ≤ s.size) : Calls Tryz.prog 151 #[ptr b] w fun r w' => (∃ x : Int, r = .returned (.int .i64 x) ∧ (numB (runW (blk (rest s k))) = false → x = digV (runW (blk (rest s k))))) ∧ Dq base w' b s (skip s k + (runW (blk (rest s k))).length) v L (bd || numB (runW (blk (rest s k)))) n ∧ Onb b w w' := by
 have HBL := zz (dblanks_any base b s k n v L bd e a w h hk); obtain ⟨-, hj2, hj3, -, -⟩ := skip_is hk; obtain ⟨j, hj⟩ : ∃ j, j = skip s k := ⟨_, rfl⟩; rw [hj3]; rw [← hj] at hj2 HBL ⊢; have HJK := zz hj2; have hsz := h.sz; obtain ⟨t, ht⟩ : ∃ t, t = runW (rest s j) := ⟨_, rfl⟩; obtain ⟨l, hl⟩ : ∃ l, l = t.length := ⟨_, rfl⟩; have HT : Hid (runW (rest s j) = t) := zz ht.symm; have HTL : Hid (t.length = l) := zz hl.symm; rw [← ht]; have htl : j + l ≤ s.size := by rw [hl, ht]; exact (runW_spec hj2).1
 have htz : ((bs t).size : Int) = (l : Int) := by rw [hl]; simp [bs, ByteArray.size]
 clear h hk hj hj3 hl ht; have HDG : Hid (∀ w, Calls Tryz.prog 104 #[.string (bs t)] w fun e w' => e = .returned (.tuple #[.int .i64 (digX t), .bool (digK t)]) ∧ w = w') := zz (fun w => ddig_any t w (by have := HTL.o; omega)); obtain ⟨X, hX⟩ : ∃ X, X = digX t := ⟨_, rfl⟩; obtain ⟨B, hB⟩ : ∃ B, B = digK t := ⟨_, rfl⟩; rw [← hX, ← hB] at HDG; have HX := zz hX; have HB := zz hB; clear hX hB; obtain ⟨tb, htb⟩ : ∃ tb, tb = bs t := ⟨_, rfl⟩; have HTB : Hid (bs t = tb) := zz htb.symm; have HG : Hid (∀ i (h1 : i < tb.size) (h2 : i < t.length), tb[i] = t[i]) := zz (fun i h1 h2 => by subst htb; rfl); rw [← htb] at HDG htz; clear htb; go_enter Tryz.func151, Tryz.ntmps151; go_upto_region 2 with (go_at_call 113; refine HBL.o.mono ?_; rintro r w2 ⟨rfl, hq, ho⟩; have H2 := zz hq; have HO2 := zz ho; clear hq ho); have c1 := H2.o.blk.cell (j := 1) rfl; go_upto_region 5 with (go_at_call 156; refine (drun_any H2.o HJK.o).mono ?_; rw [HT.o, HTL.o, HTB.o]; rintro r w3 ⟨rfl, hq, ho⟩; have H3 := zz hq; have HO3 : Hid (Onb b w w3) := zz (HO2.o.then ho); clear hq ho)
 clear c1 HBL H2 HO2
 go_loopw [5] (fun i wr => wr = w3 ∧ ∃ k : Nat, k ≤ l ∧ k ≤ 12 ∧ i = .int .i64 (k : Int) ∧ Hid ((t.take k).all dgt = true)) (fun i _ => l - (intOf i).toNat)
 case atStart => exact ⟨rfl, 0, Nat.zero_le _, Nat.zero_le _, rfl, by simp [Hid]⟩
 case round =>
  obtain ⟨rfl, i, hi, hi12, rfl, HD⟩ := hrel
  by_cases hlt : i < l
  ·have i2 : i < tb.size := by omega
   have i1 : (i : Int) < (l : Int) := by omega
   have i3 : (0 : Int) ≤ (i : Int) := by omega
   have i4 : i < t.length := by have := HTL.o; omega
   obtain ⟨c, hc⟩ : ∃ c, c = tb[i] := ⟨_, rfl⟩; have HCC : Hid (c = t[i]) := zz (by rw [hc]; exact HG.o i i2 i4); have HI4 := zz i4; have hcc : tb[i] = c := hc.symm; have cb := c.toNat_lt; have u1 : IntKind.i64.wrap ((j : Int) + (i : Int)) = (j : Int) + (i : Int) := by rw [IntKind.wrap_i64]; omega
   clear hc
   by_cases hd1 : c.toNat < 48
   ·have HNB : Hid (numB t = true) := zz (by unfold numB digK; rw [all_not HI4.o (by rw [← HCC.o]; unfold dgt; simp; omega)]; rfl)
    have d1 : decide ((c.toNat : Int) < 48) = true := by simp; omega
    go_wp2_with (go_at_call 94; refine (dfail_any H3.o 5 _ (by decide)).mono ?_; rintro r w4 ⟨rfl, hq, ho⟩; have HQ4 := zz hq; have HO4 : Hid (Onb b w w4) := zz (HO3.o.then ho); clear hq ho); go_ret; exact ⟨⟨_, rfl, fun h9 => by rw [HNB.o] at h9; cases h9⟩, (by have h9 := HQ4.o; rw [HTL.o, HNB.o, Bool.or_true]; exact h9), HO4.o⟩
   by_cases hd2 : 57 < c.toNat
   ·have HNB : Hid (numB t = true) := zz (by unfold numB digK; rw [all_not HI4.o (by rw [← HCC.o]; unfold dgt; simp; omega)]; rfl)
    have d1 : decide ((c.toNat : Int) < 48) = false := by simp; omega
    have d2 : decide ((57 : Int) < (c.toNat : Int)) = true := by simp; omega
    go_wp2_with (go_at_call 94; refine (dfail_any H3.o 5 _ (by decide)).mono ?_; rintro r w4 ⟨rfl, hq, ho⟩; have HQ4 := zz hq; have HO4 : Hid (Onb b w w4) := zz (HO3.o.then ho); clear hq ho); go_ret; exact ⟨⟨_, rfl, fun h9 => by rw [HNB.o] at h9; cases h9⟩, (by have h9 := HQ4.o; rw [HTL.o, HNB.o, Bool.or_true]; exact h9), HO4.o⟩
   have HD2 : Hid ((t.take (i + 1)).all dgt = true) := zz (by rw [List.take_succ_eq_append_getElem HI4.o, List.all_append, HD.o, ← HCC.o]; unfold dgt; simp; omega); have d1 : decide ((c.toNat : Int) < 48) = false := by simp; omega
   have d2 : decide ((57 : Int) < (c.toNat : Int)) = false := by simp; omega
   by_cases h12 : 12 ≤ i
   ·have HNB : Hid (numB t = true) := zz (by unfold numB digK; rw [decide_eq_false (p := t.length ≤ 12) (by have := HI4.o; omega)]; simp)
    have e12 : decide ((12 : Int) ≤ (i : Int)) = true := by simp; omega
    go_wp2_with (go_at_call 94; refine (dfail_any H3.o 5 _ (by decide)).mono ?_; rintro r w4 ⟨rfl, hq, ho⟩; have HQ4 := zz hq; have HO4 : Hid (Onb b w w4) := zz (HO3.o.then ho); clear hq ho); go_ret; exact ⟨⟨_, rfl, fun h9 => by rw [HNB.o] at h9; cases h9⟩, (by have h9 := HQ4.o; rw [HTL.o, HNB.o, Bool.or_true]; exact h9), HO4.o⟩
   have e12 : decide ((12 : Int) ≤ (i : Int)) = false := by simp; omega
   go_wp2; go_roundw
   case rel => exact ⟨(by first | rfl | trivial), i + 1, hlt, by omega, by go_num, HD2⟩
   case measure => simp [intOf]; omega
  ·obtain rfl : l = i := by omega
   have i1 : ¬ ((l : Int) < (l : Int)) := by omega
   have hall : t.all dgt = true := by have := HD.o; rw [← HTL.o, List.take_length] at this; exact this
   have hk0 : digK t = decide (1 ≤ l) := by unfold digK; rw [hall, HTL.o, decide_eq_true (p := l ≤ 12) hi12]; simp
   have HXV : Hid (X = digV t) := zz (by rw [HX.o]; unfold digX; rw [hall, if_pos rfl, List.take_of_length_le (by have := HTL.o; omega)]); clear hall
   by_cases g1 : l = 0
   ·have e1 : ((l : Int) == 0) = true := by simp; omega
    have HNB : Hid (numB t = true) := zz (by unfold numB; rw [hk0, decide_eq_false (by omega)]; rfl); clear hk0; go_wp2_with (first | (go_at_call 94; refine (dfail_any H3.o 5 _ (by decide)).mono ?_; rintro r w4 ⟨rfl, hq, ho⟩; have HQ4 := zz hq; have HO4 : Hid (Onb b w w4) := zz (HO3.o.then ho); clear hq ho) | (go_at_call 104; refine (HDG.o _).mono ?_; rintro e9 w9 ⟨rfl, rfl⟩)); go_ret; exact ⟨⟨_, rfl, fun h9 => by rw [HNB.o] at h9; cases h9⟩, (by have h9 := HQ4.o; rw [HTL.o, HNB.o, Bool.or_true]; exact h9), HO4.o⟩
   ·have e1 : ((l : Int) == 0) = false := by simp; omega
    have HNB : Hid (numB t = false) := zz (by unfold numB; rw [hk0, decide_eq_true (by omega)]; rfl); clear hk0; go_wp2_with (go_at_call 104; refine (HDG.o _).mono ?_; rintro e9 w9 ⟨rfl, rfl⟩); go_ret; exact ⟨⟨_, rfl, fun _ => HXV.o⟩, (by have h9 : Dq base wr b s (j + l) v L bd n := ⟨_, _, H3.o⟩; rw [HTL.o, HNB.o, Bool.or_false]; exact h9), HO3.o⟩
def DodS (base : Nat) (w w' : World) (b : Nat) (s : ByteArray) (k : Nat) (e a n : Int) (v : Value) (L : List Nd) : Prop :=
 ∃ v', Dp base w' b s k v' L false e a n ∧ Frp (fun j => j = b ∨ v.ownBlock = some j) w w'
theorem DodS.below {base : Nat} {w w' : World} {b : Nat} {s : ByteArray} {k : Nat} {n e a : Int} {v : Value} {L L0 : List Nd} {bd : Bool} (h : DodS base w w' b s k e a n v L) (h0 : Dp base w b s k v L0 bd e a n) (hb : base ≤ w.heap.size) : Below base w w' := by
 obtain ⟨v', h6, h7⟩ := h; exact h7.below (fun q hq => by rcases hq with rfl | hq; exact h0.hb; exact own_lo h0.own hq) hb
theorem dadd_bad {base b : Nat} {s : ByteArray} {k : Nat} {n : Int} {v : Value} {L : List Nd} {e a : Int} {w : World} (h : Dp base w b s k v L true e a n) (x : Nd) :
  Calls Tryz.prog 112 #[ptr b, ndV x] w fun r w' => (∃ j : Int, r = .returned (.int .i64 j)) ∧ Dp base w' b s k v L true e a n ∧ Onb b w w' := by
 obtain ⟨w1, hw1⟩ : ∃ w1, w1 = w.alloc (.cells #[.int .i64 x.k, .string (bs x.nm), .string (bs x.vl), .int .i64 x.x, .int .i64 x.a, .int .i64 x.b] 69) := ⟨_, rfl⟩; obtain ⟨B, hB⟩ : ∃ B, B = w.heap.size := ⟨_, rfl⟩; have hbl : Below w.heap.size w w1 := by rw [hw1]; exact below_alloc w _
 have H1 := zz (h.kept hbl); have HO1 : Hid (Onb b w w1) := zz (Frp.of_below hbl _); have c5 := H1.o.blk.cell (j := 5) rfl; have c2 := H1.o.blk.cell (j := 2) rfl; obtain ⟨p4, q4, hv4, -, hm4⟩ := own_slice H1.o.own; have hl2 : (L.length : Int) ≤ 1000 := by have := H1.o.ln; omega
 rw [hv4] at H1 c2 ⊢; have u1 : IntKind.i64.wrap ((L.length : Int) - 1) = (L.length : Int) - 1 := by rw [IntKind.wrap_i64]; omega
 clear h hbl hv4; go_enter Tryz.func112, Tryz.ntmps112; go_upto_region 1 with fail; rw [← hw1, ← hB]; clear hw1 hB; go_wp2; go_ret; exact ⟨⟨_, rfl⟩, H1.o, HO1.o⟩
theorem dadd_ok {base b : Nat} {s : ByteArray} {k : Nat} {n : Int} {v : Value} {L : List Nd} {e a : Int} {w : World} (h : Dp base w b s k v L false e a n) (x : Nd) (hl : L.length < 1000) (hbase : base ≤ w.heap.size) :
  Calls Tryz.prog 112 #[ptr b, ndV x] w fun r w' => r = .returned (.int .i64 (L.length : Int)) ∧ DodS base w w' b s k e a n v (L ++ [x]) := by
 obtain ⟨ix, hi, hz0, hz1, hz2⟩ := info_parts info_nd; obtain ⟨w1, hw1⟩ : ∃ w1, w1 = w.alloc (.cells #[.int .i64 x.k, .string (bs x.nm), .string (bs x.vl), .int .i64 x.x, .int .i64 x.a, .int .i64 x.b] 69) := ⟨_, rfl⟩; obtain ⟨B, hB⟩ : ∃ B, B = w.heap.size := ⟨_, rfl⟩; have hbl : Below w.heap.size w w1 := by rw [hw1]; exact below_alloc w _
 have X1 : Hid (Blk w1 B (ndC x) 69) := zz (by rw [hw1, hB]; exact Blk.made w (ndC x) _); have H1 := zz (h.kept hbl); have HBL := zz hbl; have HVB : Hid (∀ q, v.ownBlock = some q → q < B) := zz (fun q hq => by rw [hB]; exact own_hi h.own hq); have HB0 : Hid (b < B) := zz (by rw [hB]; exact h.blk.lt); have HBW : Hid (B = w.heap.size) := zz hB; have HBS := zz hbase; have HL := zz hl; have c5 := H1.o.blk.cell (j := 5) rfl; have HSS : Hid (∀ w', Below w1.heap.size w1 w' → w'.cell? ⟨b, 2, none⟩ = some v ∧ w'.cell? ⟨B, 0, none⟩ = some (.int .i64 x.k) ∧ w'.cell? ⟨B, 1, none⟩ = some (.string (bs x.nm)) ∧ w'.cell? ⟨B, 2, none⟩ = some (.string (bs x.vl)) ∧ w'.cell? ⟨B, 3, none⟩ = some (.int .i64 x.x) ∧ w'.cell? ⟨B, 4, none⟩ = some (.int .i64 x.a) ∧ w'.cell? ⟨B, 5, none⟩ = some (.int .i64 x.b)) := zz (fun w' hb => ⟨(H1.o.kept hb).blk.cell (j := 2) rfl, (X1.o.kept hb).cell (j := 0) rfl, (X1.o.kept hb).cell (j := 1) rfl, (X1.o.kept hb).cell (j := 2) rfl, (X1.o.kept hb).cell (j := 3) rfl, (X1.o.kept hb).cell (j := 4) rfl, (X1.o.kept hb).cell (j := 5) rfl⟩); clear h hbl hl hbase; go_enter Tryz.func112, Tryz.ntmps112
 go_upto_region 1 with fail; rw [← hw1, ← hB]; clear hw1 hB; go_upto_region 2 with fail; clear c5; refine wp_region_noPanic ?_; refine wp_region_lastH (fun w' => w'.cell? ⟨b, 2, none⟩ = some v ∧ w'.cell? ⟨B, 0, none⟩ = some (.int .i64 x.k) ∧ w'.cell? ⟨B, 1, none⟩ = some (.string (bs x.nm)) ∧ w'.cell? ⟨B, 2, none⟩ = some (.string (bs x.vl)) ∧ w'.cell? ⟨B, 3, none⟩ = some (.int .i64 x.x) ∧ w'.cell? ⟨B, 4, none⟩ = some (.int .i64 x.a) ∧ w'.cell? ⟨B, 5, none⟩ = some (.int .i64 x.b)) 10 rfl rfl (by kernel_rfl) (by kernel_rfl) (HSS.o _ (below_drewN 1)) (fun hHeld => ?_); have HB2 : Hid (Below w1.heap.size w1 w1.drew) := zz (below_drewN 1); obtain ⟨w2, hw2⟩ : ∃ xq, xq = w1.drew := ⟨_, rfl⟩; rw [← hw2] at hHeld HB2 ⊢; clear hw2; refine wpAnyH_take (i := 0) (v := ?v1) rfl (by kernel_rfl) (by kernel_rfl) (by kernel_rfl) (fun _ _ _ h => h) (Or.inl ⟨by rfl, ?hy1⟩) (by assumption) ?rest1
 case hy1 => (intro _ hSw; (try dsimp only at hSw); go_simp; (try with_reducible rfl))
 (try simp only [Act.put]); (try simp only [List.setIfInBounds_toArray]); (try simp only [List.set_cons_succ]); (try simp only [List.set_cons_zero])
 refine wpAnyH_take (i := 1) (v := ?v2) rfl (by kernel_rfl) (by kernel_rfl) (by kernel_rfl) (fun _ _ _ h => h) (Or.inl ⟨by rfl, ?hy2⟩) (by assumption) ?rest2
 case hy2 => (intro _ hSw; (try dsimp only at hSw); go_simp; (try with_reducible rfl))
 (try simp only [Act.put]); (try simp only [List.setIfInBounds_toArray]); (try simp only [List.set_cons_succ]); (try simp only [List.set_cons_zero])
 refine wpAnyH_take (i := 2) (v := ?v3) rfl (by kernel_rfl) (by kernel_rfl) (by kernel_rfl) (fun _ _ _ h => h) (Or.inl ⟨by rfl, ?hy3⟩) (by assumption) ?rest3
 case hy3 => (intro _ hSw; (try dsimp only at hSw); go_simp; (try with_reducible rfl))
 (try simp only [Act.put]); (try simp only [List.setIfInBounds_toArray]); (try simp only [List.set_cons_succ]); (try simp only [List.set_cons_zero])
 refine wpAnyH_take (i := 3) (v := ?v4) rfl (by kernel_rfl) (by kernel_rfl) (by kernel_rfl) (fun _ _ _ h => h) (Or.inl ⟨by rfl, ?hy4⟩) (by assumption) ?rest4
 case hy4 => (intro _ hSw; (try dsimp only at hSw); go_simp; (try with_reducible rfl))
 (try simp only [Act.put]); (try simp only [List.setIfInBounds_toArray]); (try simp only [List.set_cons_succ]); (try simp only [List.set_cons_zero])
 refine wpAnyH_take (i := 4) (v := ?v5) rfl (by kernel_rfl) (by kernel_rfl) (by kernel_rfl) (fun _ _ _ h => h) (Or.inl ⟨by rfl, ?hy5⟩) (by assumption) ?rest5
 case hy5 => (intro _ hSw; (try dsimp only at hSw); go_simp; (try with_reducible rfl))
 (try simp only [Act.put]); (try simp only [List.setIfInBounds_toArray]); (try simp only [List.set_cons_succ]); (try simp only [List.set_cons_zero])
 refine wpAnyH_take (i := 5) (v := ?v6) rfl (by kernel_rfl) (by kernel_rfl) (by kernel_rfl) (fun _ _ _ h => h) (Or.inl ⟨by rfl, ?hy6⟩) (by assumption) ?rest6
 case hy6 => (intro _ hSw; (try dsimp only at hSw); go_simp; (try with_reducible rfl))
 (try simp only [Act.put]); (try simp only [List.setIfInBounds_toArray]); (try simp only [List.set_cons_succ]); (try simp only [List.set_cons_zero])
 (try simp only [List.getElem_toArray]); (try simp only [List.getElem_cons_succ]); (try simp only [List.getElem_cons_zero]); (try simp only [List.setIfInBounds_toArray]); (try simp only [List.set_cons_succ, List.set_cons_zero])
 refine wpAnyH_ready (rs := [6]) (by kernel_rfl) (by simp) ?_; refine (AllReadyH.cons rfl (fun K hK => ?_) AllReadyH.nil)
 (try simp only [List.getElem_toArray]); (try simp only [List.getElem_cons_succ]); (try simp only [List.getElem_cons_zero])
 go_simp; obtain ⟨w3, hw3⟩ : ∃ xq, xq = w2.alloc (.cells #[.int .i64 x.k, .string (bs x.nm), .string (bs x.vl), .int .i64 x.x, .int .i64 x.a, .int .i64 x.b] 69) := ⟨_, rfl⟩; obtain ⟨z3, hz3⟩ : ∃ xq, xq = w2.heap.size := ⟨_, rfl⟩; have hb3 : Below w1.heap.size w1 w3 := by rw [hw3]; exact below_and HB2.o (below_alloc _ _)
 have HY3 : Hid (Blk w3 z3 (ndC x) 69) := zz (by rw [hw3, hz3]; exact Blk.made w2 (ndC x) _); have HB3 := zz hb3; rw [← hw3, ← hz3]; refine hK.out _ _ (HSS.o _ hb3) (fun hS3 => ?_); clear hK K hb3 hw3 hz3
 (try simp only [Act.put]); (try simp only [List.setIfInBounds_toArray]); (try simp only [List.set_cons_succ]); (try simp only [List.set_cons_zero])
 have HO3 := zz (H1.o.kept HB3.o).own; have HW3 : Hid (base ≤ w3.heap.size) := zz (by have h1 := HBS.o; have h2 := HBL.o.size; have h3 := HB3.o.size; omega); refine wpAnyH_ready (rs := [7]) (by kernel_rfl) (by simp) ?_; refine (AllReadyH.cons rfl (fun K hK => ?_) AllReadyH.nil); refine step_app rfl (.tmp 14) (.tmp 16) 24 24 rfl base 69 ix (.agg #[.int .i64 0, .string ⟨#[]⟩, .string ⟨#[]⟩, .int .i64 0, .int .i64 0, .int .i64 0]) 6 64 Tryz.underlying24 hi hz0 hz1 hz2 rfl v L.length (rwC ndC L) (by rfl) HO3.o (.slice (some ⟨z3, 0, none⟩) 1 1) 1 (ndC x) (by rfl) (src_block Tryz.underlying24 _ z3 (ndC x).toArray HY3.o rfl (ndC_one x)) (by have := HL.o; unfold maxLen; omega) (by have := HL.o; omega) HW3.o ?_; intro v4 w4 ho4 hg4 hn4 hk4; have HO4 : Hid (w4.ownsRow base 69 6 v4 (L ++ [x]).length (rwC ndC (L ++ [x]))) := zz (by rw [rwC_snoc, List.length_append]; exact ho4); have HF4 : Hid (Frp (fun j => v.ownBlock = some j) w1 w4) := zz ((Frp.of_below HB3.o _).grown hg4 (fun q hq => .inl hq)); have HP4 : Hid (Blk w4 b [.string s, .int .i64 (k : Int), v, .int .i64 e, .int .i64 a, .bool false, .int .i64 n] 123) := zz (H1.o.blk.frp HF4.o H1.o.nb)
 have HX4 : Hid (Blk w4 B (ndC x) 69) := zz (X1.o.frp HF4.o (fun hq => by have := HVB.o _ hq; omega)); refine hK.out _ _ ⟨HP4.o.cell (j := 2) rfl, HX4.o.cell (j := 0) rfl, HX4.o.cell (j := 1) rfl, HX4.o.cell (j := 2) rfl, HX4.o.cell (j := 3) rfl, HX4.o.cell (j := 4) rfl, HX4.o.cell (j := 5) rfl⟩ (fun hS4 => ?_); clear hK K ho4 hg4 hn4 hk4
 (try simp only [Act.put]); (try simp only [List.setIfInBounds_toArray]); (try simp only [List.set_cons_succ]); (try simp only [List.set_cons_zero])
 refine wpAnyH_take (i := 8) (v := ?v7) rfl (by kernel_rfl) (by kernel_rfl) (by kernel_rfl) (fun _ _ _ h => h) (Or.inl ⟨by rfl, ?hy7⟩) (by assumption) ?rest7
 case hy7 => (intro _ hSw; (try dsimp only at hSw); go_simp; (try with_reducible rfl))
 (try simp only [Act.put]); (try simp only [List.setIfInBounds_toArray]); (try simp only [List.set_cons_succ]); (try simp only [List.set_cons_zero])
 refine wpAnyH_take (i := 9) (v := ?v8) rfl (by kernel_rfl) (by kernel_rfl) (by kernel_rfl) (fun _ _ _ h => h) (Or.inl ⟨by rfl, ?hy8⟩) (by assumption) ?rest8
 case hy8 => (intro _ hSw; (try dsimp only at hSw); go_simp; (try with_reducible rfl))
 (try simp only [Act.put]); (try simp only [List.setIfInBounds_toArray]); (try simp only [List.set_cons_succ]); (try simp only [List.set_cons_zero])
 refine wpAnyH_done (by kernel_rfl) ?_ _; refine LastQ.start rfl ?_; clear hHeld hS3 hS4; have hne : v4.ownBlock ≠ some b := own_ty HO4.o HP4.o (by decide); have HNE := zz hne; clear hne; obtain ⟨p4, q4, hv4, -, hm4⟩ := own_slice HO4.o; have HPR : Hid (Dp base (w4.setCell ⟨b, 2, none⟩ v4) b s k v4 (L ++ [x]) false e a n) := zz ⟨HP4.o.set 2 v4, own_other HO4.o (p := ⟨b, 2, none⟩) HNE.o _, H1.o.hb, H1.o.sz, H1.o.er, by have := HL.o; rw [List.length_append]; simp only [List.length_cons, List.length_nil]; omega⟩; have HFF : Hid (Frp (fun j => j = b ∨ v.ownBlock = some j) w (w4.setCell ⟨b, 2, none⟩ v4)) := zz (((Frp.of_below HBL.o _).then (HF4.o.mono (fun q hq => .inr hq))).set (p := ⟨b, 2, none⟩) (.inl rfl) v4); have d4 := HP4.o.cell (j := 2) rfl; have f4 := HP4.o.free 2; have hlen : (L ++ [x]).length = L.length + 1 := by simp
 rw [hlen] at hv4; have hl2 : (L.length : Int) ≤ 1000 := by have := HL.o; omega
 rw [hv4] at HPR HFF HNE ⊢; have hml : maxLen ≤ 9223372036854775807 := by decide
 clear hv4 HO4 hlen; go_wp2; refine NoPanic.normal ?_; have c4 := HPR.o.blk.cell (j := 2) rfl; have u1 : IntKind.i64.wrap ((L.length : Int) + 1 - 1) = (L.length : Int) := by rw [IntKind.wrap_i64]; omega
 go_wp2; go_ret; exact ⟨by simp, _, HPR.o, HFF.o⟩
