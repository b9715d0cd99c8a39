/- RdOneW. -/
import Derived.Test.YtdemkfhkibmbnaaGreatDoorM34
set_option maxRecDepth 100000
set_option maxHeartbeats 8000000
namespace Go.Proofs.YtdemkfhkibmbnaaGreatDoor.Ru
open Go.RowKit Go.Proofs.YtdemkfhkibmbnaaGreatDoor
section
variable {s : ByteArray} {k n F d : Nat} {L : List Nd}
theorem one_no (hk : k ≤ s.size) (h : isB s ⟨#[33]⟩ k = true) (hd : d < 32) : (64 < n + 1 → Dead (notP s.size (F + 1) d ⟨n, L, rest s k⟩)) ∧
  (Dead (notP s.size F (d + 1) ⟨n + 1, L, rest s (skip s k + 1)⟩) → Dead (notP s.size (F + 1) d ⟨n, L, rest s k⟩)) ∧
  (∀ j n' L' r', n + 1 ≤ 64 → notP s.size F (d + 1) ⟨n + 1, L, rest s (skip s k + 1)⟩ = .ok (j, ⟨n', L', r'⟩) → notP s.size (F + 1) d ⟨n, L, rest s k⟩ = .ok ((L'.length : Int), ⟨n', L' ++ [⟨7, [], [], 0, j, -1⟩], r'⟩)) := by
 have e := notP_no (F := F) (d := d) (n := n) (L := L) hk h; rw [isK_yes h, if_neg (by omega)] at e; rw [e]; refine ⟨fun g => by rw [if_pos g]; trivial, fun g => ?_, fun j n' L' r' g1 g2 => by rw [if_neg (by omega), g2]; rfl⟩
 by_cases g1 : 64 < n + 1
 ·rw [if_pos g1]; trivial
 ·rw [if_neg g1]
  cases hx : notP s.size F (d + 1) ⟨n + 1, L, rest s (skip s k + 1)⟩ with
  | error e => trivial
  | ok q => rw [hx] at g; exact g
theorem one_deep (hk : k ≤ s.size) (h : isB s ⟨#[33]⟩ k = true ∨ isB s ⟨#[40]⟩ k = true) (hd : ¬ d < 32) : Dead (notP s.size (F + 1) d ⟨n, L, rest s k⟩) := by
 by_cases h1 : isB s ⟨#[33]⟩ k = true
 ·rw [notP_no hk h1, if_pos (by omega)]; trivial
 ·have h2 := h.resolve_left h1
  rw [notP_open hk (by simpa using h1) h2, if_pos (by omega)]; trivial
theorem one_open (hk : k ≤ s.size) (h0 : isB s ⟨#[33]⟩ k = false) (h : isB s ⟨#[40]⟩ k = true) (hd : d < 32) :
  (Dead (orP s.size F (d + 1) ⟨n, L, rest s (skip s k + 1)⟩) → Dead (notP s.size (F + 1) d ⟨n, L, rest s k⟩)) ∧
  (∀ j n' L' k', orP s.size F (d + 1) ⟨n, L, rest s (skip s k + 1)⟩ = .ok (j, ⟨n', L', rest s k'⟩) → k' ≤ s.size →
   (isB s ⟨#[41]⟩ k' = true → notP s.size (F + 1) d ⟨n, L, rest s k⟩ = .ok (j, ⟨n', L', rest s (skip s k' + 1)⟩)) ∧ (isB s ⟨#[41]⟩ k' = false → Dead (notP s.size (F + 1) d ⟨n, L, rest s k⟩))) := by
 have e := notP_open (F := F) (d := d) (n := n) (L := L) hk h0 h; rw [isK_yes h, if_neg (by omega)] at e; rw [e]; refine ⟨fun g => ?_, fun j n' L' k' g1 g2 => ⟨fun g3 => ?_, fun g3 => ?_⟩⟩
 ·cases hx : orP s.size F (d + 1) ⟨n, L, rest s (skip s k + 1)⟩ with
  | error e => trivial
  | ok q =>
   rw [hx] at g
   simp only
   rw [wdc_blk g, strip_wdc (by decide) g]
   trivial
 ·rw [g1]
  have := (is_facts (p := ⟨#[41]⟩) g2).2.1 g3; rw [isK_yes g3] at this
  simp only
  rw [show strip [41] (blk (rest s k')) = some (rest s (skip s k' + 1)) from this]
 ·rw [g1]
  have := ((is_facts (p := ⟨#[41]⟩) g2).2.2 g3).1
  simp only
  rw [show strip [41] (blk (rest s k')) = none from this]
  trivial
end
theorem done_step (base b : Nat) (s : ByteArray) (F : Nat) (hF : F ≤ s.size) (hi : ∀ d, d ≤ 32 → Drd base b s F 124 d (notP s.size F d)) (ho : ∀ d, d ≤ 32 → Drd base b s F 92 d (orP s.size F d)) (d : Nat) (hd : d ≤ 32) : Drd base b s (F + 1) 124 d (notP s.size (F + 1) d) := by
 intro k n v L bd e a w h hks hm hn hl hbase; have HI := zz hi; have HOR := zz ho; have H := zz h; have HBS := zz hbase; have HB := h.hb; have HL := zz hl; have hsz := h.sz; obtain ⟨R, hR⟩ : ∃ R, R = notP s.size (F + 1) d ⟨n, L, rest s k⟩ := ⟨_, rfl⟩; rw [← hR]; have HPK := zz (dpeek_any h hks); have hp33 := pk_is (sg := 33) hks (by decide); have hp40 := pk_is (sg := 40) hks (by decide); obtain ⟨hk0s, hk1s, -, -, -⟩ := skip_is hks; obtain ⟨k1, hk1⟩ : ∃ k1, k1 = skip s k := ⟨_, rfl⟩; obtain ⟨pk, hpk⟩ : ∃ pk, pk = pkB s k := ⟨_, rfl⟩; have HLF : Hid (isB s ⟨#[33]⟩ k = false → isB s ⟨#[40]⟩ k = false → R = leafP s.size ⟨n, L, rest s k1⟩) := zz (fun g1 g2 => by rw [hR, notP_leaf hks g1 g2, hk1]); have HDP : Hid (isB s ⟨#[33]⟩ k = true ∨ isB s ⟨#[40]⟩ k = true → ¬ d < 32 → Dead R) := zz (fun g1 g2 => by rw [hR]; exact one_deep hks g1 g2); have HNO := zz (fun g1 => one_no (F := F) (d := d) (n := n) (L := L) hks g1); have HOP := zz (fun g1 => one_open (F := F) (d := d) (n := n) (L := L) hks g1); have HF33 : Hid (isB s ⟨#[33]⟩ k = true → k1 + 1 ≤ s.size ∧ s.size - (k1 + 1) < F) := zz (fun g => by have := isK_far hks g; rw [isK_yes g, ← hk1] at this; omega); have HF40 : Hid (isB s ⟨#[40]⟩ k = true → k1 + 1 ≤ s.size ∧ s.size - (k1 + 1) < F) := zz (fun g => by have := isK_far hks g; rw [isK_yes g, ← hk1] at this; omega)
 rw [← hR, ← hk1] at HNO HOP; rw [← hk1, ← hpk] at HPK; rw [← hpk] at hp33 hp40; rw [← hk1] at hk0s hk1s; clear h hi ho hl hm hR hk1 hpk hks; have u1 : IntKind.i64.wrap ((k1 : Int) + 1) = (k1 : Int) + 1 := by rw [IntKind.wrap_i64]; omega
 have ud : IntKind.i64.wrap ((d : Int) + 1) = (d : Int) + 1 := by rw [IntKind.wrap_i64]; omega
 go_enter Tryz.func124, Tryz.ntmps124; cases h33 : isB s ⟨#[33]⟩ k; rotate_left
 ·have t33 : (pk == 33) = true := by rw [h33] at hp33; exact hp33.symm
  clear hp33 hp40
  by_cases hdd : d < 32
  rotate_left
  ·
   have HDD := zz (HDP.o (.inl h33) hdd); have ed : decide ((32 : Int) ≤ (d : Int)) = true := by simp; omega
   go_upto_region 2 with (go_at_call 93; refine HPK.o.mono ?_; rintro r w2 ⟨rfl, hq, ho⟩; have H2 := zz hq; have HO2 : Hid (Onb b w w2) := zz ho; clear hq ho); have c1 := H2.o.blk.cell (j := 1) rfl; go_wp2_with (go_at_call 94; refine (dfail_any H2.o 3 _ (by decide)).mono ?_; rintro r w3 ⟨rfl, hq, ho⟩; have HQ3 := zz hq; have HO3 : Hid (Onb b w w3) := zz (HO2.o.then ho); clear hq ho); go_ret; exact DOut.bad (n' := n) (j := -1) HQ3.o rfl (onb_below HO3.o HB HBS.o) (fun _ => HDD.o) (by omega) (by omega)
  obtain ⟨g1, g2, g3⟩ := HNO.o h33 hdd; have G1 := zz g1; have G2 := zz g2; have G3 := zz g3; have HFR := zz (HF33.o h33); clear g1 g2 g3 HNO HOP HLF HDP HF33 HF40 h33; have ed : decide ((32 : Int) ≤ (d : Int)) = false := by simp; omega
  go_upto_region 2 with (go_at_call 93; refine HPK.o.mono ?_; rintro r w2 ⟨rfl, hq, ho⟩; have H2 := zz hq; have HO2 : Hid (Onb b w w2) := zz ho; clear hq ho); have c1 := H2.o.blk.cell (j := 1) rfl; obtain ⟨q2, hq2⟩ : ∃ q2, q2 = (bd || decide (64 < (n : Int) + 1)) := ⟨_, rfl⟩; have HCN := zz (dcount_any H2.o ⟨by omega, by omega⟩ (k1 : Int)); rw [← hq2] at HCN; have HQF : Hid (q2 = false → bd = false ∧ n + 1 ≤ 64) := zz (fun h9 => by rw [h9] at hq2; obtain ⟨z1, z2⟩ := Bool.or_eq_false_iff.1 hq2.symm; have := of_decide_eq_false z2; exact ⟨z1, by omega⟩); have HQT : Hid (q2 = true → bd = false → 64 < n + 1) := zz (fun h9 h8 => by rw [h9, h8, Bool.false_or] at hq2; have := of_decide_eq_true hq2.symm; omega); clear hq2; go_upto_region 9 with (go_at_call 111; refine HCN.o.mono ?_; rintro r w4 ⟨rfl, hx, hf⟩; have HQ4 := zz hx; have HO4 : Hid (Onb b w w4) := zz (HO2.o.then hf); clear hx hf); clear c1 HCN HPK t33 ed; obtain ⟨e4, a4, h4⟩ := HQ4.o; have c1 := h4.blk.cell (j := 1) rfl; have f1 := h4.blk.free 1; have H5 : Hid (Dp base (w4.setCell ⟨b, 1, none⟩ (.int .i64 ((k1 : Int) + 1))) b s (k1 + 1) v L q2 e4 a4 ((n + 1 : Nat) : Int)) := zz (by have := h4.at (k1 + 1); simpa using this)
  have HO5 : Hid (Onb b w (w4.setCell ⟨b, 1, none⟩ (.int .i64 ((k1 : Int) + 1)))) := zz (Onb.set HO4.o 1 _); clear h4 HQ4; go_upto_region 10 with fail; obtain ⟨w5, hw5⟩ : ∃ w5, w5 = w4.setCell ⟨b, 1, none⟩ (.int .i64 ((k1 : Int) + 1)) := ⟨_, rfl⟩; rw [← hw5] at H5 HO5 ⊢; clear hw5 c1 f1 u1 HO4 HO2 H2; have HB5 : Hid (Below base w w5) := zz (onb_below HO5.o HB HBS.o); have HZ5 : Hid (base ≤ w5.heap.size) := zz (Nat.le_trans HBS.o HB5.o.size); have HCL : Hid (Calls Tryz.prog 124 #[ptr b, .int .i64 ((d : Int) + 1)] w5 fun r w' => DOut base w5 w' b s (d + 1) q2 (n + 1) (notP s.size F (d + 1) ⟨n + 1, L, rest s (k1 + 1)⟩) r) := zz (by have := HI.o (d + 1) hdd (k1 + 1) (n + 1) v L q2 e4 a4 w5 H5.o HFR.o.1 HFR.o.2 (by omega) (fun h9 => ⟨by have := (HL.o (HQF.o h9).1).1; omega, (HQF.o h9).2⟩) HZ5.o; push_cast at this; exact this); go_upto_region 11 with (go_at_call 124; refine HCL.o.mono ?_; rintro r w6 ⟨j6, k6, v6, L6, q6, n6, rfl, hq6, hb6, hg6, hx6⟩; have HQ6 := zz hq6; have HB6 := zz (HB5.o.trans hb6); have HG6 := zz hg6; have HX6 := zz hx6; clear hq6 hb6 hg6 hx6); obtain ⟨e6, a6, h6⟩ := HQ6.o; have H6 := zz h6
  have HZ6 : Hid (base ≤ w6.heap.size) := zz (Nat.le_trans HBS.o HB6.o.size); clear h6 HQ6 HCL; cases q6
  ·obtain ⟨z1, z2, z3⟩ := HG6.o rfl
   obtain ⟨zb, zn⟩ := HQF.o z1; subst zb; have hll : L6.length + 1 ≤ 64 := by have hc := (kp_not s.size F (d + 1) hdd).cnt _ _ _ _ _ z3; have h9 := (HL.o rfl).1; simp only at hc; omega
   have HLL := zz hll; have HRR := zz (G3.o _ _ _ _ zn z3); have ZK6 : k6 ≤ s.size := z2; clear z1 z2 z3 zn hll HG6 HX6; go_wp2_with (go_at_call 112; refine (dadd_ok H6.o ⟨7, [], [], 0, j6, -1⟩ (by have := HLL.o; omega) HZ6.o).mono ?_; rintro r w7 ⟨rfl, hx⟩; have H7 := zz hx; clear hx); go_ret; obtain ⟨v7, h7, -⟩ := H7.o; exact DOut.good (n' := n6) (k' := k6) ⟨_, _, h7⟩ rfl (HB6.o.trans (H7.o.below H6.o HZ6.o)) ZK6 HRR.o
  ·obtain ⟨z1, z2, z3⟩ := HX6.o rfl
   have HDD : Hid (bd = false → Dead R) := zz (fun hb => by
    cases hz : q2
    ·exact G2.o (z1 hz)
    ·exact G1.o (HQT.o hz hb))
   have HZZ : Hid (k6 ≤ s.size + (33 - d) ∧ n6 ≤ max n 65 + (33 - d)) := zz ⟨by omega, by omega⟩; clear z1 z2 z3 HG6 HX6; go_wp2_with (go_at_call 112; refine (dadd_bad H6.o ⟨7, [], [], 0, j6, -1⟩).mono ?_; rintro r w7 ⟨⟨j7, rfl⟩, hx, hf⟩; have H7 := zz hx; have HB7 : Hid (Below base w w7) := zz (HB6.o.trans (onb_below hf HB HZ6.o)); clear hx hf); go_ret; exact DOut.bad (n' := n6) (k' := k6) ⟨_, _, H7.o⟩ rfl HB7.o HDD.o HZZ.o.1 HZZ.o.2
 have t33 : (pk == 33) = false := by rw [h33] at hp33; exact hp33.symm
 clear hp33 HNO HF33; cases h40 : isB s ⟨#[40]⟩ k; rotate_left
 ·have t40 : (pk == 40) = true := by rw [h40] at hp40; exact hp40.symm
  clear hp40
  by_cases hdd : d < 32
  rotate_left
  ·
   have HDD := zz (HDP.o (.inr h40) hdd); have ed : decide ((32 : Int) ≤ (d : Int)) = true := by simp; omega
   go_upto_region 2 with (go_at_call 93; refine HPK.o.mono ?_; rintro r w2 ⟨rfl, hq, ho⟩; have H2 := zz hq; have HO2 : Hid (Onb b w w2) := zz ho; clear hq ho); have c1 := H2.o.blk.cell (j := 1) rfl; go_wp2_with (go_at_call 94; refine (dfail_any H2.o 3 _ (by decide)).mono ?_; rintro r w3 ⟨rfl, hq, ho⟩; have HQ3 := zz hq; have HO3 : Hid (Onb b w w3) := zz (HO2.o.then ho); clear hq ho); go_ret; exact DOut.bad (n' := n) (j := -1) HQ3.o rfl (onb_below HO3.o HB HBS.o) (fun _ => HDD.o) (by omega) (by omega)
  obtain ⟨g1, g2⟩ := HOP.o h33 h40 hdd; have G1 := zz g1; have G2 := zz g2; have HFR := zz (HF40.o h40); clear g1 g2 HOP HLF HDP HF40 h40 h33; have ed : decide ((32 : Int) ≤ (d : Int)) = false := by simp; omega
  go_upto_region 12 with (go_at_call 93; refine HPK.o.mono ?_; rintro r w2 ⟨rfl, hq, ho⟩; have H2 := zz hq; have c1 := H2.o.blk.cell (j := 1) rfl; have HO2 : Hid (Onb b w w2) := zz ho; clear hq ho); clear c1; have c1 := H2.o.blk.cell (j := 1) rfl; have f1 := H2.o.blk.free 1; clear HPK t33 t40 ed; have H5 : Hid (Dp base (w2.setCell ⟨b, 1, none⟩ (.int .i64 ((k1 : Int) + 1))) b s (k1 + 1) v L bd e a (n : Int)) := zz (by have := H2.o.at (k1 + 1); simpa using this); have HO5 : Hid (Onb b w (w2.setCell ⟨b, 1, none⟩ (.int .i64 ((k1 : Int) + 1)))) := zz (Onb.set HO2.o 1 _); go_upto_region 13 with fail; obtain ⟨w5, hw5⟩ : ∃ w5, w5 = w2.setCell ⟨b, 1, none⟩ (.int .i64 ((k1 : Int) + 1)) := ⟨_, rfl⟩; rw [← hw5] at H5 HO5 ⊢; clear hw5 c1 f1 u1 HO2 H2; have HB5 : Hid (Below base w w5) := zz (onb_below HO5.o HB HBS.o); have HZ5 : Hid (base ≤ w5.heap.size) := zz (Nat.le_trans HBS.o HB5.o.size); have HCL : Hid (Calls Tryz.prog 92 #[ptr b, .int .i64 ((d : Int) + 1)] w5 fun r w' => DOut base w5 w' b s (d + 1) bd n (orP s.size F (d + 1) ⟨n, L, rest s (k1 + 1)⟩) r) := zz (by have := HOR.o (d + 1) hdd (k1 + 1) n v L bd e a w5 H5.o HFR.o.1 HFR.o.2 (by omega) HL.o HZ5.o; push_cast at this; exact this)
  go_upto_region 14 with (go_at_call 92; refine HCL.o.mono ?_; rintro r w6 ⟨j6, k6, v6, L6, q6, n6, rfl, hq6, hb6, hg6, hx6⟩; have HQ6 := zz hq6; have HB6 := zz (HB5.o.trans hb6); have HG6 := zz hg6; have HX6 := zz hx6; clear hq6 hb6 hg6 hx6); obtain ⟨e6, a6, h6⟩ := HQ6.o; have H6 := zz h6; have HZ6 : Hid (base ≤ w6.heap.size) := zz (Nat.le_trans HBS.o HB6.o.size); clear h6 HQ6 HCL; have c5 := H6.o.blk.cell (j := 5) rfl; cases q6
  ·obtain ⟨z1, z2, z3⟩ := HG6.o rfl
   subst z1; have G3 := zz (G2.o _ _ _ _ z3 z2); have N64 : n6 ≤ 64 := ((kp_or s.size F (d + 1) hdd).cnt _ _ _ _ _ z3).1; have HPK := zz (dpeek_any H6.o z2); have hp41 := pk_is (sg := 41) z2 (by decide); have hk7s := (skip_is z2).2.1; have HF41 : Hid (isB s ⟨#[41]⟩ k6 = true → skip s k6 + 1 ≤ s.size) := zz (fun g => by have := isK_far z2 g; rw [isK_yes g] at this; omega); obtain ⟨k7, hk7⟩ : ∃ k7, k7 = skip s k6 := ⟨_, rfl⟩; obtain ⟨p7, hp7⟩ : ∃ p7, p7 = pkB s k6 := ⟨_, rfl⟩; rw [← hk7] at G3 hk7s HF41; rw [← hk7, ← hp7] at HPK; rw [← hp7] at hp41; clear hk7 hp7 z2 z3 G1 G2 HG6 HX6; have u7 : IntKind.i64.wrap ((k7 : Int) + 1) = (k7 : Int) + 1 := by rw [IntKind.wrap_i64]; omega
   cases h41 : isB s ⟨#[41]⟩ k6
   ·have t41 : (p7 == 41) = false := by rw [h41] at hp41; exact hp41.symm
    have HDD := zz (G3.o.2 h41); clear hp41 h41 G3 HF41; go_upto_region 15 with (go_at_call 93; refine HPK.o.mono ?_; rintro r w8 ⟨rfl, hq, ho⟩; have H8 := zz hq; have HO8 : Hid (Onb b w6 w8) := zz ho; clear hq ho); have c1 := H8.o.blk.cell (j := 1) rfl; clear c5; go_upto_region 16 with (go_at_call 94; refine (dfail_any H8.o 5 _ (by decide)).mono ?_; rintro r w9 ⟨rfl, hq, ho⟩; have HQ9 := zz hq; have HO9 : Hid (Onb b w6 w9) := zz (HO8.o.then ho); clear hq ho); clear c1; obtain ⟨e9, a9, h9⟩ := HQ9.o; have c1 := h9.blk.cell (j := 1) rfl; have f1 := h9.blk.free 1; have HA : Hid (Dp base (w9.setCell ⟨b, 1, none⟩ (.int .i64 ((k7 : Int) + 1))) b s (k7 + 1) v6 L6 true e9 a9 (n6 : Int)) := zz (by have := h9.at (k7 + 1); simpa using this); have HOA : Hid (Onb b w6 (w9.setCell ⟨b, 1, none⟩ (.int .i64 ((k7 : Int) + 1)))) := zz (Onb.set HO9.o 1 _); have HN6 : Hid (n6 ≤ max n 65 + (33 - d)) := zz (by have := N64; omega); clear h9 HQ9; go_wp2; go_ret; exact DOut.bad (n' := n6) (k' := k7 + 1) ⟨_, _, HA.o⟩ rfl (HB6.o.trans (onb_below HOA.o HB HZ6.o)) (fun _ => HDD.o) (by omega) HN6.o
   ·have t41 : (p7 == 41) = true := by rw [h41] at hp41; exact hp41.symm
    have HRR := zz (G3.o.1 h41); have HK7 := zz (HF41.o h41); clear hp41 h41 G3 HF41; go_upto_region 16 with (go_at_call 93; refine HPK.o.mono ?_; rintro r w8 ⟨rfl, hq, ho⟩; have H8 := zz hq; have HO8 : Hid (Onb b w6 w8) := zz ho; clear hq ho); clear c5; have c1 := H8.o.blk.cell (j := 1) rfl; have f1 := H8.o.blk.free 1; have HA : Hid (Dp base (w8.setCell ⟨b, 1, none⟩ (.int .i64 ((k7 : Int) + 1))) b s (k7 + 1) v6 L6 false e6 a6 (n6 : Int)) := zz (by have := H8.o.at (k7 + 1); simpa using this); have HOA : Hid (Onb b w6 (w8.setCell ⟨b, 1, none⟩ (.int .i64 ((k7 : Int) + 1)))) := zz (Onb.set HO8.o 1 _); go_wp2; go_ret; exact DOut.good (n' := n6) (k' := k7 + 1) ⟨_, _, HA.o⟩ rfl (HB6.o.trans (onb_below HOA.o HB HZ6.o)) HK7.o HRR.o
  ·obtain ⟨z1, z2, z3⟩ := HX6.o rfl
   have HDD : Hid (bd = false → Dead R) := zz (fun hb => G1.o (z1 hb)); have HZZ : Hid (k6 + 1 ≤ s.size + (33 - d) ∧ n6 ≤ max n 65 + (33 - d)) := zz ⟨by omega, by omega⟩; have u7 : IntKind.i64.wrap ((k6 : Int) + 1) = (k6 : Int) + 1 := by rw [IntKind.wrap_i64]; omega
   clear z1 z2 z3 HG6 HX6 G1 G2; have c1 := H6.o.blk.cell (j := 1) rfl; have f1 := H6.o.blk.free 1; have HA : Hid (Dp base (w6.setCell ⟨b, 1, none⟩ (.int .i64 ((k6 : Int) + 1))) b s (k6 + 1) v6 L6 true e6 a6 (n6 : Int)) := zz (by have := H6.o.at (k6 + 1); simpa using this); have HOA : Hid (Onb b w6 (w6.setCell ⟨b, 1, none⟩ (.int .i64 ((k6 : Int) + 1)))) := zz (Onb.set (Frp.refl _ w6) 1 _); go_wp2; go_ret; exact DOut.bad (n' := n6) (k' := k6 + 1) ⟨_, _, HA.o⟩ rfl (HB6.o.trans (onb_below HOA.o HB HZ6.o)) HDD.o HZZ.o.1 HZZ.o.2
 have t40 : (pk == 40) = false := by rw [h40] at hp40; exact hp40.symm
 have HRR := zz (HLF.o h33 h40); clear hp40 HOP HF40 HLF HDP h33 h40; go_upto_region 2 with (go_at_call 93; refine HPK.o.mono ?_; rintro r w2 ⟨rfl, hq, ho⟩; have H2 := zz hq; have HO2 : Hid (Onb b w w2) := zz ho; clear hq ho); have c1 := H2.o.blk.cell (j := 1) rfl; have HZ2 : Hid (base ≤ w2.heap.size) := zz (Nat.le_trans HBS.o HO2.o.size); have HCL := zz (dleaf_any H2.o hk1s (by omega) (fun h9 => ⟨by have := HL.o h9; omega, (HL.o h9).2⟩) HZ2.o d); rw [← HRR.o] at HCL; go_wp2_with (go_at_call 136; refine HCL.o.mono ?_; rintro r w3 ⟨j6, k6, v6, L6, q6, n6, rfl, hq6, hb6, hgx6⟩; have HQ6 := zz hq6; have HB6 : Hid (Below base w w3) := zz ((onb_below HO2.o HB HBS.o).trans hb6); have HG6 := zz hgx6; clear hq6 hb6 hgx6); go_ret; exact ⟨j6, k6, v6, L6, q6, n6, rfl, HQ6.o, HB6.o, HG6.o⟩
theorem done_any (base b : Nat) (s : ByteArray) : ∀ F, F ≤ s.size + 1 → ∀ d, d ≤ 32 → Drd base b s F 124 d (notP s.size F d)
 | 0, _, _, _ => fun _ _ _ _ _ _ _ _ _ _ hm => absurd hm (by omega)
 | F + 1, hF, d, hd => done_step base b s F (by omega) (fun d hd => done_any base b s F (by omega) d hd)
   (fun d hd => d_or base b s F d hd _ (d_and base b s F d hd _ (done_any base b s F (by omega) d hd) (kp_not s.size F d hd)) (kp_and s.size F d hd (by omega))) d hd
theorem dor_any (base b : Nat) (s : ByteArray) (F : Nat) (hF : F ≤ s.size + 1) (d : Nat) (hd : d ≤ 32) : Drd base b s F 92 d (orP s.size F d) :=
 d_or base b s F d hd _ (d_and base b s F d hd _ (done_any base b s F hF d hd) (kp_not s.size F d hd)) (kp_and s.size F d hd hF)
