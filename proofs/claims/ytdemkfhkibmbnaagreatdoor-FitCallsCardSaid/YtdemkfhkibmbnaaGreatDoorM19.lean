/- RuPairs, RuNotP, RuAnd, RuNot. -/
import Derived.Test.YtdemkfhkibmbnaaGreatDoorM18
set_option maxRecDepth 100000
set_option maxHeartbeats 8000000
namespace Go.Proofs.YtdemkfhkibmbnaaGreatDoor.Ru
open Go.RowKit Go.Proofs.YtdemkfhkibmbnaaGreatDoor
theorem pairs_and (base b : Nat) (s : ByteArray) (m d : Nat) (nx : Ps → PR) (hg : Rd base b s m 119 d nx) (he : RdE base b s 119) (hk : Kp s.size m nx) (k n : Nat) (v : Value) (L : List Nd) (w : World) (h : Prs base w b s k d n v L 0 0) (hn : n ≤ 64) (hl : L.length ≤ n) (hm : s.size - k < m) (hbase : base ≤ w.heap.size) (hv : ErrB base w) :
  Calls Tryz.prog 107 #[ptr b, .string ⟨#[38]⟩, .int .i64 8, .func (.func 119) #[ptr b] #[]] w fun r w' => Out base w w' b s d (pairsP s.size 38 8 nx ⟨n, L, rest s k⟩) r := by
 have HG := zz hg; have HE := zz he; have HK := zz hk; have H := zz h; have HBS := zz hbase; have HV := zz hv; have HST : Hid (∀ wr j, OutS base w wr b s d (nx ⟨n, L, rest s k⟩) j → PairS base w wr b s m d 38 8 nx (pairsP s.size 38 8 nx ⟨n, L, rest s k⟩) j) := zz (fun wr j hq => PairS.start hk hl hm hq); obtain ⟨R, hR⟩ : ∃ R, R = pairsP s.size 38 8 nx ⟨n, L, rest s k⟩ := ⟨_, rfl⟩; rw [← hR] at HST ⊢
 have HCALL : Hid (Calls Tryz.prog 119 #[ptr b] w fun r w' => ∃ j : Int, r = .returned (.int .i64 j) ∧ PairS base w w' b s m d 38 8 nx R j) := zz ((hg k n v L w h hn hl hm hbase hv).mono fun r w' hq => by
  obtain ⟨j, h1, h2⟩ := out_j hq
  exact ⟨j, h1, HST.o w' j h2⟩)
 clear h hg he hk hn hl hm hbase hv hR HST; go_enter Tryz.func107, Tryz.ntmps107; go_upto_region 2 with (go_at_call 119; refine HCALL.o.mono ?_; rintro r w2 ⟨j, rfl, hp⟩; have HP := zz hp; clear hp)
 go_loopw [9] (fun s9 wr => ∃ j : Int, s9 = .int .i64 j ∧ Hid (PairS base w wr b s m d 38 8 nx R j)) (fun _ wr => prM b s.size wr)
 case atStart => exact ⟨j, rfl, HP⟩
 case round =>
  clear HP HCALL; obtain ⟨left, rfl, hps⟩ := hrel; rcases hps.o with ⟨K, k0, n0, v0, L0, g1, g2, g3, g4, g5, g6, g7⟩ | ⟨k0, d0, n0, v0, L0, e0, a0, g1, g2, g3, g4⟩
  ·clear hps
   have hkb := g1.kb; have H0 := zz g1; have HB0 := zz g7; have HN0 := zz g2; have HL0 := zz g3; have HM0 := zz g4; have HRK := zz g6; have HSZ : Hid (base ≤ wr.heap.size) := zz (Nat.le_trans HBS.o g7.size); have HVR : Hid (ErrB base wr) := zz (HV.o.below g7); have HMS : Hid (prM b s.size wr = 1 + (s.size - k0)) := zz (prM_good g1); have c5 := g1.c5; have c6 := g1.c6; obtain ⟨K, rfl⟩ : ∃ K', K = K' + 1 := ⟨K - 1, by omega⟩; have HKK := zz g5; clear g1 g2 g3 g4 g5 g6 g7; obtain ⟨k1, hk1⟩ : ∃ k1, k1 = skip s k0 := ⟨_, rfl⟩; obtain ⟨k2, hk2⟩ : ∃ k2, k2 = isK s ⟨#[38]⟩ k0 := ⟨_, rfl⟩; have HK1 := zz hk1; have HK2 := zz hk2; have HSK := zz (isB_skip (p := ⟨#[38]⟩) hkb); have HBL : Hid (∀ wx, Prs base wx b s k0 d n0 v0 L0 0 0 → Calls Tryz.prog 87 #[ptr b] wx fun r w' => r = .returned (.tuple #[]) ∧ Prs base w' b s k1 d n0 v0 L0 0 0 ∧ Onb b wx w') := zz (fun wx hx => by rw [hk1]; exact blanks_any base b s k0 d n0 v0 L0 0 0 wx hx); cases hq : isB s ⟨#[38]⟩ k0
   ·have HRR : Hid (R = .ok (left, ⟨n0, L0, rest s k2⟩)) := zz (by rw [← HRK.o, loopP_stop hkb hq, hk2])
    have HIS : Hid (∀ wx, Prs base wx b s k1 d n0 v0 L0 0 0 → Calls Tryz.prog 116 #[ptr b, .string ⟨#[38]⟩] wx fun r w' => r = .returned (.bool false) ∧ Prs base w' b s k2 d n0 v0 L0 0 0 ∧ Onb b wx w') := zz (fun wx hx => by
     have := is_any base b s k1 d n0 v0 L0 0 0 ⟨#[38]⟩ wx hx (by decide); rw [hk1, HSK.o.1, HSK.o.2, hq, ← hk2] at this; rw [hk1] at hx
     exact this)
    clear hq hk1 hk2; go_upto_region 4 with (go_at_call 87; refine (HBL.o _ H0.o).mono ?_; rintro r w3 ⟨rfl, hx, hf⟩; have H3 := zz hx; have HO3 : Hid (Onb b wr w3) := zz hf; clear hx hf); have c1 := H3.o.c1; go_wp2_with (go_at_call 116; refine (HIS.o _ H3.o).mono ?_; rintro r w4 ⟨rfl, hx, hf⟩; have H4 := zz hx; have HO4 : Hid (Onb b wr w4) := zz (HO3.o.then hf); clear hx hf); go_ret; exact out_ok HRR.o H4.o (HB0.o.trans (onb_below HO4.o H0.o.hb HSZ.o))
   ·have HFAR := zz (isK_far hkb hq)
    rw [← hk2] at HFAR; have HLP := zz (loopP_go (n := n0) (K := K) (L := L0) (kd := 8) (nx := nx) (left := left) hkb hq); rw [HRK.o, ← hk1, ← hk2] at HLP
    have HIS : Hid (∀ wx, Prs base wx b s k1 d n0 v0 L0 0 0 → Calls Tryz.prog 116 #[ptr b, .string ⟨#[38]⟩] wx fun r w' => r = .returned (.bool true) ∧ Prs base w' b s k2 d n0 v0 L0 0 0 ∧ Onb b wx w') := zz (fun wx hx => by
     have := is_any base b s k1 d n0 v0 L0 0 0 ⟨#[38]⟩ wx hx (by decide); rw [hk1, HSK.o.1, HSK.o.2, hq, ← hk2] at this; rw [hk1] at hx
     exact this)
    clear hq hk1 hk2; go_upto_region 4 with (go_at_call 87; refine (HBL.o _ H0.o).mono ?_; rintro r w3 ⟨rfl, hx, hf⟩; have H3 := zz hx; have HO3 : Hid (Onb b wr w3) := zz hf; clear hx hf); have c1 := H3.o.c1
    by_cases h64 : 64 < n0 + 1
    ·have q1 : (64 : Int) < (n0 : Int) + 1 := by omega
     have HEQ : Hid ((if 64 < (n0 : Int) + 1 then (3 : Int) else 0) = 3 ∧ (if 64 < (n0 : Int) + 1 then (k1 : Int) else 0) = (k1 : Int)) := zz ⟨if_pos q1, if_pos q1⟩; have HRR : Hid (R = .error (3, (k1 : Int))) := zz (by rw [HLP.o, if_pos h64]); clear h64 q1
     go_upto_region 7 with (first
      | (go_at_call 116; refine (HIS.o _ H3.o).mono ?_; rintro r w4 ⟨rfl, hx, hf⟩; have H4 := zz hx; have HO4 : Hid (Onb b wr w4) := zz (HO3.o.then hf); clear hx hf)
      | (go_at_call 117; refine (count_any base b s k2 d n0 v0 L0 (k1 : Int) _ H4.o (by have := HN0.o; omega)).mono ?_; rw [HEQ.o.1, HEQ.o.2]; rintro r w5 ⟨rfl, hx, hf⟩; have H5 := zz hx; have HO5 : Hid (Onb b wr w5) := zz (HO4.o.then hf); clear hx hf))
     have HB5 : Hid (Below base wr w5) := zz (onb_below HO5.o H0.o.hb HSZ.o); have HZ5 : Hid (base ≤ w5.heap.size) := zz (Nat.le_trans HSZ.o HB5.o.size); have HCL : Hid (Calls Tryz.prog 119 #[ptr b] w5 fun r w' => ∃ j : Int, r = .returned (.int .i64 j) ∧ OutS base w5 w' b s 0 (.error (3, (k1 : Int))) j) := zz ((HE.o k2 d _ v0 L0 3 (k1 : Int) w5 H5.o (by decide) HZ5.o).mono fun r w' hq => out_j hq); go_upto_region 8 with (go_at_call 119; refine HCL.o.mono ?_; rintro r w6 ⟨j, rfl, hq⟩; have HQ6 := zz hq; clear hq); obtain ⟨⟨k6, d6, n6, v6, L6, hp6⟩, hb6⟩ := HQ6.o; have H6 := zz hp6; have HB6 : Hid (Below base wr w6) := zz (HB5.o.trans hb6); clear hp6 hb6 HQ6; go_wp2_with (go_at_call 118; refine (node_bad base b s k6 d6 n6 v6 L6 3 (k1 : Int) ⟨8, [], [], 0, left, j⟩ _ H6.o (by decide)).mono ?_; rintro r w7 ⟨rfl, hx, hf⟩; have H7 := zz hx; have HB7 : Hid (Below base wr w7) := zz (HB6.o.trans (onb_below hf H0.o.hb (Nat.le_trans HSZ.o HB6.o.size))); clear hx hf); go_roundw
     case rel => exact ⟨-1, rfl, zz (.inr ⟨k6, d6, n6, v6, L6, 3, (k1 : Int), H7.o, by decide, HRR.o, HB0.o.trans HB7.o⟩)⟩
     case measure =>
      rw [prM_bad H7.o (by decide), HMS.o]; omega
    ·have q1 : ¬ (64 : Int) < (n0 : Int) + 1 := by omega
     have HEQ : Hid ((if 64 < (n0 : Int) + 1 then (3 : Int) else 0) = 0 ∧ (if 64 < (n0 : Int) + 1 then (k1 : Int) else 0) = 0) := zz ⟨if_neg q1, if_neg q1⟩; have HLQ := HLP.o; rw [if_neg h64] at HLQ; have HN1 : Hid (n0 + 1 ≤ 64) := zz (by omega); clear h64 q1
     go_upto_region 7 with (first
      | (go_at_call 116; refine (HIS.o _ H3.o).mono ?_; rintro r w4 ⟨rfl, hx, hf⟩; have H4 := zz hx; have HO4 : Hid (Onb b wr w4) := zz (HO3.o.then hf); clear hx hf)
      | (go_at_call 117; refine (count_any base b s k2 d n0 v0 L0 (k1 : Int) _ H4.o (by have := HN0.o; omega)).mono ?_; rw [HEQ.o.1, HEQ.o.2]; rintro r w5 ⟨rfl, hx, hf⟩; have H5 := zz hx; have HO5 : Hid (Onb b wr w5) := zz (HO4.o.then hf); clear hx hf))
     have HB5 : Hid (Below base wr w5) := zz (onb_below HO5.o H0.o.hb HSZ.o); have HZ5 : Hid (base ≤ w5.heap.size) := zz (Nat.le_trans HSZ.o HB5.o.size); have HCL : Hid (Calls Tryz.prog 119 #[ptr b] w5 fun r w' => ∃ j : Int, r = .returned (.int .i64 j) ∧ OutS base w5 w' b s d (nx ⟨n0 + 1, L0, rest s k2⟩) j) := zz ((HG.o k2 (n0 + 1) v0 L0 w5 (by have := H5.o; push_cast; exact this) HN1.o (by have := HL0.o; omega) (by have := HM0.o; have := HFAR.o; omega) HZ5.o (HVR.o.below HB5.o)).mono fun r w' hq => out_j hq); cases hX : nx ⟨n0 + 1, L0, rest s k2⟩
     case error e =>
      rw [hX] at HCL HLQ; simp only at HLQ; have HE0 : Hid (e.1 ≠ 0) := zz (HK.o.err _ _ _ e (by rw [rest_len]; have := HM0.o; have := HFAR.o; omega) (by rw [rest_len]; omega) hX); have HRR : Hid (R = .error e) := zz HLQ; clear HLP HLQ hX; go_upto_region 8 with (go_at_call 119; refine HCL.o.mono ?_; rintro r w6 ⟨j, rfl, hq⟩; have HQ6 := zz hq; clear hq); obtain ⟨⟨k6, d6, n6, v6, L6, hp6⟩, hb6⟩ := HQ6.o; have H6 := zz hp6; have HB6 : Hid (Below base wr w6) := zz (HB5.o.trans hb6); clear hp6 hb6 HQ6; go_wp2_with (go_at_call 118; refine (node_bad base b s k6 d6 n6 v6 L6 e.1 e.2 ⟨8, [], [], 0, left, j⟩ _ H6.o HE0.o).mono ?_; rintro r w7 ⟨rfl, hx, hf⟩; have H7 := zz hx; have HB7 : Hid (Below base wr w7) := zz (HB6.o.trans (onb_below hf H0.o.hb (Nat.le_trans HSZ.o HB6.o.size))); clear hx hf); go_roundw
      case rel => exact ⟨-1, rfl, zz (.inr ⟨k6, d6, n6, v6, L6, e.1, e.2, H7.o, HE0.o, HRR.o, HB0.o.trans HB7.o⟩)⟩
      case measure =>
       rw [prM_bad H7.o HE0.o, HMS.o]; omega
     case ok q =>
      rw [hX] at HCL HLQ; simp only at HLQ; have HCN := zz (HK.o.cnt _ _ _ q.1 q.2 hX); have HLN := zz (HK.o.len _ _ _ q.1 q.2 hX); have HRR := zz HLQ; clear HLP HLQ hX; go_upto_region 8 with (go_at_call 119; refine HCL.o.mono ?_; rintro r w6 ⟨j, rfl, hq⟩; have HQ6 := zz hq; clear hq); obtain ⟨hj6, ⟨k6, v6, hr6, hp6⟩, hb6⟩ := HQ6.o; have HJ := zz hj6; have HR6 := zz hr6; have H6 := zz hp6; have HB6 : Hid (Below base wr w6) := zz (HB5.o.trans hb6); have HZ6 : Hid (base ≤ w6.heap.size) := zz (Nat.le_trans HSZ.o HB6.o.size)
      have HLL : Hid (q.2.L.length + 1 ≤ 64 ∧ q.2.L.length + 1 ≤ q.2.n ∧ s.size - k6 ≤ s.size - k2) := zz (by
       have e1 := HCN.o; have e2 := HL0.o; have e3 := HLN.o; rw [hr6, rest_len, rest_len] at e3
       omega)
      clear hj6 hr6 hp6 hb6 HQ6; go_wp2_with (go_at_call 118; refine (node_ok base b s k6 d q.2.n v6 q.2.L ⟨8, [], [], 0, left, j⟩ _ H6.o (by have := HLL.o; omega) HZ6.o).mono ?_; rintro r w7 ⟨rfl, hx⟩; have H7 := zz hx; clear hx); have HB7 : Hid (Below base wr w7) := zz (HB6.o.trans (H7.o.below H6.o HZ6.o)); obtain ⟨v7, h7, -, -⟩ := H7.o; have HP7 := zz h7; clear h7; go_roundw
      case rel =>
       refine ⟨(q.2.L.length : Int), rfl, zz (.inl ⟨K, k6, q.2.n, v7, _, HP7.o, HCN.o.1, ?_, ?_, ?_, ?_, HB0.o.trans HB7.o⟩)⟩
       ·have := HLL.o; rw [List.length_append]; simp only [List.length_cons, List.length_nil]; omega
       ·have := HLL.o; have := HM0.o; have := HFAR.o; omega
       ·have := HLL.o; have := HKK.o; have := HFAR.o; omega
       ·rw [HRR.o, ← HR6.o, HJ.o]
      case measure =>
       rw [prM_good HP7.o, HMS.o]; have := HLL.o; have := HFAR.o; omega
  ·clear hps
   have H0 := zz g1; have HRR := zz g3; have HB0 := zz g4; have c5 := g1.c5; have c6 := g1.c6; have t1 : (e0 == 0) = false := by simpa using g2
   clear g1 g2 g3 g4; go_wp2; go_ret; exact out_err HRR.o H0.o HB0.o _
theorem pairs_or (base b : Nat) (s : ByteArray) (m d : Nat) (nx : Ps → PR) (hg : Rd base b s m 108 d nx) (he : RdE base b s 108) (hk : Kp s.size m nx) (k n : Nat) (v : Value) (L : List Nd) (w : World) (h : Prs base w b s k d n v L 0 0) (hn : n ≤ 64) (hl : L.length ≤ n) (hm : s.size - k < m) (hbase : base ≤ w.heap.size) (hv : ErrB base w) :
  Calls Tryz.prog 107 #[ptr b, .string ⟨#[124]⟩, .int .i64 9, .func (.func 108) #[ptr b] #[]] w fun r w' => Out base w w' b s d (pairsP s.size 124 9 nx ⟨n, L, rest s k⟩) r := by
 have HG := zz hg; have HE := zz he; have HK := zz hk; have H := zz h; have HBS := zz hbase; have HV := zz hv; have HST : Hid (∀ wr j, OutS base w wr b s d (nx ⟨n, L, rest s k⟩) j → PairS base w wr b s m d 124 9 nx (pairsP s.size 124 9 nx ⟨n, L, rest s k⟩) j) := zz (fun wr j hq => PairS.start hk hl hm hq); obtain ⟨R, hR⟩ : ∃ R, R = pairsP s.size 124 9 nx ⟨n, L, rest s k⟩ := ⟨_, rfl⟩; rw [← hR] at HST ⊢
 have HCALL : Hid (Calls Tryz.prog 108 #[ptr b] w fun r w' => ∃ j : Int, r = .returned (.int .i64 j) ∧ PairS base w w' b s m d 124 9 nx R j) := zz ((hg k n v L w h hn hl hm hbase hv).mono fun r w' hq => by
  obtain ⟨j, h1, h2⟩ := out_j hq
  exact ⟨j, h1, HST.o w' j h2⟩)
 clear h hg he hk hn hl hm hbase hv hR HST; go_enter Tryz.func107, Tryz.ntmps107; go_upto_region 2 with (go_at_call 108; refine HCALL.o.mono ?_; rintro r w2 ⟨j, rfl, hp⟩; have HP := zz hp; clear hp)
 go_loopw [9] (fun s9 wr => ∃ j : Int, s9 = .int .i64 j ∧ Hid (PairS base w wr b s m d 124 9 nx R j)) (fun _ wr => prM b s.size wr)
 case atStart => exact ⟨j, rfl, HP⟩
 case round =>
  clear HP HCALL; obtain ⟨left, rfl, hps⟩ := hrel; rcases hps.o with ⟨K, k0, n0, v0, L0, g1, g2, g3, g4, g5, g6, g7⟩ | ⟨k0, d0, n0, v0, L0, e0, a0, g1, g2, g3, g4⟩
  ·clear hps
   have hkb := g1.kb; have H0 := zz g1; have HB0 := zz g7; have HN0 := zz g2; have HL0 := zz g3; have HM0 := zz g4; have HRK := zz g6; have HSZ : Hid (base ≤ wr.heap.size) := zz (Nat.le_trans HBS.o g7.size); have HVR : Hid (ErrB base wr) := zz (HV.o.below g7); have HMS : Hid (prM b s.size wr = 1 + (s.size - k0)) := zz (prM_good g1); have c5 := g1.c5; have c6 := g1.c6; obtain ⟨K, rfl⟩ : ∃ K', K = K' + 1 := ⟨K - 1, by omega⟩; have HKK := zz g5; clear g1 g2 g3 g4 g5 g6 g7; obtain ⟨k1, hk1⟩ : ∃ k1, k1 = skip s k0 := ⟨_, rfl⟩; obtain ⟨k2, hk2⟩ : ∃ k2, k2 = isK s ⟨#[124]⟩ k0 := ⟨_, rfl⟩; have HK1 := zz hk1; have HK2 := zz hk2; have HSK := zz (isB_skip (p := ⟨#[124]⟩) hkb); have HBL : Hid (∀ wx, Prs base wx b s k0 d n0 v0 L0 0 0 → Calls Tryz.prog 87 #[ptr b] wx fun r w' => r = .returned (.tuple #[]) ∧ Prs base w' b s k1 d n0 v0 L0 0 0 ∧ Onb b wx w') := zz (fun wx hx => by rw [hk1]; exact blanks_any base b s k0 d n0 v0 L0 0 0 wx hx); cases hq : isB s ⟨#[124]⟩ k0
   ·have HRR : Hid (R = .ok (left, ⟨n0, L0, rest s k2⟩)) := zz (by rw [← HRK.o, loopP_stop hkb hq, hk2])
    have HIS : Hid (∀ wx, Prs base wx b s k1 d n0 v0 L0 0 0 → Calls Tryz.prog 116 #[ptr b, .string ⟨#[124]⟩] wx fun r w' => r = .returned (.bool false) ∧ Prs base w' b s k2 d n0 v0 L0 0 0 ∧ Onb b wx w') := zz (fun wx hx => by
     have := is_any base b s k1 d n0 v0 L0 0 0 ⟨#[124]⟩ wx hx (by decide); rw [hk1, HSK.o.1, HSK.o.2, hq, ← hk2] at this; rw [hk1] at hx
     exact this)
    clear hq hk1 hk2; go_upto_region 4 with (go_at_call 87; refine (HBL.o _ H0.o).mono ?_; rintro r w3 ⟨rfl, hx, hf⟩; have H3 := zz hx; have HO3 : Hid (Onb b wr w3) := zz hf; clear hx hf); have c1 := H3.o.c1; go_wp2_with (go_at_call 116; refine (HIS.o _ H3.o).mono ?_; rintro r w4 ⟨rfl, hx, hf⟩; have H4 := zz hx; have HO4 : Hid (Onb b wr w4) := zz (HO3.o.then hf); clear hx hf); go_ret; exact out_ok HRR.o H4.o (HB0.o.trans (onb_below HO4.o H0.o.hb HSZ.o))
   ·have HFAR := zz (isK_far hkb hq)
    rw [← hk2] at HFAR; have HLP := zz (loopP_go (n := n0) (K := K) (L := L0) (kd := 9) (nx := nx) (left := left) hkb hq); rw [HRK.o, ← hk1, ← hk2] at HLP
    have HIS : Hid (∀ wx, Prs base wx b s k1 d n0 v0 L0 0 0 → Calls Tryz.prog 116 #[ptr b, .string ⟨#[124]⟩] wx fun r w' => r = .returned (.bool true) ∧ Prs base w' b s k2 d n0 v0 L0 0 0 ∧ Onb b wx w') := zz (fun wx hx => by
     have := is_any base b s k1 d n0 v0 L0 0 0 ⟨#[124]⟩ wx hx (by decide); rw [hk1, HSK.o.1, HSK.o.2, hq, ← hk2] at this; rw [hk1] at hx
     exact this)
    clear hq hk1 hk2; go_upto_region 4 with (go_at_call 87; refine (HBL.o _ H0.o).mono ?_; rintro r w3 ⟨rfl, hx, hf⟩; have H3 := zz hx; have HO3 : Hid (Onb b wr w3) := zz hf; clear hx hf); have c1 := H3.o.c1
    by_cases h64 : 64 < n0 + 1
    ·have q1 : (64 : Int) < (n0 : Int) + 1 := by omega
     have HEQ : Hid ((if 64 < (n0 : Int) + 1 then (3 : Int) else 0) = 3 ∧ (if 64 < (n0 : Int) + 1 then (k1 : Int) else 0) = (k1 : Int)) := zz ⟨if_pos q1, if_pos q1⟩; have HRR : Hid (R = .error (3, (k1 : Int))) := zz (by rw [HLP.o, if_pos h64]); clear h64 q1
     go_upto_region 7 with (first
      | (go_at_call 116; refine (HIS.o _ H3.o).mono ?_; rintro r w4 ⟨rfl, hx, hf⟩; have H4 := zz hx; have HO4 : Hid (Onb b wr w4) := zz (HO3.o.then hf); clear hx hf)
      | (go_at_call 117; refine (count_any base b s k2 d n0 v0 L0 (k1 : Int) _ H4.o (by have := HN0.o; omega)).mono ?_; rw [HEQ.o.1, HEQ.o.2]; rintro r w5 ⟨rfl, hx, hf⟩; have H5 := zz hx; have HO5 : Hid (Onb b wr w5) := zz (HO4.o.then hf); clear hx hf))
     have HB5 : Hid (Below base wr w5) := zz (onb_below HO5.o H0.o.hb HSZ.o); have HZ5 : Hid (base ≤ w5.heap.size) := zz (Nat.le_trans HSZ.o HB5.o.size); have HCL : Hid (Calls Tryz.prog 108 #[ptr b] w5 fun r w' => ∃ j : Int, r = .returned (.int .i64 j) ∧ OutS base w5 w' b s 0 (.error (3, (k1 : Int))) j) := zz ((HE.o k2 d _ v0 L0 3 (k1 : Int) w5 H5.o (by decide) HZ5.o).mono fun r w' hq => out_j hq); go_upto_region 8 with (go_at_call 108; refine HCL.o.mono ?_; rintro r w6 ⟨j, rfl, hq⟩; have HQ6 := zz hq; clear hq); obtain ⟨⟨k6, d6, n6, v6, L6, hp6⟩, hb6⟩ := HQ6.o; have H6 := zz hp6; have HB6 : Hid (Below base wr w6) := zz (HB5.o.trans hb6); clear hp6 hb6 HQ6; go_wp2_with (go_at_call 118; refine (node_bad base b s k6 d6 n6 v6 L6 3 (k1 : Int) ⟨9, [], [], 0, left, j⟩ _ H6.o (by decide)).mono ?_; rintro r w7 ⟨rfl, hx, hf⟩; have H7 := zz hx; have HB7 : Hid (Below base wr w7) := zz (HB6.o.trans (onb_below hf H0.o.hb (Nat.le_trans HSZ.o HB6.o.size))); clear hx hf); go_roundw
     case rel => exact ⟨-1, rfl, zz (.inr ⟨k6, d6, n6, v6, L6, 3, (k1 : Int), H7.o, by decide, HRR.o, HB0.o.trans HB7.o⟩)⟩
     case measure =>
      rw [prM_bad H7.o (by decide), HMS.o]; omega
    ·have q1 : ¬ (64 : Int) < (n0 : Int) + 1 := by omega
     have HEQ : Hid ((if 64 < (n0 : Int) + 1 then (3 : Int) else 0) = 0 ∧ (if 64 < (n0 : Int) + 1 then (k1 : Int) else 0) = 0) := zz ⟨if_neg q1, if_neg q1⟩; have HLQ := HLP.o; rw [if_neg h64] at HLQ; have HN1 : Hid (n0 + 1 ≤ 64) := zz (by omega); clear h64 q1
     go_upto_region 7 with (first
      | (go_at_call 116; refine (HIS.o _ H3.o).mono ?_; rintro r w4 ⟨rfl, hx, hf⟩; have H4 := zz hx; have HO4 : Hid (Onb b wr w4) := zz (HO3.o.then hf); clear hx hf)
      | (go_at_call 117; refine (count_any base b s k2 d n0 v0 L0 (k1 : Int) _ H4.o (by have := HN0.o; omega)).mono ?_; rw [HEQ.o.1, HEQ.o.2]; rintro r w5 ⟨rfl, hx, hf⟩; have H5 := zz hx; have HO5 : Hid (Onb b wr w5) := zz (HO4.o.then hf); clear hx hf))
     have HB5 : Hid (Below base wr w5) := zz (onb_below HO5.o H0.o.hb HSZ.o); have HZ5 : Hid (base ≤ w5.heap.size) := zz (Nat.le_trans HSZ.o HB5.o.size); have HCL : Hid (Calls Tryz.prog 108 #[ptr b] w5 fun r w' => ∃ j : Int, r = .returned (.int .i64 j) ∧ OutS base w5 w' b s d (nx ⟨n0 + 1, L0, rest s k2⟩) j) := zz ((HG.o k2 (n0 + 1) v0 L0 w5 (by have := H5.o; push_cast; exact this) HN1.o (by have := HL0.o; omega) (by have := HM0.o; have := HFAR.o; omega) HZ5.o (HVR.o.below HB5.o)).mono fun r w' hq => out_j hq); cases hX : nx ⟨n0 + 1, L0, rest s k2⟩
     case error e =>
      rw [hX] at HCL HLQ; simp only at HLQ; have HE0 : Hid (e.1 ≠ 0) := zz (HK.o.err _ _ _ e (by rw [rest_len]; have := HM0.o; have := HFAR.o; omega) (by rw [rest_len]; omega) hX); have HRR : Hid (R = .error e) := zz HLQ; clear HLP HLQ hX; go_upto_region 8 with (go_at_call 108; refine HCL.o.mono ?_; rintro r w6 ⟨j, rfl, hq⟩; have HQ6 := zz hq; clear hq); obtain ⟨⟨k6, d6, n6, v6, L6, hp6⟩, hb6⟩ := HQ6.o; have H6 := zz hp6; have HB6 : Hid (Below base wr w6) := zz (HB5.o.trans hb6); clear hp6 hb6 HQ6; go_wp2_with (go_at_call 118; refine (node_bad base b s k6 d6 n6 v6 L6 e.1 e.2 ⟨9, [], [], 0, left, j⟩ _ H6.o HE0.o).mono ?_; rintro r w7 ⟨rfl, hx, hf⟩; have H7 := zz hx; have HB7 : Hid (Below base wr w7) := zz (HB6.o.trans (onb_below hf H0.o.hb (Nat.le_trans HSZ.o HB6.o.size))); clear hx hf); go_roundw
      case rel => exact ⟨-1, rfl, zz (.inr ⟨k6, d6, n6, v6, L6, e.1, e.2, H7.o, HE0.o, HRR.o, HB0.o.trans HB7.o⟩)⟩
      case measure =>
       rw [prM_bad H7.o HE0.o, HMS.o]; omega
     case ok q =>
      rw [hX] at HCL HLQ; simp only at HLQ; have HCN := zz (HK.o.cnt _ _ _ q.1 q.2 hX); have HLN := zz (HK.o.len _ _ _ q.1 q.2 hX); have HRR := zz HLQ; clear HLP HLQ hX; go_upto_region 8 with (go_at_call 108; refine HCL.o.mono ?_; rintro r w6 ⟨j, rfl, hq⟩; have HQ6 := zz hq; clear hq); obtain ⟨hj6, ⟨k6, v6, hr6, hp6⟩, hb6⟩ := HQ6.o; have HJ := zz hj6; have HR6 := zz hr6; have H6 := zz hp6; have HB6 : Hid (Below base wr w6) := zz (HB5.o.trans hb6); have HZ6 : Hid (base ≤ w6.heap.size) := zz (Nat.le_trans HSZ.o HB6.o.size)
      have HLL : Hid (q.2.L.length + 1 ≤ 64 ∧ q.2.L.length + 1 ≤ q.2.n ∧ s.size - k6 ≤ s.size - k2) := zz (by
       have e1 := HCN.o; have e2 := HL0.o; have e3 := HLN.o; rw [hr6, rest_len, rest_len] at e3
       omega)
      clear hj6 hr6 hp6 hb6 HQ6; go_wp2_with (go_at_call 118; refine (node_ok base b s k6 d q.2.n v6 q.2.L ⟨9, [], [], 0, left, j⟩ _ H6.o (by have := HLL.o; omega) HZ6.o).mono ?_; rintro r w7 ⟨rfl, hx⟩; have H7 := zz hx; clear hx); have HB7 : Hid (Below base wr w7) := zz (HB6.o.trans (H7.o.below H6.o HZ6.o)); obtain ⟨v7, h7, -, -⟩ := H7.o; have HP7 := zz h7; clear h7; go_roundw
      case rel =>
       refine ⟨(q.2.L.length : Int), rfl, zz (.inl ⟨K, k6, q.2.n, v7, _, HP7.o, HCN.o.1, ?_, ?_, ?_, ?_, HB0.o.trans HB7.o⟩)⟩
       ·have := HLL.o; rw [List.length_append]; simp only [List.length_cons, List.length_nil]; omega
       ·have := HLL.o; have := HM0.o; have := HFAR.o; omega
       ·have := HLL.o; have := HKK.o; have := HFAR.o; omega
       ·rw [HRR.o, ← HR6.o, HJ.o]
      case measure =>
       rw [prM_good HP7.o, HMS.o]; have := HLL.o; have := HFAR.o; omega
  ·clear hps
   have H0 := zz g1; have HRR := zz g3; have HB0 := zz g4; have c5 := g1.c5; have c6 := g1.c6; have t1 : (e0 == 0) = false := by simpa using g2
   clear g1 g2 g3 g4; go_wp2; go_ret; exact out_err HRR.o H0.o HB0.o _
theorem got_cnt {n : Nat} {L : List Nd} {t : Tr} {i : Int} {s : Ps} (h : Got n L t i s) : s.n ≤ 64 ∧ s.L.length + n = L.length + s.n := by
 refine ⟨h.most, ?_⟩; rw [h.L, h.n, List.length_append, t.flat_len]
 omega
theorem kp_not (N F d : Nat) (hd : d ≤ 32) : Kp N F (notP N F d) where
 len := fun n L r i s h => by obtain ⟨t, -, -, h3⟩ := notP_is N F d hd n L r i s h; exact h3
 cnt := fun n L r i s h => by obtain ⟨t, -, h2, -⟩ := notP_is N F d hd n L r i s h; exact got_cnt h2
 err := fun n L r e hr hN h => by
  have := (notP_err N F d hd n L r e hr hN h).1
  omega
theorem kp_and (N F d : Nat) (hd : d ≤ 32) (hFN : F ≤ N + 1) : Kp N F (andP N F d) where
 len := fun n L r i s h => by obtain ⟨t, -, -, h3⟩ := andP_is (notP_is N F d hd) n L r i s h; exact h3
 cnt := fun n L r i s h => by obtain ⟨t, -, h2, -⟩ := andP_is (notP_is N F d hd) n L r i s h; exact got_cnt h2
 err := fun n L r e hr hN h => by
  have := (pairsP_err (M := F - 1) (fun n L r e hr h => notP_err N F d hd n L r e (by omega) (by omega) h) (fun n L r i s h => notP_len hd L r i s h) (by omega) n L r e (by omega) h).1
  omega
theorem kp_or (N F d : Nat) (hd : d ≤ 32) : Kp N F (orP N F d) where
 len := fun n L r i s h => by obtain ⟨t, -, -, h3⟩ := orP_is (notP_is N F d hd) n L r i s h; exact h3
 cnt := fun n L r i s h => by obtain ⟨t, -, h2, -⟩ := orP_is (notP_is N F d hd) n L r i s h; exact got_cnt h2
 err := fun n L r e hr hN h => by
  have := (orP_err hd hr hN h).1
  omega
section
variable {s : ByteArray} {k n F d : Nat} {L : List Nd}
theorem notP_no (hk : k ≤ s.size) (h : isB s ⟨#[33]⟩ k = true) : notP s.size (F + 1) d ⟨n, L, rest s k⟩ =
  if 32 < d + 1 then .error (3, (skip s k : Int)) else if 64 < n + 1 then .error (3, (skip s k : Int)) else
   match notP s.size F (d + 1) ⟨n + 1, L, rest s (isK s ⟨#[33]⟩ k)⟩ with
   | .error e => .error e
   | .ok q => .ok (put q.2.n q.2.L q.2.r ⟨7, [], [], 0, q.1, -1⟩) := by
 have h1 := (is_facts (p := ⟨#[33]⟩) hk).2.1 h; obtain ⟨-, g2, g3, -, -⟩ := skip_is hk
 conv => lhs; unfold notP
 simp only
 rw [show strip [33] (blk (rest s k)) = some (rest s (isK s ⟨#[33]⟩ k)) from h1]
 simp only
 rw [g3, pos_rest g2]
 by_cases hh : 32 < d + 1
 ·rw [if_pos hh, if_pos hh]
 rw [if_neg hh, if_neg hh]
 by_cases hh : 64 < n + 1
 ·rw [if_pos hh, if_pos hh]
 rw [if_neg hh, if_neg hh]; cases notP s.size F (d + 1) ⟨n + 1, L, rest s (isK s ⟨#[33]⟩ k)⟩ <;> rfl
theorem notP_open (hk : k ≤ s.size) (h0 : isB s ⟨#[33]⟩ k = false) (h : isB s ⟨#[40]⟩ k = true) : notP s.size (F + 1) d ⟨n, L, rest s k⟩ =
  if 32 < d + 1 then .error (3, (skip s k : Int)) else
   match orP s.size F (d + 1) ⟨n, L, rest s (isK s ⟨#[40]⟩ k)⟩ with
   | .error e => .error e
   | .ok q => match strip [41] (blk q.2.r) with
    | some r3 => .ok (q.1, ⟨q.2.n, q.2.L, r3⟩)
    | none => .error (5, pos s.size (blk q.2.r)) := by
 have h1 := (is_facts (p := ⟨#[40]⟩) hk).2.1 h; have h2 := ((is_facts (p := ⟨#[33]⟩) hk).2.2 h0).1; obtain ⟨-, g2, g3, -, -⟩ := skip_is hk
 conv => lhs; unfold notP
 simp only
 rw [show strip [33] (blk (rest s k)) = none from h2, show strip [40] (blk (rest s k)) = some (rest s (isK s ⟨#[40]⟩ k)) from h1]
 simp only
 rw [g3, pos_rest g2]
 by_cases hh : 32 < d + 1
 ·rw [if_pos hh, if_pos hh]
 rw [if_neg hh, if_neg hh]
 unfold orP andP
 cases pairsP s.size 124 9 (pairsP s.size 38 8 (notP s.size F (d + 1))) ⟨n, L, rest s (isK s ⟨#[40]⟩ k)⟩ with
 | error e => rfl
 | ok q =>
  simp only
  cases strip [41] (blk q.2.r) <;> rfl
theorem notP_leaf (hk : k ≤ s.size) (h0 : isB s ⟨#[33]⟩ k = false) (h : isB s ⟨#[40]⟩ k = false) : notP s.size (F + 1) d ⟨n, L, rest s k⟩ = leafP s.size ⟨n, L, rest s (skip s k)⟩ := by
 have h1 := ((is_facts (p := ⟨#[40]⟩) hk).2.2 h).1; have h2 := ((is_facts (p := ⟨#[33]⟩) hk).2.2 h0).1; obtain ⟨-, g2, g3, -, -⟩ := skip_is hk
 conv => lhs; unfold notP
 simp only
 rw [show strip [33] (blk (rest s k)) = none from h2, show strip [40] (blk (rest s k)) = none from h1]
 simp only
 rw [g3]
end
theorem out_of {base : Nat} {w w' : World} {b : Nat} {s : ByteArray} {d : Int} {R : PR} {j : Int} (h : OutS base w w' b s d R j) : Out base w w' b s d R (.returned (.int .i64 j)) := by
 cases R with
 | ok q => obtain ⟨rfl, h2, h3⟩ := h; exact ⟨rfl, h2, h3⟩
 | error e => exact ⟨⟨j, rfl⟩, h.1, h.2⟩
theorem is_at (base b : Nat) (s : ByteArray) (k : Nat) (d n : Int) (v : Value) (L : List Nd) (e a : Int) (p : ByteArray) (w : World) (hk : k ≤ s.size) (h : Prs base w b s (skip s k) d n v L e a) (hp : p.size ≤ 100) :
  Calls Tryz.prog 116 #[ptr b, .string p] w fun r w' => r = .returned (.bool (isB s p k)) ∧ Prs base w' b s (isK s p k) d n v L e a ∧ Onb b w w' := by
 have := is_any base b s (skip s k) d n v L e a p w h hp; rw [(isB_skip hk).1, (isB_skip hk).2] at this; exact this
theorem and_any (base b : Nat) (s : ByteArray) (m d : Nat) (nx : Ps → PR) (hg : Rd base b s m 119 d nx) (he : RdE base b s 119) (hk : Kp s.size m nx) : Rd base b s m 108 d (pairsP s.size 38 8 nx) := by
 unfold Rd
 intro k n v L w h hn hl hm hbase hv; have HC : Hid (Calls Tryz.prog 107 #[ptr b, .string ⟨#[38]⟩, .int .i64 8, .func (.func 119) #[ptr b] #[]] w fun r w' => ∃ j : Int, r = .returned (.int .i64 j) ∧ OutS base w w' b s d (pairsP s.size 38 8 nx ⟨n, L, rest s k⟩) j) := zz ((pairs_and base b s m d nx hg he hk k n v L w h hn hl hm hbase hv).mono fun r w' hq => out_j hq); clear h hg he hk hn hl hm hbase hv; go_enter Tryz.func108, Tryz.ntmps108; go_wp2_with (go_at_call 107; refine HC.o.mono ?_; rintro r w2 ⟨j, rfl, hq⟩; have HQ := zz hq; clear hq); go_ret; exact out_of HQ.o
theorem and_err (base b : Nat) (s : ByteArray) (he : RdE base b s 119) : RdE base b s 108 := by
 unfold RdE
 intro k d n v L e a w h h0 hbase; have HC : Hid (Calls Tryz.prog 119 #[ptr b] w fun r w' => ∃ j : Int, r = .returned (.int .i64 j) ∧ OutS base w w' b s 0 (.error (e, a)) j) := zz ((he k d n v L e a w h h0 hbase).mono fun r w' hq => out_j hq)
 have HP : Hid (Calls Tryz.prog 107 #[ptr b, .string ⟨#[38]⟩, .int .i64 8, .func (.func 119) #[ptr b] #[]] w fun r w' => ∃ j : Int, r = .returned (.int .i64 j) ∧ OutS base w w' b s 0 (.error (e, a)) j) := zz (by
  have t1 : (e == 0) = false := by simpa using h0
  clear h he hbase; go_enter Tryz.func107, Tryz.ntmps107; go_upto_region 2 with (go_at_call 119; refine HC.o.mono ?_; rintro r w2 ⟨j, rfl, hq⟩; have HQ := zz hq; clear hq)
  go_loopw [9] (fun s9 wr => ∃ j : Int, s9 = .int .i64 j ∧ Hid (OutS base w wr b s 0 (.error (e, a)) j)) (fun _ wr => 0)
  case atStart => exact ⟨j, rfl, HQ⟩
  case round =>
   clear HQ; obtain ⟨left, rfl, hps⟩ := hrel; obtain ⟨⟨k6, d6, n6, v6, L6, hp6⟩, hb6⟩ := hps.o; simp only at hp6; have c5 := hp6.c5; have c6 := hp6.c6; clear hp6 hb6; go_wp2; go_ret
   exact ⟨left, rfl, hps.o⟩)
 clear HC h h0 he hbase; go_enter Tryz.func108, Tryz.ntmps108; go_wp2_with (go_at_call 107; refine HP.o.mono ?_; rintro r w2 ⟨j, rfl, hq⟩; have HQ := zz hq; clear hq); go_ret; exact out_of HQ.o
theorem or_any (base b : Nat) (s : ByteArray) (m d : Nat) (nx : Ps → PR) (hg : Rd base b s m 108 d nx) (he : RdE base b s 108) (hk : Kp s.size m nx) : Rd base b s m 86 d (pairsP s.size 124 9 nx) := by
 unfold Rd
 intro k n v L w h hn hl hm hbase hv; have HC : Hid (Calls Tryz.prog 107 #[ptr b, .string ⟨#[124]⟩, .int .i64 9, .func (.func 108) #[ptr b] #[]] w fun r w' => ∃ j : Int, r = .returned (.int .i64 j) ∧ OutS base w w' b s d (pairsP s.size 124 9 nx ⟨n, L, rest s k⟩) j) := zz ((pairs_or base b s m d nx hg he hk k n v L w h hn hl hm hbase hv).mono fun r w' hq => out_j hq); clear h hg he hk hn hl hm hbase hv; go_enter Tryz.func86, Tryz.ntmps86; go_wp2_with (go_at_call 107; refine HC.o.mono ?_; rintro r w2 ⟨j, rfl, hq⟩; have HQ := zz hq; clear hq); go_ret; exact out_of HQ.o
theorem out_trans {base : Nat} {w w1 w' : World} {b : Nat} {s : ByteArray} {d : Int} {R : PR} {r : Ending} (h1 : Below base w w1) (h : Out base w1 w' b s d R r) : Out base w w' b s d R r := by
 cases R with
 | ok q => exact ⟨h.1, h.2.1, h1.trans h.2.2⟩
 | error e => exact ⟨h.1, h.2.1, h1.trans h.2.2⟩
theorem not_err (base b : Nat) (s : ByteArray) : RdE base b s 119 := by
 unfold RdE
 intro k d n v L e a w h h0 hbase; have H := zz h; have HBS := zz hbase; have t1 : (e == 0) = false := by simpa using h0
 clear h hbase; go_enter Tryz.func119, Tryz.ntmps119; go_upto_region 2 with (go_at_call 87; refine (blanks_any base b s k d n v L e a _ H.o).mono ?_; rintro r w2 ⟨rfl, h2, hf⟩; have H2 := zz h2; have HO2 : Hid (Onb b w w2) := zz hf; clear h2 hf); have c1 := H2.o.c1; have c5 := H2.o.c5; have c6 := H2.o.c6; go_wp2; go_ret; exact out_err rfl H2.o (onb_below HO2.o H.o.hb HBS.o) _
theorem not_step (base b : Nat) (s : ByteArray) (F d : Nat) (hd : d ≤ 32) (hF : F ≤ s.size) (hno : d + 1 ≤ 32 → Rd base b s F 119 (d + 1) (notP s.size F (d + 1))) (hor : d + 1 ≤ 32 → Rd base b s F 86 (d + 1) (orP s.size F (d + 1))) : Rd base b s (F + 1) 119 d (notP s.size (F + 1) d) := by
 unfold Rd
 intro k n v L w h hn hl hm hbase hv; have hkb := h.kb; have HNO := zz hno; have HOR := zz hor; have H := zz h; have HBS := zz hbase; have HV := zz hv; have HM := zz hm; have HL := zz hl; have HN := zz hn; have HD := zz hd; obtain ⟨R, hR⟩ : ∃ R, R = notP s.size (F + 1) d ⟨n, L, rest s k⟩ := ⟨_, rfl⟩; rw [← hR]; obtain ⟨k1, hk1⟩ : ∃ k1, k1 = skip s k := ⟨_, rfl⟩; have HK1 := zz hk1; have HRE := zz hR; have HBL : Hid (∀ wx, Prs base wx b s k d n v L 0 0 → Calls Tryz.prog 87 #[ptr b] wx fun r w' => r = .returned (.tuple #[]) ∧ Prs base w' b s k1 d n v L 0 0 ∧ Onb b wx w') := zz (fun wx hx => by rw [hk1]; exact blanks_any base b s k d n v L 0 0 wx hx); clear h hno hor hbase hv hl hm hd hk1 hR; go_enter Tryz.func119, Tryz.ntmps119; go_upto_region 2 with (go_at_call 87; refine (HBL.o _ H.o).mono ?_; rintro r w2 ⟨rfl, h2, hf⟩; have H2 := zz h2; have HO2 : Hid (Onb b w w2) := zz hf; clear h2 hf); have c1 := H2.o.c1; have c5 := H2.o.c5; have c6 := H2.o.c6; go_upto_region 5 with fail; clear c1 c5 c6
 by_cases hdeep : 32 < d + 1
 ·have q2 : ¬ ((d : Int) + 1 ≤ 32) := by omega
  have HIE : Hid (decide ((d : Int) + 1 ≤ 32) = false ∧ (if (d : Int) + 1 ≤ 32 then (0 : Int) else 3) = 3 ∧ (if (d : Int) + 1 ≤ 32 then 0 else (k1 : Int)) = (k1 : Int)) := zz ⟨decide_eq_false q2, if_neg q2, if_neg q2⟩; have HDP := zz hdeep; have HDI : Hid (0 ≤ (d : Int) ∧ (d : Int) ≤ 100) := zz (by have := HD.o; omega); clear q2 hdeep; cases hq0 : isB s ⟨#[33]⟩ k
  case true =>
   obtain ⟨k2, hk2⟩ : ∃ k2, k2 = isK s ⟨#[33]⟩ k := ⟨_, rfl⟩
   have HI0 : Hid (∀ wx, Prs base wx b s k1 d n v L 0 0 → Calls Tryz.prog 116 #[ptr b, .string ⟨#[33]⟩] wx fun r w' => r = .returned (.bool true) ∧ Prs base w' b s k2 d n v L 0 0 ∧ Onb b wx w') := zz (fun wx hx => by
    rw [HK1.o] at hx; have := is_at base b s k d n v L 0 0 ⟨#[33]⟩ wx hkb hx (by decide); rw [hq0, ← hk2] at this
    exact this)
   have HRR : Hid (R = .error (3, (k1 : Int))) := zz (by rw [HRE.o, notP_no hkb hq0, if_pos HDP.o, HK1.o]); clear hq0 hk2; go_wp2_with (first | (go_at_call 116; refine (HI0.o _ H2.o).mono ?_; rintro r wi ⟨rfl, hx, hf⟩; have H4 := zz hx; have HO4 : Hid (Onb b w wi) := zz (HO2.o.then hf); clear hx hf) | (go_at_call 129; refine (in_any base b s k2 d n v L (k1 : Int) _ H4.o HDI.o).mono ?_; rw [HIE.o.1, HIE.o.2.1, HIE.o.2.2]; rintro r w5 ⟨rfl, hx, hf⟩; have H5 := zz hx; have HO5 : Hid (Onb b w w5) := zz (HO4.o.then hf); clear hx hf)); go_ret; exact out_err HRR.o H5.o (onb_below HO5.o H.o.hb HBS.o) _
  case false =>
  cases hq1 : isB s ⟨#[40]⟩ k
  case true =>
   obtain ⟨k2, hk2⟩ : ∃ k2, k2 = isK s ⟨#[40]⟩ k := ⟨_, rfl⟩
   have HI0 : Hid (∀ wx, Prs base wx b s k1 d n v L 0 0 → Calls Tryz.prog 116 #[ptr b, .string ⟨#[33]⟩] wx fun r w' => r = .returned (.bool false) ∧ Prs base w' b s k1 d n v L 0 0 ∧ Onb b wx w') := zz (fun wx hx => by
    rw [HK1.o] at hx; have := is_at base b s k d n v L 0 0 ⟨#[33]⟩ wx hkb hx (by decide); rw [hq0, show isK s ⟨#[33]⟩ k = k1 from by rw [HK1.o]; exact (strip_no hkb hq0).2] at this
    exact this)
   have HI1 : Hid (∀ wx, Prs base wx b s k1 d n v L 0 0 → Calls Tryz.prog 116 #[ptr b, .string ⟨#[40]⟩] wx fun r w' => r = .returned (.bool true) ∧ Prs base w' b s k2 d n v L 0 0 ∧ Onb b wx w') := zz (fun wx hx => by
    rw [HK1.o] at hx; have := is_at base b s k d n v L 0 0 ⟨#[40]⟩ wx hkb hx (by decide); rw [hq1, ← hk2] at this
    exact this)
   have HRR : Hid (R = .error (3, (k1 : Int))) := zz (by rw [HRE.o, notP_open hkb hq0 hq1, if_pos HDP.o, HK1.o]); clear hq0 hq1 hk2; go_upto_region 12 with ((go_at_call 116; refine (HI0.o _ H2.o).mono ?_; rintro r wi ⟨rfl, hx, hf⟩; have H3 := zz hx; have HO3 : Hid (Onb b w wi) := zz (HO2.o.then hf); clear hx hf)); go_wp2_with (first | (go_at_call 116; refine (HI1.o _ H3.o).mono ?_; rintro r wi ⟨rfl, hx, hf⟩; have H4 := zz hx; have HO4 : Hid (Onb b w wi) := zz (HO3.o.then hf); clear hx hf) | (go_at_call 129; refine (in_any base b s k2 d n v L (k1 : Int) _ H4.o HDI.o).mono ?_; rw [HIE.o.1, HIE.o.2.1, HIE.o.2.2]; rintro r w5 ⟨rfl, hx, hf⟩; have H5 := zz hx; have HO5 : Hid (Onb b w w5) := zz (HO4.o.then hf); clear hx hf)); go_ret; exact out_err HRR.o H5.o (onb_below HO5.o H.o.hb HBS.o) _
  case false =>
  have HI0 : Hid (∀ wx, Prs base wx b s k1 d n v L 0 0 → Calls Tryz.prog 116 #[ptr b, .string ⟨#[33]⟩] wx fun r w' => r = .returned (.bool false) ∧ Prs base w' b s k1 d n v L 0 0 ∧ Onb b wx w') := zz (fun wx hx => by
   rw [HK1.o] at hx; have := is_at base b s k d n v L 0 0 ⟨#[33]⟩ wx hkb hx (by decide); rw [hq0, show isK s ⟨#[33]⟩ k = k1 from by rw [HK1.o]; exact (strip_no hkb hq0).2] at this
   exact this)
  have HI1 : Hid (∀ wx, Prs base wx b s k1 d n v L 0 0 → Calls Tryz.prog 116 #[ptr b, .string ⟨#[40]⟩] wx fun r w' => r = .returned (.bool false) ∧ Prs base w' b s k1 d n v L 0 0 ∧ Onb b wx w') := zz (fun wx hx => by
   rw [HK1.o] at hx; have := is_at base b s k d n v L 0 0 ⟨#[40]⟩ wx hkb hx (by decide); rw [hq1, show isK s ⟨#[40]⟩ k = k1 from by rw [HK1.o]; exact (strip_no hkb hq1).2] at this
   exact this)
  have HRR : Hid (R = leafP s.size ⟨n, L, rest s k1⟩) := zz (by rw [HRE.o, notP_leaf hkb hq0 hq1, HK1.o]); clear hq0 hq1; go_upto_region 12 with ((go_at_call 116; refine (HI0.o _ H2.o).mono ?_; rintro r wi ⟨rfl, hx, hf⟩; have H3 := zz hx; have HO3 : Hid (Onb b w wi) := zz (HO2.o.then hf); clear hx hf)); go_upto_region 20 with ((go_at_call 116; refine (HI1.o _ H3.o).mono ?_; rintro r wi ⟨rfl, hx, hf⟩; have H4 := zz hx; have HO4 : Hid (Onb b w wi) := zz (HO3.o.then hf); clear hx hf)); have HB4 : Hid (Below base w wi) := zz (onb_below HO4.o H.o.hb HBS.o); have HC : Hid (Calls Tryz.prog 130 #[ptr b] wi fun r w' => ∃ j : Int, r = .returned (.int .i64 j) ∧ OutS base wi w' b s d (leafP s.size ⟨n, L, rest s k1⟩) j) := zz ((leaf_any base b s k1 d n v L wi H4.o HN.o (by have := HL.o; have := HN.o; omega) (Nat.le_trans HBS.o HB4.o.size) (HV.o.below HB4.o).1).mono fun r w' hq => out_j hq); go_wp2_with (go_at_call 130; refine HC.o.mono ?_; rintro r w5 ⟨j, rfl, hq⟩; have HQ := zz hq; clear hq); go_ret; rw [HRR.o]; exact out_trans HB4.o (out_of HQ.o)
 ·have q2 : ((d : Int) + 1 ≤ 32) := by omega
  have HIE : Hid (decide ((d : Int) + 1 ≤ 32) = true ∧ (if (d : Int) + 1 ≤ 32 then (0 : Int) else 3) = 0 ∧ (if (d : Int) + 1 ≤ 32 then 0 else (k1 : Int)) = 0) := zz ⟨decide_eq_true q2, if_pos q2, if_pos q2⟩; have HDP : Hid (¬ 32 < d + 1) := zz hdeep; have HDI : Hid (0 ≤ (d : Int) ∧ (d : Int) ≤ 100) := zz (by have := HD.o; omega); have HD1 : Hid (d + 1 ≤ 32) := zz (by omega); clear q2 hdeep; cases hq0 : isB s ⟨#[33]⟩ k
  case true =>
   obtain ⟨k2, hk2⟩ : ∃ k2, k2 = isK s ⟨#[33]⟩ k := ⟨_, rfl⟩
   have HI0 : Hid (∀ wx, Prs base wx b s k1 d n v L 0 0 → Calls Tryz.prog 116 #[ptr b, .string ⟨#[33]⟩] wx fun r w' => r = .returned (.bool true) ∧ Prs base w' b s k2 d n v L 0 0 ∧ Onb b wx w') := zz (fun wx hx => by
    rw [HK1.o] at hx; have := is_at base b s k d n v L 0 0 ⟨#[33]⟩ wx hkb hx (by decide); rw [hq0, ← hk2] at this
    exact this)
   have HFAR := zz (isK_far hkb hq0); rw [← hk2] at HFAR; have HLP := notP_no (n := n) (F := F) (d := d) (L := L) hkb hq0; rw [← HRE.o, if_neg HDP.o, ← HK1.o, ← hk2] at HLP; clear hq0 hk2
   by_cases h64 : 64 < n + 1
   ·have q1 : (64 : Int) < (n : Int) + 1 := by omega
    have HCE : Hid ((if 64 < (n : Int) + 1 then (3 : Int) else 0) = 3 ∧ (if 64 < (n : Int) + 1 then (k1 : Int) else 0) = (k1 : Int)) := zz ⟨if_pos q1, if_pos q1⟩; have HRR : Hid (R = .error (3, (k1 : Int))) := zz (by rw [HLP, if_pos h64]); clear h64 q1 HLP; go_upto_region 9 with (first | (go_at_call 116; refine (HI0.o _ H2.o).mono ?_; rintro r wi ⟨rfl, hx, hf⟩; have H4 := zz hx; have HO4 : Hid (Onb b w wi) := zz (HO2.o.then hf); clear hx hf) | (go_at_call 129; refine (in_any base b s k2 d n v L (k1 : Int) _ H4.o HDI.o).mono ?_; rw [HIE.o.1, HIE.o.2.1, HIE.o.2.2]; rintro r w5 ⟨rfl, hx, hf⟩; have H5 := zz hx; have HO5 : Hid (Onb b w w5) := zz (HO4.o.then hf); clear hx hf) | (go_at_call 117; refine (count_any base b s k2 _ n v L (k1 : Int) _ H5.o (by have := HN.o; omega)).mono ?_; rw [HCE.o.1, HCE.o.2]; rintro r w6 ⟨rfl, hx, hf⟩; have H6 := zz hx; have HO6 : Hid (Onb b w w6) := zz (HO5.o.then hf); clear hx hf)); have HB6 : Hid (Below base w w6) := zz (onb_below HO6.o H.o.hb HBS.o); have HZ6 : Hid (base ≤ w6.heap.size) := zz (Nat.le_trans HBS.o HB6.o.size); have HCL : Hid (Calls Tryz.prog 119 #[ptr b] w6 fun r w' => ∃ j : Int, r = .returned (.int .i64 j) ∧ OutS base w6 w' b s 0 (.error (3, (k1 : Int))) j) := zz ((not_err base b s k2 _ _ v L 3 (k1 : Int) w6 H6.o (by decide) HZ6.o).mono fun r w' hq => out_j hq)
    go_upto_region 10 with (go_at_call 119; refine HCL.o.mono ?_; rintro r w7 ⟨j, rfl, hq⟩; have HQ7 := zz hq; clear hq); obtain ⟨⟨k8, d8, n8, v8, L8, hp8⟩, hb8⟩ := HQ7.o
    (try simp only at hp8)
    have H8 := zz hp8; have HB8 : Hid (Below base w w7) := zz (HB6.o.trans hb8); have c2 := hp8.c2; have f2 := hp8.fr 2; clear hp8 hb8 HQ7; go_upto_region 11 with fail; clear c2 f2; refine at_hide (F := fun w' => (∃ dd : Int, Prs base w' b s k8 dd n8 v8 L8 3 (k1 : Int)) ∧ Below base w w') ⟨⟨_, H8.o.deep _⟩, HB8.o.setCell (p := ⟨b, 2, none⟩) H.o.hb _⟩ ?_; intro w9 hF; obtain ⟨⟨dd, hdd⟩, hbb⟩ := hF; have H9 := zz hdd; have HB9 := zz hbb; clear hdd hbb; go_wp2_with (go_at_call 118; refine (node_bad base b s k8 _ n8 v8 L8 3 (k1 : Int) ⟨7, [], [], 0, j, -1⟩ _ H9.o (by decide)).mono ?_; rintro r wa ⟨rfl, hx, hf⟩; have HA := zz hx; have HBA : Hid (Below base w wa) := zz (HB9.o.trans (onb_below hf H.o.hb (Nat.le_trans HBS.o HB9.o.size))); clear hx hf); go_ret; exact out_err HRR.o HA.o HBA.o _
   ·have q1 : ¬ (64 : Int) < (n : Int) + 1 := by omega
    have HCE : Hid ((if 64 < (n : Int) + 1 then (3 : Int) else 0) = 0 ∧ (if 64 < (n : Int) + 1 then (k1 : Int) else 0) = 0) := zz ⟨if_neg q1, if_neg q1⟩; rw [if_neg h64] at HLP; have HN1 : Hid (n + 1 ≤ 64) := zz (by omega); clear h64 q1; go_upto_region 9 with (first | (go_at_call 116; refine (HI0.o _ H2.o).mono ?_; rintro r wi ⟨rfl, hx, hf⟩; have H4 := zz hx; have HO4 : Hid (Onb b w wi) := zz (HO2.o.then hf); clear hx hf) | (go_at_call 129; refine (in_any base b s k2 d n v L (k1 : Int) _ H4.o HDI.o).mono ?_; rw [HIE.o.1, HIE.o.2.1, HIE.o.2.2]; rintro r w5 ⟨rfl, hx, hf⟩; have H5 := zz hx; have HO5 : Hid (Onb b w w5) := zz (HO4.o.then hf); clear hx hf) | (go_at_call 117; refine (count_any base b s k2 _ n v L (k1 : Int) _ H5.o (by have := HN.o; omega)).mono ?_; rw [HCE.o.1, HCE.o.2]; rintro r w6 ⟨rfl, hx, hf⟩; have H6 := zz hx; have HO6 : Hid (Onb b w w6) := zz (HO5.o.then hf); clear hx hf)); have HB6 : Hid (Below base w w6) := zz (onb_below HO6.o H.o.hb HBS.o); have HZ6 : Hid (base ≤ w6.heap.size) := zz (Nat.le_trans HBS.o HB6.o.size); have HCL : Hid (Calls Tryz.prog 119 #[ptr b] w6 fun r w' => ∃ j : Int, r = .returned (.int .i64 j) ∧ OutS base w6 w' b s ((d + 1 : Nat) : Int) (notP s.size F (d + 1) ⟨n + 1, L, rest s k2⟩) j) := zz ((HNO.o HD1.o k2 (n + 1) v L w6 (by have := H6.o; push_cast; exact this) HN1.o (by have := HL.o; omega) (by have := HM.o; have := HFAR.o; omega) HZ6.o (HV.o.below HB6.o)).mono fun r w' hq => out_j hq)
    cases hX : notP s.size F (d + 1) ⟨n + 1, L, rest s k2⟩
    case error e =>
     rw [hX] at HCL HLP; simp only at HLP; have HE0 : Hid (e.1 ≠ 0) := zz ((kp_not s.size F (d + 1) HD1.o).err _ _ _ e (by rw [rest_len]; have := HM.o; have := HFAR.o; omega) (by rw [rest_len]; omega) hX); have HRR := zz HLP; clear HLP hX; go_upto_region 10 with (go_at_call 119; refine HCL.o.mono ?_; rintro r w7 ⟨j, rfl, hq⟩; have HQ7 := zz hq; clear hq); obtain ⟨⟨k8, d8, n8, v8, L8, hp8⟩, hb8⟩ := HQ7.o
     (try simp only at hp8)
     have H8 := zz hp8; have HB8 : Hid (Below base w w7) := zz (HB6.o.trans hb8); have c2 := hp8.c2; have f2 := hp8.fr 2; clear hp8 hb8 HQ7; go_upto_region 11 with fail; clear c2 f2; refine at_hide (F := fun w' => (∃ dd : Int, Prs base w' b s k8 dd n8 v8 L8 e.1 e.2) ∧ Below base w w') ⟨⟨_, H8.o.deep _⟩, HB8.o.setCell (p := ⟨b, 2, none⟩) H.o.hb _⟩ ?_; intro w9 hF; obtain ⟨⟨dd, hdd⟩, hbb⟩ := hF; have H9 := zz hdd; have HB9 := zz hbb; clear hdd hbb; go_wp2_with (go_at_call 118; refine (node_bad base b s k8 _ n8 v8 L8 e.1 e.2 ⟨7, [], [], 0, j, -1⟩ _ H9.o HE0.o).mono ?_; rintro r wa ⟨rfl, hx, hf⟩; have HA := zz hx; have HBA : Hid (Below base w wa) := zz (HB9.o.trans (onb_below hf H.o.hb (Nat.le_trans HBS.o HB9.o.size))); clear hx hf); go_ret; exact out_err HRR.o HA.o HBA.o _
    case ok q =>
     rw [hX] at HCL HLP; simp only at HLP; have HCN := zz ((kp_not s.size F (d + 1) HD1.o).cnt _ _ _ q.1 q.2 hX); have HRR := zz HLP; clear HLP hX; go_upto_region 10 with (go_at_call 119; refine HCL.o.mono ?_; rintro r w7 ⟨j, rfl, hq⟩; have HQ7 := zz hq; clear hq); obtain ⟨hj7, ⟨k7, v7, hr7, hp7⟩, hb7⟩ := HQ7.o
     push_cast at hp7
     have HJ := zz hj7; have HR7 := zz hr7; have H7 := zz hp7; have HB7 : Hid (Below base w w7) := zz (HB6.o.trans hb7); have c2 := hp7.c2; have f2 := hp7.fr 2; clear hj7 hr7 hp7 hb7 HQ7; have u1 : IntKind.i64.wrap (d : Int) = (d : Int) := by rw [IntKind.wrap_i64]; have := HD.o; omega
     go_upto_region 11 with fail; clear c2 f2; refine at_hide (F := fun w' => Prs base w' b s k7 d q.2.n v7 q.2.L 0 0 ∧ Below base w w') ⟨H7.o.deep _, HB7.o.setCell (p := ⟨b, 2, none⟩) H.o.hb _⟩ ?_; intro w9 hF; have H9 := zz hF.1; have HB9 := zz hF.2; clear hF; have HZ9 : Hid (base ≤ w9.heap.size) := zz (Nat.le_trans HBS.o HB9.o.size); go_wp2_with (go_at_call 118; refine (node_ok base b s k7 d q.2.n v7 q.2.L ⟨7, [], [], 0, j, -1⟩ _ H9.o (by have := HCN.o; have := HL.o; omega) HZ9.o).mono ?_; rintro r wa ⟨rfl, hx⟩; have HA := zz hx; clear hx); have HBA : Hid (Below base w wa) := zz (HB9.o.trans (HA.o.below H9.o HZ9.o)); go_ret; obtain ⟨v', h6, h7, h8⟩ := HA.o; exact out_ok (by rw [HRR.o, ← HJ.o, HR7.o]; rfl) h6 HBA.o
  case false =>
  cases hq1 : isB s ⟨#[40]⟩ k
  case true =>
   obtain ⟨k2, hk2⟩ : ∃ k2, k2 = isK s ⟨#[40]⟩ k := ⟨_, rfl⟩
   have HI0 : Hid (∀ wx, Prs base wx b s k1 d n v L 0 0 → Calls Tryz.prog 116 #[ptr b, .string ⟨#[33]⟩] wx fun r w' => r = .returned (.bool false) ∧ Prs base w' b s k1 d n v L 0 0 ∧ Onb b wx w') := zz (fun wx hx => by
    rw [HK1.o] at hx; have := is_at base b s k d n v L 0 0 ⟨#[33]⟩ wx hkb hx (by decide); rw [hq0, show isK s ⟨#[33]⟩ k = k1 from by rw [HK1.o]; exact (strip_no hkb hq0).2] at this
    exact this)
   have HI1 : Hid (∀ wx, Prs base wx b s k1 d n v L 0 0 → Calls Tryz.prog 116 #[ptr b, .string ⟨#[40]⟩] wx fun r w' => r = .returned (.bool true) ∧ Prs base w' b s k2 d n v L 0 0 ∧ Onb b wx w') := zz (fun wx hx => by
    rw [HK1.o] at hx; have := is_at base b s k d n v L 0 0 ⟨#[40]⟩ wx hkb hx (by decide); rw [hq1, ← hk2] at this
    exact this)
   have HFAR := zz (isK_far hkb hq1); rw [← hk2] at HFAR; have HLP := notP_open (n := n) (F := F) (d := d) (L := L) hkb hq0 hq1; rw [← HRE.o, if_neg HDP.o, ← hk2] at HLP; clear hq0 hq1 hk2; go_upto_region 12 with ((go_at_call 116; refine (HI0.o _ H2.o).mono ?_; rintro r wi ⟨rfl, hx, hf⟩; have H3 := zz hx; have HO3 : Hid (Onb b w wi) := zz (HO2.o.then hf); clear hx hf)); go_upto_region 15 with (first | (go_at_call 116; refine (HI1.o _ H3.o).mono ?_; rintro r wi ⟨rfl, hx, hf⟩; have H4 := zz hx; have HO4 : Hid (Onb b w wi) := zz (HO3.o.then hf); clear hx hf) | (go_at_call 129; refine (in_any base b s k2 d n v L (k1 : Int) _ H4.o HDI.o).mono ?_; rw [HIE.o.1, HIE.o.2.1, HIE.o.2.2]; rintro r w5 ⟨rfl, hx, hf⟩; have H5 := zz hx; have HO5 : Hid (Onb b w w5) := zz (HO4.o.then hf); clear hx hf)); have HB6 : Hid (Below base w w5) := zz (onb_below HO5.o H.o.hb HBS.o); have HZ6 : Hid (base ≤ w5.heap.size) := zz (Nat.le_trans HBS.o HB6.o.size); have HCL : Hid (Calls Tryz.prog 86 #[ptr b] w5 fun r w' => ∃ j : Int, r = .returned (.int .i64 j) ∧ OutS base w5 w' b s ((d + 1 : Nat) : Int) (orP s.size F (d + 1) ⟨n, L, rest s k2⟩) j) := zz ((HOR.o HD1.o k2 n v L w5 (by have := H5.o; push_cast; exact this) HN.o HL.o (by have := HM.o; have := HFAR.o; omega) HZ6.o (HV.o.below HB6.o)).mono fun r w' hq => out_j hq)
   cases hX : orP s.size F (d + 1) ⟨n, L, rest s k2⟩
   case error e =>
    rw [hX] at HCL HLP; simp only at HLP; have HE0 : Hid (e.1 ≠ 0) := zz ((kp_or s.size F (d + 1) HD1.o).err _ _ _ e (by rw [rest_len]; have := HM.o; have := HFAR.o; omega) (by rw [rest_len]; omega) hX); have HRR := zz HLP; clear HLP hX; go_upto_region 16 with (go_at_call 86; refine HCL.o.mono ?_; rintro r w7 ⟨j, rfl, hq⟩; have HQ7 := zz hq; clear hq); obtain ⟨⟨k8, d8, n8, v8, L8, hp8⟩, hb8⟩ := HQ7.o
    (try simp only at hp8)
    have H8 := zz hp8; have HB8 : Hid (Below base w w7) := zz (HB6.o.trans hb8); have c2 := hp8.c2; have f2 := hp8.fr 2; clear hp8 hb8 HQ7; go_upto_region 17 with fail; clear c2 f2; refine at_hide (F := fun w' => (∃ dd : Int, Prs base w' b s k8 dd n8 v8 L8 e.1 e.2) ∧ Below base w w') ⟨⟨_, H8.o.deep _⟩, HB8.o.setCell (p := ⟨b, 2, none⟩) H.o.hb _⟩ ?_; intro w9 hF; obtain ⟨⟨dd, hdd⟩, hbb⟩ := hF; have H9 := zz hdd; have HB9 := zz hbb; clear hdd hbb; have t1 : (e.1 == 0) = false := by have := HE0.o; simpa using this
    have c5 := H9.o.c5; have c6 := H9.o.c6; go_wp2; go_ret; exact out_err HRR.o H9.o HB9.o _
   case ok q =>
    rw [hX] at HCL HLP; simp only at HLP; clear hX; go_upto_region 16 with (go_at_call 86; refine HCL.o.mono ?_; rintro r w7 ⟨j, rfl, hq⟩; have HQ7 := zz hq; clear hq); obtain ⟨hj7, ⟨k7, v7, hr7, hp7⟩, hb7⟩ := HQ7.o
    push_cast at hp7
    have HJ := zz hj7; rw [hr7] at HLP; have hkb7 := hp7.kb; have H7 := zz hp7; have HB7 : Hid (Below base w w7) := zz (HB6.o.trans hb7); have c2 := hp7.c2; have f2 := hp7.fr 2; clear hj7 hr7 hp7 hb7 HQ7; have u1 : IntKind.i64.wrap (d : Int) = (d : Int) := by rw [IntKind.wrap_i64]; have := HD.o; omega
    go_upto_region 17 with fail; clear c2 f2; refine at_hide (F := fun w' => Prs base w' b s k7 d q.2.n v7 q.2.L 0 0 ∧ Below base w w') ⟨H7.o.deep _, HB7.o.setCell (p := ⟨b, 2, none⟩) H.o.hb _⟩ ?_; intro w9 hF; have H9 := zz hF.1; have HB9 := zz hF.2; clear hF; have c5 := H9.o.c5; have c6 := H9.o.c6; obtain ⟨k3, hk3⟩ : ∃ k3, k3 = isK s ⟨#[41]⟩ k7 := ⟨_, rfl⟩; cases hq3 : isB s ⟨#[41]⟩ k7
    ·have HIZ : Hid (∀ wx, Prs base wx b s k7 d q.2.n v7 q.2.L 0 0 → Calls Tryz.prog 116 #[ptr b, .string ⟨#[41]⟩] wx fun r w' => r = .returned (.bool false) ∧ Prs base w' b s k3 d q.2.n v7 q.2.L 0 0 ∧ Onb b wx w') := zz (fun wx hx => by
      have := is_any base b s k7 d q.2.n v7 q.2.L 0 0 ⟨#[41]⟩ wx hx (by decide); rw [hq3, ← hk3] at this
      exact this)
     have HRR : Hid (R = .error (5, (k3 : Int))) := zz (by
      obtain ⟨e1, e2⟩ := strip_no hkb7 hq3; obtain ⟨-, g2, g3, -, -⟩ := skip_is hkb7; rw [HLP, g3, show strip [41] (rest s (skip s k7)) = none from e1, hk3, e2]
      simp only
      rw [pos_rest g2])
     clear hk3 hq3 HLP; have HFL : Hid (flt 0 0 5 (k3 : Int) = (5, (k3 : Int))) := zz (by unfold flt; rw [if_pos ⟨rfl, rfl⟩]); go_upto_region 18 with (go_at_call 116; refine (HIZ.o _ H9.o).mono ?_; rintro r wa ⟨rfl, hx, hf⟩; have HA := zz hx; have HBA : Hid (Below base w wa) := zz (HB9.o.trans (onb_below hf H.o.hb (Nat.le_trans HBS.o HB9.o.size))); clear hx hf); have c1 := HA.o.c1; go_wp2_with (go_at_call 88; refine (fails_any base b s k3 d q.2.n v7 q.2.L 0 0 5 (k3 : Int) _ HA.o).mono ?_; rw [HFL.o]; rintro r wb ⟨rfl, hx, hf⟩; have HX := zz hx; have HBX : Hid (Below base w wb) := zz (HBA.o.trans (onb_below hf H.o.hb (Nat.le_trans HBS.o HBA.o.size))); clear hx hf); go_ret; exact out_err HRR.o HX.o HBX.o _
    ·have HIZ : Hid (∀ wx, Prs base wx b s k7 d q.2.n v7 q.2.L 0 0 → Calls Tryz.prog 116 #[ptr b, .string ⟨#[41]⟩] wx fun r w' => r = .returned (.bool true) ∧ Prs base w' b s k3 d q.2.n v7 q.2.L 0 0 ∧ Onb b wx w') := zz (fun wx hx => by
      have := is_any base b s k7 d q.2.n v7 q.2.L 0 0 ⟨#[41]⟩ wx hx (by decide); rw [hq3, ← hk3] at this
      exact this)
     have HRR : Hid (R = .ok (q.1, ⟨q.2.n, q.2.L, rest s k3⟩)) := zz (by
      obtain ⟨e1, e2⟩ := strip_yes hkb7 hq3; obtain ⟨-, g2, g3, -, -⟩ := skip_is hkb7
      rw [HLP, g3, show strip [41] (rest s (skip s k7)) = _ from e1, hk3])
     clear hk3 hq3 HLP; go_wp2_with (go_at_call 116; refine (HIZ.o _ H9.o).mono ?_; rintro r wa ⟨rfl, hx, hf⟩; have HA := zz hx; have HBA : Hid (Below base w wa) := zz (HB9.o.trans (onb_below hf H.o.hb (Nat.le_trans HBS.o HB9.o.size))); clear hx hf); go_ret; rw [HJ.o]; exact out_ok HRR.o HA.o HBA.o
  case false =>
  have HI0 : Hid (∀ wx, Prs base wx b s k1 d n v L 0 0 → Calls Tryz.prog 116 #[ptr b, .string ⟨#[33]⟩] wx fun r w' => r = .returned (.bool false) ∧ Prs base w' b s k1 d n v L 0 0 ∧ Onb b wx w') := zz (fun wx hx => by
   rw [HK1.o] at hx; have := is_at base b s k d n v L 0 0 ⟨#[33]⟩ wx hkb hx (by decide); rw [hq0, show isK s ⟨#[33]⟩ k = k1 from by rw [HK1.o]; exact (strip_no hkb hq0).2] at this
   exact this)
  have HI1 : Hid (∀ wx, Prs base wx b s k1 d n v L 0 0 → Calls Tryz.prog 116 #[ptr b, .string ⟨#[40]⟩] wx fun r w' => r = .returned (.bool false) ∧ Prs base w' b s k1 d n v L 0 0 ∧ Onb b wx w') := zz (fun wx hx => by
   rw [HK1.o] at hx; have := is_at base b s k d n v L 0 0 ⟨#[40]⟩ wx hkb hx (by decide); rw [hq1, show isK s ⟨#[40]⟩ k = k1 from by rw [HK1.o]; exact (strip_no hkb hq1).2] at this
   exact this)
  have HRR : Hid (R = leafP s.size ⟨n, L, rest s k1⟩) := zz (by rw [HRE.o, notP_leaf hkb hq0 hq1, HK1.o]); clear hq0 hq1; go_upto_region 12 with ((go_at_call 116; refine (HI0.o _ H2.o).mono ?_; rintro r wi ⟨rfl, hx, hf⟩; have H3 := zz hx; have HO3 : Hid (Onb b w wi) := zz (HO2.o.then hf); clear hx hf)); go_upto_region 20 with ((go_at_call 116; refine (HI1.o _ H3.o).mono ?_; rintro r wi ⟨rfl, hx, hf⟩; have H4 := zz hx; have HO4 : Hid (Onb b w wi) := zz (HO3.o.then hf); clear hx hf)); have HB4 : Hid (Below base w wi) := zz (onb_below HO4.o H.o.hb HBS.o); have HC : Hid (Calls Tryz.prog 130 #[ptr b] wi fun r w' => ∃ j : Int, r = .returned (.int .i64 j) ∧ OutS base wi w' b s d (leafP s.size ⟨n, L, rest s k1⟩) j) := zz ((leaf_any base b s k1 d n v L wi H4.o HN.o (by have := HL.o; have := HN.o; omega) (Nat.le_trans HBS.o HB4.o.size) (HV.o.below HB4.o).1).mono fun r w' hq => out_j hq); go_wp2_with (go_at_call 130; refine HC.o.mono ?_; rintro r w5 ⟨j, rfl, hq⟩; have HQ := zz hq; clear hq); go_ret; rw [HRR.o]; exact out_trans HB4.o (out_of HQ.o)
theorem not_all (base b : Nat) (s : ByteArray) : ∀ F, F ≤ s.size + 1 → ∀ d, d ≤ 32 → Rd base b s F 119 d (notP s.size F d)
 | 0, _, d, _ => fun k n v L w h hn hl hm => absurd hm (by omega)
 | F + 1, hF, d, hd => by
  have ih := not_all base b s F (by omega); refine not_step base b s F d hd (by omega) (fun h => ih (d + 1) h) (fun h => ?_); exact or_any base b s F (d + 1) _ (and_any base b s F (d + 1) _ (ih (d + 1) h) (not_err base b s) (kp_not s.size F (d + 1) h)) (and_err base b s (not_err base b s)) (kp_and s.size F (d + 1) h (by omega))
theorem or_all (base b : Nat) (s : ByteArray) : Rd base b s (s.size + 1) 86 0 (orP s.size (s.size + 1) 0) :=
 or_any base b s (s.size + 1) 0 _ (and_any base b s (s.size + 1) 0 _ (not_all base b s (s.size + 1) (Nat.le_refl _) 0 (by omega)) (not_err base b s) (kp_not s.size (s.size + 1) 0 (by omega))) (and_err base b s (not_err base b s)) (kp_and s.size (s.size + 1) 0 (by omega) (by omega))
