/- , laid together: RuPairs, RuAnd. -/
import Derived.Test.YtdnoceancoclmaaGreatDoorM22
namespace Go.Proofs.YtdnoceancoclmaaGreatDoor.Ru
open Go.RowKit Go.Proofs.YtdnoceancoclmaaGreatDoor

set_option maxRecDepth 100000 in
set_option maxHeartbeats 4000000 in
theorem pairs_and (base b : Nat) (s : ByteArray) (m d : Nat) (nx : Ps → PR) (hg : Rd base b s m 81 d nx) (he : RdE base b s 81) (hk : Kp s.size m nx) (k n : Nat) (v : Value) (L : List Nd) (w : World) (h : Prs base w b s k d n v L 0 0) (hn : n ≤ 64) (hl : L.length ≤ n) (hm : s.size - k < m) (hbase : base ≤ w.heap.size) (hv : ErrB base w) :
    Calls Tryz.prog 57 #[ptr b, .string ⟨#[38]⟩, .int .i64 8, .func (.func 81) #[ptr b] #[]] w fun r w' => Out base w w' b s d (pairsP s.size 38 8 nx ⟨n, L, rest s k⟩) r := by
  have HG := Lib.hid hg
  have HE := Lib.hid he
  have HK := Lib.hid hk
  have H := Lib.hid h
  have HBS := Lib.hid hbase
  have HV := Lib.hid hv
  have HST : Hid (∀ wr j, OutS base w wr b s d (nx ⟨n, L, rest s k⟩) j → PairS base w wr b s m d 38 8 nx (pairsP s.size 38 8 nx ⟨n, L, rest s k⟩) j) := Lib.hid (fun wr j hq => PairS.start hk hl hm hq)
  obtain ⟨R, hR⟩ : ∃ R, R = pairsP s.size 38 8 nx ⟨n, L, rest s k⟩ := ⟨_, rfl⟩
  rw [← hR] at HST ⊢
  have HCALL : Hid (Calls Tryz.prog 81 #[ptr b] w fun r w' => ∃ j : Int, r = .returned (.int .i64 j) ∧ PairS base w w' b s m d 38 8 nx R j) := Lib.hid ((hg k n v L w h hn hl hm hbase hv).mono fun r w' hq => by
    obtain ⟨j, h1, h2⟩ := out_j hq
    exact ⟨j, h1, HST.out w' j h2⟩)
  clear h hg he hk hn hl hm hbase hv hR HST
  go_enter Tryz.func57, Tryz.ntmps57
  go_upto_region 2 with (go_at_call 81; refine HCALL.out.mono ?_; rintro r w2 ⟨j, rfl, hp⟩; have HP := Lib.hid hp; clear hp)
  go_loopw [9] (fun s9 wr => ∃ j : Int, s9 = .int .i64 j ∧ Hid (PairS base w wr b s m d 38 8 nx R j)) (fun _ wr => prM b s.size wr)
  case atStart => exact ⟨j, rfl, HP⟩
  case round =>
    clear HP HCALL
    obtain ⟨left, rfl, hps⟩ := hrel
    rcases hps.out with ⟨K, k0, n0, v0, L0, g1, g2, g3, g4, g5, g6, g7⟩ | ⟨k0, d0, n0, v0, L0, e0, a0, g1, g2, g3, g4⟩
    · clear hps
      have hkb := g1.kb
      have H0 := Lib.hid g1
      have HB0 := Lib.hid g7
      have HN0 := Lib.hid g2
      have HL0 := Lib.hid g3
      have HM0 := Lib.hid g4
      have HRK := Lib.hid g6
      have HSZ : Hid (base ≤ wr.heap.size) := Lib.hid (Nat.le_trans HBS.out g7.size)
      have HVR : Hid (ErrB base wr) := Lib.hid (HV.out.below g7)
      have HMS : Hid (prM b s.size wr = 1 + (s.size - k0)) := Lib.hid (prM_good g1)
      have c5 := g1.c5
      have c6 := g1.c6
      obtain ⟨K, rfl⟩ : ∃ K', K = K' + 1 := ⟨K - 1, by omega⟩
      have HKK := Lib.hid g5
      clear g1 g2 g3 g4 g5 g6 g7
      obtain ⟨k1, hk1⟩ : ∃ k1, k1 = skip s k0 := ⟨_, rfl⟩
      obtain ⟨k2, hk2⟩ : ∃ k2, k2 = isK s ⟨#[38]⟩ k0 := ⟨_, rfl⟩
      have HK1 := Lib.hid hk1
      have HK2 := Lib.hid hk2
      have HSK := Lib.hid (isB_skip (p := ⟨#[38]⟩) hkb)
      have HBL : Hid (∀ wx, Prs base wx b s k0 d n0 v0 L0 0 0 → Calls Tryz.prog 37 #[ptr b] wx fun r w' => r = .returned (.tuple #[]) ∧ Prs base w' b s k1 d n0 v0 L0 0 0 ∧ Onb b wx w') := Lib.hid (fun wx hx => by rw [hk1]; exact blanks_any base b s k0 d n0 v0 L0 0 0 wx hx)
      cases hq : isB s ⟨#[38]⟩ k0
      · have HRR : Hid (R = .ok (left, ⟨n0, L0, rest s k2⟩)) := Lib.hid (by rw [← HRK.out, loopP_stop hkb hq, hk2])
        have HIS : Hid (∀ wx, Prs base wx b s k1 d n0 v0 L0 0 0 → Calls Tryz.prog 78 #[ptr b, .string ⟨#[38]⟩] wx fun r w' => r = .returned (.bool false) ∧ Prs base w' b s k2 d n0 v0 L0 0 0 ∧ Onb b wx w') := Lib.hid (fun wx hx => by
          have := is_any base b s k1 d n0 v0 L0 0 0 ⟨#[38]⟩ wx hx (by decide)
          rw [hk1, HSK.out.1, HSK.out.2, hq, ← hk2] at this
          rw [hk1] at hx
          exact this)
        clear hq hk1 hk2
        go_upto_region 4 with (go_at_call 37; refine (HBL.out _ H0.out).mono ?_; rintro r w3 ⟨rfl, hx, hf⟩; have H3 := Lib.hid hx; have HO3 : Hid (Onb b wr w3) := Lib.hid hf; clear hx hf)
        have c1 := H3.out.c1
        go_wp2_with (go_at_call 78; refine (HIS.out _ H3.out).mono ?_; rintro r w4 ⟨rfl, hx, hf⟩; have H4 := Lib.hid hx; have HO4 : Hid (Onb b wr w4) := Lib.hid (HO3.out.then hf); clear hx hf)
        go_ret
        exact out_ok HRR.out H4.out (HB0.out.trans (onb_below HO4.out H0.out.hb HSZ.out))
      · have HFAR := Lib.hid (isK_far hkb hq)
        rw [← hk2] at HFAR
        have HLP := Lib.hid (loopP_go (n := n0) (K := K) (L := L0) (kd := 8) (nx := nx) (left := left) hkb hq)
        rw [HRK.out, ← hk1, ← hk2] at HLP
        have HIS : Hid (∀ wx, Prs base wx b s k1 d n0 v0 L0 0 0 → Calls Tryz.prog 78 #[ptr b, .string ⟨#[38]⟩] wx fun r w' => r = .returned (.bool true) ∧ Prs base w' b s k2 d n0 v0 L0 0 0 ∧ Onb b wx w') := Lib.hid (fun wx hx => by
          have := is_any base b s k1 d n0 v0 L0 0 0 ⟨#[38]⟩ wx hx (by decide)
          rw [hk1, HSK.out.1, HSK.out.2, hq, ← hk2] at this
          rw [hk1] at hx
          exact this)
        clear hq hk1 hk2
        go_upto_region 4 with (go_at_call 37; refine (HBL.out _ H0.out).mono ?_; rintro r w3 ⟨rfl, hx, hf⟩; have H3 := Lib.hid hx; have HO3 : Hid (Onb b wr w3) := Lib.hid hf; clear hx hf)
        have c1 := H3.out.c1
        by_cases h64 : 64 < n0 + 1
        · have q1 : (64 : Int) < (n0 : Int) + 1 := by omega
          have HEQ : Hid ((if 64 < (n0 : Int) + 1 then (3 : Int) else 0) = 3 ∧ (if 64 < (n0 : Int) + 1 then (k1 : Int) else 0) = (k1 : Int)) := Lib.hid ⟨if_pos q1, if_pos q1⟩
          have HRR : Hid (R = .error (3, (k1 : Int))) := Lib.hid (by rw [HLP.out, if_pos h64])
          clear h64 q1
          go_upto_region 7 with (first
            | (go_at_call 78; refine (HIS.out _ H3.out).mono ?_; rintro r w4 ⟨rfl, hx, hf⟩; have H4 := Lib.hid hx; have HO4 : Hid (Onb b wr w4) := Lib.hid (HO3.out.then hf); clear hx hf)
            | (go_at_call 79; refine (count_any base b s k2 d n0 v0 L0 (k1 : Int) _ H4.out (by have := HN0.out; omega)).mono ?_; rw [HEQ.out.1, HEQ.out.2]; rintro r w5 ⟨rfl, hx, hf⟩; have H5 := Lib.hid hx; have HO5 : Hid (Onb b wr w5) := Lib.hid (HO4.out.then hf); clear hx hf))
          have HB5 : Hid (Below base wr w5) := Lib.hid (onb_below HO5.out H0.out.hb HSZ.out)
          have HZ5 : Hid (base ≤ w5.heap.size) := Lib.hid (Nat.le_trans HSZ.out HB5.out.size)
          have HCL : Hid (Calls Tryz.prog 81 #[ptr b] w5 fun r w' => ∃ j : Int, r = .returned (.int .i64 j) ∧ OutS base w5 w' b s 0 (.error (3, (k1 : Int))) j) := Lib.hid ((HE.out k2 d _ v0 L0 3 (k1 : Int) w5 H5.out (by decide) HZ5.out).mono fun r w' hq => out_j hq)
          go_upto_region 8 with (go_at_call 81; refine HCL.out.mono ?_; rintro r w6 ⟨j, rfl, hq⟩; have HQ6 := Lib.hid hq; clear hq)
          obtain ⟨⟨k6, d6, n6, v6, L6, hp6⟩, hb6⟩ := HQ6.out
          have H6 := Lib.hid hp6
          have HB6 : Hid (Below base wr w6) := Lib.hid (HB5.out.trans hb6)
          clear hp6 hb6 HQ6
          go_wp2_with (go_at_call 80; refine (node_bad base b s k6 d6 n6 v6 L6 3 (k1 : Int) ⟨8, [], [], 0, left, j⟩ _ H6.out (by decide)).mono ?_; rintro r w7 ⟨rfl, hx, hf⟩; have H7 := Lib.hid hx; have HB7 : Hid (Below base wr w7) := Lib.hid (HB6.out.trans (onb_below hf H0.out.hb (Nat.le_trans HSZ.out HB6.out.size))); clear hx hf)
          go_roundw
          case rel => exact ⟨-1, rfl, Lib.hid (.inr ⟨k6, d6, n6, v6, L6, 3, (k1 : Int), H7.out, by decide, HRR.out, HB0.out.trans HB7.out⟩)⟩
          case measure =>
            rw [prM_bad H7.out (by decide), HMS.out]; omega
        · have q1 : ¬ (64 : Int) < (n0 : Int) + 1 := by omega
          have HEQ : Hid ((if 64 < (n0 : Int) + 1 then (3 : Int) else 0) = 0 ∧ (if 64 < (n0 : Int) + 1 then (k1 : Int) else 0) = 0) := Lib.hid ⟨if_neg q1, if_neg q1⟩
          have HLQ := HLP.out
          rw [if_neg h64] at HLQ
          have HN1 : Hid (n0 + 1 ≤ 64) := Lib.hid (by omega)
          clear h64 q1
          go_upto_region 7 with (first
            | (go_at_call 78; refine (HIS.out _ H3.out).mono ?_; rintro r w4 ⟨rfl, hx, hf⟩; have H4 := Lib.hid hx; have HO4 : Hid (Onb b wr w4) := Lib.hid (HO3.out.then hf); clear hx hf)
            | (go_at_call 79; refine (count_any base b s k2 d n0 v0 L0 (k1 : Int) _ H4.out (by have := HN0.out; omega)).mono ?_; rw [HEQ.out.1, HEQ.out.2]; rintro r w5 ⟨rfl, hx, hf⟩; have H5 := Lib.hid hx; have HO5 : Hid (Onb b wr w5) := Lib.hid (HO4.out.then hf); clear hx hf))
          have HB5 : Hid (Below base wr w5) := Lib.hid (onb_below HO5.out H0.out.hb HSZ.out)
          have HZ5 : Hid (base ≤ w5.heap.size) := Lib.hid (Nat.le_trans HSZ.out HB5.out.size)
          have HCL : Hid (Calls Tryz.prog 81 #[ptr b] w5 fun r w' => ∃ j : Int, r = .returned (.int .i64 j) ∧ OutS base w5 w' b s d (nx ⟨n0 + 1, L0, rest s k2⟩) j) := Lib.hid ((HG.out k2 (n0 + 1) v0 L0 w5 (by have := H5.out; push_cast; exact this) HN1.out (by have := HL0.out; omega) (by have := HM0.out; have := HFAR.out; omega) HZ5.out (HVR.out.below HB5.out)).mono fun r w' hq => out_j hq)
          cases hX : nx ⟨n0 + 1, L0, rest s k2⟩
          case error e =>
            rw [hX] at HCL HLQ
            simp only at HLQ
            have HE0 : Hid (e.1 ≠ 0) := Lib.hid (HK.out.err _ _ _ e (by rw [rest_len]; have := HM0.out; have := HFAR.out; omega) (by rw [rest_len]; omega) hX)
            have HRR : Hid (R = .error e) := Lib.hid HLQ
            clear HLP HLQ hX
            go_upto_region 8 with (go_at_call 81; refine HCL.out.mono ?_; rintro r w6 ⟨j, rfl, hq⟩; have HQ6 := Lib.hid hq; clear hq)
            obtain ⟨⟨k6, d6, n6, v6, L6, hp6⟩, hb6⟩ := HQ6.out
            have H6 := Lib.hid hp6
            have HB6 : Hid (Below base wr w6) := Lib.hid (HB5.out.trans hb6)
            clear hp6 hb6 HQ6
            go_wp2_with (go_at_call 80; refine (node_bad base b s k6 d6 n6 v6 L6 e.1 e.2 ⟨8, [], [], 0, left, j⟩ _ H6.out HE0.out).mono ?_; rintro r w7 ⟨rfl, hx, hf⟩; have H7 := Lib.hid hx; have HB7 : Hid (Below base wr w7) := Lib.hid (HB6.out.trans (onb_below hf H0.out.hb (Nat.le_trans HSZ.out HB6.out.size))); clear hx hf)
            go_roundw
            case rel => exact ⟨-1, rfl, Lib.hid (.inr ⟨k6, d6, n6, v6, L6, e.1, e.2, H7.out, HE0.out, HRR.out, HB0.out.trans HB7.out⟩)⟩
            case measure =>
              rw [prM_bad H7.out HE0.out, HMS.out]; omega
          case ok q =>
            rw [hX] at HCL HLQ
            simp only at HLQ
            have HCN := Lib.hid (HK.out.cnt _ _ _ q.1 q.2 hX)
            have HLN := Lib.hid (HK.out.len _ _ _ q.1 q.2 hX)
            have HRR := Lib.hid HLQ
            clear HLP HLQ hX
            go_upto_region 8 with (go_at_call 81; refine HCL.out.mono ?_; rintro r w6 ⟨j, rfl, hq⟩; have HQ6 := Lib.hid hq; clear hq)
            obtain ⟨hj6, ⟨k6, v6, hr6, hp6⟩, hb6⟩ := HQ6.out
            have HJ := Lib.hid hj6
            have HR6 := Lib.hid hr6
            have H6 := Lib.hid hp6
            have HB6 : Hid (Below base wr w6) := Lib.hid (HB5.out.trans hb6)
            have HZ6 : Hid (base ≤ w6.heap.size) := Lib.hid (Nat.le_trans HSZ.out HB6.out.size)
            have HLL : Hid (q.2.L.length + 1 ≤ 64 ∧ q.2.L.length + 1 ≤ q.2.n ∧ s.size - k6 ≤ s.size - k2) := Lib.hid (by
              have e1 := HCN.out; have e2 := HL0.out; have e3 := HLN.out
              rw [hr6, rest_len, rest_len] at e3
              omega)
            clear hj6 hr6 hp6 hb6 HQ6
            go_wp2_with (go_at_call 80; refine (node_ok base b s k6 d q.2.n v6 q.2.L ⟨8, [], [], 0, left, j⟩ _ H6.out (by have := HLL.out; omega) HZ6.out).mono ?_; rintro r w7 ⟨rfl, hx⟩; have H7 := Lib.hid hx; clear hx)
            have HB7 : Hid (Below base wr w7) := Lib.hid (HB6.out.trans (H7.out.below H6.out HZ6.out))
            obtain ⟨v7, h7, -, -⟩ := H7.out
            have HP7 := Lib.hid h7
            clear h7
            go_roundw
            case rel =>
              refine ⟨(q.2.L.length : Int), rfl, Lib.hid (.inl ⟨K, k6, q.2.n, v7, _, HP7.out, HCN.out.1, ?_, ?_, ?_, ?_, HB0.out.trans HB7.out⟩)⟩
              · have := HLL.out; rw [List.length_append]; simp only [List.length_cons, List.length_nil]; omega
              · have := HLL.out; have := HM0.out; have := HFAR.out; omega
              · have := HLL.out; have := HKK.out; have := HFAR.out; omega
              · rw [HRR.out, ← HR6.out, HJ.out]
            case measure =>
              rw [prM_good HP7.out, HMS.out]
              have := HLL.out; have := HFAR.out; omega
    · clear hps
      have H0 := Lib.hid g1
      have HRR := Lib.hid g3
      have HB0 := Lib.hid g4
      have c5 := g1.c5
      have c6 := g1.c6
      have t1 : (e0 == 0) = false := by simpa using g2
      clear g1 g2 g3 g4
      go_wp2
      go_ret
      exact out_err HRR.out H0.out HB0.out _

set_option maxRecDepth 100000 in
set_option maxHeartbeats 4000000 in
theorem pairs_or (base b : Nat) (s : ByteArray) (m d : Nat) (nx : Ps → PR) (hg : Rd base b s m 58 d nx) (he : RdE base b s 58) (hk : Kp s.size m nx) (k n : Nat) (v : Value) (L : List Nd) (w : World) (h : Prs base w b s k d n v L 0 0) (hn : n ≤ 64) (hl : L.length ≤ n) (hm : s.size - k < m) (hbase : base ≤ w.heap.size) (hv : ErrB base w) :
    Calls Tryz.prog 57 #[ptr b, .string ⟨#[124]⟩, .int .i64 9, .func (.func 58) #[ptr b] #[]] w fun r w' => Out base w w' b s d (pairsP s.size 124 9 nx ⟨n, L, rest s k⟩) r := by
  have HG := Lib.hid hg
  have HE := Lib.hid he
  have HK := Lib.hid hk
  have H := Lib.hid h
  have HBS := Lib.hid hbase
  have HV := Lib.hid hv
  have HST : Hid (∀ wr j, OutS base w wr b s d (nx ⟨n, L, rest s k⟩) j → PairS base w wr b s m d 124 9 nx (pairsP s.size 124 9 nx ⟨n, L, rest s k⟩) j) := Lib.hid (fun wr j hq => PairS.start hk hl hm hq)
  obtain ⟨R, hR⟩ : ∃ R, R = pairsP s.size 124 9 nx ⟨n, L, rest s k⟩ := ⟨_, rfl⟩
  rw [← hR] at HST ⊢
  have HCALL : Hid (Calls Tryz.prog 58 #[ptr b] w fun r w' => ∃ j : Int, r = .returned (.int .i64 j) ∧ PairS base w w' b s m d 124 9 nx R j) := Lib.hid ((hg k n v L w h hn hl hm hbase hv).mono fun r w' hq => by
    obtain ⟨j, h1, h2⟩ := out_j hq
    exact ⟨j, h1, HST.out w' j h2⟩)
  clear h hg he hk hn hl hm hbase hv hR HST
  go_enter Tryz.func57, Tryz.ntmps57
  go_upto_region 2 with (go_at_call 58; refine HCALL.out.mono ?_; rintro r w2 ⟨j, rfl, hp⟩; have HP := Lib.hid hp; clear hp)
  go_loopw [9] (fun s9 wr => ∃ j : Int, s9 = .int .i64 j ∧ Hid (PairS base w wr b s m d 124 9 nx R j)) (fun _ wr => prM b s.size wr)
  case atStart => exact ⟨j, rfl, HP⟩
  case round =>
    clear HP HCALL
    obtain ⟨left, rfl, hps⟩ := hrel
    rcases hps.out with ⟨K, k0, n0, v0, L0, g1, g2, g3, g4, g5, g6, g7⟩ | ⟨k0, d0, n0, v0, L0, e0, a0, g1, g2, g3, g4⟩
    · clear hps
      have hkb := g1.kb
      have H0 := Lib.hid g1
      have HB0 := Lib.hid g7
      have HN0 := Lib.hid g2
      have HL0 := Lib.hid g3
      have HM0 := Lib.hid g4
      have HRK := Lib.hid g6
      have HSZ : Hid (base ≤ wr.heap.size) := Lib.hid (Nat.le_trans HBS.out g7.size)
      have HVR : Hid (ErrB base wr) := Lib.hid (HV.out.below g7)
      have HMS : Hid (prM b s.size wr = 1 + (s.size - k0)) := Lib.hid (prM_good g1)
      have c5 := g1.c5
      have c6 := g1.c6
      obtain ⟨K, rfl⟩ : ∃ K', K = K' + 1 := ⟨K - 1, by omega⟩
      have HKK := Lib.hid g5
      clear g1 g2 g3 g4 g5 g6 g7
      obtain ⟨k1, hk1⟩ : ∃ k1, k1 = skip s k0 := ⟨_, rfl⟩
      obtain ⟨k2, hk2⟩ : ∃ k2, k2 = isK s ⟨#[124]⟩ k0 := ⟨_, rfl⟩
      have HK1 := Lib.hid hk1
      have HK2 := Lib.hid hk2
      have HSK := Lib.hid (isB_skip (p := ⟨#[124]⟩) hkb)
      have HBL : Hid (∀ wx, Prs base wx b s k0 d n0 v0 L0 0 0 → Calls Tryz.prog 37 #[ptr b] wx fun r w' => r = .returned (.tuple #[]) ∧ Prs base w' b s k1 d n0 v0 L0 0 0 ∧ Onb b wx w') := Lib.hid (fun wx hx => by rw [hk1]; exact blanks_any base b s k0 d n0 v0 L0 0 0 wx hx)
      cases hq : isB s ⟨#[124]⟩ k0
      · have HRR : Hid (R = .ok (left, ⟨n0, L0, rest s k2⟩)) := Lib.hid (by rw [← HRK.out, loopP_stop hkb hq, hk2])
        have HIS : Hid (∀ wx, Prs base wx b s k1 d n0 v0 L0 0 0 → Calls Tryz.prog 78 #[ptr b, .string ⟨#[124]⟩] wx fun r w' => r = .returned (.bool false) ∧ Prs base w' b s k2 d n0 v0 L0 0 0 ∧ Onb b wx w') := Lib.hid (fun wx hx => by
          have := is_any base b s k1 d n0 v0 L0 0 0 ⟨#[124]⟩ wx hx (by decide)
          rw [hk1, HSK.out.1, HSK.out.2, hq, ← hk2] at this
          rw [hk1] at hx
          exact this)
        clear hq hk1 hk2
        go_upto_region 4 with (go_at_call 37; refine (HBL.out _ H0.out).mono ?_; rintro r w3 ⟨rfl, hx, hf⟩; have H3 := Lib.hid hx; have HO3 : Hid (Onb b wr w3) := Lib.hid hf; clear hx hf)
        have c1 := H3.out.c1
        go_wp2_with (go_at_call 78; refine (HIS.out _ H3.out).mono ?_; rintro r w4 ⟨rfl, hx, hf⟩; have H4 := Lib.hid hx; have HO4 : Hid (Onb b wr w4) := Lib.hid (HO3.out.then hf); clear hx hf)
        go_ret
        exact out_ok HRR.out H4.out (HB0.out.trans (onb_below HO4.out H0.out.hb HSZ.out))
      · have HFAR := Lib.hid (isK_far hkb hq)
        rw [← hk2] at HFAR
        have HLP := Lib.hid (loopP_go (n := n0) (K := K) (L := L0) (kd := 9) (nx := nx) (left := left) hkb hq)
        rw [HRK.out, ← hk1, ← hk2] at HLP
        have HIS : Hid (∀ wx, Prs base wx b s k1 d n0 v0 L0 0 0 → Calls Tryz.prog 78 #[ptr b, .string ⟨#[124]⟩] wx fun r w' => r = .returned (.bool true) ∧ Prs base w' b s k2 d n0 v0 L0 0 0 ∧ Onb b wx w') := Lib.hid (fun wx hx => by
          have := is_any base b s k1 d n0 v0 L0 0 0 ⟨#[124]⟩ wx hx (by decide)
          rw [hk1, HSK.out.1, HSK.out.2, hq, ← hk2] at this
          rw [hk1] at hx
          exact this)
        clear hq hk1 hk2
        go_upto_region 4 with (go_at_call 37; refine (HBL.out _ H0.out).mono ?_; rintro r w3 ⟨rfl, hx, hf⟩; have H3 := Lib.hid hx; have HO3 : Hid (Onb b wr w3) := Lib.hid hf; clear hx hf)
        have c1 := H3.out.c1
        by_cases h64 : 64 < n0 + 1
        · have q1 : (64 : Int) < (n0 : Int) + 1 := by omega
          have HEQ : Hid ((if 64 < (n0 : Int) + 1 then (3 : Int) else 0) = 3 ∧ (if 64 < (n0 : Int) + 1 then (k1 : Int) else 0) = (k1 : Int)) := Lib.hid ⟨if_pos q1, if_pos q1⟩
          have HRR : Hid (R = .error (3, (k1 : Int))) := Lib.hid (by rw [HLP.out, if_pos h64])
          clear h64 q1
          go_upto_region 7 with (first
            | (go_at_call 78; refine (HIS.out _ H3.out).mono ?_; rintro r w4 ⟨rfl, hx, hf⟩; have H4 := Lib.hid hx; have HO4 : Hid (Onb b wr w4) := Lib.hid (HO3.out.then hf); clear hx hf)
            | (go_at_call 79; refine (count_any base b s k2 d n0 v0 L0 (k1 : Int) _ H4.out (by have := HN0.out; omega)).mono ?_; rw [HEQ.out.1, HEQ.out.2]; rintro r w5 ⟨rfl, hx, hf⟩; have H5 := Lib.hid hx; have HO5 : Hid (Onb b wr w5) := Lib.hid (HO4.out.then hf); clear hx hf))
          have HB5 : Hid (Below base wr w5) := Lib.hid (onb_below HO5.out H0.out.hb HSZ.out)
          have HZ5 : Hid (base ≤ w5.heap.size) := Lib.hid (Nat.le_trans HSZ.out HB5.out.size)
          have HCL : Hid (Calls Tryz.prog 58 #[ptr b] w5 fun r w' => ∃ j : Int, r = .returned (.int .i64 j) ∧ OutS base w5 w' b s 0 (.error (3, (k1 : Int))) j) := Lib.hid ((HE.out k2 d _ v0 L0 3 (k1 : Int) w5 H5.out (by decide) HZ5.out).mono fun r w' hq => out_j hq)
          go_upto_region 8 with (go_at_call 58; refine HCL.out.mono ?_; rintro r w6 ⟨j, rfl, hq⟩; have HQ6 := Lib.hid hq; clear hq)
          obtain ⟨⟨k6, d6, n6, v6, L6, hp6⟩, hb6⟩ := HQ6.out
          have H6 := Lib.hid hp6
          have HB6 : Hid (Below base wr w6) := Lib.hid (HB5.out.trans hb6)
          clear hp6 hb6 HQ6
          go_wp2_with (go_at_call 80; refine (node_bad base b s k6 d6 n6 v6 L6 3 (k1 : Int) ⟨9, [], [], 0, left, j⟩ _ H6.out (by decide)).mono ?_; rintro r w7 ⟨rfl, hx, hf⟩; have H7 := Lib.hid hx; have HB7 : Hid (Below base wr w7) := Lib.hid (HB6.out.trans (onb_below hf H0.out.hb (Nat.le_trans HSZ.out HB6.out.size))); clear hx hf)
          go_roundw
          case rel => exact ⟨-1, rfl, Lib.hid (.inr ⟨k6, d6, n6, v6, L6, 3, (k1 : Int), H7.out, by decide, HRR.out, HB0.out.trans HB7.out⟩)⟩
          case measure =>
            rw [prM_bad H7.out (by decide), HMS.out]; omega
        · have q1 : ¬ (64 : Int) < (n0 : Int) + 1 := by omega
          have HEQ : Hid ((if 64 < (n0 : Int) + 1 then (3 : Int) else 0) = 0 ∧ (if 64 < (n0 : Int) + 1 then (k1 : Int) else 0) = 0) := Lib.hid ⟨if_neg q1, if_neg q1⟩
          have HLQ := HLP.out
          rw [if_neg h64] at HLQ
          have HN1 : Hid (n0 + 1 ≤ 64) := Lib.hid (by omega)
          clear h64 q1
          go_upto_region 7 with (first
            | (go_at_call 78; refine (HIS.out _ H3.out).mono ?_; rintro r w4 ⟨rfl, hx, hf⟩; have H4 := Lib.hid hx; have HO4 : Hid (Onb b wr w4) := Lib.hid (HO3.out.then hf); clear hx hf)
            | (go_at_call 79; refine (count_any base b s k2 d n0 v0 L0 (k1 : Int) _ H4.out (by have := HN0.out; omega)).mono ?_; rw [HEQ.out.1, HEQ.out.2]; rintro r w5 ⟨rfl, hx, hf⟩; have H5 := Lib.hid hx; have HO5 : Hid (Onb b wr w5) := Lib.hid (HO4.out.then hf); clear hx hf))
          have HB5 : Hid (Below base wr w5) := Lib.hid (onb_below HO5.out H0.out.hb HSZ.out)
          have HZ5 : Hid (base ≤ w5.heap.size) := Lib.hid (Nat.le_trans HSZ.out HB5.out.size)
          have HCL : Hid (Calls Tryz.prog 58 #[ptr b] w5 fun r w' => ∃ j : Int, r = .returned (.int .i64 j) ∧ OutS base w5 w' b s d (nx ⟨n0 + 1, L0, rest s k2⟩) j) := Lib.hid ((HG.out k2 (n0 + 1) v0 L0 w5 (by have := H5.out; push_cast; exact this) HN1.out (by have := HL0.out; omega) (by have := HM0.out; have := HFAR.out; omega) HZ5.out (HVR.out.below HB5.out)).mono fun r w' hq => out_j hq)
          cases hX : nx ⟨n0 + 1, L0, rest s k2⟩
          case error e =>
            rw [hX] at HCL HLQ
            simp only at HLQ
            have HE0 : Hid (e.1 ≠ 0) := Lib.hid (HK.out.err _ _ _ e (by rw [rest_len]; have := HM0.out; have := HFAR.out; omega) (by rw [rest_len]; omega) hX)
            have HRR : Hid (R = .error e) := Lib.hid HLQ
            clear HLP HLQ hX
            go_upto_region 8 with (go_at_call 58; refine HCL.out.mono ?_; rintro r w6 ⟨j, rfl, hq⟩; have HQ6 := Lib.hid hq; clear hq)
            obtain ⟨⟨k6, d6, n6, v6, L6, hp6⟩, hb6⟩ := HQ6.out
            have H6 := Lib.hid hp6
            have HB6 : Hid (Below base wr w6) := Lib.hid (HB5.out.trans hb6)
            clear hp6 hb6 HQ6
            go_wp2_with (go_at_call 80; refine (node_bad base b s k6 d6 n6 v6 L6 e.1 e.2 ⟨9, [], [], 0, left, j⟩ _ H6.out HE0.out).mono ?_; rintro r w7 ⟨rfl, hx, hf⟩; have H7 := Lib.hid hx; have HB7 : Hid (Below base wr w7) := Lib.hid (HB6.out.trans (onb_below hf H0.out.hb (Nat.le_trans HSZ.out HB6.out.size))); clear hx hf)
            go_roundw
            case rel => exact ⟨-1, rfl, Lib.hid (.inr ⟨k6, d6, n6, v6, L6, e.1, e.2, H7.out, HE0.out, HRR.out, HB0.out.trans HB7.out⟩)⟩
            case measure =>
              rw [prM_bad H7.out HE0.out, HMS.out]; omega
          case ok q =>
            rw [hX] at HCL HLQ
            simp only at HLQ
            have HCN := Lib.hid (HK.out.cnt _ _ _ q.1 q.2 hX)
            have HLN := Lib.hid (HK.out.len _ _ _ q.1 q.2 hX)
            have HRR := Lib.hid HLQ
            clear HLP HLQ hX
            go_upto_region 8 with (go_at_call 58; refine HCL.out.mono ?_; rintro r w6 ⟨j, rfl, hq⟩; have HQ6 := Lib.hid hq; clear hq)
            obtain ⟨hj6, ⟨k6, v6, hr6, hp6⟩, hb6⟩ := HQ6.out
            have HJ := Lib.hid hj6
            have HR6 := Lib.hid hr6
            have H6 := Lib.hid hp6
            have HB6 : Hid (Below base wr w6) := Lib.hid (HB5.out.trans hb6)
            have HZ6 : Hid (base ≤ w6.heap.size) := Lib.hid (Nat.le_trans HSZ.out HB6.out.size)
            have HLL : Hid (q.2.L.length + 1 ≤ 64 ∧ q.2.L.length + 1 ≤ q.2.n ∧ s.size - k6 ≤ s.size - k2) := Lib.hid (by
              have e1 := HCN.out; have e2 := HL0.out; have e3 := HLN.out
              rw [hr6, rest_len, rest_len] at e3
              omega)
            clear hj6 hr6 hp6 hb6 HQ6
            go_wp2_with (go_at_call 80; refine (node_ok base b s k6 d q.2.n v6 q.2.L ⟨9, [], [], 0, left, j⟩ _ H6.out (by have := HLL.out; omega) HZ6.out).mono ?_; rintro r w7 ⟨rfl, hx⟩; have H7 := Lib.hid hx; clear hx)
            have HB7 : Hid (Below base wr w7) := Lib.hid (HB6.out.trans (H7.out.below H6.out HZ6.out))
            obtain ⟨v7, h7, -, -⟩ := H7.out
            have HP7 := Lib.hid h7
            clear h7
            go_roundw
            case rel =>
              refine ⟨(q.2.L.length : Int), rfl, Lib.hid (.inl ⟨K, k6, q.2.n, v7, _, HP7.out, HCN.out.1, ?_, ?_, ?_, ?_, HB0.out.trans HB7.out⟩)⟩
              · have := HLL.out; rw [List.length_append]; simp only [List.length_cons, List.length_nil]; omega
              · have := HLL.out; have := HM0.out; have := HFAR.out; omega
              · have := HLL.out; have := HKK.out; have := HFAR.out; omega
              · rw [HRR.out, ← HR6.out, HJ.out]
            case measure =>
              rw [prM_good HP7.out, HMS.out]
              have := HLL.out; have := HFAR.out; omega
    · clear hps
      have H0 := Lib.hid g1
      have HRR := Lib.hid g3
      have HB0 := Lib.hid g4
      have c5 := g1.c5
      have c6 := g1.c6
      have t1 : (e0 == 0) = false := by simpa using g2
      clear g1 g2 g3 g4
      go_wp2
      go_ret
      exact out_err HRR.out H0.out HB0.out _

end Go.Proofs.YtdnoceancoclmaaGreatDoor.Ru

namespace Go.Proofs.YtdnoceancoclmaaGreatDoor.Ru
open Go.RowKit Go.Proofs.YtdnoceancoclmaaGreatDoor

theorem out_of {base : Nat} {w w' : World} {b : Nat} {s : ByteArray} {d : Int} {R : PR} {j : Int} (h : OutS base w w' b s d R j) : Out base w w' b s d R (.returned (.int .i64 j)) := by
  cases R with
  | ok q => obtain ⟨rfl, h2, h3⟩ := h; exact ⟨rfl, h2, h3⟩
  | error e => exact ⟨⟨j, rfl⟩, h.1, h.2⟩
theorem is_at (base b : Nat) (s : ByteArray) (k : Nat) (d n : Int) (v : Value) (L : List Nd) (e a : Int) (p : ByteArray) (w : World) (hk : k ≤ s.size) (h : Prs base w b s (skip s k) d n v L e a) (hp : p.size ≤ 100) :
    Calls Tryz.prog 78 #[ptr b, .string p] w fun r w' => r = .returned (.bool (isB s p k)) ∧ Prs base w' b s (isK s p k) d n v L e a ∧ Onb b w w' := by
  have := is_any base b s (skip s k) d n v L e a p w h hp
  rw [(isB_skip hk).1, (isB_skip hk).2] at this
  exact this

set_option maxRecDepth 100000 in
set_option maxHeartbeats 4000000 in
theorem and_any (base b : Nat) (s : ByteArray) (m d : Nat) (nx : Ps → PR) (hg : Rd base b s m 81 d nx) (he : RdE base b s 81) (hk : Kp s.size m nx) : Rd base b s m 58 d (pairsP s.size 38 8 nx) := by
  unfold Rd
  intro k n v L w h hn hl hm hbase hv
  have HC : Hid (Calls Tryz.prog 57 #[ptr b, .string ⟨#[38]⟩, .int .i64 8, .func (.func 81) #[ptr b] #[]] w fun r w' => ∃ j : Int, r = .returned (.int .i64 j) ∧ OutS base w w' b s d (pairsP s.size 38 8 nx ⟨n, L, rest s k⟩) j) := Lib.hid ((pairs_and base b s m d nx hg he hk k n v L w h hn hl hm hbase hv).mono fun r w' hq => out_j hq)
  clear h hg he hk hn hl hm hbase hv
  go_enter Tryz.func58, Tryz.ntmps58
  go_wp2_with (go_at_call 57; refine HC.out.mono ?_; rintro r w2 ⟨j, rfl, hq⟩; have HQ := Lib.hid hq; clear hq)
  go_ret
  exact out_of HQ.out

set_option maxRecDepth 100000 in
set_option maxHeartbeats 4000000 in
theorem and_err (base b : Nat) (s : ByteArray) (he : RdE base b s 81) : RdE base b s 58 := by
  unfold RdE
  intro k d n v L e a w h h0 hbase
  have HC : Hid (Calls Tryz.prog 81 #[ptr b] w fun r w' => ∃ j : Int, r = .returned (.int .i64 j) ∧ OutS base w w' b s 0 (.error (e, a)) j) := Lib.hid ((he k d n v L e a w h h0 hbase).mono fun r w' hq => out_j hq)
  have HP : Hid (Calls Tryz.prog 57 #[ptr b, .string ⟨#[38]⟩, .int .i64 8, .func (.func 81) #[ptr b] #[]] w fun r w' => ∃ j : Int, r = .returned (.int .i64 j) ∧ OutS base w w' b s 0 (.error (e, a)) j) := Lib.hid (by
    have t1 : (e == 0) = false := by simpa using h0
    clear h he hbase
    go_enter Tryz.func57, Tryz.ntmps57
    go_upto_region 2 with (go_at_call 81; refine HC.out.mono ?_; rintro r w2 ⟨j, rfl, hq⟩; have HQ := Lib.hid hq; clear hq)
    go_loopw [9] (fun s9 wr => ∃ j : Int, s9 = .int .i64 j ∧ Hid (OutS base w wr b s 0 (.error (e, a)) j)) (fun _ wr => 0)
    case atStart => exact ⟨j, rfl, HQ⟩
    case round =>
      clear HQ
      obtain ⟨left, rfl, hps⟩ := hrel
      obtain ⟨⟨k6, d6, n6, v6, L6, hp6⟩, hb6⟩ := hps.out
      simp only at hp6
      have c5 := hp6.c5
      have c6 := hp6.c6
      clear hp6 hb6
      go_wp2
      go_ret
      exact ⟨left, rfl, hps.out⟩)
  clear HC h h0 he hbase
  go_enter Tryz.func58, Tryz.ntmps58
  go_wp2_with (go_at_call 57; refine HP.out.mono ?_; rintro r w2 ⟨j, rfl, hq⟩; have HQ := Lib.hid hq; clear hq)
  go_ret
  exact out_of HQ.out

set_option maxRecDepth 100000 in
set_option maxHeartbeats 4000000 in
theorem or_any (base b : Nat) (s : ByteArray) (m d : Nat) (nx : Ps → PR) (hg : Rd base b s m 58 d nx) (he : RdE base b s 58) (hk : Kp s.size m nx) : Rd base b s m 36 d (pairsP s.size 124 9 nx) := by
  unfold Rd
  intro k n v L w h hn hl hm hbase hv
  have HC : Hid (Calls Tryz.prog 57 #[ptr b, .string ⟨#[124]⟩, .int .i64 9, .func (.func 58) #[ptr b] #[]] w fun r w' => ∃ j : Int, r = .returned (.int .i64 j) ∧ OutS base w w' b s d (pairsP s.size 124 9 nx ⟨n, L, rest s k⟩) j) := Lib.hid ((pairs_or base b s m d nx hg he hk k n v L w h hn hl hm hbase hv).mono fun r w' hq => out_j hq)
  clear h hg he hk hn hl hm hbase hv
  go_enter Tryz.func36, Tryz.ntmps36
  go_wp2_with (go_at_call 57; refine HC.out.mono ?_; rintro r w2 ⟨j, rfl, hq⟩; have HQ := Lib.hid hq; clear hq)
  go_ret
  exact out_of HQ.out

theorem out_trans {base : Nat} {w w1 w' : World} {b : Nat} {s : ByteArray} {d : Int} {R : PR} {r : Ending} (h1 : Below base w w1) (h : Out base w1 w' b s d R r) : Out base w w' b s d R r := by
  cases R with
  | ok q => exact ⟨h.1, h.2.1, h1.trans h.2.2⟩
  | error e => exact ⟨h.1, h.2.1, h1.trans h.2.2⟩

set_option maxRecDepth 100000 in
set_option maxHeartbeats 2000000 in
theorem not_err (base b : Nat) (s : ByteArray) : RdE base b s 81 := by
  unfold RdE
  intro k d n v L e a w h h0 hbase
  have H := Lib.hid h
  have HBS := Lib.hid hbase
  have t1 : (e == 0) = false := by simpa using h0
  clear h hbase
  go_enter Tryz.func81, Tryz.ntmps81
  go_upto_region 2 with (go_at_call 37; refine (blanks_any base b s k d n v L e a _ H.out).mono ?_; rintro r w2 ⟨rfl, h2, hf⟩; have H2 := Lib.hid h2; have HO2 : Hid (Onb b w w2) := Lib.hid hf; clear h2 hf)
  have c1 := H2.out.c1
  have c5 := H2.out.c5
  have c6 := H2.out.c6
  go_wp2
  go_ret
  exact out_err rfl H2.out (onb_below HO2.out H.out.hb HBS.out) _

end Go.Proofs.YtdnoceancoclmaaGreatDoor.Ru
