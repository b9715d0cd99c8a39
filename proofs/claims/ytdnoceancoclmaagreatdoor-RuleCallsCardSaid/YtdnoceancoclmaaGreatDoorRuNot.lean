/- RuNot. -/
import Derived.Test.YtdnoceancoclmaaGreatDoorM27
namespace Go.Proofs.YtdnoceancoclmaaGreatDoor.Ru
open Go.RowKit Go.Proofs.YtdnoceancoclmaaGreatDoor

set_option maxRecDepth 100000 in
set_option maxHeartbeats 8000000 in
theorem not_step (base b : Nat) (s : ByteArray) (F d : Nat) (hd : d ≤ 32) (hF : F ≤ s.size) (hno : d + 1 ≤ 32 → Rd base b s F 81 (d + 1) (notP s.size F (d + 1))) (hor : d + 1 ≤ 32 → Rd base b s F 36 (d + 1) (orP s.size F (d + 1))) : Rd base b s (F + 1) 81 d (notP s.size (F + 1) d) := by
  unfold Rd
  intro k n v L w h hn hl hm hbase hv
  have hkb := h.kb
  have HNO := Lib.hid hno
  have HOR := Lib.hid hor
  have H := Lib.hid h
  have HBS := Lib.hid hbase
  have HV := Lib.hid hv
  have HM := Lib.hid hm
  have HL := Lib.hid hl
  have HN := Lib.hid hn
  have HD := Lib.hid hd
  obtain ⟨R, hR⟩ : ∃ R, R = notP s.size (F + 1) d ⟨n, L, rest s k⟩ := ⟨_, rfl⟩
  rw [← hR]
  obtain ⟨k1, hk1⟩ : ∃ k1, k1 = skip s k := ⟨_, rfl⟩
  have HK1 := Lib.hid hk1
  have HRE := Lib.hid hR
  have HBL : Hid (∀ wx, Prs base wx b s k d n v L 0 0 → Calls Tryz.prog 37 #[ptr b] wx fun r w' => r = .returned (.tuple #[]) ∧ Prs base w' b s k1 d n v L 0 0 ∧ Onb b wx w') := Lib.hid (fun wx hx => by rw [hk1]; exact blanks_any base b s k d n v L 0 0 wx hx)
  clear h hno hor hbase hv hl hm hd hk1 hR
  go_enter Tryz.func81, Tryz.ntmps81
  go_upto_region 2 with (go_at_call 37; refine (HBL.out _ H.out).mono ?_; rintro r w2 ⟨rfl, h2, hf⟩; have H2 := Lib.hid h2; have HO2 : Hid (Onb b w w2) := Lib.hid hf; clear h2 hf)
  have c1 := H2.out.c1
  have c5 := H2.out.c5
  have c6 := H2.out.c6
  go_upto_region 5 with fail
  clear c1 c5 c6
  by_cases hdeep : 32 < d + 1
  · have q2 : ¬ ((d : Int) + 1 ≤ 32) := by omega
    have HIE : Hid (decide ((d : Int) + 1 ≤ 32) = false ∧ (if (d : Int) + 1 ≤ 32 then (0 : Int) else 3) = 3 ∧ (if (d : Int) + 1 ≤ 32 then 0 else (k1 : Int)) = (k1 : Int)) := Lib.hid ⟨decide_eq_false q2, if_neg q2, if_neg q2⟩
    have HDP := Lib.hid hdeep
    have HDI : Hid (0 ≤ (d : Int) ∧ (d : Int) ≤ 100) := Lib.hid (by have := HD.out; omega)
    clear q2 hdeep
    cases hq0 : isB s ⟨#[33]⟩ k
    case true =>
      obtain ⟨k2, hk2⟩ : ∃ k2, k2 = isK s ⟨#[33]⟩ k := ⟨_, rfl⟩
      have HI0 : Hid (∀ wx, Prs base wx b s k1 d n v L 0 0 → Calls Tryz.prog 78 #[ptr b, .string ⟨#[33]⟩] wx fun r w' => r = .returned (.bool true) ∧ Prs base w' b s k2 d n v L 0 0 ∧ Onb b wx w') := Lib.hid (fun wx hx => by
        rw [HK1.out] at hx
        have := is_at base b s k d n v L 0 0 ⟨#[33]⟩ wx hkb hx (by decide)
        rw [hq0, ← hk2] at this
        exact this)
      have HRR : Hid (R = .error (3, (k1 : Int))) := Lib.hid (by rw [HRE.out, notP_no hkb hq0, if_pos HDP.out, HK1.out])
      clear hq0 hk2
      go_wp2_with (first | (go_at_call 78; refine (HI0.out _ H2.out).mono ?_; rintro r wi ⟨rfl, hx, hf⟩; have H4 := Lib.hid hx; have HO4 : Hid (Onb b w wi) := Lib.hid (HO2.out.then hf); clear hx hf) | (go_at_call 97; refine (in_any base b s k2 d n v L (k1 : Int) _ H4.out HDI.out).mono ?_; rw [HIE.out.1, HIE.out.2.1, HIE.out.2.2]; rintro r w5 ⟨rfl, hx, hf⟩; have H5 := Lib.hid hx; have HO5 : Hid (Onb b w w5) := Lib.hid (HO4.out.then hf); clear hx hf))
      go_ret
      exact out_err HRR.out H5.out (onb_below HO5.out H.out.hb HBS.out) _
    case false =>
    cases hq1 : isB s ⟨#[40]⟩ k
    case true =>
      obtain ⟨k2, hk2⟩ : ∃ k2, k2 = isK s ⟨#[40]⟩ k := ⟨_, rfl⟩
      have HI0 : Hid (∀ wx, Prs base wx b s k1 d n v L 0 0 → Calls Tryz.prog 78 #[ptr b, .string ⟨#[33]⟩] wx fun r w' => r = .returned (.bool false) ∧ Prs base w' b s k1 d n v L 0 0 ∧ Onb b wx w') := Lib.hid (fun wx hx => by
        rw [HK1.out] at hx
        have := is_at base b s k d n v L 0 0 ⟨#[33]⟩ wx hkb hx (by decide)
        rw [hq0, show isK s ⟨#[33]⟩ k = k1 from by rw [HK1.out]; exact (strip_no hkb hq0).2] at this
        exact this)
      have HI1 : Hid (∀ wx, Prs base wx b s k1 d n v L 0 0 → Calls Tryz.prog 78 #[ptr b, .string ⟨#[40]⟩] wx fun r w' => r = .returned (.bool true) ∧ Prs base w' b s k2 d n v L 0 0 ∧ Onb b wx w') := Lib.hid (fun wx hx => by
        rw [HK1.out] at hx
        have := is_at base b s k d n v L 0 0 ⟨#[40]⟩ wx hkb hx (by decide)
        rw [hq1, ← hk2] at this
        exact this)
      have HRR : Hid (R = .error (3, (k1 : Int))) := Lib.hid (by rw [HRE.out, notP_open hkb hq0 hq1, if_pos HDP.out, HK1.out])
      clear hq0 hq1 hk2
      go_upto_region 12 with ((go_at_call 78; refine (HI0.out _ H2.out).mono ?_; rintro r wi ⟨rfl, hx, hf⟩; have H3 := Lib.hid hx; have HO3 : Hid (Onb b w wi) := Lib.hid (HO2.out.then hf); clear hx hf))
      go_wp2_with (first | (go_at_call 78; refine (HI1.out _ H3.out).mono ?_; rintro r wi ⟨rfl, hx, hf⟩; have H4 := Lib.hid hx; have HO4 : Hid (Onb b w wi) := Lib.hid (HO3.out.then hf); clear hx hf) | (go_at_call 97; refine (in_any base b s k2 d n v L (k1 : Int) _ H4.out HDI.out).mono ?_; rw [HIE.out.1, HIE.out.2.1, HIE.out.2.2]; rintro r w5 ⟨rfl, hx, hf⟩; have H5 := Lib.hid hx; have HO5 : Hid (Onb b w w5) := Lib.hid (HO4.out.then hf); clear hx hf))
      go_ret
      exact out_err HRR.out H5.out (onb_below HO5.out H.out.hb HBS.out) _
    case false =>
    have HI0 : Hid (∀ wx, Prs base wx b s k1 d n v L 0 0 → Calls Tryz.prog 78 #[ptr b, .string ⟨#[33]⟩] wx fun r w' => r = .returned (.bool false) ∧ Prs base w' b s k1 d n v L 0 0 ∧ Onb b wx w') := Lib.hid (fun wx hx => by
      rw [HK1.out] at hx
      have := is_at base b s k d n v L 0 0 ⟨#[33]⟩ wx hkb hx (by decide)
      rw [hq0, show isK s ⟨#[33]⟩ k = k1 from by rw [HK1.out]; exact (strip_no hkb hq0).2] at this
      exact this)
    have HI1 : Hid (∀ wx, Prs base wx b s k1 d n v L 0 0 → Calls Tryz.prog 78 #[ptr b, .string ⟨#[40]⟩] wx fun r w' => r = .returned (.bool false) ∧ Prs base w' b s k1 d n v L 0 0 ∧ Onb b wx w') := Lib.hid (fun wx hx => by
      rw [HK1.out] at hx
      have := is_at base b s k d n v L 0 0 ⟨#[40]⟩ wx hkb hx (by decide)
      rw [hq1, show isK s ⟨#[40]⟩ k = k1 from by rw [HK1.out]; exact (strip_no hkb hq1).2] at this
      exact this)
    have HRR : Hid (R = leafP s.size ⟨n, L, rest s k1⟩) := Lib.hid (by rw [HRE.out, notP_leaf hkb hq0 hq1, HK1.out])
    clear hq0 hq1
    go_upto_region 12 with ((go_at_call 78; refine (HI0.out _ H2.out).mono ?_; rintro r wi ⟨rfl, hx, hf⟩; have H3 := Lib.hid hx; have HO3 : Hid (Onb b w wi) := Lib.hid (HO2.out.then hf); clear hx hf))
    go_upto_region 20 with ((go_at_call 78; refine (HI1.out _ H3.out).mono ?_; rintro r wi ⟨rfl, hx, hf⟩; have H4 := Lib.hid hx; have HO4 : Hid (Onb b w wi) := Lib.hid (HO3.out.then hf); clear hx hf))
    have HB4 : Hid (Below base w wi) := Lib.hid (onb_below HO4.out H.out.hb HBS.out)
    have HC : Hid (Calls Tryz.prog 98 #[ptr b] wi fun r w' => ∃ j : Int, r = .returned (.int .i64 j) ∧ OutS base wi w' b s d (leafP s.size ⟨n, L, rest s k1⟩) j) := Lib.hid ((leaf_any base b s k1 d n v L wi H4.out HN.out (by have := HL.out; have := HN.out; omega) (Nat.le_trans HBS.out HB4.out.size) (HV.out.below HB4.out).1).mono fun r w' hq => out_j hq)
    go_wp2_with (go_at_call 98; refine HC.out.mono ?_; rintro r w5 ⟨j, rfl, hq⟩; have HQ := Lib.hid hq; clear hq)
    go_ret
    rw [HRR.out]
    exact out_trans HB4.out (out_of HQ.out)
  · have q2 : ((d : Int) + 1 ≤ 32) := by omega
    have HIE : Hid (decide ((d : Int) + 1 ≤ 32) = true ∧ (if (d : Int) + 1 ≤ 32 then (0 : Int) else 3) = 0 ∧ (if (d : Int) + 1 ≤ 32 then 0 else (k1 : Int)) = 0) := Lib.hid ⟨decide_eq_true q2, if_pos q2, if_pos q2⟩
    have HDP : Hid (¬ 32 < d + 1) := Lib.hid hdeep
    have HDI : Hid (0 ≤ (d : Int) ∧ (d : Int) ≤ 100) := Lib.hid (by have := HD.out; omega)
    have HD1 : Hid (d + 1 ≤ 32) := Lib.hid (by omega)
    clear q2 hdeep
    cases hq0 : isB s ⟨#[33]⟩ k
    case true =>
      obtain ⟨k2, hk2⟩ : ∃ k2, k2 = isK s ⟨#[33]⟩ k := ⟨_, rfl⟩
      have HI0 : Hid (∀ wx, Prs base wx b s k1 d n v L 0 0 → Calls Tryz.prog 78 #[ptr b, .string ⟨#[33]⟩] wx fun r w' => r = .returned (.bool true) ∧ Prs base w' b s k2 d n v L 0 0 ∧ Onb b wx w') := Lib.hid (fun wx hx => by
        rw [HK1.out] at hx
        have := is_at base b s k d n v L 0 0 ⟨#[33]⟩ wx hkb hx (by decide)
        rw [hq0, ← hk2] at this
        exact this)
      have HFAR := Lib.hid (isK_far hkb hq0)
      rw [← hk2] at HFAR
      have HLP := notP_no (n := n) (F := F) (d := d) (L := L) hkb hq0
      rw [← HRE.out, if_neg HDP.out, ← HK1.out, ← hk2] at HLP
      clear hq0 hk2
      by_cases h64 : 64 < n + 1
      · have q1 : (64 : Int) < (n : Int) + 1 := by omega
        have HCE : Hid ((if 64 < (n : Int) + 1 then (3 : Int) else 0) = 3 ∧ (if 64 < (n : Int) + 1 then (k1 : Int) else 0) = (k1 : Int)) := Lib.hid ⟨if_pos q1, if_pos q1⟩
        have HRR : Hid (R = .error (3, (k1 : Int))) := Lib.hid (by rw [HLP, if_pos h64])
        clear h64 q1 HLP
        go_upto_region 9 with (first | (go_at_call 78; refine (HI0.out _ H2.out).mono ?_; rintro r wi ⟨rfl, hx, hf⟩; have H4 := Lib.hid hx; have HO4 : Hid (Onb b w wi) := Lib.hid (HO2.out.then hf); clear hx hf) | (go_at_call 97; refine (in_any base b s k2 d n v L (k1 : Int) _ H4.out HDI.out).mono ?_; rw [HIE.out.1, HIE.out.2.1, HIE.out.2.2]; rintro r w5 ⟨rfl, hx, hf⟩; have H5 := Lib.hid hx; have HO5 : Hid (Onb b w w5) := Lib.hid (HO4.out.then hf); clear hx hf) | (go_at_call 79; refine (count_any base b s k2 _ n v L (k1 : Int) _ H5.out (by have := HN.out; omega)).mono ?_; rw [HCE.out.1, HCE.out.2]; rintro r w6 ⟨rfl, hx, hf⟩; have H6 := Lib.hid hx; have HO6 : Hid (Onb b w w6) := Lib.hid (HO5.out.then hf); clear hx hf))
        have HB6 : Hid (Below base w w6) := Lib.hid (onb_below HO6.out H.out.hb HBS.out)
        have HZ6 : Hid (base ≤ w6.heap.size) := Lib.hid (Nat.le_trans HBS.out HB6.out.size)
        have HCL : Hid (Calls Tryz.prog 81 #[ptr b] w6 fun r w' => ∃ j : Int, r = .returned (.int .i64 j) ∧ OutS base w6 w' b s 0 (.error (3, (k1 : Int))) j) := Lib.hid ((not_err base b s k2 _ _ v L 3 (k1 : Int) w6 H6.out (by decide) HZ6.out).mono fun r w' hq => out_j hq)
        go_upto_region 10 with (go_at_call 81; refine HCL.out.mono ?_; rintro r w7 ⟨j, rfl, hq⟩; have HQ7 := Lib.hid hq; clear hq)
        obtain ⟨⟨k8, d8, n8, v8, L8, hp8⟩, hb8⟩ := HQ7.out
        (try simp only at hp8)
        have H8 := Lib.hid hp8
        have HB8 : Hid (Below base w w7) := Lib.hid (HB6.out.trans hb8)
        have c2 := hp8.c2
        have f2 := hp8.fr 2
        clear hp8 hb8 HQ7
        go_upto_region 11 with fail
        clear c2 f2
        refine at_hide (F := fun w' => (∃ dd : Int, Prs base w' b s k8 dd n8 v8 L8 3 (k1 : Int)) ∧ Below base w w') ⟨⟨_, H8.out.deep _⟩, HB8.out.setCell (p := ⟨b, 2, none⟩) H.out.hb _⟩ ?_
        intro w9 hF
        obtain ⟨⟨dd, hdd⟩, hbb⟩ := hF
        have H9 := Lib.hid hdd
        have HB9 := Lib.hid hbb
        clear hdd hbb
        go_wp2_with (go_at_call 80; refine (node_bad base b s k8 _ n8 v8 L8 3 (k1 : Int) ⟨7, [], [], 0, j, -1⟩ _ H9.out (by decide)).mono ?_; rintro r wa ⟨rfl, hx, hf⟩; have HA := Lib.hid hx; have HBA : Hid (Below base w wa) := Lib.hid (HB9.out.trans (onb_below hf H.out.hb (Nat.le_trans HBS.out HB9.out.size))); clear hx hf)
        go_ret
        exact out_err HRR.out HA.out HBA.out _
      · have q1 : ¬ (64 : Int) < (n : Int) + 1 := by omega
        have HCE : Hid ((if 64 < (n : Int) + 1 then (3 : Int) else 0) = 0 ∧ (if 64 < (n : Int) + 1 then (k1 : Int) else 0) = 0) := Lib.hid ⟨if_neg q1, if_neg q1⟩
        rw [if_neg h64] at HLP
        have HN1 : Hid (n + 1 ≤ 64) := Lib.hid (by omega)
        clear h64 q1
        go_upto_region 9 with (first | (go_at_call 78; refine (HI0.out _ H2.out).mono ?_; rintro r wi ⟨rfl, hx, hf⟩; have H4 := Lib.hid hx; have HO4 : Hid (Onb b w wi) := Lib.hid (HO2.out.then hf); clear hx hf) | (go_at_call 97; refine (in_any base b s k2 d n v L (k1 : Int) _ H4.out HDI.out).mono ?_; rw [HIE.out.1, HIE.out.2.1, HIE.out.2.2]; rintro r w5 ⟨rfl, hx, hf⟩; have H5 := Lib.hid hx; have HO5 : Hid (Onb b w w5) := Lib.hid (HO4.out.then hf); clear hx hf) | (go_at_call 79; refine (count_any base b s k2 _ n v L (k1 : Int) _ H5.out (by have := HN.out; omega)).mono ?_; rw [HCE.out.1, HCE.out.2]; rintro r w6 ⟨rfl, hx, hf⟩; have H6 := Lib.hid hx; have HO6 : Hid (Onb b w w6) := Lib.hid (HO5.out.then hf); clear hx hf))
        have HB6 : Hid (Below base w w6) := Lib.hid (onb_below HO6.out H.out.hb HBS.out)
        have HZ6 : Hid (base ≤ w6.heap.size) := Lib.hid (Nat.le_trans HBS.out HB6.out.size)
        have HCL : Hid (Calls Tryz.prog 81 #[ptr b] w6 fun r w' => ∃ j : Int, r = .returned (.int .i64 j) ∧ OutS base w6 w' b s ((d + 1 : Nat) : Int) (notP s.size F (d + 1) ⟨n + 1, L, rest s k2⟩) j) := Lib.hid ((HNO.out HD1.out k2 (n + 1) v L w6 (by have := H6.out; push_cast; exact this) HN1.out (by have := HL.out; omega) (by have := HM.out; have := HFAR.out; omega) HZ6.out (HV.out.below HB6.out)).mono fun r w' hq => out_j hq)
        cases hX : notP s.size F (d + 1) ⟨n + 1, L, rest s k2⟩
        case error e =>
          rw [hX] at HCL HLP
          simp only at HLP
          have HE0 : Hid (e.1 ≠ 0) := Lib.hid ((kp_not s.size F (d + 1) HD1.out).err _ _ _ e (by rw [rest_len]; have := HM.out; have := HFAR.out; omega) (by rw [rest_len]; omega) hX)
          have HRR := Lib.hid HLP
          clear HLP hX
          go_upto_region 10 with (go_at_call 81; refine HCL.out.mono ?_; rintro r w7 ⟨j, rfl, hq⟩; have HQ7 := Lib.hid hq; clear hq)
          obtain ⟨⟨k8, d8, n8, v8, L8, hp8⟩, hb8⟩ := HQ7.out
          (try simp only at hp8)
          have H8 := Lib.hid hp8
          have HB8 : Hid (Below base w w7) := Lib.hid (HB6.out.trans hb8)
          have c2 := hp8.c2
          have f2 := hp8.fr 2
          clear hp8 hb8 HQ7
          go_upto_region 11 with fail
          clear c2 f2
          refine at_hide (F := fun w' => (∃ dd : Int, Prs base w' b s k8 dd n8 v8 L8 e.1 e.2) ∧ Below base w w') ⟨⟨_, H8.out.deep _⟩, HB8.out.setCell (p := ⟨b, 2, none⟩) H.out.hb _⟩ ?_
          intro w9 hF
          obtain ⟨⟨dd, hdd⟩, hbb⟩ := hF
          have H9 := Lib.hid hdd
          have HB9 := Lib.hid hbb
          clear hdd hbb
          go_wp2_with (go_at_call 80; refine (node_bad base b s k8 _ n8 v8 L8 e.1 e.2 ⟨7, [], [], 0, j, -1⟩ _ H9.out HE0.out).mono ?_; rintro r wa ⟨rfl, hx, hf⟩; have HA := Lib.hid hx; have HBA : Hid (Below base w wa) := Lib.hid (HB9.out.trans (onb_below hf H.out.hb (Nat.le_trans HBS.out HB9.out.size))); clear hx hf)
          go_ret
          exact out_err HRR.out HA.out HBA.out _
        case ok q =>
          rw [hX] at HCL HLP
          simp only at HLP
          have HCN := Lib.hid ((kp_not s.size F (d + 1) HD1.out).cnt _ _ _ q.1 q.2 hX)
          have HRR := Lib.hid HLP
          clear HLP hX
          go_upto_region 10 with (go_at_call 81; refine HCL.out.mono ?_; rintro r w7 ⟨j, rfl, hq⟩; have HQ7 := Lib.hid hq; clear hq)
          obtain ⟨hj7, ⟨k7, v7, hr7, hp7⟩, hb7⟩ := HQ7.out
          push_cast at hp7
          have HJ := Lib.hid hj7
          have HR7 := Lib.hid hr7
          have H7 := Lib.hid hp7
          have HB7 : Hid (Below base w w7) := Lib.hid (HB6.out.trans hb7)
          have c2 := hp7.c2
          have f2 := hp7.fr 2
          clear hj7 hr7 hp7 hb7 HQ7
          have u1 : IntKind.i64.wrap (d : Int) = (d : Int) := by rw [IntKind.wrap_i64]; have := HD.out; omega
          go_upto_region 11 with fail
          clear c2 f2
          refine at_hide (F := fun w' => Prs base w' b s k7 d q.2.n v7 q.2.L 0 0 ∧ Below base w w') ⟨H7.out.deep _, HB7.out.setCell (p := ⟨b, 2, none⟩) H.out.hb _⟩ ?_
          intro w9 hF
          have H9 := Lib.hid hF.1
          have HB9 := Lib.hid hF.2
          clear hF
          have HZ9 : Hid (base ≤ w9.heap.size) := Lib.hid (Nat.le_trans HBS.out HB9.out.size)
          go_wp2_with (go_at_call 80; refine (node_ok base b s k7 d q.2.n v7 q.2.L ⟨7, [], [], 0, j, -1⟩ _ H9.out (by have := HCN.out; have := HL.out; omega) HZ9.out).mono ?_; rintro r wa ⟨rfl, hx⟩; have HA := Lib.hid hx; clear hx)
          have HBA : Hid (Below base w wa) := Lib.hid (HB9.out.trans (HA.out.below H9.out HZ9.out))
          go_ret
          obtain ⟨v', h6, h7, h8⟩ := HA.out
          exact out_ok (by rw [HRR.out, ← HJ.out, HR7.out]; rfl) h6 HBA.out
    case false =>
    cases hq1 : isB s ⟨#[40]⟩ k
    case true =>
      obtain ⟨k2, hk2⟩ : ∃ k2, k2 = isK s ⟨#[40]⟩ k := ⟨_, rfl⟩
      have HI0 : Hid (∀ wx, Prs base wx b s k1 d n v L 0 0 → Calls Tryz.prog 78 #[ptr b, .string ⟨#[33]⟩] wx fun r w' => r = .returned (.bool false) ∧ Prs base w' b s k1 d n v L 0 0 ∧ Onb b wx w') := Lib.hid (fun wx hx => by
        rw [HK1.out] at hx
        have := is_at base b s k d n v L 0 0 ⟨#[33]⟩ wx hkb hx (by decide)
        rw [hq0, show isK s ⟨#[33]⟩ k = k1 from by rw [HK1.out]; exact (strip_no hkb hq0).2] at this
        exact this)
      have HI1 : Hid (∀ wx, Prs base wx b s k1 d n v L 0 0 → Calls Tryz.prog 78 #[ptr b, .string ⟨#[40]⟩] wx fun r w' => r = .returned (.bool true) ∧ Prs base w' b s k2 d n v L 0 0 ∧ Onb b wx w') := Lib.hid (fun wx hx => by
        rw [HK1.out] at hx
        have := is_at base b s k d n v L 0 0 ⟨#[40]⟩ wx hkb hx (by decide)
        rw [hq1, ← hk2] at this
        exact this)
      have HFAR := Lib.hid (isK_far hkb hq1)
      rw [← hk2] at HFAR
      have HLP := notP_open (n := n) (F := F) (d := d) (L := L) hkb hq0 hq1
      rw [← HRE.out, if_neg HDP.out, ← hk2] at HLP
      clear hq0 hq1 hk2
      go_upto_region 12 with ((go_at_call 78; refine (HI0.out _ H2.out).mono ?_; rintro r wi ⟨rfl, hx, hf⟩; have H3 := Lib.hid hx; have HO3 : Hid (Onb b w wi) := Lib.hid (HO2.out.then hf); clear hx hf))
      go_upto_region 15 with (first | (go_at_call 78; refine (HI1.out _ H3.out).mono ?_; rintro r wi ⟨rfl, hx, hf⟩; have H4 := Lib.hid hx; have HO4 : Hid (Onb b w wi) := Lib.hid (HO3.out.then hf); clear hx hf) | (go_at_call 97; refine (in_any base b s k2 d n v L (k1 : Int) _ H4.out HDI.out).mono ?_; rw [HIE.out.1, HIE.out.2.1, HIE.out.2.2]; rintro r w5 ⟨rfl, hx, hf⟩; have H5 := Lib.hid hx; have HO5 : Hid (Onb b w w5) := Lib.hid (HO4.out.then hf); clear hx hf))
      have HB6 : Hid (Below base w w5) := Lib.hid (onb_below HO5.out H.out.hb HBS.out)
      have HZ6 : Hid (base ≤ w5.heap.size) := Lib.hid (Nat.le_trans HBS.out HB6.out.size)
      have HCL : Hid (Calls Tryz.prog 36 #[ptr b] w5 fun r w' => ∃ j : Int, r = .returned (.int .i64 j) ∧ OutS base w5 w' b s ((d + 1 : Nat) : Int) (orP s.size F (d + 1) ⟨n, L, rest s k2⟩) j) := Lib.hid ((HOR.out HD1.out k2 n v L w5 (by have := H5.out; push_cast; exact this) HN.out HL.out (by have := HM.out; have := HFAR.out; omega) HZ6.out (HV.out.below HB6.out)).mono fun r w' hq => out_j hq)
      cases hX : orP s.size F (d + 1) ⟨n, L, rest s k2⟩
      case error e =>
        rw [hX] at HCL HLP
        simp only at HLP
        have HE0 : Hid (e.1 ≠ 0) := Lib.hid ((kp_or s.size F (d + 1) HD1.out).err _ _ _ e (by rw [rest_len]; have := HM.out; have := HFAR.out; omega) (by rw [rest_len]; omega) hX)
        have HRR := Lib.hid HLP
        clear HLP hX
        go_upto_region 16 with (go_at_call 36; refine HCL.out.mono ?_; rintro r w7 ⟨j, rfl, hq⟩; have HQ7 := Lib.hid hq; clear hq)
        obtain ⟨⟨k8, d8, n8, v8, L8, hp8⟩, hb8⟩ := HQ7.out
        (try simp only at hp8)
        have H8 := Lib.hid hp8
        have HB8 : Hid (Below base w w7) := Lib.hid (HB6.out.trans hb8)
        have c2 := hp8.c2
        have f2 := hp8.fr 2
        clear hp8 hb8 HQ7
        go_upto_region 17 with fail
        clear c2 f2
        refine at_hide (F := fun w' => (∃ dd : Int, Prs base w' b s k8 dd n8 v8 L8 e.1 e.2) ∧ Below base w w') ⟨⟨_, H8.out.deep _⟩, HB8.out.setCell (p := ⟨b, 2, none⟩) H.out.hb _⟩ ?_
        intro w9 hF
        obtain ⟨⟨dd, hdd⟩, hbb⟩ := hF
        have H9 := Lib.hid hdd
        have HB9 := Lib.hid hbb
        clear hdd hbb
        have t1 : (e.1 == 0) = false := by have := HE0.out; simpa using this
        have c5 := H9.out.c5
        have c6 := H9.out.c6
        go_wp2
        go_ret
        exact out_err HRR.out H9.out HB9.out _
      case ok q =>
        rw [hX] at HCL HLP
        simp only at HLP
        clear hX
        go_upto_region 16 with (go_at_call 36; refine HCL.out.mono ?_; rintro r w7 ⟨j, rfl, hq⟩; have HQ7 := Lib.hid hq; clear hq)
        obtain ⟨hj7, ⟨k7, v7, hr7, hp7⟩, hb7⟩ := HQ7.out
        push_cast at hp7
        have HJ := Lib.hid hj7
        rw [hr7] at HLP
        have hkb7 := hp7.kb
        have H7 := Lib.hid hp7
        have HB7 : Hid (Below base w w7) := Lib.hid (HB6.out.trans hb7)
        have c2 := hp7.c2
        have f2 := hp7.fr 2
        clear hj7 hr7 hp7 hb7 HQ7
        have u1 : IntKind.i64.wrap (d : Int) = (d : Int) := by rw [IntKind.wrap_i64]; have := HD.out; omega
        go_upto_region 17 with fail
        clear c2 f2
        refine at_hide (F := fun w' => Prs base w' b s k7 d q.2.n v7 q.2.L 0 0 ∧ Below base w w') ⟨H7.out.deep _, HB7.out.setCell (p := ⟨b, 2, none⟩) H.out.hb _⟩ ?_
        intro w9 hF
        have H9 := Lib.hid hF.1
        have HB9 := Lib.hid hF.2
        clear hF
        have c5 := H9.out.c5
        have c6 := H9.out.c6
        obtain ⟨k3, hk3⟩ : ∃ k3, k3 = isK s ⟨#[41]⟩ k7 := ⟨_, rfl⟩
        cases hq3 : isB s ⟨#[41]⟩ k7
        · have HIZ : Hid (∀ wx, Prs base wx b s k7 d q.2.n v7 q.2.L 0 0 → Calls Tryz.prog 78 #[ptr b, .string ⟨#[41]⟩] wx fun r w' => r = .returned (.bool false) ∧ Prs base w' b s k3 d q.2.n v7 q.2.L 0 0 ∧ Onb b wx w') := Lib.hid (fun wx hx => by
            have := is_any base b s k7 d q.2.n v7 q.2.L 0 0 ⟨#[41]⟩ wx hx (by decide)
            rw [hq3, ← hk3] at this
            exact this)
          have HRR : Hid (R = .error (5, (k3 : Int))) := Lib.hid (by
            obtain ⟨e1, e2⟩ := strip_no hkb7 hq3
            obtain ⟨-, g2, g3, -, -⟩ := skip_is hkb7
            rw [HLP, g3, show strip [41] (rest s (skip s k7)) = none from e1, hk3, e2]
            simp only
            rw [pos_rest g2])
          clear hk3 hq3 HLP
          have HFL : Hid (flt 0 0 5 (k3 : Int) = (5, (k3 : Int))) := Lib.hid (by unfold flt; rw [if_pos ⟨rfl, rfl⟩])
          go_upto_region 18 with (go_at_call 78; refine (HIZ.out _ H9.out).mono ?_; rintro r wa ⟨rfl, hx, hf⟩; have HA := Lib.hid hx; have HBA : Hid (Below base w wa) := Lib.hid (HB9.out.trans (onb_below hf H.out.hb (Nat.le_trans HBS.out HB9.out.size))); clear hx hf)
          have c1 := HA.out.c1
          go_wp2_with (go_at_call 38; refine (fails_any base b s k3 d q.2.n v7 q.2.L 0 0 5 (k3 : Int) _ HA.out).mono ?_; rw [HFL.out]; rintro r wb ⟨rfl, hx, hf⟩; have HX := Lib.hid hx; have HBX : Hid (Below base w wb) := Lib.hid (HBA.out.trans (onb_below hf H.out.hb (Nat.le_trans HBS.out HBA.out.size))); clear hx hf)
          go_ret
          exact out_err HRR.out HX.out HBX.out _
        · have HIZ : Hid (∀ wx, Prs base wx b s k7 d q.2.n v7 q.2.L 0 0 → Calls Tryz.prog 78 #[ptr b, .string ⟨#[41]⟩] wx fun r w' => r = .returned (.bool true) ∧ Prs base w' b s k3 d q.2.n v7 q.2.L 0 0 ∧ Onb b wx w') := Lib.hid (fun wx hx => by
            have := is_any base b s k7 d q.2.n v7 q.2.L 0 0 ⟨#[41]⟩ wx hx (by decide)
            rw [hq3, ← hk3] at this
            exact this)
          have HRR : Hid (R = .ok (q.1, ⟨q.2.n, q.2.L, rest s k3⟩)) := Lib.hid (by
            obtain ⟨e1, e2⟩ := strip_yes hkb7 hq3
            obtain ⟨-, g2, g3, -, -⟩ := skip_is hkb7
            rw [HLP, g3, show strip [41] (rest s (skip s k7)) = _ from e1, hk3])
          clear hk3 hq3 HLP
          go_wp2_with (go_at_call 78; refine (HIZ.out _ H9.out).mono ?_; rintro r wa ⟨rfl, hx, hf⟩; have HA := Lib.hid hx; have HBA : Hid (Below base w wa) := Lib.hid (HB9.out.trans (onb_below hf H.out.hb (Nat.le_trans HBS.out HB9.out.size))); clear hx hf)
          go_ret
          rw [HJ.out]
          exact out_ok HRR.out HA.out HBA.out
    case false =>
    have HI0 : Hid (∀ wx, Prs base wx b s k1 d n v L 0 0 → Calls Tryz.prog 78 #[ptr b, .string ⟨#[33]⟩] wx fun r w' => r = .returned (.bool false) ∧ Prs base w' b s k1 d n v L 0 0 ∧ Onb b wx w') := Lib.hid (fun wx hx => by
      rw [HK1.out] at hx
      have := is_at base b s k d n v L 0 0 ⟨#[33]⟩ wx hkb hx (by decide)
      rw [hq0, show isK s ⟨#[33]⟩ k = k1 from by rw [HK1.out]; exact (strip_no hkb hq0).2] at this
      exact this)
    have HI1 : Hid (∀ wx, Prs base wx b s k1 d n v L 0 0 → Calls Tryz.prog 78 #[ptr b, .string ⟨#[40]⟩] wx fun r w' => r = .returned (.bool false) ∧ Prs base w' b s k1 d n v L 0 0 ∧ Onb b wx w') := Lib.hid (fun wx hx => by
      rw [HK1.out] at hx
      have := is_at base b s k d n v L 0 0 ⟨#[40]⟩ wx hkb hx (by decide)
      rw [hq1, show isK s ⟨#[40]⟩ k = k1 from by rw [HK1.out]; exact (strip_no hkb hq1).2] at this
      exact this)
    have HRR : Hid (R = leafP s.size ⟨n, L, rest s k1⟩) := Lib.hid (by rw [HRE.out, notP_leaf hkb hq0 hq1, HK1.out])
    clear hq0 hq1
    go_upto_region 12 with ((go_at_call 78; refine (HI0.out _ H2.out).mono ?_; rintro r wi ⟨rfl, hx, hf⟩; have H3 := Lib.hid hx; have HO3 : Hid (Onb b w wi) := Lib.hid (HO2.out.then hf); clear hx hf))
    go_upto_region 20 with ((go_at_call 78; refine (HI1.out _ H3.out).mono ?_; rintro r wi ⟨rfl, hx, hf⟩; have H4 := Lib.hid hx; have HO4 : Hid (Onb b w wi) := Lib.hid (HO3.out.then hf); clear hx hf))
    have HB4 : Hid (Below base w wi) := Lib.hid (onb_below HO4.out H.out.hb HBS.out)
    have HC : Hid (Calls Tryz.prog 98 #[ptr b] wi fun r w' => ∃ j : Int, r = .returned (.int .i64 j) ∧ OutS base wi w' b s d (leafP s.size ⟨n, L, rest s k1⟩) j) := Lib.hid ((leaf_any base b s k1 d n v L wi H4.out HN.out (by have := HL.out; have := HN.out; omega) (Nat.le_trans HBS.out HB4.out.size) (HV.out.below HB4.out).1).mono fun r w' hq => out_j hq)
    go_wp2_with (go_at_call 98; refine HC.out.mono ?_; rintro r w5 ⟨j, rfl, hq⟩; have HQ := Lib.hid hq; clear hq)
    go_ret
    rw [HRR.out]
    exact out_trans HB4.out (out_of HQ.out)


theorem not_all (base b : Nat) (s : ByteArray) : ∀ F, F ≤ s.size + 1 → ∀ d, d ≤ 32 → Rd base b s F 81 d (notP s.size F d)
  | 0, _, d, _ => fun k n v L w h hn hl hm => absurd hm (by omega)
  | F + 1, hF, d, hd => by
    have ih := not_all base b s F (by omega)
    refine not_step base b s F d hd (by omega) (fun h => ih (d + 1) h) (fun h => ?_)
    exact or_any base b s F (d + 1) _ (and_any base b s F (d + 1) _ (ih (d + 1) h) (not_err base b s) (kp_not s.size F (d + 1) h)) (and_err base b s (not_err base b s)) (kp_and s.size F (d + 1) h (by omega))
theorem or_all (base b : Nat) (s : ByteArray) : Rd base b s (s.size + 1) 36 0 (orP s.size (s.size + 1) 0) :=
  or_any base b s (s.size + 1) 0 _ (and_any base b s (s.size + 1) 0 _ (not_all base b s (s.size + 1) (Nat.le_refl _) 0 (by omega)) (not_err base b s) (kp_not s.size (s.size + 1) 0 (by omega))) (and_err base b s (not_err base b s)) (kp_and s.size (s.size + 1) 0 (by omega) (by omega))
end Go.Proofs.YtdnoceancoclmaaGreatDoor.Ru
