/- RuLeaf. -/
import Derived.Test.YtdnoceancoclmaaGreatDoorRuLeafP
namespace Go.Proofs.YtdnoceancoclmaaGreatDoor.Ru
open Go.RowKit Go.Proofs.YtdnoceancoclmaaGreatDoor

set_option maxRecDepth 100000 in
set_option maxHeartbeats 8000000 in
theorem leaf_any (base b : Nat) (s : ByteArray) (k : Nat) (d : Int) (n : Nat) (v : Value) (L : List Nd) (w : World) (h : Prs base w b s k d n v L 0 0) (hn : n ≤ 64) (hl : L.length ≤ 500) (hbase : base ≤ w.heap.size) (hv : ErrV w) :
    Calls Tryz.prog 98 #[ptr b] w fun r w' => Out base w w' b s d (leafP s.size ⟨n, L, rest s k⟩) r := by
  have H := Lib.hid h
  have hkb := h.kb
  have hsz := h.sz
  have HV := Lib.hid hv
  have HBS := Lib.hid hbase
  have HL := Lib.hid hl
  obtain ⟨bad, hbad⟩ : ∃ bad, bad = !hd lo (rest s k) := ⟨_, rfl⟩
  have HBAD := Lib.hid hbad
  have c1 := h.c1
  have HO0 : Hid (Onb b w w) := Lib.hid (Frp.refl _ _)
  clear h hl hbase hv hbad
  go_enter Tryz.func98, Tryz.ntmps98
  go_upto_region 2 with fail
  clear c1
  go_cut [43] (fun s43 wx => s43 = .bool bad ∧ Prs base wx b s k d n v L 0 0 ∧ Onb b w wx)
  case first =>
    have b0 := H.out.p0
    have b1 := H.out.p1
    have i0 : (0 : Int) ≤ (k : Int) := by omega
    have FIN : Hid (∀ t : Past w, Prs base t.val b s k d n v L 0 0 ∧ Onb b w t.val) := Lib.hid (fun t => ⟨H.out.kept t.h, Frp.of_below t.h _⟩)
    by_cases hlt : k < s.size
    · have i1 : (k : Int) < (s.size : Int) := by omega
      have t1 : ((k : Int) == (s.size : Int)) = false := by simp; omega
      obtain ⟨c, hc⟩ : ∃ c, c = s[k] := ⟨_, rfl⟩
      have hcc : s[k] = c := hc.symm
      have HB2 : Hid (bad = !lo c) := Lib.hid (by rw [HBAD.out, hd_rest hlt, hc])
      clear hc
      cases t2 : decide ((c.toNat : Int) < 97)
      · cases t3 : decide ((122 : Int) < (c.toNat : Int))
        · have HB3 : Hid (bad = false) := Lib.hid (by rw [HB2.out]; unfold lo; simp at t2 t3 ⊢; omega)
          refine wp_region_past (by kernel_rfl) (by kernel_rfl) ?_
          repeat (go_big_quiet_step (fail))
          refine wpQuiet_nil ?_
          intro _ hw'
          obtain ⟨s9, hw''⟩ := hw'
          subst hw''
          go_wp2_with fail
          go_meet
          exact ⟨by rw [HB3.out], FIN.out s9⟩
        · have HB3 : Hid (bad = true) := Lib.hid (by rw [HB2.out]; unfold lo; simp at t2 t3 ⊢; omega)
          refine wp_region_past (by kernel_rfl) (by kernel_rfl) ?_
          repeat (go_big_quiet_step (fail))
          refine wpQuiet_nil ?_
          intro _ hw'
          obtain ⟨s9, hw''⟩ := hw'
          subst hw''
          go_wp2_with fail
          go_meet
          exact ⟨by rw [HB3.out], FIN.out s9⟩
      · have HB3 : Hid (bad = true) := Lib.hid (by rw [HB2.out]; unfold lo; simp at t2 ⊢; omega)
        refine wp_region_past (by kernel_rfl) (by kernel_rfl) ?_
        repeat (go_big_quiet_step (fail))
        refine wpQuiet_nil ?_
        intro _ hw'
        obtain ⟨s9, hw''⟩ := hw'
        subst hw''
        go_wp2_with fail
        go_meet
        exact ⟨by rw [HB3.out], FIN.out s9⟩
    · have hke : k = s.size := by omega
      have t1 : ((k : Int) == (s.size : Int)) = true := by simp; omega
      have HB3 : Hid (bad = true) := Lib.hid (by rw [HBAD.out, hke, hd_end]; rfl)
      clear hke hlt
      refine wp_region_past (by kernel_rfl) (by kernel_rfl) ?_
      repeat (go_big_quiet_step (fail))
      refine wpQuiet_nil ?_
      intro _ hw'
      obtain ⟨s9, hw''⟩ := hw'
      subst hw''
      go_wp2_with fail
      go_meet
      exact ⟨by rw [HB3.out], FIN.out s9⟩
  case rest =>
  obtain ⟨rfl, hp, ho⟩ := hcut
  obtain ⟨w1, hw1⟩ : ∃ w1, w1 = wc := ⟨_, rfl⟩
  rw [← hw1] at hp ho ⊢
  have H1 := Lib.hid hp
  have HO1 := Lib.hid ho
  clear hp ho hw1
  cases bad
  case true =>
    have HR : Hid (leafP s.size ⟨n, L, rest s k⟩ = .error (5, (k : Int))) := Lib.hid (leafP_bad hkb (by have := HBAD.out; simpa using this))
    have c1 := H1.out.c1
    have HF : Hid (flt 0 0 5 (k : Int) = (5, (k : Int))) := Lib.hid (by unfold flt; rw [if_pos ⟨rfl, rfl⟩])
    go_wp2_with (go_at_call 38; refine (fails_any base b s k d n v L 0 0 5 (k : Int) _ H1.out).mono ?_; rw [HF.out]; rintro r w4 ⟨rfl, h4, hf⟩; have H4 := Lib.hid h4; have HO4 : Hid (Onb b w w4) := Lib.hid (HO1.out.then hf); clear h4 hf)
    go_ret
    exact out_err HR.out H4.out (onb_below HO4.out H.out.hb HBS.out) _
  case false =>
  have HLO : Hid (hd lo (rest s k) = true) := Lib.hid (by have := HBAD.out; simpa using this)
  obtain ⟨nm, hnm⟩ : ∃ nm, nm = run 24 nmc (rest s k) := ⟨_, rfl⟩
  obtain ⟨k1, hk1⟩ : ∃ k1, k1 = k + nm.length := ⟨_, rfl⟩
  have HNM := Lib.hid hnm
  have HK1 := Lib.hid hk1
  have HRN : Hid (∀ w, Prs base w b s k d n v L 0 0 → Calls Tryz.prog 112 #[ptr b, .int .i64 24, .func (.func 113) #[] #[]] w fun r w' => r = .returned (.string (bs nm)) ∧ Prs base w' b s k1 d n v L 0 0 ∧ Onb b w w') := Lib.hid (fun w h => by rw [hk1, hnm]; exact run_name base b s k d n v L 0 0 w h)
  clear hnm hk1
  go_upto_region 6 with (go_at_call 112; refine (HRN.out _ H1.out).mono ?_; rintro r w2 ⟨rfl, h2, hf⟩; have H2 := Lib.hid h2; have HO2 : Hid (Onb b w w2) := Lib.hid (HO1.out.then hf); clear h2 hf)
  have hk1s := H2.out.kb
  obtain ⟨more, hmore⟩ : ∃ more, more = hd wdc (rest s k1) := ⟨_, rfl⟩
  have HMORE := Lib.hid hmore
  obtain ⟨an, han⟩ : ∃ an, an = ((bs nm).toList == anyT) := ⟨_, rfl⟩
  have HAN : Hid (an = decide (nm = anyT)) := Lib.hid (by rw [han, Lib.toList_data]; unfold bs; by_cases hq : nm = anyT <;> simp [hq])
  have HAN2 := Lib.hid han
  have HIW : Hid (∀ (c : UInt8) w, Calls Tryz.prog 48 #[.int .u8 (c.toNat : Int)] w fun e w' => e = .returned (.bool (wdc c)) ∧ w = w') := Lib.hid inWord_any
  clear hmore han
  go_cut [78] (fun s78 wx => s78 = .bool (an && !more) ∧ Prs base wx b s k1 d n v L 0 0 ∧ Onb b w wx)
  case first =>
    have b0 := H2.out.p0
    have b1 := H2.out.p1
    have i0 : (0 : Int) ≤ (k1 : Int) := by omega
    have FIN : Hid (∀ t : Past w2, Prs base t.val b s k1 d n v L 0 0 ∧ Onb b w t.val) := Lib.hid (fun t => ⟨H2.out.kept t.h, HO2.out.next t.h⟩)
    cases hq : an
    · have HAQ := Lib.hid hq
      have t0 : ((bs nm).toList == ([97, 110, 121] : List UInt8)) = false := by rw [← hq]; exact HAN2.out.symm
      refine wp_region_past (by kernel_rfl) (by kernel_rfl) ?_
      repeat (go_big_quiet_step (((go_at_call 48; exact past_call_same (HIW.out _ _)))))
      refine wpQuiet_nil ?_
      intro _ hw'
      obtain ⟨s9, hw''⟩ := hw'
      subst hw''
      go_wp2_with fail
      go_meet
      exact ⟨by rw [HAQ.out]; rfl, FIN.out s9⟩
    · have HAQ := Lib.hid hq
      have t0 : ((bs nm).toList == ([97, 110, 121] : List UInt8)) = true := by rw [← hq]; exact HAN2.out.symm
      by_cases hlt : k1 < s.size
      · have i1 : (k1 : Int) < (s.size : Int) := by omega
        obtain ⟨c, hc⟩ : ∃ c, c = s[k1] := ⟨_, rfl⟩
        have hcc : s[k1] = c := hc.symm
        cases t1 : wdc c
        · have HM2 : Hid (more = false) := Lib.hid (by rw [HMORE.out, hd_rest hlt, ← hc, t1])
          clear hc
          refine wp_region_past (by kernel_rfl) (by kernel_rfl) ?_
          repeat (go_big_quiet_step (((go_at_call 48; exact past_call_same (HIW.out _ _)))))
          refine wpQuiet_nil ?_
          intro _ hw'
          obtain ⟨s9, hw''⟩ := hw'
          subst hw''
          go_wp2_with fail
          go_meet
          exact ⟨by rw [HM2.out, HAQ.out]; rfl, FIN.out s9⟩
        · have HM2 : Hid (more = true) := Lib.hid (by rw [HMORE.out, hd_rest hlt, ← hc, t1])
          clear hc
          refine wp_region_past (by kernel_rfl) (by kernel_rfl) ?_
          repeat (go_big_quiet_step (((go_at_call 48; exact past_call_same (HIW.out _ _)))))
          refine wpQuiet_nil ?_
          intro _ hw'
          obtain ⟨s9, hw''⟩ := hw'
          subst hw''
          go_wp2_with fail
          go_meet
          exact ⟨by rw [HM2.out, HAQ.out]; rfl, FIN.out s9⟩
      · have i1 : ¬ (k1 : Int) < (s.size : Int) := by omega
        have i4 : decide ((k1 : Int) < (s.size : Int)) = false := decide_eq_false i1
        have HM2 : Hid (more = false) := Lib.hid (by rw [HMORE.out, show k1 = s.size from by omega, hd_end])
        clear hlt
        refine wp_region_past (by kernel_rfl) (by kernel_rfl) ?_
        repeat (go_big_quiet_step (((go_at_call 48; exact past_call_same (HIW.out _ _)))))
        refine wpQuiet_nil ?_
        intro _ hw'
        obtain ⟨s9, hw''⟩ := hw'
        subst hw''
        go_wp2_with fail
        go_meet
        exact ⟨by rw [HM2.out, HAQ.out]; rfl, FIN.out s9⟩
  case rest =>
  obtain ⟨rfl, hp, ho⟩ := hcut
  obtain ⟨w3, hw3⟩ : ∃ w3, w3 = wc := ⟨_, rfl⟩
  rw [← hw3] at hp ho ⊢
  have H3 := Lib.hid hp
  have HO3 := Lib.hid ho
  clear hp ho hw3 H2
  cases hany : (an && !more)
  case true =>
    have HAM : Hid (nm = anyT ∧ more = false) := Lib.hid (by
      simp only [Bool.and_eq_true, Bool.not_eq_true'] at hany
      have h1 := hany.1
      rw [HAN.out] at h1
      exact ⟨by simpa using h1, hany.2⟩)
    have HR : Hid (leafP s.size ⟨n, L, rest s k⟩ = if 64 < n + 1 then .error (3, (k : Int)) else .ok (put (n + 1) L (rest s k1) ⟨1, [], [], 0, -1, -1⟩)) := Lib.hid (leafP_any HLO.out HNM.out HK1.out HAM.out.1 (by rw [← HMORE.out]; exact HAM.out.2) hkb)
    clear hany
    by_cases h64 : 64 < n + 1
    · have q1 : (64 : Int) < (n : Int) + 1 := by omega
      have HE : Hid ((if 64 < (n : Int) + 1 then (3 : Int) else 0) = 3 ∧ (if 64 < (n : Int) + 1 then (k : Int) else 0) = (k : Int)) := Lib.hid ⟨if_pos q1, if_pos q1⟩
      go_wp2_with (first
        | (go_at_call 79; refine (count_any base b s k1 d n v L (k : Int) _ H3.out (by omega)).mono ?_; rw [HE.out.1, HE.out.2]; rintro r w4 ⟨rfl, h4, hf⟩; have H4 := Lib.hid h4; have HO4 : Hid (Onb b w w4) := Lib.hid (HO3.out.then hf); clear h4 hf)
        | (go_at_call 80; refine (node_bad base b s k1 d _ v L 3 (k : Int) ⟨1, [], [], 0, -1, -1⟩ _ H4.out (by decide)).mono ?_; rintro r w5 ⟨rfl, h5, hf⟩; have H5 := Lib.hid h5; have HO5 : Hid (Onb b w w5) := Lib.hid (HO4.out.then hf); clear h5 hf))
      go_ret
      exact out_err (by rw [HR.out, if_pos h64]) H5.out (onb_below HO5.out H.out.hb HBS.out) _
    · have q1 : ¬ (64 : Int) < (n : Int) + 1 := by omega
      have HE : Hid ((if 64 < (n : Int) + 1 then (3 : Int) else 0) = 0 ∧ (if 64 < (n : Int) + 1 then (k : Int) else 0) = 0) := Lib.hid ⟨if_neg q1, if_neg q1⟩
      go_wp2_with (first
        | (go_at_call 79; refine (count_any base b s k1 d n v L (k : Int) _ H3.out (by omega)).mono ?_; rw [HE.out.1, HE.out.2]; rintro r w4 ⟨rfl, h4, hf⟩; have H4 := Lib.hid h4; have HO4 : Hid (Onb b w w4) := Lib.hid (HO3.out.then hf); clear h4 hf)
        | (go_at_call 80; refine (node_ok base b s k1 d _ v L ⟨1, [], [], 0, -1, -1⟩ _ H4.out (by have := HL.out; omega) (by have h1 := HBS.out; have h2 := Frp.size HO4.out; omega)).mono ?_; rintro r w5 ⟨rfl, h5⟩; have H5 := Lib.hid h5; clear h5))
      go_ret
      obtain ⟨v', h6, h7, h8⟩ := H5.out
      refine out_ok (k' := k1) (n' := n + 1) (by rw [HR.out, if_neg h64]; rfl) (v' := v') (by push_cast; exact h6) ?_
      exact (onb_below HO4.out H.out.hb HBS.out).trans (h7.below (fun q hq => by rcases hq with rfl | hq; exact H.out.hb; exact own_lo H.out.own hq) (by have h1 := HBS.out; have h2 := Frp.size HO4.out; omega))
  case false =>
  go_upto_region 9 with fail
  go_cut [106] (fun s106 wx => s106 = .bool more ∧ Prs base wx b s k1 d n v L 0 0 ∧ Onb b w wx)
  case first =>
    have b0 := H3.out.p0
    have b1 := H3.out.p1
    have i0 : (0 : Int) ≤ (k1 : Int) := by omega
    have FIN : Hid (∀ t : Past w3, Prs base t.val b s k1 d n v L 0 0 ∧ Onb b w t.val) := Lib.hid (fun t => ⟨H3.out.kept t.h, HO3.out.next t.h⟩)
    by_cases hlt : k1 < s.size
    · have i1 : (k1 : Int) < (s.size : Int) := by omega
      obtain ⟨c, hc⟩ : ∃ c, c = s[k1] := ⟨_, rfl⟩
      have hcc : s[k1] = c := hc.symm
      cases t1 : wdc c
      · have HM2 : Hid (more = false) := Lib.hid (by rw [HMORE.out, hd_rest hlt, ← hc, t1])
        clear hc
        refine wp_region_past (by kernel_rfl) (by kernel_rfl) ?_
        repeat (go_big_quiet_step (((go_at_call 48; exact past_call_same (HIW.out _ _)))))
        refine wpQuiet_nil ?_
        intro _ hw'
        obtain ⟨s9, hw''⟩ := hw'
        subst hw''
        go_wp2_with fail
        go_meet
        exact ⟨by rw [HM2.out], FIN.out s9⟩
      · have HM2 : Hid (more = true) := Lib.hid (by rw [HMORE.out, hd_rest hlt, ← hc, t1])
        clear hc
        refine wp_region_past (by kernel_rfl) (by kernel_rfl) ?_
        repeat (go_big_quiet_step (((go_at_call 48; exact past_call_same (HIW.out _ _)))))
        refine wpQuiet_nil ?_
        intro _ hw'
        obtain ⟨s9, hw''⟩ := hw'
        subst hw''
        go_wp2_with fail
        go_meet
        exact ⟨by rw [HM2.out], FIN.out s9⟩
    · have i1 : ¬ (k1 : Int) < (s.size : Int) := by omega
      have i4 : decide ((k1 : Int) < (s.size : Int)) = false := decide_eq_false i1
      have HM2 : Hid (more = false) := Lib.hid (by rw [HMORE.out, show k1 = s.size from by omega, hd_end])
      clear hlt
      refine wp_region_past (by kernel_rfl) (by kernel_rfl) ?_
      repeat (go_big_quiet_step (((go_at_call 48; exact past_call_same (HIW.out _ _)))))
      refine wpQuiet_nil ?_
      intro _ hw'
      obtain ⟨s9, hw''⟩ := hw'
      subst hw''
      go_wp2_with fail
      go_meet
      exact ⟨by rw [HM2.out], FIN.out s9⟩
  case rest =>
  obtain ⟨rfl, hp, ho⟩ := hcut
  obtain ⟨w4, hw4⟩ : ∃ w4, w4 = wc := ⟨_, rfl⟩
  rw [← hw4] at hp ho ⊢
  have H4 := Lib.hid hp
  have HO4 := Lib.hid ho
  clear hp ho hw4 H3
  cases more
  case true =>
    have HR : Hid (leafP s.size ⟨n, L, rest s k⟩ = .error (5, (k1 : Int))) := Lib.hid (leafP_more HLO.out HNM.out HK1.out HMORE.out.symm hk1s)
    have c1 := H4.out.c1
    have HF : Hid (flt 0 0 5 (k1 : Int) = (5, (k1 : Int))) := Lib.hid (by unfold flt; rw [if_pos ⟨rfl, rfl⟩])
    go_wp2_with (go_at_call 38; refine (fails_any base b s k1 d n v L 0 0 5 (k1 : Int) _ H4.out).mono ?_; rw [HF.out]; rintro r w5 ⟨rfl, h5, hf⟩; have H5 := Lib.hid h5; have HO5 : Hid (Onb b w w5) := Lib.hid (HO4.out.then hf); clear h5 hf)
    go_ret
    exact out_err HR.out H5.out (onb_below HO5.out H.out.hb HBS.out) _
  case false =>
  have HNA : Hid (nm ≠ anyT) := Lib.hid (by
    rw [HAN.out] at hany
    simpa using hany)
  have HR : Hid (leafP s.size ⟨n, L, rest s k⟩ = if 64 < n + 1 then .error (3, (k : Int)) else opP s.size (n + 1) L nm (rest s (skip s k1))) := Lib.hid (leafP_else HLO.out HNM.out HK1.out HNA.out HMORE.out.symm hkb hk1s)
  clear hany
  by_cases h64 : 64 < n + 1
  case pos =>
    have q1 : (64 : Int) < (n : Int) + 1 := by omega
    have HE : Hid ((if 64 < (n : Int) + 1 then (3 : Int) else 0) = 3 ∧ (if 64 < (n : Int) + 1 then (k : Int) else 0) = (k : Int)) := Lib.hid ⟨if_pos q1, if_pos q1⟩
    rw [if_pos h64] at HR
    go_upto_region 13 with (go_at_call 79; refine (count_any base b s k1 d n v L (k : Int) _ H4.out (by omega)).mono ?_; rw [HE.out.1, HE.out.2]; rintro r w5 ⟨rfl, h5, hf⟩; have H5 := Lib.hid h5; have HO5 : Hid (Onb b w w5) := Lib.hid (HO4.out.then hf); clear h5 hf)
    go_upto_region 14 with fail
    refine at_hide (F := fun w' => Blk w' w5.heap.size (ndC ⟨6, nm, [], 0, -1, -1⟩) 52 ∧ Prs base w' b s k1 d ((n : Int) + 1) v L 3 (k : Int) ∧ Onb b w w') ⟨Blk.made w5 (ndC ⟨6, nm, [], 0, -1, -1⟩) _, H5.out.kept (below_alloc _ _), HO5.out.next (below_alloc _ _)⟩ ?_
    intro w6 hF
    obtain ⟨Y, hY⟩ : ∃ Y, Y = w5.heap.size := ⟨_, rfl⟩
    rw [← hY] at hF ⊢
    have HYB : Hid (Y ≠ b) := Lib.hid (by rw [hY]; have := H5.out.blk.lt; omega)
    have HYV : Hid (v.ownBlock ≠ some Y) := Lib.hid (fun hq => by have := own_hi H5.out.own hq; omega)
    have HYL : Hid (base ≤ Y) := Lib.hid (by rw [hY]; have h1 := HBS.out; have h2 := Frp.size HO5.out; omega)
    have Y6 := Lib.hid hF.1
    have H6 := Lib.hid hF.2.1
    have HO6 := Lib.hid hF.2.2
    clear hF hY H5 HO5 H4 HO4 h64 q1
    obtain ⟨K0, hK0⟩ : ∃ K0, K0 = skip s k1 := ⟨_, rfl⟩
    have HK0 := Lib.hid hK0
    clear hK0
    cases hq0 : isB s ⟨#[33, 61]⟩ k1
    case true =>
      have HX : Hid (Prs base w6 b s k1 d ((n : Int) + 1) v L 3 (k : Int)) := H6
      have HOX := HO6
      have HY := Y6
      have Q0 : isB s ⟨#[33, 61]⟩ k1 = true := hq0
      obtain ⟨P, hP⟩ : ∃ P, P = isK s ⟨#[33, 61]⟩ k1 := ⟨_, rfl⟩
      have HP := Lib.hid hP
      have M0 : isK s ⟨#[33, 61]⟩ k1 = P := by exact hP.symm
      have HSP := Lib.hid (strip_yes hk1s hq0)
      clear hq0
      clear hP
      obtain ⟨t, ht⟩ : ∃ t, t = run 32 wdc (blk (rest s P)) := ⟨_, rfl⟩
      obtain ⟨K2, hK2⟩ : ∃ K2, K2 = skip s P + t.length := ⟨_, rfl⟩
      obtain ⟨e2, he2⟩ : ∃ e2, e2 = (if t = [] then (flt 3 (k : Int) 5 (skip s P : Int)).1 else 3) := ⟨_, rfl⟩
      obtain ⟨a2, ha2⟩ : ∃ a2, a2 = (if t = [] then (flt 3 (k : Int) 5 (skip s P : Int)).2 else (k : Int)) := ⟨_, rfl⟩
      have HT := Lib.hid ht
      have HK2 := Lib.hid hK2
      have HE2 := Lib.hid he2
      have HA2 := Lib.hid ha2
      have HWD : Hid (∀ wx, Prs base wx b s P d ((n : Int) + 1) v L 3 (k : Int) → Calls Tryz.prog 114 #[ptr b] wx fun r w' => r = .returned (.string (bs t)) ∧ WdS base wx w' b s K2 d ((n : Int) + 1) v L e2 a2) := Lib.hid (fun wx hx => by rw [hK2, he2, ha2, ht]; exact word_any base b s P d ((n : Int) + 1) v L 3 (k : Int) wx hx)
      clear ht hK2 he2 ha2
      go_upto_region 24 with (first | (go_at_call 78; refine (is_any base b s _ d _ v L 3 (k : Int) _ _ HX.out (by decide)).mono ?_; (try rw [Q0]); rintro r wi ⟨rfl, hx, hf⟩; (try rw [M0] at hx); have HX := Lib.hid hx; have HOX : Hid (Onb b w wi) := Lib.hid (HOX.out.then hf); have HY := Lib.hid (HY.out.frp hf HYB.out); clear hx hf) | (go_at_call 114; refine (HWD.out _ HX.out).mono ?_; rintro r wi ⟨rfl, hw⟩; have hx := hw.1; have hf := hw.2; have HX2 := Lib.hid hx; have HOX2 : Hid (Onb b w wi) := Lib.hid (HOX.out.then hf); have HY2 := Lib.hid (HY.out.frp hf HYB.out); have y0 := HY2.out.cell (j := 0) rfl; have y2 := HY2.out.cell (j := 2) rfl; have yf0 := HY2.out.free 0; have yf2 := HY2.out.free 2; clear hx hf hw))
      refine at_hide (F := fun w' => Blk w' Y (ndC ⟨3, nm, t, 0, -1, -1⟩) 52 ∧ Prs base w' b s K2 d ((n : Int) + 1) v L e2 a2 ∧ Below base w w') ⟨(HY2.out.set 0 (.int .i64 3)).set 2 (.string (bs t)), (HX2.out.off HYB.out HYV.out 0 _).off HYB.out HYV.out 2 _, ((onb_below HOX2.out H.out.hb HBS.out).setCell (p := ⟨Y, 0, none⟩) HYL.out _).setCell (p := ⟨Y, 2, none⟩) HYL.out _⟩ ?_
      intro w8 hF
      obtain ⟨f1, f2, f3⟩ := hF
      have HY8 := Lib.hid f1
      have H8 := Lib.hid f2
      have HB8 := Lib.hid f3
      clear f1 f2 f3 y0 y2 yf0 yf2
      have y0 := HY8.out.cell (j := 0) rfl
      have y1 := HY8.out.cell (j := 1) rfl
      have y2 := HY8.out.cell (j := 2) rfl
      have y3 := HY8.out.cell (j := 3) rfl
      have y4 := HY8.out.cell (j := 4) rfl
      have y5 := HY8.out.cell (j := 5) rfl
      have HE3 : Hid (e2 = 3 ∧ a2 = (k : Int)) := Lib.hid (by rw [HE2.out, HA2.out]; constructor <;> simp [flt])
      rw [HE3.out.1, HE3.out.2] at H8
      go_wp2_with (go_at_call 80; refine (node_bad base b s K2 d _ v L 3 (k : Int) ⟨3, nm, t, 0, -1, -1⟩ _ H8.out (by decide)).mono ?_; rintro r w9 ⟨rfl, h9, hf⟩; have H9 := Lib.hid h9; have HB9 : Hid (Below base w w9) := Lib.hid (HB8.out.trans (onb_below hf H.out.hb (by have h1 := HBS.out; have h2 := HB8.out.size; omega))); clear h9 hf)
      go_ret
      exact out_err (by rw [HR.out]) H9.out HB9.out _
    case false =>
    cases hq1 : isB s ⟨#[62, 61]⟩ k1
    case true =>
      have HX : Hid (Prs base w6 b s k1 d ((n : Int) + 1) v L 3 (k : Int)) := H6
      have HOX := HO6
      have HY := Y6
      have Q0 : isB s ⟨#[33, 61]⟩ k1 = false := hq0
      have M0 : isK s ⟨#[33, 61]⟩ k1 = K0 := by rw [HK0.out]; exact (strip_no hk1s hq0).2
      have Q1 : isB s ⟨#[62, 61]⟩ K0 = true := by rw [HK0.out, (isB_skip hk1s).1]; exact hq1
      obtain ⟨P, hP⟩ : ∃ P, P = isK s ⟨#[62, 61]⟩ k1 := ⟨_, rfl⟩
      have HP := Lib.hid hP
      have M1 : isK s ⟨#[62, 61]⟩ K0 = P := by rw [HK0.out, (isB_skip hk1s).2]; exact hP.symm
      have HSP := Lib.hid (strip_yes hk1s hq1)
      clear hq0 hq1
      clear hP
      obtain ⟨t, ht⟩ : ∃ t, t = run 12 dgt (blk (rest s P)) := ⟨_, rfl⟩
      obtain ⟨K2, hK2⟩ : ∃ K2, K2 = skip s P + t.length := ⟨_, rfl⟩
      obtain ⟨e2, he2⟩ : ∃ e2, e2 = (if t = [] then (flt 3 (k : Int) 5 (skip s P : Int)).1 else 3) := ⟨_, rfl⟩
      obtain ⟨a2, ha2⟩ : ∃ a2, a2 = (if t = [] then (flt 3 (k : Int) 5 (skip s P : Int)).2 else (k : Int)) := ⟨_, rfl⟩
      have HT := Lib.hid ht
      have HK2 := Lib.hid hK2
      have HE2 := Lib.hid he2
      have HA2 := Lib.hid ha2
      obtain ⟨z, hz⟩ : ∃ z, z = (if t = [] then 0 else digV t) := ⟨_, rfl⟩
      have HZ := Lib.hid hz
      have HWD : Hid (∀ wx, Prs base wx b s P d ((n : Int) + 1) v L 3 (k : Int) → ErrV wx → Calls Tryz.prog 115 #[ptr b] wx fun r w' => r = .returned (.int .i64 z) ∧ WdS base wx w' b s K2 d ((n : Int) + 1) v L e2 a2) := Lib.hid (fun wx hx hv => by rw [hK2, he2, ha2, hz, ht]; exact digits_any base b s P d ((n : Int) + 1) v L 3 (k : Int) wx hx hv)
      clear ht hK2 he2 ha2 hz
      go_upto_region 24 with (first | (go_at_call 78; refine (is_any base b s _ d _ v L 3 (k : Int) _ _ HX.out (by decide)).mono ?_; (try rw [Q0]); (try rw [Q1]); rintro r wi ⟨rfl, hx, hf⟩; (try rw [M0] at hx); (try rw [M1] at hx); have HX := Lib.hid hx; have HOX : Hid (Onb b w wi) := Lib.hid (HOX.out.then hf); have HY := Lib.hid (HY.out.frp hf HYB.out); clear hx hf) | (go_at_call 115; refine (HWD.out _ HX.out (HV.out.onb H.out HOX.out)).mono ?_; rintro r wi ⟨rfl, hw⟩; have hx := hw.1; have hf := hw.2; have HX2 := Lib.hid hx; have HOX2 : Hid (Onb b w wi) := Lib.hid (HOX.out.then hf); have HY2 := Lib.hid (HY.out.frp hf HYB.out); have y0 := HY2.out.cell (j := 0) rfl; have y2 := HY2.out.cell (j := 3) rfl; have yf0 := HY2.out.free 0; have yf2 := HY2.out.free 3; clear hx hf hw))
      refine at_hide (F := fun w' => Blk w' Y (ndC ⟨4, nm, [], z, -1, -1⟩) 52 ∧ Prs base w' b s K2 d ((n : Int) + 1) v L e2 a2 ∧ Below base w w') ⟨(HY2.out.set 0 (.int .i64 4)).set 3 (.int .i64 z), (HX2.out.off HYB.out HYV.out 0 _).off HYB.out HYV.out 3 _, ((onb_below HOX2.out H.out.hb HBS.out).setCell (p := ⟨Y, 0, none⟩) HYL.out _).setCell (p := ⟨Y, 3, none⟩) HYL.out _⟩ ?_
      intro w8 hF
      obtain ⟨f1, f2, f3⟩ := hF
      have HY8 := Lib.hid f1
      have H8 := Lib.hid f2
      have HB8 := Lib.hid f3
      clear f1 f2 f3 y0 y2 yf0 yf2
      have y0 := HY8.out.cell (j := 0) rfl
      have y1 := HY8.out.cell (j := 1) rfl
      have y2 := HY8.out.cell (j := 2) rfl
      have y3 := HY8.out.cell (j := 3) rfl
      have y4 := HY8.out.cell (j := 4) rfl
      have y5 := HY8.out.cell (j := 5) rfl
      have HE3 : Hid (e2 = 3 ∧ a2 = (k : Int)) := Lib.hid (by rw [HE2.out, HA2.out]; constructor <;> simp [flt])
      rw [HE3.out.1, HE3.out.2] at H8
      go_wp2_with (go_at_call 80; refine (node_bad base b s K2 d _ v L 3 (k : Int) ⟨4, nm, [], z, -1, -1⟩ _ H8.out (by decide)).mono ?_; rintro r w9 ⟨rfl, h9, hf⟩; have H9 := Lib.hid h9; have HB9 : Hid (Below base w w9) := Lib.hid (HB8.out.trans (onb_below hf H.out.hb (by have h1 := HBS.out; have h2 := HB8.out.size; omega))); clear h9 hf)
      go_ret
      exact out_err (by rw [HR.out]) H9.out HB9.out _
    case false =>
    cases hq2 : isB s ⟨#[60, 61]⟩ k1
    case true =>
      have HX : Hid (Prs base w6 b s k1 d ((n : Int) + 1) v L 3 (k : Int)) := H6
      have HOX := HO6
      have HY := Y6
      have Q0 : isB s ⟨#[33, 61]⟩ k1 = false := hq0
      have M0 : isK s ⟨#[33, 61]⟩ k1 = K0 := by rw [HK0.out]; exact (strip_no hk1s hq0).2
      have Q1 : isB s ⟨#[62, 61]⟩ K0 = false := by rw [HK0.out, (isB_skip hk1s).1]; exact hq1
      have M1 : isK s ⟨#[62, 61]⟩ K0 = K0 := by rw [HK0.out, (isB_skip hk1s).2]; exact (strip_no hk1s hq1).2
      have Q2 : isB s ⟨#[60, 61]⟩ K0 = true := by rw [HK0.out, (isB_skip hk1s).1]; exact hq2
      obtain ⟨P, hP⟩ : ∃ P, P = isK s ⟨#[60, 61]⟩ k1 := ⟨_, rfl⟩
      have HP := Lib.hid hP
      have M2 : isK s ⟨#[60, 61]⟩ K0 = P := by rw [HK0.out, (isB_skip hk1s).2]; exact hP.symm
      have HSP := Lib.hid (strip_yes hk1s hq2)
      clear hq0 hq1 hq2
      clear hP
      obtain ⟨t, ht⟩ : ∃ t, t = run 12 dgt (blk (rest s P)) := ⟨_, rfl⟩
      obtain ⟨K2, hK2⟩ : ∃ K2, K2 = skip s P + t.length := ⟨_, rfl⟩
      obtain ⟨e2, he2⟩ : ∃ e2, e2 = (if t = [] then (flt 3 (k : Int) 5 (skip s P : Int)).1 else 3) := ⟨_, rfl⟩
      obtain ⟨a2, ha2⟩ : ∃ a2, a2 = (if t = [] then (flt 3 (k : Int) 5 (skip s P : Int)).2 else (k : Int)) := ⟨_, rfl⟩
      have HT := Lib.hid ht
      have HK2 := Lib.hid hK2
      have HE2 := Lib.hid he2
      have HA2 := Lib.hid ha2
      obtain ⟨z, hz⟩ : ∃ z, z = (if t = [] then 0 else digV t) := ⟨_, rfl⟩
      have HZ := Lib.hid hz
      have HWD : Hid (∀ wx, Prs base wx b s P d ((n : Int) + 1) v L 3 (k : Int) → ErrV wx → Calls Tryz.prog 115 #[ptr b] wx fun r w' => r = .returned (.int .i64 z) ∧ WdS base wx w' b s K2 d ((n : Int) + 1) v L e2 a2) := Lib.hid (fun wx hx hv => by rw [hK2, he2, ha2, hz, ht]; exact digits_any base b s P d ((n : Int) + 1) v L 3 (k : Int) wx hx hv)
      clear ht hK2 he2 ha2 hz
      go_upto_region 24 with (first | (go_at_call 78; refine (is_any base b s _ d _ v L 3 (k : Int) _ _ HX.out (by decide)).mono ?_; (try rw [Q0]); (try rw [Q1]); (try rw [Q2]); rintro r wi ⟨rfl, hx, hf⟩; (try rw [M0] at hx); (try rw [M1] at hx); (try rw [M2] at hx); have HX := Lib.hid hx; have HOX : Hid (Onb b w wi) := Lib.hid (HOX.out.then hf); have HY := Lib.hid (HY.out.frp hf HYB.out); clear hx hf) | (go_at_call 115; refine (HWD.out _ HX.out (HV.out.onb H.out HOX.out)).mono ?_; rintro r wi ⟨rfl, hw⟩; have hx := hw.1; have hf := hw.2; have HX2 := Lib.hid hx; have HOX2 : Hid (Onb b w wi) := Lib.hid (HOX.out.then hf); have HY2 := Lib.hid (HY.out.frp hf HYB.out); have y0 := HY2.out.cell (j := 0) rfl; have y2 := HY2.out.cell (j := 3) rfl; have yf0 := HY2.out.free 0; have yf2 := HY2.out.free 3; clear hx hf hw))
      refine at_hide (F := fun w' => Blk w' Y (ndC ⟨5, nm, [], z, -1, -1⟩) 52 ∧ Prs base w' b s K2 d ((n : Int) + 1) v L e2 a2 ∧ Below base w w') ⟨(HY2.out.set 0 (.int .i64 5)).set 3 (.int .i64 z), (HX2.out.off HYB.out HYV.out 0 _).off HYB.out HYV.out 3 _, ((onb_below HOX2.out H.out.hb HBS.out).setCell (p := ⟨Y, 0, none⟩) HYL.out _).setCell (p := ⟨Y, 3, none⟩) HYL.out _⟩ ?_
      intro w8 hF
      obtain ⟨f1, f2, f3⟩ := hF
      have HY8 := Lib.hid f1
      have H8 := Lib.hid f2
      have HB8 := Lib.hid f3
      clear f1 f2 f3 y0 y2 yf0 yf2
      have y0 := HY8.out.cell (j := 0) rfl
      have y1 := HY8.out.cell (j := 1) rfl
      have y2 := HY8.out.cell (j := 2) rfl
      have y3 := HY8.out.cell (j := 3) rfl
      have y4 := HY8.out.cell (j := 4) rfl
      have y5 := HY8.out.cell (j := 5) rfl
      have HE3 : Hid (e2 = 3 ∧ a2 = (k : Int)) := Lib.hid (by rw [HE2.out, HA2.out]; constructor <;> simp [flt])
      rw [HE3.out.1, HE3.out.2] at H8
      go_wp2_with (go_at_call 80; refine (node_bad base b s K2 d _ v L 3 (k : Int) ⟨5, nm, [], z, -1, -1⟩ _ H8.out (by decide)).mono ?_; rintro r w9 ⟨rfl, h9, hf⟩; have H9 := Lib.hid h9; have HB9 : Hid (Below base w w9) := Lib.hid (HB8.out.trans (onb_below hf H.out.hb (by have h1 := HBS.out; have h2 := HB8.out.size; omega))); clear h9 hf)
      go_ret
      exact out_err (by rw [HR.out]) H9.out HB9.out _
    case false =>
    cases hq3 : isB s ⟨#[61]⟩ k1
    case true =>
      have HX : Hid (Prs base w6 b s k1 d ((n : Int) + 1) v L 3 (k : Int)) := H6
      have HOX := HO6
      have HY := Y6
      have Q0 : isB s ⟨#[33, 61]⟩ k1 = false := hq0
      have M0 : isK s ⟨#[33, 61]⟩ k1 = K0 := by rw [HK0.out]; exact (strip_no hk1s hq0).2
      have Q1 : isB s ⟨#[62, 61]⟩ K0 = false := by rw [HK0.out, (isB_skip hk1s).1]; exact hq1
      have M1 : isK s ⟨#[62, 61]⟩ K0 = K0 := by rw [HK0.out, (isB_skip hk1s).2]; exact (strip_no hk1s hq1).2
      have Q2 : isB s ⟨#[60, 61]⟩ K0 = false := by rw [HK0.out, (isB_skip hk1s).1]; exact hq2
      have M2 : isK s ⟨#[60, 61]⟩ K0 = K0 := by rw [HK0.out, (isB_skip hk1s).2]; exact (strip_no hk1s hq2).2
      have Q3 : isB s ⟨#[61]⟩ K0 = true := by rw [HK0.out, (isB_skip hk1s).1]; exact hq3
      obtain ⟨P, hP⟩ : ∃ P, P = isK s ⟨#[61]⟩ k1 := ⟨_, rfl⟩
      have HP := Lib.hid hP
      have M3 : isK s ⟨#[61]⟩ K0 = P := by rw [HK0.out, (isB_skip hk1s).2]; exact hP.symm
      have HSP := Lib.hid (strip_yes hk1s hq3)
      clear hq0 hq1 hq2 hq3
      clear hP
      obtain ⟨t, ht⟩ : ∃ t, t = run 32 wdc (blk (rest s P)) := ⟨_, rfl⟩
      obtain ⟨K2, hK2⟩ : ∃ K2, K2 = skip s P + t.length := ⟨_, rfl⟩
      obtain ⟨e2, he2⟩ : ∃ e2, e2 = (if t = [] then (flt 3 (k : Int) 5 (skip s P : Int)).1 else 3) := ⟨_, rfl⟩
      obtain ⟨a2, ha2⟩ : ∃ a2, a2 = (if t = [] then (flt 3 (k : Int) 5 (skip s P : Int)).2 else (k : Int)) := ⟨_, rfl⟩
      have HT := Lib.hid ht
      have HK2 := Lib.hid hK2
      have HE2 := Lib.hid he2
      have HA2 := Lib.hid ha2
      have HWD : Hid (∀ wx, Prs base wx b s P d ((n : Int) + 1) v L 3 (k : Int) → Calls Tryz.prog 114 #[ptr b] wx fun r w' => r = .returned (.string (bs t)) ∧ WdS base wx w' b s K2 d ((n : Int) + 1) v L e2 a2) := Lib.hid (fun wx hx => by rw [hK2, he2, ha2, ht]; exact word_any base b s P d ((n : Int) + 1) v L 3 (k : Int) wx hx)
      clear ht hK2 he2 ha2
      go_upto_region 24 with (first | (go_at_call 78; refine (is_any base b s _ d _ v L 3 (k : Int) _ _ HX.out (by decide)).mono ?_; (try rw [Q0]); (try rw [Q1]); (try rw [Q2]); (try rw [Q3]); rintro r wi ⟨rfl, hx, hf⟩; (try rw [M0] at hx); (try rw [M1] at hx); (try rw [M2] at hx); (try rw [M3] at hx); have HX := Lib.hid hx; have HOX : Hid (Onb b w wi) := Lib.hid (HOX.out.then hf); have HY := Lib.hid (HY.out.frp hf HYB.out); clear hx hf) | (go_at_call 114; refine (HWD.out _ HX.out).mono ?_; rintro r wi ⟨rfl, hw⟩; have hx := hw.1; have hf := hw.2; have HX2 := Lib.hid hx; have HOX2 : Hid (Onb b w wi) := Lib.hid (HOX.out.then hf); have HY2 := Lib.hid (HY.out.frp hf HYB.out); have y0 := HY2.out.cell (j := 0) rfl; have y2 := HY2.out.cell (j := 2) rfl; have yf0 := HY2.out.free 0; have yf2 := HY2.out.free 2; clear hx hf hw))
      refine at_hide (F := fun w' => Blk w' Y (ndC ⟨2, nm, t, 0, -1, -1⟩) 52 ∧ Prs base w' b s K2 d ((n : Int) + 1) v L e2 a2 ∧ Below base w w') ⟨(HY2.out.set 0 (.int .i64 2)).set 2 (.string (bs t)), (HX2.out.off HYB.out HYV.out 0 _).off HYB.out HYV.out 2 _, ((onb_below HOX2.out H.out.hb HBS.out).setCell (p := ⟨Y, 0, none⟩) HYL.out _).setCell (p := ⟨Y, 2, none⟩) HYL.out _⟩ ?_
      intro w8 hF
      obtain ⟨f1, f2, f3⟩ := hF
      have HY8 := Lib.hid f1
      have H8 := Lib.hid f2
      have HB8 := Lib.hid f3
      clear f1 f2 f3 y0 y2 yf0 yf2
      have y0 := HY8.out.cell (j := 0) rfl
      have y1 := HY8.out.cell (j := 1) rfl
      have y2 := HY8.out.cell (j := 2) rfl
      have y3 := HY8.out.cell (j := 3) rfl
      have y4 := HY8.out.cell (j := 4) rfl
      have y5 := HY8.out.cell (j := 5) rfl
      have HE3 : Hid (e2 = 3 ∧ a2 = (k : Int)) := Lib.hid (by rw [HE2.out, HA2.out]; constructor <;> simp [flt])
      rw [HE3.out.1, HE3.out.2] at H8
      go_wp2_with (go_at_call 80; refine (node_bad base b s K2 d _ v L 3 (k : Int) ⟨2, nm, t, 0, -1, -1⟩ _ H8.out (by decide)).mono ?_; rintro r w9 ⟨rfl, h9, hf⟩; have H9 := Lib.hid h9; have HB9 : Hid (Below base w w9) := Lib.hid (HB8.out.trans (onb_below hf H.out.hb (by have h1 := HBS.out; have h2 := HB8.out.size; omega))); clear h9 hf)
      go_ret
      exact out_err (by rw [HR.out]) H9.out HB9.out _
    case false =>
    cases hq4 : isB s ⟨#[33]⟩ k1
    case true =>
      have HX : Hid (Prs base w6 b s k1 d ((n : Int) + 1) v L 3 (k : Int)) := H6
      have HOX := HO6
      have HY := Y6
      have Q0 : isB s ⟨#[33, 61]⟩ k1 = false := hq0
      have M0 : isK s ⟨#[33, 61]⟩ k1 = K0 := by rw [HK0.out]; exact (strip_no hk1s hq0).2
      have Q1 : isB s ⟨#[62, 61]⟩ K0 = false := by rw [HK0.out, (isB_skip hk1s).1]; exact hq1
      have M1 : isK s ⟨#[62, 61]⟩ K0 = K0 := by rw [HK0.out, (isB_skip hk1s).2]; exact (strip_no hk1s hq1).2
      have Q2 : isB s ⟨#[60, 61]⟩ K0 = false := by rw [HK0.out, (isB_skip hk1s).1]; exact hq2
      have M2 : isK s ⟨#[60, 61]⟩ K0 = K0 := by rw [HK0.out, (isB_skip hk1s).2]; exact (strip_no hk1s hq2).2
      have Q3 : isB s ⟨#[61]⟩ K0 = false := by rw [HK0.out, (isB_skip hk1s).1]; exact hq3
      have M3 : isK s ⟨#[61]⟩ K0 = K0 := by rw [HK0.out, (isB_skip hk1s).2]; exact (strip_no hk1s hq3).2
      have Q4 : isB s ⟨#[33]⟩ K0 = true := by rw [HK0.out, (isB_skip hk1s).1]; exact hq4
      obtain ⟨P, hP⟩ : ∃ P, P = isK s ⟨#[33]⟩ k1 := ⟨_, rfl⟩
      have HP := Lib.hid hP
      have M4 : isK s ⟨#[33]⟩ K0 = P := by rw [HK0.out, (isB_skip hk1s).2]; exact hP.symm
      have HSP := Lib.hid (strip_yes hk1s hq4)
      clear hq0 hq1 hq2 hq3 hq4
      clear hP
      have c1p : True := trivial
      obtain ⟨fe, fa, hfl⟩ : ∃ fe fa, flt 3 (k : Int) 5 (P : Int) = (fe, fa) := ⟨_, _, rfl⟩
      have HFL := Lib.hid hfl
      clear hfl
      go_upto_region 23 with (first | (go_at_call 78; refine (is_any base b s _ d _ v L 3 (k : Int) _ _ HX.out (by decide)).mono ?_; (try rw [Q0]); (try rw [Q1]); (try rw [Q2]); (try rw [Q3]); (try rw [Q4]); rintro r wi ⟨rfl, hx, hf⟩; (try rw [M0] at hx); (try rw [M1] at hx); (try rw [M2] at hx); (try rw [M3] at hx); (try rw [M4] at hx); have HX := Lib.hid hx; have HOX : Hid (Onb b w wi) := Lib.hid (HOX.out.then hf); have HY := Lib.hid (HY.out.frp hf HYB.out); clear hx hf))
      have c1 := HX.out.c1
      go_upto_region 24 with (go_at_call 38; refine (fails_any base b s P d _ v L 3 (k : Int) 5 (P : Int) _ HX.out).mono ?_; rw [HFL.out]; rintro r wi ⟨rfl, hx, hf⟩; have HX2 := Lib.hid hx; have HOX2 : Hid (Onb b w wi) := Lib.hid (HOX.out.then hf); have HY2 := Lib.hid (HY.out.frp hf HYB.out); clear hx hf)
      have y0 := HY2.out.cell (j := 0) rfl
      have y1 := HY2.out.cell (j := 1) rfl
      have y2 := HY2.out.cell (j := 2) rfl
      have y3 := HY2.out.cell (j := 3) rfl
      have y4 := HY2.out.cell (j := 4) rfl
      have y5 := HY2.out.cell (j := 5) rfl
      have HE3 : Hid (fe = 3 ∧ fa = (k : Int)) := Lib.hid (by have := HFL.out; unfold flt at this; rw [if_neg (by simp)] at this; cases this; exact ⟨rfl, rfl⟩)
      rw [HE3.out.1, HE3.out.2] at HX2
      go_wp2_with (go_at_call 80; refine (node_bad base b s P d _ v L 3 (k : Int) ⟨6, nm, [], 0, -1, -1⟩ _ HX2.out (by decide)).mono ?_; rintro r w9 ⟨rfl, h9, hf⟩; have H9 := Lib.hid h9; have HO9 : Hid (Onb b w w9) := Lib.hid (HOX2.out.then hf); clear h9 hf)
      go_ret
      exact out_err (by rw [HR.out]) H9.out (onb_below HO9.out H.out.hb HBS.out) _
    case false =>
    cases hq5 : isB s ⟨#[62]⟩ k1
    case true =>
      have HX : Hid (Prs base w6 b s k1 d ((n : Int) + 1) v L 3 (k : Int)) := H6
      have HOX := HO6
      have HY := Y6
      have Q0 : isB s ⟨#[33, 61]⟩ k1 = false := hq0
      have M0 : isK s ⟨#[33, 61]⟩ k1 = K0 := by rw [HK0.out]; exact (strip_no hk1s hq0).2
      have Q1 : isB s ⟨#[62, 61]⟩ K0 = false := by rw [HK0.out, (isB_skip hk1s).1]; exact hq1
      have M1 : isK s ⟨#[62, 61]⟩ K0 = K0 := by rw [HK0.out, (isB_skip hk1s).2]; exact (strip_no hk1s hq1).2
      have Q2 : isB s ⟨#[60, 61]⟩ K0 = false := by rw [HK0.out, (isB_skip hk1s).1]; exact hq2
      have M2 : isK s ⟨#[60, 61]⟩ K0 = K0 := by rw [HK0.out, (isB_skip hk1s).2]; exact (strip_no hk1s hq2).2
      have Q3 : isB s ⟨#[61]⟩ K0 = false := by rw [HK0.out, (isB_skip hk1s).1]; exact hq3
      have M3 : isK s ⟨#[61]⟩ K0 = K0 := by rw [HK0.out, (isB_skip hk1s).2]; exact (strip_no hk1s hq3).2
      have Q4 : isB s ⟨#[33]⟩ K0 = false := by rw [HK0.out, (isB_skip hk1s).1]; exact hq4
      have M4 : isK s ⟨#[33]⟩ K0 = K0 := by rw [HK0.out, (isB_skip hk1s).2]; exact (strip_no hk1s hq4).2
      have Q5 : isB s ⟨#[62]⟩ K0 = true := by rw [HK0.out, (isB_skip hk1s).1]; exact hq5
      obtain ⟨P, hP⟩ : ∃ P, P = isK s ⟨#[62]⟩ k1 := ⟨_, rfl⟩
      have HP := Lib.hid hP
      have M5 : isK s ⟨#[62]⟩ K0 = P := by rw [HK0.out, (isB_skip hk1s).2]; exact hP.symm
      have HSP := Lib.hid (strip_yes hk1s hq5)
      clear hq0 hq1 hq2 hq3 hq4 hq5
      clear hP
      have c1p : True := trivial
      obtain ⟨fe, fa, hfl⟩ : ∃ fe fa, flt 3 (k : Int) 5 (P : Int) = (fe, fa) := ⟨_, _, rfl⟩
      have HFL := Lib.hid hfl
      clear hfl
      go_upto_region 23 with (first | (go_at_call 78; refine (is_any base b s _ d _ v L 3 (k : Int) _ _ HX.out (by decide)).mono ?_; (try rw [Q0]); (try rw [Q1]); (try rw [Q2]); (try rw [Q3]); (try rw [Q4]); (try rw [Q5]); rintro r wi ⟨rfl, hx, hf⟩; (try rw [M0] at hx); (try rw [M1] at hx); (try rw [M2] at hx); (try rw [M3] at hx); (try rw [M4] at hx); (try rw [M5] at hx); have HX := Lib.hid hx; have HOX : Hid (Onb b w wi) := Lib.hid (HOX.out.then hf); have HY := Lib.hid (HY.out.frp hf HYB.out); clear hx hf))
      have c1 := HX.out.c1
      go_upto_region 24 with (go_at_call 38; refine (fails_any base b s P d _ v L 3 (k : Int) 5 (P : Int) _ HX.out).mono ?_; rw [HFL.out]; rintro r wi ⟨rfl, hx, hf⟩; have HX2 := Lib.hid hx; have HOX2 : Hid (Onb b w wi) := Lib.hid (HOX.out.then hf); have HY2 := Lib.hid (HY.out.frp hf HYB.out); clear hx hf)
      have y0 := HY2.out.cell (j := 0) rfl
      have y1 := HY2.out.cell (j := 1) rfl
      have y2 := HY2.out.cell (j := 2) rfl
      have y3 := HY2.out.cell (j := 3) rfl
      have y4 := HY2.out.cell (j := 4) rfl
      have y5 := HY2.out.cell (j := 5) rfl
      have HE3 : Hid (fe = 3 ∧ fa = (k : Int)) := Lib.hid (by have := HFL.out; unfold flt at this; rw [if_neg (by simp)] at this; cases this; exact ⟨rfl, rfl⟩)
      rw [HE3.out.1, HE3.out.2] at HX2
      go_wp2_with (go_at_call 80; refine (node_bad base b s P d _ v L 3 (k : Int) ⟨6, nm, [], 0, -1, -1⟩ _ HX2.out (by decide)).mono ?_; rintro r w9 ⟨rfl, h9, hf⟩; have H9 := Lib.hid h9; have HO9 : Hid (Onb b w w9) := Lib.hid (HOX2.out.then hf); clear h9 hf)
      go_ret
      exact out_err (by rw [HR.out]) H9.out (onb_below HO9.out H.out.hb HBS.out) _
    case false =>
    cases hq6 : isB s ⟨#[60]⟩ k1
    case true =>
      have HX : Hid (Prs base w6 b s k1 d ((n : Int) + 1) v L 3 (k : Int)) := H6
      have HOX := HO6
      have HY := Y6
      have Q0 : isB s ⟨#[33, 61]⟩ k1 = false := hq0
      have M0 : isK s ⟨#[33, 61]⟩ k1 = K0 := by rw [HK0.out]; exact (strip_no hk1s hq0).2
      have Q1 : isB s ⟨#[62, 61]⟩ K0 = false := by rw [HK0.out, (isB_skip hk1s).1]; exact hq1
      have M1 : isK s ⟨#[62, 61]⟩ K0 = K0 := by rw [HK0.out, (isB_skip hk1s).2]; exact (strip_no hk1s hq1).2
      have Q2 : isB s ⟨#[60, 61]⟩ K0 = false := by rw [HK0.out, (isB_skip hk1s).1]; exact hq2
      have M2 : isK s ⟨#[60, 61]⟩ K0 = K0 := by rw [HK0.out, (isB_skip hk1s).2]; exact (strip_no hk1s hq2).2
      have Q3 : isB s ⟨#[61]⟩ K0 = false := by rw [HK0.out, (isB_skip hk1s).1]; exact hq3
      have M3 : isK s ⟨#[61]⟩ K0 = K0 := by rw [HK0.out, (isB_skip hk1s).2]; exact (strip_no hk1s hq3).2
      have Q4 : isB s ⟨#[33]⟩ K0 = false := by rw [HK0.out, (isB_skip hk1s).1]; exact hq4
      have M4 : isK s ⟨#[33]⟩ K0 = K0 := by rw [HK0.out, (isB_skip hk1s).2]; exact (strip_no hk1s hq4).2
      have Q5 : isB s ⟨#[62]⟩ K0 = false := by rw [HK0.out, (isB_skip hk1s).1]; exact hq5
      have M5 : isK s ⟨#[62]⟩ K0 = K0 := by rw [HK0.out, (isB_skip hk1s).2]; exact (strip_no hk1s hq5).2
      have Q6 : isB s ⟨#[60]⟩ K0 = true := by rw [HK0.out, (isB_skip hk1s).1]; exact hq6
      obtain ⟨P, hP⟩ : ∃ P, P = isK s ⟨#[60]⟩ k1 := ⟨_, rfl⟩
      have HP := Lib.hid hP
      have M6 : isK s ⟨#[60]⟩ K0 = P := by rw [HK0.out, (isB_skip hk1s).2]; exact hP.symm
      have HSP := Lib.hid (strip_yes hk1s hq6)
      clear hq0 hq1 hq2 hq3 hq4 hq5 hq6
      clear hP
      have c1p : True := trivial
      obtain ⟨fe, fa, hfl⟩ : ∃ fe fa, flt 3 (k : Int) 5 (P : Int) = (fe, fa) := ⟨_, _, rfl⟩
      have HFL := Lib.hid hfl
      clear hfl
      go_upto_region 23 with (first | (go_at_call 78; refine (is_any base b s _ d _ v L 3 (k : Int) _ _ HX.out (by decide)).mono ?_; (try rw [Q0]); (try rw [Q1]); (try rw [Q2]); (try rw [Q3]); (try rw [Q4]); (try rw [Q5]); (try rw [Q6]); rintro r wi ⟨rfl, hx, hf⟩; (try rw [M0] at hx); (try rw [M1] at hx); (try rw [M2] at hx); (try rw [M3] at hx); (try rw [M4] at hx); (try rw [M5] at hx); (try rw [M6] at hx); have HX := Lib.hid hx; have HOX : Hid (Onb b w wi) := Lib.hid (HOX.out.then hf); have HY := Lib.hid (HY.out.frp hf HYB.out); clear hx hf))
      have c1 := HX.out.c1
      go_upto_region 24 with (go_at_call 38; refine (fails_any base b s P d _ v L 3 (k : Int) 5 (P : Int) _ HX.out).mono ?_; rw [HFL.out]; rintro r wi ⟨rfl, hx, hf⟩; have HX2 := Lib.hid hx; have HOX2 : Hid (Onb b w wi) := Lib.hid (HOX.out.then hf); have HY2 := Lib.hid (HY.out.frp hf HYB.out); clear hx hf)
      have y0 := HY2.out.cell (j := 0) rfl
      have y1 := HY2.out.cell (j := 1) rfl
      have y2 := HY2.out.cell (j := 2) rfl
      have y3 := HY2.out.cell (j := 3) rfl
      have y4 := HY2.out.cell (j := 4) rfl
      have y5 := HY2.out.cell (j := 5) rfl
      have HE3 : Hid (fe = 3 ∧ fa = (k : Int)) := Lib.hid (by have := HFL.out; unfold flt at this; rw [if_neg (by simp)] at this; cases this; exact ⟨rfl, rfl⟩)
      rw [HE3.out.1, HE3.out.2] at HX2
      go_wp2_with (go_at_call 80; refine (node_bad base b s P d _ v L 3 (k : Int) ⟨6, nm, [], 0, -1, -1⟩ _ HX2.out (by decide)).mono ?_; rintro r w9 ⟨rfl, h9, hf⟩; have H9 := Lib.hid h9; have HO9 : Hid (Onb b w w9) := Lib.hid (HOX2.out.then hf); clear h9 hf)
      go_ret
      exact out_err (by rw [HR.out]) H9.out (onb_below HO9.out H.out.hb HBS.out) _
    case false =>
    have HX : Hid (Prs base w6 b s k1 d ((n : Int) + 1) v L 3 (k : Int)) := H6
    have HOX := HO6
    have HY := Y6
    have Q0 : isB s ⟨#[33, 61]⟩ k1 = false := hq0
    have M0 : isK s ⟨#[33, 61]⟩ k1 = K0 := by rw [HK0.out]; exact (strip_no hk1s hq0).2
    have Q1 : isB s ⟨#[62, 61]⟩ K0 = false := by rw [HK0.out, (isB_skip hk1s).1]; exact hq1
    have M1 : isK s ⟨#[62, 61]⟩ K0 = K0 := by rw [HK0.out, (isB_skip hk1s).2]; exact (strip_no hk1s hq1).2
    have Q2 : isB s ⟨#[60, 61]⟩ K0 = false := by rw [HK0.out, (isB_skip hk1s).1]; exact hq2
    have M2 : isK s ⟨#[60, 61]⟩ K0 = K0 := by rw [HK0.out, (isB_skip hk1s).2]; exact (strip_no hk1s hq2).2
    have Q3 : isB s ⟨#[61]⟩ K0 = false := by rw [HK0.out, (isB_skip hk1s).1]; exact hq3
    have M3 : isK s ⟨#[61]⟩ K0 = K0 := by rw [HK0.out, (isB_skip hk1s).2]; exact (strip_no hk1s hq3).2
    have Q4 : isB s ⟨#[33]⟩ K0 = false := by rw [HK0.out, (isB_skip hk1s).1]; exact hq4
    have M4 : isK s ⟨#[33]⟩ K0 = K0 := by rw [HK0.out, (isB_skip hk1s).2]; exact (strip_no hk1s hq4).2
    have Q5 : isB s ⟨#[62]⟩ K0 = false := by rw [HK0.out, (isB_skip hk1s).1]; exact hq5
    have M5 : isK s ⟨#[62]⟩ K0 = K0 := by rw [HK0.out, (isB_skip hk1s).2]; exact (strip_no hk1s hq5).2
    have Q6 : isB s ⟨#[60]⟩ K0 = false := by rw [HK0.out, (isB_skip hk1s).1]; exact hq6
    have M6 : isK s ⟨#[60]⟩ K0 = K0 := by rw [HK0.out, (isB_skip hk1s).2]; exact (strip_no hk1s hq6).2
    clear hq0 hq1 hq2 hq3 hq4 hq5 hq6
    go_upto_region 24 with (first | (go_at_call 78; refine (is_any base b s _ d _ v L 3 (k : Int) _ _ HX.out (by decide)).mono ?_; (try rw [Q0]); (try rw [Q1]); (try rw [Q2]); (try rw [Q3]); (try rw [Q4]); (try rw [Q5]); (try rw [Q6]); rintro r wi ⟨rfl, hx, hf⟩; (try rw [M0] at hx); (try rw [M1] at hx); (try rw [M2] at hx); (try rw [M3] at hx); (try rw [M4] at hx); (try rw [M5] at hx); (try rw [M6] at hx); have HX := Lib.hid hx; have HOX : Hid (Onb b w wi) := Lib.hid (HOX.out.then hf); have HY := Lib.hid (HY.out.frp hf HYB.out); clear hx hf))
    have y0 := HY.out.cell (j := 0) rfl
    have y1 := HY.out.cell (j := 1) rfl
    have y2 := HY.out.cell (j := 2) rfl
    have y3 := HY.out.cell (j := 3) rfl
    have y4 := HY.out.cell (j := 4) rfl
    have y5 := HY.out.cell (j := 5) rfl
    go_wp2_with (go_at_call 80; refine (node_bad base b s K0 d _ v L 3 (k : Int) ⟨6, nm, [], 0, -1, -1⟩ _ HX.out (by decide)).mono ?_; rintro r w9 ⟨rfl, h9, hf⟩; have H9 := Lib.hid h9; have HO9 : Hid (Onb b w w9) := Lib.hid (HOX.out.then hf); clear h9 hf)
    go_ret
    exact out_err (by rw [HR.out]) H9.out (onb_below HO9.out H.out.hb HBS.out) _
  case neg =>
    have q1 : ¬ (64 : Int) < (n : Int) + 1 := by omega
    have HE : Hid ((if 64 < (n : Int) + 1 then (3 : Int) else 0) = 0 ∧ (if 64 < (n : Int) + 1 then (k : Int) else 0) = 0) := Lib.hid ⟨if_neg q1, if_neg q1⟩
    rw [if_neg h64] at HR
    go_upto_region 13 with (go_at_call 79; refine (count_any base b s k1 d n v L (k : Int) _ H4.out (by omega)).mono ?_; rw [HE.out.1, HE.out.2]; rintro r w5 ⟨rfl, h5, hf⟩; have H5 := Lib.hid h5; have HO5 : Hid (Onb b w w5) := Lib.hid (HO4.out.then hf); clear h5 hf)
    go_upto_region 14 with fail
    refine at_hide (F := fun w' => Blk w' w5.heap.size (ndC ⟨6, nm, [], 0, -1, -1⟩) 52 ∧ Prs base w' b s k1 d ((n : Int) + 1) v L 0 0 ∧ Onb b w w') ⟨Blk.made w5 (ndC ⟨6, nm, [], 0, -1, -1⟩) _, H5.out.kept (below_alloc _ _), HO5.out.next (below_alloc _ _)⟩ ?_
    intro w6 hF
    obtain ⟨Y, hY⟩ : ∃ Y, Y = w5.heap.size := ⟨_, rfl⟩
    rw [← hY] at hF ⊢
    have HYB : Hid (Y ≠ b) := Lib.hid (by rw [hY]; have := H5.out.blk.lt; omega)
    have HYV : Hid (v.ownBlock ≠ some Y) := Lib.hid (fun hq => by have := own_hi H5.out.own hq; omega)
    have HYL : Hid (base ≤ Y) := Lib.hid (by rw [hY]; have h1 := HBS.out; have h2 := Frp.size HO5.out; omega)
    have Y6 := Lib.hid hF.1
    have H6 := Lib.hid hF.2.1
    have HO6 := Lib.hid hF.2.2
    clear hF hY H5 HO5 H4 HO4 h64 q1
    obtain ⟨K0, hK0⟩ : ∃ K0, K0 = skip s k1 := ⟨_, rfl⟩
    have HK0 := Lib.hid hK0
    rw [← hK0] at HR
    clear hK0
    cases hq0 : isB s ⟨#[33, 61]⟩ k1
    case true =>
      have HX : Hid (Prs base w6 b s k1 d ((n : Int) + 1) v L 0 0) := H6
      have HOX := HO6
      have HY := Y6
      have Q0 : isB s ⟨#[33, 61]⟩ k1 = true := hq0
      obtain ⟨P, hP⟩ : ∃ P, P = isK s ⟨#[33, 61]⟩ k1 := ⟨_, rfl⟩
      have HP := Lib.hid hP
      have M0 : isK s ⟨#[33, 61]⟩ k1 = P := by exact hP.symm
      have HSP := Lib.hid (strip_yes hk1s hq0)
      have HSP' : Hid (P ≤ s.size) := Lib.hid (by rw [HP.out]; exact HSP.out.2)
      have HOP : Hid (opP s.size (n + 1) L nm (rest s K0) = wdE s.size (n + 1) L nm 3 (rest s P)) := Lib.hid (by rw [HK0.out, HP.out]; unfold opP; simp only [(strip_yes hk1s hq0).1])
      clear hq0
      clear hP
      obtain ⟨t, ht⟩ : ∃ t, t = run 32 wdc (blk (rest s P)) := ⟨_, rfl⟩
      obtain ⟨K2, hK2⟩ : ∃ K2, K2 = skip s P + t.length := ⟨_, rfl⟩
      obtain ⟨e2, he2⟩ : ∃ e2, e2 = (if t = [] then (flt 0 0 5 (skip s P : Int)).1 else 0) := ⟨_, rfl⟩
      obtain ⟨a2, ha2⟩ : ∃ a2, a2 = (if t = [] then (flt 0 0 5 (skip s P : Int)).2 else 0) := ⟨_, rfl⟩
      have HT := Lib.hid ht
      have HK2 := Lib.hid hK2
      have HE2 := Lib.hid he2
      have HA2 := Lib.hid ha2
      have HWD : Hid (∀ wx, Prs base wx b s P d ((n : Int) + 1) v L 0 0 → Calls Tryz.prog 114 #[ptr b] wx fun r w' => r = .returned (.string (bs t)) ∧ WdS base wx w' b s K2 d ((n : Int) + 1) v L e2 a2) := Lib.hid (fun wx hx => by rw [hK2, he2, ha2, ht]; exact word_any base b s P d ((n : Int) + 1) v L 0 0 wx hx)
      clear ht hK2 he2 ha2
      go_upto_region 24 with (first | (go_at_call 78; refine (is_any base b s _ d _ v L 0 0 _ _ HX.out (by decide)).mono ?_; (try rw [Q0]); rintro r wi ⟨rfl, hx, hf⟩; (try rw [M0] at hx); have HX := Lib.hid hx; have HOX : Hid (Onb b w wi) := Lib.hid (HOX.out.then hf); have HY := Lib.hid (HY.out.frp hf HYB.out); clear hx hf) | (go_at_call 114; refine (HWD.out _ HX.out).mono ?_; rintro r wi ⟨rfl, hw⟩; have hx := hw.1; have hf := hw.2; have HX2 := Lib.hid hx; have HOX2 : Hid (Onb b w wi) := Lib.hid (HOX.out.then hf); have HY2 := Lib.hid (HY.out.frp hf HYB.out); have y0 := HY2.out.cell (j := 0) rfl; have y2 := HY2.out.cell (j := 2) rfl; have yf0 := HY2.out.free 0; have yf2 := HY2.out.free 2; clear hx hf hw))
      refine at_hide (F := fun w' => Blk w' Y (ndC ⟨3, nm, t, 0, -1, -1⟩) 52 ∧ Prs base w' b s K2 d ((n : Int) + 1) v L e2 a2 ∧ Below base w w') ⟨(HY2.out.set 0 (.int .i64 3)).set 2 (.string (bs t)), (HX2.out.off HYB.out HYV.out 0 _).off HYB.out HYV.out 2 _, ((onb_below HOX2.out H.out.hb HBS.out).setCell (p := ⟨Y, 0, none⟩) HYL.out _).setCell (p := ⟨Y, 2, none⟩) HYL.out _⟩ ?_
      intro w8 hF
      obtain ⟨f1, f2, f3⟩ := hF
      have HY8 := Lib.hid f1
      have H8 := Lib.hid f2
      have HB8 := Lib.hid f3
      clear f1 f2 f3 y0 y2 yf0 yf2
      have y0 := HY8.out.cell (j := 0) rfl
      have y1 := HY8.out.cell (j := 1) rfl
      have y2 := HY8.out.cell (j := 2) rfl
      have y3 := HY8.out.cell (j := 3) rfl
      have y4 := HY8.out.cell (j := 4) rfl
      have y5 := HY8.out.cell (j := 5) rfl
      by_cases h0 : t = []
      · have HE3 : Hid (e2 = 5 ∧ a2 = (skip s P : Int)) := Lib.hid (by rw [HE2.out, HA2.out, if_pos h0, if_pos h0]; unfold flt; rw [if_pos ⟨rfl, rfl⟩]; exact ⟨rfl, rfl⟩)
        rw [HE3.out.1, HE3.out.2] at H8
        have HRR : Hid (leafP s.size ⟨n, L, rest s k⟩ = .error (5, (skip s P : Int))) := Lib.hid (by rw [HR.out, HOP.out]; unfold wdE; rw [← HT.out, if_pos h0, (skip_is HSP'.out).2.2.1, pos_rest (skip_is HSP'.out).2.1])
        clear h0
        go_wp2_with (go_at_call 80; refine (node_bad base b s K2 d _ v L 5 (skip s P : Int) ⟨3, nm, t, 0, -1, -1⟩ _ H8.out (by decide)).mono ?_; rintro r w9 ⟨rfl, h9, hf⟩; have H9 := Lib.hid h9; have HB9 : Hid (Below base w w9) := Lib.hid (HB8.out.trans (onb_below hf H.out.hb (by have h1 := HBS.out; have h2 := HB8.out.size; omega))); clear h9 hf)
        go_ret
        exact out_err (by exact HRR.out) H9.out HB9.out _
      · have HE3 : Hid (e2 = 0 ∧ a2 = 0) := Lib.hid (by rw [HE2.out, HA2.out, if_neg h0, if_neg h0]; exact ⟨rfl, rfl⟩)
        rw [HE3.out.1, HE3.out.2] at H8
        have HRR : Hid (leafP s.size ⟨n, L, rest s k⟩ = .ok (put (n + 1) L (rest s K2) ⟨3, nm, t, 0, -1, -1⟩)) := Lib.hid (by rw [HR.out, HOP.out]; unfold wdE; rw [← HT.out, if_neg h0, (skip_is HSP'.out).2.2.1, rest_drop, HK2.out])
        clear h0
        go_wp2_with (go_at_call 80; refine (node_ok base b s K2 d _ v L ⟨3, nm, t, 0, -1, -1⟩ _ H8.out (by have := HL.out; omega) (by have h1 := HBS.out; have h2 := HB8.out.size; omega)).mono ?_; rintro r w9 ⟨rfl, h9⟩; have H9 := Lib.hid h9; clear h9)
        go_ret
        obtain ⟨v', h6, h7, h8⟩ := H9.out
        refine out_ok (k' := K2) (n' := n + 1) (by rw [HRR.out]; rfl) (v' := v') (by push_cast; exact h6) ?_
        exact HB8.out.trans (h7.below (fun q hq => by rcases hq with rfl | hq; exact H.out.hb; exact own_lo H.out.own hq) (by have h1 := HBS.out; have h2 := HB8.out.size; omega))
    case false =>
    cases hq1 : isB s ⟨#[62, 61]⟩ k1
    case true =>
      have HX : Hid (Prs base w6 b s k1 d ((n : Int) + 1) v L 0 0) := H6
      have HOX := HO6
      have HY := Y6
      have Q0 : isB s ⟨#[33, 61]⟩ k1 = false := hq0
      have M0 : isK s ⟨#[33, 61]⟩ k1 = K0 := by rw [HK0.out]; exact (strip_no hk1s hq0).2
      have Q1 : isB s ⟨#[62, 61]⟩ K0 = true := by rw [HK0.out, (isB_skip hk1s).1]; exact hq1
      obtain ⟨P, hP⟩ : ∃ P, P = isK s ⟨#[62, 61]⟩ k1 := ⟨_, rfl⟩
      have HP := Lib.hid hP
      have M1 : isK s ⟨#[62, 61]⟩ K0 = P := by rw [HK0.out, (isB_skip hk1s).2]; exact hP.symm
      have HSP := Lib.hid (strip_yes hk1s hq1)
      have HSP' : Hid (P ≤ s.size) := Lib.hid (by rw [HP.out]; exact HSP.out.2)
      have HOP : Hid (opP s.size (n + 1) L nm (rest s K0) = dgE s.size (n + 1) L nm 4 (rest s P)) := Lib.hid (by rw [HK0.out, HP.out]; unfold opP; simp only [show strip [33, 61] (rest s (skip s k1)) = none from (strip_no hk1s hq0).1, (strip_yes hk1s hq1).1])
      clear hq0 hq1
      clear hP
      obtain ⟨t, ht⟩ : ∃ t, t = run 12 dgt (blk (rest s P)) := ⟨_, rfl⟩
      obtain ⟨K2, hK2⟩ : ∃ K2, K2 = skip s P + t.length := ⟨_, rfl⟩
      obtain ⟨e2, he2⟩ : ∃ e2, e2 = (if t = [] then (flt 0 0 5 (skip s P : Int)).1 else 0) := ⟨_, rfl⟩
      obtain ⟨a2, ha2⟩ : ∃ a2, a2 = (if t = [] then (flt 0 0 5 (skip s P : Int)).2 else 0) := ⟨_, rfl⟩
      have HT := Lib.hid ht
      have HK2 := Lib.hid hK2
      have HE2 := Lib.hid he2
      have HA2 := Lib.hid ha2
      obtain ⟨z, hz⟩ : ∃ z, z = (if t = [] then 0 else digV t) := ⟨_, rfl⟩
      have HZ := Lib.hid hz
      have HWD : Hid (∀ wx, Prs base wx b s P d ((n : Int) + 1) v L 0 0 → ErrV wx → Calls Tryz.prog 115 #[ptr b] wx fun r w' => r = .returned (.int .i64 z) ∧ WdS base wx w' b s K2 d ((n : Int) + 1) v L e2 a2) := Lib.hid (fun wx hx hv => by rw [hK2, he2, ha2, hz, ht]; exact digits_any base b s P d ((n : Int) + 1) v L 0 0 wx hx hv)
      clear ht hK2 he2 ha2 hz
      go_upto_region 24 with (first | (go_at_call 78; refine (is_any base b s _ d _ v L 0 0 _ _ HX.out (by decide)).mono ?_; (try rw [Q0]); (try rw [Q1]); rintro r wi ⟨rfl, hx, hf⟩; (try rw [M0] at hx); (try rw [M1] at hx); have HX := Lib.hid hx; have HOX : Hid (Onb b w wi) := Lib.hid (HOX.out.then hf); have HY := Lib.hid (HY.out.frp hf HYB.out); clear hx hf) | (go_at_call 115; refine (HWD.out _ HX.out (HV.out.onb H.out HOX.out)).mono ?_; rintro r wi ⟨rfl, hw⟩; have hx := hw.1; have hf := hw.2; have HX2 := Lib.hid hx; have HOX2 : Hid (Onb b w wi) := Lib.hid (HOX.out.then hf); have HY2 := Lib.hid (HY.out.frp hf HYB.out); have y0 := HY2.out.cell (j := 0) rfl; have y2 := HY2.out.cell (j := 3) rfl; have yf0 := HY2.out.free 0; have yf2 := HY2.out.free 3; clear hx hf hw))
      refine at_hide (F := fun w' => Blk w' Y (ndC ⟨4, nm, [], z, -1, -1⟩) 52 ∧ Prs base w' b s K2 d ((n : Int) + 1) v L e2 a2 ∧ Below base w w') ⟨(HY2.out.set 0 (.int .i64 4)).set 3 (.int .i64 z), (HX2.out.off HYB.out HYV.out 0 _).off HYB.out HYV.out 3 _, ((onb_below HOX2.out H.out.hb HBS.out).setCell (p := ⟨Y, 0, none⟩) HYL.out _).setCell (p := ⟨Y, 3, none⟩) HYL.out _⟩ ?_
      intro w8 hF
      obtain ⟨f1, f2, f3⟩ := hF
      have HY8 := Lib.hid f1
      have H8 := Lib.hid f2
      have HB8 := Lib.hid f3
      clear f1 f2 f3 y0 y2 yf0 yf2
      have y0 := HY8.out.cell (j := 0) rfl
      have y1 := HY8.out.cell (j := 1) rfl
      have y2 := HY8.out.cell (j := 2) rfl
      have y3 := HY8.out.cell (j := 3) rfl
      have y4 := HY8.out.cell (j := 4) rfl
      have y5 := HY8.out.cell (j := 5) rfl
      by_cases h0 : t = []
      · have HE3 : Hid (e2 = 5 ∧ a2 = (skip s P : Int)) := Lib.hid (by rw [HE2.out, HA2.out, if_pos h0, if_pos h0]; unfold flt; rw [if_pos ⟨rfl, rfl⟩]; exact ⟨rfl, rfl⟩)
        rw [HE3.out.1, HE3.out.2] at H8
        have HRR : Hid (leafP s.size ⟨n, L, rest s k⟩ = .error (5, (skip s P : Int))) := Lib.hid (by rw [HR.out, HOP.out]; unfold dgE; rw [← HT.out, if_pos h0, (skip_is HSP'.out).2.2.1, pos_rest (skip_is HSP'.out).2.1])
        clear h0
        go_wp2_with (go_at_call 80; refine (node_bad base b s K2 d _ v L 5 (skip s P : Int) ⟨4, nm, [], z, -1, -1⟩ _ H8.out (by decide)).mono ?_; rintro r w9 ⟨rfl, h9, hf⟩; have H9 := Lib.hid h9; have HB9 : Hid (Below base w w9) := Lib.hid (HB8.out.trans (onb_below hf H.out.hb (by have h1 := HBS.out; have h2 := HB8.out.size; omega))); clear h9 hf)
        go_ret
        exact out_err (by exact HRR.out) H9.out HB9.out _
      · have HE3 : Hid (e2 = 0 ∧ a2 = 0) := Lib.hid (by rw [HE2.out, HA2.out, if_neg h0, if_neg h0]; exact ⟨rfl, rfl⟩)
        rw [HE3.out.1, HE3.out.2] at H8
        have HRR : Hid (leafP s.size ⟨n, L, rest s k⟩ = .ok (put (n + 1) L (rest s K2) ⟨4, nm, [], z, -1, -1⟩)) := Lib.hid (by rw [HR.out, HOP.out]; unfold dgE; rw [← HT.out, if_neg h0, (skip_is HSP'.out).2.2.1, rest_drop, HK2.out, HZ.out, if_neg h0])
        clear h0
        go_wp2_with (go_at_call 80; refine (node_ok base b s K2 d _ v L ⟨4, nm, [], z, -1, -1⟩ _ H8.out (by have := HL.out; omega) (by have h1 := HBS.out; have h2 := HB8.out.size; omega)).mono ?_; rintro r w9 ⟨rfl, h9⟩; have H9 := Lib.hid h9; clear h9)
        go_ret
        obtain ⟨v', h6, h7, h8⟩ := H9.out
        refine out_ok (k' := K2) (n' := n + 1) (by rw [HRR.out]; rfl) (v' := v') (by push_cast; exact h6) ?_
        exact HB8.out.trans (h7.below (fun q hq => by rcases hq with rfl | hq; exact H.out.hb; exact own_lo H.out.own hq) (by have h1 := HBS.out; have h2 := HB8.out.size; omega))
    case false =>
    cases hq2 : isB s ⟨#[60, 61]⟩ k1
    case true =>
      have HX : Hid (Prs base w6 b s k1 d ((n : Int) + 1) v L 0 0) := H6
      have HOX := HO6
      have HY := Y6
      have Q0 : isB s ⟨#[33, 61]⟩ k1 = false := hq0
      have M0 : isK s ⟨#[33, 61]⟩ k1 = K0 := by rw [HK0.out]; exact (strip_no hk1s hq0).2
      have Q1 : isB s ⟨#[62, 61]⟩ K0 = false := by rw [HK0.out, (isB_skip hk1s).1]; exact hq1
      have M1 : isK s ⟨#[62, 61]⟩ K0 = K0 := by rw [HK0.out, (isB_skip hk1s).2]; exact (strip_no hk1s hq1).2
      have Q2 : isB s ⟨#[60, 61]⟩ K0 = true := by rw [HK0.out, (isB_skip hk1s).1]; exact hq2
      obtain ⟨P, hP⟩ : ∃ P, P = isK s ⟨#[60, 61]⟩ k1 := ⟨_, rfl⟩
      have HP := Lib.hid hP
      have M2 : isK s ⟨#[60, 61]⟩ K0 = P := by rw [HK0.out, (isB_skip hk1s).2]; exact hP.symm
      have HSP := Lib.hid (strip_yes hk1s hq2)
      have HSP' : Hid (P ≤ s.size) := Lib.hid (by rw [HP.out]; exact HSP.out.2)
      have HOP : Hid (opP s.size (n + 1) L nm (rest s K0) = dgE s.size (n + 1) L nm 5 (rest s P)) := Lib.hid (by rw [HK0.out, HP.out]; unfold opP; simp only [show strip [33, 61] (rest s (skip s k1)) = none from (strip_no hk1s hq0).1, show strip [62, 61] (rest s (skip s k1)) = none from (strip_no hk1s hq1).1, (strip_yes hk1s hq2).1])
      clear hq0 hq1 hq2
      clear hP
      obtain ⟨t, ht⟩ : ∃ t, t = run 12 dgt (blk (rest s P)) := ⟨_, rfl⟩
      obtain ⟨K2, hK2⟩ : ∃ K2, K2 = skip s P + t.length := ⟨_, rfl⟩
      obtain ⟨e2, he2⟩ : ∃ e2, e2 = (if t = [] then (flt 0 0 5 (skip s P : Int)).1 else 0) := ⟨_, rfl⟩
      obtain ⟨a2, ha2⟩ : ∃ a2, a2 = (if t = [] then (flt 0 0 5 (skip s P : Int)).2 else 0) := ⟨_, rfl⟩
      have HT := Lib.hid ht
      have HK2 := Lib.hid hK2
      have HE2 := Lib.hid he2
      have HA2 := Lib.hid ha2
      obtain ⟨z, hz⟩ : ∃ z, z = (if t = [] then 0 else digV t) := ⟨_, rfl⟩
      have HZ := Lib.hid hz
      have HWD : Hid (∀ wx, Prs base wx b s P d ((n : Int) + 1) v L 0 0 → ErrV wx → Calls Tryz.prog 115 #[ptr b] wx fun r w' => r = .returned (.int .i64 z) ∧ WdS base wx w' b s K2 d ((n : Int) + 1) v L e2 a2) := Lib.hid (fun wx hx hv => by rw [hK2, he2, ha2, hz, ht]; exact digits_any base b s P d ((n : Int) + 1) v L 0 0 wx hx hv)
      clear ht hK2 he2 ha2 hz
      go_upto_region 24 with (first | (go_at_call 78; refine (is_any base b s _ d _ v L 0 0 _ _ HX.out (by decide)).mono ?_; (try rw [Q0]); (try rw [Q1]); (try rw [Q2]); rintro r wi ⟨rfl, hx, hf⟩; (try rw [M0] at hx); (try rw [M1] at hx); (try rw [M2] at hx); have HX := Lib.hid hx; have HOX : Hid (Onb b w wi) := Lib.hid (HOX.out.then hf); have HY := Lib.hid (HY.out.frp hf HYB.out); clear hx hf) | (go_at_call 115; refine (HWD.out _ HX.out (HV.out.onb H.out HOX.out)).mono ?_; rintro r wi ⟨rfl, hw⟩; have hx := hw.1; have hf := hw.2; have HX2 := Lib.hid hx; have HOX2 : Hid (Onb b w wi) := Lib.hid (HOX.out.then hf); have HY2 := Lib.hid (HY.out.frp hf HYB.out); have y0 := HY2.out.cell (j := 0) rfl; have y2 := HY2.out.cell (j := 3) rfl; have yf0 := HY2.out.free 0; have yf2 := HY2.out.free 3; clear hx hf hw))
      refine at_hide (F := fun w' => Blk w' Y (ndC ⟨5, nm, [], z, -1, -1⟩) 52 ∧ Prs base w' b s K2 d ((n : Int) + 1) v L e2 a2 ∧ Below base w w') ⟨(HY2.out.set 0 (.int .i64 5)).set 3 (.int .i64 z), (HX2.out.off HYB.out HYV.out 0 _).off HYB.out HYV.out 3 _, ((onb_below HOX2.out H.out.hb HBS.out).setCell (p := ⟨Y, 0, none⟩) HYL.out _).setCell (p := ⟨Y, 3, none⟩) HYL.out _⟩ ?_
      intro w8 hF
      obtain ⟨f1, f2, f3⟩ := hF
      have HY8 := Lib.hid f1
      have H8 := Lib.hid f2
      have HB8 := Lib.hid f3
      clear f1 f2 f3 y0 y2 yf0 yf2
      have y0 := HY8.out.cell (j := 0) rfl
      have y1 := HY8.out.cell (j := 1) rfl
      have y2 := HY8.out.cell (j := 2) rfl
      have y3 := HY8.out.cell (j := 3) rfl
      have y4 := HY8.out.cell (j := 4) rfl
      have y5 := HY8.out.cell (j := 5) rfl
      by_cases h0 : t = []
      · have HE3 : Hid (e2 = 5 ∧ a2 = (skip s P : Int)) := Lib.hid (by rw [HE2.out, HA2.out, if_pos h0, if_pos h0]; unfold flt; rw [if_pos ⟨rfl, rfl⟩]; exact ⟨rfl, rfl⟩)
        rw [HE3.out.1, HE3.out.2] at H8
        have HRR : Hid (leafP s.size ⟨n, L, rest s k⟩ = .error (5, (skip s P : Int))) := Lib.hid (by rw [HR.out, HOP.out]; unfold dgE; rw [← HT.out, if_pos h0, (skip_is HSP'.out).2.2.1, pos_rest (skip_is HSP'.out).2.1])
        clear h0
        go_wp2_with (go_at_call 80; refine (node_bad base b s K2 d _ v L 5 (skip s P : Int) ⟨5, nm, [], z, -1, -1⟩ _ H8.out (by decide)).mono ?_; rintro r w9 ⟨rfl, h9, hf⟩; have H9 := Lib.hid h9; have HB9 : Hid (Below base w w9) := Lib.hid (HB8.out.trans (onb_below hf H.out.hb (by have h1 := HBS.out; have h2 := HB8.out.size; omega))); clear h9 hf)
        go_ret
        exact out_err (by exact HRR.out) H9.out HB9.out _
      · have HE3 : Hid (e2 = 0 ∧ a2 = 0) := Lib.hid (by rw [HE2.out, HA2.out, if_neg h0, if_neg h0]; exact ⟨rfl, rfl⟩)
        rw [HE3.out.1, HE3.out.2] at H8
        have HRR : Hid (leafP s.size ⟨n, L, rest s k⟩ = .ok (put (n + 1) L (rest s K2) ⟨5, nm, [], z, -1, -1⟩)) := Lib.hid (by rw [HR.out, HOP.out]; unfold dgE; rw [← HT.out, if_neg h0, (skip_is HSP'.out).2.2.1, rest_drop, HK2.out, HZ.out, if_neg h0])
        clear h0
        go_wp2_with (go_at_call 80; refine (node_ok base b s K2 d _ v L ⟨5, nm, [], z, -1, -1⟩ _ H8.out (by have := HL.out; omega) (by have h1 := HBS.out; have h2 := HB8.out.size; omega)).mono ?_; rintro r w9 ⟨rfl, h9⟩; have H9 := Lib.hid h9; clear h9)
        go_ret
        obtain ⟨v', h6, h7, h8⟩ := H9.out
        refine out_ok (k' := K2) (n' := n + 1) (by rw [HRR.out]; rfl) (v' := v') (by push_cast; exact h6) ?_
        exact HB8.out.trans (h7.below (fun q hq => by rcases hq with rfl | hq; exact H.out.hb; exact own_lo H.out.own hq) (by have h1 := HBS.out; have h2 := HB8.out.size; omega))
    case false =>
    cases hq3 : isB s ⟨#[61]⟩ k1
    case true =>
      have HX : Hid (Prs base w6 b s k1 d ((n : Int) + 1) v L 0 0) := H6
      have HOX := HO6
      have HY := Y6
      have Q0 : isB s ⟨#[33, 61]⟩ k1 = false := hq0
      have M0 : isK s ⟨#[33, 61]⟩ k1 = K0 := by rw [HK0.out]; exact (strip_no hk1s hq0).2
      have Q1 : isB s ⟨#[62, 61]⟩ K0 = false := by rw [HK0.out, (isB_skip hk1s).1]; exact hq1
      have M1 : isK s ⟨#[62, 61]⟩ K0 = K0 := by rw [HK0.out, (isB_skip hk1s).2]; exact (strip_no hk1s hq1).2
      have Q2 : isB s ⟨#[60, 61]⟩ K0 = false := by rw [HK0.out, (isB_skip hk1s).1]; exact hq2
      have M2 : isK s ⟨#[60, 61]⟩ K0 = K0 := by rw [HK0.out, (isB_skip hk1s).2]; exact (strip_no hk1s hq2).2
      have Q3 : isB s ⟨#[61]⟩ K0 = true := by rw [HK0.out, (isB_skip hk1s).1]; exact hq3
      obtain ⟨P, hP⟩ : ∃ P, P = isK s ⟨#[61]⟩ k1 := ⟨_, rfl⟩
      have HP := Lib.hid hP
      have M3 : isK s ⟨#[61]⟩ K0 = P := by rw [HK0.out, (isB_skip hk1s).2]; exact hP.symm
      have HSP := Lib.hid (strip_yes hk1s hq3)
      have HSP' : Hid (P ≤ s.size) := Lib.hid (by rw [HP.out]; exact HSP.out.2)
      have HOP : Hid (opP s.size (n + 1) L nm (rest s K0) = wdE s.size (n + 1) L nm 2 (rest s P)) := Lib.hid (by rw [HK0.out, HP.out]; unfold opP; simp only [show strip [33, 61] (rest s (skip s k1)) = none from (strip_no hk1s hq0).1, show strip [62, 61] (rest s (skip s k1)) = none from (strip_no hk1s hq1).1, show strip [60, 61] (rest s (skip s k1)) = none from (strip_no hk1s hq2).1, (strip_yes hk1s hq3).1])
      clear hq0 hq1 hq2 hq3
      clear hP
      obtain ⟨t, ht⟩ : ∃ t, t = run 32 wdc (blk (rest s P)) := ⟨_, rfl⟩
      obtain ⟨K2, hK2⟩ : ∃ K2, K2 = skip s P + t.length := ⟨_, rfl⟩
      obtain ⟨e2, he2⟩ : ∃ e2, e2 = (if t = [] then (flt 0 0 5 (skip s P : Int)).1 else 0) := ⟨_, rfl⟩
      obtain ⟨a2, ha2⟩ : ∃ a2, a2 = (if t = [] then (flt 0 0 5 (skip s P : Int)).2 else 0) := ⟨_, rfl⟩
      have HT := Lib.hid ht
      have HK2 := Lib.hid hK2
      have HE2 := Lib.hid he2
      have HA2 := Lib.hid ha2
      have HWD : Hid (∀ wx, Prs base wx b s P d ((n : Int) + 1) v L 0 0 → Calls Tryz.prog 114 #[ptr b] wx fun r w' => r = .returned (.string (bs t)) ∧ WdS base wx w' b s K2 d ((n : Int) + 1) v L e2 a2) := Lib.hid (fun wx hx => by rw [hK2, he2, ha2, ht]; exact word_any base b s P d ((n : Int) + 1) v L 0 0 wx hx)
      clear ht hK2 he2 ha2
      go_upto_region 24 with (first | (go_at_call 78; refine (is_any base b s _ d _ v L 0 0 _ _ HX.out (by decide)).mono ?_; (try rw [Q0]); (try rw [Q1]); (try rw [Q2]); (try rw [Q3]); rintro r wi ⟨rfl, hx, hf⟩; (try rw [M0] at hx); (try rw [M1] at hx); (try rw [M2] at hx); (try rw [M3] at hx); have HX := Lib.hid hx; have HOX : Hid (Onb b w wi) := Lib.hid (HOX.out.then hf); have HY := Lib.hid (HY.out.frp hf HYB.out); clear hx hf) | (go_at_call 114; refine (HWD.out _ HX.out).mono ?_; rintro r wi ⟨rfl, hw⟩; have hx := hw.1; have hf := hw.2; have HX2 := Lib.hid hx; have HOX2 : Hid (Onb b w wi) := Lib.hid (HOX.out.then hf); have HY2 := Lib.hid (HY.out.frp hf HYB.out); have y0 := HY2.out.cell (j := 0) rfl; have y2 := HY2.out.cell (j := 2) rfl; have yf0 := HY2.out.free 0; have yf2 := HY2.out.free 2; clear hx hf hw))
      refine at_hide (F := fun w' => Blk w' Y (ndC ⟨2, nm, t, 0, -1, -1⟩) 52 ∧ Prs base w' b s K2 d ((n : Int) + 1) v L e2 a2 ∧ Below base w w') ⟨(HY2.out.set 0 (.int .i64 2)).set 2 (.string (bs t)), (HX2.out.off HYB.out HYV.out 0 _).off HYB.out HYV.out 2 _, ((onb_below HOX2.out H.out.hb HBS.out).setCell (p := ⟨Y, 0, none⟩) HYL.out _).setCell (p := ⟨Y, 2, none⟩) HYL.out _⟩ ?_
      intro w8 hF
      obtain ⟨f1, f2, f3⟩ := hF
      have HY8 := Lib.hid f1
      have H8 := Lib.hid f2
      have HB8 := Lib.hid f3
      clear f1 f2 f3 y0 y2 yf0 yf2
      have y0 := HY8.out.cell (j := 0) rfl
      have y1 := HY8.out.cell (j := 1) rfl
      have y2 := HY8.out.cell (j := 2) rfl
      have y3 := HY8.out.cell (j := 3) rfl
      have y4 := HY8.out.cell (j := 4) rfl
      have y5 := HY8.out.cell (j := 5) rfl
      by_cases h0 : t = []
      · have HE3 : Hid (e2 = 5 ∧ a2 = (skip s P : Int)) := Lib.hid (by rw [HE2.out, HA2.out, if_pos h0, if_pos h0]; unfold flt; rw [if_pos ⟨rfl, rfl⟩]; exact ⟨rfl, rfl⟩)
        rw [HE3.out.1, HE3.out.2] at H8
        have HRR : Hid (leafP s.size ⟨n, L, rest s k⟩ = .error (5, (skip s P : Int))) := Lib.hid (by rw [HR.out, HOP.out]; unfold wdE; rw [← HT.out, if_pos h0, (skip_is HSP'.out).2.2.1, pos_rest (skip_is HSP'.out).2.1])
        clear h0
        go_wp2_with (go_at_call 80; refine (node_bad base b s K2 d _ v L 5 (skip s P : Int) ⟨2, nm, t, 0, -1, -1⟩ _ H8.out (by decide)).mono ?_; rintro r w9 ⟨rfl, h9, hf⟩; have H9 := Lib.hid h9; have HB9 : Hid (Below base w w9) := Lib.hid (HB8.out.trans (onb_below hf H.out.hb (by have h1 := HBS.out; have h2 := HB8.out.size; omega))); clear h9 hf)
        go_ret
        exact out_err (by exact HRR.out) H9.out HB9.out _
      · have HE3 : Hid (e2 = 0 ∧ a2 = 0) := Lib.hid (by rw [HE2.out, HA2.out, if_neg h0, if_neg h0]; exact ⟨rfl, rfl⟩)
        rw [HE3.out.1, HE3.out.2] at H8
        have HRR : Hid (leafP s.size ⟨n, L, rest s k⟩ = .ok (put (n + 1) L (rest s K2) ⟨2, nm, t, 0, -1, -1⟩)) := Lib.hid (by rw [HR.out, HOP.out]; unfold wdE; rw [← HT.out, if_neg h0, (skip_is HSP'.out).2.2.1, rest_drop, HK2.out])
        clear h0
        go_wp2_with (go_at_call 80; refine (node_ok base b s K2 d _ v L ⟨2, nm, t, 0, -1, -1⟩ _ H8.out (by have := HL.out; omega) (by have h1 := HBS.out; have h2 := HB8.out.size; omega)).mono ?_; rintro r w9 ⟨rfl, h9⟩; have H9 := Lib.hid h9; clear h9)
        go_ret
        obtain ⟨v', h6, h7, h8⟩ := H9.out
        refine out_ok (k' := K2) (n' := n + 1) (by rw [HRR.out]; rfl) (v' := v') (by push_cast; exact h6) ?_
        exact HB8.out.trans (h7.below (fun q hq => by rcases hq with rfl | hq; exact H.out.hb; exact own_lo H.out.own hq) (by have h1 := HBS.out; have h2 := HB8.out.size; omega))
    case false =>
    cases hq4 : isB s ⟨#[33]⟩ k1
    case true =>
      have HX : Hid (Prs base w6 b s k1 d ((n : Int) + 1) v L 0 0) := H6
      have HOX := HO6
      have HY := Y6
      have Q0 : isB s ⟨#[33, 61]⟩ k1 = false := hq0
      have M0 : isK s ⟨#[33, 61]⟩ k1 = K0 := by rw [HK0.out]; exact (strip_no hk1s hq0).2
      have Q1 : isB s ⟨#[62, 61]⟩ K0 = false := by rw [HK0.out, (isB_skip hk1s).1]; exact hq1
      have M1 : isK s ⟨#[62, 61]⟩ K0 = K0 := by rw [HK0.out, (isB_skip hk1s).2]; exact (strip_no hk1s hq1).2
      have Q2 : isB s ⟨#[60, 61]⟩ K0 = false := by rw [HK0.out, (isB_skip hk1s).1]; exact hq2
      have M2 : isK s ⟨#[60, 61]⟩ K0 = K0 := by rw [HK0.out, (isB_skip hk1s).2]; exact (strip_no hk1s hq2).2
      have Q3 : isB s ⟨#[61]⟩ K0 = false := by rw [HK0.out, (isB_skip hk1s).1]; exact hq3
      have M3 : isK s ⟨#[61]⟩ K0 = K0 := by rw [HK0.out, (isB_skip hk1s).2]; exact (strip_no hk1s hq3).2
      have Q4 : isB s ⟨#[33]⟩ K0 = true := by rw [HK0.out, (isB_skip hk1s).1]; exact hq4
      obtain ⟨P, hP⟩ : ∃ P, P = isK s ⟨#[33]⟩ k1 := ⟨_, rfl⟩
      have HP := Lib.hid hP
      have M4 : isK s ⟨#[33]⟩ K0 = P := by rw [HK0.out, (isB_skip hk1s).2]; exact hP.symm
      have HSP := Lib.hid (strip_yes hk1s hq4)
      have HOP : Hid (opP s.size (n + 1) L nm (rest s K0) = .error (5, (P : Int))) := Lib.hid (by rw [HK0.out, HP.out, ← pos_rest (strip_yes hk1s hq4).2]; unfold opP; simp only [show strip [33, 61] (rest s (skip s k1)) = none from (strip_no hk1s hq0).1, show strip [62, 61] (rest s (skip s k1)) = none from (strip_no hk1s hq1).1, show strip [60, 61] (rest s (skip s k1)) = none from (strip_no hk1s hq2).1, show strip [61] (rest s (skip s k1)) = none from (strip_no hk1s hq3).1, (strip_yes hk1s hq4).1])
      clear hq0 hq1 hq2 hq3 hq4
      clear hP
      have c1p : True := trivial
      obtain ⟨fe, fa, hfl⟩ : ∃ fe fa, flt 0 0 5 (P : Int) = (fe, fa) := ⟨_, _, rfl⟩
      have HFL := Lib.hid hfl
      clear hfl
      go_upto_region 23 with (first | (go_at_call 78; refine (is_any base b s _ d _ v L 0 0 _ _ HX.out (by decide)).mono ?_; (try rw [Q0]); (try rw [Q1]); (try rw [Q2]); (try rw [Q3]); (try rw [Q4]); rintro r wi ⟨rfl, hx, hf⟩; (try rw [M0] at hx); (try rw [M1] at hx); (try rw [M2] at hx); (try rw [M3] at hx); (try rw [M4] at hx); have HX := Lib.hid hx; have HOX : Hid (Onb b w wi) := Lib.hid (HOX.out.then hf); have HY := Lib.hid (HY.out.frp hf HYB.out); clear hx hf))
      have c1 := HX.out.c1
      go_upto_region 24 with (go_at_call 38; refine (fails_any base b s P d _ v L 0 0 5 (P : Int) _ HX.out).mono ?_; rw [HFL.out]; rintro r wi ⟨rfl, hx, hf⟩; have HX2 := Lib.hid hx; have HOX2 : Hid (Onb b w wi) := Lib.hid (HOX.out.then hf); have HY2 := Lib.hid (HY.out.frp hf HYB.out); clear hx hf)
      have y0 := HY2.out.cell (j := 0) rfl
      have y1 := HY2.out.cell (j := 1) rfl
      have y2 := HY2.out.cell (j := 2) rfl
      have y3 := HY2.out.cell (j := 3) rfl
      have y4 := HY2.out.cell (j := 4) rfl
      have y5 := HY2.out.cell (j := 5) rfl
      have HE3 : Hid (fe = 5 ∧ fa = (P : Int)) := Lib.hid (by have := HFL.out; unfold flt at this; rw [if_pos ⟨rfl, rfl⟩] at this; cases this; exact ⟨rfl, rfl⟩)
      rw [HE3.out.1, HE3.out.2] at HX2
      go_wp2_with (go_at_call 80; refine (node_bad base b s P d _ v L 5 (P : Int) ⟨6, nm, [], 0, -1, -1⟩ _ HX2.out (by decide)).mono ?_; rintro r w9 ⟨rfl, h9, hf⟩; have H9 := Lib.hid h9; have HO9 : Hid (Onb b w w9) := Lib.hid (HOX2.out.then hf); clear h9 hf)
      go_ret
      exact out_err (by rw [HR.out, HOP.out]) H9.out (onb_below HO9.out H.out.hb HBS.out) _
    case false =>
    cases hq5 : isB s ⟨#[62]⟩ k1
    case true =>
      have HX : Hid (Prs base w6 b s k1 d ((n : Int) + 1) v L 0 0) := H6
      have HOX := HO6
      have HY := Y6
      have Q0 : isB s ⟨#[33, 61]⟩ k1 = false := hq0
      have M0 : isK s ⟨#[33, 61]⟩ k1 = K0 := by rw [HK0.out]; exact (strip_no hk1s hq0).2
      have Q1 : isB s ⟨#[62, 61]⟩ K0 = false := by rw [HK0.out, (isB_skip hk1s).1]; exact hq1
      have M1 : isK s ⟨#[62, 61]⟩ K0 = K0 := by rw [HK0.out, (isB_skip hk1s).2]; exact (strip_no hk1s hq1).2
      have Q2 : isB s ⟨#[60, 61]⟩ K0 = false := by rw [HK0.out, (isB_skip hk1s).1]; exact hq2
      have M2 : isK s ⟨#[60, 61]⟩ K0 = K0 := by rw [HK0.out, (isB_skip hk1s).2]; exact (strip_no hk1s hq2).2
      have Q3 : isB s ⟨#[61]⟩ K0 = false := by rw [HK0.out, (isB_skip hk1s).1]; exact hq3
      have M3 : isK s ⟨#[61]⟩ K0 = K0 := by rw [HK0.out, (isB_skip hk1s).2]; exact (strip_no hk1s hq3).2
      have Q4 : isB s ⟨#[33]⟩ K0 = false := by rw [HK0.out, (isB_skip hk1s).1]; exact hq4
      have M4 : isK s ⟨#[33]⟩ K0 = K0 := by rw [HK0.out, (isB_skip hk1s).2]; exact (strip_no hk1s hq4).2
      have Q5 : isB s ⟨#[62]⟩ K0 = true := by rw [HK0.out, (isB_skip hk1s).1]; exact hq5
      obtain ⟨P, hP⟩ : ∃ P, P = isK s ⟨#[62]⟩ k1 := ⟨_, rfl⟩
      have HP := Lib.hid hP
      have M5 : isK s ⟨#[62]⟩ K0 = P := by rw [HK0.out, (isB_skip hk1s).2]; exact hP.symm
      have HSP := Lib.hid (strip_yes hk1s hq5)
      have HOP : Hid (opP s.size (n + 1) L nm (rest s K0) = .error (5, (P : Int))) := Lib.hid (by rw [HK0.out, HP.out, ← pos_rest (strip_yes hk1s hq5).2]; unfold opP; simp only [show strip [33, 61] (rest s (skip s k1)) = none from (strip_no hk1s hq0).1, show strip [62, 61] (rest s (skip s k1)) = none from (strip_no hk1s hq1).1, show strip [60, 61] (rest s (skip s k1)) = none from (strip_no hk1s hq2).1, show strip [61] (rest s (skip s k1)) = none from (strip_no hk1s hq3).1, show strip [33] (rest s (skip s k1)) = none from (strip_no hk1s hq4).1, (strip_yes hk1s hq5).1])
      clear hq0 hq1 hq2 hq3 hq4 hq5
      clear hP
      have c1p : True := trivial
      obtain ⟨fe, fa, hfl⟩ : ∃ fe fa, flt 0 0 5 (P : Int) = (fe, fa) := ⟨_, _, rfl⟩
      have HFL := Lib.hid hfl
      clear hfl
      go_upto_region 23 with (first | (go_at_call 78; refine (is_any base b s _ d _ v L 0 0 _ _ HX.out (by decide)).mono ?_; (try rw [Q0]); (try rw [Q1]); (try rw [Q2]); (try rw [Q3]); (try rw [Q4]); (try rw [Q5]); rintro r wi ⟨rfl, hx, hf⟩; (try rw [M0] at hx); (try rw [M1] at hx); (try rw [M2] at hx); (try rw [M3] at hx); (try rw [M4] at hx); (try rw [M5] at hx); have HX := Lib.hid hx; have HOX : Hid (Onb b w wi) := Lib.hid (HOX.out.then hf); have HY := Lib.hid (HY.out.frp hf HYB.out); clear hx hf))
      have c1 := HX.out.c1
      go_upto_region 24 with (go_at_call 38; refine (fails_any base b s P d _ v L 0 0 5 (P : Int) _ HX.out).mono ?_; rw [HFL.out]; rintro r wi ⟨rfl, hx, hf⟩; have HX2 := Lib.hid hx; have HOX2 : Hid (Onb b w wi) := Lib.hid (HOX.out.then hf); have HY2 := Lib.hid (HY.out.frp hf HYB.out); clear hx hf)
      have y0 := HY2.out.cell (j := 0) rfl
      have y1 := HY2.out.cell (j := 1) rfl
      have y2 := HY2.out.cell (j := 2) rfl
      have y3 := HY2.out.cell (j := 3) rfl
      have y4 := HY2.out.cell (j := 4) rfl
      have y5 := HY2.out.cell (j := 5) rfl
      have HE3 : Hid (fe = 5 ∧ fa = (P : Int)) := Lib.hid (by have := HFL.out; unfold flt at this; rw [if_pos ⟨rfl, rfl⟩] at this; cases this; exact ⟨rfl, rfl⟩)
      rw [HE3.out.1, HE3.out.2] at HX2
      go_wp2_with (go_at_call 80; refine (node_bad base b s P d _ v L 5 (P : Int) ⟨6, nm, [], 0, -1, -1⟩ _ HX2.out (by decide)).mono ?_; rintro r w9 ⟨rfl, h9, hf⟩; have H9 := Lib.hid h9; have HO9 : Hid (Onb b w w9) := Lib.hid (HOX2.out.then hf); clear h9 hf)
      go_ret
      exact out_err (by rw [HR.out, HOP.out]) H9.out (onb_below HO9.out H.out.hb HBS.out) _
    case false =>
    cases hq6 : isB s ⟨#[60]⟩ k1
    case true =>
      have HX : Hid (Prs base w6 b s k1 d ((n : Int) + 1) v L 0 0) := H6
      have HOX := HO6
      have HY := Y6
      have Q0 : isB s ⟨#[33, 61]⟩ k1 = false := hq0
      have M0 : isK s ⟨#[33, 61]⟩ k1 = K0 := by rw [HK0.out]; exact (strip_no hk1s hq0).2
      have Q1 : isB s ⟨#[62, 61]⟩ K0 = false := by rw [HK0.out, (isB_skip hk1s).1]; exact hq1
      have M1 : isK s ⟨#[62, 61]⟩ K0 = K0 := by rw [HK0.out, (isB_skip hk1s).2]; exact (strip_no hk1s hq1).2
      have Q2 : isB s ⟨#[60, 61]⟩ K0 = false := by rw [HK0.out, (isB_skip hk1s).1]; exact hq2
      have M2 : isK s ⟨#[60, 61]⟩ K0 = K0 := by rw [HK0.out, (isB_skip hk1s).2]; exact (strip_no hk1s hq2).2
      have Q3 : isB s ⟨#[61]⟩ K0 = false := by rw [HK0.out, (isB_skip hk1s).1]; exact hq3
      have M3 : isK s ⟨#[61]⟩ K0 = K0 := by rw [HK0.out, (isB_skip hk1s).2]; exact (strip_no hk1s hq3).2
      have Q4 : isB s ⟨#[33]⟩ K0 = false := by rw [HK0.out, (isB_skip hk1s).1]; exact hq4
      have M4 : isK s ⟨#[33]⟩ K0 = K0 := by rw [HK0.out, (isB_skip hk1s).2]; exact (strip_no hk1s hq4).2
      have Q5 : isB s ⟨#[62]⟩ K0 = false := by rw [HK0.out, (isB_skip hk1s).1]; exact hq5
      have M5 : isK s ⟨#[62]⟩ K0 = K0 := by rw [HK0.out, (isB_skip hk1s).2]; exact (strip_no hk1s hq5).2
      have Q6 : isB s ⟨#[60]⟩ K0 = true := by rw [HK0.out, (isB_skip hk1s).1]; exact hq6
      obtain ⟨P, hP⟩ : ∃ P, P = isK s ⟨#[60]⟩ k1 := ⟨_, rfl⟩
      have HP := Lib.hid hP
      have M6 : isK s ⟨#[60]⟩ K0 = P := by rw [HK0.out, (isB_skip hk1s).2]; exact hP.symm
      have HSP := Lib.hid (strip_yes hk1s hq6)
      have HOP : Hid (opP s.size (n + 1) L nm (rest s K0) = .error (5, (P : Int))) := Lib.hid (by rw [HK0.out, HP.out, ← pos_rest (strip_yes hk1s hq6).2]; unfold opP; simp only [show strip [33, 61] (rest s (skip s k1)) = none from (strip_no hk1s hq0).1, show strip [62, 61] (rest s (skip s k1)) = none from (strip_no hk1s hq1).1, show strip [60, 61] (rest s (skip s k1)) = none from (strip_no hk1s hq2).1, show strip [61] (rest s (skip s k1)) = none from (strip_no hk1s hq3).1, show strip [33] (rest s (skip s k1)) = none from (strip_no hk1s hq4).1, show strip [62] (rest s (skip s k1)) = none from (strip_no hk1s hq5).1, (strip_yes hk1s hq6).1])
      clear hq0 hq1 hq2 hq3 hq4 hq5 hq6
      clear hP
      have c1p : True := trivial
      obtain ⟨fe, fa, hfl⟩ : ∃ fe fa, flt 0 0 5 (P : Int) = (fe, fa) := ⟨_, _, rfl⟩
      have HFL := Lib.hid hfl
      clear hfl
      go_upto_region 23 with (first | (go_at_call 78; refine (is_any base b s _ d _ v L 0 0 _ _ HX.out (by decide)).mono ?_; (try rw [Q0]); (try rw [Q1]); (try rw [Q2]); (try rw [Q3]); (try rw [Q4]); (try rw [Q5]); (try rw [Q6]); rintro r wi ⟨rfl, hx, hf⟩; (try rw [M0] at hx); (try rw [M1] at hx); (try rw [M2] at hx); (try rw [M3] at hx); (try rw [M4] at hx); (try rw [M5] at hx); (try rw [M6] at hx); have HX := Lib.hid hx; have HOX : Hid (Onb b w wi) := Lib.hid (HOX.out.then hf); have HY := Lib.hid (HY.out.frp hf HYB.out); clear hx hf))
      have c1 := HX.out.c1
      go_upto_region 24 with (go_at_call 38; refine (fails_any base b s P d _ v L 0 0 5 (P : Int) _ HX.out).mono ?_; rw [HFL.out]; rintro r wi ⟨rfl, hx, hf⟩; have HX2 := Lib.hid hx; have HOX2 : Hid (Onb b w wi) := Lib.hid (HOX.out.then hf); have HY2 := Lib.hid (HY.out.frp hf HYB.out); clear hx hf)
      have y0 := HY2.out.cell (j := 0) rfl
      have y1 := HY2.out.cell (j := 1) rfl
      have y2 := HY2.out.cell (j := 2) rfl
      have y3 := HY2.out.cell (j := 3) rfl
      have y4 := HY2.out.cell (j := 4) rfl
      have y5 := HY2.out.cell (j := 5) rfl
      have HE3 : Hid (fe = 5 ∧ fa = (P : Int)) := Lib.hid (by have := HFL.out; unfold flt at this; rw [if_pos ⟨rfl, rfl⟩] at this; cases this; exact ⟨rfl, rfl⟩)
      rw [HE3.out.1, HE3.out.2] at HX2
      go_wp2_with (go_at_call 80; refine (node_bad base b s P d _ v L 5 (P : Int) ⟨6, nm, [], 0, -1, -1⟩ _ HX2.out (by decide)).mono ?_; rintro r w9 ⟨rfl, h9, hf⟩; have H9 := Lib.hid h9; have HO9 : Hid (Onb b w w9) := Lib.hid (HOX2.out.then hf); clear h9 hf)
      go_ret
      exact out_err (by rw [HR.out, HOP.out]) H9.out (onb_below HO9.out H.out.hb HBS.out) _
    case false =>
    have HX : Hid (Prs base w6 b s k1 d ((n : Int) + 1) v L 0 0) := H6
    have HOX := HO6
    have HY := Y6
    have Q0 : isB s ⟨#[33, 61]⟩ k1 = false := hq0
    have M0 : isK s ⟨#[33, 61]⟩ k1 = K0 := by rw [HK0.out]; exact (strip_no hk1s hq0).2
    have Q1 : isB s ⟨#[62, 61]⟩ K0 = false := by rw [HK0.out, (isB_skip hk1s).1]; exact hq1
    have M1 : isK s ⟨#[62, 61]⟩ K0 = K0 := by rw [HK0.out, (isB_skip hk1s).2]; exact (strip_no hk1s hq1).2
    have Q2 : isB s ⟨#[60, 61]⟩ K0 = false := by rw [HK0.out, (isB_skip hk1s).1]; exact hq2
    have M2 : isK s ⟨#[60, 61]⟩ K0 = K0 := by rw [HK0.out, (isB_skip hk1s).2]; exact (strip_no hk1s hq2).2
    have Q3 : isB s ⟨#[61]⟩ K0 = false := by rw [HK0.out, (isB_skip hk1s).1]; exact hq3
    have M3 : isK s ⟨#[61]⟩ K0 = K0 := by rw [HK0.out, (isB_skip hk1s).2]; exact (strip_no hk1s hq3).2
    have Q4 : isB s ⟨#[33]⟩ K0 = false := by rw [HK0.out, (isB_skip hk1s).1]; exact hq4
    have M4 : isK s ⟨#[33]⟩ K0 = K0 := by rw [HK0.out, (isB_skip hk1s).2]; exact (strip_no hk1s hq4).2
    have Q5 : isB s ⟨#[62]⟩ K0 = false := by rw [HK0.out, (isB_skip hk1s).1]; exact hq5
    have M5 : isK s ⟨#[62]⟩ K0 = K0 := by rw [HK0.out, (isB_skip hk1s).2]; exact (strip_no hk1s hq5).2
    have Q6 : isB s ⟨#[60]⟩ K0 = false := by rw [HK0.out, (isB_skip hk1s).1]; exact hq6
    have M6 : isK s ⟨#[60]⟩ K0 = K0 := by rw [HK0.out, (isB_skip hk1s).2]; exact (strip_no hk1s hq6).2
    have HOP : Hid (opP s.size (n + 1) L nm (rest s K0) = .ok (put (n + 1) L (rest s K0) ⟨6, nm, [], 0, -1, -1⟩)) := Lib.hid (by rw [HK0.out]; unfold opP; simp only [show strip [33, 61] (rest s (skip s k1)) = none from (strip_no hk1s hq0).1, show strip [62, 61] (rest s (skip s k1)) = none from (strip_no hk1s hq1).1, show strip [60, 61] (rest s (skip s k1)) = none from (strip_no hk1s hq2).1, show strip [61] (rest s (skip s k1)) = none from (strip_no hk1s hq3).1, show strip [33] (rest s (skip s k1)) = none from (strip_no hk1s hq4).1, show strip [62] (rest s (skip s k1)) = none from (strip_no hk1s hq5).1, show strip [60] (rest s (skip s k1)) = none from (strip_no hk1s hq6).1])
    clear hq0 hq1 hq2 hq3 hq4 hq5 hq6
    go_upto_region 24 with (first | (go_at_call 78; refine (is_any base b s _ d _ v L 0 0 _ _ HX.out (by decide)).mono ?_; (try rw [Q0]); (try rw [Q1]); (try rw [Q2]); (try rw [Q3]); (try rw [Q4]); (try rw [Q5]); (try rw [Q6]); rintro r wi ⟨rfl, hx, hf⟩; (try rw [M0] at hx); (try rw [M1] at hx); (try rw [M2] at hx); (try rw [M3] at hx); (try rw [M4] at hx); (try rw [M5] at hx); (try rw [M6] at hx); have HX := Lib.hid hx; have HOX : Hid (Onb b w wi) := Lib.hid (HOX.out.then hf); have HY := Lib.hid (HY.out.frp hf HYB.out); clear hx hf))
    have y0 := HY.out.cell (j := 0) rfl
    have y1 := HY.out.cell (j := 1) rfl
    have y2 := HY.out.cell (j := 2) rfl
    have y3 := HY.out.cell (j := 3) rfl
    have y4 := HY.out.cell (j := 4) rfl
    have y5 := HY.out.cell (j := 5) rfl
    go_wp2_with (go_at_call 80; refine (node_ok base b s K0 d _ v L ⟨6, nm, [], 0, -1, -1⟩ _ HX.out (by have := HL.out; omega) (by have h1 := HBS.out; have h2 := Frp.size HOX.out; omega)).mono ?_; rintro r w9 ⟨rfl, h9⟩; have H9 := Lib.hid h9; clear h9)
    go_ret
    obtain ⟨v', h6, h7, h8⟩ := H9.out
    refine out_ok (k' := K0) (n' := n + 1) (by rw [HR.out, HOP.out]; rfl) (v' := v') (by push_cast; exact h6) ?_
    exact (onb_below HOX.out H.out.hb HBS.out).trans (h7.below (fun q hq => by rcases hq with rfl | hq; exact H.out.hb; exact own_lo H.out.own hq) (by have h1 := HBS.out; have h2 := Frp.size HOX.out; omega))
end Go.Proofs.YtdnoceancoclmaaGreatDoor.Ru
