/- RuLeaf, RuPairsP. -/
import Derived.Test.YtdemkfhkibmbnaaGreatDoorM14
set_option maxRecDepth 100000
set_option maxHeartbeats 8000000
namespace Go.Proofs.YtdemkfhkibmbnaaGreatDoor.Ru
open Go.RowKit Go.Proofs.YtdemkfhkibmbnaaGreatDoor
theorem leaf_any (base b : Nat) (s : ByteArray) (k : Nat) (d : Int) (n : Nat) (v : Value) (L : List Nd) (w : World) (h : Prs base w b s k d n v L 0 0) (hn : n ≤ 64) (hl : L.length ≤ 500) (hbase : base ≤ w.heap.size) (hv : ErrV w) :
  Calls Tryz.prog 130 #[ptr b] w fun r w' => Out base w w' b s d (leafP s.size ⟨n, L, rest s k⟩) r := by
 have H := zz h; have hkb := h.kb; have hsz := h.sz; have HV := zz hv; have HBS := zz hbase; have HL := zz hl; obtain ⟨bad, hbad⟩ : ∃ bad, bad = !hd lo (rest s k) := ⟨_, rfl⟩; have HBAD := zz hbad; have c1 := h.c1; have HO0 : Hid (Onb b w w) := zz (Frp.refl _ _); clear h hl hbase hv hbad; go_enter Tryz.func130, Tryz.ntmps130; go_upto_region 2 with fail; clear c1
 go_cut [43] (fun s43 wx => s43 = .bool bad ∧ Prs base wx b s k d n v L 0 0 ∧ Onb b w wx)
 case first =>
  have b0 := H.o.p0; have b1 := H.o.p1; have i0 : (0 : Int) ≤ (k : Int) := by omega
  have FIN : Hid (∀ t : Past w, Prs base t.val b s k d n v L 0 0 ∧ Onb b w t.val) := zz (fun t => ⟨H.o.kept t.h, Frp.of_below t.h _⟩)
  by_cases hlt : k < s.size
  ·have i1 : (k : Int) < (s.size : Int) := by omega
   have t1 : ((k : Int) == (s.size : Int)) = false := by simp; omega
   obtain ⟨c, hc⟩ : ∃ c, c = s[k] := ⟨_, rfl⟩; have hcc : s[k] = c := hc.symm; have HB2 : Hid (bad = !lo c) := zz (by rw [HBAD.o, hd_rest hlt, hc]); clear hc; cases t2 : decide ((c.toNat : Int) < 97)
   ·cases t3 : decide ((122 : Int) < (c.toNat : Int))
    ·have HB3 : Hid (bad = false) := zz (by rw [HB2.o]; unfold lo; simp at t2 t3 ⊢; omega)
     refine wp_region_past (by kernel_rfl) (by kernel_rfl) ?_
     repeat (go_big_quiet_step (fail))
     refine wpQuiet_nil ?_; intro _ hw'; obtain ⟨s9, hw''⟩ := hw'; subst hw''; go_wp2_with fail
     go_meet
     exact ⟨by rw [HB3.o], FIN.o s9⟩
    ·have HB3 : Hid (bad = true) := zz (by rw [HB2.o]; unfold lo; simp at t2 t3 ⊢; omega)
     refine wp_region_past (by kernel_rfl) (by kernel_rfl) ?_
     repeat (go_big_quiet_step (fail))
     refine wpQuiet_nil ?_; intro _ hw'; obtain ⟨s9, hw''⟩ := hw'; subst hw''; go_wp2_with fail
     go_meet
     exact ⟨by rw [HB3.o], FIN.o s9⟩
   ·have HB3 : Hid (bad = true) := zz (by rw [HB2.o]; unfold lo; simp at t2 ⊢; omega)
    refine wp_region_past (by kernel_rfl) (by kernel_rfl) ?_
    repeat (go_big_quiet_step (fail))
    refine wpQuiet_nil ?_; intro _ hw'; obtain ⟨s9, hw''⟩ := hw'; subst hw''; go_wp2_with fail
    go_meet
    exact ⟨by rw [HB3.o], FIN.o s9⟩
  ·have hke : k = s.size := by omega
   have t1 : ((k : Int) == (s.size : Int)) = true := by simp; omega
   have HB3 : Hid (bad = true) := zz (by rw [HBAD.o, hke, hd_end]; rfl); clear hke hlt; refine wp_region_past (by kernel_rfl) (by kernel_rfl) ?_
   repeat (go_big_quiet_step (fail))
   refine wpQuiet_nil ?_; intro _ hw'; obtain ⟨s9, hw''⟩ := hw'; subst hw''; go_wp2_with fail
   go_meet
   exact ⟨by rw [HB3.o], FIN.o s9⟩
 case rest =>
 obtain ⟨rfl, hp, ho⟩ := hcut; obtain ⟨w1, hw1⟩ : ∃ w1, w1 = wc := ⟨_, rfl⟩; rw [← hw1] at hp ho ⊢; have H1 := zz hp; have HO1 := zz ho; clear hp ho hw1; cases bad
 case true =>
  have HR : Hid (leafP s.size ⟨n, L, rest s k⟩ = .error (5, (k : Int))) := zz (leafP_bad hkb (by have := HBAD.o; simpa using this)); have c1 := H1.o.c1; have HF : Hid (flt 0 0 5 (k : Int) = (5, (k : Int))) := zz (by unfold flt; rw [if_pos ⟨rfl, rfl⟩]); go_wp2_with (go_at_call 88; refine (fails_any base b s k d n v L 0 0 5 (k : Int) _ H1.o).mono ?_; rw [HF.o]; rintro r w4 ⟨rfl, h4, hf⟩; have H4 := zz h4; have HO4 : Hid (Onb b w w4) := zz (HO1.o.then hf); clear h4 hf); go_ret; exact out_err HR.o H4.o (onb_below HO4.o H.o.hb HBS.o) _
 case false =>
 have HLO : Hid (hd lo (rest s k) = true) := zz (by have := HBAD.o; simpa using this); obtain ⟨nm, hnm⟩ : ∃ nm, nm = run 24 nmc (rest s k) := ⟨_, rfl⟩; obtain ⟨k1, hk1⟩ : ∃ k1, k1 = k + nm.length := ⟨_, rfl⟩; have HNM := zz hnm; have HK1 := zz hk1; have HRN : Hid (∀ w, Prs base w b s k d n v L 0 0 → Calls Tryz.prog 143 #[ptr b, .int .i64 24, .func (.func 144) #[] #[]] w fun r w' => r = .returned (.string (bs nm)) ∧ Prs base w' b s k1 d n v L 0 0 ∧ Onb b w w') := zz (fun w h => by rw [hk1, hnm]; exact run_name base b s k d n v L 0 0 w h); clear hnm hk1; go_upto_region 6 with (go_at_call 143; refine (HRN.o _ H1.o).mono ?_; rintro r w2 ⟨rfl, h2, hf⟩; have H2 := zz h2; have HO2 : Hid (Onb b w w2) := zz (HO1.o.then hf); clear h2 hf); have hk1s := H2.o.kb; obtain ⟨more, hmore⟩ : ∃ more, more = hd wdc (rest s k1) := ⟨_, rfl⟩; have HMORE := zz hmore; obtain ⟨an, han⟩ : ∃ an, an = ((bs nm).toList == anyT) := ⟨_, rfl⟩; have HAN : Hid (an = decide (nm = anyT)) := zz (by rw [han, Lib.toList_data]; unfold bs; by_cases hq : nm = anyT <;> simp [hq]); have HAN2 := zz han; have HIW : Hid (∀ (c : UInt8) w, Calls Tryz.prog 81 #[.int .u8 (c.toNat : Int)] w fun e w' => e = .returned (.bool (wdc c)) ∧ w = w') := zz inWord_any
 clear hmore han
 go_cut [78] (fun s78 wx => s78 = .bool (an && !more) ∧ Prs base wx b s k1 d n v L 0 0 ∧ Onb b w wx)
 case first =>
  have b0 := H2.o.p0; have b1 := H2.o.p1; have i0 : (0 : Int) ≤ (k1 : Int) := by omega
  have FIN : Hid (∀ t : Past w2, Prs base t.val b s k1 d n v L 0 0 ∧ Onb b w t.val) := zz (fun t => ⟨H2.o.kept t.h, HO2.o.next t.h⟩); cases hq : an
  ·have HAQ := zz hq
   have t0 : ((bs nm).toList == ([97, 110, 121] : List UInt8)) = false := by rw [← hq]; exact HAN2.o.symm
   refine wp_region_past (by kernel_rfl) (by kernel_rfl) ?_
   repeat (go_big_quiet_step (((go_at_call 81; exact past_call_same (HIW.o _ _)))))
   refine wpQuiet_nil ?_; intro _ hw'; obtain ⟨s9, hw''⟩ := hw'; subst hw''; go_wp2_with fail
   go_meet
   exact ⟨by rw [HAQ.o]; rfl, FIN.o s9⟩
  ·have HAQ := zz hq
   have t0 : ((bs nm).toList == ([97, 110, 121] : List UInt8)) = true := by rw [← hq]; exact HAN2.o.symm
   by_cases hlt : k1 < s.size
   ·have i1 : (k1 : Int) < (s.size : Int) := by omega
    obtain ⟨c, hc⟩ : ∃ c, c = s[k1] := ⟨_, rfl⟩; have hcc : s[k1] = c := hc.symm; cases t1 : wdc c
    ·have HM2 : Hid (more = false) := zz (by rw [HMORE.o, hd_rest hlt, ← hc, t1])
     clear hc; refine wp_region_past (by kernel_rfl) (by kernel_rfl) ?_
     repeat (go_big_quiet_step (((go_at_call 81; exact past_call_same (HIW.o _ _)))))
     refine wpQuiet_nil ?_; intro _ hw'; obtain ⟨s9, hw''⟩ := hw'; subst hw''; go_wp2_with fail
     go_meet
     exact ⟨by rw [HM2.o, HAQ.o]; rfl, FIN.o s9⟩
    ·have HM2 : Hid (more = true) := zz (by rw [HMORE.o, hd_rest hlt, ← hc, t1])
     clear hc; refine wp_region_past (by kernel_rfl) (by kernel_rfl) ?_
     repeat (go_big_quiet_step (((go_at_call 81; exact past_call_same (HIW.o _ _)))))
     refine wpQuiet_nil ?_; intro _ hw'; obtain ⟨s9, hw''⟩ := hw'; subst hw''; go_wp2_with fail
     go_meet
     exact ⟨by rw [HM2.o, HAQ.o]; rfl, FIN.o s9⟩
   ·have i1 : ¬ (k1 : Int) < (s.size : Int) := by omega
    have i4 : decide ((k1 : Int) < (s.size : Int)) = false := decide_eq_false i1; have HM2 : Hid (more = false) := zz (by rw [HMORE.o, show k1 = s.size from by omega, hd_end]); clear hlt; refine wp_region_past (by kernel_rfl) (by kernel_rfl) ?_
    repeat (go_big_quiet_step (((go_at_call 81; exact past_call_same (HIW.o _ _)))))
    refine wpQuiet_nil ?_; intro _ hw'; obtain ⟨s9, hw''⟩ := hw'; subst hw''; go_wp2_with fail
    go_meet
    exact ⟨by rw [HM2.o, HAQ.o]; rfl, FIN.o s9⟩
 case rest =>
 obtain ⟨rfl, hp, ho⟩ := hcut; obtain ⟨w3, hw3⟩ : ∃ w3, w3 = wc := ⟨_, rfl⟩; rw [← hw3] at hp ho ⊢; have H3 := zz hp; have HO3 := zz ho; clear hp ho hw3 H2; cases hany : (an && !more)
 case true =>
  have HAM : Hid (nm = anyT ∧ more = false) := zz (by
   simp only [Bool.and_eq_true, Bool.not_eq_true'] at hany; have h1 := hany.1; rw [HAN.o] at h1
   exact ⟨by simpa using h1, hany.2⟩)
  have HR : Hid (leafP s.size ⟨n, L, rest s k⟩ = if 64 < n + 1 then .error (3, (k : Int)) else .ok (put (n + 1) L (rest s k1) ⟨1, [], [], 0, -1, -1⟩)) := zz (leafP_any HLO.o HNM.o HK1.o HAM.o.1 (by rw [← HMORE.o]; exact HAM.o.2) hkb); clear hany
  by_cases h64 : 64 < n + 1
  ·have q1 : (64 : Int) < (n : Int) + 1 := by omega
   have HE : Hid ((if 64 < (n : Int) + 1 then (3 : Int) else 0) = 3 ∧ (if 64 < (n : Int) + 1 then (k : Int) else 0) = (k : Int)) := zz ⟨if_pos q1, if_pos q1⟩
   go_wp2_with (first
    | (go_at_call 117; refine (count_any base b s k1 d n v L (k : Int) _ H3.o (by omega)).mono ?_; rw [HE.o.1, HE.o.2]; rintro r w4 ⟨rfl, h4, hf⟩; have H4 := zz h4; have HO4 : Hid (Onb b w w4) := zz (HO3.o.then hf); clear h4 hf)
    | (go_at_call 118; refine (node_bad base b s k1 d _ v L 3 (k : Int) ⟨1, [], [], 0, -1, -1⟩ _ H4.o (by decide)).mono ?_; rintro r w5 ⟨rfl, h5, hf⟩; have H5 := zz h5; have HO5 : Hid (Onb b w w5) := zz (HO4.o.then hf); clear h5 hf))
   go_ret; exact out_err (by rw [HR.o, if_pos h64]) H5.o (onb_below HO5.o H.o.hb HBS.o) _
  ·have q1 : ¬ (64 : Int) < (n : Int) + 1 := by omega
   have HE : Hid ((if 64 < (n : Int) + 1 then (3 : Int) else 0) = 0 ∧ (if 64 < (n : Int) + 1 then (k : Int) else 0) = 0) := zz ⟨if_neg q1, if_neg q1⟩
   go_wp2_with (first
    | (go_at_call 117; refine (count_any base b s k1 d n v L (k : Int) _ H3.o (by omega)).mono ?_; rw [HE.o.1, HE.o.2]; rintro r w4 ⟨rfl, h4, hf⟩; have H4 := zz h4; have HO4 : Hid (Onb b w w4) := zz (HO3.o.then hf); clear h4 hf)
    | (go_at_call 118; refine (node_ok base b s k1 d _ v L ⟨1, [], [], 0, -1, -1⟩ _ H4.o (by have := HL.o; omega) (by have h1 := HBS.o; have h2 := Frp.size HO4.o; omega)).mono ?_; rintro r w5 ⟨rfl, h5⟩; have H5 := zz h5; clear h5))
   go_ret; obtain ⟨v', h6, h7, h8⟩ := H5.o; refine out_ok (k' := k1) (n' := n + 1) (by rw [HR.o, if_neg h64]; rfl) (v' := v') (by push_cast; exact h6) ?_; exact (onb_below HO4.o H.o.hb HBS.o).trans (h7.below (fun q hq => by rcases hq with rfl | hq; exact H.o.hb; exact own_lo H.o.own hq) (by have h1 := HBS.o; have h2 := Frp.size HO4.o; omega))
 case false =>
 go_upto_region 9 with fail
 go_cut [106] (fun s106 wx => s106 = .bool more ∧ Prs base wx b s k1 d n v L 0 0 ∧ Onb b w wx)
 case first =>
  have b0 := H3.o.p0; have b1 := H3.o.p1; have i0 : (0 : Int) ≤ (k1 : Int) := by omega
  have FIN : Hid (∀ t : Past w3, Prs base t.val b s k1 d n v L 0 0 ∧ Onb b w t.val) := zz (fun t => ⟨H3.o.kept t.h, HO3.o.next t.h⟩)
  by_cases hlt : k1 < s.size
  ·have i1 : (k1 : Int) < (s.size : Int) := by omega
   obtain ⟨c, hc⟩ : ∃ c, c = s[k1] := ⟨_, rfl⟩; have hcc : s[k1] = c := hc.symm; cases t1 : wdc c
   ·have HM2 : Hid (more = false) := zz (by rw [HMORE.o, hd_rest hlt, ← hc, t1])
    clear hc; refine wp_region_past (by kernel_rfl) (by kernel_rfl) ?_
    repeat (go_big_quiet_step (((go_at_call 81; exact past_call_same (HIW.o _ _)))))
    refine wpQuiet_nil ?_; intro _ hw'; obtain ⟨s9, hw''⟩ := hw'; subst hw''; go_wp2_with fail
    go_meet
    exact ⟨by rw [HM2.o], FIN.o s9⟩
   ·have HM2 : Hid (more = true) := zz (by rw [HMORE.o, hd_rest hlt, ← hc, t1])
    clear hc; refine wp_region_past (by kernel_rfl) (by kernel_rfl) ?_
    repeat (go_big_quiet_step (((go_at_call 81; exact past_call_same (HIW.o _ _)))))
    refine wpQuiet_nil ?_; intro _ hw'; obtain ⟨s9, hw''⟩ := hw'; subst hw''; go_wp2_with fail
    go_meet
    exact ⟨by rw [HM2.o], FIN.o s9⟩
  ·have i1 : ¬ (k1 : Int) < (s.size : Int) := by omega
   have i4 : decide ((k1 : Int) < (s.size : Int)) = false := decide_eq_false i1; have HM2 : Hid (more = false) := zz (by rw [HMORE.o, show k1 = s.size from by omega, hd_end]); clear hlt; refine wp_region_past (by kernel_rfl) (by kernel_rfl) ?_
   repeat (go_big_quiet_step (((go_at_call 81; exact past_call_same (HIW.o _ _)))))
   refine wpQuiet_nil ?_; intro _ hw'; obtain ⟨s9, hw''⟩ := hw'; subst hw''; go_wp2_with fail
   go_meet
   exact ⟨by rw [HM2.o], FIN.o s9⟩
 case rest =>
 obtain ⟨rfl, hp, ho⟩ := hcut; obtain ⟨w4, hw4⟩ : ∃ w4, w4 = wc := ⟨_, rfl⟩; rw [← hw4] at hp ho ⊢; have H4 := zz hp; have HO4 := zz ho; clear hp ho hw4 H3; cases more
 case true =>
  have HR : Hid (leafP s.size ⟨n, L, rest s k⟩ = .error (5, (k1 : Int))) := zz (leafP_more HLO.o HNM.o HK1.o HMORE.o.symm hk1s); have c1 := H4.o.c1; have HF : Hid (flt 0 0 5 (k1 : Int) = (5, (k1 : Int))) := zz (by unfold flt; rw [if_pos ⟨rfl, rfl⟩]); go_wp2_with (go_at_call 88; refine (fails_any base b s k1 d n v L 0 0 5 (k1 : Int) _ H4.o).mono ?_; rw [HF.o]; rintro r w5 ⟨rfl, h5, hf⟩; have H5 := zz h5; have HO5 : Hid (Onb b w w5) := zz (HO4.o.then hf); clear h5 hf); go_ret; exact out_err HR.o H5.o (onb_below HO5.o H.o.hb HBS.o) _
 case false =>
 have HNA : Hid (nm ≠ anyT) := zz (by
  rw [HAN.o] at hany
  simpa using hany)
 have HR : Hid (leafP s.size ⟨n, L, rest s k⟩ = if 64 < n + 1 then .error (3, (k : Int)) else opP s.size (n + 1) L nm (rest s (skip s k1))) := zz (leafP_else HLO.o HNM.o HK1.o HNA.o HMORE.o.symm hkb hk1s); clear hany
 by_cases h64 : 64 < n + 1
 case pos =>
  have q1 : (64 : Int) < (n : Int) + 1 := by omega
  have HE : Hid ((if 64 < (n : Int) + 1 then (3 : Int) else 0) = 3 ∧ (if 64 < (n : Int) + 1 then (k : Int) else 0) = (k : Int)) := zz ⟨if_pos q1, if_pos q1⟩; rw [if_pos h64] at HR; go_upto_region 13 with (go_at_call 117; refine (count_any base b s k1 d n v L (k : Int) _ H4.o (by omega)).mono ?_; rw [HE.o.1, HE.o.2]; rintro r w5 ⟨rfl, h5, hf⟩; have H5 := zz h5; have HO5 : Hid (Onb b w w5) := zz (HO4.o.then hf); clear h5 hf); go_upto_region 14 with fail; refine at_hide (F := fun w' => Blk w' w5.heap.size (ndC ⟨6, nm, [], 0, -1, -1⟩) 69 ∧ Prs base w' b s k1 d ((n : Int) + 1) v L 3 (k : Int) ∧ Onb b w w') ⟨Blk.made w5 (ndC ⟨6, nm, [], 0, -1, -1⟩) _, H5.o.kept (below_alloc _ _), HO5.o.next (below_alloc _ _)⟩ ?_; intro w6 hF; obtain ⟨Y, hY⟩ : ∃ Y, Y = w5.heap.size := ⟨_, rfl⟩; rw [← hY] at hF ⊢; have HYB : Hid (Y ≠ b) := zz (by rw [hY]; have := H5.o.blk.lt; omega); have HYV : Hid (v.ownBlock ≠ some Y) := zz (fun hq => by have := own_hi H5.o.own hq; omega); have HYL : Hid (base ≤ Y) := zz (by rw [hY]; have h1 := HBS.o; have h2 := Frp.size HO5.o; omega); have Y6 := zz hF.1; have H6 := zz hF.2.1; have HO6 := zz hF.2.2; clear hF hY H5 HO5 H4 HO4 h64 q1
  obtain ⟨K0, hK0⟩ : ∃ K0, K0 = skip s k1 := ⟨_, rfl⟩; have HK0 := zz hK0; clear hK0; cases hq0 : isB s ⟨#[33, 61]⟩ k1
  case true =>
   have HX : Hid (Prs base w6 b s k1 d ((n : Int) + 1) v L 3 (k : Int)) := H6; have HOX := HO6; have HY := Y6; have Q0 : isB s ⟨#[33, 61]⟩ k1 = true := hq0; obtain ⟨P, hP⟩ : ∃ P, P = isK s ⟨#[33, 61]⟩ k1 := ⟨_, rfl⟩; have HP := zz hP; have M0 : isK s ⟨#[33, 61]⟩ k1 = P := by exact hP.symm
   have HSP := zz (strip_yes hk1s hq0); clear hq0; clear hP; obtain ⟨t, ht⟩ : ∃ t, t = run 32 wdc (blk (rest s P)) := ⟨_, rfl⟩; obtain ⟨K2, hK2⟩ : ∃ K2, K2 = skip s P + t.length := ⟨_, rfl⟩; obtain ⟨e2, he2⟩ : ∃ e2, e2 = (if t = [] then (flt 3 (k : Int) 5 (skip s P : Int)).1 else 3) := ⟨_, rfl⟩; obtain ⟨a2, ha2⟩ : ∃ a2, a2 = (if t = [] then (flt 3 (k : Int) 5 (skip s P : Int)).2 else (k : Int)) := ⟨_, rfl⟩; have HT := zz ht; have HK2 := zz hK2; have HE2 := zz he2; have HA2 := zz ha2; have HWD : Hid (∀ wx, Prs base wx b s P d ((n : Int) + 1) v L 3 (k : Int) → Calls Tryz.prog 145 #[ptr b] wx fun r w' => r = .returned (.string (bs t)) ∧ WdS base wx w' b s K2 d ((n : Int) + 1) v L e2 a2) := zz (fun wx hx => by rw [hK2, he2, ha2, ht]; exact word_any base b s P d ((n : Int) + 1) v L 3 (k : Int) wx hx); clear ht hK2 he2 ha2; go_upto_region 24 with (first | (go_at_call 116; refine (is_any base b s _ d _ v L 3 (k : Int) _ _ HX.o (by decide)).mono ?_; (try rw [Q0]); rintro r wi ⟨rfl, hx, hf⟩; (try rw [M0] at hx); have HX := zz hx; have HOX : Hid (Onb b w wi) := zz (HOX.o.then hf); have HY := zz (HY.o.frp hf HYB.o); clear hx hf) | (go_at_call 145; refine (HWD.o _ HX.o).mono ?_; rintro r wi ⟨rfl, hw⟩; have hx := hw.1; have hf := hw.2; have HX2 := zz hx; have HOX2 : Hid (Onb b w wi) := zz (HOX.o.then hf); have HY2 := zz (HY.o.frp hf HYB.o); obtain ⟨y0, -, y2⟩ := cl3 HY2.o; obtain ⟨yf0, -, yf2⟩ := fz3 HY2.o; clear hx hf hw))
   refine at_hide (F := fun w' => Blk w' Y (ndC ⟨3, nm, t, 0, -1, -1⟩) 69 ∧ Prs base w' b s K2 d ((n : Int) + 1) v L e2 a2 ∧ Below base w w') ⟨(HY2.o.set 0 (.int .i64 3)).set 2 (.string (bs t)), (HX2.o.off HYB.o HYV.o 0 _).off HYB.o HYV.o 2 _, ((onb_below HOX2.o H.o.hb HBS.o).setCell (p := ⟨Y, 0, none⟩) HYL.o _).setCell (p := ⟨Y, 2, none⟩) HYL.o _⟩ ?_; intro w8 hF; obtain ⟨f1, f2, f3⟩ := hF; have HY8 := zz f1; have H8 := zz f2; have HB8 := zz f3; clear f1 f2 f3 y0 y2 yf0 yf2; obtain ⟨y0, y1, y2, y3, y4, y5⟩ := cl6 HY8.o; have HE3 : Hid (e2 = 3 ∧ a2 = (k : Int)) := zz (by rw [HE2.o, HA2.o]; constructor <;> simp [flt]); rw [HE3.o.1, HE3.o.2] at H8; go_wp2_with (go_at_call 118; refine (node_bad base b s K2 d _ v L 3 (k : Int) ⟨3, nm, t, 0, -1, -1⟩ _ H8.o (by decide)).mono ?_; rintro r w9 ⟨rfl, h9, hf⟩; have H9 := zz h9; have HB9 : Hid (Below base w w9) := zz (HB8.o.trans (onb_below hf H.o.hb (by have h1 := HBS.o; have h2 := HB8.o.size; omega))); clear h9 hf); go_ret; exact out_err (by rw [HR.o]) H9.o HB9.o _
  case false =>
  cases hq1 : isB s ⟨#[62, 61]⟩ k1
  case true =>
   have HX : Hid (Prs base w6 b s k1 d ((n : Int) + 1) v L 3 (k : Int)) := H6; have HOX := HO6; have HY := Y6; have Q0 : isB s ⟨#[33, 61]⟩ k1 = false := hq0; have M0 : isK s ⟨#[33, 61]⟩ k1 = K0 := by rw [HK0.o]; exact (strip_no hk1s hq0).2
   have Q1 : isB s ⟨#[62, 61]⟩ K0 = true := by rw [HK0.o, (isB_skip hk1s).1]; exact hq1
   obtain ⟨P, hP⟩ : ∃ P, P = isK s ⟨#[62, 61]⟩ k1 := ⟨_, rfl⟩; have HP := zz hP; have M1 : isK s ⟨#[62, 61]⟩ K0 = P := by rw [HK0.o, (isB_skip hk1s).2]; exact hP.symm
   have HSP := zz (strip_yes hk1s hq1); clear hq0 hq1; clear hP; obtain ⟨t, ht⟩ : ∃ t, t = run 12 dgt (blk (rest s P)) := ⟨_, rfl⟩; obtain ⟨K2, hK2⟩ : ∃ K2, K2 = skip s P + t.length := ⟨_, rfl⟩; obtain ⟨e2, he2⟩ : ∃ e2, e2 = (if t = [] then (flt 3 (k : Int) 5 (skip s P : Int)).1 else 3) := ⟨_, rfl⟩; obtain ⟨a2, ha2⟩ : ∃ a2, a2 = (if t = [] then (flt 3 (k : Int) 5 (skip s P : Int)).2 else (k : Int)) := ⟨_, rfl⟩; have HT := zz ht; have HK2 := zz hK2; have HE2 := zz he2; have HA2 := zz ha2; obtain ⟨z, hz⟩ : ∃ z, z = (if t = [] then 0 else digV t) := ⟨_, rfl⟩; have HZ := zz hz; have HWD : Hid (∀ wx, Prs base wx b s P d ((n : Int) + 1) v L 3 (k : Int) → ErrV wx → Calls Tryz.prog 146 #[ptr b] wx fun r w' => r = .returned (.int .i64 z) ∧ WdS base wx w' b s K2 d ((n : Int) + 1) v L e2 a2) := zz (fun wx hx hv => by rw [hK2, he2, ha2, hz, ht]; exact digits_any base b s P d ((n : Int) + 1) v L 3 (k : Int) wx hx hv); clear ht hK2 he2 ha2 hz; go_upto_region 24 with (first | (go_at_call 116; refine (is_any base b s _ d _ v L 3 (k : Int) _ _ HX.o (by decide)).mono ?_; (try rw [Q0]); (try rw [Q1]); rintro r wi ⟨rfl, hx, hf⟩; (try rw [M0] at hx); (try rw [M1] at hx); have HX := zz hx; have HOX : Hid (Onb b w wi) := zz (HOX.o.then hf); have HY := zz (HY.o.frp hf HYB.o); clear hx hf) | (go_at_call 146; refine (HWD.o _ HX.o (HV.o.onb H.o HOX.o)).mono ?_; rintro r wi ⟨rfl, hw⟩; have hx := hw.1; have hf := hw.2; have HX2 := zz hx; have HOX2 : Hid (Onb b w wi) := zz (HOX.o.then hf); have HY2 := zz (HY.o.frp hf HYB.o); obtain ⟨y0, -, -, y2⟩ := cl4 HY2.o; obtain ⟨yf0, -, -, yf2⟩ := fz4 HY2.o; clear hx hf hw))
   refine at_hide (F := fun w' => Blk w' Y (ndC ⟨4, nm, [], z, -1, -1⟩) 69 ∧ Prs base w' b s K2 d ((n : Int) + 1) v L e2 a2 ∧ Below base w w') ⟨(HY2.o.set 0 (.int .i64 4)).set 3 (.int .i64 z), (HX2.o.off HYB.o HYV.o 0 _).off HYB.o HYV.o 3 _, ((onb_below HOX2.o H.o.hb HBS.o).setCell (p := ⟨Y, 0, none⟩) HYL.o _).setCell (p := ⟨Y, 3, none⟩) HYL.o _⟩ ?_; intro w8 hF; obtain ⟨f1, f2, f3⟩ := hF; have HY8 := zz f1; have H8 := zz f2; have HB8 := zz f3; clear f1 f2 f3 y0 y2 yf0 yf2; obtain ⟨y0, y1, y2, y3, y4, y5⟩ := cl6 HY8.o; have HE3 : Hid (e2 = 3 ∧ a2 = (k : Int)) := zz (by rw [HE2.o, HA2.o]; constructor <;> simp [flt]); rw [HE3.o.1, HE3.o.2] at H8; go_wp2_with (go_at_call 118; refine (node_bad base b s K2 d _ v L 3 (k : Int) ⟨4, nm, [], z, -1, -1⟩ _ H8.o (by decide)).mono ?_; rintro r w9 ⟨rfl, h9, hf⟩; have H9 := zz h9; have HB9 : Hid (Below base w w9) := zz (HB8.o.trans (onb_below hf H.o.hb (by have h1 := HBS.o; have h2 := HB8.o.size; omega))); clear h9 hf); go_ret; exact out_err (by rw [HR.o]) H9.o HB9.o _
  case false =>
  cases hq2 : isB s ⟨#[60, 61]⟩ k1
  case true =>
   have HX : Hid (Prs base w6 b s k1 d ((n : Int) + 1) v L 3 (k : Int)) := H6; have HOX := HO6; have HY := Y6; have Q0 : isB s ⟨#[33, 61]⟩ k1 = false := hq0; have M0 : isK s ⟨#[33, 61]⟩ k1 = K0 := by rw [HK0.o]; exact (strip_no hk1s hq0).2
   have Q1 : isB s ⟨#[62, 61]⟩ K0 = false := by rw [HK0.o, (isB_skip hk1s).1]; exact hq1
   have M1 : isK s ⟨#[62, 61]⟩ K0 = K0 := by rw [HK0.o, (isB_skip hk1s).2]; exact (strip_no hk1s hq1).2
   have Q2 : isB s ⟨#[60, 61]⟩ K0 = true := by rw [HK0.o, (isB_skip hk1s).1]; exact hq2
   obtain ⟨P, hP⟩ : ∃ P, P = isK s ⟨#[60, 61]⟩ k1 := ⟨_, rfl⟩; have HP := zz hP; have M2 : isK s ⟨#[60, 61]⟩ K0 = P := by rw [HK0.o, (isB_skip hk1s).2]; exact hP.symm
   have HSP := zz (strip_yes hk1s hq2); clear hq0 hq1 hq2; clear hP; obtain ⟨t, ht⟩ : ∃ t, t = run 12 dgt (blk (rest s P)) := ⟨_, rfl⟩; obtain ⟨K2, hK2⟩ : ∃ K2, K2 = skip s P + t.length := ⟨_, rfl⟩; obtain ⟨e2, he2⟩ : ∃ e2, e2 = (if t = [] then (flt 3 (k : Int) 5 (skip s P : Int)).1 else 3) := ⟨_, rfl⟩; obtain ⟨a2, ha2⟩ : ∃ a2, a2 = (if t = [] then (flt 3 (k : Int) 5 (skip s P : Int)).2 else (k : Int)) := ⟨_, rfl⟩; have HT := zz ht; have HK2 := zz hK2; have HE2 := zz he2; have HA2 := zz ha2; obtain ⟨z, hz⟩ : ∃ z, z = (if t = [] then 0 else digV t) := ⟨_, rfl⟩; have HZ := zz hz; have HWD : Hid (∀ wx, Prs base wx b s P d ((n : Int) + 1) v L 3 (k : Int) → ErrV wx → Calls Tryz.prog 146 #[ptr b] wx fun r w' => r = .returned (.int .i64 z) ∧ WdS base wx w' b s K2 d ((n : Int) + 1) v L e2 a2) := zz (fun wx hx hv => by rw [hK2, he2, ha2, hz, ht]; exact digits_any base b s P d ((n : Int) + 1) v L 3 (k : Int) wx hx hv); clear ht hK2 he2 ha2 hz; go_upto_region 24 with (first | (go_at_call 116; refine (is_any base b s _ d _ v L 3 (k : Int) _ _ HX.o (by decide)).mono ?_; (try rw [Q0]); (try rw [Q1]); (try rw [Q2]); rintro r wi ⟨rfl, hx, hf⟩; (try rw [M0] at hx); (try rw [M1] at hx); (try rw [M2] at hx); have HX := zz hx; have HOX : Hid (Onb b w wi) := zz (HOX.o.then hf); have HY := zz (HY.o.frp hf HYB.o); clear hx hf) | (go_at_call 146; refine (HWD.o _ HX.o (HV.o.onb H.o HOX.o)).mono ?_; rintro r wi ⟨rfl, hw⟩; have hx := hw.1; have hf := hw.2; have HX2 := zz hx; have HOX2 : Hid (Onb b w wi) := zz (HOX.o.then hf); have HY2 := zz (HY.o.frp hf HYB.o); obtain ⟨y0, -, -, y2⟩ := cl4 HY2.o; obtain ⟨yf0, -, -, yf2⟩ := fz4 HY2.o; clear hx hf hw))
   refine at_hide (F := fun w' => Blk w' Y (ndC ⟨5, nm, [], z, -1, -1⟩) 69 ∧ Prs base w' b s K2 d ((n : Int) + 1) v L e2 a2 ∧ Below base w w') ⟨(HY2.o.set 0 (.int .i64 5)).set 3 (.int .i64 z), (HX2.o.off HYB.o HYV.o 0 _).off HYB.o HYV.o 3 _, ((onb_below HOX2.o H.o.hb HBS.o).setCell (p := ⟨Y, 0, none⟩) HYL.o _).setCell (p := ⟨Y, 3, none⟩) HYL.o _⟩ ?_; intro w8 hF; obtain ⟨f1, f2, f3⟩ := hF; have HY8 := zz f1; have H8 := zz f2; have HB8 := zz f3; clear f1 f2 f3 y0 y2 yf0 yf2; obtain ⟨y0, y1, y2, y3, y4, y5⟩ := cl6 HY8.o; have HE3 : Hid (e2 = 3 ∧ a2 = (k : Int)) := zz (by rw [HE2.o, HA2.o]; constructor <;> simp [flt]); rw [HE3.o.1, HE3.o.2] at H8; go_wp2_with (go_at_call 118; refine (node_bad base b s K2 d _ v L 3 (k : Int) ⟨5, nm, [], z, -1, -1⟩ _ H8.o (by decide)).mono ?_; rintro r w9 ⟨rfl, h9, hf⟩; have H9 := zz h9; have HB9 : Hid (Below base w w9) := zz (HB8.o.trans (onb_below hf H.o.hb (by have h1 := HBS.o; have h2 := HB8.o.size; omega))); clear h9 hf); go_ret; exact out_err (by rw [HR.o]) H9.o HB9.o _
  case false =>
  cases hq3 : isB s ⟨#[61]⟩ k1
  case true =>
   have HX : Hid (Prs base w6 b s k1 d ((n : Int) + 1) v L 3 (k : Int)) := H6; have HOX := HO6; have HY := Y6; have Q0 : isB s ⟨#[33, 61]⟩ k1 = false := hq0; have M0 : isK s ⟨#[33, 61]⟩ k1 = K0 := by rw [HK0.o]; exact (strip_no hk1s hq0).2
   have Q1 : isB s ⟨#[62, 61]⟩ K0 = false := by rw [HK0.o, (isB_skip hk1s).1]; exact hq1
   have M1 : isK s ⟨#[62, 61]⟩ K0 = K0 := by rw [HK0.o, (isB_skip hk1s).2]; exact (strip_no hk1s hq1).2
   have Q2 : isB s ⟨#[60, 61]⟩ K0 = false := by rw [HK0.o, (isB_skip hk1s).1]; exact hq2
   have M2 : isK s ⟨#[60, 61]⟩ K0 = K0 := by rw [HK0.o, (isB_skip hk1s).2]; exact (strip_no hk1s hq2).2
   have Q3 : isB s ⟨#[61]⟩ K0 = true := by rw [HK0.o, (isB_skip hk1s).1]; exact hq3
   obtain ⟨P, hP⟩ : ∃ P, P = isK s ⟨#[61]⟩ k1 := ⟨_, rfl⟩; have HP := zz hP; have M3 : isK s ⟨#[61]⟩ K0 = P := by rw [HK0.o, (isB_skip hk1s).2]; exact hP.symm
   have HSP := zz (strip_yes hk1s hq3); clear hq0 hq1 hq2 hq3; clear hP; obtain ⟨t, ht⟩ : ∃ t, t = run 32 wdc (blk (rest s P)) := ⟨_, rfl⟩; obtain ⟨K2, hK2⟩ : ∃ K2, K2 = skip s P + t.length := ⟨_, rfl⟩; obtain ⟨e2, he2⟩ : ∃ e2, e2 = (if t = [] then (flt 3 (k : Int) 5 (skip s P : Int)).1 else 3) := ⟨_, rfl⟩; obtain ⟨a2, ha2⟩ : ∃ a2, a2 = (if t = [] then (flt 3 (k : Int) 5 (skip s P : Int)).2 else (k : Int)) := ⟨_, rfl⟩; have HT := zz ht; have HK2 := zz hK2; have HE2 := zz he2; have HA2 := zz ha2; have HWD : Hid (∀ wx, Prs base wx b s P d ((n : Int) + 1) v L 3 (k : Int) → Calls Tryz.prog 145 #[ptr b] wx fun r w' => r = .returned (.string (bs t)) ∧ WdS base wx w' b s K2 d ((n : Int) + 1) v L e2 a2) := zz (fun wx hx => by rw [hK2, he2, ha2, ht]; exact word_any base b s P d ((n : Int) + 1) v L 3 (k : Int) wx hx); clear ht hK2 he2 ha2; go_upto_region 24 with (first | (go_at_call 116; refine (is_any base b s _ d _ v L 3 (k : Int) _ _ HX.o (by decide)).mono ?_; (try rw [Q0]); (try rw [Q1]); (try rw [Q2]); (try rw [Q3]); rintro r wi ⟨rfl, hx, hf⟩; (try rw [M0] at hx); (try rw [M1] at hx); (try rw [M2] at hx); (try rw [M3] at hx); have HX := zz hx; have HOX : Hid (Onb b w wi) := zz (HOX.o.then hf); have HY := zz (HY.o.frp hf HYB.o); clear hx hf) | (go_at_call 145; refine (HWD.o _ HX.o).mono ?_; rintro r wi ⟨rfl, hw⟩; have hx := hw.1; have hf := hw.2; have HX2 := zz hx; have HOX2 : Hid (Onb b w wi) := zz (HOX.o.then hf); have HY2 := zz (HY.o.frp hf HYB.o); obtain ⟨y0, -, y2⟩ := cl3 HY2.o; obtain ⟨yf0, -, yf2⟩ := fz3 HY2.o; clear hx hf hw))
   refine at_hide (F := fun w' => Blk w' Y (ndC ⟨2, nm, t, 0, -1, -1⟩) 69 ∧ Prs base w' b s K2 d ((n : Int) + 1) v L e2 a2 ∧ Below base w w') ⟨(HY2.o.set 0 (.int .i64 2)).set 2 (.string (bs t)), (HX2.o.off HYB.o HYV.o 0 _).off HYB.o HYV.o 2 _, ((onb_below HOX2.o H.o.hb HBS.o).setCell (p := ⟨Y, 0, none⟩) HYL.o _).setCell (p := ⟨Y, 2, none⟩) HYL.o _⟩ ?_; intro w8 hF; obtain ⟨f1, f2, f3⟩ := hF; have HY8 := zz f1; have H8 := zz f2; have HB8 := zz f3; clear f1 f2 f3 y0 y2 yf0 yf2; obtain ⟨y0, y1, y2, y3, y4, y5⟩ := cl6 HY8.o; have HE3 : Hid (e2 = 3 ∧ a2 = (k : Int)) := zz (by rw [HE2.o, HA2.o]; constructor <;> simp [flt]); rw [HE3.o.1, HE3.o.2] at H8; go_wp2_with (go_at_call 118; refine (node_bad base b s K2 d _ v L 3 (k : Int) ⟨2, nm, t, 0, -1, -1⟩ _ H8.o (by decide)).mono ?_; rintro r w9 ⟨rfl, h9, hf⟩; have H9 := zz h9; have HB9 : Hid (Below base w w9) := zz (HB8.o.trans (onb_below hf H.o.hb (by have h1 := HBS.o; have h2 := HB8.o.size; omega))); clear h9 hf); go_ret; exact out_err (by rw [HR.o]) H9.o HB9.o _
  case false =>
  cases hq4 : isB s ⟨#[33]⟩ k1
  case true =>
   have HX : Hid (Prs base w6 b s k1 d ((n : Int) + 1) v L 3 (k : Int)) := H6; have HOX := HO6; have HY := Y6; have Q0 : isB s ⟨#[33, 61]⟩ k1 = false := hq0; have M0 : isK s ⟨#[33, 61]⟩ k1 = K0 := by rw [HK0.o]; exact (strip_no hk1s hq0).2
   have Q1 : isB s ⟨#[62, 61]⟩ K0 = false := by rw [HK0.o, (isB_skip hk1s).1]; exact hq1
   have M1 : isK s ⟨#[62, 61]⟩ K0 = K0 := by rw [HK0.o, (isB_skip hk1s).2]; exact (strip_no hk1s hq1).2
   have Q2 : isB s ⟨#[60, 61]⟩ K0 = false := by rw [HK0.o, (isB_skip hk1s).1]; exact hq2
   have M2 : isK s ⟨#[60, 61]⟩ K0 = K0 := by rw [HK0.o, (isB_skip hk1s).2]; exact (strip_no hk1s hq2).2
   have Q3 : isB s ⟨#[61]⟩ K0 = false := by rw [HK0.o, (isB_skip hk1s).1]; exact hq3
   have M3 : isK s ⟨#[61]⟩ K0 = K0 := by rw [HK0.o, (isB_skip hk1s).2]; exact (strip_no hk1s hq3).2
   have Q4 : isB s ⟨#[33]⟩ K0 = true := by rw [HK0.o, (isB_skip hk1s).1]; exact hq4
   obtain ⟨P, hP⟩ : ∃ P, P = isK s ⟨#[33]⟩ k1 := ⟨_, rfl⟩; have HP := zz hP; have M4 : isK s ⟨#[33]⟩ K0 = P := by rw [HK0.o, (isB_skip hk1s).2]; exact hP.symm
   have HSP := zz (strip_yes hk1s hq4); clear hq0 hq1 hq2 hq3 hq4; clear hP; have c1p : True := trivial; obtain ⟨fe, fa, hfl⟩ : ∃ fe fa, flt 3 (k : Int) 5 (P : Int) = (fe, fa) := ⟨_, _, rfl⟩; have HFL := zz hfl; clear hfl; go_upto_region 23 with (first | (go_at_call 116; refine (is_any base b s _ d _ v L 3 (k : Int) _ _ HX.o (by decide)).mono ?_; (try rw [Q0]); (try rw [Q1]); (try rw [Q2]); (try rw [Q3]); (try rw [Q4]); rintro r wi ⟨rfl, hx, hf⟩; (try rw [M0] at hx); (try rw [M1] at hx); (try rw [M2] at hx); (try rw [M3] at hx); (try rw [M4] at hx); have HX := zz hx; have HOX : Hid (Onb b w wi) := zz (HOX.o.then hf); have HY := zz (HY.o.frp hf HYB.o); clear hx hf)); have c1 := HX.o.c1; go_upto_region 24 with (go_at_call 88; refine (fails_any base b s P d _ v L 3 (k : Int) 5 (P : Int) _ HX.o).mono ?_; rw [HFL.o]; rintro r wi ⟨rfl, hx, hf⟩; have HX2 := zz hx; have HOX2 : Hid (Onb b w wi) := zz (HOX.o.then hf); have HY2 := zz (HY.o.frp hf HYB.o); clear hx hf); obtain ⟨y0, y1, y2, y3, y4, y5⟩ := cl6 HY2.o; have HE3 : Hid (fe = 3 ∧ fa = (k : Int)) := zz (by have := HFL.o; unfold flt at this; rw [if_neg (by simp)] at this; cases this; exact ⟨rfl, rfl⟩)
   rw [HE3.o.1, HE3.o.2] at HX2; go_wp2_with (go_at_call 118; refine (node_bad base b s P d _ v L 3 (k : Int) ⟨6, nm, [], 0, -1, -1⟩ _ HX2.o (by decide)).mono ?_; rintro r w9 ⟨rfl, h9, hf⟩; have H9 := zz h9; have HO9 : Hid (Onb b w w9) := zz (HOX2.o.then hf); clear h9 hf); go_ret; exact out_err (by rw [HR.o]) H9.o (onb_below HO9.o H.o.hb HBS.o) _
  case false =>
  cases hq5 : isB s ⟨#[62]⟩ k1
  case true =>
   have HX : Hid (Prs base w6 b s k1 d ((n : Int) + 1) v L 3 (k : Int)) := H6; have HOX := HO6; have HY := Y6; have Q0 : isB s ⟨#[33, 61]⟩ k1 = false := hq0; have M0 : isK s ⟨#[33, 61]⟩ k1 = K0 := by rw [HK0.o]; exact (strip_no hk1s hq0).2
   have Q1 : isB s ⟨#[62, 61]⟩ K0 = false := by rw [HK0.o, (isB_skip hk1s).1]; exact hq1
   have M1 : isK s ⟨#[62, 61]⟩ K0 = K0 := by rw [HK0.o, (isB_skip hk1s).2]; exact (strip_no hk1s hq1).2
   have Q2 : isB s ⟨#[60, 61]⟩ K0 = false := by rw [HK0.o, (isB_skip hk1s).1]; exact hq2
   have M2 : isK s ⟨#[60, 61]⟩ K0 = K0 := by rw [HK0.o, (isB_skip hk1s).2]; exact (strip_no hk1s hq2).2
   have Q3 : isB s ⟨#[61]⟩ K0 = false := by rw [HK0.o, (isB_skip hk1s).1]; exact hq3
   have M3 : isK s ⟨#[61]⟩ K0 = K0 := by rw [HK0.o, (isB_skip hk1s).2]; exact (strip_no hk1s hq3).2
   have Q4 : isB s ⟨#[33]⟩ K0 = false := by rw [HK0.o, (isB_skip hk1s).1]; exact hq4
   have M4 : isK s ⟨#[33]⟩ K0 = K0 := by rw [HK0.o, (isB_skip hk1s).2]; exact (strip_no hk1s hq4).2
   have Q5 : isB s ⟨#[62]⟩ K0 = true := by rw [HK0.o, (isB_skip hk1s).1]; exact hq5
   obtain ⟨P, hP⟩ : ∃ P, P = isK s ⟨#[62]⟩ k1 := ⟨_, rfl⟩; have HP := zz hP; have M5 : isK s ⟨#[62]⟩ K0 = P := by rw [HK0.o, (isB_skip hk1s).2]; exact hP.symm
   have HSP := zz (strip_yes hk1s hq5); clear hq0 hq1 hq2 hq3 hq4 hq5; clear hP; have c1p : True := trivial; obtain ⟨fe, fa, hfl⟩ : ∃ fe fa, flt 3 (k : Int) 5 (P : Int) = (fe, fa) := ⟨_, _, rfl⟩; have HFL := zz hfl; clear hfl; go_upto_region 23 with (first | (go_at_call 116; refine (is_any base b s _ d _ v L 3 (k : Int) _ _ HX.o (by decide)).mono ?_; (try rw [Q0]); (try rw [Q1]); (try rw [Q2]); (try rw [Q3]); (try rw [Q4]); (try rw [Q5]); rintro r wi ⟨rfl, hx, hf⟩; (try rw [M0] at hx); (try rw [M1] at hx); (try rw [M2] at hx); (try rw [M3] at hx); (try rw [M4] at hx); (try rw [M5] at hx); have HX := zz hx; have HOX : Hid (Onb b w wi) := zz (HOX.o.then hf); have HY := zz (HY.o.frp hf HYB.o); clear hx hf)); have c1 := HX.o.c1; go_upto_region 24 with (go_at_call 88; refine (fails_any base b s P d _ v L 3 (k : Int) 5 (P : Int) _ HX.o).mono ?_; rw [HFL.o]; rintro r wi ⟨rfl, hx, hf⟩; have HX2 := zz hx; have HOX2 : Hid (Onb b w wi) := zz (HOX.o.then hf); have HY2 := zz (HY.o.frp hf HYB.o); clear hx hf); obtain ⟨y0, y1, y2, y3, y4, y5⟩ := cl6 HY2.o; have HE3 : Hid (fe = 3 ∧ fa = (k : Int)) := zz (by have := HFL.o; unfold flt at this; rw [if_neg (by simp)] at this; cases this; exact ⟨rfl, rfl⟩)
   rw [HE3.o.1, HE3.o.2] at HX2; go_wp2_with (go_at_call 118; refine (node_bad base b s P d _ v L 3 (k : Int) ⟨6, nm, [], 0, -1, -1⟩ _ HX2.o (by decide)).mono ?_; rintro r w9 ⟨rfl, h9, hf⟩; have H9 := zz h9; have HO9 : Hid (Onb b w w9) := zz (HOX2.o.then hf); clear h9 hf); go_ret; exact out_err (by rw [HR.o]) H9.o (onb_below HO9.o H.o.hb HBS.o) _
  case false =>
  cases hq6 : isB s ⟨#[60]⟩ k1
  case true =>
   have HX : Hid (Prs base w6 b s k1 d ((n : Int) + 1) v L 3 (k : Int)) := H6; have HOX := HO6; have HY := Y6; have Q0 : isB s ⟨#[33, 61]⟩ k1 = false := hq0; have M0 : isK s ⟨#[33, 61]⟩ k1 = K0 := by rw [HK0.o]; exact (strip_no hk1s hq0).2
   have Q1 : isB s ⟨#[62, 61]⟩ K0 = false := by rw [HK0.o, (isB_skip hk1s).1]; exact hq1
   have M1 : isK s ⟨#[62, 61]⟩ K0 = K0 := by rw [HK0.o, (isB_skip hk1s).2]; exact (strip_no hk1s hq1).2
   have Q2 : isB s ⟨#[60, 61]⟩ K0 = false := by rw [HK0.o, (isB_skip hk1s).1]; exact hq2
   have M2 : isK s ⟨#[60, 61]⟩ K0 = K0 := by rw [HK0.o, (isB_skip hk1s).2]; exact (strip_no hk1s hq2).2
   have Q3 : isB s ⟨#[61]⟩ K0 = false := by rw [HK0.o, (isB_skip hk1s).1]; exact hq3
   have M3 : isK s ⟨#[61]⟩ K0 = K0 := by rw [HK0.o, (isB_skip hk1s).2]; exact (strip_no hk1s hq3).2
   have Q4 : isB s ⟨#[33]⟩ K0 = false := by rw [HK0.o, (isB_skip hk1s).1]; exact hq4
   have M4 : isK s ⟨#[33]⟩ K0 = K0 := by rw [HK0.o, (isB_skip hk1s).2]; exact (strip_no hk1s hq4).2
   have Q5 : isB s ⟨#[62]⟩ K0 = false := by rw [HK0.o, (isB_skip hk1s).1]; exact hq5
   have M5 : isK s ⟨#[62]⟩ K0 = K0 := by rw [HK0.o, (isB_skip hk1s).2]; exact (strip_no hk1s hq5).2
   have Q6 : isB s ⟨#[60]⟩ K0 = true := by rw [HK0.o, (isB_skip hk1s).1]; exact hq6
   obtain ⟨P, hP⟩ : ∃ P, P = isK s ⟨#[60]⟩ k1 := ⟨_, rfl⟩; have HP := zz hP; have M6 : isK s ⟨#[60]⟩ K0 = P := by rw [HK0.o, (isB_skip hk1s).2]; exact hP.symm
   have HSP := zz (strip_yes hk1s hq6); clear hq0 hq1 hq2 hq3 hq4 hq5 hq6; clear hP; have c1p : True := trivial; obtain ⟨fe, fa, hfl⟩ : ∃ fe fa, flt 3 (k : Int) 5 (P : Int) = (fe, fa) := ⟨_, _, rfl⟩; have HFL := zz hfl; clear hfl; go_upto_region 23 with (first | (go_at_call 116; refine (is_any base b s _ d _ v L 3 (k : Int) _ _ HX.o (by decide)).mono ?_; (try rw [Q0]); (try rw [Q1]); (try rw [Q2]); (try rw [Q3]); (try rw [Q4]); (try rw [Q5]); (try rw [Q6]); rintro r wi ⟨rfl, hx, hf⟩; (try rw [M0] at hx); (try rw [M1] at hx); (try rw [M2] at hx); (try rw [M3] at hx); (try rw [M4] at hx); (try rw [M5] at hx); (try rw [M6] at hx); have HX := zz hx; have HOX : Hid (Onb b w wi) := zz (HOX.o.then hf); have HY := zz (HY.o.frp hf HYB.o); clear hx hf)); have c1 := HX.o.c1; go_upto_region 24 with (go_at_call 88; refine (fails_any base b s P d _ v L 3 (k : Int) 5 (P : Int) _ HX.o).mono ?_; rw [HFL.o]; rintro r wi ⟨rfl, hx, hf⟩; have HX2 := zz hx; have HOX2 : Hid (Onb b w wi) := zz (HOX.o.then hf); have HY2 := zz (HY.o.frp hf HYB.o); clear hx hf); obtain ⟨y0, y1, y2, y3, y4, y5⟩ := cl6 HY2.o; have HE3 : Hid (fe = 3 ∧ fa = (k : Int)) := zz (by have := HFL.o; unfold flt at this; rw [if_neg (by simp)] at this; cases this; exact ⟨rfl, rfl⟩)
   rw [HE3.o.1, HE3.o.2] at HX2; go_wp2_with (go_at_call 118; refine (node_bad base b s P d _ v L 3 (k : Int) ⟨6, nm, [], 0, -1, -1⟩ _ HX2.o (by decide)).mono ?_; rintro r w9 ⟨rfl, h9, hf⟩; have H9 := zz h9; have HO9 : Hid (Onb b w w9) := zz (HOX2.o.then hf); clear h9 hf); go_ret; exact out_err (by rw [HR.o]) H9.o (onb_below HO9.o H.o.hb HBS.o) _
  case false =>
  have HX : Hid (Prs base w6 b s k1 d ((n : Int) + 1) v L 3 (k : Int)) := H6; have HOX := HO6; have HY := Y6; have Q0 : isB s ⟨#[33, 61]⟩ k1 = false := hq0; have M0 : isK s ⟨#[33, 61]⟩ k1 = K0 := by rw [HK0.o]; exact (strip_no hk1s hq0).2
  have Q1 : isB s ⟨#[62, 61]⟩ K0 = false := by rw [HK0.o, (isB_skip hk1s).1]; exact hq1
  have M1 : isK s ⟨#[62, 61]⟩ K0 = K0 := by rw [HK0.o, (isB_skip hk1s).2]; exact (strip_no hk1s hq1).2
  have Q2 : isB s ⟨#[60, 61]⟩ K0 = false := by rw [HK0.o, (isB_skip hk1s).1]; exact hq2
  have M2 : isK s ⟨#[60, 61]⟩ K0 = K0 := by rw [HK0.o, (isB_skip hk1s).2]; exact (strip_no hk1s hq2).2
  have Q3 : isB s ⟨#[61]⟩ K0 = false := by rw [HK0.o, (isB_skip hk1s).1]; exact hq3
  have M3 : isK s ⟨#[61]⟩ K0 = K0 := by rw [HK0.o, (isB_skip hk1s).2]; exact (strip_no hk1s hq3).2
  have Q4 : isB s ⟨#[33]⟩ K0 = false := by rw [HK0.o, (isB_skip hk1s).1]; exact hq4
  have M4 : isK s ⟨#[33]⟩ K0 = K0 := by rw [HK0.o, (isB_skip hk1s).2]; exact (strip_no hk1s hq4).2
  have Q5 : isB s ⟨#[62]⟩ K0 = false := by rw [HK0.o, (isB_skip hk1s).1]; exact hq5
  have M5 : isK s ⟨#[62]⟩ K0 = K0 := by rw [HK0.o, (isB_skip hk1s).2]; exact (strip_no hk1s hq5).2
  have Q6 : isB s ⟨#[60]⟩ K0 = false := by rw [HK0.o, (isB_skip hk1s).1]; exact hq6
  have M6 : isK s ⟨#[60]⟩ K0 = K0 := by rw [HK0.o, (isB_skip hk1s).2]; exact (strip_no hk1s hq6).2
  clear hq0 hq1 hq2 hq3 hq4 hq5 hq6; go_upto_region 24 with (first | (go_at_call 116; refine (is_any base b s _ d _ v L 3 (k : Int) _ _ HX.o (by decide)).mono ?_; (try rw [Q0]); (try rw [Q1]); (try rw [Q2]); (try rw [Q3]); (try rw [Q4]); (try rw [Q5]); (try rw [Q6]); rintro r wi ⟨rfl, hx, hf⟩; (try rw [M0] at hx); (try rw [M1] at hx); (try rw [M2] at hx); (try rw [M3] at hx); (try rw [M4] at hx); (try rw [M5] at hx); (try rw [M6] at hx); have HX := zz hx; have HOX : Hid (Onb b w wi) := zz (HOX.o.then hf); have HY := zz (HY.o.frp hf HYB.o); clear hx hf)); obtain ⟨y0, y1, y2, y3, y4, y5⟩ := cl6 HY.o; go_wp2_with (go_at_call 118; refine (node_bad base b s K0 d _ v L 3 (k : Int) ⟨6, nm, [], 0, -1, -1⟩ _ HX.o (by decide)).mono ?_; rintro r w9 ⟨rfl, h9, hf⟩; have H9 := zz h9; have HO9 : Hid (Onb b w w9) := zz (HOX.o.then hf); clear h9 hf); go_ret; exact out_err (by rw [HR.o]) H9.o (onb_below HO9.o H.o.hb HBS.o) _
 case neg =>
  have q1 : ¬ (64 : Int) < (n : Int) + 1 := by omega
  have HE : Hid ((if 64 < (n : Int) + 1 then (3 : Int) else 0) = 0 ∧ (if 64 < (n : Int) + 1 then (k : Int) else 0) = 0) := zz ⟨if_neg q1, if_neg q1⟩; rw [if_neg h64] at HR; go_upto_region 13 with (go_at_call 117; refine (count_any base b s k1 d n v L (k : Int) _ H4.o (by omega)).mono ?_; rw [HE.o.1, HE.o.2]; rintro r w5 ⟨rfl, h5, hf⟩; have H5 := zz h5; have HO5 : Hid (Onb b w w5) := zz (HO4.o.then hf); clear h5 hf); go_upto_region 14 with fail; refine at_hide (F := fun w' => Blk w' w5.heap.size (ndC ⟨6, nm, [], 0, -1, -1⟩) 69 ∧ Prs base w' b s k1 d ((n : Int) + 1) v L 0 0 ∧ Onb b w w') ⟨Blk.made w5 (ndC ⟨6, nm, [], 0, -1, -1⟩) _, H5.o.kept (below_alloc _ _), HO5.o.next (below_alloc _ _)⟩ ?_; intro w6 hF; obtain ⟨Y, hY⟩ : ∃ Y, Y = w5.heap.size := ⟨_, rfl⟩; rw [← hY] at hF ⊢; have HYB : Hid (Y ≠ b) := zz (by rw [hY]; have := H5.o.blk.lt; omega); have HYV : Hid (v.ownBlock ≠ some Y) := zz (fun hq => by have := own_hi H5.o.own hq; omega); have HYL : Hid (base ≤ Y) := zz (by rw [hY]; have h1 := HBS.o; have h2 := Frp.size HO5.o; omega); have Y6 := zz hF.1; have H6 := zz hF.2.1; have HO6 := zz hF.2.2; clear hF hY H5 HO5 H4 HO4 h64 q1; obtain ⟨K0, hK0⟩ : ∃ K0, K0 = skip s k1 := ⟨_, rfl⟩
  have HK0 := zz hK0; rw [← hK0] at HR; clear hK0; cases hq0 : isB s ⟨#[33, 61]⟩ k1
  case true =>
   have HX : Hid (Prs base w6 b s k1 d ((n : Int) + 1) v L 0 0) := H6; have HOX := HO6; have HY := Y6; have Q0 : isB s ⟨#[33, 61]⟩ k1 = true := hq0; obtain ⟨P, hP⟩ : ∃ P, P = isK s ⟨#[33, 61]⟩ k1 := ⟨_, rfl⟩; have HP := zz hP; have M0 : isK s ⟨#[33, 61]⟩ k1 = P := by exact hP.symm
   have HSP := zz (strip_yes hk1s hq0); have HSP' : Hid (P ≤ s.size) := zz (by rw [HP.o]; exact HSP.o.2); have HOP : Hid (opP s.size (n + 1) L nm (rest s K0) = wdE s.size (n + 1) L nm 3 (rest s P)) := zz (by rw [HK0.o, HP.o]; unfold opP; simp only [(strip_yes hk1s hq0).1]); clear hq0; clear hP; obtain ⟨t, ht⟩ : ∃ t, t = run 32 wdc (blk (rest s P)) := ⟨_, rfl⟩; obtain ⟨K2, hK2⟩ : ∃ K2, K2 = skip s P + t.length := ⟨_, rfl⟩; obtain ⟨e2, he2⟩ : ∃ e2, e2 = (if t = [] then (flt 0 0 5 (skip s P : Int)).1 else 0) := ⟨_, rfl⟩; obtain ⟨a2, ha2⟩ : ∃ a2, a2 = (if t = [] then (flt 0 0 5 (skip s P : Int)).2 else 0) := ⟨_, rfl⟩; have HT := zz ht; have HK2 := zz hK2; have HE2 := zz he2; have HA2 := zz ha2; have HWD : Hid (∀ wx, Prs base wx b s P d ((n : Int) + 1) v L 0 0 → Calls Tryz.prog 145 #[ptr b] wx fun r w' => r = .returned (.string (bs t)) ∧ WdS base wx w' b s K2 d ((n : Int) + 1) v L e2 a2) := zz (fun wx hx => by rw [hK2, he2, ha2, ht]; exact word_any base b s P d ((n : Int) + 1) v L 0 0 wx hx); clear ht hK2 he2 ha2; go_upto_region 24 with (first | (go_at_call 116; refine (is_any base b s _ d _ v L 0 0 _ _ HX.o (by decide)).mono ?_; (try rw [Q0]); rintro r wi ⟨rfl, hx, hf⟩; (try rw [M0] at hx); have HX := zz hx; have HOX : Hid (Onb b w wi) := zz (HOX.o.then hf); have HY := zz (HY.o.frp hf HYB.o); clear hx hf) | (go_at_call 145; refine (HWD.o _ HX.o).mono ?_; rintro r wi ⟨rfl, hw⟩; have hx := hw.1; have hf := hw.2; have HX2 := zz hx; have HOX2 : Hid (Onb b w wi) := zz (HOX.o.then hf); have HY2 := zz (HY.o.frp hf HYB.o); obtain ⟨y0, -, y2⟩ := cl3 HY2.o; obtain ⟨yf0, -, yf2⟩ := fz3 HY2.o; clear hx hf hw))
   refine at_hide (F := fun w' => Blk w' Y (ndC ⟨3, nm, t, 0, -1, -1⟩) 69 ∧ Prs base w' b s K2 d ((n : Int) + 1) v L e2 a2 ∧ Below base w w') ⟨(HY2.o.set 0 (.int .i64 3)).set 2 (.string (bs t)), (HX2.o.off HYB.o HYV.o 0 _).off HYB.o HYV.o 2 _, ((onb_below HOX2.o H.o.hb HBS.o).setCell (p := ⟨Y, 0, none⟩) HYL.o _).setCell (p := ⟨Y, 2, none⟩) HYL.o _⟩ ?_; intro w8 hF; obtain ⟨f1, f2, f3⟩ := hF; have HY8 := zz f1; have H8 := zz f2; have HB8 := zz f3; clear f1 f2 f3 y0 y2 yf0 yf2; obtain ⟨y0, y1, y2, y3, y4, y5⟩ := cl6 HY8.o
   by_cases h0 : t = []
   ·have HE3 : Hid (e2 = 5 ∧ a2 = (skip s P : Int)) := zz (by rw [HE2.o, HA2.o, if_pos h0, if_pos h0]; unfold flt; rw [if_pos ⟨rfl, rfl⟩]; exact ⟨rfl, rfl⟩)
    rw [HE3.o.1, HE3.o.2] at H8; have HRR : Hid (leafP s.size ⟨n, L, rest s k⟩ = .error (5, (skip s P : Int))) := zz (by rw [HR.o, HOP.o]; unfold wdE; rw [← HT.o, if_pos h0, (skip_is HSP'.o).2.2.1, pos_rest (skip_is HSP'.o).2.1]); clear h0; go_wp2_with (go_at_call 118; refine (node_bad base b s K2 d _ v L 5 (skip s P : Int) ⟨3, nm, t, 0, -1, -1⟩ _ H8.o (by decide)).mono ?_; rintro r w9 ⟨rfl, h9, hf⟩; have H9 := zz h9; have HB9 : Hid (Below base w w9) := zz (HB8.o.trans (onb_below hf H.o.hb (by have h1 := HBS.o; have h2 := HB8.o.size; omega))); clear h9 hf); go_ret; exact out_err (by exact HRR.o) H9.o HB9.o _
   ·have HE3 : Hid (e2 = 0 ∧ a2 = 0) := zz (by rw [HE2.o, HA2.o, if_neg h0, if_neg h0]; exact ⟨rfl, rfl⟩)
    rw [HE3.o.1, HE3.o.2] at H8; have HRR : Hid (leafP s.size ⟨n, L, rest s k⟩ = .ok (put (n + 1) L (rest s K2) ⟨3, nm, t, 0, -1, -1⟩)) := zz (by rw [HR.o, HOP.o]; unfold wdE; rw [← HT.o, if_neg h0, (skip_is HSP'.o).2.2.1, rest_drop, HK2.o]); clear h0; go_wp2_with (go_at_call 118; refine (node_ok base b s K2 d _ v L ⟨3, nm, t, 0, -1, -1⟩ _ H8.o (by have := HL.o; omega) (by have h1 := HBS.o; have h2 := HB8.o.size; omega)).mono ?_; rintro r w9 ⟨rfl, h9⟩; have H9 := zz h9; clear h9); go_ret; obtain ⟨v', h6, h7, h8⟩ := H9.o; refine out_ok (k' := K2) (n' := n + 1) (by rw [HRR.o]; rfl) (v' := v') (by push_cast; exact h6) ?_; exact HB8.o.trans (h7.below (fun q hq => by rcases hq with rfl | hq; exact H.o.hb; exact own_lo H.o.own hq) (by have h1 := HBS.o; have h2 := HB8.o.size; omega))
  case false =>
  cases hq1 : isB s ⟨#[62, 61]⟩ k1
  case true =>
   have HX : Hid (Prs base w6 b s k1 d ((n : Int) + 1) v L 0 0) := H6; have HOX := HO6; have HY := Y6; have Q0 : isB s ⟨#[33, 61]⟩ k1 = false := hq0; have M0 : isK s ⟨#[33, 61]⟩ k1 = K0 := by rw [HK0.o]; exact (strip_no hk1s hq0).2
   have Q1 : isB s ⟨#[62, 61]⟩ K0 = true := by rw [HK0.o, (isB_skip hk1s).1]; exact hq1
   obtain ⟨P, hP⟩ : ∃ P, P = isK s ⟨#[62, 61]⟩ k1 := ⟨_, rfl⟩; have HP := zz hP; have M1 : isK s ⟨#[62, 61]⟩ K0 = P := by rw [HK0.o, (isB_skip hk1s).2]; exact hP.symm
   have HSP := zz (strip_yes hk1s hq1); have HSP' : Hid (P ≤ s.size) := zz (by rw [HP.o]; exact HSP.o.2); have HOP : Hid (opP s.size (n + 1) L nm (rest s K0) = dgE s.size (n + 1) L nm 4 (rest s P)) := zz (by rw [HK0.o, HP.o]; unfold opP; simp only [show strip [33, 61] (rest s (skip s k1)) = none from (strip_no hk1s hq0).1, (strip_yes hk1s hq1).1]); clear hq0 hq1; clear hP; obtain ⟨t, ht⟩ : ∃ t, t = run 12 dgt (blk (rest s P)) := ⟨_, rfl⟩; obtain ⟨K2, hK2⟩ : ∃ K2, K2 = skip s P + t.length := ⟨_, rfl⟩; obtain ⟨e2, he2⟩ : ∃ e2, e2 = (if t = [] then (flt 0 0 5 (skip s P : Int)).1 else 0) := ⟨_, rfl⟩; obtain ⟨a2, ha2⟩ : ∃ a2, a2 = (if t = [] then (flt 0 0 5 (skip s P : Int)).2 else 0) := ⟨_, rfl⟩; have HT := zz ht; have HK2 := zz hK2; have HE2 := zz he2; have HA2 := zz ha2; obtain ⟨z, hz⟩ : ∃ z, z = (if t = [] then 0 else digV t) := ⟨_, rfl⟩; have HZ := zz hz; have HWD : Hid (∀ wx, Prs base wx b s P d ((n : Int) + 1) v L 0 0 → ErrV wx → Calls Tryz.prog 146 #[ptr b] wx fun r w' => r = .returned (.int .i64 z) ∧ WdS base wx w' b s K2 d ((n : Int) + 1) v L e2 a2) := zz (fun wx hx hv => by rw [hK2, he2, ha2, hz, ht]; exact digits_any base b s P d ((n : Int) + 1) v L 0 0 wx hx hv)
   clear ht hK2 he2 ha2 hz; go_upto_region 24 with (first | (go_at_call 116; refine (is_any base b s _ d _ v L 0 0 _ _ HX.o (by decide)).mono ?_; (try rw [Q0]); (try rw [Q1]); rintro r wi ⟨rfl, hx, hf⟩; (try rw [M0] at hx); (try rw [M1] at hx); have HX := zz hx; have HOX : Hid (Onb b w wi) := zz (HOX.o.then hf); have HY := zz (HY.o.frp hf HYB.o); clear hx hf) | (go_at_call 146; refine (HWD.o _ HX.o (HV.o.onb H.o HOX.o)).mono ?_; rintro r wi ⟨rfl, hw⟩; have hx := hw.1; have hf := hw.2; have HX2 := zz hx; have HOX2 : Hid (Onb b w wi) := zz (HOX.o.then hf); have HY2 := zz (HY.o.frp hf HYB.o); obtain ⟨y0, -, -, y2⟩ := cl4 HY2.o; obtain ⟨yf0, -, -, yf2⟩ := fz4 HY2.o; clear hx hf hw)); refine at_hide (F := fun w' => Blk w' Y (ndC ⟨4, nm, [], z, -1, -1⟩) 69 ∧ Prs base w' b s K2 d ((n : Int) + 1) v L e2 a2 ∧ Below base w w') ⟨(HY2.o.set 0 (.int .i64 4)).set 3 (.int .i64 z), (HX2.o.off HYB.o HYV.o 0 _).off HYB.o HYV.o 3 _, ((onb_below HOX2.o H.o.hb HBS.o).setCell (p := ⟨Y, 0, none⟩) HYL.o _).setCell (p := ⟨Y, 3, none⟩) HYL.o _⟩ ?_; intro w8 hF; obtain ⟨f1, f2, f3⟩ := hF; have HY8 := zz f1; have H8 := zz f2; have HB8 := zz f3
   clear f1 f2 f3 y0 y2 yf0 yf2; obtain ⟨y0, y1, y2, y3, y4, y5⟩ := cl6 HY8.o
   by_cases h0 : t = []
   ·have HE3 : Hid (e2 = 5 ∧ a2 = (skip s P : Int)) := zz (by rw [HE2.o, HA2.o, if_pos h0, if_pos h0]; unfold flt; rw [if_pos ⟨rfl, rfl⟩]; exact ⟨rfl, rfl⟩)
    rw [HE3.o.1, HE3.o.2] at H8; have HRR : Hid (leafP s.size ⟨n, L, rest s k⟩ = .error (5, (skip s P : Int))) := zz (by rw [HR.o, HOP.o]; unfold dgE; rw [← HT.o, if_pos h0, (skip_is HSP'.o).2.2.1, pos_rest (skip_is HSP'.o).2.1]); clear h0; go_wp2_with (go_at_call 118; refine (node_bad base b s K2 d _ v L 5 (skip s P : Int) ⟨4, nm, [], z, -1, -1⟩ _ H8.o (by decide)).mono ?_; rintro r w9 ⟨rfl, h9, hf⟩; have H9 := zz h9; have HB9 : Hid (Below base w w9) := zz (HB8.o.trans (onb_below hf H.o.hb (by have h1 := HBS.o; have h2 := HB8.o.size; omega))); clear h9 hf); go_ret; exact out_err (by exact HRR.o) H9.o HB9.o _
   ·have HE3 : Hid (e2 = 0 ∧ a2 = 0) := zz (by rw [HE2.o, HA2.o, if_neg h0, if_neg h0]; exact ⟨rfl, rfl⟩)
    rw [HE3.o.1, HE3.o.2] at H8; have HRR : Hid (leafP s.size ⟨n, L, rest s k⟩ = .ok (put (n + 1) L (rest s K2) ⟨4, nm, [], z, -1, -1⟩)) := zz (by rw [HR.o, HOP.o]; unfold dgE; rw [← HT.o, if_neg h0, (skip_is HSP'.o).2.2.1, rest_drop, HK2.o, HZ.o, if_neg h0]); clear h0; go_wp2_with (go_at_call 118; refine (node_ok base b s K2 d _ v L ⟨4, nm, [], z, -1, -1⟩ _ H8.o (by have := HL.o; omega) (by have h1 := HBS.o; have h2 := HB8.o.size; omega)).mono ?_; rintro r w9 ⟨rfl, h9⟩; have H9 := zz h9; clear h9); go_ret; obtain ⟨v', h6, h7, h8⟩ := H9.o; refine out_ok (k' := K2) (n' := n + 1) (by rw [HRR.o]; rfl) (v' := v') (by push_cast; exact h6) ?_; exact HB8.o.trans (h7.below (fun q hq => by rcases hq with rfl | hq; exact H.o.hb; exact own_lo H.o.own hq) (by have h1 := HBS.o; have h2 := HB8.o.size; omega))
  case false =>
  cases hq2 : isB s ⟨#[60, 61]⟩ k1
  case true =>
   have HX : Hid (Prs base w6 b s k1 d ((n : Int) + 1) v L 0 0) := H6; have HOX := HO6; have HY := Y6; have Q0 : isB s ⟨#[33, 61]⟩ k1 = false := hq0; have M0 : isK s ⟨#[33, 61]⟩ k1 = K0 := by rw [HK0.o]; exact (strip_no hk1s hq0).2
   have Q1 : isB s ⟨#[62, 61]⟩ K0 = false := by rw [HK0.o, (isB_skip hk1s).1]; exact hq1
   have M1 : isK s ⟨#[62, 61]⟩ K0 = K0 := by rw [HK0.o, (isB_skip hk1s).2]; exact (strip_no hk1s hq1).2
   have Q2 : isB s ⟨#[60, 61]⟩ K0 = true := by rw [HK0.o, (isB_skip hk1s).1]; exact hq2
   obtain ⟨P, hP⟩ : ∃ P, P = isK s ⟨#[60, 61]⟩ k1 := ⟨_, rfl⟩; have HP := zz hP; have M2 : isK s ⟨#[60, 61]⟩ K0 = P := by rw [HK0.o, (isB_skip hk1s).2]; exact hP.symm
   have HSP := zz (strip_yes hk1s hq2); have HSP' : Hid (P ≤ s.size) := zz (by rw [HP.o]; exact HSP.o.2); have HOP : Hid (opP s.size (n + 1) L nm (rest s K0) = dgE s.size (n + 1) L nm 5 (rest s P)) := zz (by rw [HK0.o, HP.o]; unfold opP; simp only [show strip [33, 61] (rest s (skip s k1)) = none from (strip_no hk1s hq0).1, show strip [62, 61] (rest s (skip s k1)) = none from (strip_no hk1s hq1).1, (strip_yes hk1s hq2).1]); clear hq0 hq1 hq2; clear hP; obtain ⟨t, ht⟩ : ∃ t, t = run 12 dgt (blk (rest s P)) := ⟨_, rfl⟩; obtain ⟨K2, hK2⟩ : ∃ K2, K2 = skip s P + t.length := ⟨_, rfl⟩; obtain ⟨e2, he2⟩ : ∃ e2, e2 = (if t = [] then (flt 0 0 5 (skip s P : Int)).1 else 0) := ⟨_, rfl⟩; obtain ⟨a2, ha2⟩ : ∃ a2, a2 = (if t = [] then (flt 0 0 5 (skip s P : Int)).2 else 0) := ⟨_, rfl⟩; have HT := zz ht; have HK2 := zz hK2; have HE2 := zz he2; have HA2 := zz ha2; obtain ⟨z, hz⟩ : ∃ z, z = (if t = [] then 0 else digV t) := ⟨_, rfl⟩; have HZ := zz hz; have HWD : Hid (∀ wx, Prs base wx b s P d ((n : Int) + 1) v L 0 0 → ErrV wx → Calls Tryz.prog 146 #[ptr b] wx fun r w' => r = .returned (.int .i64 z) ∧ WdS base wx w' b s K2 d ((n : Int) + 1) v L e2 a2) := zz (fun wx hx hv => by rw [hK2, he2, ha2, hz, ht]; exact digits_any base b s P d ((n : Int) + 1) v L 0 0 wx hx hv)
   clear ht hK2 he2 ha2 hz; go_upto_region 24 with (first | (go_at_call 116; refine (is_any base b s _ d _ v L 0 0 _ _ HX.o (by decide)).mono ?_; (try rw [Q0]); (try rw [Q1]); (try rw [Q2]); rintro r wi ⟨rfl, hx, hf⟩; (try rw [M0] at hx); (try rw [M1] at hx); (try rw [M2] at hx); have HX := zz hx; have HOX : Hid (Onb b w wi) := zz (HOX.o.then hf); have HY := zz (HY.o.frp hf HYB.o); clear hx hf) | (go_at_call 146; refine (HWD.o _ HX.o (HV.o.onb H.o HOX.o)).mono ?_; rintro r wi ⟨rfl, hw⟩; have hx := hw.1; have hf := hw.2; have HX2 := zz hx; have HOX2 : Hid (Onb b w wi) := zz (HOX.o.then hf); have HY2 := zz (HY.o.frp hf HYB.o); obtain ⟨y0, -, -, y2⟩ := cl4 HY2.o; obtain ⟨yf0, -, -, yf2⟩ := fz4 HY2.o; clear hx hf hw)); refine at_hide (F := fun w' => Blk w' Y (ndC ⟨5, nm, [], z, -1, -1⟩) 69 ∧ Prs base w' b s K2 d ((n : Int) + 1) v L e2 a2 ∧ Below base w w') ⟨(HY2.o.set 0 (.int .i64 5)).set 3 (.int .i64 z), (HX2.o.off HYB.o HYV.o 0 _).off HYB.o HYV.o 3 _, ((onb_below HOX2.o H.o.hb HBS.o).setCell (p := ⟨Y, 0, none⟩) HYL.o _).setCell (p := ⟨Y, 3, none⟩) HYL.o _⟩ ?_; intro w8 hF; obtain ⟨f1, f2, f3⟩ := hF; have HY8 := zz f1
   have H8 := zz f2; have HB8 := zz f3; clear f1 f2 f3 y0 y2 yf0 yf2; obtain ⟨y0, y1, y2, y3, y4, y5⟩ := cl6 HY8.o
   by_cases h0 : t = []
   ·have HE3 : Hid (e2 = 5 ∧ a2 = (skip s P : Int)) := zz (by rw [HE2.o, HA2.o, if_pos h0, if_pos h0]; unfold flt; rw [if_pos ⟨rfl, rfl⟩]; exact ⟨rfl, rfl⟩)
    rw [HE3.o.1, HE3.o.2] at H8; have HRR : Hid (leafP s.size ⟨n, L, rest s k⟩ = .error (5, (skip s P : Int))) := zz (by rw [HR.o, HOP.o]; unfold dgE; rw [← HT.o, if_pos h0, (skip_is HSP'.o).2.2.1, pos_rest (skip_is HSP'.o).2.1]); clear h0; go_wp2_with (go_at_call 118; refine (node_bad base b s K2 d _ v L 5 (skip s P : Int) ⟨5, nm, [], z, -1, -1⟩ _ H8.o (by decide)).mono ?_; rintro r w9 ⟨rfl, h9, hf⟩; have H9 := zz h9; have HB9 : Hid (Below base w w9) := zz (HB8.o.trans (onb_below hf H.o.hb (by have h1 := HBS.o; have h2 := HB8.o.size; omega))); clear h9 hf); go_ret; exact out_err (by exact HRR.o) H9.o HB9.o _
   ·have HE3 : Hid (e2 = 0 ∧ a2 = 0) := zz (by rw [HE2.o, HA2.o, if_neg h0, if_neg h0]; exact ⟨rfl, rfl⟩)
    rw [HE3.o.1, HE3.o.2] at H8; have HRR : Hid (leafP s.size ⟨n, L, rest s k⟩ = .ok (put (n + 1) L (rest s K2) ⟨5, nm, [], z, -1, -1⟩)) := zz (by rw [HR.o, HOP.o]; unfold dgE; rw [← HT.o, if_neg h0, (skip_is HSP'.o).2.2.1, rest_drop, HK2.o, HZ.o, if_neg h0]); clear h0; go_wp2_with (go_at_call 118; refine (node_ok base b s K2 d _ v L ⟨5, nm, [], z, -1, -1⟩ _ H8.o (by have := HL.o; omega) (by have h1 := HBS.o; have h2 := HB8.o.size; omega)).mono ?_; rintro r w9 ⟨rfl, h9⟩; have H9 := zz h9; clear h9); go_ret; obtain ⟨v', h6, h7, h8⟩ := H9.o; refine out_ok (k' := K2) (n' := n + 1) (by rw [HRR.o]; rfl) (v' := v') (by push_cast; exact h6) ?_; exact HB8.o.trans (h7.below (fun q hq => by rcases hq with rfl | hq; exact H.o.hb; exact own_lo H.o.own hq) (by have h1 := HBS.o; have h2 := HB8.o.size; omega))
  case false =>
  cases hq3 : isB s ⟨#[61]⟩ k1
  case true =>
   have HX : Hid (Prs base w6 b s k1 d ((n : Int) + 1) v L 0 0) := H6; have HOX := HO6; have HY := Y6; have Q0 : isB s ⟨#[33, 61]⟩ k1 = false := hq0; have M0 : isK s ⟨#[33, 61]⟩ k1 = K0 := by rw [HK0.o]; exact (strip_no hk1s hq0).2
   have Q1 : isB s ⟨#[62, 61]⟩ K0 = false := by rw [HK0.o, (isB_skip hk1s).1]; exact hq1
   have M1 : isK s ⟨#[62, 61]⟩ K0 = K0 := by rw [HK0.o, (isB_skip hk1s).2]; exact (strip_no hk1s hq1).2
   have Q2 : isB s ⟨#[60, 61]⟩ K0 = false := by rw [HK0.o, (isB_skip hk1s).1]; exact hq2
   have M2 : isK s ⟨#[60, 61]⟩ K0 = K0 := by rw [HK0.o, (isB_skip hk1s).2]; exact (strip_no hk1s hq2).2
   have Q3 : isB s ⟨#[61]⟩ K0 = true := by rw [HK0.o, (isB_skip hk1s).1]; exact hq3
   obtain ⟨P, hP⟩ : ∃ P, P = isK s ⟨#[61]⟩ k1 := ⟨_, rfl⟩; have HP := zz hP; have M3 : isK s ⟨#[61]⟩ K0 = P := by rw [HK0.o, (isB_skip hk1s).2]; exact hP.symm
   have HSP := zz (strip_yes hk1s hq3); have HSP' : Hid (P ≤ s.size) := zz (by rw [HP.o]; exact HSP.o.2); have HOP : Hid (opP s.size (n + 1) L nm (rest s K0) = wdE s.size (n + 1) L nm 2 (rest s P)) := zz (by rw [HK0.o, HP.o]; unfold opP; simp only [show strip [33, 61] (rest s (skip s k1)) = none from (strip_no hk1s hq0).1, show strip [62, 61] (rest s (skip s k1)) = none from (strip_no hk1s hq1).1, show strip [60, 61] (rest s (skip s k1)) = none from (strip_no hk1s hq2).1, (strip_yes hk1s hq3).1]); clear hq0 hq1 hq2 hq3; clear hP; obtain ⟨t, ht⟩ : ∃ t, t = run 32 wdc (blk (rest s P)) := ⟨_, rfl⟩; obtain ⟨K2, hK2⟩ : ∃ K2, K2 = skip s P + t.length := ⟨_, rfl⟩; obtain ⟨e2, he2⟩ : ∃ e2, e2 = (if t = [] then (flt 0 0 5 (skip s P : Int)).1 else 0) := ⟨_, rfl⟩; obtain ⟨a2, ha2⟩ : ∃ a2, a2 = (if t = [] then (flt 0 0 5 (skip s P : Int)).2 else 0) := ⟨_, rfl⟩; have HT := zz ht; have HK2 := zz hK2; have HE2 := zz he2; have HA2 := zz ha2; have HWD : Hid (∀ wx, Prs base wx b s P d ((n : Int) + 1) v L 0 0 → Calls Tryz.prog 145 #[ptr b] wx fun r w' => r = .returned (.string (bs t)) ∧ WdS base wx w' b s K2 d ((n : Int) + 1) v L e2 a2) := zz (fun wx hx => by rw [hK2, he2, ha2, ht]; exact word_any base b s P d ((n : Int) + 1) v L 0 0 wx hx)
   clear ht hK2 he2 ha2; go_upto_region 24 with (first | (go_at_call 116; refine (is_any base b s _ d _ v L 0 0 _ _ HX.o (by decide)).mono ?_; (try rw [Q0]); (try rw [Q1]); (try rw [Q2]); (try rw [Q3]); rintro r wi ⟨rfl, hx, hf⟩; (try rw [M0] at hx); (try rw [M1] at hx); (try rw [M2] at hx); (try rw [M3] at hx); have HX := zz hx; have HOX : Hid (Onb b w wi) := zz (HOX.o.then hf); have HY := zz (HY.o.frp hf HYB.o); clear hx hf) | (go_at_call 145; refine (HWD.o _ HX.o).mono ?_; rintro r wi ⟨rfl, hw⟩; have hx := hw.1; have hf := hw.2; have HX2 := zz hx; have HOX2 : Hid (Onb b w wi) := zz (HOX.o.then hf); have HY2 := zz (HY.o.frp hf HYB.o); obtain ⟨y0, -, y2⟩ := cl3 HY2.o; obtain ⟨yf0, -, yf2⟩ := fz3 HY2.o; clear hx hf hw)); refine at_hide (F := fun w' => Blk w' Y (ndC ⟨2, nm, t, 0, -1, -1⟩) 69 ∧ Prs base w' b s K2 d ((n : Int) + 1) v L e2 a2 ∧ Below base w w') ⟨(HY2.o.set 0 (.int .i64 2)).set 2 (.string (bs t)), (HX2.o.off HYB.o HYV.o 0 _).off HYB.o HYV.o 2 _, ((onb_below HOX2.o H.o.hb HBS.o).setCell (p := ⟨Y, 0, none⟩) HYL.o _).setCell (p := ⟨Y, 2, none⟩) HYL.o _⟩ ?_; intro w8 hF; obtain ⟨f1, f2, f3⟩ := hF; have HY8 := zz f1
   have H8 := zz f2; have HB8 := zz f3; clear f1 f2 f3 y0 y2 yf0 yf2; obtain ⟨y0, y1, y2, y3, y4, y5⟩ := cl6 HY8.o
   by_cases h0 : t = []
   ·have HE3 : Hid (e2 = 5 ∧ a2 = (skip s P : Int)) := zz (by rw [HE2.o, HA2.o, if_pos h0, if_pos h0]; unfold flt; rw [if_pos ⟨rfl, rfl⟩]; exact ⟨rfl, rfl⟩)
    rw [HE3.o.1, HE3.o.2] at H8; have HRR : Hid (leafP s.size ⟨n, L, rest s k⟩ = .error (5, (skip s P : Int))) := zz (by rw [HR.o, HOP.o]; unfold wdE; rw [← HT.o, if_pos h0, (skip_is HSP'.o).2.2.1, pos_rest (skip_is HSP'.o).2.1]); clear h0; go_wp2_with (go_at_call 118; refine (node_bad base b s K2 d _ v L 5 (skip s P : Int) ⟨2, nm, t, 0, -1, -1⟩ _ H8.o (by decide)).mono ?_; rintro r w9 ⟨rfl, h9, hf⟩; have H9 := zz h9; have HB9 : Hid (Below base w w9) := zz (HB8.o.trans (onb_below hf H.o.hb (by have h1 := HBS.o; have h2 := HB8.o.size; omega))); clear h9 hf); go_ret; exact out_err (by exact HRR.o) H9.o HB9.o _
   ·have HE3 : Hid (e2 = 0 ∧ a2 = 0) := zz (by rw [HE2.o, HA2.o, if_neg h0, if_neg h0]; exact ⟨rfl, rfl⟩)
    rw [HE3.o.1, HE3.o.2] at H8; have HRR : Hid (leafP s.size ⟨n, L, rest s k⟩ = .ok (put (n + 1) L (rest s K2) ⟨2, nm, t, 0, -1, -1⟩)) := zz (by rw [HR.o, HOP.o]; unfold wdE; rw [← HT.o, if_neg h0, (skip_is HSP'.o).2.2.1, rest_drop, HK2.o]); clear h0; go_wp2_with (go_at_call 118; refine (node_ok base b s K2 d _ v L ⟨2, nm, t, 0, -1, -1⟩ _ H8.o (by have := HL.o; omega) (by have h1 := HBS.o; have h2 := HB8.o.size; omega)).mono ?_; rintro r w9 ⟨rfl, h9⟩; have H9 := zz h9; clear h9); go_ret; obtain ⟨v', h6, h7, h8⟩ := H9.o; refine out_ok (k' := K2) (n' := n + 1) (by rw [HRR.o]; rfl) (v' := v') (by push_cast; exact h6) ?_; exact HB8.o.trans (h7.below (fun q hq => by rcases hq with rfl | hq; exact H.o.hb; exact own_lo H.o.own hq) (by have h1 := HBS.o; have h2 := HB8.o.size; omega))
  case false =>
  cases hq4 : isB s ⟨#[33]⟩ k1
  case true =>
   have HX : Hid (Prs base w6 b s k1 d ((n : Int) + 1) v L 0 0) := H6; have HOX := HO6; have HY := Y6; have Q0 : isB s ⟨#[33, 61]⟩ k1 = false := hq0; have M0 : isK s ⟨#[33, 61]⟩ k1 = K0 := by rw [HK0.o]; exact (strip_no hk1s hq0).2
   have Q1 : isB s ⟨#[62, 61]⟩ K0 = false := by rw [HK0.o, (isB_skip hk1s).1]; exact hq1
   have M1 : isK s ⟨#[62, 61]⟩ K0 = K0 := by rw [HK0.o, (isB_skip hk1s).2]; exact (strip_no hk1s hq1).2
   have Q2 : isB s ⟨#[60, 61]⟩ K0 = false := by rw [HK0.o, (isB_skip hk1s).1]; exact hq2
   have M2 : isK s ⟨#[60, 61]⟩ K0 = K0 := by rw [HK0.o, (isB_skip hk1s).2]; exact (strip_no hk1s hq2).2
   have Q3 : isB s ⟨#[61]⟩ K0 = false := by rw [HK0.o, (isB_skip hk1s).1]; exact hq3
   have M3 : isK s ⟨#[61]⟩ K0 = K0 := by rw [HK0.o, (isB_skip hk1s).2]; exact (strip_no hk1s hq3).2
   have Q4 : isB s ⟨#[33]⟩ K0 = true := by rw [HK0.o, (isB_skip hk1s).1]; exact hq4
   obtain ⟨P, hP⟩ : ∃ P, P = isK s ⟨#[33]⟩ k1 := ⟨_, rfl⟩; have HP := zz hP; have M4 : isK s ⟨#[33]⟩ K0 = P := by rw [HK0.o, (isB_skip hk1s).2]; exact hP.symm
   have HSP := zz (strip_yes hk1s hq4); have HOP : Hid (opP s.size (n + 1) L nm (rest s K0) = .error (5, (P : Int))) := zz (by rw [HK0.o, HP.o, ← pos_rest (strip_yes hk1s hq4).2]; unfold opP; simp only [show strip [33, 61] (rest s (skip s k1)) = none from (strip_no hk1s hq0).1, show strip [62, 61] (rest s (skip s k1)) = none from (strip_no hk1s hq1).1, show strip [60, 61] (rest s (skip s k1)) = none from (strip_no hk1s hq2).1, show strip [61] (rest s (skip s k1)) = none from (strip_no hk1s hq3).1, (strip_yes hk1s hq4).1]); clear hq0 hq1 hq2 hq3 hq4; clear hP; have c1p : True := trivial; obtain ⟨fe, fa, hfl⟩ : ∃ fe fa, flt 0 0 5 (P : Int) = (fe, fa) := ⟨_, _, rfl⟩; have HFL := zz hfl; clear hfl; go_upto_region 23 with (first | (go_at_call 116; refine (is_any base b s _ d _ v L 0 0 _ _ HX.o (by decide)).mono ?_; (try rw [Q0]); (try rw [Q1]); (try rw [Q2]); (try rw [Q3]); (try rw [Q4]); rintro r wi ⟨rfl, hx, hf⟩; (try rw [M0] at hx); (try rw [M1] at hx); (try rw [M2] at hx); (try rw [M3] at hx); (try rw [M4] at hx); have HX := zz hx; have HOX : Hid (Onb b w wi) := zz (HOX.o.then hf); have HY := zz (HY.o.frp hf HYB.o); clear hx hf)); have c1 := HX.o.c1
   go_upto_region 24 with (go_at_call 88; refine (fails_any base b s P d _ v L 0 0 5 (P : Int) _ HX.o).mono ?_; rw [HFL.o]; rintro r wi ⟨rfl, hx, hf⟩; have HX2 := zz hx; have HOX2 : Hid (Onb b w wi) := zz (HOX.o.then hf); have HY2 := zz (HY.o.frp hf HYB.o); clear hx hf); obtain ⟨y0, y1, y2, y3, y4, y5⟩ := cl6 HY2.o; have HE3 : Hid (fe = 5 ∧ fa = (P : Int)) := zz (by have := HFL.o; unfold flt at this; rw [if_pos ⟨rfl, rfl⟩] at this; cases this; exact ⟨rfl, rfl⟩); rw [HE3.o.1, HE3.o.2] at HX2; go_wp2_with (go_at_call 118; refine (node_bad base b s P d _ v L 5 (P : Int) ⟨6, nm, [], 0, -1, -1⟩ _ HX2.o (by decide)).mono ?_; rintro r w9 ⟨rfl, h9, hf⟩; have H9 := zz h9; have HO9 : Hid (Onb b w w9) := zz (HOX2.o.then hf); clear h9 hf); go_ret; exact out_err (by rw [HR.o, HOP.o]) H9.o (onb_below HO9.o H.o.hb HBS.o) _
  case false =>
  cases hq5 : isB s ⟨#[62]⟩ k1
  case true =>
   have HX : Hid (Prs base w6 b s k1 d ((n : Int) + 1) v L 0 0) := H6; have HOX := HO6; have HY := Y6; have Q0 : isB s ⟨#[33, 61]⟩ k1 = false := hq0; have M0 : isK s ⟨#[33, 61]⟩ k1 = K0 := by rw [HK0.o]; exact (strip_no hk1s hq0).2
   have Q1 : isB s ⟨#[62, 61]⟩ K0 = false := by rw [HK0.o, (isB_skip hk1s).1]; exact hq1
   have M1 : isK s ⟨#[62, 61]⟩ K0 = K0 := by rw [HK0.o, (isB_skip hk1s).2]; exact (strip_no hk1s hq1).2
   have Q2 : isB s ⟨#[60, 61]⟩ K0 = false := by rw [HK0.o, (isB_skip hk1s).1]; exact hq2
   have M2 : isK s ⟨#[60, 61]⟩ K0 = K0 := by rw [HK0.o, (isB_skip hk1s).2]; exact (strip_no hk1s hq2).2
   have Q3 : isB s ⟨#[61]⟩ K0 = false := by rw [HK0.o, (isB_skip hk1s).1]; exact hq3
   have M3 : isK s ⟨#[61]⟩ K0 = K0 := by rw [HK0.o, (isB_skip hk1s).2]; exact (strip_no hk1s hq3).2
   have Q4 : isB s ⟨#[33]⟩ K0 = false := by rw [HK0.o, (isB_skip hk1s).1]; exact hq4
   have M4 : isK s ⟨#[33]⟩ K0 = K0 := by rw [HK0.o, (isB_skip hk1s).2]; exact (strip_no hk1s hq4).2
   have Q5 : isB s ⟨#[62]⟩ K0 = true := by rw [HK0.o, (isB_skip hk1s).1]; exact hq5
   obtain ⟨P, hP⟩ : ∃ P, P = isK s ⟨#[62]⟩ k1 := ⟨_, rfl⟩; have HP := zz hP; have M5 : isK s ⟨#[62]⟩ K0 = P := by rw [HK0.o, (isB_skip hk1s).2]; exact hP.symm
   have HSP := zz (strip_yes hk1s hq5); have HOP : Hid (opP s.size (n + 1) L nm (rest s K0) = .error (5, (P : Int))) := zz (by rw [HK0.o, HP.o, ← pos_rest (strip_yes hk1s hq5).2]; unfold opP; simp only [show strip [33, 61] (rest s (skip s k1)) = none from (strip_no hk1s hq0).1, show strip [62, 61] (rest s (skip s k1)) = none from (strip_no hk1s hq1).1, show strip [60, 61] (rest s (skip s k1)) = none from (strip_no hk1s hq2).1, show strip [61] (rest s (skip s k1)) = none from (strip_no hk1s hq3).1, show strip [33] (rest s (skip s k1)) = none from (strip_no hk1s hq4).1, (strip_yes hk1s hq5).1]); clear hq0 hq1 hq2 hq3 hq4 hq5; clear hP; have c1p : True := trivial; obtain ⟨fe, fa, hfl⟩ : ∃ fe fa, flt 0 0 5 (P : Int) = (fe, fa) := ⟨_, _, rfl⟩; have HFL := zz hfl; clear hfl; go_upto_region 23 with (first | (go_at_call 116; refine (is_any base b s _ d _ v L 0 0 _ _ HX.o (by decide)).mono ?_; (try rw [Q0]); (try rw [Q1]); (try rw [Q2]); (try rw [Q3]); (try rw [Q4]); (try rw [Q5]); rintro r wi ⟨rfl, hx, hf⟩; (try rw [M0] at hx); (try rw [M1] at hx); (try rw [M2] at hx); (try rw [M3] at hx); (try rw [M4] at hx); (try rw [M5] at hx); have HX := zz hx; have HOX : Hid (Onb b w wi) := zz (HOX.o.then hf); have HY := zz (HY.o.frp hf HYB.o); clear hx hf))
   have c1 := HX.o.c1; go_upto_region 24 with (go_at_call 88; refine (fails_any base b s P d _ v L 0 0 5 (P : Int) _ HX.o).mono ?_; rw [HFL.o]; rintro r wi ⟨rfl, hx, hf⟩; have HX2 := zz hx; have HOX2 : Hid (Onb b w wi) := zz (HOX.o.then hf); have HY2 := zz (HY.o.frp hf HYB.o); clear hx hf); obtain ⟨y0, y1, y2, y3, y4, y5⟩ := cl6 HY2.o; have HE3 : Hid (fe = 5 ∧ fa = (P : Int)) := zz (by have := HFL.o; unfold flt at this; rw [if_pos ⟨rfl, rfl⟩] at this; cases this; exact ⟨rfl, rfl⟩); rw [HE3.o.1, HE3.o.2] at HX2; go_wp2_with (go_at_call 118; refine (node_bad base b s P d _ v L 5 (P : Int) ⟨6, nm, [], 0, -1, -1⟩ _ HX2.o (by decide)).mono ?_; rintro r w9 ⟨rfl, h9, hf⟩; have H9 := zz h9; have HO9 : Hid (Onb b w w9) := zz (HOX2.o.then hf); clear h9 hf); go_ret; exact out_err (by rw [HR.o, HOP.o]) H9.o (onb_below HO9.o H.o.hb HBS.o) _
  case false =>
  cases hq6 : isB s ⟨#[60]⟩ k1
  case true =>
   have HX : Hid (Prs base w6 b s k1 d ((n : Int) + 1) v L 0 0) := H6; have HOX := HO6; have HY := Y6; have Q0 : isB s ⟨#[33, 61]⟩ k1 = false := hq0; have M0 : isK s ⟨#[33, 61]⟩ k1 = K0 := by rw [HK0.o]; exact (strip_no hk1s hq0).2
   have Q1 : isB s ⟨#[62, 61]⟩ K0 = false := by rw [HK0.o, (isB_skip hk1s).1]; exact hq1
   have M1 : isK s ⟨#[62, 61]⟩ K0 = K0 := by rw [HK0.o, (isB_skip hk1s).2]; exact (strip_no hk1s hq1).2
   have Q2 : isB s ⟨#[60, 61]⟩ K0 = false := by rw [HK0.o, (isB_skip hk1s).1]; exact hq2
   have M2 : isK s ⟨#[60, 61]⟩ K0 = K0 := by rw [HK0.o, (isB_skip hk1s).2]; exact (strip_no hk1s hq2).2
   have Q3 : isB s ⟨#[61]⟩ K0 = false := by rw [HK0.o, (isB_skip hk1s).1]; exact hq3
   have M3 : isK s ⟨#[61]⟩ K0 = K0 := by rw [HK0.o, (isB_skip hk1s).2]; exact (strip_no hk1s hq3).2
   have Q4 : isB s ⟨#[33]⟩ K0 = false := by rw [HK0.o, (isB_skip hk1s).1]; exact hq4
   have M4 : isK s ⟨#[33]⟩ K0 = K0 := by rw [HK0.o, (isB_skip hk1s).2]; exact (strip_no hk1s hq4).2
   have Q5 : isB s ⟨#[62]⟩ K0 = false := by rw [HK0.o, (isB_skip hk1s).1]; exact hq5
   have M5 : isK s ⟨#[62]⟩ K0 = K0 := by rw [HK0.o, (isB_skip hk1s).2]; exact (strip_no hk1s hq5).2
   have Q6 : isB s ⟨#[60]⟩ K0 = true := by rw [HK0.o, (isB_skip hk1s).1]; exact hq6
   obtain ⟨P, hP⟩ : ∃ P, P = isK s ⟨#[60]⟩ k1 := ⟨_, rfl⟩; have HP := zz hP; have M6 : isK s ⟨#[60]⟩ K0 = P := by rw [HK0.o, (isB_skip hk1s).2]; exact hP.symm
   have HSP := zz (strip_yes hk1s hq6); have HOP : Hid (opP s.size (n + 1) L nm (rest s K0) = .error (5, (P : Int))) := zz (by rw [HK0.o, HP.o, ← pos_rest (strip_yes hk1s hq6).2]; unfold opP; simp only [show strip [33, 61] (rest s (skip s k1)) = none from (strip_no hk1s hq0).1, show strip [62, 61] (rest s (skip s k1)) = none from (strip_no hk1s hq1).1, show strip [60, 61] (rest s (skip s k1)) = none from (strip_no hk1s hq2).1, show strip [61] (rest s (skip s k1)) = none from (strip_no hk1s hq3).1, show strip [33] (rest s (skip s k1)) = none from (strip_no hk1s hq4).1, show strip [62] (rest s (skip s k1)) = none from (strip_no hk1s hq5).1, (strip_yes hk1s hq6).1]); clear hq0 hq1 hq2 hq3 hq4 hq5 hq6; clear hP; have c1p : True := trivial; obtain ⟨fe, fa, hfl⟩ : ∃ fe fa, flt 0 0 5 (P : Int) = (fe, fa) := ⟨_, _, rfl⟩; have HFL := zz hfl; clear hfl; go_upto_region 23 with (first | (go_at_call 116; refine (is_any base b s _ d _ v L 0 0 _ _ HX.o (by decide)).mono ?_; (try rw [Q0]); (try rw [Q1]); (try rw [Q2]); (try rw [Q3]); (try rw [Q4]); (try rw [Q5]); (try rw [Q6]); rintro r wi ⟨rfl, hx, hf⟩; (try rw [M0] at hx); (try rw [M1] at hx); (try rw [M2] at hx); (try rw [M3] at hx); (try rw [M4] at hx); (try rw [M5] at hx); (try rw [M6] at hx); have HX := zz hx; have HOX : Hid (Onb b w wi) := zz (HOX.o.then hf); have HY := zz (HY.o.frp hf HYB.o); clear hx hf))
   have c1 := HX.o.c1; go_upto_region 24 with (go_at_call 88; refine (fails_any base b s P d _ v L 0 0 5 (P : Int) _ HX.o).mono ?_; rw [HFL.o]; rintro r wi ⟨rfl, hx, hf⟩; have HX2 := zz hx; have HOX2 : Hid (Onb b w wi) := zz (HOX.o.then hf); have HY2 := zz (HY.o.frp hf HYB.o); clear hx hf); obtain ⟨y0, y1, y2, y3, y4, y5⟩ := cl6 HY2.o; have HE3 : Hid (fe = 5 ∧ fa = (P : Int)) := zz (by have := HFL.o; unfold flt at this; rw [if_pos ⟨rfl, rfl⟩] at this; cases this; exact ⟨rfl, rfl⟩); rw [HE3.o.1, HE3.o.2] at HX2; go_wp2_with (go_at_call 118; refine (node_bad base b s P d _ v L 5 (P : Int) ⟨6, nm, [], 0, -1, -1⟩ _ HX2.o (by decide)).mono ?_; rintro r w9 ⟨rfl, h9, hf⟩; have H9 := zz h9; have HO9 : Hid (Onb b w w9) := zz (HOX2.o.then hf); clear h9 hf); go_ret; exact out_err (by rw [HR.o, HOP.o]) H9.o (onb_below HO9.o H.o.hb HBS.o) _
  case false =>
  have HX : Hid (Prs base w6 b s k1 d ((n : Int) + 1) v L 0 0) := H6; have HOX := HO6; have HY := Y6; have Q0 : isB s ⟨#[33, 61]⟩ k1 = false := hq0; have M0 : isK s ⟨#[33, 61]⟩ k1 = K0 := by rw [HK0.o]; exact (strip_no hk1s hq0).2
  have Q1 : isB s ⟨#[62, 61]⟩ K0 = false := by rw [HK0.o, (isB_skip hk1s).1]; exact hq1
  have M1 : isK s ⟨#[62, 61]⟩ K0 = K0 := by rw [HK0.o, (isB_skip hk1s).2]; exact (strip_no hk1s hq1).2
  have Q2 : isB s ⟨#[60, 61]⟩ K0 = false := by rw [HK0.o, (isB_skip hk1s).1]; exact hq2
  have M2 : isK s ⟨#[60, 61]⟩ K0 = K0 := by rw [HK0.o, (isB_skip hk1s).2]; exact (strip_no hk1s hq2).2
  have Q3 : isB s ⟨#[61]⟩ K0 = false := by rw [HK0.o, (isB_skip hk1s).1]; exact hq3
  have M3 : isK s ⟨#[61]⟩ K0 = K0 := by rw [HK0.o, (isB_skip hk1s).2]; exact (strip_no hk1s hq3).2
  have Q4 : isB s ⟨#[33]⟩ K0 = false := by rw [HK0.o, (isB_skip hk1s).1]; exact hq4
  have M4 : isK s ⟨#[33]⟩ K0 = K0 := by rw [HK0.o, (isB_skip hk1s).2]; exact (strip_no hk1s hq4).2
  have Q5 : isB s ⟨#[62]⟩ K0 = false := by rw [HK0.o, (isB_skip hk1s).1]; exact hq5
  have M5 : isK s ⟨#[62]⟩ K0 = K0 := by rw [HK0.o, (isB_skip hk1s).2]; exact (strip_no hk1s hq5).2
  have Q6 : isB s ⟨#[60]⟩ K0 = false := by rw [HK0.o, (isB_skip hk1s).1]; exact hq6
  have M6 : isK s ⟨#[60]⟩ K0 = K0 := by rw [HK0.o, (isB_skip hk1s).2]; exact (strip_no hk1s hq6).2
  have HOP : Hid (opP s.size (n + 1) L nm (rest s K0) = .ok (put (n + 1) L (rest s K0) ⟨6, nm, [], 0, -1, -1⟩)) := zz (by rw [HK0.o]; unfold opP; simp only [show strip [33, 61] (rest s (skip s k1)) = none from (strip_no hk1s hq0).1, show strip [62, 61] (rest s (skip s k1)) = none from (strip_no hk1s hq1).1, show strip [60, 61] (rest s (skip s k1)) = none from (strip_no hk1s hq2).1, show strip [61] (rest s (skip s k1)) = none from (strip_no hk1s hq3).1, show strip [33] (rest s (skip s k1)) = none from (strip_no hk1s hq4).1, show strip [62] (rest s (skip s k1)) = none from (strip_no hk1s hq5).1, show strip [60] (rest s (skip s k1)) = none from (strip_no hk1s hq6).1]); clear hq0 hq1 hq2 hq3 hq4 hq5 hq6; go_upto_region 24 with (first | (go_at_call 116; refine (is_any base b s _ d _ v L 0 0 _ _ HX.o (by decide)).mono ?_; (try rw [Q0]); (try rw [Q1]); (try rw [Q2]); (try rw [Q3]); (try rw [Q4]); (try rw [Q5]); (try rw [Q6]); rintro r wi ⟨rfl, hx, hf⟩; (try rw [M0] at hx); (try rw [M1] at hx); (try rw [M2] at hx); (try rw [M3] at hx); (try rw [M4] at hx); (try rw [M5] at hx); (try rw [M6] at hx); have HX := zz hx; have HOX : Hid (Onb b w wi) := zz (HOX.o.then hf); have HY := zz (HY.o.frp hf HYB.o); clear hx hf))
  obtain ⟨y0, y1, y2, y3, y4, y5⟩ := cl6 HY.o; go_wp2_with (go_at_call 118; refine (node_ok base b s K0 d _ v L ⟨6, nm, [], 0, -1, -1⟩ _ HX.o (by have := HL.o; omega) (by have h1 := HBS.o; have h2 := Frp.size HOX.o; omega)).mono ?_; rintro r w9 ⟨rfl, h9⟩; have H9 := zz h9; clear h9); go_ret; obtain ⟨v', h6, h7, h8⟩ := H9.o; refine out_ok (k' := K0) (n' := n + 1) (by rw [HR.o, HOP.o]; rfl) (v' := v') (by push_cast; exact h6) ?_; exact (onb_below HOX.o H.o.hb HBS.o).trans (h7.below (fun q hq => by rcases hq with rfl | hq; exact H.o.hb; exact own_lo H.o.own hq) (by have h1 := HBS.o; have h2 := Frp.size HOX.o; omega))
def ErrB (base : Nat) (w : World) : Prop := ErrV w ∧ ∃ g, Tryz.prog.globalNamed "strconv.ErrSyntax" = some g ∧ g < base
theorem ErrB.below {base : Nat} {w w' : World} (h : ErrB base w) (hb : Below base w w') : ErrB base w' := by
 obtain ⟨⟨tp, p, h⟩, g, hg, hlt⟩ := h; refine ⟨⟨tp, p, ?_⟩, g, hg, hlt⟩
 unfold World.var? at *
 rw [hg] at h ⊢; simp only [Option.bind_some] at h ⊢; rw [hb.block g hlt]; exact h
structure Kp (N m : Nat) (nx : Ps → PR) : Prop where
 len : ∀ n L r i s, nx ⟨n, L, r⟩ = .ok (i, s) → s.r.length ≤ r.length
 cnt : ∀ n L r i s, nx ⟨n, L, r⟩ = .ok (i, s) → s.n ≤ 64 ∧ s.L.length + n = L.length + s.n
 err : ∀ n L r e, r.length < m → r.length ≤ N → nx ⟨n, L, r⟩ = .error e → e.1 ≠ 0
def Rd (base b : Nat) (s : ByteArray) (m F d : Nat) (nx : Ps → PR) : Prop :=
 ∀ (k n : Nat) (v : Value) (L : List Nd) (w : World), Prs base w b s k d n v L 0 0 → n ≤ 64 → L.length ≤ n → s.size - k < m → base ≤ w.heap.size → ErrB base w →
  Calls Tryz.prog F #[ptr b] w fun r w' => Out base w w' b s d (nx ⟨n, L, rest s k⟩) r
def RdE (base b : Nat) (s : ByteArray) (F : Nat) : Prop :=
 ∀ (k : Nat) (d n : Int) (v : Value) (L : List Nd) (e a : Int) (w : World), Prs base w b s k d n v L e a → e ≠ 0 → base ≤ w.heap.size →
  Calls Tryz.prog F #[ptr b] w fun r w' => Out base w w' b s 0 (.error (e, a)) r
def OutS (base : Nat) (w w' : World) (b : Nat) (s : ByteArray) (d : Int) (R : PR) (j : Int) : Prop :=
 match R with
 | .ok q => j = q.1 ∧ (∃ k' v', q.2.r = rest s k' ∧ Prs base w' b s k' d q.2.n v' q.2.L 0 0) ∧ Below base w w'
 | .error e => (∃ k' d' n' v' L', Prs base w' b s k' d' n' v' L' e.1 e.2) ∧ Below base w w'
theorem out_j {base : Nat} {w w' : World} {b : Nat} {s : ByteArray} {d : Int} {R : PR} {r : Ending} (h : Out base w w' b s d R r) : ∃ j : Int, r = .returned (.int .i64 j) ∧ OutS base w w' b s d R j := by
 cases R with
 | ok q => exact ⟨q.1, h.1, rfl, h.2.1, h.2.2⟩
 | error e => obtain ⟨⟨j, hj⟩, h2, h3⟩ := h; exact ⟨j, hj, h2, h3⟩
section
variable {s : ByteArray} {k n m K : Nat} {L : List Nd} {sg : UInt8} {kd : Int} {nx : Ps → PR} {left : Int}
theorem loopP_stop (hk : k ≤ s.size) (h : isB s ⟨#[sg]⟩ k = false) : loopP s.size sg kd nx (K + 1) left ⟨n, L, rest s k⟩ = .ok (left, ⟨n, L, rest s (isK s ⟨#[sg]⟩ k)⟩) := by
 obtain ⟨h1, h2⟩ := (is_facts (p := ⟨#[sg]⟩) hk).2.2 h
 unfold loopP
 rw [show strip [sg] (blk (rest s k)) = none from h1, h2]
theorem loopP_go (hk : k ≤ s.size) (h : isB s ⟨#[sg]⟩ k = true) : loopP s.size sg kd nx (K + 1) left ⟨n, L, rest s k⟩ = if 64 < n + 1 then .error (3, (skip s k : Int)) else
   match nx ⟨n + 1, L, rest s (isK s ⟨#[sg]⟩ k)⟩ with
   | .error e => .error e
   | .ok q => loopP s.size sg kd nx K q.2.L.length ⟨q.2.n, q.2.L ++ [⟨kd, [], [], 0, left, q.1⟩], q.2.r⟩ := by
 have h1 := (is_facts (p := ⟨#[sg]⟩) hk).2.1 h; obtain ⟨-, g2, g3, -, -⟩ := skip_is hk
 conv => lhs; unfold loopP
 rw [show strip [sg] (blk (rest s k)) = some (rest s (isK s ⟨#[sg]⟩ k)) from h1]
 simp only
 rw [g3, pos_rest g2]
 by_cases hh : 64 < n + 1
 ·rw [if_pos hh, if_pos hh]
 ·rw [if_neg hh, if_neg hh]
  cases nx ⟨n + 1, L, rest s (isK s ⟨#[sg]⟩ k)⟩ <;> rfl
theorem isK_far (hk : k ≤ s.size) (h : isB s ⟨#[sg]⟩ k = true) : k < isK s ⟨#[sg]⟩ k ∧ isK s ⟨#[sg]⟩ k ≤ s.size := by
 obtain ⟨g1, -⟩ := is_facts (p := ⟨#[sg]⟩) hk; obtain ⟨g2, -⟩ := skip_is hk; refine ⟨?_, g1⟩
 unfold isK
 rw [h, if_pos rfl]
 show k < skip s k + 1
 omega
end
def PairS (base : Nat) (w wr : World) (b : Nat) (s : ByteArray) (m d : Nat) (sg : UInt8) (kd : Int) (nx : Ps → PR) (R : PR) (j : Int) : Prop :=
 (∃ (K k n : Nat) (v : Value) (L : List Nd), Prs base wr b s k d n v L 0 0 ∧ n ≤ 64 ∧ L.length ≤ n ∧ s.size - k < m ∧ s.size - k < K ∧ loopP s.size sg kd nx K j ⟨n, L, rest s k⟩ = R ∧ Below base w wr) ∨
 (∃ (k : Nat) (d' n' : Int) (v : Value) (L : List Nd) (e a : Int), Prs base wr b s k d' n' v L e a ∧ e ≠ 0 ∧ R = .error (e, a) ∧ Below base w wr)
theorem PairS.start {base : Nat} {w wr : World} {b : Nat} {s : ByteArray} {m d : Nat} {sg : UInt8} {kd : Int} {nx : Ps → PR} {j : Int} {k n : Nat} {L : List Nd} (hk : Kp s.size m nx) (hl : L.length ≤ n) (hm : s.size - k < m)
  (h : OutS base w wr b s d (nx ⟨n, L, rest s k⟩) j) : PairS base w wr b s m d sg kd nx (pairsP s.size sg kd nx ⟨n, L, rest s k⟩) j := by
 unfold pairsP
 cases hx : nx ⟨n, L, rest s k⟩ with
 | error e =>
  rw [hx] at h; obtain ⟨⟨k', d', n', v', L', h1⟩, h2⟩ := h; exact .inr ⟨k', d', n', v', L', e.1, e.2, h1, hk.err _ _ _ e (by rw [rest_len]; omega) (by rw [rest_len]; omega) hx, rfl, h2⟩
 | ok q =>
  rw [hx] at h; obtain ⟨rfl, ⟨k', v', h1, h2⟩, h3⟩ := h; have hq := hk.cnt _ _ _ q.1 q.2 hx; have hl2 := hk.len _ _ _ q.1 q.2 hx; rw [h1, rest_len, rest_len] at hl2; refine .inl ⟨q.2.r.length + 1, k', q.2.n, v', q.2.L, h2, hq.1, by omega, by omega, by rw [h1, rest_len]; omega, ?_, h3⟩
  show loopP _ _ _ _ _ _ _ = loopP _ _ _ _ _ _ q.2
  rw [← h1]
def prM (b N : Nat) (w : World) : Nat := if intOf ((w.cell? ⟨b, 5, none⟩).getD undef) = 0 then 1 + (N - (intOf ((w.cell? ⟨b, 1, none⟩).getD undef)).toNat) else 0
theorem prM_good {base : Nat} {w : World} {b : Nat} {s : ByteArray} {k : Nat} {d n : Int} {v : Value} {L : List Nd} {a : Int} (h : Prs base w b s k d n v L 0 a) : prM b s.size w = 1 + (s.size - k) := by
 unfold prM
 rw [h.c5, h.c1]
 simp [intOf]
theorem prM_bad {base : Nat} {w : World} {b : Nat} {s : ByteArray} {k : Nat} {d n : Int} {v : Value} {L : List Nd} {e a : Int} (h : Prs base w b s k d n v L e a) (he : e ≠ 0) : prM b s.size w = 0 := by
 unfold prM
 rw [h.c5]
 simp [intOf, he]
theorem NodeS.below {base : Nat} {w w' : World} {b : Nat} {s : ByteArray} {k : Nat} {d n d0 n0 : Int} {v : Value} {L L0 : List Nd} {e a : Int} (h : NodeS base w w' b s k d n v L) (h0 : Prs base w b s k d0 n0 v L0 e a) (hb : base ≤ w.heap.size) : Below base w w' := by
 obtain ⟨v', h6, h7, h8⟩ := h; exact h7.below (fun q hq => by rcases hq with rfl | hq; exact h0.hb; exact own_lo h0.own hq) hb
