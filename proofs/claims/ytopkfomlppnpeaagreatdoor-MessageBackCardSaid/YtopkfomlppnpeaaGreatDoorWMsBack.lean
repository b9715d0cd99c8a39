/- WMsBack. -/
import Derived.Test.YtopkfomlppnpeaaGreatDoorMsBrk
import Derived.Test.YtopkfomlppnpeaaGreatDoorMsSameR
namespace Go.Proofs.YtopkfomlppnpeaaGreatDoor.Ms
open Go.RowKit Go.Proofs.YtopkfomlppnpeaaGreatDoor

set_option maxRecDepth 100000 in
set_option maxHeartbeats 8000000 in
theorem messageBack_in (p : Po) (va vb vc : Value) (r : Rp) (vd ve vf : Value) (x : Int) (y : UInt8) (w : World) (hp : PoW w p va vb vc) (hr : RpW w r vd ve vf) (hE : ErrV w) : Calls Tryz.prog 5 #[poV p va vb vc, rpV r vd ve vf, .int .i64 x, .int .u8 (y.toNat : Int)] w fun e w' => e = .returned (.bool true) ∧ Below w.heap.size w w' := by
  obtain ⟨q0, c0, rfl, -⟩ := row_el hp.k
  obtain ⟨n0, hn0⟩ : ∃ n, n = p.K.length := ⟨_, rfl⟩
  obtain ⟨q1, c1, rfl, -⟩ := row_el hp.t
  obtain ⟨n1, hn1⟩ : ∃ n, n = p.T.length := ⟨_, rfl⟩
  obtain ⟨q2, c2, rfl, -⟩ := row_el hp.s
  obtain ⟨n2, hn2⟩ : ∃ n, n = p.P.length := ⟨_, rfl⟩
  obtain ⟨q3, c3, rfl, -⟩ := row_el hr.k
  obtain ⟨n3, hn3⟩ : ∃ n, n = r.H.length := ⟨_, rfl⟩
  obtain ⟨q4, c4, rfl, -⟩ := row_el hr.t
  obtain ⟨n4, hn4⟩ : ∃ n, n = r.F.length := ⟨_, rfl⟩
  obtain ⟨q5, c5, rfl, -⟩ := row_el hr.s
  obtain ⟨n5, hn5⟩ : ∃ n, n = r.R.length := ⟨_, rfl⟩
  have HNN := Lib.hid (And.intro hn0 (And.intro hn1 (And.intro hn2 (And.intro hn3 (And.intro hn4 hn5)))))
  skip
  skip
  have HP : Hid (PoW w p (.slice q0 n0 c0) (.slice q1 n1 c1) (.slice q2 n2 c2)) := Lib.hid (by rw [hn0, hn1, hn2]; exact hp)
  have HR : Hid (RpW w r (.slice q3 n3 c3) (.slice q4 n4 c4) (.slice q5 n5 c5)) := Lib.hid (by rw [hn3, hn4, hn5]; exact hr)
  have HE := Lib.hid hE
  rw [show poV p (.slice q0 p.K.length c0) (.slice q1 p.T.length c1) (.slice q2 p.P.length c2) = .agg #[.int .u64 p.ep, .int .u64 p.sq, .int .u64 p.bo, .int .i64 p.at_, .int .i64 p.le, .slice q0 n0 c0, .slice q1 n1 c1, .slice q2 n2 c2, .int .u64 p.se] from by rw [← hn0, ← hn1, ← hn2], show rpV r (.slice q3 r.H.length c3) (.slice q4 r.F.length c4) (.slice q5 r.R.length c5) = .agg #[.int .u64 r.ep, .int .u64 r.sq, .int .u64 r.bo, .int .i64 r.at_, .slice q3 n3 c3, .slice q4 n4 c4, .slice q5 n5 c5] from by rw [← hn3, ← hn4, ← hn5]]
  obtain ⟨X, hX⟩ : ∃ X, X = w.heap.size := ⟨_, rfl⟩
  obtain ⟨w2, hw2⟩ : ∃ w2, w2 = (w.alloc (.cells #[.int .u64 p.ep, .int .u64 p.sq, .int .u64 p.bo, .int .i64 p.at_, .int .i64 p.le, .slice q0 n0 c0, .slice q1 n1 c1, .slice q2 n2 c2, .int .u64 p.se] 32)).alloc (.cells #[.int .u64 r.ep, .int .u64 r.sq, .int .u64 r.bo, .int .i64 r.at_, .slice q3 n3 c3, .slice q4 n4 c4, .slice q5 n5 c5] 44) := ⟨_, rfl⟩
  have HX : Hid (Blk w2 X [.int .u64 p.ep, .int .u64 p.sq, .int .u64 p.bo, .int .i64 p.at_, .int .i64 p.le, .slice q0 n0 c0, .slice q1 n1 c1, .slice q2 n2 c2, .int .u64 p.se] 32) := Lib.hid (by rw [hw2, hX]; exact (Blk.made w [.int .u64 p.ep, .int .u64 p.sq, .int .u64 p.bo, .int .i64 p.at_, .int .i64 p.le, .slice q0 n0 c0, .slice q1 n1 c1, .slice q2 n2 c2, .int .u64 p.se] _).alloc _)
  have HY : Hid (Blk w2 (X + 1) [.int .u64 r.ep, .int .u64 r.sq, .int .u64 r.bo, .int .i64 r.at_, .slice q3 n3 c3, .slice q4 n4 c4, .slice q5 n5 c5] 44) := Lib.hid (by rw [hw2, hX]; have := Blk.made (w.alloc (.cells #[.int .u64 p.ep, .int .u64 p.sq, .int .u64 p.bo, .int .i64 p.at_, .int .i64 p.le, .slice q0 n0 c0, .slice q1 n1 c1, .slice q2 n2 c2, .int .u64 p.se] 32)) [.int .u64 r.ep, .int .u64 r.sq, .int .u64 r.bo, .int .i64 r.at_, .slice q3 n3 c3, .slice q4 n4 c4, .slice q5 n5 c5] 44; simpa using this)
  have HB : Hid (Below w.heap.size w w2) := Lib.hid (by rw [hw2]; exact below_and (below_alloc _ _) (below_alloc _ _))
  have hs1 : (w.alloc (.cells #[.int .u64 p.ep, .int .u64 p.sq, .int .u64 p.bo, .int .i64 p.at_, .int .i64 p.le, .slice q0 n0 c0, .slice q1 n1 c1, .slice q2 n2 c2, .int .u64 p.se] 32)).heap.size = X + 1 := by rw [hX]; simp
  have HPW := Lib.hid (fun w' (hb : Below w2.heap.size w2 w') => HP.out.below (below_and HB.out hb))
  have HRW := Lib.hid (fun w' (hb : Below w2.heap.size w2 w') => HR.out.below (below_and HB.out hb))
  have HEW := Lib.hid (fun w' (hb : Below w2.heap.size w2 w') => HE.out.below (below_and HB.out hb))
  have HBW := Lib.hid (fun w' (hb : Below w2.heap.size w2 w') => below_and HB.out hb)
  obtain ⟨z, hz⟩ : ∃ z, z = decide (n0 ≤ 300 ∧ n1 ≤ 300 ∧ n2 ≤ 300 ∧ n3 ≤ 300 ∧ n4 ≤ 300 ∧ n5 ≤ 300) := ⟨_, rfl⟩
  have HSM := Lib.hid (fun w' => smallPR_any p r q0 q1 q2 q3 q4 q5 n0 c0 n1 c1 n2 c2 n3 c3 n4 c4 n5 c5 w' z hz)
  clear hp hr hE hn0 hn1 hn2 hn3 hn4 hn5 hz
  go_enter Tryz.func5, Tryz.ntmps5
  go_upto_region 1 with fail
  (try rw [hs1])
  rw [← hw2, ← hX]
  clear hw2 hX hs1
  go_upto_region 3 with (go_at_call 6; refine (lives_any _ (HEW.out w2 (Below.refl _ _))).mono ?_; rintro e w3 ⟨rfl, hb⟩; have HL3 := Lib.hid hb; have x3_0 := (HX.out.kept HL3.out).cell (j := 0) rfl; have x3_1 := (HX.out.kept HL3.out).cell (j := 1) rfl; have x3_2 := (HX.out.kept HL3.out).cell (j := 2) rfl; have x3_3 := (HX.out.kept HL3.out).cell (j := 3) rfl; have x3_4 := (HX.out.kept HL3.out).cell (j := 4) rfl; have x3_5 := (HX.out.kept HL3.out).cell (j := 5) rfl; have x3_6 := (HX.out.kept HL3.out).cell (j := 6) rfl; have x3_7 := (HX.out.kept HL3.out).cell (j := 7) rfl; have x3_8 := (HX.out.kept HL3.out).cell (j := 8) rfl; have y3_0 := (HY.out.kept HL3.out).cell (j := 0) rfl; have y3_1 := (HY.out.kept HL3.out).cell (j := 1) rfl; have y3_2 := (HY.out.kept HL3.out).cell (j := 2) rfl; have y3_3 := (HY.out.kept HL3.out).cell (j := 3) rfl; have y3_4 := (HY.out.kept HL3.out).cell (j := 4) rfl; have y3_5 := (HY.out.kept HL3.out).cell (j := 5) rfl; have y3_6 := (HY.out.kept HL3.out).cell (j := 6) rfl; clear hb)
  cases z
  · go_wp2_with (go_at_call 10; refine (HSM.out _).mono ?_; rintro e w4 ⟨rfl, hb⟩; have HL4 := Lib.hid (below_and HL3.out hb); clear hb)
    go_ret
    exact ⟨rfl, HBW.out _ HL4.out⟩
  go_upto_region 5 with (go_at_call 10; refine (HSM.out _).mono ?_; rintro e w4 ⟨rfl, hb⟩; have HL4 := Lib.hid (below_and HL3.out hb); have x4_0 := (HX.out.kept HL4.out).cell (j := 0) rfl; have x4_1 := (HX.out.kept HL4.out).cell (j := 1) rfl; have x4_2 := (HX.out.kept HL4.out).cell (j := 2) rfl; have x4_3 := (HX.out.kept HL4.out).cell (j := 3) rfl; have x4_4 := (HX.out.kept HL4.out).cell (j := 4) rfl; have x4_5 := (HX.out.kept HL4.out).cell (j := 5) rfl; have x4_6 := (HX.out.kept HL4.out).cell (j := 6) rfl; have x4_7 := (HX.out.kept HL4.out).cell (j := 7) rfl; have x4_8 := (HX.out.kept HL4.out).cell (j := 8) rfl; have y4_0 := (HY.out.kept HL4.out).cell (j := 0) rfl; have y4_1 := (HY.out.kept HL4.out).cell (j := 1) rfl; have y4_2 := (HY.out.kept HL4.out).cell (j := 2) rfl; have y4_3 := (HY.out.kept HL4.out).cell (j := 3) rfl; have y4_4 := (HY.out.kept HL4.out).cell (j := 4) rfl; have y4_5 := (HY.out.kept HL4.out).cell (j := 5) rfl; have y4_6 := (HY.out.kept HL4.out).cell (j := 6) rfl; clear hb)
  clear x3_0 x3_1 x3_2 x3_3 x3_4 x3_5 x3_6 x3_7 x3_8 y3_0 y3_1 y3_2 y3_3 y3_4 y3_5 y3_6
  clear HSM
  cases hcp : checkP p
  · go_upto_region 10 with (go_at_call 7; refine (appendP_no p _ _ _ _ _ (HPW.out _ HL4.out) (HEW.out _ HL4.out) hcp).mono ?_; rintro e w5 ⟨rfl, hb⟩; have HL5 := Lib.hid (below_and HL4.out hb); have y5_0 := (HY.out.kept HL5.out).cell (j := 0) rfl; have y5_1 := (HY.out.kept HL5.out).cell (j := 1) rfl; have y5_2 := (HY.out.kept HL5.out).cell (j := 2) rfl; have y5_3 := (HY.out.kept HL5.out).cell (j := 3) rfl; have y5_4 := (HY.out.kept HL5.out).cell (j := 4) rfl; have y5_5 := (HY.out.kept HL5.out).cell (j := 5) rfl; have y5_6 := (HY.out.kept HL5.out).cell (j := 6) rfl; clear hb)
    clear hcp
    clear x4_0 x4_1 x4_2 x4_3 x4_4 x4_5 x4_6 x4_7 x4_8 y4_0 y4_1 y4_2 y4_3 y4_4 y4_5 y4_6
    cases hcr : checkR r
    · go_wp2_with (go_at_call 17; refine (appendR_no r _ _ _ _ _ (HRW.out _ HL5.out) (HEW.out _ HL5.out) hcr).mono ?_; rintro e w8 ⟨rfl, hb⟩; have HL8 := Lib.hid (below_and HL5.out hb); clear hb)
      go_ret
      exact ⟨rfl, HBW.out _ HL8.out⟩
    have HCR := Lib.hid hcr
    have HRF := Lib.hid (HR.out.fits hcr)
    obtain ⟨lr, hlr⟩ : ∃ l, l = frm 4 (bodyR r) := ⟨_, rfl⟩
    obtain ⟨nr, hnr⟩ : ∃ n, n = lr.length := ⟨_, rfl⟩
    have HBKR : Hid (Brk (fun l => (readR l).2) lr) := Lib.hid (by rw [hlr]; exact brk_R (by have := bodyR_len HRF.out; omega))
    have HRE : Hid (readR lr = (r, 0)) := Lib.hid (by rw [hlr]; exact readR_frm HRF.out HR.out.can hcr)
    have HAR := Lib.hid ((appendR_yes r (.slice none 0 0) _ _ _ [] _ (HRW.out _ HL5.out) (HEW.out _ HL5.out) hcr (rd_nil _) (by simp)).mono (R' := fun e w' => ∃ p8 c8, e = .returned (.tuple #[.slice p8 nr c8, .int .i64 0]) ∧ Rd w' (.slice p8 nr c8) lr ∧ Below w5.heap.size w5 w') fun e w' h9 => by
      obtain ⟨v', h1, h2, h3⟩ := h9
      obtain ⟨p8, c8, rfl⟩ := fresh_slice h2
      rw [List.nil_append, ← hlr, ← hnr] at h1 h2
      exact ⟨p8, c8, h1, h2.rd, h3⟩)
    have HNR : Hid (nr = lr.length) := Lib.hid hnr
    clear hcr hlr hnr
    go_upto_region 13 with (go_at_call 17; refine HAR.out.mono ?_; rintro e w8 ⟨p8, c8, rfl, hrd, hb⟩; have HL8 := Lib.hid (below_and HL5.out hb); have HRD8 := Lib.hid hrd; clear hb hrd)
    clear HAR
    have HRR := Lib.hid ((readR_any _ lr w8 HRD8.out (by have := HBKR.out.hi; omega) (HEW.out _ HL8.out)).mono (R' := fun e w' => ∃ pk ck pt ct ps cs, e = .returned (.tuple #[.agg #[.int .u64 r.ep, .int .u64 r.sq, .int .u64 r.bo, .int .i64 r.at_, .slice pk n3 ck, .slice pt n4 ct, .slice ps n5 cs], .int .i64 0]) ∧ RpW w' r (.slice pk n3 ck) (.slice pt n4 ct) (.slice ps n5 cs) ∧ Below w8.heap.size w8 w') fun e w' h9 => by
      unfold readRF at h9
      rw [HRE.out] at h9
      obtain ⟨h1, -, h3⟩ := h9
      obtain ⟨vk, vt, vs, h4, h5⟩ := h3 rfl
      obtain ⟨pk, ck, rfl, -⟩ := row_el h5.k
      obtain ⟨pt, ct, rfl, -⟩ := row_el h5.t
      obtain ⟨ps, cs, rfl, -⟩ := row_el h5.s
      simp only at h4 h5
      rw [← HNN.out.2.2.2.1, ← HNN.out.2.2.2.2.1, ← HNN.out.2.2.2.2.2] at h4 h5
      exact ⟨pk, ck, pt, ct, ps, cs, h4, h5, h1⟩)
    go_upto_region 14 with (go_at_call 9; refine HRR.out.mono ?_; rintro e w9 ⟨pk, ck, pt, ct, ps, cs, rfl, hq, hb⟩; have HL9 := Lib.hid (below_and HL8.out hb); have HQ9 := Lib.hid hq; have HRD9 := Lib.hid (HRD8.out.below hb); clear hb hq)
    obtain ⟨Z, hZ⟩ : ∃ Z, Z = w9.heap.size := ⟨_, rfl⟩
    obtain ⟨wA, hwA⟩ : ∃ wA, wA = w9.alloc (.cells #[.int .u64 r.ep, .int .u64 r.sq, .int .u64 r.bo, .int .i64 r.at_, .slice pk n3 ck, .slice pt n4 ct, .slice ps n5 cs] 44) := ⟨_, rfl⟩
    have HZA : Hid (Blk wA Z [.int .u64 r.ep, .int .u64 r.sq, .int .u64 r.bo, .int .i64 r.at_, .slice pk n3 ck, .slice pt n4 ct, .slice ps n5 cs] 44) := Lib.hid (by rw [hwA, hZ]; exact Blk.made w9 [.int .u64 r.ep, .int .u64 r.sq, .int .u64 r.bo, .int .i64 r.at_, .slice pk n3 ck, .slice pt n4 ct, .slice ps n5 cs] _)
    have HLA : Hid (Below w2.heap.size w2 wA) := Lib.hid (by rw [hwA]; exact below_and HL9.out (below_alloc _ _))
    have HQA : Hid (RpW wA r (.slice pk n3 ck) (.slice pt n4 ct) (.slice ps n5 cs)) := Lib.hid (by rw [hwA]; exact HQ9.out.below (below_alloc _ _))
    have HRDA : Hid (Rd wA (.slice p8 nr c8) lr) := Lib.hid (by rw [hwA]; exact HRD9.out.below (below_alloc _ _))
    rw [← hwA, ← hZ]
    clear hwA hZ HRR
    have zA_0 := HZA.out.cell (j := 0) rfl
    have zA_1 := HZA.out.cell (j := 1) rfl
    have zA_2 := HZA.out.cell (j := 2) rfl
    have zA_3 := HZA.out.cell (j := 3) rfl
    have zA_4 := HZA.out.cell (j := 4) rfl
    have zA_5 := HZA.out.cell (j := 5) rfl
    have zA_6 := HZA.out.cell (j := 6) rfl
    have y20_0 := (HY.out.kept HLA.out).cell (j := 0) rfl
    have y20_1 := (HY.out.kept HLA.out).cell (j := 1) rfl
    have y20_2 := (HY.out.kept HLA.out).cell (j := 2) rfl
    have y20_3 := (HY.out.kept HLA.out).cell (j := 3) rfl
    have y20_4 := (HY.out.kept HLA.out).cell (j := 4) rfl
    have y20_5 := (HY.out.kept HLA.out).cell (j := 5) rfl
    have y20_6 := (HY.out.kept HLA.out).cell (j := 6) rfl
    go_wp2_with (first | (go_at_call 26; refine (brokenR_any _ lr x y _ HRDB.out HBKR.out (HEW.out _ HLB.out)).mono ?_; rintro e wC ⟨rfl, hb⟩; have HLC := Lib.hid (below_and HLB.out hb); clear hb) | (go_at_call 25; refine (sameR_any r _ _ _ _ _ _ _ HQA.out (HRW.out _ HLA.out) (by have := HRF.out.k.1; omega) (by have := HRF.out.t.1; omega) (by have := HRF.out.s.1; omega)).mono ?_; rintro e wB ⟨rfl, hb⟩; have HLB := Lib.hid (below_and HLA.out hb); have HRDB := Lib.hid (HRDA.out.below hb); clear hb))
    go_ret
    exact ⟨rfl, HBW.out _ HLC.out⟩
  have HPF := Lib.hid (HP.out.fits hcp)
  obtain ⟨lp, hlp⟩ : ∃ l, l = frm 3 (bodyP p) := ⟨_, rfl⟩
  obtain ⟨np, hnp⟩ : ∃ n, n = lp.length := ⟨_, rfl⟩
  have HBKP : Hid (Brk (fun l => (readP l).2) lp) := Lib.hid (by rw [hlp]; exact brk_P (by have := bodyP_len HPF.out; omega))
  have HPE : Hid (readP lp = (p, 0)) := Lib.hid (by rw [hlp]; exact readP_frm HPF.out HP.out.can hcp)
  have HAP := Lib.hid ((appendP_yes p (.slice none 0 0) _ _ _ [] _ (HPW.out _ HL4.out) (HEW.out _ HL4.out) hcp (rd_nil _) (by simp)).mono (R' := fun e w' => ∃ p8 c8, e = .returned (.tuple #[.slice p8 np c8, .int .i64 0]) ∧ Rd w' (.slice p8 np c8) lp ∧ Below w4.heap.size w4 w') fun e w' h9 => by
    obtain ⟨v', h1, h2, h3⟩ := h9
    obtain ⟨p8, c8, rfl⟩ := fresh_slice h2
    rw [List.nil_append, ← hlp, ← hnp] at h1 h2
    exact ⟨p8, c8, h1, h2.rd, h3⟩)
  have HNP : Hid (np = lp.length) := Lib.hid hnp
  clear hcp hlp hnp
  go_upto_region 7 with (go_at_call 7; refine HAP.out.mono ?_; rintro e w5 ⟨p5, d5, rfl, hrd, hb⟩; have HL5 := Lib.hid (below_and HL4.out hb); have HRD5 := Lib.hid hrd; clear hb hrd)
  clear x4_0 x4_1 x4_2 x4_3 x4_4 x4_5 x4_6 x4_7 x4_8 y4_0 y4_1 y4_2 y4_3 y4_4 y4_5 y4_6
  clear HAP
  have HRP := Lib.hid ((readP_any _ lp w5 HRD5.out (by have := HBKP.out.hi; omega) (HEW.out _ HL5.out)).mono (R' := fun e w' => ∃ pk ck pt ct ps cs, e = .returned (.tuple #[.agg #[.int .u64 p.ep, .int .u64 p.sq, .int .u64 p.bo, .int .i64 p.at_, .int .i64 p.le, .slice pk n0 ck, .slice pt n1 ct, .slice ps n2 cs, .int .u64 p.se], .int .i64 0]) ∧ PoW w' p (.slice pk n0 ck) (.slice pt n1 ct) (.slice ps n2 cs) ∧ Below w5.heap.size w5 w') fun e w' h9 => by
    unfold readPF at h9
    rw [HPE.out] at h9
    obtain ⟨h1, -, h3⟩ := h9
    obtain ⟨vk, vt, vs, h4, h5⟩ := h3 rfl
    obtain ⟨pk, ck, rfl, -⟩ := row_el h5.k
    obtain ⟨pt, ct, rfl, -⟩ := row_el h5.t
    obtain ⟨ps, cs, rfl, -⟩ := row_el h5.s
    simp only at h4 h5
    rw [← HNN.out.1, ← HNN.out.2.1, ← HNN.out.2.2.1] at h4 h5
    exact ⟨pk, ck, pt, ct, ps, cs, h4, h5, h1⟩)
  go_upto_region 8 with (go_at_call 19; refine HRP.out.mono ?_; rintro e w6 ⟨pk, ck, pt, ct, ps, cs, rfl, hq, hb⟩; have HL6 := Lib.hid (below_and HL5.out hb); have HQ6 := Lib.hid hq; have HRD6 := Lib.hid (HRD5.out.below hb); clear hb hq)
  obtain ⟨Z, hZ⟩ : ∃ Z, Z = w6.heap.size := ⟨_, rfl⟩
  obtain ⟨w7, hw7⟩ : ∃ w7, w7 = w6.alloc (.cells #[.int .u64 p.ep, .int .u64 p.sq, .int .u64 p.bo, .int .i64 p.at_, .int .i64 p.le, .slice pk n0 ck, .slice pt n1 ct, .slice ps n2 cs, .int .u64 p.se] 32) := ⟨_, rfl⟩
  have HZ7 : Hid (Blk w7 Z [.int .u64 p.ep, .int .u64 p.sq, .int .u64 p.bo, .int .i64 p.at_, .int .i64 p.le, .slice pk n0 ck, .slice pt n1 ct, .slice ps n2 cs, .int .u64 p.se] 32) := Lib.hid (by rw [hw7, hZ]; exact Blk.made w6 [.int .u64 p.ep, .int .u64 p.sq, .int .u64 p.bo, .int .i64 p.at_, .int .i64 p.le, .slice pk n0 ck, .slice pt n1 ct, .slice ps n2 cs, .int .u64 p.se] _)
  have HL7 : Hid (Below w2.heap.size w2 w7) := Lib.hid (by rw [hw7]; exact below_and HL6.out (below_alloc _ _))
  have HQ7 : Hid (PoW w7 p (.slice pk n0 ck) (.slice pt n1 ct) (.slice ps n2 cs)) := Lib.hid (by rw [hw7]; exact HQ6.out.below (below_alloc _ _))
  have HRD7 : Hid (Rd w7 (.slice p5 np d5) lp) := Lib.hid (by rw [hw7]; exact HRD6.out.below (below_alloc _ _))
  rw [← hw7, ← hZ]
  clear hw7 hZ HRP
  have z7_0 := HZ7.out.cell (j := 0) rfl
  have z7_1 := HZ7.out.cell (j := 1) rfl
  have z7_2 := HZ7.out.cell (j := 2) rfl
  have z7_3 := HZ7.out.cell (j := 3) rfl
  have z7_4 := HZ7.out.cell (j := 4) rfl
  have z7_5 := HZ7.out.cell (j := 5) rfl
  have z7_6 := HZ7.out.cell (j := 6) rfl
  have z7_7 := HZ7.out.cell (j := 7) rfl
  have z7_8 := HZ7.out.cell (j := 8) rfl
  have x7_0 := (HX.out.kept HL7.out).cell (j := 0) rfl
  have x7_1 := (HX.out.kept HL7.out).cell (j := 1) rfl
  have x7_2 := (HX.out.kept HL7.out).cell (j := 2) rfl
  have x7_3 := (HX.out.kept HL7.out).cell (j := 3) rfl
  have x7_4 := (HX.out.kept HL7.out).cell (j := 4) rfl
  have x7_5 := (HX.out.kept HL7.out).cell (j := 5) rfl
  have x7_6 := (HX.out.kept HL7.out).cell (j := 6) rfl
  have x7_7 := (HX.out.kept HL7.out).cell (j := 7) rfl
  have x7_8 := (HX.out.kept HL7.out).cell (j := 8) rfl
  go_upto_region 10 with (first | (go_at_call 26; refine (brokenP_any _ lp x y _ HRDE.out HBKP.out (HEW.out _ HLE.out)).mono ?_; rintro e wF ⟨rfl, hb⟩; have HLF := Lib.hid (below_and HLE.out hb); have y5_0 := (HY.out.kept HLF.out).cell (j := 0) rfl; have y5_1 := (HY.out.kept HLF.out).cell (j := 1) rfl; have y5_2 := (HY.out.kept HLF.out).cell (j := 2) rfl; have y5_3 := (HY.out.kept HLF.out).cell (j := 3) rfl; have y5_4 := (HY.out.kept HLF.out).cell (j := 4) rfl; have y5_5 := (HY.out.kept HLF.out).cell (j := 5) rfl; have y5_6 := (HY.out.kept HLF.out).cell (j := 6) rfl; clear hb) | (go_at_call 21; refine (sameP_any p _ _ _ _ _ _ _ HQ7.out (HPW.out _ HL7.out) (by have := HPF.out.k.1; omega) (by have := HPF.out.t.1; omega) (by have := HPF.out.s.1; omega)).mono ?_; rintro e wE ⟨rfl, hb⟩; have HLE := Lib.hid (below_and HL7.out hb); have HRDE := Lib.hid (HRD7.out.below hb); clear hb))
  clear z7_0 x7_0 z7_1 x7_1 z7_2 x7_2 z7_3 x7_3 z7_4 x7_4 z7_5 x7_5 z7_6 x7_6 z7_7 x7_7 z7_8 x7_8
  skip
  cases hcr : checkR r
  · go_wp2_with (go_at_call 17; refine (appendR_no r _ _ _ _ _ (HRW.out _ HLF.out) (HEW.out _ HLF.out) hcr).mono ?_; rintro e w8 ⟨rfl, hb⟩; have HL8 := Lib.hid (below_and HLF.out hb); clear hb)
    go_ret
    exact ⟨rfl, HBW.out _ HL8.out⟩
  have HCR := Lib.hid hcr
  have HRF := Lib.hid (HR.out.fits hcr)
  obtain ⟨lr, hlr⟩ : ∃ l, l = frm 4 (bodyR r) := ⟨_, rfl⟩
  obtain ⟨nr, hnr⟩ : ∃ n, n = lr.length := ⟨_, rfl⟩
  have HBKR : Hid (Brk (fun l => (readR l).2) lr) := Lib.hid (by rw [hlr]; exact brk_R (by have := bodyR_len HRF.out; omega))
  have HRE : Hid (readR lr = (r, 0)) := Lib.hid (by rw [hlr]; exact readR_frm HRF.out HR.out.can hcr)
  have HAR := Lib.hid ((appendR_yes r (.slice none 0 0) _ _ _ [] _ (HRW.out _ HLF.out) (HEW.out _ HLF.out) hcr (rd_nil _) (by simp)).mono (R' := fun e w' => ∃ p8 c8, e = .returned (.tuple #[.slice p8 nr c8, .int .i64 0]) ∧ Rd w' (.slice p8 nr c8) lr ∧ Below wF.heap.size wF w') fun e w' h9 => by
    obtain ⟨v', h1, h2, h3⟩ := h9
    obtain ⟨p8, c8, rfl⟩ := fresh_slice h2
    rw [List.nil_append, ← hlr, ← hnr] at h1 h2
    exact ⟨p8, c8, h1, h2.rd, h3⟩)
  have HNR : Hid (nr = lr.length) := Lib.hid hnr
  clear hcr hlr hnr
  go_upto_region 13 with (go_at_call 17; refine HAR.out.mono ?_; rintro e w8 ⟨p8, c8, rfl, hrd, hb⟩; have HL8 := Lib.hid (below_and HLF.out hb); have HRD8 := Lib.hid hrd; clear hb hrd)
  clear HAR
  have HRR := Lib.hid ((readR_any _ lr w8 HRD8.out (by have := HBKR.out.hi; omega) (HEW.out _ HL8.out)).mono (R' := fun e w' => ∃ pk ck pt ct ps cs, e = .returned (.tuple #[.agg #[.int .u64 r.ep, .int .u64 r.sq, .int .u64 r.bo, .int .i64 r.at_, .slice pk n3 ck, .slice pt n4 ct, .slice ps n5 cs], .int .i64 0]) ∧ RpW w' r (.slice pk n3 ck) (.slice pt n4 ct) (.slice ps n5 cs) ∧ Below w8.heap.size w8 w') fun e w' h9 => by
    unfold readRF at h9
    rw [HRE.out] at h9
    obtain ⟨h1, -, h3⟩ := h9
    obtain ⟨vk, vt, vs, h4, h5⟩ := h3 rfl
    obtain ⟨pk, ck, rfl, -⟩ := row_el h5.k
    obtain ⟨pt, ct, rfl, -⟩ := row_el h5.t
    obtain ⟨ps, cs, rfl, -⟩ := row_el h5.s
    simp only at h4 h5
    rw [← HNN.out.2.2.2.1, ← HNN.out.2.2.2.2.1, ← HNN.out.2.2.2.2.2] at h4 h5
    exact ⟨pk, ck, pt, ct, ps, cs, h4, h5, h1⟩)
  go_upto_region 14 with (go_at_call 9; refine HRR.out.mono ?_; rintro e w9 ⟨pk, ck, pt, ct, ps, cs, rfl, hq, hb⟩; have HL9 := Lib.hid (below_and HL8.out hb); have HQ9 := Lib.hid hq; have HRD9 := Lib.hid (HRD8.out.below hb); clear hb hq)
  obtain ⟨Z, hZ⟩ : ∃ Z, Z = w9.heap.size := ⟨_, rfl⟩
  obtain ⟨wA, hwA⟩ : ∃ wA, wA = w9.alloc (.cells #[.int .u64 r.ep, .int .u64 r.sq, .int .u64 r.bo, .int .i64 r.at_, .slice pk n3 ck, .slice pt n4 ct, .slice ps n5 cs] 44) := ⟨_, rfl⟩
  have HZA : Hid (Blk wA Z [.int .u64 r.ep, .int .u64 r.sq, .int .u64 r.bo, .int .i64 r.at_, .slice pk n3 ck, .slice pt n4 ct, .slice ps n5 cs] 44) := Lib.hid (by rw [hwA, hZ]; exact Blk.made w9 [.int .u64 r.ep, .int .u64 r.sq, .int .u64 r.bo, .int .i64 r.at_, .slice pk n3 ck, .slice pt n4 ct, .slice ps n5 cs] _)
  have HLA : Hid (Below w2.heap.size w2 wA) := Lib.hid (by rw [hwA]; exact below_and HL9.out (below_alloc _ _))
  have HQA : Hid (RpW wA r (.slice pk n3 ck) (.slice pt n4 ct) (.slice ps n5 cs)) := Lib.hid (by rw [hwA]; exact HQ9.out.below (below_alloc _ _))
  have HRDA : Hid (Rd wA (.slice p8 nr c8) lr) := Lib.hid (by rw [hwA]; exact HRD9.out.below (below_alloc _ _))
  rw [← hwA, ← hZ]
  clear hwA hZ HRR
  have zA_0 := HZA.out.cell (j := 0) rfl
  have zA_1 := HZA.out.cell (j := 1) rfl
  have zA_2 := HZA.out.cell (j := 2) rfl
  have zA_3 := HZA.out.cell (j := 3) rfl
  have zA_4 := HZA.out.cell (j := 4) rfl
  have zA_5 := HZA.out.cell (j := 5) rfl
  have zA_6 := HZA.out.cell (j := 6) rfl
  have y20_0 := (HY.out.kept HLA.out).cell (j := 0) rfl
  have y20_1 := (HY.out.kept HLA.out).cell (j := 1) rfl
  have y20_2 := (HY.out.kept HLA.out).cell (j := 2) rfl
  have y20_3 := (HY.out.kept HLA.out).cell (j := 3) rfl
  have y20_4 := (HY.out.kept HLA.out).cell (j := 4) rfl
  have y20_5 := (HY.out.kept HLA.out).cell (j := 5) rfl
  have y20_6 := (HY.out.kept HLA.out).cell (j := 6) rfl
  go_wp2_with (first | (go_at_call 26; refine (brokenR_any _ lr x y _ HRDB.out HBKR.out (HEW.out _ HLB.out)).mono ?_; rintro e wC ⟨rfl, hb⟩; have HLC := Lib.hid (below_and HLB.out hb); clear hb) | (go_at_call 25; refine (sameR_any r _ _ _ _ _ _ _ HQA.out (HRW.out _ HLA.out) (by have := HRF.out.k.1; omega) (by have := HRF.out.t.1; omega) (by have := HRF.out.s.1; omega)).mono ?_; rintro e wB ⟨rfl, hb⟩; have HLB := Lib.hid (below_and HLA.out hb); have HRDB := Lib.hid (HRDA.out.below hb); clear hb))
  go_ret
  exact ⟨rfl, HBW.out _ HLC.out⟩
theorem messageBack_walk (p : Po) (va vb vc : Value) (r : Rp) (vd ve vf : Value) (x y : Int) (w : World) (hp : PoW w p va vb vc) (hr : RpW w r vd ve vf) (_ : (Lit.int .i64 x).wf = true) (hy : (Lit.int .u8 y).wf = true) (hE : ErrV w) : Calls Tryz.prog 5 #[poV p va vb vc, rpV r vd ve vf, .int .i64 x, .int .u8 y] w fun e w' => e = .returned (.bool true) ∧ Below w.heap.size w w' := by
  have h1 : 0 ≤ y ∧ y ≤ 255 := by simpa [Lit.wf, IntKind.min, IntKind.max, IntKind.signed, IntKind.bits] using hy
  obtain ⟨c, rfl⟩ : ∃ c : UInt8, (c.toNat : Int) = y := ⟨UInt8.ofNat y.toNat, by simp; omega⟩
  exact messageBack_in p va vb vc r vd ve vf x c w hp hr hE
end Go.Proofs.YtopkfomlppnpeaaGreatDoor.Ms
