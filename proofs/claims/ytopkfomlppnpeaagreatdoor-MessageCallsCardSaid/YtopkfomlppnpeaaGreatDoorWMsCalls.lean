/- WMsCalls. -/
import Derived.Test.YtopkfomlppnpeaaGreatDoorMUn
import Derived.Test.YtopkfomlppnpeaaGreatDoorMBrk
import Derived.Deep.RegionHeld3
namespace Go.Proofs.YtopkfomlppnpeaaGreatDoor.Ms
open Go.RowKit Go.Proofs.YtopkfomlppnpeaaGreatDoor

set_option maxRecDepth 100000 in
set_option maxHeartbeats 8000000 in
theorem messageCalls_in (p : Po) (va vb vc : Value) (r : Rp) (vd ve vf : Value) (v1 v2 : Value) (la lb : List UInt8) (w : World) (hp : PoW w p va vb vc) (hr : RpW w r vd ve vf) (h1 : Rd w v1 la) (h2 : Rd w v2 lb) (hE : ErrV w) : Calls Tryz.prog 4 #[poV p va vb vc, rpV r vd ve vf, v1, v2] w fun e w' => e = .returned (.bool true) ∧ Below w.heap.size w w' := by
  obtain ⟨ku, hku, hz0, hz1, hz2⟩ := info_parts (show (Tryz.prog.info? 5).map (fun i => (i.zero, i.size, i.bytes)) = some (some (.int .u8 0), 1, 1) from by kernel_rfl)
  obtain ⟨q0, c0, rfl, -⟩ := row_el hp.k
  obtain ⟨n0, hn0⟩ : ∃ n, n = p.K.length := ⟨_, rfl⟩
  obtain ⟨q1, c1, rfl, -⟩ := row_el hp.t
  obtain ⟨n1, hn1⟩ : ∃ n, n = p.T.length := ⟨_, rfl⟩
  obtain ⟨q2, c2, rfl, -⟩ := row_el hp.s
  obtain ⟨n2, hn2⟩ : ∃ n, n = p.P.length := ⟨_, rfl⟩
  obtain ⟨q3, c3, rfl, -⟩ := row_el hr.k
  obtain ⟨n3, hn3⟩ : ∃ n, n = r.H.length := ⟨_, rfl⟩
  obtain ⟨q4, c4, rfl, -⟩ := row_el hr.t
  obtain ⟨n4, hn4⟩ : ∃ n, n = r.F.length := ⟨_, rfl⟩
  obtain ⟨q5, c5, rfl, -⟩ := row_el hr.s
  obtain ⟨n5, hn5⟩ : ∃ n, n = r.R.length := ⟨_, rfl⟩
  have HP : Hid (PoW w p (.slice q0 n0 c0) (.slice q1 n1 c1) (.slice q2 n2 c2)) := Lib.hid (by rw [hn0, hn1, hn2]; exact hp)
  have HR : Hid (RpW w r (.slice q3 n3 c3) (.slice q4 n4 c4) (.slice q5 n5 c5)) := Lib.hid (by rw [hn3, hn4, hn5]; exact hr)
  have HE := Lib.hid hE
  rw [show poV p (.slice q0 p.K.length c0) (.slice q1 p.T.length c1) (.slice q2 p.P.length c2) = .agg #[.int .u64 p.ep, .int .u64 p.sq, .int .u64 p.bo, .int .i64 p.at_, .int .i64 p.le, .slice q0 n0 c0, .slice q1 n1 c1, .slice q2 n2 c2, .int .u64 p.se] from by rw [← hn0, ← hn1, ← hn2], show rpV r (.slice q3 r.H.length c3) (.slice q4 r.F.length c4) (.slice q5 r.R.length c5) = .agg #[.int .u64 r.ep, .int .u64 r.sq, .int .u64 r.bo, .int .i64 r.at_, .slice q3 n3 c3, .slice q4 n4 c4, .slice q5 n5 c5] from by rw [← hn3, ← hn4, ← hn5]]
  obtain ⟨pa, da, rfl⟩ := rd_slice h1
  obtain ⟨pb, db, rfl⟩ := rd_slice h2
  obtain ⟨na, hna⟩ : ∃ n, n = la.length := ⟨_, rfl⟩
  obtain ⟨nb, hnb⟩ : ∃ n, n = lb.length := ⟨_, rfl⟩
  rw [← hna] at h1 ⊢
  rw [← hnb] at h2 ⊢
  obtain ⟨X, hX⟩ : ∃ X, X = w.heap.size := ⟨_, rfl⟩
  obtain ⟨w2, hw2⟩ : ∃ w2, w2 = (w.alloc (.cells #[.int .u64 p.ep, .int .u64 p.sq, .int .u64 p.bo, .int .i64 p.at_, .int .i64 p.le, .slice q0 n0 c0, .slice q1 n1 c1, .slice q2 n2 c2, .int .u64 p.se] 32)).alloc (.cells #[.int .u64 r.ep, .int .u64 r.sq, .int .u64 r.bo, .int .i64 r.at_, .slice q3 n3 c3, .slice q4 n4 c4, .slice q5 n5 c5] 44) := ⟨_, rfl⟩
  have HX : Hid (Blk w2 X [.int .u64 p.ep, .int .u64 p.sq, .int .u64 p.bo, .int .i64 p.at_, .int .i64 p.le, .slice q0 n0 c0, .slice q1 n1 c1, .slice q2 n2 c2, .int .u64 p.se] 32) := Lib.hid (by rw [hw2, hX]; exact (Blk.made w [.int .u64 p.ep, .int .u64 p.sq, .int .u64 p.bo, .int .i64 p.at_, .int .i64 p.le, .slice q0 n0 c0, .slice q1 n1 c1, .slice q2 n2 c2, .int .u64 p.se] _).alloc _)
  have HY : Hid (Blk w2 (X + 1) [.int .u64 r.ep, .int .u64 r.sq, .int .u64 r.bo, .int .i64 r.at_, .slice q3 n3 c3, .slice q4 n4 c4, .slice q5 n5 c5] 44) := Lib.hid (by rw [hw2, hX]; have := Blk.made (w.alloc (.cells #[.int .u64 p.ep, .int .u64 p.sq, .int .u64 p.bo, .int .i64 p.at_, .int .i64 p.le, .slice q0 n0 c0, .slice q1 n1 c1, .slice q2 n2 c2, .int .u64 p.se] 32)) [.int .u64 r.ep, .int .u64 r.sq, .int .u64 r.bo, .int .i64 r.at_, .slice q3 n3 c3, .slice q4 n4 c4, .slice q5 n5 c5] 44; simpa using this)
  have HB : Hid (Below w.heap.size w w2) := Lib.hid (by rw [hw2]; exact below_and (below_alloc _ _) (below_alloc _ _))
  have hs1 : (w.alloc (.cells #[.int .u64 p.ep, .int .u64 p.sq, .int .u64 p.bo, .int .i64 p.at_, .int .i64 p.le, .slice q0 n0 c0, .slice q1 n1 c1, .slice q2 n2 c2, .int .u64 p.se] 32)).heap.size = X + 1 := by rw [hX]; simp
  have HPW := Lib.hid (fun w' (hb : Below w2.heap.size w2 w') => HP.out.below (below_and HB.out hb))
  have HRW := Lib.hid (fun w' (hb : Below w2.heap.size w2 w') => HR.out.below (below_and HB.out hb))
  have HEW := Lib.hid (fun w' (hb : Below w2.heap.size w2 w') => HE.out.below (below_and HB.out hb))
  have HBW := Lib.hid (fun w' (hb : Below w2.heap.size w2 w') => below_and HB.out hb)
  have HRA := Lib.hid (fun w' (hb : Below w2.heap.size w2 w') => h1.below (below_and HB.out hb))
  have HRB := Lib.hid (fun w' (hb : Below w2.heap.size w2 w') => h2.below (below_and HB.out hb))
  have HSA : Hid (∀ w', Below w2.heap.size w2 w' → Src Tryz.prog 1 23 (.slice pa na da) na (la.map B) w') := Lib.hid (fun w' hb => by have h9 := HRA.out w' hb; rw [hna] at h9 ⊢; exact h9.src Tryz.underlying23)
  have HSB : Hid (∀ w', Below w2.heap.size w2 w' → Src Tryz.prog 1 23 (.slice pb nb db) nb (lb.map B) w') := Lib.hid (fun w' hb => by have h9 := HRB.out w' hb; rw [hnb] at h9 ⊢; exact h9.src Tryz.underlying23)
  obtain ⟨z, hz⟩ : ∃ z, z = decide (n0 ≤ 300 ∧ n1 ≤ 300 ∧ n2 ≤ 300 ∧ n3 ≤ 300 ∧ n4 ≤ 300 ∧ n5 ≤ 300) := ⟨_, rfl⟩
  have HSM := Lib.hid (fun w' => smallPR_any p r q0 q1 q2 q3 q4 q5 n0 c0 n1 c1 n2 c2 n3 c3 n4 c4 n5 c5 w' z hz)
  have HNA := Lib.hid hna
  have HNB := Lib.hid hnb
  clear hp hr hE h1 h2 hn0 hn1 hn2 hn3 hn4 hn5 hz hna hnb
  go_enter Tryz.func4, Tryz.ntmps4
  go_upto_region 1 with fail
  (try rw [hs1])
  rw [← hw2, ← hX]
  clear hw2 hX hs1
  go_upto_region 3 with (go_at_call 6; refine (lives_any _ (HEW.out w2 (Below.refl _ _))).mono ?_; rintro e w3 ⟨rfl, hb⟩; have HL3 := Lib.hid hb; have x3_0 := (HX.out.kept HL3.out).cell (j := 0) rfl; have x3_1 := (HX.out.kept HL3.out).cell (j := 1) rfl; have x3_2 := (HX.out.kept HL3.out).cell (j := 2) rfl; have x3_3 := (HX.out.kept HL3.out).cell (j := 3) rfl; have x3_4 := (HX.out.kept HL3.out).cell (j := 4) rfl; have x3_5 := (HX.out.kept HL3.out).cell (j := 5) rfl; have x3_6 := (HX.out.kept HL3.out).cell (j := 6) rfl; have x3_7 := (HX.out.kept HL3.out).cell (j := 7) rfl; have x3_8 := (HX.out.kept HL3.out).cell (j := 8) rfl; have y3_0 := (HY.out.kept HL3.out).cell (j := 0) rfl; have y3_1 := (HY.out.kept HL3.out).cell (j := 1) rfl; have y3_2 := (HY.out.kept HL3.out).cell (j := 2) rfl; have y3_3 := (HY.out.kept HL3.out).cell (j := 3) rfl; have y3_4 := (HY.out.kept HL3.out).cell (j := 4) rfl; have y3_5 := (HY.out.kept HL3.out).cell (j := 5) rfl; have y3_6 := (HY.out.kept HL3.out).cell (j := 6) rfl; clear hb)
  cases z
  · go_wp2_with (go_at_call 10; refine (HSM.out _).mono ?_; rintro e w4 ⟨rfl, hb⟩; have HL4 := Lib.hid (below_and HL3.out hb); clear hb)
    go_ret
    exact ⟨rfl, HBW.out _ HL4.out⟩
  by_cases ga : na ≤ 40000
  rotate_left
  · have t0 : decide ((40000 : Int) < (na : Int)) = true := by simp; omega
    have t1 : decide (40000 < na) = true := by simp; omega
    clear ga
    go_wp2_with (go_at_call 10; refine (HSM.out _).mono ?_; rintro e w4 ⟨rfl, hb⟩; have HL4 := Lib.hid (below_and HL3.out hb); clear hb)
    go_ret
    exact ⟨rfl, HBW.out _ HL4.out⟩
  have ta0 : decide ((40000 : Int) < (na : Int)) = false := by simp; omega
  have ta1 : decide (40000 < na) = false := by simp; omega
  by_cases gb : nb ≤ 40000
  rotate_left
  · have t0 : decide ((40000 : Int) < (nb : Int)) = true := by simp; omega
    have t1 : decide (40000 < nb) = true := by simp; omega
    clear gb
    go_wp2_with (go_at_call 10; refine (HSM.out _).mono ?_; rintro e w4 ⟨rfl, hb⟩; have HL4 := Lib.hid (below_and HL3.out hb); clear hb)
    go_ret
    exact ⟨rfl, HBW.out _ HL4.out⟩
  have tb0 : decide ((40000 : Int) < (nb : Int)) = false := by simp; omega
  have tb1 : decide (40000 < nb) = false := by simp; omega
  have HLA : Hid (la.length ≤ 40000) := Lib.hid (by rw [← HNA.out]; exact ga)
  have HLB : Hid (lb.length ≤ 40000) := Lib.hid (by rw [← HNB.out]; exact gb)
  go_upto_region 5 with (go_at_call 10; refine (HSM.out _).mono ?_; rintro e w4 ⟨rfl, hb⟩; have HL4 := Lib.hid (below_and HL3.out hb); clear hb)
  clear x3_0 x3_1 x3_2 x3_3 x3_4 x3_5 x3_6 x3_7 x3_8 y3_0 y3_1 y3_2 y3_3 y3_4 y3_5 y3_6
  clear HSM HL3 ta0 ta1 tb0 tb1
  obtain ⟨ep, hep⟩ : ∃ x : Int, x = if checkP p then 0 else 2 := ⟨_, rfl⟩
  obtain ⟨er, her⟩ : ∃ x : Int, x = if checkR r then 0 else 2 := ⟨_, rfl⟩
  have px0 := Past.blk (HX.out.kept HL4.out) (j := 0) rfl
  have px1 := Past.blk (HX.out.kept HL4.out) (j := 1) rfl
  have px2 := Past.blk (HX.out.kept HL4.out) (j := 2) rfl
  have px3 := Past.blk (HX.out.kept HL4.out) (j := 3) rfl
  have px4 := Past.blk (HX.out.kept HL4.out) (j := 4) rfl
  have px5 := Past.blk (HX.out.kept HL4.out) (j := 5) rfl
  have px6 := Past.blk (HX.out.kept HL4.out) (j := 6) rfl
  have px7 := Past.blk (HX.out.kept HL4.out) (j := 7) rfl
  have px8 := Past.blk (HX.out.kept HL4.out) (j := 8) rfl
  have py0 := Past.blk (HY.out.kept HL4.out) (j := 0) rfl
  have py1 := Past.blk (HY.out.kept HL4.out) (j := 1) rfl
  have py2 := Past.blk (HY.out.kept HL4.out) (j := 2) rfl
  have py3 := Past.blk (HY.out.kept HL4.out) (j := 3) rfl
  have py4 := Past.blk (HY.out.kept HL4.out) (j := 4) rfl
  have py5 := Past.blk (HY.out.kept HL4.out) (j := 5) rfl
  have py6 := Past.blk (HY.out.kept HL4.out) (j := 6) rfl
  have C1 : Hid (∀ s : Past w4, Calls Tryz.prog 11 #[.agg #[.int .u64 p.ep, .int .u64 p.sq, .int .u64 p.bo, .int .i64 p.at_, .int .i64 p.le, .slice q0 n0 c0, .slice q1 n1 c1, .slice q2 n2 c2, .int .u64 p.se]] s.val fun e w' => e = .returned (.int .i64 ep) ∧ Below s.val.heap.size s.val w') := Lib.hid (fun s => by rw [hep]; exact checkP_any p _ _ _ s.val (HPW.out _ (below_and HL4.out s.h)) (HEW.out _ (below_and HL4.out s.h)))
  have C2 : Hid (∀ s : Past w4, Calls Tryz.prog 12 #[.agg #[.int .u64 p.ep, .int .u64 p.sq, .int .u64 p.bo, .int .i64 p.at_, .int .i64 p.le, .slice q0 n0 c0, .slice q1 n1 c1, .slice q2 n2 c2, .int .u64 p.se]] s.val fun e w' => e = .returned (.int .i64 ep) ∧ Below s.val.heap.size s.val w') := Lib.hid (fun s => by rw [hep]; exact rcheckP_any p _ _ _ s.val (HPW.out _ (below_and HL4.out s.h)))
  have C3 : Hid (∀ s : Past w4, Calls Tryz.prog 13 #[.agg #[.int .u64 r.ep, .int .u64 r.sq, .int .u64 r.bo, .int .i64 r.at_, .slice q3 n3 c3, .slice q4 n4 c4, .slice q5 n5 c5]] s.val fun e w' => e = .returned (.int .i64 er) ∧ Below s.val.heap.size s.val w') := Lib.hid (fun s => by rw [her]; exact checkR_any r _ _ _ s.val (HRW.out _ (below_and HL4.out s.h)) (HEW.out _ (below_and HL4.out s.h)))
  have C4 : Hid (∀ s : Past w4, Calls Tryz.prog 14 #[.agg #[.int .u64 r.ep, .int .u64 r.sq, .int .u64 r.bo, .int .i64 r.at_, .slice q3 n3 c3, .slice q4 n4 c4, .slice q5 n5 c5]] s.val fun e w' => e = .returned (.int .i64 er) ∧ Below s.val.heap.size s.val w') := Lib.hid (fun s => by rw [her]; exact rcheckR_any r _ _ _ s.val (HRW.out _ (below_and HL4.out s.h)))
  have HEP := Lib.hid hep
  have HER := Lib.hid her
  clear hep her
  have bp : (ep != ep) = false := by simp
  have br : (er != er) = false := by simp
  refine wp_region_past (by kernel_rfl) (by kernel_rfl) ?_
  repeat (go_big_quiet_step ((first | (go_at_call 11; exact past_call (C1.out _)) | (go_at_call 12; exact past_call (C2.out _)) | (go_at_call 13; exact past_call (C3.out _)) | (go_at_call 14; exact past_call (C4.out _)))))
  refine wpQuiet_nil ?_
  intro _ hw'
  obtain ⟨s9, hw''⟩ := hw'
  subst hw''
  obtain ⟨w5, h9, e9⟩ : ∃ w9, Below w4.heap.size w4 w9 ∧ w9 = s9.val := ⟨_, s9.h, rfl⟩
  rw [← e9]
  go_upto_region 7 with fail
  have HL5 : Hid (Below w2.heap.size w2 w5) := Lib.hid (below_and HL4.out h9)
  clear h9 e9 C1 C2 C3 C4 HL4 px0 px1 px2 px3 px4 px5 px6 px7 px8 py0 py1 py2 py3 py4 py5 py6
  obtain ⟨lxp, hlx⟩ : ∃ l, l = putP p la := ⟨_, rfl⟩
  obtain ⟨nxp, hnx⟩ : ∃ n, n = lxp.length := ⟨_, rfl⟩
  have HAP : Hid (∀ w' v, Below w2.heap.size w2 w' → Rd w' v la → Calls Tryz.prog 7 #[v, .agg #[.int .u64 p.ep, .int .u64 p.sq, .int .u64 p.bo, .int .i64 p.at_, .int .i64 p.le, .slice q0 n0 c0, .slice q1 n1 c1, .slice q2 n2 c2, .int .u64 p.se]] w' (AnsB lxp nxp ep w')) := Lib.hid (fun w' v hb hv => by rw [hlx]; exact putP_any p v _ _ _ la nxp ep w' (HPW.out _ hb) (HEW.out _ hb) hv (by have := HLA.out; omega) (by rw [hnx, hlx]) HEP.out)
  have HAQ : Hid (∀ w', Below w2.heap.size w2 w' → Calls Tryz.prog 15 #[.slice pa na da, .agg #[.int .u64 p.ep, .int .u64 p.sq, .int .u64 p.bo, .int .i64 p.at_, .int .i64 p.le, .slice q0 n0 c0, .slice q1 n1 c1, .slice q2 n2 c2, .int .u64 p.se]] w' (AnsB lxp nxp ep w')) := Lib.hid (fun w' hb => by rw [hlx]; exact rputP_any p _ _ _ _ la nxp ep w' (HPW.out _ hb) (HRA.out _ hb) (by have := HLA.out; omega) (by rw [hnx, hlx]) HEP.out)
  clear hlx hnx
  have HSS : Hid (∀ w', Below w5.heap.size w5 w' → w'.cell? ⟨X, 0, none⟩ = some (.int .u64 p.ep) ∧ w'.cell? ⟨X, 1, none⟩ = some (.int .u64 p.sq) ∧ w'.cell? ⟨X, 2, none⟩ = some (.int .u64 p.bo) ∧ w'.cell? ⟨X, 3, none⟩ = some (.int .i64 p.at_) ∧ w'.cell? ⟨X, 4, none⟩ = some (.int .i64 p.le) ∧ w'.cell? ⟨X, 5, none⟩ = some (.slice q0 n0 c0) ∧ w'.cell? ⟨X, 6, none⟩ = some (.slice q1 n1 c1) ∧ w'.cell? ⟨X, 7, none⟩ = some (.slice q2 n2 c2) ∧ w'.cell? ⟨X, 8, none⟩ = some (.int .u64 p.se)) := Lib.hid (fun w' hw => ⟨(HX.out.kept (below_and HL5.out hw)).cell (j := 0) rfl, (HX.out.kept (below_and HL5.out hw)).cell (j := 1) rfl, (HX.out.kept (below_and HL5.out hw)).cell (j := 2) rfl, (HX.out.kept (below_and HL5.out hw)).cell (j := 3) rfl, (HX.out.kept (below_and HL5.out hw)).cell (j := 4) rfl, (HX.out.kept (below_and HL5.out hw)).cell (j := 5) rfl, (HX.out.kept (below_and HL5.out hw)).cell (j := 6) rfl, (HX.out.kept (below_and HL5.out hw)).cell (j := 7) rfl, (HX.out.kept (below_and HL5.out hw)).cell (j := 8) rfl⟩)
  have HBZ : Hid (Below w5.heap.size w5 (w5.alloc (.cells #[] 5)).drew) := Lib.hid (below_ad _ _)
  have HOZ : Hid ((w5.alloc (.cells #[] 5)).drew.ownsRow w5.heap.size 5 1 (.slice (some ⟨w5.heap.size, 0, none⟩) 0 0) 0 []) := Lib.hid (own_keep (own_none w5) (below_drewN 1))
  go_region_held3 (fun w' => w'.cell? ⟨X, 0, none⟩ = some (.int .u64 p.ep) ∧ w'.cell? ⟨X, 1, none⟩ = some (.int .u64 p.sq) ∧ w'.cell? ⟨X, 2, none⟩ = some (.int .u64 p.bo) ∧ w'.cell? ⟨X, 3, none⟩ = some (.int .i64 p.at_) ∧ w'.cell? ⟨X, 4, none⟩ = some (.int .i64 p.le) ∧ w'.cell? ⟨X, 5, none⟩ = some (.slice q0 n0 c0) ∧ w'.cell? ⟨X, 6, none⟩ = some (.slice q1 n1 c1) ∧ w'.cell? ⟨X, 7, none⟩ = some (.slice q2 n2 c2) ∧ w'.cell? ⟨X, 8, none⟩ = some (.int .u64 p.se))
    ((refine HSS.out _ ?_ <;> (repeat (first | with_reducible exact HB8p.out | with_reducible exact HB7p.out | with_reducible exact HBZ.out | with_reducible exact Below.refl _ _ | with_reducible apply below_dr))))
    (first
      | (go_at_call 7; refine (HAP.out _ _ (below_and HL5.out HB7p.out) HR7p.out).mono ?_; rintro e w8p ⟨q8p, c8p, rfl, hr, hb⟩; have HR8p := Lib.hid hr; have HB8p := Lib.hid (below_and HB7p.out hb); clear hr hb)
      | (refine step_app rfl (.tmp 50) (.tmp 51) 23 23 rfl w5.heap.size 5 ku (.int .u8 0) 1 1 Tryz.underlying23 hku hz0 hz1 hz2 rfl (.slice (some ⟨w5.heap.size, 0, none⟩) 0 0) 0 [] (by rfl) HOZ.out (.slice pa na da) na (la.map B) (by rfl) (HSA.out _ (below_and HL5.out HBZ.out)) (by unfold maxLen; omega) (by omega) (Below.size HBZ.out) ?_; intro v7 w7p ho7 hg7 _ _; rw [Nat.zero_add, List.nil_append] at ho7; have HB7p : Hid (Below w5.heap.size w5 w7p) := Lib.hid (below_grown HBZ.out (Below.size HBZ.out) HOZ.out hg7); obtain ⟨p7p, c7p, rfl, -, -⟩ := own_slice ho7; have HR7p : Hid (Go.Proofs.YtopkfomlppnpeaaGreatDoor.Rd w7p (.slice p7p na c7p) la) := Lib.hid (by have h9 := ho7; rw [HNA.out] at h9 ⊢; exact Fresh.rd h9); clear ho7 hg7))
  have HL8p := Lib.hid (below_and HL5.out HB8p.out)
  clear HSS HBZ HOZ HB7p HR7p HAP
  have x8_0 := (HX.out.kept HL8p.out).cell (j := 0) rfl
  have x8_1 := (HX.out.kept HL8p.out).cell (j := 1) rfl
  have x8_2 := (HX.out.kept HL8p.out).cell (j := 2) rfl
  have x8_3 := (HX.out.kept HL8p.out).cell (j := 3) rfl
  have x8_4 := (HX.out.kept HL8p.out).cell (j := 4) rfl
  have x8_5 := (HX.out.kept HL8p.out).cell (j := 5) rfl
  have x8_6 := (HX.out.kept HL8p.out).cell (j := 6) rfl
  have x8_7 := (HX.out.kept HL8p.out).cell (j := 7) rfl
  have x8_8 := (HX.out.kept HL8p.out).cell (j := 8) rfl
  go_upto_region 9 with (go_at_call 15; refine (HAQ.out _ HL8p.out).mono ?_; rintro e w9p ⟨q9p, c9p, rfl, hr, hb⟩; have HR9 := Lib.hid hr; have HR8b := Lib.hid (HR8p.out.below hb); have HL9 := Lib.hid (below_and HL8p.out hb); clear hr hb)
  clear x8_0 x8_1 x8_2 x8_3 x8_4 x8_5 x8_6 x8_7 x8_8
  clear HAQ HR8p
  go_upto_region 11 with (go_at_call 16; refine (sb_true _ _ lxp _ HR8b.out HR9.out).mono ?_; rintro e wSp ⟨rfl, hb⟩; have HLSp := Lib.hid (below_and HL9.out hb); clear hb)
  clear HR8b HR9 HL9 HL8p HB8p
  clear HL5
  obtain ⟨lxr, hlx⟩ : ∃ l, l = putR r la := ⟨_, rfl⟩
  obtain ⟨nxr, hnx⟩ : ∃ n, n = lxr.length := ⟨_, rfl⟩
  have HAP : Hid (∀ w' v, Below w2.heap.size w2 w' → Rd w' v la → Calls Tryz.prog 17 #[v, .agg #[.int .u64 r.ep, .int .u64 r.sq, .int .u64 r.bo, .int .i64 r.at_, .slice q3 n3 c3, .slice q4 n4 c4, .slice q5 n5 c5]] w' (AnsB lxr nxr er w')) := Lib.hid (fun w' v hb hv => by rw [hlx]; exact putR_any r v _ _ _ la nxr er w' (HRW.out _ hb) (HEW.out _ hb) hv (by have := HLA.out; omega) (by rw [hnx, hlx]) HER.out)
  have HAQ : Hid (∀ w', Below w2.heap.size w2 w' → Calls Tryz.prog 18 #[.slice pa na da, .agg #[.int .u64 r.ep, .int .u64 r.sq, .int .u64 r.bo, .int .i64 r.at_, .slice q3 n3 c3, .slice q4 n4 c4, .slice q5 n5 c5]] w' (AnsB lxr nxr er w')) := Lib.hid (fun w' hb => by rw [hlx]; exact rputR_any r _ _ _ _ la nxr er w' (HRW.out _ hb) (HRA.out _ hb) (by have := HLA.out; omega) (by rw [hnx, hlx]) HER.out)
  clear hlx hnx
  have HSS : Hid (∀ w', Below wSp.heap.size wSp w' → w'.cell? ⟨X + 1, 0, none⟩ = some (.int .u64 r.ep) ∧ w'.cell? ⟨X + 1, 1, none⟩ = some (.int .u64 r.sq) ∧ w'.cell? ⟨X + 1, 2, none⟩ = some (.int .u64 r.bo) ∧ w'.cell? ⟨X + 1, 3, none⟩ = some (.int .i64 r.at_) ∧ w'.cell? ⟨X + 1, 4, none⟩ = some (.slice q3 n3 c3) ∧ w'.cell? ⟨X + 1, 5, none⟩ = some (.slice q4 n4 c4) ∧ w'.cell? ⟨X + 1, 6, none⟩ = some (.slice q5 n5 c5)) := Lib.hid (fun w' hw => ⟨(HY.out.kept (below_and HLSp.out hw)).cell (j := 0) rfl, (HY.out.kept (below_and HLSp.out hw)).cell (j := 1) rfl, (HY.out.kept (below_and HLSp.out hw)).cell (j := 2) rfl, (HY.out.kept (below_and HLSp.out hw)).cell (j := 3) rfl, (HY.out.kept (below_and HLSp.out hw)).cell (j := 4) rfl, (HY.out.kept (below_and HLSp.out hw)).cell (j := 5) rfl, (HY.out.kept (below_and HLSp.out hw)).cell (j := 6) rfl⟩)
  have HBZ : Hid (Below wSp.heap.size wSp (wSp.alloc (.cells #[] 5)).drew) := Lib.hid (below_ad _ _)
  have HOZ : Hid ((wSp.alloc (.cells #[] 5)).drew.ownsRow wSp.heap.size 5 1 (.slice (some ⟨wSp.heap.size, 0, none⟩) 0 0) 0 []) := Lib.hid (own_keep (own_none wSp) (below_drewN 1))
  go_region_held3 (fun w' => w'.cell? ⟨X + 1, 0, none⟩ = some (.int .u64 r.ep) ∧ w'.cell? ⟨X + 1, 1, none⟩ = some (.int .u64 r.sq) ∧ w'.cell? ⟨X + 1, 2, none⟩ = some (.int .u64 r.bo) ∧ w'.cell? ⟨X + 1, 3, none⟩ = some (.int .i64 r.at_) ∧ w'.cell? ⟨X + 1, 4, none⟩ = some (.slice q3 n3 c3) ∧ w'.cell? ⟨X + 1, 5, none⟩ = some (.slice q4 n4 c4) ∧ w'.cell? ⟨X + 1, 6, none⟩ = some (.slice q5 n5 c5))
    ((refine HSS.out _ ?_ <;> (repeat (first | with_reducible exact HB8r.out | with_reducible exact HB7r.out | with_reducible exact HBZ.out | with_reducible exact Below.refl _ _ | with_reducible apply below_dr))))
    (first
      | (go_at_call 17; refine (HAP.out _ _ (below_and HLSp.out HB7r.out) HR7r.out).mono ?_; rintro e w8r ⟨q8r, c8r, rfl, hr, hb⟩; have HR8r := Lib.hid hr; have HB8r := Lib.hid (below_and HB7r.out hb); clear hr hb)
      | (refine step_app rfl (.tmp 73) (.tmp 74) 23 23 rfl wSp.heap.size 5 ku (.int .u8 0) 1 1 Tryz.underlying23 hku hz0 hz1 hz2 rfl (.slice (some ⟨wSp.heap.size, 0, none⟩) 0 0) 0 [] (by rfl) HOZ.out (.slice pa na da) na (la.map B) (by rfl) (HSA.out _ (below_and HLSp.out HBZ.out)) (by unfold maxLen; omega) (by omega) (Below.size HBZ.out) ?_; intro v7 w7r ho7 hg7 _ _; rw [Nat.zero_add, List.nil_append] at ho7; have HB7r : Hid (Below wSp.heap.size wSp w7r) := Lib.hid (below_grown HBZ.out (Below.size HBZ.out) HOZ.out hg7); obtain ⟨p7r, c7r, rfl, -, -⟩ := own_slice ho7; have HR7r : Hid (Go.Proofs.YtopkfomlppnpeaaGreatDoor.Rd w7r (.slice p7r na c7r) la) := Lib.hid (by have h9 := ho7; rw [HNA.out] at h9 ⊢; exact Fresh.rd h9); clear ho7 hg7))
  have HL8r := Lib.hid (below_and HLSp.out HB8r.out)
  clear HSS HBZ HOZ HB7r HR7r HAP
  have y8_0 := (HY.out.kept HL8r.out).cell (j := 0) rfl
  have y8_1 := (HY.out.kept HL8r.out).cell (j := 1) rfl
  have y8_2 := (HY.out.kept HL8r.out).cell (j := 2) rfl
  have y8_3 := (HY.out.kept HL8r.out).cell (j := 3) rfl
  have y8_4 := (HY.out.kept HL8r.out).cell (j := 4) rfl
  have y8_5 := (HY.out.kept HL8r.out).cell (j := 5) rfl
  have y8_6 := (HY.out.kept HL8r.out).cell (j := 6) rfl
  go_upto_region 13 with (go_at_call 18; refine (HAQ.out _ HL8r.out).mono ?_; rintro e w9r ⟨q9r, c9r, rfl, hr, hb⟩; have HR9 := Lib.hid hr; have HR8b := Lib.hid (HR8r.out.below hb); have HL9 := Lib.hid (below_and HL8r.out hb); clear hr hb)
  clear y8_0 y8_1 y8_2 y8_3 y8_4 y8_5 y8_6
  clear HAQ HR8r
  go_upto_region 15 with (go_at_call 16; refine (sb_true _ _ lxr _ HR8b.out HR9.out).mono ?_; rintro e wSr ⟨rfl, hb⟩; have HLSr := Lib.hid (below_and HL9.out hb); clear hb)
  clear HR8b HR9 HL9 HL8r HB8r
  clear HLSp bp br HRA HSA HLA HPW HRW HP HR HX HY HEP HER
  obtain ⟨p_, hp_⟩ : ∃ x, x = (readP lb).1 := ⟨_, rfl⟩
  obtain ⟨ea, hea⟩ : ∃ x : Int, x = ((readP lb).2 : Nat) := ⟨_, rfl⟩
  obtain ⟨ka0, hk0⟩ : ∃ n, n = p_.K.length := ⟨_, rfl⟩
  obtain ⟨ka1, hk1⟩ : ∃ n, n = p_.T.length := ⟨_, rfl⟩
  obtain ⟨ka2, hk2⟩ : ∃ n, n = p_.P.length := ⟨_, rfl⟩
  have HLN : Hid (p_.K.length ≤ 1000 ∧ p_.T.length ≤ 1000 ∧ p_.P.length ≤ 1000) := Lib.hid (by have h9 := readP_len lb; rw [← hp_] at h9; exact h9)
  have HQ1 : Hid (∀ w' u, Below w2.heap.size w2 w' → Rd w' u lb → Calls Tryz.prog 19 #[u] w' (AnsP p_ ka0 ka1 ka2 ea w')) := Lib.hid (fun w' u hb hu => (readP_any u lb w' hu (by have := HLB.out; omega) (HEW.out _ hb)).mono fun _ _ h9 => ansP_of hp_ hk0 hk1 hk2 hea h9)
  have HQ2 : Hid (∀ w', Below w2.heap.size w2 w' → Calls Tryz.prog 20 #[.slice pb nb db] w' (AnsP p_ ka0 ka1 ka2 ea w')) := Lib.hid (fun w' hb => (rreadP_any _ lb w' (HRB.out _ hb) (by have := HLB.out; omega)).mono fun _ _ h9 => ansP_of hp_ hk0 hk1 hk2 hea h9)
  clear hp_ hea hk0 hk1 hk2
  go_upto_region 16 with (first | (go_at_call 19; refine (HQ1.out _ _ HLba.out HRba.out).mono ?_; rintro e wCa ⟨a10, d10, a11, d11, a12, d12, rfl, hq, hb⟩; have HQa := Lib.hid hq; have HLC := Lib.hid (below_and HLba.out hb); clear hq hb) | (at_builtin; refine wpList_app _ rfl _ _ 23 23 rfl wSr.heap.size 5 ku (.int .u8 0) 1 1 Tryz.underlying23 hku hz0 hz1 hz2 rfl (.slice (some ⟨wSr.heap.size, 0, none⟩) 0 0) 0 [] rfl (own_none wSr) (.slice pb nb db) nb (lb.map B) rfl (HSB.out _ (below_and HLSr.out (below_alloc _ _))) (by unfold maxLen; omega) (by omega) (by simp) ?_; intro v7 wBa ho hg _; rw [Nat.zero_add, List.nil_append] at ho; have HBba : Hid (Below wSr.heap.size wSr wBa) := Lib.hid ((Frp.grown (P := fun _ => False) (Frp.of_below (below_alloc wSr _) _) hg (by intro k hk; right; cases hk; exact Nat.le_refl _)).below (fun k hk => hk.elim) (Nat.le_refl _)); obtain ⟨pBa, cBa, rfl, -, -⟩ := own_slice ho; have HRba : Hid (Go.Proofs.YtopkfomlppnpeaaGreatDoor.Rd wBa (.slice pBa nb cBa) lb) := Lib.hid (by have h9 := ho; rw [HNB.out] at h9 ⊢; exact Fresh.rd h9); have HLba := Lib.hid (below_and HLSr.out HBba.out); clear ho hg))
  clear HBba HRba HLba HQ1
  obtain ⟨Z1a, hZ1⟩ : ∃ Z, Z = wCa.heap.size := ⟨_, rfl⟩
  obtain ⟨wDa, hwD⟩ : ∃ x, x = wCa.alloc (.cells #[.int .u64 p_.ep, .int .u64 p_.sq, .int .u64 p_.bo, .int .i64 p_.at_, .int .i64 p_.le, .slice a10 ka0 d10, .slice a11 ka1 d11, .slice a12 ka2 d12, .int .u64 p_.se] 32) := ⟨_, rfl⟩
  have HZ1 : Hid (Blk wDa Z1a [.int .u64 p_.ep, .int .u64 p_.sq, .int .u64 p_.bo, .int .i64 p_.at_, .int .i64 p_.le, .slice a10 ka0 d10, .slice a11 ka1 d11, .slice a12 ka2 d12, .int .u64 p_.se] 32) := Lib.hid (by rw [hwD, hZ1]; exact Blk.made wCa [.int .u64 p_.ep, .int .u64 p_.sq, .int .u64 p_.bo, .int .i64 p_.at_, .int .i64 p_.le, .slice a10 ka0 d10, .slice a11 ka1 d11, .slice a12 ka2 d12, .int .u64 p_.se] _)
  have HLD : Hid (Below w2.heap.size w2 wDa) := Lib.hid (by rw [hwD]; exact below_and HLC.out (below_alloc _ _))
  have HQb : Hid (PoW wDa p_ (.slice a10 ka0 d10) (.slice a11 ka1 d11) (.slice a12 ka2 d12)) := Lib.hid (by rw [hwD]; exact HQa.out.below (below_alloc _ _))
  rw [← hwD, ← hZ1]
  clear hwD hZ1 HQa HLC
  go_upto_region 17 with (go_at_call 20; refine (HQ2.out _ HLD.out).mono ?_; rintro e wEa ⟨a20, d20, a21, d21, a22, d22, rfl, hq, hb⟩; have HQc := Lib.hid hq; have HZ2 := Lib.hid (HZ1.out.kept hb); have HQd := Lib.hid (HQb.out.below hb); have HLE := Lib.hid (below_and HLD.out hb); clear hq hb)
  clear HQ2 HZ1 HQb HLD
  obtain ⟨Z2a, hZ2⟩ : ∃ Z, Z = wEa.heap.size := ⟨_, rfl⟩
  obtain ⟨wFa, hwF⟩ : ∃ x, x = wEa.alloc (.cells #[.int .u64 p_.ep, .int .u64 p_.sq, .int .u64 p_.bo, .int .i64 p_.at_, .int .i64 p_.le, .slice a20 ka0 d20, .slice a21 ka1 d21, .slice a22 ka2 d22, .int .u64 p_.se] 32) := ⟨_, rfl⟩
  have HZ4 : Hid (Blk wFa Z2a [.int .u64 p_.ep, .int .u64 p_.sq, .int .u64 p_.bo, .int .i64 p_.at_, .int .i64 p_.le, .slice a20 ka0 d20, .slice a21 ka1 d21, .slice a22 ka2 d22, .int .u64 p_.se] 32) := Lib.hid (by rw [hwF, hZ2]; exact Blk.made wEa [.int .u64 p_.ep, .int .u64 p_.sq, .int .u64 p_.bo, .int .i64 p_.at_, .int .i64 p_.le, .slice a20 ka0 d20, .slice a21 ka1 d21, .slice a22 ka2 d22, .int .u64 p_.se] _)
  have HZ3 : Hid (Blk wFa Z1a [.int .u64 p_.ep, .int .u64 p_.sq, .int .u64 p_.bo, .int .i64 p_.at_, .int .i64 p_.le, .slice a10 ka0 d10, .slice a11 ka1 d11, .slice a12 ka2 d12, .int .u64 p_.se] 32) := Lib.hid (by rw [hwF]; exact HZ2.out.alloc _)
  have HLFa : Hid (Below w2.heap.size w2 wFa) := Lib.hid (by rw [hwF]; exact below_and HLE.out (below_alloc _ _))
  have HQe : Hid (PoW wFa p_ (.slice a10 ka0 d10) (.slice a11 ka1 d11) (.slice a12 ka2 d12)) := Lib.hid (by rw [hwF]; exact HQd.out.below (below_alloc _ _))
  have HQf : Hid (PoW wFa p_ (.slice a20 ka0 d20) (.slice a21 ka1 d21) (.slice a22 ka2 d22)) := Lib.hid (by rw [hwF]; exact HQc.out.below (below_alloc _ _))
  rw [← hwF, ← hZ2]
  clear hwF hZ2 HQc HQd HZ2 HLE
  have HSP : Hid (∀ w', Below wFa.heap.size wFa w' → Calls Tryz.prog 21 #[.agg #[.int .u64 p_.ep, .int .u64 p_.sq, .int .u64 p_.bo, .int .i64 p_.at_, .int .i64 p_.le, .slice a10 ka0 d10, .slice a11 ka1 d11, .slice a12 ka2 d12, .int .u64 p_.se], .agg #[.int .u64 p_.ep, .int .u64 p_.sq, .int .u64 p_.bo, .int .i64 p_.at_, .int .i64 p_.le, .slice a20 ka0 d20, .slice a21 ka1 d21, .slice a22 ka2 d22, .int .u64 p_.se]] w' fun e w9 => e = .returned (.bool true) ∧ Below w'.heap.size w' w9) := Lib.hid (fun w' hb => sameP_any p_ _ _ _ _ _ _ w' (HQe.out.below hb) (HQf.out.below hb) HLN.out.1 HLN.out.2.1 HLN.out.2.2)
  clear HQe HQf HLN
  have u0 := HZ3.out.cell (j := 0) rfl
  have u1 := HZ3.out.cell (j := 1) rfl
  have u2 := HZ3.out.cell (j := 2) rfl
  have u3 := HZ3.out.cell (j := 3) rfl
  have u4 := HZ3.out.cell (j := 4) rfl
  have u5 := HZ3.out.cell (j := 5) rfl
  have u6 := HZ3.out.cell (j := 6) rfl
  have u7 := HZ3.out.cell (j := 7) rfl
  have u8 := HZ3.out.cell (j := 8) rfl
  have v0 := HZ4.out.cell (j := 0) rfl
  have v1 := HZ4.out.cell (j := 1) rfl
  have v2 := HZ4.out.cell (j := 2) rfl
  have v3 := HZ4.out.cell (j := 3) rfl
  have v4 := HZ4.out.cell (j := 4) rfl
  have v5 := HZ4.out.cell (j := 5) rfl
  have v6 := HZ4.out.cell (j := 6) rfl
  have v7 := HZ4.out.cell (j := 7) rfl
  have v8 := HZ4.out.cell (j := 8) rfl
  have be : (ea != ea) = false := by simp
  go_upto_region 19 with (go_at_call 21; refine (HSP.out _ (Below.refl _ _)).mono ?_; rintro e wG ⟨rfl, hb⟩; have HLG := Lib.hid (below_and HLFa.out hb); clear hb)
  clear HSP HZ3 HZ4 be HLFa HLSr u0 v0 u1 v1 u2 v2 u3 v3 u4 v4 u5 v5 u6 v6 u7 v7 u8 v8
  obtain ⟨r_, hr_⟩ : ∃ x, x = (readR lb).1 := ⟨_, rfl⟩
  obtain ⟨eb, heb⟩ : ∃ x : Int, x = ((readR lb).2 : Nat) := ⟨_, rfl⟩
  obtain ⟨kb0, hk0⟩ : ∃ n, n = r_.H.length := ⟨_, rfl⟩
  obtain ⟨kb1, hk1⟩ : ∃ n, n = r_.F.length := ⟨_, rfl⟩
  obtain ⟨kb2, hk2⟩ : ∃ n, n = r_.R.length := ⟨_, rfl⟩
  have HLN : Hid (r_.H.length ≤ 1000 ∧ r_.F.length ≤ 1000 ∧ r_.R.length ≤ 1000) := Lib.hid (by have h9 := readR_len lb; rw [← hr_] at h9; exact h9)
  have HQ1 : Hid (∀ w' u, Below w2.heap.size w2 w' → Rd w' u lb → Calls Tryz.prog 9 #[u] w' (AnsR r_ kb0 kb1 kb2 eb w')) := Lib.hid (fun w' u hb hu => (readR_any u lb w' hu (by have := HLB.out; omega) (HEW.out _ hb)).mono fun _ _ h9 => ansR_of hr_ hk0 hk1 hk2 heb h9)
  have HQ2 : Hid (∀ w', Below w2.heap.size w2 w' → Calls Tryz.prog 22 #[.slice pb nb db] w' (AnsR r_ kb0 kb1 kb2 eb w')) := Lib.hid (fun w' hb => (rreadR_any _ lb w' (HRB.out _ hb) (by have := HLB.out; omega)).mono fun _ _ h9 => ansR_of hr_ hk0 hk1 hk2 heb h9)
  clear hr_ heb hk0 hk1 hk2
  go_upto_region 20 with (first | (go_at_call 9; refine (HQ1.out _ _ HLbb.out HRbb.out).mono ?_; rintro e wCb ⟨a10, d10, a11, d11, a12, d12, rfl, hq, hb⟩; have HQa := Lib.hid hq; have HLC := Lib.hid (below_and HLbb.out hb); clear hq hb) | (at_builtin; refine wpList_app _ rfl _ _ 23 23 rfl wG.heap.size 5 ku (.int .u8 0) 1 1 Tryz.underlying23 hku hz0 hz1 hz2 rfl (.slice (some ⟨wG.heap.size, 0, none⟩) 0 0) 0 [] rfl (own_none wG) (.slice pb nb db) nb (lb.map B) rfl (HSB.out _ (below_and HLG.out (below_alloc _ _))) (by unfold maxLen; omega) (by omega) (by simp) ?_; intro v7 wBb ho hg _; rw [Nat.zero_add, List.nil_append] at ho; have HBbb : Hid (Below wG.heap.size wG wBb) := Lib.hid ((Frp.grown (P := fun _ => False) (Frp.of_below (below_alloc wG _) _) hg (by intro k hk; right; cases hk; exact Nat.le_refl _)).below (fun k hk => hk.elim) (Nat.le_refl _)); obtain ⟨pBb, cBb, rfl, -, -⟩ := own_slice ho; have HRbb : Hid (Go.Proofs.YtopkfomlppnpeaaGreatDoor.Rd wBb (.slice pBb nb cBb) lb) := Lib.hid (by have h9 := ho; rw [HNB.out] at h9 ⊢; exact Fresh.rd h9); have HLbb := Lib.hid (below_and HLG.out HBbb.out); clear ho hg))
  clear HBbb HRbb HLbb HQ1
  obtain ⟨Z1b, hZ1⟩ : ∃ Z, Z = wCb.heap.size := ⟨_, rfl⟩
  obtain ⟨wDb, hwD⟩ : ∃ x, x = wCb.alloc (.cells #[.int .u64 r_.ep, .int .u64 r_.sq, .int .u64 r_.bo, .int .i64 r_.at_, .slice a10 kb0 d10, .slice a11 kb1 d11, .slice a12 kb2 d12] 44) := ⟨_, rfl⟩
  have HZ1 : Hid (Blk wDb Z1b [.int .u64 r_.ep, .int .u64 r_.sq, .int .u64 r_.bo, .int .i64 r_.at_, .slice a10 kb0 d10, .slice a11 kb1 d11, .slice a12 kb2 d12] 44) := Lib.hid (by rw [hwD, hZ1]; exact Blk.made wCb [.int .u64 r_.ep, .int .u64 r_.sq, .int .u64 r_.bo, .int .i64 r_.at_, .slice a10 kb0 d10, .slice a11 kb1 d11, .slice a12 kb2 d12] _)
  have HLD : Hid (Below w2.heap.size w2 wDb) := Lib.hid (by rw [hwD]; exact below_and HLC.out (below_alloc _ _))
  have HQb : Hid (RpW wDb r_ (.slice a10 kb0 d10) (.slice a11 kb1 d11) (.slice a12 kb2 d12)) := Lib.hid (by rw [hwD]; exact HQa.out.below (below_alloc _ _))
  rw [← hwD, ← hZ1]
  clear hwD hZ1 HQa HLC
  go_upto_region 21 with (go_at_call 22; refine (HQ2.out _ HLD.out).mono ?_; rintro e wEb ⟨a20, d20, a21, d21, a22, d22, rfl, hq, hb⟩; have HQc := Lib.hid hq; have HZ2 := Lib.hid (HZ1.out.kept hb); have HQd := Lib.hid (HQb.out.below hb); have HLE := Lib.hid (below_and HLD.out hb); clear hq hb)
  clear HQ2 HZ1 HQb HLD
  obtain ⟨Z2b, hZ2⟩ : ∃ Z, Z = wEb.heap.size := ⟨_, rfl⟩
  obtain ⟨wFb, hwF⟩ : ∃ x, x = wEb.alloc (.cells #[.int .u64 r_.ep, .int .u64 r_.sq, .int .u64 r_.bo, .int .i64 r_.at_, .slice a20 kb0 d20, .slice a21 kb1 d21, .slice a22 kb2 d22] 44) := ⟨_, rfl⟩
  have HZ4 : Hid (Blk wFb Z2b [.int .u64 r_.ep, .int .u64 r_.sq, .int .u64 r_.bo, .int .i64 r_.at_, .slice a20 kb0 d20, .slice a21 kb1 d21, .slice a22 kb2 d22] 44) := Lib.hid (by rw [hwF, hZ2]; exact Blk.made wEb [.int .u64 r_.ep, .int .u64 r_.sq, .int .u64 r_.bo, .int .i64 r_.at_, .slice a20 kb0 d20, .slice a21 kb1 d21, .slice a22 kb2 d22] _)
  have HZ3 : Hid (Blk wFb Z1b [.int .u64 r_.ep, .int .u64 r_.sq, .int .u64 r_.bo, .int .i64 r_.at_, .slice a10 kb0 d10, .slice a11 kb1 d11, .slice a12 kb2 d12] 44) := Lib.hid (by rw [hwF]; exact HZ2.out.alloc _)
  have HLFb : Hid (Below w2.heap.size w2 wFb) := Lib.hid (by rw [hwF]; exact below_and HLE.out (below_alloc _ _))
  have HQe : Hid (RpW wFb r_ (.slice a10 kb0 d10) (.slice a11 kb1 d11) (.slice a12 kb2 d12)) := Lib.hid (by rw [hwF]; exact HQd.out.below (below_alloc _ _))
  have HQf : Hid (RpW wFb r_ (.slice a20 kb0 d20) (.slice a21 kb1 d21) (.slice a22 kb2 d22)) := Lib.hid (by rw [hwF]; exact HQc.out.below (below_alloc _ _))
  rw [← hwF, ← hZ2]
  clear hwF hZ2 HQc HQd HZ2 HLE
  have HSP : Hid (∀ w', Below wFb.heap.size wFb w' → Calls Tryz.prog 25 #[.agg #[.int .u64 r_.ep, .int .u64 r_.sq, .int .u64 r_.bo, .int .i64 r_.at_, .slice a10 kb0 d10, .slice a11 kb1 d11, .slice a12 kb2 d12], .agg #[.int .u64 r_.ep, .int .u64 r_.sq, .int .u64 r_.bo, .int .i64 r_.at_, .slice a20 kb0 d20, .slice a21 kb1 d21, .slice a22 kb2 d22]] w' fun e w9 => e = .returned (.bool true) ∧ Below w'.heap.size w' w9) := Lib.hid (fun w' hb => sameR_any r_ _ _ _ _ _ _ w' (HQe.out.below hb) (HQf.out.below hb) HLN.out.1 HLN.out.2.1 HLN.out.2.2)
  clear HQe HQf HLN
  obtain ⟨kk, hkk⟩ : ∃ x : Int, x = ((opn lb [3, 4]).1.toNat : Nat) := ⟨_, rfl⟩
  obtain ⟨ek, hek⟩ : ∃ x : Int, x = ((opn lb [3, 4]).2.2 : Nat) := ⟨_, rfl⟩
  have HK1 : Hid (∀ w' u, Rd w' u lb → Calls Tryz.prog 23 #[u] w' fun e w9 => e = .returned (.tuple #[.int .u8 kk, .int .i64 ek]) ∧ Below w'.heap.size w' w9) := Lib.hid (fun w' u hu => by rw [hkk, hek]; exact kind_any u lb w' hu (by have := HLB.out; omega))
  have HK2 : Hid (∀ w', Below w2.heap.size w2 w' → Calls Tryz.prog 24 #[.slice pb nb db] w' fun e w9 => e = .returned (.tuple #[.int .u8 kk, .int .i64 ek]) ∧ Below w'.heap.size w' w9) := Lib.hid (fun w' hb => by rw [hkk, hek]; exact rkind_any _ lb w' (HRB.out _ hb) (by have := HLB.out; omega))
  clear hkk hek
  go_upto_region 22 with (first | (go_at_call 23; refine (HK1.out _ _ HRbc.out).mono ?_; rintro e wH ⟨rfl, hb⟩; have HLH := Lib.hid (below_and HLbc.out hb); have HFH := Lib.hid (below_and HBbc.out hb); clear hb) | (at_builtin; refine wpList_app _ rfl _ _ 23 23 rfl wFb.heap.size 5 ku (.int .u8 0) 1 1 Tryz.underlying23 hku hz0 hz1 hz2 rfl (.slice (some ⟨wFb.heap.size, 0, none⟩) 0 0) 0 [] rfl (own_none wFb) (.slice pb nb db) nb (lb.map B) rfl (HSB.out _ (below_and HLFb.out (below_alloc _ _))) (by unfold maxLen; omega) (by omega) (by simp) ?_; intro v7 wBc ho hg _; rw [Nat.zero_add, List.nil_append] at ho; have HBbc : Hid (Below wFb.heap.size wFb wBc) := Lib.hid ((Frp.grown (P := fun _ => False) (Frp.of_below (below_alloc wFb _) _) hg (by intro k hk; right; cases hk; exact Nat.le_refl _)).below (fun k hk => hk.elim) (Nat.le_refl _)); obtain ⟨pBc, cBc, rfl, -, -⟩ := own_slice ho; have HRbc : Hid (Go.Proofs.YtopkfomlppnpeaaGreatDoor.Rd wBc (.slice pBc nb cBc) lb) := Lib.hid (by have h9 := ho; rw [HNB.out] at h9 ⊢; exact Fresh.rd h9); have HLbc := Lib.hid (below_and HLFb.out HBbc.out); clear ho hg))
  clear HBbc HRbc HLbc HK1
  go_upto_region 23 with (go_at_call 24; refine (HK2.out _ HLH.out).mono ?_; rintro e wI ⟨rfl, hb⟩; have HLI := Lib.hid (below_and HLH.out hb); have HFI := Lib.hid (below_and HFH.out hb); clear hb)
  clear HK2 HLH HFH
  have u0 := (HZ3.out.kept HFI.out).cell (j := 0) rfl
  have u1 := (HZ3.out.kept HFI.out).cell (j := 1) rfl
  have u2 := (HZ3.out.kept HFI.out).cell (j := 2) rfl
  have u3 := (HZ3.out.kept HFI.out).cell (j := 3) rfl
  have u4 := (HZ3.out.kept HFI.out).cell (j := 4) rfl
  have u5 := (HZ3.out.kept HFI.out).cell (j := 5) rfl
  have u6 := (HZ3.out.kept HFI.out).cell (j := 6) rfl
  have v0 := (HZ4.out.kept HFI.out).cell (j := 0) rfl
  have v1 := (HZ4.out.kept HFI.out).cell (j := 1) rfl
  have v2 := (HZ4.out.kept HFI.out).cell (j := 2) rfl
  have v3 := (HZ4.out.kept HFI.out).cell (j := 3) rfl
  have v4 := (HZ4.out.kept HFI.out).cell (j := 4) rfl
  have v5 := (HZ4.out.kept HFI.out).cell (j := 5) rfl
  have v6 := (HZ4.out.kept HFI.out).cell (j := 6) rfl
  have be : (eb == eb) = true := by simp
  have bk : (kk == kk) = true := by simp
  have bl_ : (ek == ek) = true := by simp
  go_wp2_with (go_at_call 25; refine (HSP.out _ HFI.out).mono ?_; rintro e wG2 ⟨rfl, hb⟩; have HLG2 := Lib.hid (below_and HLI.out hb); clear hb)
  go_ret
  exact ⟨rfl, HBW.out _ HLG2.out⟩
theorem messageCalls_walk (p : Po) (va vb vc : Value) (r : Rp) (vd ve vf : Value) (v1 : Value) (la : List UInt8) (v2 : Value) (lb : List UInt8) (w : World) (hp : PoW w p va vb vc) (hr : RpW w r vd ve vf) (h1 : Rd w v1 la) (_ : la.length ≤ 140737488351232) (h2 : Rd w v2 lb) (_ : lb.length ≤ 140737488351232) (hE : ErrV w) : Calls Tryz.prog 4 #[poV p va vb vc, rpV r vd ve vf, v1, v2] w fun e w' => e = .returned (.bool true) ∧ Below w.heap.size w w' := messageCalls_in p va vb vc r vd ve vf v1 v2 la lb w hp hr h1 h2 hE
end Go.Proofs.YtopkfomlppnpeaaGreatDoor.Ms
