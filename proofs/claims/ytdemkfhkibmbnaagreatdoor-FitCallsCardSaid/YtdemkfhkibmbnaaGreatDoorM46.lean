/- FdFit, FtLend0, FdLend, FdSame. -/
import Derived.Test.YtdemkfhkibmbnaaGreatDoorM45
set_option maxRecDepth 100000
set_option maxHeartbeats 8000000
namespace Go.Proofs.YtdemkfhkibmbnaaGreatDoor.Ft
open Go.RowKit Go.Proofs.YtdemkfhkibmbnaaGreatDoor Go.Proofs.YtdemkfhkibmbnaaGreatDoor.Ru
def envB (N : Ne) (u : Us) : Bool := u.e && u.n == [] && u.j == N.n
theorem env_take {N : Ne} {V : Vw} {k : Nat} (hk : k < V.us.length) (s : Int × List UInt8 × Int) : ((V.us.take (k + 1)).filter (envB N)).foldl (stepF N V) s = if envB N V.us[k] = true then stepF N V (((V.us.take k).filter (envB N)).foldl (stepF N V) s) V.us[k] else ((V.us.take k).filter (envB N)).foldl (stepF N V) s := by
 rw [List.take_succ_eq_append_getElem hk, List.filter_append, List.foldl_append]; cases h : envB N V.us[k] <;> simp [h]
theorem fine_n {V : Vw} (h : viewR V = 0) {u : Us} (hu : u ∈ V.us) (he : u.e = true) : u.n = [] := by
 have hc : checkV V = true := by unfold viewR at h; split at h; assumption; cases h
 have := (chk_iff.1 hc).fine u hu
 unfold fineP at this
 simp only [Bool.and_eq_true, Bool.not_eq_true', Bool.and_eq_false_iff, Bool.not_eq_false', decide_eq_true_eq, beq_iff_eq] at this; rcases this.1.1.1.2 with h9 | h9
 ·rw [he] at h9; cases h9
 ·exact h9
theorem denv_self {l : List Us} {u : Us} (hu : u ∈ l) (he : u.e = true) : (denv l (nmU u)).isSome = true := by
 unfold denv
 rw [List.find?_isSome]; exact ⟨u, hu, by simp [he]⟩
theorem dfit_any (N : Ne) (V : Vw) (vl va vu : Value) (w : World) (hn : Nds w N vl) (hnb : NeB N) (hv : Vws w V va vu) (hb : VwB V) : Calls Tryz.prog 16 #[neV N vl, vwV V va vu] w fun r w' => r = .returned (.tuple #[.int .i64 (fitP N V).1, .string (bs (fitP N V).2.1), .int .i64 (fitP N V).2.2]) ∧ Below w.heap.size w w' := by
 have HN := zz hn; obtain ⟨pl, cl, rfl⟩ := hn.slice; have HV := zz hv; obtain ⟨⟨pa, ca, rfl⟩, pu, cu, rfl⟩ := hv.slices; have hn60 : (V.us.length : Int) ≤ 1000 := by have := hb.n; omega
 have HB_ := zz hb; clear hv hb; have HFI := zz (fit_is N V); obtain ⟨FP, hFP⟩ : ∃ q, q = fitP N V := ⟨_, rfl⟩; rw [← hFP]; obtain ⟨nr, hnr⟩ : ∃ q, q = needR N := ⟨_, rfl⟩; obtain ⟨vr, hvr⟩ : ∃ q, q = viewR V := ⟨_, rfl⟩; obtain ⟨hd, hhd⟩ : ∃ q, q = holdsR N.L V.at' := ⟨_, rfl⟩; obtain ⟨nz, hnz⟩ : ∃ q, q = decide (N.n = []) := ⟨_, rfl⟩; have HFR : Hid (FP = if nr = 0 then (if vr = 0 then (if (V.up && hd.1) = true then (if nz = true then (atP N V [], [], 0) else ((bestP N V).1, (bestP N V).2.1, 0)) else (0, [], 0)) else (0, [], 2)) else (0, [], 2)) := zz (by rw [hFP, hnr, hvr, hhd, HFI.o, hnz]; simp only [decide_eq_true_eq]); have HVO : Hid (vr = 0 ∨ vr = 2) := zz (by rw [hvr]; exact view_or V); have HNO : Hid (nr = 0 ∨ nr = 2) := zz (by rw [hnr]; exact need_or N); have HCN : Hid (∀ wx, Below w.heap.size w wx → Calls Tryz.prog 10 #[neV N (.slice pl N.L.length cl)] wx fun r w' => r = .returned (.int .i64 nr) ∧ Below wx.heap.size wx w') := zz (fun wx hb => by rw [hnr]; exact dcheckNeed_any N _ wx (HN.o.below hb) hnb); have HCV : Hid (∀ wx, Below w.heap.size w wx → Calls Tryz.prog 8 #[vwV V (.slice pa V.at'.length ca) (.slice pu V.us.length cu)] wx fun r w' => r = .returned (.int .i64 vr) ∧ Below wx.heap.size wx w') := zz (fun wx hb => by rw [hvr]; exact dcheckView_any V _ _ wx (HV.o.below hb) HB_.o)
 have HHO : Hid (∀ wx, Below w.heap.size w wx → Calls Tryz.prog 48 #[.agg #[.slice pl N.L.length cl], .slice pa V.at'.length ca] wx fun r w' => r = .returned (.tuple #[.bool hd.1, .int .i64 hd.2]) ∧ Below wx.heap.size wx w') := zz (fun wx hb => by rw [hhd]; exact dholds_any _ _ N.L V.at' wx (HN.o.below hb) (HV.o.at'.below hb) hnb.L HB_.o.at'); have HPL : Hid (nr = 0 → vr = 0 → ∀ p, (p = [] ∨ (denv V.us p).isSome = true) → ∀ wx, Below w.heap.size w wx → Calls Tryz.prog 49 #[neV N (.slice pl N.L.length cl), vwV V (.slice pa V.at'.length ca) (.slice pu V.us.length cu), .string (bs p)] wx fun r w' => r = .returned (.int .i64 (atP N V p)) ∧ Below wx.heap.size wx w') := zz (fun h1 h2 p hp wx hb => dplace_any N V _ _ _ p wx (HN.o.below hb) hnb (HV.o.below hb) HB_.o (by rw [← hnr]; exact h1) (by rw [← hvr]; exact h2) hp); have HNM : Hid (∀ u ∈ V.us, ∀ wx, Calls Tryz.prog 29 #[.agg #[.string (bs u.j), .int .i64 u.i]] wx fun e w2 => e = .returned (.string (bs (nmU u))) ∧ Below wx.heap.size wx w2) := zz (fun u hu wx => dnm_any u.j u.i wx (HB_.o.us u hu)); have HFN : Hid (vr = 0 → ∀ u ∈ V.us, u.e = true → u.n = []) := zz (fun h u hu he => fine_n (by rw [← hvr]; exact h) hu he)
 have hem := bs_nil0 N.n; rw [← hnz] at hem; clear hFP hnr hvr hhd hnz HFI hn hnb; obtain ⟨h1, h2⟩ := hd; simp only at HFR HHO; go_enter Tryz.func16, Tryz.ntmps16; go_upto_region 1 with fail; obtain ⟨X, hX⟩ : ∃ q, q = w.heap.size := ⟨_, rfl⟩; refine at_hide (F := fun w' => Blk w' X (neC N (.slice pl N.L.length cl)) 28 ∧ Blk w' (X + 1) (vwC V (.slice pa V.at'.length ca) (.slice pu V.us.length cu)) 32 ∧ Below w.heap.size w w') ⟨by rw [hX]; exact (two_blk w (neC N (.slice pl N.L.length cl)) (vwC V (.slice pa V.at'.length ca) (.slice pu V.us.length cu)) _ _).1, by rw [hX]; exact (two_blk w (neC N (.slice pl N.L.length cl)) (vwC V (.slice pa V.at'.length ca) (.slice pu V.us.length cu)) _ _).2.1, (two_blk w (neC N (.slice pl N.L.length cl)) (vwC V (.slice pa V.at'.length ca) (.slice pu V.us.length cu)) _ _).2.2⟩ ?_; rw [← hX]; intro w1 hF; have HX1 := zz hF.1; have HY1 := zz hF.2.1; have HB1 : Hid (Below w.heap.size w w1) := zz (by have := hF.2.2; rw [hX] at this; exact this); have HXW : Hid (w.heap.size ≤ X) := zz (by omega); clear hF hX; obtain ⟨n0, n1, n2, n3, n4, n5, n6, n7⟩ := cl8 HX1.o; rcases HNO.o with rfl | rfl
 rotate_left
 ·
  have HR : Hid (FP = (0, [], 2)) := zz (by have h := HFR.o; simp at h; exact h); go_wp2_with (go_at_call 10; refine (HCN.o _ HB1.o).mono ?_; rintro r w2 ⟨rfl, hb⟩; have HB2 := zz (below_and HB1.o hb); have HX2 := zz (HX1.o.kept hb); have HY2 := zz (HY1.o.kept hb); clear hb n0 n1 n2 n3 n4 n5 n6 n7; obtain ⟨n0, n1, n2, n3, n4, n5, n6, n7⟩ := cl8 HX2.o; obtain ⟨c0, c1, c2, c3, c4, c5, c6, c7⟩ := cl8 HY2.o); go_ret3; exact ⟨by rw [HR.o]; rfl, HB2.o⟩
 rcases HVO.o with rfl | rfl; rotate_left
 ·
  have HR : Hid (FP = (0, [], 2)) := zz (by have h := HFR.o; simp at h; exact h); go_wp2_with (first | (go_at_call 10; refine (HCN.o _ HB1.o).mono ?_; rintro r w2 ⟨rfl, hb⟩; have HB2 := zz (below_and HB1.o hb); have HX2 := zz (HX1.o.kept hb); have HY2 := zz (HY1.o.kept hb); clear hb n0 n1 n2 n3 n4 n5 n6 n7; obtain ⟨n0, n1, n2, n3, n4, n5, n6, n7⟩ := cl8 HX2.o; obtain ⟨c0, c1, c2, c3, c4, c5, c6, c7⟩ := cl8 HY2.o) | (go_at_call 8; refine (HCV.o _ HB2.o).mono ?_; rintro r w3 ⟨rfl, hb⟩; have HB3 := zz (below_and HB2.o hb); have HX3 := zz (HX2.o.kept hb); have HY3 := zz (HY2.o.kept hb); clear hb n0 n1 n2 n3 n4 n5 n6 n7 c0 c1 c2 c3 c4 c5 c6 c7; obtain ⟨n0, n1, n2, n3, n4, n5, n6, n7⟩ := cl8 HX3.o; obtain ⟨c0, c1, c2, c3, c4, c5, c6, c7⟩ := cl8 HY3.o)); go_ret3; exact ⟨by rw [HR.o]; rfl, HB3.o⟩
 obtain ⟨up, hup⟩ : ∃ q, q = V.up := ⟨_, rfl⟩; have HFR2 : Hid (FP = if (up && h1) = true then (if nz = true then (atP N V [], [], 0) else ((bestP N V).1, (bestP N V).2.1, 0)) else (0, [], 0)) := zz (by rw [hup]; have h := HFR.o; simp only [if_true] at h; exact h); have HPX := zz (HPL.o rfl rfl); have HFX := zz (HFN.o rfl); clear HFR HPL HFN; have HUPC : Hid (∀ w' g, Blk w' g (vwC V (.slice pa V.at'.length ca) (.slice pu V.us.length cu)) 32 → w'.cell? ⟨g, 6, none⟩ = some (.bool up)) := zz (fun w' g h => by rw [hup]; exact h.cell (j := 6) rfl); clear hup; go_upto_region 4 with (first | (go_at_call 10; refine (HCN.o _ HB1.o).mono ?_; rintro r w2 ⟨rfl, hb⟩; have HB2 := zz (below_and HB1.o hb); have HX2 := zz (HX1.o.kept hb); have HY2 := zz (HY1.o.kept hb); clear hb n0 n1 n2 n3 n4 n5 n6 n7; obtain ⟨n0, n1, n2, n3, n4, n5, n6, n7⟩ := cl8 HX2.o; obtain ⟨c0, c1, c2, c3, c4, c5, c6, c7⟩ := cl8 HY2.o) | (go_at_call 8; refine (HCV.o _ HB2.o).mono ?_; rintro r w3 ⟨rfl, hb⟩; have HB3 := zz (below_and HB2.o hb); have HX3 := zz (HX2.o.kept hb); have HY3 := zz (HY2.o.kept hb); clear hb n0 n1 n2 n3 n4 n5 n6 n7 c0 c1 c2 c3 c4 c5 c6 c7; obtain ⟨n0, n1, n2, n3, n4, n5, n6, n7⟩ := cl8 HX3.o; obtain ⟨c0, c1, c2, c3, c4, c5, c6, c7⟩ := cl8 HY3.o) | (go_at_call 48; refine (HHO.o _ HB3.o).mono ?_; rintro r w4 ⟨rfl, hb⟩; have HB4 := zz (below_and HB3.o hb); have HX4 := zz (HX3.o.kept hb); have HY4 := zz (HY3.o.kept hb); clear hb n0 n1 n2 n3 n4 n5 n6 n7 c0 c1 c2 c3 c4 c5 c6 c7; obtain ⟨n0, n1, n2, n3, n4, n5, n6, n7⟩ := cl8 HX4.o; obtain ⟨c0, c1, c2, c3, c4, c5, c6, c7⟩ := cl8 HY4.o))
 have u6 := HUPC.o _ _ HY4.o; clear c6; cases up
 ·
  have HR : Hid (FP = (0, [], 0)) := zz (by rw [HFR2.o]; rfl); go_wp2; go_ret3; exact ⟨by rw [HR.o]; rfl, HB4.o⟩
 cases h1
 ·
  have HR : Hid (FP = (0, [], 0)) := zz (by rw [HFR2.o]; rfl); go_wp2; go_ret3; exact ⟨by rw [HR.o]; rfl, HB4.o⟩
 go_upto_region 6 with fail; clear u6; have c6 := HY4.o.cell (j := 6) rfl; cases nz; rotate_left
 ·
  obtain ⟨A0, hA0⟩ : ∃ q, q = atP N V [] := ⟨_, rfl⟩; have HP0 : Hid (Calls Tryz.prog 49 #[neV N (.slice pl N.L.length cl), vwV V (.slice pa V.at'.length ca) (.slice pu V.us.length cu), .string ⟨#[]⟩] w4 fun r w' => r = .returned (.int .i64 A0) ∧ Below w4.heap.size w4 w') := zz (by rw [hA0]; exact HPX.o [] (.inl rfl) w4 HB4.o); have HR : Hid (FP = (A0, [], 0)) := zz (by rw [HFR2.o, hA0]; rfl); clear hA0; go_wp2_with (go_at_call 49; refine HP0.o.mono ?_; rintro r w5 ⟨rfl, hb⟩; have HB5 := zz (below_and HB4.o hb); clear hb); go_ret3; exact ⟨by rw [HR.o]; rfl, HB5.o⟩
 have HR : Hid (FP = ((bestP N V).1, (bestP N V).2.1, 0)) := zz (by rw [HFR2.o]; rfl); go_upto_region 10 with fail; clear n0 n1 n2 n3 n4 n5 n6 n7 c0 c1 c2 c3 c4 c5 c6 c7
 go_loopw [9, 10, 11, 12] (fun a b c i wr => ∃ (k : Nat) (s1 : Int) (s2 : List UInt8) (s3 : Int), k ≤ V.us.length ∧ i = .int .i64 (k : Int) ∧ a = .int .i64 s1 ∧ b = .string (bs s2) ∧ c = .int .i64 s3 ∧ Hid (((V.us.take k).filter (envB N)).foldl (stepF N V) (0, [], 0) = (s1, s2, s3)) ∧ Hid (Below w4.heap.size w4 wr)) (fun _ _ _ i _ => V.us.length - (intOf i).toNat)
 case atStart => exact ⟨0, 0, [], 0, Nat.zero_le _, rfl, rfl, rfl, rfl, zz rfl, zz (Below.refl _ _)⟩
 case round =>
  obtain ⟨k, s1, s2, s3, hk, rfl, rfl, rfl, rfl, HS, HB⟩ := hrel; have HBr : Hid (Below w.heap.size w wr) := zz (below_and HB4.o HB.o); have c7 := (HY4.o.kept HB.o).cell (j := 7) rfl
  by_cases hlt : k < V.us.length
  rotate_left
  ·
   obtain rfl : k = V.us.length := by omega
   rw [List.take_length] at HS; have HRR : Hid (FP = (s1, s2, 0)) := zz (by rw [HR.o]; have e : bestP N V = (s1, s2, s3) := HS.o; rw [e]); go_wp2; go_ret3; exact ⟨by rw [HRR.o]; rfl, HBr.o⟩
  have HKN := zz hlt; obtain ⟨u, hu⟩ : ∃ u, u = V.us[k]'HKN.o := ⟨_, rfl⟩; have HLC := zz ((HV.o.us.below HBr.o).at HKN.o); rw [← hu] at HLC; have HUE := zz hu; clear hu; obtain ⟨b, o, rfl, hcell⟩ := HLC.o; have q0 := hcell 0 _ rfl; rw [Nat.add_zero] at q0; have q1 := hcell 1 _ rfl; have q2 := hcell 2 _ rfl; have q3 := hcell 3 _ rfl; have q4 := hcell 4 _ rfl; have q5 := hcell 5 _ rfl; have q6 := hcell 6 _ rfl; have q7 := hcell 7 _ rfl; have q8 := hcell 8 _ rfl; clear hcell HLC; have i0 : (0 : Int) ≤ (k : Int) := by omega
  have i1 : (k : Int) < (V.us.length : Int) := by omega
  have HUM : Hid (u ∈ V.us) := zz (by rw [HUE.o]; exact List.getElem_mem _); go_upto_region 13 with fail; obtain ⟨Y, hY⟩ : ∃ Y, Y = wr.heap.size := ⟨_, rfl⟩; refine at_hide (F := fun w' => Blk w' Y (usC u) 58 ∧ Below wr.heap.size wr w') ⟨by rw [hY]; exact Blk.made wr (usC u) _, below_alloc _ _⟩ ?_; rw [← hY]; intro w6 hF; have HU6 := zz hF.1; have HB6 : Hid (Below w4.heap.size w4 w6) := zz (below_and HB.o (by have := hF.2; rw [hY] at this; exact this)); clear hF hY c7 q0 q1 q2 q3 q4 q5 q6 q7 q8; obtain ⟨y0, -, -, -, -, -, -, -, y8⟩ := cl9 HU6.o; have n7 := (HX4.o.kept HB6.o).cell (j := 7) rfl; have hbe := bs_beq u.j N.n; obtain ⟨e, he⟩ : ∃ e, e = (u.j == N.n) := ⟨_, rfl⟩; rw [← he] at hbe
  have HET : Hid (((V.us.take (k + 1)).filter (envB N)).foldl (stepF N V) (0, [], 0) = if (u.e && e) = true then stepF N V (s1, s2, s3) u else (s1, s2, s3)) := zz (by
   rw [env_take HKN.o, ← HUE.o, HS.o]
   have e1 : envB N u = (u.e && e) := by
    unfold envB
    rw [he]; cases hue : u.e
    ·rfl
    ·rw [HFX.o u HUM.o hue]; simp
   rw [e1])
  clear he; obtain ⟨ue, hue⟩ : ∃ q, q = u.e := ⟨_, rfl⟩; rw [← hue] at HET; have y8' : w6.cell? ⟨Y, 8, none⟩ = some (.bool ue) := by rw [hue]; exact y8
  clear y8; have HUE2 := zz hue; clear hue; cases ue
  ·
   go_wp2; go_roundw
   case rel => exact ⟨k + 1, s1, s2, s3, hlt, by go_num, rfl, rfl, rfl, zz (by rw [HET.o]; rfl), HB6⟩
   case measure => simp [intOf]; omega
  cases e
  ·
   go_wp2; go_roundw
   case rel => exact ⟨k + 1, s1, s2, s3, hlt, by go_num, rfl, rfl, rfl, zz (by rw [HET.o]; rfl), HB6⟩
   case measure => simp [intOf]; omega
  go_upto_region 14 with fail; clear y0 y8' n7; have HX6 := zz (HX4.o.kept HB6.o); have HY6 := zz (HY4.o.kept HB6.o); obtain ⟨nu, hnu⟩ : ∃ q, q = nmU u := ⟨_, rfl⟩; obtain ⟨A, hA⟩ : ∃ q, q = atP N V (nmU u) := ⟨_, rfl⟩; have HN6 : Hid (∀ wx, Calls Tryz.prog 29 #[.agg #[.string (bs u.j), .int .i64 u.i]] wx fun e w2 => e = .returned (.string (bs nu)) ∧ Below wx.heap.size wx w2) := zz (fun wx => by rw [hnu]; exact HNM.o u HUM.o wx); have HP6 := zz (fun (s : Past w6) => HPX.o (nmU u) (.inr (denv_self HUM.o HUE2.o.symm)) s.val (below_and HB4.o (below_and HB6.o s.h))); rw [← hA, ← hnu] at HP6; have HST : Hid (stepF N V (s1, s2, s3) u = if (decide (s1 < A) || (A == s1 && decide (0 < A) && decide (u.i < s3))) = true then (A, nu, u.i) else (s1, s2, s3)) := zz (by rw [step_is, ← hA, ← hnu]); clear hnu hA; obtain ⟨p0, p1, p2, p3, p4, p5, p6, p7⟩ := ps8 HX6.o; obtain ⟨v0, v1, v2, v3, v4, v5, v6, v7⟩ := ps8 HY6.o; obtain ⟨r0, r1⟩ := ps2 HU6.o; refine wp_region_past (by kernel_rfl) (by kernel_rfl) ?_
  repeat (go_big_quiet_step ((first | (go_at_call 29; exact past_call (HN6.o _)) | (go_at_call 49; exact past_call (HP6.o _)))))
  refine wpQuiet_past ?_; intro w7 h9; have HB7 : Hid (Below w4.heap.size w4 w7) := zz (below_and HB6.o h9); have HU7 := zz (HU6.o.kept h9); clear h9 r0 r1 p0 v0 p1 v1 p2 v2 p3 v3 p4 v4 p5 v5 p6 v6 p7 v7; have y1 := HU7.o.cell (j := 1) rfl; obtain ⟨b1, hb1⟩ : ∃ q, q = decide (s1 < A) := ⟨_, rfl⟩; obtain ⟨b2, hb2⟩ : ∃ q, q = (A == s1) := ⟨_, rfl⟩; obtain ⟨b3, hb3⟩ : ∃ q, q = decide (0 < A) := ⟨_, rfl⟩; obtain ⟨b4, hb4⟩ : ∃ q, q = decide (u.i < s3) := ⟨_, rfl⟩; rw [← hb1, ← hb2, ← hb3, ← hb4] at HST; have t1 := hb1.symm; have t2 := hb2.symm; have t3 := hb3.symm; have t4 := hb4.symm; clear hb1 hb2 hb3 hb4; cases b1; rotate_left
  ·
   have HET2 : Hid (((V.us.take (k + 1)).filter (envB N)).foldl (stepF N V) (0, [], 0) = (A, nu, u.i)) := zz (by rw [HET.o]; simp only [Bool.and_self, if_true]; rw [HST.o]; rfl); go_upto_region 16 with fail; clear y1; obtain ⟨r0, r1⟩ := ps2 HU7.o; have HN7 := zz (fun (s : Past w7) => HN6.o s.val); refine wp_region_past (by kernel_rfl) (by kernel_rfl) ?_
   repeat (go_big_quiet_step ((go_at_call 29; exact past_call (HN7.o _))))
   refine wpQuiet_past ?_; intro w8 h9; have HB8 : Hid (Below w4.heap.size w4 w8) := zz (below_and HB7.o h9); clear h9; go_wp2; go_roundw
   case rel => exact ⟨k + 1, A, nu, u.i, hlt, by go_num, rfl, rfl, rfl, HET2, HB8⟩
   case measure => simp [intOf]; omega
  cases b2
  ·
   go_wp2; go_roundw
   case rel => exact ⟨k + 1, s1, s2, s3, hlt, by go_num, rfl, rfl, rfl, zz (by rw [HET.o]; simp only [Bool.and_self, if_true]; rw [HST.o]; rfl), HB7⟩
   case measure => simp [intOf]; omega
  cases b3
  ·
   go_wp2; go_roundw
   case rel => exact ⟨k + 1, s1, s2, s3, hlt, by go_num, rfl, rfl, rfl, zz (by rw [HET.o]; simp only [Bool.and_self, if_true]; rw [HST.o]; rfl), HB7⟩
   case measure => simp [intOf]; omega
  cases b4
  ·
   go_wp2; go_roundw
   case rel => exact ⟨k + 1, s1, s2, s3, hlt, by go_num, rfl, rfl, rfl, zz (by rw [HET.o]; simp only [Bool.and_self, if_true]; rw [HST.o]; rfl), HB7⟩
   case measure => simp [intOf]; omega
  ·
   have HET2 : Hid (((V.us.take (k + 1)).filter (envB N)).foldl (stepF N V) (0, [], 0) = (A, nu, u.i)) := zz (by rw [HET.o]; simp only [Bool.and_self, if_true]; rw [HST.o]; rfl); go_upto_region 16 with fail; clear y1; obtain ⟨r0, r1⟩ := ps2 HU7.o; have HN7 := zz (fun (s : Past w7) => HN6.o s.val); refine wp_region_past (by kernel_rfl) (by kernel_rfl) ?_
   repeat (go_big_quiet_step ((go_at_call 29; exact past_call (HN7.o _))))
   refine wpQuiet_past ?_; intro w8 h9; have HB8 : Hid (Below w4.heap.size w4 w8) := zz (below_and HB7.o h9); clear h9; go_wp2; go_roundw
   case rel => exact ⟨k + 1, A, nu, u.i, hlt, by go_num, rfl, rfl, rfl, HET2, HB8⟩
   case measure => simp [intOf]; omega
theorem ret_cell1 {P : Program} {fn : Func} {R : Ending → World → Prop} {a : Act} {w : World} {p : Tmp} {ty t : TypeId} {g : Nat} {cs : List Value} {d : TypeDesc} (h : fn.results = #[.cell p ty]) (hd : a.defers = [])
  (hp : a.tmps.getD p undef = .pointer (some ⟨g, 0, none⟩)) (hg : Blk w g cs t) (hu : P.underlying ty = some d) (hs : (match d with | .struct _ | .array _ _ => true | _ => false) = true) (hi : (P.info? ty).map (·.size) = some cs.length)
  (hR : R (.returned (.agg cs.toArray)) w) : bodyPost P fn R .ret a w :=
 bodyPost_ret (results_cell_row h a.tmps w g t cs.toArray (0, 0) d hp hg hu hs (by simpa using hi)) hd hR
theorem size_ne : (Tryz.prog.info? 28).map (·.size) = some 8 := by kernel_rfl
theorem size_vw : (Tryz.prog.info? 32).map (·.size) = some 8 := by kernel_rfl
def OwnN (w : World) (base : Nat) (v : Value) (L : List Nd) : Prop := w.ownsRow base 69 6 v L.length (rwC ndC L)
theorem OwnN.row {w : World} {base : Nat} {v : Value} {L : List Nd} (h : OwnN w base v L) : Row w v 6 L.length (rwC ndC L) := row_of_owns h (rwC_one ndC_one L)
theorem OwnN.set {w : World} {base : Nat} {v : Value} {L : List Nd} (h : OwnN w base v L) {a : Addr} (ha : a.block < base) (u : Value) : OwnN (w.setCell a u) base v L := ownsRow_setCell_below h ha u
theorem OwnN.low {w : World} {base b : Nat} {v : Value} {L : List Nd} (h : OwnN w base v L) (hb : b ≤ base) : OwnN w b v L := own_lower h hb
theorem own_fill8 {w : World} {base g : Nat} {v : Value} {L : List Nd} (h : OwnN w base v L) (hg : g < base) (x0 x1 x2 x3 x4 x5 x6 x7 : Value) : OwnN ((((((((w.setCell ⟨g, 0, none⟩ x0).setCell ⟨g, 1, none⟩ x1).setCell ⟨g, 2, none⟩ x2).setCell ⟨g, 3, none⟩ x3).setCell ⟨g, 4, none⟩ x4).setCell ⟨g, 5, none⟩ x5).setCell ⟨g, 6, none⟩ x6).setCell ⟨g, 7, none⟩ x7) base v L := (OwnN.set (OwnN.set (OwnN.set (OwnN.set (OwnN.set (OwnN.set (OwnN.set (OwnN.set h (a := ⟨g, 0, none⟩) hg x0) (a := ⟨g, 1, none⟩) hg x1) (a := ⟨g, 2, none⟩) hg x2) (a := ⟨g, 3, none⟩) hg x3) (a := ⟨g, 4, none⟩) hg x4) (a := ⟨g, 5, none⟩) hg x5) (a := ⟨g, 6, none⟩) hg x6) (a := ⟨g, 7, none⟩) hg x7)
theorem below_fill8 {w w1 : World} {n g : Nat} (h : Below n w w1) (hg : n ≤ g) (x0 x1 x2 x3 x4 x5 x6 x7 : Value) : Below n w ((((((((w1.setCell ⟨g, 0, none⟩ x0).setCell ⟨g, 1, none⟩ x1).setCell ⟨g, 2, none⟩ x2).setCell ⟨g, 3, none⟩ x3).setCell ⟨g, 4, none⟩ x4).setCell ⟨g, 5, none⟩ x5).setCell ⟨g, 6, none⟩ x6).setCell ⟨g, 7, none⟩ x7) := (Below.setCell (Below.setCell (Below.setCell (Below.setCell (Below.setCell (Below.setCell (Below.setCell (Below.setCell h (by simpa using hg) x0) (by simpa using hg) x1) (by simpa using hg) x2) (by simpa using hg) x3) (by simpa using hg) x4) (by simpa using hg) x5) (by simpa using hg) x6) (by simpa using hg) x7)
theorem blk_fill8 {w : World} {g : Nat} {C : List Value} {t : TypeId} (h : Blk w g C t) (hc : C.length = 8) (x0 x1 x2 x3 x4 x5 x6 x7 : Value) : Blk ((((((((w.setCell ⟨g, 0, none⟩ x0).setCell ⟨g, 1, none⟩ x1).setCell ⟨g, 2, none⟩ x2).setCell ⟨g, 3, none⟩ x3).setCell ⟨g, 4, none⟩ x4).setCell ⟨g, 5, none⟩ x5).setCell ⟨g, 6, none⟩ x6).setCell ⟨g, 7, none⟩ x7) g [x0, x1, x2, x3, x4, x5, x6, x7] t := by
 match C, hc with
 | [_, _, _, _, _, _, _, _], _ => exact (Blk.set (Blk.set (Blk.set (Blk.set (Blk.set (Blk.set (Blk.set (Blk.set h 0 x0) 1 x1) 2 x2) 3 x3) 4 x4) 5 x5) 6 x6) 7 x7)
theorem lendRuleR (v : Value) (L : List Nd) (w : World) (hv : Row w v 6 L.length (rwC ndC L)) (hl : L.length * 64 ≤ 140737488351232) :
  Calls Tryz.prog 22 #[.agg #[v]] w fun r w' => ∃ q c, r = .returned (.agg #[.slice q L.length c]) ∧ OwnN w' w.heap.size (.slice q L.length c) L ∧ Below w.heap.size w w' := by
 obtain ⟨ix, hi, hz0, hz1, hz2⟩ := info_parts info_nd; obtain ⟨p, c, rfl, -⟩ := id hv; have HV := zz hv; obtain ⟨n, hn⟩ : ∃ n, n = L.length := ⟨_, rfl⟩; have HN := zz hn; rw [← hn] at HV hl ⊢; clear hv hn; obtain ⟨X, hX⟩ : ∃ X, X = w.heap.size := ⟨_, rfl⟩; go_enter Tryz.func22, Tryz.ntmps22; go_upto_region 1 with fail
 refine at_hide (F := fun w' => Blk w' X [.slice p n c] 26 ∧ Blk w' (X + 1) [.slice none 0 0] 26 ∧ Below w.heap.size w w' ∧ w'.heap.size = X + 2) ⟨by
  rw [hX]; exact (Blk.made w [_] _).alloc _, by
  rw [hX]; have := Blk.made (w.alloc (.cells #[.slice p n c] 26)) [.slice none 0 0] 26; rw [show (w.alloc (.cells #[.slice p n c] 26)).heap.size = w.heap.size + 1 from by simp] at this
  exact this, below_and (below_alloc _ _) (below_alloc _ _), by rw [hX]; simp⟩ ?_
 intro w1 hF; rw [← hX]; have HX1 := zz hF.1; have HR1 := zz hF.2.1; have HB1 : Hid (Below w.heap.size w w1) := zz hF.2.2.1; have HZ1 := zz hF.2.2.2; have HXW : Hid (w.heap.size ≤ X) := zz (by omega); have c0 := (HX1.o.alloc (.cells #[] 69)).cell (j := 0) rfl; have HO1 : Hid ((w1.alloc (.cells #[] 69)).ownsRow w1.heap.size 69 6 (.slice (some ⟨w1.heap.size, 0, none⟩) 0 0) 0 []) := zz (World.ownsRow_lit w1 #[] 0 (Nat.le_refl _) (by simp [maxLen]) rfl); have HS1 : Hid (Src Tryz.prog 6 24 (.slice p n c) n (rwC ndC L) (w1.alloc (.cells #[] 69))) := zz ((HV.o.below (below_and HB1.o (below_alloc _ _))).src Tryz.underlying24); clear hF hX; go_wp2_with (at_builtin; refine wpList_app _ rfl _ _ 24 24 rfl w1.heap.size 69 ix (.agg #[.int .i64 0, .string ⟨#[]⟩, .string ⟨#[]⟩, .int .i64 0, .int .i64 0, .int .i64 0]) 6 64 Tryz.underlying24 hi hz0 hz1 hz2 rfl _ 0 [] rfl HO1.o _ n (rwC ndC L) rfl HS1.o (by unfold maxLen; omega) (by omega) (by simp) ?_; intro v' w2 hown' hgrow hnil; rw [Nat.zero_add] at hown'; obtain ⟨q2, c2, rfl⟩ : ∃ q c, v' = .slice q n c := (by obtain ⟨q, c, h, -⟩ := own_slice hown'; exact ⟨q, c, h⟩); have HO2 : Hid (OwnN w2 w1.heap.size (.slice q2 n c2) L) := zz (by unfold OwnN; rw [← HN.o]; exact hown'); have HB2 : Hid (Below w1.heap.size w1 w2) := zz (below_grown (below_alloc w1 _) (by simp) HO1.o hgrow); have r0 := (HR1.o.kept HB2.o).cell (j := 0) rfl; have f0 := (HR1.o.kept HB2.o).free 0; clear hown' hgrow hnil)
 refine ret_cell1 (g := X + 1) (cs := [.slice q2 n c2]) rfl rfl rfl ((HR1.o.kept HB2.o).set 0 (.slice q2 n c2)) Tryz.underlying26 rfl size_rule ?_; exact ⟨q2, c2, rfl, (HO2.o.set (a := ⟨X + 1, 0, none⟩) (by have := HZ1.o; simp; omega) _).low (by have := HB1.o.size; exact this), (below_and HB1.o HB2.o).setCell (by have := HXW.o; simp; omega) _⟩
theorem lendNeedR (N : Ne) (vl : Value) (w : World) (hn : Nds w N vl) (hl : N.L.length * 64 ≤ 140737488351232) :
  Calls Tryz.prog 5 #[neV N vl] w fun r w' => ∃ q c, r = .returned (neV N (.slice q N.L.length c)) ∧ OwnN w' w.heap.size (.slice q N.L.length c) N.L ∧ Below w.heap.size w w' := by
 obtain ⟨pn, cn, rfl⟩ := hn.slice; obtain ⟨ln, hln⟩ : ∃ ln, ln = N.L.length := ⟨_, rfl⟩
 have HLR : Hid (∀ w', Below w.heap.size w w' → Calls Tryz.prog 22 #[.agg #[.slice pn ln cn]] w' fun r w2 => ∃ q c, r = .returned (.agg #[.slice q ln c]) ∧ OwnN w2 w'.heap.size (.slice q ln c) N.L ∧ Below w'.heap.size w' w2) := zz (fun w' hb => by
  rw [hln]
  exact lendRuleR _ N.L w' (hn.below hb) hl)
 rw [← hln]; clear hn hl hln; obtain ⟨X, hX⟩ : ∃ X, X = w.heap.size := ⟨_, rfl⟩; go_enter Tryz.func5, Tryz.ntmps5; go_upto_region 1 with fail
 refine at_hide (F := fun w' => Blk w' X (neC N (.slice pn ln cn)) 28 ∧ Blk w' (X + 1) ([.string ⟨#[]⟩, .int .i64 0, .int .i64 0, .int .i64 0, .int .i64 0, .int .i64 0, .slice none 0 0, .string ⟨#[]⟩] : List Value) 28 ∧ Below w.heap.size w w' ∧ w'.heap.size = X + 2) ⟨by
  rw [hX]; exact (Blk.made w (neC N (.slice pn ln cn)) _).alloc _, by
  rw [hX]; have := Blk.made (w.alloc (.cells (neC N (.slice pn ln cn)).toArray 28)) ([.string ⟨#[]⟩, .int .i64 0, .int .i64 0, .int .i64 0, .int .i64 0, .int .i64 0, .slice none 0 0, .string ⟨#[]⟩] : List Value) 28; rw [show (w.alloc (.cells (neC N (.slice pn ln cn)).toArray 28)).heap.size = w.heap.size + 1 from by simp] at this
  exact this, below_and (below_alloc _ _) (below_alloc _ _), by rw [hX]; simp⟩ ?_
 intro w1 hF; rw [← hX]; have HX1 := zz hF.1; have HR1 := zz hF.2.1; have HB1 : Hid (Below w.heap.size w w1) := zz hF.2.2.1; have HZ1 := zz hF.2.2.2; have HXW : Hid (w.heap.size ≤ X) := zz (by omega); have c6 := HX1.o.cell (j := 6) rfl; clear hF hX; go_upto_region 2 with (go_at_call 22; refine (HLR.o _ HB1.o).mono ?_; rintro r w2 ⟨q2, c2, rfl, ho, hb⟩; have HO2 := zz ho; have HB2 := zz hb; have f6 := (HX1.o.kept hb).free 6; have s6 := (HX1.o.kept hb).cell (j := 6) rfl; clear ho hb); have HX3 := zz ((HX1.o.kept HB2.o).set 6 (.slice q2 ln c2)); have HR3 := zz ((HR1.o.kept HB2.o).other (a := ⟨X, 6, none⟩) (by simp) (.slice q2 ln c2)); have HO3 := zz (HO2.o.set (a := ⟨X, 6, none⟩) (by have := HZ1.o; simp; omega) (.slice q2 ln c2)); have HB3 : Hid (Below w.heap.size w (w2.setCell ⟨X, 6, none⟩ (.slice q2 ln c2))) := zz ((below_and HB1.o HB2.o).setCell (by have := HXW.o; simp; omega) (.slice q2 ln c2)); obtain ⟨bb, hbb⟩ : ∃ bb, bb = w1.heap.size := ⟨_, rfl⟩; rw [← hbb] at HO3 HZ1; have HBB : Hid (w.heap.size ≤ bb) := zz (by rw [hbb]; exact HB1.o.size); refine at_hide (F := fun w' => Blk w' X (neC N (.slice q2 ln c2)) 28 ∧ Blk w' (X + 1) ([.string ⟨#[]⟩, .int .i64 0, .int .i64 0, .int .i64 0, .int .i64 0, .int .i64 0, .slice none 0 0, .string ⟨#[]⟩] : List Value) 28 ∧ OwnN w' bb (.slice q2 ln c2) N.L ∧ Below w.heap.size w w') ⟨HX3.o, HR3.o, HO3.o, HB3.o⟩ ?_
 intro w4 hF; have HX4 := zz hF.1; have HR4 := zz hF.2.1; have HO4 := zz hF.2.2.1; have HB4 := zz hF.2.2.2; clear hF c6 f6 s6 HX1 HR1 HB1 HX3 HR3 HO3 HB3 HO2 HB2 hbb HLR; have e0 := HX4.o.cell (j := 0) (rfl); have e1 := HX4.o.cell (j := 1) (rfl); have e2 := HX4.o.cell (j := 2) (rfl); have e3 := HX4.o.cell (j := 3) (rfl); have e4 := HX4.o.cell (j := 4) (rfl); have e5 := HX4.o.cell (j := 5) (rfl); have e6 := HX4.o.cell (j := 6) (rfl); have e7 := HX4.o.cell (j := 7) (rfl); have r0 := HR4.o.cell (j := 0) (rfl); have r1 := HR4.o.cell (j := 1) (rfl); have r2 := HR4.o.cell (j := 2) (rfl); have r3 := HR4.o.cell (j := 3) (rfl); have r4 := HR4.o.cell (j := 4) (rfl); have r5 := HR4.o.cell (j := 5) (rfl); have r6 := HR4.o.cell (j := 6) (rfl); have r7 := HR4.o.cell (j := 7) (rfl); obtain ⟨f0, f1, f2, f3, f4, f5, f6, f7⟩ := fz8 HR4.o; go_wp2; refine ret_cell1 rfl rfl rfl (blk_fill8 HR4.o rfl _ _ _ _ _ _ _ _) Tryz.underlying28 rfl size_ne ?_; exact ⟨q2, c2, rfl, OwnN.low (own_fill8 HO4.o (by have := HZ1.o; omega) _ _ _ _ _ _ _ _) HBB.o, below_fill8 HB4.o (by have := HXW.o; omega) _ _ _ _ _ _ _ _⟩
theorem info_at : (Tryz.prog.info? 81).map (fun i => (i.zero, i.size, i.bytes)) = some (some (.agg #[.string ⟨#[]⟩, .string ⟨#[]⟩]), 2, 32) := by kernel_rfl
def OwnA (w : World) (base : Nat) (v : Value) (l : List Ru.At) : Prop := w.ownsRow base 81 2 v l.length (rwC atC l)
theorem OwnA.row {w : World} {base : Nat} {v : Value} {l : List Ru.At} (h : OwnA w base v l) : Row w v 2 l.length (rwC atC l) := row_of_owns h (rwC_one atC_one l)
theorem OwnA.set {w : World} {base : Nat} {v : Value} {l : List Ru.At} (h : OwnA w base v l) {a : Addr} (ha : a.block < base) (u : Value) : OwnA (w.setCell a u) base v l := ownsRow_setCell_below h ha u
theorem OwnA.kept {w w' : World} {base : Nat} {v : Value} {l : List Ru.At} (h : OwnA w base v l) (hb : Below w.heap.size w w') : OwnA w' base v l := own_fr h (Fr.of_below hb []) (fun _ _ => by simp)
theorem OwnU.set {w : World} {base : Nat} {v : Value} {l : List Us} (h : OwnU w base v l) {a : Addr} (ha : a.block < base) (u : Value) : OwnU (w.setCell a u) base v l := ownsRow_setCell_below h ha u
theorem ownA_fill8 {w : World} {base g : Nat} {v : Value} {l : List Ru.At} (h : OwnA w base v l) (hg : g < base) (x0 x1 x2 x3 x4 x5 x6 x7 : Value) : OwnA ((((((((w.setCell ⟨g, 0, none⟩ x0).setCell ⟨g, 1, none⟩ x1).setCell ⟨g, 2, none⟩ x2).setCell ⟨g, 3, none⟩ x3).setCell ⟨g, 4, none⟩ x4).setCell ⟨g, 5, none⟩ x5).setCell ⟨g, 6, none⟩ x6).setCell ⟨g, 7, none⟩ x7) base v l :=
 OwnA.set (OwnA.set (OwnA.set (OwnA.set (OwnA.set (OwnA.set (OwnA.set (OwnA.set h (a := ⟨g, 0, none⟩) hg _) (a := ⟨g, 1, none⟩) hg _) (a := ⟨g, 2, none⟩) hg _) (a := ⟨g, 3, none⟩) hg _) (a := ⟨g, 4, none⟩) hg _) (a := ⟨g, 5, none⟩) hg _) (a := ⟨g, 6, none⟩) hg _) (a := ⟨g, 7, none⟩) hg _
theorem ownU_fill8 {w : World} {base g : Nat} {v : Value} {l : List Us} (h : OwnU w base v l) (hg : g < base) (x0 x1 x2 x3 x4 x5 x6 x7 : Value) : OwnU ((((((((w.setCell ⟨g, 0, none⟩ x0).setCell ⟨g, 1, none⟩ x1).setCell ⟨g, 2, none⟩ x2).setCell ⟨g, 3, none⟩ x3).setCell ⟨g, 4, none⟩ x4).setCell ⟨g, 5, none⟩ x5).setCell ⟨g, 6, none⟩ x6).setCell ⟨g, 7, none⟩ x7) base v l :=
 OwnU.set (OwnU.set (OwnU.set (OwnU.set (OwnU.set (OwnU.set (OwnU.set (OwnU.set h (a := ⟨g, 0, none⟩) hg _) (a := ⟨g, 1, none⟩) hg _) (a := ⟨g, 2, none⟩) hg _) (a := ⟨g, 3, none⟩) hg _) (a := ⟨g, 4, none⟩) hg _) (a := ⟨g, 5, none⟩) hg _) (a := ⟨g, 6, none⟩) hg _) (a := ⟨g, 7, none⟩) hg _
theorem lendViewR (V : Vw) (va vu : Value) (w : World) (hv : Vws w V va vu) (hal : V.at'.length * 32 ≤ 140737488351232) (hul : V.us.length ≤ 60) :
  Calls Tryz.prog 6 #[vwV V va vu] w fun r w' => ∃ q c q2 c2, r = .returned (vwV V (.slice q V.at'.length c) (.slice q2 V.us.length c2)) ∧ OwnA w' w.heap.size (.slice q V.at'.length c) V.at' ∧ OwnU w' w.heap.size (.slice q2 V.us.length c2) V.us ∧ Below w.heap.size w w' := by
 obtain ⟨ia, ha0, ha1, ha2, ha3⟩ := info_parts info_at; obtain ⟨iu, hu0, hu1, hu2, hu3⟩ := info_parts info_us; obtain ⟨⟨pa, ca, rfl⟩, pu, cu, rfl⟩ := hv.slices; obtain ⟨la, hla⟩ : ∃ la, la = V.at'.length := ⟨_, rfl⟩; obtain ⟨lu, hlu⟩ : ∃ lu, lu = V.us.length := ⟨_, rfl⟩
 have HV : Hid (∀ w', Below w.heap.size w w' → Src Tryz.prog 2 29 (.slice pa la ca) la (rwC atC V.at') w' ∧ Src Tryz.prog 9 30 (.slice pu lu cu) lu (rwC usC V.us) w') := zz (fun w' hb => by
  rw [hla, hlu]
  exact ⟨(hv.at'.below hb).src Tryz.underlying29, (Row.below hv.us hb).src Tryz.underlying30⟩)
 rw [← hla] at hal ⊢; rw [← hlu] at hul ⊢; have HLA := zz hla; have HLU := zz hlu; clear hv hla hlu; obtain ⟨X, hX⟩ : ∃ X, X = w.heap.size := ⟨_, rfl⟩; go_enter Tryz.func6, Tryz.ntmps6; go_upto_region 1 with fail
 refine at_hide (F := fun w' => Blk w' X (vwC V (.slice pa la ca) (.slice pu lu cu)) 32 ∧ Blk w' (X + 1) ([.string ⟨#[]⟩, .slice none 0 0, .int .i64 0, .int .i64 0, .int .i64 0, .int .i64 0, .bool false, .slice none 0 0] : List Value) 32 ∧ Below w.heap.size w w' ∧ w'.heap.size = X + 2) ⟨by
  rw [hX]; exact (Blk.made w (vwC V (.slice pa la ca) (.slice pu lu cu)) _).alloc _, by
  rw [hX]; have := Blk.made (w.alloc (.cells (vwC V (.slice pa la ca) (.slice pu lu cu)).toArray 32)) ([.string ⟨#[]⟩, .slice none 0 0, .int .i64 0, .int .i64 0, .int .i64 0, .int .i64 0, .bool false, .slice none 0 0] : List Value) 32; rw [show (w.alloc (.cells (vwC V (.slice pa la ca) (.slice pu lu cu)).toArray 32)).heap.size = w.heap.size + 1 from by simp] at this
  exact this, below_and (below_alloc _ _) (below_alloc _ _), by rw [hX]; simp⟩ ?_
 intro w1 hF; rw [← hX]; have HX1 := zz hF.1; have HR1 := zz hF.2.1; have HB1 : Hid (Below w.heap.size w w1) := zz hF.2.2.1; have HZ1 : Hid (X + 2 ≤ w1.heap.size) := zz (by rw [hF.2.2.2]; exact Nat.le_refl _); have HXW : Hid (w.heap.size ≤ X) := zz (by omega); have c1 := (HX1.o.alloc (.cells #[] 81)).cell (j := 1) rfl; have HO1 : Hid ((w1.alloc (.cells #[] 81)).ownsRow w1.heap.size 81 2 (.slice (some ⟨w1.heap.size, 0, none⟩) 0 0) 0 []) := zz (World.ownsRow_lit w1 #[] 0 (Nat.le_refl _) (by simp [maxLen]) rfl); have HS1 := zz (HV.o (w1.alloc (.cells #[] 81)) (below_and HB1.o (below_alloc _ _))).1; clear hF hX; go_upto_region 2 with (at_builtin; refine wpList_app _ rfl _ _ 29 29 rfl w1.heap.size 81 ia (.agg #[.string ⟨#[]⟩, .string ⟨#[]⟩]) 2 32 Tryz.underlying29 ha0 ha1 ha2 ha3 rfl _ 0 [] rfl HO1.o _ la (rwC atC V.at') rfl HS1.o (by unfold maxLen; omega) (by omega) (by simp) ?_; intro v' w2 hown' hgrow hnil; rw [Nat.zero_add] at hown'; obtain ⟨q2, c2, rfl⟩ : ∃ q c, v' = .slice q la c := (by obtain ⟨q, c, h, -⟩ := own_slice hown'; exact ⟨q, c, h⟩); have HO2 : Hid (OwnA w2 w1.heap.size (.slice q2 la c2) V.at') := zz (by unfold OwnA; rw [← HLA.o]; exact hown'); have HB2 : Hid (Below w1.heap.size w1 w2) := zz (below_grown (below_alloc w1 _) (by simp) HO1.o hgrow); have s1 := (HX1.o.kept HB2.o).cell (j := 1) rfl; have f1 := (HX1.o.kept HB2.o).free 1; clear hown' hgrow hnil)
 have HX3 := zz ((HX1.o.kept HB2.o).set 1 (.slice q2 la c2)); have HR3 := zz ((HR1.o.kept HB2.o).other (a := ⟨X, 1, none⟩) (by simp) (.slice q2 la c2)); have HO3 := zz (HO2.o.set (a := ⟨X, 1, none⟩) (by have := HZ1.o; simp; omega) (.slice q2 la c2)); have HB3 : Hid (Below w.heap.size w (w2.setCell ⟨X, 1, none⟩ (.slice q2 la c2))) := zz ((below_and HB1.o HB2.o).setCell (by have := HXW.o; simp; omega) _); have HZ3 : Hid (X + 2 ≤ (w2.setCell ⟨X, 1, none⟩ (.slice q2 la c2)).heap.size) := zz (by have := HB2.o.size; have := HZ1.o; simp; omega); obtain ⟨bb, hbb⟩ : ∃ bb, bb = w1.heap.size := ⟨_, rfl⟩; rw [← hbb] at HO3 HZ1; refine at_hide (F := fun w' => Blk w' X (vwC V (.slice q2 la c2) (.slice pu lu cu)) 32 ∧ Blk w' (X + 1) ([.string ⟨#[]⟩, .slice none 0 0, .int .i64 0, .int .i64 0, .int .i64 0, .int .i64 0, .bool false, .slice none 0 0] : List Value) 32 ∧ OwnA w' bb (.slice q2 la c2) V.at' ∧ Below w.heap.size w w' ∧ X + 2 ≤ w'.heap.size) ⟨HX3.o, HR3.o, HO3.o, HB3.o, HZ3.o⟩ ?_; intro w4 hF; have HX4 := zz hF.1; have HR4 := zz hF.2.1; have HA4 := zz hF.2.2.1; have HB4 := zz hF.2.2.2.1; have HZ4 := zz hF.2.2.2.2; clear hF c1 s1 f1 HX1 HR1 HB1 HX3 HR3 HO3 HB3 HO2 HB2 HZ3 HO1 HS1 hbb
 have c7 := (HX4.o.alloc (.cells #[] 58)).cell (j := 7) rfl; have HO4 : Hid ((w4.alloc (.cells #[] 58)).ownsRow w4.heap.size 58 9 (.slice (some ⟨w4.heap.size, 0, none⟩) 0 0) 0 []) := zz (World.ownsRow_lit w4 #[] 0 (Nat.le_refl _) (by simp [maxLen]) rfl); have HS4 := zz (HV.o (w4.alloc (.cells #[] 58)) (below_and HB4.o (below_alloc _ _))).2; go_upto_region 3 with (at_builtin; refine wpList_app _ rfl _ _ 30 30 rfl w4.heap.size 58 iu (.agg #[.string ⟨#[]⟩, .int .i64 0, .int .i64 0, .int .i64 0, .int .i64 0, .int .i64 0, .int .i64 0, .string ⟨#[]⟩, .bool false]) 9 88 Tryz.underlying30 hu0 hu1 hu2 hu3 rfl _ 0 [] rfl HO4.o _ lu (rwC usC V.us) rfl HS4.o (by unfold maxLen; omega) (by omega) (by simp) ?_; intro v' w5 hown' hgrow hnil; rw [Nat.zero_add] at hown'; obtain ⟨q5, c5, rfl⟩ : ∃ q c, v' = .slice q lu c := (by obtain ⟨q, c, h, -⟩ := own_slice hown'; exact ⟨q, c, h⟩); have HO5 : Hid (OwnU w5 w4.heap.size (.slice q5 lu c5) V.us) := zz (by unfold OwnU; rw [← HLU.o]; exact hown'); have HB5 : Hid (Below w4.heap.size w4 w5) := zz (below_grown (below_alloc w4 _) (by simp) HO4.o hgrow); have s7 := (HX4.o.kept HB5.o).cell (j := 7) rfl; have f7 := (HX4.o.kept HB5.o).free 7; clear hown' hgrow hnil)
 have HX6 := zz ((HX4.o.kept HB5.o).set 7 (.slice q5 lu c5)); have HR6 := zz ((HR4.o.kept HB5.o).other (a := ⟨X, 7, none⟩) (by simp) (.slice q5 lu c5)); have HA6 := zz ((HA4.o.kept HB5.o).set (a := ⟨X, 7, none⟩) (by have := HZ1.o; simp; omega) (.slice q5 lu c5)); have HO6 := zz (HO5.o.set (a := ⟨X, 7, none⟩) (by have := HZ4.o; simp; omega) (.slice q5 lu c5)); have HB6 : Hid (Below w.heap.size w (w5.setCell ⟨X, 7, none⟩ (.slice q5 lu c5))) := zz ((below_and HB4.o HB5.o).setCell (by have := HXW.o; simp; omega) _); obtain ⟨b2, hb2⟩ : ∃ b2, b2 = w4.heap.size := ⟨_, rfl⟩; rw [← hb2] at HO6 HZ4; refine at_hide (F := fun w' => Blk w' X (vwC V (.slice q2 la c2) (.slice q5 lu c5)) 32 ∧ Blk w' (X + 1) ([.string ⟨#[]⟩, .slice none 0 0, .int .i64 0, .int .i64 0, .int .i64 0, .int .i64 0, .bool false, .slice none 0 0] : List Value) 32 ∧ OwnA w' bb (.slice q2 la c2) V.at' ∧ OwnU w' b2 (.slice q5 lu c5) V.us ∧ Below w.heap.size w w') ⟨HX6.o, HR6.o, HA6.o, HO6.o, HB6.o⟩ ?_; intro w7 hF; have HX7 := zz hF.1; have HR7 := zz hF.2.1; have HA7 := zz hF.2.2.1; have HU7 := zz hF.2.2.2.1; have HB7 := zz hF.2.2.2.2; clear hF c7 s7 f7 HX4 HR4 HA4 HB4 HO4 HS4 HO5 HB5 HX6 HR6 HA6 HO6 HB6 hb2 HV
 have e0 := HX7.o.cell (j := 0) (rfl); have e1 := HX7.o.cell (j := 1) (rfl); have e2 := HX7.o.cell (j := 2) (rfl); have e3 := HX7.o.cell (j := 3) (rfl); have e4 := HX7.o.cell (j := 4) (rfl); have e5 := HX7.o.cell (j := 5) (rfl); have e6 := HX7.o.cell (j := 6) (rfl); have e7 := HX7.o.cell (j := 7) (rfl); have r0 := HR7.o.cell (j := 0) (rfl); have r1 := HR7.o.cell (j := 1) (rfl); have r2 := HR7.o.cell (j := 2) (rfl); have r3 := HR7.o.cell (j := 3) (rfl); have r4 := HR7.o.cell (j := 4) (rfl); have r5 := HR7.o.cell (j := 5) (rfl); have r6 := HR7.o.cell (j := 6) (rfl); have r7 := HR7.o.cell (j := 7) (rfl); obtain ⟨f0, f1, f2, f3, f4, f5, f6, f7⟩ := fz8 HR7.o; go_wp2; refine ret_cell1 rfl rfl rfl (blk_fill8 HR7.o rfl _ _ _ _ _ _ _ _) Tryz.underlying32 rfl size_vw ?_; exact ⟨q2, c2, q5, c5, rfl, own_mono (ownA_fill8 HA7.o (by have := HZ1.o; omega) _ _ _ _ _ _ _ _) (by have := HZ1.o; have := HXW.o; omega), own_mono (ownU_fill8 HU7.o (by have := HZ4.o; omega) _ _ _ _ _ _ _ _) (by have := HZ4.o; have := HXW.o; omega), below_fill8 HB7.o (by have := HXW.o; omega) _ _ _ _ _ _ _ _⟩
theorem us_neq (u : Us) (w : World) : (binOp .neq 58 (.agg #[.string (bs u.j), .int .i64 u.i, .int .i64 u.d, .int .i64 u.a.c, .int .i64 u.a.r, .int .i64 u.a.d, .int .i64 u.a.p, .string (bs u.n), .bool u.e]) (.agg #[.string (bs u.j), .int .i64 u.i, .int .i64 u.d, .int .i64 u.a.c, .int .i64 u.a.r, .int .i64 u.a.d, .int .i64 u.a.p, .string (bs u.n), .bool u.e])).run Tryz.prog w = .ok (.bool false) w := by
 go_simp
 try rfl
theorem am_neqS (x : Am) (w : World) : (binOp .neq 23 (.agg #[.int .i64 x.c, .int .i64 x.r, .int .i64 x.d, .int .i64 x.p]) (.agg #[.int .i64 x.c, .int .i64 x.r, .int .i64 x.d, .int .i64 x.p])).run Tryz.prog w = .ok (.bool false) w := by
 go_simp
 try rfl
theorem uses_same (v v' : Value) (l : List Us) (w : World) (h1 : Usw w v l) (h2 : Usw w v' l) : Calls Tryz.prog 17 #[v, v'] w fun r w' => r = .returned (.bool true) ∧ Below w.heap.size w w' := by
 have H1 := zz h1; have H2 := zz h2; obtain ⟨p, c, rfl, hc, hm, -⟩ := h1; obtain ⟨p', c', rfl, hc', hm', -⟩ := h2; have hml : maxLen ≤ 9223372036854775807 := by decide
 have hn63 : (l.length : Int) ≤ 9223372036854775807 := by omega
 clear hc hm hc' hm' hml; go_enter Tryz.func17, Tryz.ntmps17; go_upto_region 4 with fail
 go_loopw [5] (fun i wr => ∃ k : Nat, k ≤ l.length ∧ i = .int .i64 (k : Int) ∧ Hid (Below w.heap.size w wr)) (fun i _ => l.length - (intOf i).toNat)
 case atStart => exact ⟨0, Nat.zero_le _, rfl, zz (Below.refl _ _)⟩
 case round =>
  obtain ⟨k, hk, rfl, HB⟩ := hrel
  by_cases hlt : k < l.length
  rotate_left
  ·
   obtain rfl : k = l.length := by omega
   have g0 : ¬ ((l.length : Int) < (l.length : Int)) := by omega
   go_wp2; go_ret; exact ⟨rfl, HB.o⟩
  have HKN := zz hlt; obtain ⟨u, hu⟩ : ∃ u, u = l[k]'HKN.o := ⟨_, rfl⟩; have HA := zz ((H1.o.below HB.o).at HKN.o); have HA' := zz ((H2.o.below HB.o).at HKN.o); rw [← hu] at HA HA'; clear hu; obtain ⟨b, o, rfl, hcell⟩ := HA.o; obtain ⟨b', o', rfl, hcell'⟩ := HA'.o; have q0 := Past.cell (hcell 0 _ rfl); have q1 := Past.cell (hcell 1 _ rfl); have q2 := Past.cell (hcell 2 _ rfl); have q3 := Past.cell (hcell 3 _ rfl); have q4 := Past.cell (hcell 4 _ rfl); have q5 := Past.cell (hcell 5 _ rfl); have q6 := Past.cell (hcell 6 _ rfl); have q7 := Past.cell (hcell 7 _ rfl); have q8 := Past.cell (hcell 8 _ rfl); simp only [Nat.add_zero] at q0; have r0 := Past.cell (hcell' 0 _ rfl); have r1 := Past.cell (hcell' 1 _ rfl); have r2 := Past.cell (hcell' 2 _ rfl); have r3 := Past.cell (hcell' 3 _ rfl); have r4 := Past.cell (hcell' 4 _ rfl); have r5 := Past.cell (hcell' 5 _ rfl); have r6 := Past.cell (hcell' 6 _ rfl); have r7 := Past.cell (hcell' 7 _ rfl); have r8 := Past.cell (hcell' 8 _ rfl); simp only [Nat.add_zero] at r0; clear hcell hcell' HA HA'; have hun := us_neq u; have i0 : (0 : Int) ≤ (k : Int) := by omega
  have i1 : (k : Int) < (l.length : Int) := by omega
  go_upto_region 6 with fail; refine wp_region_past (by kernel_rfl) (by kernel_rfl) ?_
  repeat (go_big_quiet_step (fail))
  refine wpQuiet_past ?_; intro w2 h9; have HB2 : Hid (Below w.heap.size w w2) := zz (below_and HB.o h9); clear h9; go_wp2; go_roundw
  case rel => exact ⟨k + 1, hlt, by go_num, HB2⟩
  case measure => simp [intOf]; omega
theorem view_same (V : Vw) (va vu va' vu' : Value) (w : World) (h1 : Vws w V va vu) (h2 : Vws w V va' vu') (hl : V.us.length ≤ 1000) : Calls Tryz.prog 18 #[vwV V va vu, vwV V va' vu'] w fun r w' => r = .returned (.bool true) ∧ Below w.heap.size w w' := by
 have HV := zz h1; have HW := zz h2
 have hm63 : (V.at'.length : Int) ≤ 9223372036854775807 := by
  obtain ⟨p, c, -, hc, hm, -⟩ := h1.at'; have hml : maxLen ≤ 9223372036854775807 := by decide
  omega
 have hn63 : (V.us.length : Int) ≤ 1000 := by omega
 obtain ⟨⟨pa, ca, rfl⟩, pu, cu, rfl⟩ := h1.slices; obtain ⟨⟨pa', ca', rfl⟩, pu', cu', rfl⟩ := h2.slices; clear h1 h2 hl; go_enter Tryz.func18, Tryz.ntmps18; go_upto_region 1 with fail; obtain ⟨X, hX⟩ : ∃ q, q = w.heap.size := ⟨_, rfl⟩; refine at_hide (F := fun w' => Blk w' X (vwC V (.slice pa V.at'.length ca) (.slice pu V.us.length cu)) 32 ∧ Blk w' (X + 1) (vwC V (.slice pa' V.at'.length ca') (.slice pu' V.us.length cu')) 32 ∧ Below w.heap.size w w') ⟨by rw [hX]; exact (two_blk w (vwC V (.slice pa V.at'.length ca) (.slice pu V.us.length cu)) (vwC V (.slice pa' V.at'.length ca') (.slice pu' V.us.length cu')) _ _).1, by rw [hX]; exact (two_blk w (vwC V (.slice pa V.at'.length ca) (.slice pu V.us.length cu)) (vwC V (.slice pa' V.at'.length ca') (.slice pu' V.us.length cu')) _ _).2.1, (two_blk w (vwC V (.slice pa V.at'.length ca) (.slice pu V.us.length cu)) (vwC V (.slice pa' V.at'.length ca') (.slice pu' V.us.length cu')) _ _).2.2⟩ ?_; rw [← hX]; intro w1 hF; have HX1 := zz hF.1; have HY1 := zz hF.2.1; have HB1 : Hid (Below w.heap.size w w1) := zz (by have := hF.2.2; rw [hX] at this; exact this)
 have HXW : Hid (w.heap.size ≤ X) := zz (by omega); clear hF hX; obtain ⟨c0, c1, c2, c3, c4, c5, c6, c7⟩ := cl8 HX1.o; obtain ⟨d0, d1, d2, d3, d4, d5, d6, d7⟩ := cl8 HY1.o; have han := am_neqS V.cap; go_upto_region 4 with fail; clear c0 c1 c2 c3 c4 c5 c6 c7 d0 d1 d2 d3 d4 d5 d6 d7 han
 go_loopw [5] (fun i wr => ∃ k : Nat, k ≤ V.at'.length ∧ i = .int .i64 (k : Int) ∧ Hid (Below w1.heap.size w1 wr)) (fun i _ => V.at'.length - (intOf i).toNat)
 case atStart => exact ⟨0, Nat.zero_le _, rfl, zz (Below.refl _ _)⟩
 case round =>
  obtain ⟨k, hk, rfl, HB⟩ := hrel; have HBr : Hid (Below w.heap.size w wr) := zz (below_and HB1.o HB.o); have HXr := zz (HX1.o.kept HB.o); have HYr := zz (HY1.o.kept HB.o); have c9 := HXr.o.cell (j := 1) rfl; have d9 := HYr.o.cell (j := 1) rfl
  by_cases hlt : k < V.at'.length
  rotate_left
  ·
   obtain rfl : k = V.at'.length := by omega
   have g0 : ¬ ((V.at'.length : Int) < (V.at'.length : Int)) := by omega
   go_upto_region 9 with fail; clear c9 d9
   go_loopw [6] (fun i wr => ∃ k : Nat, k ≤ V.us.length ∧ i = .int .i64 (k : Int) ∧ Hid (Below w1.heap.size w1 wr)) (fun i _ => V.us.length - (intOf i).toNat)
   case atStart => exact ⟨0, Nat.zero_le _, rfl, HB⟩
   case round =>
    obtain ⟨k, hk, rfl, HB⟩ := hrel; have HBr : Hid (Below w.heap.size w wr) := zz (below_and HB1.o HB.o); have HXr := zz (HX1.o.kept HB.o); have HYr := zz (HY1.o.kept HB.o); have c9 := HXr.o.cell (j := 7) rfl; have d9 := HYr.o.cell (j := 7) rfl
    by_cases hlt : k < V.us.length
    rotate_left
    ·
     obtain rfl : k = V.us.length := by omega
     have g0 : ¬ ((V.us.length : Int) < (V.us.length : Int)) := by omega
     go_wp2; go_ret; exact ⟨rfl, HBr.o⟩
    have HKN := zz hlt; have HA := zz ((HV.o.us.below HBr.o).at HKN.o); have HA' := zz ((HW.o.us.below HBr.o).at HKN.o); obtain ⟨u, hu⟩ : ∃ u, u = V.us[k]'HKN.o := ⟨_, rfl⟩; rw [← hu] at HA HA'; clear hu; obtain ⟨b, o, rfl, hcell⟩ := HA.o; obtain ⟨b', o', rfl, hcell'⟩ := HA'.o; have q0 := Past.cell (hcell 0 _ rfl); have q1 := Past.cell (hcell 1 _ rfl); have q2 := Past.cell (hcell 2 _ rfl); have q3 := Past.cell (hcell 3 _ rfl); have q4 := Past.cell (hcell 4 _ rfl); have q5 := Past.cell (hcell 5 _ rfl); have q6 := Past.cell (hcell 6 _ rfl); have q7 := Past.cell (hcell 7 _ rfl); have q8 := Past.cell (hcell 8 _ rfl); simp only [Nat.add_zero] at q0; have r0 := Past.cell (hcell' 0 _ rfl); have r1 := Past.cell (hcell' 1 _ rfl); have r2 := Past.cell (hcell' 2 _ rfl); have r3 := Past.cell (hcell' 3 _ rfl); have r4 := Past.cell (hcell' 4 _ rfl); have r5 := Past.cell (hcell' 5 _ rfl); have r6 := Past.cell (hcell' 6 _ rfl); have r7 := Past.cell (hcell' 7 _ rfl); have r8 := Past.cell (hcell' 8 _ rfl); simp only [Nat.add_zero] at r0; clear hcell hcell' HA HA'; have hun := us_neq u; have p9 := Past.blk HXr.o (j := 7) rfl; have v9 := Past.blk HYr.o (j := 7) rfl; have i0 : (0 : Int) ≤ (k : Int) := by omega
    have i1 : (k : Int) < (V.us.length : Int) := by omega
    go_upto_region 11 with fail; clear c9 d9; refine wp_region_past (by kernel_rfl) (by kernel_rfl) ?_
    repeat (go_big_quiet_step (fail))
    refine wpQuiet_past ?_; intro w2 h9; have HB2 : Hid (Below w1.heap.size w1 w2) := zz (below_and HB.o h9); clear h9; go_wp2; go_roundw
    case rel => exact ⟨k + 1, hlt, by go_num, HB2⟩
    case measure => simp [intOf]; omega
  have HKN := zz hlt; have HA := zz (attr_at (HV.o.at'.below HBr.o) HKN.o); have HA' := zz (attr_at (HW.o.at'.below HBr.o) HKN.o); obtain ⟨x, hx⟩ : ∃ x, x = V.at'[k]'HKN.o := ⟨_, rfl⟩; rw [← hx] at HA HA'; clear hx; obtain ⟨b, o, rfl, a0, a1⟩ := HA.o; obtain ⟨b', o', rfl, e0, e1⟩ := HA'.o; have q0 := Past.cell a0; have q1 := Past.cell a1; have r0 := Past.cell e0; have r1 := Past.cell e1; clear a0 a1 e0 e1 HA HA'; have p9 := Past.blk HXr.o (j := 1) rfl; have v9 := Past.blk HYr.o (j := 1) rfl; have i0 : (0 : Int) ≤ (k : Int) := by omega
  have i1 : (k : Int) < (V.at'.length : Int) := by omega
  go_upto_region 6 with fail; clear c9 d9; refine wp_region_past (by kernel_rfl) (by kernel_rfl) ?_
  repeat (go_big_quiet_step (fail))
  refine wpQuiet_past ?_; intro w2 h9; have HB2 : Hid (Below w1.heap.size w1 w2) := zz (below_and HB.o h9); clear h9; go_wp2; go_roundw
  case rel => exact ⟨k + 1, hlt, by go_num, HB2⟩
  case measure => simp [intOf]; omega
