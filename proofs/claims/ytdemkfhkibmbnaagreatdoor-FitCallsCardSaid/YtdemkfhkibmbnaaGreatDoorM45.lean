/- FdGoers, Add, FtAt, FdAt, FtFit. -/
import Derived.Test.YtdemkfhkibmbnaaGreatDoorM44
set_option maxRecDepth 100000
set_option maxHeartbeats 8000000
namespace Go.Proofs.YtdemkfhkibmbnaaGreatDoor.Ft
open Go.RowKit Go.Proofs.YtdemkfhkibmbnaaGreatDoor Go.Proofs.YtdemkfhkibmbnaaGreatDoor.Ru
theorem goers_why (N : Ne) (V : Vw) (p : List UInt8) : goersR N V p = if (decide (needR N = 0) && (decide (viewR V = 0) && (decide (p = []) || (denv V.us p).isSome))) = true then (goersP N V p, 0) else ([], 2) := by
 rw [goersR_is, room_why]; rcases need_or N with h | h
 ·rw [h]
  cases (decide (viewR V = 0) && (decide (p = []) || (denv V.us p).isSome)) <;> simp
 ·rw [h]; simp
theorem info_use : (Tryz.prog.info? 58).map (fun i => (i.zero, i.size, i.bytes)) = some (some (.agg #[.string ⟨#[]⟩, .int .i64 0, .int .i64 0, .int .i64 0, .int .i64 0, .int .i64 0, .int .i64 0, .string ⟨#[]⟩, .bool false]), 9, 88) := by kernel_rfl
theorem goers_take {N : Ne} {l : List Us} {p : List UInt8} {k : Nat} (hk : k < l.length) : (l.take (k + 1)).filter (goer N p) = if goer N p l[k] = true then (l.take k).filter (goer N p) ++ [l[k]] else (l.take k).filter (goer N p) := by
 rw [List.take_succ_eq_append_getElem hk, List.filter_append]; cases h : goer N p l[k] <;> simp [h]
theorem goers_lenT (N : Ne) (l : List Us) (p : List UInt8) (k : Nat) : ((l.take k).filter (goer N p)).length ≤ k := by
 refine Nat.le_trans (List.length_filter_le _ _) ?_
 simp
 omega
theorem rwC_snoc {α : Type} (c : α → List Value) (L : List α) (x : α) : rwC c (L ++ [x]) = rwC c L ++ c x := by simp [rwC]
theorem dgoers_any (N : Ne) (V : Vw) (vl va vu : Value) (p : List UInt8) (w : World) (hn : Nds w N vl) (hnb : NeB N) (hv : Vws w V va vu) (hb : VwB V) : Calls Tryz.prog 14 #[neV N vl, vwV V va vu, .string (bs p)] w fun r w' => ∃ v', r = .returned (.tuple #[v', .int .i64 (goersR N V p).2]) ∧ w'.ownsRow w.heap.size 58 9 v' (goersR N V p).1.length (rwC usC (goersR N V p).1) ∧ Below w.heap.size w w' := by
 obtain ⟨ix, hi0, hz0, hz1, hz2⟩ := info_parts info_use; have HN := zz hn; obtain ⟨pl, cl, rfl⟩ := hn.slice; have HV := zz hv; obtain ⟨⟨pa, ca, rfl⟩, pu, cu, rfl⟩ := hv.slices; have hn60 : (V.us.length : Int) ≤ 1000 := by have := hb.n; omega
 have HB_ := zz hb; clear hv hb; have HWY := zz (goers_why N V p); obtain ⟨GR, hgr⟩ : ∃ q, q = goersR N V p := ⟨_, rfl⟩; rw [← hgr]; obtain ⟨nr, hnr⟩ : ∃ q, q = needR N := ⟨_, rfl⟩; obtain ⟨vr, hvr⟩ : ∃ q, q = viewR V := ⟨_, rfl⟩; obtain ⟨pe, hpe⟩ : ∃ q, q = decide (p = []) := ⟨_, rfl⟩; obtain ⟨dn, hdn⟩ : ∃ q, q = (denv V.us p).isSome := ⟨_, rfl⟩; have HRR : Hid (GR = if (decide (nr = 0) && (decide (vr = 0) && (pe || dn))) = true then (goersP N V p, 0) else ([], 2)) := zz (by rw [hgr, hnr, hvr, hpe, hdn, ← HWY.o]); have HVO : Hid (vr = 0 ∨ vr = 2) := zz (by rw [hvr]; exact view_or V); have HNO : Hid (nr = 0 ∨ nr = 2) := zz (by rw [hnr]; exact need_or N); have HCN : Hid (∀ wx, Below w.heap.size w wx → Calls Tryz.prog 10 #[neV N (.slice pl N.L.length cl)] wx fun r w' => r = .returned (.int .i64 nr) ∧ Below wx.heap.size wx w') := zz (fun wx hb => by rw [hnr]; exact dcheckNeed_any N _ wx (HN.o.below hb) hnb); have HCV : Hid (∀ wx, Below w.heap.size w wx → Calls Tryz.prog 8 #[vwV V (.slice pa V.at'.length ca) (.slice pu V.us.length cu)] wx fun r w' => r = .returned (.int .i64 vr) ∧ Below wx.heap.size wx w') := zz (fun wx hb => by rw [hvr]; exact dcheckView_any V _ _ wx (HV.o.below hb) HB_.o)
 have HEN : Hid (∀ wx, Below w.heap.size w wx → Calls Tryz.prog 31 #[vwV V (.slice pa V.at'.length ca) (.slice pu V.us.length cu), .string (bs p)] wx fun r w' => r = .returned (.int .i64 (denvI V.us p)) ∧ Below wx.heap.size wx w') := zz (fun wx hb => denv_any V _ _ p wx (HV.o.below hb) HB_.o); have hem := bs_nil0 p; rw [← hpe] at hem; have hneg := denv_neg V.us p; rw [← hdn] at hneg; obtain ⟨dx, hdx⟩ : ∃ q, q = denvI V.us p := ⟨_, rfl⟩; rw [← hdx] at HEN hneg; clear hgr hnr hvr hpe hdn hdx HWY hn hnb; go_enter Tryz.func14, Tryz.ntmps14; go_upto_region 1 with fail; obtain ⟨X, hX⟩ : ∃ q, q = w.heap.size := ⟨_, rfl⟩; refine at_hide (F := fun w' => Blk w' X (neC N (.slice pl N.L.length cl)) 28 ∧ Blk w' (X + 1) (vwC V (.slice pa V.at'.length ca) (.slice pu V.us.length cu)) 32 ∧ Below w.heap.size w w') ⟨by rw [hX]; exact (two_blk w (neC N (.slice pl N.L.length cl)) (vwC V (.slice pa V.at'.length ca) (.slice pu V.us.length cu)) _ _).1, by rw [hX]; exact (two_blk w (neC N (.slice pl N.L.length cl)) (vwC V (.slice pa V.at'.length ca) (.slice pu V.us.length cu)) _ _).2.1, (two_blk w (neC N (.slice pl N.L.length cl)) (vwC V (.slice pa V.at'.length ca) (.slice pu V.us.length cu)) _ _).2.2⟩ ?_
 rw [← hX]; intro w1 hF; have HX1 := zz hF.1; have HY1 := zz hF.2.1; have HB1 : Hid (Below w.heap.size w w1) := zz (by have := hF.2.2; rw [hX] at this; exact this); have HXW : Hid (w.heap.size ≤ X) := zz (by omega); clear hF hX; obtain ⟨n0, n1, n2, n3, n4, n5, n6, n7⟩ := cl8 HX1.o; rcases HNO.o with rfl | rfl; rotate_left
 ·
  have HR : Hid (GR = ([], 2)) := zz (by have h := HRR.o; simp at h; exact h); go_wp2_with (go_at_call 10; refine (HCN.o _ HB1.o).mono ?_; rintro r w2 ⟨rfl, hb⟩; have HB2 := zz (below_and HB1.o hb); have HX2 := zz (HX1.o.kept hb); have HY2 := zz (HY1.o.kept hb); clear hb n0 n1 n2 n3 n4 n5 n6 n7; obtain ⟨c0, c1, c2, c3, c4, c5, c6, c7⟩ := cl8 HY2.o); go_ret2; exact ⟨.slice none 0 0, by rw [HR.o]; rfl, by rw [HR.o]; exact World.ownsRow_nil _ _ _ _, HB2.o⟩
 rcases HVO.o with rfl | rfl; rotate_left
 ·
  have HR : Hid (GR = ([], 2)) := zz (by have h := HRR.o; simp at h; exact h); go_wp2_with (first | (go_at_call 10; refine (HCN.o _ HB1.o).mono ?_; rintro r w2 ⟨rfl, hb⟩; have HB2 := zz (below_and HB1.o hb); have HX2 := zz (HX1.o.kept hb); have HY2 := zz (HY1.o.kept hb); clear hb n0 n1 n2 n3 n4 n5 n6 n7; obtain ⟨c0, c1, c2, c3, c4, c5, c6, c7⟩ := cl8 HY2.o) | (go_at_call 8; refine (HCV.o _ HB2.o).mono ?_; rintro r w3 ⟨rfl, hb⟩; have HB3 := zz (below_and HB2.o hb); have HX3 := zz (HX2.o.kept hb); have HY3 := zz (HY2.o.kept hb); clear hb c0 c1 c2 c3 c4 c5 c6 c7; obtain ⟨c0, c1, c2, c3, c4, c5, c6, c7⟩ := cl8 HY3.o)); go_ret2; exact ⟨.slice none 0 0, by rw [HR.o]; rfl, by rw [HR.o]; exact World.ownsRow_nil _ _ _ _, HB3.o⟩
 cases pe; rotate_left
 ·
  have HR : Hid (GR = (V.us.filter (goer N p), 0)) := zz (by have h := HRR.o; simp at h; exact h); go_upto_region 5 with (first | (go_at_call 10; refine (HCN.o _ HB1.o).mono ?_; rintro r w2 ⟨rfl, hb⟩; have HB2 := zz (below_and HB1.o hb); have HX2 := zz (HX1.o.kept hb); have HY2 := zz (HY1.o.kept hb); clear hb n0 n1 n2 n3 n4 n5 n6 n7; obtain ⟨c0, c1, c2, c3, c4, c5, c6, c7⟩ := cl8 HY2.o) | (go_at_call 8; refine (HCV.o _ HB2.o).mono ?_; rintro r w3 ⟨rfl, hb⟩; have HB3 := zz (below_and HB2.o hb); have HX3 := zz (HX2.o.kept hb); have HY3 := zz (HY2.o.kept hb); clear hb c0 c1 c2 c3 c4 c5 c6 c7; obtain ⟨c0, c1, c2, c3, c4, c5, c6, c7⟩ := cl8 HY3.o)); clear c0 c1 c2 c3 c4 c5 c6 c7
  go_loopw [8, 9] (fun t i wr => ∃ k : Nat, k ≤ V.us.length ∧ i = .int .i64 (k : Int) ∧ Hid (wr.ownsRow w3.heap.size 58 9 t ((V.us.take k).filter (goer N p)).length (rwC usC ((V.us.take k).filter (goer N p)))) ∧ Hid (Below w3.heap.size w3 wr)) (fun _ i _ => V.us.length - (intOf i).toNat)
  case atStart => exact ⟨0, Nat.zero_le _, rfl, zz (World.ownsRow_nil _ _ _ _), zz (Below.refl _ _)⟩
  case round =>
   obtain ⟨k, hk, rfl, HO, HB⟩ := hrel; have HBr : Hid (Below w.heap.size w wr) := zz (below_and HB3.o HB.o); have c7 := (HY3.o.kept HB.o).cell (j := 7) rfl
   by_cases hlt : k < V.us.length
   rotate_left
   ·
    obtain rfl : k = V.us.length := by omega
    rw [List.take_length] at HO; go_wp2; go_ret2; exact ⟨_, by rw [HR.o]; rfl, by rw [HR.o]; exact own_mono HO.o HB3.o.size, HBr.o⟩
   have HKN := zz hlt; obtain ⟨u, hu⟩ : ∃ u, u = V.us[k]'HKN.o := ⟨_, rfl⟩; have HLC := zz ((HV.o.us.below HBr.o).at HKN.o); rw [← hu] at HLC; have HUE := zz hu; clear hu; obtain ⟨b, o, rfl, hcell⟩ := HLC.o; have q0 := hcell 0 _ rfl; rw [Nat.add_zero] at q0; have q1 := hcell 1 _ rfl; have q2 := hcell 2 _ rfl; have q3 := hcell 3 _ rfl; have q4 := hcell 4 _ rfl; have q5 := hcell 5 _ rfl; have q6 := hcell 6 _ rfl; have q7 := hcell 7 _ rfl; have q8 := hcell 8 _ rfl; clear hcell HLC; have i0 : (0 : Int) ≤ (k : Int) := by omega
   have i1 : (k : Int) < (V.us.length : Int) := by omega
   have HGT : Hid ((V.us.take (k + 1)).filter (goer N p) = if goer N p u = true then (V.us.take k).filter (goer N p) ++ [u] else (V.us.take k).filter (goer N p)) := zz (by rw [goers_take HKN.o, ← HUE.o]); have HTL : Hid (((V.us.take k).filter (goer N p)).length ≤ 1000) := zz (by have := goers_lenT N V.us p k; have := HB_.o.n; have := HKN.o; omega); go_upto_region 8 with fail; obtain ⟨Y, hY⟩ : ∃ Y, Y = wr.heap.size := ⟨_, rfl⟩; refine at_hide (F := fun w' => Blk w' Y (usC u) 58 ∧ Below wr.heap.size wr w') ⟨by rw [hY]; exact Blk.made wr (usC u) _, below_alloc _ _⟩ ?_; rw [← hY]; intro w6 hF; have HY6 := zz hF.1; have HB6 : Hid (Below wr.heap.size wr w6) := zz (by have := hF.2; rw [hY] at this; exact this); have HB6w : Hid (Below w3.heap.size w3 w6) := zz (below_and HB.o HB6.o); clear hF hY c7 q0 q1 q2 q3 q4 q5 q6 q7 q8; obtain ⟨y0, y1, y2, y3, y4, y5, y6, y7, y8⟩ := cl9 HY6.o; have n1 := (HX3.o.kept HB6w.o).cell (j := 1) rfl; have HO6 := zz (own_fr HO.o (Fr.of_below HB6.o []) (fun _ _ => by simp)); have hbe := bs_beq u.n p; obtain ⟨e, he⟩ : ∃ e, e = (u.n == p) := ⟨_, rfl⟩; obtain ⟨dl, hdl⟩ : ∃ q, q = decide (u.d < N.d) := ⟨_, rfl⟩; obtain ⟨d2, hd2⟩ : ∃ q, q = decide (u.d < 2) := ⟨_, rfl⟩
   have HGE : Hid (goer N p u = (!u.e && e && dl && d2)) := zz (by rw [he, hdl, hd2]; rfl); rw [HGE.o] at HGT; rw [← he] at hbe; have tl := hdl.symm; have t2 := hd2.symm; clear he hdl hd2 HGE; obtain ⟨T, hT⟩ : ∃ T, T = (V.us.take k).filter (goer N p) := ⟨_, rfl⟩; rw [← hT] at HGT HTL HO6; clear hT HO HUE; obtain ⟨uj, ui, ud, ua, un, ue⟩ := u; simp only at hbe tl t2 HGT y0 y1 y2 y3 y4 y5 y6 y7 y8; cases ue; rotate_left
   ·
    have HNE : Hid ((V.us.take (k + 1)).filter (goer N p) = T) := zz (by rw [HGT.o]; simp); go_wp2; go_roundw
    case rel => exact ⟨k + 1, hlt, by go_num, by rw [HNE.o]; exact HO6, HB6w⟩
    case measure => simp [intOf]; omega
   cases e
   ·
    have HNE : Hid ((V.us.take (k + 1)).filter (goer N p) = T) := zz (by rw [HGT.o]; simp); go_wp2; go_roundw
    case rel => exact ⟨k + 1, hlt, by go_num, by rw [HNE.o]; exact HO6, HB6w⟩
    case measure => simp [intOf]; omega
   cases dl
   ·
    have HNE : Hid ((V.us.take (k + 1)).filter (goer N p) = T) := zz (by rw [HGT.o]; simp); go_wp2; go_roundw
    case rel => exact ⟨k + 1, hlt, by go_num, by rw [HNE.o]; exact HO6, HB6w⟩
    case measure => simp [intOf]; omega
   cases d2
   ·
    have HNE : Hid ((V.us.take (k + 1)).filter (goer N p) = T) := zz (by rw [HGT.o]; simp); go_wp2; go_roundw
    case rel => exact ⟨k + 1, hlt, by go_num, by rw [HNE.o]; exact HO6, HB6w⟩
    case measure => simp [intOf]; omega
   have HNE : Hid ((V.us.take (k + 1)).filter (goer N p) = T ++ [⟨uj, ui, ud, ua, un, false⟩]) := zz (by rw [HGT.o]; simp); have HBn : Hid (Below w6.heap.size w6 (w6.alloc (.cells #[.string (bs uj), .int .i64 ui, .int .i64 ud, .int .i64 ua.c, .int .i64 ua.r, .int .i64 ua.d, .int .i64 ua.p, .string (bs un), .bool false] 58))) := zz (below_alloc w6 _); have HO7 : Hid (World.ownsRow (w6.alloc (.cells #[.string (bs uj), .int .i64 ui, .int .i64 ud, .int .i64 ua.c, .int .i64 ua.r, .int .i64 ua.d, .int .i64 ua.p, .string (bs un), .bool false] 58)) w3.heap.size 58 9 u8 T.length (rwC usC T)) := zz (own_fr HO6.o (Fr.of_below HBn.o []) (fun _ _ => by simp)); have HAN : Hid ((w6.alloc (.cells #[.string (bs uj), .int .i64 ui, .int .i64 ud, .int .i64 ua.c, .int .i64 ua.r, .int .i64 ua.d, .int .i64 ua.p, .string (bs un), .bool false] 58)).heap[w6.heap.size]? = some (.cells #[.string (bs uj), .int .i64 ui, .int .i64 ud, .int .i64 ua.c, .int .i64 ua.r, .int .i64 ua.d, .int .i64 ua.p, .string (bs un), .bool false] 58 (0, 0))) := zz (heap_alloc_new w6 _); go_wp2_with (at_builtin; go_must (refine wpList_app5 rfl _ _ 30 30 rfl w3.heap.size 58 ix (.agg #[.string ⟨#[]⟩, .int .i64 0, .int .i64 0, .int .i64 0, .int .i64 0, .int .i64 0, .int .i64 0, .string ⟨#[]⟩, .bool false]) 9 88 Tryz.underlying30 hi0 hz0 hz1 hz2 rfl _ T.length _ rfl HO7.o _ 1 _ rfl (src_block Tryz.underlying30 _ _ #[_, _, _, _, _, _, _, _, _] HAN.o rfl (by simp [Value.oneCell'])) (by have := HTL.o; unfold maxLen; omega) (by have := HTL.o; omega) (by have := HB6w.o.size; have := HBn.o.size; omega) ?_); intro v5 w7 ho5 hg5 hn5; have HO8 := zz ho5; have HG8 := zz hg5; clear ho5 hg5 hn5)
   have hG : World.grownBy (w6.alloc (.cells #[.string (bs uj), .int .i64 ui, .int .i64 ud, .int .i64 ua.c, .int .i64 ua.r, .int .i64 ua.d, .int .i64 ua.p, .string (bs un), .bool false] 58)) w7 u8.ownBlock := HG8.o; have HG := zz hG; clear hG HG8; go_roundw
   case rel =>
    refine ⟨k + 1, hlt, by go_num, zz ?_, zz ?_⟩
    ·have := HO8.o
     rw [HNE.o, rwC_snoc, List.length_append]; exact this
    ·exact (below_and HB6w.o HBn.o).trans ((Fr.of_grown HG.o).below (fun k hk => (HO7.o.lt k (by simpa using hk)).1) (below_and HB6w.o HBn.o).size)
   case measure => simp [intOf]; omega
 cases dn
 ·
  simp only [Bool.not_false] at hneg; have HR : Hid (GR = ([], 2)) := zz (by have h := HRR.o; simp at h; exact h); go_wp2_with (first | (go_at_call 10; refine (HCN.o _ HB1.o).mono ?_; rintro r w2 ⟨rfl, hb⟩; have HB2 := zz (below_and HB1.o hb); have HX2 := zz (HX1.o.kept hb); have HY2 := zz (HY1.o.kept hb); clear hb n0 n1 n2 n3 n4 n5 n6 n7; obtain ⟨c0, c1, c2, c3, c4, c5, c6, c7⟩ := cl8 HY2.o) | (go_at_call 8; refine (HCV.o _ HB2.o).mono ?_; rintro r w3 ⟨rfl, hb⟩; have HB3 := zz (below_and HB2.o hb); have HX3 := zz (HX2.o.kept hb); have HY3 := zz (HY2.o.kept hb); clear hb c0 c1 c2 c3 c4 c5 c6 c7; obtain ⟨c0, c1, c2, c3, c4, c5, c6, c7⟩ := cl8 HY3.o) | (go_at_call 31; refine (HEN.o _ HB3.o).mono ?_; rintro r w4 ⟨rfl, hb⟩; have HB4 := zz (below_and HB3.o hb); have HX4 := zz (HX3.o.kept hb); have HY4 := zz (HY3.o.kept hb); clear hb c0 c1 c2 c3 c4 c5 c6 c7)); go_ret2; exact ⟨.slice none 0 0, by rw [HR.o]; rfl, by rw [HR.o]; exact World.ownsRow_nil _ _ _ _, HB4.o⟩
 ·
  simp only [Bool.not_true] at hneg; have HR : Hid (GR = (V.us.filter (goer N p), 0)) := zz (by have h := HRR.o; simp at h; exact h); go_upto_region 5 with (first | (go_at_call 10; refine (HCN.o _ HB1.o).mono ?_; rintro r w2 ⟨rfl, hb⟩; have HB2 := zz (below_and HB1.o hb); have HX2 := zz (HX1.o.kept hb); have HY2 := zz (HY1.o.kept hb); clear hb n0 n1 n2 n3 n4 n5 n6 n7; obtain ⟨c0, c1, c2, c3, c4, c5, c6, c7⟩ := cl8 HY2.o) | (go_at_call 8; refine (HCV.o _ HB2.o).mono ?_; rintro r w3 ⟨rfl, hb⟩; have HB3 := zz (below_and HB2.o hb); have HX3 := zz (HX2.o.kept hb); have HY3 := zz (HY2.o.kept hb); clear hb c0 c1 c2 c3 c4 c5 c6 c7; obtain ⟨c0, c1, c2, c3, c4, c5, c6, c7⟩ := cl8 HY3.o) | (go_at_call 31; refine (HEN.o _ HB3.o).mono ?_; rintro r w4 ⟨rfl, hb⟩; have HB4 := zz (below_and HB3.o hb); have HX4 := zz (HX3.o.kept hb); have HY4 := zz (HY3.o.kept hb); clear hb c0 c1 c2 c3 c4 c5 c6 c7))
  go_loopw [8, 9] (fun t i wr => ∃ k : Nat, k ≤ V.us.length ∧ i = .int .i64 (k : Int) ∧ Hid (wr.ownsRow w4.heap.size 58 9 t ((V.us.take k).filter (goer N p)).length (rwC usC ((V.us.take k).filter (goer N p)))) ∧ Hid (Below w4.heap.size w4 wr)) (fun _ i _ => V.us.length - (intOf i).toNat)
  case atStart => exact ⟨0, Nat.zero_le _, rfl, zz (World.ownsRow_nil _ _ _ _), zz (Below.refl _ _)⟩
  case round =>
   obtain ⟨k, hk, rfl, HO, HB⟩ := hrel; have HBr : Hid (Below w.heap.size w wr) := zz (below_and HB4.o HB.o); have c7 := (HY4.o.kept HB.o).cell (j := 7) rfl
   by_cases hlt : k < V.us.length
   rotate_left
   ·
    obtain rfl : k = V.us.length := by omega
    rw [List.take_length] at HO; go_wp2; go_ret2; exact ⟨_, by rw [HR.o]; rfl, by rw [HR.o]; exact own_mono HO.o HB4.o.size, HBr.o⟩
   have HKN := zz hlt; obtain ⟨u, hu⟩ : ∃ u, u = V.us[k]'HKN.o := ⟨_, rfl⟩; have HLC := zz ((HV.o.us.below HBr.o).at HKN.o); rw [← hu] at HLC; have HUE := zz hu; clear hu; obtain ⟨b, o, rfl, hcell⟩ := HLC.o; have q0 := hcell 0 _ rfl; rw [Nat.add_zero] at q0; have q1 := hcell 1 _ rfl; have q2 := hcell 2 _ rfl; have q3 := hcell 3 _ rfl; have q4 := hcell 4 _ rfl; have q5 := hcell 5 _ rfl; have q6 := hcell 6 _ rfl; have q7 := hcell 7 _ rfl; have q8 := hcell 8 _ rfl; clear hcell HLC; have i0 : (0 : Int) ≤ (k : Int) := by omega
   have i1 : (k : Int) < (V.us.length : Int) := by omega
   have HGT : Hid ((V.us.take (k + 1)).filter (goer N p) = if goer N p u = true then (V.us.take k).filter (goer N p) ++ [u] else (V.us.take k).filter (goer N p)) := zz (by rw [goers_take HKN.o, ← HUE.o]); have HTL : Hid (((V.us.take k).filter (goer N p)).length ≤ 1000) := zz (by have := goers_lenT N V.us p k; have := HB_.o.n; have := HKN.o; omega); go_upto_region 8 with fail; obtain ⟨Y, hY⟩ : ∃ Y, Y = wr.heap.size := ⟨_, rfl⟩; refine at_hide (F := fun w' => Blk w' Y (usC u) 58 ∧ Below wr.heap.size wr w') ⟨by rw [hY]; exact Blk.made wr (usC u) _, below_alloc _ _⟩ ?_; rw [← hY]; intro w6 hF; have HY6 := zz hF.1; have HB6 : Hid (Below wr.heap.size wr w6) := zz (by have := hF.2; rw [hY] at this; exact this); have HB6w : Hid (Below w4.heap.size w4 w6) := zz (below_and HB.o HB6.o); clear hF hY c7 q0 q1 q2 q3 q4 q5 q6 q7 q8; obtain ⟨y0, y1, y2, y3, y4, y5, y6, y7, y8⟩ := cl9 HY6.o; have n1 := (HX4.o.kept HB6w.o).cell (j := 1) rfl; have HO6 := zz (own_fr HO.o (Fr.of_below HB6.o []) (fun _ _ => by simp)); have hbe := bs_beq u.n p; obtain ⟨e, he⟩ : ∃ e, e = (u.n == p) := ⟨_, rfl⟩; obtain ⟨dl, hdl⟩ : ∃ q, q = decide (u.d < N.d) := ⟨_, rfl⟩; obtain ⟨d2, hd2⟩ : ∃ q, q = decide (u.d < 2) := ⟨_, rfl⟩
   have HGE : Hid (goer N p u = (!u.e && e && dl && d2)) := zz (by rw [he, hdl, hd2]; rfl); rw [HGE.o] at HGT; rw [← he] at hbe; have tl := hdl.symm; have t2 := hd2.symm; clear he hdl hd2 HGE; obtain ⟨T, hT⟩ : ∃ T, T = (V.us.take k).filter (goer N p) := ⟨_, rfl⟩; rw [← hT] at HGT HTL HO6; clear hT HO HUE; obtain ⟨uj, ui, ud, ua, un, ue⟩ := u; simp only at hbe tl t2 HGT y0 y1 y2 y3 y4 y5 y6 y7 y8; cases ue; rotate_left
   ·
    have HNE : Hid ((V.us.take (k + 1)).filter (goer N p) = T) := zz (by rw [HGT.o]; simp); go_wp2; go_roundw
    case rel => exact ⟨k + 1, hlt, by go_num, by rw [HNE.o]; exact HO6, HB6w⟩
    case measure => simp [intOf]; omega
   cases e
   ·
    have HNE : Hid ((V.us.take (k + 1)).filter (goer N p) = T) := zz (by rw [HGT.o]; simp); go_wp2; go_roundw
    case rel => exact ⟨k + 1, hlt, by go_num, by rw [HNE.o]; exact HO6, HB6w⟩
    case measure => simp [intOf]; omega
   cases dl
   ·
    have HNE : Hid ((V.us.take (k + 1)).filter (goer N p) = T) := zz (by rw [HGT.o]; simp); go_wp2; go_roundw
    case rel => exact ⟨k + 1, hlt, by go_num, by rw [HNE.o]; exact HO6, HB6w⟩
    case measure => simp [intOf]; omega
   cases d2
   ·
    have HNE : Hid ((V.us.take (k + 1)).filter (goer N p) = T) := zz (by rw [HGT.o]; simp); go_wp2; go_roundw
    case rel => exact ⟨k + 1, hlt, by go_num, by rw [HNE.o]; exact HO6, HB6w⟩
    case measure => simp [intOf]; omega
   have HNE : Hid ((V.us.take (k + 1)).filter (goer N p) = T ++ [⟨uj, ui, ud, ua, un, false⟩]) := zz (by rw [HGT.o]; simp); have HBn : Hid (Below w6.heap.size w6 (w6.alloc (.cells #[.string (bs uj), .int .i64 ui, .int .i64 ud, .int .i64 ua.c, .int .i64 ua.r, .int .i64 ua.d, .int .i64 ua.p, .string (bs un), .bool false] 58))) := zz (below_alloc w6 _); have HO7 : Hid (World.ownsRow (w6.alloc (.cells #[.string (bs uj), .int .i64 ui, .int .i64 ud, .int .i64 ua.c, .int .i64 ua.r, .int .i64 ua.d, .int .i64 ua.p, .string (bs un), .bool false] 58)) w4.heap.size 58 9 u8 T.length (rwC usC T)) := zz (own_fr HO6.o (Fr.of_below HBn.o []) (fun _ _ => by simp)); have HAN : Hid ((w6.alloc (.cells #[.string (bs uj), .int .i64 ui, .int .i64 ud, .int .i64 ua.c, .int .i64 ua.r, .int .i64 ua.d, .int .i64 ua.p, .string (bs un), .bool false] 58)).heap[w6.heap.size]? = some (.cells #[.string (bs uj), .int .i64 ui, .int .i64 ud, .int .i64 ua.c, .int .i64 ua.r, .int .i64 ua.d, .int .i64 ua.p, .string (bs un), .bool false] 58 (0, 0))) := zz (heap_alloc_new w6 _); go_wp2_with (at_builtin; go_must (refine wpList_app5 rfl _ _ 30 30 rfl w4.heap.size 58 ix (.agg #[.string ⟨#[]⟩, .int .i64 0, .int .i64 0, .int .i64 0, .int .i64 0, .int .i64 0, .int .i64 0, .string ⟨#[]⟩, .bool false]) 9 88 Tryz.underlying30 hi0 hz0 hz1 hz2 rfl _ T.length _ rfl HO7.o _ 1 _ rfl (src_block Tryz.underlying30 _ _ #[_, _, _, _, _, _, _, _, _] HAN.o rfl (by simp [Value.oneCell'])) (by have := HTL.o; unfold maxLen; omega) (by have := HTL.o; omega) (by have := HB6w.o.size; have := HBn.o.size; omega) ?_); intro v5 w7 ho5 hg5 hn5; have HO8 := zz ho5; have HG8 := zz hg5; clear ho5 hg5 hn5)
   have hG : World.grownBy (w6.alloc (.cells #[.string (bs uj), .int .i64 ui, .int .i64 ud, .int .i64 ua.c, .int .i64 ua.r, .int .i64 ua.d, .int .i64 ua.p, .string (bs un), .bool false] 58)) w7 u8.ownBlock := HG8.o; have HG := zz hG; clear hG HG8; go_roundw
   case rel =>
    refine ⟨k + 1, hlt, by go_num, zz ?_, zz ?_⟩
    ·have := HO8.o
     rw [HNE.o, rwC_snoc, List.length_append]; exact this
    ·exact (below_and HB6w.o HBn.o).trans ((Fr.of_grown HG.o).below (fun k hk => (HO7.o.lt k (by simpa using hk)).1) (below_and HB6w.o HBn.o).size)
   case measure => simp [intOf]; omega
end Go.Proofs.YtdemkfhkibmbnaaGreatDoor.Ft
namespace Go.Proofs.YtdemkfhkibmbnaaGreatDoor
open Go.RowKit
theorem add_bad (x y : Am) (w : World) (ha : (x.okB && y.okB) = false) :
  Calls Tryz.prog 76 #[amV x, amV y] w fun e w' => e = .returned (.tuple #[amV (addR x y).1, .int .i64 (addR x y).2]) ∧ Below w.heap.size w w' := by
 have HA := zz ha; have HR := zz (addR_bad ha); clear ha; obtain ⟨w3, hw3⟩ : ∃ w3, w3 = (((w.alloc (.cells #[.int .i64 x.c, .int .i64 x.r, .int .i64 x.d, .int .i64 x.p] 23)).alloc (.cells #[.int .i64 y.c, .int .i64 y.r, .int .i64 y.d, .int .i64 y.p] 23)).alloc (.cells #[.int .i64 0, .int .i64 0, .int .i64 0, .int .i64 0] 23)) := ⟨_, rfl⟩; obtain ⟨B, hB⟩ : ∃ B, B = w.heap.size := ⟨_, rfl⟩
 have B0 : Hid (Blk w3 B (amC x) 23) := zz (by
  have := ((Blk.made w (amC x) 23).alloc (.cells #[.int .i64 y.c, .int .i64 y.r, .int .i64 y.d, .int .i64 y.p] 23)).alloc (.cells #[.int .i64 0, .int .i64 0, .int .i64 0, .int .i64 0] 23)
  rw [hw3, hB]; exact this)
 have B1 : Hid (Blk w3 (B + 1) (amC y) 23) := zz (by
  have := (Blk.made (w.alloc (.cells #[.int .i64 x.c, .int .i64 x.r, .int .i64 x.d, .int .i64 x.p] 23)) (amC y) 23).alloc (.cells #[.int .i64 0, .int .i64 0, .int .i64 0, .int .i64 0] 23)
  rw [hw3, hB]; simpa using this)
 have B2 : Hid (Blk w3 (B + 1 + 1) (amC .zero) 23) := zz (by
  have := Blk.made ((w.alloc (.cells #[.int .i64 x.c, .int .i64 x.r, .int .i64 x.d, .int .i64 x.p] 23)).alloc (.cells #[.int .i64 y.c, .int .i64 y.r, .int .i64 y.d, .int .i64 y.p] 23)) (amC .zero) 23
  rw [hw3, hB]; simpa [Am.zero] using this)
 have HSZ : Hid (w3.heap.size = B + 3) := zz (by rw [hw3, hB]; simp); have HBW0 : Hid (w.heap.size ≤ B) := zz (by omega); have HBL : Hid (Below w.heap.size w w3) := zz (by rw [hw3]; exact below_and (below_and (below_alloc w _) (below_alloc _ _)) (below_alloc _ _)); obtain ⟨c0, c1, c2, c3⟩ := cl4 B0.o; obtain ⟨c4, c5, c6, c7⟩ := cl4 B1.o; go_enter Tryz.func76, Tryz.ntmps76; go_upto_region 1 with fail; rw [← hw3, ← hB]; clear hw3 hB; go_wp2_with (go_at_call 101; refine (all_two w3 x y).mono ?_; rw [HA.o]; rintro e ws ⟨rfl, hb⟩; have C0 := zz (B0.o.kept hb); have C1 := zz (B1.o.kept hb); have hbr := B2.o.kept hb; have C2 := zz hbr; have HBS := zz (below_and HBL.o hb); have HSS : Hid (B + 3 ≤ ws.heap.size) := zz (by have := hb.size; have := HSZ.o; omega); obtain ⟨r0, r1, r2, r3⟩ := cl4 hbr; obtain ⟨f0, f1, f2, f3⟩ := fz4 hbr; clear hb hbr); refine bodyPost_ret (results_row_tmp rfl _ _ (B + 1 + 1) 23 #[.int .i64 0, .int .i64 0, .int .i64 0, .int .i64 0] (0, 0) _ rfl ?_ Tryz.underlying23 rfl (by kernel_rfl)) rfl ⟨?_, ?_⟩
 ·exact (((C2.o.set 0 (.int .i64 0)).set 1 (.int .i64 0)).set 2 (.int .i64 0)).set 3 (.int .i64 0)
 ·rw [HR.o]; rfl
 ·have hBw : w.heap.size ≤ B + 1 + 1 := by have := HBW0.o; omega
  exact (((HBS.o.setCell (p := ⟨B + 1 + 1, 0, none⟩) hBw _).setCell (p := ⟨B + 1 + 1, 1, none⟩) hBw _).setCell (p := ⟨B + 1 + 1, 2, none⟩) hBw _).setCell (p := ⟨B + 1 + 1, 3, none⟩) hBw _
theorem add_good (x y : Am) (w : World) (ha : (x.okB && y.okB) = true) :
  Calls Tryz.prog 76 #[amV x, amV y] w fun e w' => e = .returned (.tuple #[amV (addR x y).1, .int .i64 (addR x y).2]) ∧ Below w.heap.size w w' := by
 have HA := zz ha; have HX : Hid (x.okB = true) := zz (by simp at ha; exact ha.1); have HY : Hid (y.okB = true) := zz (by simp at ha; exact ha.2); clear ha; obtain ⟨w3, hw3⟩ : ∃ w3, w3 = (((w.alloc (.cells #[.int .i64 x.c, .int .i64 x.r, .int .i64 x.d, .int .i64 x.p] 23)).alloc (.cells #[.int .i64 y.c, .int .i64 y.r, .int .i64 y.d, .int .i64 y.p] 23)).alloc (.cells #[.int .i64 0, .int .i64 0, .int .i64 0, .int .i64 0] 23)) := ⟨_, rfl⟩; obtain ⟨B, hB⟩ : ∃ B, B = w.heap.size := ⟨_, rfl⟩
 have B0 : Hid (Blk w3 B (amC x) 23) := zz (by
  have := ((Blk.made w (amC x) 23).alloc (.cells #[.int .i64 y.c, .int .i64 y.r, .int .i64 y.d, .int .i64 y.p] 23)).alloc (.cells #[.int .i64 0, .int .i64 0, .int .i64 0, .int .i64 0] 23)
  rw [hw3, hB]; exact this)
 have B1 : Hid (Blk w3 (B + 1) (amC y) 23) := zz (by
  have := (Blk.made (w.alloc (.cells #[.int .i64 x.c, .int .i64 x.r, .int .i64 x.d, .int .i64 x.p] 23)) (amC y) 23).alloc (.cells #[.int .i64 0, .int .i64 0, .int .i64 0, .int .i64 0] 23)
  rw [hw3, hB]; simpa using this)
 have B2 : Hid (Blk w3 (B + 1 + 1) (amC .zero) 23) := zz (by
  have := Blk.made ((w.alloc (.cells #[.int .i64 x.c, .int .i64 x.r, .int .i64 x.d, .int .i64 x.p] 23)).alloc (.cells #[.int .i64 y.c, .int .i64 y.r, .int .i64 y.d, .int .i64 y.p] 23)) (amC .zero) 23
  rw [hw3, hB]; simpa [Am.zero] using this)
 have HSZ : Hid (w3.heap.size = B + 3) := zz (by rw [hw3, hB]; simp); have HBW0 : Hid (w.heap.size ≤ B) := zz (by omega); have HBL : Hid (Below w.heap.size w w3) := zz (by rw [hw3]; exact below_and (below_and (below_alloc w _) (below_alloc _ _)) (below_alloc _ _)); obtain ⟨c0, c1, c2, c3⟩ := cl4 B0.o; obtain ⟨c4, c5, c6, c7⟩ := cl4 B1.o; go_enter Tryz.func76, Tryz.ntmps76; go_upto_region 1 with fail; rw [← hw3, ← hB]; clear hw3 hB; go_upto_region 3 with (first | (go_at_call 101; refine (all_two w3 x y).mono ?_; rw [HA.o]; rintro e ws ⟨rfl, hb⟩; have C0 := zz (B0.o.kept hb); have C1 := zz (B1.o.kept hb); have hbr := B2.o.kept hb; have C2 := zz hbr; have HBS := zz (below_and HBL.o hb); have HSS : Hid (B + 3 ≤ ws.heap.size) := zz (by have := hb.size; have := HSZ.o; omega); obtain ⟨r0, r1, r2, r3⟩ := cl4 hbr; obtain ⟨f0, f1, f2, f3⟩ := fz4 hbr; clear hb hbr)); clear c0 c1 c2 c3 c4 c5 c6 c7 r0 r1 r2 r3 f0 f1 f2 f3 B0 B1 B2; obtain ⟨B0, B1⟩ : Hid (Blk ws B (amC x) 23) ∧ Hid (Blk ws (B + 1) (amC y) 23) := ⟨C0, C1⟩
 go_cut [6, 7] (fun sa sb wx => Two ws.heap.size wx sa sb x y ∧ Below ws.heap.size ws wx)
 case first =>
  go_region_held3 (fun w' => w'.cell? ⟨B, 0, none⟩ = some (.int .i64 x.c) ∧ w'.cell? ⟨B, 1, none⟩ = some (.int .i64 x.r) ∧ w'.cell? ⟨B, 2, none⟩ = some (.int .i64 x.d) ∧ w'.cell? ⟨B, 3, none⟩ = some (.int .i64 x.p) ∧ w'.cell? ⟨B + 1, 0, none⟩ = some (.int .i64 y.c) ∧ w'.cell? ⟨B + 1, 1, none⟩ = some (.int .i64 y.r) ∧ w'.cell? ⟨B + 1, 2, none⟩ = some (.int .i64 y.d) ∧ w'.cell? ⟨B + 1, 3, none⟩ = some (.int .i64 y.p)) (refine eight (t := 23) (u := 23) ?_ ?_ <;> (repeat (first | exact B0.o | exact B1.o | apply Blk.drew | apply Blk.alloc)))
   (first | (go_at_call 54; refine (array_exact _ _).mono ?_; rintro e w1 ⟨rfl, rfl⟩))
  all_goals go_wp2_with fail
  all_goals go_meet
  all_goals refine ⟨⟨_, _, rfl, rfl, by omega, by omega, by omega, ?_, ?_⟩, ?_⟩
  all_goals first
   | ((repeat (first | exact Below.refl _ _ | apply bl_drew | (refine bl_alloc _ ?_ (by simp <;> omega)))); done)
   | ((repeat (first | (refine Blk.made_at (cs := amC x) ?_; simp; done) | (refine Blk.made_at (cs := amC y) ?_; simp; done) | apply Blk.drew | apply Blk.alloc)); done)
 case rest =>
  obtain ⟨⟨g, h, rfl, rfl, hgh, hg, hh, hb1, hb2⟩, hbl⟩ := hcut; have HB1 := zz hb1; have HB2 := zz hb2; have HBW := zz hbl; have HGH := zz (show g ≠ h ∧ ws.heap.size ≤ g ∧ ws.heap.size ≤ h from ⟨hgh, hg, hh⟩); clear hb1 hb2 hbl hgh hg hh
  obtain ⟨z, hz⟩ : ∃ z : Am, z = .of fun k => x.get k + y.get k := ⟨_, rfl⟩
  have HZ : Hid (∀ k, k < 4 → z.get k = x.get k + y.get k) := zz (fun k hk => by rw [hz, Am.of_get _ k hk]); clear hz; go_wp2
  go_loopw [19] (fun i wc => ∃ k : Nat, k ≤ 4 ∧ i = .int .i64 (k : Int) ∧ Hid (Blk wc g (amC (Am.mix k x z)) 84) ∧ Hid (Blk wc h (amC y) 84) ∧ Hid (Below ws.heap.size ws wc) ∧ Hid (∀ j, j < k → x.get j + y.get j ≤ 1099511627776)) (fun i _ => 4 - (intOf i).toNat)
  case atStart => exact ⟨0, Nat.zero_le _, rfl, HB1, HB2, HBW, zz (fun j h => by omega)⟩
  case round =>
   obtain ⟨k, hk, rfl, HXa, HYa, HBx, HO⟩ := hrel
   by_cases hlt : k < 4
   ·have i0 : (0 : Int) ≤ (k : Int) := by omega
    have i1 : (k : Int) < 4 := by omega
    have hx := HXa.o.cell (Am.mix_get k hlt x z); have hy := HYa.o.cell (amC_get y hlt); have fx := HXa.o.free k; have hzk := HZ.o k hlt; obtain ⟨p, hp⟩ : ∃ p, p = x.get k := ⟨_, rfl⟩; obtain ⟨q, hq⟩ : ∃ q, q = y.get k := ⟨_, rfl⟩; have p0 : 0 ≤ p ∧ p ≤ 1099511627776 := by rw [hp]; exact ok_get HX.o hlt
    have q0 : 0 ≤ q ∧ q ≤ 1099511627776 := by rw [hq]; exact ok_get HY.o hlt
    obtain ⟨p1, p2⟩ := p0; obtain ⟨q1, q2⟩ := q0; rw [← hp] at hx; rw [← hq] at hy; rw [← hp, ← hq] at hzk; have HZK := zz hzk; have HPQ := zz (show p = x.get k ∧ q = y.get k from ⟨hp, hq⟩); have BR : Hid (Blk wr (B + 1 + 1) (amC .zero) 23) := zz (C2.o.kept HBx.o); clear hp hq hzk
    by_cases hov : 1099511627776 - q < p
    ·have HR := zz (addR_over (x := x) (y := y) (by rw [HX.o, HY.o]; rfl) hlt (by have := HPQ.o; omega))
     have hbr := BR.o; obtain ⟨r0, r1, r2, r3⟩ := cl4 hbr; obtain ⟨f0, f1, f2, f3⟩ := fz4 hbr
     have BRq : ∀ nq, Blk (wr.drewN nq) (B + 1 + 1) (amC .zero) 23 := fun nq => BR.o.kept (below_drewN nq)
     have BLq : ∀ nq, Below w.heap.size w (wr.drewN nq) := fun nq => below_and (below_and HBS.o HBx.o) (below_drewN nq)
     have HBRq := zz BRq; have HBLq := zz BLq; clear hbr BRq BLq; go_wp2
     go_quiet (fail)
     go_wp2; refine bodyPost_ret (results_row_tmp rfl _ _ (B + 1 + 1) 23 #[.int .i64 0, .int .i64 0, .int .i64 0, .int .i64 0] (0, 0) _ rfl ?_ Tryz.underlying23 rfl (by kernel_rfl)) rfl ⟨?_, ?_⟩
     ·exact ((((HBRq.o nq).set 0 (.int .i64 0)).set 1 (.int .i64 0)).set 2 (.int .i64 0)).set 3 (.int .i64 0)
     ·rw [HR.o]; rfl
     ·have hBw : w.heap.size ≤ B + 1 + 1 := by have := HBW0.o; omega
      exact ((((HBLq.o nq).setCell (p := ⟨B + 1 + 1, 0, none⟩) hBw _).setCell (p := ⟨B + 1 + 1, 1, none⟩) hBw _).setCell (p := ⟨B + 1 + 1, 2, none⟩) hBw _).setCell (p := ⟨B + 1 + 1, 3, none⟩) hBw _
    ·have hd : decide (1099511627776 - q < p) = false := by simpa using hov
     have HO2 : Hid (∀ j, j < k + 1 → x.get j + y.get j ≤ 1099511627776) := zz (fun j hj => by
      by_cases h : j < k
      ·exact HO.o j h
      ·obtain rfl : j = k := by omega
       have := HPQ.o; omega)
     have s1 : IntKind.i64.wrap (p + q) = p + q := by rw [IntKind.wrap_i64]; omega
     have s2 : wrap64 (p + q) = p + q := by unfold wrap64; omega
     go_wp2
     go_quiet (fail)
     go_wp2
     go_region
     all_goals go_wp2
     go_roundw
     case rel => exact ⟨k + 1, by omega, by go_num, zz (by
       have := (HXa.o.kept (below_drewN nq)).set k (.int .i64 (z.get k)); rw [Am.mix_set k hlt, HZK.o] at this
       exact this), zz ((HYa.o.kept (below_drewN nq)).other (Ne.symm HGH.o.1) _), zz (bl_drew ((Below.drewN' HBx.o nq).setCell (p := ⟨g, k, none⟩) HGH.o.2.1 _)), HO2⟩
     case measure => simp [intOf]; omega
   ·obtain rfl : k = 4 := by omega
    have HR := zz (addR_ok (x := x) (y := y) (z := z) (by rw [HX.o, HY.o]; rfl) HO.o HZ.o); have hx4 : Blk wr g (amC z) 84 := HXa.o; obtain ⟨z0, z1, z2, z3⟩ := cl4 hx4; have BR : Hid (Blk wr (B + 1 + 1) (amC .zero) 23) := zz (C2.o.kept HBx.o); clear hx4; go_wp2_with (go_at_call 102; refine (amounts_any z _).mono ?_; rintro e w5 ⟨rfl, hb⟩; have hbr := BR.o.kept hb; obtain ⟨r0, r1, r2, r3⟩ := cl4 hbr; obtain ⟨f0, f1, f2, f3⟩ := fz4 hbr; have BR5 := zz hbr; have HB5 := zz (below_and HBS.o (below_and HBx.o hb)); clear hb hbr); refine bodyPost_ret (results_row_tmp rfl _ _ (B + 1 + 1) 23 #[.int .i64 z.c, .int .i64 z.r, .int .i64 z.d, .int .i64 z.p] (0, 0) _ rfl ?_ Tryz.underlying23 rfl (by kernel_rfl)) rfl ⟨?_, ?_⟩
    ·exact (((BR5.o.set 0 (.int .i64 z.c)).set 1 (.int .i64 z.r)).set 2 (.int .i64 z.d)).set 3 (.int .i64 z.p)
    ·rw [HR.o]; rfl
    ·have hBw : w.heap.size ≤ B + 1 + 1 := by have := HBW0.o; omega
     exact (((HB5.o.setCell (p := ⟨B + 1 + 1, 0, none⟩) hBw _).setCell (p := ⟨B + 1 + 1, 1, none⟩) hBw _).setCell (p := ⟨B + 1 + 1, 2, none⟩) hBw _).setCell (p := ⟨B + 1 + 1, 3, none⟩) hBw _
theorem add_any (x y : Am) (w : World) :
  Calls Tryz.prog 76 #[amV x, amV y] w fun e w' => e = .returned (.tuple #[amV (addR x y).1, .int .i64 (addR x y).2]) ∧ Below w.heap.size w w' := by
 cases h : x.okB && y.okB
 ·exact add_bad x y w h
 ·exact add_good x y w h
end Go.Proofs.YtdemkfhkibmbnaaGreatDoor
namespace Go.Proofs.YtdemkfhkibmbnaaGreatDoor.Ft
open Go.RowKit Go.Proofs.YtdemkfhkibmbnaaGreatDoor Go.Proofs.YtdemkfhkibmbnaaGreatDoor.Ru
def OwnU (w : World) (base : Nat) (v : Value) (l : List Us) : Prop := w.ownsRow base 58 9 v l.length (rwC usC l)
theorem OwnU.usw {w : World} {base : Nat} {v : Value} {l : List Us} (h : OwnU w base v l) : Usw w v l := usw_own h
theorem OwnU.kept {w w' : World} {base : Nat} {v : Value} {l : List Us} (h : OwnU w base v l) (hb : Below w.heap.size w w') : OwnU w' base v l := own_fr h (Fr.of_below hb []) (fun _ _ => by simp)
theorem OwnU.fill4 {w : World} {base Z : Nat} {v : Value} {l : List Us} (h : OwnU w base v l) (hz : Z < base) (a b c d : Value) : OwnU ((((w.setCell ⟨Z, 0, none⟩ a).setCell ⟨Z, 1, none⟩ b).setCell ⟨Z, 2, none⟩ c).setCell ⟨Z, 3, none⟩ d) base v l :=
 ownsRow_setCell_below (ownsRow_setCell_below (ownsRow_setCell_below (ownsRow_setCell_below h (a := ⟨Z, 0, none⟩) hz a) (a := ⟨Z, 1, none⟩) hz b) (a := ⟨Z, 2, none⟩) hz c) (a := ⟨Z, 3, none⟩) hz d
theorem addAll_take {l : List Us} {k : Nat} (h : k < l.length) (a : Am) : addAll a (l.take (k + 1)) = (addR (addAll a (l.take k)) l[k].a).1 := by
 unfold addAll
 rw [List.take_succ_eq_append_getElem h, List.foldl_append]
 rfl
theorem at_is (N : Ne) (V : Vw) (p : List UInt8) : atP N V p = if fitsB N.a (roomX V p).1 = true then 2 else if fitsB N.a (addAll (roomX V p).1 (goersP N V p)) = true then 1 else 0 := by
 unfold atP
 have : (roomP V p).getD Am.zero = (roomX V p).1 := by
  unfold roomX
  cases roomP V p <;> rfl
 rw [this]
theorem goersO_any (N : Ne) (V : Vw) (vl va vu : Value) (p : List UInt8) (w : World) (hn : Nds w N vl) (hv : Vws w V va vu) (hl : V.us.length ≤ 1000) :
  Calls Tryz.prog 42 #[neV N vl, vwV V va vu, .string (bs p)] w fun r w' => ∃ v', r = .returned v' ∧ OwnU w' w.heap.size v' (goersP N V p) ∧ Below w.heap.size w w' := by
 obtain ⟨pn, cn, rfl⟩ := hn.slice; obtain ⟨⟨pa, ca, rfl⟩, pu, cu, rfl⟩ := hv.slices; obtain ⟨ln, hln⟩ : ∃ ln, ln = N.L.length := ⟨_, rfl⟩; obtain ⟨la, hla⟩ : ∃ la, la = V.at'.length := ⟨_, rfl⟩; obtain ⟨lu, hlu⟩ : ∃ lu, lu = V.us.length := ⟨_, rfl⟩; have HU : Hid (Usw w (.slice pu lu cu) V.us) := zz (by rw [hlu]; exact hv.us); rw [← hln, ← hla, ← hlu]; have HL := zz hl; clear hn hv hl hln hla hlu; obtain ⟨X, hX⟩ : ∃ X, X = w.heap.size := ⟨_, rfl⟩; go_enter Tryz.func42, Tryz.ntmps42; go_upto_region 1 with fail
 refine at_hide (F := fun w' => Blk w' X (neC N (.slice pn ln cn)) 28 ∧ Blk w' (X + 1) (vwC V (.slice pa la ca) (.slice pu lu cu)) 32 ∧ Blk w' (X + 2) [.string (bs p)] 9 ∧ Below w.heap.size w w') ⟨by
  rw [hX]; exact ((Blk.made w (neC N (.slice pn ln cn)) _).alloc _).alloc _, by
  rw [hX]; have := (Blk.made (w.alloc (.cells (neC N (.slice pn ln cn)).toArray 28)) (vwC V (.slice pa la ca) (.slice pu lu cu)) 32).alloc (.cells #[.string (bs p)] 9); rw [show (w.alloc (.cells (neC N (.slice pn ln cn)).toArray 28)).heap.size = w.heap.size + 1 from by simp] at this
  exact this, by
  rw [hX]; have := Blk.made ((w.alloc (.cells (neC N (.slice pn ln cn)).toArray 28)).alloc (.cells (vwC V (.slice pa la ca) (.slice pu lu cu)).toArray 32)) [.string (bs p)] 9; rw [show ((w.alloc (.cells (neC N (.slice pn ln cn)).toArray 28)).alloc (.cells (vwC V (.slice pa la ca) (.slice pu lu cu)).toArray 32)).heap.size = w.heap.size + 2 from by simp] at this
  exact this, below_and (below_and (below_alloc _ _) (below_alloc _ _)) (below_alloc _ _)⟩ ?_
 intro w1 hF; rw [← hX]; have HB1 : Hid (Below w.heap.size w w1) := zz hF.2.2.2; have c7 := hF.2.1.cell (j := 7) rfl
 have HWH : Hid (Calls Tryz.prog 45 #[.slice pu lu cu, .func (.func 73) #[] #[ptr (X + 2), ptr X]] w1 fun r w' => ∃ v', r = .returned v' ∧ OwnU w' w.heap.size v' (goersP N V p) ∧ Below w1.heap.size w1 w') := zz ((where_goers _ V.us (X + 2) X N p w1 (HU.o.below HB1.o) (hF.2.2.1.cell (j := 0) rfl) (hF.1.cell (j := 1) rfl) HL.o).mono fun r w' h => by
  obtain ⟨v', h1, h2, h3⟩ := h
  exact ⟨v', h1, own_lower h2 HB1.o.size, h3⟩)
 clear hF hX; go_wp2_with (go_at_call 45; refine HWH.o.mono ?_; rintro r w2 ⟨v', rfl, hu, hb⟩; have HU2 := zz hu; have HB2 := zz (below_and HB1.o hb); clear hu hb); go_ret; exact ⟨_, rfl, HU2.o, HB2.o⟩
structure AtW (w wx : World) (X Z : Nat) (D C : List Value) (a : Am) : Prop where
 bn : Blk wx X D 28
 bv : Blk wx (X + 1) C 32
 bz : Blk wx Z (amC a) 23
 hb : Below w.heap.size w wx
theorem AtW.kept {w wx wy : World} {X Z : Nat} {D C : List Value} {a : Am} (h : AtW w wx X Z D C a) (hb : Below wx.heap.size wx wy) : AtW w wy X Z D C a := ⟨h.bn.kept hb, h.bv.kept hb, h.bz.kept hb, below_and h.hb hb⟩
theorem AtW.fill {w wx : World} {X Z : Nat} {D C : List Value} {a b : Am} (h : AtW w wx X Z D C a) (hz : X + 1 < Z) (hw : w.heap.size ≤ Z) : AtW w ((((wx.setCell ⟨Z, 0, none⟩ (.int .i64 b.c)).setCell ⟨Z, 1, none⟩ (.int .i64 b.r)).setCell ⟨Z, 2, none⟩ (.int .i64 b.d)).setCell ⟨Z, 3, none⟩ (.int .i64 b.p)) X Z D C b :=
 ⟨blk_off4 h.bn (by omega), blk_off4 h.bv (by omega), blk_fill4 h.bz, below_fill4 h.hb hw _ _ _ _⟩
theorem at_any (N : Ne) (V : Vw) (vl va vu : Value) (p : List UInt8) (w : World) (hn : Nds w N vl) (hv : Vws w V va vu) (hk : VwOk V) :
  Calls Tryz.prog 44 #[neV N vl, vwV V va vu, .string (bs p)] w fun r w' => r = .returned (.int .i64 (atP N V p)) ∧ Below w.heap.size w w' := by
 obtain ⟨pn, cn, rfl⟩ := hn.slice; obtain ⟨⟨pa, ca, rfl⟩, pu, cu, rfl⟩ := hv.slices; obtain ⟨ln, hln⟩ : ∃ ln, ln = N.L.length := ⟨_, rfl⟩; obtain ⟨la, hla⟩ : ∃ la, la = V.at'.length := ⟨_, rfl⟩; obtain ⟨lu, hlu⟩ : ∃ lu, lu = V.us.length := ⟨_, rfl⟩; obtain ⟨G, hG⟩ : ∃ G, G = goersP N V p := ⟨_, rfl⟩; obtain ⟨d, hd⟩ : ∃ d, d = roomX V p := ⟨_, rfl⟩
 have HRM : Hid (∀ w', Below w.heap.size w w' → Calls Tryz.prog 26 #[vwV V (.slice pa la ca) (.slice pu lu cu), .string (bs p)] w' fun r w2 => r = .returned (.tuple #[amV d.1, .bool d.2]) ∧ Below w'.heap.size w' w2) := zz (fun w' hb => by
  rw [hla, hlu, hd]
  exact room_any V _ _ p w' (hv.below hb) hk.n hk.j)
 have HGO : Hid (∀ w', Below w.heap.size w w' → Calls Tryz.prog 42 #[neV N (.slice pn ln cn), vwV V (.slice pa la ca) (.slice pu lu cu), .string (bs p)] w' fun r w2 => ∃ v' c', r = .returned (.slice v' G.length c') ∧ OwnU w2 w'.heap.size (.slice v' G.length c') G ∧ Below w'.heap.size w' w2) := zz (fun w' hb => by
  rw [hln, hla, hlu, hG]
  refine (goersO_any N V _ _ _ p w' (hn.below hb) (hv.below hb) hk.n).mono fun r w2 h => ?_
  obtain ⟨v', rfl, h2, h3⟩ := h; obtain ⟨q, c, rfl⟩ := h2.usw.slice
  exact ⟨q, c, rfl, h2, h3⟩)
 have HAT : Hid (atP N V p = if fitsB N.a d.1 = true then 2 else if fitsB N.a (addAll d.1 G) = true then 1 else 0) := zz (by rw [hd, hG]; exact at_is N V p); have HGL : Hid (G.length ≤ 1000) := zz (by rw [hG]; exact Nat.le_trans (List.length_filter_le _ _) hk.n); rw [← hln, ← hla, ← hlu]; clear hn hv hk hln hla hlu hG hd; obtain ⟨d1, d2⟩ := d; simp only at HRM HAT; obtain ⟨m, hm⟩ : ∃ m, m = G.length := ⟨_, rfl⟩; rw [← hm] at HGO HGL; have HM := zz hm; have hm63 : (m : Int) ≤ 1000 := by have := HGL.o; omega
 clear hm; have HFI : Hid (∀ y w', Calls Tryz.prog 75 #[amV N.a, amV y] w' fun r w2 => r = .returned (.bool (fitsB N.a y)) ∧ Below w'.heap.size w' w2) := zz (fun y w' => fits_any N.a y w'); obtain ⟨X, hX⟩ : ∃ X, X = w.heap.size := ⟨_, rfl⟩; go_enter Tryz.func44, Tryz.ntmps44; go_upto_region 1 with fail; obtain ⟨D, hD⟩ : ∃ D, D = neC N (.slice pn ln cn) := ⟨_, rfl⟩; obtain ⟨C, hC⟩ : ∃ C, C = vwC V (.slice pa la ca) (.slice pu lu cu) := ⟨_, rfl⟩; refine at_hide (F := fun w' => GeW w w' X D C ∧ w'.heap.size = X + 2) ⟨by rw [hX, hD, hC]; exact GeW.made w N V _ _ _, by rw [hX]; simp⟩ ?_; intro w1 hF; rw [← hX]; have HW1 := zz hF.1; have HZ1 := zz hF.2; have HC := zz hC; have HD := zz hD; have HXW : Hid (w.heap.size ≤ X) := zz (by omega); have c0 := HW1.o.bv.cell (j := 0) (by rw [hC]; rfl); have c1 := HW1.o.bv.cell (j := 1) (by rw [hC]; rfl); have c2 := HW1.o.bv.cell (j := 2) (by rw [hC]; rfl); have c3 := HW1.o.bv.cell (j := 3) (by rw [hC]; rfl); have c4 := HW1.o.bv.cell (j := 4) (by rw [hC]; rfl); have c5 := HW1.o.bv.cell (j := 5) (by rw [hC]; rfl); have c6 := HW1.o.bv.cell (j := 6) (by rw [hC]; rfl); have c7 := HW1.o.bv.cell (j := 7) (by rw [hC]; rfl)
 clear hF hX hC hD; go_upto_region 2 with (go_at_call 26; refine (HRM.o _ HW1.o.hb).mono ?_; rintro r w3 ⟨rfl, hb⟩; have HW3 := zz (HW1.o.kept hb); have HS3 : Hid (X + 2 ≤ w3.heap.size) := zz (by have := hb.size; rw [HZ1.o] at this; exact this); clear hb); obtain ⟨Z, hZ⟩ : ∃ Z, Z = w3.heap.size := ⟨_, rfl⟩; refine at_hide (F := fun w' => AtW w w' X Z D C d1 ∧ Z < w'.heap.size) ⟨by rw [hZ]; exact ⟨HW3.o.bn.alloc _, HW3.o.bv.alloc _, Blk.made w3 (amC d1) _, below_and HW3.o.hb (below_alloc _ _)⟩, by rw [hZ]; simp⟩ ?_; rw [← hZ]; intro w4 hF; have HW4 := zz hF.1; have HZ4 := zz hF.2; have HXZ : Hid (X + 1 < Z) := zz (by have := HS3.o; omega); clear hF hZ HW3 HS3 c0 c1 c2 c3 c4 c5 c6 c7 HRM HW1 HZ1; have z0 := HW4.o.bz.cell (j := 0) (rfl); have z1 := HW4.o.bz.cell (j := 1) (rfl); have z2 := HW4.o.bz.cell (j := 2) (rfl); have z3 := HW4.o.bz.cell (j := 3) (rfl); have n2 := HW4.o.bn.cell (j := 2) (by rw [HD.o]; rfl); have n3 := HW4.o.bn.cell (j := 3) (by rw [HD.o]; rfl); have n4 := HW4.o.bn.cell (j := 4) (by rw [HD.o]; rfl); have n5 := HW4.o.bn.cell (j := 5) (by rw [HD.o]; rfl)
 cases hf : fitsB N.a d1 with
 | true =>
  have HF1 := zz (HFI.o d1); rw [hf] at HF1; rw [hf, if_pos rfl] at HAT; clear hf; go_wp2_with (go_at_call 75; refine (HF1.o _).mono ?_; rintro r w5 ⟨rfl, hb⟩; have HW5 := zz (HW4.o.kept hb); clear hb); go_ret; rw [HAT.o]; exact ⟨rfl, HW5.o.hb⟩
 | false =>
  have HF1 := zz (HFI.o d1); rw [hf] at HF1; rw [hf, if_neg (by decide)] at HAT; clear hf; go_upto_region 4 with (go_at_call 75; refine (HF1.o _).mono ?_; rintro r w5 ⟨rfl, hb⟩; have HW5 := zz (HW4.o.kept hb); have HZ5 : Hid (Z < w5.heap.size) := zz (Nat.lt_of_lt_of_le HZ4.o hb.size); clear hb); clear z0 z1 z2 z3 n2 n3 n4 n5 HF1; have n0 := HW5.o.bn.cell (j := 0) (by rw [HD.o]; rfl); have n1 := HW5.o.bn.cell (j := 1) (by rw [HD.o]; rfl); have n2 := HW5.o.bn.cell (j := 2) (by rw [HD.o]; rfl); have n3 := HW5.o.bn.cell (j := 3) (by rw [HD.o]; rfl); have n4 := HW5.o.bn.cell (j := 4) (by rw [HD.o]; rfl); have n5 := HW5.o.bn.cell (j := 5) (by rw [HD.o]; rfl); have n6 := HW5.o.bn.cell (j := 6) (by rw [HD.o]; rfl); have n7 := HW5.o.bn.cell (j := 7) (by rw [HD.o]; rfl); have c0 := HW5.o.bv.cell (j := 0) (by rw [HC.o]; rfl); have c1 := HW5.o.bv.cell (j := 1) (by rw [HC.o]; rfl); have c2 := HW5.o.bv.cell (j := 2) (by rw [HC.o]; rfl); have c3 := HW5.o.bv.cell (j := 3) (by rw [HC.o]; rfl); have c4 := HW5.o.bv.cell (j := 4) (by rw [HC.o]; rfl); have c5 := HW5.o.bv.cell (j := 5) (by rw [HC.o]; rfl); have c6 := HW5.o.bv.cell (j := 6) (by rw [HC.o]; rfl); have c7 := HW5.o.bv.cell (j := 7) (by rw [HC.o]; rfl)
  go_wp2_with (go_at_call 42; refine (HGO.o _ HW5.o.hb).mono ?_; rintro r w6 ⟨q, cq, rfl, hu, hb⟩; have HU6 := zz hu; have HW6 := zz (HW5.o.kept hb); clear hu hb); obtain ⟨bb, hbb⟩ : ∃ bb, bb = w5.heap.size := ⟨_, rfl⟩; rw [← hbb] at HU6 HZ5; clear hbb n0 n1 n2 n3 n4 n5 n6 n7 c0 c1 c2 c3 c4 c5 c6 c7 HGO HW4 HZ4 HW5
  go_loopw [26] (fun i wr => ∃ k : Nat, k ≤ m ∧ i = .int .i64 (k : Int) ∧ Hid (OwnU wr bb (.slice q m cq) G) ∧ Hid (AtW w wr X Z D C (addAll d1 (G.take k)))) (fun i _ => m - (intOf i).toNat)
  case atStart => exact ⟨0, Nat.zero_le _, rfl, HU6, HW6⟩
  case round =>
   obtain ⟨k, hk, rfl, HU, HW⟩ := hrel; obtain ⟨cur, hcur⟩ : ∃ cur, cur = addAll d1 (G.take k) := ⟨_, rfl⟩
   by_cases hlt : k < m
   ·have HKN : Hid (k < G.length) := zz (by have := HM.o; omega)
    obtain ⟨u, hu⟩ : ∃ u, u = G[k]'HKN.o := ⟨_, rfl⟩; have HLC := zz (HU.o.usw.at HKN.o); rw [← hu] at HLC; have HNX : Hid (addAll d1 (G.take (k + 1)) = (addR cur u.a).1) := zz (by rw [hu, hcur]; exact addAll_take HKN.o d1); rw [← hcur] at HW; clear hu hcur; obtain ⟨b, o, rfl, hcell⟩ := HLC.o; have q0 := hcell 0 _ rfl; rw [Nat.add_zero] at q0; have q1 := hcell 1 _ rfl; have q2 := hcell 2 _ rfl; have q3 := hcell 3 _ rfl; have q4 := hcell 4 _ rfl; have q5 := hcell 5 _ rfl; have q6 := hcell 6 _ rfl; have q7 := hcell 7 _ rfl; have q8 := hcell 8 _ rfl; clear hcell HLC; go_upto_region 7 with fail; obtain ⟨Y, hY⟩ : ∃ Y, Y = wr.heap.size := ⟨_, rfl⟩; refine at_hide (F := fun w' => Blk w' Y (usC u) 58 ∧ OwnU w' bb (.slice (some ⟨b, o, none⟩) m cq) G ∧ AtW w w' X Z D C cur) ⟨by rw [hY]; exact Blk.made wr (usC u) _, HU.o.kept (below_alloc _ _), HW.o.kept (below_alloc _ _)⟩ ?_; rw [← hY]; intro w7 hF; have HY7 := zz hF.1; have HU7 := zz hF.2.1; have HW7 := zz hF.2.2; clear hF hY q0 q1 q2 q3 q4 q5 q6 q7 q8 HW HU; obtain ⟨-, -, -, y3, y4, y5, y6⟩ := cl7 HY7.o; have z0 := HW7.o.bz.cell (j := 0) (rfl); have z1 := HW7.o.bz.cell (j := 1) (rfl); have z2 := HW7.o.bz.cell (j := 2) (rfl); have z3 := HW7.o.bz.cell (j := 3) (rfl)
    obtain ⟨e, he⟩ : ∃ e, e = addR cur u.a := ⟨_, rfl⟩; have HAD : Hid (Calls Tryz.prog 76 #[amV cur, amV u.a] w7 fun r w' => r = .returned (.tuple #[amV e.1, .int .i64 e.2]) ∧ Below w7.heap.size w7 w') := zz (by rw [he]; exact add_any cur u.a w7); rw [← he] at HNX; clear he; obtain ⟨e1, e2⟩ := e; simp only at HAD HNX; go_wp2_with (go_at_call 76; refine HAD.o.mono ?_; rintro r w8 ⟨rfl, hb⟩; have HU8 := zz (HU7.o.kept hb); have HW8 := zz (HW7.o.kept hb); obtain ⟨f0, f1, f2, f3⟩ := fz4 HW8.o.bz; obtain ⟨s0, s1, s2, s3⟩ := cl4 HW8.o.bz; clear hb); refine ⟨⟨k + 1, by omega, by go_num, zz (HU8.o.fill4 HZ5.o _ _ _ _), zz (by rw [HNX.o]; exact HW8.o.fill HXZ.o (by have := HXW.o; have := HXZ.o; omega))⟩, by simp [intOf]; omega⟩
   ·obtain rfl : k = m := by omega
    have HCR : Hid (cur = addAll d1 G) := zz (by rw [hcur, HM.o, List.take_length]); rw [← hcur] at HW; rw [← HCR.o] at HAT; clear hcur HCR; have z0 := HW.o.bz.cell (j := 0) (rfl); have z1 := HW.o.bz.cell (j := 1) (rfl); have z2 := HW.o.bz.cell (j := 2) (rfl); have z3 := HW.o.bz.cell (j := 3) (rfl); have n2 := HW.o.bn.cell (j := 2) (by rw [HD.o]; rfl); have n3 := HW.o.bn.cell (j := 3) (by rw [HD.o]; rfl); have n4 := HW.o.bn.cell (j := 4) (by rw [HD.o]; rfl); have n5 := HW.o.bn.cell (j := 5) (by rw [HD.o]; rfl); have HF2 := zz (HFI.o cur)
    cases hf : fitsB N.a cur with
    | true =>
     rw [hf] at HF2; rw [hf, if_pos rfl] at HAT; clear hf; go_wp2_with (go_at_call 75; refine (HF2.o _).mono ?_; rintro r w9 ⟨rfl, hb⟩; have HW9 := zz (HW.o.kept hb); clear hb); go_ret; rw [HAT.o]; exact ⟨rfl, HW9.o.hb⟩
    | false =>
     rw [hf] at HF2; rw [hf, if_neg (by decide)] at HAT; clear hf; go_wp2_with (go_at_call 75; refine (HF2.o _).mono ?_; rintro r w9 ⟨rfl, hb⟩; have HW9 := zz (HW.o.kept hb); clear hb); go_ret; rw [HAT.o]; exact ⟨rfl, HW9.o.hb⟩
theorem room_okX {V : Vw} {p : List UInt8} (hvr : viewR V = 0) (hp : p = [] ∨ (denv V.us p).isSome = true) : roomR V p = ((roomX V p).1, 0) := by
 have h1 := room_why V p
 have hc : (decide (viewR V = 0) && (decide (p = []) || (denv V.us p).isSome)) = true := by
  rw [hvr]; rcases hp with h | h <;> simp [h]
 rw [if_pos hc] at h1; have h2 := roomR_is V p; rw [if_pos hvr] at h2; cases hx : (roomX V p).2
 ·rw [hx] at h2
  simp only [Bool.false_eq_true, if_false] at h2; rw [h2] at h1; have := congrArg Prod.snd h1
  simp at this
 ·rw [hx] at h2
  simpa using h2
theorem goers_okX {N : Ne} {V : Vw} {p : List UInt8} (hnr : needR N = 0) (hvr : viewR V = 0) (hp : p = [] ∨ (denv V.us p).isSome = true) : goersR N V p = (goersP N V p, 0) := by
 rw [goers_why, hnr, hvr]; rcases hp with h | h <;> simp [h]
theorem dplace_any (N : Ne) (V : Vw) (vl va vu : Value) (p : List UInt8) (w : World) (hn : Nds w N vl) (hnb : NeB N) (hv : Vws w V va vu) (hb : VwB V) (hnr : needR N = 0) (hvr : viewR V = 0) (hp : p = [] ∨ (denv V.us p).isSome = true) : Calls Tryz.prog 49 #[neV N vl, vwV V va vu, .string (bs p)] w fun r w' => r = .returned (.int .i64 (atP N V p)) ∧ Below w.heap.size w w' := by
 have HN := zz hn; obtain ⟨pl, cl, rfl⟩ := hn.slice; have HV := zz hv; obtain ⟨⟨pa, ca, rfl⟩, pu, cu, rfl⟩ := hv.slices; have hn60 : (V.us.length : Int) ≤ 1000 := by have := hb.n; omega
 have HB_ := zz hb; clear hv hb; have HAI := zz (at_is N V p); obtain ⟨A, hA⟩ : ∃ q, q = atP N V p := ⟨_, rfl⟩; rw [← hA]; obtain ⟨r0, hr0⟩ : ∃ q, q = (roomX V p).1 := ⟨_, rfl⟩; obtain ⟨G, hG⟩ : ∃ q, q = goersP N V p := ⟨_, rfl⟩; have HRM : Hid (∀ wx, Below w.heap.size w wx → Calls Tryz.prog 12 #[vwV V (.slice pa V.at'.length ca) (.slice pu V.us.length cu), .string (bs p)] wx fun r w' => r = .returned (.tuple #[amV r0, .int .i64 0]) ∧ Below wx.heap.size wx w') := zz (fun wx hb => by have := droom_any V _ _ p wx (HV.o.below hb) HB_.o; rw [room_okX hvr hp] at this; rw [hr0]; exact this); have HGO : Hid (∀ wx, Below w.heap.size w wx → Calls Tryz.prog 14 #[neV N (.slice pl N.L.length cl), vwV V (.slice pa V.at'.length ca) (.slice pu V.us.length cu), .string (bs p)] wx fun r w' => ∃ v', r = .returned (.tuple #[v', .int .i64 0]) ∧ w'.ownsRow wx.heap.size 58 9 v' G.length (rwC usC G) ∧ Below wx.heap.size wx w') := zz (fun wx hb => by have := dgoers_any N V _ _ _ p wx (HN.o.below hb) hnb (HV.o.below hb) HB_.o; rw [goers_okX hnr hvr hp] at this; rw [hG]; exact this); obtain ⟨f1, hf1⟩ : ∃ q, q = fitsB N.a r0 := ⟨_, rfl⟩
 obtain ⟨aR, haR⟩ : ∃ q, q = addAll r0 G := ⟨_, rfl⟩; obtain ⟨f2, hf2⟩ : ∃ q, q = fitsB N.a aR := ⟨_, rfl⟩; have HAT : Hid (A = if f1 = true then 2 else if f2 = true then 1 else 0) := zz (by rw [hA, hf1, hf2, haR, hr0, hG]; exact HAI.o); have HF1 : Hid (∀ wx, Calls Tryz.prog 62 #[amV N.a, amV r0] wx fun e w' => e = .returned (.bool f1) ∧ Below wx.heap.size wx w') := zz (fun wx => by rw [hf1]; exact rfits_any N.a r0 wx); have HF2 : Hid (∀ wx, Calls Tryz.prog 62 #[amV N.a, amV aR] wx fun e w' => e = .returned (.bool f2) ∧ Below wx.heap.size wx w') := zz (fun wx => by rw [hf2]; exact rfits_any N.a aR wx); have HAR := zz haR; have hgl0 : G.length ≤ V.us.length := by rw [hG]; exact List.length_filter_le _ _
 have hgl : (G.length : Int) ≤ 1000 := by omega
 clear hgl0 hA hr0 hG hf1 haR hf2 HAI hn hnb hnr hvr hp; go_enter Tryz.func49, Tryz.ntmps49; go_upto_region 1 with fail; obtain ⟨X, hX⟩ : ∃ q, q = w.heap.size := ⟨_, rfl⟩; refine at_hide (F := fun w' => Blk w' X (neC N (.slice pl N.L.length cl)) 28 ∧ Blk w' (X + 1) (vwC V (.slice pa V.at'.length ca) (.slice pu V.us.length cu)) 32 ∧ Below w.heap.size w w') ⟨by rw [hX]; exact (two_blk w (neC N (.slice pl N.L.length cl)) (vwC V (.slice pa V.at'.length ca) (.slice pu V.us.length cu)) _ _).1, by rw [hX]; exact (two_blk w (neC N (.slice pl N.L.length cl)) (vwC V (.slice pa V.at'.length ca) (.slice pu V.us.length cu)) _ _).2.1, (two_blk w (neC N (.slice pl N.L.length cl)) (vwC V (.slice pa V.at'.length ca) (.slice pu V.us.length cu)) _ _).2.2⟩ ?_; rw [← hX]; intro w1 hF; have HX1 := zz hF.1; have HY1 := zz hF.2.1; have HB1 : Hid (Below w.heap.size w w1) := zz (by have := hF.2.2; rw [hX] at this; exact this); have HXW : Hid (w.heap.size ≤ X) := zz (by omega); clear hF hX; obtain ⟨c0, c1, c2, c3, c4, c5, c6, c7⟩ := cl8 HY1.o; go_upto_region 2 with (go_at_call 12; refine (HRM.o _ HB1.o).mono ?_; rintro r w2 ⟨rfl, hb⟩; have HB2 := zz (below_and HB1.o hb); have HX2 := zz (HX1.o.kept hb); have HY2 := zz (HY1.o.kept hb); clear hb)
 obtain ⟨Z, hZ⟩ : ∃ Z, Z = w2.heap.size := ⟨_, rfl⟩; have HXZ : Hid (X + 1 < Z) := zz (by rw [hZ]; exact HY2.o.lt); have HZW : Hid (w.heap.size ≤ Z) := zz (by have := HB2.o.size; omega); refine at_hide (F := fun w' => Blk w' Z (amC r0) 23 ∧ Below w2.heap.size w2 w') ⟨by rw [hZ]; exact Blk.made w2 (amC r0) _, below_alloc _ _⟩ ?_; rw [← hZ]; intro w3 hF; have hb3 : Below w2.heap.size w2 w3 := by have := hF.2; rw [hZ] at this; exact this
 have HZ3 := zz hF.1; have HB3 := zz (below_and HB2.o hb3); have HX3 := zz (HX2.o.kept hb3); have HY3 := zz (HY2.o.kept hb3); clear hF hZ hb3 c0 c1 c2 c3 c4 c5 c6 c7; obtain ⟨z0, z1, z2, z3⟩ := cl4 HZ3.o; obtain ⟨-, -, n2, n3, n4, n5⟩ := cl6 HX3.o; cases f1; rotate_left
 ·
  have HR : Hid (A = 2) := zz HAT.o; go_wp2_with (go_at_call 62; refine (HF1.o _).mono ?_; rintro r w4 ⟨rfl, hb⟩; have HB4 := zz (below_and HB3.o hb); have HX4 := zz (HX3.o.kept hb); have HY4 := zz (HY3.o.kept hb); have HZ4 := zz (HZ3.o.kept hb); clear hb z0 z1 z2 z3 n2 n3 n4 n5; obtain ⟨n0, n1, n2, n3, n4, n5, n6, n7⟩ := cl8 HX4.o; obtain ⟨c0, c1, c2, c3, c4, c5, c6, c7⟩ := cl8 HY4.o); go_ret; exact ⟨by rw [HR.o]; rfl, HB4.o⟩
 go_upto_region 5 with (first | (go_at_call 62; refine (HF1.o _).mono ?_; rintro r w4 ⟨rfl, hb⟩; have HB4 := zz (below_and HB3.o hb); have HX4 := zz (HX3.o.kept hb); have HY4 := zz (HY3.o.kept hb); have HZ4 := zz (HZ3.o.kept hb); clear hb z0 z1 z2 z3 n2 n3 n4 n5; obtain ⟨n0, n1, n2, n3, n4, n5, n6, n7⟩ := cl8 HX4.o; obtain ⟨c0, c1, c2, c3, c4, c5, c6, c7⟩ := cl8 HY4.o) | (go_at_call 14; refine (HGO.o _ HB4.o).mono ?_; rintro r w5 ⟨v5, rfl, ho, hb⟩; have HO5 := zz ho; have HB5 := zz (below_and HB4.o hb); have HX5 := zz (HX4.o.kept hb); have HZ5 := zz (HZ4.o.kept hb); clear hb ho n0 n1 n2 n3 n4 n5 n6 n7 c0 c1 c2 c3 c4 c5 c6 c7)); obtain ⟨pg, cg, rfl, hcg, hcm⟩ := own_slice HO5.o; have HZ4L : Hid (Z < w4.heap.size) := zz HZ4.o.lt; clear hcg hcm; go_upto_region 6 with fail
 go_loopw [11] (fun i wr => ∃ k : Nat, k ≤ G.length ∧ i = .int .i64 (k : Int) ∧ Hid (Blk wr Z (amC (addAll r0 (G.take k))) 23) ∧ Hid (Fr [Z] w5 wr)) (fun i _ => G.length - (intOf i).toNat)
 case atStart => exact ⟨0, Nat.zero_le _, rfl, HZ5, zz (Fr.refl _ _)⟩
 case round =>
  obtain ⟨k, hk, rfl, HZr, HFR⟩ := hrel; have HBr : Hid (Below w.heap.size w wr) := zz (HB5.o.trans (HFR.o.below (fun x hx => by rw [List.mem_singleton] at hx; rw [hx]; exact HZW.o) HB5.o.size)); have HXr := zz (HX5.o.fr HFR.o (by rw [List.mem_singleton]; have := HXZ.o; omega))
  by_cases hlt : k < G.length
  rotate_left
  ·
   obtain rfl : k = G.length := by omega
   rw [List.take_length, ← HAR.o] at HZr; obtain ⟨z0, z1, z2, z3⟩ := cl4 HZr.o; obtain ⟨-, -, n2, n3, n4, n5⟩ := cl6 HXr.o; cases f2
   ·
    have HR : Hid (A = 0) := zz HAT.o; go_wp2_with (go_at_call 62; refine (HF2.o _).mono ?_; rintro r w6 ⟨rfl, hb⟩; have HB6 := zz (below_and HBr.o hb); clear hb); go_ret; exact ⟨by rw [HR.o]; rfl, HB6.o⟩
   ·
    have HR : Hid (A = 1) := zz HAT.o; go_wp2_with (go_at_call 62; refine (HF2.o _).mono ?_; rintro r w6 ⟨rfl, hb⟩; have HB6 := zz (below_and HBr.o hb); clear hb); go_ret; exact ⟨by rw [HR.o]; rfl, HB6.o⟩
  have HKN := zz hlt; have HOr := zz (own_fr HO5.o HFR.o (fun g hg => by rw [List.mem_singleton]; have := own_lo HO5.o hg; have := HZ4L.o; omega)); obtain ⟨x, hx⟩ : ∃ x, x = G[k]'HKN.o := ⟨_, rfl⟩; have HLC := zz ((usw_own HOr.o).at HKN.o); rw [← hx] at HLC; have HXE := zz hx; clear hx; obtain ⟨b, o, rfl, hcell⟩ := HLC.o; have q3 := Past.cell (hcell 3 _ rfl); have q4 := Past.cell (hcell 4 _ rfl); have q5 := Past.cell (hcell 5 _ rfl); have q6 := Past.cell (hcell 6 _ rfl); clear hcell HLC; have i0 : (0 : Int) ≤ (k : Int) := by omega
  have i1 : (k : Int) < (G.length : Int) := by omega
  obtain ⟨ca9, hca⟩ : ∃ q, q = addAll r0 (G.take k) := ⟨_, rfl⟩; obtain ⟨s9, hs9⟩ : ∃ q, q = addR ca9 x.a := ⟨_, rfl⟩; have HAX : Hid (addAll r0 (G.take (k + 1)) = s9.1) := zz (by rw [addAll_take HKN.o, ← HXE.o, ← hca, hs9]); rw [← hca] at HZr; have HAD : Hid (∀ s : Past wr, Calls Tryz.prog 79 #[amV ca9, amV x.a] s.val fun e w' => e = .returned (.tuple #[amV s9.1, .int .i64 s9.2]) ∧ Below s.val.heap.size s.val w') := zz (fun s => by rw [hs9]; exact radd_any ca9 x.a s.val); clear hca hs9; obtain ⟨sm, se⟩ := s9; simp only at HAX HAD; obtain ⟨z0, z1, z2, z3⟩ := ps4 HZr.o; go_upto_region 8 with fail; refine wp_region_late1 rfl (by kernel_rfl) (by kernel_rfl) (by kernel_rfl) (by kernel_rfl) (by kernel_rfl) ?_
  repeat (go_big_quiet_step ((go_at_call 79; exact past_call (HAD.o _))))
  refine wpQuiet_past ?_; intro w9 h9; have HZ9 := zz (HZr.o.kept h9); have HF9 := zz (HFR.o.then (Fr.of_below h9 [Z])); clear h9 z0 z1 z2 z3 q3 q4 q5 q6; obtain ⟨z0, z1, z2, z3⟩ := cl4 HZ9.o; obtain ⟨g0, g1, g2, g3⟩ := fz4 HZ9.o; go_wp2; refine NoPanic.normal ?_; refine at_hide (F := fun w' => Blk w' Z (amC sm) 23 ∧ Fr [Z] w5 w') ⟨blk_fill4 HZ9.o, (((HF9.o.set (p := ⟨Z, 0, none⟩) (by simp) _).set (p := ⟨Z, 1, none⟩) (by simp) _).set (p := ⟨Z, 2, none⟩) (by simp) _).set (p := ⟨Z, 3, none⟩) (by simp) _⟩ ?_; intro w10 hF; have HZ10 := zz hF.1; have HF10 := zz hF.2; clear hF z0 z1 z2 z3 g0 g1 g2 g3; go_wp2; go_roundw
  case rel => exact ⟨k + 1, hlt, by go_num, by rw [HAX.o]; exact HZ10, HF10⟩
  case measure => simp [intOf]; omega
theorem step_is (N : Ne) (V : Vw) (s : Int × List UInt8 × Int) (u : Us) : stepF N V s u = if (decide (s.1 < atP N V (nmU u)) || (atP N V (nmU u) == s.1 && decide (0 < atP N V (nmU u)) && decide (u.i < s.2.2))) = true then (atP N V (nmU u), nmU u, u.i) else s := by
 unfold stepF
 simp only [gt_iff_lt, Bool.or_eq_true, Bool.and_eq_true, decide_eq_true_eq, beq_iff_eq, and_assoc]
theorem fold_take {α β : Type} (f : β → α → β) {l : List α} {k : Nat} (h : k < l.length) (s : β) : (l.take (k + 1)).foldl f s = f ((l.take k).foldl f s) l[k] := by
 rw [List.take_succ_eq_append_getElem h, List.foldl_append]
 rfl
theorem fit_is (N : Ne) (V : Vw) : fitP N V = if needR N = 0 then (if viewR V = 0 then (if (V.up && (holdsR N.L V.at').1) = true then (if N.n = [] then (atP N V [], [], 0) else ((bestP N V).1, (bestP N V).2.1, 0)) else (0, [], 0)) else (0, [], 2)) else (0, [], 2) := by
 unfold fitP needR viewR
 cases checkN N
 ·rfl
 ·cases checkV V
  ·rfl
  ·cases V.up
   ·rfl
   ·cases (holdsR N.L V.at').1 <;> rfl
theorem fit_any (N : Ne) (V : Vw) (vl va vu : Value) (w : World) (hn : Nds w N vl) (hnk : NeOk N) (hv : Vws w V va vu) (hk : VwOk V) (hE : ErrV w) (hT : Tab w) :
  Calls Tryz.prog 15 #[neV N vl, vwV V va vu] w fun r w' => r = .returned (.tuple #[.int .i64 (fitP N V).1, .string (bs (fitP N V).2.1), .int .i64 (fitP N V).2.2]) ∧ Below w.heap.size w w' := by
 obtain ⟨pn, cn, rfl⟩ := hn.slice; obtain ⟨⟨pa, ca, rfl⟩, pu, cu, rfl⟩ := hv.slices; obtain ⟨ln, hln⟩ : ∃ ln, ln = N.L.length := ⟨_, rfl⟩; obtain ⟨la, hla⟩ : ∃ la, la = V.at'.length := ⟨_, rfl⟩; obtain ⟨lu, hlu⟩ : ∃ lu, lu = V.us.length := ⟨_, rfl⟩; obtain ⟨rn, hrn⟩ : ∃ rn, rn = needR N := ⟨_, rfl⟩; obtain ⟨rv, hrv⟩ : ∃ rv, rv = viewR V := ⟨_, rfl⟩; obtain ⟨d, hd⟩ : ∃ d, d = holdsR N.L V.at' := ⟨_, rfl⟩; obtain ⟨E, hEE⟩ : ∃ E, E = envs N V := ⟨_, rfl⟩; obtain ⟨A, hA⟩ : ∃ A : List UInt8 → Int, A = atP N V := ⟨_, rfl⟩
 have HCN : Hid (∀ w', Below w.heap.size w w' → Calls Tryz.prog 9 #[neV N (.slice pn ln cn)] w' fun r w2 => r = .returned (.int .i64 rn) ∧ Below w'.heap.size w' w2) := zz (fun w' hb => by
  rw [hln, hrn]
  exact checkNeed_any N _ w' (hn.below hb) hnk (hE.below hb) (hT.below hb))
 have HCV : Hid (∀ w', Below w.heap.size w w' → Calls Tryz.prog 7 #[vwV V (.slice pa la ca) (.slice pu lu cu)] w' fun r w2 => r = .returned (.int .i64 rv) ∧ Below w'.heap.size w' w2) := zz (fun w' hb => by
  rw [hla, hlu, hrv]
  exact checkView_any V _ _ w' (hv.below hb) hk)
 have HHO : Hid (∀ w', Below w.heap.size w w' → Calls Tryz.prog 43 #[.agg #[.slice pn ln cn], .slice pa la ca] w' fun r w2 => r = .returned (.tuple #[.bool d.1, .int .i64 d.2]) ∧ Below w'.heap.size w' w2) := zz (fun w' hb => by
  rw [hln, hla, hd]
  exact holds_any _ _ N.L V.at' w' (hn.below hb) (hv.at'.below hb) hnk.L (fun a ha => Nat.le_trans (hk.at' a ha) (by decide)) (hE.below hb) (hT.below hb))
 have HAT : Hid (∀ q w', Below w.heap.size w w' → Calls Tryz.prog 44 #[neV N (.slice pn ln cn), vwV V (.slice pa la ca) (.slice pu lu cu), .string (bs q)] w' fun r w2 => r = .returned (.int .i64 (A q)) ∧ Below w'.heap.size w' w2) := zz (fun q w' hb => by
  rw [hln, hla, hlu, hA]
  exact at_any N V _ _ _ q w' (hn.below hb) (hv.below hb) hk)
 have HWE : Hid (∀ X w', Below w.heap.size w w' → w'.cell? ⟨X, 7, none⟩ = some (.string (bs N.n)) → Calls Tryz.prog 45 #[.slice pu lu cu, .func (.func 46) #[] #[ptr X]] w' fun r w2 => ∃ q c, r = .returned (.slice q E.length c) ∧ Usw w2 (.slice q E.length c) E ∧ Below w'.heap.size w' w2) := zz (fun X w' hb hc => by
  rw [hlu, hEE]
  refine (where_env _ V.us X N.n w' (hv.us.below hb) hc hk.n).mono fun r w2 h => ?_
  obtain ⟨v', rfl, h2, h3⟩ := h; obtain ⟨q, c, rfl⟩ := (usw_own h2).slice
  exact ⟨q, c, rfl, usw_own h2, h3⟩)
 have HN2 : Hid (rn = 0 ∨ rn = 2) := zz (by rw [hrn]; exact need_or N); have HV2 : Hid (rv = 0 ∨ rv = 2) := zz (by rw [hrv]; exact view_or V); have HFR : Hid (fitP N V = if rn = 0 then (if rv = 0 then (if (V.up && d.1) = true then (if N.n = [] then (A [], [], 0) else ((bestP N V).1, (bestP N V).2.1, 0)) else (0, [], 0)) else (0, [], 2)) else (0, [], 2)) := zz (by rw [hrn, hrv, hd, hA]; exact fit_is N V); have HBP : Hid (bestP N V = E.foldl (stepF N V) (0, [], 0)) := zz (by rw [hEE]; rfl); have HST : Hid (∀ s u, stepF N V s u = if (decide (s.1 < A (nmU u)) || (A (nmU u) == s.1 && decide (0 < A (nmU u)) && decide (u.i < s.2.2))) = true then (A (nmU u), nmU u, u.i) else s) := zz (by rw [hA]; exact step_is N V); have HEL : Hid (E.length ≤ 1000) := zz (by rw [hEE]; exact Nat.le_trans (List.length_filter_le _ _) hk.n)
 have HEJ : Hid (∀ u ∈ E, u.j.length ≤ 1000000000000000) := zz (by
  rw [hEE]; intro u hu
  exact hk.j u (List.mem_filter.1 hu).1)
 rw [← hln, ← hla, ← hlu]; clear hn hnk hv hk hE hT hln hla hlu hrn hrv hd hEE hA; obtain ⟨d1, d2⟩ := d; simp only at HHO HFR; obtain ⟨X, hX⟩ : ∃ X, X = w.heap.size := ⟨_, rfl⟩; go_enter Tryz.func15, Tryz.ntmps15; go_upto_region 1 with fail; obtain ⟨D, hD⟩ : ∃ D, D = neC N (.slice pn ln cn) := ⟨_, rfl⟩; obtain ⟨C, hC⟩ : ∃ C, C = vwC V (.slice pa la ca) (.slice pu lu cu) := ⟨_, rfl⟩; refine at_hide (F := fun w' => GeW w w' X D C) (by rw [hX, hD, hC]; exact GeW.made w N V _ _ _) ?_; intro w1 hF; rw [← hX]; have HW1 := zz hF; have HC := zz hC; have HD := zz hD; have n0 := HW1.o.bn.cell (j := 0) (by rw [hD]; rfl); have n1 := HW1.o.bn.cell (j := 1) (by rw [hD]; rfl); have n2 := HW1.o.bn.cell (j := 2) (by rw [hD]; rfl); have n3 := HW1.o.bn.cell (j := 3) (by rw [hD]; rfl); have n4 := HW1.o.bn.cell (j := 4) (by rw [hD]; rfl); have n5 := HW1.o.bn.cell (j := 5) (by rw [hD]; rfl); have n6 := HW1.o.bn.cell (j := 6) (by rw [hD]; rfl); have n7 := HW1.o.bn.cell (j := 7) (by rw [hD]; rfl); clear hF hX hC hD; go_upto_region 2 with (go_at_call 9; refine (HCN.o _ HW1.o.hb).mono ?_; rintro r w2 ⟨rfl, hb⟩; have HW2 := zz (HW1.o.kept hb); clear hb)
 clear n0 n1 n2 n3 n4 n5 n6 n7 HW1 HCN; obtain h0 | h0 := HN2.o; rotate_left
 ·subst h0
  rw [if_neg (by decide)] at HFR; go_wp2; go_ret3; rw [HFR.o]; exact ⟨rfl, HW2.o.hb⟩
 subst h0; rw [if_pos rfl] at HFR; have c0 := HW2.o.bv.cell (j := 0) (by rw [HC.o]; rfl); have c1 := HW2.o.bv.cell (j := 1) (by rw [HC.o]; rfl); have c2 := HW2.o.bv.cell (j := 2) (by rw [HC.o]; rfl); have c3 := HW2.o.bv.cell (j := 3) (by rw [HC.o]; rfl); have c4 := HW2.o.bv.cell (j := 4) (by rw [HC.o]; rfl); have c5 := HW2.o.bv.cell (j := 5) (by rw [HC.o]; rfl); have c6 := HW2.o.bv.cell (j := 6) (by rw [HC.o]; rfl); have c7 := HW2.o.bv.cell (j := 7) (by rw [HC.o]; rfl); go_upto_region 5 with (go_at_call 7; refine (HCV.o _ HW2.o.hb).mono ?_; rintro r w3 ⟨rfl, hb⟩; have HW3 := zz (HW2.o.kept hb); clear hb); clear c0 c1 c2 c3 c4 c5 c6 c7 HW2 HCV; obtain h0 | h0 := HV2.o; rotate_left
 ·subst h0
  rw [if_neg (by decide)] at HFR; go_wp2; go_ret3; rw [HFR.o]; exact ⟨rfl, HW3.o.hb⟩
 subst h0; rw [if_pos rfl] at HFR; have n6 := HW3.o.bn.cell (j := 6) (by rw [HD.o]; rfl); have c1 := HW3.o.bv.cell (j := 1) (by rw [HC.o]; rfl); go_upto_region 8 with (go_at_call 43; refine (HHO.o _ HW3.o.hb).mono ?_; rintro r w4 ⟨rfl, hb⟩; have HW4 := zz (HW3.o.kept hb); clear hb); clear n6 c1 HW3 HHO HN2 HV2; have c6 := HW4.o.bv.cell (j := 6) (by rw [HC.o]; rfl); have n7 := HW4.o.bn.cell (j := 7) (by rw [HD.o]; rfl)
 cases hup : V.up with
 | false =>
  rw [hup] at c6 HFR; rw [if_neg (by simp)] at HFR; clear hup; go_wp2; go_ret3; rw [HFR.o]; exact ⟨rfl, HW4.o.hb⟩
 | true =>
 rw [hup] at c6 HFR; clear hup
 cases d1 with
 | false =>
  rw [if_neg (by decide)] at HFR; go_wp2; go_ret3; rw [HFR.o]; exact ⟨rfl, HW4.o.hb⟩
 | true =>
 rw [if_pos (show (true && true) = true from rfl)] at HFR; go_upto_region 10 with fail; clear c6; obtain ⟨pe, hpq⟩ : ∃ pe, pe = (bs N.n).toList.isEmpty := ⟨_, rfl⟩; have hpe := hpq.symm
 have HPE : Hid ((pe = true → N.n = []) ∧ (pe = false → N.n ≠ [])) := zz (by
  constructor
  ·intro e
   by_cases hp : N.n = []
   ·exact hp
   ·rw [hpq, bs_cons hp] at e; cases e
  ·intro e hp
   rw [hpq, hp, bs_nil] at e; cases e)
 clear hpq
 cases pe with
 | true =>
  rw [if_pos (HPE.o.1 rfl)] at HFR; have HA0 : Hid (∀ w', Below w.heap.size w w' → Calls Tryz.prog 44 #[neV N (.slice pn ln cn), vwV V (.slice pa la ca) (.slice pu lu cu), .string ⟨#[]⟩] w' fun r w2 => r = .returned (.int .i64 (A [])) ∧ Below w'.heap.size w' w2) := zz (fun w' hb => HAT.o [] w' hb); clear HAT HPE; have n0 := HW4.o.bn.cell (j := 0) (by rw [HD.o]; rfl); have n1 := HW4.o.bn.cell (j := 1) (by rw [HD.o]; rfl); have n2 := HW4.o.bn.cell (j := 2) (by rw [HD.o]; rfl); have n3 := HW4.o.bn.cell (j := 3) (by rw [HD.o]; rfl); have n4 := HW4.o.bn.cell (j := 4) (by rw [HD.o]; rfl); have n5 := HW4.o.bn.cell (j := 5) (by rw [HD.o]; rfl); have n6 := HW4.o.bn.cell (j := 6) (by rw [HD.o]; rfl); have c0 := HW4.o.bv.cell (j := 0) (by rw [HC.o]; rfl); have c1 := HW4.o.bv.cell (j := 1) (by rw [HC.o]; rfl); have c2 := HW4.o.bv.cell (j := 2) (by rw [HC.o]; rfl); have c3 := HW4.o.bv.cell (j := 3) (by rw [HC.o]; rfl); have c4 := HW4.o.bv.cell (j := 4) (by rw [HC.o]; rfl); have c5 := HW4.o.bv.cell (j := 5) (by rw [HC.o]; rfl); have c6 := HW4.o.bv.cell (j := 6) (by rw [HC.o]; rfl); have c7 := HW4.o.bv.cell (j := 7) (by rw [HC.o]; rfl); go_wp2_with (go_at_call 44; refine (HA0.o _ HW4.o.hb).mono ?_; rintro r w5 ⟨rfl, hb⟩; have HW5 := zz (HW4.o.kept hb); clear hb)
  go_ret3; rw [HFR.o]; exact ⟨rfl, HW5.o.hb⟩
 | false =>
  rw [if_neg (HPE.o.2 rfl)] at HFR; clear HPE; have HWX := zz (HWE.o X w4 HW4.o.hb n7); clear HWE; have c7 := HW4.o.bv.cell (j := 7) (by rw [HC.o]; rfl); go_wp2_with (go_at_call 45; refine HWX.o.mono ?_; rintro r w5 ⟨q, cq, rfl, hu, hb⟩; have HU5 := zz hu; have HW5 := zz (HW4.o.kept hb); clear hu hb); clear c7 n7 hpe HW4 HWX; obtain ⟨m, hm⟩ : ∃ m, m = E.length := ⟨_, rfl⟩; rw [← hm] at HU5 HEL ⊢; have HM := zz hm; have hm63 : (m : Int) ≤ 1000 := by have := HEL.o; omega
  clear hm
  go_loopw [4, 5, 11, 53] (fun a b c i wr => ∃ (k : Nat) (s : Int × List UInt8 × Int), k ≤ m ∧ a = .int .i64 s.1 ∧ b = .string (bs s.2.1) ∧ c = .int .i64 s.2.2 ∧ i = .int .i64 (k : Int) ∧ Hid (s = (E.take k).foldl (stepF N V) (0, [], 0)) ∧ Hid (Usw wr (.slice q m cq) E) ∧ Hid (GeW w wr X D C)) (fun _ _ _ i _ => m - (intOf i).toNat)
  case atStart => exact ⟨0, (0, [], 0), Nat.zero_le _, rfl, rfl, rfl, rfl, zz rfl, HU5, HW5⟩
  case round =>
   obtain ⟨k, s, hk, rfl, rfl, rfl, rfl, HS, HU, HW⟩ := hrel; clear HU5 HW5
   by_cases hlt : k < m
   ·have HKN : Hid (k < E.length) := zz (by have := HM.o; omega)
    obtain ⟨u, hu⟩ : ∃ u, u = E[k]'HKN.o := ⟨_, rfl⟩; have HLC := zz (HU.o.at HKN.o); rw [← hu] at HLC; obtain ⟨nm, hnm⟩ : ∃ nm, nm = nmU u := ⟨_, rfl⟩; obtain ⟨kk, hkk⟩ : ∃ kk, kk = A nm := ⟨_, rfl⟩
    have HNX : Hid ((E.take (k + 1)).foldl (stepF N V) (0, [], 0) = if (decide (s.1 < kk) || (kk == s.1 && decide (0 < kk) && decide (u.i < s.2.2))) = true then (kk, nm, u.i) else s) := zz (by
     rw [fold_take _ HKN.o, ← HS.o, ← hu, HST.o, ← hnm, ← hkk])
    have HTS : Hid (∀ w', Calls Tryz.prog 47 #[.agg #[.string (bs u.j), .int .i64 u.i]] w' fun r w2 => r = .returned (.tuple #[.string (bs nm), .int .i64 (taskE u.j u.i)]) ∧ Below w'.heap.size w' w2) := zz (fun w' => by
     rw [hnm]
     exact task_any u.j u.i w' (HEJ.o u (by rw [hu]; exact List.getElem_mem _)))
    have HAN := zz (HAT.o nm); rw [← hkk] at HAN; obtain ⟨te, hte⟩ : ∃ te, te = taskE u.j u.i := ⟨_, rfl⟩; rw [← hte] at HTS; clear hu hnm hkk hte; obtain ⟨b, o, rfl, hcell⟩ := HLC.o; have q0 := hcell 0 _ rfl; rw [Nat.add_zero] at q0; have q1 := hcell 1 _ rfl; have q2 := hcell 2 _ rfl; have q3 := hcell 3 _ rfl; have q4 := hcell 4 _ rfl; have q5 := hcell 5 _ rfl; have q6 := hcell 6 _ rfl; have q7 := hcell 7 _ rfl; have q8 := hcell 8 _ rfl; clear hcell HLC; go_upto_region 16 with fail; obtain ⟨Y, hY⟩ : ∃ Y, Y = wr.heap.size := ⟨_, rfl⟩; refine at_hide (F := fun w' => Blk w' Y (usC u) 58 ∧ Usw w' (.slice (some ⟨b, o, none⟩) m cq) E ∧ GeW w w' X D C) ⟨by rw [hY]; exact Blk.made wr (usC u) _, HU.o.below (below_alloc _ _), HW.o.kept (below_alloc _ _)⟩ ?_; rw [← hY]; intro w7 hF; have HY7 := zz hF.1; have HU7 := zz hF.2.1; have HW7 := zz hF.2.2; clear hF hY q0 q1 q2 q3 q4 q5 q6 q7 q8 HW HU; obtain ⟨y0, y1⟩ := cl2 HY7.o
    go_upto_region 18 with (first
     | (go_at_call 47; refine (HTS.o _).mono ?_; rintro r w8 ⟨rfl, hb⟩; have HY8 := zz (HY7.o.kept hb); have HU8 := zz (HU7.o.below hb); have HW8 := zz (HW7.o.kept hb); have n0 := HW8.o.bn.cell (j := 0) (by rw [HD.o]; rfl); have n1 := HW8.o.bn.cell (j := 1) (by rw [HD.o]; rfl); have n2 := HW8.o.bn.cell (j := 2) (by rw [HD.o]; rfl); have n3 := HW8.o.bn.cell (j := 3) (by rw [HD.o]; rfl); have n4 := HW8.o.bn.cell (j := 4) (by rw [HD.o]; rfl); have n5 := HW8.o.bn.cell (j := 5) (by rw [HD.o]; rfl); have n6 := HW8.o.bn.cell (j := 6) (by rw [HD.o]; rfl); have n7 := HW8.o.bn.cell (j := 7) (by rw [HD.o]; rfl); have c0 := HW8.o.bv.cell (j := 0) (by rw [HC.o]; rfl); have c1 := HW8.o.bv.cell (j := 1) (by rw [HC.o]; rfl); have c2 := HW8.o.bv.cell (j := 2) (by rw [HC.o]; rfl); have c3 := HW8.o.bv.cell (j := 3) (by rw [HC.o]; rfl); have c4 := HW8.o.bv.cell (j := 4) (by rw [HC.o]; rfl); have c5 := HW8.o.bv.cell (j := 5) (by rw [HC.o]; rfl); have c6 := HW8.o.bv.cell (j := 6) (by rw [HC.o]; rfl); have c7 := HW8.o.bv.cell (j := 7) (by rw [HC.o]; rfl); clear hb)
     | (go_at_call 44; refine (HAN.o _ HW8.o.hb).mono ?_; rintro r w9 ⟨rfl, hb⟩; have HY9 := zz (HY8.o.kept hb); have HU9 := zz (HU8.o.below hb); have HW9 := zz (HW8.o.kept hb); clear hb))
    clear n0 n1 n2 n3 n4 n5 n6 n7 c0 c1 c2 c3 c4 c5 c6 c7 HY7 HY8 HU7 HU8 HW7 HW8 HTS HAN y0 y1 HAT HFR HBP HST HEJ; have x1 := HY9.o.cell (j := 1) rfl; obtain ⟨kd, sn, ix⟩ := s; obtain ⟨g1, hg1⟩ : ∃ g1, g1 = decide (kd < kk) := ⟨_, rfl⟩; obtain ⟨g2, hg2⟩ : ∃ g2, g2 = (kk == kd) := ⟨_, rfl⟩; obtain ⟨g3, hg3⟩ : ∃ g3, g3 = decide (0 < kk) := ⟨_, rfl⟩; obtain ⟨g4, hg4⟩ : ∃ g4, g4 = decide (u.i < ix) := ⟨_, rfl⟩; simp only at HNX; rw [← hg1, ← hg2, ← hg3, ← hg4] at HNX; have t1 := hg1.symm; have t2 := hg2.symm; have t3 := hg3.symm; have t4 := hg4.symm; clear hg1 hg2 hg3 hg4; have HTK : Hid ((g1 || (g2 && g3 && g4)) = true → ∀ n : Nat, ∃ (j : Nat) (s : Int × List UInt8 × Int), j ≤ m ∧ Value.int .i64 kk = .int .i64 s.1 ∧ Value.string (bs nm) = .string (bs s.2.1) ∧ Value.int .i64 u.i = .int .i64 s.2.2 ∧ Value.int .i64 ((k : Int) + 1) = .int .i64 (j : Int) ∧ Hid (s = (E.take j).foldl (stepF N V) (0, [], 0)) ∧ Hid (Usw (w9.drewN n) (.slice (some ⟨b, o, none⟩) m cq) E) ∧ Hid (GeW w (w9.drewN n) X D C)) := zz (fun h n => ⟨k + 1, (kk, nm, u.i), by omega, rfl, rfl, rfl, by go_num, zz (by rw [HNX.o, if_pos h]), zz (HU9.o.below (below_drewN n)), zz (HW9.o.kept (below_drewN n))⟩); have HKP : Hid ((g1 || (g2 && g3 && g4)) = false → ∃ (j : Nat) (s : Int × List UInt8 × Int), j ≤ m ∧ Value.int .i64 kd = .int .i64 s.1 ∧ Value.string (bs sn) = .string (bs s.2.1) ∧ Value.int .i64 ix = .int .i64 s.2.2 ∧ Value.int .i64 ((k : Int) + 1) = .int .i64 (j : Int) ∧ Hid (s = (E.take j).foldl (stepF N V) (0, [], 0)) ∧ Hid (Usw w9 (.slice (some ⟨b, o, none⟩) m cq) E) ∧ Hid (GeW w w9 X D C)) := zz (fun h => ⟨k + 1, (kd, sn, ix), by omega, rfl, rfl, rfl, by go_num, zz (by rw [HNX.o, if_neg (by rw [h]; decide)]), HU9, HW9⟩)
    clear HNX HS
    cases g1 with
    | true =>
     go_wp2
     go_quiet (fail)
     go_wp2; exact ⟨HTK.o rfl _, by simp [intOf]; omega⟩
    | false =>
     cases g2 with
     | false =>
      go_wp2; exact ⟨HKP.o rfl, by simp [intOf]; omega⟩
     | true =>
      cases g3 with
      | false =>
       go_wp2; exact ⟨HKP.o rfl, by simp [intOf]; omega⟩
      | true =>
       cases g4 with
       | false =>
        go_wp2; exact ⟨HKP.o rfl, by simp [intOf]; omega⟩
       | true =>
        go_wp2
        go_quiet (fail)
        go_wp2; exact ⟨HTK.o rfl _, by simp [intOf]; omega⟩
   ·obtain rfl : k = m := by omega
    have HSE : Hid (fitP N V = (s.1, s.2.1, 0)) := zz (by rw [HFR.o, HBP.o, HS.o, HM.o, List.take_length]); go_wp2; go_ret3; rw [HSE.o]; exact ⟨rfl, HW.o.hb⟩
