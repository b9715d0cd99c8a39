/- FdWhere, Maps2. -/
import Derived.Test.YtdemkfhkibmbnaaGreatDoorM28
set_option maxRecDepth 100000
set_option maxHeartbeats 8000000
namespace Go.Proofs.YtdemkfhkibmbnaaGreatDoor.Ft
open Go.RowKit Go.Proofs.YtdemkfhkibmbnaaGreatDoor Go.Proofs.YtdemkfhkibmbnaaGreatDoor.Ru
structure VwB (V : Vw) : Prop where
 n : V.us.length ≤ 1000
 us : ∀ u ∈ V.us, u.j.length ≤ 140737488351232
 nm : V.nm.length ≤ 140737488351232
 at' : ∀ a ∈ V.at', a.nm.length ≤ 140737488351232 ∧ a.vl.length ≤ 140737488351232
theorem two_blk (w : World) (cs ds : List Value) (t t' : TypeId) : Blk ((w.alloc (.cells cs.toArray t)).alloc (.cells ds.toArray t')) w.heap.size cs t ∧ Blk ((w.alloc (.cells cs.toArray t)).alloc (.cells ds.toArray t')) (w.heap.size + 1) ds t' ∧ Below w.heap.size w ((w.alloc (.cells cs.toArray t)).alloc (.cells ds.toArray t')) := by
 refine ⟨Blk.alloc (Blk.made w cs _) _, ?_, below_and (below_alloc _ _) (below_alloc _ _)⟩; have := Blk.made (w.alloc (.cells cs.toArray t)) ds t'; rw [show (w.alloc (.cells cs.toArray t)).heap.size = w.heap.size + 1 from by simp] at this; exact this
theorem ret_cell1w {P : Program} {fn : Func} {R : Ending → World → Prop} {a : Act} {w : World} {p : Tmp} {ty t : TypeId} {g : Nat} {cs : List Value} {d : TypeDesc} (h : fn.results = #[.cell p ty]) (hd : a.defers = [])
  (hp : a.tmps.getD p undef = .pointer (some ⟨g, 0, none⟩)) (hg : Blk w g cs t) (hu : P.underlying ty = some d) (hs : (match d with | .struct _ | .array _ _ => true | _ => false) = true) (hi : (P.info? ty).map (·.size) = some cs.length)
  (hR : R (.returned (.agg cs.toArray)) w) : bodyPost P fn R .ret a w :=
 bodyPost_ret (results_cell_row h a.tmps w g t cs.toArray (0, 0) d hp hg hu hs (by simpa using hi)) hd hR
theorem bs_nil0 (l : List UInt8) : ((bs l).toList == ([] : List UInt8)) = decide (l = []) := by
 rw [Lib.toList_data]
 by_cases h : l = [] <;> simp [bs, h]
def isD (p : List UInt8) (u : Us) : Bool := u.e && nmU u == p
def denvI (l : List Us) (p : List UInt8) : Int := if l.findIdx (isD p) < l.length then (l.findIdx (isD p) : Int) else -1
theorem denvI_of {l : List Us} {p : List UInt8} {k : Nat} (hk : k < l.length) (h1 : isD p l[k] = true) (h2 : ∀ j (h : j < l.length), j < k → isD p l[j] = false) : denvI l p = (k : Int) := by
 have : l.findIdx (isD p) = k := by
  rw [List.findIdx_eq hk]; exact ⟨h1, fun j hj => h2 j (by omega) hj⟩
 unfold denvI
 rw [this, if_pos hk]
theorem denvI_no {l : List Us} {p : List UInt8} (h : ∀ j (h : j < l.length), isD p l[j] = false) : denvI l p = -1 := by
 unfold denvI
 rw [if_neg]; intro hlt; have := List.findIdx_getElem (w := hlt); rw [h _ hlt] at this; cases this
theorem denvI_cases (l : List Us) (p : List UInt8) : (denvI l p = -1 ∧ denv l p = none) ∨ ∃ (k : Nat) (hk : k < l.length), denvI l p = (k : Int) ∧ denv l p = some l[k] := by
 by_cases hlt : l.findIdx (isD p) < l.length
 ·refine .inr ⟨_, hlt, by unfold denvI; rw [if_pos hlt], ?_⟩
  have : denv l p = l[l.findIdx (isD p)]? := List.find?_eq_getElem?_findIdx; rw [this, List.getElem?_eq_getElem hlt]
 ·refine .inl ⟨by unfold denvI; rw [if_neg hlt], ?_⟩
  unfold denv
  rw [List.find?_eq_none]; intro x hx h; exact hlt (List.findIdx_lt_length_of_exists ⟨x, hx, h⟩)
theorem denv_any (V : Vw) (va vu : Value) (p : List UInt8) (w : World) (hv : Vws w V va vu) (hb : VwB V) : Calls Tryz.prog 31 #[vwV V va vu, .string (bs p)] w fun r w' => r = .returned (.int .i64 (denvI V.us p)) ∧ Below w.heap.size w w' := by
 have HV := zz hv; obtain ⟨⟨pa, ca, rfl⟩, pu, cu, rfl⟩ := hv.slices; have hn60 : (V.us.length : Int) ≤ 1000 := by have := hb.n; omega
 have HB_ := zz hb; clear hv hb; go_enter Tryz.func31, Tryz.ntmps31; go_upto_region 1 with fail; obtain ⟨X, hX⟩ : ∃ q, q = w.heap.size := ⟨_, rfl⟩; refine at_hide (F := fun w' => Blk w' X (vwC V (.slice pa V.at'.length ca) (.slice pu V.us.length cu)) 32 ∧ Below w.heap.size w w') ⟨by rw [hX]; exact Blk.made w (vwC V (.slice pa V.at'.length ca) (.slice pu V.us.length cu)) _, below_alloc _ _⟩ ?_; rw [← hX]; intro w1 hF; have HX1 := zz hF.1; have HB1 : Hid (Below w.heap.size w w1) := zz (by have := hF.2; rw [hX] at this; exact this); have HXW : Hid (w.heap.size ≤ X) := zz (by omega); clear hF hX; go_upto_region 2 with fail
 go_loopw [5] (fun i wr => ∃ k : Nat, k ≤ V.us.length ∧ i = .int .i64 (k : Int) ∧ Hid (∀ j (h : j < V.us.length), j < k → isD p V.us[j] = false) ∧ Hid (Below w1.heap.size w1 wr)) (fun i _ => V.us.length - (intOf i).toNat)
 case atStart => exact ⟨0, Nat.zero_le _, rfl, zz (fun j _ h => by omega), zz (Below.refl _ _)⟩
 case round =>
  obtain ⟨k, hk, rfl, HF, HB⟩ := hrel; have HBr : Hid (Below w.heap.size w wr) := zz (below_and HB1.o HB.o); have c7 := (HX1.o.kept HB.o).cell (j := 7) rfl
  by_cases hlt : k < V.us.length
  rotate_left
  ·obtain rfl : k = V.us.length := by omega
   have HR : Hid (denvI V.us p = -1) := zz (denvI_no (fun j h => HF.o j h h)); go_wp2; go_ret; exact ⟨ret_int HR.o.symm, HBr.o⟩
  have HKN := zz hlt; obtain ⟨u, hu⟩ : ∃ u, u = V.us[k]'HKN.o := ⟨_, rfl⟩; have HLC := zz ((HV.o.us.below HBr.o).at HKN.o); rw [← hu] at HLC; have HUE := zz hu; clear hu; obtain ⟨b, o, rfl, hcell⟩ := HLC.o; have q8 := hcell 8 _ rfl; have q0 := hcell 0 _ rfl; rw [Nat.add_zero] at q0; have q1 := hcell 1 _ rfl; clear hcell HLC; have i0 : (0 : Int) ≤ (k : Int) := by omega
  have i1 : (k : Int) < (V.us.length : Int) := by omega
  have HNM : Hid (∀ w', Calls Tryz.prog 29 #[.agg #[.string (bs u.j), .int .i64 u.i]] w' fun e w2 => e = .returned (.string (bs (nmU u))) ∧ Below w'.heap.size w' w2) := zz (fun w' => dnm_any u.j u.i w' (by rw [HUE.o]; exact HB_.o.us _ (List.getElem_mem _))); have hbe := bs_beq (nmU u) p; obtain ⟨e, he⟩ : ∃ e, e = (nmU u == p) := ⟨_, rfl⟩; rw [← he] at hbe; have HE := zz he; obtain ⟨nu, hnu⟩ : ∃ nu, nu = nmU u := ⟨_, rfl⟩; rw [← hnu] at hbe HNM; have HID : Hid (isD p (V.us[k]'HKN.o) = (u.e && e)) := zz (by rw [← HUE.o]; unfold isD; rw [← HE.o]); clear he hnu HE; obtain ⟨uj, ui, ud, ua, un, ue⟩ := u; simp only at q0 q1 q8 HNM HID; cases ue
  ·
   go_wp2; go_roundw
   case rel => exact ⟨k + 1, hlt, by go_num, zz (fun j h hj => by
    by_cases ej : j = k
    ·subst ej; rw [HID.o]; rfl
    ·exact HF.o j h (by omega)), HB⟩
   case measure => simp [intOf]; omega
  ·
   cases e
   ·
    go_wp2_with (go_at_call 29; refine (HNM.o _).mono ?_; rintro r w3 ⟨rfl, hb⟩; have HB3 : Hid (Below w1.heap.size w1 w3) := zz (below_and HB.o hb); have HBX := zz (below_and HBr.o hb); clear hb); go_roundw
    case rel => exact ⟨k + 1, hlt, by go_num, zz (fun j h hj => by
     by_cases ej : j = k
     ·subst ej; rw [HID.o]; rfl
     ·exact HF.o j h (by omega)), HB3⟩
    case measure => simp [intOf]; omega
   ·
    have HR : Hid (denvI V.us p = (k : Int)) := zz (denvI_of HKN.o (by rw [HID.o]; rfl) HF.o); go_wp2_with (go_at_call 29; refine (HNM.o _).mono ?_; rintro r w3 ⟨rfl, hb⟩; have HB3 : Hid (Below w1.heap.size w1 w3) := zz (below_and HB.o hb); have HBX := zz (below_and HBr.o hb); clear hb); go_ret; exact ⟨ret_int HR.o.symm, HBX.o⟩
theorem info_am4 : (Tryz.prog.info? 23).map (fun i => (i.zero, i.size, i.bytes)) = some (some (.agg #[.int .i64 0, .int .i64 0, .int .i64 0, .int .i64 0]), 4, 32) := by kernel_rfl
theorem in_take {l : List Us} {p : List UInt8} {k : Nat} (hk : k < l.length) : inP (l.take (k + 1)) p = if (l[k].n == p) = true then inP (l.take k) p ++ [l[k]] else inP (l.take k) p := by
 unfold inP
 rw [List.take_succ_eq_append_getElem hk, List.filter_append]; cases h : l[k].n == p <;> simp [h]
theorem in_len (l : List Us) (p : List UInt8) (k : Nat) : ((inP (l.take k) p).map Us.a).length ≤ k := by
 unfold inP
 rw [List.length_map]; refine Nat.le_trans (List.length_filter_le _ _) ?_
 simp
 omega
theorem amsC_snoc (xs : List Am) (a : Am) : amsC (xs ++ [a]) = amsC xs ++ amC a := by simp [amsC]
theorem amsC_one (xs : List Am) : ∀ u ∈ amsC xs, u.oneCell' = true := fun u hu => by
 obtain ⟨a, -, h⟩ := List.mem_flatMap.1 hu; simp only [List.mem_cons, List.not_mem_nil, or_false] at h; rcases h with rfl | rfl | rfl | rfl <;> rfl
theorem dtaken_any (V : Vw) (va vu : Value) (p : List UInt8) (w : World) (hv : Vws w V va vu) (hb : VwB V) : Calls Tryz.prog 39 #[vwV V va vu, .string (bs p)] w fun r w' => r = .returned (.tuple #[amV (sumL (inP V.us p)).1, .bool (decide ((sumL (inP V.us p)).2 = 0))]) ∧ Below w.heap.size w w' := by
 obtain ⟨ix, hi0, hz0, hz1, hz2⟩ := info_parts info_am4; obtain ⟨sa, hsa⟩ : ∃ q, q = (sumL (inP V.us p)).1 := ⟨_, rfl⟩; obtain ⟨se, hse⟩ : ∃ q, q = (sumL (inP V.us p)).2 := ⟨_, rfl⟩; rw [← hsa, ← hse]; have HSA := zz hsa; have HSE := zz hse; clear hsa hse; have HV := zz hv; obtain ⟨⟨pa, ca, rfl⟩, pu, cu, rfl⟩ := hv.slices; have hn60 : (V.us.length : Int) ≤ 1000 := by have := hb.n; omega
 have HB_ := zz hb; clear hv hb; go_enter Tryz.func39, Tryz.ntmps39; go_upto_region 1 with fail; obtain ⟨X, hX⟩ : ∃ q, q = w.heap.size := ⟨_, rfl⟩; refine at_hide (F := fun w' => Blk w' X (vwC V (.slice pa V.at'.length ca) (.slice pu V.us.length cu)) 32 ∧ Blk w' (X + 1) (amC Am.zero) 23 ∧ Below w.heap.size w w') ⟨by rw [hX]; exact (two_blk w (vwC V (.slice pa V.at'.length ca) (.slice pu V.us.length cu)) (amC Am.zero) _ _).1, by rw [hX]; exact (two_blk w (vwC V (.slice pa V.at'.length ca) (.slice pu V.us.length cu)) (amC Am.zero) _ _).2.1, (two_blk w (vwC V (.slice pa V.at'.length ca) (.slice pu V.us.length cu)) (amC Am.zero) _ _).2.2⟩ ?_; rw [← hX]; intro w1 hF; have HX1 := zz hF.1; have HY1 := zz hF.2.1; have HB1 : Hid (Below w.heap.size w w1) := zz (by have := hF.2.2; rw [hX] at this; exact this); have HXW : Hid (w.heap.size ≤ X) := zz (by omega); clear hF hX; go_upto_region 3 with fail
 go_loopw [6, 7] (fun t i wr => ∃ k : Nat, k ≤ V.us.length ∧ i = .int .i64 (k : Int) ∧ Hid (wr.ownsRow w1.heap.size 23 4 t ((inP (V.us.take k) p).map Us.a).length (amsC ((inP (V.us.take k) p).map Us.a))) ∧ Hid (Below w1.heap.size w1 wr)) (fun _ i _ => V.us.length - (intOf i).toNat)
 case atStart => exact ⟨0, Nat.zero_le _, rfl, zz (World.ownsRow_nil _ _ _ _), zz (Below.refl _ _)⟩
 case round =>
  obtain ⟨k, hk, rfl, HO, HB⟩ := hrel; have HBr : Hid (Below w.heap.size w wr) := zz (below_and HB1.o HB.o); have c7 := (HX1.o.kept HB.o).cell (j := 7) rfl
  by_cases hlt : k < V.us.length
  rotate_left
  ·
   obtain rfl : k = V.us.length := by omega
   rw [List.take_length] at HO; have HSM : Hid (Calls Tryz.prog 70 #[u6] wr fun e w' => e = .returned (.tuple #[amV sa, .int .i64 se]) ∧ Below wr.heap.size wr w') := zz (by rw [HSA.o, HSE.o]; exact rsum_any u6 ((inP V.us p).map Us.a) wr (row_of_owns HO.o (amsC_one _))); go_upto_region 8 with (go_at_call 70; refine HSM.o.mono ?_; rintro r w4 ⟨rfl, hb⟩; have HB4 : Hid (Below w1.heap.size w1 w4) := zz (below_and HB.o hb); clear hb); obtain ⟨Z, hZ⟩ : ∃ Z, Z = w4.heap.size := ⟨_, rfl⟩; refine at_hide (F := fun w' => Blk w' Z (amC sa) 23 ∧ Blk w' (X + 1) (amC Am.zero) 23 ∧ Below w1.heap.size w1 w') ⟨by rw [hZ]; exact Blk.made w4 (amC sa) _, (HY1.o.kept (below_and HB4.o (below_alloc _ _))), below_and HB4.o (below_alloc _ _)⟩ ?_; rw [← hZ]; intro w5 hF; have HZ5 := zz hF.1; have HY5 := zz hF.2.1; have HB5 : Hid (Below w.heap.size w w5) := zz (below_and HB1.o hF.2.2); clear hF hZ c7; obtain ⟨z0, z1, z2, z3⟩ := cl4 HZ5.o; obtain ⟨y0, y1, y2, y3⟩ := cl4 HY5.o; obtain ⟨f0, f1, f2, f3⟩ := fz4 HY5.o; go_wp2; refine ret_ct (g := X + 1) (cs := amC sa) rfl rfl rfl (blk_fill4 HY5.o) Tryz.underlying23 rfl size_am ?_
   refine ⟨?_, below_fill4 HB5.o (by have := HXW.o; omega) _ _ _ _⟩; have e1 : (se == 0) = decide (se = 0) := by by_cases h : se = 0 <;> simp [h]
   first | rfl | (rw [← e1]; rfl) | (simp only [← e1]; rfl)
  have HKN := zz hlt; obtain ⟨u, hu⟩ : ∃ u, u = V.us[k]'HKN.o := ⟨_, rfl⟩; have HLC := zz ((HV.o.us.below HBr.o).at HKN.o); rw [← hu] at HLC; have HUE := zz hu; clear hu; obtain ⟨b, o, rfl, hcell⟩ := HLC.o; have q7 := hcell 7 _ rfl; have q3 := hcell 3 _ rfl; have q4 := hcell 4 _ rfl; have q5 := hcell 5 _ rfl; have q6 := hcell 6 _ rfl; clear hcell HLC; have i0 : (0 : Int) ≤ (k : Int) := by omega
  have i1 : (k : Int) < (V.us.length : Int) := by omega
  have HIT : Hid (inP (V.us.take (k + 1)) p = if (u.n == p) = true then inP (V.us.take k) p ++ [u] else inP (V.us.take k) p) := zz (by rw [in_take HKN.o, ← HUE.o]); have HTL : Hid (((inP (V.us.take k) p).map Us.a).length ≤ 1000) := zz (by have := in_len V.us p k; have := HB_.o.n; have := HKN.o; omega); have hbe := bs_beq u.n p; obtain ⟨e, he⟩ : ∃ e, e = (u.n == p) := ⟨_, rfl⟩; rw [← he] at hbe HIT; clear he; cases e
  ·
   have HNE : Hid (inP (V.us.take (k + 1)) p = inP (V.us.take k) p) := zz (by rw [HIT.o]; rfl); go_wp2; go_roundw
   case rel => exact ⟨k + 1, hlt, by go_num, by rw [HNE.o]; exact HO, HB⟩
   case measure => simp [intOf]; omega
  have HNE : Hid ((inP (V.us.take (k + 1)) p).map Us.a = (inP (V.us.take k) p).map Us.a ++ [u.a]) := zz (by rw [HIT.o]; simp); obtain ⟨xs, hxs⟩ : ∃ xs, xs = (inP (V.us.take k) p).map Us.a := ⟨_, rfl⟩; rw [← hxs] at HNE HTL HO; clear hxs HIT; have HBn : Hid (Below wr.heap.size wr (wr.alloc (.cells #[.int .i64 u.a.c, .int .i64 u.a.r, .int .i64 u.a.d, .int .i64 u.a.p] 23))) := zz (below_alloc wr _); have HO4 : Hid (World.ownsRow (wr.alloc (.cells #[.int .i64 u.a.c, .int .i64 u.a.r, .int .i64 u.a.d, .int .i64 u.a.p] 23)) w1.heap.size 23 4 u6 xs.length (amsC xs)) := zz (own_fr HO.o (Fr.of_below HBn.o []) (fun _ _ => by simp)); have HAN : Hid ((wr.alloc (.cells #[.int .i64 u.a.c, .int .i64 u.a.r, .int .i64 u.a.d, .int .i64 u.a.p] 23)).heap[wr.heap.size]? = some (.cells #[.int .i64 u.a.c, .int .i64 u.a.r, .int .i64 u.a.d, .int .i64 u.a.p] 23 (0, 0))) := zz (heap_alloc_new wr _); go_wp2_with (at_builtin; go_must (refine wpList_app5 rfl _ _ 104 104 rfl w1.heap.size 23 ix (.agg #[.int .i64 0, .int .i64 0, .int .i64 0, .int .i64 0]) 4 32 Tryz.underlying104 hi0 hz0 hz1 hz2 rfl _ xs.length _ rfl HO4.o _ 1 _ rfl (src_block Tryz.underlying104 _ _ #[_, _, _, _] HAN.o rfl (by simp [Value.oneCell'])) (by have := HTL.o; unfold maxLen; omega) (by have := HTL.o; omega) (by have := HB.o.size; have := HBn.o.size; omega) ?_); intro v5 w5 ho5 hg5 hn5; have HO5 := zz ho5; have HG5 := zz hg5; clear ho5 hg5 hn5)
  have hG : World.grownBy (wr.alloc (.cells #[.int .i64 u.a.c, .int .i64 u.a.r, .int .i64 u.a.d, .int .i64 u.a.p] 23)) w5 u6.ownBlock := HG5.o; have HG := zz hG; clear hG HG5; go_roundw
  case rel =>
   refine ⟨k + 1, hlt, by go_num, zz ?_, zz ?_⟩
   ·have := HO5.o
    rw [HNE.o, amsC_snoc, List.length_append]; exact this
   ·exact (below_and HB.o HBn.o).trans ((Fr.of_grown HG.o).below (fun k hk => (HO4.o.lt k (by simpa using hk)).1) (below_and HB.o HBn.o).size)
  case measure => simp [intOf]; omega
theorem dfits_any (V : Vw) (va vu : Value) (p : List UInt8) (a : Am) (w : World) (hv : Vws w V va vu) (hb : VwB V) : Calls Tryz.prog 30 #[vwV V va vu, .string (bs p), amV a] w fun r w' => r = .returned (.bool (dfits V p a)) ∧ Below w.heap.size w w' := by
 have HV := zz hv; obtain ⟨⟨pa, ca, rfl⟩, pu, cu, rfl⟩ := hv.slices; have hn60 : (V.us.length : Int) ≤ 1000 := by have := hb.n; omega
 have HB_ := zz hb; clear hv hb; have HTK : Hid (∀ wx, Below w.heap.size w wx → Calls Tryz.prog 39 #[vwV V (.slice pa V.at'.length ca) (.slice pu V.us.length cu), .string (bs p)] wx fun r w' => r = .returned (.tuple #[amV (sumL (inP V.us p)).1, .bool (decide ((sumL (inP V.us p)).2 = 0))]) ∧ Below wx.heap.size wx w') := zz (fun wx hb => dtaken_any V _ _ p wx (HV.o.below hb) HB_.o); obtain ⟨S, hS⟩ : ∃ S, S = sumL (inP V.us p) := ⟨_, rfl⟩; have HDF : Hid (dfits V p a = (decide (S.2 = 0) && fitsB S.1 a)) := zz (by rw [hS]; rfl); rw [← hS] at HTK; rw [HDF.o]; clear hS HDF; obtain ⟨sa, se⟩ := S; simp only at HTK ⊢; obtain ⟨z, hz⟩ : ∃ z, z = decide (se = 0) := ⟨_, rfl⟩; rw [← hz] at HTK ⊢; clear hz; have HFT : Hid (∀ wx, Calls Tryz.prog 62 #[amV sa, amV a] wx fun e w' => e = .returned (.bool (fitsB sa a)) ∧ Below wx.heap.size wx w') := zz (fun wx => rfits_any sa a wx); obtain ⟨f, hf⟩ : ∃ f, f = fitsB sa a := ⟨_, rfl⟩; rw [← hf] at HFT ⊢; clear hf; go_enter Tryz.func30, Tryz.ntmps30; go_upto_region 1 with fail; obtain ⟨X, hX⟩ : ∃ q, q = w.heap.size := ⟨_, rfl⟩
 refine at_hide (F := fun w' => Blk w' X (vwC V (.slice pa V.at'.length ca) (.slice pu V.us.length cu)) 32 ∧ Blk w' (X + 1) (amC a) 23 ∧ Below w.heap.size w w') ⟨by rw [hX]; exact (two_blk w (vwC V (.slice pa V.at'.length ca) (.slice pu V.us.length cu)) (amC a) _ _).1, by rw [hX]; exact (two_blk w (vwC V (.slice pa V.at'.length ca) (.slice pu V.us.length cu)) (amC a) _ _).2.1, (two_blk w (vwC V (.slice pa V.at'.length ca) (.slice pu V.us.length cu)) (amC a) _ _).2.2⟩ ?_; rw [← hX]; intro w1 hF; have HX1 := zz hF.1; have HY1 := zz hF.2.1; have HB1 : Hid (Below w.heap.size w w1) := zz (by have := hF.2.2; rw [hX] at this; exact this); have HXW : Hid (w.heap.size ≤ X) := zz (by omega); clear hF hX; obtain ⟨c0, c1, c2, c3, c4, c5, c6, c7⟩ := cl8 HX1.o; go_upto_region 2 with (go_at_call 39; refine (HTK.o _ HB1.o).mono ?_; rintro r w3 ⟨rfl, hb⟩; have HY3 := zz (HY1.o.kept hb); have HB3 := zz (below_and HB1.o hb); clear hb); obtain ⟨Z, hZ⟩ : ∃ Z, Z = w3.heap.size := ⟨_, rfl⟩; refine at_hide (F := fun w' => Blk w' Z (amC sa) 23 ∧ Blk w' (X + 1) (amC a) 23 ∧ Below w.heap.size w w') ⟨by rw [hZ]; exact Blk.made w3 (amC sa) _, HY3.o.kept (below_alloc _ _), below_and HB3.o (below_alloc _ _)⟩ ?_
 rw [← hZ]; intro w5 hF; have HZ5 := zz hF.1; have HY5 := zz hF.2.1; have HB5 : Hid (Below w.heap.size w w5) := zz hF.2.2; clear hF hZ c0 c1 c2 c3 c4 c5 c6 c7; obtain ⟨z0, z1, z2, z3⟩ := cl4 HZ5.o; obtain ⟨y0, y1, y2, y3⟩ := cl4 HY5.o; cases z
 ·
  go_wp2; go_ret; exact ⟨rfl, HB5.o⟩
 ·
  go_wp2_with (go_at_call 62; refine (HFT.o _).mono ?_; rintro r w6 ⟨rfl, hb⟩; have HB6 := zz (below_and HB5.o hb); clear hb); go_ret; exact ⟨by rw [Bool.true_and]; rfl, HB6.o⟩
theorem dwhole_any (V : Vw) (va vu : Value) (p : List UInt8) (w : World) (hv : Vws w V va vu) (hb : VwB V) (hp : p = [] ∨ (denv V.us p).isSome = true) : Calls Tryz.prog 41 #[vwV V va vu, .string (bs p)] w fun r w' => r = .returned (amV (dwhole V p)) ∧ Below w.heap.size w w' := by
 have HV := zz hv; obtain ⟨⟨pa, ca, rfl⟩, pu, cu, rfl⟩ := hv.slices; have hn60 : (V.us.length : Int) ≤ 1000 := by have := hb.n; omega
 have HB_ := zz hb; clear hv hb; have HEN : Hid (∀ wx, Below w.heap.size w wx → Calls Tryz.prog 31 #[vwV V (.slice pa V.at'.length ca) (.slice pu V.us.length cu), .string (bs p)] wx fun r w' => r = .returned (.int .i64 (denvI V.us p)) ∧ Below wx.heap.size wx w') := zz (fun wx hb => denv_any V _ _ p wx (HV.o.below hb) HB_.o); have hem := bs_nil0 p; obtain ⟨D, hD⟩ : ∃ D, D = dwhole V p := ⟨_, rfl⟩; rw [← hD]; have HD := zz hD; clear hD
 by_cases hpe : p = []
 ·
  have HDW : Hid (D = V.cap) := zz (by rw [HD.o]; unfold dwhole; rw [if_pos hpe]); rw [decide_eq_true hpe] at hem; clear hpe hp; go_enter Tryz.func41, Tryz.ntmps41; go_upto_region 1 with fail; obtain ⟨X, hX⟩ : ∃ q, q = w.heap.size := ⟨_, rfl⟩; refine at_hide (F := fun w' => Blk w' X (vwC V (.slice pa V.at'.length ca) (.slice pu V.us.length cu)) 32 ∧ Blk w' (X + 1) (amC Am.zero) 23 ∧ Below w.heap.size w w') ⟨by rw [hX]; exact (two_blk w (vwC V (.slice pa V.at'.length ca) (.slice pu V.us.length cu)) (amC Am.zero) _ _).1, by rw [hX]; exact (two_blk w (vwC V (.slice pa V.at'.length ca) (.slice pu V.us.length cu)) (amC Am.zero) _ _).2.1, (two_blk w (vwC V (.slice pa V.at'.length ca) (.slice pu V.us.length cu)) (amC Am.zero) _ _).2.2⟩ ?_; rw [← hX]; intro w1 hF; have HX1 := zz hF.1; have HY1 := zz hF.2.1; have HB1 : Hid (Below w.heap.size w w1) := zz (by have := hF.2.2; rw [hX] at this; exact this); have HXW : Hid (w.heap.size ≤ X) := zz (by omega); clear hF hX; obtain ⟨-, -, c2, c3, c4, c5⟩ := cl6 HX1.o; obtain ⟨y0, y1, y2, y3⟩ := cl4 HY1.o; obtain ⟨f0, f1, f2, f3⟩ := fz4 HY1.o; go_wp2; refine ret_cell1w (g := X + 1) (cs := amC V.cap) rfl rfl rfl (blk_fill4 HY1.o) Tryz.underlying23 rfl size_am ?_
  exact ⟨(by first | (rw [HDW.o]; done) | (rw [HDW.o]; rfl)), below_fill4 HB1.o (by have := HXW.o; omega) _ _ _ _⟩
 ·
  obtain ⟨k, hk, h1, h2⟩ : ∃ (k : Nat) (hk : k < V.us.length), denvI V.us p = (k : Int) ∧ denv V.us p = some V.us[k] := by
   rcases denvI_cases V.us p with ⟨-, h⟩ | h
   ·rcases hp with h9 | h9
    ·exact absurd h9 hpe
    ·rw [h] at h9; cases h9
   ·exact h
  have HK0 := zz hk; have HDW : Hid (D = (V.us[k]'HK0.o).a) := zz (by rw [HD.o]; unfold dwhole; rw [if_neg hpe, h2]; rfl); rw [h1] at HEN; have hlt := hk; rw [decide_eq_false hpe] at hem; clear hpe hp h1 h2 hk; go_enter Tryz.func41, Tryz.ntmps41; go_upto_region 1 with fail; obtain ⟨X, hX⟩ : ∃ q, q = w.heap.size := ⟨_, rfl⟩; refine at_hide (F := fun w' => Blk w' X (vwC V (.slice pa V.at'.length ca) (.slice pu V.us.length cu)) 32 ∧ Blk w' (X + 1) (amC Am.zero) 23 ∧ Below w.heap.size w w') ⟨by rw [hX]; exact (two_blk w (vwC V (.slice pa V.at'.length ca) (.slice pu V.us.length cu)) (amC Am.zero) _ _).1, by rw [hX]; exact (two_blk w (vwC V (.slice pa V.at'.length ca) (.slice pu V.us.length cu)) (amC Am.zero) _ _).2.1, (two_blk w (vwC V (.slice pa V.at'.length ca) (.slice pu V.us.length cu)) (amC Am.zero) _ _).2.2⟩ ?_; rw [← hX]; intro w1 hF; have HX1 := zz hF.1; have HY1 := zz hF.2.1; have HB1 : Hid (Below w.heap.size w w1) := zz (by have := hF.2.2; rw [hX] at this; exact this); have HXW : Hid (w.heap.size ≤ X) := zz (by omega); clear hF hX; have HKN := zz hlt; obtain ⟨u, hu⟩ : ∃ u, u = V.us[k]'HKN.o := ⟨_, rfl⟩
  have HLC := zz ((HV.o.us.below HB1.o).at HKN.o); rw [← hu] at HLC; have HUE := zz hu; clear hu; obtain ⟨b, o, rfl, hcell⟩ := HLC.o; have q3 := hcell 3 _ rfl; have q4 := hcell 4 _ rfl; have q5 := hcell 5 _ rfl; have q6 := hcell 6 _ rfl; clear hcell HLC; have i0 : (0 : Int) ≤ (k : Int) := by omega
  have i1 : (k : Int) < (V.us.length : Int) := by omega
  have HDW' := HDW; clear HDW; have HDW : Hid (D = u.a) := zz (by rw [HDW'.o, HUE.o]); clear HDW'; have p0 : ∀ s : Past w1, s.val.cell? ⟨X, 0, none⟩ = some (.string (bs V.nm)) := Past.blk HX1.o (j := 0) rfl; have p1 : ∀ s : Past w1, s.val.cell? ⟨X, 1, none⟩ = some (.slice pa V.at'.length ca) := Past.blk HX1.o (j := 1) rfl; have p2 : ∀ s : Past w1, s.val.cell? ⟨X, 2, none⟩ = some (.int .i64 V.cap.c) := Past.blk HX1.o (j := 2) rfl; have p3 : ∀ s : Past w1, s.val.cell? ⟨X, 3, none⟩ = some (.int .i64 V.cap.r) := Past.blk HX1.o (j := 3) rfl; have p4 : ∀ s : Past w1, s.val.cell? ⟨X, 4, none⟩ = some (.int .i64 V.cap.d) := Past.blk HX1.o (j := 4) rfl; have p5 : ∀ s : Past w1, s.val.cell? ⟨X, 5, none⟩ = some (.int .i64 V.cap.p) := Past.blk HX1.o (j := 5) rfl; have p6 : ∀ s : Past w1, s.val.cell? ⟨X, 6, none⟩ = some (.bool V.up) := Past.blk HX1.o (j := 6) rfl; have p7 : ∀ s : Past w1, s.val.cell? ⟨X, 7, none⟩ = some (.slice (some ⟨b, o, none⟩) V.us.length cu) := Past.blk HX1.o (j := 7) rfl; have r3 := Past.cell q3; have r4 := Past.cell q4; have r5 := Past.cell q5; have r6 := Past.cell q6; clear q3 q4 q5 q6; have HEN1 : Hid (∀ s : Past w1, Calls Tryz.prog 31 #[vwV V (.slice pa V.at'.length ca) (.slice (some ⟨b, o, none⟩) V.us.length cu), .string (bs p)] s.val fun r w' => r = .returned (.int .i64 (k : Int)) ∧ Below s.val.heap.size s.val w') := zz (fun s => HEN.o _ (below_and HB1.o s.h))
  go_upto_region 3 with fail; refine wp_region_past_one rfl (by kernel_rfl) (by kernel_rfl) (by kernel_rfl) ?_
  repeat (go_big_quiet_step ((go_at_call 31; exact past_call (HEN1.o _))))
  refine wpQuiet_past ?_; intro w9 h9; have HY9 := zz (HY1.o.kept h9); have HB9 := zz (below_and HB1.o h9); clear h9; obtain ⟨y0, y1, y2, y3⟩ := cl4 HY9.o; obtain ⟨f0, f1, f2, f3⟩ := fz4 HY9.o; go_wp2; refine ret_cell1w (g := X + 1) (cs := amC u.a) rfl rfl rfl (blk_fill4 HY9.o) Tryz.underlying23 rfl size_am ?_; exact ⟨(by first | (rw [HDW.o]; done) | (rw [HDW.o]; rfl)), below_fill4 HB9.o (by have := HXW.o; omega) _ _ _ _⟩
end Go.Proofs.YtdemkfhkibmbnaaGreatDoor.Ft
namespace Go.Proofs.YtdemkfhkibmbnaaGreatDoor
open Go.RowKit
