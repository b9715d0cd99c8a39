/- FdView, FdLate, RSub, FdRoom, FdNeed. -/
import Derived.Test.YtdemkfhkibmbnaaGreatDoorM43
set_option maxRecDepth 100000
set_option maxHeartbeats 8000000
namespace Go.Proofs.YtdemkfhkibmbnaaGreatDoor.Ft
open Go.RowKit Go.Proofs.YtdemkfhkibmbnaaGreatDoor Go.Proofs.YtdemkfhkibmbnaaGreatDoor.Ru
theorem view_d (V : Vw) : viewR V = if dchkV V = true then 0 else 2 := by unfold viewR; rw [dchkV_eq]
theorem vd_nm {V : Vw} (h : ¬ (1 ≤ V.nm.length ∧ V.nm.length ≤ 16)) : viewR V = 2 := by rw [view_d]; unfold dchkV; rw [decide_eq_false h]; rfl
theorem vd_at {V : Vw} (h : ¬ attrsR V.at' = 0) : viewR V = 2 := by rw [view_d]; unfold dchkV; rw [decide_eq_false h]; simp
theorem vd_cap {V : Vw} (h : V.cap.okB = false) : viewR V = 2 := by rw [view_d]; unfold dchkV; rw [h]; simp
theorem vd_fine {V : Vw} {k : Nat} (hk : k < V.us.length) (h : dfine V.us[k] = false) : viewR V = 2 := by
 have : V.us.all dfine = false := by rw [List.all_eq_false]; exact ⟨_, List.getElem_mem hk, by rw [h]; simp⟩
 rw [view_d]; unfold dchkV; rw [this]; simp
theorem vd_dup {V : Vw} {m k : Nat} (hk : k < V.us.length) (hm : m < k) (h : keyU (V.us[m]'(by omega)) = keyU V.us[k]) : viewR V = 2 := by
 have : ¬ (V.us.map keyU).Nodup := fun g => by
  have := List.pairwise_iff_getElem.1 g m k (by simp; omega) (by simp; omega) hm; simp only [List.getElem_map] at this; exact this h
 rw [view_d]; unfold dchkV; rw [decide_eq_false this]; simp
theorem vd_fits {V : Vw} (h : dfits V [] V.cap = false) : viewR V = 2 := by rw [view_d]; unfold dchkV; rw [h]; simp
theorem vd_loc {V : Vw} {k : Nat} (hk : k < V.us.length) (h : dloc V V.us[k] = false) : viewR V = 2 := by
 have : V.us.all (dloc V) = false := by rw [List.all_eq_false]; exact ⟨_, List.getElem_mem hk, by rw [h]; simp⟩
 rw [view_d]; unfold dchkV; rw [this]; simp
theorem vd_yes {V : Vw} (h1 : 1 ≤ V.nm.length ∧ V.nm.length ≤ 16) (h2 : attrsR V.at' = 0) (h3 : V.cap.okB = true) (h4 : ∀ k (hk : k < V.us.length), dfine V.us[k] = true) (h5 : ∀ k (hk : k < V.us.length) m (hm : m < k), keyU (V.us[m]'(by omega)) ≠ keyU V.us[k]) (h6 : dfits V [] V.cap = true) (h7 : ∀ k (hk : k < V.us.length), dloc V V.us[k] = true) : viewR V = 0 := by
 have g4 : V.us.all dfine = true := by rw [List.all_eq_true]; intro x hx; obtain ⟨i, hi, rfl⟩ := List.getElem_of_mem hx; exact h4 i hi
 have g7 : V.us.all (dloc V) = true := by rw [List.all_eq_true]; intro x hx; obtain ⟨i, hi, rfl⟩ := List.getElem_of_mem hx; exact h7 i hi
 have g5 : (V.us.map keyU).Nodup := by
  unfold List.Nodup
  rw [List.pairwise_iff_getElem]; intro i j hi hj hij; simp only [List.getElem_map]; exact h5 j (by simpa using hj) i hij
 rw [view_d]; unfold dchkV; rw [decide_eq_true h1, decide_eq_true h2, h3, g4, decide_eq_true g5, h6, g7]; rfl
theorem denv_neg (l : List Us) (p : List UInt8) : decide (denvI l p < 0) = !(denv l p).isSome := by
 rcases denvI_cases l p with ⟨h1, h2⟩ | ⟨k, hk, h1, h2⟩
 ·rw [h1, h2]; rfl
 ·rw [h1, h2]; simp
theorem tk_eql (j j' : List UInt8) (i i' : Int) (w : World) : (binOp .eql 56 (.agg #[.string (bs j), .int .i64 i]) (.agg #[.string (bs j'), .int .i64 i'])).run Tryz.prog w = .ok (.bool (decide (j = j') && decide (i = i'))) w := by
 have hb := bs_beq j j'; have hb2 : (j == j') = decide (j = j') := by by_cases h : j = j' <;> simp [h]
 rw [hb2] at hb
 by_cases h1 : j = j'
 ·subst h1
  rw [decide_eq_true rfl] at hb ⊢
  by_cases h2 : i = i'
  ·subst h2; rw [decide_eq_true rfl]; go_simp; try rfl
  ·rw [decide_eq_false h2]; go_simp; try simp [h2]
 ·rw [decide_eq_false h1] at hb ⊢
  go_simp
  try simp [hb, h1]
theorem tk_keyd {x : Us} {uj : List UInt8} {ui : Int} {K : List UInt8 × Int} (h : ∀ v : Us, keyU v = K ↔ keyU v = (uj, ui)) : (decide (x.j = uj) && decide (x.i = ui)) = decide (keyU x = K) := by
 by_cases g : keyU x = K
 ·have g2 := (h x).1 g
  unfold keyU at g2
  simp only [Prod.mk.injEq] at g2; rw [decide_eq_true g, decide_eq_true g2.1, decide_eq_true g2.2]; rfl
 ·rw [decide_eq_false g, Bool.and_eq_false_iff]
  by_cases g2 : x.j = uj
  ·right; exact decide_eq_false (fun g3 => g ((h x).2 (by unfold keyU; rw [g2, g3])))
  ·left; exact decide_eq_false g2
theorem dcheckView_any (V : Vw) (va vu : Value) (w : World) (hv : Vws w V va vu) (hb : VwB V) : Calls Tryz.prog 8 #[vwV V va vu] w fun r w' => r = .returned (.int .i64 (viewR V)) ∧ Below w.heap.size w w' := by
 have HV := zz hv; obtain ⟨⟨pa, ca, rfl⟩, pu, cu, rfl⟩ := hv.slices; have hn60 : (V.us.length : Int) ≤ 1000 := by have := hb.n; omega
 have HB_ := zz hb; clear hv hb; have HAT : Hid (∀ wx, Below w.heap.size w wx → Calls Tryz.prog 27 #[.slice pa V.at'.length ca] wx fun r w' => r = .returned (.int .i64 (attrsR V.at')) ∧ Below wx.heap.size wx w') := zz (fun wx hb => dattrs_any _ V.at' wx (HV.o.at'.below hb) HB_.o.at'); have HCK : Hid (∀ a : Am, ∀ wx, Calls Tryz.prog 28 #[amV a] wx fun e w' => e = .returned (.int .i64 a.chk) ∧ Below wx.heap.size wx w') := zz (fun a wx => rcheck_any a wx); have HFT : Hid (∀ p a wx, Below w.heap.size w wx → Calls Tryz.prog 30 #[vwV V (.slice pa V.at'.length ca) (.slice pu V.us.length cu), .string (bs p), amV a] wx fun r w' => r = .returned (.bool (dfits V p a)) ∧ Below wx.heap.size wx w') := zz (fun p a wx hb => dfits_any V _ _ p a wx (HV.o.below hb) HB_.o); have HEN : Hid (∀ p wx, Below w.heap.size w wx → Calls Tryz.prog 31 #[vwV V (.slice pa V.at'.length ca) (.slice pu V.us.length cu), .string (bs p)] wx fun r w' => r = .returned (.int .i64 (denvI V.us p)) ∧ Below wx.heap.size wx w') := zz (fun p wx hb => denv_any V _ _ p wx (HV.o.below hb) HB_.o)
 have HNM : Hid (∀ u ∈ V.us, ∀ wx, Calls Tryz.prog 29 #[.agg #[.string (bs u.j), .int .i64 u.i]] wx fun e w2 => e = .returned (.string (bs (nmU u))) ∧ Below wx.heap.size wx w2) := zz (fun u hu wx => dnm_any u.j u.i wx (HB_.o.us u hu)); have hnm := bs_size V.nm; have hnb : (V.nm.length : Int) ≤ 140737488351232 := by have := HB_.o.nm; omega
 go_enter Tryz.func8, Tryz.ntmps8; go_upto_region 1 with fail; obtain ⟨X, hX⟩ : ∃ q, q = w.heap.size := ⟨_, rfl⟩; refine at_hide (F := fun w' => Blk w' X (vwC V (.slice pa V.at'.length ca) (.slice pu V.us.length cu)) 32 ∧ Below w.heap.size w w') ⟨by rw [hX]; exact Blk.made w (vwC V (.slice pa V.at'.length ca) (.slice pu V.us.length cu)) _, below_alloc _ _⟩ ?_; rw [← hX]; intro w1 hF; have HX1 := zz hF.1; have HB1 : Hid (Below w.heap.size w w1) := zz (by have := hF.2; rw [hX] at this; exact this); have HXW : Hid (w.heap.size ≤ X) := zz (by omega); clear hF hX; obtain ⟨c0, c1, c2, c3, c4, c5⟩ := cl6 HX1.o
 by_cases h1 : V.nm.length < 1
 ·
  have HR : Hid (viewR V = 2) := zz (vd_nm (by omega)); have t1 : decide ((V.nm.length : Int) < 1) = true := by simp; omega
  go_wp2; go_ret; exact ⟨ret_int HR.o.symm, HB1.o⟩
 have t1 : decide ((V.nm.length : Int) < 1) = false := by simp; omega
 by_cases h2 : 16 < V.nm.length
 ·
  have HR : Hid (viewR V = 2) := zz (vd_nm (by omega)); have t2 : decide ((16 : Int) < (V.nm.length : Int)) = true := by simp; omega
  have t2b : decide (16 < V.nm.length) = true := by simp; omega
  go_wp2; go_ret; exact ⟨ret_int HR.o.symm, HB1.o⟩
 have t2 : decide ((16 : Int) < (V.nm.length : Int)) = false := by simp; omega
 have t2b : decide (16 < V.nm.length) = false := by simp; omega
 have HNL : Hid (1 ≤ V.nm.length ∧ V.nm.length ≤ 16) := zz (by omega); clear h1 h2; obtain ⟨ar, har⟩ : ∃ ar, ar = attrsR V.at' := ⟨_, rfl⟩; rw [← har] at HAT; have HAR := zz har; clear har; have HC7 : Hid (∀ w', Below w1.heap.size w1 w' → w'.cell? ⟨X, 7, none⟩ = some (.slice pu V.us.length cu)) := zz (fun w' hb => (HX1.o.kept hb).cell (j := 7) rfl); have HC5 : Hid (∀ w', Below w1.heap.size w1 w' → w'.cell? ⟨X, 2, none⟩ = some (.int .i64 V.cap.c) ∧ w'.cell? ⟨X, 3, none⟩ = some (.int .i64 V.cap.r) ∧ w'.cell? ⟨X, 4, none⟩ = some (.int .i64 V.cap.d) ∧ w'.cell? ⟨X, 5, none⟩ = some (.int .i64 V.cap.p)) := zz (fun w' hb => ⟨(HX1.o.kept hb).cell (j := 2) rfl, (HX1.o.kept hb).cell (j := 3) rfl, (HX1.o.kept hb).cell (j := 4) rfl, (HX1.o.kept hb).cell (j := 5) rfl⟩)
 by_cases h3 : ar = 0
 rotate_left
 ·
  have HR : Hid (viewR V = 2) := zz (vd_at (by have := HAR.o; omega)); have t3 : (ar != 0) = true := by simpa using h3
  clear h3; go_wp2_with (go_at_call 27; refine (HAT.o _ HB1.o).mono ?_; rintro r w2 ⟨rfl, hb⟩; have HB2 := zz hb; have HB2a := zz (below_and HB1.o hb); have d2 := (HC5.o _ hb).1; have d3 := (HC5.o _ hb).2.1; have d4 := (HC5.o _ hb).2.2.1; have d5 := (HC5.o _ hb).2.2.2; clear hb c1 c2 c3 c4 c5); go_ret; exact ⟨ret_int HR.o.symm, HB2a.o⟩
 subst h3; obtain ⟨ok, hok⟩ : ∃ q, q = V.cap.okB := ⟨_, rfl⟩; have HOK := zz hok; have HCC : Hid (V.cap.chk = if ok then 0 else 2) := zz (by rw [hok]; unfold Am.chk; rfl); clear hok; obtain ⟨ck, hck⟩ : ∃ q, q = V.cap.chk := ⟨_, rfl⟩; have HCV := zz (HCK.o V.cap); rw [← hck] at HCC HCV; clear hck; cases ok
 ·
  have hc2 := HCC.o; simp only [Bool.false_eq_true, if_false] at hc2; subst hc2; have HR : Hid (viewR V = 2) := zz (vd_cap HOK.o.symm); go_wp2_with (first | (go_at_call 27; refine (HAT.o _ HB1.o).mono ?_; rintro r w2 ⟨rfl, hb⟩; have HB2 := zz hb; have HB2a := zz (below_and HB1.o hb); have d2 := (HC5.o _ hb).1; have d3 := (HC5.o _ hb).2.1; have d4 := (HC5.o _ hb).2.2.1; have d5 := (HC5.o _ hb).2.2.2; clear hb c1 c2 c3 c4 c5) | (go_at_call 28; refine (HCV.o _).mono ?_; rintro r w3 ⟨rfl, hb⟩; have HB3 := zz (below_and HB2.o hb); have HB3a := zz (below_and HB2a.o hb); clear hb d2 d3 d4 d5)); go_ret; exact ⟨ret_int HR.o.symm, HB3a.o⟩
 have hc2 := HCC.o; simp only [if_true] at hc2; subst hc2; go_upto_region 4 with (first | (go_at_call 27; refine (HAT.o _ HB1.o).mono ?_; rintro r w2 ⟨rfl, hb⟩; have HB2 := zz hb; have HB2a := zz (below_and HB1.o hb); have d2 := (HC5.o _ hb).1; have d3 := (HC5.o _ hb).2.1; have d4 := (HC5.o _ hb).2.2.1; have d5 := (HC5.o _ hb).2.2.2; clear hb c1 c2 c3 c4 c5) | (go_at_call 28; refine (HCV.o _).mono ?_; rintro r w3 ⟨rfl, hb⟩; have HB3 := zz (below_and HB2.o hb); have HB3a := zz (below_and HB2a.o hb); clear hb d2 d3 d4 d5)); clear c0 t1 t2 t2b hnb hnm HCC HCV
 go_loopw [3] (fun i wr => ∃ k : Nat, k ≤ V.us.length ∧ i = .int .i64 (k : Int) ∧ Hid (∀ j (h : j < V.us.length), j < k → dfine V.us[j] = true ∧ ∀ m (hm : m < j), keyU (V.us[m]'(by omega)) ≠ keyU V.us[j]) ∧ Hid (Below w1.heap.size w1 wr)) (fun i _ => V.us.length - (intOf i).toNat)
 case atStart => exact ⟨0, Nat.zero_le _, rfl, zz (fun j _ h => by omega), HB3⟩
 case round =>
  obtain ⟨k, hk, rfl, HF, HB⟩ := hrel; have HBr : Hid (Below w.heap.size w wr) := zz (below_and HB1.o HB.o); have c7 := HC7.o _ HB.o
  by_cases hlt : k < V.us.length
  rotate_left
  ·
   obtain rfl : k = V.us.length := by omega
   have HX2 := zz (HX1.o.kept HB.o); obtain ⟨c0, c1, c2, c3, c4, c5, c6⟩ := cl7 HX2.o; have HF0 : Hid (Calls Tryz.prog 30 #[vwV V (.slice pa V.at'.length ca) (.slice pu V.us.length cu), .string ⟨#[]⟩, amV V.cap] wr fun r w' => r = .returned (.bool (dfits V [] V.cap)) ∧ Below wr.heap.size wr w') := zz (HFT.o [] V.cap wr HBr.o); obtain ⟨f0, hf0⟩ : ∃ q, q = dfits V [] V.cap := ⟨_, rfl⟩; rw [← hf0] at HF0; have HF0E := zz hf0; clear hf0; cases f0
   ·
    have HR : Hid (viewR V = 2) := zz (vd_fits HF0E.o.symm); go_wp2_with (go_at_call 30; refine HF0.o.mono ?_; rintro r w5 ⟨rfl, hb⟩; have HB5 : Hid (Below w1.heap.size w1 w5) := zz (below_and HB.o hb); have HB5a := zz (below_and HBr.o hb); clear hb); go_ret; exact ⟨ret_int HR.o.symm, HB5a.o⟩
   go_upto_region 17 with (go_at_call 30; refine HF0.o.mono ?_; rintro r w5 ⟨rfl, hb⟩; have HB5 : Hid (Below w1.heap.size w1 w5) := zz (below_and HB.o hb); have HB5a := zz (below_and HBr.o hb); clear hb); clear c0 c1 c2 c3 c4 c5 c6 c7
   go_loopw [6] (fun i wq => ∃ k : Nat, k ≤ V.us.length ∧ i = .int .i64 (k : Int) ∧ Hid (∀ j (h : j < V.us.length), j < k → dloc V V.us[j] = true) ∧ Hid (Below w1.heap.size w1 wq)) (fun i _ => V.us.length - (intOf i).toNat)
   case atStart => exact ⟨0, Nat.zero_le _, rfl, zz (fun j _ h => by omega), HB5⟩
   case round =>
    obtain ⟨k, hk, rfl, HG, HB7⟩ := hrel; have HB7r : Hid (Below w.heap.size w wr) := zz (below_and HB1.o HB7.o); have c7 := HC7.o _ HB7.o
    by_cases hlt : k < V.us.length
    rotate_left
    ·
     obtain rfl : k = V.us.length := by omega
     have HR : Hid (viewR V = 0) := zz (vd_yes HNL.o HAR.o.symm HOK.o.symm (fun k hk => (HF.o k hk hk).1) (fun k hk m hm => (HF.o k hk hk).2 m hm) HF0E.o.symm (fun k hk => HG.o k hk hk)); go_wp2; go_ret; exact ⟨ret_int HR.o.symm, HB7r.o⟩
    have HKN := zz hlt; obtain ⟨u, hu⟩ : ∃ u, u = V.us[k]'HKN.o := ⟨_, rfl⟩; have HLC := zz ((HV.o.us.below HB7r.o).at HKN.o); rw [← hu] at HLC; have HUE := zz hu; clear hu; obtain ⟨b, o, rfl, hcell⟩ := HLC.o; have q0 := hcell 0 _ rfl; rw [Nat.add_zero] at q0; have q1 := hcell 1 _ rfl; have q2 := hcell 2 _ rfl; have q3 := hcell 3 _ rfl; have q4 := hcell 4 _ rfl; have q5 := hcell 5 _ rfl; have q6 := hcell 6 _ rfl; have q7 := hcell 7 _ rfl; have q8 := hcell 8 _ rfl; clear hcell HLC; have i0 : (0 : Int) ≤ (k : Int) := by omega
    have i1 : (k : Int) < (V.us.length : Int) := by omega
    have HUM : Hid (u ∈ V.us) := zz (by rw [HUE.o]; exact List.getElem_mem _); go_upto_region 20 with fail; obtain ⟨Y, hY⟩ : ∃ Y, Y = wr.heap.size := ⟨_, rfl⟩; refine at_hide (F := fun w' => Blk w' Y (usC u) 58 ∧ Below wr.heap.size wr w') ⟨by rw [hY]; exact Blk.made wr (usC u) _, below_alloc _ _⟩ ?_; rw [← hY]; intro w8 hF; have HY8 := zz hF.1; have HB8 : Hid (Below w1.heap.size w1 w8) := zz (below_and HB7.o (by have := hF.2; rw [hY] at this; exact this)); clear hF hY c7 q0 q1 q2 q3 q4 q5 q6 q7 q8; have HX8 := zz (HX1.o.kept HB8.o); obtain ⟨p0, p1, p2, p3, p4, p5, p6, p7⟩ := ps8 HX8.o; obtain ⟨r0, r1, r2, r3, r4, r5, r6, r7, r8⟩ := ps9 HY8.o; have HE8 := zz (fun (s : Past w8) => HEN.o u.n s.val (below_and HB1.o (below_and HB8.o s.h))); have HN8 : Hid (∀ s : Past w8, Calls Tryz.prog 29 #[.agg #[.string (bs u.j), .int .i64 u.i]] s.val fun e w2 => e = .returned (.string (bs (nmU u))) ∧ Below s.val.heap.size s.val w2) := zz (fun s => HNM.o u HUM.o _); have HT8 := zz (fun (s : Past w8) => HFT.o (nmU u) u.a s.val (below_and HB1.o (below_and HB8.o s.h))); have hnz := bs_nil0 u.n; have hneg := denv_neg V.us u.n; obtain ⟨nn, hnn⟩ : ∃ q, q = decide (u.n = []) := ⟨_, rfl⟩
    obtain ⟨en, hen⟩ : ∃ q, q = (denv V.us u.n).isSome := ⟨_, rfl⟩; obtain ⟨fv, hfv⟩ : ∃ q, q = dfits V (nmU u) u.a := ⟨_, rfl⟩; obtain ⟨dx, hdx⟩ : ∃ q, q = denvI V.us u.n := ⟨_, rfl⟩; obtain ⟨nu, hnu⟩ : ∃ q, q = nmU u := ⟨_, rfl⟩; have HDL : Hid (dloc V (V.us[k]'HKN.o) = ((nn || en) && (!u.e || fv))) := zz (by rw [← HUE.o, hnn, hen, hfv]; unfold dloc; congr 2; by_cases h : u.n = [] <;> simp [h]); rw [← hdx] at HE8 hneg; rw [← hfv] at HT8; rw [← hnu] at HN8 HT8; rw [← hnn] at hnz; rw [← hen] at hneg; clear hnn hen hfv hdx hnu; obtain ⟨uj, ui, ud, ua, un, ue⟩ := u; simp only at HE8 HN8 HT8 hnz HDL r0 r1 r2 r3 r4 r5 r6 r7 r8; cases nn
    ·
     cases en
     ·
      simp only [Bool.not_false] at hneg; refine wp_region_past (by kernel_rfl) (by kernel_rfl) ?_
      repeat (go_big_quiet_step ((first | (go_at_call 31; exact past_call (HE8.o _)) | (go_at_call 29; exact past_call (HN8.o _)) | (go_at_call 30; exact past_call (HT8.o _)))))
      refine wpQuiet_past ?_; intro w9 h9; have HB9 : Hid (Below w1.heap.size w1 w9) := zz (below_and HB8.o h9); have HB9a := zz (below_and HB1.o HB9.o); clear h9; have HR : Hid (viewR V = 2) := zz (vd_loc HKN.o (by rw [HDL.o]; rfl)); go_wp2; go_ret; exact ⟨ret_int HR.o.symm, HB9a.o⟩
     ·
      simp only [Bool.not_true] at hneg; cases ue
      ·
       refine wp_region_past (by kernel_rfl) (by kernel_rfl) ?_
       repeat (go_big_quiet_step ((first | (go_at_call 31; exact past_call (HE8.o _)) | (go_at_call 29; exact past_call (HN8.o _)) | (go_at_call 30; exact past_call (HT8.o _)))))
       refine wpQuiet_past ?_; intro w9 h9; have HB9 : Hid (Below w1.heap.size w1 w9) := zz (below_and HB8.o h9); have HB9a := zz (below_and HB1.o HB9.o); clear h9; go_wp2; go_roundw
       case rel => exact ⟨k + 1, hlt, by go_num, zz (fun j h hj => by
        by_cases ej : j = k
        ·subst ej; rw [HDL.o]; rfl
        ·exact HG.o j h (by omega)), HB9⟩
       case measure => simp [intOf]; omega
      ·
       cases fv
       ·
        refine wp_region_past (by kernel_rfl) (by kernel_rfl) ?_
        repeat (go_big_quiet_step ((first | (go_at_call 31; exact past_call (HE8.o _)) | (go_at_call 29; exact past_call (HN8.o _)) | (go_at_call 30; exact past_call (HT8.o _)))))
        refine wpQuiet_past ?_; intro w9 h9; have HB9 : Hid (Below w1.heap.size w1 w9) := zz (below_and HB8.o h9); have HB9a := zz (below_and HB1.o HB9.o); clear h9; have HR : Hid (viewR V = 2) := zz (vd_loc HKN.o (by rw [HDL.o]; rfl)); go_wp2; go_ret; exact ⟨ret_int HR.o.symm, HB9a.o⟩
       ·
        refine wp_region_past (by kernel_rfl) (by kernel_rfl) ?_
        repeat (go_big_quiet_step ((first | (go_at_call 31; exact past_call (HE8.o _)) | (go_at_call 29; exact past_call (HN8.o _)) | (go_at_call 30; exact past_call (HT8.o _)))))
        refine wpQuiet_past ?_; intro w9 h9; have HB9 : Hid (Below w1.heap.size w1 w9) := zz (below_and HB8.o h9); have HB9a := zz (below_and HB1.o HB9.o); clear h9; go_wp2; go_roundw
        case rel => exact ⟨k + 1, hlt, by go_num, zz (fun j h hj => by
         by_cases ej : j = k
         ·subst ej; rw [HDL.o]; rfl
         ·exact HG.o j h (by omega)), HB9⟩
        case measure => simp [intOf]; omega
    ·
     simp only [Bool.true_or] at HDL; cases ue
     ·
      refine wp_region_past (by kernel_rfl) (by kernel_rfl) ?_
      repeat (go_big_quiet_step ((first | (go_at_call 31; exact past_call (HE8.o _)) | (go_at_call 29; exact past_call (HN8.o _)) | (go_at_call 30; exact past_call (HT8.o _)))))
      refine wpQuiet_past ?_; intro w9 h9; have HB9 : Hid (Below w1.heap.size w1 w9) := zz (below_and HB8.o h9); have HB9a := zz (below_and HB1.o HB9.o); clear h9; go_wp2; go_roundw
      case rel => exact ⟨k + 1, hlt, by go_num, zz (fun j h hj => by
       by_cases ej : j = k
       ·subst ej; rw [HDL.o]; rfl
       ·exact HG.o j h (by omega)), HB9⟩
      case measure => simp [intOf]; omega
     ·
      cases fv
      ·
       refine wp_region_past (by kernel_rfl) (by kernel_rfl) ?_
       repeat (go_big_quiet_step ((first | (go_at_call 31; exact past_call (HE8.o _)) | (go_at_call 29; exact past_call (HN8.o _)) | (go_at_call 30; exact past_call (HT8.o _)))))
       refine wpQuiet_past ?_; intro w9 h9; have HB9 : Hid (Below w1.heap.size w1 w9) := zz (below_and HB8.o h9); have HB9a := zz (below_and HB1.o HB9.o); clear h9; have HR : Hid (viewR V = 2) := zz (vd_loc HKN.o (by rw [HDL.o]; rfl)); go_wp2; go_ret; exact ⟨ret_int HR.o.symm, HB9a.o⟩
      ·
       refine wp_region_past (by kernel_rfl) (by kernel_rfl) ?_
       repeat (go_big_quiet_step ((first | (go_at_call 31; exact past_call (HE8.o _)) | (go_at_call 29; exact past_call (HN8.o _)) | (go_at_call 30; exact past_call (HT8.o _)))))
       refine wpQuiet_past ?_; intro w9 h9; have HB9 : Hid (Below w1.heap.size w1 w9) := zz (below_and HB8.o h9); have HB9a := zz (below_and HB1.o HB9.o); clear h9; go_wp2; go_roundw
       case rel => exact ⟨k + 1, hlt, by go_num, zz (fun j h hj => by
        by_cases ej : j = k
        ·subst ej; rw [HDL.o]; rfl
        ·exact HG.o j h (by omega)), HB9⟩
       case measure => simp [intOf]; omega
  have HKN := zz hlt; obtain ⟨u, hu⟩ : ∃ u, u = V.us[k]'HKN.o := ⟨_, rfl⟩; have HLC := zz ((HV.o.us.below HBr.o).at HKN.o); rw [← hu] at HLC; have HUE := zz hu; clear hu; obtain ⟨b, o, rfl, hcell⟩ := HLC.o; have q0 := hcell 0 _ rfl; rw [Nat.add_zero] at q0; have q1 := hcell 1 _ rfl; have q2 := hcell 2 _ rfl; have q3 := hcell 3 _ rfl; have q4 := hcell 4 _ rfl; have q5 := hcell 5 _ rfl; have q6 := hcell 6 _ rfl; have q7 := hcell 7 _ rfl; have q8 := hcell 8 _ rfl; clear hcell HLC; have i0 : (0 : Int) ≤ (k : Int) := by omega
  have i1 : (k : Int) < (V.us.length : Int) := by omega
  have HUM : Hid (u ∈ V.us) := zz (by rw [HUE.o]; exact List.getElem_mem _); go_upto_region 7 with fail; obtain ⟨Y, hY⟩ : ∃ Y, Y = wr.heap.size := ⟨_, rfl⟩; refine at_hide (F := fun w' => Blk w' Y (usC u) 58 ∧ Below wr.heap.size wr w') ⟨by rw [hY]; exact Blk.made wr (usC u) _, below_alloc _ _⟩ ?_; rw [← hY]; intro w4 hF; have HY4 := zz hF.1; have HB4 : Hid (Below w1.heap.size w1 w4) := zz (below_and HB.o (by have := hF.2; rw [hY] at this; exact this)); have HB4a := zz (below_and HB1.o HB4.o); clear hF hY c7 q0 q1 q2 q3 q4 q5 q6 q7 q8; obtain ⟨y0, y1, y2, y3, y4, y5, y6, y7, y8⟩ := cl9 HY4.o; have HN4 := zz (HNM.o u HUM.o); have HC4 := zz (HCK.o u.a); have hnz := bs_nil0 u.n; have hmz := bs_nil0 (nmU u); obtain ⟨nn, hnn⟩ : ∃ q, q = decide (u.n = []) := ⟨_, rfl⟩; obtain ⟨mz, hmm⟩ : ∃ q, q = decide (nmU u = []) := ⟨_, rfl⟩; obtain ⟨d0, hd0⟩ : ∃ q, q = decide (u.d < 0) := ⟨_, rfl⟩; obtain ⟨d3, hd3⟩ : ∃ q, q = decide (3 < u.d) := ⟨_, rfl⟩; obtain ⟨ok, hok⟩ : ∃ q, q = u.a.okB := ⟨_, rfl⟩; obtain ⟨ck, hck⟩ : ∃ q, q = u.a.chk := ⟨_, rfl⟩; have HCC : Hid (ck = if ok then 0 else 2) := zz (by rw [hck, hok]; unfold Am.chk; rfl)
  have HDF : Hid (dfine (V.us[k]'HKN.o) = (!d0 && !d3 && ok && !mz && !(u.e && !nn))) := zz (by
   rw [← HUE.o, hnn, hmm, hd0, hd3, hok]
   unfold dfine
   have e1 : decide (0 ≤ u.d) = !(decide (u.d < 0)) := by by_cases g : u.d < 0 <;> simp [g] <;> omega
   have e2 : decide (u.d ≤ 3) = !(decide (3 < u.d)) := by by_cases g : 3 < u.d <;> simp [g] <;> omega
   have e3 : (nmU u == []) = decide (nmU u = []) := by by_cases g : nmU u = [] <;> simp [g]
   have e4 : (u.n == []) = decide (u.n = []) := by by_cases g : u.n = [] <;> simp [g]
   rw [e1, e2, e3, e4])
  obtain ⟨nu, hnu⟩ : ∃ q, q = nmU u := ⟨_, rfl⟩; rw [← hck] at HC4; rw [← hnn] at hnz; rw [← hmm] at hmz; rw [← hnu] at HN4 hmz; have t0 := hd0.symm; have t3 := hd3.symm; have HKE : Hid (∀ v : Us, keyU v = keyU (V.us[k]'HKN.o) ↔ keyU v = (u.j, u.i)) := zz (fun v => by rw [← HUE.o]; rfl); clear hnn hmm hd0 hd3 hok hck hnu HUM; obtain ⟨uj, ui, ud, ua, un, ue⟩ := u; simp only at HN4 HC4 hnz hmz t0 t3 HDF HKE y0 y1 y2 y3 y4 y5 y6 y7 y8; cases d0; rotate_left
  ·
   have HR : Hid (viewR V = 2) := zz (vd_fine HKN.o (by rw [HDF.o]; rfl)); go_wp2; go_ret; exact ⟨ret_int HR.o.symm, HB4a.o⟩
  cases d3; rotate_left
  ·
   have HR : Hid (viewR V = 2) := zz (vd_fine HKN.o (by rw [HDF.o]; rfl)); go_wp2; go_ret; exact ⟨ret_int HR.o.symm, HB4a.o⟩
  cases ok
  ·
   have hc2 := HCC.o; simp only [Bool.false_eq_true, if_false] at hc2; subst hc2; have HR : Hid (viewR V = 2) := zz (vd_fine HKN.o (by rw [HDF.o]; rfl)); go_wp2_with (go_at_call 28; refine (HC4.o _).mono ?_; rintro r w5 ⟨rfl, hb⟩; have HB5 : Hid (Below w1.heap.size w1 w5) := zz (below_and HB4.o hb); have HB5a := zz (below_and HB4a.o hb); have HY5 := zz (HY4.o.kept hb); obtain ⟨z0, z1⟩ := cl2 HY5.o; clear hb y0 y1 y7 y8); go_ret; exact ⟨ret_int HR.o.symm, HB5a.o⟩
  have hc2 := HCC.o; simp only [if_true] at hc2; subst hc2; cases mz; rotate_left
  ·
   have HR : Hid (viewR V = 2) := zz (vd_fine HKN.o (by rw [HDF.o]; rfl)); go_wp2_with (first | (go_at_call 28; refine (HC4.o _).mono ?_; rintro r w5 ⟨rfl, hb⟩; have HB5 : Hid (Below w1.heap.size w1 w5) := zz (below_and HB4.o hb); have HB5a := zz (below_and HB4a.o hb); have HY5 := zz (HY4.o.kept hb); obtain ⟨z0, z1⟩ := cl2 HY5.o; clear hb y0 y1 y7 y8) | (go_at_call 29; refine (HN4.o _).mono ?_; rintro r w6 ⟨rfl, hb⟩; have HB6 : Hid (Below w1.heap.size w1 w6) := zz (below_and HB5.o hb); have HB6a := zz (below_and HB5a.o hb); have HY6 := zz (HY5.o.kept hb); obtain ⟨-, -, -, -, -, -, -, x7, x8⟩ := cl9 HY6.o; clear hb z0 z1)); go_ret; exact ⟨ret_int HR.o.symm, HB6a.o⟩
  cases ue
  ·
   have HFN : Hid (dfine (V.us[k]'HKN.o) = true) := zz (by rw [HDF.o]; rfl); go_upto_region 10 with (first | (go_at_call 28; refine (HC4.o _).mono ?_; rintro r w5 ⟨rfl, hb⟩; have HB5 : Hid (Below w1.heap.size w1 w5) := zz (below_and HB4.o hb); have HB5a := zz (below_and HB4a.o hb); have HY5 := zz (HY4.o.kept hb); obtain ⟨z0, z1⟩ := cl2 HY5.o; clear hb y0 y1 y7 y8) | (go_at_call 29; refine (HN4.o _).mono ?_; rintro r w6 ⟨rfl, hb⟩; have HB6 : Hid (Below w1.heap.size w1 w6) := zz (below_and HB5.o hb); have HB6a := zz (below_and HB5a.o hb); have HY6 := zz (HY5.o.kept hb); obtain ⟨-, -, -, -, -, -, -, x7, x8⟩ := cl9 HY6.o; clear hb z0 z1)); clear x7 x8 y2 y3 y4 y5 y6
   go_loopw [5] (fun i wm => ∃ m : Nat, m ≤ k ∧ i = .int .i64 (m : Int) ∧ Hid (∀ j (h : j < k), j < m → keyU (V.us[j]'(by have := HKN.o; omega)) ≠ keyU (V.us[k]'HKN.o)) ∧ Hid (Below w6.heap.size w6 wm)) (fun i _ => k - (intOf i).toNat)
   case atStart => exact ⟨0, Nat.zero_le _, rfl, zz (fun j _ h => by omega), zz (Below.refl _ _)⟩
   case round =>
    obtain ⟨m, hm, rfl, HM, HBm⟩ := hrel; have HB7 : Hid (Below w1.heap.size w1 wr) := zz (below_and HB6.o HBm.o)
    by_cases hlt2 : m < k
    rotate_left
    ·
     obtain rfl : m = k := by omega
     have g0 : ¬ ((m : Int) < (m : Int)) := by omega
     go_wp2; go_roundw
     case rel => exact ⟨m + 1, hlt, by go_num, zz (fun j h hj => by
      by_cases ej : j = m
      ·subst ej; exact ⟨HFN.o, fun q hq => HM.o q hq hq⟩
      ·exact HF.o j h (by omega)), HB7⟩
     case measure => simp [intOf]; omega
    have HMN : Hid (m < V.us.length) := zz (by have := HKN.o; omega); have HM2 := zz hlt2; obtain ⟨x, hx⟩ : ∃ x, x = V.us[m]'HMN.o := ⟨_, rfl⟩; have HLM := zz ((HV.o.us.below (below_and HB1.o HB7.o)).at HMN.o); rw [← hx] at HLM; have HXE := zz hx; clear hx; obtain ⟨b2, o2, e2, hcell2⟩ := HLM.o; simp only [Option.some.injEq, Addr.mk.injEq, and_true] at e2; obtain ⟨rfl, rfl⟩ := e2; have s0 := hcell2 0 _ rfl; rw [Nat.add_zero] at s0; have s1 := hcell2 1 _ rfl; clear hcell2 HLM; have HX7 := zz (HX1.o.kept HB7.o); have HY7 := zz (HY6.o.kept HBm.o); have p7 := Past.blk HX7.o (j := 7) rfl; obtain ⟨r0, r1⟩ := ps2 HY7.o; have v0 := Past.cell s0; have v1 := Past.cell s1; clear s0 s1; have j0 : (0 : Int) ≤ (m : Int) := by omega
    have j1 : (m : Int) < (V.us.length : Int) := by have := HMN.o; omega
    have j2 : (m : Int) < (k : Int) := by omega
    have hkq := tk_eql x.j uj x.i ui; have HKQ : Hid ((decide (x.j = uj) && decide (x.i = ui)) = decide (keyU (V.us[m]'HMN.o) = keyU (V.us[k]'HKN.o))) := zz (by rw [← HXE.o]; exact tk_keyd HKE.o); obtain ⟨kq, hkq2⟩ : ∃ q, q = (decide (x.j = uj) && decide (x.i = ui)) := ⟨_, rfl⟩; rw [← hkq2] at hkq HKQ; clear hkq2; go_upto_region 12 with fail; cases kq
    ·
     refine wp_region_past (by kernel_rfl) (by kernel_rfl) ?_
     repeat (go_big_quiet_step (fail))
     refine wpQuiet_past ?_; intro w9 h9; have HB9 : Hid (Below w6.heap.size w6 w9) := zz (below_and HBm.o h9); clear h9 hkq; go_wp2; go_roundw
     case rel => exact ⟨m + 1, hlt2, by go_num, zz (fun j h hj => by
      by_cases ej : j = m
      ·subst ej; exact of_decide_eq_false HKQ.o.symm
      ·exact HM.o j h (by omega)), HB9⟩
     case measure => simp [intOf]; omega
    ·
     refine wp_region_past (by kernel_rfl) (by kernel_rfl) ?_
     repeat (go_big_quiet_step (fail))
     refine wpQuiet_past ?_; intro w9 h9; have HB9a : Hid (Below w.heap.size w w9) := zz (below_and HB1.o (below_and HB7.o h9)); clear h9 hkq; have HR : Hid (viewR V = 2) := zz (vd_dup HKN.o HM2.o (of_decide_eq_true HKQ.o.symm)); go_wp2; go_ret; exact ⟨ret_int HR.o.symm, HB9a.o⟩
  cases nn
  ·
   have HR : Hid (viewR V = 2) := zz (vd_fine HKN.o (by rw [HDF.o]; rfl)); go_wp2_with (first | (go_at_call 28; refine (HC4.o _).mono ?_; rintro r w5 ⟨rfl, hb⟩; have HB5 : Hid (Below w1.heap.size w1 w5) := zz (below_and HB4.o hb); have HB5a := zz (below_and HB4a.o hb); have HY5 := zz (HY4.o.kept hb); obtain ⟨z0, z1⟩ := cl2 HY5.o; clear hb y0 y1 y7 y8) | (go_at_call 29; refine (HN4.o _).mono ?_; rintro r w6 ⟨rfl, hb⟩; have HB6 : Hid (Below w1.heap.size w1 w6) := zz (below_and HB5.o hb); have HB6a := zz (below_and HB5a.o hb); have HY6 := zz (HY5.o.kept hb); obtain ⟨-, -, -, -, -, -, -, x7, x8⟩ := cl9 HY6.o; clear hb z0 z1)); go_ret; exact ⟨ret_int HR.o.symm, HB6a.o⟩
  have HFN : Hid (dfine (V.us[k]'HKN.o) = true) := zz (by rw [HDF.o]; rfl); go_upto_region 10 with (first | (go_at_call 28; refine (HC4.o _).mono ?_; rintro r w5 ⟨rfl, hb⟩; have HB5 : Hid (Below w1.heap.size w1 w5) := zz (below_and HB4.o hb); have HB5a := zz (below_and HB4a.o hb); have HY5 := zz (HY4.o.kept hb); obtain ⟨z0, z1⟩ := cl2 HY5.o; clear hb y0 y1 y7 y8) | (go_at_call 29; refine (HN4.o _).mono ?_; rintro r w6 ⟨rfl, hb⟩; have HB6 : Hid (Below w1.heap.size w1 w6) := zz (below_and HB5.o hb); have HB6a := zz (below_and HB5a.o hb); have HY6 := zz (HY5.o.kept hb); obtain ⟨-, -, -, -, -, -, -, x7, x8⟩ := cl9 HY6.o; clear hb z0 z1)); clear x7 x8 y2 y3 y4 y5 y6
  go_loopw [5] (fun i wm => ∃ m : Nat, m ≤ k ∧ i = .int .i64 (m : Int) ∧ Hid (∀ j (h : j < k), j < m → keyU (V.us[j]'(by have := HKN.o; omega)) ≠ keyU (V.us[k]'HKN.o)) ∧ Hid (Below w6.heap.size w6 wm)) (fun i _ => k - (intOf i).toNat)
  case atStart => exact ⟨0, Nat.zero_le _, rfl, zz (fun j _ h => by omega), zz (Below.refl _ _)⟩
  case round =>
   obtain ⟨m, hm, rfl, HM, HBm⟩ := hrel; have HB7 : Hid (Below w1.heap.size w1 wr) := zz (below_and HB6.o HBm.o)
   by_cases hlt2 : m < k
   rotate_left
   ·
    obtain rfl : m = k := by omega
    have g0 : ¬ ((m : Int) < (m : Int)) := by omega
    go_wp2; go_roundw
    case rel => exact ⟨m + 1, hlt, by go_num, zz (fun j h hj => by
     by_cases ej : j = m
     ·subst ej; exact ⟨HFN.o, fun q hq => HM.o q hq hq⟩
     ·exact HF.o j h (by omega)), HB7⟩
    case measure => simp [intOf]; omega
   have HMN : Hid (m < V.us.length) := zz (by have := HKN.o; omega); have HM2 := zz hlt2; obtain ⟨x, hx⟩ : ∃ x, x = V.us[m]'HMN.o := ⟨_, rfl⟩; have HLM := zz ((HV.o.us.below (below_and HB1.o HB7.o)).at HMN.o); rw [← hx] at HLM; have HXE := zz hx; clear hx; obtain ⟨b2, o2, e2, hcell2⟩ := HLM.o; simp only [Option.some.injEq, Addr.mk.injEq, and_true] at e2; obtain ⟨rfl, rfl⟩ := e2; have s0 := hcell2 0 _ rfl; rw [Nat.add_zero] at s0; have s1 := hcell2 1 _ rfl; clear hcell2 HLM; have HX7 := zz (HX1.o.kept HB7.o); have HY7 := zz (HY6.o.kept HBm.o); have p7 := Past.blk HX7.o (j := 7) rfl; obtain ⟨r0, r1⟩ := ps2 HY7.o; have v0 := Past.cell s0; have v1 := Past.cell s1; clear s0 s1; have j0 : (0 : Int) ≤ (m : Int) := by omega
   have j1 : (m : Int) < (V.us.length : Int) := by have := HMN.o; omega
   have j2 : (m : Int) < (k : Int) := by omega
   have hkq := tk_eql x.j uj x.i ui; have HKQ : Hid ((decide (x.j = uj) && decide (x.i = ui)) = decide (keyU (V.us[m]'HMN.o) = keyU (V.us[k]'HKN.o))) := zz (by rw [← HXE.o]; exact tk_keyd HKE.o); obtain ⟨kq, hkq2⟩ : ∃ q, q = (decide (x.j = uj) && decide (x.i = ui)) := ⟨_, rfl⟩; rw [← hkq2] at hkq HKQ; clear hkq2; go_upto_region 12 with fail; cases kq
   ·
    refine wp_region_past (by kernel_rfl) (by kernel_rfl) ?_
    repeat (go_big_quiet_step (fail))
    refine wpQuiet_past ?_; intro w9 h9; have HB9 : Hid (Below w6.heap.size w6 w9) := zz (below_and HBm.o h9); clear h9 hkq; go_wp2; go_roundw
    case rel => exact ⟨m + 1, hlt2, by go_num, zz (fun j h hj => by
     by_cases ej : j = m
     ·subst ej; exact of_decide_eq_false HKQ.o.symm
     ·exact HM.o j h (by omega)), HB9⟩
    case measure => simp [intOf]; omega
   ·
    refine wp_region_past (by kernel_rfl) (by kernel_rfl) ?_
    repeat (go_big_quiet_step (fail))
    refine wpQuiet_past ?_; intro w9 h9; have HB9a : Hid (Below w.heap.size w w9) := zz (below_and HB1.o (below_and HB7.o h9)); clear h9 hkq; have HR : Hid (viewR V = 2) := zz (vd_dup HKN.o HM2.o (of_decide_eq_true HKQ.o.symm)); go_wp2; go_ret; exact ⟨ret_int HR.o.symm, HB9a.o⟩
end Go.Proofs.YtdemkfhkibmbnaaGreatDoor.Ft
namespace Go.Proofs.YtdemkfhkibmbnaaGreatDoor
open Go.RowKit Go
section
variable {P : Program}
theorem wp_region_past_late1 {id : Nat} {Q : Exit → Act → World → Prop} {a : Act} {w : World} {L M : List Oper} {o1 : Oper} (hL : cut1 L = some (M, o1)) (hm : P.follows .mixedOrders = true) (hB : Region.lexB .any M.toArray = true) (hb : backB L.toArray = true) (hl : lateB L.toArray M.length = true) (hs : Region.noSelect L.toArray = true)
  (hQ : ∀ c a d v w, Q (.panic c) (Act.put a d v) w → Q (.panic c) a w)
  (h : wpQuiet P M.toArray (fun w' => ∃ s : Past w, w' = s.val) (fun a' => ∀ w', (∃ s : Past w, w' = s.val) → wpList P L.toArray Q [o1] a' w') M a) : (Code.region id L.toArray true).wp P Q a w := by
 have hL' := cut1_spec hL; subst hL'; have hn1 : (M ++ [o1]).toArray.size = M.length + 1 := by simp
 have hpop1 : (M ++ [o1]).toArray.pop = M.toArray := by simp
 simp only [Region.lexB, Bool.and_eq_true] at hB; refine wp_region_any hm ?_; rw [hn1, show Array.replicate (M.length + 1) false = (Array.replicate M.length false).push false from by rw [← Array.replicate_succ]]; refine wpAny_late (P := P) (Q := Q) (C := fun w' => ∃ s : Past w, w' = s.val) (Qq := fun a' => ∀ w', (∃ s : Past w, w' = s.val) → wpOp P (M ++ [o1]).toArray Q M.length (fun a2 w2 => Q .normal a2 w2) a' w') hn1 hb hl hs (fun c a d v w h => hQ c a d v w h) (fun a' w' hw' hqa => hqa w' hw') M.length (Array.replicate M.length false) a { w with drawn := w.drawn + 1 } ⟨⟨{ w with drawn := w.drawn + 1 }, below_drewN 1⟩, rfl⟩ (Array.size_replicate) ?_; rw [hpop1]
 have h9 := quiet_weaken (Q' := fun a' => ∀ w', (∃ s : Past w, w' = s.val) → wpOp P (M ++ [o1]).toArray Q M.length (fun a2 w2 => Q .normal a2 w2) a' w') (fun a' h' w' hw' => by
  have h2 := h' w' hw'; have g1 : (M ++ [o1]).toArray[M.length]? = some o1 := by simp
  unfold wpOp
  rw [g1]
  exact h2) _ _ h
 exact wpAnyQ_lex (P := P) (C := fun w' => ∃ s : Past w, w' = s.val) (md := .any) hB.1 M 0 (Array.replicate M.length false) a (by simp) (by simpa using hB.2) h9
theorem wp_region_late1 {id : Nat} {Q : Exit → Act → World → Prop} {a : Act} {w : World} {L M : List Oper} {o1 : Oper} (hL : cut1 L = some (M, o1)) (hm : P.follows .mixedOrders = true) (hB : Region.lexB .any M.toArray = true) (hb : backB L.toArray = true) (hl : lateB L.toArray M.length = true) (hs : Region.noSelect L.toArray = true)
  (h : wpQuiet P M.toArray (fun w' => ∃ s : Past w, w' = s.val) (fun a' => ∀ w', (∃ s : Past w, w' = s.val) → wpList P L.toArray (NoPanic Q) [o1] a' w') M a) : (Code.region id L.toArray true).wp P Q a w :=
 wp_region_noPanic (wp_region_past_late1 hL hm hB hb hl hs (fun _ _ _ _ _ h => h.elim) h)
end
end Go.Proofs.YtdemkfhkibmbnaaGreatDoor
namespace Go.Proofs.YtdemkfhkibmbnaaGreatDoor
open Go.RowKit
theorem rsub_bad (x y : Am) (w : World) (ha : (x.okB && y.okB) = false) :
  Calls Tryz.prog 40 #[amV x, amV y] w fun e w' => e = .returned (.tuple #[amV (subR x y).1, .int .i64 (subR x y).2]) ∧ Below w.heap.size w w' := by
 have HA : Hid ((x.okB && y.okB) = false) := zz ha; have HR := zz (subR_bad ha); clear ha; obtain ⟨w3, hw3⟩ : ∃ w3, w3 = (((w.alloc (.cells #[.int .i64 x.c, .int .i64 x.r, .int .i64 x.d, .int .i64 x.p] 23)).alloc (.cells #[.int .i64 y.c, .int .i64 y.r, .int .i64 y.d, .int .i64 y.p] 23)).alloc (.cells #[.int .i64 0, .int .i64 0, .int .i64 0, .int .i64 0] 23)) := ⟨_, rfl⟩; obtain ⟨B, hB⟩ : ∃ B, B = w.heap.size := ⟨_, rfl⟩
 have B0 : Hid (Blk w3 B (amC x) 23) := zz (by
  have := ((Blk.made w (amC x) 23).alloc (.cells #[.int .i64 y.c, .int .i64 y.r, .int .i64 y.d, .int .i64 y.p] 23)).alloc (.cells #[.int .i64 0, .int .i64 0, .int .i64 0, .int .i64 0] 23)
  rw [hw3, hB]; exact this)
 have B1 : Hid (Blk w3 (B + 1) (amC y) 23) := zz (by
  have := (Blk.made (w.alloc (.cells #[.int .i64 x.c, .int .i64 x.r, .int .i64 x.d, .int .i64 x.p] 23)) (amC y) 23).alloc (.cells #[.int .i64 0, .int .i64 0, .int .i64 0, .int .i64 0] 23)
  rw [hw3, hB]; simpa using this)
 have B2 : Hid (Blk w3 (B + 1 + 1) (amC .zero) 23) := zz (by
  have := Blk.made ((w.alloc (.cells #[.int .i64 x.c, .int .i64 x.r, .int .i64 x.d, .int .i64 x.p] 23)).alloc (.cells #[.int .i64 y.c, .int .i64 y.r, .int .i64 y.d, .int .i64 y.p] 23)) (amC .zero) 23
  rw [hw3, hB]; simpa [Am.zero] using this)
 have HBL : Hid (Below w.heap.size w w3) := zz (by rw [hw3]; exact below_and (below_and (below_alloc w _) (below_alloc _ _)) (below_alloc _ _)); have HSZ : Hid (w3.heap.size = B + 3) := zz (by rw [hw3, hB]; simp); have HBW0 : Hid (w.heap.size ≤ B) := zz (by omega); obtain ⟨c0, c1, c2, c3⟩ := cl4 B0.o; obtain ⟨c4, c5, c6, c7⟩ := cl4 B1.o; go_enter Tryz.func40, Tryz.ntmps40; go_upto_region 1 with fail; rw [← hw3, ← hB]; clear hw3 hB; go_wp2_with (go_at_call 71; refine (wrong_two w3 x y).mono ?_; rw [HA.o]; rintro e ws ⟨rfl, hb⟩; have C0 := zz (B0.o.kept hb); have C1 := zz (B1.o.kept hb); have HBS := zz (below_and HBL.o hb); have HSS : Hid (B + 3 ≤ ws.heap.size) := zz (by have := hb.size; have := HSZ.o; omega); have hbr := B2.o.kept hb; have C2 := zz hbr; have r0 := hbr.cell (j := 0) rfl; have f0 := hbr.free 0; have r1 := hbr.cell (j := 1) rfl; have f1 := hbr.free 1; have r2 := hbr.cell (j := 2) rfl; have f2 := hbr.free 2; have r3 := hbr.cell (j := 3) rfl; have f3 := hbr.free 3; clear hb hbr; clear c0 c1 c2 c3 c4 c5 c6 c7; obtain ⟨c0, c1, c2, c3⟩ := cl4 C0.o; obtain ⟨c4, c5, c6, c7⟩ := cl4 C1.o)
 refine bodyPost_ret (results_row_tmp rfl _ _ (B + 1 + 1) 23 #[.int .i64 0, .int .i64 0, .int .i64 0, .int .i64 0] (0, 0) _ rfl ?_ Tryz.underlying23 rfl (by kernel_rfl)) rfl ⟨?_, ?_⟩
 ·exact (((C2.o.set 0 (.int .i64 0)).set 1 (.int .i64 0)).set 2 (.int .i64 0)).set 3 (.int .i64 0)
 ·first | rfl | (rw [HR.o]; rfl)
 ·have hBw : w.heap.size ≤ B + 1 + 1 := by have := HBW0.o; omega
  exact (((HBS.o.setCell (p := ⟨B + 1 + 1, 0, none⟩) hBw _).setCell (p := ⟨B + 1 + 1, 1, none⟩) hBw _).setCell (p := ⟨B + 1 + 1, 2, none⟩) hBw _).setCell (p := ⟨B + 1 + 1, 3, none⟩) hBw _
theorem rsub_no (x y : Am) (w : World) (ha : (x.okB && y.okB) = true) (hf : fitsB y x = false) :
  Calls Tryz.prog 40 #[amV x, amV y] w fun e w' => e = .returned (.tuple #[amV (subR x y).1, .int .i64 (subR x y).2]) ∧ Below w.heap.size w w' := by
 have HA : Hid ((x.okB && y.okB) = true) := zz ha; have HF : Hid (fitsB y x = false) := zz hf; have HR := zz (subR_fit ha hf); clear ha hf; obtain ⟨w3, hw3⟩ : ∃ w3, w3 = (((w.alloc (.cells #[.int .i64 x.c, .int .i64 x.r, .int .i64 x.d, .int .i64 x.p] 23)).alloc (.cells #[.int .i64 y.c, .int .i64 y.r, .int .i64 y.d, .int .i64 y.p] 23)).alloc (.cells #[.int .i64 0, .int .i64 0, .int .i64 0, .int .i64 0] 23)) := ⟨_, rfl⟩; obtain ⟨B, hB⟩ : ∃ B, B = w.heap.size := ⟨_, rfl⟩
 have B0 : Hid (Blk w3 B (amC x) 23) := zz (by
  have := ((Blk.made w (amC x) 23).alloc (.cells #[.int .i64 y.c, .int .i64 y.r, .int .i64 y.d, .int .i64 y.p] 23)).alloc (.cells #[.int .i64 0, .int .i64 0, .int .i64 0, .int .i64 0] 23)
  rw [hw3, hB]; exact this)
 have B1 : Hid (Blk w3 (B + 1) (amC y) 23) := zz (by
  have := (Blk.made (w.alloc (.cells #[.int .i64 x.c, .int .i64 x.r, .int .i64 x.d, .int .i64 x.p] 23)) (amC y) 23).alloc (.cells #[.int .i64 0, .int .i64 0, .int .i64 0, .int .i64 0] 23)
  rw [hw3, hB]; simpa using this)
 have B2 : Hid (Blk w3 (B + 1 + 1) (amC .zero) 23) := zz (by
  have := Blk.made ((w.alloc (.cells #[.int .i64 x.c, .int .i64 x.r, .int .i64 x.d, .int .i64 x.p] 23)).alloc (.cells #[.int .i64 y.c, .int .i64 y.r, .int .i64 y.d, .int .i64 y.p] 23)) (amC .zero) 23
  rw [hw3, hB]; simpa [Am.zero] using this)
 have HBL : Hid (Below w.heap.size w w3) := zz (by rw [hw3]; exact below_and (below_and (below_alloc w _) (below_alloc _ _)) (below_alloc _ _)); have HSZ : Hid (w3.heap.size = B + 3) := zz (by rw [hw3, hB]; simp); have HBW0 : Hid (w.heap.size ≤ B) := zz (by omega); obtain ⟨c0, c1, c2, c3⟩ := cl4 B0.o; obtain ⟨c4, c5, c6, c7⟩ := cl4 B1.o; go_enter Tryz.func40, Tryz.ntmps40; go_upto_region 1 with fail; rw [← hw3, ← hB]; clear hw3 hB; go_wp2_with (first | (go_at_call 71; refine (wrong_two w3 x y).mono ?_; rw [HA.o]; rintro e ws ⟨rfl, hb⟩; have C0 := zz (B0.o.kept hb); have C1 := zz (B1.o.kept hb); have HBS := zz (below_and HBL.o hb); have HSS : Hid (B + 3 ≤ ws.heap.size) := zz (by have := hb.size; have := HSZ.o; omega); have hbr := B2.o.kept hb; have C2 := zz hbr; have r0 := hbr.cell (j := 0) rfl; have f0 := hbr.free 0; have r1 := hbr.cell (j := 1) rfl; have f1 := hbr.free 1; have r2 := hbr.cell (j := 2) rfl; have f2 := hbr.free 2; have r3 := hbr.cell (j := 3) rfl; have f3 := hbr.free 3; clear hb hbr; clear c0 c1 c2 c3 c4 c5 c6 c7; obtain ⟨c0, c1, c2, c3⟩ := cl4 C0.o; obtain ⟨c4, c5, c6, c7⟩ := cl4 C1.o) | (go_at_call 62; refine (rfits_any y x _).mono ?_; rw [HF.o]; rintro e wt ⟨rfl, hb⟩; have D0 := zz (C0.o.kept hb); have D1 := zz (C1.o.kept hb); have HBT := zz (below_and HBS.o hb); clear r0 r1 r2 r3 f0 f1 f2 f3; have hbr := C2.o.kept hb; have D2 := zz hbr; have r0 := hbr.cell (j := 0) rfl; have f0 := hbr.free 0; have r1 := hbr.cell (j := 1) rfl; have f1 := hbr.free 1; have r2 := hbr.cell (j := 2) rfl; have f2 := hbr.free 2; have r3 := hbr.cell (j := 3) rfl; have f3 := hbr.free 3; clear hbr; clear hb))
 refine bodyPost_ret (results_row_tmp rfl _ _ (B + 1 + 1) 23 #[.int .i64 0, .int .i64 0, .int .i64 0, .int .i64 0] (0, 0) _ rfl ?_ Tryz.underlying23 rfl (by kernel_rfl)) rfl ⟨?_, ?_⟩
 ·exact (((D2.o.set 0 (.int .i64 0)).set 1 (.int .i64 0)).set 2 (.int .i64 0)).set 3 (.int .i64 0)
 ·first | rfl | (rw [HR.o]; rfl)
 ·have hBw : w.heap.size ≤ B + 1 + 1 := by have := HBW0.o; omega
  exact (((HBT.o.setCell (p := ⟨B + 1 + 1, 0, none⟩) hBw _).setCell (p := ⟨B + 1 + 1, 1, none⟩) hBw _).setCell (p := ⟨B + 1 + 1, 2, none⟩) hBw _).setCell (p := ⟨B + 1 + 1, 3, none⟩) hBw _
theorem rsub_good (x y : Am) (w : World) (ha : (x.okB && y.okB) = true) (hf : fitsB y x = true) :
  Calls Tryz.prog 40 #[amV x, amV y] w fun e w' => e = .returned (.tuple #[amV (subR x y).1, .int .i64 (subR x y).2]) ∧ Below w.heap.size w w' := by
 have HA : Hid ((x.okB && y.okB) = true) := zz ha; have HF : Hid (fitsB y x = true) := zz hf; have HX : Hid (x.okB = true) := zz (by simp at ha; exact ha.1); have HY : Hid (y.okB = true) := zz (by simp at ha; exact ha.2); clear ha hf; obtain ⟨w3, hw3⟩ : ∃ w3, w3 = (((w.alloc (.cells #[.int .i64 x.c, .int .i64 x.r, .int .i64 x.d, .int .i64 x.p] 23)).alloc (.cells #[.int .i64 y.c, .int .i64 y.r, .int .i64 y.d, .int .i64 y.p] 23)).alloc (.cells #[.int .i64 0, .int .i64 0, .int .i64 0, .int .i64 0] 23)) := ⟨_, rfl⟩; obtain ⟨B, hB⟩ : ∃ B, B = w.heap.size := ⟨_, rfl⟩
 have B0 : Hid (Blk w3 B (amC x) 23) := zz (by
  have := ((Blk.made w (amC x) 23).alloc (.cells #[.int .i64 y.c, .int .i64 y.r, .int .i64 y.d, .int .i64 y.p] 23)).alloc (.cells #[.int .i64 0, .int .i64 0, .int .i64 0, .int .i64 0] 23)
  rw [hw3, hB]; exact this)
 have B1 : Hid (Blk w3 (B + 1) (amC y) 23) := zz (by
  have := (Blk.made (w.alloc (.cells #[.int .i64 x.c, .int .i64 x.r, .int .i64 x.d, .int .i64 x.p] 23)) (amC y) 23).alloc (.cells #[.int .i64 0, .int .i64 0, .int .i64 0, .int .i64 0] 23)
  rw [hw3, hB]; simpa using this)
 have B2 : Hid (Blk w3 (B + 1 + 1) (amC .zero) 23) := zz (by
  have := Blk.made ((w.alloc (.cells #[.int .i64 x.c, .int .i64 x.r, .int .i64 x.d, .int .i64 x.p] 23)).alloc (.cells #[.int .i64 y.c, .int .i64 y.r, .int .i64 y.d, .int .i64 y.p] 23)) (amC .zero) 23
  rw [hw3, hB]; simpa [Am.zero] using this)
 have HBL : Hid (Below w.heap.size w w3) := zz (by rw [hw3]; exact below_and (below_and (below_alloc w _) (below_alloc _ _)) (below_alloc _ _)); have HSZ : Hid (w3.heap.size = B + 3) := zz (by rw [hw3, hB]; simp); have HBW0 : Hid (w.heap.size ≤ B) := zz (by omega); obtain ⟨c0, c1, c2, c3⟩ := cl4 B0.o; obtain ⟨c4, c5, c6, c7⟩ := cl4 B1.o; go_enter Tryz.func40, Tryz.ntmps40; go_upto_region 1 with fail; rw [← hw3, ← hB]; clear hw3 hB; go_upto_region 5 with (first | (go_at_call 71; refine (wrong_two w3 x y).mono ?_; rw [HA.o]; rintro e ws ⟨rfl, hb⟩; have C0 := zz (B0.o.kept hb); have C1 := zz (B1.o.kept hb); have HBS := zz (below_and HBL.o hb); have HSS : Hid (B + 3 ≤ ws.heap.size) := zz (by have := hb.size; have := HSZ.o; omega); have hbr := B2.o.kept hb; have C2 := zz hbr; have r0 := hbr.cell (j := 0) rfl; have f0 := hbr.free 0; have r1 := hbr.cell (j := 1) rfl; have f1 := hbr.free 1; have r2 := hbr.cell (j := 2) rfl; have f2 := hbr.free 2; have r3 := hbr.cell (j := 3) rfl; have f3 := hbr.free 3; clear hb hbr; clear c0 c1 c2 c3 c4 c5 c6 c7; obtain ⟨c0, c1, c2, c3⟩ := cl4 C0.o; obtain ⟨c4, c5, c6, c7⟩ := cl4 C1.o) | (go_at_call 62; refine (rfits_any y x _).mono ?_; rw [HF.o]; rintro e wt ⟨rfl, hb⟩; have D0 := zz (C0.o.kept hb); have D1 := zz (C1.o.kept hb); have HBT := zz (below_and HBS.o hb); clear r0 r1 r2 r3 f0 f1 f2 f3; have hbr := C2.o.kept hb; have D2 := zz hbr; have r0 := hbr.cell (j := 0) rfl; have f0 := hbr.free 0; have r1 := hbr.cell (j := 1) rfl; have f1 := hbr.free 1; have r2 := hbr.cell (j := 2) rfl; have f2 := hbr.free 2; have r3 := hbr.cell (j := 3) rfl; have f3 := hbr.free 3; clear hbr; clear hb))
 clear c0 c1 c2 c3 c4 c5 c6 c7 r0 r1 r2 r3 f0 f1 f2 f3
 go_cut [6, 7] (fun sa sb wx => TwoS wt.heap.size wx sa sb x y ∧ Below wt.heap.size wt wx)
 case first =>
  go_region_held3 (fun w' => w'.cell? ⟨B, 0, none⟩ = some (.int .i64 x.c) ∧ w'.cell? ⟨B, 1, none⟩ = some (.int .i64 x.r) ∧ w'.cell? ⟨B, 2, none⟩ = some (.int .i64 x.d) ∧ w'.cell? ⟨B, 3, none⟩ = some (.int .i64 x.p) ∧ w'.cell? ⟨B + 1, 0, none⟩ = some (.int .i64 y.c) ∧ w'.cell? ⟨B + 1, 1, none⟩ = some (.int .i64 y.r) ∧ w'.cell? ⟨B + 1, 2, none⟩ = some (.int .i64 y.d) ∧ w'.cell? ⟨B + 1, 3, none⟩ = some (.int .i64 y.p)) (refine eight (t := 23) (u := 23) ?_ ?_ <;> (repeat (first | exact D0.o | exact D1.o | apply Blk.drew | apply Blk.alloc)))
   (first | (go_at_call 60; refine (four_exact _ _).mono ?_; rintro e w1 ⟨rfl, rfl⟩))
  all_goals go_wp2_with fail
  all_goals go_meet
  all_goals refine ⟨⟨_, _, rfl, rfl, by first | omega | (simp; omega), by first | omega | (simp; omega), by first | omega | (simp; omega), ?_, ?_⟩, ?_⟩
  all_goals first
   | ((repeat (first | exact Below.refl _ _ | apply bl_drew | (refine bl_alloc _ ?_ (by simp <;> omega)))); done)
   | ((repeat (first | (refine Blk.made_at (cs := amC x) ?_; simp; done) | (refine Blk.made_at (cs := amC y) ?_; simp; done) | apply Blk.drew | apply Blk.alloc)); done)
 case rest =>
  obtain ⟨⟨g, h, rfl, rfl, hgh, hg, hh, hb1, hb2⟩, hbl⟩ := hcut; have HB1 := zz hb1; have HB2 := zz hb2; have HBW := zz hbl; have HGH := zz (show g ≠ h ∧ wt.heap.size ≤ g ∧ wt.heap.size ≤ h from ⟨hgh, hg, hh⟩); clear hb1 hb2 hbl hgh hg hh
  obtain ⟨z, hz⟩ : ∃ z : Am, z = .of fun k => x.get k - y.get k := ⟨_, rfl⟩
  have HZ : Hid (∀ k, k < 4 → z.get k = x.get k - y.get k) := zz (fun k hk => by rw [hz, Am.of_get _ k hk]); clear hz; go_wp2
  go_loopw [8] (fun i wc => ∃ k : Nat, k ≤ 4 ∧ i = .int .i64 (k : Int) ∧ Hid (Blk wc g (amC (Am.mix k x z)) 2) ∧ Hid (Blk wc h (amC y) 2) ∧ Hid (Below wt.heap.size wt wc)) (fun i _ => 4 - (intOf i).toNat)
  case atStart => exact ⟨0, Nat.zero_le _, rfl, HB1, HB2, HBW⟩
  case round =>
   obtain ⟨k, hk, rfl, HXa, HYa, HBx⟩ := hrel
   by_cases hlt : k < 4
   ·have i0 : (0 : Int) ≤ (k : Int) := by omega
    have i1 : (k : Int) < 4 := by omega
    have hx := HXa.o.cell (Am.mix_get k hlt x z); have hy := HYa.o.cell (amC_get y hlt); have fx := HXa.o.free k; have hzk := HZ.o k hlt; obtain ⟨p, hp⟩ : ∃ p, p = x.get k := ⟨_, rfl⟩; obtain ⟨q, hq⟩ : ∃ q, q = y.get k := ⟨_, rfl⟩; have p0 : 0 ≤ p ∧ p ≤ 1099511627776 := by rw [hp]; exact ok_get HX.o hlt
    have q0 : 0 ≤ q ∧ q ≤ 1099511627776 := by rw [hq]; exact ok_get HY.o hlt
    obtain ⟨p1, p2⟩ := p0; obtain ⟨q1, q2⟩ := q0; rw [← hp] at hx; rw [← hq] at hy; rw [← hp, ← hq] at hzk
    have HNX : Hid (Blk (wr.setCell ⟨g, k, none⟩ (.int .i64 (p - q))) g (amC (Am.mix (k + 1) x z)) 2) := zz (by
     have := HXa.o.set k (.int .i64 (z.get k)); rw [Am.mix_set k hlt, hzk] at this
     exact this)
    have HNY : Hid (Blk (wr.setCell ⟨g, k, none⟩ (.int .i64 (p - q))) h (amC y) 2) := zz (HYa.o.other (Ne.symm HGH.o.1) _); have HNB : Hid (Below wt.heap.size wt (wr.setCell ⟨g, k, none⟩ (.int .i64 (p - q))).drew) := zz (bl_drew (HBx.o.setCell (p := ⟨g, k, none⟩) HGH.o.2.1 _)); have s1 : IntKind.i64.wrap (p - q) = p - q := by rw [IntKind.wrap_i64]; omega
    have s2 : wrap64 (p - q) = p - q := by unfold wrap64; omega
    clear hp hq hzk; go_wp2
    go_region
    all_goals go_wp2
    go_roundw
    case rel => exact ⟨k + 1, by omega, by go_num, HNX, HNY, HNB⟩
    case measure => simp [intOf]; omega
   ·obtain rfl : k = 4 := by omega
    have HR := zz (subR_ok (x := x) (y := y) (z := z) (by rw [HX.o, HY.o]; rfl) HF.o HZ.o); have HX4 : Hid (Blk wr g (amC z) 2) := HXa; have BR : Hid (Blk wr (B + 1 + 1) (amC .zero) 23) := zz (D2.o.kept HBx.o); go_wp2_with (go_at_call 72; refine (of_any g z _ HX4.o).mono ?_; rintro e w5 ⟨rfl, hb⟩; have hbr := BR.o.kept hb; have r0 := hbr.cell (j := 0) rfl; have f0 := hbr.free 0; have r1 := hbr.cell (j := 1) rfl; have f1 := hbr.free 1; have r2 := hbr.cell (j := 2) rfl; have f2 := hbr.free 2; have r3 := hbr.cell (j := 3) rfl; have f3 := hbr.free 3; have BR5 := zz hbr; have HB5 := zz (below_and HBT.o (below_and HBx.o hb)); clear hb hbr); refine bodyPost_ret (results_row_tmp rfl _ _ (B + 1 + 1) 23 #[.int .i64 z.c, .int .i64 z.r, .int .i64 z.d, .int .i64 z.p] (0, 0) _ rfl ?_ Tryz.underlying23 rfl (by kernel_rfl)) rfl ⟨?_, ?_⟩
    ·exact (((BR5.o.set 0 (.int .i64 z.c)).set 1 (.int .i64 z.r)).set 2 (.int .i64 z.d)).set 3 (.int .i64 z.p)
    ·first | rfl | (rw [HR.o]; rfl)
    ·have hBw : w.heap.size ≤ B + 1 + 1 := by have := HBW0.o; omega
     exact (((HB5.o.setCell (p := ⟨B + 1 + 1, 0, none⟩) hBw _).setCell (p := ⟨B + 1 + 1, 1, none⟩) hBw _).setCell (p := ⟨B + 1 + 1, 2, none⟩) hBw _).setCell (p := ⟨B + 1 + 1, 3, none⟩) hBw _
theorem rsub_any (x y : Am) (w : World) :
  Calls Tryz.prog 40 #[amV x, amV y] w fun e w' => e = .returned (.tuple #[amV (subR x y).1, .int .i64 (subR x y).2]) ∧ Below w.heap.size w w' := by
 cases h : x.okB && y.okB
 ·exact rsub_bad x y w h
 ·cases hf : fitsB y x
  ·exact rsub_no x y w h hf
  ·exact rsub_good x y w h hf
end Go.Proofs.YtdemkfhkibmbnaaGreatDoor
namespace Go.Proofs.YtdemkfhkibmbnaaGreatDoor.Ft
open Go.RowKit Go.Proofs.YtdemkfhkibmbnaaGreatDoor Go.Proofs.YtdemkfhkibmbnaaGreatDoor.Ru
theorem room_why (V : Vw) (p : List UInt8) : roomR V p = if (decide (viewR V = 0) && (decide (p = []) || (denv V.us p).isSome)) = true then ((subR (dwhole V p) (sumL (inP V.us p)).1).1, 0) else (Am.zero, 2) := by
 rw [← droomR_eq]
 unfold droomR viewR
 cases hc : checkV V
 ·simp
 ·by_cases hp : p = []
  ·simp [hp]
  ·cases (denv V.us p).isSome <;> simp [hp]
theorem droom_any (V : Vw) (va vu : Value) (p : List UInt8) (w : World) (hv : Vws w V va vu) (hb : VwB V) : Calls Tryz.prog 12 #[vwV V va vu, .string (bs p)] w fun r w' => r = .returned (.tuple #[amV (roomR V p).1, .int .i64 (roomR V p).2]) ∧ Below w.heap.size w w' := by
 have HV := zz hv; obtain ⟨⟨pa, ca, rfl⟩, pu, cu, rfl⟩ := hv.slices; have hn60 : (V.us.length : Int) ≤ 1000 := by have := hb.n; omega
 have HB_ := zz hb; clear hv hb; have HWY := zz (room_why V p); obtain ⟨RA, hra⟩ : ∃ q, q = (roomR V p).1 := ⟨_, rfl⟩; obtain ⟨RE, hre⟩ : ∃ q, q = (roomR V p).2 := ⟨_, rfl⟩; rw [← hra, ← hre]; obtain ⟨vr, hvr⟩ : ∃ q, q = viewR V := ⟨_, rfl⟩; obtain ⟨pe, hpe⟩ : ∃ q, q = decide (p = []) := ⟨_, rfl⟩; obtain ⟨dn, hdn⟩ : ∃ q, q = (denv V.us p).isSome := ⟨_, rfl⟩; obtain ⟨sa, hsa⟩ : ∃ q, q = (sumL (inP V.us p)).1 := ⟨_, rfl⟩; obtain ⟨sz, hsz⟩ : ∃ q, q = decide ((sumL (inP V.us p)).2 = 0) := ⟨_, rfl⟩; obtain ⟨dw, hdw⟩ : ∃ q, q = dwhole V p := ⟨_, rfl⟩; have HRR : Hid ((RA, RE) = if (decide (vr = 0) && (pe || dn)) = true then ((subR dw sa).1, 0) else (Am.zero, 2)) := zz (by rw [hra, hre, hvr, hpe, hdn, hsa, hdw, ← HWY.o]); have HVO : Hid (vr = 0 ∨ vr = 2) := zz (by rw [hvr]; exact view_or V); have HCV : Hid (∀ wx, Below w.heap.size w wx → Calls Tryz.prog 8 #[vwV V (.slice pa V.at'.length ca) (.slice pu V.us.length cu)] wx fun r w' => r = .returned (.int .i64 vr) ∧ Below wx.heap.size wx w') := zz (fun wx hb => by rw [hvr]; exact dcheckView_any V _ _ wx (HV.o.below hb) HB_.o); have HEN : Hid (∀ wx, Below w.heap.size w wx → Calls Tryz.prog 31 #[vwV V (.slice pa V.at'.length ca) (.slice pu V.us.length cu), .string (bs p)] wx fun r w' => r = .returned (.int .i64 (denvI V.us p)) ∧ Below wx.heap.size wx w') := zz (fun wx hb => denv_any V _ _ p wx (HV.o.below hb) HB_.o)
 have HTK : Hid (∀ wx, Below w.heap.size w wx → Calls Tryz.prog 39 #[vwV V (.slice pa V.at'.length ca) (.slice pu V.us.length cu), .string (bs p)] wx fun r w' => r = .returned (.tuple #[amV sa, .bool sz]) ∧ Below wx.heap.size wx w') := zz (fun wx hb => by rw [hsa, hsz]; exact dtaken_any V _ _ p wx (HV.o.below hb) HB_.o); have HWH : Hid ((pe || dn) = true → ∀ wx, Below w.heap.size w wx → Calls Tryz.prog 41 #[vwV V (.slice pa V.at'.length ca) (.slice pu V.us.length cu), .string (bs p)] wx fun r w' => r = .returned (amV dw) ∧ Below wx.heap.size wx w') := zz (fun hq wx hb => by rw [hdw]; refine dwhole_any V _ _ p wx (HV.o.below hb) HB_.o ?_; rw [hpe, hdn] at hq; by_cases g : p = []; exact .inl g; right; rw [decide_eq_false g] at hq; exact hq); obtain ⟨dd, hdd⟩ : ∃ q, q = subR dw sa := ⟨_, rfl⟩; have HSU : Hid (∀ wx, Calls Tryz.prog 40 #[amV dw, amV sa] wx fun e w' => e = .returned (.tuple #[amV dd.1, .int .i64 dd.2]) ∧ Below wx.heap.size wx w') := zz (fun wx => by rw [hdd]; exact rsub_any dw sa wx); rw [← hdd] at HRR; obtain ⟨da, de⟩ := dd; simp only at HRR HSU; have hem := bs_nil0 p
 rw [← hpe] at hem; have hneg := denv_neg V.us p; rw [← hdn] at hneg; obtain ⟨dx, hdx⟩ : ∃ q, q = denvI V.us p := ⟨_, rfl⟩; rw [← hdx] at HEN hneg; clear hra hre hvr hpe hdn hsa hsz hdw hdd hdx HWY; go_enter Tryz.func12, Tryz.ntmps12; go_upto_region 1 with fail; obtain ⟨X, hX⟩ : ∃ q, q = w.heap.size := ⟨_, rfl⟩; refine at_hide (F := fun w' => Blk w' X (vwC V (.slice pa V.at'.length ca) (.slice pu V.us.length cu)) 32 ∧ Blk w' (X + 1) (amC Am.zero) 23 ∧ Below w.heap.size w w') ⟨by rw [hX]; exact (two_blk w (vwC V (.slice pa V.at'.length ca) (.slice pu V.us.length cu)) (amC Am.zero) _ _).1, by rw [hX]; exact (two_blk w (vwC V (.slice pa V.at'.length ca) (.slice pu V.us.length cu)) (amC Am.zero) _ _).2.1, (two_blk w (vwC V (.slice pa V.at'.length ca) (.slice pu V.us.length cu)) (amC Am.zero) _ _).2.2⟩ ?_; rw [← hX]; intro w1 hF; have HX1 := zz hF.1; have HY1 := zz hF.2.1; have HB1 : Hid (Below w.heap.size w w1) := zz (by have := hF.2.2; rw [hX] at this; exact this); have HXW : Hid (w.heap.size ≤ X) := zz (by omega); clear hF hX; obtain ⟨c0, c1, c2, c3, c4, c5, c6, c7⟩ := cl8 HX1.o; obtain ⟨y0, y1, y2, y3⟩ := cl4 HY1.o
 obtain ⟨f0, f1, f2, f3⟩ := fz4 HY1.o; rcases HVO.o with rfl | rfl; rotate_left
 ·
  have HR : Hid (RA = Am.zero ∧ RE = 2) := zz (by have h := HRR.o; simp at h; exact h); go_wp2_with (go_at_call 8; refine (HCV.o _ HB1.o).mono ?_; rintro r w2 ⟨rfl, hb⟩; have HB2 := zz (below_and HB1.o hb); have HX2 := zz (HX1.o.kept hb); have HY2 := zz (HY1.o.kept hb); clear hb c0 c1 c2 c3 c4 c5 c6 c7 y0 y1 y2 y3 f0 f1 f2 f3; obtain ⟨c0, c1, c2, c3, c4, c5, c6, c7⟩ := cl8 HX2.o; obtain ⟨y0, y1, y2, y3⟩ := cl4 HY2.o; obtain ⟨f0, f1, f2, f3⟩ := fz4 HY2.o); refine ret_ct (g := X + 1) (cs := amC Am.zero) rfl rfl rfl (blk_fill4 HY2.o) Tryz.underlying23 rfl size_am ?_; exact ⟨by rw [HR.o.1, HR.o.2]; rfl, below_fill4 HB2.o (by have := HXW.o; omega) _ _ _ _⟩
 cases pe; rotate_left
 ·
  have HR : Hid (RA = da ∧ RE = 0) := zz (by have h := HRR.o; simp at h; exact h); have HWX := zz (HWH.o (by rfl)); go_upto_region 3 with (go_at_call 8; refine (HCV.o _ HB1.o).mono ?_; rintro r w2 ⟨rfl, hb⟩; have HB2 := zz (below_and HB1.o hb); have HX2 := zz (HX1.o.kept hb); have HY2 := zz (HY1.o.kept hb); clear hb c0 c1 c2 c3 c4 c5 c6 c7 y0 y1 y2 y3 f0 f1 f2 f3; obtain ⟨c0, c1, c2, c3, c4, c5, c6, c7⟩ := cl8 HX2.o; obtain ⟨y0, y1, y2, y3⟩ := cl4 HY2.o; obtain ⟨f0, f1, f2, f3⟩ := fz4 HY2.o); go_upto_region 4 with (go_at_call 39; refine (HTK.o _ HB2.o).mono ?_; rintro r w4 ⟨rfl, hb⟩; have HB4 := zz (below_and HB2.o hb); have HX4 := zz (HX2.o.kept hb); have HY4 := zz (HY2.o.kept hb); clear hb); obtain ⟨Z, hZ⟩ : ∃ Z, Z = w4.heap.size := ⟨_, rfl⟩; have HYZ : Hid (X + 1 < Z) := zz (by rw [hZ]; exact HY4.o.lt); refine at_hide (F := fun w' => Blk w' Z (amC sa) 23 ∧ Below w4.heap.size w4 w') ⟨by rw [hZ]; exact Blk.made w4 (amC sa) _, below_alloc _ _⟩ ?_; rw [← hZ]; intro w5 hF; have hb5 : Below w4.heap.size w4 w5 := by have := hF.2; rw [hZ] at this; exact this
  have HZ5 := zz hF.1; have HB5 := zz (below_and HB4.o hb5); have HX5 := zz (HX4.o.kept hb5); have HY5 := zz (HY4.o.kept hb5); have HZW : Hid (w.heap.size ≤ Z) := zz (by have := HB4.o.size; omega); clear hF hZ hb5 c0 c1 c2 c3 c4 c5 c6 c7 y0 y1 y2 y3 f0 f1 f2 f3; obtain ⟨p0, p1, p2, p3, p4, p5, p6, p7⟩ := ps8 HX5.o; obtain ⟨z0, z1, z2, z3⟩ := ps4 HZ5.o; have HW5 := zz (fun (s : Past w5) => HWX.o s.val (below_and HB5.o s.h)); have HS5 := zz (fun (s : Past w5) => HSU.o s.val); refine wp_region_late1 rfl (by kernel_rfl) (by kernel_rfl) (by kernel_rfl) (by kernel_rfl) (by kernel_rfl) ?_
  repeat (go_big_quiet_step ((first | (go_at_call 41; exact past_call (HW5.o _)) | (go_at_call 40; exact past_call (HS5.o _)))))
  refine wpQuiet_past ?_; intro w9 h9; have HZ9 := zz (HZ5.o.kept h9); have HY9 := zz (HY5.o.kept h9); have HB9 := zz (below_and HB5.o h9); clear h9 p0 p1 p2 p3 p4 p5 p6 p7 z0 z1 z2 z3; obtain ⟨z0, z1, z2, z3⟩ := cl4 HZ9.o; obtain ⟨g0, g1, g2, g3⟩ := fz4 HZ9.o; go_wp2; refine NoPanic.normal ?_; refine at_hide (F := fun w' => Blk w' Z (amC da) 23 ∧ Blk w' (X + 1) (amC Am.zero) 23 ∧ Below w.heap.size w w') ⟨blk_fill4 HZ9.o, blk_off4 HY9.o (by have := HYZ.o; omega), below_fill4 HB9.o HZW.o _ _ _ _⟩ ?_; intro w10 hF; have HZ10 := zz hF.1; have HY10 := zz hF.2.1; have HB10 : Hid (Below w.heap.size w w10) := zz hF.2.2; clear hF z0 z1 z2 z3 g0 g1 g2 g3; obtain ⟨z0, z1, z2, z3⟩ := cl4 HZ10.o; obtain ⟨y0, y1, y2, y3⟩ := cl4 HY10.o; obtain ⟨f0, f1, f2, f3⟩ := fz4 HY10.o; go_wp2; refine ret_ct (g := X + 1) (cs := amC da) rfl rfl rfl (blk_fill4 HY10.o) Tryz.underlying23 rfl size_am ?_; exact ⟨by rw [HR.o.1, HR.o.2]; rfl, below_fill4 HB10.o (by have := HXW.o; omega) _ _ _ _⟩
 cases dn
 ·
  simp only [Bool.not_false] at hneg; have HR : Hid (RA = Am.zero ∧ RE = 2) := zz (by have h := HRR.o; simp at h; exact h); go_wp2_with (first | (go_at_call 8; refine (HCV.o _ HB1.o).mono ?_; rintro r w2 ⟨rfl, hb⟩; have HB2 := zz (below_and HB1.o hb); have HX2 := zz (HX1.o.kept hb); have HY2 := zz (HY1.o.kept hb); clear hb c0 c1 c2 c3 c4 c5 c6 c7 y0 y1 y2 y3 f0 f1 f2 f3; obtain ⟨c0, c1, c2, c3, c4, c5, c6, c7⟩ := cl8 HX2.o; obtain ⟨y0, y1, y2, y3⟩ := cl4 HY2.o; obtain ⟨f0, f1, f2, f3⟩ := fz4 HY2.o) | (go_at_call 31; refine (HEN.o _ HB2.o).mono ?_; rintro r w3 ⟨rfl, hb⟩; have HB3 := zz (below_and HB2.o hb); have HX3 := zz (HX2.o.kept hb); have HY3 := zz (HY2.o.kept hb); clear hb c0 c1 c2 c3 c4 c5 c6 c7 y0 y1 y2 y3 f0 f1 f2 f3; obtain ⟨c0, c1, c2, c3, c4, c5, c6, c7⟩ := cl8 HX3.o; obtain ⟨y0, y1, y2, y3⟩ := cl4 HY3.o; obtain ⟨f0, f1, f2, f3⟩ := fz4 HY3.o)); refine ret_ct (g := X + 1) (cs := amC Am.zero) rfl rfl rfl (blk_fill4 HY3.o) Tryz.underlying23 rfl size_am ?_; exact ⟨by rw [HR.o.1, HR.o.2]; rfl, below_fill4 HB3.o (by have := HXW.o; omega) _ _ _ _⟩
 ·
  simp only [Bool.not_true] at hneg; have HR : Hid (RA = da ∧ RE = 0) := zz (by have h := HRR.o; simp at h; exact h); have HWX := zz (HWH.o (by rfl)); go_upto_region 3 with (first | (go_at_call 8; refine (HCV.o _ HB1.o).mono ?_; rintro r w2 ⟨rfl, hb⟩; have HB2 := zz (below_and HB1.o hb); have HX2 := zz (HX1.o.kept hb); have HY2 := zz (HY1.o.kept hb); clear hb c0 c1 c2 c3 c4 c5 c6 c7 y0 y1 y2 y3 f0 f1 f2 f3; obtain ⟨c0, c1, c2, c3, c4, c5, c6, c7⟩ := cl8 HX2.o; obtain ⟨y0, y1, y2, y3⟩ := cl4 HY2.o; obtain ⟨f0, f1, f2, f3⟩ := fz4 HY2.o) | (go_at_call 31; refine (HEN.o _ HB2.o).mono ?_; rintro r w3 ⟨rfl, hb⟩; have HB3 := zz (below_and HB2.o hb); have HX3 := zz (HX2.o.kept hb); have HY3 := zz (HY2.o.kept hb); clear hb c0 c1 c2 c3 c4 c5 c6 c7 y0 y1 y2 y3 f0 f1 f2 f3; obtain ⟨c0, c1, c2, c3, c4, c5, c6, c7⟩ := cl8 HX3.o; obtain ⟨y0, y1, y2, y3⟩ := cl4 HY3.o; obtain ⟨f0, f1, f2, f3⟩ := fz4 HY3.o)); go_upto_region 4 with (go_at_call 39; refine (HTK.o _ HB3.o).mono ?_; rintro r w4 ⟨rfl, hb⟩; have HB4 := zz (below_and HB3.o hb); have HX4 := zz (HX3.o.kept hb); have HY4 := zz (HY3.o.kept hb); clear hb)
  obtain ⟨Z, hZ⟩ : ∃ Z, Z = w4.heap.size := ⟨_, rfl⟩; have HYZ : Hid (X + 1 < Z) := zz (by rw [hZ]; exact HY4.o.lt); refine at_hide (F := fun w' => Blk w' Z (amC sa) 23 ∧ Below w4.heap.size w4 w') ⟨by rw [hZ]; exact Blk.made w4 (amC sa) _, below_alloc _ _⟩ ?_; rw [← hZ]; intro w5 hF; have hb5 : Below w4.heap.size w4 w5 := by have := hF.2; rw [hZ] at this; exact this
  have HZ5 := zz hF.1; have HB5 := zz (below_and HB4.o hb5); have HX5 := zz (HX4.o.kept hb5); have HY5 := zz (HY4.o.kept hb5); have HZW : Hid (w.heap.size ≤ Z) := zz (by have := HB4.o.size; omega); clear hF hZ hb5 c0 c1 c2 c3 c4 c5 c6 c7 y0 y1 y2 y3 f0 f1 f2 f3; obtain ⟨p0, p1, p2, p3, p4, p5, p6, p7⟩ := ps8 HX5.o; obtain ⟨z0, z1, z2, z3⟩ := ps4 HZ5.o; have HW5 := zz (fun (s : Past w5) => HWX.o s.val (below_and HB5.o s.h)); have HS5 := zz (fun (s : Past w5) => HSU.o s.val); refine wp_region_late1 rfl (by kernel_rfl) (by kernel_rfl) (by kernel_rfl) (by kernel_rfl) (by kernel_rfl) ?_
  repeat (go_big_quiet_step ((first | (go_at_call 41; exact past_call (HW5.o _)) | (go_at_call 40; exact past_call (HS5.o _)))))
  refine wpQuiet_past ?_; intro w9 h9; have HZ9 := zz (HZ5.o.kept h9); have HY9 := zz (HY5.o.kept h9); have HB9 := zz (below_and HB5.o h9); clear h9 p0 p1 p2 p3 p4 p5 p6 p7 z0 z1 z2 z3; obtain ⟨z0, z1, z2, z3⟩ := cl4 HZ9.o; obtain ⟨g0, g1, g2, g3⟩ := fz4 HZ9.o; go_wp2; refine NoPanic.normal ?_; refine at_hide (F := fun w' => Blk w' Z (amC da) 23 ∧ Blk w' (X + 1) (amC Am.zero) 23 ∧ Below w.heap.size w w') ⟨blk_fill4 HZ9.o, blk_off4 HY9.o (by have := HYZ.o; omega), below_fill4 HB9.o HZW.o _ _ _ _⟩ ?_; intro w10 hF; have HZ10 := zz hF.1; have HY10 := zz hF.2.1; have HB10 : Hid (Below w.heap.size w w10) := zz hF.2.2; clear hF z0 z1 z2 z3 g0 g1 g2 g3; obtain ⟨z0, z1, z2, z3⟩ := cl4 HZ10.o; obtain ⟨y0, y1, y2, y3⟩ := cl4 HY10.o; obtain ⟨f0, f1, f2, f3⟩ := fz4 HY10.o; go_wp2; refine ret_ct (g := X + 1) (cs := amC da) rfl rfl rfl (blk_fill4 HY10.o) Tryz.underlying23 rfl size_am ?_; exact ⟨by rw [HR.o.1, HR.o.2]; rfl, below_fill4 HB10.o (by have := HXW.o; omega) _ _ _ _⟩
structure NeB (N : Ne) : Prop where
 j : N.j.length ≤ 140737488351232
 n : N.n.length ≤ 140737488351232
 L : ∀ n ∈ N.L, n.nm.length ≤ 140737488351232 ∧ n.vl.length ≤ 140737488351232
theorem row_blkA {w : World} {g : Nat} {n : Nd} (h : Blk w g (ndC n) 69) : Row w (.slice (some ⟨g, 0, none⟩) 1 1) 6 1 (rwC ndC [n]) := by
 refine ⟨some ⟨g, 0, none⟩, 1, rfl, by omega, by unfold maxLen; omega, rfl, ?_, by simp, .inr ⟨g, 0, rfl, fun j u hj => ?_⟩⟩
 ·exact rwC_one ndC_one [n]
 ·have e : rwC ndC [n] = ndC n := by simp [rwC]
  rw [e] at hj; rw [Nat.zero_add]; exact h.cell hj
theorem am_eql (x y : Am) (w : World) : (binOp .eql 23 (amV x) (amV y)).run Tryz.prog w = .ok (.bool (decide (x = y))) w := by
 go_simp; obtain ⟨a, b, c, d⟩ := x; obtain ⟨a', b', c', d'⟩ := y; simp only [Am.mk.injEq]
 by_cases h1 : a = a'
 ·rw [if_pos h1]
  by_cases h2 : b = b'
  ·rw [if_pos h2]
   by_cases h3 : c = c'
   ·rw [if_pos h3]
    by_cases h4 : d = d'
    ·simp [h1, h2, h3, h4]
    ·simp [h1, h2, h3, h4]
   ·simp [h1, h2, h3]
  ·simp [h1, h2]
 ·simp [h1]
theorem dany_any (w : World) : Calls Tryz.prog 38 #[] w fun r w' => ∃ q c, r = .returned (.agg #[.slice q 1 c]) ∧ Row w' (.slice q 1 c) 6 1 (rwC ndC anyL) ∧ Below w.heap.size w w' := by
 obtain ⟨X, hX⟩ : ∃ X, X = w.heap.size := ⟨_, rfl⟩; go_enter Tryz.func38, Tryz.ntmps38; go_upto_region 1 with fail; refine at_hide (F := fun w' => Blk w' X [.slice none 0 0] 26 ∧ Below w.heap.size w w' ∧ w'.heap.size = X + 1) ⟨by rw [hX]; exact Blk.made w [.slice none 0 0] _, below_alloc _ _, by rw [hX]; simp⟩ ?_; rw [← hX]; intro w1 hF; have HX1 := zz hF.1; have HB1 : Hid (Below w.heap.size w w1) := zz (by have := hF.2.1; rw [hX] at this; exact this); have HZ1 := zz hF.2.2; have HXW : Hid (w.heap.size ≤ X) := zz (by omega); have HN1 : Hid (Blk (w1.alloc (.cells (ndC ⟨1, [], [], 0, -1, -1⟩).toArray 69)) w1.heap.size (ndC ⟨1, [], [], 0, -1, -1⟩) 69) := zz (Blk.made w1 (ndC ⟨1, [], [], 0, -1, -1⟩) _); have HB2 : Hid (Below w1.heap.size w1 (w1.alloc (.cells (ndC ⟨1, [], [], 0, -1, -1⟩).toArray 69))) := zz (below_alloc w1 _); have x0 : (w1.alloc (.cells #[.int .i64 1, .string ⟨#[]⟩, .string ⟨#[]⟩, .int .i64 0, .int .i64 (-1), .int .i64 (-1)] 69)).cell? ⟨X, 0, none⟩ = some (.slice none 0 0) := (HX1.o.kept HB2.o).cell (j := 0) rfl; have f0 : (w1.alloc (.cells #[.int .i64 1, .string ⟨#[]⟩, .string ⟨#[]⟩, .int .i64 0, .int .i64 (-1), .int .i64 (-1)] 69)).frozen? ⟨X, 0, none⟩ = false := (HX1.o.kept HB2.o).free 0
 clear hF hX; go_wp2; refine ret_cell1w (g := X) (cs := [.slice (some ⟨w1.heap.size, 0, none⟩) 1 1]) rfl rfl rfl ((HX1.o.kept HB2.o).set 0 _) Tryz.underlying26 rfl size_rule ?_; refine ⟨some ⟨w1.heap.size, 0, none⟩, 1, rfl, ?_, (below_and HB1.o HB2.o).setCell (by have := HXW.o; simp; omega) _⟩; have h9 := HN1.o.other (a := ⟨X, 0, none⟩) (by have := HZ1.o; simp; omega) (.slice (some ⟨w1.heap.size, 0, none⟩) 1 1); exact row_blkA h9
theorem dcheckNeed_any (N : Ne) (vl : Value) (w : World) (hn : Nds w N vl) (hb : NeB N) : Calls Tryz.prog 10 #[neV N vl] w fun r w' => r = .returned (.int .i64 (needR N)) ∧ Below w.heap.size w w' := by
 have HN := zz hn; obtain ⟨pl, cl, rfl⟩ := hn.slice; have HB_ := zz hb; have HJ : Hid (∀ wx, Calls Tryz.prog 35 #[.string (bs N.j)] wx fun e w' => e = .returned (.bool (specB N.j)) ∧ wx = w') := zz (fun wx => rname12_any N.j wx hb.j); have HNN : Hid (∀ wx, Calls Tryz.prog 35 #[.string (bs N.n)] wx fun e w' => e = .returned (.bool (specB N.n)) ∧ wx = w') := zz (fun wx => rname12_any N.n wx hb.n); have HCK : Hid (∀ wx, Calls Tryz.prog 28 #[amV N.a] wx fun e w' => e = .returned (.int .i64 N.a.chk) ∧ Below wx.heap.size wx w') := zz (fun wx => rcheck_any N.a wx); have HRC : Hid (∀ wx, Below w.heap.size w wx → Calls Tryz.prog 36 #[.agg #[.slice pl N.L.length cl]] wx fun r w' => r = .returned (.int .i64 (checkP N.L)) ∧ Below wx.heap.size wx w') := zz (fun wx hbx => by have := dcheck_any _ N.L wx (hn.below hbx) hb.L; rw [docChk_eq] at this; exact this); have HSM : Hid (∀ q c wx, Below w.heap.size w wx → Row wx (.slice q 1 c) 6 1 (rwC ndC anyL) → Calls Tryz.prog 37 #[.agg #[.slice pl N.L.length cl], .agg #[.slice q 1 c]] wx fun r w' => r = .returned (.bool (decide (N.L = anyL))) ∧ Below wx.heap.size wx w') := zz (fun q c wx hbx hr => dsame_any _ _ N.L anyL wx (hn.below hbx) hr)
 have HIS := zz (need_is N); obtain ⟨R, hR⟩ : ∃ R, R = needR N := ⟨_, rfl⟩; rw [← hR]; have HRB : Hid (R = if (fine1 N && (N.n == [] || (specB N.n && decide (N.L = anyL)))) = true then 0 else 2) := zz (by rw [hR, ← HIS.o]; rfl); clear hR; obtain ⟨sj, hsj⟩ : ∃ q, q = specB N.j := ⟨_, rfl⟩; obtain ⟨d0, hd0⟩ : ∃ q, q = decide (N.d < 0) := ⟨_, rfl⟩; obtain ⟨d3, hd3⟩ : ∃ q, q = decide (3 < N.d) := ⟨_, rfl⟩; obtain ⟨ck, hck⟩ : ∃ q, q = N.a.chk := ⟨_, rfl⟩; obtain ⟨az, haz⟩ : ∃ q, q = decide (N.a = Am.zero) := ⟨_, rfl⟩; obtain ⟨cp, hcp⟩ : ∃ q, q = checkP N.L := ⟨_, rfl⟩; obtain ⟨nz, hnz⟩ : ∃ q, q = decide (N.n = []) := ⟨_, rfl⟩; obtain ⟨sn, hsn⟩ : ∃ q, q = specB N.n := ⟨_, rfl⟩; obtain ⟨la, hla⟩ : ∃ q, q = decide (N.L = anyL) := ⟨_, rfl⟩
 have HFI : Hid (fine1 N = (sj && !d0 && !d3 && decide (ck = 0) && !az && decide (cp = 0))) := zz (by
  rw [hsj, hd0, hd3, hck, haz, hcp]
  unfold fine1
  have e1 : decide (0 ≤ N.d) = !(decide (N.d < 0)) := by by_cases g : N.d < 0 <;> simp [g] <;> omega
  have e2 : decide (N.d ≤ 3) = !(decide (3 < N.d)) := by by_cases g : 3 < N.d <;> simp [g] <;> omega
  rw [e1, e2])
 have HRD : Hid (R = if (fine1 N && (nz || (sn && la))) = true then 0 else 2) := zz (by rw [HRB.o, hnz, hsn, hla]; have e : (N.n == []) = decide (N.n = []) := (by by_cases g : N.n = [] <;> simp [g]); rw [e]); rw [HFI.o] at HRD; have HCC : Hid (ck = 0 ∨ ck = 2) := zz (by rw [hck]; unfold Am.chk; split <;> simp); have HCP : Hid (cp = 0 ∨ cp = 2) := zz (by rw [hcp]; exact chk_two N.L); have hem := bs_nil0 N.n; rw [← hnz] at hem
 have haq : ∀ w', (binOp .eql 23 (.agg #[.int .i64 N.a.c, .int .i64 N.a.r, .int .i64 N.a.d, .int .i64 N.a.p]) (.agg #[.int .i64 0, .int .i64 0, .int .i64 0, .int .i64 0])).run Tryz.prog w' = .ok (.bool (decide (N.a = Am.zero))) w' := fun w' => am_eql N.a Am.zero w'
 rw [← haz] at haq; have t0 := hd0.symm; have t3 := hd3.symm; rw [← hsj] at HJ; rw [← hsn] at HNN; rw [← hck] at HCK; rw [← hcp] at HRC; rw [← hla] at HSM; clear hsj hd0 hd3 hck haz hcp hnz hsn hla HIS HRB HFI hn hb; go_enter Tryz.func10, Tryz.ntmps10; go_upto_region 1 with fail; obtain ⟨X, hX⟩ : ∃ q, q = w.heap.size := ⟨_, rfl⟩; refine at_hide (F := fun w' => Blk w' X (neC N (.slice pl N.L.length cl)) 28 ∧ Below w.heap.size w w') ⟨by rw [hX]; exact Blk.made w (neC N (.slice pl N.L.length cl)) _, below_alloc _ _⟩ ?_; rw [← hX]; intro w1 hF; have HX1 := zz hF.1; have HB1 : Hid (Below w.heap.size w w1) := zz (by have := hF.2; rw [hX] at this; exact this); clear hF hX; obtain ⟨c0, c1, c2, c3, c4, c5, c6, c7⟩ := cl8 HX1.o; cases sj
 ·
  have HR : Hid (R = 2) := zz (by rw [HRD.o]; simp); go_wp2_with (go_at_call 35; refine (HJ.o _).mono ?_; rintro r w2 ⟨rfl, rfl⟩); go_ret; exact ⟨by rw [HR.o]; rfl, HB1.o⟩
 cases d0; rotate_left
 ·
  have HR : Hid (R = 2) := zz (by rw [HRD.o]; simp); go_wp2_with (go_at_call 35; refine (HJ.o _).mono ?_; rintro r w2 ⟨rfl, rfl⟩); go_ret; exact ⟨by rw [HR.o]; rfl, HB1.o⟩
 cases d3; rotate_left
 ·
  have HR : Hid (R = 2) := zz (by rw [HRD.o]; simp); go_wp2_with (go_at_call 35; refine (HJ.o _).mono ?_; rintro r w2 ⟨rfl, rfl⟩); go_ret; exact ⟨by rw [HR.o]; rfl, HB1.o⟩
 rcases HCC.o with rfl | rfl; rotate_left
 ·
  have HR : Hid (R = 2) := zz (by rw [HRD.o]; simp); go_wp2_with (first | (go_at_call 35; refine (HJ.o _).mono ?_; rintro r w2 ⟨rfl, rfl⟩) | (go_at_call 28; refine (HCK.o _).mono ?_; rintro r w3 ⟨rfl, hb⟩; have HB3 := zz (below_and HB1.o hb); have HX3 := zz (HX1.o.kept hb); obtain ⟨-, -, x2, x3, x4, x5, x6⟩ := cl7 HX3.o; clear hb c2 c3 c4 c5 c6)); go_ret; exact ⟨by rw [HR.o]; rfl, HB3.o⟩
 cases az; rotate_left
 ·
  have HR : Hid (R = 2) := zz (by rw [HRD.o]; simp); go_wp2_with (first | (go_at_call 35; refine (HJ.o _).mono ?_; rintro r w2 ⟨rfl, rfl⟩) | (go_at_call 28; refine (HCK.o _).mono ?_; rintro r w3 ⟨rfl, hb⟩; have HB3 := zz (below_and HB1.o hb); have HX3 := zz (HX1.o.kept hb); obtain ⟨-, -, x2, x3, x4, x5, x6⟩ := cl7 HX3.o; clear hb c2 c3 c4 c5 c6)); go_ret; exact ⟨by rw [HR.o]; rfl, HB3.o⟩
 rcases HCP.o with rfl | rfl; rotate_left
 ·
  have HR : Hid (R = 2) := zz (by rw [HRD.o]; simp); go_wp2_with (first | (go_at_call 35; refine (HJ.o _).mono ?_; rintro r w2 ⟨rfl, rfl⟩) | (go_at_call 28; refine (HCK.o _).mono ?_; rintro r w3 ⟨rfl, hb⟩; have HB3 := zz (below_and HB1.o hb); have HX3 := zz (HX1.o.kept hb); obtain ⟨-, -, x2, x3, x4, x5, x6⟩ := cl7 HX3.o; clear hb c2 c3 c4 c5 c6) | (go_at_call 36; refine (HRC.o _ HB3.o).mono ?_; rintro r w4 ⟨rfl, hb⟩; have HB4 := zz (below_and HB3.o hb); have HX4 := zz (HX3.o.kept hb); clear hb)); go_ret; exact ⟨by rw [HR.o]; rfl, HB4.o⟩
 go_upto_region 3 with (first | (go_at_call 35; refine (HJ.o _).mono ?_; rintro r w2 ⟨rfl, rfl⟩) | (go_at_call 28; refine (HCK.o _).mono ?_; rintro r w3 ⟨rfl, hb⟩; have HB3 := zz (below_and HB1.o hb); have HX3 := zz (HX1.o.kept hb); obtain ⟨-, -, x2, x3, x4, x5, x6⟩ := cl7 HX3.o; clear hb c2 c3 c4 c5 c6) | (go_at_call 36; refine (HRC.o _ HB3.o).mono ?_; rintro r w4 ⟨rfl, hb⟩; have HB4 := zz (below_and HB3.o hb); have HX4 := zz (HX3.o.kept hb); clear hb)); clear c0 c1 c7 x2 x3 x4 x5 x6; cases nz; rotate_left
 ·
  have HR : Hid (R = 0) := zz (by rw [HRD.o]; simp); obtain ⟨-, -, -, -, -, -, p6, p7⟩ := ps8 HX4.o; refine wp_region_past (by kernel_rfl) (by kernel_rfl) ?_
  repeat (go_big_quiet_step (fail))
  refine wpQuiet_past ?_; intro w5 h9; have HB5 := zz (below_and HB4.o h9); clear h9; go_wp2; go_ret; exact ⟨by rw [HR.o]; rfl, HB5.o⟩
 cases sn
 ·
  have HR : Hid (R = 2) := zz (by rw [HRD.o]; simp); obtain ⟨-, -, -, -, -, -, p6, p7⟩ := ps8 HX4.o; have HN4 : Hid (∀ s : Past w4, Calls Tryz.prog 35 #[.string (bs N.n)] s.val fun e w' => e = .returned (.bool false) ∧ Below s.val.heap.size s.val w') := zz (fun s => (HNN.o s.val).mono (fun r w' h => ⟨h.1, by rw [← h.2]; exact Below.refl _ _⟩)); refine wp_region_past (by kernel_rfl) (by kernel_rfl) ?_
  repeat (go_big_quiet_step ((go_at_call 35; exact past_call (HN4.o _))))
  refine wpQuiet_past ?_; intro w5 h9; have HB5 := zz (below_and HB4.o h9); clear h9; go_wp2; go_ret; exact ⟨by rw [HR.o]; rfl, HB5.o⟩
 have HR : Hid (R = if la then 0 else 2) := zz (by rw [HRD.o]; simp); have HSS : Hid (∀ w', Below w4.heap.size w4 w' → w'.cell? ⟨X, 6, none⟩ = some (.slice pl N.L.length cl) ∧ w'.cell? ⟨X, 7, none⟩ = some (.string (bs N.n))) := zz (fun w' hb => ⟨(HX4.o.kept hb).cell (j := 6) rfl, (HX4.o.kept hb).cell (j := 7) rfl⟩); have HAN := zz (fun wx => dany_any wx); have HS4 : Hid (Below w4.heap.size w4 w4.drew) := zz (below_drewN 1); cases la
 all_goals
  go_region_held3 (fun w' => w'.cell? ⟨X, 6, none⟩ = some (.slice pl N.L.length cl) ∧ w'.cell? ⟨X, 7, none⟩ = some (.string (bs N.n)))
   ((refine HSS.o _ ?_ <;> (first | with_reducible exact HS6.o | with_reducible exact HS5.o | with_reducible exact HS4.o)))
   (first
    | (go_at_call 37; refine (HSM.o _ _ _ HS5w.o HR5.o).mono ?_; rintro r w6 ⟨rfl, hb⟩; have HS6 : Hid (Below w4.heap.size w4 w6) := zz (below_and HS5.o hb); clear hb)
    | (go_at_call 38; refine (HAN.o _).mono ?_; rintro r w5 ⟨qa, ca, rfl, hra, hb⟩; have HR5 := zz hra; have HS5 : Hid (Below w4.heap.size w4 w5) := zz (below_and HS4.o hb); have HS5w : Hid (Below w.heap.size w w5) := zz (below_and HB4.o HS5.o); clear hra hb)
    | (go_at_call 35; refine (HNN.o _).mono ?_; rintro r w9 ⟨rfl, rfl⟩))
  all_goals go_wp2
  all_goals go_ret
  all_goals exact ⟨by rw [HR.o]; rfl, below_and HB4.o HS6.o⟩
