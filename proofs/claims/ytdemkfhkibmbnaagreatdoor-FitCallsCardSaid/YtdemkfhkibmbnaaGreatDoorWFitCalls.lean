/- WFitCalls. -/
import Derived.Test.YtdemkfhkibmbnaaGreatDoorM48
set_option maxRecDepth 100000
set_option maxHeartbeats 8000000
namespace Go.Proofs.YtdemkfhkibmbnaaGreatDoor.Ft
open Go.RowKit Go.Proofs.YtdemkfhkibmbnaaGreatDoor Go.Proofs.YtdemkfhkibmbnaaGreatDoor.Ru
structure K5 (w0 w : World) (N : Ne) (V : Vw) (P Q : Nat) (vn va vu : Value) (cp cq : List Value) : Prop where
 bp : Blk w P cp 28
 bq : Blk w Q cq 32
 on : ∃ b, OwnN w b vn N.L
 oa : ∃ b, OwnA w b va V.at'
 ou : ∃ b, OwnU w b vu V.us
 ne : P ≠ Q
 nn : ∀ g, vn.ownBlock = some g → g ≠ P ∧ g ≠ Q
 na : ∀ g, va.ownBlock = some g → g ≠ P ∧ g ≠ Q
 nu : ∀ g, vu.ownBlock = some g → g ≠ P ∧ g ≠ Q
 lp : w0.heap.size ≤ P
 lq : w0.heap.size ≤ Q
 hb : Below w0.heap.size w0 w
abbrev ZN : List Value := [.string ⟨#[]⟩, .int .i64 0, .int .i64 0, .int .i64 0, .int .i64 0, .int .i64 0, .slice none 0 0, .string ⟨#[]⟩]
abbrev ZV : List Value := [.string ⟨#[]⟩, .slice none 0 0, .int .i64 0, .int .i64 0, .int .i64 0, .int .i64 0, .bool false, .slice none 0 0]
theorem new_blk (w : World) (cs : List Value) (t : TypeId) : ∃ w' g, w.alloc (.cells cs.toArray t) = w' ∧ w.heap.size = g ∧ Below w.heap.size w w' ∧ Blk w' g cs t := ⟨_, _, rfl, rfl, below_alloc _ _, Blk.made _ _ _⟩
theorem own_bel {w w' : World} {base : Nat} {e : TypeId} {size : Nat} {v : Value} {n : Nat} {xs : List Value} (h : w.ownsRow base e size v n xs) (hb : Below w.heap.size w w') : w'.ownsRow base e size v n xs := own_fr h (Fr.of_below hb []) (fun _ _ => by simp)
theorem am_eqlS (x : Am) (w : World) : (binOp .eql 23 (.agg #[.int .i64 x.c, .int .i64 x.r, .int .i64 x.d, .int .i64 x.p]) (.agg #[.int .i64 x.c, .int .i64 x.r, .int .i64 x.d, .int .i64 x.p])).run Tryz.prog w = .ok (.bool true) w := by
 have := am_eql x x w; rw [decide_eq_true rfl] at this; exact this
theorem fr_fill8 (w : World) (g : Nat) (x0 x1 x2 x3 x4 x5 x6 x7 : Value) : Fr [g] w ((((((((w.setCell ⟨g, 0, none⟩ x0).setCell ⟨g, 1, none⟩ x1).setCell ⟨g, 2, none⟩ x2).setCell ⟨g, 3, none⟩ x3).setCell ⟨g, 4, none⟩ x4).setCell ⟨g, 5, none⟩ x5).setCell ⟨g, 6, none⟩ x6).setCell ⟨g, 7, none⟩ x7) :=
 ((((((((Fr.refl [g] w).set (p := ⟨g, 0, none⟩) (by simp) x0).set (p := ⟨g, 1, none⟩) (by simp) x1).set (p := ⟨g, 2, none⟩) (by simp) x2).set (p := ⟨g, 3, none⟩) (by simp) x3).set (p := ⟨g, 4, none⟩) (by simp) x4).set (p := ⟨g, 5, none⟩) (by simp) x5).set (p := ⟨g, 6, none⟩) (by simp) x6).set (p := ⟨g, 7, none⟩) (by simp) x7
theorem K5.setP {w0 w : World} {N : Ne} {V : Vw} {P Q : Nat} {vn va vu : Value} {cp cq : List Value} (h : K5 w0 w N V P Q vn va vu cp cq) (hc : cp.length = 8) (x0 x1 x2 x3 x4 x5 x6 x7 : Value) : K5 w0 ((((((((w.setCell ⟨P, 0, none⟩ x0).setCell ⟨P, 1, none⟩ x1).setCell ⟨P, 2, none⟩ x2).setCell ⟨P, 3, none⟩ x3).setCell ⟨P, 4, none⟩ x4).setCell ⟨P, 5, none⟩ x5).setCell ⟨P, 6, none⟩ x6).setCell ⟨P, 7, none⟩ x7) N V P Q vn va vu [x0, x1, x2, x3, x4, x5, x6, x7] cq := by
 have hf := fr_fill8 w P x0 x1 x2 x3 x4 x5 x6 x7; obtain ⟨b1, h1⟩ := h.on; obtain ⟨b2, h2⟩ := h.oa; obtain ⟨b3, h3⟩ := h.ou; exact ⟨blk_fill8 h.bp hc _ _ _ _ _ _ _ _, h.bq.fr hf (by simpa using h.ne.symm), ⟨b1, own_fr h1 hf (fun g hg => by simpa using (h.nn g hg).1)⟩, ⟨b2, own_fr h2 hf (fun g hg => by simpa using (h.na g hg).1)⟩, ⟨b3, own_fr h3 hf (fun g hg => by simpa using (h.nu g hg).1)⟩, h.ne, h.nn, h.na, h.nu, h.lp, h.lq, below_fill8 h.hb h.lp _ _ _ _ _ _ _ _⟩
theorem K5.setQ {w0 w : World} {N : Ne} {V : Vw} {P Q : Nat} {vn va vu : Value} {cp cq : List Value} (h : K5 w0 w N V P Q vn va vu cp cq) (hc : cq.length = 8) (x0 x1 x2 x3 x4 x5 x6 x7 : Value) : K5 w0 ((((((((w.setCell ⟨Q, 0, none⟩ x0).setCell ⟨Q, 1, none⟩ x1).setCell ⟨Q, 2, none⟩ x2).setCell ⟨Q, 3, none⟩ x3).setCell ⟨Q, 4, none⟩ x4).setCell ⟨Q, 5, none⟩ x5).setCell ⟨Q, 6, none⟩ x6).setCell ⟨Q, 7, none⟩ x7) N V P Q vn va vu cp [x0, x1, x2, x3, x4, x5, x6, x7] := by
 have hf := fr_fill8 w Q x0 x1 x2 x3 x4 x5 x6 x7; obtain ⟨b1, h1⟩ := h.on; obtain ⟨b2, h2⟩ := h.oa; obtain ⟨b3, h3⟩ := h.ou; exact ⟨h.bp.fr hf (by simpa using h.ne), blk_fill8 h.bq hc _ _ _ _ _ _ _ _, ⟨b1, own_fr h1 hf (fun g hg => by simpa using (h.nn g hg).2)⟩, ⟨b2, own_fr h2 hf (fun g hg => by simpa using (h.na g hg).2)⟩, ⟨b3, own_fr h3 hf (fun g hg => by simpa using (h.nu g hg).2)⟩, h.ne, h.nn, h.na, h.nu, h.lp, h.lq, below_fill8 h.hb h.lq _ _ _ _ _ _ _ _⟩
theorem fitCalls_walk (N : Ne) (vl : Value) (V : Vw) (va vu : Value) (s : ByteArray) (w : World) (hn : Nds w N vl) (hno : NeOk N) (hnb : NeB N) (hnl : N.L.length * 64 ≤ 140737488351232) (hv : Vws w V va vu) (hvb : V.us.length ≤ 1000 → VwOk V ∧ VwB V) (hal : V.at'.length * 32 ≤ 140737488351232) (hE : ErrV w) (hT : Tab w) :
  Calls Tryz.prog 3 #[neV N vl, vwV V va vu, .string s] w fun r w' => r = .returned (.bool true) ∧ Below w.heap.size w w' := by
 obtain ⟨p, hp⟩ : ∃ p, p = s.data.toList := ⟨_, rfl⟩; obtain rfl : s = bs p := by rw [hp]; simp [bs]
 have HN := zz hn; have HV := zz hv; have HEN : Hid (∀ w', Below w.heap.size w w' → ErrV w' ∧ Tab w') := zz (fun w' hb => ⟨hE.below hb, hT.below hb⟩); obtain ⟨pl, cl, rfl⟩ := hn.slice; obtain ⟨⟨pa, ca, rfl⟩, pu, cu, rfl⟩ := hv.slices
 have hu63 : (V.us.length : Int) ≤ 9223372036854775807 := by
  obtain ⟨p9, c9, -, hc9, hm9, -⟩ := hv.us; have hml : maxLen ≤ 9223372036854775807 := by decide
  omega
 have HLV : Hid (∀ wx, Below w.heap.size w wx → Calls Tryz.prog 4 #[] wx fun r w' => r = .returned (.bool true) ∧ Below wx.heap.size wx w') := zz (fun wx hb => lives_any wx (HEN.o _ hb).1 (HEN.o _ hb).2); clear hn hv hE hT hp; go_enter Tryz.func3, Tryz.ntmps3; go_upto_region 1 with fail; obtain ⟨X, hX⟩ : ∃ q, q = w.heap.size := ⟨_, rfl⟩; refine at_hide (F := fun w' => Blk w' X (neC N (.slice pl N.L.length cl)) 28 ∧ Blk w' (X + 1) (vwC V (.slice pa V.at'.length ca) (.slice pu V.us.length cu)) 32 ∧ Below w.heap.size w w') ⟨by rw [hX]; exact (two_blk w (neC N (.slice pl N.L.length cl)) (vwC V (.slice pa V.at'.length ca) (.slice pu V.us.length cu)) _ _).1, by rw [hX]; exact (two_blk w (neC N (.slice pl N.L.length cl)) (vwC V (.slice pa V.at'.length ca) (.slice pu V.us.length cu)) _ _).2.1, (two_blk w (neC N (.slice pl N.L.length cl)) (vwC V (.slice pa V.at'.length ca) (.slice pu V.us.length cu)) _ _).2.2⟩ ?_; rw [← hX]; intro w1 hF; have HX1 := zz hF.1; have HY1 := zz hF.2.1; have HB1 : Hid (Below w.heap.size w w1) := zz (by have := hF.2.2; rw [hX] at this; exact this)
 have HXW : Hid (w.heap.size ≤ X) := zz (by omega); clear hF hX; go_upto_region 3 with (go_at_call 4; refine (HLV.o _ HB1.o).mono ?_; rintro r w2 ⟨rfl, hb⟩; have HB2 := zz (below_and HB1.o hb); have HX2 := zz (HX1.o.kept hb); have HY2 := zz (HY1.o.kept hb); clear hb); obtain ⟨n0, n1, n2, n3, n4, n5, n6, n7⟩ := cl8 HX2.o; obtain ⟨c0, c1, c2, c3, c4, c5, c6, c7⟩ := cl8 HY2.o
 by_cases h60 : 60 < V.us.length
 ·
  have t1 : decide ((60 : Int) < (V.us.length : Int)) = true := by simp; omega
  have t1b : decide (60 < V.us.length) = true := by simp; omega
  go_wp2; go_ret; exact ⟨rfl, HB2.o⟩
 have t1 : decide ((60 : Int) < (V.us.length : Int)) = false := by simp; omega
 have t1b : decide (60 < V.us.length) = false := by simp; omega
 obtain ⟨hvk, hvd⟩ := hvb (by omega); have HU60 : Hid (V.us.length ≤ 60) := zz (by omega); go_upto_region 5 with fail; clear t1 t1b h60; have HLN : Hid (∀ wx, Below w2.heap.size w2 wx → Calls Tryz.prog 5 #[neV N (.slice pl N.L.length cl)] wx fun r w' => ∃ qn kn, r = .returned (neV N (.slice qn N.L.length kn)) ∧ OwnN w' wx.heap.size (.slice qn N.L.length kn) N.L ∧ Below wx.heap.size wx w') := zz (fun wx hb => lendNeedR N _ wx (HN.o.below (below_and HB2.o hb)) hnl); have HLW : Hid (∀ wx, Below w2.heap.size w2 wx → Calls Tryz.prog 6 #[vwV V (.slice pa V.at'.length ca) (.slice pu V.us.length cu)] wx fun r w' => ∃ qa ka qu ku, r = .returned (vwV V (.slice qa V.at'.length ka) (.slice qu V.us.length ku)) ∧ OwnA w' wx.heap.size (.slice qa V.at'.length ka) V.at' ∧ OwnU w' wx.heap.size (.slice qu V.us.length ku) V.us ∧ Below wx.heap.size wx w') := zz (fun wx hb => lendViewR V _ _ wx (HV.o.below (below_and HB2.o hb)) hal HU60.o); have HSS : Hid (∀ w', Below w2.heap.size w2 w' → w'.cell? ⟨X, 0, none⟩ = some (.string (bs N.j)) ∧ w'.cell? ⟨X, 1, none⟩ = some (.int .i64 N.d) ∧ w'.cell? ⟨X, 2, none⟩ = some (.int .i64 N.a.c) ∧ w'.cell? ⟨X, 3, none⟩ = some (.int .i64 N.a.r) ∧ w'.cell? ⟨X, 4, none⟩ = some (.int .i64 N.a.d) ∧ w'.cell? ⟨X, 5, none⟩ = some (.int .i64 N.a.p) ∧ w'.cell? ⟨X, 6, none⟩ = some (.slice pl N.L.length cl) ∧ w'.cell? ⟨X, 7, none⟩ = some (.string (bs N.n)) ∧ w'.cell? ⟨X + 1, 0, none⟩ = some (.string (bs V.nm)) ∧ w'.cell? ⟨X + 1, 1, none⟩ = some (.slice pa V.at'.length ca) ∧ w'.cell? ⟨X + 1, 2, none⟩ = some (.int .i64 V.cap.c) ∧ w'.cell? ⟨X + 1, 3, none⟩ = some (.int .i64 V.cap.r) ∧ w'.cell? ⟨X + 1, 4, none⟩ = some (.int .i64 V.cap.d) ∧ w'.cell? ⟨X + 1, 5, none⟩ = some (.int .i64 V.cap.p) ∧ w'.cell? ⟨X + 1, 6, none⟩ = some (.bool V.up) ∧ w'.cell? ⟨X + 1, 7, none⟩ = some (.slice pu V.us.length cu)) := zz (fun w' hb => ⟨(HX2.o.kept hb).cell (j := 0) rfl, (HX2.o.kept hb).cell (j := 1) rfl, (HX2.o.kept hb).cell (j := 2) rfl, (HX2.o.kept hb).cell (j := 3) rfl, (HX2.o.kept hb).cell (j := 4) rfl, (HX2.o.kept hb).cell (j := 5) rfl, (HX2.o.kept hb).cell (j := 6) rfl, (HX2.o.kept hb).cell (j := 7) rfl, (HY2.o.kept hb).cell (j := 0) rfl, (HY2.o.kept hb).cell (j := 1) rfl, (HY2.o.kept hb).cell (j := 2) rfl, (HY2.o.kept hb).cell (j := 3) rfl, (HY2.o.kept hb).cell (j := 4) rfl, (HY2.o.kept hb).cell (j := 5) rfl, (HY2.o.kept hb).cell (j := 6) rfl, (HY2.o.kept hb).cell (j := 7) rfl⟩)
 clear n0 n1 n2 n3 n4 n5 n6 n7 c0 c1 c2 c3 c4 c5 c6 c7 hnl hal hvb
 go_cut [7, 8] (fun s7 s8 wx => ∃ P Q qn kn qa ka qu ku, s7 = ptr P ∧ s8 = ptr Q ∧ K5 w2 wx N V P Q (.slice qn N.L.length kn) (.slice qa V.at'.length ka) (.slice qu V.us.length ku) (neC N (.slice qn N.L.length kn)) (vwC V (.slice qa V.at'.length ka) (.slice qu V.us.length ku)))
 case first =>
  refine wp_region_noPanic ?_; refine wp_region_lastH (fun w' => w'.cell? ⟨X, 0, none⟩ = some (.string (bs N.j)) ∧ w'.cell? ⟨X, 1, none⟩ = some (.int .i64 N.d) ∧ w'.cell? ⟨X, 2, none⟩ = some (.int .i64 N.a.c) ∧ w'.cell? ⟨X, 3, none⟩ = some (.int .i64 N.a.r) ∧ w'.cell? ⟨X, 4, none⟩ = some (.int .i64 N.a.d) ∧ w'.cell? ⟨X, 5, none⟩ = some (.int .i64 N.a.p) ∧ w'.cell? ⟨X, 6, none⟩ = some (.slice pl N.L.length cl) ∧ w'.cell? ⟨X, 7, none⟩ = some (.string (bs N.n)) ∧ w'.cell? ⟨X + 1, 0, none⟩ = some (.string (bs V.nm)) ∧ w'.cell? ⟨X + 1, 1, none⟩ = some (.slice pa V.at'.length ca) ∧ w'.cell? ⟨X + 1, 2, none⟩ = some (.int .i64 V.cap.c) ∧ w'.cell? ⟨X + 1, 3, none⟩ = some (.int .i64 V.cap.r) ∧ w'.cell? ⟨X + 1, 4, none⟩ = some (.int .i64 V.cap.d) ∧ w'.cell? ⟨X + 1, 5, none⟩ = some (.int .i64 V.cap.p) ∧ w'.cell? ⟨X + 1, 6, none⟩ = some (.bool V.up) ∧ w'.cell? ⟨X + 1, 7, none⟩ = some (.slice pu V.us.length cu)) 7 rfl rfl (by kernel_rfl) (by kernel_rfl) (HSS.o _ (below_drewN 1)) (fun hHeld => ?_); have HBD : Hid (Below w2.heap.size w2 w2.drew) := zz (below_drewN 1); have hS0 : True := trivial; obtain ⟨wd, hwd⟩ : ∃ xq, xq = w2.drew := ⟨_, rfl⟩; rw [← hwd] at hHeld HBD ⊢; clear hwd; refine wpAnyH_take (i := 0) (v := ?v1) rfl (by kernel_rfl) (by kernel_rfl) (by kernel_rfl) (fun _ _ _ h => h) (Or.inl ⟨by rfl, ?hy1⟩) (by assumption) ?rest1
  case hy1 => (intro _ hSw; (try dsimp only at hSw); go_simp; (try with_reducible rfl))
  (try simp only [Act.put]); (try simp only [List.setIfInBounds_toArray]); (try simp only [List.set_cons_succ]); (try simp only [List.set_cons_zero])
  refine wpAnyH_take (i := 2) (v := ?v2) rfl (by kernel_rfl) (by kernel_rfl) (by kernel_rfl) (fun _ _ _ h => h) (Or.inl ⟨by rfl, ?hy2⟩) (by assumption) ?rest2
  case hy2 => (intro _ hSw; (try dsimp only at hSw); go_simp; (try with_reducible rfl))
  (try simp only [Act.put]); (try simp only [List.setIfInBounds_toArray]); (try simp only [List.set_cons_succ]); (try simp only [List.set_cons_zero])
  (try simp only [List.getElem_toArray]); (try simp only [List.getElem_cons_succ]); (try simp only [List.getElem_cons_zero])
  refine wpAnyH_ready (rs := [1, 4, 5]) (by kernel_rfl) (by simp) ?_; refine (AllReadyH.cons rfl (fun K hK => ?_) (AllReadyH.cons rfl (fun K hK => ?_) (AllReadyH.cons rfl (fun K hK => ?_) AllReadyH.nil))); go_simp
  go_at_call 5
  refine (HLN.o _ HBD.o).mono ?_
  rintro r w1a ⟨qn, kn, rfl, ho, hb⟩
  have HOn := zz ho; have HS1a := zz hb; have HB1a := zz (below_and HBD.o hb)
  (try go_wp2_with fail)
  refine hK.out _ _ (HSS.o _ HB1a.o) (fun hS => ?_); clear hK K hb ho
  (try simp only [Act.put]); (try simp only [List.setIfInBounds_toArray]); (try simp only [List.set_cons_succ]); (try simp only [List.set_cons_zero])
  (try simp only [List.getElem_toArray]); (try simp only [List.getElem_cons_succ]); (try simp only [List.getElem_cons_zero])
  refine wpAnyH_ready (rs := [3, 4, 5]) (by kernel_rfl) (by simp) ?_; refine (AllReadyH.cons rfl (fun K hK => ?_) (AllReadyH.cons rfl (fun K hK => ?_) (AllReadyH.cons rfl (fun K hK => ?_) AllReadyH.nil))); go_simp
  go_at_call 6
  refine (HLW.o _ HB1a.o).mono ?_
  rintro r w2a ⟨qa, ka, qu, ku, rfl, ha, hu, hb⟩
  have HOa := zz ha; have HOu := zz hu; have HS2a := zz hb; have HB2a := zz (below_and HB1a.o hb)
  (try go_wp2_with fail)
  refine hK.out _ _ (HSS.o _ HB2a.o) (fun hS => ?_); clear hK K hb ha hu
  (try simp only [Act.put]); (try simp only [List.setIfInBounds_toArray]); (try simp only [List.set_cons_succ]); (try simp only [List.set_cons_zero])
  (try simp only [List.getElem_toArray]); (try simp only [List.getElem_cons_succ]); (try simp only [List.getElem_cons_zero])
  refine wpAnyH_ready (rs := [4, 5]) (by kernel_rfl) (by simp) ?_; refine (AllReadyH.cons rfl (fun K hK => ?_) (AllReadyH.cons rfl (fun K hK => ?_) AllReadyH.nil)); go_simp; obtain ⟨w3a, P, hw, hz, hb, hk⟩ := new_blk w2a ZN 28; rw [hw, hz]; have HKP := zz hk; have HZP := zz hz; have HS3a := zz hb; have HB3a := zz (below_and HB2a.o hb); refine hK.out _ _ (HSS.o _ HB3a.o) (fun hS => ?_); clear hK K hb hw hz hk
  (try simp only [Act.put]); (try simp only [List.setIfInBounds_toArray]); (try simp only [List.set_cons_succ]); (try simp only [List.set_cons_zero])
  (try simp only [List.getElem_toArray]); (try simp only [List.getElem_cons_succ]); (try simp only [List.getElem_cons_zero])
  refine wpAnyH_ready (rs := [5]) (by kernel_rfl) (by simp) ?_; refine (AllReadyH.cons rfl (fun K hK => ?_) AllReadyH.nil); go_simp; obtain ⟨w4a, Q, hw, hz, hb, hk⟩ := new_blk w3a ZV 32; rw [hw, hz]; have HKQ := zz hk; have HZQ := zz hz; have HS4a := zz hb; have HB4a := zz (below_and HB3a.o hb); refine hK.out _ _ (HSS.o _ HB4a.o) (fun hS => ?_); clear hK K hb hw hz hk
  (try simp only [Act.put]); (try simp only [List.setIfInBounds_toArray]); (try simp only [List.set_cons_succ]); (try simp only [List.set_cons_zero])
  have s0 := HS1a.o.size; have s1 := HS2a.o.size; have s2 := HS3a.o.size; have s3 := HS4a.o.size; have s4 := HBD.o.size; have s5 := HZP.o; have s6 := HZQ.o; have s7 := HKP.o.lt; have s8 := HKQ.o.lt; have HK5 := zz (K5.mk (w0 := w2) (N := N) (V := V) (HKP.o.kept HS4a.o) (HKQ.o.kept (Below.refl _ _)) ⟨_, own_bel HOn.o (below_and (below_and HS2a.o HS3a.o) HS4a.o)⟩ ⟨_, own_bel HOa.o (below_and HS3a.o HS4a.o)⟩ ⟨_, own_bel HOu.o (below_and HS3a.o HS4a.o)⟩ (by omega) (fun g hg => by have := own_lo HOn.o hg; have := own_hi HOn.o hg; omega) (fun g hg => by have := own_lo HOa.o hg; have := own_hi HOa.o hg; omega) (fun g hg => by have := own_lo HOu.o hg; have := own_hi HOu.o hg; omega) (by omega) (by omega) HB4a.o); clear s0 s1 s2 s3 s4 s5 s6 s7 s8; rotate_left; go_simp; obtain ⟨w5a, Q, hw, hz, hb, hk⟩ := new_blk w2a ZV 32; rw [hw, hz]; have HKQ := zz hk; have HZQ := zz hz; have HS5a := zz hb; have HB5a := zz (below_and HB2a.o hb); refine hK.out _ _ (HSS.o _ HB5a.o) (fun hS => ?_); clear hK K hb hw hz hk
  (try simp only [Act.put]); (try simp only [List.setIfInBounds_toArray]); (try simp only [List.set_cons_succ]); (try simp only [List.set_cons_zero])
  (try simp only [List.getElem_toArray]); (try simp only [List.getElem_cons_succ]); (try simp only [List.getElem_cons_zero])
  refine wpAnyH_ready (rs := [4]) (by kernel_rfl) (by simp) ?_; refine (AllReadyH.cons rfl (fun K hK => ?_) AllReadyH.nil); go_simp; obtain ⟨w6a, P, hw, hz, hb, hk⟩ := new_blk w5a ZN 28; rw [hw, hz]; have HKP := zz hk; have HZP := zz hz; have HS6a := zz hb; have HB6a := zz (below_and HB5a.o hb); refine hK.out _ _ (HSS.o _ HB6a.o) (fun hS => ?_); clear hK K hb hw hz hk
  (try simp only [Act.put]); (try simp only [List.setIfInBounds_toArray]); (try simp only [List.set_cons_succ]); (try simp only [List.set_cons_zero])
  have s0 := HS1a.o.size; have s1 := HS2a.o.size; have s2 := HS5a.o.size; have s3 := HS6a.o.size; have s4 := HBD.o.size; have s5 := HZP.o; have s6 := HZQ.o; have s7 := HKP.o.lt; have s8 := HKQ.o.lt; have HK5 := zz (K5.mk (w0 := w2) (N := N) (V := V) (HKP.o.kept (Below.refl _ _)) (HKQ.o.kept HS6a.o) ⟨_, own_bel HOn.o (below_and (below_and HS2a.o HS5a.o) HS6a.o)⟩ ⟨_, own_bel HOa.o (below_and HS5a.o HS6a.o)⟩ ⟨_, own_bel HOu.o (below_and HS5a.o HS6a.o)⟩ (by omega) (fun g hg => by have := own_lo HOn.o hg; have := own_hi HOn.o hg; omega) (fun g hg => by have := own_lo HOa.o hg; have := own_hi HOa.o hg; omega) (fun g hg => by have := own_lo HOu.o hg; have := own_hi HOu.o hg; omega) (by omega) (by omega) HB6a.o); clear s0 s1 s2 s3 s4 s5 s6 s7 s8; rotate_left; go_simp; obtain ⟨w7a, P, hw, hz, hb, hk⟩ := new_blk w1a ZN 28; rw [hw, hz]; have HKP := zz hk; have HZP := zz hz; have HS7a := zz hb; have HB7a := zz (below_and HB1a.o hb); refine hK.out _ _ (HSS.o _ HB7a.o) (fun hS => ?_); clear hK K hb hw hz hk
  (try simp only [Act.put]); (try simp only [List.setIfInBounds_toArray]); (try simp only [List.set_cons_succ]); (try simp only [List.set_cons_zero])
  (try simp only [List.getElem_toArray]); (try simp only [List.getElem_cons_succ]); (try simp only [List.getElem_cons_zero])
  refine wpAnyH_ready (rs := [3, 5]) (by kernel_rfl) (by simp) ?_; refine (AllReadyH.cons rfl (fun K hK => ?_) (AllReadyH.cons rfl (fun K hK => ?_) AllReadyH.nil)); go_simp
  go_at_call 6
  refine (HLW.o _ HB7a.o).mono ?_
  rintro r w8a ⟨qa, ka, qu, ku, rfl, ha, hu, hb⟩
  have HOa := zz ha; have HOu := zz hu; have HS8a := zz hb; have HB8a := zz (below_and HB7a.o hb)
  (try go_wp2_with fail)
  refine hK.out _ _ (HSS.o _ HB8a.o) (fun hS => ?_); clear hK K hb ha hu
  (try simp only [Act.put]); (try simp only [List.setIfInBounds_toArray]); (try simp only [List.set_cons_succ]); (try simp only [List.set_cons_zero])
  (try simp only [List.getElem_toArray]); (try simp only [List.getElem_cons_succ]); (try simp only [List.getElem_cons_zero])
  refine wpAnyH_ready (rs := [5]) (by kernel_rfl) (by simp) ?_; refine (AllReadyH.cons rfl (fun K hK => ?_) AllReadyH.nil); go_simp; obtain ⟨w9a, Q, hw, hz, hb, hk⟩ := new_blk w8a ZV 32; rw [hw, hz]; have HKQ := zz hk; have HZQ := zz hz; have HS9a := zz hb; have HB9a := zz (below_and HB8a.o hb); refine hK.out _ _ (HSS.o _ HB9a.o) (fun hS => ?_); clear hK K hb hw hz hk
  (try simp only [Act.put]); (try simp only [List.setIfInBounds_toArray]); (try simp only [List.set_cons_succ]); (try simp only [List.set_cons_zero])
  have s0 := HS1a.o.size; have s1 := HS7a.o.size; have s2 := HS8a.o.size; have s3 := HS9a.o.size; have s4 := HBD.o.size; have s5 := HZP.o; have s6 := HZQ.o; have s7 := HKP.o.lt; have s8 := HKQ.o.lt; have HK5 := zz (K5.mk (w0 := w2) (N := N) (V := V) (HKP.o.kept (below_and HS8a.o HS9a.o)) (HKQ.o.kept (Below.refl _ _)) ⟨_, own_bel HOn.o (below_and (below_and HS7a.o HS8a.o) HS9a.o)⟩ ⟨_, own_bel HOa.o HS9a.o⟩ ⟨_, own_bel HOu.o HS9a.o⟩ (by omega) (fun g hg => by have := own_lo HOn.o hg; have := own_hi HOn.o hg; omega) (fun g hg => by have := own_lo HOa.o hg; have := own_hi HOa.o hg; omega) (fun g hg => by have := own_lo HOu.o hg; have := own_hi HOu.o hg; omega) (by omega) (by omega) HB9a.o); clear s0 s1 s2 s3 s4 s5 s6 s7 s8; rotate_left; go_simp; obtain ⟨w10a, Q, hw, hz, hb, hk⟩ := new_blk w7a ZV 32; rw [hw, hz]; have HKQ := zz hk; have HZQ := zz hz; have HS10a := zz hb; have HB10a := zz (below_and HB7a.o hb); refine hK.out _ _ (HSS.o _ HB10a.o) (fun hS => ?_); clear hK K hb hw hz hk
  (try simp only [Act.put]); (try simp only [List.setIfInBounds_toArray]); (try simp only [List.set_cons_succ]); (try simp only [List.set_cons_zero])
  (try simp only [List.getElem_toArray]); (try simp only [List.getElem_cons_succ]); (try simp only [List.getElem_cons_zero])
  refine wpAnyH_ready (rs := [3]) (by kernel_rfl) (by simp) ?_; refine (AllReadyH.cons rfl (fun K hK => ?_) AllReadyH.nil); go_simp
  go_at_call 6
  refine (HLW.o _ HB10a.o).mono ?_
  rintro r w11a ⟨qa, ka, qu, ku, rfl, ha, hu, hb⟩
  have HOa := zz ha; have HOu := zz hu; have HS11a := zz hb; have HB11a := zz (below_and HB10a.o hb)
  (try go_wp2_with fail)
  refine hK.out _ _ (HSS.o _ HB11a.o) (fun hS => ?_); clear hK K hb ha hu
  (try simp only [Act.put]); (try simp only [List.setIfInBounds_toArray]); (try simp only [List.set_cons_succ]); (try simp only [List.set_cons_zero])
  have s0 := HS1a.o.size; have s1 := HS7a.o.size; have s2 := HS10a.o.size; have s3 := HS11a.o.size; have s4 := HBD.o.size; have s5 := HZP.o; have s6 := HZQ.o; have s7 := HKP.o.lt; have s8 := HKQ.o.lt; have HK5 := zz (K5.mk (w0 := w2) (N := N) (V := V) (HKP.o.kept (below_and HS10a.o HS11a.o)) (HKQ.o.kept HS11a.o) ⟨_, own_bel HOn.o (below_and (below_and HS7a.o HS10a.o) HS11a.o)⟩ ⟨_, own_bel HOa.o (Below.refl _ _)⟩ ⟨_, own_bel HOu.o (Below.refl _ _)⟩ (by omega) (fun g hg => by have := own_lo HOn.o hg; have := own_hi HOn.o hg; omega) (fun g hg => by have := own_lo HOa.o hg; have := own_hi HOa.o hg; omega) (fun g hg => by have := own_lo HOu.o hg; have := own_hi HOu.o hg; omega) (by omega) (by omega) HB11a.o); clear s0 s1 s2 s3 s4 s5 s6 s7 s8; rotate_left; go_simp; obtain ⟨w12a, Q, hw, hz, hb, hk⟩ := new_blk w1a ZV 32; rw [hw, hz]; have HKQ := zz hk; have HZQ := zz hz; have HS12a := zz hb; have HB12a := zz (below_and HB1a.o hb); refine hK.out _ _ (HSS.o _ HB12a.o) (fun hS => ?_); clear hK K hb hw hz hk
  (try simp only [Act.put]); (try simp only [List.setIfInBounds_toArray]); (try simp only [List.set_cons_succ]); (try simp only [List.set_cons_zero])
  (try simp only [List.getElem_toArray]); (try simp only [List.getElem_cons_succ]); (try simp only [List.getElem_cons_zero])
  refine wpAnyH_ready (rs := [3, 4]) (by kernel_rfl) (by simp) ?_; refine (AllReadyH.cons rfl (fun K hK => ?_) (AllReadyH.cons rfl (fun K hK => ?_) AllReadyH.nil)); go_simp
  go_at_call 6
  refine (HLW.o _ HB12a.o).mono ?_
  rintro r w13a ⟨qa, ka, qu, ku, rfl, ha, hu, hb⟩
  have HOa := zz ha; have HOu := zz hu; have HS13a := zz hb; have HB13a := zz (below_and HB12a.o hb)
  (try go_wp2_with fail)
  refine hK.out _ _ (HSS.o _ HB13a.o) (fun hS => ?_); clear hK K hb ha hu
  (try simp only [Act.put]); (try simp only [List.setIfInBounds_toArray]); (try simp only [List.set_cons_succ]); (try simp only [List.set_cons_zero])
  (try simp only [List.getElem_toArray]); (try simp only [List.getElem_cons_succ]); (try simp only [List.getElem_cons_zero])
  refine wpAnyH_ready (rs := [4]) (by kernel_rfl) (by simp) ?_; refine (AllReadyH.cons rfl (fun K hK => ?_) AllReadyH.nil); go_simp; obtain ⟨w14a, P, hw, hz, hb, hk⟩ := new_blk w13a ZN 28; rw [hw, hz]; have HKP := zz hk; have HZP := zz hz; have HS14a := zz hb; have HB14a := zz (below_and HB13a.o hb); refine hK.out _ _ (HSS.o _ HB14a.o) (fun hS => ?_); clear hK K hb hw hz hk
  (try simp only [Act.put]); (try simp only [List.setIfInBounds_toArray]); (try simp only [List.set_cons_succ]); (try simp only [List.set_cons_zero])
  have s0 := HS1a.o.size; have s1 := HS12a.o.size; have s2 := HS13a.o.size; have s3 := HS14a.o.size; have s4 := HBD.o.size; have s5 := HZP.o; have s6 := HZQ.o; have s7 := HKP.o.lt; have s8 := HKQ.o.lt; have HK5 := zz (K5.mk (w0 := w2) (N := N) (V := V) (HKP.o.kept (Below.refl _ _)) (HKQ.o.kept (below_and HS13a.o HS14a.o)) ⟨_, own_bel HOn.o (below_and (below_and HS12a.o HS13a.o) HS14a.o)⟩ ⟨_, own_bel HOa.o HS14a.o⟩ ⟨_, own_bel HOu.o HS14a.o⟩ (by omega) (fun g hg => by have := own_lo HOn.o hg; have := own_hi HOn.o hg; omega) (fun g hg => by have := own_lo HOa.o hg; have := own_hi HOa.o hg; omega) (fun g hg => by have := own_lo HOu.o hg; have := own_hi HOu.o hg; omega) (by omega) (by omega) HB14a.o); clear s0 s1 s2 s3 s4 s5 s6 s7 s8; rotate_left; go_simp; obtain ⟨w15a, P, hw, hz, hb, hk⟩ := new_blk w12a ZN 28; rw [hw, hz]; have HKP := zz hk; have HZP := zz hz; have HS15a := zz hb; have HB15a := zz (below_and HB12a.o hb); refine hK.out _ _ (HSS.o _ HB15a.o) (fun hS => ?_); clear hK K hb hw hz hk
  (try simp only [Act.put]); (try simp only [List.setIfInBounds_toArray]); (try simp only [List.set_cons_succ]); (try simp only [List.set_cons_zero])
  (try simp only [List.getElem_toArray]); (try simp only [List.getElem_cons_succ]); (try simp only [List.getElem_cons_zero])
  refine wpAnyH_ready (rs := [3]) (by kernel_rfl) (by simp) ?_; refine (AllReadyH.cons rfl (fun K hK => ?_) AllReadyH.nil); go_simp
  go_at_call 6
  refine (HLW.o _ HB15a.o).mono ?_
  rintro r w16a ⟨qa, ka, qu, ku, rfl, ha, hu, hb⟩
  have HOa := zz ha; have HOu := zz hu; have HS16a := zz hb; have HB16a := zz (below_and HB15a.o hb)
  (try go_wp2_with fail)
  refine hK.out _ _ (HSS.o _ HB16a.o) (fun hS => ?_); clear hK K hb ha hu
  (try simp only [Act.put]); (try simp only [List.setIfInBounds_toArray]); (try simp only [List.set_cons_succ]); (try simp only [List.set_cons_zero])
  have s0 := HS1a.o.size; have s1 := HS12a.o.size; have s2 := HS15a.o.size; have s3 := HS16a.o.size; have s4 := HBD.o.size; have s5 := HZP.o; have s6 := HZQ.o; have s7 := HKP.o.lt; have s8 := HKQ.o.lt; have HK5 := zz (K5.mk (w0 := w2) (N := N) (V := V) (HKP.o.kept HS16a.o) (HKQ.o.kept (below_and HS15a.o HS16a.o)) ⟨_, own_bel HOn.o (below_and (below_and HS12a.o HS15a.o) HS16a.o)⟩ ⟨_, own_bel HOa.o (Below.refl _ _)⟩ ⟨_, own_bel HOu.o (Below.refl _ _)⟩ (by omega) (fun g hg => by have := own_lo HOn.o hg; have := own_hi HOn.o hg; omega) (fun g hg => by have := own_lo HOa.o hg; have := own_hi HOa.o hg; omega) (fun g hg => by have := own_lo HOu.o hg; have := own_hi HOu.o hg; omega) (by omega) (by omega) HB16a.o); clear s0 s1 s2 s3 s4 s5 s6 s7 s8; rotate_left; go_simp; obtain ⟨w17a, P, hw, hz, hb, hk⟩ := new_blk wd ZN 28; rw [hw, hz]; have HKP := zz hk; have HZP := zz hz; have HS17a := zz hb; have HB17a := zz (below_and HBD.o hb); refine hK.out _ _ (HSS.o _ HB17a.o) (fun hS => ?_); clear hK K hb hw hz hk
  (try simp only [Act.put]); (try simp only [List.setIfInBounds_toArray]); (try simp only [List.set_cons_succ]); (try simp only [List.set_cons_zero])
  (try simp only [List.getElem_toArray]); (try simp only [List.getElem_cons_succ]); (try simp only [List.getElem_cons_zero])
  refine wpAnyH_ready (rs := [1, 5]) (by kernel_rfl) (by simp) ?_; refine (AllReadyH.cons rfl (fun K hK => ?_) (AllReadyH.cons rfl (fun K hK => ?_) AllReadyH.nil)); go_simp
  go_at_call 5
  refine (HLN.o _ HB17a.o).mono ?_
  rintro r w18a ⟨qn, kn, rfl, ho, hb⟩
  have HOn := zz ho; have HS18a := zz hb; have HB18a := zz (below_and HB17a.o hb)
  (try go_wp2_with fail)
  refine hK.out _ _ (HSS.o _ HB18a.o) (fun hS => ?_); clear hK K hb ho
  (try simp only [Act.put]); (try simp only [List.setIfInBounds_toArray]); (try simp only [List.set_cons_succ]); (try simp only [List.set_cons_zero])
  (try simp only [List.getElem_toArray]); (try simp only [List.getElem_cons_succ]); (try simp only [List.getElem_cons_zero])
  refine wpAnyH_ready (rs := [3, 5]) (by kernel_rfl) (by simp) ?_; refine (AllReadyH.cons rfl (fun K hK => ?_) (AllReadyH.cons rfl (fun K hK => ?_) AllReadyH.nil)); go_simp
  go_at_call 6
  refine (HLW.o _ HB18a.o).mono ?_
  rintro r w19a ⟨qa, ka, qu, ku, rfl, ha, hu, hb⟩
  have HOa := zz ha; have HOu := zz hu; have HS19a := zz hb; have HB19a := zz (below_and HB18a.o hb)
  (try go_wp2_with fail)
  refine hK.out _ _ (HSS.o _ HB19a.o) (fun hS => ?_); clear hK K hb ha hu
  (try simp only [Act.put]); (try simp only [List.setIfInBounds_toArray]); (try simp only [List.set_cons_succ]); (try simp only [List.set_cons_zero])
  (try simp only [List.getElem_toArray]); (try simp only [List.getElem_cons_succ]); (try simp only [List.getElem_cons_zero])
  refine wpAnyH_ready (rs := [5]) (by kernel_rfl) (by simp) ?_; refine (AllReadyH.cons rfl (fun K hK => ?_) AllReadyH.nil); go_simp; obtain ⟨w20a, Q, hw, hz, hb, hk⟩ := new_blk w19a ZV 32; rw [hw, hz]; have HKQ := zz hk; have HZQ := zz hz; have HS20a := zz hb; have HB20a := zz (below_and HB19a.o hb); refine hK.out _ _ (HSS.o _ HB20a.o) (fun hS => ?_); clear hK K hb hw hz hk
  (try simp only [Act.put]); (try simp only [List.setIfInBounds_toArray]); (try simp only [List.set_cons_succ]); (try simp only [List.set_cons_zero])
  have s0 := HS17a.o.size; have s1 := HS18a.o.size; have s2 := HS19a.o.size; have s3 := HS20a.o.size; have s4 := HBD.o.size; have s5 := HZP.o; have s6 := HZQ.o; have s7 := HKP.o.lt; have s8 := HKQ.o.lt; have HK5 := zz (K5.mk (w0 := w2) (N := N) (V := V) (HKP.o.kept (below_and (below_and HS18a.o HS19a.o) HS20a.o)) (HKQ.o.kept (Below.refl _ _)) ⟨_, own_bel HOn.o (below_and HS19a.o HS20a.o)⟩ ⟨_, own_bel HOa.o HS20a.o⟩ ⟨_, own_bel HOu.o HS20a.o⟩ (by omega) (fun g hg => by have := own_lo HOn.o hg; have := own_hi HOn.o hg; omega) (fun g hg => by have := own_lo HOa.o hg; have := own_hi HOa.o hg; omega) (fun g hg => by have := own_lo HOu.o hg; have := own_hi HOu.o hg; omega) (by omega) (by omega) HB20a.o); clear s0 s1 s2 s3 s4 s5 s6 s7 s8; rotate_left; go_simp; obtain ⟨w21a, Q, hw, hz, hb, hk⟩ := new_blk w18a ZV 32; rw [hw, hz]; have HKQ := zz hk; have HZQ := zz hz; have HS21a := zz hb; have HB21a := zz (below_and HB18a.o hb); refine hK.out _ _ (HSS.o _ HB21a.o) (fun hS => ?_); clear hK K hb hw hz hk
  (try simp only [Act.put]); (try simp only [List.setIfInBounds_toArray]); (try simp only [List.set_cons_succ]); (try simp only [List.set_cons_zero])
  (try simp only [List.getElem_toArray]); (try simp only [List.getElem_cons_succ]); (try simp only [List.getElem_cons_zero])
  refine wpAnyH_ready (rs := [3]) (by kernel_rfl) (by simp) ?_; refine (AllReadyH.cons rfl (fun K hK => ?_) AllReadyH.nil); go_simp
  go_at_call 6
  refine (HLW.o _ HB21a.o).mono ?_
  rintro r w22a ⟨qa, ka, qu, ku, rfl, ha, hu, hb⟩
  have HOa := zz ha; have HOu := zz hu; have HS22a := zz hb; have HB22a := zz (below_and HB21a.o hb)
  (try go_wp2_with fail)
  refine hK.out _ _ (HSS.o _ HB22a.o) (fun hS => ?_); clear hK K hb ha hu
  (try simp only [Act.put]); (try simp only [List.setIfInBounds_toArray]); (try simp only [List.set_cons_succ]); (try simp only [List.set_cons_zero])
  have s0 := HS17a.o.size; have s1 := HS18a.o.size; have s2 := HS21a.o.size; have s3 := HS22a.o.size; have s4 := HBD.o.size; have s5 := HZP.o; have s6 := HZQ.o; have s7 := HKP.o.lt; have s8 := HKQ.o.lt; have HK5 := zz (K5.mk (w0 := w2) (N := N) (V := V) (HKP.o.kept (below_and (below_and HS18a.o HS21a.o) HS22a.o)) (HKQ.o.kept HS22a.o) ⟨_, own_bel HOn.o (below_and HS21a.o HS22a.o)⟩ ⟨_, own_bel HOa.o (Below.refl _ _)⟩ ⟨_, own_bel HOu.o (Below.refl _ _)⟩ (by omega) (fun g hg => by have := own_lo HOn.o hg; have := own_hi HOn.o hg; omega) (fun g hg => by have := own_lo HOa.o hg; have := own_hi HOa.o hg; omega) (fun g hg => by have := own_lo HOu.o hg; have := own_hi HOu.o hg; omega) (by omega) (by omega) HB22a.o); clear s0 s1 s2 s3 s4 s5 s6 s7 s8; rotate_left; go_simp; obtain ⟨w23a, Q, hw, hz, hb, hk⟩ := new_blk w17a ZV 32; rw [hw, hz]; have HKQ := zz hk; have HZQ := zz hz; have HS23a := zz hb; have HB23a := zz (below_and HB17a.o hb); refine hK.out _ _ (HSS.o _ HB23a.o) (fun hS => ?_); clear hK K hb hw hz hk
  (try simp only [Act.put]); (try simp only [List.setIfInBounds_toArray]); (try simp only [List.set_cons_succ]); (try simp only [List.set_cons_zero])
  (try simp only [List.getElem_toArray]); (try simp only [List.getElem_cons_succ]); (try simp only [List.getElem_cons_zero])
  refine wpAnyH_ready (rs := [1]) (by kernel_rfl) (by simp) ?_; refine (AllReadyH.cons rfl (fun K hK => ?_) AllReadyH.nil); go_simp
  go_at_call 5
  refine (HLN.o _ HB23a.o).mono ?_
  rintro r w24a ⟨qn, kn, rfl, ho, hb⟩
  have HOn := zz ho; have HS24a := zz hb; have HB24a := zz (below_and HB23a.o hb)
  (try go_wp2_with fail)
  refine hK.out _ _ (HSS.o _ HB24a.o) (fun hS => ?_); clear hK K hb ho
  (try simp only [Act.put]); (try simp only [List.setIfInBounds_toArray]); (try simp only [List.set_cons_succ]); (try simp only [List.set_cons_zero])
  (try simp only [List.getElem_toArray]); (try simp only [List.getElem_cons_succ]); (try simp only [List.getElem_cons_zero])
  refine wpAnyH_ready (rs := [3]) (by kernel_rfl) (by simp) ?_; refine (AllReadyH.cons rfl (fun K hK => ?_) AllReadyH.nil); go_simp
  go_at_call 6
  refine (HLW.o _ HB24a.o).mono ?_
  rintro r w25a ⟨qa, ka, qu, ku, rfl, ha, hu, hb⟩
  have HOa := zz ha; have HOu := zz hu; have HS25a := zz hb; have HB25a := zz (below_and HB24a.o hb)
  (try go_wp2_with fail)
  refine hK.out _ _ (HSS.o _ HB25a.o) (fun hS => ?_); clear hK K hb ha hu
  (try simp only [Act.put]); (try simp only [List.setIfInBounds_toArray]); (try simp only [List.set_cons_succ]); (try simp only [List.set_cons_zero])
  have s0 := HS17a.o.size; have s1 := HS23a.o.size; have s2 := HS24a.o.size; have s3 := HS25a.o.size; have s4 := HBD.o.size; have s5 := HZP.o; have s6 := HZQ.o; have s7 := HKP.o.lt; have s8 := HKQ.o.lt; have HK5 := zz (K5.mk (w0 := w2) (N := N) (V := V) (HKP.o.kept (below_and (below_and HS23a.o HS24a.o) HS25a.o)) (HKQ.o.kept (below_and HS24a.o HS25a.o)) ⟨_, own_bel HOn.o HS25a.o⟩ ⟨_, own_bel HOa.o (Below.refl _ _)⟩ ⟨_, own_bel HOu.o (Below.refl _ _)⟩ (by omega) (fun g hg => by have := own_lo HOn.o hg; have := own_hi HOn.o hg; omega) (fun g hg => by have := own_lo HOa.o hg; have := own_hi HOa.o hg; omega) (fun g hg => by have := own_lo HOu.o hg; have := own_hi HOu.o hg; omega) (by omega) (by omega) HB25a.o); clear s0 s1 s2 s3 s4 s5 s6 s7 s8; rotate_left; go_simp; obtain ⟨w26a, Q, hw, hz, hb, hk⟩ := new_blk wd ZV 32; rw [hw, hz]; have HKQ := zz hk; have HZQ := zz hz; have HS26a := zz hb; have HB26a := zz (below_and HBD.o hb); refine hK.out _ _ (HSS.o _ HB26a.o) (fun hS => ?_); clear hK K hb hw hz hk
  (try simp only [Act.put]); (try simp only [List.setIfInBounds_toArray]); (try simp only [List.set_cons_succ]); (try simp only [List.set_cons_zero])
  (try simp only [List.getElem_toArray]); (try simp only [List.getElem_cons_succ]); (try simp only [List.getElem_cons_zero])
  refine wpAnyH_ready (rs := [1, 4]) (by kernel_rfl) (by simp) ?_; refine (AllReadyH.cons rfl (fun K hK => ?_) (AllReadyH.cons rfl (fun K hK => ?_) AllReadyH.nil)); go_simp
  go_at_call 5
  refine (HLN.o _ HB26a.o).mono ?_
  rintro r w27a ⟨qn, kn, rfl, ho, hb⟩
  have HOn := zz ho; have HS27a := zz hb; have HB27a := zz (below_and HB26a.o hb)
  (try go_wp2_with fail)
  refine hK.out _ _ (HSS.o _ HB27a.o) (fun hS => ?_); clear hK K hb ho
  (try simp only [Act.put]); (try simp only [List.setIfInBounds_toArray]); (try simp only [List.set_cons_succ]); (try simp only [List.set_cons_zero])
  (try simp only [List.getElem_toArray]); (try simp only [List.getElem_cons_succ]); (try simp only [List.getElem_cons_zero])
  refine wpAnyH_ready (rs := [3, 4]) (by kernel_rfl) (by simp) ?_; refine (AllReadyH.cons rfl (fun K hK => ?_) (AllReadyH.cons rfl (fun K hK => ?_) AllReadyH.nil)); go_simp
  go_at_call 6
  refine (HLW.o _ HB27a.o).mono ?_
  rintro r w28a ⟨qa, ka, qu, ku, rfl, ha, hu, hb⟩
  have HOa := zz ha; have HOu := zz hu; have HS28a := zz hb; have HB28a := zz (below_and HB27a.o hb)
  (try go_wp2_with fail)
  refine hK.out _ _ (HSS.o _ HB28a.o) (fun hS => ?_); clear hK K hb ha hu
  (try simp only [Act.put]); (try simp only [List.setIfInBounds_toArray]); (try simp only [List.set_cons_succ]); (try simp only [List.set_cons_zero])
  (try simp only [List.getElem_toArray]); (try simp only [List.getElem_cons_succ]); (try simp only [List.getElem_cons_zero])
  refine wpAnyH_ready (rs := [4]) (by kernel_rfl) (by simp) ?_; refine (AllReadyH.cons rfl (fun K hK => ?_) AllReadyH.nil); go_simp; obtain ⟨w29a, P, hw, hz, hb, hk⟩ := new_blk w28a ZN 28; rw [hw, hz]; have HKP := zz hk; have HZP := zz hz; have HS29a := zz hb; have HB29a := zz (below_and HB28a.o hb); refine hK.out _ _ (HSS.o _ HB29a.o) (fun hS => ?_); clear hK K hb hw hz hk
  (try simp only [Act.put]); (try simp only [List.setIfInBounds_toArray]); (try simp only [List.set_cons_succ]); (try simp only [List.set_cons_zero])
  have s0 := HS26a.o.size; have s1 := HS27a.o.size; have s2 := HS28a.o.size; have s3 := HS29a.o.size; have s4 := HBD.o.size; have s5 := HZP.o; have s6 := HZQ.o; have s7 := HKP.o.lt; have s8 := HKQ.o.lt; have HK5 := zz (K5.mk (w0 := w2) (N := N) (V := V) (HKP.o.kept (Below.refl _ _)) (HKQ.o.kept (below_and (below_and HS27a.o HS28a.o) HS29a.o)) ⟨_, own_bel HOn.o (below_and HS28a.o HS29a.o)⟩ ⟨_, own_bel HOa.o HS29a.o⟩ ⟨_, own_bel HOu.o HS29a.o⟩ (by omega) (fun g hg => by have := own_lo HOn.o hg; have := own_hi HOn.o hg; omega) (fun g hg => by have := own_lo HOa.o hg; have := own_hi HOa.o hg; omega) (fun g hg => by have := own_lo HOu.o hg; have := own_hi HOu.o hg; omega) (by omega) (by omega) HB29a.o); clear s0 s1 s2 s3 s4 s5 s6 s7 s8; rotate_left; go_simp; obtain ⟨w30a, P, hw, hz, hb, hk⟩ := new_blk w27a ZN 28; rw [hw, hz]; have HKP := zz hk; have HZP := zz hz; have HS30a := zz hb; have HB30a := zz (below_and HB27a.o hb); refine hK.out _ _ (HSS.o _ HB30a.o) (fun hS => ?_); clear hK K hb hw hz hk
  (try simp only [Act.put]); (try simp only [List.setIfInBounds_toArray]); (try simp only [List.set_cons_succ]); (try simp only [List.set_cons_zero])
  (try simp only [List.getElem_toArray]); (try simp only [List.getElem_cons_succ]); (try simp only [List.getElem_cons_zero])
  refine wpAnyH_ready (rs := [3]) (by kernel_rfl) (by simp) ?_; refine (AllReadyH.cons rfl (fun K hK => ?_) AllReadyH.nil); go_simp
  go_at_call 6
  refine (HLW.o _ HB30a.o).mono ?_
  rintro r w31a ⟨qa, ka, qu, ku, rfl, ha, hu, hb⟩
  have HOa := zz ha; have HOu := zz hu; have HS31a := zz hb; have HB31a := zz (below_and HB30a.o hb)
  (try go_wp2_with fail)
  refine hK.out _ _ (HSS.o _ HB31a.o) (fun hS => ?_); clear hK K hb ha hu
  (try simp only [Act.put]); (try simp only [List.setIfInBounds_toArray]); (try simp only [List.set_cons_succ]); (try simp only [List.set_cons_zero])
  have s0 := HS26a.o.size; have s1 := HS27a.o.size; have s2 := HS30a.o.size; have s3 := HS31a.o.size; have s4 := HBD.o.size; have s5 := HZP.o; have s6 := HZQ.o; have s7 := HKP.o.lt; have s8 := HKQ.o.lt; have HK5 := zz (K5.mk (w0 := w2) (N := N) (V := V) (HKP.o.kept HS31a.o) (HKQ.o.kept (below_and (below_and HS27a.o HS30a.o) HS31a.o)) ⟨_, own_bel HOn.o (below_and HS30a.o HS31a.o)⟩ ⟨_, own_bel HOa.o (Below.refl _ _)⟩ ⟨_, own_bel HOu.o (Below.refl _ _)⟩ (by omega) (fun g hg => by have := own_lo HOn.o hg; have := own_hi HOn.o hg; omega) (fun g hg => by have := own_lo HOa.o hg; have := own_hi HOa.o hg; omega) (fun g hg => by have := own_lo HOu.o hg; have := own_hi HOu.o hg; omega) (by omega) (by omega) HB31a.o); clear s0 s1 s2 s3 s4 s5 s6 s7 s8; rotate_left; go_simp; obtain ⟨w32a, P, hw, hz, hb, hk⟩ := new_blk w26a ZN 28; rw [hw, hz]; have HKP := zz hk; have HZP := zz hz; have HS32a := zz hb; have HB32a := zz (below_and HB26a.o hb); refine hK.out _ _ (HSS.o _ HB32a.o) (fun hS => ?_); clear hK K hb hw hz hk
  (try simp only [Act.put]); (try simp only [List.setIfInBounds_toArray]); (try simp only [List.set_cons_succ]); (try simp only [List.set_cons_zero])
  (try simp only [List.getElem_toArray]); (try simp only [List.getElem_cons_succ]); (try simp only [List.getElem_cons_zero])
  refine wpAnyH_ready (rs := [1]) (by kernel_rfl) (by simp) ?_; refine (AllReadyH.cons rfl (fun K hK => ?_) AllReadyH.nil); go_simp
  go_at_call 5
  refine (HLN.o _ HB32a.o).mono ?_
  rintro r w33a ⟨qn, kn, rfl, ho, hb⟩
  have HOn := zz ho; have HS33a := zz hb; have HB33a := zz (below_and HB32a.o hb)
  (try go_wp2_with fail)
  refine hK.out _ _ (HSS.o _ HB33a.o) (fun hS => ?_); clear hK K hb ho
  (try simp only [Act.put]); (try simp only [List.setIfInBounds_toArray]); (try simp only [List.set_cons_succ]); (try simp only [List.set_cons_zero])
  (try simp only [List.getElem_toArray]); (try simp only [List.getElem_cons_succ]); (try simp only [List.getElem_cons_zero])
  refine wpAnyH_ready (rs := [3]) (by kernel_rfl) (by simp) ?_; refine (AllReadyH.cons rfl (fun K hK => ?_) AllReadyH.nil); go_simp
  go_at_call 6
  refine (HLW.o _ HB33a.o).mono ?_
  rintro r w34a ⟨qa, ka, qu, ku, rfl, ha, hu, hb⟩
  have HOa := zz ha; have HOu := zz hu; have HS34a := zz hb; have HB34a := zz (below_and HB33a.o hb)
  (try go_wp2_with fail)
  refine hK.out _ _ (HSS.o _ HB34a.o) (fun hS => ?_); clear hK K hb ha hu
  (try simp only [Act.put]); (try simp only [List.setIfInBounds_toArray]); (try simp only [List.set_cons_succ]); (try simp only [List.set_cons_zero])
  have s0 := HS26a.o.size; have s1 := HS32a.o.size; have s2 := HS33a.o.size; have s3 := HS34a.o.size; have s4 := HBD.o.size; have s5 := HZP.o; have s6 := HZQ.o; have s7 := HKP.o.lt; have s8 := HKQ.o.lt; have HK5 := zz (K5.mk (w0 := w2) (N := N) (V := V) (HKP.o.kept (below_and HS33a.o HS34a.o)) (HKQ.o.kept (below_and (below_and HS32a.o HS33a.o) HS34a.o)) ⟨_, own_bel HOn.o HS34a.o⟩ ⟨_, own_bel HOa.o (Below.refl _ _)⟩ ⟨_, own_bel HOu.o (Below.refl _ _)⟩ (by omega) (fun g hg => by have := own_lo HOn.o hg; have := own_hi HOn.o hg; omega) (fun g hg => by have := own_lo HOa.o hg; have := own_hi HOa.o hg; omega) (fun g hg => by have := own_lo HOu.o hg; have := own_hi HOu.o hg; omega) (by omega) (by omega) HB34a.o); clear s0 s1 s2 s3 s4 s5 s6 s7 s8; rotate_left
  all_goals
   (try simp only [List.getElem_toArray]); (try simp only [List.getElem_cons_succ]); (try simp only [List.getElem_cons_zero])
   refine wpAnyH_ready (rs := [6]) (by kernel_rfl) (by simp) ?_; refine (AllReadyH.cons rfl (fun K hK => ?_) AllReadyH.nil); obtain ⟨y0, y1, y2, y3, y4, y5, y6, y7⟩ := cl8 HK5.o.bp; obtain ⟨f0, f1, f2, f3, f4, f5, f6, f7⟩ := fz8 HK5.o.bp; go_simp; refine at_hide (F := fun w' => K5 w2 w' N V P Q (.slice qn N.L.length kn) (.slice qa V.at'.length ka) (.slice qu V.us.length ku) (neC N (.slice qn N.L.length kn)) ZV) (HK5.o.setP rfl _ _ _ _ _ _ _ _) ?_; intro wS hF; have HK6 := zz hF; clear hF y0 y1 y2 y3 y4 y5 y6 y7 f0 f1 f2 f3 f4 f5 f6 f7; refine hK.out _ _ (HSS.o _ HK6.o.hb) (fun hSS => ?_); clear hK K
   (try simp only [Act.put]); (try simp only [List.setIfInBounds_toArray]); (try simp only [List.set_cons_succ]); (try simp only [List.set_cons_zero])
   refine wpAnyH_done (by kernel_rfl) ?_ _; refine LastQ.start rfl ?_; obtain ⟨y0, y1, y2, y3, y4, y5, y6, y7⟩ := cl8 HK6.o.bq; obtain ⟨f0, f1, f2, f3, f4, f5, f6, f7⟩ := fz8 HK6.o.bq; go_wp2; refine NoPanic.normal ?_; go_wp2_with fail
   go_meet
   exact ⟨P, Q, qn, kn, qa, ka, qu, ku, rfl, rfl, HK6.o.setQ rfl _ _ _ _ _ _ _ _⟩
 case rest =>
  obtain ⟨P, Q, qn, kn, qa, ka, qu, ku, rfl, rfl, hK⟩ := hcut; have HP := zz hK.bp; have HQ := zz hK.bq; have HB5 : Hid (Below w.heap.size w wc) := zz (below_and HB2.o hK.hb); have HX := zz (HX2.o.kept hK.hb); have HY := zz (HY2.o.kept hK.hb); have HON : Hid (Nds wc N (.slice qn N.L.length kn)) := zz (by obtain ⟨b, h⟩ := hK.on; exact h.row); have HOV : Hid (Vws wc V (.slice qa V.at'.length ka) (.slice qu V.us.length ku)) := zz ⟨by obtain ⟨b, h⟩ := hK.oa; exact h.row, by obtain ⟨b, h⟩ := hK.ou; exact h.usw⟩; clear hK HSS HLN HLW; obtain ⟨vr, hvr⟩ : ∃ q, q = viewR V := ⟨_, rfl⟩; obtain ⟨nr, hnr⟩ : ∃ q, q = needR N := ⟨_, rfl⟩; obtain ⟨ra, hra⟩ : ∃ q, q = (roomR V p).1 := ⟨_, rfl⟩; obtain ⟨re, hre⟩ : ∃ q, q = (roomR V p).2 := ⟨_, rfl⟩; obtain ⟨G, hG⟩ : ∃ q, q = (goersR N V p).1 := ⟨_, rfl⟩; obtain ⟨ge, hge⟩ : ∃ q, q = (goersR N V p).2 := ⟨_, rfl⟩; obtain ⟨f1, hf1⟩ : ∃ q, q = (fitP N V).1 := ⟨_, rfl⟩; obtain ⟨f2, hf2⟩ : ∃ q, q = (fitP N V).2.1 := ⟨_, rfl⟩; obtain ⟨f3, hf3⟩ : ∃ q, q = (fitP N V).2.2 := ⟨_, rfl⟩
  have K1 : Hid (∀ w', Below wc.heap.size wc w' → Calls Tryz.prog 7 #[vwV V (.slice qa V.at'.length ka) (.slice qu V.us.length ku)] w' fun r w2 => r = .returned (.int .i64 vr) ∧ Below w'.heap.size w' w2) := zz (fun w' hb => by
   have hbw := below_and HB5.o hb
   rw [hvr]; exact checkView_any V _ _ w' (HOV.o.below hb) hvk)
  have K2 : Hid (∀ w', Below wc.heap.size wc w' → Calls Tryz.prog 8 #[vwV V (.slice pa V.at'.length ca) (.slice pu V.us.length cu)] w' fun r w2 => r = .returned (.int .i64 vr) ∧ Below w'.heap.size w' w2) := zz (fun w' hb => by
   have hbw := below_and HB5.o hb
   rw [hvr]; exact dcheckView_any V _ _ w' (HV.o.below hbw) hvd)
  have K3 : Hid (∀ w', Below wc.heap.size wc w' → Calls Tryz.prog 9 #[neV N (.slice qn N.L.length kn)] w' fun r w2 => r = .returned (.int .i64 nr) ∧ Below w'.heap.size w' w2) := zz (fun w' hb => by
   have hbw := below_and HB5.o hb
   rw [hnr]; exact checkNeed_any N _ w' (HON.o.below hb) hno (HEN.o _ hbw).1 (HEN.o _ hbw).2)
  have K4 : Hid (∀ w', Below wc.heap.size wc w' → Calls Tryz.prog 10 #[neV N (.slice pl N.L.length cl)] w' fun r w2 => r = .returned (.int .i64 nr) ∧ Below w'.heap.size w' w2) := zz (fun w' hb => by
   have hbw := below_and HB5.o hb
   rw [hnr]; exact dcheckNeed_any N _ w' (HN.o.below hbw) hnb)
  have K5_ : Hid (∀ w', Below wc.heap.size wc w' → Calls Tryz.prog 11 #[vwV V (.slice qa V.at'.length ka) (.slice qu V.us.length ku), .string (bs p)] w' fun r w2 => r = .returned (.tuple #[amV ra, .int .i64 re]) ∧ Below w'.heap.size w' w2) := zz (fun w' hb => by
   have hbw := below_and HB5.o hb
   rw [hra, hre]; exact roomF_any V _ _ p w' (HOV.o.below hb) hvk)
  have K6 : Hid (∀ w', Below wc.heap.size wc w' → Calls Tryz.prog 12 #[vwV V (.slice pa V.at'.length ca) (.slice pu V.us.length cu), .string (bs p)] w' fun r w2 => r = .returned (.tuple #[amV ra, .int .i64 re]) ∧ Below w'.heap.size w' w2) := zz (fun w' hb => by
   have hbw := below_and HB5.o hb
   rw [hra, hre]; exact droom_any V _ _ p w' (HV.o.below hbw) hvd)
  have K7 : Hid (∀ w', Below wc.heap.size wc w' → Calls Tryz.prog 13 #[neV N (.slice qn N.L.length kn), vwV V (.slice qa V.at'.length ka) (.slice qu V.us.length ku), .string (bs p)] w' fun r w2 => ∃ qg cg, r = .returned (.tuple #[.slice qg G.length cg, .int .i64 ge]) ∧ Usw w2 (.slice qg G.length cg) G ∧ Below w'.heap.size w' w2) := zz (fun w' hb => by
   have hbw := below_and HB5.o hb
   rw [hG, hge]; refine (goersG_any N V _ _ _ p w' (HON.o.below hb) hno (HOV.o.below hb) hvk (HEN.o _ hbw).1 (HEN.o _ hbw).2).mono fun r w2 h => ?_
   obtain ⟨v', h1, h2, h3⟩ := h; obtain ⟨qg, cg, rfl⟩ := (h2).slice
   exact ⟨qg, cg, h1, h2, h3⟩)
  have K8 : Hid (∀ w', Below wc.heap.size wc w' → Calls Tryz.prog 14 #[neV N (.slice pl N.L.length cl), vwV V (.slice pa V.at'.length ca) (.slice pu V.us.length cu), .string (bs p)] w' fun r w2 => ∃ qg cg, r = .returned (.tuple #[.slice qg G.length cg, .int .i64 ge]) ∧ Usw w2 (.slice qg G.length cg) G ∧ Below w'.heap.size w' w2) := zz (fun w' hb => by
   have hbw := below_and HB5.o hb
   rw [hG, hge]; refine (dgoers_any N V _ _ _ p w' (HN.o.below hbw) hnb (HV.o.below hbw) hvd).mono fun r w2 h => ?_
   obtain ⟨v', h1, h2, h3⟩ := h; obtain ⟨qg, cg, rfl⟩ := (usw_own h2).slice
   exact ⟨qg, cg, h1, usw_own h2, h3⟩)
  have K9 : Hid (∀ w', Below wc.heap.size wc w' → Calls Tryz.prog 15 #[neV N (.slice qn N.L.length kn), vwV V (.slice qa V.at'.length ka) (.slice qu V.us.length ku)] w' fun r w2 => r = .returned (.tuple #[.int .i64 f1, .string (bs f2), .int .i64 f3]) ∧ Below w'.heap.size w' w2) := zz (fun w' hb => by
   have hbw := below_and HB5.o hb
   rw [hf1, hf2, hf3]; exact fit_any N V _ _ _ w' (HON.o.below hb) hno (HOV.o.below hb) hvk (HEN.o _ hbw).1 (HEN.o _ hbw).2)
  have K10 : Hid (∀ w', Below wc.heap.size wc w' → Calls Tryz.prog 16 #[neV N (.slice pl N.L.length cl), vwV V (.slice pa V.at'.length ca) (.slice pu V.us.length cu)] w' fun r w2 => r = .returned (.tuple #[.int .i64 f1, .string (bs f2), .int .i64 f3]) ∧ Below w'.heap.size w' w2) := zz (fun w' hb => by
   have hbw := below_and HB5.o hb
   rw [hf1, hf2, hf3]; exact dfit_any N V _ _ _ w' (HN.o.below hbw) hnb (HV.o.below hbw) hvd)
  have K11 : Hid (∀ w', Below wc.heap.size wc w' → Calls Tryz.prog 18 #[vwV V (.slice qa V.at'.length ka) (.slice qu V.us.length ku), vwV V (.slice pa V.at'.length ca) (.slice pu V.us.length cu)] w' fun r w2 => r = .returned (.bool true) ∧ Below w'.heap.size w' w2) := zz (fun w' hb => by
   have hbw := below_and HB5.o hb
   exact view_same V _ _ _ _ w' (HOV.o.below hb) (HV.o.below hbw) (by have := HU60.o; omega))
  have K12 : Hid (∀ w', Below wc.heap.size wc w' → Calls Tryz.prog 19 #[.agg #[.slice qn N.L.length kn], .agg #[.slice pl N.L.length cl]] w' fun r w2 => r = .returned (.bool true) ∧ Below w'.heap.size w' w2) := zz (fun w' hb => by
   have hbw := below_and HB5.o hb; have := same_rule _ _ N.L N.L w' (HON.o.below hb) (HN.o.below hbw); rw [decide_eq_true rfl] at this
   exact this)
  clear hvr hnr hra hre hG hge hf1 hf2 hf3 hno hnb hvk hvd; obtain ⟨n0, n1, n2, n3, n4, n5, n6, n7⟩ := ps8 HP.o; obtain ⟨c0, c1, c2, c3, c4, c5, c6, c7⟩ := ps8 HQ.o; obtain ⟨x0, x1, x2, x3, x4, x5, x6, x7⟩ := ps8 HX.o; obtain ⟨y0, y1, y2, y3, y4, y5, y6, y7⟩ := ps8 HY.o; go_upto_region 6 with fail; refine wp_region_past (by kernel_rfl) (by kernel_rfl) ?_
  repeat (go_big_quiet_step ((first | (go_at_call 7; exact past_call (K1.o _ (Past.h _))) | (go_at_call 8; exact past_call (K2.o _ (Past.h _))) | (go_at_call 9; exact past_call (K3.o _ (Past.h _))) | (go_at_call 10; exact past_call (K4.o _ (Past.h _))))))
  refine wpQuiet_past ?_; intro w6 h9; have HB6 := zz h9; clear n0 n1 n2 n3 n4 n5 n6 n7 c0 c1 c2 c3 c4 c5 c6 c7 x0 x1 x2 x3 x4 x5 x6 x7 y0 y1 y2 y3 y4 y5 y6 y7; clear h9; obtain ⟨c0, c1, c2, c3, c4, c5, c6, c7⟩ := cl8 (HQ.o.kept HB6.o); go_upto_region 9 with (go_at_call 11; refine (K5_.o _ HB6.o).mono ?_; rintro r w7 ⟨rfl, hb⟩; have HB7 := zz (below_and HB6.o hb); clear hb); clear c0 c1 c2 c3 c4 c5 c6 c7; obtain ⟨Z1, hZ1⟩ : ∃ q, q = w7.heap.size := ⟨_, rfl⟩; refine at_hide (F := fun w' => Blk w' Z1 (amC ra) 23 ∧ Below w7.heap.size w7 w') ⟨by rw [hZ1]; exact Blk.made w7 (amC ra) _, below_alloc _ _⟩ ?_; rw [← hZ1]; intro w8 hF; have hb : Below w7.heap.size w7 w8 := by have := hF.2; rw [hZ1] at this; exact this
  have HZ1 := zz hF.1; have HB8 := zz (below_and HB7.o hb); clear hF hZ1 hb; obtain ⟨y0, y1, y2, y3, y4, y5, y6, y7⟩ := cl8 (HY.o.kept HB8.o); go_upto_region 10 with (go_at_call 12; refine (K6.o _ HB8.o).mono ?_; rintro r w9 ⟨rfl, hb⟩; have HB9 := zz (below_and HB8.o hb); have HZ19 := zz (HZ1.o.kept hb); clear hb); clear y0 y1 y2 y3 y4 y5 y6 y7; obtain ⟨Z2, hZ2⟩ : ∃ q, q = w9.heap.size := ⟨_, rfl⟩; refine at_hide (F := fun w' => Blk w' Z2 (amC ra) 23 ∧ Below w9.heap.size w9 w') ⟨by rw [hZ2]; exact Blk.made w9 (amC ra) _, below_alloc _ _⟩ ?_; rw [← hZ2]; intro w10 hF; have hb : Below w9.heap.size w9 w10 := by have := hF.2; rw [hZ2] at this; exact this
  have HZ2 := zz hF.1; have HB10 := zz (below_and HB9.o hb); have HZ110 := zz (HZ19.o.kept hb); clear hF hZ2 hb; obtain ⟨n0, n1, n2, n3, n4, n5, n6, n7⟩ := cl8 (HP.o.kept HB10.o); obtain ⟨c0, c1, c2, c3, c4, c5, c6, c7⟩ := cl8 (HQ.o.kept HB10.o); go_upto_region 11 with (go_at_call 13; refine (K7.o _ HB10.o).mono ?_; rintro r w11 ⟨qg, cg, rfl, hu, hb⟩; have HB11 := zz (below_and HB10.o hb); have HGg := zz hu; have HZ111 := zz (HZ110.o.kept hb); have HZ211 := zz (HZ2.o.kept hb); clear hb hu); clear n0 n1 n2 n3 n4 n5 n6 n7 c0 c1 c2 c3 c4 c5 c6 c7; obtain ⟨x0, x1, x2, x3, x4, x5, x6, x7⟩ := cl8 (HX.o.kept HB11.o); obtain ⟨y0, y1, y2, y3, y4, y5, y6, y7⟩ := cl8 (HY.o.kept HB11.o); go_upto_region 12 with (go_at_call 14; refine (K8.o _ HB11.o).mono ?_; rintro r w12 ⟨qd, cd, rfl, hu, hb⟩; have HB12 := zz (below_and HB11.o hb); have HGd := zz hu; have HZ112 := zz (HZ111.o.kept hb); have HZ212 := zz (HZ211.o.kept hb); have HGg2 := zz (HGg.o.below hb); clear hb hu); clear x0 x1 x2 x3 x4 x5 x6 x7 y0 y1 y2 y3 y4 y5 y6 y7; obtain ⟨n0, n1, n2, n3, n4, n5, n6, n7⟩ := cl8 (HP.o.kept HB12.o); obtain ⟨c0, c1, c2, c3, c4, c5, c6, c7⟩ := cl8 (HQ.o.kept HB12.o)
  go_upto_region 13 with (go_at_call 15; refine (K9.o _ HB12.o).mono ?_; rintro r w13 ⟨rfl, hb⟩; have HB13 := zz (below_and HB12.o hb); have HZ113 := zz (HZ112.o.kept hb); have HZ213 := zz (HZ212.o.kept hb); have HGx13 := zz (HGg2.o.below hb); have HGy13 := zz (HGd.o.below hb); clear hb); clear n0 n1 n2 n3 n4 n5 n6 n7 c0 c1 c2 c3 c4 c5 c6 c7; obtain ⟨x0, x1, x2, x3, x4, x5, x6, x7⟩ := cl8 (HX.o.kept HB13.o); obtain ⟨y0, y1, y2, y3, y4, y5, y6, y7⟩ := cl8 (HY.o.kept HB13.o); go_upto_region 14 with (go_at_call 16; refine (K10.o _ HB13.o).mono ?_; rintro r w14 ⟨rfl, hb⟩; have HB14 := zz (below_and HB13.o hb); have HZ114 := zz (HZ113.o.kept hb); have HZ214 := zz (HZ213.o.kept hb); have HGx14 := zz (HGx13.o.below hb); have HGy14 := zz (HGy13.o.below hb); clear hb); clear x0 x1 x2 x3 x4 x5 x6 x7 y0 y1 y2 y3 y4 y5 y6 y7; obtain ⟨z0, z1, z2, z3⟩ := cl4 HZ114.o; obtain ⟨v0, v1, v2, v3⟩ := cl4 HZ214.o; have hae := am_eqlS ra; go_wp2_with (first | (go_at_call 17; refine (uses_same _ _ G _ HGx14.o HGy14.o).mono ?_; rintro r w15 ⟨rfl, hb⟩; have HB15 := zz (below_and HB14.o hb); obtain ⟨c0, c1, c2, c3, c4, c5, c6, c7⟩ := cl8 (HQ.o.kept HB15.o); obtain ⟨y0, y1, y2, y3, y4, y5, y6, y7⟩ := cl8 (HY.o.kept HB15.o); clear hb) | (go_at_call 18; refine (K11.o _ HB15.o).mono ?_; rintro r w16 ⟨rfl, hb⟩; have HB16 := zz (below_and HB15.o hb); have m6 := (HP.o.kept HB16.o).cell (j := 6) rfl; have m7 := (HX.o.kept HB16.o).cell (j := 6) rfl; clear hb) | (go_at_call 19; refine (K12.o _ HB16.o).mono ?_; rintro r w17 ⟨rfl, hb⟩; have HB17 := zz (below_and HB16.o hb); clear hb))
  go_ret; exact ⟨rfl, below_and HB5.o HB17.o⟩
