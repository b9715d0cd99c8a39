/- FtLess. -/
import Derived.Test.YtaipldegobjboaaGreatDoorMFt3
import Derived.Test.YtaipldegobjboaaGreatDoorMLs
import Derived.Test.YtaipldegobjboaaGreatDoorLeast
import Derived.Test.YtaipldegobjboaaGreatDoorCutH
namespace Go.Proofs.YtaipldegobjboaaGreatDoor.Ft
open Go.RowKit Go.Proofs.YtaipldegobjboaaGreatDoor Go.Proofs.YtaipldegobjboaaGreatDoor.Ru

theorem us_first {w w' : World} {p : Option Addr} {c i : Nat} {L : List Us} (h : Usw w (.slice p L.length c) L) (hb : Below w.heap.size w w') (hi : i ≤ L.length) : Src Tryz.prog 9 30 (.slice p i c) i (rwC usC (L.take i)) w' := by
  have h1 := row_first (Row.below h hb) hi
  rw [rwC_take usC_len hi] at h1
  exact h1.src Tryz.underlying30
theorem us_rest {w w' : World} {p : Option Addr} {c i : Nat} {L : List Us} (h : Usw w (.slice p L.length c) L) (hb : Below w.heap.size w w') (hi : i ≤ L.length) : Src Tryz.prog 9 30 (.slice (if c = i then p else Option.map (fun x => x.add (i * 9)) p) (L.length - i) (c - i)) (L.length - i) (rwC usC (L.drop i)) w' := by
  have h1 := row_rest (Row.below h hb) hi
  rw [rwC_drop usC_len hi] at h1
  exact h1.src Tryz.underlying30
theorem view_len {V : Vw} (h : Chk V) : V.at'.length ≤ 16 := by
  have h2 := chk_iff.2 h
  unfold checkV at h2
  simp only [Bool.and_eq_true, decide_eq_true_eq] at h2
  by_cases hl : V.at'.length ≤ 16
  · exact hl
  · have := attr_long hl
    rw [this] at h2
    exact absurd h2.1.1.1.1.2 (by decide)
structure LsW (w wx : World) (X : Nat) (D C : List Value) (m l : Am) : Prop where
  bn : Blk wx X D 28
  bv : Blk wx (X + 1) C 32
  bm : Blk wx (X + 2) (amC m) 23
  bl : Blk wx (X + 3) (amC l) 23
  hb : Below w.heap.size w wx
theorem LsW.kept {w wx wy : World} {X : Nat} {D C : List Value} {m l : Am} (h : LsW w wx X D C m l) (hb : Below wx.heap.size wx wy) : LsW w wy X D C m l := ⟨h.bn.kept hb, h.bv.kept hb, h.bm.kept hb, h.bl.kept hb, below_and h.hb hb⟩
theorem LsW.made (w : World) (N : Ne) (V : Vw) (a b c : Value) (m l : Am) : LsW w ((((w.alloc (.cells (neC N a).toArray 28)).alloc (.cells (vwC V b c).toArray 32)).alloc (.cells (amC m).toArray 23)).alloc (.cells (amC l).toArray 23)) w.heap.size (neC N a) (vwC V b c) m l := by
  have g := GeW.made w N V a b c
  obtain ⟨w2, hw2⟩ : ∃ w2, w2 = (w.alloc (.cells (neC N a).toArray 28)).alloc (.cells (vwC V b c).toArray 32) := ⟨_, rfl⟩
  have hs : w2.heap.size = w.heap.size + 2 := by rw [hw2]; simp
  rw [← hw2] at g ⊢
  refine ⟨(g.bn.alloc _).alloc _, (g.bv.alloc _).alloc _, ?_, ?_, below_and (below_and g.hb (below_alloc _ _)) (below_alloc _ _)⟩
  · have := Blk.made w2 (amC m) 23
    rw [hs] at this
    exact this.alloc _
  · have := Blk.made (w2.alloc (.cells (amC m).toArray 23)) (amC l) 23
    rw [show (w2.alloc (.cells (amC m).toArray 23)).heap.size = w.heap.size + 3 from by simp [hs]] at this
    exact this
theorem take4 (x y : Am) : ∃ z : Am, (∀ k, k < 4 → z.get k = if y.get k < x.get k then y.get k else x.get k) ∧ ∀ k, k < 4 → z.get k ≤ x.get k := by
  refine ⟨Am.of fun k => if y.get k < x.get k then y.get k else x.get k, fun k hk => Am.of_get _ k hk, fun k hk => ?_⟩
  rw [Am.of_get _ k hk]
  split <;> omega

set_option maxRecDepth 100000 in
set_option maxHeartbeats 4000000 in
theorem less_any (N : Ne) (V : Vw) (vl va vu : Value) (which : Int) (more less : Am) (w : World) (hn : Nds w N vl) (hnk : NeOk N) (hv : Vws w V va vu) (hus : ∀ u ∈ V.us, UsOk u) (hnm : V.nm.length ≤ 1000000000000000) (hat : ∀ a ∈ V.at', a.vl.length ≤ 1000000000000000) (hE : ErrV w) (hT : Tab w) :
    Calls Tryz.prog 3 #[neV N vl, vwV V va vu, .int .i64 which, amV more, amV less] w fun r w' => r = .returned (.bool true) ∧ Below w.heap.size w w' := by
  obtain ⟨ix, hi, hz0, hz1, hz2⟩ := info_parts info_us
  obtain ⟨pn, cn, rfl⟩ := hn.slice
  obtain ⟨⟨pa, ca, rfl⟩, pu, cu, rfl⟩ := hv.slices
  obtain ⟨ln, hln⟩ : ∃ ln, ln = N.L.length := ⟨_, rfl⟩
  obtain ⟨la, hla⟩ : ∃ la, la = V.at'.length := ⟨_, rfl⟩
  obtain ⟨lu, hlu⟩ : ∃ lu, lu = V.us.length := ⟨_, rfl⟩
  have HLI : Hid (∀ w', Below w.heap.size w w' → Calls Tryz.prog 6 #[] w' fun r w2 => r = .returned (.bool true) ∧ Below w'.heap.size w' w2) := Lib.hid (fun w' hb => lives_any w' (hE.below hb) (hT.below hb))
  have HFI : Hid (∀ (M : Ne) (U : Vw) v a b w', Below w.heap.size w w' → Nds w' M v → NeOk M → Vws w' U a b → VwOk U → Calls Tryz.prog 7 #[neV M v, vwV U a b] w' fun r w2 => r = .returned (.tuple #[.int .i64 (fitP M U).1, .string (bs (fitP M U).2.1), .int .i64 (fitP M U).2.2]) ∧ Below w'.heap.size w' w2) := Lib.hid (fun M U v a b w' hb hm ho hu hk => fit_any M U v a b w' hm ho hu hk (hE.below hb) (hT.below hb))
  have HCN : Hid (∀ (M : Ne) v w', Below w.heap.size w w' → Nds w' M v → NeOk M → Calls Tryz.prog 13 #[neV M v] w' fun r w2 => r = .returned (.int .i64 (needR M)) ∧ Below w'.heap.size w' w2) := Lib.hid (fun M v w' hb hm ho => checkNeed_any M v w' hm ho (hE.below hb) (hT.below hb))
  have HLN : Hid (N.L.length ≤ 64 → ∀ w', Below w.heap.size w w' → Calls Tryz.prog 11 #[neV N (.slice pn ln cn)] w' fun r w2 => ∃ q k, r = .returned (neV N (.slice q ln k)) ∧ Nds w2 N (.slice q ln k) ∧ Below w'.heap.size w' w2) := Lib.hid (fun hl w' hb => by
    rw [hln]
    refine (lendNeed_any N _ w' (hn.below hb) hl).mono fun r w2 h => ?_
    obtain ⟨q, k, h1, h2, h3⟩ := h
    exact ⟨q, k, h1, h2.row, h3⟩)
  have HLV : Hid (V.at'.length ≤ 16 → V.us.length ≤ 60 → ∀ w', Below w.heap.size w w' → Calls Tryz.prog 9 #[vwV V (.slice pa la ca) (.slice pu lu cu)] w' fun r w2 => ∃ q c q2 c2, r = .returned (vwV V (.slice q la c) (.slice q2 lu c2)) ∧ Vws w2 V (.slice q la c) (.slice q2 lu c2) ∧ Below w'.heap.size w' w2) := Lib.hid (fun h1 h2 w' hb => by
    rw [hla, hlu]
    exact lendView_any V _ _ w' (hv.below hb) h1 h2)
  have HND : Hid (∀ w', Below w.heap.size w w' → Nds w' N (.slice pn ln cn)) := Lib.hid (fun w' hb => by rw [hln]; exact hn.below hb)
  have HVD : Hid (∀ w', Below w.heap.size w w' → Vws w' V (.slice pa la ca) (.slice pu lu cu)) := Lib.hid (fun w' hb => by rw [hla, hlu]; exact hv.below hb)
  have HVK : Hid (V.us.length ≤ 60 → VwOk V) := Lib.hid (fun hl => ⟨by omega, hus, hnm, hat⟩)
  have HLU := Lib.hid hlu
  have HOK := Lib.hid hnk
  rw [← hln, ← hla, ← hlu]
  clear hn hnk hv hus hnm hat hE hT hln hla hlu
  obtain ⟨X, hX⟩ : ∃ X, X = w.heap.size := ⟨_, rfl⟩
  go_enter Tryz.func3, Tryz.ntmps3
  go_upto_region 1 with fail
  obtain ⟨D, hD⟩ : ∃ D, D = neC N (.slice pn ln cn) := ⟨_, rfl⟩
  obtain ⟨C, hC⟩ : ∃ C, C = vwC V (.slice pa la ca) (.slice pu lu cu) := ⟨_, rfl⟩
  refine at_hide (F := fun w' => LsW w w' X D C more less) (by rw [hX, hD, hC]; exact LsW.made w N V _ _ _ more less) ?_
  intro w1 hF
  rw [← hX]
  have HW1 := Lib.hid hF
  have HC := Lib.hid hC
  have HD := Lib.hid hD
  have HXW : Hid (w.heap.size ≤ X) := Lib.hid (by omega)
  clear hF hX hC hD
  go_upto_region 3 with (go_at_call 6; refine (HLI.out _ HW1.out.hb).mono ?_; rintro r w2 ⟨rfl, hb⟩; have HW2 := Lib.hid (HW1.out.kept hb); clear hb)
  have c7 := HW2.out.bv.cell (j := 7) (by rw [HC.out]; rfl)
  by_cases hbig : 60 < lu
  · have t1 : decide ((60 : Int) < (lu : Int)) = true := by simp; omega
    go_wp2
    go_ret
    exact ⟨rfl, HW2.out.hb⟩
  have HSM : Hid (V.us.length ≤ 60) := Lib.hid (by have := HLU.out; omega)
  have hu63 : (lu : Int) ≤ 60 := by omega
  have t1 : decide ((60 : Int) < (lu : Int)) = false := by simp; omega
  go_upto_region 5 with fail
  clear t1 hbig
  obtain ⟨f, hf⟩ : ∃ f, f = fitP N V := ⟨_, rfl⟩
  have HF := Lib.hid hf
  have HFN : Hid (∀ w', Below w.heap.size w w' → Calls Tryz.prog 7 #[neV N (.slice pn ln cn), vwV V (.slice pa la ca) (.slice pu lu cu)] w' fun r w2 => r = .returned (.tuple #[.int .i64 f.1, .string (bs f.2.1), .int .i64 f.2.2]) ∧ Below w'.heap.size w' w2) := Lib.hid (fun w' hb => by rw [hf]; exact HFI.out N V _ _ _ w' hb (HND.out w' hb) HOK.out (HVD.out w' hb) (HVK.out HSM.out))
  clear hf c7
  obtain ⟨k0, p0, e0⟩ := f
  simp only at HFN
  have n0 := HW2.out.bn.cell (j := 0) (by rw [HD.out]; rfl)
  have n1 := HW2.out.bn.cell (j := 1) (by rw [HD.out]; rfl)
  have n2 := HW2.out.bn.cell (j := 2) (by rw [HD.out]; rfl)
  have n3 := HW2.out.bn.cell (j := 3) (by rw [HD.out]; rfl)
  have n4 := HW2.out.bn.cell (j := 4) (by rw [HD.out]; rfl)
  have n5 := HW2.out.bn.cell (j := 5) (by rw [HD.out]; rfl)
  have n6 := HW2.out.bn.cell (j := 6) (by rw [HD.out]; rfl)
  have n7 := HW2.out.bn.cell (j := 7) (by rw [HD.out]; rfl)
  have c0 := HW2.out.bv.cell (j := 0) (by rw [HC.out]; rfl)
  have c1 := HW2.out.bv.cell (j := 1) (by rw [HC.out]; rfl)
  have c2 := HW2.out.bv.cell (j := 2) (by rw [HC.out]; rfl)
  have c3 := HW2.out.bv.cell (j := 3) (by rw [HC.out]; rfl)
  have c4 := HW2.out.bv.cell (j := 4) (by rw [HC.out]; rfl)
  have c5 := HW2.out.bv.cell (j := 5) (by rw [HC.out]; rfl)
  have c6 := HW2.out.bv.cell (j := 6) (by rw [HC.out]; rfl)
  have c7 := HW2.out.bv.cell (j := 7) (by rw [HC.out]; rfl)
  go_upto_region 6 with (go_at_call 7; refine (HFN.out _ HW2.out.hb).mono ?_; rintro r w3 ⟨rfl, hb⟩; have HW3 := Lib.hid (HW2.out.kept hb); clear hb)
  clear n0 n1 n2 n3 n4 n5 n6 n7 c0 c1 c2 c3 c4 c5 c6 c7 HFN HW1 HW2
  by_cases he : e0 = 0
  rotate_left
  · have h1 := fit_err (N := N) (V := V) (by rw [← HF.out]; exact he)
    rw [← HF.out] at h1
    obtain ⟨h2, h3⟩ := h1
    simp only at h2 h3
    subst h2 h3
    clear he
    go_wp2
    go_ret
    exact ⟨rfl, HW3.out.hb⟩
  subst he
  have HCK : Hid (checkN N = true) := Lib.hid (fit_of HF.out.symm).1
  have HVV := Lib.hid (HVK.out HSM.out)
  have HCV : Hid (V.at'.length ≤ 16) := Lib.hid (view_len (fit_of HF.out.symm).2)
  have c7 := HW3.out.bv.cell (j := 7) (by rw [HC.out]; rfl)
  go_upto_if 49 with fail
  go_cut [] (fun wx => Hid (LsW w wx X D C more less))
  case first =>
    by_cases hl0 : 0 < lu
    rotate_left
    · have t1 : decide ((0 : Int) < (lu : Int)) = false := by simp; omega
      go_wp2
      go_meet
      exact HW3
    have t1 : decide ((0 : Int) < (lu : Int)) = true := by simp; omega
    obtain ⟨k, hk⟩ : ∃ k : Nat, (k : Int) = which % (lu : Int) := ⟨(which % (lu : Int)).toNat, by have := Int.emod_nonneg which (show (lu : Int) ≠ 0 by omega); omega⟩
    have hkl : k < lu := by have := Int.emod_lt_of_pos which (show (0 : Int) < (lu : Int) by omega); omega
    have HPK : Hid (∀ w', Calls Tryz.prog 8 #[.int .i64 which, .int .i64 (lu : Int)] w' fun r w2 => r = .returned (.int .i64 (k : Int)) ∧ w' = w2) := Lib.hid (fun w' => by rw [hk]; exact pickn_any which lu w' (by omega) (by omega))
    clear hk
    have HK : Hid (k < V.us.length) := Lib.hid (by have := HLU.out; omega)
    go_upto_region 10 with (go_at_call 8; refine (HPK.out _).mono ?_; rintro r w4 ⟨rfl, hw4⟩; subst hw4)
    clear t1 c7 HPK
    have c0 := HW3.out.bv.cell (j := 0) (by rw [HC.out]; rfl)
    have c1 := HW3.out.bv.cell (j := 1) (by rw [HC.out]; rfl)
    have c2 := HW3.out.bv.cell (j := 2) (by rw [HC.out]; rfl)
    have c3 := HW3.out.bv.cell (j := 3) (by rw [HC.out]; rfl)
    have c4 := HW3.out.bv.cell (j := 4) (by rw [HC.out]; rfl)
    have c5 := HW3.out.bv.cell (j := 5) (by rw [HC.out]; rfl)
    have c6 := HW3.out.bv.cell (j := 6) (by rw [HC.out]; rfl)
    have c7 := HW3.out.bv.cell (j := 7) (by rw [HC.out]; rfl)
    go_upto_region 11 with (go_at_call 9; refine (HLV.out HCV.out HSM.out _ HW3.out.hb).mono ?_; rintro r w4 ⟨qa, ka, q, kq, rfl, hv4, hb⟩; have HV4 := Lib.hid hv4; have HW4 := Lib.hid (HW3.out.kept hb); clear hv4 hb)
    clear c0 c1 c2 c3 c4 c5 c6 c7 HW3
    obtain ⟨Z, hZ⟩ : ∃ Z, Z = w4.heap.size := ⟨_, rfl⟩
    refine at_hide (F := fun w' => Blk w' Z (vwC V (.slice qa la ka) (.slice q lu kq)) 32 ∧ Below w4.heap.size w4 w' ∧ Vws w' V (.slice qa la ka) (.slice q lu kq)) ⟨by rw [hZ]; exact Blk.made w4 (vwC V (.slice qa la ka) (.slice q lu kq)) _, below_alloc _ _, HV4.out.below (below_alloc _ _)⟩ ?_
    have HZW : Hid (w4.heap.size ≤ Z) := Lib.hid (by omega)
    rw [← hZ]
    intro w5 hF
    have HZ5 := Lib.hid hF.1
    have HB5 : Hid (Below w4.heap.size w4 w5) := Lib.hid (by rw [← hZ]; exact hF.2.1)
    have HV5 := Lib.hid hF.2.2
    clear hF hZ
    have HR5 : Hid (Usw w5 (.slice q V.us.length kq) V.us) := Lib.hid (by rw [← HLU.out]; exact HV5.out.us)
    have HKQ : Hid (V.us.length ≤ kq ∧ kq ≤ maxLen) := Lib.hid (by obtain ⟨p1, c1, h1, h2, h3, -⟩ := HR5.out; cases h1; exact ⟨h2, h3⟩)
    have HSS : Hid (∀ w', Below w5.heap.size w5 w' → w'.cell? ⟨Z, 7, none⟩ = some (.slice q V.us.length kq)) := Lib.hid (fun w' hb => (HZ5.out.kept hb).cell (j := 7) (by rw [← HLU.out]; rfl))
    have HL := HSM
    have b1 : (0 : Int) ≤ (k : Int) := by omega
    have b2 : (k : Int) ≤ (V.us.length : Int) := by have := HK.out; omega
    have b3 : (k : Int) ≤ (kq : Int) := by have := HKQ.out; omega
    have b4 : (0 : Int) ≤ (k : Int) + 1 := by omega
    have b5 : (k : Int) + 1 ≤ (V.us.length : Int) := by have := HK.out; omega
    have b6 : (V.us.length : Int) ≤ (kq : Int) := by have := HKQ.out; omega
    have u1 : IntKind.i64.wrap ((k : Int) + 1) = (k : Int) + 1 := IntWalk.i64_in _ (by omega)
    have u2 : ((k : Int) + 1).toNat = k + 1 := by omega
    refine wp_region_noPanic ?_
    refine wp_region_lastH (fun w' => w'.cell? ⟨Z, 7, none⟩ = some (.slice q V.us.length kq)) 13 rfl rfl (by kernel_rfl) (by kernel_rfl) (HSS.out _ (below_drewN 1)) (fun hHeld => ?_)
    have HB1 : Hid (Below w5.heap.size w5 w5.drew) := Lib.hid (below_drewN 1)
    have hS1 : True := trivial
    obtain ⟨wd1, hwd⟩ : ∃ xq, xq = w5.drew := ⟨_, rfl⟩
    rw [← hwd] at hHeld HB1 ⊢
    clear hwd
    refine wpAnyH_take (i := 1) (v := ?v1) rfl (by kernel_rfl) (by kernel_rfl) (by kernel_rfl) (fun _ _ _ h => h) (Or.inl ⟨by rfl, ?hy1⟩) (by assumption) ?rest1
    case hy1 => (intro _ hSw; (try dsimp only at hSw); go_simp; (try with_reducible rfl))
    (try simp only [Act.put]); (try simp only [List.setIfInBounds_toArray]); (try simp only [List.set_cons_succ]); (try simp only [List.set_cons_zero])
    refine wpAnyH_take (i := 2) (v := ?v2) rfl (by kernel_rfl) (by kernel_rfl) (by kernel_rfl) (fun _ _ _ h => h) (Or.inl ⟨by rfl, ?hy2⟩) (by assumption) ?rest2
    case hy2 => (intro _ hSw; (try dsimp only at hSw); go_simp; (try with_reducible rfl))
    (try simp only [Act.put]); (try simp only [List.setIfInBounds_toArray]); (try simp only [List.set_cons_succ]); (try simp only [List.set_cons_zero])
    refine wpAnyH_take (i := 3) (v := ?v3) rfl (by kernel_rfl) (by kernel_rfl) (by kernel_rfl) (fun _ _ _ h => h) (Or.inl ⟨by rfl, ?hy3⟩) (by assumption) ?rest3
    case hy3 => (intro _ hSw; (try dsimp only at hSw); go_simp; (try with_reducible rfl))
    (try simp only [Act.put]); (try simp only [List.setIfInBounds_toArray]); (try simp only [List.set_cons_succ]); (try simp only [List.set_cons_zero])
    refine wpAnyH_take (i := 4) (v := ?v4) rfl (by kernel_rfl) (by kernel_rfl) (by kernel_rfl) (fun _ _ _ h => h) (Or.inl ⟨by rfl, ?hy4⟩) (by assumption) ?rest4
    case hy4 => (intro _ hSw; (try dsimp only at hSw); go_simp; (try with_reducible rfl))
    (try simp only [Act.put]); (try simp only [List.setIfInBounds_toArray]); (try simp only [List.set_cons_succ]); (try simp only [List.set_cons_zero])
    refine wpAnyH_take (i := 6) (v := ?v5) rfl (by kernel_rfl) (by kernel_rfl) (by kernel_rfl) (fun _ _ _ h => h) (Or.inl ⟨by rfl, ?hy5⟩) (by assumption) ?rest5
    case hy5 => (intro _ hSw; (try dsimp only at hSw); go_simp; (try with_reducible rfl))
    (try simp only [Act.put]); (try simp only [List.setIfInBounds_toArray]); (try simp only [List.set_cons_succ]); (try simp only [List.set_cons_zero])
    refine wpAnyH_take (i := 7) (v := ?v6) rfl (by kernel_rfl) (by kernel_rfl) (by kernel_rfl) (fun _ _ _ h => h) (Or.inl ⟨by rfl, ?hy6⟩) (by assumption) ?rest6
    case hy6 => (intro _ hSw; (try dsimp only at hSw); go_simp; (try with_reducible rfl))
    (try simp only [Act.put]); (try simp only [List.setIfInBounds_toArray]); (try simp only [List.set_cons_succ]); (try simp only [List.set_cons_zero])
    refine wpAnyH_take (i := 8) (v := ?v7) rfl (by kernel_rfl) (by kernel_rfl) (by kernel_rfl) (fun _ _ _ h => h) (Or.inl ⟨by rfl, ?hy7⟩) (by assumption) ?rest7
    case hy7 => (intro _ hSw; (try dsimp only at hSw); go_simp; (try with_reducible rfl))
    (try simp only [Act.put]); (try simp only [List.setIfInBounds_toArray]); (try simp only [List.set_cons_succ]); (try simp only [List.set_cons_zero])
    refine wpAnyH_take (i := 9) (v := ?v8) rfl (by kernel_rfl) (by kernel_rfl) (by kernel_rfl) (fun _ _ _ h => h) (Or.inl ⟨by rfl, ?hy8⟩) (by assumption) ?rest8
    case hy8 => (intro _ hSw; (try dsimp only at hSw); go_simp; (try with_reducible rfl))
    (try simp only [Act.put]); (try simp only [List.setIfInBounds_toArray]); (try simp only [List.set_cons_succ]); (try simp only [List.set_cons_zero])
    refine wpAnyH_take (i := 10) (v := ?v9) rfl (by kernel_rfl) (by kernel_rfl) (by kernel_rfl) (fun _ _ _ h => h) (Or.inl ⟨by rfl, ?hy9⟩) (by assumption) ?rest9
    case hy9 => (intro _ hSw; (try dsimp only at hSw); go_simp; (try with_reducible rfl))
    (try simp only [Act.put]); (try simp only [List.setIfInBounds_toArray]); (try simp only [List.set_cons_succ]); (try simp only [List.set_cons_zero])
    (try simp only [List.getElem_toArray]); (try simp only [List.getElem_cons_succ]); (try simp only [List.getElem_cons_zero]); (try simp only [List.setIfInBounds_toArray]); (try simp only [List.set_cons_succ, List.set_cons_zero])
    refine wpAnyH_ready (rs := [0]) (by kernel_rfl) (by simp) ?_
    refine (AllReadyH.cons rfl (fun K hK => ?_) AllReadyH.nil)
    (try simp only [List.getElem_toArray]); (try simp only [List.getElem_cons_succ]); (try simp only [List.getElem_cons_zero])
    go_simp
    obtain ⟨w2x, hw2⟩ : ∃ xq, xq = wd1.alloc (.cells #[] 42) := ⟨_, rfl⟩
    obtain ⟨z2, hz2⟩ : ∃ xq, xq = wd1.heap.size := ⟨_, rfl⟩
    have hn2 : Below wd1.heap.size wd1 w2x := by rw [hw2]; exact below_alloc _ _
    have hb2 : Below w5.heap.size w5 w2x := below_and HB1.out hn2
    have HB2 := Lib.hid hb2
    have HO2 : Hid (w2x.ownsRow w5.heap.size 42 9 (.slice (some ⟨z2, 0, none⟩) 0 0) 0 []) := Lib.hid (by rw [hw2, hz2]; exact World.ownsRow_made wd1 #[] 0 HB1.out.size (by decide) rfl)
    rw [← hw2, ← hz2]
    refine hK.out _ _ (HSS.out _ hb2) (fun hS2 => ?_)
    clear hK K hb2 hw2 hz2 hn2 hS1
    (try simp only [Act.put]); (try simp only [List.setIfInBounds_toArray]); (try simp only [List.set_cons_succ]); (try simp only [List.set_cons_zero])
    refine wpAnyH_ready (rs := [5]) (by kernel_rfl) (by simp) ?_
    refine (AllReadyH.cons rfl (fun K hK => ?_) AllReadyH.nil)
    refine step_app rfl (.tmp 57) (.tmp 61) 30 30 rfl w5.heap.size 42 ix (.agg #[.string ⟨#[]⟩, .int .i64 0, .int .i64 0, .int .i64 0, .int .i64 0, .int .i64 0, .int .i64 0, .string ⟨#[]⟩, .bool false]) 9 88 Tryz.underlying30 hi hz0 hz1 hz2 rfl (.slice (some ⟨z2, 0, none⟩) 0 0) 0 [] (by rfl) HO2.out (.slice q k kq) k (rwC usC (V.us.take k)) (by rfl) (us_first HR5.out HB2.out (by have := HK.out; omega)) (by have := HL.out; have := HK.out; unfold maxLen; omega) (by have := HL.out; have := HK.out; omega) HB2.out.size ?_
    intro v3 w3x ho3 hg3 hn3 hk3
    have HO3 : Hid (w3x.ownsRow w5.heap.size 42 9 v3 k (rwC usC (V.us.take k))) := Lib.hid (by simpa using ho3)
    have hb3 : Below w5.heap.size w5 w3x := HB2.out.trans ((Fr.of_grown hg3).below (by intro y hy; exact own_lo HO2.out (Option.mem_toList.1 hy)) HB2.out.size)
    have HB3 := Lib.hid hb3
    refine hK.out _ _ (HSS.out _ hb3) (fun hS3 => ?_)
    clear hK K hb3 ho3 hg3 hn3 hk3 hS2
    (try simp only [Act.put]); (try simp only [List.setIfInBounds_toArray]); (try simp only [List.set_cons_succ]); (try simp only [List.set_cons_zero])
    refine wpAnyH_ready (rs := [11]) (by kernel_rfl) (by simp) ?_
    refine (AllReadyH.cons rfl (fun K hK => ?_) AllReadyH.nil)
    refine step_app rfl (.tmp 62) (.tmp 67) 30 30 rfl w5.heap.size 42 ix (.agg #[.string ⟨#[]⟩, .int .i64 0, .int .i64 0, .int .i64 0, .int .i64 0, .int .i64 0, .int .i64 0, .string ⟨#[]⟩, .bool false]) 9 88 Tryz.underlying30 hi hz0 hz1 hz2 rfl v3 k (rwC usC (V.us.take k)) (by rfl) HO3.out (.slice (if kq = k + 1 then q else Option.map (fun x => x.add ((k + 1) * 9)) q) (V.us.length - (k + 1)) (kq - (k + 1))) (V.us.length - (k + 1)) (rwC usC (V.us.drop (k + 1))) (by rfl) (us_rest HR5.out HB3.out HK.out) (by have := HL.out; have := HK.out; unfold maxLen; omega) (by have := HL.out; have := HK.out; omega) HB3.out.size ?_
    intro v4 w4x ho4 hg4 hn4 hk4
    have HO4 : Hid (w4x.ownsRow w5.heap.size 42 9 v4 (k + (V.us.length - (k + 1))) (rwC usC (V.us.take k) ++ rwC usC (V.us.drop (k + 1)))) := Lib.hid (by exact ho4)
    have hb4 : Below w5.heap.size w5 w4x := HB3.out.trans ((Fr.of_grown hg4).below (by intro y hy; exact own_lo HO3.out (Option.mem_toList.1 hy)) HB3.out.size)
    have HB4 := Lib.hid hb4
    refine hK.out _ _ (HSS.out _ hb4) (fun hS4 => ?_)
    clear hK K hb4 ho4 hg4 hn4 hk4 hS3
    (try simp only [Act.put]); (try simp only [List.setIfInBounds_toArray]); (try simp only [List.set_cons_succ]); (try simp only [List.set_cons_zero])
    refine wpAnyH_take (i := 12) (v := ?v10) rfl (by kernel_rfl) (by kernel_rfl) (by kernel_rfl) (fun _ _ _ h => h) (Or.inl ⟨by rfl, ?hy10⟩) (by assumption) ?rest10
    case hy10 => (intro _ hSw; (try dsimp only at hSw); go_simp; (try with_reducible rfl))
    (try simp only [Act.put]); (try simp only [List.setIfInBounds_toArray]); (try simp only [List.set_cons_succ]); (try simp only [List.set_cons_zero])
    refine wpAnyH_done (by kernel_rfl) ?_ _
    refine LastQ.start rfl ?_
    clear hS4 hHeld
    have d7 := HSS.out _ HB4.out
    have f7 := (HZ5.out.kept HB4.out).free 7
    obtain ⟨p8, c8, hv8, -, -⟩ := own_slice HO4.out
    have HO8 := HO4
    subst hv8
    generalize (if kq = k + 1 then q else Option.map (fun x => x.add ((k + 1) * 9)) q) = pp
    go_wp2
    refine NoPanic.normal ?_
    obtain ⟨U, hU⟩ : ∃ U : Vw, U = { V with us := V.us.eraseIdx k } := ⟨_, rfl⟩
    obtain ⟨m, hm⟩ : ∃ m, m = k + (V.us.length - (k + 1)) := ⟨_, rfl⟩
    have hle : (V.us.eraseIdx k).length = m := by rw [List.length_eraseIdx_of_lt HK.out, hm]; have := HK.out; omega
    have ho8 := HO8.out
    rw [rwC_erase, ← hm, ← hle] at ho8
    have hu8 : Usw (w4x.setCell ⟨Z, 7, none⟩ (.slice p8 m c8)) (.slice p8 m c8) (V.us.eraseIdx k) := usw_own (ownsRow_setCell_below (by rw [← hle]; exact ho8) (a := ⟨Z, 7, none⟩) HZ5.out.lt _)
    have hbz : Below w4.heap.size w4 (w4x.setCell ⟨Z, 7, none⟩ (.slice p8 m c8)) := (below_and HB5.out HB4.out).setCell (by have := HZW.out; simpa using this) _
    have hz8 : Blk (w4x.setCell ⟨Z, 7, none⟩ (.slice p8 m c8)) Z [.string (bs V.nm), .slice qa la ka, .int .i64 V.cap.c, .int .i64 V.cap.r, .int .i64 V.cap.d, .int .i64 V.cap.p, .bool V.up, .slice p8 m c8] 32 := ((HZ5.out.kept HB4.out).set 7 (.slice p8 m c8))
    rw [← hm]
    refine at_hide (F := fun w' => Blk w' Z [.string (bs V.nm), .slice qa la ka, .int .i64 V.cap.c, .int .i64 V.cap.r, .int .i64 V.cap.d, .int .i64 V.cap.p, .bool V.up, .slice p8 m c8] 32 ∧ Below w4.heap.size w4 w' ∧ Usw w' (.slice p8 m c8) (V.us.eraseIdx k)) ⟨hz8, hbz, hu8⟩ ?_
    clear hz8 hbz hu8 ho8 hle hm d7 f7
    intro wa hF
    have HZa := Lib.hid hF.1
    have HVa : Hid (Vws wa U (.slice qa la ka) (.slice p8 m c8)) := Lib.hid (by rw [hU]; exact ⟨(HV4.out.below hF.2.1).at', hF.2.2⟩)
    have HWa := Lib.hid (HW4.out.kept hF.2.1)
    have HFE : Hid (∀ a b w', Below w.heap.size w w' → Vws w' U a b → Calls Tryz.prog 7 #[neV N (.slice pn ln cn), .agg #[.string (bs V.nm), a, .int .i64 V.cap.c, .int .i64 V.cap.r, .int .i64 V.cap.d, .int .i64 V.cap.p, .bool V.up, b]] w' fun r w2 => r = .returned (.tuple #[.int .i64 (fitP N U).1, .string (bs (fitP N U).2.1), .int .i64 (fitP N U).2.2]) ∧ Below w'.heap.size w' w2) := Lib.hid (fun a b w' hb hv => by
      have := HFI.out N U _ a b w' hb (HND.out w' hb) HOK.out hv (by rw [hU]; exact ⟨Nat.le_trans (List.length_eraseIdx_le ..) HVV.out.n, fun u hu => HVV.out.us u (List.eraseIdx_subset hu), HVV.out.nm, HVV.out.at'⟩)
      rw [hU] at this ⊢
      exact this)
    obtain ⟨ue, hue⟩ : ∃ ue, ue = (V.us[k]'HK.out).e := ⟨_, rfl⟩
    have HUE := Lib.hid hue
    obtain ⟨g, hg⟩ : ∃ g, g = fitP N U := ⟨_, rfl⟩
    have HGN : Hid (ue = false → ∃ x q, g = (x, q, 0) ∧ k0 ≤ x) := Lib.hid (fun h => by rw [hg, hU]; exact fit_gone HF.out.symm HK.out (by rw [← hue]; exact h))
    rw [← hg] at HFE
    obtain ⟨g1, g2, g3⟩ := g
    simp only at HFE
    clear hF hU hue hg HW4 HV4 HV5 HR5 HSS HB5 HO8 b1 b2 b3 b4 b5 b6 u1 u2 HKQ
    have z0 := HZa.out.cell (j := 0) (rfl); have z1 := HZa.out.cell (j := 1) (rfl); have z2 := HZa.out.cell (j := 2) (rfl); have z3 := HZa.out.cell (j := 3) (rfl); have z4 := HZa.out.cell (j := 4) (rfl); have z5 := HZa.out.cell (j := 5) (rfl); have z6 := HZa.out.cell (j := 6) (rfl); have z7 := HZa.out.cell (j := 7) (rfl)
    have n0 := HWa.out.bn.cell (j := 0) (by rw [HD.out]; rfl); have n1 := HWa.out.bn.cell (j := 1) (by rw [HD.out]; rfl); have n2 := HWa.out.bn.cell (j := 2) (by rw [HD.out]; rfl); have n3 := HWa.out.bn.cell (j := 3) (by rw [HD.out]; rfl); have n4 := HWa.out.bn.cell (j := 4) (by rw [HD.out]; rfl); have n5 := HWa.out.bn.cell (j := 5) (by rw [HD.out]; rfl); have n6 := HWa.out.bn.cell (j := 6) (by rw [HD.out]; rfl); have n7 := HWa.out.bn.cell (j := 7) (by rw [HD.out]; rfl)
    go_upto_region 13 with (go_at_call 7; refine (HFE.out _ _ _ HWa.out.hb HVa.out).mono ?_; rintro r wb ⟨rfl, hb⟩; have HWb := Lib.hid (HWa.out.kept hb); clear hb)
    clear z0 z1 z2 z3 z4 z5 z6 z7 n0 n1 n2 n3 n4 n5 n6 n7 HFE HZa HWa HVa
    have c7 := HWb.out.bv.cell (j := 7) (by rw [HC.out]; rfl)
    obtain ⟨bq, oq, hpu, hce⟩ := (HVD.out wb HWb.out.hb).us.at HK.out
    have c8 := hce 8 (.bool ue) (by rw [HUE.out]; rfl)
    subst hpu
    clear hce HUE
    cases ue with
    | true =>
      clear HGN
      go_wp2
      go_meet
      exact HWb
    | false =>
      obtain ⟨x, q9, h1, h2⟩ := HGN.out rfl
      have e1 : g1 = x := congrArg Prod.fst h1
      have e3 : g3 = 0 := congrArg (fun z => z.2.2) h1
      have t3 : decide (g1 < k0) = false := by simp; omega
      clear h1 h2 e1 HGN
      subst e3
      go_wp2
      go_meet
      exact HWb
  case rest =>
  have HW := hcut
  obtain ⟨wq, hwq⟩ : ∃ wq, wq = wc := ⟨_, rfl⟩
  rw [← hwq] at HW ⊢
  clear hwq hcut HW3 c7 hi hz0 hz1 hz2
  obtain ⟨d, hd⟩ : ∃ d, d = addR V.cap more := ⟨_, rfl⟩
  have HAD : Hid (∀ w', Calls Tryz.prog 10 #[amV V.cap, amV more] w' fun r w2 => r = .returned (.tuple #[amV d.1, .int .i64 d.2]) ∧ Below w'.heap.size w' w2) := Lib.hid (fun w' => by rw [hd]; exact add_any V.cap more w')
  have HD2 := Lib.hid hd
  clear hd
  obtain ⟨d1, d2⟩ := d
  simp only at HAD
  have c2 := HW.out.bv.cell (j := 2) (by rw [HC.out]; rfl)
  have c3 := HW.out.bv.cell (j := 3) (by rw [HC.out]; rfl)
  have c4 := HW.out.bv.cell (j := 4) (by rw [HC.out]; rfl)
  have c5 := HW.out.bv.cell (j := 5) (by rw [HC.out]; rfl)
  have m0 := HW.out.bm.cell (j := 0) (rfl)
  have m1 := HW.out.bm.cell (j := 1) (rfl)
  have m2 := HW.out.bm.cell (j := 2) (rfl)
  have m3 := HW.out.bm.cell (j := 3) (rfl)
  go_upto_region 16 with (go_at_call 10; refine (HAD.out _).mono ?_; rintro r w6 ⟨rfl, hb⟩; have HW6 := Lib.hid (HW.out.kept hb); clear hb)
  clear c2 c3 c4 c5 m0 m1 m2 m3 HAD HW
  obtain ⟨Y, hY⟩ : ∃ Y, Y = w6.heap.size := ⟨_, rfl⟩
  refine at_hide (F := fun w' => Blk w' Y (amC d1) 23 ∧ LsW w w' X D C more less) ⟨by rw [hY]; exact Blk.made w6 (amC d1) _, HW6.out.kept (below_alloc _ _)⟩ ?_
  rw [← hY]
  intro w7 hF
  have HY7 := Lib.hid hF.1
  have HW7 := Lib.hid hF.2
  clear hF hY HW6
  go_upto_if 101 with fail
  go_cut [] (fun wx => Hid (LsW w wx X D C more less))
  case first =>
    by_cases h0 : d2 = 0
    rotate_left
    · have t1 : (d2 == 0) = false := by simpa using h0
      clear h0
      go_wp2
      go_meet
      exact HW7
    subst h0
    obtain ⟨x, p, h1, h2⟩ := fit_more HF.out.symm HD2.out.symm
    have HFM : Hid (∀ a b w', Below w.heap.size w w' → Vws w' V a b → Calls Tryz.prog 7 #[neV N (.slice pn ln cn), .agg #[.string (bs V.nm), a, .int .i64 d1.c, .int .i64 d1.r, .int .i64 d1.d, .int .i64 d1.p, .bool V.up, b]] w' fun r w2 => r = .returned (.tuple #[.int .i64 x, .string (bs p), .int .i64 0]) ∧ Below w'.heap.size w' w2) := Lib.hid (fun a b w' hb hv => by
      have := HFI.out N { V with cap := d1 } _ a b w' hb (HND.out w' hb) HOK.out ⟨hv.at', hv.us⟩ ⟨(HVK.out HSM.out).n, (HVK.out HSM.out).us, (HVK.out HSM.out).nm, (HVK.out HSM.out).at'⟩
      rw [h1] at this
      exact this)
    have t3 : decide (x < k0) = false := by simp; omega
    clear h1 h2
    have c0 := HW7.out.bv.cell (j := 0) (by rw [HC.out]; rfl)
    have c1 := HW7.out.bv.cell (j := 1) (by rw [HC.out]; rfl)
    have c2 := HW7.out.bv.cell (j := 2) (by rw [HC.out]; rfl)
    have c3 := HW7.out.bv.cell (j := 3) (by rw [HC.out]; rfl)
    have c4 := HW7.out.bv.cell (j := 4) (by rw [HC.out]; rfl)
    have c5 := HW7.out.bv.cell (j := 5) (by rw [HC.out]; rfl)
    have c6 := HW7.out.bv.cell (j := 6) (by rw [HC.out]; rfl)
    have c7 := HW7.out.bv.cell (j := 7) (by rw [HC.out]; rfl)
    go_upto_region 18 with (go_at_call 9; refine (HLV.out HCV.out HSM.out _ HW7.out.hb).mono ?_; rintro r w8 ⟨qa, ka, q, kq, rfl, hv4, hb⟩; have HV8 := Lib.hid hv4; have HW8 := Lib.hid (HW7.out.kept hb); have HY8 := Lib.hid (HY7.out.kept hb); clear hv4 hb)
    clear c0 c1 c2 c3 c4 c5 c6 c7 HW7 HY7
    obtain ⟨Z, hZ⟩ : ∃ Z, Z = w8.heap.size := ⟨_, rfl⟩
    refine at_hide (F := fun w' => Blk w' Z (vwC V (.slice qa la ka) (.slice q lu kq)) 32 ∧ Below w8.heap.size w8 w') ⟨by rw [hZ]; exact Blk.made w8 (vwC V (.slice qa la ka) (.slice q lu kq)) _, below_alloc _ _⟩ ?_
    rw [← hZ]
    intro w9 hF
    have HZ9 := Lib.hid hF.1
    have HB9 : Hid (Below w8.heap.size w8 w9) := Lib.hid (by rw [← hZ]; exact hF.2)
    have HZW : Hid (w8.heap.size ≤ Z) := Lib.hid (by omega)
    clear hF hZ
    have z2 := HZ9.out.cell (j := 2) (rfl)
    have z3 := HZ9.out.cell (j := 3) (rfl)
    have z4 := HZ9.out.cell (j := 4) (rfl)
    have z5 := HZ9.out.cell (j := 5) (rfl)
    have f2 := HZ9.out.free 2
    have f3 := HZ9.out.free 3
    have f4 := HZ9.out.free 4
    have f5 := HZ9.out.free 5
    have y0 := (HY8.out.kept HB9.out).cell (j := 0) rfl
    have y1 := (HY8.out.kept HB9.out).cell (j := 1) rfl
    have y2 := (HY8.out.kept HB9.out).cell (j := 2) rfl
    have y3 := (HY8.out.kept HB9.out).cell (j := 3) rfl
    go_upto_region 19 with fail
    refine at_hide (F := fun w' => Blk w' Z [.string (bs V.nm), .slice qa la ka, .int .i64 d1.c, .int .i64 d1.r, .int .i64 d1.d, .int .i64 d1.p, .bool V.up, .slice q lu kq] 32 ∧ Below w8.heap.size w8 w') ⟨(((HZ9.out.set 2 (.int .i64 d1.c)).set 3 (.int .i64 d1.r)).set 4 (.int .i64 d1.d)).set 5 (.int .i64 d1.p), (((HB9.out.setCell (by have := HZW.out; simpa using this) _).setCell (by have := HZW.out; simpa using this) _).setCell (by have := HZW.out; simpa using this) _).setCell (by have := HZW.out; simpa using this) _⟩ ?_
    intro wa hF
    have HZa := Lib.hid hF.1
    have HVa := Lib.hid (HV8.out.below hF.2)
    have HWa := Lib.hid (HW8.out.kept hF.2)
    clear hF z2 z3 z4 z5 f2 f3 f4 f5 y0 y1 y2 y3 HZ9 HB9 HW8 HV8 HY8
    have z0 := HZa.out.cell (j := 0) (rfl)
    have z1 := HZa.out.cell (j := 1) (rfl)
    have z2 := HZa.out.cell (j := 2) (rfl)
    have z3 := HZa.out.cell (j := 3) (rfl)
    have z4 := HZa.out.cell (j := 4) (rfl)
    have z5 := HZa.out.cell (j := 5) (rfl)
    have z6 := HZa.out.cell (j := 6) (rfl)
    have z7 := HZa.out.cell (j := 7) (rfl)
    have n0 := HWa.out.bn.cell (j := 0) (by rw [HD.out]; rfl)
    have n1 := HWa.out.bn.cell (j := 1) (by rw [HD.out]; rfl)
    have n2 := HWa.out.bn.cell (j := 2) (by rw [HD.out]; rfl)
    have n3 := HWa.out.bn.cell (j := 3) (by rw [HD.out]; rfl)
    have n4 := HWa.out.bn.cell (j := 4) (by rw [HD.out]; rfl)
    have n5 := HWa.out.bn.cell (j := 5) (by rw [HD.out]; rfl)
    have n6 := HWa.out.bn.cell (j := 6) (by rw [HD.out]; rfl)
    have n7 := HWa.out.bn.cell (j := 7) (by rw [HD.out]; rfl)
    go_wp2_with (go_at_call 7; refine (HFM.out _ _ _ HWa.out.hb HVa.out).mono ?_; rintro r wb ⟨rfl, hb⟩; have HWb := Lib.hid (HWa.out.kept hb); clear hb)
    go_meet
    exact HWb
  case rest =>
  have HW := hcut
  obtain ⟨wq2, hwq⟩ : ∃ wq, wq = wc := ⟨_, rfl⟩
  rw [← hwq] at HW ⊢
  clear hwq hcut HW7 HY7 HD2 HLV HVK
  obtain ⟨z, hz, hle⟩ := take4 N.a less
  have HLS : Hid (∀ w', Calls Tryz.prog 12 #[amV N.a, amV less] w' fun r w2 => r = .returned (amV z) ∧ Below w'.heap.size w' w2) := Lib.hid (fun w' => least_any N.a less z w' hz)
  obtain ⟨M, hM⟩ : ∃ M : Ne, M = { N with a := z } := ⟨_, rfl⟩
  have HMM := Lib.hid hM
  have HCM : Hid (∀ v w', Below w.heap.size w w' → Nds w' N v → Calls Tryz.prog 13 #[.agg #[.string (bs N.j), .int .i64 N.d, .int .i64 z.c, .int .i64 z.r, .int .i64 z.d, .int .i64 z.p, v, .string (bs N.n)]] w' fun r w2 => r = .returned (.int .i64 (needR M)) ∧ Below w'.heap.size w' w2) := Lib.hid (fun v w' hb hm => by
    rw [hM]
    exact HCN.out { N with a := z } v w' hb hm ⟨HOK.out.L⟩)
  have HLE := Lib.hid hle
  have HLE2 := Lib.hid (HLN.out (need_len HCK.out))
  clear hz hle hM
  have n0 := HW.out.bn.cell (j := 0) (by rw [HD.out]; rfl)
  have n1 := HW.out.bn.cell (j := 1) (by rw [HD.out]; rfl)
  have n2 := HW.out.bn.cell (j := 2) (by rw [HD.out]; rfl)
  have n3 := HW.out.bn.cell (j := 3) (by rw [HD.out]; rfl)
  have n4 := HW.out.bn.cell (j := 4) (by rw [HD.out]; rfl)
  have n5 := HW.out.bn.cell (j := 5) (by rw [HD.out]; rfl)
  have n6 := HW.out.bn.cell (j := 6) (by rw [HD.out]; rfl)
  have n7 := HW.out.bn.cell (j := 7) (by rw [HD.out]; rfl)
  go_upto_region 23 with (go_at_call 11; refine (HLE2.out _ HW.out.hb).mono ?_; rintro r w8 ⟨q, kq, rfl, hm, hb⟩; have HN8 := Lib.hid hm; have HW8 := Lib.hid (HW.out.kept hb); clear hm hb)
  clear n0 n1 n2 n3 n4 n5 n6 n7
  obtain ⟨Z, hZ⟩ : ∃ Z, Z = w8.heap.size := ⟨_, rfl⟩
  refine at_hide (F := fun w' => Blk w' Z (neC N (.slice q ln kq)) 28 ∧ Below w8.heap.size w8 w') ⟨by rw [hZ]; exact Blk.made w8 (neC N (.slice q ln kq)) _, below_alloc _ _⟩ ?_
  rw [← hZ]
  intro w9 hF
  have HZ9 := Lib.hid hF.1
  have HB9 : Hid (Below w8.heap.size w8 w9) := Lib.hid (by rw [← hZ]; exact hF.2)
  have HZW : Hid (w8.heap.size ≤ Z) := Lib.hid (by omega)
  have HW9 := Lib.hid (HW8.out.kept HB9.out)
  clear hF hZ
  have n2 := HW9.out.bn.cell (j := 2) (by rw [HD.out]; rfl)
  have n3 := HW9.out.bn.cell (j := 3) (by rw [HD.out]; rfl)
  have n4 := HW9.out.bn.cell (j := 4) (by rw [HD.out]; rfl)
  have n5 := HW9.out.bn.cell (j := 5) (by rw [HD.out]; rfl)
  have l0 := HW9.out.bl.cell (j := 0) (rfl)
  have l1 := HW9.out.bl.cell (j := 1) (rfl)
  have l2 := HW9.out.bl.cell (j := 2) (rfl)
  have l3 := HW9.out.bl.cell (j := 3) (rfl)
  go_upto_region 24 with (go_at_call 12; refine (HLS.out _).mono ?_; rintro r wa ⟨rfl, hb⟩; have HBa : Hid (Below w8.heap.size w8 wa) := Lib.hid (below_and HB9.out hb); have HZa := Lib.hid (HZ9.out.kept hb); have z2 := HZa.out.cell (j := 2) (rfl); have z3 := HZa.out.cell (j := 3) (rfl); have z4 := HZa.out.cell (j := 4) (rfl); have z5 := HZa.out.cell (j := 5) (rfl); have f2 := HZa.out.free 2; have f3 := HZa.out.free 3; have f4 := HZa.out.free 4; have f5 := HZa.out.free 5; clear hb)
  refine at_hide (F := fun w' => Blk w' Z [.string (bs N.j), .int .i64 N.d, .int .i64 z.c, .int .i64 z.r, .int .i64 z.d, .int .i64 z.p, .slice q ln kq, .string (bs N.n)] 28 ∧ Below w8.heap.size w8 w') ⟨(((HZa.out.set 2 (.int .i64 z.c)).set 3 (.int .i64 z.r)).set 4 (.int .i64 z.d)).set 5 (.int .i64 z.p), (((HBa.out.setCell (by have := HZW.out; simpa using this) _).setCell (by have := HZW.out; simpa using this) _).setCell (by have := HZW.out; simpa using this) _).setCell (by have := HZW.out; simpa using this) _⟩ ?_
  intro wb hF
  have HZb := Lib.hid hF.1
  have HNb := Lib.hid (HN8.out.below hF.2)
  have HWb := Lib.hid (HW8.out.kept hF.2)
  clear hF z2 z3 z4 z5 f2 f3 f4 f5 n2 n3 n4 n5 l0 l1 l2 l3 HZ9 HB9 HW8 HN8 HW9 HBa HZa
  have z0 := HZb.out.cell (j := 0) (rfl)
  have z1 := HZb.out.cell (j := 1) (rfl)
  have z2 := HZb.out.cell (j := 2) (rfl)
  have z3 := HZb.out.cell (j := 3) (rfl)
  have z4 := HZb.out.cell (j := 4) (rfl)
  have z5 := HZb.out.cell (j := 5) (rfl)
  have z6 := HZb.out.cell (j := 6) (rfl)
  have z7 := HZb.out.cell (j := 7) (rfl)
  have HCB := Lib.hid (HCM.out _ _ HWb.out.hb HNb.out)
  obtain h0 | h0 := need_or M
  rotate_left
  · rw [h0] at HCB
    clear h0
    go_wp2_with (go_at_call 13; refine HCB.out.mono ?_; rintro r wc2 ⟨rfl, hb⟩; have HWc := Lib.hid (HWb.out.kept hb); clear hb)
    go_ret
    exact ⟨rfl, HWc.out.hb⟩
  have hck : checkN M = true := by
    unfold needR at h0
    by_cases h : checkN M = true
    · exact h
    · rw [if_neg h] at h0; cases h0
  rw [h0] at HCB
  obtain ⟨x, p, h1, h2⟩ := fit_less (N' := M) HF.out.symm hck (by rw [HMM.out]; exact Int.le_refl _) (by rw [HMM.out]) (by rw [HMM.out]) (fun k hk => by rw [HMM.out]; exact HLE.out k hk)
  have HFB : Hid (∀ v w', Below w.heap.size w w' → Nds w' N v → Calls Tryz.prog 7 #[.agg #[.string (bs N.j), .int .i64 N.d, .int .i64 z.c, .int .i64 z.r, .int .i64 z.d, .int .i64 z.p, v, .string (bs N.n)], vwV V (.slice pa la ca) (.slice pu lu cu)] w' fun r w2 => r = .returned (.tuple #[.int .i64 x, .string (bs p), .int .i64 0]) ∧ Below w'.heap.size w' w2) := Lib.hid (fun v w' hb hm => by
    have := HFI.out { N with a := z } V v _ _ w' hb hm ⟨HOK.out.L⟩ (HVD.out w' hb) HVV.out
    have hfe : fitP { N with a := z } V = (x, p, 0) := by rw [← h1, HMM.out]
    rw [hfe] at this
    exact this)
  have t3 : decide (k0 ≤ x) = true := by simpa using h2
  clear h0 hck h1 h2
  go_upto_region 26 with (go_at_call 13; refine HCB.out.mono ?_; rintro r wc2 ⟨rfl, hb⟩; have HWc := Lib.hid (HWb.out.kept hb); have HZc := Lib.hid (HZb.out.kept hb); have HNc := Lib.hid (HNb.out.below hb); clear hb)
  clear z0 z1 z2 z3 z4 z5 z6 z7 HZb HNb HWb HCB
  have z0 := HZc.out.cell (j := 0) (rfl)
  have z1 := HZc.out.cell (j := 1) (rfl)
  have z2 := HZc.out.cell (j := 2) (rfl)
  have z3 := HZc.out.cell (j := 3) (rfl)
  have z4 := HZc.out.cell (j := 4) (rfl)
  have z5 := HZc.out.cell (j := 5) (rfl)
  have z6 := HZc.out.cell (j := 6) (rfl)
  have z7 := HZc.out.cell (j := 7) (rfl)
  have c0 := HWc.out.bv.cell (j := 0) (by rw [HC.out]; rfl)
  have c1 := HWc.out.bv.cell (j := 1) (by rw [HC.out]; rfl)
  have c2 := HWc.out.bv.cell (j := 2) (by rw [HC.out]; rfl)
  have c3 := HWc.out.bv.cell (j := 3) (by rw [HC.out]; rfl)
  have c4 := HWc.out.bv.cell (j := 4) (by rw [HC.out]; rfl)
  have c5 := HWc.out.bv.cell (j := 5) (by rw [HC.out]; rfl)
  have c6 := HWc.out.bv.cell (j := 6) (by rw [HC.out]; rfl)
  have c7 := HWc.out.bv.cell (j := 7) (by rw [HC.out]; rfl)
  go_wp2_with (go_at_call 7; refine (HFB.out _ _ HWc.out.hb HNc.out).mono ?_; rintro r wd ⟨rfl, hb⟩; have HWd := Lib.hid (HWc.out.kept hb); clear hb)
  go_ret
  exact ⟨rfl, HWd.out.hb⟩
end Go.Proofs.YtaipldegobjboaaGreatDoor.Ft
