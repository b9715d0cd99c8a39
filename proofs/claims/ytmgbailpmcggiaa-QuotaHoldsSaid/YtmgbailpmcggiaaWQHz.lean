/- The walk of QuotaHolds. -/
import Derived.Test.YtmgbailpmcggiaaQHb
import Derived.Deep.DeepCutAuto
namespace Go.Proofs.Ytmgbailpmcggiaa
open Go.RowKit

set_option maxRecDepth 100000 in
set_option maxHeartbeats 20000000 in
theorem quotaHolds_go (v : Value) (l : List Ac) (w : World) (h : Acts w v l) :
    Calls Try.prog 4 #[v] w fun e w' => e = .returned (.bool true) ∧ Below w.heap.size w w' := by
  obtain ⟨p, c, rfl, hlc, hcm⟩ := h.shape
  have hml : maxLen ≤ 9223372036854775807 := by decide
  have H := Lib.hid h
  have HABV : Hid (∀ b o, p = some ⟨b, o, none⟩ → 0 < l.length → b < w.heap.size) := Lib.hid (fun b o hp hl => by
    obtain ⟨b', o', hp', hc⟩ := h.at hl
    rw [hp] at hp'
    cases hp'
    exact World.block_lt_of_cell? w _ (hc 0 _ (by omega) rfl))
  clear h
  by_cases hl : 200 < l.length
  · have i1 : (200 : Int) < (l.length : Int) := by omega
    go_enter Try.func4, Try.ntmps4
    go_wp2_with (go_at_call 6; refine (qlives _).mono ?_; rintro e w2 ⟨rfl, hb⟩; have HB2 := Lib.hid hb; clear hb)
    go_ret
    exact ⟨rfl, HB2.out⟩
  have HL : Hid (l.length ≤ 200) := Lib.hid (by omega)
  have i1 : ¬ (200 : Int) < (l.length : Int) := by omega
  clear hl
  go_enter Try.func4, Try.ntmps4
  go_upto_region 6 with (first
    | (go_at_call 6; refine (qlives _).mono ?_; rintro e w2 ⟨rfl, hb⟩; have HB2 := Lib.hid hb; clear hb)
    | (go_at_call 7; refine (bo_new _).mono ?_; rintro e w3 ⟨b, mg, mc, rfl, h3⟩; have H3 : Hid (Bo w w3 b mg mc 0 [] []) := Lib.hid (h3.base HB2.out); clear h3))
  go_wp2
  go_loopw [4] (fun i wr => ∃ (k : Nat) (G : List Gr) (C : List Ch), k ≤ l.length ∧ i = .int .i64 (k : Int) ∧ Hid (Bo w wr b mg mc k G C) ∧ Hid (HoldI G C)) (fun i _ => l.length - (intOf i).toNat)
  case atStart => exact ⟨0, [], [], Nat.zero_le _, rfl, H3, Lib.hid holdI_nil⟩
  case round =>
    obtain ⟨k, G, C, hk, rfl, HR, HI⟩ := hrel
    by_cases hlt : k < l.length
    · obtain ⟨ab, o, rfl, hcs⟩ := (H.out.below HR.out.hb).at hlt
      obtain ⟨x, hx⟩ : ∃ x, x = l[k] := ⟨_, rfl⟩
      have HXS : Hid x.ok := Lib.hid (H.out.2 x (by rw [hx]; exact List.getElem_mem hlt))
      rw [← hx] at hcs
      have HK1 : Hid (k ≤ 1000) := Lib.hid (by have := HL.out; omega)
      have e0 : wr.cell? ⟨ab, o + k * 8, none⟩ = some (.int .i64 x.k) := hcs 0 _ (by omega) rfl
      have e1 := hcs 1 _ (by omega) rfl
      have e2 := hcs 2 _ (by omega) rfl
      have e3 := hcs 3 _ (by omega) rfl
      have e4 := hcs 4 _ (by omega) rfl
      have e5 := hcs 5 _ (by omega) rfl
      have e6 := hcs 6 _ (by omega) rfl
      have e7 := hcs 7 _ (by omega) rfl
      have i2 : (k : Int) < (l.length : Int) := by omega
      have i0 : (0 : Int) ≤ (k : Int) := by omega
      clear hcs hx
      go_upto_region 10 with fail
      refine at_hide (F := fun w' => Blk w' wr.heap.size x.c 40 ∧ Below wr.heap.size wr w') ⟨Blk.made wr x.c _, below_alloc _ _⟩ ?_
      intro wa hF
      have HNA : Hid (wr.heap.size ∉ [mg, mc]) := Lib.hid (HR.out.maps (Nat.le_refl _))
      have HBA := Lib.hid hF.2
      have HRA := Lib.hid (HR.out.kept hF.2)
      have hF1 := hF.1
      clear hF
      obtain ⟨a0, ha0⟩ : ∃ a0, a0 = wr.heap.size := ⟨_, rfl⟩
      rw [← ha0] at hF1 HNA ⊢
      have XA := Lib.hid hF1
      clear hF1 ha0 e0 e1 e2 e3 e4 e5 e6 e7
      have hq0 := Int.emod_nonneg x.k (show (4 : Int) ≠ 0 by omega)
      obtain ⟨q, hq⟩ : ∃ q, q = x.k % 4 := ⟨_, rfl⟩
      have HPK : Hid (∀ w, Calls Try.prog 15 #[.int .i64 x.k, .int .i64 4] w fun e w' => e = .returned (.int .i64 q) ∧ w = w') := Lib.hid (fun w => by rw [hq]; exact pickn_any x.k 4 w (by omega) (by omega))
      have HQ := Lib.hid hq
      clear hq hq0
      have x0 := XA.out.cell (j := 0) rfl
      go_upto_if 37 with (go_at_call 15; refine (HPK.out _).mono ?_; rintro e w4 ⟨rfl, rfl⟩)
      clear x0
      go_cut [6, 7] (fun _ _ wx => (q = 0 → askB x.u x.d = true → fitsB (grantA G x.u x.d) x.a = true) ∧ Blk wx a0 x.c 40 ∧ Below wr.heap.size wr wx)
      case first =>
        have hd1 := HXS.out.1
        have hd2 := HXS.out.2
        have x2 := XA.out.cell (j := 2) rfl
        have x3 := XA.out.cell (j := 3) rfl
        by_cases h0 : q = 0
        · have t0 : (q == 0) = true := by simp [h0]
          have HQ0 := Lib.hid h0
          subst h0
          cases hask : askB x.u x.d
          · have HGR : Hid (grantedP G x.u x.d = (.zero, 2)) := Lib.hid (by unfold grantedP; rw [hask]; rfl)
            have HASK := Lib.hid hask
            clear hask
            go_wp2_with (go_at_call 16; refine (bo_granted HRA.out x.u x.d hd1 hd2 HGR.out).mono ?_; rintro e w5 ⟨rfl, hb⟩; have HB5 := Lib.hid (below_and hb (below_alloc w5 (.cells #[.int .i64 Am.zero.c, .int .i64 Am.zero.r, .int .i64 Am.zero.d, .int .i64 Am.zero.p] 28))); clear hb)
            go_meet
            exact ⟨fun _ h => (by rw [HASK.out] at h; cases h), XA.out.kept HB5.out, below_and HBA.out HB5.out⟩
          · obtain ⟨ga, hga⟩ : ∃ ga, ga = grantA G x.u x.d := ⟨_, rfl⟩
            have HGR : Hid (grantedP G x.u x.d = (ga, 0)) := Lib.hid (by unfold grantedP; rw [hask, hga]; rfl)
            have HGA := Lib.hid hga
            clear hask hga
            go_upto_region 12 with (go_at_call 16; refine (bo_granted HRA.out x.u x.d hd1 hd2 HGR.out).mono ?_; rintro e w5 ⟨rfl, hb⟩; have HB5 := Lib.hid (below_and hb (below_alloc w5 (.cells #[.int .i64 ga.c, .int .i64 ga.r, .int .i64 ga.d, .int .i64 ga.p] 28))); clear hb x2 x3)
            refine at_hide (F := fun w' => Blk w' w5.heap.size (amC ga) 28 ∧ Blk w' a0 x.c 40 ∧ Below wr.heap.size wr w') ⟨Blk.made w5 (amC ga) _, XA.out.kept HB5.out, below_and HBA.out HB5.out⟩ ?_
            intro w6 hF
            have HB6 := Lib.hid hF.2.2
            have hx6 := hF.2.1
            have hg6 := hF.1
            clear hF
            obtain ⟨g6, hgg⟩ : ∃ g6, g6 = w5.heap.size := ⟨_, rfl⟩
            rw [← hgg] at hg6 ⊢
            have X6 := Lib.hid hx6
            have g0 := hg6.cell (j := 0) rfl
            have g1 := hg6.cell (j := 1) rfl
            have g2 := hg6.cell (j := 2) rfl
            have g3 := hg6.cell (j := 3) rfl
            have x4 := hx6.cell (j := 4) rfl
            have x5 := hx6.cell (j := 5) rfl
            have x6 := hx6.cell (j := 6) rfl
            have x7 := hx6.cell (j := 7) rfl
            clear hx6 hg6 hgg
            cases hf : fitsB ga x.a
            · have HF := Lib.hid hf
              clear hf
              go_wp2_with (go_at_call 17; refine (fits_any ga x.a _).mono ?_; rw [HF.out]; rintro e w7 ⟨rfl, hb⟩; have HB7 := Lib.hid (below_and HB6.out hb); clear hb)
              go_roundw
              case rel => exact ⟨k + 1, G, C, hlt, by go_num, Lib.hid ((HR.out.kept HB7.out).up (by omega)), HI⟩
              case measure => simp [intOf]; omega
            · have HF := Lib.hid hf
              clear hf
              go_wp2_with (go_at_call 17; refine (fits_any ga x.a _).mono ?_; rw [HF.out]; rintro e w7 ⟨rfl, hb⟩; have HB7 := Lib.hid (below_and HB6.out hb); have X7 := Lib.hid (X6.out.kept hb); clear hb)
              go_meet
              exact ⟨fun _ _ => by rw [← HGA.out]; exact HF.out, X7.out, HB7.out⟩
        · have t0 : (q == 0) = false := by simp [h0]
          go_wp2
          go_meet
          exact ⟨fun h => absurd h h0, XA.out, HBA.out⟩
      case rest =>
      obtain ⟨hf, hxa, hba⟩ := hcut
      obtain ⟨wd, hwd⟩ : ∃ wd, wd = wc := ⟨_, rfl⟩
      rw [← hwd] at hxa hba ⊢
      clear hwd
      have XD := Lib.hid hxa
      have HBD := Lib.hid hba
      have HRD := Lib.hid (HR.out.kept hba)
      obtain ⟨er, G2, C2, hs⟩ : ∃ er G2 C2, stepQ G C x = (er, G2, C2) := ⟨_, _, _, rfl⟩
      have HI2 : Hid (HoldI G2 C2) := Lib.hid (by have := holdI_step HI.out HR.out.qi x (fun h => hf (HQ.out.trans h)); rw [hs] at this; exact this)
      have HERR : Hid (er ≠ 0 → G2 = G ∧ C2 = C) := Lib.hid (fun he => by have := stepQ_err G C x; rw [hs] at this; exact ⟨congrArg Prod.fst (this he), congrArg Prod.snd (this he)⟩)
      have HST : Hid (∀ w', Bo w w' b mg mc k G C → Calls Try.prog 19 #[ptr b, .agg #[.int .i64 x.k, .string x.s, .string x.u, .int .i64 x.d, .int .i64 x.a.c, .int .i64 x.a.r, .int .i64 x.a.d, .int .i64 x.a.p]] w' fun e w2 => e = .returned (.int .i64 er) ∧ Bo w w2 b mg mc (k + 1) G2 C2 ∧ Fr [mg, mc] w' w2) := Lib.hid (fun w' h' => by have := bo_step h' HK1.out x HXS.out; rw [hs] at this; exact this)
      have HK2 : Hid (k + 1 ≤ 1000) := Lib.hid (by have := HL.out; omega)
      clear hf hxa hba hs HPK HQ XA HBA HRA
      go_upto_region 14 with (first
        | (go_at_call 13; refine (bo_was HRD.out HK1.out).mono ?_; rintro e w6 ⟨p6, c6, rfl, hrow, hb⟩; have HRW := Lib.hid hrow; have HB6 := Lib.hid hb; have HR6 := Lib.hid (HRD.out.kept hb); clear hrow hb)
        | (go_at_call 18; refine (bo_had HR6.out HK1.out).mono ?_; rintro e w7 ⟨p7, c7, S, rfl, hp, hs, hrow, hb⟩; have HSP := Lib.hid hp; have HSS := Lib.hid hs; have HGW := Lib.hid hrow; have HB67 := Lib.hid hb; have HB7 := Lib.hid (below_and HBD.out (below_and HB6.out hb)); have HR7 := Lib.hid (HR6.out.kept hb); have X7 := Lib.hid (XD.out.kept (below_and HB6.out hb)); clear hp hs hrow hb))
      have HCW : Hid (∀ w2, Fr [mg, mc] w7 w2 → Row w2 (.slice p6 C.length c6) 7 C.length (rwC chC C)) := Lib.hid (fun w2 hf => HRW.out w2 ((Fr.of_below HB67.out _).then hf))
      have x0 := X7.out.cell (j := 0) rfl
      have x1 := X7.out.cell (j := 1) rfl
      have x2 := X7.out.cell (j := 2) rfl
      have x3 := X7.out.cell (j := 3) rfl
      have x4 := X7.out.cell (j := 4) rfl
      have x5 := X7.out.cell (j := 5) rfl
      have x6 := X7.out.cell (j := 6) rfl
      have x7 := X7.out.cell (j := 7) rfl
      clear HRW HB67 HB6 HR6 HRD XD HBD
      go_cut [77] (fun s77 wx => s77 = .bool false ∧ Bo w wx b mg mc (k + 1) G2 C2 ∧ Blk wx a0 x.c 40)
      case first =>
        by_cases her : er = 0
        · subst her
          go_wp2_with (go_at_call 19; refine (HST.out _ HR7.out).mono ?_; rintro e w8 ⟨rfl, h8, hf8⟩; have H8 := Lib.hid h8; have F8 := Lib.hid hf8; clear h8 hf8)
          go_meet
          exact ⟨rfl, H8.out, X7.out.fr F8.out HNA.out⟩
        · have t1 : (er != 0) = true := by simpa using her
          obtain ⟨rfl, rfl⟩ := HERR.out her
          clear her
          go_wp2_with (first
            | (go_at_call 19; refine (HST.out _ HR7.out).mono ?_; rintro e w8 ⟨rfl, h8, hf8⟩; have H8 := Lib.hid h8; have F8 := Lib.hid hf8; clear h8 hf8 x0 x1 x2 x3 x4 x5 x6 x7)
            | (go_at_call 13; refine (bo_was H8.out HK2.out).mono ?_; rintro e w9 ⟨p9, c9, rfl, hrow, hb⟩; have HRW9 := Lib.hid hrow; have F9 := Lib.hid (F8.out.then (Fr.of_below hb _)); have H9 := Lib.hid (H8.out.kept hb); clear hrow hb)
            | (go_at_call 20; refine (charges_same C2 _ _ _ (HCW.out _ F9.out) (HRW9.out _ (Fr.refl _ _))).mono ?_; rintro e w10 ⟨rfl, hb⟩; have F10 := Lib.hid (F9.out.then (Fr.of_below hb _)); have H10 := Lib.hid (H9.out.kept hb); clear hb)
            | (go_at_call 18; refine (bo_had H10.out HK2.out).mono ?_; rintro e w11 ⟨p11, c11, S2, rfl, hp, hs, hrow, hb⟩; obtain rfl : S2 = S := gsorted_one hs HSS.out (hp.trans HSP.out.symm); have HGW11 := Lib.hid hrow; have F11 := Lib.hid (F10.out.then (Fr.of_below hb _)); have H11 := Lib.hid (H10.out.kept hb); clear hp hs hrow hb)
            | (go_at_call 21; refine (grants_same S2 _ _ _ (HGW.out _ F11.out) (HGW11.out _ (Fr.refl _ _))).mono ?_; rintro e w12 ⟨rfl, hb⟩; have F12 := Lib.hid (F11.out.then (Fr.of_below hb _)); have H12 := Lib.hid (H11.out.kept hb); clear hb))
          go_meet
          exact ⟨rfl, H12.out, X7.out.fr F12.out HNA.out⟩
      case rest =>
      obtain ⟨rfl, hbo, hxa⟩ := hcut
      obtain ⟨we, hwe⟩ : ∃ we, we = wc := ⟨_, rfl⟩
      rw [← hwe] at hbo hxa ⊢
      clear hwe x0 x1 x2 x3 x4 x5 x6 x7
      have HE := Lib.hid hbo
      have XE := Lib.hid hxa
      clear hbo hxa HCW HGW HR7 X7 HSP HSS HST HERR HB7
      have HOV : Hid (overP G2 C2 = []) := Lib.hid (holdI_over HI2.out)
      have HOVC : Hid (∀ w', Bo w w' b mg mc (k + 1) G2 C2 → Calls Try.prog 10 #[ptr b] w' fun e w2 => ∃ p c, e = .returned (.slice p 0 c) ∧ c ≤ maxLen ∧ Below w'.heap.size w' w2) := Lib.hid (fun w' h' => (bo_over h' HK2.out).mono fun e w2 ⟨v, h1, h2, h3⟩ => by
        rw [HOV.out] at h2
        obtain ⟨p, c, rfl, -, h5⟩ := own_slice h2
        exact ⟨p, c, h1, h5, h3⟩)
      have hd1 := HXS.out.1
      have hd2 := HXS.out.2
      go_upto_region 18 with (go_at_call 10; refine (HOVC.out _ HE.out).mono ?_; rintro e wf ⟨pf, cf, rfl, hcf, hb⟩; have HBF := Lib.hid hb; have HF := Lib.hid (HE.out.kept hb); have XF := Lib.hid (XE.out.kept hb); clear hb)
      have x2 := XF.out.cell (j := 2) rfl
      have x3 := XF.out.cell (j := 3) rfl
      cases hask : askB x.u x.d
      · have HUS : Hid (usedP C2 x.u x.d = (.zero, 2)) := Lib.hid (by unfold usedP; rw [hask]; rfl)
        clear hask
        go_wp2_with (go_at_call 22; refine (bo_used HF.out x.u x.d hd1 hd2 HUS.out).mono ?_; rintro e w5 ⟨rfl, hb⟩; have HB5 := Lib.hid (below_and hb (below_alloc w5 (.cells #[.int .i64 Am.zero.c, .int .i64 Am.zero.r, .int .i64 Am.zero.d, .int .i64 Am.zero.p] 28))); clear hb)
        go_roundw
        case rel => exact ⟨k + 1, G2, C2, hlt, by go_num, Lib.hid (HF.out.kept HB5.out), HI2⟩
        case measure => simp [intOf]; omega
      obtain ⟨ua, hua⟩ : ∃ ua, ua = psum (onB x.u x.d) C2 := ⟨_, rfl⟩
      obtain ⟨ga, hga⟩ : ∃ ga, ga = grantA G2 x.u x.d := ⟨_, rfl⟩
      have HUS : Hid (usedP C2 x.u x.d = (ua, 0)) := Lib.hid (by unfold usedP; rw [hask, hua]; rfl)
      have HGS : Hid (grantedP G2 x.u x.d = (ga, 0)) := Lib.hid (by unfold grantedP; rw [hask, hga]; rfl)
      have HSU : Hid (sumR ((C2.filter (onB x.u x.d)).map Ch.a) = (ua, 0)) := Lib.hid (by rw [hua]; exact sum_used HF.out.qi.ch.ok x.u x.d (HF.out.qi.ch.fit x.u x.d))
      have HFI : Hid (x.d ≠ 0 → fitsB ua ga = true) := Lib.hid (fun h => by rw [hua, hga]; exact fits_of (HI2.out x.u x.d h))
      clear hask hua hga
      go_upto_region 19 with (go_at_call 22; refine (bo_used HF.out x.u x.d hd1 hd2 HUS.out).mono ?_; rintro e w5 ⟨rfl, hb⟩; have HB5 := Lib.hid (below_and hb (below_alloc w5 (.cells #[.int .i64 ua.c, .int .i64 ua.r, .int .i64 ua.d, .int .i64 ua.p] 28))); clear hb x2 x3)
      refine at_hide (F := fun w' => Blk w' w5.heap.size (amC ua) 28 ∧ Blk w' a0 x.c 40 ∧ Bo w w' b mg mc (k + 1) G2 C2) ⟨Blk.made w5 (amC ua) _, XF.out.kept HB5.out, HF.out.kept HB5.out⟩ ?_
      intro wg hF
      have HG := Lib.hid hF.2.2
      have XG := Lib.hid hF.2.1
      have hu := hF.1
      clear hF
      obtain ⟨u0, hu0⟩ : ∃ u0, u0 = w5.heap.size := ⟨_, rfl⟩
      rw [← hu0] at hu ⊢
      have UG := Lib.hid hu
      clear hu hu0 HB5 HF XF HBF HE XE
      clear w5 wf we
      have x2 := XG.out.cell (j := 2) rfl
      have x3 := XG.out.cell (j := 3) rfl
      go_upto_region 21 with (go_at_call 16; refine (bo_granted HG.out x.u x.d hd1 hd2 HGS.out).mono ?_; rintro e w5 ⟨rfl, hb⟩; have HB5 := Lib.hid (below_and hb (below_alloc w5 (.cells #[.int .i64 ga.c, .int .i64 ga.r, .int .i64 ga.d, .int .i64 ga.p] 28))); clear hb x2 x3)
      refine at_hide (F := fun w' => Blk w' w5.heap.size (amC ga) 28 ∧ Blk w' u0 (amC ua) 28 ∧ Blk w' a0 x.c 40 ∧ Bo w w' b mg mc (k + 1) G2 C2) ⟨Blk.made w5 (amC ga) _, UG.out.kept HB5.out, XG.out.kept HB5.out, HG.out.kept HB5.out⟩ ?_
      intro wh hF
      have HH := Lib.hid hF.2.2.2
      have XH := Lib.hid hF.2.2.1
      have UH := Lib.hid hF.2.1
      have hu := hF.1
      clear hF
      obtain ⟨g0, hg0⟩ : ∃ g0, g0 = w5.heap.size := ⟨_, rfl⟩
      rw [← hg0] at hu ⊢
      have GH := Lib.hid hu
      clear hu hg0 HB5 HG XG UG
      clear w5 wg
      obtain ⟨i0', hia, hz0, hz1, hz2⟩ := info_parts info_amq
      have HCL : Hid (C2.length ≤ 100000) := Lib.hid (by have := HH.out.qi.lenC; have := HL.out; omega)
      go_upto_region 23 with (go_at_call 13; refine (bo_charges HH.out HK2.out).mono ?_; rintro e wi ⟨v3, rfl, ho3, hb⟩; obtain ⟨p3, k3, rfl, hk3, hm3⟩ := own_slice ho3; have HO3 := Lib.hid ho3; have HN := Lib.hid (HH.out.kept hb); have XN := Lib.hid (XH.out.kept hb); have UN := Lib.hid (UH.out.kept hb); have GN := Lib.hid (GH.out.kept hb); clear ho3 hb)
      clear HH XH UH GH
      go_wp2
      go_loopw [14, 16] (fun ov jv wj => ∃ j : Nat, j ≤ C2.length ∧ jv = .int .i64 (j : Int) ∧ Hid (wj.ownsRow wi.heap.size 28 4 ov (gath x.u x.d C2 j).length (amsC (gath x.u x.d C2 j))) ∧ Hid (Below wi.heap.size wi wj)) (fun _ jv _ => C2.length - (intOf jv).toNat)
      case atStart => exact ⟨0, Nat.zero_le _, rfl, Lib.hid (World.ownsRow_nil _ _ _ _), Lib.hid (Below.refl _ _)⟩
      case round =>
        obtain ⟨j, hj, rfl, HO, HB⟩ := hrel
        by_cases hlj : j < C2.length
        · obtain ⟨g3, cap3, e3, -, -, -⟩ := own_block HO3.out (by omega)
          simp only [Value.slice.injEq] at e3
          obtain ⟨rfl, -, rfl⟩ := e3
          obtain ⟨y, hy⟩ : ∃ y, y = C2[j] := ⟨_, rfl⟩
          have hee : ∀ i u, i < 7 → (chC y)[i]? = some u → wr.cell? ⟨g3, j * 7 + i, none⟩ = some u := fun i u hi hu => cell_kept (own_cell HO3.out (by rw [rwC_at chC_len hlj hi, ← hy]; exact hu)) HB.out
          have HEE := Lib.hid hee
          have a1 : ∀ s : Past wr, s.val.cell? ⟨g3, j * 7 + 1, none⟩ = some (.string y.u) := Past.cell (hee 1 _ (by omega) rfl)
          have a2 : ∀ s : Past wr, s.val.cell? ⟨g3, j * 7 + 2, none⟩ = some (.int .i64 y.b) := Past.cell (hee 2 _ (by omega) rfl)
          have x2 : ∀ s : Past wr, s.val.cell? ⟨a0, 2, none⟩ = some (.string x.u) := Past.blk (XN.out.kept HB.out) (j := 2) rfl
          have x3 : ∀ s : Past wr, s.val.cell? ⟨a0, 3, none⟩ = some (.int .i64 x.d) := Past.blk (XN.out.kept HB.out) (j := 3) rfl
          have i3 : (j : Int) < (C2.length : Int) := by omega
          have i4 : (0 : Int) ≤ (j : Int) := by omega
          clear hee
          cases ho : onB x.u x.d y
          · have HT := Lib.hid (gath_skip hlj hy ho)
            cases q1 : (y.u.toList == x.u.toList)
            · clear ho hy
              go_wp2
              refine wp_region_past (by kernel_rfl) (by kernel_rfl) ?_
              repeat (go_big_quiet_step (fail))
              refine wpQuiet_nil ?_
              intro _ hw'
              obtain ⟨s9, hw''⟩ := hw'
              subst hw''
              obtain ⟨w9, h9, e9⟩ : ∃ w9, Below wr.heap.size wr w9 ∧ w9 = s9.val := ⟨_, s9.h, rfl⟩
              rw [← e9]
              have HB9 := Lib.hid (below_and HB.out h9)
              have HW9 := Lib.hid h9
              clear h9 e9 a1 a2 x2 x3
              go_wp2
              go_roundw
              case rel => exact ⟨j + 1, hlj, by go_num, Lib.hid (by rw [HT.out]; exact own_fr HO.out (Fr.of_below HW9.out []) (fun _ _ => by simp)), HB9⟩
              case measure => simp [intOf]; omega
            · have q2 : (y.b == x.d) = false := by
                unfold onB at ho
                rw [q1] at ho
                simpa using ho
              have hu : y.u = x.u := by
                rw [Lib.toList_data, Lib.toList_data] at q1
                have h1 : y.u.data.toList = x.u.data.toList := by simpa using q1
                exact ByteArray.ext (Array.toList_inj.1 h1)
              rw [hu] at a1
              clear ho hy q1 hu
              go_wp2
              refine wp_region_past (by kernel_rfl) (by kernel_rfl) ?_
              repeat (go_big_quiet_step (fail))
              refine wpQuiet_nil ?_
              intro _ hw'
              obtain ⟨s9, hw''⟩ := hw'
              subst hw''
              obtain ⟨w9, h9, e9⟩ : ∃ w9, Below wr.heap.size wr w9 ∧ w9 = s9.val := ⟨_, s9.h, rfl⟩
              rw [← e9]
              have HB9 := Lib.hid (below_and HB.out h9)
              have HW9 := Lib.hid h9
              clear h9 e9 a1 a2 x2 x3
              go_wp2
              go_roundw
              case rel => exact ⟨j + 1, hlj, by go_num, Lib.hid (by rw [HT.out]; exact own_fr HO.out (Fr.of_below HW9.out []) (fun _ _ => by simp)), HB9⟩
              case measure => simp [intOf]; omega
          · have HT := Lib.hid (gath_take hlj hy ho)
            obtain ⟨h1, h2⟩ := on_same ho
            have hu : y.u = x.u := ByteArray.ext (Array.toList_inj.1 h1)
            rw [hu] at a1
            rw [h2] at a2
            clear ho hy hu h1 h2
            go_wp2
            refine wp_region_past (by kernel_rfl) (by kernel_rfl) ?_
            repeat (go_big_quiet_step (fail))
            refine wpQuiet_nil ?_
            intro _ hw'
            obtain ⟨s9, hw''⟩ := hw'
            subst hw''
            obtain ⟨w9, h9, e9⟩ : ∃ w9, Below wr.heap.size wr w9 ∧ w9 = s9.val := ⟨_, s9.h, rfl⟩
            rw [← e9]
            have HB9 := Lib.hid (below_and HB.out h9)
            have HW9 := Lib.hid h9
            clear h9 e9 a1 a2 x2 x3
            have hee : ∀ i u, i < 7 → (chC y)[i]? = some u → w9.cell? ⟨g3, j * 7 + i, none⟩ = some u := fun i u hi hu => cell_kept (HEE.out i u hi hu) HW9.out
            have y3 := hee 3 _ (by omega) rfl
            have y4 := hee 4 _ (by omega) rfl
            have y5 := hee 5 _ (by omega) rfl
            have y6 := hee 6 _ (by omega) rfl
            have y4b : w9.cell? ⟨g3, j * 7 + 3 + 1, none⟩ = some (.int .i64 y.a.r) := y4
            have y5b : w9.cell? ⟨g3, j * 7 + 3 + 2, none⟩ = some (.int .i64 y.a.d) := y5
            have y6b : w9.cell? ⟨g3, j * 7 + 3 + 3, none⟩ = some (.int .i64 y.a.p) := y6
            clear hee
            have HOA : Hid ((w9.alloc (.cells #[.int .i64 y.a.c, .int .i64 y.a.r, .int .i64 y.a.d, .int .i64 y.a.p] 28)).ownsRow wi.heap.size 28 4 u14 (gath x.u x.d C2 j).length (amsC (gath x.u x.d C2 j))) := Lib.hid (own_fr HO.out (Fr.of_below (below_and HW9.out (below_alloc w9 _)) []) (fun _ _ => by simp))
            have HWZ : Hid (wi.heap.size ≤ w9.heap.size) := Lib.hid HB9.out.size
            have HFL : Hid ((gath x.u x.d C2 j).length ≤ 100000) := Lib.hid (by have h1 := gath_len x.u x.d C2 j; have h2 := HCL.out; omega)
            go_wp2_with (at_builtin; go_loud (refine wpList_app5 rfl _ _ 48 48 rfl wi.heap.size 28 i0' (.agg #[.int .i64 0, .int .i64 0, .int .i64 0, .int .i64 0]) 4 32 Try.underlying48 hia hz0 hz1 hz2 rfl _ _ (amsC (gath x.u x.d C2 j)) rfl HOA.out _ 1 _ rfl (src_block Try.underlying48 _ _ #[_, _, _, _] (heap_alloc_new w9 _) rfl (amC_oneq y.a)) (by have := HFL.out; unfold maxLen; omega) (by have := HFL.out; omega) (by have := HWZ.out; simp; omega) ?_; intro o4 w4 ho4 hg4 hn4; have HO4 := Lib.hid ho4; have HB4 : Hid (Below wi.heap.size wi w4) := Lib.hid ((below_and HB9.out (below_alloc w9 _)).trans ((Fr.of_grown hg4).below (by intro q hq; exact own_base HO.out (Option.mem_toList.1 hq)) (by have := HWZ.out; simp; omega))); clear ho4 hg4 hn4))
            go_roundw
            case rel => exact ⟨j + 1, hlj, by go_num, Lib.hid (by rw [HT.out, amsC_app]; simpa [amsC] using HO4.out), HB4⟩
            case measure => simp [intOf]; omega
        · obtain rfl : j = C2.length := by omega
          have ho := HO.out
          rw [gath_full] at ho
          obtain ⟨n, hn⟩ : ∃ n, n = ((C2.filter (onB x.u x.d)).map Ch.a).length := ⟨_, rfl⟩
          rw [← hn] at ho
          obtain ⟨pz, cz, rfl, -, -, hrow⟩ := row_own ho (amsC_one _)
          have AMS : Hid (∀ z er, sumR ((C2.filter (onB x.u x.d)).map Ch.a) = (z, er) → Calls Try.prog 23 #[.slice pz n cz] wr fun e w' => e = .returned (.tuple #[amV z, .int .i64 er]) ∧ Below wr.heap.size wr w') := Lib.hid (fun z er hz => by
            have := sum_any (.slice pz n cz) ((C2.filter (onB x.u x.d)).map Ch.a) wr (by unfold Ams; rw [← hn]; exact hrow)
            rw [hz] at this
            exact this)
          clear ho hrow hn
          go_upto_region 29 with (go_at_call 23; refine (AMS.out ua 0 HSU.out).mono ?_; rintro e w5 ⟨rfl, hb⟩; have HB5 := Lib.hid (below_and hb (below_alloc w5 (.cells #[.int .i64 ua.c, .int .i64 ua.r, .int .i64 ua.d, .int .i64 ua.p] 28))); clear hb)
          have HBZ := Lib.hid (below_and HB.out HB5.out)
          refine at_hide (F := fun w' => Blk w' w5.heap.size (amC ua) 28 ∧ Blk w' u0 (amC ua) 28 ∧ Blk w' g0 (amC ga) 28 ∧ Blk w' a0 x.c 40 ∧ Bo w w' b mg mc (k + 1) G2 C2) ⟨Blk.made w5 (amC ua) _, UN.out.kept HBZ.out, GN.out.kept HBZ.out, XN.out.kept HBZ.out, HN.out.kept HBZ.out⟩ ?_
          intro wz hF
          obtain ⟨h1, h2, h3, h4, h5⟩ := hF
          obtain ⟨s0, hs0⟩ : ∃ s0, s0 = w5.heap.size := ⟨_, rfl⟩
          rw [← hs0] at h1 ⊢
          have HZ := Lib.hid h5
          have s1 := h1.cell (j := 0) rfl
          have s2 := h1.cell (j := 1) rfl
          have s3 := h1.cell (j := 2) rfl
          have s4 := h1.cell (j := 3) rfl
          have u1' := h2.cell (j := 0) rfl
          have u2' := h2.cell (j := 1) rfl
          have u3' := h2.cell (j := 2) rfl
          have u4' := h2.cell (j := 3) rfl
          have g1 := h3.cell (j := 0) rfl
          have g2 := h3.cell (j := 1) rfl
          have g3 := h3.cell (j := 2) rfl
          have g4 := h3.cell (j := 3) rfl
          have x3 := h4.cell (j := 3) rfl
          clear h1 h2 h3 h4 h5 hs0 HB5 HBZ AMS
          by_cases hz : x.d = 0
          · have t0 : (x.d != 0) = false := by simp [hz]
            clear hz
            go_wp2
            go_roundw
            case rel => exact ⟨k + 1, G2, C2, hlt, by go_num, HZ, HI2⟩
            case measure => simp [intOf]; omega
          · have t0 : (x.d != 0) = true := by simpa using hz
            have HFF := Lib.hid (HFI.out hz)
            clear hz
            go_wp2_with (go_at_call 17; refine (fits_any ua ga _).mono ?_; rw [HFF.out]; rintro e w7 ⟨rfl, hb⟩; have HZ7 := Lib.hid (HZ.out.kept hb); clear hb)
            go_roundw
            case rel => exact ⟨k + 1, G2, C2, hlt, by go_num, HZ7, HI2⟩
            case measure => simp [intOf]; omega
    · obtain rfl : k = l.length := by omega
      go_wp2
      go_ret
      exact ⟨rfl, HR.out.hb⟩
end Go.Proofs.Ytmgbailpmcggiaa
namespace Go.Proofs.Ytmgbailpmcggiaa
open Go.RowKit

theorem quotaHolds_walk (v : Value) (es : List (List Value)) (w : World) (hr : Row w v 8 es.length es.flatten) (hf : ∀ x ∈ es, Leaves Try.prog [3, 9, 9, 3, 2, 2, 2, 2] x) :
    Calls Try.prog 4 #[v] w fun e w' => e = .returned (.bool true) ∧ Below w.heap.size w w' := by
  obtain ⟨l, hl⟩ := acts_of hr hf
  exact quotaHolds_go v l w hl
end Go.Proofs.Ytmgbailpmcggiaa
