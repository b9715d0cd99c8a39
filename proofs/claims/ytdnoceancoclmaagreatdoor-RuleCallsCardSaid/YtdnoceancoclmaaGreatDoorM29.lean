/- , laid together: RuTold1, RuShapP, RuToldA. -/
import Derived.Test.YtdnoceancoclmaaGreatDoorRuPart
import Derived.Test.YtdnoceancoclmaaGreatDoorRuLeafP
import Derived.Test.YtdnoceancoclmaaGreatDoorRuTab
import Derived.Test.YtdnoceancoclmaaGreatDoorM23
import Derived.Test.YtdnoceancoclmaaGreatDoorRuMem
namespace Go.Proofs.YtdnoceancoclmaaGreatDoor.Ru
open Go.RowKit Go.Proofs.YtdnoceancoclmaaGreatDoor

set_option maxRecDepth 100000 in
set_option maxHeartbeats 1000000 in
theorem told_step (L : List Nd) (hf : Fine L) (i : Nat) (hi : i < L.length) (W : World → Prop) (hW : ∀ w w', W w → Below w.heap.size w w' → W w') (hT : ∀ w, W w → Tab w) (ih : ∀ j, j < i → ToldC L j W) (hlen : ∀ j, j < L.length → (tl L j).length ≤ 1000000000000000000) (hc : ∀ n ∈ L, n.nm.length ≤ 1000000000000000 ∧ n.vl.length ≤ 1000000000000000 ∧ -9223372036854775808 ≤ n.x ∧ n.x ≤ 9223372036854775807) : ToldC L i W := by
  unfold ToldC
  intro v w hr hw
  have HR := Lib.hid hr
  have HWW := Lib.hid hw
  obtain ⟨n, hn⟩ : ∃ n, n = L[i] := ⟨_, rfl⟩
  obtain ⟨p, c, rfl, h1, h2, h3, h4, h5, h6⟩ := hr
  have HLC : Hid (∃ b o, p = some ⟨b, o, none⟩ ∧ ∀ j u, (ndC n)[j]? = some u → w.cell? ⟨b, o + i * 6 + j, none⟩ = some u) := Lib.hid (by
    rcases h6 with h6 | ⟨b, o, hp, ha⟩
    · rw [h6] at h3; simp at h3; omega
    · refine ⟨b, o, hp, fun j u hj => ?_⟩
      rw [Nat.add_assoc]
      refine ha (i * 6 + j) u ?_
      have hj6 : j < 6 := by
        have := (List.getElem?_eq_some_iff.1 hj).1
        rwa [ndC_len] at this
      rw [rwC_at (c := ndC) (k := 6) (fun _ => rfl) hi hj6, ← hn]
      exact hj)
  obtain ⟨b, o, rfl, hcell⟩ := HLC.out
  have HCELL := Lib.hid hcell
  have q0 := hcell 0 _ rfl
  rw [Nat.add_zero] at q0
  have q1 := hcell 1 _ rfl
  have q2 := hcell 2 _ rfl
  have q3 := hcell 3 _ rfl
  have q4 := hcell 4 _ rfl
  have q5 := hcell 5 _ rfl
  have HN := Lib.hid hn
  have i0 : (0 : Int) ≤ (i : Int) := by omega
  have i1 : (i : Int) < (L.length : Int) := by omega
  obtain ⟨w1, hw1⟩ : ∃ w1, w1 = w.alloc (.cells #[.slice (some ⟨b, o, none⟩) L.length c] 22) := ⟨_, rfl⟩
  obtain ⟨t, ht⟩ : ∃ t, t = tl L i := ⟨_, rfl⟩
  rw [← ht]
  have HT := Lib.hid ht
  clear ht
  clear hw h1 h2 h3 h4 h5 h6 HLC hcell hn
  go_enter Tryz.func21, Tryz.ntmps21
  go_upto_region 1 with fail
  rw [← hw1]
  have HB1 : Hid (Below w.heap.size w w1) := Lib.hid (by rw [hw1]; exact below_alloc _ _)
  have HX1 : Hid (w1.cell? ⟨w.heap.size, 0, none⟩ = some (.slice (some ⟨b, o, none⟩) L.length c)) := Lib.hid (by rw [hw1]; exact (Blk.made w [_] 22).cell (j := 0) rfl)
  obtain ⟨bx, hbx⟩ : ∃ bx, bx = w.heap.size := ⟨_, rfl⟩
  rw [← hbx] at HX1 ⊢
  have HBX := Lib.hid hbx
  have x0 := HX1.out
  replace q0 := (HB1.out.cell (World.block_lt_of_cell? w _ q0)).trans q0
  replace q1 := (HB1.out.cell (World.block_lt_of_cell? w _ q1)).trans q1
  replace q2 := (HB1.out.cell (World.block_lt_of_cell? w _ q2)).trans q2
  replace q3 := (HB1.out.cell (World.block_lt_of_cell? w _ q3)).trans q3
  replace q4 := (HB1.out.cell (World.block_lt_of_cell? w _ q4)).trans q4
  replace q5 := (HB1.out.cell (World.block_lt_of_cell? w _ q5)).trans q5
  clear hw1 hbx
  go_upto_region 3 with fail
  refine at_hide (F := fun w' => w'.cell? ⟨bx, 0, none⟩ = some (.slice (some ⟨b, o, none⟩) L.length c) ∧ Blk w' w1.heap.size (ndC n) 52 ∧ Below w.heap.size w w') ⟨((below_alloc w1 _).cell (World.block_lt_of_cell? w1 _ HX1.out)).trans HX1.out, Blk.made w1 (ndC n) _, below_and HB1.out (below_alloc _ _)⟩ ?_
  intro w2 hF
  obtain ⟨Y, hY⟩ : ∃ Y, Y = w1.heap.size := ⟨_, rfl⟩
  rw [← hY] at hF ⊢
  have HX2 := Lib.hid hF.1
  have HY2 := Lib.hid hF.2.1
  have HB2 := Lib.hid hF.2.2
  have HR2 : Hid (Row w2 (.slice (some ⟨b, o, none⟩) L.length c) 6 L.length (rwC ndC L)) := Lib.hid (HR.out.below HB2.out)
  have HW2 : Hid (W w2) := Lib.hid (hW _ _ HWW.out HB2.out)
  have HEQ := Lib.hid (tl_eq hf (List.getElem?_eq_getElem hi))
  have HPA := Lib.hid (hf i _ (List.getElem?_eq_getElem hi))
  rw [← HN.out] at HEQ HPA
  have HNL := Lib.hid (hc n (by rw [HN.out]; exact List.getElem_mem hi))
  clear hF hY x0 q0 q1 q2 q3 q4 q5 HX1 HB1
  have y0 := HY2.out.cell (j := 0) rfl
  have y1 := HY2.out.cell (j := 1) rfl
  have y2 := HY2.out.cell (j := 2) rfl
  have y3 := HY2.out.cell (j := 3) rfl
  have y4 := HY2.out.cell (j := 4) rfl
  have y5 := HY2.out.cell (j := 5) rfl
  obtain ⟨k, nm, vl, x, na, nb⟩ := n
  simp only at y0 y1 y2 y3 y4 y5 HEQ HNL HY2
  by_cases k1 : k = 1
  · subst k1
    go_wp2
    go_ret
    exact ⟨by rw [HT.out, HEQ.out]; rfl, HB2.out⟩
  by_cases k2 : k = 2
  · subst k2
    have hadd1 : ∀ w, (Op.stringOp .add (bs nm) ⟨#[61]⟩).run Tryz.prog w = .ok (.string (bs (nm ++ [61]))) w := fun w => add_bs nm [61] (by have := HNL.out; simp; omega) w
    have hadd2 : ∀ w, (Op.stringOp .add (bs (nm ++ [61])) (bs vl)).run Tryz.prog w = .ok (.string (bs (nm ++ [61] ++ vl))) w := fun w => add_bs (nm ++ [61]) vl (by have := HNL.out; simp; omega) w
    have HTT : Hid (bs t = bs (nm ++ 61 :: vl)) := Lib.hid (by rw [HT.out, HEQ.out]; simp [ltx])
    clear k1
    go_wp2
    go_ret
    exact ⟨by rw [HTT.out]; rfl, HB2.out⟩
  by_cases k3 : k = 3
  · subst k3
    have hadd1 : ∀ w, (Op.stringOp .add (bs nm) ⟨#[33, 61]⟩).run Tryz.prog w = .ok (.string (bs (nm ++ [33, 61]))) w := fun w => add_bs nm [33, 61] (by have := HNL.out; simp; omega) w
    have hadd2 : ∀ w, (Op.stringOp .add (bs (nm ++ [33, 61])) (bs vl)).run Tryz.prog w = .ok (.string (bs (nm ++ [33, 61] ++ vl))) w := fun w => add_bs (nm ++ [33, 61]) vl (by have := HNL.out; simp; omega) w
    have HTT : Hid (bs t = bs (nm ++ 33 :: 61 :: vl)) := Lib.hid (by rw [HT.out, HEQ.out]; simp [ltx])
    clear k1 k2
    go_wp2
    go_ret
    exact ⟨by rw [HTT.out]; rfl, HB2.out⟩
  have b1 : (k == 1) = false := by simpa using k1
  have b2 : (k == 2) = false := by simpa using k2
  have b3 : (k == 3) = false := by simpa using k3
  by_cases k4 : k = 4
  · subst k4
    clear k1 k2 k3
    have HTT : Hid (bs t = bs (nm ++ 62 :: 61 :: Lib.itoa x)) := Lib.hid (by rw [HT.out, HEQ.out]; simp [ltx])
    have HI : Hid ((Lib.itoa x).length ≤ 21) := Lib.hid (Lib.itoa_length_le x HNL.out.2.2.1 HNL.out.2.2.2)
    have HFM : Hid (∀ s : Past w2, Calls Tryz.prog 41 #[.int .i64 x, .int .i64 10] s.val fun r w' => r = .returned (.string (bs (Lib.itoa x))) ∧ Below s.val.heap.size s.val w') := Lib.hid (fun s => format_any x HNL.out.2.2.1 HNL.out.2.2.2 s.val (hT _ (hW _ _ HW2.out s.h)))
    obtain ⟨u, hu⟩ : ∃ u, u = Lib.itoa x := ⟨_, rfl⟩
    rw [← hu] at HTT HI HFM
    clear hu
    have p1 : ∀ s : Past w2, s.val.cell? ⟨Y, 1, none⟩ = some (.string (bs nm)) := Past.blk HY2.out (j := 1) rfl
    have p3 : ∀ s : Past w2, s.val.cell? ⟨Y, 3, none⟩ = some (.int .i64 x) := Past.blk HY2.out (j := 3) rfl
    have hadd1 : ∀ w, (Op.stringOp .add (bs nm) ⟨#[62, 61]⟩).run Tryz.prog w = .ok (.string (bs (nm ++ [62, 61]))) w := fun w => add_bs nm [62, 61] (by have := HNL.out; simp; omega) w
    have hadd2 : ∀ w, (Op.stringOp .add (bs (nm ++ [62, 61])) (bs u)).run Tryz.prog w = .ok (.string (bs (nm ++ [62, 61] ++ u))) w := fun w => add_bs (nm ++ [62, 61]) u (by have := HNL.out; have := HI.out; simp; omega) w
    go_upto_region 11 with fail
    refine wp_region_past (by kernel_rfl) (by kernel_rfl) ?_
    repeat (go_big_quiet_step ((go_at_call 41; exact past_call (HFM.out _))))
    refine wpQuiet_nil ?_
    intro _ hw'
    obtain ⟨s9, hw''⟩ := hw'
    subst hw''
    go_wp2
    go_ret
    exact ⟨by rw [HTT.out]; simp, below_and HB2.out s9.h⟩
  have b4 : (k == 4) = false := by simpa using k4
  by_cases k5 : k = 5
  · subst k5
    clear k1 k2 k3 k4 b1 b2 b3 b4
    have HTT : Hid (bs t = bs (nm ++ 60 :: 61 :: Lib.itoa x)) := Lib.hid (by rw [HT.out, HEQ.out]; simp [ltx])
    have HI : Hid ((Lib.itoa x).length ≤ 21) := Lib.hid (Lib.itoa_length_le x HNL.out.2.2.1 HNL.out.2.2.2)
    have HFM : Hid (∀ s : Past w2, Calls Tryz.prog 41 #[.int .i64 x, .int .i64 10] s.val fun r w' => r = .returned (.string (bs (Lib.itoa x))) ∧ Below s.val.heap.size s.val w') := Lib.hid (fun s => format_any x HNL.out.2.2.1 HNL.out.2.2.2 s.val (hT _ (hW _ _ HW2.out s.h)))
    obtain ⟨u, hu⟩ : ∃ u, u = Lib.itoa x := ⟨_, rfl⟩
    rw [← hu] at HTT HI HFM
    clear hu
    have p1 : ∀ s : Past w2, s.val.cell? ⟨Y, 1, none⟩ = some (.string (bs nm)) := Past.blk HY2.out (j := 1) rfl
    have p3 : ∀ s : Past w2, s.val.cell? ⟨Y, 3, none⟩ = some (.int .i64 x) := Past.blk HY2.out (j := 3) rfl
    have hadd1 : ∀ w, (Op.stringOp .add (bs nm) ⟨#[60, 61]⟩).run Tryz.prog w = .ok (.string (bs (nm ++ [60, 61]))) w := fun w => add_bs nm [60, 61] (by have := HNL.out; simp; omega) w
    have hadd2 : ∀ w, (Op.stringOp .add (bs (nm ++ [60, 61])) (bs u)).run Tryz.prog w = .ok (.string (bs (nm ++ [60, 61] ++ u))) w := fun w => add_bs (nm ++ [60, 61]) u (by have := HNL.out; have := HI.out; simp; omega) w
    go_upto_region 13 with fail
    refine wp_region_past (by kernel_rfl) (by kernel_rfl) ?_
    repeat (go_big_quiet_step ((go_at_call 41; exact past_call (HFM.out _))))
    refine wpQuiet_nil ?_
    intro _ hw'
    obtain ⟨s9, hw''⟩ := hw'
    subst hw''
    go_wp2
    go_ret
    exact ⟨by rw [HTT.out]; simp, below_and HB2.out s9.h⟩
  have b5 : (k == 5) = false := by simpa using k5
  by_cases k7 : k = 7
  · subst k7
    clear b1 b2 b3 b4 b5 k1 k2 k3 k4 k5
    have hpa := HPA.out na (by simp [parts])
    obtain ⟨ja, hja⟩ : ∃ ja : Nat, na = (ja : Int) := ⟨na.toNat, by omega⟩
    subst hja
    have HJI : Hid (ja < i) := Lib.hid (by omega)
    have HTT : Hid (bs t = bs (33 :: par (decide (((tightK (kindAt L ja) : Nat) : Int) < 3)) (tl L ja))) := Lib.hid (by
      rw [HT.out, HEQ.out, if_pos rfl, Int.toNat_natCast]
      congr 3
      simp
      omega)
    obtain ⟨u, hu⟩ : ∃ u, u = par (decide (((tightK (kindAt L ja) : Nat) : Int) < 3)) (tl L ja) := ⟨_, rfl⟩
    have HU : Hid (u.length ≤ 1000000000000000002) := Lib.hid (by rw [hu]; have h1 := par_len (decide (((tightK (kindAt L ja) : Nat) : Int) < 3)) (tl L ja); have h2 := hlen ja (by have := HJI.out; omega); omega)
    have HP : Hid (Calls Tryz.prog 39 #[.int .i64 (ja : Int), .int .i64 3, ptr bx] w2 fun r w' => r = .returned (.string (bs u)) ∧ Below w2.heap.size w2 w') := Lib.hid (by rw [hu]; exact part_any L ja W (ih ja HJI.out) (by have := HJI.out; omega) 3 bx _ w2 HX2.out HR2.out HW2.out (by have := hlen ja (by omega); omega))
    rw [← hu] at HTT
    clear hu hpa
    have hadd1 : ∀ w, (Op.stringOp .add ⟨#[33]⟩ (bs u)).run Tryz.prog w = .ok (.string (bs (33 :: u))) w := fun w => add_bs [33] u (by have := HU.out; simp; omega) w
    go_wp2_with (go_at_call 39; refine HP.out.mono ?_; rintro r w3 ⟨rfl, hb3⟩; have HB3 : Hid (Below w.heap.size w w3) := Lib.hid (below_and HB2.out hb3); clear hb3)
    go_ret
    exact ⟨by rw [HTT.out]; rfl, HB3.out⟩
  have b7 : (k == 7) = false := by simpa using k7
  by_cases k8 : k = 8
  · subst k8
    clear b1 b2 b3 b4 b5 b7 k1 k2 k3 k4 k5 k7
    have hpa := HPA.out na (by simp [parts])
    have hpb := HPA.out nb (by simp [parts])
    obtain ⟨ja, hja⟩ : ∃ ja : Nat, na = (ja : Int) := ⟨na.toNat, by omega⟩
    obtain ⟨jb, hjb⟩ : ∃ jb : Nat, nb = (jb : Int) := ⟨nb.toNat, by omega⟩
    subst hja
    subst hjb
    have HJA : Hid (ja < i) := Lib.hid (by omega)
    have HJB : Hid (jb < i) := Lib.hid (by omega)
    obtain ⟨PL, hPL⟩ : ∃ PL : Int → Int → List UInt8, ∀ (j : Nat) (m : Int), PL (j : Int) m = par (decide (((tightK (kindAt L j) : Nat) : Int) < m)) (tl L j) := ⟨fun j m => par (decide (((tightK (kindAt L j.toNat) : Nat) : Int) < m)) (tl L j.toNat), fun j m => by simp⟩
    have HTT : Hid (bs t = bs (PL ja 2 ++ 32 :: 38 :: 32 :: PL jb 3)) := Lib.hid (by
      have ea : decide (tightK (kindAt L ja) < 2) = decide (((tightK (kindAt L ja) : Nat) : Int) < 2) := by congr 1; simp; omega
      have eb : decide (tightK (kindAt L jb) < 3) = decide (((tightK (kindAt L jb) : Nat) : Int) < 3) := by congr 1; simp; omega
      rw [HT.out, HEQ.out]
      simp only [Int.toNat_natCast]
      rw [ea, eb, ← hPL, ← hPL]
      rfl)
    have HPN : Hid (∀ (j : Nat) (m : Int), j < i → (PL j m).length ≤ 1000000000000000002) := Lib.hid (fun j m hj => by rw [hPL]; have h1 := par_len (decide (((tightK (kindAt L j) : Nat) : Int) < m)) (tl L j); have h2 := hlen j (by omega); omega)
    have HAB : Hid (∀ (s : Past w2) (x m : Int), 0 ≤ x → x < (i : Int) → Calls Tryz.prog 39 #[.int .i64 x, .int .i64 m, ptr bx] s.val fun r w' => r = .returned (.string (bs (PL x m))) ∧ Below s.val.heap.size s.val w') := Lib.hid (fun s x m h0 h1 => by
      obtain ⟨j, rfl⟩ : ∃ j : Nat, x = (j : Int) := ⟨x.toNat, by omega⟩
      rw [hPL]
      exact part_any L j W (ih j (by omega)) (by omega) m bx _ s.val ((s.h.cell (World.block_lt_of_cell? w2 _ HX2.out)).trans HX2.out) (HR2.out.below s.h) (hW _ _ HW2.out s.h) (by have := hlen j (by omega); omega))
    clear hPL
    have p4 : ∀ s : Past w2, s.val.cell? ⟨Y, 4, none⟩ = some (.int .i64 (ja : Int)) := Past.blk HY2.out (j := 4) rfl
    have p5 : ∀ s : Past w2, s.val.cell? ⟨Y, 5, none⟩ = some (.int .i64 (jb : Int)) := Past.blk HY2.out (j := 5) rfl
    have HUA := Lib.hid (HPN.out ja 2 HJA.out)
    have HUB := Lib.hid (HPN.out jb 3 HJB.out)
    obtain ⟨ua, hua⟩ : ∃ ua, ua = PL (ja : Int) 2 := ⟨_, rfl⟩
    obtain ⟨ub, hub⟩ : ∃ ub, ub = PL (jb : Int) 3 := ⟨_, rfl⟩
    have hadd1 : ∀ w, (Op.stringOp .add (bs (PL ja 2)) ⟨#[32, 38, 32]⟩).run Tryz.prog w = .ok (.string (bs (ua ++ [32, 38, 32]))) w := fun w => by rw [← hua] at HUA ⊢; exact add_bs ua [32, 38, 32] (by have := HUA.out; simp; omega) w
    have hadd2 : ∀ w, (Op.stringOp .add (bs (ua ++ [32, 38, 32])) (bs (PL jb 3))).run Tryz.prog w = .ok (.string (bs (ua ++ [32, 38, 32] ++ ub))) w := fun w => by rw [← hua] at HUA; rw [← hub] at HUB ⊢; exact add_bs (ua ++ [32, 38, 32]) ub (by have := HUA.out; have := HUB.out; simp; omega) w
    rw [← hua, ← hub] at HTT
    clear hua hub hpa hpb HUA HUB
    go_upto_region 17 with fail
    refine wp_region_past (by kernel_rfl) (by kernel_rfl) ?_
    repeat (go_big_quiet_step ((go_at_call 39; exact past_call (HAB.out _ _ _ (by omega) (by have := HJA.out; have := HJB.out; omega)))))
    refine wpQuiet_nil ?_
    intro _ hw'
    obtain ⟨s9, hw''⟩ := hw'
    subst hw''
    go_wp2
    go_ret
    exact ⟨by rw [HTT.out]; simp, below_and HB2.out s9.h⟩
  have b8 : (k == 8) = false := by simpa using k8
  by_cases k9 : k = 9
  · subst k9
    clear b1 b2 b3 b4 b5 b7 b8 k1 k2 k3 k4 k5 k7 k8
    have hpa := HPA.out na (by simp [parts])
    have hpb := HPA.out nb (by simp [parts])
    obtain ⟨ja, hja⟩ : ∃ ja : Nat, na = (ja : Int) := ⟨na.toNat, by omega⟩
    obtain ⟨jb, hjb⟩ : ∃ jb : Nat, nb = (jb : Int) := ⟨nb.toNat, by omega⟩
    subst hja
    subst hjb
    have HJA : Hid (ja < i) := Lib.hid (by omega)
    have HJB : Hid (jb < i) := Lib.hid (by omega)
    obtain ⟨PL, hPL⟩ : ∃ PL : Int → Int → List UInt8, ∀ (j : Nat) (m : Int), PL (j : Int) m = par (decide (((tightK (kindAt L j) : Nat) : Int) < m)) (tl L j) := ⟨fun j m => par (decide (((tightK (kindAt L j.toNat) : Nat) : Int) < m)) (tl L j.toNat), fun j m => by simp⟩
    have HTT : Hid (bs t = bs (PL ja 1 ++ 32 :: 124 :: 32 :: PL jb 2)) := Lib.hid (by
      have ea : decide (tightK (kindAt L ja) < 1) = decide (((tightK (kindAt L ja) : Nat) : Int) < 1) := by congr 1; simp; omega
      have eb : decide (tightK (kindAt L jb) < 2) = decide (((tightK (kindAt L jb) : Nat) : Int) < 2) := by congr 1; simp; omega
      rw [HT.out, HEQ.out]
      simp only [Int.toNat_natCast]
      rw [ea, eb, ← hPL, ← hPL]
      rfl)
    have HPN : Hid (∀ (j : Nat) (m : Int), j < i → (PL j m).length ≤ 1000000000000000002) := Lib.hid (fun j m hj => by rw [hPL]; have h1 := par_len (decide (((tightK (kindAt L j) : Nat) : Int) < m)) (tl L j); have h2 := hlen j (by omega); omega)
    have HAB : Hid (∀ (s : Past w2) (x m : Int), 0 ≤ x → x < (i : Int) → Calls Tryz.prog 39 #[.int .i64 x, .int .i64 m, ptr bx] s.val fun r w' => r = .returned (.string (bs (PL x m))) ∧ Below s.val.heap.size s.val w') := Lib.hid (fun s x m h0 h1 => by
      obtain ⟨j, rfl⟩ : ∃ j : Nat, x = (j : Int) := ⟨x.toNat, by omega⟩
      rw [hPL]
      exact part_any L j W (ih j (by omega)) (by omega) m bx _ s.val ((s.h.cell (World.block_lt_of_cell? w2 _ HX2.out)).trans HX2.out) (HR2.out.below s.h) (hW _ _ HW2.out s.h) (by have := hlen j (by omega); omega))
    clear hPL
    have p4 : ∀ s : Past w2, s.val.cell? ⟨Y, 4, none⟩ = some (.int .i64 (ja : Int)) := Past.blk HY2.out (j := 4) rfl
    have p5 : ∀ s : Past w2, s.val.cell? ⟨Y, 5, none⟩ = some (.int .i64 (jb : Int)) := Past.blk HY2.out (j := 5) rfl
    have HUA := Lib.hid (HPN.out ja 1 HJA.out)
    have HUB := Lib.hid (HPN.out jb 2 HJB.out)
    obtain ⟨ua, hua⟩ : ∃ ua, ua = PL (ja : Int) 1 := ⟨_, rfl⟩
    obtain ⟨ub, hub⟩ : ∃ ub, ub = PL (jb : Int) 2 := ⟨_, rfl⟩
    have hadd1 : ∀ w, (Op.stringOp .add (bs (PL ja 1)) ⟨#[32, 124, 32]⟩).run Tryz.prog w = .ok (.string (bs (ua ++ [32, 124, 32]))) w := fun w => by rw [← hua] at HUA ⊢; exact add_bs ua [32, 124, 32] (by have := HUA.out; simp; omega) w
    have hadd2 : ∀ w, (Op.stringOp .add (bs (ua ++ [32, 124, 32])) (bs (PL jb 2))).run Tryz.prog w = .ok (.string (bs (ua ++ [32, 124, 32] ++ ub))) w := fun w => by rw [← hua] at HUA; rw [← hub] at HUB ⊢; exact add_bs (ua ++ [32, 124, 32]) ub (by have := HUA.out; have := HUB.out; simp; omega) w
    rw [← hua, ← hub] at HTT
    clear hua hub hpa hpb HUA HUB
    go_upto_region 19 with fail
    refine wp_region_past (by kernel_rfl) (by kernel_rfl) ?_
    repeat (go_big_quiet_step ((go_at_call 39; exact past_call (HAB.out _ _ _ (by omega) (by have := HJA.out; have := HJB.out; omega)))))
    refine wpQuiet_nil ?_
    intro _ hw'
    obtain ⟨s9, hw''⟩ := hw'
    subst hw''
    go_wp2
    go_ret
    exact ⟨by rw [HTT.out]; simp, below_and HB2.out s9.h⟩
  have b9 : (k == 9) = false := by simpa using k9
  have HTT : Hid (bs t = bs nm) := Lib.hid (by rw [HT.out, HEQ.out, if_neg k7, if_neg k8, if_neg k9]; unfold ltx; rw [if_neg k1, if_neg k2, if_neg k3, if_neg k4, if_neg k5])
  clear k1 k2 k3 k4 k5 k7 k8 k9
  go_wp2
  go_ret
  exact ⟨by rw [HTT.out]; rfl, HB2.out⟩
end Go.Proofs.YtdnoceancoclmaaGreatDoor.Ru

namespace Go.Proofs.YtdnoceancoclmaaGreatDoor.Ru

def cntL (n : Nat) (Q : List Int) : List Int := (List.range n).map (fun j : Nat => (Q.count (j : Int) : Int))
theorem cntL_len (n : Nat) (Q : List Int) : (cntL n Q).length = n := by unfold cntL; simp
theorem cntL_at {n : Nat} {Q : List Int} {j : Nat} (h : j < n) : (cntL n Q)[j]? = some (Q.count (j : Int) : Int) := by
  unfold cntL
  rw [List.getElem?_map, List.getElem?_range h]
  rfl
theorem cntL_snoc {n : Nat} {Q : List Int} {k : Nat} (h : k < n) : cntL n (Q ++ [(k : Int)]) = (cntL n Q).set k ((Q.count (k : Int) : Int) + 1) := by
  refine List.ext_getElem? fun j => ?_
  by_cases hj : j < n
  · rw [cntL_at hj, List.getElem?_set, List.count_append]
    by_cases e : k = j
    · subst e
      rw [if_pos rfl, if_pos (by rw [cntL_len]; exact h)]
      simp
    · rw [if_neg e, cntL_at hj]
      have : ([(k : Int)] : List Int).count (j : Int) = 0 := by
        rw [List.count_eq_zero]
        simp
        omega
      rw [this]
      rfl
  · rw [List.getElem?_eq_none (by rw [cntL_len]; omega), List.getElem?_eq_none (by rw [List.length_set, cntL_len]; omega)]
theorem cntL_nil (n : Nat) : cntL n [] = List.replicate n 0 := by
  unfold cntL
  refine List.ext_getElem? fun j => ?_
  by_cases hj : j < n
  · rw [List.getElem?_map, List.getElem?_range hj, List.getElem?_replicate, if_pos hj]; simp
  · rw [List.getElem?_eq_none (by simp; omega), List.getElem?_eq_none (by simp; omega)]
/-- what the first i nodes ask for -/
def qs (L : List Nd) (i : Nat) : List Int := (L.take i).flatMap parts
theorem qs_succ {L : List Nd} {i : Nat} (h : i < L.length) : qs L (i + 1) = qs L i ++ parts L[i] := by
  unfold qs
  rw [List.take_succ_eq_append_getElem h, List.flatMap_append]
  simp
theorem qs_all (L : List Nd) : qs L L.length = L.flatMap parts := by unfold qs; rw [List.take_length]
theorem parts_le (n : Nd) : (parts n).length ≤ 2 := by
  unfold parts
  split
  · simp
  · split <;> simp
theorem qs_len (L : List Nd) : ∀ i, i ≤ L.length → (qs L i).length ≤ 2 * i
  | 0, _ => by unfold qs; simp
  | i + 1, h => by
    rw [qs_succ (by omega), List.length_append]
    have := qs_len L i (by omega)
    have := parts_le L[i]
    omega
theorem shaped_len {L : List Nd} (h : ¬ (1 ≤ L.length ∧ L.length ≤ 64)) : shapedB L = false := by
  unfold shapedB
  rw [decide_eq_false h]
  rfl
theorem shaped_node {L : List Nd} {i : Nat} (hi : i < L.length) (h : fineB i L[i] = false) : shapedB L = false := by
  unfold shapedB
  have : (List.range L.length).all (fun i => fineB i ((L[i]?).getD ⟨0, [], [], 0, 0, 0⟩)) = false := by
    rw [List.all_eq_false]
    refine ⟨i, List.mem_range.2 hi, ?_⟩
    rw [List.getElem?_eq_getElem hi]
    simp [h]
  rw [this]
  simp
theorem shaped_used {L : List Nd} {j : Nat} (hj : j < L.length - 1) (h : (L.flatMap parts).count (j : Int) ≠ 1) : shapedB L = false := by
  unfold shapedB
  have : (List.range (L.length - 1)).all (fun j => decide (refs L j = 1)) = false := by
    rw [List.all_eq_false]
    refine ⟨j, List.mem_range.2 hj, ?_⟩
    unfold refs
    simp only [decide_eq_true_eq]
    exact h
  rw [this]
  simp
theorem shaped_last {L : List Nd} (hl : 1 ≤ L.length ∧ L.length ≤ 64) (hf : ∀ i (h : i < L.length), fineB i L[i] = true) (hu : ∀ j, j < L.length - 1 → (L.flatMap parts).count (j : Int) = 1) :
    shapedB L = decide (((L.flatMap parts).count ((L.length - 1 : Nat) : Int) : Int) = 0) := by
  unfold shapedB
  have h1 : (List.range L.length).all (fun i => fineB i ((L[i]?).getD ⟨0, [], [], 0, 0, 0⟩)) = true := by
    rw [List.all_eq_true]
    intro i hi
    rw [List.mem_range] at hi
    rw [List.getElem?_eq_getElem hi]
    exact hf i hi
  have h2 : (List.range (L.length - 1)).all (fun j => decide (refs L j = 1)) = true := by
    rw [List.all_eq_true]
    intro j hj
    rw [List.mem_range] at hj
    unfold refs
    rw [decide_eq_true_eq]
    exact hu j hj
  rw [decide_eq_true hl, h1, h2]
  unfold refs
  simp only [Bool.true_and]
  congr 1
  simp
theorem shaped_fine {L : List Nd} (h : shapedB L = true) : Fine L ∧ (∀ j, refs L j ≤ 1) ∧ 1 ≤ L.length ∧ L.length ≤ 64 := by
  unfold shapedB at h
  simp only [Bool.and_eq_true, decide_eq_true_eq, List.all_eq_true, List.mem_range] at h
  obtain ⟨⟨⟨h1, h2⟩, h3⟩, h4⟩ := h
  have hF : Fine L := fun i n hi p hp => by
    have hlt : i < L.length := by
      rcases Nat.lt_or_ge i L.length with h' | h'
      · exact h'
      · rw [List.getElem?_eq_none h'] at hi; cases hi
    have := h2 i hlt
    rw [hi] at this
    unfold fineB at this
    simp only [Option.getD_some, Bool.and_eq_true, List.all_eq_true, decide_eq_true_eq] at this
    exact this.2 p hp
  refine ⟨hF, fun j => ?_, h1⟩
  by_cases e1 : j < L.length - 1
  · rw [h3 j e1]; omega
  by_cases e2 : j = L.length - 1
  · rw [e2, h4]; omega
  have : refs L j = 0 := by
    unfold refs
    rw [List.count_eq_zero]
    intro hm
    obtain ⟨n, hn, hp⟩ := List.mem_flatMap.1 hm
    obtain ⟨k, hk, rfl⟩ := List.mem_iff_getElem.1 hn
    have := hF k _ (List.getElem?_eq_getElem hk) _ hp
    omega
  omega
theorem fine7 {i : Nat} {n : Nd} (h : n.k = 7) : fineB i n = (decide (n.b = -1) && decide (0 ≤ n.a ∧ n.a < i)) := by
  unfold fineB parts
  rw [if_pos h, if_pos h]
  simp
theorem fine89 {i : Nat} {n : Nd} (h : n.k = 8 ∨ n.k = 9) : fineB i n = (decide (0 ≤ n.a ∧ n.a < i) && decide (0 ≤ n.b ∧ n.b < i)) := by
  have h7 : n.k ≠ 7 := by omega
  unfold fineB parts
  rw [if_neg h7, if_pos h, if_neg h7, if_pos h]
  simp
theorem fine0 {i : Nat} {n : Nd} (h7 : n.k ≠ 7) (h : ¬ (n.k = 8 ∨ n.k = 9)) : fineB i n = decide (n.a = -1 ∧ n.b = -1) := by
  unfold fineB parts
  rw [if_neg h7, if_neg h, if_neg h7, if_neg h]
  simp
theorem parts7 {n : Nd} (h : n.k = 7) : parts n = [n.a] := by unfold parts; rw [if_pos h]
theorem parts89 {n : Nd} (h : n.k = 8 ∨ n.k = 9) : parts n = [n.a, n.b] := by
  unfold parts
  rw [if_neg (by omega), if_pos h]
theorem parts0 {n : Nd} (h7 : n.k ≠ 7) (h : ¬ (n.k = 8 ∨ n.k = 9)) : parts n = [] := by
  unfold parts
  rw [if_neg h7, if_neg h]
end Go.Proofs.YtdnoceancoclmaaGreatDoor.Ru

namespace Go.Proofs.YtdnoceancoclmaaGreatDoor.Ru
open Go.RowKit Go.Proofs.YtdnoceancoclmaaGreatDoor

/-- what told asks of a node's texts -/
def Fit1 (n : Nd) : Prop := n.nm.length ≤ 1000000000000000 ∧ n.vl.length ≤ 1000000000000000 ∧ -9223372036854775808 ≤ n.x ∧ n.x ≤ 9223372036854775807
theorem ltx_len (n : Nd) (h0 : -9223372036854775808 ≤ n.x) (h1 : n.x ≤ 9223372036854775807) : (ltx n.k n.nm n.vl n.x).length ≤ n.nm.length + n.vl.length + 26 := by
  have hi := Lib.itoa_length_le n.x h0 h1
  unfold ltx
  repeat' split
  all_goals ((try simp only [List.length_append, List.length_cons, anyT, List.length_nil]); omega)
theorem cost_le (n : Nd) (h0 : -9223372036854775808 ≤ n.x) (h1 : n.x ≤ 9223372036854775807) : cost n ≤ n.nm.length + n.vl.length + 34 := by
  have := ltx_len n h0 h1
  unfold cost
  omega
theorem sum_cost (M : Nat) : ∀ L : List Nd, (∀ n ∈ L, cost n ≤ M) → (L.map cost).sum ≤ L.length * M
  | [], _ => by simp
  | n :: L, h => by
    have h1 := h n (by simp)
    have h2 := sum_cost M L (fun x hx => h x (by simp [hx]))
    rw [List.map_cons, List.sum_cons, List.length_cons, Nat.add_mul]
    omega
theorem told_long {L : List Nd} (hf : Fine L) (h1 : ∀ j, refs L j ≤ 1) (hl : L.length ≤ 64) (hc : ∀ n ∈ L, Fit1 n) {i : Nat} (hi : i < L.length) : (tl L i).length ≤ 1000000000000000000 := by
  have h := told_le hf h1 hi
  have h2 := sum_cost 2000000000000034 L (fun n hn => by
    obtain ⟨a, b, c, d⟩ := hc n hn
    have := cost_le n c d
    omega)
  have h3 : L.length * 2000000000000034 ≤ 64 * 2000000000000034 := Nat.mul_le_mul_right _ hl
  omega
theorem told_any {L : List Nd} (hf : Fine L) (h1 : ∀ j, refs L j ≤ 1) (hl : L.length ≤ 64) (hc : ∀ n ∈ L, Fit1 n) : ∀ (m i : Nat), i < m → i < L.length → ToldC L i Tab
  | 0, _, h, _ => absurd h (by omega)
  | m + 1, i, h, hi => told_step L hf i hi Tab (fun _ _ h hb => h.below hb) (fun _ h => h) (fun j hj => told_any hf h1 hl hc m j (by omega) (by omega)) (fun j hj => told_long hf h1 hl hc hj) hc

/-! of what was read -/
theorem flat_nodes : ∀ (t : Tr) (b : Nat), t.ok → ∀ n ∈ t.flat b, n.nm.length ≤ 24 ∧ n.vl.length ≤ 32 ∧ 0 ≤ n.x ∧ n.x ≤ 999999999999
  | .lf k nm vl x, b, ho, n, hn => by
    simp only [Tr.flat, List.mem_singleton] at hn
    subst hn
    unfold Tr.ok leafOk nameOk wordOk at ho
    rcases ho with ⟨rfl, rfl, rfl, rfl⟩ | ⟨-, h1, h2, rfl⟩ | ⟨-, h1, rfl, h2, h3⟩ | ⟨rfl, h1, rfl, rfl⟩
    · simp
    · exact ⟨h1.1, h2.2.1, by simp, by simp⟩
    · exact ⟨h1.1, by simp, h2, h3⟩
    · exact ⟨h1.1, by simp, by simp, by simp⟩
  | .no t, b, ho, n, hn => by
    simp only [Tr.flat, List.mem_append, List.mem_singleton] at hn
    rcases hn with hn | rfl
    · exact flat_nodes t b ho n hn
    · simp
  | .an l r, b, ho, n, hn => by
    simp only [Tr.flat, List.mem_append, List.mem_singleton] at hn
    rcases hn with (hn | hn) | rfl
    · exact flat_nodes l b ho.1 n hn
    · exact flat_nodes r _ ho.2 n hn
    · simp
  | .o l r, b, ho, n, hn => by
    simp only [Tr.flat, List.mem_append, List.mem_singleton] at hn
    rcases hn with (hn | hn) | rfl
    · exact flat_nodes l b ho.1 n hn
    · exact flat_nodes r _ ho.2 n hn
    · simp
theorem flat_fine (t : Tr) (ho : t.ok) (hs : t.size ≤ 64) : Fine (t.flat 0) ∧ (∀ j, refs (t.flat 0) j ≤ 1) ∧ 1 ≤ (t.flat 0).length ∧ (t.flat 0).length ≤ 64 := shaped_fine (shaped_flat t ho hs)
theorem flat_fit (t : Tr) (ho : t.ok) : ∀ n ∈ t.flat 0, Fit1 n := fun n hn => by
  obtain ⟨h1, h2, h3, h4⟩ := flat_nodes t 0 ho n hn
  exact ⟨by omega, by omega, by omega, by omega⟩
theorem flat_told (t : Tr) (ho : t.ok) (hs : t.size ≤ 64) {i : Nat} (hi : i < (t.flat 0).length) : ToldC (t.flat 0) i Tab := by
  obtain ⟨h1, h2, h3, h4⟩ := flat_fine t ho hs
  exact told_any h1 h2 h4 (flat_fit t ho) _ i (Nat.lt_succ_self _) hi
end Go.Proofs.YtdnoceancoclmaaGreatDoor.Ru
