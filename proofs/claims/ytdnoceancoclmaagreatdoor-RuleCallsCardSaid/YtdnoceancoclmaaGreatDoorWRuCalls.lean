/- WRuCalls. -/
import Derived.Test.YtdnoceancoclmaaGreatDoorM43
import Derived.Test.YtdnoceancoclmaaGreatDoorM45
import Derived.Test.YtdnoceancoclmaaGreatDoorM40
import Derived.Test.YtdnoceancoclmaaGreatDoorM37
import Derived.Test.YtdnoceancoclmaaGreatDoorRuLawP
import Derived.Test.YtdnoceancoclmaaGreatDoorRdOpen
import Derived.Test.YtdnoceancoclmaaGreatDoorTexts
namespace Go.Proofs.YtdnoceancoclmaaGreatDoor.Ru
open Go.RowKit Go.Proofs.YtdnoceancoclmaaGreatDoor

theorem text_uni {w w' : World} {L : List Nd} {r : Ending} (h : TextS w w' L r) : r = .returned (.tuple #[.string (if checkP L = 0 then bs (toldA L) else ⟨#[]⟩), .int .i64 (checkP L)]) ∧ Below w.heap.size w w' := by
  obtain ⟨h1, h2⟩ := h
  refine ⟨?_, h2⟩
  split at h1
  · rename_i hc; rw [if_pos hc, hc]; exact h1
  · rename_i hc; rw [if_neg hc]; exact h1
def ndL (L : List Nd) : List (List UInt8) := if checkP L = 0 then namesD L else []
theorem names_uni {w w' : World} {L : List Nd} {r : Ending} (h : NamesS w w' L r) : ∃ q c, r = .returned (.tuple #[.slice q (ndL L).length c, .int .i64 (checkP L)]) ∧ Row w' (.slice q (ndL L).length c) 1 (ndL L).length ((ndL L).map sV) ∧ Below w.heap.size w w' := by
  obtain ⟨h1, h2⟩ := h
  unfold ndL
  split at h1
  · rename_i hc
    obtain ⟨o, h3, h4⟩ := h1
    obtain ⟨p, c, rfl, -⟩ := id h4
    rw [if_pos hc, hc]
    exact ⟨p, c, h3, h4, h2⟩
  · rename_i hc
    rw [if_neg hc, (chk_two L).resolve_left hc]
    exact ⟨none, 0, h1, row_nil _ 1, h2⟩
theorem same_sV {w : World} {v1 v2 : Value} (l : List (List UInt8)) (h1 : Row w v1 1 l.length (l.map sV)) (h2 : Row w v2 1 l.length (l.map sV)) :
    Calls Tryz.prog 17 #[v1, v2] w fun e w' => e = .returned (.bool true) ∧ Below w.heap.size w w' := by
  have ht : ∀ v, Row w v 1 l.length (l.map sV) → Texts w v (l.map bs) := fun v h => by
    unfold Texts
    rw [List.length_map]
    have e : (l.map bs).map Value.string = l.map sV := by rw [List.map_map]; rfl
    first | (rw [e]; exact h) | (unfold strV; rw [e]; exact h) | (simpa [sV] using h)
  have := sametexts_any v1 v2 _ _ w (ht _ h1) (ht _ h2)
  rw [show ∀ a : List ByteArray, sameT a a = true from fun a => by unfold sameT; simp] at this
  exact this
set_option maxRecDepth 100000 in
set_option maxHeartbeats 4000000 in
theorem ruleCalls_walk (v : Value) (L : List Nd) (u : Value) (A : List At) (w : World) (hv : Row w v 6 L.length (rwC ndC L)) (hc : ∀ n ∈ L, NdB n) (hbl : L.length * 64 ≤ 140737488351232) (hu : Row w u 2 A.length (rwC atC A)) (ha : ∀ a ∈ A, AtB a) (hbu : A.length * 32 ≤ 140737488351232) (hE : ErrV w) (hT : Tab w) :
    Calls Tryz.prog 3 #[.agg #[v], u] w fun r w' => r = .returned (.bool true) ∧ Below w.heap.size w w' := by
  have HV := Lib.hid hv
  have HU := Lib.hid hu
  have HEN : Hid (∀ w', Below w.heap.size w w' → ErrV w' ∧ Tab w') := Lib.hid (fun w' hb => ⟨hE.below hb, hT.below hb⟩)
  have HC := Lib.hid hc
  have HA := Lib.hid ha
  have HBL := Lib.hid hbl
  have HBU := Lib.hid hbu
  obtain ⟨p, c, rfl, hcp, hm, -⟩ := hv
  obtain ⟨pu, cu, rfl, hcu, hmu, -⟩ := hu
  obtain ⟨w0, hw0⟩ : ∃ w0, w0 = w.alloc (.cells #[.slice p L.length c] 24) := ⟨_, rfl⟩
  obtain ⟨B, hB⟩ : ∃ B, B = w.heap.size := ⟨_, rfl⟩
  have HB0 : Hid (Below w.heap.size w w0) := Lib.hid (by rw [hw0]; exact below_alloc w _)
  have X0 : Hid (Blk w0 B [.slice p L.length c] 24) := Lib.hid (by rw [hw0, hB]; exact Blk.made w [.slice p L.length c] _)
  have hml : maxLen ≤ 9223372036854775807 := by decide
  have hn63 : (L.length : Int) ≤ 9223372036854775807 := by omega
  have ha63 : (A.length : Int) ≤ 9223372036854775807 := by omega
  have HLV := Lib.hid (lives_any w0 (HEN.out _ HB0.out))
  have HLR : Hid (∀ wx, Below w.heap.size w wx → Calls Tryz.prog 5 #[.agg #[.slice p L.length c]] wx fun r w' => ∃ q d, r = .returned (.agg #[.slice q L.length d]) ∧ Row w' (.slice q L.length d) 6 L.length (rwC ndC L) ∧ Below wx.heap.size wx w') := Lib.hid (fun wx hb => lendR_any _ L wx (HV.out.below hb) hbl)
  have HLD : Hid (∀ wx, Below w.heap.size w wx → Calls Tryz.prog 6 #[.slice pu A.length cu] wx fun r w' => ∃ q d, r = .returned (.slice q A.length d) ∧ Row w' (.slice q A.length d) 2 A.length (rwC atC A) ∧ Below wx.heap.size wx w') := Lib.hid (fun wx hb => lendA_any _ A wx (HU.out.below hb) hbu)
  clear hcp hm hcu hmu hml hbl hbu hE hT hc ha
  go_enter Tryz.func3, Tryz.ntmps3
  go_upto_region 1 with fail
  rw [← hw0, ← hB]
  clear hw0 hB
  go_upto_region 3 with (go_at_call 4; refine HLV.out.mono ?_; rintro r w1 ⟨rfl, hb⟩; have HB1 := Lib.hid (below_and HB0.out hb); have X1 := Lib.hid (X0.out.kept hb); have x1 := (X0.out.kept hb).cell (j := 0) rfl; clear hb)
  go_upto_region 4 with (first
    | (go_at_call 5; refine (HLR.out _ HB1.out).mono ?_; rintro r w2 ⟨q, d, rfl, hr, hb⟩; have HO2 := Lib.hid hr; have HB2 := Lib.hid (below_and HB1.out hb); have X2 := Lib.hid (X1.out.kept hb); clear hr hb)
    | (go_at_call 6; refine (HLD.out _ HB2.out).mono ?_; rintro r w3 ⟨qa, da, rfl, hr, hb⟩; have HA3 := Lib.hid hr; have HO3 := Lib.hid (HO2.out.below hb); have HB3 := Lib.hid (below_and HB2.out hb); have X3 := Lib.hid (X2.out.kept hb); clear hr hb))
  refine at_hide (F := fun w' => Blk w' w3.heap.size [.slice q L.length d] 24 ∧ Below w3.heap.size w3 w') ⟨Blk.made w3 [.slice q L.length d] _, below_alloc w3 _⟩ ?_
  intro w4 hF
  obtain ⟨Y, hY⟩ : ∃ Y, Y = w3.heap.size := ⟨_, rfl⟩
  rw [← hY] at hF ⊢
  have Y4 := Lib.hid hF.1
  have hb4 : Below w3.heap.size w3 w4 := by rw [← hY]; exact hF.2
  have HB4 : Hid (Below w.heap.size w w4) := Lib.hid (below_and HB3.out hb4)
  have X4 := Lib.hid (X3.out.kept hb4)
  have HO4 := Lib.hid (HO3.out.below hb4)
  have HA4 := Lib.hid (HA3.out.below hb4)
  clear hF hY hb4 x1
  have HFX : Hid (∀ w', Below w4.heap.size w4 w' → w'.cell? ⟨B, 0, none⟩ = some (.slice p L.length c)) := Lib.hid (fun w' hb => (X4.out.kept hb).cell (j := 0) rfl)
  have HFY : Hid (∀ w', Below w4.heap.size w4 w' → w'.cell? ⟨Y, 0, none⟩ = some (.slice q L.length d)) := Lib.hid (fun w' hb => (Y4.out.kept hb).cell (j := 0) rfl)
  obtain ⟨ck, hck⟩ : ∃ ck, ck = checkP L := ⟨_, rfl⟩
  obtain ⟨ar, har⟩ : ∃ ar, ar = attrsR A := ⟨_, rfl⟩
  obtain ⟨tx, htx⟩ : ∃ tx, tx = (if checkP L = 0 then bs (toldA L) else ⟨#[]⟩) := ⟨_, rfl⟩
  obtain ⟨ho, hho⟩ : ∃ ho, ho = (holdsR L A).1 := ⟨_, rfl⟩
  obtain ⟨he, hhe⟩ : ∃ he, he = (holdsR L A).2 := ⟨_, rfl⟩
  obtain ⟨M, hM⟩ : ∃ M, M = ndL L := ⟨_, rfl⟩
  have HCP : Hid (∀ w', Below w4.heap.size w4 w' → Calls Tryz.prog 7 #[.agg #[.slice q L.length d]] w' fun r w2 => r = .returned (.int .i64 ck) ∧ Below w'.heap.size w' w2) := Lib.hid (fun w' hb => by
    have hbw := below_and HB4.out hb
    rw [hck]; exact check_any _ L w' (HO4.out.below hb) (fun n hn => (HC.out n hn).1) (HEN.out _ hbw).1 (HEN.out _ hbw).2)
  have HCD : Hid (∀ w', Below w4.heap.size w4 w' → Calls Tryz.prog 8 #[.agg #[.slice p L.length c]] w' fun r w2 => r = .returned (.int .i64 ck) ∧ Below w'.heap.size w' w2) := Lib.hid (fun w' hb => by
    have hbw := below_and HB4.out hb
    rw [hck, ← docChk_eq]; exact dcheck_any _ L w' (HV.out.below hbw) (fun n hn => (HC.out n hn).2))
  have HAP : Hid (∀ w', Below w4.heap.size w4 w' → Calls Tryz.prog 9 #[.slice qa A.length da] w' fun r w2 => r = .returned (.int .i64 ar) ∧ Below w'.heap.size w' w2) := Lib.hid (fun w' hb => by
    have hbw := below_and HB4.out hb
    rw [har]; exact attrs_any _ A w' (HA4.out.below hb))
  have HAD : Hid (∀ w', Below w4.heap.size w4 w' → Calls Tryz.prog 10 #[.slice pu A.length cu] w' fun r w2 => r = .returned (.int .i64 ar) ∧ Below w'.heap.size w' w2) := Lib.hid (fun w' hb => by
    have hbw := below_and HB4.out hb
    rw [har]; exact dattrs_any _ A w' (HU.out.below hbw) HA.out)
  have HTP : Hid (∀ w', Below w4.heap.size w4 w' → Calls Tryz.prog 11 #[.agg #[.slice q L.length d]] w' fun r w2 => r = .returned (.tuple #[.string tx, .int .i64 ck]) ∧ Below w'.heap.size w' w2) := Lib.hid (fun w' hb => by
    have hbw := below_and HB4.out hb
    rw [hck, htx]; exact (text_any _ L w' (HO4.out.below hb) (fun n hn => (HC.out n hn).1) (HEN.out _ hbw).1 (HEN.out _ hbw).2).mono (fun r w2 h => text_uni h))
  have HTD : Hid (∀ w', Below w4.heap.size w4 w' → Calls Tryz.prog 12 #[.agg #[.slice p L.length c]] w' fun r w2 => r = .returned (.tuple #[.string tx, .int .i64 ck]) ∧ Below w'.heap.size w' w2) := Lib.hid (fun w' hb => by
    have hbw := below_and HB4.out hb
    rw [hck, htx]; exact (dtext_any _ L w' (HV.out.below hbw) (fun n hn => (HC.out n hn).2)).mono (fun r w2 h => text_uni h))
  have HHP : Hid (∀ w', Below w4.heap.size w4 w' → Calls Tryz.prog 13 #[.agg #[.slice q L.length d], .slice qa A.length da] w' fun r w2 => r = .returned (.tuple #[.bool ho, .int .i64 he]) ∧ Below w'.heap.size w' w2) := Lib.hid (fun w' hb => by
    have hbw := below_and HB4.out hb
    rw [hho, hhe]; exact holds_any _ _ L A w' (HO4.out.below hb) (HA4.out.below hb) (fun n hn => (HC.out n hn).1) (fun a h => by have := (HA.out a h).2; omega) (HEN.out _ hbw).1 (HEN.out _ hbw).2)
  have HHD : Hid (∀ w', Below w4.heap.size w4 w' → Calls Tryz.prog 14 #[.agg #[.slice p L.length c], .slice pu A.length cu] w' fun r w2 => r = .returned (.tuple #[.bool ho, .int .i64 he]) ∧ Below w'.heap.size w' w2) := Lib.hid (fun w' hb => by
    have hbw := below_and HB4.out hb
    rw [hho, hhe]; exact dholds_any _ _ L A w' (HV.out.below hbw) (HU.out.below hbw) (fun n hn => (HC.out n hn).2) HA.out)
  have HNP : Hid (∀ w', Below w4.heap.size w4 w' → Calls Tryz.prog 15 #[.agg #[.slice q L.length d]] w' fun r w2 => ∃ qn cn, r = .returned (.tuple #[.slice qn M.length cn, .int .i64 ck]) ∧ Row w2 (.slice qn M.length cn) 1 M.length (M.map sV) ∧ Below w'.heap.size w' w2) := Lib.hid (fun w' hb => by
    have hbw := below_and HB4.out hb
    rw [hck, hM]; exact (pnames_any _ L w' (HO4.out.below hb) (fun n hn => (HC.out n hn).1) (HEN.out _ hbw).1 (HEN.out _ hbw).2).mono (fun r w2 h => names_uni h))
  have HND : Hid (∀ w', Below w4.heap.size w4 w' → Calls Tryz.prog 16 #[.agg #[.slice p L.length c]] w' fun r w2 => ∃ qn cn, r = .returned (.tuple #[.slice qn M.length cn, .int .i64 ck]) ∧ Row w2 (.slice qn M.length cn) 1 M.length (M.map sV) ∧ Below w'.heap.size w' w2) := Lib.hid (fun w' hb => by
    have hbw := below_and HB4.out hb
    rw [hck, hM]; exact (dnames_any _ L w' (HV.out.below hbw) (fun n hn => (HC.out n hn).2)).mono (fun r w2 h => names_uni h))
  have HSR : Hid (∀ w', Below w4.heap.size w4 w' → Calls Tryz.prog 18 #[.agg #[.slice q L.length d], .agg #[.slice p L.length c]] w' fun r w2 => r = .returned (.bool true) ∧ Below w'.heap.size w' w2) := Lib.hid (fun w' hb => by
    have hbw := below_and HB4.out hb
    have := same_rule _ _ L L w' (HO4.out.below hb) (HV.out.below hbw)
    rw [decide_eq_true rfl] at this
    exact this)
  clear hck har htx hho hhe hM
  have x4 : ∀ s : Past w4, s.val.cell? ⟨B, 0, none⟩ = some (.slice p L.length c) := fun s => HFX.out _ s.h
  have y4 : ∀ s : Past w4, s.val.cell? ⟨Y, 0, none⟩ = some (.slice q L.length d) := fun s => HFY.out _ s.h
  refine wp_region_past (by kernel_rfl) (by kernel_rfl) ?_
  repeat (go_big_quiet_step ((first | (go_at_call 7; exact past_call (HCP.out _ (Past.h _))) | (go_at_call 8; exact past_call (HCD.out _ (Past.h _))) | (go_at_call 9; exact past_call (HAP.out _ (Past.h _))) | (go_at_call 10; exact past_call (HAD.out _ (Past.h _))))))
  refine wpQuiet_nil ?_
  intro _ hw'
  obtain ⟨s9, hw''⟩ := hw'
  subst hw''
  obtain ⟨w5, h9, e9⟩ : ∃ wq, Below w4.heap.size w4 wq ∧ wq = s9.val := ⟨_, s9.h, rfl⟩
  rw [← e9]
  clear e9
  have HB5 := Lib.hid h9
  clear h9 x4 y4
  have x5 := HFX.out _ HB5.out
  have y5 := HFY.out _ HB5.out
  go_upto_region 7 with (go_at_call 11; refine (HTP.out _ HB5.out).mono ?_; rintro r w6 ⟨rfl, hb⟩; have HB6 := Lib.hid (below_and HB5.out hb); clear hb)
  have x6 := HFX.out _ HB6.out
  have y6 := HFY.out _ HB6.out
  clear x5 y5
  go_upto_region 8 with (go_at_call 12; refine (HTD.out _ HB6.out).mono ?_; rintro r w7 ⟨rfl, hb⟩; have HB7 := Lib.hid (below_and HB6.out hb); clear hb)
  have x7 := HFX.out _ HB7.out
  have y7 := HFY.out _ HB7.out
  clear x6 y6
  go_upto_region 9 with (go_at_call 13; refine (HHP.out _ HB7.out).mono ?_; rintro r w8 ⟨rfl, hb⟩; have HB8 := Lib.hid (below_and HB7.out hb); clear hb)
  have x8 := HFX.out _ HB8.out
  have y8 := HFY.out _ HB8.out
  clear x7 y7
  go_upto_region 10 with (go_at_call 14; refine (HHD.out _ HB8.out).mono ?_; rintro r w9 ⟨rfl, hb⟩; have HB9 := Lib.hid (below_and HB8.out hb); clear hb)
  have x9 := HFX.out _ HB9.out
  have y9 := HFY.out _ HB9.out
  clear x8 y8
  go_upto_region 11 with (go_at_call 15; refine (HNP.out _ HB9.out).mono ?_; rintro r w10 ⟨qn, cn, rfl, hr, hb⟩; have HB10 := Lib.hid (below_and HB9.out hb); have HN10 := Lib.hid hr; clear hr; clear hb)
  have x10 := HFX.out _ HB10.out
  have y10 := HFY.out _ HB10.out
  clear x9 y9
  go_upto_region 12 with (go_at_call 16; refine (HND.out _ HB10.out).mono ?_; rintro r w11 ⟨qd, cd, rfl, hr, hb⟩; have HB11 := Lib.hid (below_and HB10.out hb); have HD11 := Lib.hid hr; have HN11 := Lib.hid (HN10.out.below hb); clear hr; clear hb)
  have x11 := HFX.out _ HB11.out
  have y11 := HFY.out _ HB11.out
  clear x10 y10
  clear x11 y11
  obtain ⟨n, hn⟩ : ∃ n, n = A.length := ⟨_, rfl⟩
  have HNA := Lib.hid hn
  go_upto_region 13 with fail
  go_loopw [19] (fun i wr => ∃ k : Nat, k ≤ A.length ∧ i = .int .i64 (k : Int) ∧ Hid (Below w11.heap.size w11 wr)) (fun i _ => A.length - (intOf i).toNat)
  case atStart => exact ⟨0, Nat.zero_le _, rfl, Lib.hid (Below.refl _ _)⟩
  case round =>
    obtain ⟨k, hk, rfl, HB⟩ := hrel
    have HBr : Hid (Below w4.heap.size w4 wr) := Lib.hid (below_and HB11.out HB.out)
    have HBW : Hid (Below w.heap.size w wr) := Lib.hid (below_and HB4.out HBr.out)
    by_cases hlt : k < A.length
    rotate_left
    ·
      have g0 : ¬ ((k : Int) < (A.length : Int)) := by omega
      have HST := Lib.hid (same_sV M (HN11.out.below HB.out) (HD11.out.below HB.out))
      have HF2 : Hid (∀ w', Below wr.heap.size wr w' → w'.cell? ⟨B, 0, none⟩ = some (.slice p L.length c) ∧ w'.cell? ⟨Y, 0, none⟩ = some (.slice q L.length d)) := Lib.hid (fun w' hb => ⟨HFX.out _ (below_and HBr.out hb), HFY.out _ (below_and HBr.out hb)⟩)
      go_wp2_with (first
        | (go_at_call 17; refine HST.out.mono ?_; rintro r w12 ⟨rfl, hb⟩; have HB12 := Lib.hid (below_and HBr.out hb); have HBX := Lib.hid (below_and HBW.out hb); have xz := (HF2.out _ hb).1; have yz := (HF2.out _ hb).2; clear hb)
        | (go_at_call 18; refine (HSR.out _ HB12.out).mono ?_; rintro r w13 ⟨rfl, hb⟩; have HB13 := Lib.hid (below_and HBX.out hb); clear hb))
      go_ret
      exact ⟨rfl, HB13.out⟩
    have HKN := Lib.hid hlt
    obtain ⟨x, hx⟩ : ∃ x, x = A[k]'HKN.out := ⟨_, rfl⟩
    have HK1 := Lib.hid (attr_at (HU.out.below HBW.out) HKN.out)
    have HK2 := Lib.hid (attr_at (HA4.out.below HBr.out) HKN.out)
    rw [← hx] at HK1 HK2
    clear hx
    obtain ⟨b, o, rfl, a0, a1⟩ := HK1.out
    obtain ⟨b2, o2, rfl, e0, e1⟩ := HK2.out
    have p0 : ∀ s : Past wr, s.val.cell? ⟨b, o + k * 2, none⟩ = some (.string (bs x.nm)) := Past.cell a0
    have p1 : ∀ s : Past wr, s.val.cell? ⟨b, o + k * 2 + 1, none⟩ = some (.string (bs x.vl)) := Past.cell a1
    have r0 : ∀ s : Past wr, s.val.cell? ⟨b2, o2 + k * 2, none⟩ = some (.string (bs x.nm)) := Past.cell e0
    have r1 : ∀ s : Past wr, s.val.cell? ⟨b2, o2 + k * 2 + 1, none⟩ = some (.string (bs x.vl)) := Past.cell e1
    clear a0 a1 e0 e1 HK1 HK2
    have i0 : (0 : Int) ≤ (k : Int) := by omega
    have i1 : (k : Int) < (A.length : Int) := by omega
    go_upto_region 15 with fail
    refine wp_region_past (by kernel_rfl) (by kernel_rfl) ?_
    repeat (go_big_quiet_step (fail))
    refine wpQuiet_nil ?_
    intro _ hw'
    obtain ⟨s9, hw''⟩ := hw'
    subst hw''
    obtain ⟨w12, h9, e9⟩ : ∃ wq, Below wr.heap.size wr wq ∧ wq = s9.val := ⟨_, s9.h, rfl⟩
    rw [← e9]
    clear e9
    have HB12 : Hid (Below w11.heap.size w11 w12) := Lib.hid (below_and HB.out h9)
    clear h9
    go_wp2
    go_roundw
    case rel => exact ⟨k + 1, hlt, by go_num, HB12⟩
    case measure => simp [intOf]; omega
end Go.Proofs.YtdnoceancoclmaaGreatDoor.Ru
