/- , laid together: FtFit, FtLend0, FtMach, FtLives. -/
import Derived.Test.YtaipldegobjboaaDoorFtAt
import Derived.Deep.QuietTactic
import Derived.BigQuiet
namespace Go.Proofs.YtaipldegobjboaaDoor.Ft
open Go.RowKit Go.Proofs.YtaipldegobjboaaDoor Go.Proofs.YtaipldegobjboaaDoor.Ru

theorem step_is (N : Ne) (V : Vw) (s : Int × List UInt8 × Int) (u : Us) : stepF N V s u = if (decide (s.1 < atP N V (nmU u)) || (atP N V (nmU u) == s.1 && decide (0 < atP N V (nmU u)) && decide (u.i < s.2.2))) = true then (atP N V (nmU u), nmU u, u.i) else s := by
  unfold stepF
  simp only [gt_iff_lt, Bool.or_eq_true, Bool.and_eq_true, decide_eq_true_eq, beq_iff_eq, and_assoc]
theorem fold_take {α β : Type} (f : β → α → β) {l : List α} {k : Nat} (h : k < l.length) (s : β) : (l.take (k + 1)).foldl f s = f ((l.take k).foldl f s) l[k] := by
  rw [List.take_succ_eq_append_getElem h, List.foldl_append]
  rfl
theorem fit_is (N : Ne) (V : Vw) : fitP N V = if needR N = 0 then (if viewR V = 0 then (if (V.up && (holdsR N.L V.at').1) = true then (if N.n = [] then (atP N V [], [], 0) else ((bestP N V).1, (bestP N V).2.1, 0)) else (0, [], 0)) else (0, [], 2)) else (0, [], 2) := by
  unfold fitP needR viewR
  cases checkN N
  · rfl
  · cases checkV V
    · rfl
    · cases V.up
      · rfl
      · cases (holdsR N.L V.at').1 <;> rfl

set_option maxRecDepth 100000 in
set_option maxHeartbeats 2000000 in
theorem fit_any (N : Ne) (V : Vw) (vl va vu : Value) (w : World) (hn : Nds w N vl) (hnk : NeOk N) (hv : Vws w V va vu) (hk : VwOk V) (hE : ErrV w) (hT : Tab w) :
    Calls Tryd.prog 9 #[neV N vl, vwV V va vu] w fun r w' => r = .returned (.tuple #[.int .i64 (fitP N V).1, .string (bs (fitP N V).2.1), .int .i64 (fitP N V).2.2]) ∧ Below w.heap.size w w' := by
  obtain ⟨pn, cn, rfl⟩ := hn.slice
  obtain ⟨⟨pa, ca, rfl⟩, pu, cu, rfl⟩ := hv.slices
  obtain ⟨ln, hln⟩ : ∃ ln, ln = N.L.length := ⟨_, rfl⟩
  obtain ⟨la, hla⟩ : ∃ la, la = V.at'.length := ⟨_, rfl⟩
  obtain ⟨lu, hlu⟩ : ∃ lu, lu = V.us.length := ⟨_, rfl⟩
  obtain ⟨rn, hrn⟩ : ∃ rn, rn = needR N := ⟨_, rfl⟩
  obtain ⟨rv, hrv⟩ : ∃ rv, rv = viewR V := ⟨_, rfl⟩
  obtain ⟨d, hd⟩ : ∃ d, d = holdsR N.L V.at' := ⟨_, rfl⟩
  obtain ⟨E, hEE⟩ : ∃ E, E = envs N V := ⟨_, rfl⟩
  obtain ⟨A, hA⟩ : ∃ A : List UInt8 → Int, A = atP N V := ⟨_, rfl⟩
  have HCN : Hid (∀ w', Below w.heap.size w w' → Calls Tryd.prog 11 #[neV N (.slice pn ln cn)] w' fun r w2 => r = .returned (.int .i64 rn) ∧ Below w'.heap.size w' w2) := Lib.hid (fun w' hb => by
    rw [hln, hrn]
    exact checkNeed_any N _ w' (hn.below hb) hnk (hE.below hb) (hT.below hb))
  have HCV : Hid (∀ w', Below w.heap.size w w' → Calls Tryd.prog 14 #[vwV V (.slice pa la ca) (.slice pu lu cu)] w' fun r w2 => r = .returned (.int .i64 rv) ∧ Below w'.heap.size w' w2) := Lib.hid (fun w' hb => by
    rw [hla, hlu, hrv]
    exact checkView_any V _ _ w' (hv.below hb) hk)
  have HHO : Hid (∀ w', Below w.heap.size w w' → Calls Tryd.prog 15 #[.agg #[.slice pn ln cn], .slice pa la ca] w' fun r w2 => r = .returned (.tuple #[.bool d.1, .int .i64 d.2]) ∧ Below w'.heap.size w' w2) := Lib.hid (fun w' hb => by
    rw [hln, hla, hd]
    exact holds_any _ _ N.L V.at' w' (hn.below hb) (hv.at'.below hb) hnk.L (fun a ha => Nat.le_trans (hk.at' a ha) (by decide)) (hE.below hb) (hT.below hb))
  have HAT : Hid (∀ q w', Below w.heap.size w w' → Calls Tryd.prog 16 #[neV N (.slice pn ln cn), vwV V (.slice pa la ca) (.slice pu lu cu), .string (bs q)] w' fun r w2 => r = .returned (.int .i64 (A q)) ∧ Below w'.heap.size w' w2) := Lib.hid (fun q w' hb => by
    rw [hln, hla, hlu, hA]
    exact at_any N V _ _ _ q w' (hn.below hb) (hv.below hb) hk)
  have HWE : Hid (∀ X w', Below w.heap.size w w' → w'.cell? ⟨X, 7, none⟩ = some (.string (bs N.n)) → Calls Tryd.prog 17 #[.slice pu lu cu, .func (.func 18) #[] #[ptr X]] w' fun r w2 => ∃ q c, r = .returned (.slice q E.length c) ∧ Usw w2 (.slice q E.length c) E ∧ Below w'.heap.size w' w2) := Lib.hid (fun X w' hb hc => by
    rw [hlu, hEE]
    refine (where_env _ V.us X N.n w' (hv.us.below hb) hc hk.n).mono fun r w2 h => ?_
    obtain ⟨v', rfl, h2, h3⟩ := h
    obtain ⟨q, c, rfl⟩ := (usw_own h2).slice
    exact ⟨q, c, rfl, usw_own h2, h3⟩)
  have HN2 : Hid (rn = 0 ∨ rn = 2) := Lib.hid (by rw [hrn]; exact need_or N)
  have HV2 : Hid (rv = 0 ∨ rv = 2) := Lib.hid (by rw [hrv]; exact view_or V)
  have HFR : Hid (fitP N V = if rn = 0 then (if rv = 0 then (if (V.up && d.1) = true then (if N.n = [] then (A [], [], 0) else ((bestP N V).1, (bestP N V).2.1, 0)) else (0, [], 0)) else (0, [], 2)) else (0, [], 2)) := Lib.hid (by rw [hrn, hrv, hd, hA]; exact fit_is N V)
  have HBP : Hid (bestP N V = E.foldl (stepF N V) (0, [], 0)) := Lib.hid (by rw [hEE]; rfl)
  have HST : Hid (∀ s u, stepF N V s u = if (decide (s.1 < A (nmU u)) || (A (nmU u) == s.1 && decide (0 < A (nmU u)) && decide (u.i < s.2.2))) = true then (A (nmU u), nmU u, u.i) else s) := Lib.hid (by rw [hA]; exact step_is N V)
  have HEL : Hid (E.length ≤ 1000) := Lib.hid (by rw [hEE]; exact Nat.le_trans (List.length_filter_le _ _) hk.n)
  have HEJ : Hid (∀ u ∈ E, u.j.length ≤ 1000000000000000) := Lib.hid (by
    rw [hEE]
    intro u hu
    exact hk.j u (List.mem_filter.1 hu).1)
  rw [← hln, ← hla, ← hlu]
  clear hn hnk hv hk hE hT hln hla hlu hrn hrv hd hEE hA
  obtain ⟨d1, d2⟩ := d
  simp only at HHO HFR
  obtain ⟨X, hX⟩ : ∃ X, X = w.heap.size := ⟨_, rfl⟩
  go_enter Tryd.func9, Tryd.ntmps9
  go_upto_region 1 with fail
  obtain ⟨D, hD⟩ : ∃ D, D = neC N (.slice pn ln cn) := ⟨_, rfl⟩
  obtain ⟨C, hC⟩ : ∃ C, C = vwC V (.slice pa la ca) (.slice pu lu cu) := ⟨_, rfl⟩
  refine at_hide (F := fun w' => GeW w w' X D C) (by rw [hX, hD, hC]; exact GeW.made w N V _ _ _) ?_
  intro w1 hF
  rw [← hX]
  have HW1 := Lib.hid hF
  have HC := Lib.hid hC
  have HD := Lib.hid hD
  have n0 := HW1.out.bn.cell (j := 0) (by rw [hD]; rfl)
  have n1 := HW1.out.bn.cell (j := 1) (by rw [hD]; rfl)
  have n2 := HW1.out.bn.cell (j := 2) (by rw [hD]; rfl)
  have n3 := HW1.out.bn.cell (j := 3) (by rw [hD]; rfl)
  have n4 := HW1.out.bn.cell (j := 4) (by rw [hD]; rfl)
  have n5 := HW1.out.bn.cell (j := 5) (by rw [hD]; rfl)
  have n6 := HW1.out.bn.cell (j := 6) (by rw [hD]; rfl)
  have n7 := HW1.out.bn.cell (j := 7) (by rw [hD]; rfl)
  clear hF hX hC hD
  go_upto_region 2 with (go_at_call 11; refine (HCN.out _ HW1.out.hb).mono ?_; rintro r w2 ⟨rfl, hb⟩; have HW2 := Lib.hid (HW1.out.kept hb); clear hb)
  clear n0 n1 n2 n3 n4 n5 n6 n7 HW1 HCN
  obtain h0 | h0 := HN2.out
  rotate_left
  · subst h0
    rw [if_neg (by decide)] at HFR
    go_wp2
    go_ret3
    rw [HFR.out]
    exact ⟨rfl, HW2.out.hb⟩
  subst h0
  rw [if_pos rfl] at HFR
  have c0 := HW2.out.bv.cell (j := 0) (by rw [HC.out]; rfl)
  have c1 := HW2.out.bv.cell (j := 1) (by rw [HC.out]; rfl)
  have c2 := HW2.out.bv.cell (j := 2) (by rw [HC.out]; rfl)
  have c3 := HW2.out.bv.cell (j := 3) (by rw [HC.out]; rfl)
  have c4 := HW2.out.bv.cell (j := 4) (by rw [HC.out]; rfl)
  have c5 := HW2.out.bv.cell (j := 5) (by rw [HC.out]; rfl)
  have c6 := HW2.out.bv.cell (j := 6) (by rw [HC.out]; rfl)
  have c7 := HW2.out.bv.cell (j := 7) (by rw [HC.out]; rfl)
  go_upto_region 5 with (go_at_call 14; refine (HCV.out _ HW2.out.hb).mono ?_; rintro r w3 ⟨rfl, hb⟩; have HW3 := Lib.hid (HW2.out.kept hb); clear hb)
  clear c0 c1 c2 c3 c4 c5 c6 c7 HW2 HCV
  obtain h0 | h0 := HV2.out
  rotate_left
  · subst h0
    rw [if_neg (by decide)] at HFR
    go_wp2
    go_ret3
    rw [HFR.out]
    exact ⟨rfl, HW3.out.hb⟩
  subst h0
  rw [if_pos rfl] at HFR
  have n6 := HW3.out.bn.cell (j := 6) (by rw [HD.out]; rfl)
  have c1 := HW3.out.bv.cell (j := 1) (by rw [HC.out]; rfl)
  go_upto_region 8 with (go_at_call 15; refine (HHO.out _ HW3.out.hb).mono ?_; rintro r w4 ⟨rfl, hb⟩; have HW4 := Lib.hid (HW3.out.kept hb); clear hb)
  clear n6 c1 HW3 HHO HN2 HV2
  have c6 := HW4.out.bv.cell (j := 6) (by rw [HC.out]; rfl)
  have n7 := HW4.out.bn.cell (j := 7) (by rw [HD.out]; rfl)
  cases hup : V.up with
  | false =>
    rw [hup] at c6 HFR
    rw [if_neg (by simp)] at HFR
    clear hup
    go_wp2
    go_ret3
    rw [HFR.out]
    exact ⟨rfl, HW4.out.hb⟩
  | true =>
  rw [hup] at c6 HFR
  clear hup
  cases d1 with
  | false =>
    rw [if_neg (by decide)] at HFR
    go_wp2
    go_ret3
    rw [HFR.out]
    exact ⟨rfl, HW4.out.hb⟩
  | true =>
  rw [if_pos (show (true && true) = true from rfl)] at HFR
  go_upto_region 10 with fail
  clear c6
  obtain ⟨pe, hpq⟩ : ∃ pe, pe = (bs N.n).toList.isEmpty := ⟨_, rfl⟩
  have hpe := hpq.symm
  have HPE : Hid ((pe = true → N.n = []) ∧ (pe = false → N.n ≠ [])) := Lib.hid (by
    constructor
    · intro e
      by_cases hp : N.n = []
      · exact hp
      · rw [hpq, bs_cons hp] at e; cases e
    · intro e hp
      rw [hpq, hp, bs_nil] at e; cases e)
  clear hpq
  cases pe with
  | true =>
    rw [if_pos (HPE.out.1 rfl)] at HFR
    have HA0 : Hid (∀ w', Below w.heap.size w w' → Calls Tryd.prog 16 #[neV N (.slice pn ln cn), vwV V (.slice pa la ca) (.slice pu lu cu), .string ⟨#[]⟩] w' fun r w2 => r = .returned (.int .i64 (A [])) ∧ Below w'.heap.size w' w2) := Lib.hid (fun w' hb => HAT.out [] w' hb)
    clear HAT HPE
    have n0 := HW4.out.bn.cell (j := 0) (by rw [HD.out]; rfl)
    have n1 := HW4.out.bn.cell (j := 1) (by rw [HD.out]; rfl)
    have n2 := HW4.out.bn.cell (j := 2) (by rw [HD.out]; rfl)
    have n3 := HW4.out.bn.cell (j := 3) (by rw [HD.out]; rfl)
    have n4 := HW4.out.bn.cell (j := 4) (by rw [HD.out]; rfl)
    have n5 := HW4.out.bn.cell (j := 5) (by rw [HD.out]; rfl)
    have n6 := HW4.out.bn.cell (j := 6) (by rw [HD.out]; rfl)
    have c0 := HW4.out.bv.cell (j := 0) (by rw [HC.out]; rfl)
    have c1 := HW4.out.bv.cell (j := 1) (by rw [HC.out]; rfl)
    have c2 := HW4.out.bv.cell (j := 2) (by rw [HC.out]; rfl)
    have c3 := HW4.out.bv.cell (j := 3) (by rw [HC.out]; rfl)
    have c4 := HW4.out.bv.cell (j := 4) (by rw [HC.out]; rfl)
    have c5 := HW4.out.bv.cell (j := 5) (by rw [HC.out]; rfl)
    have c6 := HW4.out.bv.cell (j := 6) (by rw [HC.out]; rfl)
    have c7 := HW4.out.bv.cell (j := 7) (by rw [HC.out]; rfl)
    go_wp2_with (go_at_call 16; refine (HA0.out _ HW4.out.hb).mono ?_; rintro r w5 ⟨rfl, hb⟩; have HW5 := Lib.hid (HW4.out.kept hb); clear hb)
    go_ret3
    rw [HFR.out]
    exact ⟨rfl, HW5.out.hb⟩
  | false =>
    rw [if_neg (HPE.out.2 rfl)] at HFR
    clear HPE
    have HWX := Lib.hid (HWE.out X w4 HW4.out.hb n7)
    clear HWE
    have c7 := HW4.out.bv.cell (j := 7) (by rw [HC.out]; rfl)
    go_wp2_with (go_at_call 17; refine HWX.out.mono ?_; rintro r w5 ⟨q, cq, rfl, hu, hb⟩; have HU5 := Lib.hid hu; have HW5 := Lib.hid (HW4.out.kept hb); clear hu hb)
    clear c7 n7 hpe HW4 HWX
    obtain ⟨m, hm⟩ : ∃ m, m = E.length := ⟨_, rfl⟩
    rw [← hm] at HU5 HEL ⊢
    have HM := Lib.hid hm
    have hm63 : (m : Int) ≤ 1000 := by have := HEL.out; omega
    clear hm
    go_loopw [4, 5, 11, 53] (fun a b c i wr => ∃ (k : Nat) (s : Int × List UInt8 × Int), k ≤ m ∧ a = .int .i64 s.1 ∧ b = .string (bs s.2.1) ∧ c = .int .i64 s.2.2 ∧ i = .int .i64 (k : Int) ∧ Hid (s = (E.take k).foldl (stepF N V) (0, [], 0)) ∧ Hid (Usw wr (.slice q m cq) E) ∧ Hid (GeW w wr X D C)) (fun _ _ _ i _ => m - (intOf i).toNat)
    case atStart => exact ⟨0, (0, [], 0), Nat.zero_le _, rfl, rfl, rfl, rfl, Lib.hid rfl, HU5, HW5⟩
    case round =>
      obtain ⟨k, s, hk, rfl, rfl, rfl, rfl, HS, HU, HW⟩ := hrel
      clear HU5 HW5
      by_cases hlt : k < m
      · have HKN : Hid (k < E.length) := Lib.hid (by have := HM.out; omega)
        obtain ⟨u, hu⟩ : ∃ u, u = E[k]'HKN.out := ⟨_, rfl⟩
        have HLC := Lib.hid (HU.out.at HKN.out)
        rw [← hu] at HLC
        obtain ⟨nm, hnm⟩ : ∃ nm, nm = nmU u := ⟨_, rfl⟩
        obtain ⟨kk, hkk⟩ : ∃ kk, kk = A nm := ⟨_, rfl⟩
        have HNX : Hid ((E.take (k + 1)).foldl (stepF N V) (0, [], 0) = if (decide (s.1 < kk) || (kk == s.1 && decide (0 < kk) && decide (u.i < s.2.2))) = true then (kk, nm, u.i) else s) := Lib.hid (by
          rw [fold_take _ HKN.out, ← HS.out, ← hu, HST.out, ← hnm, ← hkk])
        have HTS : Hid (∀ w', Calls Tryd.prog 19 #[.agg #[.string (bs u.j), .int .i64 u.i]] w' fun r w2 => r = .returned (.tuple #[.string (bs nm), .int .i64 (taskE u.j u.i)]) ∧ Below w'.heap.size w' w2) := Lib.hid (fun w' => by
          rw [hnm]
          exact task_any u.j u.i w' (HEJ.out u (by rw [hu]; exact List.getElem_mem _)))
        have HAN := Lib.hid (HAT.out nm)
        rw [← hkk] at HAN
        obtain ⟨te, hte⟩ : ∃ te, te = taskE u.j u.i := ⟨_, rfl⟩
        rw [← hte] at HTS
        clear hu hnm hkk hte
        obtain ⟨b, o, rfl, hcell⟩ := HLC.out
        have q0 := hcell 0 _ rfl
        rw [Nat.add_zero] at q0
        have q1 := hcell 1 _ rfl
        have q2 := hcell 2 _ rfl
        have q3 := hcell 3 _ rfl
        have q4 := hcell 4 _ rfl
        have q5 := hcell 5 _ rfl
        have q6 := hcell 6 _ rfl
        have q7 := hcell 7 _ rfl
        have q8 := hcell 8 _ rfl
        clear hcell HLC
        go_upto_region 16 with fail
        obtain ⟨Y, hY⟩ : ∃ Y, Y = wr.heap.size := ⟨_, rfl⟩
        refine at_hide (F := fun w' => Blk w' Y (usC u) 45 ∧ Usw w' (.slice (some ⟨b, o, none⟩) m cq) E ∧ GeW w w' X D C) ⟨by rw [hY]; exact Blk.made wr (usC u) _, HU.out.below (below_alloc _ _), HW.out.kept (below_alloc _ _)⟩ ?_
        rw [← hY]
        intro w7 hF
        have HY7 := Lib.hid hF.1
        have HU7 := Lib.hid hF.2.1
        have HW7 := Lib.hid hF.2.2
        clear hF hY q0 q1 q2 q3 q4 q5 q6 q7 q8 HW HU
        have y0 := HY7.out.cell (j := 0) rfl
        have y1 := HY7.out.cell (j := 1) rfl
        go_upto_region 18 with (first
          | (go_at_call 19; refine (HTS.out _).mono ?_; rintro r w8 ⟨rfl, hb⟩; have HY8 := Lib.hid (HY7.out.kept hb); have HU8 := Lib.hid (HU7.out.below hb); have HW8 := Lib.hid (HW7.out.kept hb); have n0 := HW8.out.bn.cell (j := 0) (by rw [HD.out]; rfl); have n1 := HW8.out.bn.cell (j := 1) (by rw [HD.out]; rfl); have n2 := HW8.out.bn.cell (j := 2) (by rw [HD.out]; rfl); have n3 := HW8.out.bn.cell (j := 3) (by rw [HD.out]; rfl); have n4 := HW8.out.bn.cell (j := 4) (by rw [HD.out]; rfl); have n5 := HW8.out.bn.cell (j := 5) (by rw [HD.out]; rfl); have n6 := HW8.out.bn.cell (j := 6) (by rw [HD.out]; rfl); have n7 := HW8.out.bn.cell (j := 7) (by rw [HD.out]; rfl); have c0 := HW8.out.bv.cell (j := 0) (by rw [HC.out]; rfl); have c1 := HW8.out.bv.cell (j := 1) (by rw [HC.out]; rfl); have c2 := HW8.out.bv.cell (j := 2) (by rw [HC.out]; rfl); have c3 := HW8.out.bv.cell (j := 3) (by rw [HC.out]; rfl); have c4 := HW8.out.bv.cell (j := 4) (by rw [HC.out]; rfl); have c5 := HW8.out.bv.cell (j := 5) (by rw [HC.out]; rfl); have c6 := HW8.out.bv.cell (j := 6) (by rw [HC.out]; rfl); have c7 := HW8.out.bv.cell (j := 7) (by rw [HC.out]; rfl); clear hb)
          | (go_at_call 16; refine (HAN.out _ HW8.out.hb).mono ?_; rintro r w9 ⟨rfl, hb⟩; have HY9 := Lib.hid (HY8.out.kept hb); have HU9 := Lib.hid (HU8.out.below hb); have HW9 := Lib.hid (HW8.out.kept hb); clear hb))
        clear n0 n1 n2 n3 n4 n5 n6 n7 c0 c1 c2 c3 c4 c5 c6 c7 HY7 HY8 HU7 HU8 HW7 HW8 HTS HAN y0 y1 HAT HFR HBP HST HEJ
        have x1 := HY9.out.cell (j := 1) rfl
        obtain ⟨kd, sn, ix⟩ := s
        obtain ⟨g1, hg1⟩ : ∃ g1, g1 = decide (kd < kk) := ⟨_, rfl⟩
        obtain ⟨g2, hg2⟩ : ∃ g2, g2 = (kk == kd) := ⟨_, rfl⟩
        obtain ⟨g3, hg3⟩ : ∃ g3, g3 = decide (0 < kk) := ⟨_, rfl⟩
        obtain ⟨g4, hg4⟩ : ∃ g4, g4 = decide (u.i < ix) := ⟨_, rfl⟩
        simp only at HNX
        rw [← hg1, ← hg2, ← hg3, ← hg4] at HNX
        have t1 := hg1.symm
        have t2 := hg2.symm
        have t3 := hg3.symm
        have t4 := hg4.symm
        clear hg1 hg2 hg3 hg4
        have HTK : Hid ((g1 || (g2 && g3 && g4)) = true → ∀ n : Nat, ∃ (j : Nat) (s : Int × List UInt8 × Int), j ≤ m ∧ Value.int .i64 kk = .int .i64 s.1 ∧ Value.string (bs nm) = .string (bs s.2.1) ∧ Value.int .i64 u.i = .int .i64 s.2.2 ∧ Value.int .i64 ((k : Int) + 1) = .int .i64 (j : Int) ∧ Hid (s = (E.take j).foldl (stepF N V) (0, [], 0)) ∧ Hid (Usw (w9.drewN n) (.slice (some ⟨b, o, none⟩) m cq) E) ∧ Hid (GeW w (w9.drewN n) X D C)) := Lib.hid (fun h n => ⟨k + 1, (kk, nm, u.i), by omega, rfl, rfl, rfl, by go_num, Lib.hid (by rw [HNX.out, if_pos h]), Lib.hid (HU9.out.below (below_drewN n)), Lib.hid (HW9.out.kept (below_drewN n))⟩)
        have HKP : Hid ((g1 || (g2 && g3 && g4)) = false → ∃ (j : Nat) (s : Int × List UInt8 × Int), j ≤ m ∧ Value.int .i64 kd = .int .i64 s.1 ∧ Value.string (bs sn) = .string (bs s.2.1) ∧ Value.int .i64 ix = .int .i64 s.2.2 ∧ Value.int .i64 ((k : Int) + 1) = .int .i64 (j : Int) ∧ Hid (s = (E.take j).foldl (stepF N V) (0, [], 0)) ∧ Hid (Usw w9 (.slice (some ⟨b, o, none⟩) m cq) E) ∧ Hid (GeW w w9 X D C)) := Lib.hid (fun h => ⟨k + 1, (kd, sn, ix), by omega, rfl, rfl, rfl, by go_num, Lib.hid (by rw [HNX.out, if_neg (by rw [h]; decide)]), HU9, HW9⟩)
        clear HNX HS
        cases g1 with
        | true =>
          go_wp2
          go_quiet (fail)
          go_wp2
          exact ⟨HTK.out rfl _, by simp [intOf]; omega⟩
        | false =>
          cases g2 with
          | false =>
            go_wp2
            exact ⟨HKP.out rfl, by simp [intOf]; omega⟩
          | true =>
            cases g3 with
            | false =>
              go_wp2
              exact ⟨HKP.out rfl, by simp [intOf]; omega⟩
            | true =>
              cases g4 with
              | false =>
                go_wp2
                exact ⟨HKP.out rfl, by simp [intOf]; omega⟩
              | true =>
                go_wp2
                go_quiet (fail)
                go_wp2
                exact ⟨HTK.out rfl _, by simp [intOf]; omega⟩
      · obtain rfl : k = m := by omega
        have HSE : Hid (fitP N V = (s.1, s.2.1, 0)) := Lib.hid (by rw [HFR.out, HBP.out, HS.out, HM.out, List.take_length])
        go_wp2
        go_ret3
        rw [HSE.out]
        exact ⟨rfl, HW.out.hb⟩
end Go.Proofs.YtaipldegobjboaaDoor.Ft

namespace Go.Proofs.YtaipldegobjboaaDoor.Ft
open Go.RowKit Go.Proofs.YtaipldegobjboaaDoor Go.Proofs.YtaipldegobjboaaDoor.Ru

theorem ret_cell1 {P : Program} {fn : Func} {R : Ending → World → Prop} {a : Act} {w : World} {p : Tmp} {ty t : TypeId} {g : Nat} {cs : List Value} {d : TypeDesc} (h : fn.results = #[.cell p ty]) (hd : a.defers = [])
    (hp : a.tmps.getD p undef = .pointer (some ⟨g, 0, none⟩)) (hg : Blk w g cs t) (hu : P.underlying ty = some d) (hs : (match d with | .struct _ | .array _ _ => true | _ => false) = true) (hi : (P.info? ty).map (·.size) = some cs.length)
    (hR : R (.returned (.agg cs.toArray)) w) : bodyPost P fn R .ret a w :=
  bodyPost_ret (results_cell_row h a.tmps w g t cs.toArray (0, 0) d hp hg hu hs (by simpa using hi)) hd hR
theorem size_ne : (Tryd.prog.info? 30).map (·.size) = some 8 := by kernel_rfl
theorem size_vw : (Tryd.prog.info? 40).map (·.size) = some 8 := by kernel_rfl
/-- the call's own row of nodes -/
def OwnN (w : World) (base : Nat) (v : Value) (L : List Nd) : Prop := w.ownsRow base 33 6 v L.length (rwC ndC L)
theorem OwnN.row {w : World} {base : Nat} {v : Value} {L : List Nd} (h : OwnN w base v L) : Row w v 6 L.length (rwC ndC L) := row_of_owns h (rwC_one ndC_one L)
theorem OwnN.set {w : World} {base : Nat} {v : Value} {L : List Nd} (h : OwnN w base v L) {a : Addr} (ha : a.block < base) (u : Value) : OwnN (w.setCell a u) base v L := ownsRow_setCell_below h ha u
theorem OwnN.low {w : World} {base b : Nat} {v : Value} {L : List Nd} (h : OwnN w base v L) (hb : b ≤ base) : OwnN w b v L := own_lower h hb

theorem own_fill8 {w : World} {base g : Nat} {v : Value} {L : List Nd} (h : OwnN w base v L) (hg : g < base) (x0 x1 x2 x3 x4 x5 x6 x7 : Value) : OwnN ((((((((w.setCell ⟨g, 0, none⟩ x0).setCell ⟨g, 1, none⟩ x1).setCell ⟨g, 2, none⟩ x2).setCell ⟨g, 3, none⟩ x3).setCell ⟨g, 4, none⟩ x4).setCell ⟨g, 5, none⟩ x5).setCell ⟨g, 6, none⟩ x6).setCell ⟨g, 7, none⟩ x7) base v L := (OwnN.set (OwnN.set (OwnN.set (OwnN.set (OwnN.set (OwnN.set (OwnN.set (OwnN.set h (a := ⟨g, 0, none⟩) hg x0) (a := ⟨g, 1, none⟩) hg x1) (a := ⟨g, 2, none⟩) hg x2) (a := ⟨g, 3, none⟩) hg x3) (a := ⟨g, 4, none⟩) hg x4) (a := ⟨g, 5, none⟩) hg x5) (a := ⟨g, 6, none⟩) hg x6) (a := ⟨g, 7, none⟩) hg x7)
theorem below_fill8 {w w1 : World} {n g : Nat} (h : Below n w w1) (hg : n ≤ g) (x0 x1 x2 x3 x4 x5 x6 x7 : Value) : Below n w ((((((((w1.setCell ⟨g, 0, none⟩ x0).setCell ⟨g, 1, none⟩ x1).setCell ⟨g, 2, none⟩ x2).setCell ⟨g, 3, none⟩ x3).setCell ⟨g, 4, none⟩ x4).setCell ⟨g, 5, none⟩ x5).setCell ⟨g, 6, none⟩ x6).setCell ⟨g, 7, none⟩ x7) := (Below.setCell (Below.setCell (Below.setCell (Below.setCell (Below.setCell (Below.setCell (Below.setCell (Below.setCell h (by simpa using hg) x0) (by simpa using hg) x1) (by simpa using hg) x2) (by simpa using hg) x3) (by simpa using hg) x4) (by simpa using hg) x5) (by simpa using hg) x6) (by simpa using hg) x7)
theorem blk_fill8 {w : World} {g : Nat} {C : List Value} {t : TypeId} (h : Blk w g C t) (hc : C.length = 8) (x0 x1 x2 x3 x4 x5 x6 x7 : Value) : Blk ((((((((w.setCell ⟨g, 0, none⟩ x0).setCell ⟨g, 1, none⟩ x1).setCell ⟨g, 2, none⟩ x2).setCell ⟨g, 3, none⟩ x3).setCell ⟨g, 4, none⟩ x4).setCell ⟨g, 5, none⟩ x5).setCell ⟨g, 6, none⟩ x6).setCell ⟨g, 7, none⟩ x7) g [x0, x1, x2, x3, x4, x5, x6, x7] t := by
  match C, hc with
  | [_, _, _, _, _, _, _, _], _ => exact (Blk.set (Blk.set (Blk.set (Blk.set (Blk.set (Blk.set (Blk.set (Blk.set h 0 x0) 1 x1) 2 x2) 3 x3) 4 x4) 5 x5) 6 x6) 7 x7)
end Go.Proofs.YtaipldegobjboaaDoor.Ft

namespace Go.Proofs.YtaipldegobjboaaDoor.Ft
open Go.RowKit Go.Proofs.YtaipldegobjboaaDoor Go.Proofs.YtaipldegobjboaaDoor.Ru

def needP (b c : Int) : Ne := ⟨[120], b, ⟨c, 0, 0, 0⟩, anyL, []⟩
def machP : Vw := ⟨[109], [⟨[97, 114, 99, 104], [120, 56, 54]⟩], ⟨10, 0, 0, 0⟩, true, [⟨[97], 0, 1, ⟨6, 0, 0, 0⟩, [], false⟩, ⟨[98], 0, 2, ⟨2, 0, 0, 0⟩, [], false⟩]⟩

set_option maxRecDepth 100000 in
set_option maxHeartbeats 1000000 in
theorem anyRule_any (w : World) :
    Calls Tryd.prog 10 #[] w fun r w' => ∃ q c, r = .returned (.agg #[.slice q 1 c]) ∧ OwnN w' w.heap.size (.slice q 1 c) anyL ∧ Below w.heap.size w w' := by
  obtain ⟨X, hX⟩ : ∃ X, X = w.heap.size := ⟨_, rfl⟩
  go_enter Tryd.func10, Tryd.ntmps10
  go_upto_region 1 with fail
  refine at_hide (F := fun w' => Blk w' X [.slice none 0 0] 28 ∧ Below w.heap.size w w' ∧ w'.heap.size = X + 1) ⟨by
    rw [hX]; exact Blk.made w [_] _, below_alloc _ _, by rw [hX]; simp⟩ ?_
  intro w1 hF
  rw [← hX]
  have HX1 := Lib.hid hF.1
  have HB1 : Hid (Below w.heap.size w w1) := Lib.hid hF.2.1
  have HZ1 := Lib.hid hF.2.2
  have HXW : Hid (w.heap.size ≤ X) := Lib.hid (by omega)
  have HO1 : Hid (OwnN (w1.alloc (.cells #[.int .i64 1, .string ⟨#[]⟩, .string ⟨#[]⟩, .int .i64 0, .int .i64 (-1), .int .i64 (-1)] 33)) w1.heap.size (.slice (some ⟨w1.heap.size, 0, none⟩) 1 1) anyL) := Lib.hid (World.ownsRow_lit w1 #[.int .i64 1, .string ⟨#[]⟩, .string ⟨#[]⟩, .int .i64 0, .int .i64 (-1), .int .i64 (-1)] 1 (Nat.le_refl _) (by simp [maxLen]) rfl)
  have HX2 := Lib.hid (HX1.out.alloc (.cells #[.int .i64 1, .string ⟨#[]⟩, .string ⟨#[]⟩, .int .i64 0, .int .i64 (-1), .int .i64 (-1)] 33))
  have c0 := HX2.out.cell (j := 0) rfl
  have f0 := HX2.out.free 0
  have HB2 := Lib.hid (below_and HB1.out (below_alloc w1 (.cells #[.int .i64 1, .string ⟨#[]⟩, .string ⟨#[]⟩, .int .i64 0, .int .i64 (-1), .int .i64 (-1)] 33)))
  clear hF hX
  go_wp2
  refine ret_cell1 rfl rfl rfl (HX2.out.set 0 (.slice (some ⟨w1.heap.size, 0, none⟩) 1 1)) Tryd.underlying28 rfl size_rule ?_
  exact ⟨_, _, rfl, (HO1.out.set (a := ⟨X, 0, none⟩) (by have := HZ1.out; simp; omega) _).low HB1.out.size, HB2.out.setCell (by have := HXW.out; simp; omega) _⟩

set_option maxRecDepth 100000 in
set_option maxHeartbeats 2000000 in
theorem need_any (b c : Int) (w : World) :
    Calls Tryd.prog 6 #[.int .i64 b, .int .i64 c] w fun r w' => ∃ q k, r = .returned (neV (needP b c) (.slice q 1 k)) ∧ Nds w' (needP b c) (.slice q 1 k) ∧ Below w.heap.size w w' := by
  have HAR := Lib.hid anyRule_any
  obtain ⟨X, hX⟩ : ∃ X, X = w.heap.size := ⟨_, rfl⟩
  go_enter Tryd.func6, Tryd.ntmps6
  go_upto_region 1 with fail
  refine at_hide (F := fun w' => Blk w' X ([.string ⟨#[]⟩, .int .i64 0, .int .i64 0, .int .i64 0, .int .i64 0, .int .i64 0, .slice none 0 0, .string ⟨#[]⟩] : List Value) 30 ∧ Below w.heap.size w w' ∧ w'.heap.size = X + 1) ⟨by
    rw [hX]; exact Blk.made w ([.string ⟨#[]⟩, .int .i64 0, .int .i64 0, .int .i64 0, .int .i64 0, .int .i64 0, .slice none 0 0, .string ⟨#[]⟩] : List Value) _, below_alloc _ _, by rw [hX]; simp⟩ ?_
  intro w1 hF
  rw [← hX]
  have HX1 := Lib.hid hF.1
  have HB1 : Hid (Below w.heap.size w w1) := Lib.hid hF.2.1
  have HZ1 := Lib.hid hF.2.2
  have HXW : Hid (w.heap.size ≤ X) := Lib.hid (by omega)
  clear hF hX
  go_wp2_with (go_at_call 10; refine (HAR.out w1).mono ?_; rintro r w2 ⟨q2, k2, rfl, ho, hb⟩; have HO2 := Lib.hid ho; have HB2 := Lib.hid (below_and HB1.out hb); have HX2 := Lib.hid (HX1.out.kept hb); have c0 := HX2.out.cell (j := 0) (rfl); have c1 := HX2.out.cell (j := 1) (rfl); have c2 := HX2.out.cell (j := 2) (rfl); have c3 := HX2.out.cell (j := 3) (rfl); have c4 := HX2.out.cell (j := 4) (rfl); have c5 := HX2.out.cell (j := 5) (rfl); have c6 := HX2.out.cell (j := 6) (rfl); have c7 := HX2.out.cell (j := 7) (rfl); have f0 := HX2.out.free 0; have f1 := HX2.out.free 1; have f2 := HX2.out.free 2; have f3 := HX2.out.free 3; have f4 := HX2.out.free 4; have f5 := HX2.out.free 5; have f6 := HX2.out.free 6; have f7 := HX2.out.free 7; clear ho hb)
  refine ret_cell1 rfl rfl rfl (blk_fill8 HX2.out rfl _ _ _ _ _ _ _ _) Tryd.underlying30 rfl size_ne ?_
  exact ⟨q2, k2, rfl, (own_fill8 HO2.out (by have := HZ1.out; omega) _ _ _ _ _ _ _ _).row, below_fill8 HB2.out (by have := HXW.out; omega) _ _ _ _ _ _ _ _⟩

theorem own_fill8' {w : World} {base g size n : Nat} {t : TypeId} {v : Value} {xs : List Value} (h : w.ownsRow base t size v n xs) (hg : g < base) (x0 x1 x2 x3 x4 x5 x6 x7 : Value) : ((((((((w.setCell ⟨g, 0, none⟩ x0).setCell ⟨g, 1, none⟩ x1).setCell ⟨g, 2, none⟩ x2).setCell ⟨g, 3, none⟩ x3).setCell ⟨g, 4, none⟩ x4).setCell ⟨g, 5, none⟩ x5).setCell ⟨g, 6, none⟩ x6).setCell ⟨g, 7, none⟩ x7).ownsRow base t size v n xs :=
  ownsRow_setCell_below (ownsRow_setCell_below (ownsRow_setCell_below (ownsRow_setCell_below (ownsRow_setCell_below (ownsRow_setCell_below (ownsRow_setCell_below (ownsRow_setCell_below h (a := ⟨g, 0, none⟩) hg _) (a := ⟨g, 1, none⟩) hg _) (a := ⟨g, 2, none⟩) hg _) (a := ⟨g, 3, none⟩) hg _) (a := ⟨g, 4, none⟩) hg _) (a := ⟨g, 5, none⟩) hg _) (a := ⟨g, 6, none⟩) hg _) (a := ⟨g, 7, none⟩) hg _

set_option maxRecDepth 100000 in
set_option maxHeartbeats 2000000 in
theorem machine_any (w : World) :
    Calls Tryd.prog 8 #[] w fun r w' => ∃ va vu, r = .returned (vwV machP va vu) ∧ Vws w' machP va vu ∧ Below w.heap.size w w' := by
  obtain ⟨X, hX⟩ : ∃ X, X = w.heap.size := ⟨_, rfl⟩
  go_enter Tryd.func8, Tryd.ntmps8
  go_upto_region 1 with fail
  refine at_hide (F := fun w' => Blk w' X ([.string ⟨#[]⟩, .slice none 0 0, .int .i64 0, .int .i64 0, .int .i64 0, .int .i64 0, .bool false, .slice none 0 0] : List Value) 40 ∧ Below w.heap.size w w' ∧ w'.heap.size = X + 1) ⟨by
    rw [hX]; exact Blk.made w ([.string ⟨#[]⟩, .slice none 0 0, .int .i64 0, .int .i64 0, .int .i64 0, .int .i64 0, .bool false, .slice none 0 0] : List Value) _, below_alloc _ _, by rw [hX]; simp⟩ ?_
  intro w1 hF
  rw [← hX]
  have HX1 := Lib.hid hF.1
  have HB1 : Hid (Below w.heap.size w w1) := Lib.hid hF.2.1
  have HZ1 := Lib.hid hF.2.2
  have HXW : Hid (w.heap.size ≤ X) := Lib.hid (by omega)
  have HA2 : Hid ((w1.alloc (.cells #[.string ⟨#[97, 114, 99, 104]⟩, .string ⟨#[120, 56, 54]⟩] 54)).ownsRow w1.heap.size 54 2 (.slice (some ⟨w1.heap.size, 0, none⟩) 1 1) 1 [.string ⟨#[97, 114, 99, 104]⟩, .string ⟨#[120, 56, 54]⟩]) := Lib.hid (World.ownsRow_lit w1 #[.string ⟨#[97, 114, 99, 104]⟩, .string ⟨#[120, 56, 54]⟩] 1 (Nat.le_refl _) (by simp [maxLen]) rfl)
  have HA3 : Hid (((w1.alloc (.cells #[.string ⟨#[97, 114, 99, 104]⟩, .string ⟨#[120, 56, 54]⟩] 54)).alloc (.cells #[.string ⟨#[97]⟩, .int .i64 0, .int .i64 1, .int .i64 6, .int .i64 0, .int .i64 0, .int .i64 0, .string ⟨#[]⟩, .bool false, .string ⟨#[98]⟩, .int .i64 0, .int .i64 2, .int .i64 2, .int .i64 0, .int .i64 0, .int .i64 0, .string ⟨#[]⟩, .bool false] 45)).ownsRow w1.heap.size 54 2 (.slice (some ⟨w1.heap.size, 0, none⟩) 1 1) 1 [.string ⟨#[97, 114, 99, 104]⟩, .string ⟨#[120, 56, 54]⟩]) := Lib.hid (HA2.out.alloc _)
  have HU3 : Hid (((w1.alloc (.cells #[.string ⟨#[97, 114, 99, 104]⟩, .string ⟨#[120, 56, 54]⟩] 54)).alloc (.cells #[.string ⟨#[97]⟩, .int .i64 0, .int .i64 1, .int .i64 6, .int .i64 0, .int .i64 0, .int .i64 0, .string ⟨#[]⟩, .bool false, .string ⟨#[98]⟩, .int .i64 0, .int .i64 2, .int .i64 2, .int .i64 0, .int .i64 0, .int .i64 0, .string ⟨#[]⟩, .bool false] 45)).ownsRow w1.heap.size 45 9 (.slice (some ⟨w1.heap.size + 1, 0, none⟩) 2 2) 2 (rwC usC machP.us)) := Lib.hid (by
    have := World.ownsRow_lit (base := w1.heap.size) (e := 45) (size := 9) (w1.alloc (.cells #[.string ⟨#[97, 114, 99, 104]⟩, .string ⟨#[120, 56, 54]⟩] 54)) #[.string ⟨#[97]⟩, .int .i64 0, .int .i64 1, .int .i64 6, .int .i64 0, .int .i64 0, .int .i64 0, .string ⟨#[]⟩, .bool false, .string ⟨#[98]⟩, .int .i64 0, .int .i64 2, .int .i64 2, .int .i64 0, .int .i64 0, .int .i64 0, .string ⟨#[]⟩, .bool false] 2 (by simp) (by simp [maxLen]) rfl
    rw [show (w1.alloc (.cells #[.string ⟨#[97, 114, 99, 104]⟩, .string ⟨#[120, 56, 54]⟩] 54)).heap.size = w1.heap.size + 1 from by simp] at this
    exact this)
  have HX2 := Lib.hid ((HX1.out.alloc (.cells #[.string ⟨#[97, 114, 99, 104]⟩, .string ⟨#[120, 56, 54]⟩] 54)).alloc (.cells #[.string ⟨#[97]⟩, .int .i64 0, .int .i64 1, .int .i64 6, .int .i64 0, .int .i64 0, .int .i64 0, .string ⟨#[]⟩, .bool false, .string ⟨#[98]⟩, .int .i64 0, .int .i64 2, .int .i64 2, .int .i64 0, .int .i64 0, .int .i64 0, .string ⟨#[]⟩, .bool false] 45))
  have c0 := HX2.out.cell (j := 0) (rfl)
  have c1 := HX2.out.cell (j := 1) (rfl)
  have c2 := HX2.out.cell (j := 2) (rfl)
  have c3 := HX2.out.cell (j := 3) (rfl)
  have c4 := HX2.out.cell (j := 4) (rfl)
  have c5 := HX2.out.cell (j := 5) (rfl)
  have c6 := HX2.out.cell (j := 6) (rfl)
  have c7 := HX2.out.cell (j := 7) (rfl)
  have f0 := HX2.out.free 0
  have f1 := HX2.out.free 1
  have f2 := HX2.out.free 2
  have f3 := HX2.out.free 3
  have f4 := HX2.out.free 4
  have f5 := HX2.out.free 5
  have f6 := HX2.out.free 6
  have f7 := HX2.out.free 7
  have HB2 := Lib.hid (below_and (below_and HB1.out (below_alloc w1 (.cells #[.string ⟨#[97, 114, 99, 104]⟩, .string ⟨#[120, 56, 54]⟩] 54))) (below_alloc (w1.alloc (.cells #[.string ⟨#[97, 114, 99, 104]⟩, .string ⟨#[120, 56, 54]⟩] 54)) (.cells #[.string ⟨#[97]⟩, .int .i64 0, .int .i64 1, .int .i64 6, .int .i64 0, .int .i64 0, .int .i64 0, .string ⟨#[]⟩, .bool false, .string ⟨#[98]⟩, .int .i64 0, .int .i64 2, .int .i64 2, .int .i64 0, .int .i64 0, .int .i64 0, .string ⟨#[]⟩, .bool false] 45)))
  clear hF hX
  go_wp2
  refine ret_cell1 rfl rfl rfl (blk_fill8 HX2.out rfl _ _ _ _ _ _ _ _) Tryd.underlying40 rfl size_vw ?_
  refine ⟨.slice (some ⟨w1.heap.size, 0, none⟩) 1 1, .slice (some ⟨w1.heap.size + 1, 0, none⟩) 2 2, rfl, ⟨?_, ?_⟩, below_fill8 HB2.out (by have := HXW.out; omega) _ _ _ _ _ _ _ _⟩
  · exact row_of_owns (own_fill8' HA3.out (by have := HZ1.out; omega) _ _ _ _ _ _ _ _) (rwC_one atC_one machP.at')
  · exact usw_own (own_fill8' HU3.out (by have := HZ1.out; omega) _ _ _ _ _ _ _ _)
end Go.Proofs.YtaipldegobjboaaDoor.Ft

namespace Go.Proofs.YtaipldegobjboaaDoor.Ft
open Go.RowKit Go.Proofs.YtaipldegobjboaaDoor Go.Proofs.YtaipldegobjboaaDoor.Ru

theorem mach_ok : VwOk machP := ⟨by decide, by
  intro u hu
  simp only [machP, List.mem_cons, List.not_mem_nil, or_false] at hu
  rcases hu with rfl | rfl
  · exact ⟨by decide, by decide⟩
  · exact ⟨by decide, by decide⟩, by decide, by
  intro a ha
  simp only [machP, List.mem_cons, List.not_mem_nil, or_false] at ha
  subst ha
  decide⟩
theorem any_fit1 : ∀ n ∈ anyL, Fit1 n := by
  intro n hn
  simp only [anyL, List.mem_cons, List.not_mem_nil, or_false] at hn
  subst hn
  exact ⟨by decide, by decide, by decide, by decide⟩
theorem need_ok (b c : Int) : NeOk (needP b c) := ⟨any_fit1⟩

set_option maxRecDepth 100000 in
set_option maxHeartbeats 2000000 in
theorem kind_any (N : Ne) (v : Value) (x : Int) (h : fitP N machP = (x, [], 0)) (w : World) (hn : Nds w N v) (hk : NeOk N) (hE : ErrV w) (hT : Tab w) :
    Calls Tryd.prog 5 #[neV N v] w fun r w' => r = .returned (.int .i64 x) ∧ Below w.heap.size w w' := by
  obtain ⟨pn, cn, rfl⟩ := hn.slice
  obtain ⟨ln, hln⟩ : ∃ ln, ln = N.L.length := ⟨_, rfl⟩
  have HFI : Hid (∀ va vu w', Below w.heap.size w w' → Vws w' machP va vu → Calls Tryd.prog 9 #[neV N (.slice pn ln cn), vwV machP va vu] w' fun r w2 => r = .returned (.tuple #[.int .i64 x, .string ⟨#[]⟩, .int .i64 0]) ∧ Below w'.heap.size w' w2) := Lib.hid (fun va vu w' hb hv => by
    rw [hln]
    have := fit_any N machP _ va vu w' (hn.below hb) hk hv mach_ok (hE.below hb) (hT.below hb)
    rw [h] at this
    exact this)
  have HMA := Lib.hid machine_any
  rw [← hln]
  clear hn hk hE hT hln h
  obtain ⟨X, hX⟩ : ∃ X, X = w.heap.size := ⟨_, rfl⟩
  go_enter Tryd.func5, Tryd.ntmps5
  go_upto_region 1 with fail
  refine at_hide (F := fun w' => Blk w' X (neC N (.slice pn ln cn)) 30 ∧ Below w.heap.size w w') ⟨by
    rw [hX]; exact Blk.made w (neC N (.slice pn ln cn)) _, below_alloc _ _⟩ ?_
  intro w1 hF
  rw [← hX]
  have HX1 := Lib.hid hF.1
  have HB1 : Hid (Below w.heap.size w w1) := Lib.hid hF.2
  have HSS : Hid (∀ w', Below w1.heap.size w1 w' → w'.cell? ⟨X, 0, none⟩ = some (.string (bs N.j)) ∧ w'.cell? ⟨X, 1, none⟩ = some (.int .i64 N.d) ∧ w'.cell? ⟨X, 2, none⟩ = some (.int .i64 N.a.c) ∧ w'.cell? ⟨X, 3, none⟩ = some (.int .i64 N.a.r) ∧ w'.cell? ⟨X, 4, none⟩ = some (.int .i64 N.a.d) ∧ w'.cell? ⟨X, 5, none⟩ = some (.int .i64 N.a.p) ∧ w'.cell? ⟨X, 6, none⟩ = some (.slice pn ln cn) ∧ w'.cell? ⟨X, 7, none⟩ = some (.string (bs N.n))) := Lib.hid (fun w' hb => by
    have h1 := HX1.out.kept hb
    exact ⟨h1.cell (j := 0) rfl, h1.cell (j := 1) rfl, h1.cell (j := 2) rfl, h1.cell (j := 3) rfl, h1.cell (j := 4) rfl, h1.cell (j := 5) rfl, h1.cell (j := 6) rfl, h1.cell (j := 7) rfl⟩)
  clear hF hX
  go_region_held3 (fun w' => w'.cell? ⟨X, 0, none⟩ = some (.string (bs N.j)) ∧ w'.cell? ⟨X, 1, none⟩ = some (.int .i64 N.d) ∧ w'.cell? ⟨X, 2, none⟩ = some (.int .i64 N.a.c) ∧ w'.cell? ⟨X, 3, none⟩ = some (.int .i64 N.a.r) ∧ w'.cell? ⟨X, 4, none⟩ = some (.int .i64 N.a.d) ∧ w'.cell? ⟨X, 5, none⟩ = some (.int .i64 N.a.p) ∧ w'.cell? ⟨X, 6, none⟩ = some (.slice pn ln cn) ∧ w'.cell? ⟨X, 7, none⟩ = some (.string (bs N.n)))
    (refine HSS.out _ ?_ <;> (repeat (first | with_reducible exact Below.refl _ _ | with_reducible exact HB8.out | with_reducible exact HB7.out | apply below_drew')))
    (first
      | (go_at_call 8; refine (HMA.out _).mono ?_; rintro r w7 ⟨va, vu, rfl, hv, hb⟩; have HV7 := Lib.hid hv; have HB7 : Hid (Below w1.heap.size w1 w7) := Lib.hid (by refine below_and ?_ hb; (repeat (first | with_reducible exact Below.refl _ _ | apply below_drew'))); clear hb hv)
      | (go_at_call 9; refine (HFI.out _ _ _ (below_and HB1.out (by repeat (first | with_reducible exact HB7.out | apply below_drew'))) (HV7.out.below (by repeat (first | with_reducible exact Below.refl _ _ | apply below_drew')))).mono ?_; rintro r w8 ⟨rfl, hb⟩; have HB8 : Hid (Below w1.heap.size w1 w8) := Lib.hid (by refine below_and ?_ hb; (repeat (first | with_reducible exact HB7.out | apply below_drew'))); clear hb))
  go_wp2
  go_ret
  exact ⟨rfl, below_and HB1.out (by repeat (first | with_reducible exact HB8.out | apply below_drew'))⟩

theorem fit_12 : fitP (needP 1 2) machP = (2, [], 0) := by kernel_rfl
theorem fit_28 : fitP (needP 2 8) machP = (1, [], 0) := by kernel_rfl

set_option maxRecDepth 100000 in
set_option maxHeartbeats 2000000 in
theorem lives_any (w : World) (hE : ErrV w) (hT : Tab w) :
    Calls Tryd.prog 4 #[] w fun r w' => r = .returned (.bool true) ∧ Below w.heap.size w w' := by
  have HND := Lib.hid need_any
  have HK1 : Hid (∀ q k w', Below w.heap.size w w' → Nds w' (needP 1 2) (.slice q 1 k) → Calls Tryd.prog 5 #[neV (needP 1 2) (.slice q 1 k)] w' fun r w2 => r = .returned (.int .i64 2) ∧ Below w'.heap.size w' w2) := Lib.hid (fun q k w' hb hn => kind_any _ _ 2 fit_12 w' hn (need_ok 1 2) (hE.below hb) (hT.below hb))
  have HK2 : Hid (∀ q k w', Below w.heap.size w w' → Nds w' (needP 2 8) (.slice q 1 k) → Calls Tryd.prog 5 #[neV (needP 2 8) (.slice q 1 k)] w' fun r w2 => r = .returned (.int .i64 1) ∧ Below w'.heap.size w' w2) := Lib.hid (fun q k w' hb hn => kind_any _ _ 1 fit_28 w' hn (need_ok 2 8) (hE.below hb) (hT.below hb))
  clear hE hT
  go_enter Tryd.func4, Tryd.ntmps4
  go_wp2_with (first
    | (go_at_call 6; have hx := HB3; clear hx; refine (HND.out _ _ _).mono ?_; rintro r w4 ⟨q4, k4, rfl, hn, hb⟩; have HN4 := Lib.hid hn; have HB4 := Lib.hid (below_and HB3.out hb); clear hn hb)
    | (go_at_call 6; refine (HND.out _ _ _).mono ?_; rintro r w2 ⟨q2, k2, rfl, hn, hb⟩; have HN2 := Lib.hid hn; have HB2 : Hid (Below w.heap.size w w2) := Lib.hid hb; clear hn hb)
    | (go_at_call 5; refine (HK2.out q4 k4 _ HB4.out HN4.out).mono ?_; rintro r w5 ⟨rfl, hb⟩; have HB5 := Lib.hid (below_and HB4.out hb); clear hb)
    | (go_at_call 5; refine (HK1.out q2 k2 _ HB2.out HN2.out).mono ?_; rintro r w3 ⟨rfl, hb⟩; have HB3 := Lib.hid (below_and HB2.out hb); clear hb))
  go_ret
  exact ⟨rfl, HB5.out⟩
end Go.Proofs.YtaipldegobjboaaDoor.Ft
