/- , laid together: FtView, FtNeed, FtRoom3. -/
import Derived.Test.YtaipldegobjboaaDoorFtKey
import Derived.Test.YtaipldegobjboaaDoorMFt0
import Derived.Test.YtaipldegobjboaaDoorFtLaw2
namespace Go.Proofs.YtaipldegobjboaaDoor.Ft
open Go.RowKit Go.Proofs.YtaipldegobjboaaDoor Go.Proofs.YtaipldegobjboaaDoor.Ru

/-- what a walk asks of a use's text and numbers -/
def UsOk (u : Us) : Prop := u.j.length ≤ 1000000000000000 ∧ (Lit.int .i64 u.i).wf = true
set_option maxRecDepth 100000 in
set_option maxHeartbeats 3000000 in
theorem fine_any (u : Us) (w : World) (hu : UsOk u) :
    Calls Tryd.prog 27 #[usV u] w fun r w' => r = .returned (.bool (fineP u)) ∧ Below w.heap.size w w' := by
  obtain ⟨uj, ui, ud, ua, un, ue⟩ := u
  obtain ⟨B, hB⟩ : ∃ B, B = w.heap.size := ⟨_, rfl⟩
  obtain ⟨w1, hw1⟩ : ∃ w1, w1 = w.alloc (.cells #[.string (bs uj), .int .i64 ui, .int .i64 ud, .int .i64 ua.c, .int .i64 ua.r, .int .i64 ua.d, .int .i64 ua.p, .string (bs un), .bool ue] 45) := ⟨_, rfl⟩
  have HB1 : Hid (Below w.heap.size w w1) := Lib.hid (by rw [hw1]; exact below_alloc _ _)
  have HX1 : Hid (Blk w1 B (usC ⟨uj, ui, ud, ua, un, ue⟩) 45) := Lib.hid (by rw [hw1, hB]; exact Blk.made w (usC ⟨uj, ui, ud, ua, un, ue⟩) _)
  obtain ⟨te, hte⟩ : ∃ te, te = taskE uj ui := ⟨_, rfl⟩
  obtain ⟨s, hs⟩ : ∃ s, s = (taskO uj ui).getD [] := ⟨_, rfl⟩
  have HTS : Hid (Calls Tryd.prog 19 #[.agg #[.string (bs uj), .int .i64 ui]] w1 fun r w' => r = .returned (.tuple #[.string (bs s), .int .i64 te]) ∧ Below w1.heap.size w1 w') := Lib.hid (by rw [hs, hte]; exact task_any uj ui w1 hu.1)
  obtain ⟨ck, hck⟩ : ∃ ck, ck = ua.chk := ⟨_, rfl⟩
  have HCK : Hid (∀ w', Calls Tryd.prog 21 #[amV ua] w' fun e w2 => e = .returned (.int .i64 ck) ∧ Below w'.heap.size w' w2) := Lib.hid (fun w' => by rw [hck]; exact check_any ua w')
  have hz := nil_beq un
  obtain ⟨z, hzz⟩ : ∃ z, z = (un == []) := ⟨_, rfl⟩
  rw [← hzz] at hz
  have hz2 : (bs un).toList.isEmpty = z := by rw [← hz]; cases (bs un).toList <;> rfl
  obtain ⟨d0, hd0⟩ : ∃ d0, d0 = decide (0 ≤ ud) := ⟨_, rfl⟩
  obtain ⟨d3, hd3⟩ : ∃ d3, d3 = decide (ud ≤ 3) := ⟨_, rfl⟩
  have t0 := hd0.symm
  have t3 := hd3.symm
  have HR : Hid (fineP ⟨uj, ui, ud, ua, un, ue⟩ = (decide (te = 0) && !(ue && !z) && d0 && d3 && decide (ck = 0))) := Lib.hid (by
    unfold fineP
    rw [hd0, hd3, hzz, hte, hck]
    unfold taskE Am.chk
    cases (taskO uj ui).isSome <;> cases ua.okB <;> rfl)
  rw [HR.out]
  clear hte hs hck hzz hd0 hd3 hu HR
  have y0 := HX1.out.cell (j := 0) rfl
  have y1 := HX1.out.cell (j := 1) rfl
  by_cases ht : te = 0
  · subst ht
    by_cases hc : ck = 0
    · subst hc
      cases ue <;> cases z <;> cases d0 <;> cases d3
      all_goals
        go_enter Tryd.func27, Tryd.ntmps27
        go_upto_region 1 with fail
        rw [← hw1, ← hB]
        clear hw1 hB
        go_wp2_with (first
          | (go_at_call 19; refine HTS.out.mono ?_; rintro r w2 ⟨rfl, hb⟩; have HB2 := Lib.hid (below_and HB1.out hb); have HX2 := Lib.hid (HX1.out.kept hb); have x2 := HX2.out.cell (j := 2) rfl; have x3 := HX2.out.cell (j := 3) rfl; have x4 := HX2.out.cell (j := 4) rfl; have x5 := HX2.out.cell (j := 5) rfl; have x6 := HX2.out.cell (j := 6) rfl; have x7 := HX2.out.cell (j := 7) rfl; have x8 := HX2.out.cell (j := 8) rfl; clear hb)
          | (go_at_call 21; refine (HCK.out _).mono ?_; rintro r w3 ⟨rfl, hb⟩; have HB3 := Lib.hid (below_and HB2.out hb); clear hb))
        go_ret
        first | exact ⟨rfl, HB3.out⟩ | exact ⟨rfl, HB2.out⟩
    · have t1 : (ck == 0) = false := by simpa using hc
      have HC0 : Hid (decide (ck = 0) = false) := Lib.hid (decide_eq_false hc)
      rw [HC0.out, Bool.and_false]
      clear hc
      cases ue <;> cases z <;> cases d0 <;> cases d3
      all_goals
        go_enter Tryd.func27, Tryd.ntmps27
        go_upto_region 1 with fail
        rw [← hw1, ← hB]
        clear hw1 hB
        go_wp2_with (first
          | (go_at_call 19; refine HTS.out.mono ?_; rintro r w2 ⟨rfl, hb⟩; have HB2 := Lib.hid (below_and HB1.out hb); have HX2 := Lib.hid (HX1.out.kept hb); have x2 := HX2.out.cell (j := 2) rfl; have x3 := HX2.out.cell (j := 3) rfl; have x4 := HX2.out.cell (j := 4) rfl; have x5 := HX2.out.cell (j := 5) rfl; have x6 := HX2.out.cell (j := 6) rfl; have x7 := HX2.out.cell (j := 7) rfl; have x8 := HX2.out.cell (j := 8) rfl; clear hb)
          | (go_at_call 21; refine (HCK.out _).mono ?_; rintro r w3 ⟨rfl, hb⟩; have HB3 := Lib.hid (below_and HB2.out hb); clear hb))
        go_ret
        first | exact ⟨rfl, HB3.out⟩ | exact ⟨rfl, HB2.out⟩
  · have t1 : (te == 0) = false := by simpa using ht
    have HC0 : Hid (decide (te = 0) = false) := Lib.hid (decide_eq_false ht)
    rw [HC0.out, Bool.false_and, Bool.false_and, Bool.false_and, Bool.false_and]
    clear ht
    go_enter Tryd.func27, Tryd.ntmps27
    go_upto_region 1 with fail
    rw [← hw1, ← hB]
    clear hw1 hB
    go_wp2_with (go_at_call 19; refine HTS.out.mono ?_; rintro r w2 ⟨rfl, hb⟩; have HB2 := Lib.hid (below_and HB1.out hb); clear hb)
    go_ret
    exact ⟨rfl, HB2.out⟩

/-! CheckView -/
structure VwOk (V : Vw) : Prop where
  n : V.us.length ≤ 1000
  us : ∀ u ∈ V.us, UsOk u
  nm : V.nm.length ≤ 1000000000000000
  at' : ∀ a ∈ V.at', a.vl.length ≤ 1000000000000000
theorem VwOk.j {V : Vw} (h : VwOk V) : ∀ u ∈ V.us, u.j.length ≤ 1000000000000000 := fun u hu => (h.us u hu).1
theorem roomX_some (V : Vw) (p : List UInt8) : (roomX V p).2 = (roomP V p).isSome := by
  unfold roomX
  cases roomP V p <;> rfl
def viewR (V : Vw) : Int := if checkV V = true then 0 else 2
theorem view_no {V : Vw} (h : ¬ Chk V) : viewR V = 2 := by unfold viewR; rw [if_neg (fun e => h (chk_iff.1 e))]
theorem view_yes {V : Vw} (h : Chk V) : viewR V = 0 := by unfold viewR; rw [if_pos (chk_iff.2 h)]
/-- what CheckView keeps: the view at X, the map at M -/
structure CvW (w wx : World) (X M : Nat) (C : List Value) (m : SM) : Prop where
  bx : Blk wx X C 40
  mp : SMap Tryd.prog 43 wx M m
  hb : Below w.heap.size w wx
theorem CvW.kept {w wx wy : World} {X M : Nat} {C : List Value} {m : SM} (h : CvW w wx X M C m) (hb : Below wx.heap.size wx wy) : CvW w wy X M C m := ⟨h.bx.kept hb, h.mp.kept hb, below_and h.hb hb⟩

set_option maxRecDepth 100000 in
set_option maxHeartbeats 4000000 in
theorem checkView_any (V : Vw) (va vu : Value) (w : World) (hv : Vws w V va vu) (hk : VwOk V) :
    Calls Tryd.prog 14 #[vwV V va vu] w fun r w' => r = .returned (.int .i64 (viewR V)) ∧ Below w.heap.size w w' := by
  have HV := Lib.hid hv
  have HK := Lib.hid hk
  obtain ⟨⟨pa, ca, rfl⟩, pu, cu, rfl⟩ := hv.slices
  obtain ⟨la, hla⟩ : ∃ la, la = V.at'.length := ⟨_, rfl⟩
  obtain ⟨n, hn⟩ : ∃ n, n = V.us.length := ⟨_, rfl⟩
  have HRM : Hid (∀ p w', Below w.heap.size w w' → Calls Tryd.prog 24 #[vwV V (.slice pa la ca) (.slice pu n cu), .string (bs p)] w' fun r w2 => r = .returned (.tuple #[amV (roomX V p).1, .bool (roomX V p).2]) ∧ Below w'.heap.size w' w2) := Lib.hid (fun p w' hb => by
    rw [hla, hn]
    exact room_any V _ _ p w' (hv.below hb) hk.n hk.j)
  have HAT : Hid (∀ w', Below w.heap.size w w' → Calls Tryd.prog 26 #[.slice pa la ca] w' fun r w2 => r = .returned (.int .i64 (attrsR V.at')) ∧ Below w'.heap.size w' w2) := Lib.hid (fun w' hb => by
    rw [hla]
    exact attrs_any _ V.at' w' (hv.at'.below hb))
  have HU : Hid (Usw w (.slice pu n cu) V.us) := Lib.hid (by rw [hn]; exact hv.us)
  have HCK : Hid (∀ w', Calls Tryd.prog 21 #[amV V.cap] w' fun e w2 => e = .returned (.int .i64 V.cap.chk) ∧ Below w'.heap.size w' w2) := Lib.hid (fun w' => check_any V.cap w')
  have HN := Lib.hid hn
  rw [← hla, ← hn]
  have hn63 : (n : Int) ≤ 1000 := by have := hk.n; omega
  have hnm := bs_size V.nm
  have hnb : (V.nm.length : Int) ≤ 1000000000000000 := by have := hk.nm; omega
  clear hv hk hla hn HV
  obtain ⟨C, hC⟩ : ∃ C, C = vwC V (.slice pa la ca) (.slice pu n cu) := ⟨_, rfl⟩
  obtain ⟨X, hX⟩ : ∃ X, X = w.heap.size := ⟨_, rfl⟩
  obtain ⟨w1, hw1⟩ : ∃ w1, w1 = w.alloc (.cells #[.string (bs V.nm), .slice pa la ca, .int .i64 V.cap.c, .int .i64 V.cap.r, .int .i64 V.cap.d, .int .i64 V.cap.p, .bool V.up, .slice pu n cu] 40) := ⟨_, rfl⟩
  have HB1 : Hid (Below w.heap.size w w1) := Lib.hid (by rw [hw1]; exact below_alloc _ _)
  have HX1 : Hid (Blk w1 X C 40) := Lib.hid (by rw [hw1, hX, hC]; exact Blk.made w (vwC V (.slice pa la ca) (.slice pu n cu)) _)
  have HC := Lib.hid hC
  have HXW : Hid (w.heap.size ≤ X) := Lib.hid (by omega)
  have c0 := HX1.out.cell (j := 0) (by rw [hC]; rfl)
  clear hC
  by_cases h1 : V.nm.length < 1
  · have HR : Hid (viewR V = 2) := Lib.hid (view_no (fun h => by have := h.nm; omega))
    have t1 : decide ((V.nm.length : Int) < 1) = true := by simp; omega
    go_enter Tryd.func14, Tryd.ntmps14
    go_upto_region 1 with fail
    rw [← hw1, ← hX]
    clear hw1 hX h1
    go_wp2
    go_ret
    exact ⟨ret_int HR.out.symm, HB1.out⟩
  have t1 : decide ((V.nm.length : Int) < 1) = false := by simp; omega
  by_cases h2 : 16 < V.nm.length
  · have HR : Hid (viewR V = 2) := Lib.hid (view_no (fun h => by have := h.nm; omega))
    have t2 : decide ((16 : Int) < (V.nm.length : Int)) = true := by simp; omega
    have t2b : decide (16 < V.nm.length) = true := by simp; omega
    go_enter Tryd.func14, Tryd.ntmps14
    go_upto_region 1 with fail
    rw [← hw1, ← hX]
    clear hw1 hX h1 h2
    go_wp2
    go_ret
    exact ⟨ret_int HR.out.symm, HB1.out⟩
  have t2 : decide ((16 : Int) < (V.nm.length : Int)) = false := by simp; omega
  have t2b : decide (16 < V.nm.length) = false := by simp; omega
  have HNL : Hid (1 ≤ V.nm.length ∧ V.nm.length ≤ 16) := Lib.hid (by omega)
  clear h1 h2
  have c1 := HX1.out.cell (j := 1) (by rw [HC.out]; rfl)
  obtain ⟨ar, har⟩ : ∃ ar, ar = attrsR V.at' := ⟨_, rfl⟩
  rw [← har] at HAT
  have HAR := Lib.hid har
  clear har
  by_cases h3 : ar = 0
  rotate_left
  · have HR : Hid (viewR V = 2) := Lib.hid (view_no (fun h => by have := h.at'; have := HAR.out; omega))
    have t3 : (ar != 0) = true := by simpa using h3
    go_enter Tryd.func14, Tryd.ntmps14
    go_upto_region 1 with fail
    rw [← hw1, ← hX]
    clear hw1 hX h3
    go_wp2_with (go_at_call 26; refine (HAT.out _ HB1.out).mono ?_; rintro r w2 ⟨rfl, hb⟩; have HB2 := Lib.hid (below_and HB1.out hb); clear hb)
    go_ret
    exact ⟨ret_int HR.out.symm, HB2.out⟩
  subst h3
  cases hcap : V.cap.okB with
  | false =>
    have HR : Hid (viewR V = 2) := Lib.hid (view_no (fun h => by have := h.cap; rw [hcap] at this; cases this))
    rw [Am.chk_no hcap] at HCK
    clear hcap
    go_enter Tryd.func14, Tryd.ntmps14
    go_upto_region 1 with fail
    rw [← hw1, ← hX]
    clear hw1 hX
    go_wp2_with (first
      | (go_at_call 26; refine (HAT.out _ HB1.out).mono ?_; rintro r w2 ⟨rfl, hb⟩; have HB2 := Lib.hid (below_and HB1.out hb); have HX2 := Lib.hid (HX1.out.kept hb); have x2 := HX2.out.cell (j := 2) (by rw [HC.out]; rfl); have x3 := HX2.out.cell (j := 3) (by rw [HC.out]; rfl); have x4 := HX2.out.cell (j := 4) (by rw [HC.out]; rfl); have x5 := HX2.out.cell (j := 5) (by rw [HC.out]; rfl); clear hb)
      | (go_at_call 21; refine (HCK.out _).mono ?_; rintro r w3 ⟨rfl, hb⟩; have HB3 := Lib.hid (below_and HB2.out hb); clear hb))
    go_ret
    exact ⟨ret_int HR.out.symm, HB3.out⟩
  | true =>
    have HCAP := Lib.hid hcap
    rw [Am.chk_yes hcap] at HCK
    clear hcap
    have hmm := @run_makeMap Tryd.prog
    go_enter Tryd.func14, Tryd.ntmps14
    go_upto_region 1 with fail
    rw [← hw1, ← hX]
    clear hw1 hX
    go_upto_region 3 with (first
      | (go_at_call 26; refine (HAT.out _ HB1.out).mono ?_; rintro r w2 ⟨rfl, hb⟩; have HB2 := Lib.hid (below_and HB1.out hb); have HX2 := Lib.hid (HX1.out.kept hb); have x2 := HX2.out.cell (j := 2) (by rw [HC.out]; rfl); have x3 := HX2.out.cell (j := 3) (by rw [HC.out]; rfl); have x4 := HX2.out.cell (j := 4) (by rw [HC.out]; rfl); have x5 := HX2.out.cell (j := 5) (by rw [HC.out]; rfl); clear hb c0 c1)
      | (go_at_call 21; refine (HCK.out _).mono ?_; rintro r w3 ⟨rfl, hb⟩; have HB3 := Lib.hid (below_and HB2.out hb); have HX3 := Lib.hid (HX2.out.kept hb); clear hb x2 x3 x4 x5))
    go_upto_region 4 with fail
    obtain ⟨M, hM⟩ : ∃ M, M = w3.heap.size := ⟨_, rfl⟩
    refine at_hide (F := fun w' => CvW w w' X M C []) ⟨HX3.out.alloc _, by rw [hM]; exact smap_made w3 _ _, below_and HB3.out (below_alloc _ _)⟩ ?_
    rw [← hM]
    intro w4 hF
    have HW4 := Lib.hid hF
    have HMW : Hid (w.heap.size ≤ M ∧ M ≠ X) := Lib.hid (by have h1 := HB3.out.size; have h2 := HX3.out.lt; omega)
    have c7 := hF.bx.cell (j := 7) (by rw [HC.out]; rfl)
    clear hF hM t1 t2 t2b hnm hnb HX3 HB3
    go_wp2
    clear c7
    obtain ⟨l, hl⟩ : ∃ l, l = V.us := ⟨_, rfl⟩
    rw [← hl] at HU HN
    have HLL := Lib.hid hl
    have HUO : Hid (∀ u ∈ l, UsOk u) := Lib.hid (by rw [hl]; exact HK.out.us)
    clear hl
    go_loopw [36] (fun i wr => ∃ (k : Nat) (m : SM), k ≤ n ∧ i = .int .i64 (k : Int) ∧ Hid ((∀ u ∈ l.take k, fineP u = true) ∧ ((l.take k).map keyU).Nodup) ∧ Hid (Seen m ((l.take k).map keyU).reverse) ∧ Hid (CvW w wr X M C m)) (fun i _ => n - (intOf i).toNat)
    case atStart => exact ⟨0, [], Nat.zero_le _, rfl, Lib.hid ⟨fun u hu => by simp at hu, by simp⟩, Lib.hid seen_nil, HW4⟩
    case round =>
      obtain ⟨k, m, hk, rfl, HF, HS, HW⟩ := hrel
      by_cases hlt : k < n
      · have HKN : Hid (k < l.length) := Lib.hid (by have := HN.out; omega)
        obtain ⟨u, hu⟩ : ∃ u, u = l[k]'HKN.out := ⟨_, rfl⟩
        have HLC := Lib.hid ((HU.out.below HW.out.hb).at HKN.out)
        rw [← hu] at HLC
        have HTK : Hid (l.take (k + 1) = l.take k ++ [u]) := Lib.hid (by rw [hu]; exact List.take_succ_eq_append_getElem HKN.out)
        have HUM : Hid (u ∈ l) := Lib.hid (by rw [hu]; exact List.getElem_mem _)
        have HOK : Hid (UsOk u) := Lib.hid (HUO.out u HUM.out)
        clear hu
        obtain ⟨b, o, rfl, hcell⟩ := HLC.out
        have q0 := hcell 0 _ rfl
        rw [Nat.add_zero] at q0
        have q1 := hcell 1 _ rfl
        have q2 := hcell 2 _ rfl
        have q3 := hcell 3 _ rfl
        have q4 := hcell 4 _ rfl
        have q5 := hcell 5 _ rfl
        have q6 := hcell 6 _ rfl
        have q7 := hcell 7 _ rfl
        have q8 := hcell 8 _ rfl
        clear hcell HLC
        go_upto_region 7 with fail
        obtain ⟨Y, hY⟩ : ∃ Y, Y = wr.heap.size := ⟨_, rfl⟩
        refine at_hide (F := fun w' => Blk w' Y (usC u) 45 ∧ CvW w w' X M C m) ⟨by rw [hY]; exact Blk.made wr (usC u) _, HW.out.kept (below_alloc _ _)⟩ ?_
        rw [← hY]
        intro w5 hF
        have HW5 := Lib.hid hF.2
        have HY5 := Lib.hid hF.1
        have HYM : Hid (Y ≠ M) := Lib.hid (by have := HW.out.mp.lt; omega)
        clear hF hY q0 q1 q2 q3 q4 q5 q6 q7 q8 HW
        have y0 := HY5.out.cell (j := 0) rfl
        have y1 := HY5.out.cell (j := 1) rfl
        have y2 := HY5.out.cell (j := 2) rfl
        have y3 := HY5.out.cell (j := 3) rfl
        have y4 := HY5.out.cell (j := 4) rfl
        have y5 := HY5.out.cell (j := 5) rfl
        have y6 := HY5.out.cell (j := 6) rfl
        have y7 := HY5.out.cell (j := 7) rfl
        have y8 := HY5.out.cell (j := 8) rfl
        have HFN := Lib.hid (fine_any u w5 HOK.out)
        have HGT := Lib.hid (HS.out.1 u.j u.i HOK.out.1 HOK.out.2)
        have HKO : Hid (keyOf Tryd.prog 43 (.agg #[.string (bs u.j), .int .i64 u.i]) = some (.string (kT (bs u.j) u.i))) := Lib.hid (keyOf_k (by rw [bs_size]; have := HOK.out.1; unfold maxLen; omega) HOK.out.2)
        cases hfn : fineP u with
        | false =>
          have HR : Hid (viewR V = 2) := Lib.hid (view_no (fun h => by have := h.fine u (by rw [← HLL.out]; exact HUM.out); rw [hfn] at this; cases this))
          rw [hfn] at HFN
          clear hfn
          go_wp2_with (go_at_call 27; refine HFN.out.mono ?_; rintro r w6 ⟨rfl, hb⟩; have HW6 := Lib.hid (HW5.out.kept hb); clear hb)
          go_ret
          exact ⟨ret_int HR.out.symm, HW6.out.hb⟩
        | true =>
          have HFU := Lib.hid hfn
          rw [hfn] at HFN
          clear hfn
          by_cases hin : (u.j, u.i) ∈ ((l.take k).map keyU).reverse
          · have HR : Hid (viewR V = 2) := Lib.hid (view_no (fun h => by
              have hnd := h.nd
              rw [← HLL.out] at hnd
              have h3 : ((l.take (k + 1)).map keyU).Nodup := hnd.sublist ((List.take_sublist _ _).map _)
              rw [HTK.out, List.map_append, List.nodup_append] at h3
              exact h3.2.2 (u.j, u.i) (by simpa using hin) (keyU u) (by simp) rfl))
            rw [if_pos hin] at HGT
            have HLK : Hid (∀ wx, SMap Tryd.prog 43 wx M m → (Instr.lookup 70 (.map (some M)) (.agg #[.string (bs u.j), .int .i64 u.i]) false).run Tryd.prog wx = .ok (.bool true) wx) := Lib.hid (fun wx hm => by
              rw [hm.tlook gkeyed Tryd.underlying70 (tkeyed_zero wx) HKO.out, HGT.out]; rfl)
            clear hin
            go_wp2_with (go_at_call 27; refine HFN.out.mono ?_; rintro r w6 ⟨rfl, hb⟩; have HW6 := Lib.hid (HW5.out.kept hb); have hlk := HLK.out w6 HW6.out.mp; have z0 := (HY5.out.kept hb).cell (j := 0) rfl; have z1 := (HY5.out.kept hb).cell (j := 1) rfl; clear hb)
            go_ret
            exact ⟨ret_int HR.out.symm, HW6.out.hb⟩
          · rw [if_neg hin] at HGT
            have HLK : Hid (∀ wx, SMap Tryd.prog 43 wx M m → (Instr.lookup 70 (.map (some M)) (.agg #[.string (bs u.j), .int .i64 u.i]) false).run Tryd.prog wx = .ok (.bool false) wx) := Lib.hid (fun wx hm => by
              rw [hm.tlook gkeyed Tryd.underlying70 (tkeyed_zero wx) HKO.out, HGT.out]; rfl)
            have HF2 : Hid ((∀ x ∈ l.take (k + 1), fineP x = true) ∧ ((l.take (k + 1)).map keyU).Nodup) := Lib.hid (by
              rw [HTK.out]
              refine ⟨fun x hx => ?_, ?_⟩
              · rcases List.mem_append.1 hx with hx | hx
                · exact HF.out.1 x hx
                · rw [List.mem_singleton.1 hx]; exact HFU.out
              · rw [List.map_append, List.nodup_append]
                refine ⟨HF.out.2, by simp, fun a ha b hb e => ?_⟩
                simp only [List.map_cons, List.map_nil, List.mem_singleton] at hb
                subst hb
                subst e
                exact hin (by simpa [keyU] using ha))
            have HS2 : Hid (Seen (m.put (kT (bs u.j) u.i) (.bool true)) ((l.take (k + 1)).map keyU).reverse) := Lib.hid (by
              rw [HTK.out, List.map_append, List.reverse_append]
              exact seen_put HS.out HOK.out.1 HOK.out.2)
            have HML : Hid (m.length < maxLen) := Lib.hid (by
              have h1 := HS.out.2
              rw [List.length_reverse, List.length_map, List.length_take] at h1
              unfold maxLen
              omega)
            clear hin
            go_wp2_with (first
              | (go_at_call 27; refine HFN.out.mono ?_; rintro r w6 ⟨rfl, hb⟩; have HW6 := Lib.hid (HW5.out.kept hb); have hlk := HLK.out w6 HW6.out.mp; have z0 := (HY5.out.kept hb).cell (j := 0) rfl; have z1 := (HY5.out.kept hb).cell (j := 1) rfl; clear hb)
              | (refine wpList_tput _ rfl _ _ _ _ rfl 43 4 gkeyed Tryd.underlying70 M m rfl HW6.out.mp HML.out (.agg #[.string (bs u.j), .int .i64 u.i]) (.bool true) (kT (bs u.j) u.i) rfl rfl HKO.out ?_; intro w8 hp8 hg8; have HW8 : Hid (CvW w w8 X M C (m.put (kT (bs u.j) u.i) (.bool true))) := Lib.hid ⟨HW6.out.bx.grown hg8 (by simp; exact (Ne.symm HMW.out.2)), hp8, HW6.out.hb.trans (grown_below hg8 HMW.out.1 HW6.out.hb.size)⟩; clear hp8 hg8))
            go_roundw
            case rel => exact ⟨k + 1, _, by omega, by go_num, HF2, HS2, HW8⟩
            case measure => simp [intOf]; omega
      · obtain rfl : k = n := by omega
        have HALL : Hid ((∀ u ∈ l, fineP u = true) ∧ (l.map keyU).Nodup) := Lib.hid (by have := HF.out; rwa [HN.out, List.take_length] at this)
        have c7 := HW.out.bx.cell (j := 7) (by rw [HC.out]; rfl)
        go_wp2
        clear c7
        go_loopw [56] (fun i wr => ∃ q : Nat, q ≤ k ∧ i = .int .i64 (q : Int) ∧ Hid (∀ u ∈ l.take q, (roomP V u.n).isSome = true) ∧ Hid (CvW w wr X M C m)) (fun i _ => k - (intOf i).toNat)
        case atStart => exact ⟨0, Nat.zero_le _, rfl, Lib.hid (fun u hu => by simp at hu), HW⟩
        case round =>
          obtain ⟨q, hq, rfl, HG, HW9⟩ := hrel
          by_cases hlt2 : q < k
          · have HKN : Hid (q < l.length) := Lib.hid (by have := HN.out; omega)
            obtain ⟨u, hu⟩ : ∃ u, u = l[q]'HKN.out := ⟨_, rfl⟩
            have HLC := Lib.hid ((HU.out.below HW9.out.hb).at HKN.out)
            rw [← hu] at HLC
            have HTK : Hid (l.take (q + 1) = l.take q ++ [u]) := Lib.hid (by rw [hu]; exact List.take_succ_eq_append_getElem HKN.out)
            have HUM : Hid (u ∈ l) := Lib.hid (by rw [hu]; exact List.getElem_mem _)
            clear hu
            obtain ⟨b, o, rfl, hcell⟩ := HLC.out
            have q0 := hcell 0 _ rfl
            rw [Nat.add_zero] at q0
            have q1 := hcell 1 _ rfl
            have q2 := hcell 2 _ rfl
            have q3 := hcell 3 _ rfl
            have q4 := hcell 4 _ rfl
            have q5 := hcell 5 _ rfl
            have q6 := hcell 6 _ rfl
            have q7 := hcell 7 _ rfl
            have q8 := hcell 8 _ rfl
            clear hcell HLC
            go_upto_region 14 with fail
            obtain ⟨Y, hY⟩ : ∃ Y, Y = wr.heap.size := ⟨_, rfl⟩
            refine at_hide (F := fun w' => Blk w' Y (usC u) 45 ∧ CvW w w' X M C m) ⟨by rw [hY]; exact Blk.made wr (usC u) _, HW9.out.kept (below_alloc _ _)⟩ ?_
            rw [← hY]
            intro w10 hF
            have HW10 := Lib.hid hF.2
            have HY10 := Lib.hid hF.1
            clear hF hY q0 q1 q2 q3 q4 q5 q6 q7 q8 HW9
            have y7 := HY10.out.cell (j := 7) rfl
            have v0 := HW10.out.bx.cell (j := 0) (by rw [HC.out]; rfl)
            have v1 := HW10.out.bx.cell (j := 1) (by rw [HC.out]; rfl)
            have v2 := HW10.out.bx.cell (j := 2) (by rw [HC.out]; rfl)
            have v3 := HW10.out.bx.cell (j := 3) (by rw [HC.out]; rfl)
            have v4 := HW10.out.bx.cell (j := 4) (by rw [HC.out]; rfl)
            have v5 := HW10.out.bx.cell (j := 5) (by rw [HC.out]; rfl)
            have v6 := HW10.out.bx.cell (j := 6) (by rw [HC.out]; rfl)
            have v7 := HW10.out.bx.cell (j := 7) (by rw [HC.out]; rfl)
            obtain ⟨d, hd⟩ : ∃ d, d = roomX V u.n := ⟨_, rfl⟩
            have HRU := Lib.hid (HRM.out u.n w10 HW10.out.hb)
            have HRS := Lib.hid (roomX_some V u.n)
            rw [← hd] at HRU HRS
            clear hd
            obtain ⟨d1, d2⟩ := d
            simp only at HRU HRS
            cases d2 with
            | false =>
              have HR : Hid (viewR V = 2) := Lib.hid (view_no (fun h => by have := h.room u (by rw [← HLL.out]; exact HUM.out); rw [← HRS.out] at this; cases this))
              go_wp2_with (go_at_call 24; refine HRU.out.mono ?_; rintro r w11 ⟨rfl, hb⟩; have HW11 := Lib.hid (HW10.out.kept hb); clear hb)
              go_ret
              exact ⟨ret_int HR.out.symm, below_and HW11.out.hb (below_alloc _ _)⟩
            | true =>
              have HG2 : Hid (∀ x ∈ l.take (q + 1), (roomP V x.n).isSome = true) := Lib.hid (fun x hx => by
                rw [HTK.out] at hx
                rcases List.mem_append.1 hx with hx | hx
                · exact HG.out x hx
                · rw [List.mem_singleton.1 hx, ← HRS.out])
              go_wp2_with (go_at_call 24; refine HRU.out.mono ?_; rintro r w11 ⟨rfl, hb⟩; have HW11 : Hid (CvW w (w11.alloc (.cells (amC d1).toArray 25)) X M C m) := Lib.hid ((HW10.out.kept hb).kept (below_alloc _ _)); clear hb)
              go_roundw
              case rel => exact ⟨q + 1, by omega, by go_num, HG2, HW11⟩
              case measure => simp [intOf]; omega
          · obtain rfl : q = k := by omega
            have HR : Hid (viewR V = 0) := Lib.hid (view_yes ⟨HNL.out, HAR.out.symm, HCAP.out, by rw [← HLL.out]; exact HALL.out.1, by rw [← HLL.out]; exact HALL.out.2, by rw [← HLL.out]; have := HG.out; rwa [HN.out, List.take_length] at this⟩)
            go_wp2
            go_ret
            exact ⟨ret_int HR.out.symm, HW9.out.hb⟩
end Go.Proofs.YtaipldegobjboaaDoor.Ft

namespace Go.Proofs.YtaipldegobjboaaDoor.Ft
open Go.RowKit Go.Proofs.YtaipldegobjboaaDoor Go.Proofs.YtaipldegobjboaaDoor.Ru

theorem am_neq (x y : Am) (w : World) : (binOp .neq 25 (amV x) (amV y)).run Tryd.prog w = .ok (.bool (!(decide (x = y)))) w := by
  go_simp
  obtain ⟨a, b, c, d⟩ := x
  obtain ⟨a', b', c', d'⟩ := y
  simp only [Am.mk.injEq]
  by_cases h1 : a = a'
  · rw [if_pos h1]
    by_cases h2 : b = b'
    · rw [if_pos h2]
      by_cases h3 : c = c'
      · rw [if_pos h3]
        by_cases h4 : d = d'
        · rw [if_pos h4, decide_eq_true ⟨h1, h2, h3, h4⟩]; rfl
        · rw [if_neg h4, decide_eq_false (fun h => h4 h.2.2.2)]; rfl
      · rw [if_neg h3, decide_eq_false (fun h => h3 h.2.2.1)]; rfl
    · rw [if_neg h2, decide_eq_false (fun h => h2 h.2.1)]; rfl
  · rw [if_neg h1, decide_eq_false (fun h => h1 h.1)]; rfl
structure NeOk (N : Ne) : Prop where
  L : ∀ n ∈ N.L, Fit1 n
def needR (N : Ne) : Int := if checkN N = true then 0 else 2
def fine1 (N : Ne) : Bool := specB N.j && decide (0 ≤ N.d) && decide (N.d ≤ 3) && decide (N.a.chk = 0) && !(decide (N.a = Am.zero)) && decide (checkP N.L = 0)
theorem need_is (N : Ne) : checkN N = (fine1 N && (N.n == [] || (specB N.n && decide (N.L = anyL)))) := by
  unfold checkN fine1 Am.chk
  cases N.a.okB <;> simp

set_option maxRecDepth 100000 in
set_option maxHeartbeats 4000000 in
theorem checkNeed_any (N : Ne) (vl : Value) (w : World) (hn : Nds w N vl) (hk : NeOk N) (hE : ErrV w) (hT : Tab w) :
    Calls Tryd.prog 11 #[neV N vl] w fun r w' => r = .returned (.int .i64 (needR N)) ∧ Below w.heap.size w w' := by
  obtain ⟨pn, cn, rfl⟩ := hn.slice
  have HNM : Hid (∀ (l : List UInt8) w', Calls Tryd.prog 20 #[.string (bs l)] w' fun r w2 => r = .returned (.bool (specB l)) ∧ Below w'.heap.size w' w2) := Lib.hid (fun l w' => by
    have := spec_any (bs l) w'
    rw [show (bs l).data.toList = l from by simp [bs]] at this
    exact this)
  have HCA : Hid (∀ w', Calls Tryd.prog 21 #[amV N.a] w' fun e w2 => e = .returned (.int .i64 N.a.chk) ∧ Below w'.heap.size w' w2) := Lib.hid (fun w' => check_any N.a w')
  obtain ⟨ln, hln⟩ : ∃ ln, ln = N.L.length := ⟨_, rfl⟩
  have HCR : Hid (∀ w', Below w.heap.size w w' → Calls Tryd.prog 22 #[.agg #[.slice pn ln cn]] w' fun r w2 => r = .returned (.int .i64 (checkP N.L)) ∧ Below w'.heap.size w' w2) := Lib.hid (fun w' hb => by
    rw [hln]
    exact Ru.check_any _ N.L w' (hn.below hb) hk.L (hE.below hb) (hT.below hb))
  have HEQ : Hid (∀ w', Below w.heap.size w w' → Calls Tryd.prog 23 #[.slice pn ln cn, .slice (some ⟨w'.heap.size, 0, none⟩) 1 1] (w'.alloc (.cells #[.int .i64 1, .string ⟨#[]⟩, .string ⟨#[]⟩, .int .i64 0, .int .i64 (-1), .int .i64 (-1)] 33)) fun r w2 => r = .returned (.bool (decide (N.L = anyL))) ∧ Below w'.heap.size w' w2) := Lib.hid (fun w' hb => by
    rw [hln]
    refine (equal_any _ _ N.L anyL _ (hn.below (below_and hb (below_alloc _ _))) ?_).mono fun r w2 h => ⟨h.1, below_and (below_alloc _ _) h.2⟩
    refine ⟨some ⟨w'.heap.size, 0, none⟩, 1, rfl, Nat.le_refl _, by simp [maxLen], by simp [rwC, anyL], rwC_one ndC_one anyL, by simp, .inr ⟨w'.heap.size, 0, rfl, fun j u hj => ?_⟩⟩
    rw [Nat.zero_add]
    refine (Blk.made w' (ndC ⟨1, [], [], 0, -1, -1⟩) 33).cell ?_
    simpa [rwC, anyL] using hj)
  rw [← hln]
  clear hn hk hE hT hln
  obtain ⟨C, hC⟩ : ∃ C, C = neC N (.slice pn ln cn) := ⟨_, rfl⟩
  obtain ⟨B, hB⟩ : ∃ B, B = w.heap.size := ⟨_, rfl⟩
  have HC := Lib.hid hC
  have hne : ∀ w, (binOp .neq 25 (.agg #[.int .i64 N.a.c, .int .i64 N.a.r, .int .i64 N.a.d, .int .i64 N.a.p]) (.agg #[.int .i64 0, .int .i64 0, .int .i64 0, .int .i64 0])).run Tryd.prog w = .ok (.bool (!(decide (N.a = Am.zero)))) w := am_neq N.a Am.zero
  obtain ⟨s1, hs1⟩ : ∃ s1, s1 = specB N.j := ⟨_, rfl⟩
  obtain ⟨d0, hd0⟩ : ∃ d0, d0 = decide (0 ≤ N.d) := ⟨_, rfl⟩
  obtain ⟨d3, hd3⟩ : ∃ d3, d3 = decide (N.d ≤ 3) := ⟨_, rfl⟩
  obtain ⟨ck, hck⟩ : ∃ ck, ck = N.a.chk := ⟨_, rfl⟩
  obtain ⟨nz, hnz⟩ : ∃ nz, nz = !(decide (N.a = Am.zero)) := ⟨_, rfl⟩
  obtain ⟨cr, hcr⟩ : ∃ cr, cr = checkP N.L := ⟨_, rfl⟩
  have HF1 : Hid (fine1 N = (s1 && d0 && d3 && decide (ck = 0) && nz && decide (cr = 0))) := Lib.hid (by unfold fine1; rw [hs1, hd0, hd3, hck, hnz, hcr])
  have t0 := hd0.symm
  have t3 := hd3.symm
  rw [← hck] at HCA
  rw [← hcr] at HCR
  rw [← hnz] at hne
  have HN1 : Hid (∀ w', Calls Tryd.prog 20 #[.string (bs N.j)] w' fun r w2 => r = .returned (.bool s1) ∧ Below w'.heap.size w' w2) := Lib.hid (fun w' => by rw [hs1]; exact HNM.out N.j w')
  clear hs1 hd0 hd3 hck hnz hcr
  obtain ⟨pe, hpq⟩ : ∃ pe, pe = (bs N.n).toList.isEmpty := ⟨_, rfl⟩
  have HPE : Hid ((N.n == []) = pe) := Lib.hid (by
    rw [hpq]
    by_cases hp : N.n = []
    · rw [hp, bs_nil]; rfl
    · rw [bs_cons hp]; simpa using hp)
  have hpe := hpq.symm
  clear hpq
  have HKN := Lib.hid (need_is N)
  go_enter Tryd.func11, Tryd.ntmps11
  go_upto_region 1 with fail
  refine at_hide (F := fun w' => Blk w' B C 30 ∧ Below w.heap.size w w') ⟨by rw [hB, hC]; exact Blk.made w (neC N (.slice pn ln cn)) _, below_alloc _ _⟩ ?_
  rw [← hB]
  intro w1 hF
  have HX1 := Lib.hid hF.1
  have HB1 : Hid (Below w.heap.size w w1) := Lib.hid (by have := hF.2; rw [hB] at this; exact this)
  have HBW : Hid (w.heap.size ≤ B) := Lib.hid (by omega)
  clear hF hB hC
  go_cut [3] (fun s3 wx => s3 = .bool (fine1 N) ∧ Hid (Blk wx B C 30) ∧ Hid (Below w.heap.size w wx))
  case first =>
    have c0 := HX1.out.cell (j := 0) (by rw [HC.out]; rfl)
    cases s1 with
    | false =>
      go_wp2_with (first | (go_at_call 20; refine (HN1.out _).mono ?_; rintro r w2 ⟨rfl, hb⟩; have HB2 := Lib.hid (below_and HB1.out hb); have HX2 := Lib.hid (HX1.out.kept hb); have x1 := HX2.out.cell (j := 1) (by rw [HC.out]; rfl); have x2 := HX2.out.cell (j := 2) (by rw [HC.out]; rfl); have x3 := HX2.out.cell (j := 3) (by rw [HC.out]; rfl); have x4 := HX2.out.cell (j := 4) (by rw [HC.out]; rfl); have x5 := HX2.out.cell (j := 5) (by rw [HC.out]; rfl); clear hb))
      go_meet
      exact ⟨by rw [HF1.out]; first | rfl | (rw [HD.out]; rfl) | simp, HX2, HB2⟩
    | true =>
      cases d0 with
      | false =>
        go_wp2_with (first | (go_at_call 20; refine (HN1.out _).mono ?_; rintro r w2 ⟨rfl, hb⟩; have HB2 := Lib.hid (below_and HB1.out hb); have HX2 := Lib.hid (HX1.out.kept hb); have x1 := HX2.out.cell (j := 1) (by rw [HC.out]; rfl); have x2 := HX2.out.cell (j := 2) (by rw [HC.out]; rfl); have x3 := HX2.out.cell (j := 3) (by rw [HC.out]; rfl); have x4 := HX2.out.cell (j := 4) (by rw [HC.out]; rfl); have x5 := HX2.out.cell (j := 5) (by rw [HC.out]; rfl); clear hb))
        go_meet
        exact ⟨by rw [HF1.out]; first | rfl | (rw [HD.out]; rfl) | simp, HX2, HB2⟩
      | true =>
        cases d3 with
        | false =>
          go_wp2_with (first | (go_at_call 20; refine (HN1.out _).mono ?_; rintro r w2 ⟨rfl, hb⟩; have HB2 := Lib.hid (below_and HB1.out hb); have HX2 := Lib.hid (HX1.out.kept hb); have x1 := HX2.out.cell (j := 1) (by rw [HC.out]; rfl); have x2 := HX2.out.cell (j := 2) (by rw [HC.out]; rfl); have x3 := HX2.out.cell (j := 3) (by rw [HC.out]; rfl); have x4 := HX2.out.cell (j := 4) (by rw [HC.out]; rfl); have x5 := HX2.out.cell (j := 5) (by rw [HC.out]; rfl); clear hb))
          go_meet
          exact ⟨by rw [HF1.out]; first | rfl | (rw [HD.out]; rfl) | simp, HX2, HB2⟩
        | true =>
          by_cases hck : ck = 0
          rotate_left
          · have t1 : (ck == 0) = false := by simpa using hck
            have HD : Hid (decide (ck = 0) = false) := Lib.hid (decide_eq_false hck)
            clear hck
            go_wp2_with (first | (go_at_call 20; refine (HN1.out _).mono ?_; rintro r w2 ⟨rfl, hb⟩; have HB2 := Lib.hid (below_and HB1.out hb); have HX2 := Lib.hid (HX1.out.kept hb); have x1 := HX2.out.cell (j := 1) (by rw [HC.out]; rfl); have x2 := HX2.out.cell (j := 2) (by rw [HC.out]; rfl); have x3 := HX2.out.cell (j := 3) (by rw [HC.out]; rfl); have x4 := HX2.out.cell (j := 4) (by rw [HC.out]; rfl); have x5 := HX2.out.cell (j := 5) (by rw [HC.out]; rfl); clear hb) | (go_at_call 21; refine (HCA.out _).mono ?_; rintro r w3 ⟨rfl, hb⟩; have HB3 := Lib.hid (below_and HB2.out hb); have HX3 := Lib.hid (HX2.out.kept hb); have z2 := HX3.out.cell (j := 2) (by rw [HC.out]; rfl); have z3 := HX3.out.cell (j := 3) (by rw [HC.out]; rfl); have z4 := HX3.out.cell (j := 4) (by rw [HC.out]; rfl); have z5 := HX3.out.cell (j := 5) (by rw [HC.out]; rfl); have z6 := HX3.out.cell (j := 6) (by rw [HC.out]; rfl); clear hb))
            go_meet
            exact ⟨by rw [HF1.out]; first | rfl | (rw [HD.out]; rfl) | simp, HX3, HB3⟩
          subst hck
          cases nz with
          | false =>
            go_wp2_with (first | (go_at_call 20; refine (HN1.out _).mono ?_; rintro r w2 ⟨rfl, hb⟩; have HB2 := Lib.hid (below_and HB1.out hb); have HX2 := Lib.hid (HX1.out.kept hb); have x1 := HX2.out.cell (j := 1) (by rw [HC.out]; rfl); have x2 := HX2.out.cell (j := 2) (by rw [HC.out]; rfl); have x3 := HX2.out.cell (j := 3) (by rw [HC.out]; rfl); have x4 := HX2.out.cell (j := 4) (by rw [HC.out]; rfl); have x5 := HX2.out.cell (j := 5) (by rw [HC.out]; rfl); clear hb) | (go_at_call 21; refine (HCA.out _).mono ?_; rintro r w3 ⟨rfl, hb⟩; have HB3 := Lib.hid (below_and HB2.out hb); have HX3 := Lib.hid (HX2.out.kept hb); have z2 := HX3.out.cell (j := 2) (by rw [HC.out]; rfl); have z3 := HX3.out.cell (j := 3) (by rw [HC.out]; rfl); have z4 := HX3.out.cell (j := 4) (by rw [HC.out]; rfl); have z5 := HX3.out.cell (j := 5) (by rw [HC.out]; rfl); have z6 := HX3.out.cell (j := 6) (by rw [HC.out]; rfl); clear hb))
            go_meet
            exact ⟨by rw [HF1.out]; first | rfl | (rw [HD.out]; rfl) | simp, HX3, HB3⟩
          | true =>
            by_cases hcr : cr = 0
            rotate_left
            · have t1 : (cr == 0) = false := by simpa using hcr
              have HD : Hid (decide (cr = 0) = false) := Lib.hid (decide_eq_false hcr)
              clear hcr
              go_wp2_with (first | (go_at_call 20; refine (HN1.out _).mono ?_; rintro r w2 ⟨rfl, hb⟩; have HB2 := Lib.hid (below_and HB1.out hb); have HX2 := Lib.hid (HX1.out.kept hb); have x1 := HX2.out.cell (j := 1) (by rw [HC.out]; rfl); have x2 := HX2.out.cell (j := 2) (by rw [HC.out]; rfl); have x3 := HX2.out.cell (j := 3) (by rw [HC.out]; rfl); have x4 := HX2.out.cell (j := 4) (by rw [HC.out]; rfl); have x5 := HX2.out.cell (j := 5) (by rw [HC.out]; rfl); clear hb) | (go_at_call 21; refine (HCA.out _).mono ?_; rintro r w3 ⟨rfl, hb⟩; have HB3 := Lib.hid (below_and HB2.out hb); have HX3 := Lib.hid (HX2.out.kept hb); have z2 := HX3.out.cell (j := 2) (by rw [HC.out]; rfl); have z3 := HX3.out.cell (j := 3) (by rw [HC.out]; rfl); have z4 := HX3.out.cell (j := 4) (by rw [HC.out]; rfl); have z5 := HX3.out.cell (j := 5) (by rw [HC.out]; rfl); have z6 := HX3.out.cell (j := 6) (by rw [HC.out]; rfl); clear hb) | (go_at_call 22; refine (HCR.out _ HB3.out).mono ?_; rintro r w4 ⟨rfl, hb⟩; have HB4 := Lib.hid (below_and HB3.out hb); have HX4 := Lib.hid (HX3.out.kept hb); clear hb))
              go_meet
              exact ⟨by rw [HF1.out]; first | rfl | (rw [HD.out]; rfl) | simp, HX4, HB4⟩
            subst hcr
            go_wp2_with (first | (go_at_call 20; refine (HN1.out _).mono ?_; rintro r w2 ⟨rfl, hb⟩; have HB2 := Lib.hid (below_and HB1.out hb); have HX2 := Lib.hid (HX1.out.kept hb); have x1 := HX2.out.cell (j := 1) (by rw [HC.out]; rfl); have x2 := HX2.out.cell (j := 2) (by rw [HC.out]; rfl); have x3 := HX2.out.cell (j := 3) (by rw [HC.out]; rfl); have x4 := HX2.out.cell (j := 4) (by rw [HC.out]; rfl); have x5 := HX2.out.cell (j := 5) (by rw [HC.out]; rfl); clear hb) | (go_at_call 21; refine (HCA.out _).mono ?_; rintro r w3 ⟨rfl, hb⟩; have HB3 := Lib.hid (below_and HB2.out hb); have HX3 := Lib.hid (HX2.out.kept hb); have z2 := HX3.out.cell (j := 2) (by rw [HC.out]; rfl); have z3 := HX3.out.cell (j := 3) (by rw [HC.out]; rfl); have z4 := HX3.out.cell (j := 4) (by rw [HC.out]; rfl); have z5 := HX3.out.cell (j := 5) (by rw [HC.out]; rfl); have z6 := HX3.out.cell (j := 6) (by rw [HC.out]; rfl); clear hb) | (go_at_call 22; refine (HCR.out _ HB3.out).mono ?_; rintro r w4 ⟨rfl, hb⟩; have HB4 := Lib.hid (below_and HB3.out hb); have HX4 := Lib.hid (HX3.out.kept hb); clear hb))
            go_meet
            exact ⟨by rw [HF1.out]; first | rfl | (rw [HD.out]; rfl) | simp, HX4, HB4⟩
  case rest =>
  obtain ⟨rfl, HX, HB⟩ := hcut
  obtain ⟨wq, hwq⟩ : ∃ wq, wq = wc := ⟨_, rfl⟩
  rw [← hwq] at HX HB ⊢
  clear hwq HX1 HB1 HN1 HCA HCR hne t0 t3 HF1
  obtain ⟨f1, hf1⟩ : ∃ f1, f1 = fine1 N := ⟨_, rfl⟩
  rw [← hf1] at HKN ⊢
  clear hf1
  have c7 := HX.out.cell (j := 7) (by rw [HC.out]; rfl)
  have c6 := HX.out.cell (j := 6) (by rw [HC.out]; rfl)
  rw [HPE.out] at HKN
  cases pe with
  | true =>
    have HR : Hid (needR N = if f1 = true then 0 else 2) := Lib.hid (by unfold needR; rw [HKN.out]; cases f1 <;> rfl)
    cases f1
    all_goals
      go_wp2
      go_ret
      exact ⟨ret_int (by rw [HR.out]; rfl), HB.out⟩
  | false =>
    cases f1 with
    | false =>
      have HR : Hid (needR N = 2) := Lib.hid (by unfold needR; rw [HKN.out]; rfl)
      go_wp2
      go_ret
      exact ⟨ret_int (by rw [HR.out]), HB.out⟩
    | true =>
      have HN2 := Lib.hid (HNM.out N.n)
      cases hs : specB N.n with
      | false =>
        have HR : Hid (needR N = 2) := Lib.hid (by unfold needR; rw [HKN.out, hs]; rfl)
        rw [hs] at HN2
        clear hs
        go_wp2_with (go_at_call 20; refine (HN2.out _).mono ?_; rintro r w2 ⟨rfl, hb⟩; have HB2 := Lib.hid (below_and HB.out hb); clear hb)
        go_ret
        exact ⟨ret_int (by rw [HR.out]), HB2.out⟩
      | true =>
        rw [hs] at HN2
        cases ha : decide (N.L = anyL) with
        | false =>
          have HR : Hid (needR N = 2) := Lib.hid (by unfold needR; rw [HKN.out, hs, ha]; rfl)
          rw [ha] at HEQ
          clear hs ha
          go_wp2_with (first
            | (go_at_call 20; refine (HN2.out _).mono ?_; rintro r w2 ⟨rfl, hb⟩; have HB2 := Lib.hid (below_and HB.out hb); have x6 := (HX.out.kept hb).cell (j := 6) (by rw [HC.out]; rfl); clear hb)
            | (go_at_call 23; refine (HEQ.out _ HB2.out).mono ?_; rintro r w3 ⟨rfl, hb⟩; have HB3 := Lib.hid (below_and HB2.out hb); clear hb))
          go_ret
          exact ⟨ret_int (by rw [HR.out]), HB3.out⟩
        | true =>
          have HR : Hid (needR N = 0) := Lib.hid (by unfold needR; rw [HKN.out, hs, ha]; rfl)
          rw [ha] at HEQ
          clear hs ha
          go_wp2_with (first
            | (go_at_call 20; refine (HN2.out _).mono ?_; rintro r w2 ⟨rfl, hb⟩; have HB2 := Lib.hid (below_and HB.out hb); have x6 := (HX.out.kept hb).cell (j := 6) (by rw [HC.out]; rfl); clear hb)
            | (go_at_call 23; refine (HEQ.out _ HB2.out).mono ?_; rintro r w3 ⟨rfl, hb⟩; have HB3 := Lib.hid (below_and HB2.out hb); clear hb))
          go_ret
          exact ⟨ret_int (by rw [HR.out]), HB3.out⟩
end Go.Proofs.YtaipldegobjboaaDoor.Ft

namespace Go.Proofs.YtaipldegobjboaaDoor.Ft
open Go.RowKit Go.Proofs.YtaipldegobjboaaDoor Go.Proofs.YtaipldegobjboaaDoor.Ru

theorem view_or (V : Vw) : viewR V = 0 ∨ viewR V = 2 := by
  unfold viewR
  cases checkV V
  · exact .inr rfl
  · exact .inl rfl
theorem need_or (N : Ne) : needR N = 0 ∨ needR N = 2 := by
  unfold needR
  cases checkN N
  · exact .inr rfl
  · exact .inl rfl
theorem roomR_is (V : Vw) (p : List UInt8) : roomR V p = if viewR V = 0 then (if (roomX V p).2 = true then ((roomX V p).1, 0) else (Am.zero, 2)) else (Am.zero, 2) := by
  unfold roomR viewR roomX
  cases checkV V
  · rfl
  · cases roomP V p <;> rfl
theorem goersR_is (N : Ne) (V : Vw) (p : List UInt8) : goersR N V p = if needR N = 0 then (if (roomR V p).2 = 0 then (goersP N V p, 0) else ([], (roomR V p).2)) else ([], 2) := by
  unfold goersR needR
  cases checkN N <;> rfl
/-- the view at X, the result at X + 1 -/
structure RrW (w wx : World) (X : Nat) (C : List Value) : Prop where
  bx : Blk wx X C 40
  br : Blk wx (X + 1) (amC Am.zero) 25
  hb : Below w.heap.size w wx
theorem RrW.kept {w wx wy : World} {X : Nat} {C : List Value} (h : RrW w wx X C) (hb : Below wx.heap.size wx wy) : RrW w wy X C := ⟨h.bx.kept hb, h.br.kept hb, below_and h.hb hb⟩

set_option maxRecDepth 100000 in
set_option maxHeartbeats 4000000 in
theorem roomF_any (V : Vw) (va vu : Value) (p : List UInt8) (w : World) (hv : Vws w V va vu) (hk : VwOk V) :
    Calls Tryd.prog 12 #[vwV V va vu, .string (bs p)] w fun r w' => r = .returned (.tuple #[amV (roomR V p).1, .int .i64 (roomR V p).2]) ∧ Below w.heap.size w w' := by
  obtain ⟨⟨pa, ca, rfl⟩, pu, cu, rfl⟩ := hv.slices
  obtain ⟨la, hla⟩ : ∃ la, la = V.at'.length := ⟨_, rfl⟩
  obtain ⟨n, hn⟩ : ∃ n, n = V.us.length := ⟨_, rfl⟩
  obtain ⟨rv, hrv⟩ : ∃ rv, rv = viewR V := ⟨_, rfl⟩
  obtain ⟨d, hd⟩ : ∃ d, d = roomX V p := ⟨_, rfl⟩
  have HCV : Hid (∀ w', Below w.heap.size w w' → Calls Tryd.prog 14 #[vwV V (.slice pa la ca) (.slice pu n cu)] w' fun r w2 => r = .returned (.int .i64 rv) ∧ Below w'.heap.size w' w2) := Lib.hid (fun w' hb => by
    rw [hla, hn, hrv]
    exact checkView_any V _ _ w' (hv.below hb) hk)
  have HRM : Hid (∀ w', Below w.heap.size w w' → Calls Tryd.prog 24 #[vwV V (.slice pa la ca) (.slice pu n cu), .string (bs p)] w' fun r w2 => r = .returned (.tuple #[amV d.1, .bool d.2]) ∧ Below w'.heap.size w' w2) := Lib.hid (fun w' hb => by
    rw [hla, hn, hd]
    exact room_any V _ _ p w' (hv.below hb) hk.n hk.j)
  have HV2 : Hid (rv = 0 ∨ rv = 2) := Lib.hid (by rw [hrv]; exact view_or V)
  have HRR : Hid (roomR V p = if rv = 0 then (if d.2 = true then (d.1, 0) else (Am.zero, 2)) else (Am.zero, 2)) := Lib.hid (by rw [hrv, hd]; exact roomR_is V p)
  rw [← hla, ← hn]
  clear hv hk hla hn hrv hd
  obtain ⟨d1, d2⟩ := d
  simp only at HRM HRR
  obtain ⟨X, hX⟩ : ∃ X, X = w.heap.size := ⟨_, rfl⟩
  go_enter Tryd.func12, Tryd.ntmps12
  go_upto_region 1 with fail
  obtain ⟨C, hC⟩ : ∃ C, C = vwC V (.slice pa la ca) (.slice pu n cu) := ⟨_, rfl⟩
  refine at_hide (F := fun w' => RrW w w' X C) ⟨by
    rw [hX, hC]; exact (Blk.made w (vwC V (.slice pa la ca) (.slice pu n cu)) _).alloc _, by
    rw [hX]
    have := Blk.made (w.alloc (.cells (vwC V (.slice pa la ca) (.slice pu n cu)).toArray 40)) (amC Am.zero) 25
    rw [show (w.alloc (.cells (vwC V (.slice pa la ca) (.slice pu n cu)).toArray 40)).heap.size = w.heap.size + 1 from by simp] at this
    exact this, below_and (below_alloc _ _) (below_alloc _ _)⟩ ?_
  intro w1 hF
  rw [← hX]
  have HW1 := Lib.hid hF
  have HC := Lib.hid hC
  have HXW : Hid (w.heap.size ≤ X) := Lib.hid (by omega)
  have c0 := HW1.out.bx.cell (j := 0) (by rw [hC]; rfl)
  have c1 := HW1.out.bx.cell (j := 1) (by rw [hC]; rfl)
  have c2 := HW1.out.bx.cell (j := 2) (by rw [hC]; rfl)
  have c3 := HW1.out.bx.cell (j := 3) (by rw [hC]; rfl)
  have c4 := HW1.out.bx.cell (j := 4) (by rw [hC]; rfl)
  have c5 := HW1.out.bx.cell (j := 5) (by rw [hC]; rfl)
  have c6 := HW1.out.bx.cell (j := 6) (by rw [hC]; rfl)
  have c7 := HW1.out.bx.cell (j := 7) (by rw [hC]; rfl)
  clear hF hX hC
  go_upto_region 2 with (go_at_call 14; refine (HCV.out _ HW1.out.hb).mono ?_; rintro r w2 ⟨rfl, hb⟩; have HW2 := Lib.hid (HW1.out.kept hb); clear hb)
  clear c0 c1 c2 c3 c4 c5 c6 c7 HW1
  have c0 := HW2.out.bx.cell (j := 0) (by rw [HC.out]; rfl)
  have c1 := HW2.out.bx.cell (j := 1) (by rw [HC.out]; rfl)
  have c2 := HW2.out.bx.cell (j := 2) (by rw [HC.out]; rfl)
  have c3 := HW2.out.bx.cell (j := 3) (by rw [HC.out]; rfl)
  have c4 := HW2.out.bx.cell (j := 4) (by rw [HC.out]; rfl)
  have c5 := HW2.out.bx.cell (j := 5) (by rw [HC.out]; rfl)
  have c6 := HW2.out.bx.cell (j := 6) (by rw [HC.out]; rfl)
  have c7 := HW2.out.bx.cell (j := 7) (by rw [HC.out]; rfl)
  obtain h0 | h0 := HV2.out
  · subst h0
    rw [if_pos rfl] at HRR
    go_upto_region 5 with (go_at_call 24; refine (HRM.out _ HW2.out.hb).mono ?_; rintro r w3 ⟨rfl, hb⟩; have HW3 := Lib.hid (HW2.out.kept hb); clear hb)
    obtain ⟨Z, hZ⟩ : ∃ Z, Z = w3.heap.size := ⟨_, rfl⟩
    refine at_hide (F := fun w' => Blk w' Z (amC d1) 25 ∧ RrW w w' X C) ⟨by rw [hZ]; exact Blk.made w3 (amC d1) _, HW3.out.kept (below_alloc _ _)⟩ ?_
    rw [← hZ]
    intro w4 hF
    have HW4 := Lib.hid hF.2
    have HZ4 := Lib.hid hF.1
    clear hF hZ HW3 c0 c1 c2 c3 c4 c5 c6 c7
    have z0 := HZ4.out.cell (j := 0) (rfl)
    have z1 := HZ4.out.cell (j := 1) (rfl)
    have z2 := HZ4.out.cell (j := 2) (rfl)
    have z3 := HZ4.out.cell (j := 3) (rfl)
    have r0 := HW4.out.br.cell (j := 0) (rfl)
    have r1 := HW4.out.br.cell (j := 1) (rfl)
    have r2 := HW4.out.br.cell (j := 2) (rfl)
    have r3 := HW4.out.br.cell (j := 3) (rfl)
    have f0 := HW4.out.br.free 0
    have f1 := HW4.out.br.free 1
    have f2 := HW4.out.br.free 2
    have f3 := HW4.out.br.free 3
    cases d2 with
    | false =>
      rw [if_neg (by decide)] at HRR
      go_wp2
      refine ret_ct rfl rfl rfl (blk_fill4 HW4.out.br) Tryd.underlying25 rfl size_am ?_
      rw [HRR.out]
      exact ⟨rfl, below_fill4 HW4.out.hb (by have := HXW.out; omega) _ _ _ _⟩
    | true =>
      rw [if_pos rfl] at HRR
      go_wp2
      refine ret_ct rfl rfl rfl (blk_fill4 HW4.out.br) Tryd.underlying25 rfl size_am ?_
      rw [HRR.out]
      exact ⟨rfl, below_fill4 HW4.out.hb (by have := HXW.out; omega) _ _ _ _⟩
  · subst h0
    rw [if_neg (by decide)] at HRR
    have r0 := HW2.out.br.cell (j := 0) (rfl)
    have r1 := HW2.out.br.cell (j := 1) (rfl)
    have r2 := HW2.out.br.cell (j := 2) (rfl)
    have r3 := HW2.out.br.cell (j := 3) (rfl)
    have f0 := HW2.out.br.free 0
    have f1 := HW2.out.br.free 1
    have f2 := HW2.out.br.free 2
    have f3 := HW2.out.br.free 3
    go_wp2
    refine ret_ct rfl rfl rfl (blk_fill4 HW2.out.br) Tryd.underlying25 rfl size_am ?_
    rw [HRR.out]
    exact ⟨rfl, below_fill4 HW2.out.hb (by have := HXW.out; omega) _ _ _ _⟩

/-! Goers -/
structure GeW (w wx : World) (X : Nat) (D C : List Value) : Prop where
  bn : Blk wx X D 30
  bv : Blk wx (X + 1) C 40
  hb : Below w.heap.size w wx
theorem GeW.kept {w wx wy : World} {X : Nat} {D C : List Value} (h : GeW w wx X D C) (hb : Below wx.heap.size wx wy) : GeW w wy X D C := ⟨h.bn.kept hb, h.bv.kept hb, below_and h.hb hb⟩
theorem GeW.made (w : World) (N : Ne) (V : Vw) (a b c : Value) : GeW w ((w.alloc (.cells (neC N a).toArray 30)).alloc (.cells (vwC V b c).toArray 40)) w.heap.size (neC N a) (vwC V b c) := ⟨(Blk.made w (neC N a) _).alloc _, by
  have := Blk.made (w.alloc (.cells (neC N a).toArray 30)) (vwC V b c) 40
  rw [show (w.alloc (.cells (neC N a).toArray 30)).heap.size = w.heap.size + 1 from by simp] at this
  exact this, below_and (below_alloc _ _) (below_alloc _ _)⟩
theorem room_or (V : Vw) (p : List UInt8) : (roomR V p).2 = 0 ∨ (roomR V p).2 = 2 := by
  unfold roomR
  cases checkV V
  · exact .inr rfl
  · cases roomP V p
    · exact .inr rfl
    · exact .inl rfl

set_option maxRecDepth 100000 in
set_option maxHeartbeats 4000000 in
theorem goersG_any (N : Ne) (V : Vw) (vl va vu : Value) (p : List UInt8) (w : World) (hn : Nds w N vl) (hnk : NeOk N) (hv : Vws w V va vu) (hk : VwOk V) (hE : ErrV w) (hT : Tab w) :
    Calls Tryd.prog 7 #[neV N vl, vwV V va vu, .string (bs p)] w fun r w' => ∃ v', r = .returned (.tuple #[v', .int .i64 (goersR N V p).2]) ∧ Usw w' v' (goersR N V p).1 ∧ Below w.heap.size w w' := by
  obtain ⟨pn, cn, rfl⟩ := hn.slice
  obtain ⟨⟨pa, ca, rfl⟩, pu, cu, rfl⟩ := hv.slices
  obtain ⟨ln, hln⟩ : ∃ ln, ln = N.L.length := ⟨_, rfl⟩
  obtain ⟨la, hla⟩ : ∃ la, la = V.at'.length := ⟨_, rfl⟩
  obtain ⟨lu, hlu⟩ : ∃ lu, lu = V.us.length := ⟨_, rfl⟩
  obtain ⟨rn, hrn⟩ : ∃ rn, rn = needR N := ⟨_, rfl⟩
  obtain ⟨d, hd⟩ : ∃ d, d = roomR V p := ⟨_, rfl⟩
  have HCN : Hid (∀ w', Below w.heap.size w w' → Calls Tryd.prog 11 #[neV N (.slice pn ln cn)] w' fun r w2 => r = .returned (.int .i64 rn) ∧ Below w'.heap.size w' w2) := Lib.hid (fun w' hb => by
    rw [hln, hrn]
    exact checkNeed_any N _ w' (hn.below hb) hnk (hE.below hb) (hT.below hb))
  have HRM : Hid (∀ w', Below w.heap.size w w' → Calls Tryd.prog 12 #[vwV V (.slice pa la ca) (.slice pu lu cu), .string (bs p)] w' fun r w2 => r = .returned (.tuple #[amV d.1, .int .i64 d.2]) ∧ Below w'.heap.size w' w2) := Lib.hid (fun w' hb => by
    rw [hla, hlu, hd]
    exact roomF_any V _ _ p w' (hv.below hb) hk)
  have HGO : Hid (∀ w', Below w.heap.size w w' → Calls Tryd.prog 13 #[neV N (.slice pn ln cn), vwV V (.slice pa la ca) (.slice pu lu cu), .string (bs p)] w' fun r w2 => ∃ v', r = .returned v' ∧ Usw w2 v' (goersP N V p) ∧ Below w'.heap.size w' w2) := Lib.hid (fun w' hb => by
    rw [hln, hla, hlu]
    exact goersF_any N V _ _ _ p w' (hn.below hb) (hv.below hb) hk.n)
  have HN2 : Hid (rn = 0 ∨ rn = 2) := Lib.hid (by rw [hrn]; exact need_or N)
  have HD2 : Hid (d.2 = 0 ∨ d.2 = 2) := Lib.hid (by rw [hd]; exact room_or V p)
  have HGR : Hid (goersR N V p = if rn = 0 then (if d.2 = 0 then (goersP N V p, 0) else ([], d.2)) else ([], 2)) := Lib.hid (by rw [hrn, hd]; exact goersR_is N V p)
  rw [← hln, ← hla, ← hlu]
  clear hn hnk hv hk hE hT hln hla hlu hrn hd
  obtain ⟨d1, d2⟩ := d
  simp only at HRM HD2 HGR
  obtain ⟨X, hX⟩ : ∃ X, X = w.heap.size := ⟨_, rfl⟩
  go_enter Tryd.func7, Tryd.ntmps7
  go_upto_region 1 with fail
  obtain ⟨D, hD⟩ : ∃ D, D = neC N (.slice pn ln cn) := ⟨_, rfl⟩
  obtain ⟨C, hC⟩ : ∃ C, C = vwC V (.slice pa la ca) (.slice pu lu cu) := ⟨_, rfl⟩
  refine at_hide (F := fun w' => GeW w w' X D C) (by rw [hX, hD, hC]; exact GeW.made w N V _ _ _) ?_
  intro w1 hF
  rw [← hX]
  have HW1 := Lib.hid hF
  have HC := Lib.hid hC
  have HD := Lib.hid hD
  have n0 := HW1.out.bn.cell (j := 0) (by rw [hD]; rfl)
  have n1 := HW1.out.bn.cell (j := 1) (by rw [hD]; rfl)
  have n2 := HW1.out.bn.cell (j := 2) (by rw [hD]; rfl)
  have n3 := HW1.out.bn.cell (j := 3) (by rw [hD]; rfl)
  have n4 := HW1.out.bn.cell (j := 4) (by rw [hD]; rfl)
  have n5 := HW1.out.bn.cell (j := 5) (by rw [hD]; rfl)
  have n6 := HW1.out.bn.cell (j := 6) (by rw [hD]; rfl)
  have n7 := HW1.out.bn.cell (j := 7) (by rw [hD]; rfl)
  clear hF hX hC hD
  go_upto_region 2 with (go_at_call 11; refine (HCN.out _ HW1.out.hb).mono ?_; rintro r w2 ⟨rfl, hb⟩; have HW2 := Lib.hid (HW1.out.kept hb); clear hb)
  clear n0 n1 n2 n3 n4 n5 n6 n7 HW1 HCN
  have c0 := HW2.out.bv.cell (j := 0) (by rw [HC.out]; rfl)
  have c1 := HW2.out.bv.cell (j := 1) (by rw [HC.out]; rfl)
  have c2 := HW2.out.bv.cell (j := 2) (by rw [HC.out]; rfl)
  have c3 := HW2.out.bv.cell (j := 3) (by rw [HC.out]; rfl)
  have c4 := HW2.out.bv.cell (j := 4) (by rw [HC.out]; rfl)
  have c5 := HW2.out.bv.cell (j := 5) (by rw [HC.out]; rfl)
  have c6 := HW2.out.bv.cell (j := 6) (by rw [HC.out]; rfl)
  have c7 := HW2.out.bv.cell (j := 7) (by rw [HC.out]; rfl)
  obtain h0 | h0 := HN2.out
  · subst h0
    rw [if_pos rfl] at HGR
    go_upto_region 5 with (go_at_call 12; refine (HRM.out _ HW2.out.hb).mono ?_; rintro r w3 ⟨rfl, hb⟩; have HW3 := Lib.hid (HW2.out.kept hb); clear hb)
    refine at_hide (F := fun w' => GeW w w' X D C) (HW3.out.kept (below_alloc _ _)) ?_
    intro w4 hF
    have HW4 := Lib.hid hF
    clear hF HW3 c0 c1 c2 c3 c4 c5 c6 c7
    obtain h1 | h1 := HD2.out
    · subst h1
      rw [if_pos rfl] at HGR
      have c0 := HW4.out.bv.cell (j := 0) (by rw [HC.out]; rfl)
      have c1 := HW4.out.bv.cell (j := 1) (by rw [HC.out]; rfl)
      have c2 := HW4.out.bv.cell (j := 2) (by rw [HC.out]; rfl)
      have c3 := HW4.out.bv.cell (j := 3) (by rw [HC.out]; rfl)
      have c4 := HW4.out.bv.cell (j := 4) (by rw [HC.out]; rfl)
      have c5 := HW4.out.bv.cell (j := 5) (by rw [HC.out]; rfl)
      have c6 := HW4.out.bv.cell (j := 6) (by rw [HC.out]; rfl)
      have c7 := HW4.out.bv.cell (j := 7) (by rw [HC.out]; rfl)
      have n0 := HW4.out.bn.cell (j := 0) (by rw [HD.out]; rfl)
      have n1 := HW4.out.bn.cell (j := 1) (by rw [HD.out]; rfl)
      have n2 := HW4.out.bn.cell (j := 2) (by rw [HD.out]; rfl)
      have n3 := HW4.out.bn.cell (j := 3) (by rw [HD.out]; rfl)
      have n4 := HW4.out.bn.cell (j := 4) (by rw [HD.out]; rfl)
      have n5 := HW4.out.bn.cell (j := 5) (by rw [HD.out]; rfl)
      have n6 := HW4.out.bn.cell (j := 6) (by rw [HD.out]; rfl)
      have n7 := HW4.out.bn.cell (j := 7) (by rw [HD.out]; rfl)
      go_wp2_with (go_at_call 13; refine (HGO.out _ HW4.out.hb).mono ?_; rintro r w5 ⟨v5, rfl, hu, hb⟩; have HU5 := Lib.hid hu; have HW5 := Lib.hid (HW4.out.kept hb); clear hu hb)
      go_ret2
      rw [HGR.out]
      exact ⟨_, rfl, HU5.out, HW5.out.hb⟩
    · subst h1
      rw [if_neg (by decide)] at HGR
      go_wp2
      go_ret2
      rw [HGR.out]
      exact ⟨_, rfl, row_nil _ 9, HW4.out.hb⟩
  · subst h0
    rw [if_neg (by decide)] at HGR
    go_wp2
    go_ret2
    rw [HGR.out]
    exact ⟨_, rfl, row_nil _ 9, HW2.out.hb⟩
end Go.Proofs.YtaipldegobjboaaDoor.Ft
