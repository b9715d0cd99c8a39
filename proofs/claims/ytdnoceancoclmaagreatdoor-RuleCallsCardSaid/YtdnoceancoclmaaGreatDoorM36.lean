/- , laid together: RuHold, RdLeafy. -/
import Derived.Test.YtdnoceancoclmaaGreatDoorRuHoldP
import Derived.Test.YtdnoceancoclmaaGreatDoorRuShap
import Derived.Test.YtdnoceancoclmaaGreatDoorM17
import Derived.Test.YtdnoceancoclmaaGreatDoorRuPart
namespace Go.Proofs.YtdnoceancoclmaaGreatDoor.Ru
open Go.RowKit Go.Proofs.YtdnoceancoclmaaGreatDoor

theorem bs_beq (a b : List UInt8) : ((bs a).toList == (bs b).toList) = (a == b) := by
  rw [Lib.toList_data, Lib.toList_data]
  simp [bs]
/-- one attribute of the list, in a row -/
theorem attr_at {w : World} {p : Option Addr} {n c : Nat} {A : List At} (h : Row w (.slice p n c) 2 A.length (rwC atC A)) {i : Nat} (hi : i < A.length) :
    ∃ b o, p = some ⟨b, o, none⟩ ∧ w.cell? ⟨b, o + i * 2, none⟩ = some (.string (bs A[i].nm)) ∧ w.cell? ⟨b, o + i * 2 + 1, none⟩ = some (.string (bs A[i].vl)) := by
  obtain ⟨p1, c1, hv, h1, h2, h3, h4, h5, h6⟩ := h
  simp only [Value.slice.injEq] at hv
  obtain ⟨rfl, -, rfl⟩ := hv
  rcases h6 with h6 | ⟨b, o, hp, ha⟩
  · rw [h6] at h3; simp at h3; omega
  · refine ⟨b, o, hp, ?_, ?_⟩
    · refine ha (i * 2) _ ?_
      have := rwC_at (c := atC) (k := 2) (fun _ => rfl) hi (j := 0) (by omega)
      rw [Nat.add_zero] at this
      rw [this]; rfl
    · rw [Nat.add_assoc]
      refine ha (i * 2 + 1) _ ?_
      rw [rwC_at (c := atC) (k := 2) (fun _ => rfl) hi (j := 1) (by omega)]; rfl
def kI (A : List At) (nm : List UInt8) : Int := if atI A nm < A.length then (atI A nm : Int) else -1
theorem atI_of {A : List At} {nm : List UInt8} {i : Nat} (hi : i < A.length) (h1 : A[i].nm = nm) (h2 : ∀ j (h : j < A.length), j < i → A[j].nm ≠ nm) : atI A nm = i := by
  unfold atI
  rw [List.findIdx_eq hi]
  exact ⟨by simpa using h1, fun j hj => by simpa using h2 j (by omega) hj⟩
theorem atI_no {A : List At} {nm : List UInt8} (h : ∀ j (h : j < A.length), A[j].nm ≠ nm) : ¬ atI A nm < A.length := by
  unfold atI
  intro hlt
  have := List.findIdx_getElem (w := hlt)
  simp only [beq_iff_eq] at this
  exact h _ hlt this

set_option maxRecDepth 100000 in
set_option maxHeartbeats 1000000 in
theorem hold1_any (x : At) (Y : Nat) (nm : List UInt8) (w : World) (h : w.cell? ⟨Y, 1, none⟩ = some (.string (bs nm))) :
    Calls Tryz.prog 51 #[.agg #[.string (bs x.nm), .string (bs x.vl)], ptr Y] w fun r w' => r = .returned (.bool (x.nm == nm)) ∧ Below w.heap.size w w' := by
  have hb := below_alloc w (.cells #[.string (bs x.nm), .string (bs x.vl)] 40)
  have c1 := cell_kept h hb
  have hq := bs_beq x.nm nm
  clear h hb
  obtain ⟨q, hqq⟩ : ∃ q, q = (x.nm == nm) := ⟨_, rfl⟩
  rw [← hqq] at hq ⊢
  clear hqq
  cases q
  all_goals go_enter Tryz.func51, Tryz.ntmps51
  all_goals go_wp2
  all_goals go_ret
  all_goals exact ⟨ret_bool rfl, below_alloc _ _⟩

set_option maxRecDepth 100000 in
set_option maxHeartbeats 1000000 in
theorem hindex_any (v : Value) (A : List At) (Y : Nat) (nm : List UInt8) (w : World) (hv : Row w v 2 A.length (rwC atC A)) (h : w.cell? ⟨Y, 1, none⟩ = some (.string (bs nm))) :
    Calls Tryz.prog 50 #[v, .func (.func 51) #[] #[ptr Y]] w fun r w' => r = .returned (.int .i64 (kI A nm)) ∧ Below w.heap.size w w' := by
  obtain ⟨p, c, rfl, hc, hm, -⟩ := id hv
  have HV := Lib.hid hv
  have HC := Lib.hid h
  have hml : maxLen ≤ 9223372036854775807 := by decide
  have hn63 : (A.length : Int) ≤ 9223372036854775807 := by omega
  obtain ⟨n, hn⟩ : ∃ n, n = A.length := ⟨_, rfl⟩
  have HN := Lib.hid hn
  rw [← hn] at hn63 ⊢
  clear hv h hc hm hml hn
  go_enter Tryz.func50, Tryz.ntmps50
  go_wp2
  go_loopw [8] (fun i wr => ∃ k : Nat, k ≤ n ∧ i = .int .i64 (k : Int) ∧ Hid (∀ j (h : j < A.length), j < k → A[j].nm ≠ nm) ∧ Hid (Below w.heap.size w wr)) (fun i _ => n - (intOf i).toNat)
  case atStart => exact ⟨0, Nat.zero_le _, rfl, Lib.hid (fun j _ h => by omega), Lib.hid (Below.refl _ _)⟩
  case round =>
    obtain ⟨k, hk, rfl, HF, HB⟩ := hrel
    by_cases hlt : k < n
    · have HKN : Hid (k < A.length) := Lib.hid (by have := HN.out; omega)
      obtain ⟨x, hx⟩ : ∃ x, x = A[k]'HKN.out := ⟨_, rfl⟩
      have HLC : Hid (∃ b o, p = some ⟨b, o, none⟩ ∧ wr.cell? ⟨b, o + k * 2, none⟩ = some (.string (bs x.nm)) ∧ wr.cell? ⟨b, o + k * 2 + 1, none⟩ = some (.string (bs x.vl))) := Lib.hid (by
        rw [hx]
        exact attr_at (HV.out.below HB.out) HKN.out)
      have HX := Lib.hid hx
      clear hx
      obtain ⟨b, o, rfl, q0, q1⟩ := HLC.out
      have HC1 : Hid (Calls Tryz.prog 51 #[.agg #[.string (bs x.nm), .string (bs x.vl)], ptr Y] wr fun r w' => r = .returned (.bool (x.nm == nm)) ∧ Below wr.heap.size wr w') := Lib.hid (hold1_any x Y nm wr (cell_kept HC.out HB.out))
      by_cases he : x.nm = nm
      · have HR : Hid (kI A nm = (k : Int)) := Lib.hid (by
          have h1 := atI_of HKN.out (nm := nm) (by rw [← HX.out]; exact he) HF.out
          unfold kI
          rw [h1, if_pos HKN.out])
        rw [beq_iff_eq.2 he] at HC1
        clear he HLC
        go_wp2_with (go_at_call 51; refine HC1.out.mono ?_; rintro r w2 ⟨rfl, hb⟩; have HB2 := Lib.hid (below_and HB.out hb); clear hb)
        go_ret
        exact ⟨ret_int HR.out.symm, HB2.out⟩
      · have HF2 : Hid (∀ j (h : j < A.length), j < k + 1 → A[j].nm ≠ nm) := Lib.hid (fun j h hj => by
          by_cases e : j = k
          · subst e; rw [← HX.out]; exact he
          · exact HF.out j h (by omega))
        rw [beq_eq_false_iff_ne.2 he] at HC1
        clear he HLC
        go_wp2_with (go_at_call 51; refine HC1.out.mono ?_; rintro r w2 ⟨rfl, hb⟩; have HB2 := Lib.hid (below_and HB.out hb); clear hb)
        go_roundw
        case rel => exact ⟨k + 1, by omega, by go_num, HF2, HB2⟩
        case measure => simp [intOf]; omega
    · obtain rfl : k = n := by omega
      have HR : Hid (kI A nm = -1) := Lib.hid (by
        have h1 := atI_no (A := A) (nm := nm) (fun j h => HF.out j h (by have := HN.out; omega))
        unfold kI
        rw [if_neg h1])
      go_wp2
      go_ret
      exact ⟨ret_int HR.out.symm, HB.out⟩

/-- the contract of holds at a node -/
def HoldC (L : List Nd) (A : List At) (i : Nat) (W : World → Prop) : Prop :=
  ∀ (v u : Value) (w : World), Row w v 6 L.length (rwC ndC L) → Row w u 2 A.length (rwC atC A) → W w → Calls Tryz.prog 32 #[v, .int .i64 (i : Int), u] w fun r w' => r = .returned (.bool (hol L A i)) ∧ Below w.heap.size w w'

set_option maxRecDepth 100000 in
set_option maxHeartbeats 2000000 in
theorem hold_step (L : List Nd) (A : List At) (hf : Fine L) (i : Nat) (hi : i < L.length) (W : World → Prop) (hW : ∀ w w', W w → Below w.heap.size w w' → W w') (hT : ∀ w, W w → ErrV w) (ih : ∀ j, j < i → HoldC L A j W) (hvl : ∀ a ∈ A, a.vl.length ≤ 1000000000000000000) : HoldC L A i W := by
  unfold HoldC
  intro v u w hr hu hw
  have HR := Lib.hid hr
  have HU := Lib.hid hu
  have HWW := Lib.hid hw
  obtain ⟨n, hn⟩ : ∃ n, n = L[i] := ⟨_, rfl⟩
  obtain ⟨p, c, rfl, hc1, hc2, -⟩ := id hr
  obtain ⟨pu, cu, rfl, hu1, hu2, -⟩ := id hu
  have HLC := Lib.hid (node_at hr hi)
  rw [← hn] at HLC
  obtain ⟨b, o, rfl, hcell⟩ := HLC.out
  have q0 := hcell 0 _ rfl
  rw [Nat.add_zero] at q0
  have q1 := hcell 1 _ rfl
  have q2 := hcell 2 _ rfl
  have q3 := hcell 3 _ rfl
  have q4 := hcell 4 _ rfl
  have q5 := hcell 5 _ rfl
  have HEQ := Lib.hid (hol_eq (A := A) hf (List.getElem?_eq_getElem hi))
  have HPA := Lib.hid (hf i _ (List.getElem?_eq_getElem hi))
  rw [← hn] at HEQ HPA
  have HI := Lib.hid hi
  have hml : maxLen ≤ 9223372036854775807 := by decide
  have i0 : (0 : Int) ≤ (i : Int) := by omega
  have i1 : (i : Int) < (L.length : Int) := by omega
  have hl63 : (L.length : Int) ≤ 9223372036854775807 := by omega
  have ha63 : (A.length : Int) ≤ 9223372036854775807 := by omega
  obtain ⟨hv0, hhv⟩ : ∃ hv0, hv0 = hol L A i := ⟨_, rfl⟩
  rw [← hhv] at HEQ ⊢
  have HVL := Lib.hid hvl
  clear hr hu hw hn hcell HLC hc1 hc2 hu1 hu2 hhv hml hvl
  go_enter Tryz.func32, Tryz.ntmps32
  go_upto_region 2 with fail
  obtain ⟨Y, hY⟩ : ∃ Y, Y = w.heap.size := ⟨_, rfl⟩
  refine at_hide (F := fun w' => Blk w' Y (ndC n) 52 ∧ Below w.heap.size w w') ⟨by rw [hY]; exact Blk.made w (ndC n) _, below_alloc _ _⟩ ?_
  rw [← hY]
  intro w1 hF
  have HB1 : Hid (Below w.heap.size w w1) := Lib.hid (by have := hF.2; rw [hY] at this; exact this)
  have HY1 := Lib.hid hF.1
  clear hF hY q0 q1 q2 q3 q4 q5
  obtain ⟨kd, nm, vl, xx, na, nb⟩ := n
  have HIX : Hid (Calls Tryz.prog 50 #[.slice pu A.length cu, .func (.func 51) #[] #[ptr Y]] w1 fun r w' => r = .returned (.int .i64 (kI A nm)) ∧ Below w1.heap.size w1 w') := Lib.hid (hindex_any _ A Y nm w1 (HU.out.below HB1.out) (HY1.out.cell (j := 1) rfl))
  obtain ⟨kk, hkk⟩ : ∃ kk, kk = kI A nm := ⟨_, rfl⟩
  rw [← hkk] at HIX
  have HKK := Lib.hid hkk
  clear hkk
  go_upto_region 3 with (go_at_call 50; refine HIX.out.mono ?_; rintro r w2 ⟨rfl, hb⟩; have HB2 := Lib.hid (below_and HB1.out hb); have HY2 := Lib.hid (HY1.out.kept hb); clear hb)
  have HR2 := Lib.hid (HR.out.below HB2.out)
  have HU2 := Lib.hid (HU.out.below HB2.out)
  have HW2 := Lib.hid (hW _ _ HWW.out HB2.out)
  clear HR HU HWW HIX HY1
  have y0 := HY2.out.cell (j := 0) rfl
  have y1 := HY2.out.cell (j := 1) rfl
  have y2 := HY2.out.cell (j := 2) rfl
  have y3 := HY2.out.cell (j := 3) rfl
  have y4 := HY2.out.cell (j := 4) rfl
  have y5 := HY2.out.cell (j := 5) rfl
  have HAB : Hid (∀ (x : Int) (w' : World), 0 ≤ x → x < (i : Int) → Below w2.heap.size w2 w' → Calls Tryz.prog 32 #[.slice (some ⟨b, o, none⟩) L.length c, .int .i64 x, .slice pu A.length cu] w' fun r w3 => r = .returned (.bool (hol L A x.toNat)) ∧ Below w'.heap.size w' w3) := Lib.hid (fun x w' h0 h1 hb => by
    have := ih x.toNat (by omega) _ _ w' (HR2.out.below hb) (HU2.out.below hb) (hW _ _ HW2.out hb)
    rw [Int.toNat_of_nonneg h0] at this
    exact this)
  simp only at y0 y1 y2 y3 y4 y5 HEQ HPA
  by_cases k1 : kd = 1
  · subst k1
    have HRR : Hid (hv0 = true) := Lib.hid (by rw [HEQ.out]; simp [leafH])
    go_wp2
    go_ret
    exact ⟨ret_bool HRR.out.symm, HB2.out⟩
  have b1 : (kd == 1) = false := by simpa using k1

  by_cases k2 : kd = 2
  · subst k2
    clear k1 b1
    by_cases hfd : atI A nm < A.length
    · obtain ⟨q, hq⟩ : ∃ q, q = atI A nm := ⟨_, rfl⟩
      have HVA := Lib.hid (valAt_some hfd)
      have HKQ : Hid (kk = (q : Int)) := Lib.hid (by rw [HKK.out, hq]; unfold kI; rw [if_pos hfd])
      have HQL : Hid (q < A.length) := Lib.hid (by rw [hq]; exact hfd)
      obtain ⟨tv, htv⟩ : ∃ tv, tv = (A[q]'HQL.out).vl := ⟨_, rfl⟩
      have HVV : Hid (valAt A nm = some tv) := Lib.hid (by rw [HVA.out, htv]; subst hq; rfl)
      have HAT := Lib.hid (attr_at HU2.out HQL.out)
      rw [← htv] at HAT
      have HTL : Hid (tv.length ≤ 1000000000000000000) := Lib.hid (by rw [htv]; exact HVL.out _ (List.getElem_mem _))
      have hkq := HKQ.out
      subst hkq
      have kq0 : (0 : Int) ≤ (q : Int) := by omega
      have kq2 : decide ((q : Int) < 0) = false := by simp
      have kq1 : (q : Int) < (A.length : Int) := by have := HQL.out; omega
      clear hq htv HVA hfd HKQ HKK
      obtain ⟨bu, ou, rfl, a0, a1⟩ := HAT.out
      have HA1 := Lib.hid a1
      have pa1 : ∀ s : Past w2, s.val.cell? ⟨bu, ou + q * 2 + 1, none⟩ = some (.string (bs tv)) := fun s => cell_kept HA1.out s.h
      have p2 : ∀ s : Past w2, s.val.cell? ⟨Y, 2, none⟩ = some (.string (bs vl)) := Past.blk HY2.out (j := 2) rfl
      have p3 : ∀ s : Past w2, s.val.cell? ⟨Y, 3, none⟩ = some (.int .i64 xx) := Past.blk HY2.out (j := 3) rfl
      clear a0 a1 HAT
      have hbq := bs_beq tv vl
      obtain ⟨q2, hq2⟩ : ∃ q2, q2 = (tv == vl) := ⟨_, rfl⟩
      rw [← hq2] at hbq
      have HRR : Hid (hv0 = q2) := Lib.hid (by rw [HEQ.out, hq2]; simp [leafH, HVV.out])
      clear hq2
      cases q2
      all_goals
        go_upto_region 7 with fail
        refine wp_region_past (by kernel_rfl) (by kernel_rfl) ?_
        repeat (go_big_quiet_step (fail))
        refine wpQuiet_nil ?_
        intro _ hw'
        obtain ⟨s9, hw''⟩ := hw'
        subst hw''
        go_wp2
        go_ret
        exact ⟨ret_bool HRR.out.symm, below_and HB2.out s9.h⟩
    · have HVV : Hid (valAt A nm = none) := Lib.hid (valAt_none hfd)
      have HKQ : Hid (kk = -1) := Lib.hid (by rw [HKK.out]; unfold kI; rw [if_neg hfd])
      have hkq := HKQ.out
      subst hkq
      clear HKQ HKK hfd
      have HRR : Hid (hv0 = false) := Lib.hid (by rw [HEQ.out]; simp [leafH, HVV.out])
      go_upto_region 7 with fail
      refine wp_region_past (by kernel_rfl) (by kernel_rfl) ?_
      repeat (go_big_quiet_step (fail))
      refine wpQuiet_nil ?_
      intro _ hw'
      obtain ⟨s9, hw''⟩ := hw'
      subst hw''
      go_wp2
      go_ret
      exact ⟨ret_bool HRR.out.symm, below_and HB2.out s9.h⟩
  have b2 : (kd == 2) = false := by simpa using k2

  by_cases k3 : kd = 3
  · subst k3
    clear k1 b1 k2 b2
    by_cases hfd : atI A nm < A.length
    · obtain ⟨q, hq⟩ : ∃ q, q = atI A nm := ⟨_, rfl⟩
      have HVA := Lib.hid (valAt_some hfd)
      have HKQ : Hid (kk = (q : Int)) := Lib.hid (by rw [HKK.out, hq]; unfold kI; rw [if_pos hfd])
      have HQL : Hid (q < A.length) := Lib.hid (by rw [hq]; exact hfd)
      obtain ⟨tv, htv⟩ : ∃ tv, tv = (A[q]'HQL.out).vl := ⟨_, rfl⟩
      have HVV : Hid (valAt A nm = some tv) := Lib.hid (by rw [HVA.out, htv]; subst hq; rfl)
      have HAT := Lib.hid (attr_at HU2.out HQL.out)
      rw [← htv] at HAT
      have HTL : Hid (tv.length ≤ 1000000000000000000) := Lib.hid (by rw [htv]; exact HVL.out _ (List.getElem_mem _))
      have hkq := HKQ.out
      subst hkq
      have kq0 : (0 : Int) ≤ (q : Int) := by omega
      have kq2 : decide ((q : Int) < 0) = false := by simp
      have kq1 : (q : Int) < (A.length : Int) := by have := HQL.out; omega
      clear hq htv HVA hfd HKQ HKK
      obtain ⟨bu, ou, rfl, a0, a1⟩ := HAT.out
      have HA1 := Lib.hid a1
      have pa1 : ∀ s : Past w2, s.val.cell? ⟨bu, ou + q * 2 + 1, none⟩ = some (.string (bs tv)) := fun s => cell_kept HA1.out s.h
      have p2 : ∀ s : Past w2, s.val.cell? ⟨Y, 2, none⟩ = some (.string (bs vl)) := Past.blk HY2.out (j := 2) rfl
      have p3 : ∀ s : Past w2, s.val.cell? ⟨Y, 3, none⟩ = some (.int .i64 xx) := Past.blk HY2.out (j := 3) rfl
      clear a0 a1 HAT
      have hbq := bs_beq tv vl
      obtain ⟨q2, hq2⟩ : ∃ q2, q2 = (tv == vl) := ⟨_, rfl⟩
      rw [← hq2] at hbq
      have HRR : Hid (hv0 = (!q2)) := Lib.hid (by rw [HEQ.out, hq2]; simp [leafH, HVV.out])
      clear hq2
      cases q2
      all_goals
        go_upto_region 9 with fail
        refine wp_region_past (by kernel_rfl) (by kernel_rfl) ?_
        repeat (go_big_quiet_step (fail))
        refine wpQuiet_nil ?_
        intro _ hw'
        obtain ⟨s9, hw''⟩ := hw'
        subst hw''
        go_wp2
        go_ret
        exact ⟨ret_bool HRR.out.symm, below_and HB2.out s9.h⟩
    · have HVV : Hid (valAt A nm = none) := Lib.hid (valAt_none hfd)
      have HKQ : Hid (kk = -1) := Lib.hid (by rw [HKK.out]; unfold kI; rw [if_neg hfd])
      have hkq := HKQ.out
      subst hkq
      clear HKQ HKK hfd
      have HRR : Hid (hv0 = true) := Lib.hid (by rw [HEQ.out]; simp [leafH, HVV.out])
      go_upto_region 9 with fail
      refine wp_region_past (by kernel_rfl) (by kernel_rfl) ?_
      repeat (go_big_quiet_step (fail))
      refine wpQuiet_nil ?_
      intro _ hw'
      obtain ⟨s9, hw''⟩ := hw'
      subst hw''
      go_wp2
      go_ret
      exact ⟨ret_bool HRR.out.symm, below_and HB2.out s9.h⟩
  have b3 : (kd == 3) = false := by simpa using k3

  by_cases k4 : kd = 4
  · subst k4
    clear k1 b1 k2 b2 k3 b3
    by_cases hfd : atI A nm < A.length
    · obtain ⟨q, hq⟩ : ∃ q, q = atI A nm := ⟨_, rfl⟩
      have HVA := Lib.hid (valAt_some hfd)
      have HKQ : Hid (kk = (q : Int)) := Lib.hid (by rw [HKK.out, hq]; unfold kI; rw [if_pos hfd])
      have HQL : Hid (q < A.length) := Lib.hid (by rw [hq]; exact hfd)
      obtain ⟨tv, htv⟩ : ∃ tv, tv = (A[q]'HQL.out).vl := ⟨_, rfl⟩
      have HVV : Hid (valAt A nm = some tv) := Lib.hid (by rw [HVA.out, htv]; subst hq; rfl)
      have HAT := Lib.hid (attr_at HU2.out HQL.out)
      rw [← htv] at HAT
      have HTL : Hid (tv.length ≤ 1000000000000000000) := Lib.hid (by rw [htv]; exact HVL.out _ (List.getElem_mem _))
      have hkq := HKQ.out
      subst hkq
      have kq0 : (0 : Int) ≤ (q : Int) := by omega
      have kq2 : decide ((q : Int) < 0) = false := by simp
      have kq1 : (q : Int) < (A.length : Int) := by have := HQL.out; omega
      clear hq htv HVA hfd HKQ HKK
      obtain ⟨bu, ou, rfl, a0, a1⟩ := HAT.out
      have HA1 := Lib.hid a1
      have pa1 : ∀ s : Past w2, s.val.cell? ⟨bu, ou + q * 2 + 1, none⟩ = some (.string (bs tv)) := fun s => cell_kept HA1.out s.h
      have p2 : ∀ s : Past w2, s.val.cell? ⟨Y, 2, none⟩ = some (.string (bs vl)) := Past.blk HY2.out (j := 2) rfl
      have p3 : ∀ s : Past w2, s.val.cell? ⟨Y, 3, none⟩ = some (.int .i64 xx) := Past.blk HY2.out (j := 3) rfl
      clear a0 a1 HAT
      have HDG : Hid (∀ s : Past w2, Calls Tryz.prog 52 #[.string (bs tv)] s.val fun r w' => r = .returned (.bool (allB 12 dgt tv)) ∧ Below s.val.heap.size s.val w') := Lib.hid (fun s => by have := isDigits_any (bs tv) s.val; rw [show (bs tv).data.toList = tv from by simp [bs]] at this; exact this)
      cases hdg : allB 12 dgt tv with
      | false =>
        rw [hdg] at HDG
        have HRR : Hid (hv0 = false) := Lib.hid (by rw [HEQ.out]; simp [leafH, HVV.out, hdg])
        clear hdg
        go_upto_region 11 with fail
        refine wp_region_past (by kernel_rfl) (by kernel_rfl) ?_
        repeat (go_big_quiet_step ((go_at_call 52; exact past_call (HDG.out _))))
        refine wpQuiet_nil ?_
        intro _ hw'
        obtain ⟨s9, hw''⟩ := hw'
        subst hw''
        go_wp2
        go_ret
        exact ⟨ret_bool HRR.out.symm, below_and HB2.out s9.h⟩
      | true =>
        rw [hdg] at HDG
        have hd2 : tv ≠ [] ∧ tv.length ≤ 12 ∧ ∀ c ∈ tv, dgt c = true := by
          unfold allB at hdg
          simp only [Bool.and_eq_true, decide_eq_true_eq, List.all_eq_true] at hdg
          exact ⟨by intro e; rw [e] at hdg; simp at hdg, hdg.1.2, hdg.2⟩
        have HNU : Hid (∀ s : Past w2, Calls Tryz.prog 53 #[.string (bs tv)] s.val fun r w' => r = .returned (.int .i64 (digV tv)) ∧ Below s.val.heap.size s.val w') := Lib.hid (fun s => by have := number_any tv s.val hd2.2.2 hd2.2.1 (hT _ (hW _ _ HW2.out s.h)); rw [if_neg hd2.1] at this; exact this)
        obtain ⟨dv, hdv⟩ : ∃ dv, dv = digV tv := ⟨_, rfl⟩
        rw [← hdv] at HNU
        by_cases hle : (xx ≤ dv)
        · have HRR : Hid (hv0 = true) := Lib.hid (by rw [HEQ.out]; simp [leafH, HVV.out, hdg, ← hdv, hle])
          have t1 : decide (xx ≤ dv) = true := decide_eq_true hle
          clear hdg hd2 hdv hle
          go_upto_region 11 with fail
          refine wp_region_past (by kernel_rfl) (by kernel_rfl) ?_
          repeat (go_big_quiet_step ((first | (go_at_call 52; exact past_call (HDG.out _)) | (go_at_call 53; exact past_call (HNU.out _)))))
          refine wpQuiet_nil ?_
          intro _ hw'
          obtain ⟨s9, hw''⟩ := hw'
          subst hw''
          go_wp2
          go_ret
          exact ⟨ret_bool HRR.out.symm, below_and HB2.out s9.h⟩
        · have HRR : Hid (hv0 = false) := Lib.hid (by rw [HEQ.out]; simp [leafH, HVV.out, hdg, ← hdv]; omega)
          have t1 : decide (xx ≤ dv) = false := decide_eq_false hle
          clear hdg hd2 hdv hle
          go_upto_region 11 with fail
          refine wp_region_past (by kernel_rfl) (by kernel_rfl) ?_
          repeat (go_big_quiet_step ((first | (go_at_call 52; exact past_call (HDG.out _)) | (go_at_call 53; exact past_call (HNU.out _)))))
          refine wpQuiet_nil ?_
          intro _ hw'
          obtain ⟨s9, hw''⟩ := hw'
          subst hw''
          go_wp2
          go_ret
          exact ⟨ret_bool HRR.out.symm, below_and HB2.out s9.h⟩
    · have HVV : Hid (valAt A nm = none) := Lib.hid (valAt_none hfd)
      have HKQ : Hid (kk = -1) := Lib.hid (by rw [HKK.out]; unfold kI; rw [if_neg hfd])
      have hkq := HKQ.out
      subst hkq
      clear HKQ HKK hfd
      have HRR : Hid (hv0 = false) := Lib.hid (by rw [HEQ.out]; simp [leafH, HVV.out])
      go_upto_region 11 with fail
      refine wp_region_past (by kernel_rfl) (by kernel_rfl) ?_
      repeat (go_big_quiet_step (fail))
      refine wpQuiet_nil ?_
      intro _ hw'
      obtain ⟨s9, hw''⟩ := hw'
      subst hw''
      go_wp2
      go_ret
      exact ⟨ret_bool HRR.out.symm, below_and HB2.out s9.h⟩
  have b4 : (kd == 4) = false := by simpa using k4

  by_cases k5 : kd = 5
  · subst k5
    clear k1 b1 k2 b2 k3 b3 k4 b4
    by_cases hfd : atI A nm < A.length
    · obtain ⟨q, hq⟩ : ∃ q, q = atI A nm := ⟨_, rfl⟩
      have HVA := Lib.hid (valAt_some hfd)
      have HKQ : Hid (kk = (q : Int)) := Lib.hid (by rw [HKK.out, hq]; unfold kI; rw [if_pos hfd])
      have HQL : Hid (q < A.length) := Lib.hid (by rw [hq]; exact hfd)
      obtain ⟨tv, htv⟩ : ∃ tv, tv = (A[q]'HQL.out).vl := ⟨_, rfl⟩
      have HVV : Hid (valAt A nm = some tv) := Lib.hid (by rw [HVA.out, htv]; subst hq; rfl)
      have HAT := Lib.hid (attr_at HU2.out HQL.out)
      rw [← htv] at HAT
      have HTL : Hid (tv.length ≤ 1000000000000000000) := Lib.hid (by rw [htv]; exact HVL.out _ (List.getElem_mem _))
      have hkq := HKQ.out
      subst hkq
      have kq0 : (0 : Int) ≤ (q : Int) := by omega
      have kq2 : decide ((q : Int) < 0) = false := by simp
      have kq1 : (q : Int) < (A.length : Int) := by have := HQL.out; omega
      clear hq htv HVA hfd HKQ HKK
      obtain ⟨bu, ou, rfl, a0, a1⟩ := HAT.out
      have HA1 := Lib.hid a1
      have pa1 : ∀ s : Past w2, s.val.cell? ⟨bu, ou + q * 2 + 1, none⟩ = some (.string (bs tv)) := fun s => cell_kept HA1.out s.h
      have p2 : ∀ s : Past w2, s.val.cell? ⟨Y, 2, none⟩ = some (.string (bs vl)) := Past.blk HY2.out (j := 2) rfl
      have p3 : ∀ s : Past w2, s.val.cell? ⟨Y, 3, none⟩ = some (.int .i64 xx) := Past.blk HY2.out (j := 3) rfl
      clear a0 a1 HAT
      have HDG : Hid (∀ s : Past w2, Calls Tryz.prog 52 #[.string (bs tv)] s.val fun r w' => r = .returned (.bool (allB 12 dgt tv)) ∧ Below s.val.heap.size s.val w') := Lib.hid (fun s => by have := isDigits_any (bs tv) s.val; rw [show (bs tv).data.toList = tv from by simp [bs]] at this; exact this)
      cases hdg : allB 12 dgt tv with
      | false =>
        rw [hdg] at HDG
        have HRR : Hid (hv0 = false) := Lib.hid (by rw [HEQ.out]; simp [leafH, HVV.out, hdg])
        clear hdg
        go_upto_region 13 with fail
        refine wp_region_past (by kernel_rfl) (by kernel_rfl) ?_
        repeat (go_big_quiet_step ((go_at_call 52; exact past_call (HDG.out _))))
        refine wpQuiet_nil ?_
        intro _ hw'
        obtain ⟨s9, hw''⟩ := hw'
        subst hw''
        go_wp2
        go_ret
        exact ⟨ret_bool HRR.out.symm, below_and HB2.out s9.h⟩
      | true =>
        rw [hdg] at HDG
        have hd2 : tv ≠ [] ∧ tv.length ≤ 12 ∧ ∀ c ∈ tv, dgt c = true := by
          unfold allB at hdg
          simp only [Bool.and_eq_true, decide_eq_true_eq, List.all_eq_true] at hdg
          exact ⟨by intro e; rw [e] at hdg; simp at hdg, hdg.1.2, hdg.2⟩
        have HNU : Hid (∀ s : Past w2, Calls Tryz.prog 53 #[.string (bs tv)] s.val fun r w' => r = .returned (.int .i64 (digV tv)) ∧ Below s.val.heap.size s.val w') := Lib.hid (fun s => by have := number_any tv s.val hd2.2.2 hd2.2.1 (hT _ (hW _ _ HW2.out s.h)); rw [if_neg hd2.1] at this; exact this)
        obtain ⟨dv, hdv⟩ : ∃ dv, dv = digV tv := ⟨_, rfl⟩
        rw [← hdv] at HNU
        by_cases hle : (dv ≤ xx)
        · have HRR : Hid (hv0 = true) := Lib.hid (by rw [HEQ.out]; simp [leafH, HVV.out, hdg, ← hdv, hle])
          have t1 : decide (dv ≤ xx) = true := decide_eq_true hle
          clear hdg hd2 hdv hle
          go_upto_region 13 with fail
          refine wp_region_past (by kernel_rfl) (by kernel_rfl) ?_
          repeat (go_big_quiet_step ((first | (go_at_call 52; exact past_call (HDG.out _)) | (go_at_call 53; exact past_call (HNU.out _)))))
          refine wpQuiet_nil ?_
          intro _ hw'
          obtain ⟨s9, hw''⟩ := hw'
          subst hw''
          go_wp2
          go_ret
          exact ⟨ret_bool HRR.out.symm, below_and HB2.out s9.h⟩
        · have HRR : Hid (hv0 = false) := Lib.hid (by rw [HEQ.out]; simp [leafH, HVV.out, hdg, ← hdv]; omega)
          have t1 : decide (dv ≤ xx) = false := decide_eq_false hle
          clear hdg hd2 hdv hle
          go_upto_region 13 with fail
          refine wp_region_past (by kernel_rfl) (by kernel_rfl) ?_
          repeat (go_big_quiet_step ((first | (go_at_call 52; exact past_call (HDG.out _)) | (go_at_call 53; exact past_call (HNU.out _)))))
          refine wpQuiet_nil ?_
          intro _ hw'
          obtain ⟨s9, hw''⟩ := hw'
          subst hw''
          go_wp2
          go_ret
          exact ⟨ret_bool HRR.out.symm, below_and HB2.out s9.h⟩
    · have HVV : Hid (valAt A nm = none) := Lib.hid (valAt_none hfd)
      have HKQ : Hid (kk = -1) := Lib.hid (by rw [HKK.out]; unfold kI; rw [if_neg hfd])
      have hkq := HKQ.out
      subst hkq
      clear HKQ HKK hfd
      have HRR : Hid (hv0 = false) := Lib.hid (by rw [HEQ.out]; simp [leafH, HVV.out])
      go_upto_region 13 with fail
      refine wp_region_past (by kernel_rfl) (by kernel_rfl) ?_
      repeat (go_big_quiet_step (fail))
      refine wpQuiet_nil ?_
      intro _ hw'
      obtain ⟨s9, hw''⟩ := hw'
      subst hw''
      go_wp2
      go_ret
      exact ⟨ret_bool HRR.out.symm, below_and HB2.out s9.h⟩
  have b5 : (kd == 5) = false := by simpa using k5

  by_cases k7 : kd = 7
  · subst k7
    clear k1 b1 k2 b2 k3 b3 k4 b4 k5 b5
    have hpa := HPA.out na (by simp [parts])
    obtain ⟨ja, hja⟩ : ∃ ja : Nat, na = (ja : Int) := ⟨na.toNat, by omega⟩
    subst hja
    have HJA : Hid (ja < i) := Lib.hid (by omega)
    have HJB : Hid (ja < i) := HJA
    have HRR : Hid (hv0 = !(hol L A ja)) := Lib.hid (by rw [HEQ.out]; simp)
    have HBX := Lib.hid (Below.refl w2.heap.size w2)
    clear hpa HPA
    go_wp2_with (go_at_call 32; refine (HAB.out _ _ (by omega) (by have := HJA.out; have := HJB.out; omega) HBX.out).mono ?_; rintro r w3 ⟨rfl, hb⟩; have HB3 := Lib.hid (below_and HBX.out hb); clear hb)
    go_ret
    exact ⟨ret_bool (by first | (rw [HRR.out]; done) | (rw [HRR.out]; rfl)), below_and HB2.out HB3.out⟩
  have b7 : (kd == 7) = false := by simpa using k7
  by_cases k8 : kd = 8
  · subst k8
    clear k1 b1 k2 b2 k3 b3 k4 b4 k5 b5 k7 b7
    have hpa := HPA.out na (by simp [parts])
    have hpb := HPA.out nb (by simp [parts])
    obtain ⟨ja, hja⟩ : ∃ ja : Nat, na = (ja : Int) := ⟨na.toNat, by omega⟩
    obtain ⟨jb, hjb⟩ : ∃ jb : Nat, nb = (jb : Int) := ⟨nb.toNat, by omega⟩
    subst hja
    subst hjb
    have HJA : Hid (ja < i) := Lib.hid (by omega)
    have HJB : Hid (jb < i) := Lib.hid (by omega)
    have HRR : Hid (hv0 = (hol L A ja && hol L A jb)) := Lib.hid (by rw [HEQ.out]; simp)
    have HBX := Lib.hid (Below.refl w2.heap.size w2)
    obtain ⟨HL, hHL⟩ : ∃ HL : Int → Bool, ∀ j : Nat, HL (j : Int) = hol L A j := ⟨fun x => hol L A x.toNat, fun j => by simp⟩
    have HAC : Hid (∀ (x : Int) (w' : World), 0 ≤ x → x < (i : Int) → Below w2.heap.size w2 w' → Calls Tryz.prog 32 #[.slice (some ⟨b, o, none⟩) L.length c, .int .i64 x, .slice pu A.length cu] w' fun r w3 => r = .returned (.bool (HL x)) ∧ Below w'.heap.size w' w3) := Lib.hid (fun x w' h0 h1 hb => by
      have := HAB.out x w' h0 h1 hb
      rw [← hHL, Int.toNat_of_nonneg h0] at this
      exact this)
    rw [← hHL, ← hHL] at HRR
    clear hpa hpb HPA hHL HAB
    have HY3K : Hid (∀ w3, Below w2.heap.size w2 w3 → w3.cell? ⟨Y, 5, none⟩ = some (.int .i64 (jb : Int))) := Lib.hid (fun w3 hb => (HY2.out.kept hb).cell (j := 5) rfl)
    cases hla : HL (ja : Int) with
    | true =>
      have HLA := Lib.hid hla
      have hla1 := HLA.out
      clear hla
      go_wp2_with (first
        | (go_at_call 32; refine (HAC.out _ _ (by omega) (by have := HJA.out; have := HJB.out; omega) HBX.out).mono ?_; rintro r w3 ⟨rfl, hb⟩; have HB3 := Lib.hid (below_and HBX.out hb); have y9 := HY3K.out _ (below_and HBX.out hb); clear hb HBX y5)
        | (go_at_call 32; refine (HAC.out _ _ (by omega) (by have := HJA.out; have := HJB.out; omega) HB3.out).mono ?_; rintro r w4 ⟨rfl, hb⟩; have HB4 := Lib.hid (below_and HB3.out hb); clear hb))
      go_ret
      exact ⟨ret_bool (by first | (rw [HRR.out, HLA.out]; done) | (rw [HRR.out, HLA.out]; rfl)), below_and HB2.out HB4.out⟩
    | false =>
      have HLA := Lib.hid hla
      have hla1 := HLA.out
      clear hla
      go_wp2_with (go_at_call 32; refine (HAC.out _ _ (by omega) (by have := HJA.out; have := HJB.out; omega) HBX.out).mono ?_; rintro r w3 ⟨rfl, hb⟩; have HB3 := Lib.hid (below_and HBX.out hb); clear hb)
      go_ret
      exact ⟨ret_bool (by first | (rw [HRR.out, HLA.out]; done) | (rw [HRR.out, HLA.out]; rfl)), below_and HB2.out HB3.out⟩
  have b8 : (kd == 8) = false := by simpa using k8
  by_cases k9 : kd = 9
  · subst k9
    clear k1 b1 k2 b2 k3 b3 k4 b4 k5 b5 k7 b7 k8 b8
    have hpa := HPA.out na (by simp [parts])
    have hpb := HPA.out nb (by simp [parts])
    obtain ⟨ja, hja⟩ : ∃ ja : Nat, na = (ja : Int) := ⟨na.toNat, by omega⟩
    obtain ⟨jb, hjb⟩ : ∃ jb : Nat, nb = (jb : Int) := ⟨nb.toNat, by omega⟩
    subst hja
    subst hjb
    have HJA : Hid (ja < i) := Lib.hid (by omega)
    have HJB : Hid (jb < i) := Lib.hid (by omega)
    have HRR : Hid (hv0 = (hol L A ja || hol L A jb)) := Lib.hid (by rw [HEQ.out]; simp)
    have HBX := Lib.hid (Below.refl w2.heap.size w2)
    obtain ⟨HL, hHL⟩ : ∃ HL : Int → Bool, ∀ j : Nat, HL (j : Int) = hol L A j := ⟨fun x => hol L A x.toNat, fun j => by simp⟩
    have HAC : Hid (∀ (x : Int) (w' : World), 0 ≤ x → x < (i : Int) → Below w2.heap.size w2 w' → Calls Tryz.prog 32 #[.slice (some ⟨b, o, none⟩) L.length c, .int .i64 x, .slice pu A.length cu] w' fun r w3 => r = .returned (.bool (HL x)) ∧ Below w'.heap.size w' w3) := Lib.hid (fun x w' h0 h1 hb => by
      have := HAB.out x w' h0 h1 hb
      rw [← hHL, Int.toNat_of_nonneg h0] at this
      exact this)
    rw [← hHL, ← hHL] at HRR
    clear hpa hpb HPA hHL HAB
    have HY3K : Hid (∀ w3, Below w2.heap.size w2 w3 → w3.cell? ⟨Y, 5, none⟩ = some (.int .i64 (jb : Int))) := Lib.hid (fun w3 hb => (HY2.out.kept hb).cell (j := 5) rfl)
    cases hla : HL (ja : Int) with
    | false =>
      have HLA := Lib.hid hla
      have hla1 := HLA.out
      clear hla
      go_wp2_with (first
        | (go_at_call 32; refine (HAC.out _ _ (by omega) (by have := HJA.out; have := HJB.out; omega) HBX.out).mono ?_; rintro r w3 ⟨rfl, hb⟩; have HB3 := Lib.hid (below_and HBX.out hb); have y9 := HY3K.out _ (below_and HBX.out hb); clear hb HBX y5)
        | (go_at_call 32; refine (HAC.out _ _ (by omega) (by have := HJA.out; have := HJB.out; omega) HB3.out).mono ?_; rintro r w4 ⟨rfl, hb⟩; have HB4 := Lib.hid (below_and HB3.out hb); clear hb))
      go_ret
      exact ⟨ret_bool (by first | (rw [HRR.out, HLA.out]; done) | (rw [HRR.out, HLA.out]; rfl)), below_and HB2.out HB4.out⟩
    | true =>
      have HLA := Lib.hid hla
      have hla1 := HLA.out
      clear hla
      go_wp2_with (go_at_call 32; refine (HAC.out _ _ (by omega) (by have := HJA.out; have := HJB.out; omega) HBX.out).mono ?_; rintro r w3 ⟨rfl, hb⟩; have HB3 := Lib.hid (below_and HBX.out hb); clear hb)
      go_ret
      exact ⟨ret_bool (by first | (rw [HRR.out, HLA.out]; done) | (rw [HRR.out, HLA.out]; rfl)), below_and HB2.out HB3.out⟩
  have b9 : (kd == 9) = false := by simpa using k9
  have HRR : Hid (hv0 = (valAt A nm).isSome) := Lib.hid (by rw [HEQ.out, if_neg k7, if_neg k8, if_neg k9]; unfold leafH; rw [if_neg k1, if_neg k2, if_neg k3, if_neg k4, if_neg k5])
  clear k1 k2 k3 k4 k5 k7 k8 k9
  by_cases hfd : atI A nm < A.length
  · have HKQ : Hid (0 ≤ kk) := Lib.hid (by rw [HKK.out]; unfold kI; rw [if_pos hfd]; omega)
    have HV2 : Hid (hv0 = true) := Lib.hid (by rw [HRR.out, valAt_some hfd]; rfl)
    have t1 : decide (0 ≤ kk) = true := decide_eq_true HKQ.out
    clear hfd
    go_wp2
    go_ret
    exact ⟨ret_bool (by first | (rw [HV2.out]; done) | (rw [HV2.out]; rfl)), HB2.out⟩
  · have HKQ : Hid (¬ 0 ≤ kk) := Lib.hid (by rw [HKK.out]; unfold kI; rw [if_neg hfd]; omega)
    have HV2 : Hid (hv0 = false) := Lib.hid (by rw [HRR.out, valAt_none hfd]; rfl)
    have t1 : decide (0 ≤ kk) = false := decide_eq_false HKQ.out
    clear hfd
    go_wp2
    go_ret
    exact ⟨ret_bool (by first | (rw [HV2.out]; done) | (rw [HV2.out]; rfl)), HB2.out⟩
theorem hold_any {L : List Nd} {A : List At} (hf : Fine L) (hvl : ∀ a ∈ A, a.vl.length ≤ 1000000000000000000) : ∀ (m i : Nat), i < m → i < L.length → HoldC L A i ErrV
  | 0, _, h, _ => absurd h (by omega)
  | m + 1, i, h, hi => hold_step L A hf i hi ErrV (fun _ _ h hb => h.below hb) (fun _ h => h) (fun j hj => hold_any hf hvl m j (by omega) (by omega)) hvl
end Go.Proofs.YtdnoceancoclmaaGreatDoor.Ru

namespace Go.Proofs.YtdnoceancoclmaaGreatDoor.Ru
open Go.RowKit Go.Proofs.YtdnoceancoclmaaGreatDoor

def lfG (k : Int) (no att wd n0 v0 x0 x1 x2 b1 : Bool) : Bool :=
  if k = 1 then no && n0 && v0 && x0
  else if k = 2 ∨ k = 3 then no && att && wd && x0
  else if k = 4 ∨ k = 5 then no && att && v0 && x1 && x2
  else if k = 6 then no && att && v0 && x0
  else if k = 7 then n0 && v0 && x0 && b1
  else if k = 8 ∨ k = 9 then n0 && v0 && x0
  else false
theorem lfG_eq (n : Nd) : leafyB n = lfG n.k (decide (n.a = -1 ∧ n.b = -1)) (attrN n.nm) (wrdB n.vl) (decide (n.nm = [])) (decide (n.vl = [])) (decide (n.x = 0)) (decide (0 ≤ n.x)) (decide (n.x ≤ 999999999999)) (decide (n.b = -1)) := rfl
theorem bs_nil0 (l : List UInt8) : ((bs l).toList == ([] : List UInt8)) = decide (l = []) := by
  rw [Lib.toList_data]
  cases l <;> rfl
theorem bs_any0 (l : List UInt8) : ((bs l).toList == ([97, 110, 121] : List UInt8)) = (l == anyT) := by
  rw [Lib.toList_data]; rfl
set_option maxRecDepth 100000 in
set_option maxHeartbeats 4000000 in
theorem dleafy_any (x : Nd) (w : World) (h1 : x.nm.length ≤ 140737488351232) (h2 : x.vl.length ≤ 140737488351232) : Calls Tryz.prog 23 #[ndV x] w fun r w' => r = .returned (.bool (leafyB x)) ∧ Below w.heap.size w w' := by
  obtain ⟨w1, hw1⟩ : ∃ w1, w1 = w.alloc (.cells #[.int .i64 x.k, .string (bs x.nm), .string (bs x.vl), .int .i64 x.x, .int .i64 x.a, .int .i64 x.b] 52) := ⟨_, rfl⟩
  obtain ⟨B, hB⟩ : ∃ B, B = w.heap.size := ⟨_, rfl⟩
  have HB1 : Hid (Below w.heap.size w w1) := Lib.hid (by rw [hw1]; exact below_alloc w _)
  have X1 : Hid (Blk w1 B (ndC x) 52) := Lib.hid (by rw [hw1, hB]; exact Blk.made w (ndC x) _)
  have HLG := Lib.hid (lfG_eq x)
  obtain ⟨k, nm, vl, xx, na, nb⟩ := x
  simp only at HLG X1 h1 h2 hw1
  have HNM : Hid (∀ w, Calls Tryz.prog 30 #[.string (bs nm), .int .i64 24] w fun e w' => e = .returned (.bool (specM 24 nm)) ∧ w = w') := Lib.hid (fun w => by have := dname_any 24 (bs nm) w (by omega) (by rw [bs_size]; omega); simpa [bs] using this)
  have HWD : Hid (∀ w, Calls Tryz.prog 31 #[.string (bs vl)] w fun e w' => e = .returned (.bool (wrdB vl)) ∧ w = w') := Lib.hid (fun w => word_any' vl w (by omega))
  have y0 := X1.out.cell (j := 0) rfl
  have y1 := X1.out.cell (j := 1) rfl
  have y2 := X1.out.cell (j := 2) rfl
  have y3 := X1.out.cell (j := 3) rfl
  have y4 := X1.out.cell (j := 4) rfl
  have y5 := X1.out.cell (j := 5) rfl
  have eA : ((bs nm).toList == ([97, 110, 121] : List UInt8)) = (nm == anyT) := bs_any0 nm
  have eN : ((bs nm).toList == ([] : List UInt8)) = decide (nm = []) := bs_nil0 nm
  have eV : ((bs vl).toList == ([] : List UInt8)) = decide (vl = []) := bs_nil0 vl
  have eX : (xx == 0) = decide (xx = 0) := rfl
  have ea : (na == -1) = decide (na = -1) := rfl
  have eb : (nb == -1) = decide (nb = -1) := rfl
  have hat : attrN nm = (specM 24 nm && !(nm == anyT)) := rfl
  have hno : decide (na = -1 ∧ nb = -1) = (decide (na = -1) && decide (nb = -1)) := by simp
  rw [hat, hno] at HLG
  obtain ⟨S, hS⟩ : ∃ S, S = leafyB ⟨k, nm, vl, xx, na, nb⟩ := ⟨_, rfl⟩
  rw [← hS] at HLG ⊢
  clear hat hno hS h1 h2
  obtain ⟨sp, hsp⟩ : ∃ q, q = specM 24 nm := ⟨_, rfl⟩
  rw [← hsp] at HLG HNM
  obtain ⟨an, han⟩ : ∃ q, q = (nm == anyT) := ⟨_, rfl⟩
  rw [← han] at HLG eA
  obtain ⟨n0, hn0⟩ : ∃ q, q = decide (nm = []) := ⟨_, rfl⟩
  rw [← hn0] at HLG eN
  obtain ⟨v0, hv0⟩ : ∃ q, q = decide (vl = []) := ⟨_, rfl⟩
  rw [← hv0] at HLG eV
  obtain ⟨wd, hwd⟩ : ∃ q, q = wrdB vl := ⟨_, rfl⟩
  rw [← hwd] at HLG HWD
  obtain ⟨x0, hx0⟩ : ∃ q, q = decide (xx = 0) := ⟨_, rfl⟩
  rw [← hx0] at HLG eX
  obtain ⟨a1, ha1⟩ : ∃ q, q = decide (na = -1) := ⟨_, rfl⟩
  rw [← ha1] at HLG ea
  obtain ⟨b1, hb1⟩ : ∃ q, q = decide (nb = -1) := ⟨_, rfl⟩
  rw [← hb1] at HLG eb
  obtain ⟨x1, e1⟩ : ∃ q, decide (0 ≤ xx) = q := ⟨_, rfl⟩
  obtain ⟨x2, e2⟩ : ∃ q, decide (xx ≤ 999999999999) = q := ⟨_, rfl⟩
  rw [e1, e2] at HLG
  clear hsp han hn0 hv0 hwd hx0 ha1 hb1
  go_enter Tryz.func23, Tryz.ntmps23
  go_upto_region 1 with fail
  rw [← hw1, ← hB]
  clear hw1 hB
  go_cut [3] (fun s3 wx => s3 = .bool (sp && !an) ∧ w1 = wx)
  case first =>
    cases sp
    · go_wp2_with (go_at_call 30; refine (HNM.out _).mono ?_; rintro e w2 ⟨rfl, rfl⟩)
      go_meet
      exact ⟨rfl, rfl⟩
    · cases an
      · go_wp2_with (go_at_call 30; refine (HNM.out _).mono ?_; rintro e w2 ⟨rfl, rfl⟩)
        go_meet
        exact ⟨rfl, rfl⟩
      · go_wp2_with (go_at_call 30; refine (HNM.out _).mono ?_; rintro e w2 ⟨rfl, rfl⟩)
        go_meet
        exact ⟨rfl, rfl⟩
  case rest =>
  obtain ⟨rfl, rfl⟩ := hcut
  obtain ⟨att, hatt⟩ : ∃ q, q = (sp && !an) := ⟨_, rfl⟩
  rw [← hatt] at HLG ⊢
  clear hatt HNM eA
  go_upto_region 2 with fail
  go_cut [4] (fun s4 wx => s4 = .bool (a1 && b1) ∧ w1 = wx)
  case first =>
    cases a1
    · go_wp2
      go_meet
      exact ⟨rfl, rfl⟩
    · cases b1
      · go_wp2
        go_meet
        exact ⟨rfl, rfl⟩
      · go_wp2
        go_meet
        exact ⟨rfl, rfl⟩
  case rest =>
  obtain ⟨rfl, rfl⟩ := hcut
  obtain ⟨no, hno⟩ : ∃ q, q = (a1 && b1) := ⟨_, rfl⟩
  rw [← hno] at HLG ⊢
  clear hno ea
  by_cases k1 : k = 1
  · subst k1
    cases no
    · go_wp2
      go_ret
      exact ⟨(by rw [HLG.out]; rfl), HB1.out⟩
    ·
      cases n0
      · go_wp2
        go_ret
        exact ⟨(by rw [HLG.out]; rfl), HB1.out⟩
      ·
        cases v0
        · go_wp2
          go_ret
          exact ⟨(by rw [HLG.out]; rfl), HB1.out⟩
        ·
          cases x0
          · go_wp2
            go_ret
            exact ⟨(by rw [HLG.out]; rfl), HB1.out⟩
          ·
            go_wp2
            go_ret
            exact ⟨(by rw [HLG.out]; rfl), HB1.out⟩
  have t1 : (k == 1) = false := by simpa using k1
  by_cases k2 : k = 2
  · subst k2
    cases no
    · go_wp2_with (go_at_call 31; refine (HWD.out _).mono ?_; rintro e w2 ⟨rfl, rfl⟩)
      go_ret
      exact ⟨(by rw [HLG.out]; rfl), HB1.out⟩
    ·
      cases att
      · go_wp2_with (go_at_call 31; refine (HWD.out _).mono ?_; rintro e w2 ⟨rfl, rfl⟩)
        go_ret
        exact ⟨(by rw [HLG.out]; rfl), HB1.out⟩
      ·
        cases wd
        · go_wp2_with (go_at_call 31; refine (HWD.out _).mono ?_; rintro e w2 ⟨rfl, rfl⟩)
          go_ret
          exact ⟨(by rw [HLG.out]; rfl), HB1.out⟩
        ·
          cases x0
          · go_wp2_with (go_at_call 31; refine (HWD.out _).mono ?_; rintro e w2 ⟨rfl, rfl⟩)
            go_ret
            exact ⟨(by rw [HLG.out]; rfl), HB1.out⟩
          ·
            go_wp2_with (go_at_call 31; refine (HWD.out _).mono ?_; rintro e w2 ⟨rfl, rfl⟩)
            go_ret
            exact ⟨(by rw [HLG.out]; rfl), HB1.out⟩
  have t2 : (k == 2) = false := by simpa using k2
  by_cases k3 : k = 3
  · subst k3
    cases no
    · go_wp2_with (go_at_call 31; refine (HWD.out _).mono ?_; rintro e w2 ⟨rfl, rfl⟩)
      go_ret
      exact ⟨(by rw [HLG.out]; rfl), HB1.out⟩
    ·
      cases att
      · go_wp2_with (go_at_call 31; refine (HWD.out _).mono ?_; rintro e w2 ⟨rfl, rfl⟩)
        go_ret
        exact ⟨(by rw [HLG.out]; rfl), HB1.out⟩
      ·
        cases wd
        · go_wp2_with (go_at_call 31; refine (HWD.out _).mono ?_; rintro e w2 ⟨rfl, rfl⟩)
          go_ret
          exact ⟨(by rw [HLG.out]; rfl), HB1.out⟩
        ·
          cases x0
          · go_wp2_with (go_at_call 31; refine (HWD.out _).mono ?_; rintro e w2 ⟨rfl, rfl⟩)
            go_ret
            exact ⟨(by rw [HLG.out]; rfl), HB1.out⟩
          ·
            go_wp2_with (go_at_call 31; refine (HWD.out _).mono ?_; rintro e w2 ⟨rfl, rfl⟩)
            go_ret
            exact ⟨(by rw [HLG.out]; rfl), HB1.out⟩
  have t3 : (k == 3) = false := by simpa using k3
  by_cases k4 : k = 4
  · subst k4
    cases no
    · go_wp2
      go_ret
      exact ⟨(by rw [HLG.out]; rfl), HB1.out⟩
    ·
      cases att
      · go_wp2
        go_ret
        exact ⟨(by rw [HLG.out]; rfl), HB1.out⟩
      ·
        cases v0
        · go_wp2
          go_ret
          exact ⟨(by rw [HLG.out]; rfl), HB1.out⟩
        ·
          cases x1
          · go_wp2
            go_ret
            exact ⟨(by rw [HLG.out]; rfl), HB1.out⟩
          ·
            cases x2
            · go_wp2
              go_ret
              exact ⟨(by rw [HLG.out]; rfl), HB1.out⟩
            ·
              go_wp2
              go_ret
              exact ⟨(by rw [HLG.out]; rfl), HB1.out⟩
  have t4 : (k == 4) = false := by simpa using k4
  by_cases k5 : k = 5
  · subst k5
    cases no
    · go_wp2
      go_ret
      exact ⟨(by rw [HLG.out]; rfl), HB1.out⟩
    ·
      cases att
      · go_wp2
        go_ret
        exact ⟨(by rw [HLG.out]; rfl), HB1.out⟩
      ·
        cases v0
        · go_wp2
          go_ret
          exact ⟨(by rw [HLG.out]; rfl), HB1.out⟩
        ·
          cases x1
          · go_wp2
            go_ret
            exact ⟨(by rw [HLG.out]; rfl), HB1.out⟩
          ·
            cases x2
            · go_wp2
              go_ret
              exact ⟨(by rw [HLG.out]; rfl), HB1.out⟩
            ·
              go_wp2
              go_ret
              exact ⟨(by rw [HLG.out]; rfl), HB1.out⟩
  have t5 : (k == 5) = false := by simpa using k5
  by_cases k6 : k = 6
  · subst k6
    cases no
    · go_wp2
      go_ret
      exact ⟨(by rw [HLG.out]; rfl), HB1.out⟩
    ·
      cases att
      · go_wp2
        go_ret
        exact ⟨(by rw [HLG.out]; rfl), HB1.out⟩
      ·
        cases v0
        · go_wp2
          go_ret
          exact ⟨(by rw [HLG.out]; rfl), HB1.out⟩
        ·
          cases x0
          · go_wp2
            go_ret
            exact ⟨(by rw [HLG.out]; rfl), HB1.out⟩
          ·
            go_wp2
            go_ret
            exact ⟨(by rw [HLG.out]; rfl), HB1.out⟩
  have t6 : (k == 6) = false := by simpa using k6
  by_cases k7 : k = 7
  · subst k7
    cases n0
    · go_wp2
      go_ret
      exact ⟨(by rw [HLG.out]; rfl), HB1.out⟩
    ·
      cases v0
      · go_wp2
        go_ret
        exact ⟨(by rw [HLG.out]; rfl), HB1.out⟩
      ·
        cases x0
        · go_wp2
          go_ret
          exact ⟨(by rw [HLG.out]; rfl), HB1.out⟩
        ·
          cases b1
          · go_wp2
            go_ret
            exact ⟨(by rw [HLG.out]; rfl), HB1.out⟩
          ·
            go_wp2
            go_ret
            exact ⟨(by rw [HLG.out]; rfl), HB1.out⟩
  have t7 : (k == 7) = false := by simpa using k7
  by_cases k8 : k = 8
  · subst k8
    cases n0
    · go_wp2
      go_ret
      exact ⟨(by rw [HLG.out]; rfl), HB1.out⟩
    ·
      cases v0
      · go_wp2
        go_ret
        exact ⟨(by rw [HLG.out]; rfl), HB1.out⟩
      ·
        cases x0
        · go_wp2
          go_ret
          exact ⟨(by rw [HLG.out]; rfl), HB1.out⟩
        ·
          go_wp2
          go_ret
          exact ⟨(by rw [HLG.out]; rfl), HB1.out⟩
  have t8 : (k == 8) = false := by simpa using k8
  by_cases k9 : k = 9
  · subst k9
    cases n0
    · go_wp2
      go_ret
      exact ⟨(by rw [HLG.out]; rfl), HB1.out⟩
    ·
      cases v0
      · go_wp2
        go_ret
        exact ⟨(by rw [HLG.out]; rfl), HB1.out⟩
      ·
        cases x0
        · go_wp2
          go_ret
          exact ⟨(by rw [HLG.out]; rfl), HB1.out⟩
        ·
          go_wp2
          go_ret
          exact ⟨(by rw [HLG.out]; rfl), HB1.out⟩
  have t9 : (k == 9) = false := by simpa using k9
  have HF : Hid (S = false) := Lib.hid (by rw [HLG.out]; unfold lfG; simp [k1, k2, k3, k4, k5, k6, k7, k8, k9])
  clear k1 k2 k3 k4 k5 k6 k7 k8 k9
  go_wp2
  go_ret
  exact ⟨(by rw [HF.out]; rfl), HB1.out⟩
end Go.Proofs.YtdnoceancoclmaaGreatDoor.Ru
