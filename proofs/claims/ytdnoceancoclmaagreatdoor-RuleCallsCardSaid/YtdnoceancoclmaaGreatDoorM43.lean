/- , laid together: RdHold, RdAttrs. -/
import Derived.Test.YtdnoceancoclmaaGreatDoorRdHoldP
import Derived.Test.YtdnoceancoclmaaGreatDoorM36
import Derived.Test.YtdnoceancoclmaaGreatDoorM18
import Derived.Test.YtdnoceancoclmaaGreatDoorRdTold
import Derived.Test.YtdnoceancoclmaaGreatDoorM03
import Derived.Test.YtdnoceancoclmaaGreatDoorM40
namespace Go.Proofs.YtdnoceancoclmaaGreatDoor.Ru
open Go.RowKit Go.Proofs.YtdnoceancoclmaaGreatDoor

theorem digK_eq (v : List UInt8) : digK v = allB 12 dgt v := by
  unfold digK allB
  rw [Bool.eq_iff_iff]
  simp only [Bool.and_eq_true, decide_eq_true_eq, List.all_eq_true]
  constructor
  · rintro ⟨h1, h2, h3⟩; first | exact ⟨⟨h2, h3⟩, h1⟩ | exact ⟨h2, h3, h1⟩
  · intro h; first | (obtain ⟨⟨h2, h3⟩, h1⟩ := h; exact ⟨h1, h2, h3⟩) | (obtain ⟨h2, h3, h1⟩ := h; exact ⟨h1, h2, h3⟩)
theorem digX_eq {v : List UInt8} (h : digK v = true) : digX v = digV v := by
  unfold digK at h
  simp only [Bool.and_eq_true, decide_eq_true_eq] at h
  unfold digX
  rw [if_pos h.1, List.take_of_length_le h.2.2]
theorem valAt_mem {A : List At} {nm v : List UInt8} (h : valAt A nm = some v) : ∃ a ∈ A, a.vl = v := by
  unfold valAt at h
  rw [Option.map_eq_some_iff] at h
  obtain ⟨a, h1, h2⟩ := h
  exact ⟨a, List.mem_of_find?_eq_some h1, h2⟩
/-- the contract of the document's holds at a node -/
def DHoldC (L : List Nd) (A : List At) (i : Nat) : Prop :=
  ∀ (v u : Value) (w : World), Row w v 6 L.length (rwC ndC L) → Row w u 2 A.length (rwC atC A) → Calls Tryz.prog 33 #[v, .int .i64 (i : Int), u] w fun r w' => r = .returned (.bool (hol L A i)) ∧ Below w.heap.size w w'
set_option maxRecDepth 100000 in
set_option maxHeartbeats 4000000 in
theorem dhold_step (L : List Nd) (A : List At) (hf : Fine L) (i : Nat) (hi : i < L.length) (hk : ∀ n ∈ L, 1 ≤ n.k ∧ n.k ≤ 9) (hat : attrsB A = true) (hvl : ∀ a ∈ A, a.vl.length ≤ 140737488351232) (ih : ∀ j, j < i → DHoldC L A j) : DHoldC L A i := by
  unfold DHoldC
  intro v u w hr hu
  have HR := Lib.hid hr
  have HU := Lib.hid hu
  obtain ⟨n, hn⟩ : ∃ n, n = L[i] := ⟨_, rfl⟩
  have HKR : Hid (1 ≤ n.k ∧ n.k ≤ 9) := Lib.hid (by rw [hn]; exact hk _ (List.getElem_mem _))
  obtain ⟨p, c, rfl, hc1, hc2, -⟩ := id hr
  obtain ⟨pu, cu, rfl, hu1, hu2, -⟩ := id hu
  have HLC := Lib.hid (node_at hr hi)
  rw [← hn] at HLC
  obtain ⟨b, o, rfl, hcell⟩ := HLC.out
  have q0 := hcell 0 _ rfl
  rw [Nat.add_zero] at q0
  have q1 := hcell 1 _ rfl
  have q2 := hcell 2 _ rfl
  have q3 := hcell 3 _ rfl
  have q4 := hcell 4 _ rfl
  have q5 := hcell 5 _ rfl
  have HEQ := Lib.hid (hol_eq (A := A) hf (List.getElem?_eq_getElem hi))
  have HPA := Lib.hid (hf i _ (List.getElem?_eq_getElem hi))
  rw [← hn] at HEQ HPA
  have HI := Lib.hid hi
  have hml : maxLen ≤ 9223372036854775807 := by decide
  have i0 : (0 : Int) ≤ (i : Int) := by omega
  have i1 : (i : Int) < (L.length : Int) := by omega
  have hl63 : (L.length : Int) ≤ 9223372036854775807 := by omega
  have ha63 : (A.length : Int) ≤ 9223372036854775807 := by omega
  obtain ⟨hv0, hhv⟩ : ∃ hv0, hv0 = hol L A i := ⟨_, rfl⟩
  rw [← hhv] at HEQ ⊢
  have HVL := Lib.hid hvl
  have HAT := Lib.hid hat
  clear hr hu hn hcell HLC hc1 hc2 hu1 hu2 hhv hml hvl hat hk hi
  go_enter Tryz.func33, Tryz.ntmps33
  go_upto_region 2 with fail
  obtain ⟨Y, hY⟩ : ∃ Y, Y = w.heap.size := ⟨_, rfl⟩
  refine at_hide (F := fun w' => Blk w' Y (ndC n) 52 ∧ Below w.heap.size w w') ⟨by rw [hY]; exact Blk.made w (ndC n) _, below_alloc _ _⟩ ?_
  rw [← hY]
  intro w1 hF
  have HB1 : Hid (Below w.heap.size w w1) := Lib.hid (by have := hF.2; rw [hY] at this; exact this)
  have HY1 := Lib.hid hF.1
  clear hF hY q0 q1 q2 q3 q4 q5
  obtain ⟨kd, nm, vl, xx, na, nb⟩ := n
  simp only at HEQ HPA HKR
  go_upto_region 4 with fail
  go_loopw [8, 9, 10] (fun t v i wr => ∃ (k : Nat) (q : Option (List UInt8)), k ≤ A.length ∧ i = .int .i64 (k : Int) ∧ t = .bool q.isSome ∧ v = .string (bs (q.getD [])) ∧ Hid (lastV (A.take k) nm = q) ∧ Hid (Below w1.heap.size w1 wr)) (fun _ _ i _ => A.length - (intOf i).toNat)
  case atStart => exact ⟨0, none, Nat.zero_le _, rfl, rfl, rfl, Lib.hid rfl, Lib.hid (Below.refl _ _)⟩
  case round =>
    obtain ⟨k, q, hk, rfl, rfl, rfl, HLV, HB⟩ := hrel
    have HB2 : Hid (Below w.heap.size w wr) := Lib.hid (below_and HB1.out HB.out)
    have HY2 := Lib.hid (HY1.out.kept HB.out)
    have HU2 := Lib.hid (HU.out.below HB2.out)
    by_cases hlt : k < A.length
    ·
      have HKN := Lib.hid hlt
      obtain ⟨x, hx⟩ : ∃ x, x = A[k]'HKN.out := ⟨_, rfl⟩
      have HATK := Lib.hid (attr_at HU2.out HKN.out)
      rw [← hx] at HATK
      have HTK : Hid (lastV (A.take (k + 1)) nm = if x.nm == nm then some x.vl else q) := Lib.hid (by rw [lastV_take HKN.out, ← hx, HLV.out])
      clear hx HLV
      obtain ⟨bu, ou, rfl, a0, a1⟩ := HATK.out
      have HA0 := Lib.hid a0
      have HA1 := Lib.hid a1
      have p0 : ∀ s : Past wr, s.val.cell? ⟨bu, ou + k * 2, none⟩ = some (.string (bs x.nm)) := fun s => cell_kept HA0.out s.h
      have p1 : ∀ s : Past wr, s.val.cell? ⟨Y, 1, none⟩ = some (.string (bs nm)) := Past.blk HY2.out (j := 1) rfl
      have i2 : (0 : Int) ≤ (k : Int) := by omega
      have i3 : (k : Int) < (A.length : Int) := by omega
      have hbq := bs_beq x.nm nm
      obtain ⟨e, he⟩ : ∃ e, e = (x.nm == nm) := ⟨_, rfl⟩
      rw [← he] at hbq HTK
      clear he a0 a1 HATK
      go_upto_region 6 with fail
      cases e
      ·
        refine wp_region_past (by kernel_rfl) (by kernel_rfl) ?_
        repeat (go_big_quiet_step (fail))
        refine wpQuiet_nil ?_
        intro _ hw'
        obtain ⟨s9, hw''⟩ := hw'
        subst hw''
        obtain ⟨w5, h9, e9⟩ : ∃ wq, Below wr.heap.size wr wq ∧ wq = s9.val := ⟨_, s9.h, rfl⟩
        rw [← e9]
        clear e9
        have HB5 : Hid (Below w1.heap.size w1 w5) := Lib.hid (below_and HB.out h9)
        clear h9
        go_wp2
        go_roundw
        case rel => exact ⟨k + 1, q, hlt, by go_num, rfl, rfl, Lib.hid (by rw [HTK.out]; rfl), HB5⟩
        case measure => simp [intOf]; omega
      ·
        refine wp_region_past (by kernel_rfl) (by kernel_rfl) ?_
        repeat (go_big_quiet_step (fail))
        refine wpQuiet_nil ?_
        intro _ hw'
        obtain ⟨s9, hw''⟩ := hw'
        subst hw''
        obtain ⟨w5, h9, e9⟩ : ∃ wq, Below wr.heap.size wr wq ∧ wq = s9.val := ⟨_, s9.h, rfl⟩
        rw [← e9]
        clear e9
        have HB5 := Lib.hid h9
        have p2 : ∀ s : Past w5, s.val.cell? ⟨bu, ou + k * 2 + 1, none⟩ = some (.string (bs x.vl)) := fun s => cell_kept (cell_kept HA1.out HB5.out) s.h
        clear h9 hbq
        go_upto_region 7 with fail
        refine wp_region_past (by kernel_rfl) (by kernel_rfl) ?_
        repeat (go_big_quiet_step (fail))
        refine wpQuiet_nil ?_
        intro _ hw'
        obtain ⟨s9, hw''⟩ := hw'
        subst hw''
        obtain ⟨w6, h9, e9⟩ : ∃ wq, Below w5.heap.size w5 wq ∧ wq = s9.val := ⟨_, s9.h, rfl⟩
        rw [← e9]
        clear e9
        have HB6 : Hid (Below w1.heap.size w1 w6) := Lib.hid (below_and HB.out (below_and HB5.out h9))
        clear h9
        go_wp2
        go_roundw
        case rel => exact ⟨k + 1, some x.vl, hlt, by go_num, rfl, rfl, Lib.hid (by rw [HTK.out]; rfl), HB6⟩
        case measure => simp [intOf]; omega
    ·
      have HVA : Hid (valAt A nm = q) := Lib.hid (by have h1 := HLV.out; rw [List.take_of_length_le (by omega), lastV_eq HAT.out] at h1; exact h1)
      have HQL : Hid ((q.getD []).length ≤ 140737488351232) := Lib.hid (by
        cases hq : q with
        | none => simp
        | some v => obtain ⟨a, h1, h2⟩ := valAt_mem (by rw [HVA.out, hq] : valAt A nm = some v); have := HVL.out a h1; rw [h2] at this; exact this)
      have HR2 := Lib.hid (HR.out.below HB2.out)
      have g0 : ¬ ((k : Int) < (A.length : Int)) := by omega
      obtain ⟨tv, htv⟩ : ∃ tv, tv = q.getD [] := ⟨_, rfl⟩
      rw [← htv] at HQL ⊢
      have HTV := Lib.hid htv
      clear htv hlt hk HLV HB HR HU HY1 HB1
      have HDG : Hid (∀ w, Calls Tryz.prog 54 #[.string (bs tv)] w fun e w' => e = .returned (.tuple #[.int .i64 (digX tv), .bool (digK tv)]) ∧ w = w') := Lib.hid (fun w => ddig_any tv w HQL.out)
      obtain ⟨dx, hdx⟩ : ∃ dx, dx = digX tv := ⟨_, rfl⟩
      obtain ⟨dk, hdk⟩ : ∃ dk, dk = digK tv := ⟨_, rfl⟩
      rw [← hdx, ← hdk] at HDG
      have HDX := Lib.hid hdx
      have HDK := Lib.hid hdk
      clear hdx hdk
      go_upto_region 9 with (go_at_call 54; refine (HDG.out _).mono ?_; rintro e w4 ⟨rfl, rfl⟩)
      have y0 := HY2.out.cell (j := 0) rfl
      have y1 := HY2.out.cell (j := 1) rfl
      have y2 := HY2.out.cell (j := 2) rfl
      have y3 := HY2.out.cell (j := 3) rfl
      have y4 := HY2.out.cell (j := 4) rfl
      have y5 := HY2.out.cell (j := 5) rfl
      have HAB : Hid (∀ (x : Int) (w' : World), 0 ≤ x → x < (i : Int) → Below wr.heap.size wr w' → Calls Tryz.prog 33 #[.slice (some ⟨b, o, none⟩) L.length c, .int .i64 x, .slice pu A.length cu] w' fun r w3 => r = .returned (.bool (hol L A x.toNat)) ∧ Below w'.heap.size w' w3) := Lib.hid (fun x w' h0 h1 hb => by
        have := ih x.toNat (by omega) _ _ w' (HR2.out.below hb) (HU2.out.below hb)
        rw [Int.toNat_of_nonneg h0] at this
        exact this)
      by_cases k1 : kd = 1
      · subst k1
        have HRR : Hid (hv0 = true) := Lib.hid (by rw [HEQ.out]; simp [leafH])
        go_wp2
        go_ret
        exact ⟨ret_bool HRR.out.symm, HB2.out⟩
      by_cases k2 : kd = 2
      ·
        subst k2
        clear k1
        cases q with
        | none =>
          have HVV : Hid (valAt A nm = none) := HVA
          have HRR : Hid (hv0 = false) := Lib.hid (by rw [HEQ.out]; simp [leafH, HVV.out])
          go_wp2
          go_ret
          exact ⟨ret_bool HRR.out.symm, HB2.out⟩
        | some t =>
          have HVV : Hid (valAt A nm = some t) := HVA
          have ht : tv = t := HTV.out
          subst ht
          have hbq := bs_beq tv vl
          obtain ⟨q2, hq2⟩ : ∃ q2, q2 = (tv == vl) := ⟨_, rfl⟩
          rw [← hq2] at hbq
          have HRR : Hid (hv0 = q2) := Lib.hid (by rw [HEQ.out, hq2]; simp [leafH, HVV.out])
          clear hq2
          cases q2
          all_goals
            go_wp2
            go_ret
            exact ⟨ret_bool HRR.out.symm, HB2.out⟩
      by_cases k3 : kd = 3
      ·
        subst k3
        clear k1 k2
        cases q with
        | none =>
          have HVV : Hid (valAt A nm = none) := HVA
          have HRR : Hid (hv0 = true) := Lib.hid (by rw [HEQ.out]; simp [leafH, HVV.out])
          go_wp2
          go_ret
          exact ⟨ret_bool HRR.out.symm, HB2.out⟩
        | some t =>
          have HVV : Hid (valAt A nm = some t) := HVA
          have ht : tv = t := HTV.out
          subst ht
          have hbq := bs_beq tv vl
          obtain ⟨q2, hq2⟩ : ∃ q2, q2 = (tv == vl) := ⟨_, rfl⟩
          rw [← hq2] at hbq
          have HRR : Hid (hv0 = (!q2)) := Lib.hid (by rw [HEQ.out, hq2]; simp [leafH, HVV.out])
          clear hq2
          cases q2
          all_goals
            go_wp2
            go_ret
            exact ⟨ret_bool HRR.out.symm, HB2.out⟩
      by_cases k4 : kd = 4
      ·
        subst k4
        clear k1 k2 k3
        cases q with
        | none =>
          have HVV : Hid (valAt A nm = none) := HVA
          have HRR : Hid (hv0 = false) := Lib.hid (by rw [HEQ.out]; simp [leafH, HVV.out])
          go_wp2
          go_ret
          exact ⟨ret_bool HRR.out.symm, HB2.out⟩
        | some t =>
          have HVV : Hid (valAt A nm = some t) := HVA
          have ht : tv = t := HTV.out
          subst ht
          cases hdk : dk with
          | false =>
            have HRR : Hid (hv0 = false) := Lib.hid (by rw [HEQ.out]; have h9 := HDK.out; rw [hdk, digK_eq] at h9; simp [leafH, HVV.out, ← h9])
            subst hdk
            go_wp2
            go_ret
            exact ⟨ret_bool HRR.out.symm, HB2.out⟩
          | true =>
            have HD2 : Hid (allB 12 dgt tv = true ∧ digV tv = dx) := Lib.hid (by have h9 := HDK.out; rw [hdk] at h9; exact ⟨by rw [← digK_eq]; exact h9.symm, by rw [HDX.out, digX_eq h9.symm]⟩)
            subst hdk
            by_cases hle : (xx ≤ dx)
            ·
              have HRR : Hid (hv0 = true) := Lib.hid (by rw [HEQ.out]; simp [leafH, HVV.out, HD2.out.1, HD2.out.2, hle])
              have t1 : decide (xx ≤ dx) = true := decide_eq_true hle
              clear hle
              go_wp2
              go_ret
              exact ⟨ret_bool HRR.out.symm, HB2.out⟩
            ·
              have HRR : Hid (hv0 = false) := Lib.hid (by rw [HEQ.out]; simp [leafH, HVV.out, HD2.out.1, HD2.out.2]; omega)
              have t1 : decide (xx ≤ dx) = false := decide_eq_false hle
              clear hle
              go_wp2
              go_ret
              exact ⟨ret_bool HRR.out.symm, HB2.out⟩
      by_cases k5 : kd = 5
      ·
        subst k5
        clear k1 k2 k3 k4
        cases q with
        | none =>
          have HVV : Hid (valAt A nm = none) := HVA
          have HRR : Hid (hv0 = false) := Lib.hid (by rw [HEQ.out]; simp [leafH, HVV.out])
          go_wp2
          go_ret
          exact ⟨ret_bool HRR.out.symm, HB2.out⟩
        | some t =>
          have HVV : Hid (valAt A nm = some t) := HVA
          have ht : tv = t := HTV.out
          subst ht
          cases hdk : dk with
          | false =>
            have HRR : Hid (hv0 = false) := Lib.hid (by rw [HEQ.out]; have h9 := HDK.out; rw [hdk, digK_eq] at h9; simp [leafH, HVV.out, ← h9])
            subst hdk
            go_wp2
            go_ret
            exact ⟨ret_bool HRR.out.symm, HB2.out⟩
          | true =>
            have HD2 : Hid (allB 12 dgt tv = true ∧ digV tv = dx) := Lib.hid (by have h9 := HDK.out; rw [hdk] at h9; exact ⟨by rw [← digK_eq]; exact h9.symm, by rw [HDX.out, digX_eq h9.symm]⟩)
            subst hdk
            by_cases hle : (dx ≤ xx)
            ·
              have HRR : Hid (hv0 = true) := Lib.hid (by rw [HEQ.out]; simp [leafH, HVV.out, HD2.out.1, HD2.out.2, hle])
              have t1 : decide (dx ≤ xx) = true := decide_eq_true hle
              clear hle
              go_wp2
              go_ret
              exact ⟨ret_bool HRR.out.symm, HB2.out⟩
            ·
              have HRR : Hid (hv0 = false) := Lib.hid (by rw [HEQ.out]; simp [leafH, HVV.out, HD2.out.1, HD2.out.2]; omega)
              have t1 : decide (dx ≤ xx) = false := decide_eq_false hle
              clear hle
              go_wp2
              go_ret
              exact ⟨ret_bool HRR.out.symm, HB2.out⟩
      by_cases k6 : kd = 6
      ·
        subst k6
        clear k1 k2 k3 k4 k5
        have HRR : Hid (hv0 = q.isSome) := Lib.hid (by rw [HEQ.out]; simp [leafH, HVA.out])
        go_wp2
        go_ret
        exact ⟨ret_bool HRR.out.symm, HB2.out⟩
      by_cases k7 : kd = 7
      ·
        subst k7
        clear k1 k2 k3 k4 k5 k6
        have hpa := HPA.out na (by simp [parts])
        obtain ⟨ja, hja⟩ : ∃ ja : Nat, na = (ja : Int) := ⟨na.toNat, by omega⟩
        subst hja
        have HJA : Hid (ja < i) := Lib.hid (by omega)
        have HJB : Hid (ja < i) := HJA
        have HRR : Hid (hv0 = !(hol L A ja)) := Lib.hid (by rw [HEQ.out]; simp)
        have HBX := Lib.hid (Below.refl wr.heap.size wr)
        clear hpa HPA
        go_wp2_with (go_at_call 33; refine (HAB.out _ _ (by omega) (by have := HJA.out; have := HJB.out; omega) HBX.out).mono ?_; rintro r w3 ⟨rfl, hb⟩; have HB3 := Lib.hid (below_and HBX.out hb); clear hb)
        go_ret
        exact ⟨ret_bool (by first | (rw [HRR.out]; done) | (rw [HRR.out]; rfl)), below_and HB2.out HB3.out⟩
      by_cases k8 : kd = 8
      ·
        subst k8
        clear k1 k2 k3 k4 k5 k6 k7
        have hpa := HPA.out na (by simp [parts])
        have hpb := HPA.out nb (by simp [parts])
        obtain ⟨ja, hja⟩ : ∃ ja : Nat, na = (ja : Int) := ⟨na.toNat, by omega⟩
        obtain ⟨jb, hjb⟩ : ∃ jb : Nat, nb = (jb : Int) := ⟨nb.toNat, by omega⟩
        subst hja
        subst hjb
        have HJA : Hid (ja < i) := Lib.hid (by omega)
        have HJB : Hid (jb < i) := Lib.hid (by omega)
        have HRR : Hid (hv0 = (hol L A ja && hol L A jb)) := Lib.hid (by rw [HEQ.out]; simp)
        have HBX := Lib.hid (Below.refl wr.heap.size wr)
        obtain ⟨HL, hHL⟩ : ∃ HL : Int → Bool, ∀ j : Nat, HL (j : Int) = hol L A j := ⟨fun x => hol L A x.toNat, fun j => by simp⟩
        have HAC : Hid (∀ (x : Int) (w' : World), 0 ≤ x → x < (i : Int) → Below wr.heap.size wr w' → Calls Tryz.prog 33 #[.slice (some ⟨b, o, none⟩) L.length c, .int .i64 x, .slice pu A.length cu] w' fun r w3 => r = .returned (.bool (HL x)) ∧ Below w'.heap.size w' w3) := Lib.hid (fun x w' h0 h1 hb => by
          have := HAB.out x w' h0 h1 hb
          rw [← hHL, Int.toNat_of_nonneg h0] at this
          exact this)
        rw [← hHL, ← hHL] at HRR
        clear hpa hpb HPA hHL HAB
        have HY3K : Hid (∀ w3, Below wr.heap.size wr w3 → w3.cell? ⟨Y, 5, none⟩ = some (.int .i64 (jb : Int))) := Lib.hid (fun w3 hb => (HY2.out.kept hb).cell (j := 5) rfl)
        cases hla : HL (ja : Int) with
        | true =>
          have HLA := Lib.hid hla
          have hla1 := HLA.out
          clear hla
          go_wp2_with (first
            | (go_at_call 33; refine (HAC.out _ _ (by omega) (by have := HJA.out; have := HJB.out; omega) HBX.out).mono ?_; rintro r w3 ⟨rfl, hb⟩; have HB3 := Lib.hid (below_and HBX.out hb); have y9 := HY3K.out _ (below_and HBX.out hb); clear hb HBX y5)
            | (go_at_call 33; refine (HAC.out _ _ (by omega) (by have := HJA.out; have := HJB.out; omega) HB3.out).mono ?_; rintro r w4 ⟨rfl, hb⟩; have HB4 := Lib.hid (below_and HB3.out hb); clear hb))
          go_ret
          exact ⟨ret_bool (by first | (rw [HRR.out, HLA.out]; done) | (rw [HRR.out, HLA.out]; rfl)), below_and HB2.out HB4.out⟩
        | false =>
          have HLA := Lib.hid hla
          have hla1 := HLA.out
          clear hla
          go_wp2_with (go_at_call 33; refine (HAC.out _ _ (by omega) (by have := HJA.out; have := HJB.out; omega) HBX.out).mono ?_; rintro r w3 ⟨rfl, hb⟩; have HB3 := Lib.hid (below_and HBX.out hb); clear hb)
          go_ret
          exact ⟨ret_bool (by first | (rw [HRR.out, HLA.out]; done) | (rw [HRR.out, HLA.out]; rfl)), below_and HB2.out HB3.out⟩
      obtain rfl : kd = 9 := by have := HKR.out; omega
      clear k1 k2 k3 k4 k5 k6 k7 k8
      have hpa := HPA.out na (by simp [parts])
      have hpb := HPA.out nb (by simp [parts])
      obtain ⟨ja, hja⟩ : ∃ ja : Nat, na = (ja : Int) := ⟨na.toNat, by omega⟩
      obtain ⟨jb, hjb⟩ : ∃ jb : Nat, nb = (jb : Int) := ⟨nb.toNat, by omega⟩
      subst hja
      subst hjb
      have HJA : Hid (ja < i) := Lib.hid (by omega)
      have HJB : Hid (jb < i) := Lib.hid (by omega)
      have HRR : Hid (hv0 = (hol L A ja || hol L A jb)) := Lib.hid (by rw [HEQ.out]; simp)
      have HBX := Lib.hid (Below.refl wr.heap.size wr)
      obtain ⟨HL, hHL⟩ : ∃ HL : Int → Bool, ∀ j : Nat, HL (j : Int) = hol L A j := ⟨fun x => hol L A x.toNat, fun j => by simp⟩
      have HAC : Hid (∀ (x : Int) (w' : World), 0 ≤ x → x < (i : Int) → Below wr.heap.size wr w' → Calls Tryz.prog 33 #[.slice (some ⟨b, o, none⟩) L.length c, .int .i64 x, .slice pu A.length cu] w' fun r w3 => r = .returned (.bool (HL x)) ∧ Below w'.heap.size w' w3) := Lib.hid (fun x w' h0 h1 hb => by
        have := HAB.out x w' h0 h1 hb
        rw [← hHL, Int.toNat_of_nonneg h0] at this
        exact this)
      rw [← hHL, ← hHL] at HRR
      clear hpa hpb HPA hHL HAB
      have HY3K : Hid (∀ w3, Below wr.heap.size wr w3 → w3.cell? ⟨Y, 5, none⟩ = some (.int .i64 (jb : Int))) := Lib.hid (fun w3 hb => (HY2.out.kept hb).cell (j := 5) rfl)
      cases hla : HL (ja : Int) with
      | false =>
        have HLA := Lib.hid hla
        have hla1 := HLA.out
        clear hla
        go_wp2_with (first
          | (go_at_call 33; refine (HAC.out _ _ (by omega) (by have := HJA.out; have := HJB.out; omega) HBX.out).mono ?_; rintro r w3 ⟨rfl, hb⟩; have HB3 := Lib.hid (below_and HBX.out hb); have y9 := HY3K.out _ (below_and HBX.out hb); clear hb HBX y5)
          | (go_at_call 33; refine (HAC.out _ _ (by omega) (by have := HJA.out; have := HJB.out; omega) HB3.out).mono ?_; rintro r w4 ⟨rfl, hb⟩; have HB4 := Lib.hid (below_and HB3.out hb); clear hb))
        go_ret
        exact ⟨ret_bool (by first | (rw [HRR.out, HLA.out]; done) | (rw [HRR.out, HLA.out]; rfl)), below_and HB2.out HB4.out⟩
      | true =>
        have HLA := Lib.hid hla
        have hla1 := HLA.out
        clear hla
        go_wp2_with (go_at_call 33; refine (HAC.out _ _ (by omega) (by have := HJA.out; have := HJB.out; omega) HBX.out).mono ?_; rintro r w3 ⟨rfl, hb⟩; have HB3 := Lib.hid (below_and HBX.out hb); clear hb)
        go_ret
        exact ⟨ret_bool (by first | (rw [HRR.out, HLA.out]; done) | (rw [HRR.out, HLA.out]; rfl)), below_and HB2.out HB3.out⟩
theorem dhold_any {L : List Nd} {A : List At} (hf : Fine L) (hk : ∀ n ∈ L, 1 ≤ n.k ∧ n.k ≤ 9) (hat : attrsB A = true) (hvl : ∀ a ∈ A, a.vl.length ≤ 140737488351232) : ∀ (m i : Nat), i < m → i < L.length → DHoldC L A i
  | 0, _, h, _ => absurd h (by omega)
  | m + 1, i, h, hi => dhold_step L A hf i hi hk hat hvl (fun j hj => dhold_any hf hk hat hvl m j (by omega) (by omega))
end Go.Proofs.YtdnoceancoclmaaGreatDoor.Ru

namespace Go.Proofs.YtdnoceancoclmaaGreatDoor.Ru
open Go.RowKit Go.Proofs.YtdnoceancoclmaaGreatDoor

theorem specM_name (l : List UInt8) : specM 24 l = isNameB l := by
  unfold specM isNameB
  rw [Bool.eq_iff_iff]
  simp only [Bool.and_eq_true, decide_eq_true_eq]
theorem wrdB_word (l : List UInt8) : wrdB l = wordB l := by
  unfold wrdB wordB allB
  rw [Bool.eq_iff_iff]
  simp only [Bool.and_eq_true, decide_eq_true_eq, List.all_eq_true]
  constructor
  · rintro ⟨⟨h1, h2⟩, h3⟩; first | exact ⟨⟨h2, h3⟩, h1⟩ | exact ⟨h2, h3, h1⟩
  · intro h; first | (obtain ⟨⟨h2, h3⟩, h1⟩ := h; exact ⟨⟨h1, h2⟩, h3⟩) | (obtain ⟨h2, h3, h1⟩ := h; exact ⟨⟨h1, h2⟩, h3⟩)
theorem attrs_two (A : List At) : attrsR A = 0 ∨ attrsR A = 2 := by
  unfold attrsR
  split
  · exact .inl rfl
  · exact .inr rfl
theorem less_flip (a b : List UInt8) : Op.bytesLess b a = !(Op.bytesLess a b || a == b) := by
  rw [lt_less, lt_less]
  rcases lt_tri a b with h | h | h
  · have : ¬ b < a := fun g => lt_irr _ (List.lt_trans h g)
    simp [h, this]
  · subst h; simp [lt_irr]
  · have h1 : ¬ a < b := fun g => lt_irr _ (List.lt_trans h g)
    have h2 : a ≠ b := fun e => by subst e; exact lt_irr _ h
    simp [h, h1, h2]
theorem attrs_yes {A : List At} (h : attrsR A = 0) : attrsB A = true := by
  unfold attrsR at h
  split at h
  · assumption
  · cases h
set_option maxRecDepth 100000 in
set_option maxHeartbeats 4000000 in
theorem dattrs_any (v : Value) (A : List At) (w : World) (hv : Row w v 2 A.length (rwC atC A)) (ha : ∀ a ∈ A, a.nm.length ≤ 140737488351232 ∧ a.vl.length ≤ 140737488351232) : Calls Tryz.prog 10 #[v] w fun r w' => r = .returned (.int .i64 (attrsR A)) ∧ Below w.heap.size w w' := by
  obtain ⟨p, c, rfl, hc, hm, -⟩ := id hv
  have HV := Lib.hid hv
  have HA := Lib.hid ha
  have hml : maxLen ≤ 9223372036854775807 := by decide
  have hn63 : (A.length : Int) ≤ 9223372036854775807 := by omega
  obtain ⟨n, hn⟩ : ∃ n, n = A.length := ⟨_, rfl⟩
  have HLN := Lib.hid hn
  rw [← hn] at hn63 ⊢
  clear hv hc hm hml hn ha
  by_cases hlong : 16 < n
  · have HR : Hid (attrsR A = 2) := Lib.hid (attr_long (by have := HLN.out; omega))
    have t1 : decide (16 < n) = true := decide_eq_true hlong
    have t2 : decide ((16 : Int) < (n : Int)) = true := by simp; omega
    go_enter Tryz.func10, Tryz.ntmps10
    go_wp2
    go_ret
    exact ⟨ret_int HR.out.symm, Below.refl _ _⟩
  have hl16 : n ≤ 16 := by omega
  have HL : Hid (n ≤ 16) := Lib.hid hl16
  have t2 : decide ((16 : Int) < (n : Int)) = false := by simp; omega
  have t2' : decide (16 < n) = false := by simp; omega
  clear hlong
  go_enter Tryz.func10, Tryz.ntmps10
  go_upto_region 4 with fail
  clear hl16 t2 t2'
  go_loopw [3] (fun i wr => ∃ k : Nat, k ≤ n ∧ i = .int .i64 (k : Int) ∧ Hid (∀ j (h : j < A.length), j < k → attrOk A j A[j] = true) ∧ Hid (Below w.heap.size w wr)) (fun i _ => n - (intOf i).toNat)
  case atStart => exact ⟨0, Nat.zero_le _, rfl, Lib.hid (fun j _ h => by omega), Lib.hid (Below.refl _ _)⟩
  case round =>
    obtain ⟨k, hk, rfl, HF, HB⟩ := hrel
    by_cases hlt : k < n
    rotate_left
    · obtain rfl : k = n := by omega
      have HR : Hid (attrsR A = 0) := Lib.hid (attr_good (by have := HLN.out; have := HL.out; omega) (fun j h => HF.out j h (by have := HLN.out; omega)))
      go_wp2
      go_ret
      exact ⟨ret_int HR.out.symm, HB.out⟩
    have HKN : Hid (k < A.length) := Lib.hid (by have := HLN.out; omega)
    obtain ⟨x, hx⟩ : ∃ x, x = A[k]'HKN.out := ⟨_, rfl⟩
    have HLC := Lib.hid (attr_at (HV.out.below HB.out) HKN.out)
    rw [← hx] at HLC
    have HX := Lib.hid hx
    have HXL := Lib.hid (HA.out x (by rw [hx]; exact List.getElem_mem _))
    clear hx
    obtain ⟨b, o, rfl, q0, q1⟩ := HLC.out
    have HQ0 := Lib.hid q0
    have HQ1 := Lib.hid q1
    have p0 : ∀ s : Past wr, s.val.cell? ⟨b, o + k * 2, none⟩ = some (.string (bs x.nm)) := fun s => cell_kept HQ0.out s.h
    have p1 : ∀ s : Past wr, s.val.cell? ⟨b, o + k * 2 + 1, none⟩ = some (.string (bs x.vl)) := fun s => cell_kept HQ1.out s.h
    clear HLC q0 q1
    have i0 : (0 : Int) ≤ (k : Int) := by omega
    have i1 : (k : Int) < (n : Int) := by omega
    have HNM : Hid (∀ s : Past wr, Calls Tryz.prog 30 #[.string (bs x.nm), .int .i64 24] s.val fun r w' => r = .returned (.bool (isNameB x.nm)) ∧ Below s.val.heap.size s.val w') := Lib.hid (fun s => by
      have := dname_any 24 (bs x.nm) s.val (by omega) (by rw [bs_size]; exact HXL.out.1)
      rw [bs_data, specM_name] at this
      exact this.mono (fun r w' h => ⟨h.1, by rw [← h.2]; exact Below.refl _ _⟩))
    have HWD : Hid (∀ s : Past wr, Calls Tryz.prog 31 #[.string (bs x.vl)] s.val fun r w' => r = .returned (.bool (wordB x.vl)) ∧ Below s.val.heap.size s.val w') := Lib.hid (fun s => by
      have := word_any' x.vl s.val HXL.out.2
      rw [wrdB_word] at this
      exact this.mono (fun r w' h => ⟨h.1, by rw [← h.2]; exact Below.refl _ _⟩))
    go_upto_region 6 with fail
    cases hnm : isNameB x.nm with
    | false =>
      rw [hnm] at HNM
      have HN : Hid (∃ i, ∃ h : i < A.length, attrOk A i A[i] = false) := Lib.hid ⟨k, HKN.out, by rw [← HX.out]; unfold attrOk; rw [hnm]; rfl⟩
      clear hnm
      refine wp_region_past (by kernel_rfl) (by kernel_rfl) ?_
      repeat (go_big_quiet_step ((first | (go_at_call 30; exact past_call (HNM.out _)) | (go_at_call 31; exact past_call (HWD.out _)))))
      refine wpQuiet_nil ?_
      intro _ hw'
      obtain ⟨s9, hw''⟩ := hw'
      subst hw''
      obtain ⟨w5, h9, e9⟩ : ∃ wq, Below wr.heap.size wr wq ∧ wq = s9.val := ⟨_, s9.h, rfl⟩
      rw [← e9]
      clear e9
      have HB9 : Hid (Below w.heap.size w w5) := Lib.hid (below_and HB.out h9)
      clear h9
      go_wp2
      go_ret
      exact ⟨ret_int (attr_bad HN.out).symm, HB9.out⟩
    | true =>
      rw [hnm] at HNM
      have HNT := Lib.hid hnm
      clear hnm
      cases hwd : wordB x.vl with
      | false =>
        rw [hwd] at HWD
        have HN : Hid (∃ i, ∃ h : i < A.length, attrOk A i A[i] = false) := Lib.hid ⟨k, HKN.out, by rw [← HX.out]; unfold attrOk; rw [hwd, HNT.out]; rfl⟩
        clear hwd
        refine wp_region_past (by kernel_rfl) (by kernel_rfl) ?_
        repeat (go_big_quiet_step ((first | (go_at_call 30; exact past_call (HNM.out _)) | (go_at_call 31; exact past_call (HWD.out _)))))
        refine wpQuiet_nil ?_
        intro _ hw'
        obtain ⟨s9, hw''⟩ := hw'
        subst hw''
        obtain ⟨w5, h9, e9⟩ : ∃ wq, Below wr.heap.size wr wq ∧ wq = s9.val := ⟨_, s9.h, rfl⟩
        rw [← e9]
        clear e9
        have HB9 : Hid (Below w.heap.size w w5) := Lib.hid (below_and HB.out h9)
        clear h9
        go_wp2
        go_ret
        exact ⟨ret_int (attr_bad HN.out).symm, HB9.out⟩
      | true =>
        rw [hwd] at HWD
        have HWT := Lib.hid hwd
        clear hwd
        by_cases hk0 : k = 0
        ·
          subst hk0
          simp only [Nat.zero_mul, Nat.add_zero] at p0 p1
          have HF2 : Hid (∀ j (h : j < A.length), j < 0 + 1 → attrOk A j A[j] = true) := Lib.hid (fun j h hj => by
            obtain rfl : j = 0 := by omega
            rw [← HX.out]
            unfold attrOk
            rw [HNT.out, HWT.out]
            rfl)
          refine wp_region_past (by kernel_rfl) (by kernel_rfl) ?_
          repeat (go_big_quiet_step ((first | (go_at_call 30; exact past_call (HNM.out _)) | (go_at_call 31; exact past_call (HWD.out _)))))
          refine wpQuiet_nil ?_
          intro _ hw'
          obtain ⟨s9, hw''⟩ := hw'
          subst hw''
          obtain ⟨w5, h9, e9⟩ : ∃ wq, Below wr.heap.size wr wq ∧ wq = s9.val := ⟨_, s9.h, rfl⟩
          rw [← e9]
          clear e9
          have HB9 : Hid (Below w.heap.size w w5) := Lib.hid (below_and HB.out h9)
          clear h9
          go_wp2
          go_roundw
          case rel => exact ⟨0 + 1, by omega, by go_num, HF2, HB9⟩
          case measure => simp [intOf]; omega
        obtain ⟨i, hi⟩ : ∃ i, k = i + 1 := ⟨k - 1, by omega⟩
        subst hi
        have HIN : Hid (i < A.length) := Lib.hid (by have := HKN.out; omega)
        obtain ⟨y, hy⟩ : ∃ y, y = A[i]'HIN.out := ⟨_, rfl⟩
        have HQ : Hid (wr.cell? ⟨b, o + i * 2, none⟩ = some (.string (bs y.nm))) := Lib.hid (by
          obtain ⟨b', o', e, h1, -⟩ := attr_at (HV.out.below HB.out) HIN.out
          simp only [Option.some.injEq, Addr.mk.injEq, and_true] at e
          obtain ⟨rfl, rfl⟩ := e
          rw [hy]; exact h1)
        have pq : ∀ s : Past wr, s.val.cell? ⟨b, o + i * 2, none⟩ = some (.string (bs y.nm)) := fun s => cell_kept HQ.out s.h
        have HOK : Hid (attrOk A (i + 1) x = !(Op.bytesLess x.nm y.nm || x.nm == y.nm)) := Lib.hid (by
          unfold attrOk leB
          rw [HNT.out, HWT.out, Nat.add_sub_cancel, List.getElem?_eq_getElem HIN.out, ← hy]
          simp)
        have u1 : IntKind.i64.wrap ((i : Int) + 1 - 1) = (i : Int) := by rw [IntKind.wrap_i64]; have := HKN.out; have := HLN.out; have := HL.out; omega
        have i3 : (i : Int) < (n : Int) := by omega
        have i2 : (0 : Int) ≤ (i : Int) := by omega
        have t0 : decide ((0 : Int) < (i : Int) + 1) = true := by first | (simp; done) | (simp; omega)
        have hbl := bs_less x.nm y.nm
        have hbl' := (bs_less y.nm x.nm).trans (less_flip x.nm y.nm)
        have hbe := bs_beq x.nm y.nm
        have hbe' := bs_beq y.nm x.nm
        rw [show (y.nm == x.nm) = (x.nm == y.nm) from BEq.comm] at hbe'
        obtain ⟨q1, hq1⟩ : ∃ q1, q1 = Op.bytesLess x.nm y.nm := ⟨_, rfl⟩
        obtain ⟨q2, hq2⟩ : ∃ q2, q2 = (x.nm == y.nm) := ⟨_, rfl⟩
        rw [← hq1] at hbl hbl' HOK
        rw [← hq2] at hbe hbe' hbl' HOK
        clear hq1 hq2 hy hk0
        by_cases hle : (q1 || q2) = true
        ·
          have HN : Hid (∃ i, ∃ h : i < A.length, attrOk A i A[i] = false) := Lib.hid ⟨i + 1, HKN.out, by rw [← HX.out, HOK.out, hle]; rfl⟩
          cases q1 <;> cases q2 <;> (first | (exfalso; revert hle; decide) | skip)
          all_goals
            clear hle
            simp only [Bool.or_true, Bool.true_or, Bool.not_true] at hbl'
            refine wp_region_past (by kernel_rfl) (by kernel_rfl) ?_
            repeat (go_big_quiet_step ((first | (go_at_call 30; exact past_call (HNM.out _)) | (go_at_call 31; exact past_call (HWD.out _)))))
            refine wpQuiet_nil ?_
            intro _ hw'
            obtain ⟨s9, hw''⟩ := hw'
            subst hw''
            obtain ⟨w5, h9, e9⟩ : ∃ wq, Below wr.heap.size wr wq ∧ wq = s9.val := ⟨_, s9.h, rfl⟩
            rw [← e9]
            clear e9
            have HB9 : Hid (Below w.heap.size w w5) := Lib.hid (below_and HB.out h9)
            clear h9
            go_wp2
            go_ret
            exact ⟨ret_int (attr_bad HN.out).symm, HB9.out⟩
        ·
          have HF2 : Hid (∀ j (h : j < A.length), j < i + 1 + 1 → attrOk A j A[j] = true) := Lib.hid (fun j h hj => by
            by_cases e : j = i + 1
            · subst e
              rw [← HX.out, HOK.out]
              simpa using hle
            · exact HF.out j h (by omega))
          have hq1 : q1 = false := by cases q1 <;> simp_all
          have hq2 : q2 = false := by cases q2 <;> simp_all
          subst hq1
          subst hq2
          clear hle
          simp only [Bool.or_false, Bool.not_false] at hbl'
          refine wp_region_past (by kernel_rfl) (by kernel_rfl) ?_
          repeat (go_big_quiet_step ((first | (go_at_call 30; exact past_call (HNM.out _)) | (go_at_call 31; exact past_call (HWD.out _)))))
          refine wpQuiet_nil ?_
          intro _ hw'
          obtain ⟨s9, hw''⟩ := hw'
          subst hw''
          obtain ⟨w5, h9, e9⟩ : ∃ wq, Below wr.heap.size wr wq ∧ wq = s9.val := ⟨_, s9.h, rfl⟩
          rw [← e9]
          clear e9
          have HB9 : Hid (Below w.heap.size w w5) := Lib.hid (below_and HB.out h9)
          clear h9
          go_wp2
          go_roundw
          case rel => exact ⟨(i + 1) + 1, by omega, by go_num, HF2, HB9⟩
          case measure => simp [intOf]; omega
set_option maxRecDepth 100000 in
set_option maxHeartbeats 1000000 in
theorem dholds_any (v u : Value) (L : List Nd) (A : List At) (w : World) (hv : Row w v 6 L.length (rwC ndC L)) (hu : Row w u 2 A.length (rwC atC A)) (hc : ∀ n ∈ L, n.nm.length ≤ 140737488351232 ∧ n.vl.length ≤ 140737488351232) (ha : ∀ a ∈ A, a.nm.length ≤ 140737488351232 ∧ a.vl.length ≤ 140737488351232) : Calls Tryz.prog 14 #[.agg #[v], u] w fun r w' => r = .returned (.tuple #[.bool (holdsR L A).1, .int .i64 (holdsR L A).2]) ∧ Below w.heap.size w w' := by
  have HV := Lib.hid hv
  obtain ⟨p, c, rfl, hcp, hm, -⟩ := hv
  obtain ⟨w0, hw0⟩ : ∃ w0, w0 = w.alloc (.cells #[.slice p L.length c] 24) := ⟨_, rfl⟩
  obtain ⟨B, hB⟩ : ∃ B, B = w.heap.size := ⟨_, rfl⟩
  have HB0 : Hid (Below w.heap.size w w0) := Lib.hid (by rw [hw0]; exact below_alloc w _)
  have X0 : Hid (Blk w0 B [.slice p L.length c] 24) := Lib.hid (by rw [hw0, hB]; exact Blk.made w [.slice p L.length c] _)
  have x0 := X0.out.cell (j := 0) rfl
  have hml : maxLen ≤ 9223372036854775807 := by decide
  have hn63 : (L.length : Int) ≤ 9223372036854775807 := by omega
  have HCK : Hid (Calls Tryz.prog 8 #[.agg #[.slice p L.length c]] w0 fun r w' => r = .returned (.int .i64 (checkP L)) ∧ Below w0.heap.size w0 w') := Lib.hid (by have := dcheck_any _ L w0 (HV.out.below HB0.out) hc; rw [docChk_eq] at this; exact this)
  have HU := Lib.hid hu
  have HAT : Hid (∀ w2, Below w.heap.size w w2 → Calls Tryz.prog 10 #[u] w2 fun r w' => r = .returned (.int .i64 (attrsR A)) ∧ Below w2.heap.size w2 w') := Lib.hid (fun w2 hb => dattrs_any u A w2 (HU.out.below hb) ha)
  obtain ⟨X, hX⟩ : ∃ X, X = (holdsR L A).1 := ⟨_, rfl⟩
  obtain ⟨E, hE⟩ : ∃ E, E = (holdsR L A).2 := ⟨_, rfl⟩
  rw [← hX, ← hE]
  have HRR : Hid (X = (if checkP L = 0 then (if attrsR A = 0 then (hol L A (L.length - 1), 0) else (false, attrsR A)) else (false, checkP L) : Bool × Int).1 ∧ E = (if checkP L = 0 then (if attrsR A = 0 then (hol L A (L.length - 1), 0) else (false, attrsR A)) else (false, checkP L) : Bool × Int).2) := Lib.hid ⟨by rw [hX]; rfl, by rw [hE]; rfl⟩
  clear hX hE
  have HCX := Lib.hid hc
  have HAX := Lib.hid ha
  by_cases hck : checkP L = 0
  rotate_left
  ·
    have hc2 : checkP L = 2 := (chk_two L).resolve_left hck
    have HR1 : Hid (X = false ∧ E = 2) := Lib.hid (by have h := HRR.out; rw [if_neg hck, hc2] at h; exact h)
    rw [hc2] at HCK
    clear hck hc2 hcp hm hml hc ha hu
    go_enter Tryz.func14, Tryz.ntmps14
    go_upto_region 1 with fail
    rw [← hw0, ← hB]
    clear hw0 hB
    go_wp2_with (go_at_call 8; refine HCK.out.mono ?_; rintro r w2 ⟨rfl, hb⟩; have HB2 := Lib.hid (below_and HB0.out hb); have b2 := (X0.out.kept hb).cell (j := 0) rfl; have HX2 := Lib.hid (X0.out.kept hb); clear hb x0)
    go_ret2
    exact ⟨by rw [HR1.out.1, HR1.out.2]; rfl, HB2.out⟩
  have HK0 := Lib.hid hck
  rw [hck] at HCK
  by_cases hat : attrsR A = 0
  rotate_left
  ·
    have hc2 : attrsR A = 2 := (attrs_two A).resolve_left hat
    have HR1 : Hid (X = false ∧ E = 2) := Lib.hid (by have h := HRR.out; rw [if_pos hck, if_neg hat, hc2] at h; exact h)
    rw [hc2] at HAT
    clear hck hc2 hat hcp hm hml hc ha hu
    go_enter Tryz.func14, Tryz.ntmps14
    go_upto_region 1 with fail
    rw [← hw0, ← hB]
    clear hw0 hB
    go_wp2_with (first | (go_at_call 8; refine HCK.out.mono ?_; rintro r w2 ⟨rfl, hb⟩; have HB2 := Lib.hid (below_and HB0.out hb); have b2 := (X0.out.kept hb).cell (j := 0) rfl; have HX2 := Lib.hid (X0.out.kept hb); clear hb x0) | (go_at_call 10; refine (HAT.out _ HB2.out).mono ?_; rintro r w3 ⟨rfl, hb⟩; have HB3 := Lib.hid (below_and HB2.out hb); have b3 := (HX2.out.kept hb).cell (j := 0) rfl; clear hb b2))
    go_ret2
    exact ⟨by rw [HR1.out.1, HR1.out.2]; rfl, HB3.out⟩
  have HR1 : Hid (X = hol L A (L.length - 1) ∧ E = 0) := Lib.hid (by have h := HRR.out; rw [if_pos hck, if_pos hat] at h; exact h)
  have HHO : Hid (∀ w2, Below w.heap.size w w2 → Calls Tryz.prog 33 #[.slice p L.length c, .int .i64 ((L.length - 1 : Nat) : Int), u] w2 fun r w' => r = .returned (.bool (hol L A (L.length - 1))) ∧ Below w2.heap.size w2 w') := Lib.hid (fun w2 hb => by
    obtain ⟨hf, h1, h2, h3⟩ := shaped_fine (check_yes0 hck)
    have hn := (chk_parts hck).2.1
    exact dhold_any hf (fun n hn' => by obtain ⟨i, hi, rfl⟩ := List.getElem_of_mem hn'; exact (leafy_dn (nodesC_leafy hn (List.getElem?_eq_getElem hi))).1) (attrs_yes hat) (fun a h => (ha a h).2) (L.length - 1 + 1) (L.length - 1) (by omega) (by omega) _ _ w2 (HV.out.below hb) (HU.out.below hb))
  obtain ⟨m, hm2⟩ : ∃ m, m = L.length - 1 := ⟨_, rfl⟩
  have u1 : IntKind.i64.wrap ((L.length : Int) - 1) = (m : Int) := by rw [IntKind.wrap_i64]; have := (chk_parts hck).1; omega
  rw [← hm2] at HHO
  obtain ⟨z, hz⟩ : ∃ z, z = hol L A (L.length - 1) := ⟨_, rfl⟩
  rw [← hz] at HR1
  rw [hm2, ← hz, ← hm2] at HHO
  rw [hat] at HAT
  clear hck hat hz hm2 hcp hm hml hc ha hu
  go_enter Tryz.func14, Tryz.ntmps14
  go_upto_region 1 with fail
  rw [← hw0, ← hB]
  clear hw0 hB
  go_upto_region 3 with (first | (go_at_call 8; refine HCK.out.mono ?_; rintro r w2 ⟨rfl, hb⟩; have HB2 := Lib.hid (below_and HB0.out hb); have b2 := (X0.out.kept hb).cell (j := 0) rfl; have HX2 := Lib.hid (X0.out.kept hb); clear hb x0) | (go_at_call 10; refine (HAT.out _ HB2.out).mono ?_; rintro r w3 ⟨rfl, hb⟩; have HB3 := Lib.hid (below_and HB2.out hb); have b3 := (HX2.out.kept hb).cell (j := 0) rfl; clear hb b2))
  go_wp2_with (go_at_call 33; refine (HHO.out _ HB3.out).mono ?_; rintro r w4 ⟨rfl, hb⟩; have HB4 := Lib.hid (below_and HB3.out hb); clear hb)
  go_ret2
  exact ⟨by rw [HR1.out.1, HR1.out.2]; rfl, HB4.out⟩
end Go.Proofs.YtdnoceancoclmaaGreatDoor.Ru
