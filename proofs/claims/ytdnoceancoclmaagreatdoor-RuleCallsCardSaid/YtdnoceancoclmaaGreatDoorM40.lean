/- , laid together: RdCheck, RdText, RuAttrs. -/
import Derived.Test.YtdnoceancoclmaaGreatDoorM32
import Derived.Test.YtdnoceancoclmaaGreatDoorM36
import Derived.Test.YtdnoceancoclmaaGreatDoorM37
import Derived.Test.YtdnoceancoclmaaGreatDoorRuShap
import Derived.Test.YtdnoceancoclmaaGreatDoorRuLawP
namespace Go.Proofs.YtdnoceancoclmaaGreatDoor.Ru
open Go.RowKit Go.Proofs.YtdnoceancoclmaaGreatDoor

theorem nodesC_no {L : List Nd} {i : Nat} (hi : i < L.length) (h : nodeC i L[i] = false) : nodesC L = false := by
  cases hn : nodesC L
  · rfl
  · have := nodesC_at hn (List.getElem?_eq_getElem hi)
    rw [h] at this
    cases this
theorem nodesC_all {L : List Nd} (h : ∀ i (hi : i < L.length), nodeC i L[i] = true) : nodesC L = true := by
  unfold nodesC
  rw [List.all_eq_true]
  intro i hi
  have hlt := List.mem_range.1 hi
  rw [List.getElem?_eq_getElem hlt]
  exact h i hlt
theorem nodeC_eq (k : Nat) (x : Nd) : nodeC k x = (leafyB x && !(decide (x.a < -1)) && !(decide ((k : Int) ≤ x.a)) && !(decide (x.b < -1)) && !(decide ((k : Int) ≤ x.b)) && !(decide (7 ≤ x.k) && decide (x.a < 0)) && !(decide (8 ≤ x.k) && decide (x.b < 0))) := by
  unfold nodeC
  have e1 : decide (-1 ≤ x.a) = !(decide (x.a < -1)) := by by_cases g : x.a < -1 <;> simp [g] <;> omega
  have e2 : decide (x.a < (k : Int)) = !(decide ((k : Int) ≤ x.a)) := by by_cases g : (k : Int) ≤ x.a <;> simp [g] <;> omega
  have e3 : decide (-1 ≤ x.b) = !(decide (x.b < -1)) := by by_cases g : x.b < -1 <;> simp [g] <;> omega
  have e4 : decide (x.b < (k : Int)) = !(decide ((k : Int) ≤ x.b)) := by by_cases g : (k : Int) ≤ x.b <;> simp [g] <;> omega
  rw [e1, e2, e3, e4]
theorem chk_len {L : List Nd} (h : ¬ (1 ≤ L.length ∧ L.length ≤ 64)) : docChk L = 2 := by unfold docChk dcond; rw [decide_eq_false h]; rfl
theorem chk_node {L : List Nd} (h : nodesC L = false) : docChk L = 2 := by unfold docChk dcond; rw [h, Bool.and_false]; rfl
theorem chk_siz {L : List Nd} (h : ¬ siz L (L.length - 1) = L.length) : docChk L = 2 := by unfold docChk dcond; rw [decide_eq_false h, Bool.and_false]; rfl
theorem chk_rest {L : List Nd} (h1 : 1 ≤ L.length ∧ L.length ≤ 64) (h2 : nodesC L = true) (h3 : siz L (L.length - 1) = L.length) : docChk L = if isOk (parseP (tl L (L.length - 1))) L then 0 else 2 := by
  unfold docChk dcond; rw [decide_eq_true h1, h2, decide_eq_true h3]; rfl
set_option maxRecDepth 100000 in
set_option maxHeartbeats 4000000 in
theorem dcheck_any (v : Value) (L : List Nd) (w : World) (hv : Row w v 6 L.length (rwC ndC L)) (hc : ∀ n ∈ L, n.nm.length ≤ 140737488351232 ∧ n.vl.length ≤ 140737488351232) : Calls Tryz.prog 8 #[.agg #[v]] w fun r w' => r = .returned (.int .i64 (docChk L)) ∧ Below w.heap.size w w' := by
  have HV := Lib.hid hv
  obtain ⟨p, c, rfl, hcp, hm, -⟩ := hv
  obtain ⟨w0, hw0⟩ : ∃ w0, w0 = w.alloc (.cells #[.slice p L.length c] 24) := ⟨_, rfl⟩
  obtain ⟨B, hB⟩ : ∃ B, B = w.heap.size := ⟨_, rfl⟩
  have HB0 : Hid (Below w.heap.size w w0) := Lib.hid (by rw [hw0]; exact below_alloc w _)
  have X0 : Hid (Blk w0 B [.slice p L.length c] 24) := Lib.hid (by rw [hw0, hB]; exact Blk.made w [.slice p L.length c] _)
  have x0 := X0.out.cell (j := 0) rfl
  obtain ⟨S, hS⟩ : ∃ S, S = docChk L := ⟨_, rfl⟩
  rw [← hS]
  have HS := Lib.hid hS
  clear hS
  have hml : maxLen ≤ 9223372036854775807 := by decide
  have hn63 : (L.length : Int) ≤ 9223372036854775807 := by omega
  clear hml
  by_cases hlo : L.length < 1
  · have d1 : decide ((L.length : Int) < 1) = true := by simp; omega
    have HV2 : Hid (S = 2) := Lib.hid (by rw [HS.out]; exact chk_len (by omega))
    go_enter Tryz.func8, Tryz.ntmps8
    go_upto_region 1 with fail
    rw [← hw0, ← hB]
    clear hw0 hB
    go_wp2
    go_ret
    exact ⟨by rw [HV2.out]; rfl, HB0.out⟩
  have d1 : decide ((L.length : Int) < 1) = false := by simp; omega
  by_cases hhi : 64 < L.length
  · have d2 : decide ((64 : Int) < (L.length : Int)) = true := by simp; omega
    have HV2 : Hid (S = 2) := Lib.hid (by rw [HS.out]; exact chk_len (by omega))
    go_enter Tryz.func8, Tryz.ntmps8
    go_upto_region 1 with fail
    rw [← hw0, ← hB]
    clear hw0 hB
    go_wp2
    go_ret
    exact ⟨by rw [HV2.out]; rfl, HB0.out⟩
  have d2 : decide ((64 : Int) < (L.length : Int)) = false := by simp; omega
  have HLN : Hid (1 ≤ L.length ∧ L.length ≤ 64) := Lib.hid (by omega)
  clear hlo hhi hcp hm
  go_enter Tryz.func8, Tryz.ntmps8
  go_upto_region 1 with fail
  rw [← hw0, ← hB]
  clear hw0
  have HBW := Lib.hid hB
  clear hB
  go_upto_region 5 with fail
  go_loopw [4] (fun i wr => ∃ k : Nat, k ≤ L.length ∧ i = .int .i64 (k : Int) ∧ Hid (∀ j (h : j < L.length), j < k → nodeC j L[j] = true) ∧ Hid (Below w0.heap.size w0 wr)) (fun i _ => L.length - (intOf i).toNat)
  case atStart => exact ⟨0, Nat.zero_le _, rfl, Lib.hid (fun _ _ h => by omega), Lib.hid (Below.refl _ _)⟩
  case round =>
    obtain ⟨k, hk, rfl, HD, HB⟩ := hrel
    have HBr : Hid (Below w.heap.size w wr) := Lib.hid (below_and HB0.out HB.out)
    have x1 := (X0.out.kept HB.out).cell (j := 0) rfl
    by_cases hlt : k < L.length
    rotate_left
    · obtain rfl : k = L.length := by omega
      have HNA := Lib.hid (nodesC_all (fun i hi => HD.out i hi hi))
      obtain ⟨m, hm⟩ : ∃ m : Nat, m = L.length - 1 := ⟨_, rfl⟩
      have HMM : Hid (m + 1 = L.length) := Lib.hid (by have := HLN.out; omega)
      have u1 : IntKind.i64.wrap ((L.length : Int) - 1) = (m : Int) := by rw [IntKind.wrap_i64]; have := HMM.out; omega
      have HRW := Lib.hid (HV.out.below HBr.out)
      have HSI : Hid (Calls Tryz.prog 24 #[.slice p L.length c, .int .i64 (m : Int)] wr fun r w' => r = .returned (.int .i64 (siz L m : Int)) ∧ wr = w') := Lib.hid (dsize_any (nodesC_ahd HNA.out) HLN.out.2 (m + 1) m (by omega) (by have := HMM.out; omega) _ wr HRW.out)
      have HSM : Hid (siz L (L.length - 1) = siz L m) := Lib.hid (by rw [hm])
      clear hm
      obtain ⟨z, hz⟩ : ∃ z, z = siz L m := ⟨_, rfl⟩
      rw [← hz] at HSI HSM
      have HZ := Lib.hid hz
      clear hz
      by_cases hs : z = L.length
      rotate_left
      · have t1 : ((z : Int) != (L.length : Int)) = true := by simp; omega
        have t2 : (z != L.length) = true := by simpa using hs
        have HV2 : Hid (S = 2) := Lib.hid (by rw [HS.out]; exact chk_siz (by rw [HSM.out]; exact hs))
        clear hs
        go_wp2_with (go_at_call 24; refine HSI.out.mono ?_; rintro r w3 ⟨rfl, rfl⟩)
        go_ret
        exact ⟨by rw [HV2.out]; rfl, HBr.out⟩
      have t1 : ((z : Int) != (L.length : Int)) = false := by simp; omega
      have t2 : (z != L.length) = false := by simpa using hs
      have HCR : Hid (S = if isOk (parseP (tl L m)) L then 0 else 2) := Lib.hid (by rw [HS.out]; have := chk_rest HLN.out HNA.out (by rw [HSM.out]; exact hs); rw [show L.length - 1 = m by have := HMM.out; omega] at this; exact this)
      have HTS : Hid ((tl L m).length ≤ 6400) := Lib.hid (by have := tl_siz HNA.out (m + 1) m (by omega) (by have := HMM.out; omega) (by rw [← HZ.out]; have := HLN.out; omega); rw [← HZ.out] at this; have := HLN.out; omega)
      have HTO : Hid (Calls Tryz.prog 26 #[.slice p L.length c, .int .i64 (m : Int), .int .i64 0] wr fun r w' => r = .returned (.string (bs (tl L m))) ∧ Below wr.heap.size wr w') := Lib.hid (by have := dtold_any (nodesC_fine HNA.out) (fun n hn => by obtain ⟨i, hi, rfl⟩ := List.getElem_of_mem hn; exact leafy_dn (nodesC_leafy HNA.out (List.getElem?_eq_getElem hi))) (m + 1) m (by omega) (by have := HMM.out; omega) (by have := HTS.out; omega) _ wr 0 (by omega) HRW.out; rw [par_zero] at this; exact this)
      have HPA : Hid (∀ wx, Calls Tryz.prog 25 #[.string (bs (tl L m))] wx fun r w' => DParS wx w' (parseP (tl L m)) r) := Lib.hid (fun wx => by have := dparse_any (bs (tl L m)) wx (by rw [bs_size]; have := HTS.out; unfold maxLen; omega); rw [bs_data] at this; exact this)
      obtain ⟨tx, htx⟩ : ∃ tx, tx = tl L m := ⟨_, rfl⟩
      rw [← htx] at HCR HTO HPA
      obtain ⟨P, hP⟩ : ∃ P, P = parseP tx := ⟨_, rfl⟩
      rw [← hP] at HCR HPA
      clear htx hP hs
      go_upto_region 14 with (go_at_call 24; refine HSI.out.mono ?_; rintro r w3 ⟨rfl, rfl⟩)
      clear HSI HSM HTS HNA HMM t1 t2
      cases P with
      | error q =>
        have HV2 : Hid (S = 2) := Lib.hid HCR.out
        go_upto_region 15 with (first
          | (go_at_call 26; refine HTO.out.mono ?_; rintro r w3 ⟨rfl, hb⟩; have HB3 := Lib.hid hb; clear hb)
          | (go_at_call 25; refine (HPA.out _).mono ?_; rintro r w4 ⟨⟨e, a, he, rfl⟩, hb⟩; have HB4 := Lib.hid (below_and HB3.out hb); have HE0 := Lib.hid he; clear hb he))
        obtain ⟨X, hX⟩ : ∃ X, X = w4.heap.size := ⟨_, rfl⟩
        have h2 := two_cells w4 (.slice none 0 0) (.int .i64 e) (.int .i64 a) 24 45
        obtain ⟨w5, hw5⟩ : ∃ w5, w5 = (w4.alloc (.cells #[.slice none 0 0] 24)).alloc (.cells #[.int .i64 e, .int .i64 a] 45) := ⟨_, rfl⟩
        rw [← hw5] at h2 ⊢
        have HB5 := Lib.hid (below_and HBr.out (below_and HB4.out h2.2.2))
        rw [← hX] at h2 ⊢
        have c0 := h2.1.cell (j := 0) rfl
        have c1 := h2.2.1.cell (j := 0) rfl
        have c2 := h2.2.1.cell (j := 1) rfl
        clear h2 hw5 hX
        have t3 : (e == 0) = false := by simpa using HE0.out
        go_wp2
        go_ret
        exact ⟨by rw [HV2.out]; rfl, HB5.out⟩
      | ok M =>
        have HV2 : Hid (S = if M = L then 0 else 2) := Lib.hid (by rw [HCR.out]; unfold isOk; by_cases g : M = L <;> simp [g])
        have HPB : Hid (∀ wx, Calls Tryz.prog 25 #[.string (bs tx)] wx fun r w' => ∃ q d, r = .returned (.tuple #[.agg #[.slice q M.length d], .agg #[.int .i64 0, .int .i64 0]]) ∧ Row w' (.slice q M.length d) 6 M.length (rwC ndC M) ∧ Below wx.heap.size wx w') := Lib.hid (fun wx => by
          refine (HPA.out wx).mono fun r w' h => ?_
          obtain ⟨⟨v, h1, h2⟩, h3⟩ := h
          obtain ⟨q, d, rfl, -, -, h4⟩ := row_own h2 (rwC_one ndC_one M)
          exact ⟨q, d, h1, h4, h3⟩)
        have HEQ : Hid (∀ q d w3, Row w3 (.slice q M.length d) 6 M.length (rwC ndC M) → Below wr.heap.size wr w3 → Calls Tryz.prog 27 #[.agg #[.slice q M.length d], .agg #[.slice p L.length c]] w3 fun r w' => r = .returned (.bool (decide (M = L))) ∧ Below w3.heap.size w3 w') := Lib.hid (fun q d w3 h1 hb => dsame_any _ _ M L w3 h1 (HRW.out.below hb))
        have HXR := Lib.hid (X0.out.kept HB.out)
        obtain ⟨ml, hml⟩ : ∃ ml, ml = M.length := ⟨_, rfl⟩
        rw [← hml] at HPB HEQ
        obtain ⟨dq, hdq⟩ : ∃ dq, dq = decide (M = L) := ⟨_, rfl⟩
        rw [← hdq] at HEQ
        have HV3 : Hid (S = if dq then 0 else 2) := Lib.hid (by rw [HV2.out, hdq]; by_cases g : M = L <;> simp [g])
        clear hml hdq HPA HCR HV2
        go_upto_region 15 with (first
          | (go_at_call 26; refine HTO.out.mono ?_; rintro r w3 ⟨rfl, hb⟩; have HB3 := Lib.hid hb; clear hb)
          | (go_at_call 25; refine (HPB.out _).mono ?_; rintro r w4 ⟨q, d, rfl, hrow, hb⟩; have HB4 := Lib.hid (below_and HB3.out hb); have HR4 := Lib.hid hrow; clear hb hrow))
        obtain ⟨X, hX⟩ : ∃ X, X = w4.heap.size := ⟨_, rfl⟩
        have h2 := two_cells w4 (.slice q ml d) (.int .i64 0) (.int .i64 0) 24 45
        obtain ⟨w5, hw5⟩ : ∃ w5, w5 = (w4.alloc (.cells #[.slice q ml d] 24)).alloc (.cells #[.int .i64 0, .int .i64 0] 45) := ⟨_, rfl⟩
        rw [← hw5] at h2 ⊢
        have HB5 := Lib.hid (below_and HB4.out h2.2.2)
        have HR5 := Lib.hid (HR4.out.below h2.2.2)
        rw [← hX] at h2 ⊢
        have c0 := h2.1.cell (j := 0) rfl
        have c1 := h2.2.1.cell (j := 0) rfl
        have c2 := h2.2.1.cell (j := 1) rfl
        have c3 := (HXR.out.kept HB5.out).cell (j := 0) rfl
        clear h2 hw5 hX x1
        cases dq
        ·
          have HV4 : Hid (S = 2) := Lib.hid HV3.out
          go_wp2_with (go_at_call 27; refine (HEQ.out _ _ _ HR5.out HB5.out).mono ?_; rintro r w6 ⟨rfl, hb⟩; have HB6 := Lib.hid (below_and HBr.out (below_and HB5.out hb)); clear hb)
          go_ret
          exact ⟨by rw [HV4.out]; rfl, HB6.out⟩
        ·
          have HV4 : Hid (S = 0) := Lib.hid HV3.out
          go_wp2_with (go_at_call 27; refine (HEQ.out _ _ _ HR5.out HB5.out).mono ?_; rintro r w6 ⟨rfl, hb⟩; have HB6 := Lib.hid (below_and HBr.out (below_and HB5.out hb)); clear hb)
          go_ret
          exact ⟨by rw [HV4.out]; rfl, HB6.out⟩
    have HKL := Lib.hid hlt
    obtain ⟨x, hx⟩ : ∃ x, x = L[k]'HKL.out := ⟨_, rfl⟩
    have HLC := Lib.hid (node_at (HV.out.below HBr.out) HKL.out)
    rw [← hx] at HLC
    have HX := Lib.hid hx
    have HCX := Lib.hid (hc x (by rw [hx]; exact List.getElem_mem _))
    clear hx
    obtain ⟨b, o, rfl, hcell⟩ := HLC.out
    have q0 := hcell 0 _ rfl
    rw [Nat.add_zero] at q0
    have q1 := hcell 1 _ rfl
    have q2 := hcell 2 _ rfl
    have q3 := hcell 3 _ rfl
    have q4 := hcell 4 _ rfl
    have q5 := hcell 5 _ rfl
    have i0 : (0 : Int) ≤ (k : Int) := by omega
    have i1 : (k : Int) < (L.length : Int) := by omega
    clear hcell HLC
    go_upto_region 8 with fail
    refine at_hide (F := fun w' => Blk w' wr.heap.size (ndC x) 52 ∧ Below wr.heap.size wr w') ⟨Blk.made wr (ndC x) _, below_alloc wr _⟩ ?_
    intro w2 hF
    obtain ⟨Y, hY⟩ : ∃ Y, Y = wr.heap.size := ⟨_, rfl⟩
    rw [← hY] at hF ⊢
    have HY2 := Lib.hid hF.1
    have HB2 : Hid (Below wr.heap.size wr w2) := Lib.hid (by rw [← hY]; exact hF.2)
    clear hF hY q0 q1 q2 q3 q4 q5 x1
    have HNC := Lib.hid (nodeC_eq k x)
    have HLE : Hid (∀ w, Calls Tryz.prog 23 #[ndV x] w fun r w' => r = .returned (.bool (leafyB x)) ∧ Below w.heap.size w w') := Lib.hid (fun w => dleafy_any x w HCX.out.1 HCX.out.2)
    have y0 := HY2.out.cell (j := 0) rfl
    have y1 := HY2.out.cell (j := 1) rfl
    have y2 := HY2.out.cell (j := 2) rfl
    have y3 := HY2.out.cell (j := 3) rfl
    have y4 := HY2.out.cell (j := 4) rfl
    have y5 := HY2.out.cell (j := 5) rfl
    obtain ⟨xk, nm, vl, xx, na, nb⟩ := x
    simp only at HNC HLE HX
    obtain ⟨lf, hlf⟩ : ∃ q, q = leafyB ⟨xk, nm, vl, xx, na, nb⟩ := ⟨_, rfl⟩
    rw [← hlf] at HNC HLE
    obtain ⟨NC, hNC⟩ : ∃ q, q = nodeC k ⟨xk, nm, vl, xx, na, nb⟩ := ⟨_, rfl⟩
    rw [← hNC] at HNC
    have HN1 := Lib.hid hNC
    clear hlf hNC
    obtain ⟨c1, ec1⟩ : ∃ q, decide (na < -1) = q := ⟨_, rfl⟩
    obtain ⟨c2, ec2⟩ : ∃ q, decide ((k : Int) ≤ na) = q := ⟨_, rfl⟩
    obtain ⟨c3, ec3⟩ : ∃ q, decide (nb < -1) = q := ⟨_, rfl⟩
    obtain ⟨c4, ec4⟩ : ∃ q, decide ((k : Int) ≤ nb) = q := ⟨_, rfl⟩
    obtain ⟨g7, eg7⟩ : ∃ q, decide (7 ≤ xk) = q := ⟨_, rfl⟩
    obtain ⟨ga, ega⟩ : ∃ q, decide (na < 0) = q := ⟨_, rfl⟩
    obtain ⟨g8, eg8⟩ : ∃ q, decide (8 ≤ xk) = q := ⟨_, rfl⟩
    obtain ⟨gb, egb⟩ : ∃ q, decide (nb < 0) = q := ⟨_, rfl⟩
    rw [ec1, ec2, ec3, ec4, eg7, ega, eg8, egb] at HNC
    cases lf
    ·
      have HV2 : Hid (S = 2) := Lib.hid (by rw [HS.out]; refine chk_node (nodesC_no HKL.out ?_); rw [← HX.out, ← HN1.out, HNC.out]; rfl)
      go_wp2_with (go_at_call 23; refine (HLE.out _).mono ?_; rintro r w3 ⟨rfl, hb3⟩; have HB3 : Hid (Below w.heap.size w w3) := Lib.hid (below_and (below_and HBr.out HB2.out) hb3); have HB3a : Hid (Below w0.heap.size w0 w3) := Lib.hid (below_and (below_and HB.out HB2.out) hb3); have HY3 := Lib.hid (HY2.out.kept hb3); have z4 := HY3.out.cell (j := 4) rfl; have z5 := HY3.out.cell (j := 5) rfl; clear hb3)
      go_ret
      exact ⟨by rw [HV2.out]; rfl, HB3.out⟩
    cases c1
    rotate_left
    ·
      have HV2 : Hid (S = 2) := Lib.hid (by rw [HS.out]; refine chk_node (nodesC_no HKL.out ?_); rw [← HX.out, ← HN1.out, HNC.out]; rfl)
      go_wp2_with (go_at_call 23; refine (HLE.out _).mono ?_; rintro r w3 ⟨rfl, hb3⟩; have HB3 : Hid (Below w.heap.size w w3) := Lib.hid (below_and (below_and HBr.out HB2.out) hb3); have HB3a : Hid (Below w0.heap.size w0 w3) := Lib.hid (below_and (below_and HB.out HB2.out) hb3); have HY3 := Lib.hid (HY2.out.kept hb3); have z4 := HY3.out.cell (j := 4) rfl; have z5 := HY3.out.cell (j := 5) rfl; clear hb3)
      go_ret
      exact ⟨by rw [HV2.out]; rfl, HB3.out⟩
    cases c2
    rotate_left
    ·
      have HV2 : Hid (S = 2) := Lib.hid (by rw [HS.out]; refine chk_node (nodesC_no HKL.out ?_); rw [← HX.out, ← HN1.out, HNC.out]; rfl)
      go_wp2_with (go_at_call 23; refine (HLE.out _).mono ?_; rintro r w3 ⟨rfl, hb3⟩; have HB3 : Hid (Below w.heap.size w w3) := Lib.hid (below_and (below_and HBr.out HB2.out) hb3); have HB3a : Hid (Below w0.heap.size w0 w3) := Lib.hid (below_and (below_and HB.out HB2.out) hb3); have HY3 := Lib.hid (HY2.out.kept hb3); have z4 := HY3.out.cell (j := 4) rfl; have z5 := HY3.out.cell (j := 5) rfl; clear hb3)
      go_ret
      exact ⟨by rw [HV2.out]; rfl, HB3.out⟩
    cases c3
    rotate_left
    ·
      have HV2 : Hid (S = 2) := Lib.hid (by rw [HS.out]; refine chk_node (nodesC_no HKL.out ?_); rw [← HX.out, ← HN1.out, HNC.out]; rfl)
      go_wp2_with (go_at_call 23; refine (HLE.out _).mono ?_; rintro r w3 ⟨rfl, hb3⟩; have HB3 : Hid (Below w.heap.size w w3) := Lib.hid (below_and (below_and HBr.out HB2.out) hb3); have HB3a : Hid (Below w0.heap.size w0 w3) := Lib.hid (below_and (below_and HB.out HB2.out) hb3); have HY3 := Lib.hid (HY2.out.kept hb3); have z4 := HY3.out.cell (j := 4) rfl; have z5 := HY3.out.cell (j := 5) rfl; clear hb3)
      go_ret
      exact ⟨by rw [HV2.out]; rfl, HB3.out⟩
    cases c4
    rotate_left
    ·
      have HV2 : Hid (S = 2) := Lib.hid (by rw [HS.out]; refine chk_node (nodesC_no HKL.out ?_); rw [← HX.out, ← HN1.out, HNC.out]; rfl)
      go_wp2_with (go_at_call 23; refine (HLE.out _).mono ?_; rintro r w3 ⟨rfl, hb3⟩; have HB3 : Hid (Below w.heap.size w w3) := Lib.hid (below_and (below_and HBr.out HB2.out) hb3); have HB3a : Hid (Below w0.heap.size w0 w3) := Lib.hid (below_and (below_and HB.out HB2.out) hb3); have HY3 := Lib.hid (HY2.out.kept hb3); have z4 := HY3.out.cell (j := 4) rfl; have z5 := HY3.out.cell (j := 5) rfl; clear hb3)
      go_ret
      exact ⟨by rw [HV2.out]; rfl, HB3.out⟩
    go_upto_region 10 with (go_at_call 23; refine (HLE.out _).mono ?_; rintro r w3 ⟨rfl, hb3⟩; have HB3 : Hid (Below w.heap.size w w3) := Lib.hid (below_and (below_and HBr.out HB2.out) hb3); have HB3a : Hid (Below w0.heap.size w0 w3) := Lib.hid (below_and (below_and HB.out HB2.out) hb3); have HY3 := Lib.hid (HY2.out.kept hb3); have z4 := HY3.out.cell (j := 4) rfl; have z5 := HY3.out.cell (j := 5) rfl; clear hb3)
    clear y0 y1 y2 y3 y4 y5 z4 z5
    have y0 := HY3.out.cell (j := 0) rfl
    have y1 := HY3.out.cell (j := 1) rfl
    have y2 := HY3.out.cell (j := 2) rfl
    have y3 := HY3.out.cell (j := 3) rfl
    have y4 := HY3.out.cell (j := 4) rfl
    have y5 := HY3.out.cell (j := 5) rfl
    cases g7
    ·
      cases g8
      ·
        have HGD : Hid (NC = true) := Lib.hid (by rw [HNC.out]; rfl)
        go_wp2
        go_roundw
        case rel => exact ⟨k + 1, hlt, by go_num, Lib.hid (fun j h hj => by
          by_cases ej : j = k
          · subst ej; rw [← HX.out, ← HN1.out]; exact HGD.out
          · exact HD.out j h (by omega)), HB3a⟩
        case measure => simp [intOf]; omega
      ·
        cases gb
        ·
          have HGD : Hid (NC = true) := Lib.hid (by rw [HNC.out]; rfl)
          go_wp2
          go_roundw
          case rel => exact ⟨k + 1, hlt, by go_num, Lib.hid (fun j h hj => by
            by_cases ej : j = k
            · subst ej; rw [← HX.out, ← HN1.out]; exact HGD.out
            · exact HD.out j h (by omega)), HB3a⟩
          case measure => simp [intOf]; omega
        ·
          have HV2 : Hid (S = 2) := Lib.hid (by rw [HS.out]; refine chk_node (nodesC_no HKL.out ?_); rw [← HX.out, ← HN1.out, HNC.out]; rfl)
          go_wp2
          go_ret
          exact ⟨by rw [HV2.out]; rfl, HB3.out⟩
    ·
      cases ga
      ·
        cases g8
        ·
          have HGD : Hid (NC = true) := Lib.hid (by rw [HNC.out]; rfl)
          go_wp2
          go_roundw
          case rel => exact ⟨k + 1, hlt, by go_num, Lib.hid (fun j h hj => by
            by_cases ej : j = k
            · subst ej; rw [← HX.out, ← HN1.out]; exact HGD.out
            · exact HD.out j h (by omega)), HB3a⟩
          case measure => simp [intOf]; omega
        ·
          cases gb
          ·
            have HGD : Hid (NC = true) := Lib.hid (by rw [HNC.out]; rfl)
            go_wp2
            go_roundw
            case rel => exact ⟨k + 1, hlt, by go_num, Lib.hid (fun j h hj => by
              by_cases ej : j = k
              · subst ej; rw [← HX.out, ← HN1.out]; exact HGD.out
              · exact HD.out j h (by omega)), HB3a⟩
            case measure => simp [intOf]; omega
          ·
            have HV2 : Hid (S = 2) := Lib.hid (by rw [HS.out]; refine chk_node (nodesC_no HKL.out ?_); rw [← HX.out, ← HN1.out, HNC.out]; rfl)
            go_wp2
            go_ret
            exact ⟨by rw [HV2.out]; rfl, HB3.out⟩
      ·
        have HV2 : Hid (S = 2) := Lib.hid (by rw [HS.out]; refine chk_node (nodesC_no HKL.out ?_); rw [← HX.out, ← HN1.out, HNC.out]; rfl)
        go_wp2
        go_ret
        exact ⟨by rw [HV2.out]; rfl, HB3.out⟩
end Go.Proofs.YtdnoceancoclmaaGreatDoor.Ru

namespace Go.Proofs.YtdnoceancoclmaaGreatDoor.Ru
open Go.RowKit Go.Proofs.YtdnoceancoclmaaGreatDoor

theorem chk_two (L : List Nd) : checkP L = 0 ∨ checkP L = 2 := by
  rw [← docChk_eq]
  unfold docChk
  split
  · exact .inl rfl
  · exact .inr rfl
theorem chk_parts {L : List Nd} (h : checkP L = 0) : (1 ≤ L.length ∧ L.length ≤ 64) ∧ nodesC L = true ∧ siz L (L.length - 1) = L.length := by
  rw [← docChk_eq] at h
  refine ⟨?_, ?_, ?_⟩
  · apply Classical.byContradiction; intro g; rw [chk_len g] at h; cases h
  · cases g : nodesC L
    · rw [chk_node g] at h; cases h
    · rfl
  · apply Classical.byContradiction; intro g; rw [chk_siz g] at h; cases h
theorem told_same {L : List Nd} (h : checkP L = 0) : toldA L = tl L (L.length - 1) := by
  obtain ⟨hf, h1, h2, h3⟩ := shaped_fine (check_yes h)
  exact toldA_tl hf h2
theorem dtold_ok {L : List Nd} (h : checkP L = 0) {v : Value} {w : World} (hv : Row w v 6 L.length (rwC ndC L)) {m : Nat} (hm : m + 1 = L.length) : Calls Tryz.prog 26 #[v, .int .i64 (m : Int), .int .i64 0] w fun r w' => r = .returned (.string (bs (toldA L))) ∧ Below w.heap.size w w' := by
  obtain ⟨h1, h2, h3⟩ := chk_parts h
  obtain rfl : m = L.length - 1 := by omega
  have hl := tl_siz h2 (L.length - 1 + 1) (L.length - 1) (by omega) (by omega) (by omega)
  rw [h3] at hl
  have := dtold_any (nodesC_fine h2) (fun n hn => by obtain ⟨i, hi, rfl⟩ := List.getElem_of_mem hn; exact leafy_dn (nodesC_leafy h2 (List.getElem?_eq_getElem hi))) (L.length - 1 + 1) (L.length - 1) (by omega) (by omega) (by omega) v w 0 (by omega) hv
  rw [par_zero] at this
  rw [told_same h]
  exact this
set_option maxRecDepth 100000 in
set_option maxHeartbeats 1000000 in
theorem dtext_any (v : Value) (L : List Nd) (w : World) (hv : Row w v 6 L.length (rwC ndC L)) (hc : ∀ n ∈ L, n.nm.length ≤ 140737488351232 ∧ n.vl.length ≤ 140737488351232) : Calls Tryz.prog 12 #[.agg #[v]] w fun r w' => TextS w w' L r := by
  have HV := Lib.hid hv
  obtain ⟨p, c, rfl, hcp, hm, -⟩ := hv
  obtain ⟨w0, hw0⟩ : ∃ w0, w0 = w.alloc (.cells #[.slice p L.length c] 24) := ⟨_, rfl⟩
  obtain ⟨B, hB⟩ : ∃ B, B = w.heap.size := ⟨_, rfl⟩
  have HB0 : Hid (Below w.heap.size w w0) := Lib.hid (by rw [hw0]; exact below_alloc w _)
  have X0 : Hid (Blk w0 B [.slice p L.length c] 24) := Lib.hid (by rw [hw0, hB]; exact Blk.made w [.slice p L.length c] _)
  have x0 := X0.out.cell (j := 0) rfl
  have hml : maxLen ≤ 9223372036854775807 := by decide
  have hn63 : (L.length : Int) ≤ 9223372036854775807 := by omega
  have HCK : Hid (Calls Tryz.prog 8 #[.agg #[.slice p L.length c]] w0 fun r w' => r = .returned (.int .i64 (checkP L)) ∧ Below w0.heap.size w0 w') := Lib.hid (by have := dcheck_any _ L w0 (HV.out.below HB0.out) hc; rw [docChk_eq] at this; exact this)
  by_cases hck : checkP L = 0
  ·
    obtain ⟨m, hm2⟩ : ∃ m, m + 1 = L.length := ⟨L.length - 1, by have := (chk_parts hck).1; omega⟩
    have u1 : IntKind.i64.wrap ((L.length : Int) - 1) = (m : Int) := by rw [IntKind.wrap_i64]; omega
    have HTO : Hid (∀ w2, Below w.heap.size w w2 → Calls Tryz.prog 26 #[.slice p L.length c, .int .i64 (m : Int), .int .i64 0] w2 fun r w' => r = .returned (.string (bs (toldA L))) ∧ Below w2.heap.size w2 w') := Lib.hid (fun w2 hb => dtold_ok hck (HV.out.below hb) hm2)
    have HK0 := Lib.hid hck
    rw [hck] at HCK
    obtain ⟨S, hS⟩ : ∃ S, S = bs (toldA L) := ⟨_, rfl⟩
    have HSS := Lib.hid hS
    rw [← hS] at HTO
    clear hck hm2 hS hcp hm hml hc
    go_enter Tryz.func12, Tryz.ntmps12
    go_upto_region 1 with fail
    rw [← hw0, ← hB]
    clear hw0 hB
    go_upto_region 3 with (go_at_call 8; refine HCK.out.mono ?_; rintro r w2 ⟨rfl, hb⟩; have HB2 := Lib.hid (below_and HB0.out hb); have b2 := (X0.out.kept hb).cell (j := 0) rfl; clear hb x0)
    go_wp2_with (go_at_call 26; refine (HTO.out _ HB2.out).mono ?_; rintro r w3 ⟨rfl, hb⟩; have HB3 := Lib.hid (below_and HB2.out hb); clear hb)
    go_ret2
    refine ⟨?_, HB3.out⟩
    rw [if_pos HK0.out, ← HSS.out]
    rfl
  ·
    have HK0 := Lib.hid hck
    have hc2 : checkP L = 2 := (chk_two L).resolve_left hck
    have HK2 := Lib.hid hc2
    rw [hc2] at HCK
    clear hck hc2 hcp hm hml hc
    go_enter Tryz.func12, Tryz.ntmps12
    go_upto_region 1 with fail
    rw [← hw0, ← hB]
    clear hw0 hB
    go_wp2_with (go_at_call 8; refine HCK.out.mono ?_; rintro r w2 ⟨rfl, hb⟩; have HB2 := Lib.hid (below_and HB0.out hb); have b2 := (X0.out.kept hb).cell (j := 0) rfl; clear hb x0)
    go_ret2
    refine ⟨?_, HB2.out⟩
    rw [if_neg HK0.out, HK2.out]
    rfl
end Go.Proofs.YtdnoceancoclmaaGreatDoor.Ru

namespace Go.Proofs.YtdnoceancoclmaaGreatDoor.Ru
open Go.RowKit Go.Proofs.YtdnoceancoclmaaGreatDoor

/-- is a text no greater than another one? -/
def leB (a b : List UInt8) : Bool := Op.bytesLess a b || a == b
def attrOk (A : List At) (i : Nat) (x : At) : Bool := isNameB x.nm && wordB x.vl && (i == 0 || !leB x.nm ((A[i - 1]?.map At.nm).getD []))
def attrsB (A : List At) : Bool := decide (A.length ≤ 16) && (List.range A.length).all (fun i => match A[i]? with | some x => attrOk A i x | none => true)
def attrsR (A : List At) : Int := if attrsB A = true then 0 else 2
theorem attr_long {A : List At} (h : ¬ A.length ≤ 16) : attrsR A = 2 := by unfold attrsR attrsB; rw [decide_eq_false h]; rfl
theorem attr_bad {A : List At} (h : ∃ i, ∃ h : i < A.length, attrOk A i A[i] = false) : attrsR A = 2 := by
  obtain ⟨i, hi, h⟩ := h
  unfold attrsR attrsB
  have : (List.range A.length).all (fun i => match A[i]? with | some x => attrOk A i x | none => true) = false := by
    rw [List.all_eq_false]
    refine ⟨i, List.mem_range.2 hi, ?_⟩
    rw [List.getElem?_eq_getElem hi]
    simp [h]
  rw [this]
  simp
theorem attr_good {A : List At} (hl : A.length ≤ 16) (h : ∀ i (h : i < A.length), attrOk A i A[i] = true) : attrsR A = 0 := by
  unfold attrsR attrsB
  rw [if_pos]
  simp only [Bool.and_eq_true, decide_eq_true_eq, List.all_eq_true, List.mem_range]
  refine ⟨hl, fun i hi => ?_⟩
  rw [List.getElem?_eq_getElem hi]
  exact h i hi
theorem bs_less (a b : List UInt8) : Op.bytesLess (bs a).toList (bs b).toList = Op.bytesLess a b := by
  rw [Lib.toList_data, Lib.toList_data]
  simp [bs]

set_option maxRecDepth 100000 in
set_option maxHeartbeats 2000000 in
theorem attrs_any (v : Value) (A : List At) (w : World) (hv : Row w v 2 A.length (rwC atC A)) :
    Calls Tryz.prog 9 #[v] w fun r w' => r = .returned (.int .i64 (attrsR A)) ∧ Below w.heap.size w w' := by
  obtain ⟨p, c, rfl, hc, hm, -⟩ := id hv
  have HV := Lib.hid hv
  have hml : maxLen ≤ 9223372036854775807 := by decide
  have hn63 : (A.length : Int) ≤ 9223372036854775807 := by omega
  obtain ⟨n, hn⟩ : ∃ n, n = A.length := ⟨_, rfl⟩
  have HLN := Lib.hid hn
  rw [← hn] at hn63 ⊢
  clear hv hc hm hml hn
  by_cases hlong : 16 < n
  · have HR : Hid (attrsR A = 2) := Lib.hid (attr_long (by have := HLN.out; omega))
    have t1 : decide (16 < n) = true := decide_eq_true hlong
    go_enter Tryz.func9, Tryz.ntmps9
    go_wp2
    go_ret
    exact ⟨ret_int HR.out.symm, Below.refl _ _⟩
  have hl16 : n ≤ 16 := by omega
  have HL : Hid (n ≤ 16) := Lib.hid hl16
  clear hlong
  go_enter Tryz.func9, Tryz.ntmps9
  go_wp2
  clear hl16
  go_loopw [10] (fun i wr => ∃ k : Nat, k ≤ n ∧ i = .int .i64 (k : Int) ∧ Hid (∀ j (h : j < A.length), j < k → attrOk A j A[j] = true) ∧ Hid (Below w.heap.size w wr)) (fun i _ => n - (intOf i).toNat)
  case atStart => exact ⟨0, Nat.zero_le _, rfl, Lib.hid (fun j _ h => by omega), Lib.hid (Below.refl _ _)⟩
  case round =>
    obtain ⟨k, hk, rfl, HF, HB⟩ := hrel
    by_cases hlt : k < n
    · have HKN : Hid (k < A.length) := Lib.hid (by have := HLN.out; omega)
      obtain ⟨x, hx⟩ : ∃ x, x = A[k]'HKN.out := ⟨_, rfl⟩
      have HLC : Hid (∃ b o, p = some ⟨b, o, none⟩ ∧ wr.cell? ⟨b, o + k * 2, none⟩ = some (.string (bs x.nm)) ∧ wr.cell? ⟨b, o + k * 2 + 1, none⟩ = some (.string (bs x.vl))) := Lib.hid (by
        rw [hx]
        exact attr_at (HV.out.below HB.out) HKN.out)
      have HX := Lib.hid hx
      clear hx
      obtain ⟨b, o, rfl, q0, q1⟩ := HLC.out
      clear HLC
      go_upto_region 6 with fail
      obtain ⟨Y, hY⟩ : ∃ Y, Y = wr.heap.size := ⟨_, rfl⟩
      refine at_hide (F := fun w' => Blk w' Y (atC x) 40 ∧ Below wr.heap.size wr w') ⟨by rw [hY]; exact Blk.made wr (atC x) _, below_alloc _ _⟩ ?_
      rw [← hY]
      intro w3 hF
      have hb3 : Below wr.heap.size wr w3 := by have := hF.2; rw [hY] at this; exact this
      have HB3 : Hid (Below w.heap.size w w3) := Lib.hid (below_and HB.out hb3)
      have HY3 := Lib.hid hF.1
      clear hF hY q0 q1 hb3
      have p0 : ∀ s : Past w3, s.val.cell? ⟨Y, 0, none⟩ = some (.string (bs x.nm)) := Past.blk HY3.out (j := 0) rfl
      have p1 : ∀ s : Past w3, s.val.cell? ⟨Y, 1, none⟩ = some (.string (bs x.vl)) := Past.blk HY3.out (j := 1) rfl
      have HNM : Hid (∀ s : Past w3, Calls Tryz.prog 28 #[.string (bs x.nm)] s.val fun r w' => r = .returned (.bool (isNameB x.nm)) ∧ Below s.val.heap.size s.val w') := Lib.hid (fun s => by have := isName_any (bs x.nm) s.val; rw [show (bs x.nm).data.toList = x.nm from by simp [bs]] at this; exact this)
      have HWD : Hid (∀ s : Past w3, Calls Tryz.prog 29 #[.string (bs x.vl)] s.val fun r w' => r = .returned (.bool (wordB x.vl)) ∧ Below s.val.heap.size s.val w') := Lib.hid (fun s => by have := isWord_any (bs x.vl) s.val; rw [show (bs x.vl).data.toList = x.vl from by simp [bs]] at this; exact this)
      cases hnm : isNameB x.nm with
      | false =>
        rw [hnm] at HNM
        have HN : Hid (∃ i, ∃ h : i < A.length, attrOk A i A[i] = false) := Lib.hid ⟨k, HKN.out, by rw [← HX.out]; unfold attrOk; rw [hnm]; rfl⟩
        clear hnm
        refine wp_region_past (by kernel_rfl) (by kernel_rfl) ?_
        repeat (go_big_quiet_step ((first | (go_at_call 28; exact past_call (HNM.out _)) | (go_at_call 29; exact past_call (HWD.out _)))))
        refine wpQuiet_nil ?_
        intro _ hw'
        obtain ⟨s9, hw''⟩ := hw'
        subst hw''
        have HB9 : Hid (Below w.heap.size w s9.val) := Lib.hid (below_and HB3.out s9.h)
        go_wp2
        go_ret
        exact ⟨ret_int (attr_bad HN.out).symm, HB9.out⟩
      | true =>
        rw [hnm] at HNM
        have HNT := Lib.hid hnm
        clear hnm
        cases hwd : wordB x.vl with
        | false =>
          rw [hwd] at HWD
          have HN : Hid (∃ i, ∃ h : i < A.length, attrOk A i A[i] = false) := Lib.hid ⟨k, HKN.out, by rw [← HX.out]; unfold attrOk; rw [hwd, HNT.out]; rfl⟩
          clear hwd
          refine wp_region_past (by kernel_rfl) (by kernel_rfl) ?_
          repeat (go_big_quiet_step ((first | (go_at_call 28; exact past_call (HNM.out _)) | (go_at_call 29; exact past_call (HWD.out _)))))
          refine wpQuiet_nil ?_
          intro _ hw'
          obtain ⟨s9, hw''⟩ := hw'
          subst hw''
          have HB9 : Hid (Below w.heap.size w s9.val) := Lib.hid (below_and HB3.out s9.h)
          go_wp2
          go_ret
          exact ⟨ret_int (attr_bad HN.out).symm, HB9.out⟩
        | true =>
          rw [hwd] at HWD
          have HWT := Lib.hid hwd
          clear hwd
          by_cases hk0 : k = 0
          · subst hk0
            have HF2 : Hid (∀ j (h : j < A.length), j < 0 + 1 → attrOk A j A[j] = true) := Lib.hid (fun j h hj => by
              obtain rfl : j = 0 := by omega
              rw [← HX.out]
              unfold attrOk
              rw [HNT.out, HWT.out]
              rfl)
            refine wp_region_past (by kernel_rfl) (by kernel_rfl) ?_
            repeat (go_big_quiet_step ((first | (go_at_call 28; exact past_call (HNM.out _)) | (go_at_call 29; exact past_call (HWD.out _)))))
            refine wpQuiet_nil ?_
            intro _ hw'
            obtain ⟨s9, hw''⟩ := hw'
            subst hw''
            have HB9 : Hid (Below w.heap.size w s9.val) := Lib.hid (below_and HB3.out s9.h)
            go_wp2
            go_roundw
            case rel => exact ⟨0 + 1, by omega, by go_num, HF2, HB9⟩
            case measure => simp [intOf]; omega
          obtain ⟨i, hi⟩ : ∃ i, k = i + 1 := ⟨k - 1, by omega⟩
          subst hi
          have HIN : Hid (i < A.length) := Lib.hid (by have := HKN.out; omega)
          obtain ⟨y, hy⟩ : ∃ y, y = A[i]'HIN.out := ⟨_, rfl⟩
          have HQ : Hid (w3.cell? ⟨b, o + i * 2, none⟩ = some (.string (bs y.nm))) := Lib.hid (by
            obtain ⟨b', o', e, h1, -⟩ := attr_at (HV.out.below HB3.out) HIN.out
            simp only [Option.some.injEq, Addr.mk.injEq, and_true] at e
            obtain ⟨rfl, rfl⟩ := e
            rw [hy]; exact h1)
          have pq : ∀ s : Past w3, s.val.cell? ⟨b, o + i * 2, none⟩ = some (.string (bs y.nm)) := fun s => cell_kept HQ.out s.h
          have HOK : Hid (attrOk A (i + 1) x = !(Op.bytesLess x.nm y.nm || x.nm == y.nm)) := Lib.hid (by
            unfold attrOk leB
            rw [HNT.out, HWT.out, Nat.add_sub_cancel, List.getElem?_eq_getElem HIN.out, ← hy]
            simp)
          have u1 : IntKind.i64.wrap ((i : Int) + 1 - 1) = (i : Int) := by rw [IntKind.wrap_i64]; have := HKN.out; have := HLN.out; have := HL.out; omega
          have i1 : (i : Int) < (n : Int) := by omega
          have i2 : (0 : Int) ≤ (i : Int) := by omega
          have t0 : decide ((0 : Int) < (i : Int) + 1) = true := by first | (simp; done) | (simp; omega)
          have hbl := bs_less x.nm y.nm
          have hbe := bs_beq x.nm y.nm
          obtain ⟨q1, hq1⟩ : ∃ q1, q1 = Op.bytesLess x.nm y.nm := ⟨_, rfl⟩
          obtain ⟨q2, hq2⟩ : ∃ q2, q2 = (x.nm == y.nm) := ⟨_, rfl⟩
          rw [← hq1] at hbl HOK
          rw [← hq2] at hbe HOK
          clear hq1 hq2 hy hk0
          by_cases hle : (q1 || q2) = true
          · have HN : Hid (∃ i, ∃ h : i < A.length, attrOk A i A[i] = false) := Lib.hid ⟨i + 1, HKN.out, by rw [← HX.out, HOK.out, hle]; rfl⟩
            cases q1 <;> cases q2 <;> (first | (exfalso; revert hle; decide) | skip)
            all_goals
              clear hle
              refine wp_region_past (by kernel_rfl) (by kernel_rfl) ?_
              repeat (go_big_quiet_step ((first | (go_at_call 28; exact past_call (HNM.out _)) | (go_at_call 29; exact past_call (HWD.out _)))))
              refine wpQuiet_nil ?_
              intro _ hw'
              obtain ⟨s9, hw''⟩ := hw'
              subst hw''
              have HB9 : Hid (Below w.heap.size w s9.val) := Lib.hid (below_and HB3.out s9.h)
              go_wp2
              go_ret
              exact ⟨ret_int (attr_bad HN.out).symm, HB9.out⟩
          · have HF2 : Hid (∀ j (h : j < A.length), j < i + 1 + 1 → attrOk A j A[j] = true) := Lib.hid (fun j h hj => by
              by_cases e : j = i + 1
              · subst e
                rw [← HX.out, HOK.out]
                simpa using hle
              · exact HF.out j h (by omega))
            have hq1 : q1 = false := by cases q1 <;> simp_all
            have hq2 : q2 = false := by cases q2 <;> simp_all
            subst hq1
            subst hq2
            clear hle
            refine wp_region_past (by kernel_rfl) (by kernel_rfl) ?_
            repeat (go_big_quiet_step ((first | (go_at_call 28; exact past_call (HNM.out _)) | (go_at_call 29; exact past_call (HWD.out _)))))
            refine wpQuiet_nil ?_
            intro _ hw'
            obtain ⟨s9, hw''⟩ := hw'
            subst hw''
            have HB9 : Hid (Below w.heap.size w s9.val) := Lib.hid (below_and HB3.out s9.h)
            go_wp2
            go_roundw
            case rel => exact ⟨(i + 1) + 1, by omega, by go_num, HF2, HB9⟩
            case measure => simp [intOf]; omega
    · obtain rfl : k = n := by omega
      have HR : Hid (attrsR A = 0) := Lib.hid (attr_good (by have := HLN.out; have := HL.out; omega) (fun j h => HF.out j h (by have := HLN.out; omega)))
      go_wp2
      go_ret
      exact ⟨ret_int HR.out.symm, HB.out⟩

/-- what Holds answers -/
def holdsR (L : List Nd) (A : List At) : Bool × Int :=
  if checkP L = 0 then (if attrsR A = 0 then (hol L A (L.length - 1), 0) else (false, attrsR A)) else (false, checkP L)
theorem check_yes0 {L : List Nd} (h : checkP L = 0) : shapedB L = true := by
  unfold checkP at h
  split at h
  · assumption
  · cases h
set_option maxRecDepth 100000 in
set_option maxHeartbeats 2000000 in
theorem holds_any (v u : Value) (L : List Nd) (A : List At) (w : World) (hv : Row w v 6 L.length (rwC ndC L)) (hu : Row w u 2 A.length (rwC atC A)) (hc : ∀ n ∈ L, Fit1 n) (ha : ∀ a ∈ A, a.vl.length ≤ 1000000000000000000) (hE : ErrV w) (hT : Tab w) :
    Calls Tryz.prog 13 #[.agg #[v], u] w fun r w' => r = .returned (.tuple #[.bool (holdsR L A).1, .int .i64 (holdsR L A).2]) ∧ Below w.heap.size w w' := by
  obtain ⟨p, c, rfl, hcc, hm, -⟩ := id hv
  have HV := Lib.hid hv
  have HU := Lib.hid hu
  have hml : maxLen ≤ 9223372036854775807 := by decide
  obtain ⟨n, hn⟩ : ∃ n, n = L.length := ⟨_, rfl⟩
  have HN := Lib.hid hn
  obtain ⟨R, hR⟩ : ∃ R, R = w.heap.size := ⟨_, rfl⟩
  have HCK : Hid (∀ w1, Below w.heap.size w w1 → Calls Tryz.prog 7 #[.agg #[.slice p n c]] w1 fun r w' => r = .returned (.int .i64 (checkP L)) ∧ Below w1.heap.size w1 w') := Lib.hid (fun w1 hb => by
    rw [hn]
    exact check_any _ L w1 (hv.below hb) hc (hE.below hb) (hT.below hb))
  have HAT : Hid (∀ w1, Below w.heap.size w w1 → Calls Tryz.prog 9 #[u] w1 fun r w' => r = .returned (.int .i64 (attrsR A)) ∧ Below w1.heap.size w1 w') := Lib.hid (fun w1 hb => attrs_any u A w1 (hu.below hb))
  have HOLC : Hid (checkP L = 0 → ∀ w1, Below w.heap.size w w1 → Calls Tryz.prog 32 #[.slice p n c, .int .i64 ((n - 1 : Nat) : Int), u] w1 fun r w' => r = .returned (.bool (hol L A (L.length - 1))) ∧ Below w1.heap.size w1 w') := Lib.hid (fun hck w1 hb => by
    obtain ⟨hf, h1, h2, h3⟩ := shaped_fine (check_yes0 hck)
    rw [hn]
    exact hold_any hf ha L.length (L.length - 1) (by omega) (by omega) _ _ w1 (hv.below hb) (hu.below hb) (hE.below hb))
  have HPOS : Hid (checkP L = 0 → 1 ≤ n ∧ n ≤ 64) := Lib.hid (fun hck => by
    obtain ⟨hf, h1, h2, h3⟩ := shaped_fine (check_yes0 hck)
    omega)
  have hn63 : (n : Int) ≤ 9223372036854775807 := by omega
  rw [← hn] at HV hcc ⊢
  have hbx : ∀ w1, w1 = w.alloc (.cells #[.slice p n c] 24) → Blk w1 w.heap.size [.slice p n c] 24 ∧ Below w.heap.size w w1 := fun w1 e => by subst e; exact ⟨Blk.made w [_] _, below_alloc _ _⟩
  obtain ⟨w1, hw1⟩ : ∃ w1, w1 = w.alloc (.cells #[.slice p n c] 24) := ⟨_, rfl⟩
  have h1 := hbx w1 hw1
  have HB1 := Lib.hid h1.2
  rw [← hR] at h1
  have HX1 := Lib.hid h1.1
  obtain ⟨ck, hck⟩ : ∃ ck, ck = checkP L := ⟨_, rfl⟩
  obtain ⟨ar, har⟩ : ∃ ar, ar = attrsR A := ⟨_, rfl⟩
  obtain ⟨ho, hho⟩ : ∃ ho, ho = hol L A (L.length - 1) := ⟨_, rfl⟩
  have HRR : Hid (holdsR L A = if ck = 0 then (if ar = 0 then (ho, 0) else (false, ar)) else (false, ck)) := Lib.hid (by rw [hck, har, hho]; rfl)
  rw [← hck] at HCK HOLC HPOS
  rw [← har] at HAT
  rw [← hho] at HOLC
  clear hv hu hc ha hE hT hcc hm hml hn hbx h1 hck har hho
  have b0 := HX1.out.cell (j := 0) rfl
  by_cases hc0 : ck = 0
  · subst hc0
    have HLL := Lib.hid (HOLC.out rfl)
    have HP2 := Lib.hid (HPOS.out rfl)
    obtain ⟨m, hm⟩ : ∃ m, m = n - 1 := ⟨_, rfl⟩
    have u1 : IntKind.i64.wrap ((n : Int) - 1) = (m : Int) := by rw [IntKind.wrap_i64]; have := HP2.out; omega
    rw [← hm] at HLL
    clear hm
    by_cases ha0 : ar = 0
    · subst ha0
      have HR1 : Hid ((holdsR L A).1 = ho ∧ (holdsR L A).2 = 0) := Lib.hid (by rw [HRR.out]; exact ⟨rfl, rfl⟩)
      rw [HR1.out.1, HR1.out.2]
      go_enter Tryz.func13, Tryz.ntmps13
      go_upto_region 1 with fail
      rw [← hw1, ← hR]
      clear hw1 hR
      go_upto_region 4 with (go_at_call 7; refine (HCK.out _ HB1.out).mono ?_; rintro r w2 ⟨rfl, hb⟩; have HB2 := Lib.hid (below_and HB1.out hb); have HX2 := Lib.hid (HX1.out.kept hb); clear hb b0)
      go_upto_region 7 with (go_at_call 9; refine (HAT.out _ HB2.out).mono ?_; rintro r w3 ⟨rfl, hb⟩; have HB3 := Lib.hid (below_and HB2.out hb); have HX3 := Lib.hid (HX2.out.kept hb); clear hb)
      have b0 := HX3.out.cell (j := 0) rfl
      go_wp2_with (go_at_call 32; refine (HLL.out _ HB3.out).mono ?_; rintro r w4 ⟨rfl, hb⟩; have HB4 := Lib.hid (below_and HB3.out hb); clear hb)
      go_ret2
      exact ⟨rfl, HB4.out⟩
    · have HR1 : Hid ((holdsR L A).1 = false ∧ (holdsR L A).2 = ar) := Lib.hid (by rw [HRR.out, if_pos rfl, if_neg ha0]; exact ⟨rfl, rfl⟩)
      rw [HR1.out.1, HR1.out.2]
      have t1 : (ar != 0) = true := by simpa using ha0
      clear ha0
      go_enter Tryz.func13, Tryz.ntmps13
      go_upto_region 1 with fail
      rw [← hw1, ← hR]
      clear hw1 hR
      go_upto_region 4 with (go_at_call 7; refine (HCK.out _ HB1.out).mono ?_; rintro r w2 ⟨rfl, hb⟩; have HB2 := Lib.hid (below_and HB1.out hb); have HX2 := Lib.hid (HX1.out.kept hb); clear hb b0)
      go_wp2_with (go_at_call 9; refine (HAT.out _ HB2.out).mono ?_; rintro r w3 ⟨rfl, hb⟩; have HB3 := Lib.hid (below_and HB2.out hb); clear hb)
      go_ret2
      exact ⟨rfl, HB3.out⟩
  · have HR1 : Hid ((holdsR L A).1 = false ∧ (holdsR L A).2 = ck) := Lib.hid (by rw [HRR.out, if_neg hc0]; exact ⟨rfl, rfl⟩)
    rw [HR1.out.1, HR1.out.2]
    have t1 : (ck != 0) = true := by simpa using hc0
    clear hc0
    go_enter Tryz.func13, Tryz.ntmps13
    go_upto_region 1 with fail
    rw [← hw1, ← hR]
    clear hw1 hR
    go_wp2_with (go_at_call 7; refine (HCK.out _ HB1.out).mono ?_; rintro r w2 ⟨rfl, hb⟩; have HB2 := Lib.hid (below_and HB1.out hb); clear hb b0)
    go_ret2
    exact ⟨rfl, HB2.out⟩
end Go.Proofs.YtdnoceancoclmaaGreatDoor.Ru
