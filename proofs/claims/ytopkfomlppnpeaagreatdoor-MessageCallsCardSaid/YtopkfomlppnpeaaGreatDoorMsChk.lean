/- MsChk. -/
import Derived.Test.YtopkfomlppnpeaaGreatDoorMEl
import Derived.Test.YtopkfomlppnpeaaGreatDoorMRi
namespace Go.Proofs.YtopkfomlppnpeaaGreatDoor.Ms
open Go.RowKit Go.Proofs.YtopkfomlppnpeaaGreatDoor

set_option maxRecDepth 100000 in
set_option maxHeartbeats 4000000 in
theorem checkP_any (p : Po) (vk vt vs : Value) (w : World) (h : PoW w p vk vt vs) (hE : ErrV w) : Calls Tryz.prog 11 #[poV p vk vt vs] w fun e w' => e = .returned (.int .i64 (if checkP p then 0 else 2)) ∧ Below w.heap.size w w' := by
  obtain ⟨r, hr⟩ : ∃ r : Int, r = if checkP p then 0 else 2 := ⟨_, rfl⟩
  rw [← hr]
  have HR := Lib.hid hr
  clear hr
  obtain ⟨pk, ck, rfl, -⟩ := row_el h.k
  obtain ⟨pt, ct, rfl, -⟩ := row_el h.t
  obtain ⟨ps, cs, rfl, -⟩ := row_el h.s
  obtain ⟨nk, hnk⟩ : ∃ nk, nk = p.K.length := ⟨_, rfl⟩
  obtain ⟨rk, hrk⟩ : ∃ rk, rk = risesB envM envL p.K := ⟨_, rfl⟩
  have Ck : Hid (∀ w', Below w.heap.size w w' → Calls Tryz.prog 54 #[.slice pk nk ck, .func (.func 55) #[] #[], .func (.func 56) #[] #[]] w' fun e w2 => e = .returned (.bool rk) ∧ Below w'.heap.size w' w2) := Lib.hid (fun w' hb => by rw [hrk, hnk]; exact envR_any _ _ _ (h.k.below hb) h.tk (hE.below hb))
  obtain ⟨nt, hnt⟩ : ∃ nt, nt = p.T.length := ⟨_, rfl⟩
  obtain ⟨rt, hrt⟩ : ∃ rt, rt = risesB staM ltT p.T := ⟨_, rfl⟩
  have Ct : Hid (∀ w', Below w.heap.size w w' → Calls Tryz.prog 59 #[.slice pt nt ct, .func (.func 60) #[] #[], .func (.func 62) #[] #[]] w' fun e w2 => e = .returned (.bool rt) ∧ Below w'.heap.size w' w2) := Lib.hid (fun w' hb => by rw [hrt, hnt]; exact staR_any _ _ _ (h.t.below hb) h.tt (hE.below hb))
  obtain ⟨ns, hns⟩ : ∃ ns, ns = p.P.length := ⟨_, rfl⟩
  obtain ⟨rs, hrs⟩ : ∃ rs, rs = risesB stoM ltT p.P := ⟨_, rfl⟩
  have Cs : Hid (∀ w', Below w.heap.size w w' → Calls Tryz.prog 64 #[.slice ps ns cs, .func (.func 65) #[] #[], .func (.func 66) #[] #[]] w' fun e w2 => e = .returned (.bool rs) ∧ Below w'.heap.size w' w2) := Lib.hid (fun w' hb => by rw [hrs, hns]; exact stoR_any _ _ _ (h.s.below hb) h.ts)
  rw [← hnk, ← hnt, ← hns]
  obtain ⟨X, hX⟩ : ∃ X, X = w.heap.size := ⟨_, rfl⟩
  obtain ⟨w1, hw1⟩ : ∃ w1, w1 = w.alloc (.cells #[.int .u64 p.ep, .int .u64 p.sq, .int .u64 p.bo, .int .i64 p.at_, .int .i64 p.le, .slice pk nk ck, .slice pt nt ct, .slice ps ns cs, .int .u64 p.se] 32) := ⟨_, rfl⟩
  have HX1 : Hid (Blk w1 X [.int .u64 p.ep, .int .u64 p.sq, .int .u64 p.bo, .int .i64 p.at_, .int .i64 p.le, .slice pk nk ck, .slice pt nt ct, .slice ps ns cs, .int .u64 p.se] 32) := Lib.hid (by rw [hw1, hX]; exact Blk.made w [.int .u64 p.ep, .int .u64 p.sq, .int .u64 p.bo, .int .i64 p.at_, .int .i64 p.le, .slice pk nk ck, .slice pt nt ct, .slice ps ns cs, .int .u64 p.se] _)
  have HB1 : Hid (Below w.heap.size w w1) := Lib.hid (by rw [hw1]; exact below_alloc _ _)
  have Erk := Lib.hid hrk
  clear hrk hnk
  have Ert := Lib.hid hrt
  clear hrt hnt
  have Ers := Lib.hid hrs
  clear hrs hns
  clear h hE
  obtain ⟨e1, he1⟩ : ∃ e1, e1 = (decide (1 ≤ p.ep)) := ⟨_, rfl⟩
  have te1 : (decide (1 ≤ p.ep)) = e1 := he1.symm
  have Ee1 := Lib.hid he1
  clear he1
  obtain ⟨s1, hs1⟩ : ∃ s1, s1 = (decide (1 ≤ p.sq)) := ⟨_, rfl⟩
  have ts1 : (decide (1 ≤ p.sq)) = s1 := hs1.symm
  have Es1 := Lib.hid hs1
  clear hs1
  obtain ⟨a0, ha0⟩ : ∃ a0, a0 = (decide (0 ≤ p.at_)) := ⟨_, rfl⟩
  have ta0 : (decide (0 ≤ p.at_)) = a0 := ha0.symm
  have Ea0 := Lib.hid ha0
  clear ha0
  obtain ⟨a1, ha1⟩ : ∃ a1, a1 = (decide (p.at_ ≤ 1152921504606846976)) := ⟨_, rfl⟩
  have ta1 : (decide (p.at_ ≤ 1152921504606846976)) = a1 := ha1.symm
  have Ea1 := Lib.hid ha1
  clear ha1
  obtain ⟨b0, hb0⟩ : ∃ b0, b0 = (p.bo != 0) := ⟨_, rfl⟩
  have tb0 : (p.bo != 0) = b0 := hb0.symm
  have Eb0 := Lib.hid hb0
  clear hb0
  obtain ⟨z0, hz0⟩ : ∃ z0, z0 = (p.at_ == 0) := ⟨_, rfl⟩
  have tz0 : (p.at_ == 0) = z0 := hz0.symm
  have Ez0 := Lib.hid hz0
  clear hz0
  obtain ⟨l1, hl1⟩ : ∃ l1, l1 = (decide (1 ≤ p.le)) := ⟨_, rfl⟩
  have tl1 : (decide (1 ≤ p.le)) = l1 := hl1.symm
  have El1 := Lib.hid hl1
  clear hl1
  obtain ⟨l2, hl2⟩ : ∃ l2, l2 = (decide (p.le ≤ 1048576)) := ⟨_, rfl⟩
  have tl2 : (decide (p.le ≤ 1048576)) = l2 := hl2.symm
  have El2 := Lib.hid hl2
  clear hl2
  go_enter Tryz.func11, Tryz.ntmps11
  go_upto_region 1 with fail
  rw [← hw1, ← hX]
  clear hw1 hX
  have c0 := HX1.out.cell (j := 0) rfl
  have c1 := HX1.out.cell (j := 1) rfl
  have c2 := HX1.out.cell (j := 2) rfl
  have c3 := HX1.out.cell (j := 3) rfl
  have c4 := HX1.out.cell (j := 4) rfl
  have c5 := HX1.out.cell (j := 5) rfl
  have c6 := HX1.out.cell (j := 6) rfl
  have c7 := HX1.out.cell (j := 7) rfl
  have c8 := HX1.out.cell (j := 8) rfl
  cases e1
  · have HQ : Hid (checkP p = false) := Lib.hid (by unfold checkP; have ee1 := Ee1.out; rw [← ee1]; first | rfl | simp)
    go_wp2_with (first | (go_at_call 54; refine (Ck.out _ HB1.out).mono ?_; rintro e w2 ⟨rfl, hb⟩; have HX2 := Lib.hid (HX1.out.kept hb); have HB2 := Lib.hid (below_and HB1.out hb); have d0_5 := HX2.out.cell (j := 5) rfl; have d0_6 := HX2.out.cell (j := 6) rfl; have d0_7 := HX2.out.cell (j := 7) rfl; clear hb) | (go_at_call 59; refine (Ct.out _ HB2.out).mono ?_; rintro e w3 ⟨rfl, hb⟩; have HX3 := Lib.hid (HX2.out.kept hb); have HB3 := Lib.hid (below_and HB2.out hb); have d1_5 := HX3.out.cell (j := 5) rfl; have d1_6 := HX3.out.cell (j := 6) rfl; have d1_7 := HX3.out.cell (j := 7) rfl; clear hb) | (go_at_call 64; refine (Cs.out _ HB3.out).mono ?_; rintro e w4 ⟨rfl, hb⟩; have HX4 := Lib.hid (HX3.out.kept hb); have HB4 := Lib.hid (below_and HB3.out hb); have d2_5 := HX4.out.cell (j := 5) rfl; have d2_6 := HX4.out.cell (j := 6) rfl; have d2_7 := HX4.out.cell (j := 7) rfl; clear hb))
    go_ret
    exact ⟨ret_int (by rw [HR.out, HQ.out]; rfl), by first | exact HB4.out | exact HB3.out | exact HB2.out | exact HB1.out⟩
  · cases s1
    · have HQ : Hid (checkP p = false) := Lib.hid (by unfold checkP; have ee1 := Ee1.out; have es1 := Es1.out; rw [← ee1, ← es1]; first | rfl | simp)
      go_wp2_with (first | (go_at_call 54; refine (Ck.out _ HB1.out).mono ?_; rintro e w2 ⟨rfl, hb⟩; have HX2 := Lib.hid (HX1.out.kept hb); have HB2 := Lib.hid (below_and HB1.out hb); have d0_5 := HX2.out.cell (j := 5) rfl; have d0_6 := HX2.out.cell (j := 6) rfl; have d0_7 := HX2.out.cell (j := 7) rfl; clear hb) | (go_at_call 59; refine (Ct.out _ HB2.out).mono ?_; rintro e w3 ⟨rfl, hb⟩; have HX3 := Lib.hid (HX2.out.kept hb); have HB3 := Lib.hid (below_and HB2.out hb); have d1_5 := HX3.out.cell (j := 5) rfl; have d1_6 := HX3.out.cell (j := 6) rfl; have d1_7 := HX3.out.cell (j := 7) rfl; clear hb) | (go_at_call 64; refine (Cs.out _ HB3.out).mono ?_; rintro e w4 ⟨rfl, hb⟩; have HX4 := Lib.hid (HX3.out.kept hb); have HB4 := Lib.hid (below_and HB3.out hb); have d2_5 := HX4.out.cell (j := 5) rfl; have d2_6 := HX4.out.cell (j := 6) rfl; have d2_7 := HX4.out.cell (j := 7) rfl; clear hb))
      go_ret
      exact ⟨ret_int (by rw [HR.out, HQ.out]; rfl), by first | exact HB4.out | exact HB3.out | exact HB2.out | exact HB1.out⟩
    · cases a0
      · have HQ : Hid (checkP p = false) := Lib.hid (by unfold checkP; have ee1 := Ee1.out; have es1 := Es1.out; have ea0 := Ea0.out; rw [← ee1, ← es1, ← ea0]; first | rfl | simp)
        go_wp2_with (first | (go_at_call 54; refine (Ck.out _ HB1.out).mono ?_; rintro e w2 ⟨rfl, hb⟩; have HX2 := Lib.hid (HX1.out.kept hb); have HB2 := Lib.hid (below_and HB1.out hb); have d0_5 := HX2.out.cell (j := 5) rfl; have d0_6 := HX2.out.cell (j := 6) rfl; have d0_7 := HX2.out.cell (j := 7) rfl; clear hb) | (go_at_call 59; refine (Ct.out _ HB2.out).mono ?_; rintro e w3 ⟨rfl, hb⟩; have HX3 := Lib.hid (HX2.out.kept hb); have HB3 := Lib.hid (below_and HB2.out hb); have d1_5 := HX3.out.cell (j := 5) rfl; have d1_6 := HX3.out.cell (j := 6) rfl; have d1_7 := HX3.out.cell (j := 7) rfl; clear hb) | (go_at_call 64; refine (Cs.out _ HB3.out).mono ?_; rintro e w4 ⟨rfl, hb⟩; have HX4 := Lib.hid (HX3.out.kept hb); have HB4 := Lib.hid (below_and HB3.out hb); have d2_5 := HX4.out.cell (j := 5) rfl; have d2_6 := HX4.out.cell (j := 6) rfl; have d2_7 := HX4.out.cell (j := 7) rfl; clear hb))
        go_ret
        exact ⟨ret_int (by rw [HR.out, HQ.out]; rfl), by first | exact HB4.out | exact HB3.out | exact HB2.out | exact HB1.out⟩
      · cases a1
        · have HQ : Hid (checkP p = false) := Lib.hid (by unfold checkP; have ee1 := Ee1.out; have es1 := Es1.out; have ea0 := Ea0.out; have ea1 := Ea1.out; rw [← ee1, ← es1, ← ea0, ← ea1]; first | rfl | simp)
          go_wp2_with (first | (go_at_call 54; refine (Ck.out _ HB1.out).mono ?_; rintro e w2 ⟨rfl, hb⟩; have HX2 := Lib.hid (HX1.out.kept hb); have HB2 := Lib.hid (below_and HB1.out hb); have d0_5 := HX2.out.cell (j := 5) rfl; have d0_6 := HX2.out.cell (j := 6) rfl; have d0_7 := HX2.out.cell (j := 7) rfl; clear hb) | (go_at_call 59; refine (Ct.out _ HB2.out).mono ?_; rintro e w3 ⟨rfl, hb⟩; have HX3 := Lib.hid (HX2.out.kept hb); have HB3 := Lib.hid (below_and HB2.out hb); have d1_5 := HX3.out.cell (j := 5) rfl; have d1_6 := HX3.out.cell (j := 6) rfl; have d1_7 := HX3.out.cell (j := 7) rfl; clear hb) | (go_at_call 64; refine (Cs.out _ HB3.out).mono ?_; rintro e w4 ⟨rfl, hb⟩; have HX4 := Lib.hid (HX3.out.kept hb); have HB4 := Lib.hid (below_and HB3.out hb); have d2_5 := HX4.out.cell (j := 5) rfl; have d2_6 := HX4.out.cell (j := 6) rfl; have d2_7 := HX4.out.cell (j := 7) rfl; clear hb))
          go_ret
          exact ⟨ret_int (by rw [HR.out, HQ.out]; rfl), by first | exact HB4.out | exact HB3.out | exact HB2.out | exact HB1.out⟩
        · cases b0
          · cases z0
            · have HQ : Hid (checkP p = false) := Lib.hid (by unfold checkP; have ee1 := Ee1.out; have es1 := Es1.out; have ea0 := Ea0.out; have ea1 := Ea1.out; have eb0 := Eb0.out; have ez0 := Ez0.out; rw [← ee1, ← es1, ← ea0, ← ea1, ← eb0, ← ez0]; first | rfl | simp)
              go_wp2_with (first | (go_at_call 54; refine (Ck.out _ HB1.out).mono ?_; rintro e w2 ⟨rfl, hb⟩; have HX2 := Lib.hid (HX1.out.kept hb); have HB2 := Lib.hid (below_and HB1.out hb); have d0_5 := HX2.out.cell (j := 5) rfl; have d0_6 := HX2.out.cell (j := 6) rfl; have d0_7 := HX2.out.cell (j := 7) rfl; clear hb) | (go_at_call 59; refine (Ct.out _ HB2.out).mono ?_; rintro e w3 ⟨rfl, hb⟩; have HX3 := Lib.hid (HX2.out.kept hb); have HB3 := Lib.hid (below_and HB2.out hb); have d1_5 := HX3.out.cell (j := 5) rfl; have d1_6 := HX3.out.cell (j := 6) rfl; have d1_7 := HX3.out.cell (j := 7) rfl; clear hb) | (go_at_call 64; refine (Cs.out _ HB3.out).mono ?_; rintro e w4 ⟨rfl, hb⟩; have HX4 := Lib.hid (HX3.out.kept hb); have HB4 := Lib.hid (below_and HB3.out hb); have d2_5 := HX4.out.cell (j := 5) rfl; have d2_6 := HX4.out.cell (j := 6) rfl; have d2_7 := HX4.out.cell (j := 7) rfl; clear hb))
              go_ret
              exact ⟨ret_int (by rw [HR.out, HQ.out]; rfl), by first | exact HB4.out | exact HB3.out | exact HB2.out | exact HB1.out⟩
            · cases l1
              · have HQ : Hid (checkP p = false) := Lib.hid (by unfold checkP; have ee1 := Ee1.out; have es1 := Es1.out; have ea0 := Ea0.out; have ea1 := Ea1.out; have eb0 := Eb0.out; have ez0 := Ez0.out; have el1 := El1.out; rw [← ee1, ← es1, ← ea0, ← ea1, ← eb0, ← ez0, ← el1]; first | rfl | simp)
                go_wp2_with (first | (go_at_call 54; refine (Ck.out _ HB1.out).mono ?_; rintro e w2 ⟨rfl, hb⟩; have HX2 := Lib.hid (HX1.out.kept hb); have HB2 := Lib.hid (below_and HB1.out hb); have d0_5 := HX2.out.cell (j := 5) rfl; have d0_6 := HX2.out.cell (j := 6) rfl; have d0_7 := HX2.out.cell (j := 7) rfl; clear hb) | (go_at_call 59; refine (Ct.out _ HB2.out).mono ?_; rintro e w3 ⟨rfl, hb⟩; have HX3 := Lib.hid (HX2.out.kept hb); have HB3 := Lib.hid (below_and HB2.out hb); have d1_5 := HX3.out.cell (j := 5) rfl; have d1_6 := HX3.out.cell (j := 6) rfl; have d1_7 := HX3.out.cell (j := 7) rfl; clear hb) | (go_at_call 64; refine (Cs.out _ HB3.out).mono ?_; rintro e w4 ⟨rfl, hb⟩; have HX4 := Lib.hid (HX3.out.kept hb); have HB4 := Lib.hid (below_and HB3.out hb); have d2_5 := HX4.out.cell (j := 5) rfl; have d2_6 := HX4.out.cell (j := 6) rfl; have d2_7 := HX4.out.cell (j := 7) rfl; clear hb))
                go_ret
                exact ⟨ret_int (by rw [HR.out, HQ.out]; rfl), by first | exact HB4.out | exact HB3.out | exact HB2.out | exact HB1.out⟩
              · cases l2
                · have HQ : Hid (checkP p = false) := Lib.hid (by unfold checkP; have ee1 := Ee1.out; have es1 := Es1.out; have ea0 := Ea0.out; have ea1 := Ea1.out; have eb0 := Eb0.out; have ez0 := Ez0.out; have el1 := El1.out; have el2 := El2.out; rw [← ee1, ← es1, ← ea0, ← ea1, ← eb0, ← ez0, ← el1, ← el2]; first | rfl | simp)
                  go_wp2_with (first | (go_at_call 54; refine (Ck.out _ HB1.out).mono ?_; rintro e w2 ⟨rfl, hb⟩; have HX2 := Lib.hid (HX1.out.kept hb); have HB2 := Lib.hid (below_and HB1.out hb); have d0_5 := HX2.out.cell (j := 5) rfl; have d0_6 := HX2.out.cell (j := 6) rfl; have d0_7 := HX2.out.cell (j := 7) rfl; clear hb) | (go_at_call 59; refine (Ct.out _ HB2.out).mono ?_; rintro e w3 ⟨rfl, hb⟩; have HX3 := Lib.hid (HX2.out.kept hb); have HB3 := Lib.hid (below_and HB2.out hb); have d1_5 := HX3.out.cell (j := 5) rfl; have d1_6 := HX3.out.cell (j := 6) rfl; have d1_7 := HX3.out.cell (j := 7) rfl; clear hb) | (go_at_call 64; refine (Cs.out _ HB3.out).mono ?_; rintro e w4 ⟨rfl, hb⟩; have HX4 := Lib.hid (HX3.out.kept hb); have HB4 := Lib.hid (below_and HB3.out hb); have d2_5 := HX4.out.cell (j := 5) rfl; have d2_6 := HX4.out.cell (j := 6) rfl; have d2_7 := HX4.out.cell (j := 7) rfl; clear hb))
                  go_ret
                  exact ⟨ret_int (by rw [HR.out, HQ.out]; rfl), by first | exact HB4.out | exact HB3.out | exact HB2.out | exact HB1.out⟩
                · cases rk
                  · have HQ : Hid (checkP p = false) := Lib.hid (by unfold checkP; have ee1 := Ee1.out; have es1 := Es1.out; have ea0 := Ea0.out; have ea1 := Ea1.out; have eb0 := Eb0.out; have ez0 := Ez0.out; have el1 := El1.out; have el2 := El2.out; have erk := Erk.out; rw [← ee1, ← es1, ← ea0, ← ea1, ← eb0, ← ez0, ← el1, ← el2, ← erk]; first | rfl | simp)
                    go_wp2_with (first | (go_at_call 54; refine (Ck.out _ HB1.out).mono ?_; rintro e w2 ⟨rfl, hb⟩; have HX2 := Lib.hid (HX1.out.kept hb); have HB2 := Lib.hid (below_and HB1.out hb); have d0_5 := HX2.out.cell (j := 5) rfl; have d0_6 := HX2.out.cell (j := 6) rfl; have d0_7 := HX2.out.cell (j := 7) rfl; clear hb) | (go_at_call 59; refine (Ct.out _ HB2.out).mono ?_; rintro e w3 ⟨rfl, hb⟩; have HX3 := Lib.hid (HX2.out.kept hb); have HB3 := Lib.hid (below_and HB2.out hb); have d1_5 := HX3.out.cell (j := 5) rfl; have d1_6 := HX3.out.cell (j := 6) rfl; have d1_7 := HX3.out.cell (j := 7) rfl; clear hb) | (go_at_call 64; refine (Cs.out _ HB3.out).mono ?_; rintro e w4 ⟨rfl, hb⟩; have HX4 := Lib.hid (HX3.out.kept hb); have HB4 := Lib.hid (below_and HB3.out hb); have d2_5 := HX4.out.cell (j := 5) rfl; have d2_6 := HX4.out.cell (j := 6) rfl; have d2_7 := HX4.out.cell (j := 7) rfl; clear hb))
                    go_ret
                    exact ⟨ret_int (by rw [HR.out, HQ.out]; rfl), by first | exact HB4.out | exact HB3.out | exact HB2.out | exact HB1.out⟩
                  · cases rt
                    · have HQ : Hid (checkP p = false) := Lib.hid (by unfold checkP; have ee1 := Ee1.out; have es1 := Es1.out; have ea0 := Ea0.out; have ea1 := Ea1.out; have eb0 := Eb0.out; have ez0 := Ez0.out; have el1 := El1.out; have el2 := El2.out; have erk := Erk.out; have ert := Ert.out; rw [← ee1, ← es1, ← ea0, ← ea1, ← eb0, ← ez0, ← el1, ← el2, ← erk, ← ert]; first | rfl | simp)
                      go_wp2_with (first | (go_at_call 54; refine (Ck.out _ HB1.out).mono ?_; rintro e w2 ⟨rfl, hb⟩; have HX2 := Lib.hid (HX1.out.kept hb); have HB2 := Lib.hid (below_and HB1.out hb); have d0_5 := HX2.out.cell (j := 5) rfl; have d0_6 := HX2.out.cell (j := 6) rfl; have d0_7 := HX2.out.cell (j := 7) rfl; clear hb) | (go_at_call 59; refine (Ct.out _ HB2.out).mono ?_; rintro e w3 ⟨rfl, hb⟩; have HX3 := Lib.hid (HX2.out.kept hb); have HB3 := Lib.hid (below_and HB2.out hb); have d1_5 := HX3.out.cell (j := 5) rfl; have d1_6 := HX3.out.cell (j := 6) rfl; have d1_7 := HX3.out.cell (j := 7) rfl; clear hb) | (go_at_call 64; refine (Cs.out _ HB3.out).mono ?_; rintro e w4 ⟨rfl, hb⟩; have HX4 := Lib.hid (HX3.out.kept hb); have HB4 := Lib.hid (below_and HB3.out hb); have d2_5 := HX4.out.cell (j := 5) rfl; have d2_6 := HX4.out.cell (j := 6) rfl; have d2_7 := HX4.out.cell (j := 7) rfl; clear hb))
                      go_ret
                      exact ⟨ret_int (by rw [HR.out, HQ.out]; rfl), by first | exact HB4.out | exact HB3.out | exact HB2.out | exact HB1.out⟩
                    · cases rs
                      · have HQ : Hid (checkP p = false) := Lib.hid (by unfold checkP; have ee1 := Ee1.out; have es1 := Es1.out; have ea0 := Ea0.out; have ea1 := Ea1.out; have eb0 := Eb0.out; have ez0 := Ez0.out; have el1 := El1.out; have el2 := El2.out; have erk := Erk.out; have ert := Ert.out; have ers := Ers.out; rw [← ee1, ← es1, ← ea0, ← ea1, ← eb0, ← ez0, ← el1, ← el2, ← erk, ← ert, ← ers]; first | rfl | simp)
                        go_wp2_with (first | (go_at_call 54; refine (Ck.out _ HB1.out).mono ?_; rintro e w2 ⟨rfl, hb⟩; have HX2 := Lib.hid (HX1.out.kept hb); have HB2 := Lib.hid (below_and HB1.out hb); have d0_5 := HX2.out.cell (j := 5) rfl; have d0_6 := HX2.out.cell (j := 6) rfl; have d0_7 := HX2.out.cell (j := 7) rfl; clear hb) | (go_at_call 59; refine (Ct.out _ HB2.out).mono ?_; rintro e w3 ⟨rfl, hb⟩; have HX3 := Lib.hid (HX2.out.kept hb); have HB3 := Lib.hid (below_and HB2.out hb); have d1_5 := HX3.out.cell (j := 5) rfl; have d1_6 := HX3.out.cell (j := 6) rfl; have d1_7 := HX3.out.cell (j := 7) rfl; clear hb) | (go_at_call 64; refine (Cs.out _ HB3.out).mono ?_; rintro e w4 ⟨rfl, hb⟩; have HX4 := Lib.hid (HX3.out.kept hb); have HB4 := Lib.hid (below_and HB3.out hb); have d2_5 := HX4.out.cell (j := 5) rfl; have d2_6 := HX4.out.cell (j := 6) rfl; have d2_7 := HX4.out.cell (j := 7) rfl; clear hb))
                        go_ret
                        exact ⟨ret_int (by rw [HR.out, HQ.out]; rfl), by first | exact HB4.out | exact HB3.out | exact HB2.out | exact HB1.out⟩
                      · have HQ : Hid (checkP p = true) := Lib.hid (by unfold checkP; have ee1 := Ee1.out; have es1 := Es1.out; have ea0 := Ea0.out; have ea1 := Ea1.out; have eb0 := Eb0.out; have ez0 := Ez0.out; have el1 := El1.out; have el2 := El2.out; have erk := Erk.out; have ert := Ert.out; have ers := Ers.out; rw [← ee1, ← es1, ← ea0, ← ea1, ← eb0, ← ez0, ← el1, ← el2, ← erk, ← ert, ← ers]; first | rfl | simp)
                        go_wp2_with (first | (go_at_call 54; refine (Ck.out _ HB1.out).mono ?_; rintro e w2 ⟨rfl, hb⟩; have HX2 := Lib.hid (HX1.out.kept hb); have HB2 := Lib.hid (below_and HB1.out hb); have d0_5 := HX2.out.cell (j := 5) rfl; have d0_6 := HX2.out.cell (j := 6) rfl; have d0_7 := HX2.out.cell (j := 7) rfl; clear hb) | (go_at_call 59; refine (Ct.out _ HB2.out).mono ?_; rintro e w3 ⟨rfl, hb⟩; have HX3 := Lib.hid (HX2.out.kept hb); have HB3 := Lib.hid (below_and HB2.out hb); have d1_5 := HX3.out.cell (j := 5) rfl; have d1_6 := HX3.out.cell (j := 6) rfl; have d1_7 := HX3.out.cell (j := 7) rfl; clear hb) | (go_at_call 64; refine (Cs.out _ HB3.out).mono ?_; rintro e w4 ⟨rfl, hb⟩; have HX4 := Lib.hid (HX3.out.kept hb); have HB4 := Lib.hid (below_and HB3.out hb); have d2_5 := HX4.out.cell (j := 5) rfl; have d2_6 := HX4.out.cell (j := 6) rfl; have d2_7 := HX4.out.cell (j := 7) rfl; clear hb))
                        go_ret
                        exact ⟨ret_int (by rw [HR.out, HQ.out]; rfl), by first | exact HB4.out | exact HB3.out | exact HB2.out | exact HB1.out⟩
          · cases l1
            · have HQ : Hid (checkP p = false) := Lib.hid (by unfold checkP; have ee1 := Ee1.out; have es1 := Es1.out; have ea0 := Ea0.out; have ea1 := Ea1.out; have eb0 := Eb0.out; have el1 := El1.out; rw [← ee1, ← es1, ← ea0, ← ea1, ← eb0, ← el1]; first | rfl | simp)
              go_wp2_with (first | (go_at_call 54; refine (Ck.out _ HB1.out).mono ?_; rintro e w2 ⟨rfl, hb⟩; have HX2 := Lib.hid (HX1.out.kept hb); have HB2 := Lib.hid (below_and HB1.out hb); have d0_5 := HX2.out.cell (j := 5) rfl; have d0_6 := HX2.out.cell (j := 6) rfl; have d0_7 := HX2.out.cell (j := 7) rfl; clear hb) | (go_at_call 59; refine (Ct.out _ HB2.out).mono ?_; rintro e w3 ⟨rfl, hb⟩; have HX3 := Lib.hid (HX2.out.kept hb); have HB3 := Lib.hid (below_and HB2.out hb); have d1_5 := HX3.out.cell (j := 5) rfl; have d1_6 := HX3.out.cell (j := 6) rfl; have d1_7 := HX3.out.cell (j := 7) rfl; clear hb) | (go_at_call 64; refine (Cs.out _ HB3.out).mono ?_; rintro e w4 ⟨rfl, hb⟩; have HX4 := Lib.hid (HX3.out.kept hb); have HB4 := Lib.hid (below_and HB3.out hb); have d2_5 := HX4.out.cell (j := 5) rfl; have d2_6 := HX4.out.cell (j := 6) rfl; have d2_7 := HX4.out.cell (j := 7) rfl; clear hb))
              go_ret
              exact ⟨ret_int (by rw [HR.out, HQ.out]; rfl), by first | exact HB4.out | exact HB3.out | exact HB2.out | exact HB1.out⟩
            · cases l2
              · have HQ : Hid (checkP p = false) := Lib.hid (by unfold checkP; have ee1 := Ee1.out; have es1 := Es1.out; have ea0 := Ea0.out; have ea1 := Ea1.out; have eb0 := Eb0.out; have el1 := El1.out; have el2 := El2.out; rw [← ee1, ← es1, ← ea0, ← ea1, ← eb0, ← el1, ← el2]; first | rfl | simp)
                go_wp2_with (first | (go_at_call 54; refine (Ck.out _ HB1.out).mono ?_; rintro e w2 ⟨rfl, hb⟩; have HX2 := Lib.hid (HX1.out.kept hb); have HB2 := Lib.hid (below_and HB1.out hb); have d0_5 := HX2.out.cell (j := 5) rfl; have d0_6 := HX2.out.cell (j := 6) rfl; have d0_7 := HX2.out.cell (j := 7) rfl; clear hb) | (go_at_call 59; refine (Ct.out _ HB2.out).mono ?_; rintro e w3 ⟨rfl, hb⟩; have HX3 := Lib.hid (HX2.out.kept hb); have HB3 := Lib.hid (below_and HB2.out hb); have d1_5 := HX3.out.cell (j := 5) rfl; have d1_6 := HX3.out.cell (j := 6) rfl; have d1_7 := HX3.out.cell (j := 7) rfl; clear hb) | (go_at_call 64; refine (Cs.out _ HB3.out).mono ?_; rintro e w4 ⟨rfl, hb⟩; have HX4 := Lib.hid (HX3.out.kept hb); have HB4 := Lib.hid (below_and HB3.out hb); have d2_5 := HX4.out.cell (j := 5) rfl; have d2_6 := HX4.out.cell (j := 6) rfl; have d2_7 := HX4.out.cell (j := 7) rfl; clear hb))
                go_ret
                exact ⟨ret_int (by rw [HR.out, HQ.out]; rfl), by first | exact HB4.out | exact HB3.out | exact HB2.out | exact HB1.out⟩
              · cases rk
                · have HQ : Hid (checkP p = false) := Lib.hid (by unfold checkP; have ee1 := Ee1.out; have es1 := Es1.out; have ea0 := Ea0.out; have ea1 := Ea1.out; have eb0 := Eb0.out; have el1 := El1.out; have el2 := El2.out; have erk := Erk.out; rw [← ee1, ← es1, ← ea0, ← ea1, ← eb0, ← el1, ← el2, ← erk]; first | rfl | simp)
                  go_wp2_with (first | (go_at_call 54; refine (Ck.out _ HB1.out).mono ?_; rintro e w2 ⟨rfl, hb⟩; have HX2 := Lib.hid (HX1.out.kept hb); have HB2 := Lib.hid (below_and HB1.out hb); have d0_5 := HX2.out.cell (j := 5) rfl; have d0_6 := HX2.out.cell (j := 6) rfl; have d0_7 := HX2.out.cell (j := 7) rfl; clear hb) | (go_at_call 59; refine (Ct.out _ HB2.out).mono ?_; rintro e w3 ⟨rfl, hb⟩; have HX3 := Lib.hid (HX2.out.kept hb); have HB3 := Lib.hid (below_and HB2.out hb); have d1_5 := HX3.out.cell (j := 5) rfl; have d1_6 := HX3.out.cell (j := 6) rfl; have d1_7 := HX3.out.cell (j := 7) rfl; clear hb) | (go_at_call 64; refine (Cs.out _ HB3.out).mono ?_; rintro e w4 ⟨rfl, hb⟩; have HX4 := Lib.hid (HX3.out.kept hb); have HB4 := Lib.hid (below_and HB3.out hb); have d2_5 := HX4.out.cell (j := 5) rfl; have d2_6 := HX4.out.cell (j := 6) rfl; have d2_7 := HX4.out.cell (j := 7) rfl; clear hb))
                  go_ret
                  exact ⟨ret_int (by rw [HR.out, HQ.out]; rfl), by first | exact HB4.out | exact HB3.out | exact HB2.out | exact HB1.out⟩
                · cases rt
                  · have HQ : Hid (checkP p = false) := Lib.hid (by unfold checkP; have ee1 := Ee1.out; have es1 := Es1.out; have ea0 := Ea0.out; have ea1 := Ea1.out; have eb0 := Eb0.out; have el1 := El1.out; have el2 := El2.out; have erk := Erk.out; have ert := Ert.out; rw [← ee1, ← es1, ← ea0, ← ea1, ← eb0, ← el1, ← el2, ← erk, ← ert]; first | rfl | simp)
                    go_wp2_with (first | (go_at_call 54; refine (Ck.out _ HB1.out).mono ?_; rintro e w2 ⟨rfl, hb⟩; have HX2 := Lib.hid (HX1.out.kept hb); have HB2 := Lib.hid (below_and HB1.out hb); have d0_5 := HX2.out.cell (j := 5) rfl; have d0_6 := HX2.out.cell (j := 6) rfl; have d0_7 := HX2.out.cell (j := 7) rfl; clear hb) | (go_at_call 59; refine (Ct.out _ HB2.out).mono ?_; rintro e w3 ⟨rfl, hb⟩; have HX3 := Lib.hid (HX2.out.kept hb); have HB3 := Lib.hid (below_and HB2.out hb); have d1_5 := HX3.out.cell (j := 5) rfl; have d1_6 := HX3.out.cell (j := 6) rfl; have d1_7 := HX3.out.cell (j := 7) rfl; clear hb) | (go_at_call 64; refine (Cs.out _ HB3.out).mono ?_; rintro e w4 ⟨rfl, hb⟩; have HX4 := Lib.hid (HX3.out.kept hb); have HB4 := Lib.hid (below_and HB3.out hb); have d2_5 := HX4.out.cell (j := 5) rfl; have d2_6 := HX4.out.cell (j := 6) rfl; have d2_7 := HX4.out.cell (j := 7) rfl; clear hb))
                    go_ret
                    exact ⟨ret_int (by rw [HR.out, HQ.out]; rfl), by first | exact HB4.out | exact HB3.out | exact HB2.out | exact HB1.out⟩
                  · cases rs
                    · have HQ : Hid (checkP p = false) := Lib.hid (by unfold checkP; have ee1 := Ee1.out; have es1 := Es1.out; have ea0 := Ea0.out; have ea1 := Ea1.out; have eb0 := Eb0.out; have el1 := El1.out; have el2 := El2.out; have erk := Erk.out; have ert := Ert.out; have ers := Ers.out; rw [← ee1, ← es1, ← ea0, ← ea1, ← eb0, ← el1, ← el2, ← erk, ← ert, ← ers]; first | rfl | simp)
                      go_wp2_with (first | (go_at_call 54; refine (Ck.out _ HB1.out).mono ?_; rintro e w2 ⟨rfl, hb⟩; have HX2 := Lib.hid (HX1.out.kept hb); have HB2 := Lib.hid (below_and HB1.out hb); have d0_5 := HX2.out.cell (j := 5) rfl; have d0_6 := HX2.out.cell (j := 6) rfl; have d0_7 := HX2.out.cell (j := 7) rfl; clear hb) | (go_at_call 59; refine (Ct.out _ HB2.out).mono ?_; rintro e w3 ⟨rfl, hb⟩; have HX3 := Lib.hid (HX2.out.kept hb); have HB3 := Lib.hid (below_and HB2.out hb); have d1_5 := HX3.out.cell (j := 5) rfl; have d1_6 := HX3.out.cell (j := 6) rfl; have d1_7 := HX3.out.cell (j := 7) rfl; clear hb) | (go_at_call 64; refine (Cs.out _ HB3.out).mono ?_; rintro e w4 ⟨rfl, hb⟩; have HX4 := Lib.hid (HX3.out.kept hb); have HB4 := Lib.hid (below_and HB3.out hb); have d2_5 := HX4.out.cell (j := 5) rfl; have d2_6 := HX4.out.cell (j := 6) rfl; have d2_7 := HX4.out.cell (j := 7) rfl; clear hb))
                      go_ret
                      exact ⟨ret_int (by rw [HR.out, HQ.out]; rfl), by first | exact HB4.out | exact HB3.out | exact HB2.out | exact HB1.out⟩
                    · have HQ : Hid (checkP p = true) := Lib.hid (by unfold checkP; have ee1 := Ee1.out; have es1 := Es1.out; have ea0 := Ea0.out; have ea1 := Ea1.out; have eb0 := Eb0.out; have el1 := El1.out; have el2 := El2.out; have erk := Erk.out; have ert := Ert.out; have ers := Ers.out; rw [← ee1, ← es1, ← ea0, ← ea1, ← eb0, ← el1, ← el2, ← erk, ← ert, ← ers]; first | rfl | simp)
                      go_wp2_with (first | (go_at_call 54; refine (Ck.out _ HB1.out).mono ?_; rintro e w2 ⟨rfl, hb⟩; have HX2 := Lib.hid (HX1.out.kept hb); have HB2 := Lib.hid (below_and HB1.out hb); have d0_5 := HX2.out.cell (j := 5) rfl; have d0_6 := HX2.out.cell (j := 6) rfl; have d0_7 := HX2.out.cell (j := 7) rfl; clear hb) | (go_at_call 59; refine (Ct.out _ HB2.out).mono ?_; rintro e w3 ⟨rfl, hb⟩; have HX3 := Lib.hid (HX2.out.kept hb); have HB3 := Lib.hid (below_and HB2.out hb); have d1_5 := HX3.out.cell (j := 5) rfl; have d1_6 := HX3.out.cell (j := 6) rfl; have d1_7 := HX3.out.cell (j := 7) rfl; clear hb) | (go_at_call 64; refine (Cs.out _ HB3.out).mono ?_; rintro e w4 ⟨rfl, hb⟩; have HX4 := Lib.hid (HX3.out.kept hb); have HB4 := Lib.hid (below_and HB3.out hb); have d2_5 := HX4.out.cell (j := 5) rfl; have d2_6 := HX4.out.cell (j := 6) rfl; have d2_7 := HX4.out.cell (j := 7) rfl; clear hb))
                      go_ret
                      exact ⟨ret_int (by rw [HR.out, HQ.out]; rfl), by first | exact HB4.out | exact HB3.out | exact HB2.out | exact HB1.out⟩
set_option maxRecDepth 100000 in
set_option maxHeartbeats 4000000 in
theorem checkR_any (p : Rp) (vk vt vs : Value) (w : World) (h : RpW w p vk vt vs) (hE : ErrV w) : Calls Tryz.prog 13 #[rpV p vk vt vs] w fun e w' => e = .returned (.int .i64 (if checkR p then 0 else 2)) ∧ Below w.heap.size w w' := by
  obtain ⟨r, hr⟩ : ∃ r : Int, r = if checkR p then 0 else 2 := ⟨_, rfl⟩
  rw [← hr]
  have HR := Lib.hid hr
  clear hr
  obtain ⟨pk, ck, rfl, -⟩ := row_el h.k
  obtain ⟨pt, ct, rfl, -⟩ := row_el h.t
  obtain ⟨ps, cs, rfl, -⟩ := row_el h.s
  obtain ⟨nk, hnk⟩ : ∃ nk, nk = p.H.length := ⟨_, rfl⟩
  obtain ⟨rk, hrk⟩ : ∃ rk, rk = risesB helM ltT p.H := ⟨_, rfl⟩
  have Ck : Hid (∀ w', Below w.heap.size w w' → Calls Tryz.prog 71 #[.slice pk nk ck, .func (.func 72) #[] #[], .func (.func 73) #[] #[]] w' fun e w2 => e = .returned (.bool rk) ∧ Below w'.heap.size w' w2) := Lib.hid (fun w' hb => by rw [hrk, hnk]; exact helR_any _ _ _ (h.k.below hb) h.tk)
  obtain ⟨nt, hnt⟩ : ∃ nt, nt = p.F.length := ⟨_, rfl⟩
  obtain ⟨rt, hrt⟩ : ∃ rt, rt = risesB finM finL p.F := ⟨_, rfl⟩
  have Ct : Hid (∀ w', Below w.heap.size w w' → Calls Tryz.prog 74 #[.slice pt nt ct, .func (.func 75) #[] #[], .func (.func 76) #[] #[]] w' fun e w2 => e = .returned (.bool rt) ∧ Below w'.heap.size w' w2) := Lib.hid (fun w' hb => by rw [hrt, hnt]; exact finR_any _ _ _ (h.t.below hb) h.tt)
  obtain ⟨ns, hns⟩ : ∃ ns, ns = p.R.length := ⟨_, rfl⟩
  obtain ⟨rs, hrs⟩ : ∃ rs, rs = risesB refM ltT p.R := ⟨_, rfl⟩
  have Cs : Hid (∀ w', Below w.heap.size w w' → Calls Tryz.prog 77 #[.slice ps ns cs, .func (.func 78) #[] #[], .func (.func 79) #[] #[]] w' fun e w2 => e = .returned (.bool rs) ∧ Below w'.heap.size w' w2) := Lib.hid (fun w' hb => by rw [hrs, hns]; exact refR_any _ _ _ (h.s.below hb) h.ts)
  rw [← hnk, ← hnt, ← hns]
  obtain ⟨X, hX⟩ : ∃ X, X = w.heap.size := ⟨_, rfl⟩
  obtain ⟨w1, hw1⟩ : ∃ w1, w1 = w.alloc (.cells #[.int .u64 p.ep, .int .u64 p.sq, .int .u64 p.bo, .int .i64 p.at_, .slice pk nk ck, .slice pt nt ct, .slice ps ns cs] 44) := ⟨_, rfl⟩
  have HX1 : Hid (Blk w1 X [.int .u64 p.ep, .int .u64 p.sq, .int .u64 p.bo, .int .i64 p.at_, .slice pk nk ck, .slice pt nt ct, .slice ps ns cs] 44) := Lib.hid (by rw [hw1, hX]; exact Blk.made w [.int .u64 p.ep, .int .u64 p.sq, .int .u64 p.bo, .int .i64 p.at_, .slice pk nk ck, .slice pt nt ct, .slice ps ns cs] _)
  have HB1 : Hid (Below w.heap.size w w1) := Lib.hid (by rw [hw1]; exact below_alloc _ _)
  have Erk := Lib.hid hrk
  clear hrk hnk
  have Ert := Lib.hid hrt
  clear hrt hnt
  have Ers := Lib.hid hrs
  clear hrs hns
  clear h hE
  obtain ⟨e1, he1⟩ : ∃ e1, e1 = (decide (1 ≤ p.ep)) := ⟨_, rfl⟩
  have te1 : (decide (1 ≤ p.ep)) = e1 := he1.symm
  have Ee1 := Lib.hid he1
  clear he1
  obtain ⟨s1, hs1⟩ : ∃ s1, s1 = (decide (1 ≤ p.sq)) := ⟨_, rfl⟩
  have ts1 : (decide (1 ≤ p.sq)) = s1 := hs1.symm
  have Es1 := Lib.hid hs1
  clear hs1
  obtain ⟨b1, hb1⟩ : ∃ b1, b1 = (decide (1 ≤ p.bo)) := ⟨_, rfl⟩
  have tb1 : (decide (1 ≤ p.bo)) = b1 := hb1.symm
  have Eb1 := Lib.hid hb1
  clear hb1
  obtain ⟨a0, ha0⟩ : ∃ a0, a0 = (decide (0 ≤ p.at_)) := ⟨_, rfl⟩
  have ta0 : (decide (0 ≤ p.at_)) = a0 := ha0.symm
  have Ea0 := Lib.hid ha0
  clear ha0
  obtain ⟨a1, ha1⟩ : ∃ a1, a1 = (decide (p.at_ ≤ 1152921504606846976)) := ⟨_, rfl⟩
  have ta1 : (decide (p.at_ ≤ 1152921504606846976)) = a1 := ha1.symm
  have Ea1 := Lib.hid ha1
  clear ha1
  go_enter Tryz.func13, Tryz.ntmps13
  go_upto_region 1 with fail
  rw [← hw1, ← hX]
  clear hw1 hX
  have c0 := HX1.out.cell (j := 0) rfl
  have c1 := HX1.out.cell (j := 1) rfl
  have c2 := HX1.out.cell (j := 2) rfl
  have c3 := HX1.out.cell (j := 3) rfl
  have c4 := HX1.out.cell (j := 4) rfl
  have c5 := HX1.out.cell (j := 5) rfl
  have c6 := HX1.out.cell (j := 6) rfl
  cases e1
  · have HQ : Hid (checkR p = false) := Lib.hid (by unfold checkR; have ee1 := Ee1.out; rw [← ee1]; first | rfl | simp)
    go_wp2_with (first | (go_at_call 71; refine (Ck.out _ HB1.out).mono ?_; rintro e w2 ⟨rfl, hb⟩; have HX2 := Lib.hid (HX1.out.kept hb); have HB2 := Lib.hid (below_and HB1.out hb); have d0_4 := HX2.out.cell (j := 4) rfl; have d0_5 := HX2.out.cell (j := 5) rfl; have d0_6 := HX2.out.cell (j := 6) rfl; clear hb) | (go_at_call 74; refine (Ct.out _ HB2.out).mono ?_; rintro e w3 ⟨rfl, hb⟩; have HX3 := Lib.hid (HX2.out.kept hb); have HB3 := Lib.hid (below_and HB2.out hb); have d1_4 := HX3.out.cell (j := 4) rfl; have d1_5 := HX3.out.cell (j := 5) rfl; have d1_6 := HX3.out.cell (j := 6) rfl; clear hb) | (go_at_call 77; refine (Cs.out _ HB3.out).mono ?_; rintro e w4 ⟨rfl, hb⟩; have HX4 := Lib.hid (HX3.out.kept hb); have HB4 := Lib.hid (below_and HB3.out hb); have d2_4 := HX4.out.cell (j := 4) rfl; have d2_5 := HX4.out.cell (j := 5) rfl; have d2_6 := HX4.out.cell (j := 6) rfl; clear hb))
    go_ret
    exact ⟨ret_int (by rw [HR.out, HQ.out]; rfl), by first | exact HB4.out | exact HB3.out | exact HB2.out | exact HB1.out⟩
  · cases s1
    · have HQ : Hid (checkR p = false) := Lib.hid (by unfold checkR; have ee1 := Ee1.out; have es1 := Es1.out; rw [← ee1, ← es1]; first | rfl | simp)
      go_wp2_with (first | (go_at_call 71; refine (Ck.out _ HB1.out).mono ?_; rintro e w2 ⟨rfl, hb⟩; have HX2 := Lib.hid (HX1.out.kept hb); have HB2 := Lib.hid (below_and HB1.out hb); have d0_4 := HX2.out.cell (j := 4) rfl; have d0_5 := HX2.out.cell (j := 5) rfl; have d0_6 := HX2.out.cell (j := 6) rfl; clear hb) | (go_at_call 74; refine (Ct.out _ HB2.out).mono ?_; rintro e w3 ⟨rfl, hb⟩; have HX3 := Lib.hid (HX2.out.kept hb); have HB3 := Lib.hid (below_and HB2.out hb); have d1_4 := HX3.out.cell (j := 4) rfl; have d1_5 := HX3.out.cell (j := 5) rfl; have d1_6 := HX3.out.cell (j := 6) rfl; clear hb) | (go_at_call 77; refine (Cs.out _ HB3.out).mono ?_; rintro e w4 ⟨rfl, hb⟩; have HX4 := Lib.hid (HX3.out.kept hb); have HB4 := Lib.hid (below_and HB3.out hb); have d2_4 := HX4.out.cell (j := 4) rfl; have d2_5 := HX4.out.cell (j := 5) rfl; have d2_6 := HX4.out.cell (j := 6) rfl; clear hb))
      go_ret
      exact ⟨ret_int (by rw [HR.out, HQ.out]; rfl), by first | exact HB4.out | exact HB3.out | exact HB2.out | exact HB1.out⟩
    · cases b1
      · have HQ : Hid (checkR p = false) := Lib.hid (by unfold checkR; have ee1 := Ee1.out; have es1 := Es1.out; have eb1 := Eb1.out; rw [← ee1, ← es1, ← eb1]; first | rfl | simp)
        go_wp2_with (first | (go_at_call 71; refine (Ck.out _ HB1.out).mono ?_; rintro e w2 ⟨rfl, hb⟩; have HX2 := Lib.hid (HX1.out.kept hb); have HB2 := Lib.hid (below_and HB1.out hb); have d0_4 := HX2.out.cell (j := 4) rfl; have d0_5 := HX2.out.cell (j := 5) rfl; have d0_6 := HX2.out.cell (j := 6) rfl; clear hb) | (go_at_call 74; refine (Ct.out _ HB2.out).mono ?_; rintro e w3 ⟨rfl, hb⟩; have HX3 := Lib.hid (HX2.out.kept hb); have HB3 := Lib.hid (below_and HB2.out hb); have d1_4 := HX3.out.cell (j := 4) rfl; have d1_5 := HX3.out.cell (j := 5) rfl; have d1_6 := HX3.out.cell (j := 6) rfl; clear hb) | (go_at_call 77; refine (Cs.out _ HB3.out).mono ?_; rintro e w4 ⟨rfl, hb⟩; have HX4 := Lib.hid (HX3.out.kept hb); have HB4 := Lib.hid (below_and HB3.out hb); have d2_4 := HX4.out.cell (j := 4) rfl; have d2_5 := HX4.out.cell (j := 5) rfl; have d2_6 := HX4.out.cell (j := 6) rfl; clear hb))
        go_ret
        exact ⟨ret_int (by rw [HR.out, HQ.out]; rfl), by first | exact HB4.out | exact HB3.out | exact HB2.out | exact HB1.out⟩
      · cases a0
        · have HQ : Hid (checkR p = false) := Lib.hid (by unfold checkR; have ee1 := Ee1.out; have es1 := Es1.out; have eb1 := Eb1.out; have ea0 := Ea0.out; rw [← ee1, ← es1, ← eb1, ← ea0]; first | rfl | simp)
          go_wp2_with (first | (go_at_call 71; refine (Ck.out _ HB1.out).mono ?_; rintro e w2 ⟨rfl, hb⟩; have HX2 := Lib.hid (HX1.out.kept hb); have HB2 := Lib.hid (below_and HB1.out hb); have d0_4 := HX2.out.cell (j := 4) rfl; have d0_5 := HX2.out.cell (j := 5) rfl; have d0_6 := HX2.out.cell (j := 6) rfl; clear hb) | (go_at_call 74; refine (Ct.out _ HB2.out).mono ?_; rintro e w3 ⟨rfl, hb⟩; have HX3 := Lib.hid (HX2.out.kept hb); have HB3 := Lib.hid (below_and HB2.out hb); have d1_4 := HX3.out.cell (j := 4) rfl; have d1_5 := HX3.out.cell (j := 5) rfl; have d1_6 := HX3.out.cell (j := 6) rfl; clear hb) | (go_at_call 77; refine (Cs.out _ HB3.out).mono ?_; rintro e w4 ⟨rfl, hb⟩; have HX4 := Lib.hid (HX3.out.kept hb); have HB4 := Lib.hid (below_and HB3.out hb); have d2_4 := HX4.out.cell (j := 4) rfl; have d2_5 := HX4.out.cell (j := 5) rfl; have d2_6 := HX4.out.cell (j := 6) rfl; clear hb))
          go_ret
          exact ⟨ret_int (by rw [HR.out, HQ.out]; rfl), by first | exact HB4.out | exact HB3.out | exact HB2.out | exact HB1.out⟩
        · cases a1
          · have HQ : Hid (checkR p = false) := Lib.hid (by unfold checkR; have ee1 := Ee1.out; have es1 := Es1.out; have eb1 := Eb1.out; have ea0 := Ea0.out; have ea1 := Ea1.out; rw [← ee1, ← es1, ← eb1, ← ea0, ← ea1]; first | rfl | simp)
            go_wp2_with (first | (go_at_call 71; refine (Ck.out _ HB1.out).mono ?_; rintro e w2 ⟨rfl, hb⟩; have HX2 := Lib.hid (HX1.out.kept hb); have HB2 := Lib.hid (below_and HB1.out hb); have d0_4 := HX2.out.cell (j := 4) rfl; have d0_5 := HX2.out.cell (j := 5) rfl; have d0_6 := HX2.out.cell (j := 6) rfl; clear hb) | (go_at_call 74; refine (Ct.out _ HB2.out).mono ?_; rintro e w3 ⟨rfl, hb⟩; have HX3 := Lib.hid (HX2.out.kept hb); have HB3 := Lib.hid (below_and HB2.out hb); have d1_4 := HX3.out.cell (j := 4) rfl; have d1_5 := HX3.out.cell (j := 5) rfl; have d1_6 := HX3.out.cell (j := 6) rfl; clear hb) | (go_at_call 77; refine (Cs.out _ HB3.out).mono ?_; rintro e w4 ⟨rfl, hb⟩; have HX4 := Lib.hid (HX3.out.kept hb); have HB4 := Lib.hid (below_and HB3.out hb); have d2_4 := HX4.out.cell (j := 4) rfl; have d2_5 := HX4.out.cell (j := 5) rfl; have d2_6 := HX4.out.cell (j := 6) rfl; clear hb))
            go_ret
            exact ⟨ret_int (by rw [HR.out, HQ.out]; rfl), by first | exact HB4.out | exact HB3.out | exact HB2.out | exact HB1.out⟩
          · cases rk
            · have HQ : Hid (checkR p = false) := Lib.hid (by unfold checkR; have ee1 := Ee1.out; have es1 := Es1.out; have eb1 := Eb1.out; have ea0 := Ea0.out; have ea1 := Ea1.out; have erk := Erk.out; rw [← ee1, ← es1, ← eb1, ← ea0, ← ea1, ← erk]; first | rfl | simp)
              go_wp2_with (first | (go_at_call 71; refine (Ck.out _ HB1.out).mono ?_; rintro e w2 ⟨rfl, hb⟩; have HX2 := Lib.hid (HX1.out.kept hb); have HB2 := Lib.hid (below_and HB1.out hb); have d0_4 := HX2.out.cell (j := 4) rfl; have d0_5 := HX2.out.cell (j := 5) rfl; have d0_6 := HX2.out.cell (j := 6) rfl; clear hb) | (go_at_call 74; refine (Ct.out _ HB2.out).mono ?_; rintro e w3 ⟨rfl, hb⟩; have HX3 := Lib.hid (HX2.out.kept hb); have HB3 := Lib.hid (below_and HB2.out hb); have d1_4 := HX3.out.cell (j := 4) rfl; have d1_5 := HX3.out.cell (j := 5) rfl; have d1_6 := HX3.out.cell (j := 6) rfl; clear hb) | (go_at_call 77; refine (Cs.out _ HB3.out).mono ?_; rintro e w4 ⟨rfl, hb⟩; have HX4 := Lib.hid (HX3.out.kept hb); have HB4 := Lib.hid (below_and HB3.out hb); have d2_4 := HX4.out.cell (j := 4) rfl; have d2_5 := HX4.out.cell (j := 5) rfl; have d2_6 := HX4.out.cell (j := 6) rfl; clear hb))
              go_ret
              exact ⟨ret_int (by rw [HR.out, HQ.out]; rfl), by first | exact HB4.out | exact HB3.out | exact HB2.out | exact HB1.out⟩
            · cases rt
              · have HQ : Hid (checkR p = false) := Lib.hid (by unfold checkR; have ee1 := Ee1.out; have es1 := Es1.out; have eb1 := Eb1.out; have ea0 := Ea0.out; have ea1 := Ea1.out; have erk := Erk.out; have ert := Ert.out; rw [← ee1, ← es1, ← eb1, ← ea0, ← ea1, ← erk, ← ert]; first | rfl | simp)
                go_wp2_with (first | (go_at_call 71; refine (Ck.out _ HB1.out).mono ?_; rintro e w2 ⟨rfl, hb⟩; have HX2 := Lib.hid (HX1.out.kept hb); have HB2 := Lib.hid (below_and HB1.out hb); have d0_4 := HX2.out.cell (j := 4) rfl; have d0_5 := HX2.out.cell (j := 5) rfl; have d0_6 := HX2.out.cell (j := 6) rfl; clear hb) | (go_at_call 74; refine (Ct.out _ HB2.out).mono ?_; rintro e w3 ⟨rfl, hb⟩; have HX3 := Lib.hid (HX2.out.kept hb); have HB3 := Lib.hid (below_and HB2.out hb); have d1_4 := HX3.out.cell (j := 4) rfl; have d1_5 := HX3.out.cell (j := 5) rfl; have d1_6 := HX3.out.cell (j := 6) rfl; clear hb) | (go_at_call 77; refine (Cs.out _ HB3.out).mono ?_; rintro e w4 ⟨rfl, hb⟩; have HX4 := Lib.hid (HX3.out.kept hb); have HB4 := Lib.hid (below_and HB3.out hb); have d2_4 := HX4.out.cell (j := 4) rfl; have d2_5 := HX4.out.cell (j := 5) rfl; have d2_6 := HX4.out.cell (j := 6) rfl; clear hb))
                go_ret
                exact ⟨ret_int (by rw [HR.out, HQ.out]; rfl), by first | exact HB4.out | exact HB3.out | exact HB2.out | exact HB1.out⟩
              · cases rs
                · have HQ : Hid (checkR p = false) := Lib.hid (by unfold checkR; have ee1 := Ee1.out; have es1 := Es1.out; have eb1 := Eb1.out; have ea0 := Ea0.out; have ea1 := Ea1.out; have erk := Erk.out; have ert := Ert.out; have ers := Ers.out; rw [← ee1, ← es1, ← eb1, ← ea0, ← ea1, ← erk, ← ert, ← ers]; first | rfl | simp)
                  go_wp2_with (first | (go_at_call 71; refine (Ck.out _ HB1.out).mono ?_; rintro e w2 ⟨rfl, hb⟩; have HX2 := Lib.hid (HX1.out.kept hb); have HB2 := Lib.hid (below_and HB1.out hb); have d0_4 := HX2.out.cell (j := 4) rfl; have d0_5 := HX2.out.cell (j := 5) rfl; have d0_6 := HX2.out.cell (j := 6) rfl; clear hb) | (go_at_call 74; refine (Ct.out _ HB2.out).mono ?_; rintro e w3 ⟨rfl, hb⟩; have HX3 := Lib.hid (HX2.out.kept hb); have HB3 := Lib.hid (below_and HB2.out hb); have d1_4 := HX3.out.cell (j := 4) rfl; have d1_5 := HX3.out.cell (j := 5) rfl; have d1_6 := HX3.out.cell (j := 6) rfl; clear hb) | (go_at_call 77; refine (Cs.out _ HB3.out).mono ?_; rintro e w4 ⟨rfl, hb⟩; have HX4 := Lib.hid (HX3.out.kept hb); have HB4 := Lib.hid (below_and HB3.out hb); have d2_4 := HX4.out.cell (j := 4) rfl; have d2_5 := HX4.out.cell (j := 5) rfl; have d2_6 := HX4.out.cell (j := 6) rfl; clear hb))
                  go_ret
                  exact ⟨ret_int (by rw [HR.out, HQ.out]; rfl), by first | exact HB4.out | exact HB3.out | exact HB2.out | exact HB1.out⟩
                · have HQ : Hid (checkR p = true) := Lib.hid (by unfold checkR; have ee1 := Ee1.out; have es1 := Es1.out; have eb1 := Eb1.out; have ea0 := Ea0.out; have ea1 := Ea1.out; have erk := Erk.out; have ert := Ert.out; have ers := Ers.out; rw [← ee1, ← es1, ← eb1, ← ea0, ← ea1, ← erk, ← ert, ← ers]; first | rfl | simp)
                  go_wp2_with (first | (go_at_call 71; refine (Ck.out _ HB1.out).mono ?_; rintro e w2 ⟨rfl, hb⟩; have HX2 := Lib.hid (HX1.out.kept hb); have HB2 := Lib.hid (below_and HB1.out hb); have d0_4 := HX2.out.cell (j := 4) rfl; have d0_5 := HX2.out.cell (j := 5) rfl; have d0_6 := HX2.out.cell (j := 6) rfl; clear hb) | (go_at_call 74; refine (Ct.out _ HB2.out).mono ?_; rintro e w3 ⟨rfl, hb⟩; have HX3 := Lib.hid (HX2.out.kept hb); have HB3 := Lib.hid (below_and HB2.out hb); have d1_4 := HX3.out.cell (j := 4) rfl; have d1_5 := HX3.out.cell (j := 5) rfl; have d1_6 := HX3.out.cell (j := 6) rfl; clear hb) | (go_at_call 77; refine (Cs.out _ HB3.out).mono ?_; rintro e w4 ⟨rfl, hb⟩; have HX4 := Lib.hid (HX3.out.kept hb); have HB4 := Lib.hid (below_and HB3.out hb); have d2_4 := HX4.out.cell (j := 4) rfl; have d2_5 := HX4.out.cell (j := 5) rfl; have d2_6 := HX4.out.cell (j := 6) rfl; clear hb))
                  go_ret
                  exact ⟨ret_int (by rw [HR.out, HQ.out]; rfl), by first | exact HB4.out | exact HB3.out | exact HB2.out | exact HB1.out⟩
end Go.Proofs.YtopkfomlppnpeaaGreatDoor.Ms
