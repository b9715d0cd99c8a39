/- , laid together: MsDBo, MsDBr. -/
import Derived.Test.YtopkfomlppnpeaaGreatDoorMDa
import Derived.Test.YtopkfomlppnpeaaGreatDoorMFt
import Derived.Deep.RegionHeld3
namespace Go.Proofs.YtopkfomlppnpeaaGreatDoor.Ms
open Go.RowKit Go.Proofs.YtopkfomlppnpeaaGreatDoor

set_option maxRecDepth 100000 in
set_option maxHeartbeats 4000000 in
theorem pbody_any (p : Po) (vk vt vs : Value) (w : World) (h : PoW w p vk vt vs) (hf : PoF p) : Calls Tryz.prog 81 #[poV p vk vt vs] w fun e w' => ∃ v', e = .returned v' ∧ Fresh w.heap.size w' v' (bodyP p) ∧ Below w.heap.size w w' := by
  obtain ⟨pk, ck, rfl, -⟩ := row_el h.k
  obtain ⟨pt, ct, rfl, -⟩ := row_el h.t
  obtain ⟨ps, cs, rfl, -⟩ := row_el h.s
  obtain ⟨nk, hnk⟩ : ∃ n, n = p.K.length := ⟨_, rfl⟩
  obtain ⟨nt, hnt⟩ : ∃ n, n = p.T.length := ⟨_, rfl⟩
  obtain ⟨ns, hns⟩ : ∃ n, n = p.P.length := ⟨_, rfl⟩
  have HP : Hid (PoW w p (.slice pk nk ck) (.slice pt nt ct) (.slice ps ns cs)) := Lib.hid (by rw [hnk, hnt, hns]; exact h)
  have HPF := Lib.hid hf
  have HNK := Lib.hid hnk
  have HNT := Lib.hid hnt
  have HNS := Lib.hid hns
  rw [← hnk, ← hnt, ← hns]
  clear h hf hnk hnt hns
  obtain ⟨X, hX⟩ : ∃ X, X = w.heap.size := ⟨_, rfl⟩
  obtain ⟨w1, hw1⟩ : ∃ w1, w1 = w.alloc (.cells #[.int .u64 p.ep, .int .u64 p.sq, .int .u64 p.bo, .int .i64 p.at_, .int .i64 p.le, .slice pk nk ck, .slice pt nt ct, .slice ps ns cs, .int .u64 p.se] 32) := ⟨_, rfl⟩
  have HX1 : Hid (Blk w1 X [.int .u64 p.ep, .int .u64 p.sq, .int .u64 p.bo, .int .i64 p.at_, .int .i64 p.le, .slice pk nk ck, .slice pt nt ct, .slice ps ns cs, .int .u64 p.se] 32) := Lib.hid (by rw [hw1, hX]; exact Blk.made w [.int .u64 p.ep, .int .u64 p.sq, .int .u64 p.bo, .int .i64 p.at_, .int .i64 p.le, .slice pk nk ck, .slice pt nt ct, .slice ps ns cs, .int .u64 p.se] _)
  have HB1 : Hid (Below w.heap.size w w1) := Lib.hid (by rw [hw1]; exact below_alloc _ _)
  have HRF : Hid (Below w1.heap.size w1 w1) := Lib.hid (Below.refl _ _)
  have HR0 : Hid (Rd w1 (.slice none 0 0) []) := Lib.hid (rd_nil _)
  have e5 : IntKind.u64.wrap p.le = p.le := by have := HPF.out.n.2.2.2.2.1; rw [IntKind.wrap_u64]; omega
  have e6 : p.le % 18446744073709551616 = p.le := by have := HPF.out.n.2.2.2.2.1; omega
  have L1 : Hid (([] ++ eU p.ep).length ≤ 100000000000 ∧ ([] ++ eU p.ep ++ eU p.sq).length ≤ 100000000000 ∧ ([] ++ eU p.ep ++ eU p.sq ++ eU p.bo).length ≤ 100000000000 ∧ ([] ++ eU p.ep ++ eU p.sq ++ eU p.bo ++ eI p.at_).length ≤ 100000000000) := Lib.hid (by simp only [List.length_append]; have h1 := eU_len p.ep; have h2 := eU_len p.sq; have h3 := eU_len p.bo; have h4 := eI_len p.at_; simp; omega)
  have N1 : Hid ((-9223372036854775808 ≤ p.at_ ∧ p.at_ < 9223372036854775808) ∧ 0 ≤ p.le ∧ p.le < 18446744073709551616) := Lib.hid (by have h1 := HPF.out.n.2.2.2.1; have h2 := HPF.out.n.2.2.2.2.1; omega)
  go_enter Tryz.func81, Tryz.ntmps81
  go_upto_region 1 with fail
  rw [← hw1, ← hX]
  clear hw1 hX
  have HSSa : Hid (∀ w', Below w1.heap.size w1 w' → w'.cell? ⟨X, 0, none⟩ = some (.int .u64 p.ep) ∧ w'.cell? ⟨X, 1, none⟩ = some (.int .u64 p.sq) ∧ w'.cell? ⟨X, 2, none⟩ = some (.int .u64 p.bo)) := Lib.hid (fun w' hw => ⟨(HX1.out.kept hw).cell (j := 0) rfl, (HX1.out.kept hw).cell (j := 1) rfl, (HX1.out.kept hw).cell (j := 2) rfl⟩)
  go_region_held3 (fun w' => w'.cell? ⟨X, 0, none⟩ = some (.int .u64 p.ep) ∧ w'.cell? ⟨X, 1, none⟩ = some (.int .u64 p.sq) ∧ w'.cell? ⟨X, 2, none⟩ = some (.int .u64 p.bo))
    ((refine HSSa.out _ ?_ <;> (repeat (first | with_reducible exact HBa3.out | with_reducible exact HBa2.out | with_reducible exact HBa1.out | with_reducible exact HRF.out | with_reducible exact Below.refl _ _ | with_reducible apply below_dr))))
    (first
      | (go_at_call 127; refine (rnumber_put va2 ([] ++ eU p.ep ++ eU p.sq) p.bo _ (HFa2.out.rd.below (by repeat (first | with_reducible exact Below.refl _ _ | with_reducible apply below_dr))) L1.out.2.1 HPF.out.n.2.2.1).mono ?_; rintro e wa3 ⟨va3, rfl, hf, hb⟩; have HBa3 : Hid (Below w1.heap.size w1 wa3) := Lib.hid (below_and (by repeat (first | with_reducible exact HBa2.out | with_reducible apply below_dr)) hb); have HFa3 : Hid (Fresh w.heap.size wa3 va3 ([] ++ eU p.ep ++ eU p.sq ++ eU p.bo)) := Lib.hid (hf.mono (Below.size (below_and HB1.out (by repeat (first | with_reducible exact HBa2.out | with_reducible apply below_dr))))); clear hf hb)
      | (go_at_call 127; refine (rnumber_put va1 ([] ++ eU p.ep) p.sq _ (HFa1.out.rd.below (by repeat (first | with_reducible exact Below.refl _ _ | with_reducible apply below_dr))) L1.out.1 HPF.out.n.2.1).mono ?_; rintro e wa2 ⟨va2, rfl, hf, hb⟩; have HBa2 : Hid (Below w1.heap.size w1 wa2) := Lib.hid (below_and (by repeat (first | with_reducible exact HBa1.out | with_reducible apply below_dr)) hb); have HFa2 : Hid (Fresh w.heap.size wa2 va2 ([] ++ eU p.ep ++ eU p.sq)) := Lib.hid (hf.mono (Below.size (below_and HB1.out (by repeat (first | with_reducible exact HBa1.out | with_reducible apply below_dr))))); clear hf hb)
      | (go_at_call 127; refine (rnumber_put (.slice none 0 0) ([]) p.ep _ (HR0.out.below (by repeat (first | with_reducible exact Below.refl _ _ | with_reducible apply below_dr))) (by simp) HPF.out.n.1.1).mono ?_; rintro e wa1 ⟨va1, rfl, hf, hb⟩; have HBa1 : Hid (Below w1.heap.size w1 wa1) := Lib.hid (below_and (by repeat (first | with_reducible exact HRF.out | with_reducible apply below_dr)) hb); have HFa1 : Hid (Fresh w.heap.size wa1 va1 ([] ++ eU p.ep)) := Lib.hid (hf.mono (Below.size (below_and HB1.out (by repeat (first | with_reducible exact HRF.out | with_reducible apply below_dr))))); clear hf hb))
  go_upto_region 2 with fail
  have HSSb : Hid (∀ w', Below w1.heap.size w1 w' → w'.cell? ⟨X, 3, none⟩ = some (.int .i64 p.at_) ∧ w'.cell? ⟨X, 4, none⟩ = some (.int .i64 p.le)) := Lib.hid (fun w' hw => ⟨(HX1.out.kept hw).cell (j := 3) rfl, (HX1.out.kept hw).cell (j := 4) rfl⟩)
  go_region_held3 (fun w' => w'.cell? ⟨X, 3, none⟩ = some (.int .i64 p.at_) ∧ w'.cell? ⟨X, 4, none⟩ = some (.int .i64 p.le))
    ((refine HSSb.out _ ?_ <;> (repeat (first | with_reducible exact HBb2.out | with_reducible exact HBb1.out | with_reducible exact HBa3.out | with_reducible exact Below.refl _ _ | with_reducible apply below_dr))))
    (first
      | (go_at_call 127; refine (rnumber_put vb1 ([] ++ eU p.ep ++ eU p.sq ++ eU p.bo ++ eI p.at_) p.le _ (HFb1.out.rd.below (by repeat (first | with_reducible exact Below.refl _ _ | with_reducible apply below_dr))) L1.out.2.2.2 N1.out.2).mono ?_; rintro e wb2 ⟨vb2, rfl, hf, hb⟩; have HBb2 : Hid (Below w1.heap.size w1 wb2) := Lib.hid (below_and (by repeat (first | with_reducible exact HBb1.out | with_reducible apply below_dr)) hb); have HFb2 : Hid (Fresh w.heap.size wb2 vb2 ([] ++ eU p.ep ++ eU p.sq ++ eU p.bo ++ eI p.at_ ++ eU p.le)) := Lib.hid (hf.mono (Below.size (below_and HB1.out (by repeat (first | with_reducible exact HBb1.out | with_reducible apply below_dr))))); clear hf hb)
      | (go_at_call 128; refine (rint_put va3 ([] ++ eU p.ep ++ eU p.sq ++ eU p.bo) p.at_ _ (HFa3.out.rd.below (by repeat (first | with_reducible exact Below.refl _ _ | with_reducible apply below_dr))) L1.out.2.2.1 N1.out.1).mono ?_; rintro e wb1 ⟨vb1, rfl, hf, hb⟩; have HBb1 : Hid (Below w1.heap.size w1 wb1) := Lib.hid (below_and (by repeat (first | with_reducible exact HBa3.out | with_reducible apply below_dr)) hb); have HFb1 : Hid (Fresh w.heap.size wb1 vb1 ([] ++ eU p.ep ++ eU p.sq ++ eU p.bo ++ eI p.at_)) := Lib.hid (hf.mono (Below.size (below_and HB1.out (by repeat (first | with_reducible exact HBa3.out | with_reducible apply below_dr))))); clear hf hb))
  obtain ⟨l0, hl0⟩ : ∃ l0, l0 = ([] ++ eU p.ep ++ eU p.sq ++ eU p.bo ++ eI p.at_ ++ eU p.le) := ⟨_, rfl⟩
  have HF0 : Hid (Fresh w.heap.size wb2 vb2 l0) := Lib.hid (by rw [hl0]; exact HFb2.out)
  have HL0 : Hid (l0.length ≤ 60) := Lib.hid (by rw [hl0]; simp only [List.length_append]; have h1 := eU_len p.ep; have h2 := eU_len p.sq; have h3 := eU_len p.bo; have h4 := eI_len p.at_; have h5 := eU_len p.le; simp; omega)
  have HL0E := Lib.hid hl0
  clear hl0
  have HNB : Hid (nk ≤ 256 ∧ nt ≤ 256 ∧ ns ≤ 256) := Lib.hid (by have h1 := HPF.out.k.1; have h2 := HPF.out.t.1; have h3 := HPF.out.s.1; have := HNK.out; have := HNT.out; have := HNS.out; omega)
  have gnk : IntKind.u64.wrap (nk : Int) = (nk : Int) := by have := HNB.out; rw [IntKind.wrap_u64]; omega
  have gnt : IntKind.u64.wrap (nt : Int) = (nt : Int) := by have := HNB.out; rw [IntKind.wrap_u64]; omega
  have gns : IntKind.u64.wrap (ns : Int) = (ns : Int) := by have := HNB.out; rw [IntKind.wrap_u64]; omega
  have mnk : (nk : Int) % 18446744073709551616 = (nk : Int) := by have := HNB.out; omega
  have mnt : (nt : Int) % 18446744073709551616 = (nt : Int) := by have := HNB.out; omega
  have mns : (ns : Int) % 18446744073709551616 = (ns : Int) := by have := HNB.out; omega
  have xxk := (HX1.out.kept HBb2.out).cell (j := 5) rfl
  go_upto_region 5 with (go_at_call 127; refine (rnumber_put vb2 l0 nk _ HF0.out.rd (by have := HL0.out; omega) (by have := HNB.out; omega)).mono ?_; rintro e wk0 ⟨vk0, rfl, hf, hb⟩; have HBk0 : Hid (Below w1.heap.size w1 wk0) := Lib.hid (below_and HBb2.out hb); have HFk0 : Hid (Fresh w.heap.size wk0 vk0 (l0 ++ eU nk)) := Lib.hid (hf.mono (Below.size (below_and HB1.out HBb2.out))); clear hf hb)
  clear xxk
  go_loopw [3, 4] (fun vb vi wr => ∃ i : Nat, i ≤ nk ∧ vi = .int .i64 i ∧ Hid (Fresh w.heap.size wr vb (l0 ++ eU nk ++ (p.K.take i).flatMap envE) ∧ Below w1.heap.size w1 wr)) (fun _ vi _ => nk - (intOf vi).toNat)
  case atStart => exact ⟨0, Nat.zero_le _, by go_num, Lib.hid ⟨by simpa using HFk0.out, HBk0.out⟩⟩
  case round =>
    obtain ⟨i, hi, rfl, HQk⟩ := hrel
    have xx := (HX1.out.kept HQk.out.2).cell (j := 5) rfl
    by_cases him : i < nk
    rotate_left
    · have hin : nk = i := by omega
      subst hin
      obtain ⟨l1, hl1⟩ : ∃ l, l = l0 ++ eU nk ++ (p.K.take nk).flatMap envE := ⟨_, rfl⟩
      have HF1 := Lib.hid HQk.out.1
      have HB1x := Lib.hid HQk.out.2
      rw [← hl1] at HF1
      have HL1 : Hid (l1.length ≤ 100000) := Lib.hid (by rw [hl1, List.length_append, List.length_append]; have h1 := HL0.out; have h2 := eU_len (nk : Int); have h3 := flat_len (enc := envE) (p.K.take nk) (fun y hy => (enc_small (HPF.out.k.2 y (List.mem_of_mem_take hy))).1); have h4 : (p.K.take nk).length ≤ 256 := (by rw [List.length_take]; have := HPF.out.k.1; omega); omega)
      have HL1E : Hid (l1 = l0 ++ eL envE p.K) := Lib.hid (by rw [hl1]; unfold eL; rw [HNK.out, List.take_length, List.append_assoc])
      clear hl1 HQk
      have xxt := (HX1.out.kept HB1x.out).cell (j := 6) rfl
      go_upto_region 10 with (go_at_call 127; refine (rnumber_put _ l1 nt _ HF1.out.rd (by have := HL1.out; omega) (by have := HNB.out; omega)).mono ?_; rintro e wt0 ⟨vt0, rfl, hf, hb⟩; have HBt0 : Hid (Below w1.heap.size w1 wt0) := Lib.hid (below_and HB1x.out hb); have HFt0 : Hid (Fresh w.heap.size wt0 vt0 (l1 ++ eU nt)) := Lib.hid (hf.mono (Below.size (below_and HB1.out HB1x.out))); clear hf hb)
      clear xxt
      go_loopw [3, 5] (fun vb vi wr => ∃ i : Nat, i ≤ nt ∧ vi = .int .i64 i ∧ Hid (Fresh w.heap.size wr vb (l1 ++ eU nt ++ (p.T.take i).flatMap staE) ∧ Below w1.heap.size w1 wr)) (fun _ vi _ => nt - (intOf vi).toNat)
      case atStart => exact ⟨0, Nat.zero_le _, by go_num, Lib.hid ⟨by simpa using HFt0.out, HBt0.out⟩⟩
      case round =>
        obtain ⟨i, hi, rfl, HQt⟩ := hrel
        have xx := (HX1.out.kept HQt.out.2).cell (j := 6) rfl
        by_cases him : i < nt
        rotate_left
        · have hin : nt = i := by omega
          subst hin
          obtain ⟨l2, hl2⟩ : ∃ l, l = l1 ++ eU nt ++ (p.T.take nt).flatMap staE := ⟨_, rfl⟩
          have HF2 := Lib.hid HQt.out.1
          have HB2x := Lib.hid HQt.out.2
          rw [← hl2] at HF2
          have HL2 : Hid (l2.length ≤ 300000) := Lib.hid (by rw [hl2, List.length_append, List.length_append]; have h1 := HL1.out; have h2 := eU_len (nt : Int); have h3 := flat_len (enc := staE) (p.T.take nt) (fun y hy => (enc_small (HPF.out.t.2 y (List.mem_of_mem_take hy))).2.1); have h4 : (p.T.take nt).length ≤ 256 := (by rw [List.length_take]; have := HPF.out.t.1; omega); omega)
          have HL2E : Hid (l2 = l1 ++ eL staE p.T) := Lib.hid (by rw [hl2]; unfold eL; rw [HNT.out, List.take_length, List.append_assoc])
          clear hl2 HQt
          have xxs := (HX1.out.kept HB2x.out).cell (j := 7) rfl
          go_upto_region 16 with (go_at_call 127; refine (rnumber_put _ l2 ns _ HF2.out.rd (by have := HL2.out; omega) (by have := HNB.out; omega)).mono ?_; rintro e ws0 ⟨vs0, rfl, hf, hb⟩; have HBs0 : Hid (Below w1.heap.size w1 ws0) := Lib.hid (below_and HB2x.out hb); have HFs0 : Hid (Fresh w.heap.size ws0 vs0 (l2 ++ eU ns)) := Lib.hid (hf.mono (Below.size (below_and HB1.out HB2x.out))); clear hf hb)
          clear xxs
          go_loopw [3, 7] (fun vb vi wr => ∃ i : Nat, i ≤ ns ∧ vi = .int .i64 i ∧ Hid (Fresh w.heap.size wr vb (l2 ++ eU ns ++ (p.P.take i).flatMap stoE) ∧ Below w1.heap.size w1 wr)) (fun _ vi _ => ns - (intOf vi).toNat)
          case atStart => exact ⟨0, Nat.zero_le _, by go_num, Lib.hid ⟨by simpa using HFs0.out, HBs0.out⟩⟩
          case round =>
            obtain ⟨i, hi, rfl, HQs⟩ := hrel
            have xx := (HX1.out.kept HQs.out.2).cell (j := 7) rfl
            by_cases him : i < ns
            rotate_left
            · have hin : ns = i := by omega
              subst hin
              obtain ⟨l3, hl3⟩ : ∃ l, l = l2 ++ eU ns ++ (p.P.take ns).flatMap stoE := ⟨_, rfl⟩
              have HF3 := Lib.hid HQs.out.1
              have HB3x := Lib.hid HQs.out.2
              rw [← hl3] at HF3
              have HL3 : Hid (l3.length ≤ 500000) := Lib.hid (by rw [hl3, List.length_append, List.length_append]; have h1 := HL2.out; have h2 := eU_len (ns : Int); have h3 := flat_len (enc := stoE) (p.P.take ns) (fun y hy => (enc_small (HPF.out.s.2 y (List.mem_of_mem_take hy))).2.2.1); have h4 : (p.P.take ns).length ≤ 256 := (by rw [List.length_take]; have := HPF.out.s.1; omega); omega)
              have HL3E : Hid (l3 = l2 ++ eL stoE p.P) := Lib.hid (by rw [hl3]; unfold eL; rw [HNS.out, List.take_length, List.append_assoc])
              clear hl3 HQs
              have x8 := (HX1.out.kept HB3x.out).cell (j := 8) rfl
              go_wp2_with (go_at_call 127; refine (rnumber_put _ l3 p.se _ HF3.out.rd (by have := HL3.out; omega) HPF.out.n.2.2.2.2.2).mono ?_; rintro e wz ⟨vz, rfl, hf, hb⟩; have HFZ := Lib.hid (hf.mono (Below.size (below_and HB1.out HB3x.out))); have HBZ := Lib.hid (below_and HB3x.out hb); clear hf hb)
              go_ret
              refine ⟨_, rfl, ?_, below_and HB1.out HBZ.out⟩
              have h9 := HFZ.out
              rw [show l3 ++ eU p.se = bodyP p from by rw [HL3E.out, HL2E.out, HL1E.out, HL0E.out]; unfold bodyP; simp] at h9
              exact h9
            have i3 : i ≤ 256 := by have := HNB.out; omega
            have i0 : (0 : Int) ≤ (i : Int) := by omega
            have i1 : (i : Int) < (ns : Int) := by omega
            have HIL : Hid (i < p.P.length) := Lib.hid (by rw [← HNS.out]; exact him)
            obtain ⟨x, hx⟩ : ∃ x, x = p.P[i]'HIL.out := ⟨_, rfl⟩
            have HFX : Hid (Ft x) := Lib.hid (HPF.out.s.2 x (by rw [hx]; exact List.getElem_mem _))
            obtain ⟨pp, cc, hpp, -, -, hat⟩ := row_el HP.out.s
            rcases hat with hat | ⟨eb, eo, rfl, hat⟩
            · exact absurd (congrArg List.length hat) (by rw [rwC_len (show ∀ z, (stoC z).length = 3 from fun _ => rfl)]; simp; have := HIL.out; omega)
            obtain ⟨hpe, -, -⟩ := Value.slice.inj hpp
            subst hpe
            clear hpp
            have HEC : Hid (∀ w', Below w1.heap.size w1 w' → ∀ (j : Nat) u, (stoC x)[j]? = some u → j < 3 → w'.cell? ⟨eb, eo + (i * 3 + j), none⟩ = some u) := Lib.hid (fun w' hw j u hu hj => cell_kept (hat _ u (by rw [rwC_at (show ∀ z, (stoC z).length = 3 from fun _ => rfl) HIL.out hj, ← hx]; exact hu)) (below_and HB1.out hw))
            have HNX : Hid ((p.P.take (i + 1)).flatMap stoE = (p.P.take i).flatMap stoE ++ stoE x) := Lib.hid (by rw [List.take_succ_eq_append_getElem HIL.out, ← hx, List.flatMap_append]; simp)
            have HFL : Hid ((l2 ++ eU ns ++ (p.P.take i).flatMap stoE).length ≤ 1000000) := Lib.hid (by rw [List.length_append, List.length_append]; have h1 := HL2.out; have h2 := eU_len (ns : Int); have h3 := flat_len (enc := stoE) (p.P.take i) (fun y hy => (enc_small (HPF.out.s.2 y (List.mem_of_mem_take hy))).2.2.1); have h4 : (p.P.take i).length ≤ 256 := (by rw [List.length_take]; have := HPF.out.s.1; omega); omega)
            clear hat hx
            have HSSs : Hid (∀ w', Below w1.heap.size w1 w' → w'.cell? ⟨X, 7, none⟩ = some (.slice (some ⟨eb, eo, none⟩) ns cs) ∧ w'.cell? ⟨eb, eo + i * 3, none⟩ = some (.string (bs x.j)) ∧ w'.cell? ⟨eb, eo + i * 3 + 1, none⟩ = some (.int .i64 x.i) ∧ w'.cell? ⟨eb, eo + i * 3 + 2, none⟩ = some (.int .u64 x.n)) := Lib.hid (fun w' hw => ⟨(HX1.out.kept hw).cell (j := 7) rfl, (by have := HEC.out w' hw 0 _ rfl (by omega); simpa [Nat.add_assoc] using this), (by have := HEC.out w' hw 1 _ rfl (by omega); simpa [Nat.add_assoc] using this), (by have := HEC.out w' hw 2 _ rfl (by omega); simpa [Nat.add_assoc] using this)⟩)
            go_upto_region 18 with fail
            go_region_held3 (fun w' => w'.cell? ⟨X, 7, none⟩ = some (.slice (some ⟨eb, eo, none⟩) ns cs) ∧ w'.cell? ⟨eb, eo + i * 3, none⟩ = some (.string (bs x.j)) ∧ w'.cell? ⟨eb, eo + i * 3 + 1, none⟩ = some (.int .i64 x.i) ∧ w'.cell? ⟨eb, eo + i * 3 + 2, none⟩ = some (.int .u64 x.n))
              ((refine HSSs.out _ ?_ <;> (repeat (first | with_reducible exact HBs1.out | with_reducible exact HQs.out.2 | with_reducible exact Below.refl _ _ | with_reducible apply below_dr))))
              (first
                | (go_at_call 131; refine (rtask_put _ (l2 ++ eU ns ++ (p.P.take i).flatMap stoE) x _ (HQs.out.1.rd.below (by repeat (first | with_reducible exact Below.refl _ _ | with_reducible apply below_dr))) (by have := HFL.out; omega) HFX.out).mono ?_; rintro e ws1 ⟨vs1, rfl, hf, hb⟩; have HBs1 : Hid (Below w1.heap.size w1 ws1) := Lib.hid (below_and (by repeat (first | with_reducible exact HQs.out.2 | with_reducible apply below_dr)) hb); have HFs1 : Hid (Fresh w.heap.size ws1 vs1 (l2 ++ eU ns ++ (p.P.take i).flatMap stoE ++ eK x)) := Lib.hid (hf.mono (Below.size (below_and HB1.out (by repeat (first | with_reducible exact HQs.out.2 | with_reducible apply below_dr))))); clear hf hb))
            go_wp2
            go_roundw
            case rel => exact ⟨i + 1, him, by go_num, Lib.hid ⟨by have h9 := HFs1.out; rw [HNX.out, show stoE x = eK x from rfl]; simpa [List.append_assoc] using h9, HBs1.out⟩⟩
            case measure => simp [intOf]; omega
        have i3 : i ≤ 256 := by have := HNB.out; omega
        have i0 : (0 : Int) ≤ (i : Int) := by omega
        have i1 : (i : Int) < (nt : Int) := by omega
        have HIL : Hid (i < p.T.length) := Lib.hid (by rw [← HNT.out]; exact him)
        obtain ⟨x, hx⟩ : ∃ x, x = p.T[i]'HIL.out := ⟨_, rfl⟩
        have HFX : Hid (Ft x) := Lib.hid (HPF.out.t.2 x (by rw [hx]; exact List.getElem_mem _))
        obtain ⟨pp, cc, hpp, -, -, hat⟩ := row_el HP.out.t
        rcases hat with hat | ⟨eb, eo, rfl, hat⟩
        · exact absurd (congrArg List.length hat) (by rw [rwC_len (show ∀ z, (staC z).length = 8 from fun _ => rfl)]; simp; have := HIL.out; omega)
        obtain ⟨hpe, -, -⟩ := Value.slice.inj hpp
        subst hpe
        clear hpp
        have HEC : Hid (∀ w', Below w1.heap.size w1 w' → ∀ (j : Nat) u, (staC x)[j]? = some u → j < 8 → w'.cell? ⟨eb, eo + (i * 8 + j), none⟩ = some u) := Lib.hid (fun w' hw j u hu hj => cell_kept (hat _ u (by rw [rwC_at (show ∀ z, (staC z).length = 8 from fun _ => rfl) HIL.out hj, ← hx]; exact hu)) (below_and HB1.out hw))
        have HNX : Hid ((p.T.take (i + 1)).flatMap staE = (p.T.take i).flatMap staE ++ staE x) := Lib.hid (by rw [List.take_succ_eq_append_getElem HIL.out, ← hx, List.flatMap_append]; simp)
        have HFL : Hid ((l1 ++ eU nt ++ (p.T.take i).flatMap staE).length ≤ 1000000) := Lib.hid (by rw [List.length_append, List.length_append]; have h1 := HL1.out; have h2 := eU_len (nt : Int); have h3 := flat_len (enc := staE) (p.T.take i) (fun y hy => (enc_small (HPF.out.t.2 y (List.mem_of_mem_take hy))).2.1); have h4 : (p.T.take i).length ≤ 256 := (by rw [List.length_take]; have := HPF.out.t.1; omega); omega)
        clear hat hx
        have ec0 := HEC.out _ HQt.out.2 0 _ rfl (by omega)
        have ec1 := HEC.out _ HQt.out.2 1 _ rfl (by omega)
        have ec2 := HEC.out _ HQt.out.2 2 _ rfl (by omega)
        have ec3 := HEC.out _ HQt.out.2 3 _ rfl (by omega)
        have ec4 := HEC.out _ HQt.out.2 4 _ rfl (by omega)
        have ec5 := HEC.out _ HQt.out.2 5 _ rfl (by omega)
        have ec6 := HEC.out _ HQt.out.2 6 _ rfl (by omega)
        have ec7 := HEC.out _ HQt.out.2 7 _ rfl (by omega)
        simp only [← Nat.add_assoc, Nat.add_zero] at ec0 ec1 ec2 ec3 ec4 ec5 ec6 ec7
        go_upto_region 13 with fail
        obtain ⟨Y, hY⟩ : ∃ Y, Y = wr.heap.size := ⟨_, rfl⟩
        obtain ⟨wy, hwy⟩ : ∃ z, z = wr.alloc (.cells #[.string (bs x.j), .int .i64 x.i, .int .u64 x.n, .int .i64 x.a.c, .int .i64 x.a.r, .int .i64 x.a.d, .int .i64 x.a.p, .string (bs x.s)] 39) := ⟨_, rfl⟩
        have HY : Hid (Blk wy Y [.string (bs x.j), .int .i64 x.i, .int .u64 x.n, .int .i64 x.a.c, .int .i64 x.a.r, .int .i64 x.a.d, .int .i64 x.a.p, .string (bs x.s)] 39) := Lib.hid (by rw [hwy, hY]; exact Blk.made wr [.string (bs x.j), .int .i64 x.i, .int .u64 x.n, .int .i64 x.a.c, .int .i64 x.a.r, .int .i64 x.a.d, .int .i64 x.a.p, .string (bs x.s)] _)
        have HBy : Hid (Below w1.heap.size w1 wy) := Lib.hid (by rw [hwy]; exact below_and HQt.out.2 (below_alloc _ _))
        have HRy := Lib.hid (show Rd wy _ _ from by rw [hwy]; exact HQt.out.1.rd.below (below_alloc _ _))
        rw [← hwy, ← hY]
        clear hwy hY ec0 ec1 ec2 ec3 ec4 ec5 ec6 ec7
        have HSSt : Hid (∀ w', Below wy.heap.size wy w' → w'.cell? ⟨Y, 0, none⟩ = some (.string (bs x.j)) ∧ w'.cell? ⟨Y, 1, none⟩ = some (.int .i64 x.i) ∧ w'.cell? ⟨Y, 2, none⟩ = some (.int .u64 x.n) ∧ w'.cell? ⟨Y, 3, none⟩ = some (.int .i64 x.a.c) ∧ w'.cell? ⟨Y, 4, none⟩ = some (.int .i64 x.a.r) ∧ w'.cell? ⟨Y, 5, none⟩ = some (.int .i64 x.a.d) ∧ w'.cell? ⟨Y, 6, none⟩ = some (.int .i64 x.a.p) ∧ w'.cell? ⟨Y, 7, none⟩ = some (.string (bs x.s))) := Lib.hid (fun w' hw => ⟨(HY.out.kept hw).cell (j := 0) rfl, (HY.out.kept hw).cell (j := 1) rfl, (HY.out.kept hw).cell (j := 2) rfl, (HY.out.kept hw).cell (j := 3) rfl, (HY.out.kept hw).cell (j := 4) rfl, (HY.out.kept hw).cell (j := 5) rfl, (HY.out.kept hw).cell (j := 6) rfl, (HY.out.kept hw).cell (j := 7) rfl⟩)
        have HYR : Hid (Below wy.heap.size wy wy) := Lib.hid (Below.refl _ _)
        go_region_held3 (fun w' => w'.cell? ⟨Y, 0, none⟩ = some (.string (bs x.j)) ∧ w'.cell? ⟨Y, 1, none⟩ = some (.int .i64 x.i) ∧ w'.cell? ⟨Y, 2, none⟩ = some (.int .u64 x.n) ∧ w'.cell? ⟨Y, 3, none⟩ = some (.int .i64 x.a.c) ∧ w'.cell? ⟨Y, 4, none⟩ = some (.int .i64 x.a.r) ∧ w'.cell? ⟨Y, 5, none⟩ = some (.int .i64 x.a.d) ∧ w'.cell? ⟨Y, 6, none⟩ = some (.int .i64 x.a.p) ∧ w'.cell? ⟨Y, 7, none⟩ = some (.string (bs x.s)))
          ((refine HSSt.out _ ?_ <;> (repeat (first | with_reducible exact HBt3.out | with_reducible exact HBt2.out | with_reducible exact HBt1.out | with_reducible exact HYR.out | with_reducible exact Below.refl _ _ | with_reducible apply below_dr))))
          (first
            | (go_at_call 130; refine (rtext_put vt2 (l1 ++ eU nt ++ (p.T.take i).flatMap staE ++ eK x ++ eA x.a) x.s _ (HFt2.out.rd.below (by repeat (first | with_reducible exact Below.refl _ _ | with_reducible apply below_dr))) (by have := HFL.out; have h9 := eK_len x; have h7 := eA_len x.a; have h8 := HFX.out.j; rw [List.length_append, List.length_append]; omega) (by have := HFX.out.s; omega)).mono ?_; rintro e wt3 ⟨vt3, rfl, hf, hb⟩; have HBt3 : Hid (Below wy.heap.size wy wt3) := Lib.hid (below_and (by repeat (first | with_reducible exact HBt2.out | with_reducible apply below_dr)) hb); have HFt3 : Hid (Fresh w.heap.size wt3 vt3 (l1 ++ eU nt ++ (p.T.take i).flatMap staE ++ eK x ++ eA x.a ++ eT x.s)) := Lib.hid (hf.mono (Below.size (below_and (below_and HB1.out HBy.out) (by repeat (first | with_reducible exact HBt2.out | with_reducible apply below_dr))))); clear hf hb)
            | (go_at_call 129; refine (ramounts_put vt1 (l1 ++ eU nt ++ (p.T.take i).flatMap staE ++ eK x) x.a _ (HFt1.out.rd.below (by repeat (first | with_reducible exact Below.refl _ _ | with_reducible apply below_dr))) (by have := HFL.out; have h9 := eK_len x; have h8 := HFX.out.j; rw [List.length_append]; omega) HFX.out.a).mono ?_; rintro e wt2 ⟨vt2, rfl, hf, hb⟩; have HBt2 : Hid (Below wy.heap.size wy wt2) := Lib.hid (below_and (by repeat (first | with_reducible exact HBt1.out | with_reducible apply below_dr)) hb); have HFt2 : Hid (Fresh w.heap.size wt2 vt2 (l1 ++ eU nt ++ (p.T.take i).flatMap staE ++ eK x ++ eA x.a)) := Lib.hid (hf.mono (Below.size (below_and (below_and HB1.out HBy.out) (by repeat (first | with_reducible exact HBt1.out | with_reducible apply below_dr))))); clear hf hb)
            | (go_at_call 131; refine (rtask_put _ (l1 ++ eU nt ++ (p.T.take i).flatMap staE) x _ (HRy.out.below (by repeat (first | with_reducible exact Below.refl _ _ | with_reducible apply below_dr))) (by have := HFL.out; omega) HFX.out).mono ?_; rintro e wt1 ⟨vt1, rfl, hf, hb⟩; have HBt1 : Hid (Below wy.heap.size wy wt1) := Lib.hid (below_and (by repeat (first | with_reducible exact HYR.out | with_reducible apply below_dr)) hb); have HFt1 : Hid (Fresh w.heap.size wt1 vt1 (l1 ++ eU nt ++ (p.T.take i).flatMap staE ++ eK x)) := Lib.hid (hf.mono (Below.size (below_and (below_and HB1.out HBy.out) (by repeat (first | with_reducible exact HYR.out | with_reducible apply below_dr))))); clear hf hb))
        go_wp2
        go_roundw
        case rel => exact ⟨i + 1, him, by go_num, Lib.hid ⟨by have h9 := HFt3.out; rw [HNX.out, show staE x = eK x ++ (eA x.a ++ eT x.s) from rfl]; simpa [List.append_assoc] using h9, below_and HBy.out HBt3.out⟩⟩
        case measure => simp [intOf]; omega
    have i3 : i ≤ 256 := by have := HNB.out; omega
    have i0 : (0 : Int) ≤ (i : Int) := by omega
    have i1 : (i : Int) < (nk : Int) := by omega
    have HIL : Hid (i < p.K.length) := Lib.hid (by rw [← HNK.out]; exact him)
    obtain ⟨x, hx⟩ : ∃ x, x = p.K[i]'HIL.out := ⟨_, rfl⟩
    have HFX : Hid (Ft x) := Lib.hid (HPF.out.k.2 x (by rw [hx]; exact List.getElem_mem _))
    obtain ⟨pp, cc, hpp, -, -, hat⟩ := row_el HP.out.k
    rcases hat with hat | ⟨eb, eo, rfl, hat⟩
    · exact absurd (congrArg List.length hat) (by rw [rwC_len (show ∀ z, (envC z).length = 5 from fun _ => rfl)]; simp; have := HIL.out; omega)
    obtain ⟨hpe, -, -⟩ := Value.slice.inj hpp
    subst hpe
    clear hpp
    have HEC : Hid (∀ w', Below w1.heap.size w1 w' → ∀ (j : Nat) u, (envC x)[j]? = some u → j < 5 → w'.cell? ⟨eb, eo + (i * 5 + j), none⟩ = some u) := Lib.hid (fun w' hw j u hu hj => cell_kept (hat _ u (by rw [rwC_at (show ∀ z, (envC z).length = 5 from fun _ => rfl) HIL.out hj, ← hx]; exact hu)) (below_and HB1.out hw))
    have HNX : Hid ((p.K.take (i + 1)).flatMap envE = (p.K.take i).flatMap envE ++ envE x) := Lib.hid (by rw [List.take_succ_eq_append_getElem HIL.out, ← hx, List.flatMap_append]; simp)
    have HFL : Hid ((l0 ++ eU nk ++ (p.K.take i).flatMap envE).length ≤ 1000000) := Lib.hid (by rw [List.length_append, List.length_append]; have h1 := HL0.out; have h2 := eU_len (nk : Int); have h3 := flat_len (enc := envE) (p.K.take i) (fun y hy => (enc_small (HPF.out.k.2 y (List.mem_of_mem_take hy))).1); have h4 : (p.K.take i).length ≤ 256 := (by rw [List.length_take]; have := HPF.out.k.1; omega); omega)
    clear hat hx
    have HSSk : Hid (∀ w', Below w1.heap.size w1 w' → w'.cell? ⟨X, 5, none⟩ = some (.slice (some ⟨eb, eo, none⟩) nk ck) ∧ w'.cell? ⟨eb, eo + i * 5, none⟩ = some (.string (bs x.j)) ∧ w'.cell? ⟨eb, eo + i * 5 + 1, none⟩ = some (.int .i64 x.a.c) ∧ w'.cell? ⟨eb, eo + i * 5 + 2, none⟩ = some (.int .i64 x.a.r) ∧ w'.cell? ⟨eb, eo + i * 5 + 3, none⟩ = some (.int .i64 x.a.d) ∧ w'.cell? ⟨eb, eo + i * 5 + 4, none⟩ = some (.int .i64 x.a.p)) := Lib.hid (fun w' hw => ⟨(HX1.out.kept hw).cell (j := 5) rfl, (by have := HEC.out w' hw 0 _ rfl (by omega); simpa [Nat.add_assoc] using this), (by have := HEC.out w' hw 1 _ rfl (by omega); simpa [Nat.add_assoc] using this), (by have := HEC.out w' hw 2 _ rfl (by omega); simpa [Nat.add_assoc] using this), (by have := HEC.out w' hw 3 _ rfl (by omega); simpa [Nat.add_assoc] using this), (by have := HEC.out w' hw 4 _ rfl (by omega); simpa [Nat.add_assoc] using this)⟩)
    go_upto_region 7 with fail
    go_region_held3 (fun w' => w'.cell? ⟨X, 5, none⟩ = some (.slice (some ⟨eb, eo, none⟩) nk ck) ∧ w'.cell? ⟨eb, eo + i * 5, none⟩ = some (.string (bs x.j)) ∧ w'.cell? ⟨eb, eo + i * 5 + 1, none⟩ = some (.int .i64 x.a.c) ∧ w'.cell? ⟨eb, eo + i * 5 + 2, none⟩ = some (.int .i64 x.a.r) ∧ w'.cell? ⟨eb, eo + i * 5 + 3, none⟩ = some (.int .i64 x.a.d) ∧ w'.cell? ⟨eb, eo + i * 5 + 4, none⟩ = some (.int .i64 x.a.p))
      ((refine HSSk.out _ ?_ <;> (repeat (first | with_reducible exact HBk2.out | with_reducible exact HBk1.out | with_reducible exact HQk.out.2 | with_reducible exact Below.refl _ _ | with_reducible apply below_dr))))
      (first
        | (go_at_call 129; refine (ramounts_put vk1 (l0 ++ eU nk ++ (p.K.take i).flatMap envE ++ eT x.j) x.a _ (HFk1.out.rd.below (by repeat (first | with_reducible exact Below.refl _ _ | with_reducible apply below_dr))) (by have := HFL.out; have h9 := eT_len x.j; have h8 := HFX.out.j; rw [List.length_append]; omega) HFX.out.a).mono ?_; rintro e wk2 ⟨vk2, rfl, hf, hb⟩; have HBk2 : Hid (Below w1.heap.size w1 wk2) := Lib.hid (below_and (by repeat (first | with_reducible exact HBk1.out | with_reducible apply below_dr)) hb); have HFk2 : Hid (Fresh w.heap.size wk2 vk2 (l0 ++ eU nk ++ (p.K.take i).flatMap envE ++ eT x.j ++ eA x.a)) := Lib.hid (hf.mono (Below.size (below_and HB1.out (by repeat (first | with_reducible exact HBk1.out | with_reducible apply below_dr))))); clear hf hb)
        | (go_at_call 130; refine (rtext_put _ (l0 ++ eU nk ++ (p.K.take i).flatMap envE) x.j _ (HQk.out.1.rd.below (by repeat (first | with_reducible exact Below.refl _ _ | with_reducible apply below_dr))) (by have := HFL.out; omega) (by have := HFX.out.j; omega)).mono ?_; rintro e wk1 ⟨vk1, rfl, hf, hb⟩; have HBk1 : Hid (Below w1.heap.size w1 wk1) := Lib.hid (below_and (by repeat (first | with_reducible exact HQk.out.2 | with_reducible apply below_dr)) hb); have HFk1 : Hid (Fresh w.heap.size wk1 vk1 (l0 ++ eU nk ++ (p.K.take i).flatMap envE ++ eT x.j)) := Lib.hid (hf.mono (Below.size (below_and HB1.out (by repeat (first | with_reducible exact HQk.out.2 | with_reducible apply below_dr))))); clear hf hb))
    go_wp2
    go_roundw
    case rel => exact ⟨i + 1, him, by go_num, Lib.hid ⟨by have h9 := HFk2.out; rw [HNX.out, show envE x = eT x.j ++ eA x.a from rfl]; simpa [List.append_assoc] using h9, HBk2.out⟩⟩
    case measure => simp [intOf]; omega
end Go.Proofs.YtopkfomlppnpeaaGreatDoor.Ms

namespace Go.Proofs.YtopkfomlppnpeaaGreatDoor.Ms
open Go.RowKit Go.Proofs.YtopkfomlppnpeaaGreatDoor

set_option maxRecDepth 100000 in
set_option maxHeartbeats 4000000 in
theorem rbody_any (p : Rp) (vk vt vs : Value) (w : World) (h : RpW w p vk vt vs) (hf : RpF p) : Calls Tryz.prog 88 #[rpV p vk vt vs] w fun e w' => ∃ v', e = .returned v' ∧ Fresh w.heap.size w' v' (bodyR p) ∧ Below w.heap.size w w' := by
  obtain ⟨pk, ck, rfl, -⟩ := row_el h.k
  obtain ⟨pt, ct, rfl, -⟩ := row_el h.t
  obtain ⟨ps, cs, rfl, -⟩ := row_el h.s
  obtain ⟨nk, hnk⟩ : ∃ n, n = p.H.length := ⟨_, rfl⟩
  obtain ⟨nt, hnt⟩ : ∃ n, n = p.F.length := ⟨_, rfl⟩
  obtain ⟨ns, hns⟩ : ∃ n, n = p.R.length := ⟨_, rfl⟩
  have HP : Hid (RpW w p (.slice pk nk ck) (.slice pt nt ct) (.slice ps ns cs)) := Lib.hid (by rw [hnk, hnt, hns]; exact h)
  have HPF := Lib.hid hf
  have HNK := Lib.hid hnk
  have HNT := Lib.hid hnt
  have HNS := Lib.hid hns
  rw [← hnk, ← hnt, ← hns]
  clear h hf hnk hnt hns
  obtain ⟨X, hX⟩ : ∃ X, X = w.heap.size := ⟨_, rfl⟩
  obtain ⟨w1, hw1⟩ : ∃ w1, w1 = w.alloc (.cells #[.int .u64 p.ep, .int .u64 p.sq, .int .u64 p.bo, .int .i64 p.at_, .slice pk nk ck, .slice pt nt ct, .slice ps ns cs] 44) := ⟨_, rfl⟩
  have HX1 : Hid (Blk w1 X [.int .u64 p.ep, .int .u64 p.sq, .int .u64 p.bo, .int .i64 p.at_, .slice pk nk ck, .slice pt nt ct, .slice ps ns cs] 44) := Lib.hid (by rw [hw1, hX]; exact Blk.made w [.int .u64 p.ep, .int .u64 p.sq, .int .u64 p.bo, .int .i64 p.at_, .slice pk nk ck, .slice pt nt ct, .slice ps ns cs] _)
  have HB1 : Hid (Below w.heap.size w w1) := Lib.hid (by rw [hw1]; exact below_alloc _ _)
  have HRF : Hid (Below w1.heap.size w1 w1) := Lib.hid (Below.refl _ _)
  have HR0 : Hid (Rd w1 (.slice none 0 0) []) := Lib.hid (rd_nil _)
  have L1 : Hid (([] ++ eU p.ep).length ≤ 100000000000 ∧ ([] ++ eU p.ep ++ eU p.sq).length ≤ 100000000000 ∧ ([] ++ eU p.ep ++ eU p.sq ++ eU p.bo).length ≤ 100000000000) := Lib.hid (by simp only [List.length_append]; have h1 := eU_len p.ep; have h2 := eU_len p.sq; have h3 := eU_len p.bo; simp; omega)
  have N1 : Hid (-9223372036854775808 ≤ p.at_ ∧ p.at_ < 9223372036854775808) := Lib.hid (by have h1 := HPF.out.n.2.2.2; omega)
  go_enter Tryz.func88, Tryz.ntmps88
  go_upto_region 1 with fail
  rw [← hw1, ← hX]
  clear hw1 hX
  have HSSa : Hid (∀ w', Below w1.heap.size w1 w' → w'.cell? ⟨X, 0, none⟩ = some (.int .u64 p.ep) ∧ w'.cell? ⟨X, 1, none⟩ = some (.int .u64 p.sq) ∧ w'.cell? ⟨X, 2, none⟩ = some (.int .u64 p.bo)) := Lib.hid (fun w' hw => ⟨(HX1.out.kept hw).cell (j := 0) rfl, (HX1.out.kept hw).cell (j := 1) rfl, (HX1.out.kept hw).cell (j := 2) rfl⟩)
  go_region_held3 (fun w' => w'.cell? ⟨X, 0, none⟩ = some (.int .u64 p.ep) ∧ w'.cell? ⟨X, 1, none⟩ = some (.int .u64 p.sq) ∧ w'.cell? ⟨X, 2, none⟩ = some (.int .u64 p.bo))
    ((refine HSSa.out _ ?_ <;> (repeat (first | with_reducible exact HBa3.out | with_reducible exact HBa2.out | with_reducible exact HBa1.out | with_reducible exact HRF.out | with_reducible exact Below.refl _ _ | with_reducible apply below_dr))))
    (first
      | (go_at_call 127; refine (rnumber_put va2 ([] ++ eU p.ep ++ eU p.sq) p.bo _ (HFa2.out.rd.below (by repeat (first | with_reducible exact Below.refl _ _ | with_reducible apply below_dr))) L1.out.2.1 HPF.out.n.2.2.1).mono ?_; rintro e wa3 ⟨va3, rfl, hf, hb⟩; have HBa3 : Hid (Below w1.heap.size w1 wa3) := Lib.hid (below_and (by repeat (first | with_reducible exact HBa2.out | with_reducible apply below_dr)) hb); have HFa3 : Hid (Fresh w.heap.size wa3 va3 ([] ++ eU p.ep ++ eU p.sq ++ eU p.bo)) := Lib.hid (hf.mono (Below.size (below_and HB1.out (by repeat (first | with_reducible exact HBa2.out | with_reducible apply below_dr))))); clear hf hb)
      | (go_at_call 127; refine (rnumber_put va1 ([] ++ eU p.ep) p.sq _ (HFa1.out.rd.below (by repeat (first | with_reducible exact Below.refl _ _ | with_reducible apply below_dr))) L1.out.1 HPF.out.n.2.1).mono ?_; rintro e wa2 ⟨va2, rfl, hf, hb⟩; have HBa2 : Hid (Below w1.heap.size w1 wa2) := Lib.hid (below_and (by repeat (first | with_reducible exact HBa1.out | with_reducible apply below_dr)) hb); have HFa2 : Hid (Fresh w.heap.size wa2 va2 ([] ++ eU p.ep ++ eU p.sq)) := Lib.hid (hf.mono (Below.size (below_and HB1.out (by repeat (first | with_reducible exact HBa1.out | with_reducible apply below_dr))))); clear hf hb)
      | (go_at_call 127; refine (rnumber_put (.slice none 0 0) ([]) p.ep _ (HR0.out.below (by repeat (first | with_reducible exact Below.refl _ _ | with_reducible apply below_dr))) (by simp) HPF.out.n.1.1).mono ?_; rintro e wa1 ⟨va1, rfl, hf, hb⟩; have HBa1 : Hid (Below w1.heap.size w1 wa1) := Lib.hid (below_and (by repeat (first | with_reducible exact HRF.out | with_reducible apply below_dr)) hb); have HFa1 : Hid (Fresh w.heap.size wa1 va1 ([] ++ eU p.ep)) := Lib.hid (hf.mono (Below.size (below_and HB1.out (by repeat (first | with_reducible exact HRF.out | with_reducible apply below_dr))))); clear hf hb))
  have xb3 := (HX1.out.kept HBa3.out).cell (j := 3) rfl
  go_upto_region 3 with (go_at_call 128; refine (rint_put va3 _ p.at_ _ HFa3.out.rd L1.out.2.2 N1.out).mono ?_; rintro e wb2 ⟨vb2, rfl, hf, hb⟩; have HBb2 : Hid (Below w1.heap.size w1 wb2) := Lib.hid (below_and HBa3.out hb); have HFb2 := Lib.hid (hf.mono (Below.size (below_and HB1.out HBa3.out))); clear hf hb)
  clear xb3
  obtain ⟨l0, hl0⟩ : ∃ l0, l0 = ([] ++ eU p.ep ++ eU p.sq ++ eU p.bo ++ eI p.at_) := ⟨_, rfl⟩
  have HF0 : Hid (Fresh w.heap.size wb2 vb2 l0) := Lib.hid (by rw [hl0]; exact HFb2.out)
  have HL0 : Hid (l0.length ≤ 60) := Lib.hid (by rw [hl0]; simp only [List.length_append]; have h1 := eU_len p.ep; have h2 := eU_len p.sq; have h3 := eU_len p.bo; have h4 := eI_len p.at_; simp; omega)
  have HL0E := Lib.hid hl0
  clear hl0 HFb2
  have HNB : Hid (nk ≤ 256 ∧ nt ≤ 256 ∧ ns ≤ 256) := Lib.hid (by have h1 := HPF.out.k.1; have h2 := HPF.out.t.1; have h3 := HPF.out.s.1; have := HNK.out; have := HNT.out; have := HNS.out; omega)
  have gnk : IntKind.u64.wrap (nk : Int) = (nk : Int) := by have := HNB.out; rw [IntKind.wrap_u64]; omega
  have gnt : IntKind.u64.wrap (nt : Int) = (nt : Int) := by have := HNB.out; rw [IntKind.wrap_u64]; omega
  have gns : IntKind.u64.wrap (ns : Int) = (ns : Int) := by have := HNB.out; rw [IntKind.wrap_u64]; omega
  have mnk : (nk : Int) % 18446744073709551616 = (nk : Int) := by have := HNB.out; omega
  have mnt : (nt : Int) % 18446744073709551616 = (nt : Int) := by have := HNB.out; omega
  have mns : (ns : Int) % 18446744073709551616 = (ns : Int) := by have := HNB.out; omega
  have xxk := (HX1.out.kept HBb2.out).cell (j := 4) rfl
  go_upto_region 5 with (go_at_call 127; refine (rnumber_put vb2 l0 nk _ HF0.out.rd (by have := HL0.out; omega) (by have := HNB.out; omega)).mono ?_; rintro e wk0 ⟨vk0, rfl, hf, hb⟩; have HBk0 : Hid (Below w1.heap.size w1 wk0) := Lib.hid (below_and HBb2.out hb); have HFk0 : Hid (Fresh w.heap.size wk0 vk0 (l0 ++ eU nk)) := Lib.hid (hf.mono (Below.size (below_and HB1.out HBb2.out))); clear hf hb)
  clear xxk
  go_loopw [3, 4] (fun vb vi wr => ∃ i : Nat, i ≤ nk ∧ vi = .int .i64 i ∧ Hid (Fresh w.heap.size wr vb (l0 ++ eU nk ++ (p.H.take i).flatMap helE) ∧ Below w1.heap.size w1 wr)) (fun _ vi _ => nk - (intOf vi).toNat)
  case atStart => exact ⟨0, Nat.zero_le _, by go_num, Lib.hid ⟨by simpa using HFk0.out, HBk0.out⟩⟩
  case round =>
    obtain ⟨i, hi, rfl, HQk⟩ := hrel
    have xx := (HX1.out.kept HQk.out.2).cell (j := 4) rfl
    by_cases him : i < nk
    rotate_left
    · have hin : nk = i := by omega
      subst hin
      obtain ⟨l1, hl1⟩ : ∃ l, l = l0 ++ eU nk ++ (p.H.take nk).flatMap helE := ⟨_, rfl⟩
      have HF1 := Lib.hid HQk.out.1
      have HB1x := Lib.hid HQk.out.2
      rw [← hl1] at HF1
      have HL1 : Hid (l1.length ≤ 100000) := Lib.hid (by rw [hl1, List.length_append, List.length_append]; have h1 := HL0.out; have h2 := eU_len (nk : Int); have h3 := flat_len (enc := helE) (p.H.take nk) (fun y hy => (enc_small (HPF.out.k.2 y (List.mem_of_mem_take hy))).2.2.2.1); have h4 : (p.H.take nk).length ≤ 256 := (by rw [List.length_take]; have := HPF.out.k.1; omega); omega)
      have HL1E : Hid (l1 = l0 ++ eL helE p.H) := Lib.hid (by rw [hl1]; unfold eL; rw [HNK.out, List.take_length, List.append_assoc])
      clear hl1 HQk
      have xxt := (HX1.out.kept HB1x.out).cell (j := 5) rfl
      go_upto_region 11 with (go_at_call 127; refine (rnumber_put _ l1 nt _ HF1.out.rd (by have := HL1.out; omega) (by have := HNB.out; omega)).mono ?_; rintro e wt0 ⟨vt0, rfl, hf, hb⟩; have HBt0 : Hid (Below w1.heap.size w1 wt0) := Lib.hid (below_and HB1x.out hb); have HFt0 : Hid (Fresh w.heap.size wt0 vt0 (l1 ++ eU nt)) := Lib.hid (hf.mono (Below.size (below_and HB1.out HB1x.out))); clear hf hb)
      clear xxt
      go_loopw [3, 6] (fun vb vi wr => ∃ i : Nat, i ≤ nt ∧ vi = .int .i64 i ∧ Hid (Fresh w.heap.size wr vb (l1 ++ eU nt ++ (p.F.take i).flatMap finE) ∧ Below w1.heap.size w1 wr)) (fun _ vi _ => nt - (intOf vi).toNat)
      case atStart => exact ⟨0, Nat.zero_le _, by go_num, Lib.hid ⟨by simpa using HFt0.out, HBt0.out⟩⟩
      case round =>
        obtain ⟨i, hi, rfl, HQt⟩ := hrel
        have xx := (HX1.out.kept HQt.out.2).cell (j := 5) rfl
        by_cases him : i < nt
        rotate_left
        · have hin : nt = i := by omega
          subst hin
          obtain ⟨l2, hl2⟩ : ∃ l, l = l1 ++ eU nt ++ (p.F.take nt).flatMap finE := ⟨_, rfl⟩
          have HF2 := Lib.hid HQt.out.1
          have HB2x := Lib.hid HQt.out.2
          rw [← hl2] at HF2
          have HL2 : Hid (l2.length ≤ 300000) := Lib.hid (by rw [hl2, List.length_append, List.length_append]; have h1 := HL1.out; have h2 := eU_len (nt : Int); have h3 := flat_len (enc := finE) (p.F.take nt) (fun y hy => (enc_small (HPF.out.t.2 y (List.mem_of_mem_take hy))).2.2.2.2.1); have h4 : (p.F.take nt).length ≤ 256 := (by rw [List.length_take]; have := HPF.out.t.1; omega); omega)
          have HL2E : Hid (l2 = l1 ++ eL finE p.F) := Lib.hid (by rw [hl2]; unfold eL; rw [HNT.out, List.take_length, List.append_assoc])
          clear hl2 HQt
          have xxs := (HX1.out.kept HB2x.out).cell (j := 6) rfl
          go_upto_region 17 with (go_at_call 127; refine (rnumber_put _ l2 ns _ HF2.out.rd (by have := HL2.out; omega) (by have := HNB.out; omega)).mono ?_; rintro e ws0 ⟨vs0, rfl, hf, hb⟩; have HBs0 : Hid (Below w1.heap.size w1 ws0) := Lib.hid (below_and HB2x.out hb); have HFs0 : Hid (Fresh w.heap.size ws0 vs0 (l2 ++ eU ns)) := Lib.hid (hf.mono (Below.size (below_and HB1.out HB2x.out))); clear hf hb)
          clear xxs
          go_loopw [3, 8] (fun vb vi wr => ∃ i : Nat, i ≤ ns ∧ vi = .int .i64 i ∧ Hid (Fresh w.heap.size wr vb (l2 ++ eU ns ++ (p.R.take i).flatMap refE) ∧ Below w1.heap.size w1 wr)) (fun _ vi _ => ns - (intOf vi).toNat)
          case atStart => exact ⟨0, Nat.zero_le _, by go_num, Lib.hid ⟨by simpa using HFs0.out, HBs0.out⟩⟩
          case round =>
            obtain ⟨i, hi, rfl, HQs⟩ := hrel
            have xx := (HX1.out.kept HQs.out.2).cell (j := 6) rfl
            by_cases him : i < ns
            rotate_left
            · have hin : ns = i := by omega
              subst hin
              obtain ⟨l3, hl3⟩ : ∃ l, l = l2 ++ eU ns ++ (p.R.take ns).flatMap refE := ⟨_, rfl⟩
              have HF3 := Lib.hid HQs.out.1
              have HB3x := Lib.hid HQs.out.2
              rw [← hl3] at HF3
              have HL3 : Hid (l3.length ≤ 500000) := Lib.hid (by rw [hl3, List.length_append, List.length_append]; have h1 := HL2.out; have h2 := eU_len (ns : Int); have h3 := flat_len (enc := refE) (p.R.take ns) (fun y hy => (enc_small (HPF.out.s.2 y (List.mem_of_mem_take hy))).2.2.2.2.2); have h4 : (p.R.take ns).length ≤ 256 := (by rw [List.length_take]; have := HPF.out.s.1; omega); omega)
              have HL3E : Hid (l3 = l2 ++ eL refE p.R) := Lib.hid (by rw [hl3]; unfold eL; rw [HNS.out, List.take_length, List.append_assoc])
              clear hl3 HQs
              go_wp2
              go_ret
              refine ⟨_, rfl, ?_, below_and HB1.out HB3x.out⟩
              have h9 := HF3.out
              rw [show l3 = bodyR p from by rw [HL3E.out, HL2E.out, HL1E.out, HL0E.out]; unfold bodyR; simp] at h9
              exact h9
            have i3 : i ≤ 256 := by have := HNB.out; omega
            have i0 : (0 : Int) ≤ (i : Int) := by omega
            have i1 : (i : Int) < (ns : Int) := by omega
            have HIL : Hid (i < p.R.length) := Lib.hid (by rw [← HNS.out]; exact him)
            obtain ⟨x, hx⟩ : ∃ x, x = p.R[i]'HIL.out := ⟨_, rfl⟩
            have HFX : Hid (Ft x) := Lib.hid (HPF.out.s.2 x (by rw [hx]; exact List.getElem_mem _))
            obtain ⟨pp, cc, hpp, -, -, hat⟩ := row_el HP.out.s
            rcases hat with hat | ⟨eb, eo, rfl, hat⟩
            · exact absurd (congrArg List.length hat) (by rw [rwC_len (show ∀ z, (refC z).length = 4 from fun _ => rfl)]; simp; have := HIL.out; omega)
            obtain ⟨hpe, -, -⟩ := Value.slice.inj hpp
            subst hpe
            clear hpp
            have HEC : Hid (∀ w', Below w1.heap.size w1 w' → ∀ (j : Nat) u, (refC x)[j]? = some u → j < 4 → w'.cell? ⟨eb, eo + (i * 4 + j), none⟩ = some u) := Lib.hid (fun w' hw j u hu hj => cell_kept (hat _ u (by rw [rwC_at (show ∀ z, (refC z).length = 4 from fun _ => rfl) HIL.out hj, ← hx]; exact hu)) (below_and HB1.out hw))
            have HNX : Hid ((p.R.take (i + 1)).flatMap refE = (p.R.take i).flatMap refE ++ refE x) := Lib.hid (by rw [List.take_succ_eq_append_getElem HIL.out, ← hx, List.flatMap_append]; simp)
            have HFL : Hid ((l2 ++ eU ns ++ (p.R.take i).flatMap refE).length ≤ 1000000) := Lib.hid (by rw [List.length_append, List.length_append]; have h1 := HL2.out; have h2 := eU_len (ns : Int); have h3 := flat_len (enc := refE) (p.R.take i) (fun y hy => (enc_small (HPF.out.s.2 y (List.mem_of_mem_take hy))).2.2.2.2.2); have h4 : (p.R.take i).length ≤ 256 := (by rw [List.length_take]; have := HPF.out.s.1; omega); omega)
            clear hat hx
            have ec0 := HEC.out _ HQs.out.2 0 _ rfl (by omega)
            have ec1 := HEC.out _ HQs.out.2 1 _ rfl (by omega)
            have ec2 := HEC.out _ HQs.out.2 2 _ rfl (by omega)
            have ec3 := HEC.out _ HQs.out.2 3 _ rfl (by omega)
            simp only [← Nat.add_assoc, Nat.add_zero] at ec0 ec1 ec2 ec3
            go_upto_region 20 with fail
            obtain ⟨Y, hY⟩ : ∃ Y, Y = wr.heap.size := ⟨_, rfl⟩
            obtain ⟨wy, hwy⟩ : ∃ z, z = wr.alloc (.cells #[.string (bs x.j), .int .i64 x.i, .int .u64 x.n, .int .i64 x.q] 99) := ⟨_, rfl⟩
            have HY : Hid (Blk wy Y [.string (bs x.j), .int .i64 x.i, .int .u64 x.n, .int .i64 x.q] 99) := Lib.hid (by rw [hwy, hY]; exact Blk.made wr [.string (bs x.j), .int .i64 x.i, .int .u64 x.n, .int .i64 x.q] _)
            have HBy : Hid (Below w1.heap.size w1 wy) := Lib.hid (by rw [hwy]; exact below_and HQs.out.2 (below_alloc _ _))
            have HRy := Lib.hid (show Rd wy _ _ from by rw [hwy]; exact HQs.out.1.rd.below (below_alloc _ _))
            rw [← hwy, ← hY]
            clear hwy hY ec0 ec1 ec2 ec3
            have ew : IntKind.u64.wrap x.q = x.q := by have := HFX.out.q; rw [IntKind.wrap_u64]; omega
            have em : x.q % 18446744073709551616 = x.q := by have := HFX.out.q; omega
            have HQB : Hid (0 ≤ x.q ∧ x.q < 18446744073709551616) := Lib.hid (by have := HFX.out.q; omega)
            have HSSs : Hid (∀ w', Below wy.heap.size wy w' → w'.cell? ⟨Y, 0, none⟩ = some (.string (bs x.j)) ∧ w'.cell? ⟨Y, 1, none⟩ = some (.int .i64 x.i) ∧ w'.cell? ⟨Y, 2, none⟩ = some (.int .u64 x.n) ∧ w'.cell? ⟨Y, 3, none⟩ = some (.int .i64 x.q)) := Lib.hid (fun w' hw => ⟨(HY.out.kept hw).cell (j := 0) rfl, (HY.out.kept hw).cell (j := 1) rfl, (HY.out.kept hw).cell (j := 2) rfl, (HY.out.kept hw).cell (j := 3) rfl⟩)
            have HYR : Hid (Below wy.heap.size wy wy) := Lib.hid (Below.refl _ _)
            go_region_held3 (fun w' => w'.cell? ⟨Y, 0, none⟩ = some (.string (bs x.j)) ∧ w'.cell? ⟨Y, 1, none⟩ = some (.int .i64 x.i) ∧ w'.cell? ⟨Y, 2, none⟩ = some (.int .u64 x.n) ∧ w'.cell? ⟨Y, 3, none⟩ = some (.int .i64 x.q))
              ((refine HSSs.out _ ?_ <;> (repeat (first | with_reducible exact HBs2.out | with_reducible exact HBs1.out | with_reducible exact HYR.out | with_reducible exact Below.refl _ _ | with_reducible apply below_dr))))
              (first
                | (go_at_call 127; refine (rnumber_put vs1 (l2 ++ eU ns ++ (p.R.take i).flatMap refE ++ eK x) x.q _ (HFs1.out.rd.below (by repeat (first | with_reducible exact Below.refl _ _ | with_reducible apply below_dr))) (by have := HFL.out; have h9 := eK_len x; have h8 := HFX.out.j; have h7 := eU_len x.k; have h6 := eU_len x.q; simp only [List.length_append] at *; omega) HQB.out).mono ?_; rintro e ws2 ⟨vs2, rfl, hf, hb⟩; have HBs2 : Hid (Below wy.heap.size wy ws2) := Lib.hid (below_and (by repeat (first | with_reducible exact HBs1.out | with_reducible apply below_dr)) hb); have HFs2 : Hid (Fresh w.heap.size ws2 vs2 (l2 ++ eU ns ++ (p.R.take i).flatMap refE ++ eK x ++ eU x.q)) := Lib.hid (hf.mono (Below.size (below_and (below_and HB1.out HBy.out) (by repeat (first | with_reducible exact HBs1.out | with_reducible apply below_dr))))); clear hf hb)
                | (go_at_call 131; refine (rtask_put _ (l2 ++ eU ns ++ (p.R.take i).flatMap refE) x _ (HRy.out.below (by repeat (first | with_reducible exact Below.refl _ _ | with_reducible apply below_dr))) (by have := HFL.out; have h9 := eK_len x; have h8 := HFX.out.j; have h7 := eU_len x.k; have h6 := eU_len x.q; simp only [List.length_append] at *; omega) HFX.out).mono ?_; rintro e ws1 ⟨vs1, rfl, hf, hb⟩; have HBs1 : Hid (Below wy.heap.size wy ws1) := Lib.hid (below_and (by repeat (first | with_reducible exact HYR.out | with_reducible apply below_dr)) hb); have HFs1 : Hid (Fresh w.heap.size ws1 vs1 (l2 ++ eU ns ++ (p.R.take i).flatMap refE ++ eK x)) := Lib.hid (hf.mono (Below.size (below_and (below_and HB1.out HBy.out) (by repeat (first | with_reducible exact HYR.out | with_reducible apply below_dr))))); clear hf hb))
            go_wp2
            go_roundw
            case rel => exact ⟨i + 1, him, by go_num, Lib.hid ⟨by have h9 := HFs2.out; rw [HNX.out, show refE x = eK x ++ eU x.q from rfl]; simpa [List.append_assoc] using h9, below_and HBy.out HBs2.out⟩⟩
            case measure => simp [intOf]; omega
        have i3 : i ≤ 256 := by have := HNB.out; omega
        have i0 : (0 : Int) ≤ (i : Int) := by omega
        have i1 : (i : Int) < (nt : Int) := by omega
        have HIL : Hid (i < p.F.length) := Lib.hid (by rw [← HNT.out]; exact him)
        obtain ⟨x, hx⟩ : ∃ x, x = p.F[i]'HIL.out := ⟨_, rfl⟩
        have HFX : Hid (Ft x) := Lib.hid (HPF.out.t.2 x (by rw [hx]; exact List.getElem_mem _))
        obtain ⟨pp, cc, hpp, -, -, hat⟩ := row_el HP.out.t
        rcases hat with hat | ⟨eb, eo, rfl, hat⟩
        · exact absurd (congrArg List.length hat) (by rw [rwC_len (show ∀ z, (finC z).length = 5 from fun _ => rfl)]; simp; have := HIL.out; omega)
        obtain ⟨hpe, -, -⟩ := Value.slice.inj hpp
        subst hpe
        clear hpp
        have HEC : Hid (∀ w', Below w1.heap.size w1 w' → ∀ (j : Nat) u, (finC x)[j]? = some u → j < 5 → w'.cell? ⟨eb, eo + (i * 5 + j), none⟩ = some u) := Lib.hid (fun w' hw j u hu hj => cell_kept (hat _ u (by rw [rwC_at (show ∀ z, (finC z).length = 5 from fun _ => rfl) HIL.out hj, ← hx]; exact hu)) (below_and HB1.out hw))
        have HNX : Hid ((p.F.take (i + 1)).flatMap finE = (p.F.take i).flatMap finE ++ finE x) := Lib.hid (by rw [List.take_succ_eq_append_getElem HIL.out, ← hx, List.flatMap_append]; simp)
        have HFL : Hid ((l1 ++ eU nt ++ (p.F.take i).flatMap finE).length ≤ 1000000) := Lib.hid (by rw [List.length_append, List.length_append]; have h1 := HL1.out; have h2 := eU_len (nt : Int); have h3 := flat_len (enc := finE) (p.F.take i) (fun y hy => (enc_small (HPF.out.t.2 y (List.mem_of_mem_take hy))).2.2.2.2.1); have h4 : (p.F.take i).length ≤ 256 := (by rw [List.length_take]; have := HPF.out.t.1; omega); omega)
        clear hat hx
        have ec0 := HEC.out _ HQt.out.2 0 _ rfl (by omega)
        have ec1 := HEC.out _ HQt.out.2 1 _ rfl (by omega)
        have ec2 := HEC.out _ HQt.out.2 2 _ rfl (by omega)
        have ec3 := HEC.out _ HQt.out.2 3 _ rfl (by omega)
        have ec4 := HEC.out _ HQt.out.2 4 _ rfl (by omega)
        simp only [← Nat.add_assoc, Nat.add_zero] at ec0 ec1 ec2 ec3 ec4
        go_upto_region 14 with fail
        obtain ⟨Y, hY⟩ : ∃ Y, Y = wr.heap.size := ⟨_, rfl⟩
        obtain ⟨wy, hwy⟩ : ∃ z, z = wr.alloc (.cells #[.int .u64 x.k, .string (bs x.j), .int .i64 x.i, .int .u64 x.n, .int .i64 x.q] 95) := ⟨_, rfl⟩
        have HY : Hid (Blk wy Y [.int .u64 x.k, .string (bs x.j), .int .i64 x.i, .int .u64 x.n, .int .i64 x.q] 95) := Lib.hid (by rw [hwy, hY]; exact Blk.made wr [.int .u64 x.k, .string (bs x.j), .int .i64 x.i, .int .u64 x.n, .int .i64 x.q] _)
        have HBy : Hid (Below w1.heap.size w1 wy) := Lib.hid (by rw [hwy]; exact below_and HQt.out.2 (below_alloc _ _))
        have HRy := Lib.hid (show Rd wy _ _ from by rw [hwy]; exact HQt.out.1.rd.below (below_alloc _ _))
        rw [← hwy, ← hY]
        clear hwy hY ec0 ec1 ec2 ec3 ec4
        have ew : IntKind.u64.wrap x.q = x.q := by have := HFX.out.q; rw [IntKind.wrap_u64]; omega
        have em : x.q % 18446744073709551616 = x.q := by have := HFX.out.q; omega
        have HQB : Hid (0 ≤ x.q ∧ x.q < 18446744073709551616) := Lib.hid (by have := HFX.out.q; omega)
        have HSSt : Hid (∀ w', Below wy.heap.size wy w' → w'.cell? ⟨Y, 0, none⟩ = some (.int .u64 x.k) ∧ w'.cell? ⟨Y, 1, none⟩ = some (.string (bs x.j)) ∧ w'.cell? ⟨Y, 2, none⟩ = some (.int .i64 x.i) ∧ w'.cell? ⟨Y, 3, none⟩ = some (.int .u64 x.n) ∧ w'.cell? ⟨Y, 4, none⟩ = some (.int .i64 x.q)) := Lib.hid (fun w' hw => ⟨(HY.out.kept hw).cell (j := 0) rfl, (HY.out.kept hw).cell (j := 1) rfl, (HY.out.kept hw).cell (j := 2) rfl, (HY.out.kept hw).cell (j := 3) rfl, (HY.out.kept hw).cell (j := 4) rfl⟩)
        have HYR : Hid (Below wy.heap.size wy wy) := Lib.hid (Below.refl _ _)
        go_region_held3 (fun w' => w'.cell? ⟨Y, 0, none⟩ = some (.int .u64 x.k) ∧ w'.cell? ⟨Y, 1, none⟩ = some (.string (bs x.j)) ∧ w'.cell? ⟨Y, 2, none⟩ = some (.int .i64 x.i) ∧ w'.cell? ⟨Y, 3, none⟩ = some (.int .u64 x.n) ∧ w'.cell? ⟨Y, 4, none⟩ = some (.int .i64 x.q))
          ((refine HSSt.out _ ?_ <;> (repeat (first | with_reducible exact HBt3.out | with_reducible exact HBt2.out | with_reducible exact HBt1.out | with_reducible exact HYR.out | with_reducible exact Below.refl _ _ | with_reducible apply below_dr))))
          (first
            | (go_at_call 127; refine (rnumber_put vt2 (l1 ++ eU nt ++ (p.F.take i).flatMap finE ++ eU x.k ++ eK x) x.q _ (HFt2.out.rd.below (by repeat (first | with_reducible exact Below.refl _ _ | with_reducible apply below_dr))) (by have := HFL.out; have h9 := eK_len x; have h8 := HFX.out.j; have h7 := eU_len x.k; have h6 := eU_len x.q; simp only [List.length_append] at *; omega) HQB.out).mono ?_; rintro e wt3 ⟨vt3, rfl, hf, hb⟩; have HBt3 : Hid (Below wy.heap.size wy wt3) := Lib.hid (below_and (by repeat (first | with_reducible exact HBt2.out | with_reducible apply below_dr)) hb); have HFt3 : Hid (Fresh w.heap.size wt3 vt3 (l1 ++ eU nt ++ (p.F.take i).flatMap finE ++ eU x.k ++ eK x ++ eU x.q)) := Lib.hid (hf.mono (Below.size (below_and (below_and HB1.out HBy.out) (by repeat (first | with_reducible exact HBt2.out | with_reducible apply below_dr))))); clear hf hb)
            | (go_at_call 131; refine (rtask_put vt1 (l1 ++ eU nt ++ (p.F.take i).flatMap finE ++ eU x.k) x _ (HFt1.out.rd.below (by repeat (first | with_reducible exact Below.refl _ _ | with_reducible apply below_dr))) (by have := HFL.out; have h9 := eK_len x; have h8 := HFX.out.j; have h7 := eU_len x.k; have h6 := eU_len x.q; simp only [List.length_append] at *; omega) HFX.out).mono ?_; rintro e wt2 ⟨vt2, rfl, hf, hb⟩; have HBt2 : Hid (Below wy.heap.size wy wt2) := Lib.hid (below_and (by repeat (first | with_reducible exact HBt1.out | with_reducible apply below_dr)) hb); have HFt2 : Hid (Fresh w.heap.size wt2 vt2 (l1 ++ eU nt ++ (p.F.take i).flatMap finE ++ eU x.k ++ eK x)) := Lib.hid (hf.mono (Below.size (below_and (below_and HB1.out HBy.out) (by repeat (first | with_reducible exact HBt1.out | with_reducible apply below_dr))))); clear hf hb)
            | (go_at_call 127; refine (rnumber_put _ (l1 ++ eU nt ++ (p.F.take i).flatMap finE) x.k _ (HRy.out.below (by repeat (first | with_reducible exact Below.refl _ _ | with_reducible apply below_dr))) (by have := HFL.out; have h9 := eK_len x; have h8 := HFX.out.j; have h7 := eU_len x.k; have h6 := eU_len x.q; simp only [List.length_append] at *; omega) HFX.out.k).mono ?_; rintro e wt1 ⟨vt1, rfl, hf, hb⟩; have HBt1 : Hid (Below wy.heap.size wy wt1) := Lib.hid (below_and (by repeat (first | with_reducible exact HYR.out | with_reducible apply below_dr)) hb); have HFt1 : Hid (Fresh w.heap.size wt1 vt1 (l1 ++ eU nt ++ (p.F.take i).flatMap finE ++ eU x.k)) := Lib.hid (hf.mono (Below.size (below_and (below_and HB1.out HBy.out) (by repeat (first | with_reducible exact HYR.out | with_reducible apply below_dr))))); clear hf hb))
        go_wp2
        go_roundw
        case rel => exact ⟨i + 1, him, by go_num, Lib.hid ⟨by have h9 := HFt3.out; rw [HNX.out, show finE x = eU x.k ++ (eK x ++ eU x.q) from rfl]; simpa [List.append_assoc] using h9, below_and HBy.out HBt3.out⟩⟩
        case measure => simp [intOf]; omega
    have i3 : i ≤ 256 := by have := HNB.out; omega
    have i0 : (0 : Int) ≤ (i : Int) := by omega
    have i1 : (i : Int) < (nk : Int) := by omega
    have HIL : Hid (i < p.H.length) := Lib.hid (by rw [← HNK.out]; exact him)
    obtain ⟨x, hx⟩ : ∃ x, x = p.H[i]'HIL.out := ⟨_, rfl⟩
    have HFX : Hid (Ft x) := Lib.hid (HPF.out.k.2 x (by rw [hx]; exact List.getElem_mem _))
    obtain ⟨pp, cc, hpp, -, -, hat⟩ := row_el HP.out.k
    rcases hat with hat | ⟨eb, eo, rfl, hat⟩
    · exact absurd (congrArg List.length hat) (by rw [rwC_len (show ∀ z, (helC z).length = 4 from fun _ => rfl)]; simp; have := HIL.out; omega)
    obtain ⟨hpe, -, -⟩ := Value.slice.inj hpp
    subst hpe
    clear hpp
    have HEC : Hid (∀ w', Below w1.heap.size w1 w' → ∀ (j : Nat) u, (helC x)[j]? = some u → j < 4 → w'.cell? ⟨eb, eo + (i * 4 + j), none⟩ = some u) := Lib.hid (fun w' hw j u hu hj => cell_kept (hat _ u (by rw [rwC_at (show ∀ z, (helC z).length = 4 from fun _ => rfl) HIL.out hj, ← hx]; exact hu)) (below_and HB1.out hw))
    have HNX : Hid ((p.H.take (i + 1)).flatMap helE = (p.H.take i).flatMap helE ++ helE x) := Lib.hid (by rw [List.take_succ_eq_append_getElem HIL.out, ← hx, List.flatMap_append]; simp)
    have HFL : Hid ((l0 ++ eU nk ++ (p.H.take i).flatMap helE).length ≤ 1000000) := Lib.hid (by rw [List.length_append, List.length_append]; have h1 := HL0.out; have h2 := eU_len (nk : Int); have h3 := flat_len (enc := helE) (p.H.take i) (fun y hy => (enc_small (HPF.out.k.2 y (List.mem_of_mem_take hy))).2.2.2.1); have h4 : (p.H.take i).length ≤ 256 := (by rw [List.length_take]; have := HPF.out.k.1; omega); omega)
    clear hat hx
    have ec0 := HEC.out _ HQk.out.2 0 _ rfl (by omega)
    have ec1 := HEC.out _ HQk.out.2 1 _ rfl (by omega)
    have ec2 := HEC.out _ HQk.out.2 2 _ rfl (by omega)
    have ec3 := HEC.out _ HQk.out.2 3 _ rfl (by omega)
    simp only [← Nat.add_assoc, Nat.add_zero] at ec0 ec1 ec2 ec3
    go_upto_region 8 with fail
    obtain ⟨Y, hY⟩ : ∃ Y, Y = wr.heap.size := ⟨_, rfl⟩
    obtain ⟨wy, hwy⟩ : ∃ z, z = wr.alloc (.cells #[.string (bs x.j), .int .i64 x.i, .int .u64 x.n, .int .i64 x.q] 88) := ⟨_, rfl⟩
    have HY : Hid (Blk wy Y [.string (bs x.j), .int .i64 x.i, .int .u64 x.n, .int .i64 x.q] 88) := Lib.hid (by rw [hwy, hY]; exact Blk.made wr [.string (bs x.j), .int .i64 x.i, .int .u64 x.n, .int .i64 x.q] _)
    have HBy : Hid (Below w1.heap.size w1 wy) := Lib.hid (by rw [hwy]; exact below_and HQk.out.2 (below_alloc _ _))
    have HRy := Lib.hid (show Rd wy _ _ from by rw [hwy]; exact HQk.out.1.rd.below (below_alloc _ _))
    rw [← hwy, ← hY]
    clear hwy hY ec0 ec1 ec2 ec3
    have ew : IntKind.u64.wrap x.q = x.q := by have := HFX.out.q; rw [IntKind.wrap_u64]; omega
    have em : x.q % 18446744073709551616 = x.q := by have := HFX.out.q; omega
    have HQB : Hid (0 ≤ x.q ∧ x.q < 18446744073709551616) := Lib.hid (by have := HFX.out.q; omega)
    have HSSk : Hid (∀ w', Below wy.heap.size wy w' → w'.cell? ⟨Y, 0, none⟩ = some (.string (bs x.j)) ∧ w'.cell? ⟨Y, 1, none⟩ = some (.int .i64 x.i) ∧ w'.cell? ⟨Y, 2, none⟩ = some (.int .u64 x.n) ∧ w'.cell? ⟨Y, 3, none⟩ = some (.int .i64 x.q)) := Lib.hid (fun w' hw => ⟨(HY.out.kept hw).cell (j := 0) rfl, (HY.out.kept hw).cell (j := 1) rfl, (HY.out.kept hw).cell (j := 2) rfl, (HY.out.kept hw).cell (j := 3) rfl⟩)
    have HYR : Hid (Below wy.heap.size wy wy) := Lib.hid (Below.refl _ _)
    go_region_held3 (fun w' => w'.cell? ⟨Y, 0, none⟩ = some (.string (bs x.j)) ∧ w'.cell? ⟨Y, 1, none⟩ = some (.int .i64 x.i) ∧ w'.cell? ⟨Y, 2, none⟩ = some (.int .u64 x.n) ∧ w'.cell? ⟨Y, 3, none⟩ = some (.int .i64 x.q))
      ((refine HSSk.out _ ?_ <;> (repeat (first | with_reducible exact HBk2.out | with_reducible exact HBk1.out | with_reducible exact HYR.out | with_reducible exact Below.refl _ _ | with_reducible apply below_dr))))
      (first
        | (go_at_call 127; refine (rnumber_put vk1 (l0 ++ eU nk ++ (p.H.take i).flatMap helE ++ eK x) x.q _ (HFk1.out.rd.below (by repeat (first | with_reducible exact Below.refl _ _ | with_reducible apply below_dr))) (by have := HFL.out; have h9 := eK_len x; have h8 := HFX.out.j; have h7 := eU_len x.k; have h6 := eU_len x.q; simp only [List.length_append] at *; omega) HQB.out).mono ?_; rintro e wk2 ⟨vk2, rfl, hf, hb⟩; have HBk2 : Hid (Below wy.heap.size wy wk2) := Lib.hid (below_and (by repeat (first | with_reducible exact HBk1.out | with_reducible apply below_dr)) hb); have HFk2 : Hid (Fresh w.heap.size wk2 vk2 (l0 ++ eU nk ++ (p.H.take i).flatMap helE ++ eK x ++ eU x.q)) := Lib.hid (hf.mono (Below.size (below_and (below_and HB1.out HBy.out) (by repeat (first | with_reducible exact HBk1.out | with_reducible apply below_dr))))); clear hf hb)
        | (go_at_call 131; refine (rtask_put _ (l0 ++ eU nk ++ (p.H.take i).flatMap helE) x _ (HRy.out.below (by repeat (first | with_reducible exact Below.refl _ _ | with_reducible apply below_dr))) (by have := HFL.out; have h9 := eK_len x; have h8 := HFX.out.j; have h7 := eU_len x.k; have h6 := eU_len x.q; simp only [List.length_append] at *; omega) HFX.out).mono ?_; rintro e wk1 ⟨vk1, rfl, hf, hb⟩; have HBk1 : Hid (Below wy.heap.size wy wk1) := Lib.hid (below_and (by repeat (first | with_reducible exact HYR.out | with_reducible apply below_dr)) hb); have HFk1 : Hid (Fresh w.heap.size wk1 vk1 (l0 ++ eU nk ++ (p.H.take i).flatMap helE ++ eK x)) := Lib.hid (hf.mono (Below.size (below_and (below_and HB1.out HBy.out) (by repeat (first | with_reducible exact HYR.out | with_reducible apply below_dr))))); clear hf hb))
    go_wp2
    go_roundw
    case rel => exact ⟨i + 1, him, by go_num, Lib.hid ⟨by have h9 := HFk2.out; rw [HNX.out, show helE x = eK x ++ eU x.q from rfl]; simpa [List.append_assoc] using h9, below_and HBy.out HBk2.out⟩⟩
    case measure => simp [intOf]; omega
end Go.Proofs.YtopkfomlppnpeaaGreatDoor.Ms
