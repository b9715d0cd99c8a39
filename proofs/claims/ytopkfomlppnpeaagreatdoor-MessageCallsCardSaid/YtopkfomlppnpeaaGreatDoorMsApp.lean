/- MsApp. -/
import Derived.Test.YtopkfomlppnpeaaGreatDoorMsChk
import Derived.Test.YtopkfomlppnpeaaGreatDoorMNu
import Derived.Test.YtopkfomlppnpeaaGreatDoorMFm
import Derived.Test.YtopkfomlppnpeaaGreatDoorMFt
import Derived.Deep.RegionHeld3
namespace Go.Proofs.YtopkfomlppnpeaaGreatDoor.Ms
open Go.RowKit Go.Proofs.YtopkfomlppnpeaaGreatDoor

set_option maxRecDepth 100000 in
set_option maxHeartbeats 2000000 in
theorem letter_any (v vb : Value) (l : List UInt8) (k : UInt8) (body : List UInt8) (w : World) (h : Rd w v l) (hb : Rd w vb body) (hl : l.length ≤ 1000000000) (hn : body.length ≤ 1048576) : Calls Tryz.prog 40 #[v, .int .u8 (k.toNat : Int), vb] w fun e w' => ∃ v', e = .returned (.tuple #[v', .int .i64 0]) ∧ Fresh w.heap.size w' v' (l ++ frm k body) ∧ Below w.heap.size w w' := by
  have H := Lib.hid (fapp_any v vb l k body w h hb hl hn)
  obtain ⟨q, d, rfl⟩ := rd_slice hb
  obtain ⟨n, hnn⟩ : ∃ n, n = body.length := ⟨_, rfl⟩
  rw [← hnn] at H ⊢
  clear h hb hl hn hnn
  go_enter Tryz.func40, Tryz.ntmps40
  go_wp2_with (go_at_call 111; refine H.out.mono ?_; rintro e w2 ⟨v2, rfl, hf, hb⟩; have HF := Lib.hid hf; have HB := Lib.hid hb; clear hf hb)
  go_ret2
  exact ⟨v2, rfl, HF.out, HB.out⟩
set_option maxRecDepth 100000 in
set_option maxHeartbeats 2000000 in
theorem appendP_no (p : Po) (v vt1 vt2 vt3 : Value) (w : World) (h : PoW w p vt1 vt2 vt3) (hE : ErrV w) (hc : checkP p = false) : Calls Tryz.prog 7 #[v, poV p vt1 vt2 vt3] w fun e w' => e = .returned (.tuple #[.slice none 0 0, .int .i64 2]) ∧ Below w.heap.size w w' := by
  have HC := Lib.hid (fun w' hb => checkP_any p _ _ _ w' (h.below hb) (hE.below hb))
  rw [hc] at HC
  obtain ⟨pk, ck, rfl, -⟩ := row_el h.k
  obtain ⟨pt, ct, rfl, -⟩ := row_el h.t
  obtain ⟨ps, cs, rfl, -⟩ := row_el h.s
  obtain ⟨nk, hnk⟩ : ∃ nk, nk = p.K.length := ⟨_, rfl⟩
  obtain ⟨nt, hnt⟩ : ∃ nt, nt = p.T.length := ⟨_, rfl⟩
  obtain ⟨ns, hns⟩ : ∃ ns, ns = p.P.length := ⟨_, rfl⟩
  rw [← hnk, ← hnt, ← hns] at HC ⊢
  obtain ⟨X, hX⟩ : ∃ X, X = w.heap.size := ⟨_, rfl⟩
  obtain ⟨w1, hw1⟩ : ∃ w1, w1 = w.alloc (.cells #[.int .u64 p.ep, .int .u64 p.sq, .int .u64 p.bo, .int .i64 p.at_, .int .i64 p.le, .slice pk nk ck, .slice pt nt ct, .slice ps ns cs, .int .u64 p.se] 32) := ⟨_, rfl⟩
  have HX1 : Hid (Blk w1 X [.int .u64 p.ep, .int .u64 p.sq, .int .u64 p.bo, .int .i64 p.at_, .int .i64 p.le, .slice pk nk ck, .slice pt nt ct, .slice ps ns cs, .int .u64 p.se] 32) := Lib.hid (by rw [hw1, hX]; exact Blk.made w [.int .u64 p.ep, .int .u64 p.sq, .int .u64 p.bo, .int .i64 p.at_, .int .i64 p.le, .slice pk nk ck, .slice pt nt ct, .slice ps ns cs, .int .u64 p.se] _)
  have HB1 : Hid (Below w.heap.size w w1) := Lib.hid (by rw [hw1]; exact below_alloc _ _)
  clear h hE hc hnk hnt hns
  go_enter Tryz.func7, Tryz.ntmps7
  go_upto_region 1 with fail
  rw [← hw1, ← hX]
  clear hw1 hX
  have c0 := HX1.out.cell (j := 0) rfl
  have c1 := HX1.out.cell (j := 1) rfl
  have c2 := HX1.out.cell (j := 2) rfl
  have c3 := HX1.out.cell (j := 3) rfl
  have c4 := HX1.out.cell (j := 4) rfl
  have c5 := HX1.out.cell (j := 5) rfl
  have c6 := HX1.out.cell (j := 6) rfl
  have c7 := HX1.out.cell (j := 7) rfl
  have c8 := HX1.out.cell (j := 8) rfl
  go_wp2_with (go_at_call 11; refine (HC.out _ HB1.out).mono ?_; rintro e w2 ⟨rfl, hb⟩; have HB2 := Lib.hid (below_and HB1.out hb); clear hb)
  go_ret2
  exact ⟨rfl, HB2.out⟩
set_option maxRecDepth 100000 in
set_option maxHeartbeats 6000000 in
theorem appendP_yes (p : Po) (v vt1 vt2 vt3 : Value) (l : List UInt8) (w : World) (h : PoW w p vt1 vt2 vt3) (hE : ErrV w) (hc : checkP p = true) (hv : Rd w v l) (hl : l.length ≤ 100000000) : Calls Tryz.prog 7 #[v, poV p vt1 vt2 vt3] w fun e w' => ∃ v', e = .returned (.tuple #[v', .int .i64 0]) ∧ Fresh w.heap.size w' v' (l ++ frm 3 (bodyP p)) ∧ Below w.heap.size w w' := by
  have HC := Lib.hid (fun w' hb => checkP_any p _ _ _ w' (h.below hb) (hE.below hb))
  rw [hc] at HC
  obtain ⟨pk, ck, rfl, -⟩ := row_el h.k
  obtain ⟨pt, ct, rfl, -⟩ := row_el h.t
  obtain ⟨ps, cs, rfl, -⟩ := row_el h.s
  obtain ⟨nk, hnk⟩ : ∃ nk, nk = p.K.length := ⟨_, rfl⟩
  obtain ⟨nt, hnt⟩ : ∃ nt, nt = p.T.length := ⟨_, rfl⟩
  obtain ⟨ns, hns⟩ : ∃ ns, ns = p.P.length := ⟨_, rfl⟩
  have HF := Lib.hid (h.fits hc)
  have HV := Lib.hid hv
  have HBL := Lib.hid (bodyP_len (h.fits hc))
  have HL := Lib.hid hl
  have HRk : Hid (∀ w', Below w.heap.size w w' → Row w' (.slice pk nk ck) 5 p.K.length (rwC envC p.K)) := Lib.hid (fun w' hb => by rw [hnk]; exact (h.k.below hb))
  have HRt : Hid (∀ w', Below w.heap.size w w' → Row w' (.slice pt nt ct) 8 p.T.length (rwC staC p.T)) := Lib.hid (fun w' hb => by rw [hnt]; exact (h.t.below hb))
  have HRs : Hid (∀ w', Below w.heap.size w w' → Row w' (.slice ps ns cs) 3 p.P.length (rwC stoC p.P)) := Lib.hid (fun w' hb => by rw [hns]; exact (h.s.below hb))
  rw [← hnk, ← hnt, ← hns] at HC ⊢
  obtain ⟨X, hX⟩ : ∃ X, X = w.heap.size := ⟨_, rfl⟩
  obtain ⟨w1, hw1⟩ : ∃ w1, w1 = w.alloc (.cells #[.int .u64 p.ep, .int .u64 p.sq, .int .u64 p.bo, .int .i64 p.at_, .int .i64 p.le, .slice pk nk ck, .slice pt nt ct, .slice ps ns cs, .int .u64 p.se] 32) := ⟨_, rfl⟩
  have HX1 : Hid (Blk w1 X [.int .u64 p.ep, .int .u64 p.sq, .int .u64 p.bo, .int .i64 p.at_, .int .i64 p.le, .slice pk nk ck, .slice pt nt ct, .slice ps ns cs, .int .u64 p.se] 32) := Lib.hid (by rw [hw1, hX]; exact Blk.made w [.int .u64 p.ep, .int .u64 p.sq, .int .u64 p.bo, .int .i64 p.at_, .int .i64 p.le, .slice pk nk ck, .slice pt nt ct, .slice ps ns cs, .int .u64 p.se] _)
  have HB1 : Hid (Below w.heap.size w w1) := Lib.hid (by rw [hw1]; exact below_alloc _ _)
  clear h hE hc hnk hnt hns hv hl
  have e6 : p.le % 18446744073709551616 = p.le := by have := HF.out.n.2.2.2.2.1; omega
  have e7 : IntKind.u64.wrap p.le = p.le := by have := HF.out.n.2.2.2.2.1; rw [IntKind.wrap_u64]; omega
  have HI3 : Hid (∀ z ∈ [p.ep, p.sq, p.bo], 0 ≤ z ∧ z < 18446744073709551616) := Lib.hid (fun z hz => by (simp at hz; rcases hz with rfl | rfl | rfl; exact HF.out.n.1.1; exact HF.out.n.2.1; exact HF.out.n.2.2.1))
  have HI1 : Hid (∀ z ∈ [p.le], 0 ≤ z ∧ z < 18446744073709551616) := Lib.hid (fun z hz => by (simp at hz; subst hz; have := HF.out.n.2.2.2.2.1; omega))
  have HIS : Hid (∀ z ∈ [p.se], 0 ≤ z ∧ z < 18446744073709551616) := Lib.hid (fun z hz => by (simp at hz; subst hz; exact HF.out.n.2.2.2.2.2))
  have HIA : Hid (-9223372036854775808 ≤ p.at_ ∧ p.at_ < 9223372036854775808) := Lib.hid (by have := HF.out.n.2.2.2.1; omega)
  go_enter Tryz.func7, Tryz.ntmps7
  go_upto_region 1 with fail
  rw [← hw1, ← hX]
  clear hw1 hX
  have c0 := HX1.out.cell (j := 0) rfl
  have c1 := HX1.out.cell (j := 1) rfl
  have c2 := HX1.out.cell (j := 2) rfl
  have c3 := HX1.out.cell (j := 3) rfl
  have c4 := HX1.out.cell (j := 4) rfl
  have c5 := HX1.out.cell (j := 5) rfl
  have c6 := HX1.out.cell (j := 6) rfl
  have c7 := HX1.out.cell (j := 7) rfl
  have c8 := HX1.out.cell (j := 8) rfl
  go_upto_region 4 with (go_at_call 11; refine (HC.out _ HB1.out).mono ?_; rintro e w2 ⟨rfl, hb⟩; have HX2 := Lib.hid (HX1.out.kept hb); have HB2 := Lib.hid (below_and HB1.out hb); clear hb)
  clear c0 c1 c2 c3 c4 c5 c6 c7 c8 HC
  have HLN1 : Hid (Room ([] ++ eN [p.ep, p.sq, p.bo]).length) := Lib.hid (by have := eN_len [p.ep, p.sq, p.bo]; simp only [List.length_append, List.length_nil, List.length_cons] at this ⊢; unfold Room; omega)
  have HLN2 : Hid ((([] ++ eN [p.ep, p.sq, p.bo]) ++ eI p.at_).length ≤ 1000000000000) := Lib.hid (by have := eN_len [p.ep, p.sq, p.bo]; have := eI_len p.at_; simp only [List.length_append, List.length_nil, List.length_cons] at *; omega)
  have HSS : Hid (∀ w', Below w2.heap.size w2 w' → w'.cell? ⟨X, 0, none⟩ = some (.int .u64 p.ep) ∧ w'.cell? ⟨X, 1, none⟩ = some (.int .u64 p.sq) ∧ w'.cell? ⟨X, 2, none⟩ = some (.int .u64 p.bo) ∧ w'.cell? ⟨X, 3, none⟩ = some (.int .i64 p.at_) ∧ w'.cell? ⟨X, 4, none⟩ = some (.int .i64 p.le)) := Lib.hid (fun w' hb => ⟨(HX2.out.kept hb).cell (j := 0) rfl, (HX2.out.kept hb).cell (j := 1) rfl, (HX2.out.kept hb).cell (j := 2) rfl, (HX2.out.kept hb).cell (j := 3) rfl, (HX2.out.kept hb).cell (j := 4) rfl⟩)
  go_region_held3 (fun w' => w'.cell? ⟨X, 0, none⟩ = some (.int .u64 p.ep) ∧ w'.cell? ⟨X, 1, none⟩ = some (.int .u64 p.sq) ∧ w'.cell? ⟨X, 2, none⟩ = some (.int .u64 p.bo) ∧ w'.cell? ⟨X, 3, none⟩ = some (.int .i64 p.at_) ∧ w'.cell? ⟨X, 4, none⟩ = some (.int .i64 p.le))
    ((refine HSS.out _ ?_ <;> (repeat (first | with_reducible exact Below.refl _ _ | with_reducible exact HB39.out | with_reducible exact HB29.out | with_reducible exact HB19.out | with_reducible apply below_dr | with_reducible apply below_as))))
    (first
      | (go_at_call 29; refine (nums_any v4 (([] ++ eN [p.ep, p.sq, p.bo]) ++ eI p.at_) [p.le] 1 _ _ (HF2.out.rd.below (by repeat (first | with_reducible exact Below.refl _ _ | with_reducible apply below_dr | with_reducible apply below_as))) HLN2.out (show Blk _ _ [.int .u64 p.le] _ from by repeat (first | with_reducible exact Blk.made _ [.int .u64 p.le] _ | (with_reducible refine blk_made' [.int .u64 p.le] ?_; simp; done) | with_reducible apply blk_dr | with_reducible refine Blk.alloc ?_ _ | with_reducible refine Blk.kept ?_ HBT3.out | with_reducible refine Blk.kept ?_ HBT2.out | with_reducible refine Blk.kept ?_ HBT1.out)) rfl (by omega) (by omega) HI1.out).mono ?_; rintro e w5 ⟨v5, rfl, hf, hb⟩; have HBT3 := Lib.hid hb; have HB39 : Hid (Below w2.heap.size w2 w5) := Lib.hid (below_and (by repeat (first | with_reducible exact Below.refl _ _ | with_reducible exact HB39.out | with_reducible exact HB29.out | with_reducible exact HB19.out | with_reducible apply below_dr | with_reducible apply below_as)) hb); have HF3 : Hid (Fresh w.heap.size w5 v5 ((([] ++ eN [p.ep, p.sq, p.bo]) ++ eI p.at_) ++ eN [p.le])) := Lib.hid (hf.mono (Below.size (below_and HB2.out (by repeat (first | with_reducible exact Below.refl _ _ | with_reducible exact HB39.out | with_reducible exact HB29.out | with_reducible exact HB19.out | with_reducible apply below_dr | with_reducible apply below_as))))); clear hf hb)
      | (go_at_call 30; refine (appendInt_any v3 ([] ++ eN [p.ep, p.sq, p.bo]) p.at_ _ (HF1.out.rd.below (by repeat (first | with_reducible exact Below.refl _ _ | with_reducible apply below_dr | with_reducible apply below_as))) HLN1.out HIA.out.1 HIA.out.2).mono ?_; rintro e w4 ⟨v4, rfl, hf, hb⟩; have HBT2 := Lib.hid hb; have HB29 : Hid (Below w2.heap.size w2 w4) := Lib.hid (below_and (by repeat (first | with_reducible exact Below.refl _ _ | with_reducible exact HB39.out | with_reducible exact HB29.out | with_reducible exact HB19.out | with_reducible apply below_dr | with_reducible apply below_as)) hb); have HF2 : Hid (Fresh w.heap.size w4 v4 (([] ++ eN [p.ep, p.sq, p.bo]) ++ eI p.at_)) := Lib.hid (hf.mono (Below.size (below_and HB2.out (by repeat (first | with_reducible exact Below.refl _ _ | with_reducible exact HB39.out | with_reducible exact HB29.out | with_reducible exact HB19.out | with_reducible apply below_dr | with_reducible apply below_as))))); clear hf hb)
      | (go_at_call 29; refine (nums_any (.slice none 0 0) [] [p.ep, p.sq, p.bo] 3 _ _ (Fresh.rd (base := 0) ⟨rfl, .inl ⟨rfl, rfl⟩⟩) (by simp) (show Blk _ _ [.int .u64 p.ep, .int .u64 p.sq, .int .u64 p.bo] _ from by repeat (first | with_reducible exact Blk.made _ [.int .u64 p.ep, .int .u64 p.sq, .int .u64 p.bo] _ | (with_reducible refine blk_made' [.int .u64 p.ep, .int .u64 p.sq, .int .u64 p.bo] ?_; simp; done) | with_reducible apply blk_dr | with_reducible refine Blk.alloc ?_ _ | with_reducible refine Blk.kept ?_ HBT3.out | with_reducible refine Blk.kept ?_ HBT2.out | with_reducible refine Blk.kept ?_ HBT1.out)) rfl (by omega) (by omega) HI3.out).mono ?_; rintro e w3 ⟨v3, rfl, hf, hb⟩; have HBT1 := Lib.hid hb; have HB19 : Hid (Below w2.heap.size w2 w3) := Lib.hid (below_and (by repeat (first | with_reducible exact Below.refl _ _ | with_reducible exact HB39.out | with_reducible exact HB29.out | with_reducible exact HB19.out | with_reducible apply below_dr | with_reducible apply below_as)) hb); have HF1 : Hid (Fresh w.heap.size w3 v3 ([] ++ eN [p.ep, p.sq, p.bo])) := Lib.hid (hf.mono (Below.size (below_and HB2.out (by repeat (first | with_reducible exact Below.refl _ _ | with_reducible exact HB39.out | with_reducible exact HB29.out | with_reducible exact HB19.out | with_reducible apply below_dr | with_reducible apply below_as))))); clear hf hb))
  all_goals (have HXA := Lib.hid (HX2.out.kept HB39.out); have HBA := Lib.hid (below_and HB2.out HB39.out); have HFA : Hid (Fresh w.heap.size w5 v5 (eU p.ep ++ (eU p.sq ++ (eU p.bo ++ (eI p.at_ ++ eU p.le))))) := Lib.hid (by have h9 := HF3.out; rw [show ((([] ++ eN [p.ep, p.sq, p.bo]) ++ eI p.at_) ++ eN [p.le]) = eU p.ep ++ (eU p.sq ++ (eU p.bo ++ (eI p.at_ ++ eU p.le))) from by unfold eN; simp] at h9; exact h9); obtain ⟨A0, hA0⟩ : ∃ A0, A0 = eU p.ep ++ (eU p.sq ++ (eU p.bo ++ (eI p.at_ ++ eU p.le))) := ⟨_, rfl⟩; rw [← hA0] at HFA; have HBODY : Hid (bodyP p = ((A0 ++ eL envE p.K) ++ eL staE p.T) ++ eL stoE p.P ++ eN [p.se]) := Lib.hid (by rw [hA0]; unfold bodyP eN; simp); clear hA0 HF3; have HLA : Hid ((((A0 ++ eL envE p.K) ++ eL staE p.T) ++ eL stoE p.P).length ≤ 400000) := Lib.hid (by have := HBL.out; rw [HBODY.out] at this; simp only [List.length_append] at this ⊢; omega); have d5 := HXA.out.cell (j := 5) rfl; have d6 := HXA.out.cell (j := 6) rfl; have d7 := HXA.out.cell (j := 7) rfl; have d8 := HXA.out.cell (j := 8) rfl; go_wp2_with (first | (go_at_call 40; refine (letter_any v _ l 3 (bodyP p) _ (HV.out.below HB13.out) HF13.out.rd (by have := HL.out; omega) (by have := HBL.out; omega)).mono ?_; rintro e w14 ⟨v14, rfl, hf, hb⟩; have HB14 := Lib.hid (below_and HB13.out hb); have HF14 := Lib.hid (hf.mono HB13.out.size); clear hf hb) | (go_at_call 29; refine (nums_any v12 (((A0 ++ eL envE p.K) ++ eL staE p.T) ++ eL stoE p.P) [p.se] 1 _ _ (HF12.out.rd.below (by repeat (first | with_reducible exact Below.refl _ _ | with_reducible apply below_dr | with_reducible apply below_as))) (by have := HLA.out; omega) (show Blk _ _ [.int .u64 p.se] _ from Blk.made w12 [.int .u64 p.se] _) rfl (by omega) (by omega) HIS.out).mono ?_; rintro e w13 ⟨v13, rfl, hf, hb⟩; have HB13 := Lib.hid (below_and (below_as HB12.out _) hb); have HF13 : Hid (Fresh w.heap.size w13 v13 (bodyP p)) := Lib.hid (by rw [HBODY.out]; exact hf.mono (below_as HB12.out _).size); clear hf hb) | (go_at_call 38; refine (stoP_any v11 _ ((A0 ++ eL envE p.K) ++ eL staE p.T) p.P _ HF11.out.rd (by have := HLA.out; simp only [List.length_append] at this ⊢; omega) (HRs.out _ HB11.out) HF.out.s.1 HF.out.s.2).mono ?_; rintro e w12 ⟨v12, rfl, hf, hb⟩; have HB12 := Lib.hid (below_and HB11.out hb); have HF12 := Lib.hid (hf.mono HB11.out.size); have HX12 := Lib.hid (HX11.out.kept hb); have g2_5 := HX12.out.cell (j := 5) rfl; have g2_6 := HX12.out.cell (j := 6) rfl; have g2_7 := HX12.out.cell (j := 7) rfl; have g2_8 := HX12.out.cell (j := 8) rfl; clear hf hb) | (go_at_call 35; refine (staP_any v10 _ (A0 ++ eL envE p.K) p.T _ HF10.out.rd (by have := HLA.out; simp only [List.length_append] at this ⊢; omega) (HRt.out _ HB10.out) HF.out.t.1 HF.out.t.2).mono ?_; rintro e w11 ⟨v11, rfl, hf, hb⟩; have HB11 := Lib.hid (below_and HB10.out hb); have HF11 := Lib.hid (hf.mono HB10.out.size); have HX11 := Lib.hid (HX10.out.kept hb); have g1_5 := HX11.out.cell (j := 5) rfl; have g1_6 := HX11.out.cell (j := 6) rfl; have g1_7 := HX11.out.cell (j := 7) rfl; have g1_8 := HX11.out.cell (j := 8) rfl; clear hf hb) | (go_at_call 31; refine (envP_any v5 _ A0 p.K _ HFA.out.rd (by have := HLA.out; simp only [List.length_append] at this ⊢; omega) (HRk.out _ HBA.out) HF.out.k.1 HF.out.k.2).mono ?_; rintro e w10 ⟨v10, rfl, hf, hb⟩; have HB10 := Lib.hid (below_and HBA.out hb); have HF10 := Lib.hid (hf.mono HBA.out.size); have HX10 := Lib.hid (HXA.out.kept hb); have g0_5 := HX10.out.cell (j := 5) rfl; have g0_6 := HX10.out.cell (j := 6) rfl; have g0_7 := HX10.out.cell (j := 7) rfl; have g0_8 := HX10.out.cell (j := 8) rfl; clear hf hb)); go_ret2; exact ⟨v14, rfl, HF14.out, HB14.out⟩)
set_option maxRecDepth 100000 in
set_option maxHeartbeats 2000000 in
theorem appendR_no (p : Rp) (v vt1 vt2 vt3 : Value) (w : World) (h : RpW w p vt1 vt2 vt3) (hE : ErrV w) (hc : checkR p = false) : Calls Tryz.prog 17 #[v, rpV p vt1 vt2 vt3] w fun e w' => e = .returned (.tuple #[.slice none 0 0, .int .i64 2]) ∧ Below w.heap.size w w' := by
  have HC := Lib.hid (fun w' hb => checkR_any p _ _ _ w' (h.below hb) (hE.below hb))
  rw [hc] at HC
  obtain ⟨pk, ck, rfl, -⟩ := row_el h.k
  obtain ⟨pt, ct, rfl, -⟩ := row_el h.t
  obtain ⟨ps, cs, rfl, -⟩ := row_el h.s
  obtain ⟨nk, hnk⟩ : ∃ nk, nk = p.H.length := ⟨_, rfl⟩
  obtain ⟨nt, hnt⟩ : ∃ nt, nt = p.F.length := ⟨_, rfl⟩
  obtain ⟨ns, hns⟩ : ∃ ns, ns = p.R.length := ⟨_, rfl⟩
  rw [← hnk, ← hnt, ← hns] at HC ⊢
  obtain ⟨X, hX⟩ : ∃ X, X = w.heap.size := ⟨_, rfl⟩
  obtain ⟨w1, hw1⟩ : ∃ w1, w1 = w.alloc (.cells #[.int .u64 p.ep, .int .u64 p.sq, .int .u64 p.bo, .int .i64 p.at_, .slice pk nk ck, .slice pt nt ct, .slice ps ns cs] 44) := ⟨_, rfl⟩
  have HX1 : Hid (Blk w1 X [.int .u64 p.ep, .int .u64 p.sq, .int .u64 p.bo, .int .i64 p.at_, .slice pk nk ck, .slice pt nt ct, .slice ps ns cs] 44) := Lib.hid (by rw [hw1, hX]; exact Blk.made w [.int .u64 p.ep, .int .u64 p.sq, .int .u64 p.bo, .int .i64 p.at_, .slice pk nk ck, .slice pt nt ct, .slice ps ns cs] _)
  have HB1 : Hid (Below w.heap.size w w1) := Lib.hid (by rw [hw1]; exact below_alloc _ _)
  clear h hE hc hnk hnt hns
  go_enter Tryz.func17, Tryz.ntmps17
  go_upto_region 1 with fail
  rw [← hw1, ← hX]
  clear hw1 hX
  have c0 := HX1.out.cell (j := 0) rfl
  have c1 := HX1.out.cell (j := 1) rfl
  have c2 := HX1.out.cell (j := 2) rfl
  have c3 := HX1.out.cell (j := 3) rfl
  have c4 := HX1.out.cell (j := 4) rfl
  have c5 := HX1.out.cell (j := 5) rfl
  have c6 := HX1.out.cell (j := 6) rfl
  go_wp2_with (go_at_call 13; refine (HC.out _ HB1.out).mono ?_; rintro e w2 ⟨rfl, hb⟩; have HB2 := Lib.hid (below_and HB1.out hb); clear hb)
  go_ret2
  exact ⟨rfl, HB2.out⟩
set_option maxRecDepth 100000 in
set_option maxHeartbeats 6000000 in
theorem appendR_yes (p : Rp) (v vt1 vt2 vt3 : Value) (l : List UInt8) (w : World) (h : RpW w p vt1 vt2 vt3) (hE : ErrV w) (hc : checkR p = true) (hv : Rd w v l) (hl : l.length ≤ 100000000) : Calls Tryz.prog 17 #[v, rpV p vt1 vt2 vt3] w fun e w' => ∃ v', e = .returned (.tuple #[v', .int .i64 0]) ∧ Fresh w.heap.size w' v' (l ++ frm 4 (bodyR p)) ∧ Below w.heap.size w w' := by
  have HC := Lib.hid (fun w' hb => checkR_any p _ _ _ w' (h.below hb) (hE.below hb))
  rw [hc] at HC
  obtain ⟨pk, ck, rfl, -⟩ := row_el h.k
  obtain ⟨pt, ct, rfl, -⟩ := row_el h.t
  obtain ⟨ps, cs, rfl, -⟩ := row_el h.s
  obtain ⟨nk, hnk⟩ : ∃ nk, nk = p.H.length := ⟨_, rfl⟩
  obtain ⟨nt, hnt⟩ : ∃ nt, nt = p.F.length := ⟨_, rfl⟩
  obtain ⟨ns, hns⟩ : ∃ ns, ns = p.R.length := ⟨_, rfl⟩
  have HF := Lib.hid (h.fits hc)
  have HV := Lib.hid hv
  have HBL := Lib.hid (bodyR_len (h.fits hc))
  have HL := Lib.hid hl
  have HRk : Hid (∀ w', Below w.heap.size w w' → Row w' (.slice pk nk ck) 4 p.H.length (rwC helC p.H)) := Lib.hid (fun w' hb => by rw [hnk]; exact (h.k.below hb))
  have HRt : Hid (∀ w', Below w.heap.size w w' → Row w' (.slice pt nt ct) 5 p.F.length (rwC finC p.F)) := Lib.hid (fun w' hb => by rw [hnt]; exact (h.t.below hb))
  have HRs : Hid (∀ w', Below w.heap.size w w' → Row w' (.slice ps ns cs) 4 p.R.length (rwC refC p.R)) := Lib.hid (fun w' hb => by rw [hns]; exact (h.s.below hb))
  rw [← hnk, ← hnt, ← hns] at HC ⊢
  obtain ⟨X, hX⟩ : ∃ X, X = w.heap.size := ⟨_, rfl⟩
  obtain ⟨w1, hw1⟩ : ∃ w1, w1 = w.alloc (.cells #[.int .u64 p.ep, .int .u64 p.sq, .int .u64 p.bo, .int .i64 p.at_, .slice pk nk ck, .slice pt nt ct, .slice ps ns cs] 44) := ⟨_, rfl⟩
  have HX1 : Hid (Blk w1 X [.int .u64 p.ep, .int .u64 p.sq, .int .u64 p.bo, .int .i64 p.at_, .slice pk nk ck, .slice pt nt ct, .slice ps ns cs] 44) := Lib.hid (by rw [hw1, hX]; exact Blk.made w [.int .u64 p.ep, .int .u64 p.sq, .int .u64 p.bo, .int .i64 p.at_, .slice pk nk ck, .slice pt nt ct, .slice ps ns cs] _)
  have HB1 : Hid (Below w.heap.size w w1) := Lib.hid (by rw [hw1]; exact below_alloc _ _)
  clear h hE hc hnk hnt hns hv hl
  have HI3 : Hid (∀ z ∈ [p.ep, p.sq, p.bo], 0 ≤ z ∧ z < 18446744073709551616) := Lib.hid (fun z hz => by (simp at hz; rcases hz with rfl | rfl | rfl; exact HF.out.n.1.1; exact HF.out.n.2.1; exact HF.out.n.2.2.1))
  have HIA : Hid (-9223372036854775808 ≤ p.at_ ∧ p.at_ < 9223372036854775808) := Lib.hid (by have := HF.out.n.2.2.2; omega)
  go_enter Tryz.func17, Tryz.ntmps17
  go_upto_region 1 with fail
  rw [← hw1, ← hX]
  clear hw1 hX
  have c0 := HX1.out.cell (j := 0) rfl
  have c1 := HX1.out.cell (j := 1) rfl
  have c2 := HX1.out.cell (j := 2) rfl
  have c3 := HX1.out.cell (j := 3) rfl
  have c4 := HX1.out.cell (j := 4) rfl
  have c5 := HX1.out.cell (j := 5) rfl
  have c6 := HX1.out.cell (j := 6) rfl
  go_upto_region 4 with (go_at_call 13; refine (HC.out _ HB1.out).mono ?_; rintro e w2 ⟨rfl, hb⟩; have HX2 := Lib.hid (HX1.out.kept hb); have HB2 := Lib.hid (below_and HB1.out hb); clear hb)
  clear c0 c1 c2 c3 c4 c5 c6 HC
  have HLN1 : Hid (Room ([] ++ eN [p.ep, p.sq, p.bo]).length) := Lib.hid (by have := eN_len [p.ep, p.sq, p.bo]; simp only [List.length_append, List.length_nil, List.length_cons] at this ⊢; unfold Room; omega)
  have HSS : Hid (∀ w', Below w2.heap.size w2 w' → w'.cell? ⟨X, 0, none⟩ = some (.int .u64 p.ep) ∧ w'.cell? ⟨X, 1, none⟩ = some (.int .u64 p.sq) ∧ w'.cell? ⟨X, 2, none⟩ = some (.int .u64 p.bo) ∧ w'.cell? ⟨X, 3, none⟩ = some (.int .i64 p.at_)) := Lib.hid (fun w' hb => ⟨(HX2.out.kept hb).cell (j := 0) rfl, (HX2.out.kept hb).cell (j := 1) rfl, (HX2.out.kept hb).cell (j := 2) rfl, (HX2.out.kept hb).cell (j := 3) rfl⟩)
  go_region_held3 (fun w' => w'.cell? ⟨X, 0, none⟩ = some (.int .u64 p.ep) ∧ w'.cell? ⟨X, 1, none⟩ = some (.int .u64 p.sq) ∧ w'.cell? ⟨X, 2, none⟩ = some (.int .u64 p.bo) ∧ w'.cell? ⟨X, 3, none⟩ = some (.int .i64 p.at_))
    ((refine HSS.out _ ?_ <;> (repeat (first | with_reducible exact Below.refl _ _ | with_reducible exact HB39.out | with_reducible exact HB29.out | with_reducible exact HB19.out | with_reducible apply below_dr | with_reducible apply below_as))))
    (first
      | (go_at_call 30; refine (appendInt_any v3 ([] ++ eN [p.ep, p.sq, p.bo]) p.at_ _ (HF1.out.rd.below (by repeat (first | with_reducible exact Below.refl _ _ | with_reducible apply below_dr | with_reducible apply below_as))) HLN1.out HIA.out.1 HIA.out.2).mono ?_; rintro e w4 ⟨v4, rfl, hf, hb⟩; have HBT2 := Lib.hid hb; have HB29 : Hid (Below w2.heap.size w2 w4) := Lib.hid (below_and (by repeat (first | with_reducible exact Below.refl _ _ | with_reducible exact HB39.out | with_reducible exact HB29.out | with_reducible exact HB19.out | with_reducible apply below_dr | with_reducible apply below_as)) hb); have HF2 : Hid (Fresh w.heap.size w4 v4 (([] ++ eN [p.ep, p.sq, p.bo]) ++ eI p.at_)) := Lib.hid (hf.mono (Below.size (below_and HB2.out (by repeat (first | with_reducible exact Below.refl _ _ | with_reducible exact HB39.out | with_reducible exact HB29.out | with_reducible exact HB19.out | with_reducible apply below_dr | with_reducible apply below_as))))); clear hf hb)
      | (go_at_call 29; refine (nums_any (.slice none 0 0) [] [p.ep, p.sq, p.bo] 3 _ _ (Fresh.rd (base := 0) ⟨rfl, .inl ⟨rfl, rfl⟩⟩) (by simp) (show Blk _ _ [.int .u64 p.ep, .int .u64 p.sq, .int .u64 p.bo] _ from by repeat (first | with_reducible exact Blk.made _ [.int .u64 p.ep, .int .u64 p.sq, .int .u64 p.bo] _ | (with_reducible refine blk_made' [.int .u64 p.ep, .int .u64 p.sq, .int .u64 p.bo] ?_; simp; done) | with_reducible apply blk_dr | with_reducible refine Blk.alloc ?_ _ | with_reducible refine Blk.kept ?_ HBT3.out | with_reducible refine Blk.kept ?_ HBT2.out | with_reducible refine Blk.kept ?_ HBT1.out)) rfl (by omega) (by omega) HI3.out).mono ?_; rintro e w3 ⟨v3, rfl, hf, hb⟩; have HBT1 := Lib.hid hb; have HB19 : Hid (Below w2.heap.size w2 w3) := Lib.hid (below_and (by repeat (first | with_reducible exact Below.refl _ _ | with_reducible exact HB39.out | with_reducible exact HB29.out | with_reducible exact HB19.out | with_reducible apply below_dr | with_reducible apply below_as)) hb); have HF1 : Hid (Fresh w.heap.size w3 v3 ([] ++ eN [p.ep, p.sq, p.bo])) := Lib.hid (hf.mono (Below.size (below_and HB2.out (by repeat (first | with_reducible exact Below.refl _ _ | with_reducible exact HB39.out | with_reducible exact HB29.out | with_reducible exact HB19.out | with_reducible apply below_dr | with_reducible apply below_as))))); clear hf hb))
  all_goals (have HXA := Lib.hid (HX2.out.kept HB29.out); have HBA := Lib.hid (below_and HB2.out HB29.out); have HFA : Hid (Fresh w.heap.size w4 v4 (eU p.ep ++ (eU p.sq ++ (eU p.bo ++ eI p.at_)))) := Lib.hid (by have h9 := HF2.out; rw [show (([] ++ eN [p.ep, p.sq, p.bo]) ++ eI p.at_) = eU p.ep ++ (eU p.sq ++ (eU p.bo ++ eI p.at_)) from by unfold eN; simp] at h9; exact h9); obtain ⟨A0, hA0⟩ : ∃ A0, A0 = eU p.ep ++ (eU p.sq ++ (eU p.bo ++ eI p.at_)) := ⟨_, rfl⟩; rw [← hA0] at HFA; have HBODY : Hid (bodyR p = ((A0 ++ eL helE p.H) ++ eL finE p.F) ++ eL refE p.R) := Lib.hid (by rw [hA0]; unfold bodyR; simp); clear hA0 HF2; have HLA : Hid ((((A0 ++ eL helE p.H) ++ eL finE p.F) ++ eL refE p.R).length ≤ 400000) := Lib.hid (by have := HBL.out; rw [HBODY.out] at this; simp only [List.length_append] at this ⊢; omega); have d4 := HXA.out.cell (j := 4) rfl; have d5 := HXA.out.cell (j := 5) rfl; have d6 := HXA.out.cell (j := 6) rfl; go_wp2_with (first | (go_at_call 40; refine (letter_any v _ l 4 (bodyR p) _ (HV.out.below HB12.out) (by have h9 := HF12.out.rd; rw [← HBODY.out] at h9; exact h9) (by have := HL.out; omega) (by have := HBL.out; omega)).mono ?_; rintro e w14 ⟨v14, rfl, hf, hb⟩; have HB14 := Lib.hid (below_and HB12.out hb); have HF14 := Lib.hid (hf.mono HB12.out.size); clear hf hb) | (go_at_call 86; refine (refP_any v11 _ ((A0 ++ eL helE p.H) ++ eL finE p.F) p.R _ HF11.out.rd (by have := HLA.out; simp only [List.length_append] at this ⊢; omega) (HRs.out _ HB11.out) HF.out.s.1 HF.out.s.2).mono ?_; rintro e w12 ⟨v12, rfl, hf, hb⟩; have HB12 := Lib.hid (below_and HB11.out hb); have HF12 := Lib.hid (hf.mono HB11.out.size); have HX12 := Lib.hid (HX11.out.kept hb); have g2_4 := HX12.out.cell (j := 4) rfl; have g2_5 := HX12.out.cell (j := 5) rfl; have g2_6 := HX12.out.cell (j := 6) rfl; clear hf hb) | (go_at_call 84; refine (finP_any v10 _ (A0 ++ eL helE p.H) p.F _ HF10.out.rd (by have := HLA.out; simp only [List.length_append] at this ⊢; omega) (HRt.out _ HB10.out) HF.out.t.1 HF.out.t.2).mono ?_; rintro e w11 ⟨v11, rfl, hf, hb⟩; have HB11 := Lib.hid (below_and HB10.out hb); have HF11 := Lib.hid (hf.mono HB10.out.size); have HX11 := Lib.hid (HX10.out.kept hb); have g1_4 := HX11.out.cell (j := 4) rfl; have g1_5 := HX11.out.cell (j := 5) rfl; have g1_6 := HX11.out.cell (j := 6) rfl; clear hf hb) | (go_at_call 82; refine (helP_any v4 _ A0 p.H _ HFA.out.rd (by have := HLA.out; simp only [List.length_append] at this ⊢; omega) (HRk.out _ HBA.out) HF.out.k.1 HF.out.k.2).mono ?_; rintro e w10 ⟨v10, rfl, hf, hb⟩; have HB10 := Lib.hid (below_and HBA.out hb); have HF10 := Lib.hid (hf.mono HBA.out.size); have HX10 := Lib.hid (HXA.out.kept hb); have g0_4 := HX10.out.cell (j := 4) rfl; have g0_5 := HX10.out.cell (j := 5) rfl; have g0_6 := HX10.out.cell (j := 6) rfl; clear hf hb)); go_ret2; exact ⟨v14, rfl, HF14.out, HB14.out⟩)
end Go.Proofs.YtopkfomlppnpeaaGreatDoor.Ms
