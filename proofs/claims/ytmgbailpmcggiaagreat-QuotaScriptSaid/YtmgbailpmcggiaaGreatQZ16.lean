/- Texts of one proof, laid together: RQCharge. No condition of ours. -/
import Derived.Test.YtmgbailpmcggiaaGreatQZ15
import Derived.Deep.DeepCutAuto
namespace Go.Proofs.YtmgbailpmcggiaaGreat
open Go.RowKit

set_option maxRecDepth 100000 in
set_option maxHeartbeats 8000000 in
theorem rcharge_any (base g n : Nat) (vG vC : Value) (S G : List Gr) (C : List Ch) (c : Ch) (w : World) (h : RBk base w g vG vC S C) (hq : QI n G C) (hs : Sg S G) (hl : C.length ≤ 100000) (hbase : base ≤ w.heap.size) :
    Calls Tryz.prog 15 #[ptr g, chV c] w fun e w' => e = .returned (.int .i64 (chargeP G C c).1) ∧ RqC base w w' g vG S (chargeP G C c).2 := by
  obtain ⟨r, C', hp⟩ : ∃ r C', chargeP G C c = (r, C') := ⟨_, _, rfl⟩
  rw [hp]
  have HP := Lib.hid hp
  obtain ⟨w1, hw1⟩ : ∃ w1, w1 = w.alloc (.cells #[.string c.n, .string c.u, .int .i64 c.b, .int .i64 c.a.c, .int .i64 c.a.r, .int .i64 c.a.d, .int .i64 c.a.p] 43) := ⟨_, rfl⟩
  obtain ⟨B, hB⟩ : ∃ B, B = w.heap.size := ⟨_, rfl⟩
  have X1 : Hid (Blk w1 B (chC c) 43) := Lib.hid (by rw [hw1, hB]; exact Blk.made w (chC c) _)
  have HB1 : Hid (Below w.heap.size w w1) := Lib.hid (by rw [hw1]; exact below_alloc w _)
  have HQI := Lib.hid hq
  have HSG := Lib.hid hs
  have HBS := Lib.hid hbase
  obtain ⟨ix, hi, hz0, hz1, hz2⟩ := info_parts info_ch
  obtain ⟨p, cc, rfl, hc, hm⟩ := own_slice h.ch
  have H1 := Lib.hid (h.kept HB1.out)
  have hml : maxLen ≤ 9223372036854775807 := by decide
  have HL := Lib.hid hl
  have HOLD : Hid (∀ w', Below w.heap.size w w' → C' = C → RqC base w w' g vG S C') := Lib.hid (fun w' hb e => RqC.mk (by rw [e]; exact h.kept hb) (Frp.of_below hb _))
  clear h hq hs hl hp hbase
  obtain ⟨wr, hwr⟩ : ∃ wr, wr = !(askB c.u c.b && c.a.okB) := ⟨_, rfl⟩
  have HWR : Hid (∀ w, Calls Tryz.prog 35 #[.string c.u, .int .i64 c.b, .agg #[.int .i64 c.a.c, .int .i64 c.a.r, .int .i64 c.a.d, .int .i64 c.a.p]] w fun e w' => e = .returned (.bool wr) ∧ Below w.heap.size w w') := Lib.hid (fun w => by rw [hwr]; exact rwrong_any c.u c.b c.a w)
  have c0 := X1.out.cell (j := 0) rfl
  have c1 := X1.out.cell (j := 1) rfl
  have c2 := X1.out.cell (j := 2) rfl
  have c3 := X1.out.cell (j := 3) rfl
  have c4 := X1.out.cell (j := 4) rfl
  have c5 := X1.out.cell (j := 5) rfl
  have c6 := X1.out.cell (j := 6) rfl
  cases wr
  case true =>
    have HQ : Hid (r = 2 ∧ C' = C) := Lib.hid (by
      have h1 : (askB c.u c.b && c.a.okB) = false := by rw [← Bool.not_eq_true']; exact hwr.symm
      have := HP.out
      unfold chargeP at this
      rw [Bool.and_assoc, h1, Bool.and_false, if_pos rfl] at this
      exact ⟨(congrArg Prod.fst this).symm, (congrArg Prod.snd this).symm⟩)
    clear hwr
    go_enter Tryz.func15, Tryz.ntmps15
    go_upto_region 1 with fail
    rw [← hw1, ← hB]
    clear hw1 hB
    go_wp2_with (go_at_call 35; refine (HWR.out _).mono ?_; rintro e w2 ⟨rfl, hb⟩; have X2 := Lib.hid (X1.out.kept hb); have H2 := Lib.hid (H1.out.kept hb); have HB2 := Lib.hid (below_and HB1.out hb); clear hb c0 c1 c2 c3 c4 c5 c6; have c0 := X2.out.cell (j := 0) rfl; have c1 := X2.out.cell (j := 1) rfl; have c2 := X2.out.cell (j := 2) rfl; have c3 := X2.out.cell (j := 3) rfl; have c4 := X2.out.cell (j := 4) rfl; have c5 := X2.out.cell (j := 5) rfl; have c6 := X2.out.cell (j := 6) rfl)
    go_ret
    exact ⟨ret_int HQ.out.1.symm, HOLD.out _ HB2.out HQ.out.2⟩
  case false =>
  have hak : (askB c.u c.b && c.a.okB) = true := by simpa using hwr
  rw [Bool.and_eq_true] at hak
  have HAK := Lib.hid hak
  clear hwr hak
  rcases nmd_cases c.n with ⟨h0, hn⟩ | ⟨h0, h1, hn⟩ | ⟨h0, h1, hn⟩
  · have i1 : (c.n.size : Int) < 1 := by omega
    have HQ : Hid (r = 2 ∧ C' = C) := Lib.hid (by
      have := HP.out
      unfold chargeP at this
      rw [hn, Bool.false_and, Bool.false_and, if_pos rfl] at this
      exact ⟨(congrArg Prod.fst this).symm, (congrArg Prod.snd this).symm⟩)
    clear hn h0
    go_enter Tryz.func15, Tryz.ntmps15
    go_upto_region 1 with fail
    rw [← hw1, ← hB]
    clear hw1 hB
    go_wp2_with (go_at_call 35; refine (HWR.out _).mono ?_; rintro e w2 ⟨rfl, hb⟩; have X2 := Lib.hid (X1.out.kept hb); have H2 := Lib.hid (H1.out.kept hb); have HB2 := Lib.hid (below_and HB1.out hb); clear hb c0 c1 c2 c3 c4 c5 c6; have c0 := X2.out.cell (j := 0) rfl; have c1 := X2.out.cell (j := 1) rfl; have c2 := X2.out.cell (j := 2) rfl; have c3 := X2.out.cell (j := 3) rfl; have c4 := X2.out.cell (j := 4) rfl; have c5 := X2.out.cell (j := 5) rfl; have c6 := X2.out.cell (j := 6) rfl)
    go_ret
    exact ⟨ret_int HQ.out.1.symm, HOLD.out _ HB2.out HQ.out.2⟩
  · have i1 : ¬ (c.n.size : Int) < 1 := by omega
    have i2 : (64 : Int) < (c.n.size : Int) := by omega
    have HQ : Hid (r = 2 ∧ C' = C) := Lib.hid (by
      have := HP.out
      unfold chargeP at this
      rw [hn, Bool.false_and, Bool.false_and, if_pos rfl] at this
      exact ⟨(congrArg Prod.fst this).symm, (congrArg Prod.snd this).symm⟩)
    clear hn h0 h1
    go_enter Tryz.func15, Tryz.ntmps15
    go_upto_region 1 with fail
    rw [← hw1, ← hB]
    clear hw1 hB
    go_wp2_with (go_at_call 35; refine (HWR.out _).mono ?_; rintro e w2 ⟨rfl, hb⟩; have X2 := Lib.hid (X1.out.kept hb); have H2 := Lib.hid (H1.out.kept hb); have HB2 := Lib.hid (below_and HB1.out hb); clear hb c0 c1 c2 c3 c4 c5 c6; have c0 := X2.out.cell (j := 0) rfl; have c1 := X2.out.cell (j := 1) rfl; have c2 := X2.out.cell (j := 2) rfl; have c3 := X2.out.cell (j := 3) rfl; have c4 := X2.out.cell (j := 4) rfl; have c5 := X2.out.cell (j := 5) rfl; have c6 := X2.out.cell (j := 6) rfl)
    go_ret
    exact ⟨ret_int HQ.out.1.symm, HOLD.out _ HB2.out HQ.out.2⟩
  have i1 : ¬ (c.n.size : Int) < 1 := by omega
  have i2 : ¬ (64 : Int) < (c.n.size : Int) := by omega
  have HFN : Hid (nmdB c.n = true) := Lib.hid hn
  clear h0 h1 hn
  cases hf : kfnd Ch.key C c.n.data.toList with
  | some x =>
    have HPL : Hid (cplc c.n C = ((kpl Ch.key C c.n.data.toList : Nat) : Int)) := Lib.hid (cplc_some HQI.out.ch.rise hf)
    obtain ⟨k, hk⟩ : ∃ k, k = kpl Ch.key C c.n.data.toList := ⟨_, rfl⟩
    rw [← hk] at HPL
    have j0 : (0 : Int) ≤ (k : Int) := by omega
    have HQ : Hid (r = 7 ∧ C' = C) := Lib.hid (by
      have := HP.out
      unfold chargeP at this
      rw [HFN.out, HAK.out.1, HAK.out.2, if_neg (by decide), show Ch.key c = c.n.data.toList from rfl, hf, if_pos (show (some x).isSome = true from rfl)] at this
      exact ⟨(congrArg Prod.fst this).symm, (congrArg Prod.snd this).symm⟩)
    clear hf hk
    go_enter Tryz.func15, Tryz.ntmps15
    go_upto_region 1 with fail
    rw [← hw1, ← hB]
    clear hw1 hB
    go_wp2_with (first | (go_at_call 35; refine (HWR.out _).mono ?_; rintro e w2 ⟨rfl, hb⟩; have X2 := Lib.hid (X1.out.kept hb); have H2 := Lib.hid (H1.out.kept hb); have HB2 := Lib.hid (below_and HB1.out hb); clear hb c0 c1 c2 c3 c4 c5 c6; have c0 := X2.out.cell (j := 0) rfl; have c1 := X2.out.cell (j := 1) rfl; have c2 := X2.out.cell (j := 2) rfl; have c3 := X2.out.cell (j := 3) rfl; have c4 := X2.out.cell (j := 4) rfl; have c5 := X2.out.cell (j := 5) rfl; have c6 := X2.out.cell (j := 6) rfl) | (go_at_call 36; refine (rplace_any base g vG _ S C c.n _ H2.out).mono ?_; rw [HPL.out]; rintro e w3 ⟨rfl, hb⟩; have X3 := Lib.hid (X2.out.kept hb); have H3 := Lib.hid (H2.out.kept hb); have HB3 := Lib.hid (below_and HB2.out hb); clear hb c0 c1 c2 c3 c4 c5 c6))
    go_ret
    exact ⟨ret_int HQ.out.1.symm, HOLD.out _ HB3.out HQ.out.2⟩
  | none =>
  have HPL := Lib.hid (cplc_none hf)
  have HF := Lib.hid hf
  obtain ⟨z, er, hz⟩ : ∃ z er, addR (psum (hit c.u c.b c.n) C) c.a = (z, er) := ⟨_, _, rfl⟩
  have HZ := Lib.hid hz
  have HUS : Hid (∀ w', RBk base w' g vG (.slice p C.length cc) S C → Calls Tryz.prog 37 #[ptr g, .string c.u, .int .i64 c.b, .string ⟨#[]⟩, .agg #[.int .i64 c.a.c, .int .i64 c.a.r, .int .i64 c.a.d, .int .i64 c.a.p]] w' fun e w2 => e = .returned (.tuple #[.agg #[.int .i64 z.c, .int .i64 z.r, .int .i64 z.d, .int .i64 z.p], .bool (er == 0)]) ∧ Below w'.heap.size w' w2) := Lib.hid (fun w' h' => rused_any base g vG _ S C c.u ⟨#[]⟩ c.b c.a w' h' HL.out z er (by rw [used_charge HQI.out c HAK.out.2 hf]; exact HZ.out))
  have HCP : Hid (chargeP G C c = if mayP G C c false ≠ 0 then (mayP G C c false, C) else (0, kput Ch.key C c)) := Lib.hid (by
    unfold chargeP
    rw [HFN.out, HAK.out.1, HAK.out.2, if_neg (by decide), show Ch.key c = c.n.data.toList from rfl, hf, if_neg (by decide)])
  have HMP : Hid (mayP G C c false = if er ≠ 0 then 9 else if (!(c.b == 0) && !fitsB z (grantA G c.u c.b)) = true then 12 else 0) := Lib.hid (by
    unfold mayP
    rw [HZ.out]
    simp)
  clear hf hz
  obtain ⟨eb, heb⟩ : ∃ eb, eb = (er == 0) := ⟨_, rfl⟩
  rw [← heb] at HUS
  cases eb
  case false =>
    have HQ : Hid (r = 9 ∧ C' = C) := Lib.hid (by
      have := HP.out
      have hne : er ≠ 0 := by simpa using heb.symm
      rw [HCP.out, HMP.out, if_pos hne, if_pos (by decide)] at this
      exact ⟨(congrArg Prod.fst this).symm, (congrArg Prod.snd this).symm⟩)
    clear heb
    go_enter Tryz.func15, Tryz.ntmps15
    go_upto_region 1 with fail
    rw [← hw1, ← hB]
    clear hw1 hB
    go_upto_region 5 with (first | (go_at_call 35; refine (HWR.out _).mono ?_; rintro e w2 ⟨rfl, hb⟩; have X2 := Lib.hid (X1.out.kept hb); have H2 := Lib.hid (H1.out.kept hb); have HB2 := Lib.hid (below_and HB1.out hb); clear hb c0 c1 c2 c3 c4 c5 c6; have c0 := X2.out.cell (j := 0) rfl; have c1 := X2.out.cell (j := 1) rfl; have c2 := X2.out.cell (j := 2) rfl; have c3 := X2.out.cell (j := 3) rfl; have c4 := X2.out.cell (j := 4) rfl; have c5 := X2.out.cell (j := 5) rfl; have c6 := X2.out.cell (j := 6) rfl) | (go_at_call 36; refine (rplace_any base g vG _ S C c.n _ H2.out).mono ?_; rw [HPL.out]; rintro e w3 ⟨rfl, hb⟩; have X3 := Lib.hid (X2.out.kept hb); have H3 := Lib.hid (H2.out.kept hb); have HB3 := Lib.hid (below_and HB2.out hb); clear hb c0 c1 c2 c3 c4 c5 c6))
    have c0 := X3.out.cell (j := 0) rfl
    have c1 := X3.out.cell (j := 1) rfl
    have c2 := X3.out.cell (j := 2) rfl
    have c3 := X3.out.cell (j := 3) rfl
    have c4 := X3.out.cell (j := 4) rfl
    have c5 := X3.out.cell (j := 5) rfl
    have c6 := X3.out.cell (j := 6) rfl
    go_wp2_with (go_at_call 37; refine (HUS.out _ H3.out).mono ?_; rintro e w4 ⟨rfl, hb⟩; have X4 := Lib.hid (X3.out.kept hb); have H4 := Lib.hid (H3.out.kept hb); have HB4 := Lib.hid (below_and HB3.out hb); clear hb c0 c1 c2 c3 c4 c5 c6)
    go_ret
    exact ⟨ret_int HQ.out.1.symm, HOLD.out _ (below_and HB4.out (below_alloc _ _)) HQ.out.2⟩
  case true =>
  have HER : Hid (er = 0) := Lib.hid (by simpa using heb.symm)
  obtain ⟨ga, hga⟩ : ∃ ga, ga = grantA G c.u c.b := ⟨_, rfl⟩
  have HGR : Hid (∀ w', RBk base w' g vG (.slice p C.length cc) S C → Calls Tryz.prog 39 #[ptr g, .string c.u, .int .i64 c.b] w' fun e w2 => e = .returned (.agg #[.int .i64 ga.c, .int .i64 ga.r, .int .i64 ga.d, .int .i64 ga.p]) ∧ Below w'.heap.size w' w2) := Lib.hid (fun w' h' => by rw [hga, ← ask_gfind HQI.out HSG.out HAK.out.1]; exact rgr_any base g vG _ S C c.u c.b w' h')
  rw [← hga] at HMP
  clear heb hga
  obtain ⟨nb, hnb⟩ : ∃ nb, nb = (c.b != 0) := ⟨_, rfl⟩
  obtain ⟨fb, hfb⟩ : ∃ fb, fb = fitsB z ga := ⟨_, rfl⟩
  have HFT : Hid (∀ w', Calls Tryz.prog 38 #[.agg #[.int .i64 z.c, .int .i64 z.r, .int .i64 z.d, .int .i64 z.p], .agg #[.int .i64 ga.c, .int .i64 ga.r, .int .i64 ga.d, .int .i64 ga.p]] w' fun e w2 => e = .returned (.bool fb) ∧ Below w'.heap.size w' w2) := Lib.hid (fun w' => by rw [hfb]; exact rfits_any z ga w')
  rw [← hfb] at HMP
  have HMP2 : Hid (mayP G C c false = if (nb && !fb) = true then 12 else 0) := Lib.hid (by rw [HMP.out, if_neg (by simpa using HER.out), hnb]; rfl)
  go_enter Tryz.func15, Tryz.ntmps15
  go_upto_region 1 with fail
  rw [← hw1, ← hB]
  clear hw1 hB
  go_upto_region 5 with (first | (go_at_call 35; refine (HWR.out _).mono ?_; rintro e w2 ⟨rfl, hb⟩; have X2 := Lib.hid (X1.out.kept hb); have H2 := Lib.hid (H1.out.kept hb); have HB2 := Lib.hid (below_and HB1.out hb); clear hb c0 c1 c2 c3 c4 c5 c6; have c0 := X2.out.cell (j := 0) rfl; have c1 := X2.out.cell (j := 1) rfl; have c2 := X2.out.cell (j := 2) rfl; have c3 := X2.out.cell (j := 3) rfl; have c4 := X2.out.cell (j := 4) rfl; have c5 := X2.out.cell (j := 5) rfl; have c6 := X2.out.cell (j := 6) rfl) | (go_at_call 36; refine (rplace_any base g vG _ S C c.n _ H2.out).mono ?_; rw [HPL.out]; rintro e w3 ⟨rfl, hb⟩; have X3 := Lib.hid (X2.out.kept hb); have H3 := Lib.hid (H2.out.kept hb); have HB3 := Lib.hid (below_and HB2.out hb); clear hb c0 c1 c2 c3 c4 c5 c6))
  have c0 := X3.out.cell (j := 0) rfl
  have c1 := X3.out.cell (j := 1) rfl
  have c2 := X3.out.cell (j := 2) rfl
  have c3 := X3.out.cell (j := 3) rfl
  have c4 := X3.out.cell (j := 4) rfl
  have c5 := X3.out.cell (j := 5) rfl
  have c6 := X3.out.cell (j := 6) rfl
  go_upto_region 6 with (go_at_call 37; refine (HUS.out _ H3.out).mono ?_; rintro e w4 ⟨rfl, hb⟩; have X4 := Lib.hid (X3.out.kept hb); have H4 := Lib.hid (H3.out.kept hb); have HB4 := Lib.hid (below_and HB3.out hb); clear hb c0 c1 c2 c3 c4 c5 c6)
  refine at_hide (F := fun w' => Blk w' w4.heap.size (amC z) 34 ∧ Blk w' B (chC c) 43 ∧ RBk base w' g vG (.slice p C.length cc) S C ∧ Below w.heap.size w w') ⟨Blk.made w4 (amC z) _, X4.out.kept (below_alloc _ _), H4.out.kept (below_alloc _ _), below_and HB4.out (below_alloc _ _)⟩ ?_
  intro w5 hF
  obtain ⟨f1, f2, f3, f4⟩ := hF
  obtain ⟨Z, hZ⟩ : ∃ Z, Z = w4.heap.size := ⟨_, rfl⟩
  rw [← hZ] at f1 ⊢
  have Z5 := Lib.hid f1
  have X5 := Lib.hid f2
  have H5 := Lib.hid f3
  have HB5 := Lib.hid f4
  clear f1 f2 f3 f4 hZ hfb
  go_upto_region 8 with fail
  go_cut [58] (fun s58 wx => s58 = .bool (nb && !fb) ∧ Blk wx B (chC c) 43 ∧ RBk base wx g vG (.slice p C.length cc) S C ∧ Below w.heap.size w wx)
  case first =>
    have c1 := Past.blk X5.out (j := 1) rfl
    have c2 := Past.blk X5.out (j := 2) rfl
    have z0 := Past.blk Z5.out (j := 0) rfl
    have z1 := Past.blk Z5.out (j := 1) rfl
    have z2 := Past.blk Z5.out (j := 2) rfl
    have z3 := Past.blk Z5.out (j := 3) rfl
    cases nb
    all_goals (
      have t0 := hnb.symm
      clear hnb
      refine wp_region_past (by kernel_rfl) (by kernel_rfl) ?_
      repeat (go_big_quiet_step (first
        | (go_at_call 39; exact past_call (HGR.out _ (H5.out.kept (Past.h _))))
        | (go_at_call 38; exact past_call (HFT.out _))))
      refine wpQuiet_nil ?_
      intro _ hw'
      obtain ⟨s, hw2⟩ := hw'
      subst hw2
      go_wp2_with fail
      go_meet
      exact ⟨by simp, X5.out.kept s.h, H5.out.kept s.h, below_and HB5.out s.h⟩)
  case rest =>
  obtain ⟨rfl, hx, hh, hb⟩ := hcut
  obtain ⟨w6, hw6⟩ : ∃ w6, w6 = wc := ⟨_, rfl⟩
  rw [← hw6] at hx hh hb ⊢
  have X6 := Lib.hid hx
  have H6 := Lib.hid hh
  have HB6 := Lib.hid hb
  clear hx hh hb hw6 hnb
  cases hov : (nb && !fb)
  case true =>
    have HQ : Hid (r = 12 ∧ C' = C) := Lib.hid (by
      have := HP.out
      rw [HCP.out, HMP2.out, if_pos hov, if_pos (by decide)] at this
      exact ⟨(congrArg Prod.fst this).symm, (congrArg Prod.snd this).symm⟩)
    clear hov
    go_wp2
    go_ret
    exact ⟨ret_int HQ.out.1.symm, HOLD.out _ HB6.out HQ.out.2⟩
  case false =>
  obtain ⟨k, hk⟩ : ∃ k, k = kpl Ch.key C c.n.data.toList := ⟨_, rfl⟩
  have HQ : Hid (r = 0 ∧ C' = C.take k ++ c :: C.drop k) := Lib.hid (by
    have := HP.out
    rw [HCP.out, HMP2.out, hov] at this
    change ((0 : Int), kput Ch.key C c) = (r, C') at this
    refine ⟨(congrArg Prod.fst this).symm, ?_⟩
    have h2 : kput Ch.key C c = C' := congrArg Prod.snd this
    rw [← h2, hk]
    unfold kput
    rw [krem_no (L := C) (s := Ch.key c) (kfnd_none HF.out)]
    exact kins_places HQI.out.ch.rise (kfnd_none HF.out))
  have HK : Hid (k ≤ C.length) := Lib.hid (by rw [hk]; exact kpl_le C _)
  have HKL : Hid (∀ j (h : j < C.length), j < k → Op.bytesLess C[j].n.toList c.n.toList = true) := Lib.hid (fun j hj hjk => by
    rw [less_lt', Lib.toList_data, Lib.toList_data]
    have := kpl_lt (key := Ch.key) (L := C) (s := c.n.data.toList) hj (by omega)
    exact decide_eq_true this)
  have HKA : Hid (∀ h : k < C.length, Op.bytesLess C[k].n.toList c.n.toList = false) := Lib.hid (by
    subst hk
    intro h
    rw [less_lt', Lib.toList_data, Lib.toList_data]
    have := kpl_at (key := Ch.key) (L := C) (s := c.n.data.toList) h
    exact decide_eq_false this)
  clear hov hk
  go_wp2
  go_loopw [7] (fun iv wr => ∃ j : Nat, j ≤ k ∧ iv = .int .i64 (j : Int) ∧ Hid (Below w6.heap.size w6 wr)) (fun iv _ => k - (intOf iv).toNat)
  case atStart => exact ⟨0, Nat.zero_le _, rfl, Lib.hid (Below.refl _ _)⟩
  case round =>
    obtain ⟨j, hj, rfl, HB⟩ := hrel
    have XR := Lib.hid (X6.out.kept HB.out)
    have HR := Lib.hid (H6.out.kept HB.out)
    have HBR := Lib.hid (below_and HB6.out HB.out)
    have b1 := Past.blk HR.out.blk (j := 1) rfl
    have c0 := Past.blk XR.out (j := 0) rfl
    have i0 : (0 : Int) ≤ (j : Int) := by omega
    by_cases hlt : j < k
    · have hjl : j < C.length := by have := HK.out; omega
      obtain ⟨q, rfl, hcs⟩ := HR.out.chAt hjl
      obtain ⟨y, hy⟩ : ∃ y, y = C[j].n := ⟨_, rfl⟩
      have y0 : ∀ s : Past wr, s.val.cell? ⟨q, j * 7, none⟩ = some (.string y) := Past.cell (by rw [hy]; exact hcs 0 _ (by omega) rfl)
      have t1 : Op.bytesLess y.toList c.n.toList = true := by rw [hy]; exact HKL.out j hjl hlt
      have i3 : (j : Int) < (C.length : Int) := by omega
      clear hcs hy
      go_wp2
      refine wp_region_past (by kernel_rfl) (by kernel_rfl) ?_
      repeat (go_big_quiet_step (fail))
      refine wpQuiet_nil ?_
      intro _ hw'
      obtain ⟨s9, hw''⟩ := hw'
      subst hw''
      obtain ⟨w9, h9, e9⟩ : ∃ w9, Below wr.heap.size wr w9 ∧ w9 = s9.val := ⟨_, s9.h, rfl⟩
      rw [← e9]
      have HB9 := Lib.hid (below_and HB.out h9)
      clear h9 e9 b1 c0 y0
      go_wp2
      go_roundw
      case rel => exact ⟨j + 1, hlt, by go_num, HB9⟩
      case measure => simp [intOf]; omega
    · obtain rfl : j = k := by omega
      have b2 : (j : Int) ≤ (C.length : Int) := by have := HK.out; omega
      have b6 : (C.length : Int) ≤ (cc : Int) := by omega
      have b3 : (j : Int) ≤ (cc : Int) := by omega
      by_cases hin : j < C.length
      · obtain ⟨q, rfl, hcs⟩ := HR.out.chAt hin
        obtain ⟨y, hy⟩ : ∃ y, y = C[j].n := ⟨_, rfl⟩
        have y0 : ∀ s : Past wr, s.val.cell? ⟨q, j * 7, none⟩ = some (.string y) := Past.cell (by rw [hy]; exact hcs 0 _ (by omega) rfl)
        have t1 : Op.bytesLess y.toList c.n.toList = false := by rw [hy]; exact HKA.out hin
        have i3 : (j : Int) < (C.length : Int) := by omega
        obtain ⟨p, hpp⟩ : ∃ p, p = some (⟨q, 0, none⟩ : Addr) := ⟨_, rfl⟩
        clear hcs hy
        go_wp2
        refine wp_region_past (by kernel_rfl) (by kernel_rfl) ?_
        repeat (go_big_quiet_step (fail))
        refine wpQuiet_nil ?_
        intro _ hw'
        obtain ⟨s9, hw''⟩ := hw'
        subst hw''
        obtain ⟨w9, h9, e9⟩ : ∃ w9, Below wr.heap.size wr w9 ∧ w9 = s9.val := ⟨_, s9.h, rfl⟩
        rw [← e9]
        have XN := Lib.hid (XR.out.kept h9)
        have HN := Lib.hid (HR.out.kept h9)
        have HBN := Lib.hid (below_and HBR.out h9)
        clear h9 e9
        clear b1 c0 y0
        rw [← hpp] at HN
        clear hpp
        go_upto_region 13 with fail
        have HSS : Hid (∀ w', Below w9.heap.size w9 w' → w'.cell? ⟨g, 1, none⟩ = some (.slice p C.length cc) ∧ w'.cell? ⟨B, 0, none⟩ = some (.string c.n) ∧ w'.cell? ⟨B, 1, none⟩ = some (.string c.u) ∧ w'.cell? ⟨B, 2, none⟩ = some (.int .i64 c.b) ∧ w'.cell? ⟨B, 3, none⟩ = some (.int .i64 c.a.c) ∧ w'.cell? ⟨B, 4, none⟩ = some (.int .i64 c.a.r) ∧ w'.cell? ⟨B, 5, none⟩ = some (.int .i64 c.a.d) ∧ w'.cell? ⟨B, 6, none⟩ = some (.int .i64 c.a.p)) := Lib.hid (fun w' hb => ⟨(HN.out.kept hb).blk.cell (j := 1) rfl, (XN.out.kept hb).cell (j := 0) rfl, (XN.out.kept hb).cell (j := 1) rfl, (XN.out.kept hb).cell (j := 2) rfl, (XN.out.kept hb).cell (j := 3) rfl, (XN.out.kept hb).cell (j := 4) rfl, (XN.out.kept hb).cell (j := 5) rfl, (XN.out.kept hb).cell (j := 6) rfl⟩)
        refine wp_region_noPanic ?_
        refine wp_region_lastH (fun w' => w'.cell? ⟨g, 1, none⟩ = some (.slice p C.length cc) ∧ w'.cell? ⟨B, 0, none⟩ = some (.string c.n) ∧ w'.cell? ⟨B, 1, none⟩ = some (.string c.u) ∧ w'.cell? ⟨B, 2, none⟩ = some (.int .i64 c.b) ∧ w'.cell? ⟨B, 3, none⟩ = some (.int .i64 c.a.c) ∧ w'.cell? ⟨B, 4, none⟩ = some (.int .i64 c.a.r) ∧ w'.cell? ⟨B, 5, none⟩ = some (.int .i64 c.a.d) ∧ w'.cell? ⟨B, 6, none⟩ = some (.int .i64 c.a.p)) 21 rfl rfl (by kernel_rfl) (by kernel_rfl) (HSS.out _ (below_drewN 1)) (fun hHeld => ?_)
        have HB5 : Hid (Below w9.heap.size w9 w9.drew) := Lib.hid (below_drewN 1)
        have hS5 : True := trivial
        obtain ⟨wd5, hwd⟩ : ∃ xq, xq = w9.drew := ⟨_, rfl⟩
        rw [← hwd] at hHeld HB5 ⊢
        clear hwd
        refine wpAnyH_take (i := 0) (v := ?v17) rfl (by kernel_rfl) (by kernel_rfl) (by kernel_rfl) (fun _ _ _ h => h) (Or.inl ⟨by rfl, ?hy17⟩) (by assumption) ?rest17
        case hy17 => (intro _ hSw; (try dsimp only at hSw); go_simp; (try with_reducible rfl))
        (try simp only [Act.put]); (try simp only [List.setIfInBounds_toArray]); (try simp only [List.set_cons_succ]); (try simp only [List.set_cons_zero])
        refine wpAnyH_take (i := 2) (v := ?v18) rfl (by kernel_rfl) (by kernel_rfl) (by kernel_rfl) (fun _ _ _ h => h) (Or.inl ⟨by rfl, ?hy18⟩) (by assumption) ?rest18
        case hy18 => (intro _ hSw; (try dsimp only at hSw); go_simp; (try with_reducible rfl))
        (try simp only [Act.put]); (try simp only [List.setIfInBounds_toArray]); (try simp only [List.set_cons_succ]); (try simp only [List.set_cons_zero])
        refine wpAnyH_take (i := 3) (v := ?v19) rfl (by kernel_rfl) (by kernel_rfl) (by kernel_rfl) (fun _ _ _ h => h) (Or.inl ⟨by rfl, ?hy19⟩) (by assumption) ?rest19
        case hy19 => (intro _ hSw; (try dsimp only at hSw); go_simp; (try with_reducible rfl))
        (try simp only [Act.put]); (try simp only [List.setIfInBounds_toArray]); (try simp only [List.set_cons_succ]); (try simp only [List.set_cons_zero])
        refine wpAnyH_take (i := 4) (v := ?v20) rfl (by kernel_rfl) (by kernel_rfl) (by kernel_rfl) (fun _ _ _ h => h) (Or.inl ⟨by rfl, ?hy20⟩) (by assumption) ?rest20
        case hy20 => (intro _ hSw; (try dsimp only at hSw); go_simp; (try with_reducible rfl))
        (try simp only [Act.put]); (try simp only [List.setIfInBounds_toArray]); (try simp only [List.set_cons_succ]); (try simp only [List.set_cons_zero])
        refine wpAnyH_take (i := 5) (v := ?v21) rfl (by kernel_rfl) (by kernel_rfl) (by kernel_rfl) (fun _ _ _ h => h) (Or.inl ⟨by rfl, ?hy21⟩) (by assumption) ?rest21
        case hy21 => (intro _ hSw; (try dsimp only at hSw); go_simp; (try with_reducible rfl))
        (try simp only [Act.put]); (try simp only [List.setIfInBounds_toArray]); (try simp only [List.set_cons_succ]); (try simp only [List.set_cons_zero])
        refine wpAnyH_take (i := 6) (v := ?v22) rfl (by kernel_rfl) (by kernel_rfl) (by kernel_rfl) (fun _ _ _ h => h) (Or.inl ⟨by rfl, ?hy22⟩) (by assumption) ?rest22
        case hy22 => (intro _ hSw; (try dsimp only at hSw); go_simp; (try with_reducible rfl))
        (try simp only [Act.put]); (try simp only [List.setIfInBounds_toArray]); (try simp only [List.set_cons_succ]); (try simp only [List.set_cons_zero])
        refine wpAnyH_take (i := 7) (v := ?v23) rfl (by kernel_rfl) (by kernel_rfl) (by kernel_rfl) (fun _ _ _ h => h) (Or.inl ⟨by rfl, ?hy23⟩) (by assumption) ?rest23
        case hy23 => (intro _ hSw; (try dsimp only at hSw); go_simp; (try with_reducible rfl))
        (try simp only [Act.put]); (try simp only [List.setIfInBounds_toArray]); (try simp only [List.set_cons_succ]); (try simp only [List.set_cons_zero])
        refine wpAnyH_take (i := 9) (v := ?v24) rfl (by kernel_rfl) (by kernel_rfl) (by kernel_rfl) (fun _ _ _ h => h) (Or.inl ⟨by rfl, ?hy24⟩) (by assumption) ?rest24
        case hy24 => (intro _ hSw; (try dsimp only at hSw); go_simp; (try with_reducible rfl))
        (try simp only [Act.put]); (try simp only [List.setIfInBounds_toArray]); (try simp only [List.set_cons_succ]); (try simp only [List.set_cons_zero])
        refine wpAnyH_take (i := 12) (v := ?v25) rfl (by kernel_rfl) (by kernel_rfl) (by kernel_rfl) (fun _ _ _ h => h) (Or.inl ⟨by rfl, ?hy25⟩) (by assumption) ?rest25
        case hy25 => (intro _ hSw; (try dsimp only at hSw); go_simp; (try with_reducible rfl))
        (try simp only [Act.put]); (try simp only [List.setIfInBounds_toArray]); (try simp only [List.set_cons_succ]); (try simp only [List.set_cons_zero])
        refine wpAnyH_take (i := 13) (v := ?v26) rfl (by kernel_rfl) (by kernel_rfl) (by kernel_rfl) (fun _ _ _ h => h) (Or.inl ⟨by rfl, ?hy26⟩) (by assumption) ?rest26
        case hy26 => (intro _ hSw; (try dsimp only at hSw); go_simp; (try with_reducible rfl))
        (try simp only [Act.put]); (try simp only [List.setIfInBounds_toArray]); (try simp only [List.set_cons_succ]); (try simp only [List.set_cons_zero])
        refine wpAnyH_take (i := 14) (v := ?v27) rfl (by kernel_rfl) (by kernel_rfl) (by kernel_rfl) (fun _ _ _ h => h) (Or.inl ⟨by rfl, ?hy27⟩) (by assumption) ?rest27
        case hy27 => (intro _ hSw; (try dsimp only at hSw); go_simp; (try with_reducible rfl))
        (try simp only [Act.put]); (try simp only [List.setIfInBounds_toArray]); (try simp only [List.set_cons_succ]); (try simp only [List.set_cons_zero])
        refine wpAnyH_take (i := 15) (v := ?v28) rfl (by kernel_rfl) (by kernel_rfl) (by kernel_rfl) (fun _ _ _ h => h) (Or.inl ⟨by rfl, ?hy28⟩) (by assumption) ?rest28
        case hy28 => (intro _ hSw; (try dsimp only at hSw); go_simp; (try with_reducible rfl))
        (try simp only [Act.put]); (try simp only [List.setIfInBounds_toArray]); (try simp only [List.set_cons_succ]); (try simp only [List.set_cons_zero])
        refine wpAnyH_take (i := 16) (v := ?v29) rfl (by kernel_rfl) (by kernel_rfl) (by kernel_rfl) (fun _ _ _ h => h) (Or.inl ⟨by rfl, ?hy29⟩) (by assumption) ?rest29
        case hy29 => (intro _ hSw; (try dsimp only at hSw); go_simp; (try with_reducible rfl))
        (try simp only [Act.put]); (try simp only [List.setIfInBounds_toArray]); (try simp only [List.set_cons_succ]); (try simp only [List.set_cons_zero])
        refine wpAnyH_take (i := 17) (v := ?v30) rfl (by kernel_rfl) (by kernel_rfl) (by kernel_rfl) (fun _ _ _ h => h) (Or.inl ⟨by rfl, ?hy30⟩) (by assumption) ?rest30
        case hy30 => (intro _ hSw; (try dsimp only at hSw); go_simp; (try with_reducible rfl))
        (try simp only [Act.put]); (try simp only [List.setIfInBounds_toArray]); (try simp only [List.set_cons_succ]); (try simp only [List.set_cons_zero])
        (try simp only [List.getElem_toArray]); (try simp only [List.getElem_cons_succ]); (try simp only [List.getElem_cons_zero]); (try simp only [List.setIfInBounds_toArray]); (try simp only [List.set_cons_succ, List.set_cons_zero])
        refine wpAnyH_ready (rs := [1, 10]) (by kernel_rfl) (by simp) ?_
        refine (AllReadyH.cons rfl (fun K hK => ?_) (AllReadyH.cons rfl (fun K hK => ?_) AllReadyH.nil))
        · (try simp only [List.getElem_toArray]); (try simp only [List.getElem_cons_succ]); (try simp only [List.getElem_cons_zero])
          go_simp
          obtain ⟨w6x, hw6⟩ : ∃ xq, xq = wd5.alloc (.cells #[] 43) := ⟨_, rfl⟩
          obtain ⟨z6, hz6⟩ : ∃ xq, xq = wd5.heap.size := ⟨_, rfl⟩
          have hn6 : Below wd5.heap.size wd5 w6x := by rw [hw6]; exact below_alloc _ _
          have hb6 : Below w9.heap.size w9 w6x := below_and HB5.out hn6
          have HB6 := Lib.hid hb6
          have HO6 : Hid (w6x.ownsRow w9.heap.size 43 7 (.slice (some ⟨z6, 0, none⟩) 0 0) 0 []) := Lib.hid (by rw [hw6, hz6]; exact World.ownsRow_made wd5 #[] 0 HB5.out.size (by decide) rfl)
          rw [← hw6, ← hz6]
          refine hK.out _ _ (HSS.out _ hb6) (fun hS6 => ?_)
          clear hK K hb6 hw6 hz6 hn6 hS5
          (try simp only [Act.put]); (try simp only [List.setIfInBounds_toArray]); (try simp only [List.set_cons_succ]); (try simp only [List.set_cons_zero])
          refine wpAnyH_ready (rs := [8, 10]) (by kernel_rfl) (by simp) ?_
          refine (AllReadyH.cons rfl (fun K hK => ?_) (AllReadyH.cons rfl (fun K hK => ?_) AllReadyH.nil))
          · refine step_app rfl (.tmp 82) (.tmp 88) 28 28 rfl w9.heap.size 43 ix (.agg #[.string ⟨#[]⟩, .string ⟨#[]⟩, .int .i64 0, .int .i64 0, .int .i64 0, .int .i64 0, .int .i64 0]) 7 72 Tryz.underlying28 hi hz0 hz1 hz2 rfl (.slice (some ⟨z6, 0, none⟩) 0 0) 0 [] (by rfl) HO6.out (.slice p j cc) j (rwC chC (C.take j)) (by rfl) (ch_first HN.out HB6.out HK.out) (by have := HL.out; have := HK.out; unfold maxLen; omega) (by have := HL.out; have := HK.out; omega) HB6.out.size ?_
            intro v7 w7x ho7 hg7 hn7 hk7
            have HO7 : Hid (w7x.ownsRow w9.heap.size 43 7 v7 j (rwC chC (C.take j))) := Lib.hid (by simpa using ho7)
            have hb7 : Below w9.heap.size w9 w7x := HB6.out.trans ((Fr.of_grown hg7).below (by intro y hy; exact own_lo HO6.out (Option.mem_toList.1 hy)) HB6.out.size)
            have HB7 := Lib.hid hb7
            refine hK.out _ _ (HSS.out _ hb7) (fun hS7 => ?_)
            clear hK K hb7 ho7 hg7 hn7 hk7 hS6
            (try simp only [Act.put]); (try simp only [List.setIfInBounds_toArray]); (try simp only [List.set_cons_succ]); (try simp only [List.set_cons_zero])
            refine wpAnyH_ready (rs := [10]) (by kernel_rfl) (by simp) ?_
            refine (AllReadyH.cons rfl (fun K hK => ?_) AllReadyH.nil)
            (try simp only [List.getElem_toArray]); (try simp only [List.getElem_cons_succ]); (try simp only [List.getElem_cons_zero])
            go_simp
            obtain ⟨w8x, hw8⟩ : ∃ xq, xq = w7x.alloc (.cells #[.string c.n, .string c.u, .int .i64 c.b, .int .i64 c.a.c, .int .i64 c.a.r, .int .i64 c.a.d, .int .i64 c.a.p] 43) := ⟨_, rfl⟩
            obtain ⟨z8, hz8⟩ : ∃ xq, xq = w7x.heap.size := ⟨_, rfl⟩
            have hn8 : Below w7x.heap.size w7x w8x := by rw [hw8]; exact below_alloc _ _
            have hb8 : Below w9.heap.size w9 w8x := below_and HB7.out hn8
            have HB8 := Lib.hid hb8
            have HY8_10 : Hid (Blk w8x z8 (chC c) 43) := Lib.hid (by rw [hw8, hz8]; exact Blk.made w7x (chC c) _)
            have HO8 := Lib.hid (own_fr HO7.out (Fr.of_below hn8 []) (fun _ _ => by simp))
            have HNE8_10 : Hid (∀ q, (v7 : Value).ownBlock = some q → q ≠ z8) := Lib.hid (fun q hq => by have := own_hi HO7.out hq; omega)
            rw [← hw8, ← hz8]
            refine hK.out _ _ (HSS.out _ hb8) (fun hS8 => ?_)
            clear hK K hb8 hw8 hz8 hn8 hS7
            (try simp only [Act.put]); (try simp only [List.setIfInBounds_toArray]); (try simp only [List.set_cons_succ]); (try simp only [List.set_cons_zero])
            refine wpAnyH_ready (rs := [11]) (by kernel_rfl) (by simp) ?_
            refine (AllReadyH.cons rfl (fun K hK => ?_) AllReadyH.nil)
            refine step_app rfl (.tmp 89) (.tmp 91) 28 28 rfl w9.heap.size 43 ix (.agg #[.string ⟨#[]⟩, .string ⟨#[]⟩, .int .i64 0, .int .i64 0, .int .i64 0, .int .i64 0, .int .i64 0]) 7 72 Tryz.underlying28 hi hz0 hz1 hz2 rfl v7 j (rwC chC (C.take j)) (by rfl) HO8.out (.slice (some ⟨z8, 0, none⟩) 1 1) 1 (chC c) (by rfl) (src_block Tryz.underlying28 _ z8 ((chC c)).toArray HY8_10.out rfl (chC_one c)) (by have := HL.out; have := HK.out; unfold maxLen; omega) (by have := HL.out; have := HK.out; omega) HB8.out.size ?_
            intro v9 w9x ho9 hg9 hn9 hk9
            have HO9 : Hid (w9x.ownsRow w9.heap.size 43 7 v9 (j + 1) (rwC chC (C.take j) ++ chC c)) := Lib.hid (by exact ho9)
            have hb9 : Below w9.heap.size w9 w9x := HB8.out.trans ((Fr.of_grown hg9).below (by intro y hy; exact own_lo HO8.out (Option.mem_toList.1 hy)) HB8.out.size)
            have HB9 := Lib.hid hb9
            refine hK.out _ _ (HSS.out _ hb9) (fun hS9 => ?_)
            clear hK K hb9 ho9 hg9 hn9 hk9 hS8
            (try simp only [Act.put]); (try simp only [List.setIfInBounds_toArray]); (try simp only [List.set_cons_succ]); (try simp only [List.set_cons_zero])
            refine wpAnyH_ready (rs := [18]) (by kernel_rfl) (by simp) ?_
            refine (AllReadyH.cons rfl (fun K hK => ?_) AllReadyH.nil)
            refine step_app rfl (.tmp 92) (.tmp 98) 28 28 rfl w9.heap.size 43 ix (.agg #[.string ⟨#[]⟩, .string ⟨#[]⟩, .int .i64 0, .int .i64 0, .int .i64 0, .int .i64 0, .int .i64 0]) 7 72 Tryz.underlying28 hi hz0 hz1 hz2 rfl v9 (j + 1) (rwC chC (C.take j) ++ chC c) (by rfl) HO9.out (.slice (if cc = j then p else Option.map (fun x => x.add (j * 7)) p) (C.length - j) (cc - j)) (C.length - j) (rwC chC (C.drop j)) (by rfl) (ch_rest HN.out HB9.out HK.out) (by have := HL.out; have := HK.out; unfold maxLen; omega) (by have := HL.out; have := HK.out; omega) HB9.out.size ?_
            intro v10 w10x ho10 hg10 hn10 hk10
            have HO10 : Hid (w10x.ownsRow w9.heap.size 43 7 v10 (j + 1 + (C.length - j)) (rwC chC (C.take j) ++ chC c ++ rwC chC (C.drop j))) := Lib.hid (by exact ho10)
            have hb10 : Below w9.heap.size w9 w10x := HB9.out.trans ((Fr.of_grown hg10).below (by intro y hy; exact own_lo HO9.out (Option.mem_toList.1 hy)) HB9.out.size)
            have HB10 := Lib.hid hb10
            refine hK.out _ _ (HSS.out _ hb10) (fun hS10 => ?_)
            clear hK K hb10 ho10 hg10 hn10 hk10 hS9
            (try simp only [Act.put]); (try simp only [List.setIfInBounds_toArray]); (try simp only [List.set_cons_succ]); (try simp only [List.set_cons_zero])
            refine wpAnyH_take (i := 19) (v := ?v31) rfl (by kernel_rfl) (by kernel_rfl) (by kernel_rfl) (fun _ _ _ h => h) (Or.inl ⟨by rfl, ?hy31⟩) (by assumption) ?rest31
            case hy31 => (intro _ hSw; (try dsimp only at hSw); go_simp; (try with_reducible rfl))
            (try simp only [Act.put]); (try simp only [List.setIfInBounds_toArray]); (try simp only [List.set_cons_succ]); (try simp only [List.set_cons_zero])
            refine wpAnyH_take (i := 20) (v := ?v32) rfl (by kernel_rfl) (by kernel_rfl) (by kernel_rfl) (fun _ _ _ h => h) (Or.inl ⟨by rfl, ?hy32⟩) (by assumption) ?rest32
            case hy32 => (intro _ hSw; (try dsimp only at hSw); go_simp; (try with_reducible rfl))
            (try simp only [Act.put]); (try simp only [List.setIfInBounds_toArray]); (try simp only [List.set_cons_succ]); (try simp only [List.set_cons_zero])
            refine wpAnyH_done (by kernel_rfl) ?_ _
            refine LastQ.start rfl ?_
            clear hS10 hHeld
            have d1 := (HSS.out _ HB10.out).1
            have f1 := (HN.out.kept HB10.out).blk.free 1
            obtain ⟨p8, c8, hv8, -, -⟩ := own_slice HO10.out
            have HO8 := HO10
            subst hv8
            generalize (if cc = j then p else Option.map (fun x => x.add (j * 7)) p) = pp
            go_wp2
            refine NoPanic.normal ?_
            (try go_wp2)
            have hle : (C.take j ++ c :: C.drop j).length = j + 1 + (C.length - j) := by rw [List.length_append, List.length_cons, List.length_take, List.length_drop]; have := HK.out; omega
            have ho8 := HO8.out
            have hcat : rwC chC (C.take j) ++ chC c ++ rwC chC (C.drop j) = rwC chC (C.take j ++ c :: C.drop j) := by rw [rwC_append, rwC_cons, List.append_assoc]
            rw [hcat] at ho8
            have ho9 : World.ownsRow w10x w9.heap.size 43 7 (.slice p8 (j + 1 + (C.length - j)) c8) (C.take j ++ c :: C.drop j).length (rwC chC (C.take j ++ c :: C.drop j)) := by rw [hle]; exact ho8
            have hset := HN.out.setC HB10.out (Nat.le_trans HBS.out HBN.out.size) ho9
            rw [← HQ.out.2] at hset
            go_ret
            exact ⟨ret_int HQ.out.1.symm, RqC.mk hset ((Frp.of_below (below_and HBN.out HB10.out) (fun j => j = g)).set (p := ⟨g, 1, none⟩) rfl _)⟩
          · (try simp only [List.getElem_toArray]); (try simp only [List.getElem_cons_succ]); (try simp only [List.getElem_cons_zero])
            go_simp
            obtain ⟨w11x, hw11⟩ : ∃ xq, xq = w6x.alloc (.cells #[.string c.n, .string c.u, .int .i64 c.b, .int .i64 c.a.c, .int .i64 c.a.r, .int .i64 c.a.d, .int .i64 c.a.p] 43) := ⟨_, rfl⟩
            obtain ⟨z11, hz11⟩ : ∃ xq, xq = w6x.heap.size := ⟨_, rfl⟩
            have hn11 : Below w6x.heap.size w6x w11x := by rw [hw11]; exact below_alloc _ _
            have hb11 : Below w9.heap.size w9 w11x := below_and HB6.out hn11
            have HB11 := Lib.hid hb11
            have HY11_10 : Hid (Blk w11x z11 (chC c) 43) := Lib.hid (by rw [hw11, hz11]; exact Blk.made w6x (chC c) _)
            have HO11 := Lib.hid (own_fr HO6.out (Fr.of_below hn11 []) (fun _ _ => by simp))
            have HNE11_10 : Hid (∀ q, ((.slice (some ⟨z6, 0, none⟩) 0 0) : Value).ownBlock = some q → q ≠ z11) := Lib.hid (fun q hq => by have := own_hi HO6.out hq; omega)
            rw [← hw11, ← hz11]
            refine hK.out _ _ (HSS.out _ hb11) (fun hS11 => ?_)
            clear hK K hb11 hw11 hz11 hn11 hS6
            (try simp only [Act.put]); (try simp only [List.setIfInBounds_toArray]); (try simp only [List.set_cons_succ]); (try simp only [List.set_cons_zero])
            refine wpAnyH_ready (rs := [8]) (by kernel_rfl) (by simp) ?_
            refine (AllReadyH.cons rfl (fun K hK => ?_) AllReadyH.nil)
            refine step_app rfl (.tmp 82) (.tmp 88) 28 28 rfl w9.heap.size 43 ix (.agg #[.string ⟨#[]⟩, .string ⟨#[]⟩, .int .i64 0, .int .i64 0, .int .i64 0, .int .i64 0, .int .i64 0]) 7 72 Tryz.underlying28 hi hz0 hz1 hz2 rfl (.slice (some ⟨z6, 0, none⟩) 0 0) 0 [] (by rfl) HO11.out (.slice p j cc) j (rwC chC (C.take j)) (by rfl) (ch_first HN.out HB11.out HK.out) (by have := HL.out; have := HK.out; unfold maxLen; omega) (by have := HL.out; have := HK.out; omega) HB11.out.size ?_
            intro v12 w12x ho12 hg12 hn12 hk12
            have HO12 : Hid (w12x.ownsRow w9.heap.size 43 7 v12 j (rwC chC (C.take j))) := Lib.hid (by simpa using ho12)
            have hb12 : Below w9.heap.size w9 w12x := HB11.out.trans ((Fr.of_grown hg12).below (by intro y hy; exact own_lo HO11.out (Option.mem_toList.1 hy)) HB11.out.size)
            have HB12 := Lib.hid hb12
            have HY12_10 := Lib.hid (HY11_10.out.fr (Fr.of_grown hg12) (fun hm => HNE11_10.out _ (Option.mem_toList.1 hm) rfl))
            have HNE12_10 : Hid (∀ q, v12.ownBlock = some q → q ≠ z11) := Lib.hid (fun q hq => by rcases hk12 q hq with h1 | h1; exact HNE11_10.out q h1; have := HY11_10.out.lt; omega)
            refine hK.out _ _ (HSS.out _ hb12) (fun hS12 => ?_)
            clear hK K hb12 ho12 hg12 hn12 hk12 hS11
            (try simp only [Act.put]); (try simp only [List.setIfInBounds_toArray]); (try simp only [List.set_cons_succ]); (try simp only [List.set_cons_zero])
            refine wpAnyH_ready (rs := [11]) (by kernel_rfl) (by simp) ?_
            refine (AllReadyH.cons rfl (fun K hK => ?_) AllReadyH.nil)
            refine step_app rfl (.tmp 89) (.tmp 91) 28 28 rfl w9.heap.size 43 ix (.agg #[.string ⟨#[]⟩, .string ⟨#[]⟩, .int .i64 0, .int .i64 0, .int .i64 0, .int .i64 0, .int .i64 0]) 7 72 Tryz.underlying28 hi hz0 hz1 hz2 rfl v12 j (rwC chC (C.take j)) (by rfl) HO12.out (.slice (some ⟨z11, 0, none⟩) 1 1) 1 (chC c) (by rfl) (src_block Tryz.underlying28 _ z11 ((chC c)).toArray HY12_10.out rfl (chC_one c)) (by have := HL.out; have := HK.out; unfold maxLen; omega) (by have := HL.out; have := HK.out; omega) HB12.out.size ?_
            intro v13 w13x ho13 hg13 hn13 hk13
            have HO13 : Hid (w13x.ownsRow w9.heap.size 43 7 v13 (j + 1) (rwC chC (C.take j) ++ chC c)) := Lib.hid (by exact ho13)
            have hb13 : Below w9.heap.size w9 w13x := HB12.out.trans ((Fr.of_grown hg13).below (by intro y hy; exact own_lo HO12.out (Option.mem_toList.1 hy)) HB12.out.size)
            have HB13 := Lib.hid hb13
            refine hK.out _ _ (HSS.out _ hb13) (fun hS13 => ?_)
            clear hK K hb13 ho13 hg13 hn13 hk13 hS12
            (try simp only [Act.put]); (try simp only [List.setIfInBounds_toArray]); (try simp only [List.set_cons_succ]); (try simp only [List.set_cons_zero])
            refine wpAnyH_ready (rs := [18]) (by kernel_rfl) (by simp) ?_
            refine (AllReadyH.cons rfl (fun K hK => ?_) AllReadyH.nil)
            refine step_app rfl (.tmp 92) (.tmp 98) 28 28 rfl w9.heap.size 43 ix (.agg #[.string ⟨#[]⟩, .string ⟨#[]⟩, .int .i64 0, .int .i64 0, .int .i64 0, .int .i64 0, .int .i64 0]) 7 72 Tryz.underlying28 hi hz0 hz1 hz2 rfl v13 (j + 1) (rwC chC (C.take j) ++ chC c) (by rfl) HO13.out (.slice (if cc = j then p else Option.map (fun x => x.add (j * 7)) p) (C.length - j) (cc - j)) (C.length - j) (rwC chC (C.drop j)) (by rfl) (ch_rest HN.out HB13.out HK.out) (by have := HL.out; have := HK.out; unfold maxLen; omega) (by have := HL.out; have := HK.out; omega) HB13.out.size ?_
            intro v14 w14x ho14 hg14 hn14 hk14
            have HO14 : Hid (w14x.ownsRow w9.heap.size 43 7 v14 (j + 1 + (C.length - j)) (rwC chC (C.take j) ++ chC c ++ rwC chC (C.drop j))) := Lib.hid (by exact ho14)
            have hb14 : Below w9.heap.size w9 w14x := HB13.out.trans ((Fr.of_grown hg14).below (by intro y hy; exact own_lo HO13.out (Option.mem_toList.1 hy)) HB13.out.size)
            have HB14 := Lib.hid hb14
            refine hK.out _ _ (HSS.out _ hb14) (fun hS14 => ?_)
            clear hK K hb14 ho14 hg14 hn14 hk14 hS13
            (try simp only [Act.put]); (try simp only [List.setIfInBounds_toArray]); (try simp only [List.set_cons_succ]); (try simp only [List.set_cons_zero])
            refine wpAnyH_take (i := 19) (v := ?v33) rfl (by kernel_rfl) (by kernel_rfl) (by kernel_rfl) (fun _ _ _ h => h) (Or.inl ⟨by rfl, ?hy33⟩) (by assumption) ?rest33
            case hy33 => (intro _ hSw; (try dsimp only at hSw); go_simp; (try with_reducible rfl))
            (try simp only [Act.put]); (try simp only [List.setIfInBounds_toArray]); (try simp only [List.set_cons_succ]); (try simp only [List.set_cons_zero])
            refine wpAnyH_take (i := 20) (v := ?v34) rfl (by kernel_rfl) (by kernel_rfl) (by kernel_rfl) (fun _ _ _ h => h) (Or.inl ⟨by rfl, ?hy34⟩) (by assumption) ?rest34
            case hy34 => (intro _ hSw; (try dsimp only at hSw); go_simp; (try with_reducible rfl))
            (try simp only [Act.put]); (try simp only [List.setIfInBounds_toArray]); (try simp only [List.set_cons_succ]); (try simp only [List.set_cons_zero])
            refine wpAnyH_done (by kernel_rfl) ?_ _
            refine LastQ.start rfl ?_
            clear hS14 hHeld
            have d1 := (HSS.out _ HB14.out).1
            have f1 := (HN.out.kept HB14.out).blk.free 1
            obtain ⟨p8, c8, hv8, -, -⟩ := own_slice HO14.out
            have HO8 := HO14
            subst hv8
            generalize (if cc = j then p else Option.map (fun x => x.add (j * 7)) p) = pp
            go_wp2
            refine NoPanic.normal ?_
            (try go_wp2)
            have hle : (C.take j ++ c :: C.drop j).length = j + 1 + (C.length - j) := by rw [List.length_append, List.length_cons, List.length_take, List.length_drop]; have := HK.out; omega
            have ho8 := HO8.out
            have hcat : rwC chC (C.take j) ++ chC c ++ rwC chC (C.drop j) = rwC chC (C.take j ++ c :: C.drop j) := by rw [rwC_append, rwC_cons, List.append_assoc]
            rw [hcat] at ho8
            have ho9 : World.ownsRow w14x w9.heap.size 43 7 (.slice p8 (j + 1 + (C.length - j)) c8) (C.take j ++ c :: C.drop j).length (rwC chC (C.take j ++ c :: C.drop j)) := by rw [hle]; exact ho8
            have hset := HN.out.setC HB14.out (Nat.le_trans HBS.out HBN.out.size) ho9
            rw [← HQ.out.2] at hset
            go_ret
            exact ⟨ret_int HQ.out.1.symm, RqC.mk hset ((Frp.of_below (below_and HBN.out HB14.out) (fun j => j = g)).set (p := ⟨g, 1, none⟩) rfl _)⟩
        · (try simp only [List.getElem_toArray]); (try simp only [List.getElem_cons_succ]); (try simp only [List.getElem_cons_zero])
          go_simp
          obtain ⟨w15x, hw15⟩ : ∃ xq, xq = wd5.alloc (.cells #[.string c.n, .string c.u, .int .i64 c.b, .int .i64 c.a.c, .int .i64 c.a.r, .int .i64 c.a.d, .int .i64 c.a.p] 43) := ⟨_, rfl⟩
          obtain ⟨z15, hz15⟩ : ∃ xq, xq = wd5.heap.size := ⟨_, rfl⟩
          have hn15 : Below wd5.heap.size wd5 w15x := by rw [hw15]; exact below_alloc _ _
          have hb15 : Below w9.heap.size w9 w15x := below_and HB5.out hn15
          have HB15 := Lib.hid hb15
          have HY15_10 : Hid (Blk w15x z15 (chC c) 43) := Lib.hid (by rw [hw15, hz15]; exact Blk.made wd5 (chC c) _)
          rw [← hw15, ← hz15]
          refine hK.out _ _ (HSS.out _ hb15) (fun hS15 => ?_)
          clear hK K hb15 hw15 hz15 hn15 hS5
          (try simp only [Act.put]); (try simp only [List.setIfInBounds_toArray]); (try simp only [List.set_cons_succ]); (try simp only [List.set_cons_zero])
          refine wpAnyH_ready (rs := [1]) (by kernel_rfl) (by simp) ?_
          refine (AllReadyH.cons rfl (fun K hK => ?_) AllReadyH.nil)
          (try simp only [List.getElem_toArray]); (try simp only [List.getElem_cons_succ]); (try simp only [List.getElem_cons_zero])
          go_simp
          obtain ⟨w16x, hw16⟩ : ∃ xq, xq = w15x.alloc (.cells #[] 43) := ⟨_, rfl⟩
          obtain ⟨z16, hz16⟩ : ∃ xq, xq = w15x.heap.size := ⟨_, rfl⟩
          have hn16 : Below w15x.heap.size w15x w16x := by rw [hw16]; exact below_alloc _ _
          have hb16 : Below w9.heap.size w9 w16x := below_and HB15.out hn16
          have HB16 := Lib.hid hb16
          have HY16_10 := Lib.hid (HY15_10.out.kept hn16)
          have HNE16_10 : Hid (∀ q, (Value.slice (some ⟨z16, 0, none⟩) 0 0).ownBlock = some q → q ≠ z15) := Lib.hid (fun q hq => by simp [Value.ownBlock] at hq; have := HY15_10.out.lt; omega)
          have HO16 : Hid (w16x.ownsRow w9.heap.size 43 7 (.slice (some ⟨z16, 0, none⟩) 0 0) 0 []) := Lib.hid (by rw [hw16, hz16]; exact World.ownsRow_made w15x #[] 0 HB15.out.size (by decide) rfl)
          rw [← hw16, ← hz16]
          refine hK.out _ _ (HSS.out _ hb16) (fun hS16 => ?_)
          clear hK K hb16 hw16 hz16 hn16 hS15
          (try simp only [Act.put]); (try simp only [List.setIfInBounds_toArray]); (try simp only [List.set_cons_succ]); (try simp only [List.set_cons_zero])
          refine wpAnyH_ready (rs := [8]) (by kernel_rfl) (by simp) ?_
          refine (AllReadyH.cons rfl (fun K hK => ?_) AllReadyH.nil)
          refine step_app rfl (.tmp 82) (.tmp 88) 28 28 rfl w9.heap.size 43 ix (.agg #[.string ⟨#[]⟩, .string ⟨#[]⟩, .int .i64 0, .int .i64 0, .int .i64 0, .int .i64 0, .int .i64 0]) 7 72 Tryz.underlying28 hi hz0 hz1 hz2 rfl (.slice (some ⟨z16, 0, none⟩) 0 0) 0 [] (by rfl) HO16.out (.slice p j cc) j (rwC chC (C.take j)) (by rfl) (ch_first HN.out HB16.out HK.out) (by have := HL.out; have := HK.out; unfold maxLen; omega) (by have := HL.out; have := HK.out; omega) HB16.out.size ?_
          intro v17 w17x ho17 hg17 hn17 hk17
          have HO17 : Hid (w17x.ownsRow w9.heap.size 43 7 v17 j (rwC chC (C.take j))) := Lib.hid (by simpa using ho17)
          have hb17 : Below w9.heap.size w9 w17x := HB16.out.trans ((Fr.of_grown hg17).below (by intro y hy; exact own_lo HO16.out (Option.mem_toList.1 hy)) HB16.out.size)
          have HB17 := Lib.hid hb17
          have HY17_10 := Lib.hid (HY16_10.out.fr (Fr.of_grown hg17) (fun hm => HNE16_10.out _ (Option.mem_toList.1 hm) rfl))
          have HNE17_10 : Hid (∀ q, v17.ownBlock = some q → q ≠ z15) := Lib.hid (fun q hq => by rcases hk17 q hq with h1 | h1; exact HNE16_10.out q h1; have := HY16_10.out.lt; omega)
          refine hK.out _ _ (HSS.out _ hb17) (fun hS17 => ?_)
          clear hK K hb17 ho17 hg17 hn17 hk17 hS16
          (try simp only [Act.put]); (try simp only [List.setIfInBounds_toArray]); (try simp only [List.set_cons_succ]); (try simp only [List.set_cons_zero])
          refine wpAnyH_ready (rs := [11]) (by kernel_rfl) (by simp) ?_
          refine (AllReadyH.cons rfl (fun K hK => ?_) AllReadyH.nil)
          refine step_app rfl (.tmp 89) (.tmp 91) 28 28 rfl w9.heap.size 43 ix (.agg #[.string ⟨#[]⟩, .string ⟨#[]⟩, .int .i64 0, .int .i64 0, .int .i64 0, .int .i64 0, .int .i64 0]) 7 72 Tryz.underlying28 hi hz0 hz1 hz2 rfl v17 j (rwC chC (C.take j)) (by rfl) HO17.out (.slice (some ⟨z15, 0, none⟩) 1 1) 1 (chC c) (by rfl) (src_block Tryz.underlying28 _ z15 ((chC c)).toArray HY17_10.out rfl (chC_one c)) (by have := HL.out; have := HK.out; unfold maxLen; omega) (by have := HL.out; have := HK.out; omega) HB17.out.size ?_
          intro v18 w18x ho18 hg18 hn18 hk18
          have HO18 : Hid (w18x.ownsRow w9.heap.size 43 7 v18 (j + 1) (rwC chC (C.take j) ++ chC c)) := Lib.hid (by exact ho18)
          have hb18 : Below w9.heap.size w9 w18x := HB17.out.trans ((Fr.of_grown hg18).below (by intro y hy; exact own_lo HO17.out (Option.mem_toList.1 hy)) HB17.out.size)
          have HB18 := Lib.hid hb18
          refine hK.out _ _ (HSS.out _ hb18) (fun hS18 => ?_)
          clear hK K hb18 ho18 hg18 hn18 hk18 hS17
          (try simp only [Act.put]); (try simp only [List.setIfInBounds_toArray]); (try simp only [List.set_cons_succ]); (try simp only [List.set_cons_zero])
          refine wpAnyH_ready (rs := [18]) (by kernel_rfl) (by simp) ?_
          refine (AllReadyH.cons rfl (fun K hK => ?_) AllReadyH.nil)
          refine step_app rfl (.tmp 92) (.tmp 98) 28 28 rfl w9.heap.size 43 ix (.agg #[.string ⟨#[]⟩, .string ⟨#[]⟩, .int .i64 0, .int .i64 0, .int .i64 0, .int .i64 0, .int .i64 0]) 7 72 Tryz.underlying28 hi hz0 hz1 hz2 rfl v18 (j + 1) (rwC chC (C.take j) ++ chC c) (by rfl) HO18.out (.slice (if cc = j then p else Option.map (fun x => x.add (j * 7)) p) (C.length - j) (cc - j)) (C.length - j) (rwC chC (C.drop j)) (by rfl) (ch_rest HN.out HB18.out HK.out) (by have := HL.out; have := HK.out; unfold maxLen; omega) (by have := HL.out; have := HK.out; omega) HB18.out.size ?_
          intro v19 w19x ho19 hg19 hn19 hk19
          have HO19 : Hid (w19x.ownsRow w9.heap.size 43 7 v19 (j + 1 + (C.length - j)) (rwC chC (C.take j) ++ chC c ++ rwC chC (C.drop j))) := Lib.hid (by exact ho19)
          have hb19 : Below w9.heap.size w9 w19x := HB18.out.trans ((Fr.of_grown hg19).below (by intro y hy; exact own_lo HO18.out (Option.mem_toList.1 hy)) HB18.out.size)
          have HB19 := Lib.hid hb19
          refine hK.out _ _ (HSS.out _ hb19) (fun hS19 => ?_)
          clear hK K hb19 ho19 hg19 hn19 hk19 hS18
          (try simp only [Act.put]); (try simp only [List.setIfInBounds_toArray]); (try simp only [List.set_cons_succ]); (try simp only [List.set_cons_zero])
          refine wpAnyH_take (i := 19) (v := ?v35) rfl (by kernel_rfl) (by kernel_rfl) (by kernel_rfl) (fun _ _ _ h => h) (Or.inl ⟨by rfl, ?hy35⟩) (by assumption) ?rest35
          case hy35 => (intro _ hSw; (try dsimp only at hSw); go_simp; (try with_reducible rfl))
          (try simp only [Act.put]); (try simp only [List.setIfInBounds_toArray]); (try simp only [List.set_cons_succ]); (try simp only [List.set_cons_zero])
          refine wpAnyH_take (i := 20) (v := ?v36) rfl (by kernel_rfl) (by kernel_rfl) (by kernel_rfl) (fun _ _ _ h => h) (Or.inl ⟨by rfl, ?hy36⟩) (by assumption) ?rest36
          case hy36 => (intro _ hSw; (try dsimp only at hSw); go_simp; (try with_reducible rfl))
          (try simp only [Act.put]); (try simp only [List.setIfInBounds_toArray]); (try simp only [List.set_cons_succ]); (try simp only [List.set_cons_zero])
          refine wpAnyH_done (by kernel_rfl) ?_ _
          refine LastQ.start rfl ?_
          clear hS19 hHeld
          have d1 := (HSS.out _ HB19.out).1
          have f1 := (HN.out.kept HB19.out).blk.free 1
          obtain ⟨p8, c8, hv8, -, -⟩ := own_slice HO19.out
          have HO8 := HO19
          subst hv8
          generalize (if cc = j then p else Option.map (fun x => x.add (j * 7)) p) = pp
          go_wp2
          refine NoPanic.normal ?_
          (try go_wp2)
          have hle : (C.take j ++ c :: C.drop j).length = j + 1 + (C.length - j) := by rw [List.length_append, List.length_cons, List.length_take, List.length_drop]; have := HK.out; omega
          have ho8 := HO8.out
          have hcat : rwC chC (C.take j) ++ chC c ++ rwC chC (C.drop j) = rwC chC (C.take j ++ c :: C.drop j) := by rw [rwC_append, rwC_cons, List.append_assoc]
          rw [hcat] at ho8
          have ho9 : World.ownsRow w19x w9.heap.size 43 7 (.slice p8 (j + 1 + (C.length - j)) c8) (C.take j ++ c :: C.drop j).length (rwC chC (C.take j ++ c :: C.drop j)) := by rw [hle]; exact ho8
          have hset := HN.out.setC HB19.out (Nat.le_trans HBS.out HBN.out.size) ho9
          rw [← HQ.out.2] at hset
          go_ret
          exact ⟨ret_int HQ.out.1.symm, RqC.mk hset ((Frp.of_below (below_and HBN.out HB19.out) (fun j => j = g)).set (p := ⟨g, 1, none⟩) rfl _)⟩
      · have i3 : ¬ (j : Int) < (C.length : Int) := by omega
        go_wp2
        refine wp_region_past (by kernel_rfl) (by kernel_rfl) ?_
        repeat (go_big_quiet_step (fail))
        refine wpQuiet_nil ?_
        intro _ hw'
        obtain ⟨s9, hw''⟩ := hw'
        subst hw''
        obtain ⟨w9, h9, e9⟩ : ∃ w9, Below wr.heap.size wr w9 ∧ w9 = s9.val := ⟨_, s9.h, rfl⟩
        rw [← e9]
        have XN := Lib.hid (XR.out.kept h9)
        have HN := Lib.hid (HR.out.kept h9)
        have HBN := Lib.hid (below_and HBR.out h9)
        clear h9 e9
        clear b1 c0
        go_upto_region 13 with fail
        have HSS : Hid (∀ w', Below w9.heap.size w9 w' → w'.cell? ⟨g, 1, none⟩ = some (.slice p C.length cc) ∧ w'.cell? ⟨B, 0, none⟩ = some (.string c.n) ∧ w'.cell? ⟨B, 1, none⟩ = some (.string c.u) ∧ w'.cell? ⟨B, 2, none⟩ = some (.int .i64 c.b) ∧ w'.cell? ⟨B, 3, none⟩ = some (.int .i64 c.a.c) ∧ w'.cell? ⟨B, 4, none⟩ = some (.int .i64 c.a.r) ∧ w'.cell? ⟨B, 5, none⟩ = some (.int .i64 c.a.d) ∧ w'.cell? ⟨B, 6, none⟩ = some (.int .i64 c.a.p)) := Lib.hid (fun w' hb => ⟨(HN.out.kept hb).blk.cell (j := 1) rfl, (XN.out.kept hb).cell (j := 0) rfl, (XN.out.kept hb).cell (j := 1) rfl, (XN.out.kept hb).cell (j := 2) rfl, (XN.out.kept hb).cell (j := 3) rfl, (XN.out.kept hb).cell (j := 4) rfl, (XN.out.kept hb).cell (j := 5) rfl, (XN.out.kept hb).cell (j := 6) rfl⟩)
        refine wp_region_noPanic ?_
        refine wp_region_lastH (fun w' => w'.cell? ⟨g, 1, none⟩ = some (.slice p C.length cc) ∧ w'.cell? ⟨B, 0, none⟩ = some (.string c.n) ∧ w'.cell? ⟨B, 1, none⟩ = some (.string c.u) ∧ w'.cell? ⟨B, 2, none⟩ = some (.int .i64 c.b) ∧ w'.cell? ⟨B, 3, none⟩ = some (.int .i64 c.a.c) ∧ w'.cell? ⟨B, 4, none⟩ = some (.int .i64 c.a.r) ∧ w'.cell? ⟨B, 5, none⟩ = some (.int .i64 c.a.d) ∧ w'.cell? ⟨B, 6, none⟩ = some (.int .i64 c.a.p)) 21 rfl rfl (by kernel_rfl) (by kernel_rfl) (HSS.out _ (below_drewN 1)) (fun hHeld => ?_)
        have HB20 : Hid (Below w9.heap.size w9 w9.drew) := Lib.hid (below_drewN 1)
        have hS20 : True := trivial
        obtain ⟨wd20, hwd⟩ : ∃ xq, xq = w9.drew := ⟨_, rfl⟩
        rw [← hwd] at hHeld HB20 ⊢
        clear hwd
        refine wpAnyH_take (i := 0) (v := ?v37) rfl (by kernel_rfl) (by kernel_rfl) (by kernel_rfl) (fun _ _ _ h => h) (Or.inl ⟨by rfl, ?hy37⟩) (by assumption) ?rest37
        case hy37 => (intro _ hSw; (try dsimp only at hSw); go_simp; (try with_reducible rfl))
        (try simp only [Act.put]); (try simp only [List.setIfInBounds_toArray]); (try simp only [List.set_cons_succ]); (try simp only [List.set_cons_zero])
        refine wpAnyH_take (i := 2) (v := ?v38) rfl (by kernel_rfl) (by kernel_rfl) (by kernel_rfl) (fun _ _ _ h => h) (Or.inl ⟨by rfl, ?hy38⟩) (by assumption) ?rest38
        case hy38 => (intro _ hSw; (try dsimp only at hSw); go_simp; (try with_reducible rfl))
        (try simp only [Act.put]); (try simp only [List.setIfInBounds_toArray]); (try simp only [List.set_cons_succ]); (try simp only [List.set_cons_zero])
        refine wpAnyH_take (i := 3) (v := ?v39) rfl (by kernel_rfl) (by kernel_rfl) (by kernel_rfl) (fun _ _ _ h => h) (Or.inl ⟨by rfl, ?hy39⟩) (by assumption) ?rest39
        case hy39 => (intro _ hSw; (try dsimp only at hSw); go_simp; (try with_reducible rfl))
        (try simp only [Act.put]); (try simp only [List.setIfInBounds_toArray]); (try simp only [List.set_cons_succ]); (try simp only [List.set_cons_zero])
        refine wpAnyH_take (i := 4) (v := ?v40) rfl (by kernel_rfl) (by kernel_rfl) (by kernel_rfl) (fun _ _ _ h => h) (Or.inl ⟨by rfl, ?hy40⟩) (by assumption) ?rest40
        case hy40 => (intro _ hSw; (try dsimp only at hSw); go_simp; (try with_reducible rfl))
        (try simp only [Act.put]); (try simp only [List.setIfInBounds_toArray]); (try simp only [List.set_cons_succ]); (try simp only [List.set_cons_zero])
        refine wpAnyH_take (i := 5) (v := ?v41) rfl (by kernel_rfl) (by kernel_rfl) (by kernel_rfl) (fun _ _ _ h => h) (Or.inl ⟨by rfl, ?hy41⟩) (by assumption) ?rest41
        case hy41 => (intro _ hSw; (try dsimp only at hSw); go_simp; (try with_reducible rfl))
        (try simp only [Act.put]); (try simp only [List.setIfInBounds_toArray]); (try simp only [List.set_cons_succ]); (try simp only [List.set_cons_zero])
        refine wpAnyH_take (i := 6) (v := ?v42) rfl (by kernel_rfl) (by kernel_rfl) (by kernel_rfl) (fun _ _ _ h => h) (Or.inl ⟨by rfl, ?hy42⟩) (by assumption) ?rest42
        case hy42 => (intro _ hSw; (try dsimp only at hSw); go_simp; (try with_reducible rfl))
        (try simp only [Act.put]); (try simp only [List.setIfInBounds_toArray]); (try simp only [List.set_cons_succ]); (try simp only [List.set_cons_zero])
        refine wpAnyH_take (i := 7) (v := ?v43) rfl (by kernel_rfl) (by kernel_rfl) (by kernel_rfl) (fun _ _ _ h => h) (Or.inl ⟨by rfl, ?hy43⟩) (by assumption) ?rest43
        case hy43 => (intro _ hSw; (try dsimp only at hSw); go_simp; (try with_reducible rfl))
        (try simp only [Act.put]); (try simp only [List.setIfInBounds_toArray]); (try simp only [List.set_cons_succ]); (try simp only [List.set_cons_zero])
        refine wpAnyH_take (i := 9) (v := ?v44) rfl (by kernel_rfl) (by kernel_rfl) (by kernel_rfl) (fun _ _ _ h => h) (Or.inl ⟨by rfl, ?hy44⟩) (by assumption) ?rest44
        case hy44 => (intro _ hSw; (try dsimp only at hSw); go_simp; (try with_reducible rfl))
        (try simp only [Act.put]); (try simp only [List.setIfInBounds_toArray]); (try simp only [List.set_cons_succ]); (try simp only [List.set_cons_zero])
        refine wpAnyH_take (i := 12) (v := ?v45) rfl (by kernel_rfl) (by kernel_rfl) (by kernel_rfl) (fun _ _ _ h => h) (Or.inl ⟨by rfl, ?hy45⟩) (by assumption) ?rest45
        case hy45 => (intro _ hSw; (try dsimp only at hSw); go_simp; (try with_reducible rfl))
        (try simp only [Act.put]); (try simp only [List.setIfInBounds_toArray]); (try simp only [List.set_cons_succ]); (try simp only [List.set_cons_zero])
        refine wpAnyH_take (i := 13) (v := ?v46) rfl (by kernel_rfl) (by kernel_rfl) (by kernel_rfl) (fun _ _ _ h => h) (Or.inl ⟨by rfl, ?hy46⟩) (by assumption) ?rest46
        case hy46 => (intro _ hSw; (try dsimp only at hSw); go_simp; (try with_reducible rfl))
        (try simp only [Act.put]); (try simp only [List.setIfInBounds_toArray]); (try simp only [List.set_cons_succ]); (try simp only [List.set_cons_zero])
        refine wpAnyH_take (i := 14) (v := ?v47) rfl (by kernel_rfl) (by kernel_rfl) (by kernel_rfl) (fun _ _ _ h => h) (Or.inl ⟨by rfl, ?hy47⟩) (by assumption) ?rest47
        case hy47 => (intro _ hSw; (try dsimp only at hSw); go_simp; (try with_reducible rfl))
        (try simp only [Act.put]); (try simp only [List.setIfInBounds_toArray]); (try simp only [List.set_cons_succ]); (try simp only [List.set_cons_zero])
        refine wpAnyH_take (i := 15) (v := ?v48) rfl (by kernel_rfl) (by kernel_rfl) (by kernel_rfl) (fun _ _ _ h => h) (Or.inl ⟨by rfl, ?hy48⟩) (by assumption) ?rest48
        case hy48 => (intro _ hSw; (try dsimp only at hSw); go_simp; (try with_reducible rfl))
        (try simp only [Act.put]); (try simp only [List.setIfInBounds_toArray]); (try simp only [List.set_cons_succ]); (try simp only [List.set_cons_zero])
        refine wpAnyH_take (i := 16) (v := ?v49) rfl (by kernel_rfl) (by kernel_rfl) (by kernel_rfl) (fun _ _ _ h => h) (Or.inl ⟨by rfl, ?hy49⟩) (by assumption) ?rest49
        case hy49 => (intro _ hSw; (try dsimp only at hSw); go_simp; (try with_reducible rfl))
        (try simp only [Act.put]); (try simp only [List.setIfInBounds_toArray]); (try simp only [List.set_cons_succ]); (try simp only [List.set_cons_zero])
        refine wpAnyH_take (i := 17) (v := ?v50) rfl (by kernel_rfl) (by kernel_rfl) (by kernel_rfl) (fun _ _ _ h => h) (Or.inl ⟨by rfl, ?hy50⟩) (by assumption) ?rest50
        case hy50 => (intro _ hSw; (try dsimp only at hSw); go_simp; (try with_reducible rfl))
        (try simp only [Act.put]); (try simp only [List.setIfInBounds_toArray]); (try simp only [List.set_cons_succ]); (try simp only [List.set_cons_zero])
        (try simp only [List.getElem_toArray]); (try simp only [List.getElem_cons_succ]); (try simp only [List.getElem_cons_zero]); (try simp only [List.setIfInBounds_toArray]); (try simp only [List.set_cons_succ, List.set_cons_zero])
        refine wpAnyH_ready (rs := [1, 10]) (by kernel_rfl) (by simp) ?_
        refine (AllReadyH.cons rfl (fun K hK => ?_) (AllReadyH.cons rfl (fun K hK => ?_) AllReadyH.nil))
        · (try simp only [List.getElem_toArray]); (try simp only [List.getElem_cons_succ]); (try simp only [List.getElem_cons_zero])
          go_simp
          obtain ⟨w21x, hw21⟩ : ∃ xq, xq = wd20.alloc (.cells #[] 43) := ⟨_, rfl⟩
          obtain ⟨z21, hz21⟩ : ∃ xq, xq = wd20.heap.size := ⟨_, rfl⟩
          have hn21 : Below wd20.heap.size wd20 w21x := by rw [hw21]; exact below_alloc _ _
          have hb21 : Below w9.heap.size w9 w21x := below_and HB20.out hn21
          have HB21 := Lib.hid hb21
          have HO21 : Hid (w21x.ownsRow w9.heap.size 43 7 (.slice (some ⟨z21, 0, none⟩) 0 0) 0 []) := Lib.hid (by rw [hw21, hz21]; exact World.ownsRow_made wd20 #[] 0 HB20.out.size (by decide) rfl)
          rw [← hw21, ← hz21]
          refine hK.out _ _ (HSS.out _ hb21) (fun hS21 => ?_)
          clear hK K hb21 hw21 hz21 hn21 hS20
          (try simp only [Act.put]); (try simp only [List.setIfInBounds_toArray]); (try simp only [List.set_cons_succ]); (try simp only [List.set_cons_zero])
          refine wpAnyH_ready (rs := [8, 10]) (by kernel_rfl) (by simp) ?_
          refine (AllReadyH.cons rfl (fun K hK => ?_) (AllReadyH.cons rfl (fun K hK => ?_) AllReadyH.nil))
          · refine step_app rfl (.tmp 82) (.tmp 88) 28 28 rfl w9.heap.size 43 ix (.agg #[.string ⟨#[]⟩, .string ⟨#[]⟩, .int .i64 0, .int .i64 0, .int .i64 0, .int .i64 0, .int .i64 0]) 7 72 Tryz.underlying28 hi hz0 hz1 hz2 rfl (.slice (some ⟨z21, 0, none⟩) 0 0) 0 [] (by rfl) HO21.out (.slice p j cc) j (rwC chC (C.take j)) (by rfl) (ch_first HN.out HB21.out HK.out) (by have := HL.out; have := HK.out; unfold maxLen; omega) (by have := HL.out; have := HK.out; omega) HB21.out.size ?_
            intro v22 w22x ho22 hg22 hn22 hk22
            have HO22 : Hid (w22x.ownsRow w9.heap.size 43 7 v22 j (rwC chC (C.take j))) := Lib.hid (by simpa using ho22)
            have hb22 : Below w9.heap.size w9 w22x := HB21.out.trans ((Fr.of_grown hg22).below (by intro y hy; exact own_lo HO21.out (Option.mem_toList.1 hy)) HB21.out.size)
            have HB22 := Lib.hid hb22
            refine hK.out _ _ (HSS.out _ hb22) (fun hS22 => ?_)
            clear hK K hb22 ho22 hg22 hn22 hk22 hS21
            (try simp only [Act.put]); (try simp only [List.setIfInBounds_toArray]); (try simp only [List.set_cons_succ]); (try simp only [List.set_cons_zero])
            refine wpAnyH_ready (rs := [10]) (by kernel_rfl) (by simp) ?_
            refine (AllReadyH.cons rfl (fun K hK => ?_) AllReadyH.nil)
            (try simp only [List.getElem_toArray]); (try simp only [List.getElem_cons_succ]); (try simp only [List.getElem_cons_zero])
            go_simp
            obtain ⟨w23x, hw23⟩ : ∃ xq, xq = w22x.alloc (.cells #[.string c.n, .string c.u, .int .i64 c.b, .int .i64 c.a.c, .int .i64 c.a.r, .int .i64 c.a.d, .int .i64 c.a.p] 43) := ⟨_, rfl⟩
            obtain ⟨z23, hz23⟩ : ∃ xq, xq = w22x.heap.size := ⟨_, rfl⟩
            have hn23 : Below w22x.heap.size w22x w23x := by rw [hw23]; exact below_alloc _ _
            have hb23 : Below w9.heap.size w9 w23x := below_and HB22.out hn23
            have HB23 := Lib.hid hb23
            have HY23_10 : Hid (Blk w23x z23 (chC c) 43) := Lib.hid (by rw [hw23, hz23]; exact Blk.made w22x (chC c) _)
            have HO23 := Lib.hid (own_fr HO22.out (Fr.of_below hn23 []) (fun _ _ => by simp))
            have HNE23_10 : Hid (∀ q, (v22 : Value).ownBlock = some q → q ≠ z23) := Lib.hid (fun q hq => by have := own_hi HO22.out hq; omega)
            rw [← hw23, ← hz23]
            refine hK.out _ _ (HSS.out _ hb23) (fun hS23 => ?_)
            clear hK K hb23 hw23 hz23 hn23 hS22
            (try simp only [Act.put]); (try simp only [List.setIfInBounds_toArray]); (try simp only [List.set_cons_succ]); (try simp only [List.set_cons_zero])
            refine wpAnyH_ready (rs := [11]) (by kernel_rfl) (by simp) ?_
            refine (AllReadyH.cons rfl (fun K hK => ?_) AllReadyH.nil)
            refine step_app rfl (.tmp 89) (.tmp 91) 28 28 rfl w9.heap.size 43 ix (.agg #[.string ⟨#[]⟩, .string ⟨#[]⟩, .int .i64 0, .int .i64 0, .int .i64 0, .int .i64 0, .int .i64 0]) 7 72 Tryz.underlying28 hi hz0 hz1 hz2 rfl v22 j (rwC chC (C.take j)) (by rfl) HO23.out (.slice (some ⟨z23, 0, none⟩) 1 1) 1 (chC c) (by rfl) (src_block Tryz.underlying28 _ z23 ((chC c)).toArray HY23_10.out rfl (chC_one c)) (by have := HL.out; have := HK.out; unfold maxLen; omega) (by have := HL.out; have := HK.out; omega) HB23.out.size ?_
            intro v24 w24x ho24 hg24 hn24 hk24
            have HO24 : Hid (w24x.ownsRow w9.heap.size 43 7 v24 (j + 1) (rwC chC (C.take j) ++ chC c)) := Lib.hid (by exact ho24)
            have hb24 : Below w9.heap.size w9 w24x := HB23.out.trans ((Fr.of_grown hg24).below (by intro y hy; exact own_lo HO23.out (Option.mem_toList.1 hy)) HB23.out.size)
            have HB24 := Lib.hid hb24
            refine hK.out _ _ (HSS.out _ hb24) (fun hS24 => ?_)
            clear hK K hb24 ho24 hg24 hn24 hk24 hS23
            (try simp only [Act.put]); (try simp only [List.setIfInBounds_toArray]); (try simp only [List.set_cons_succ]); (try simp only [List.set_cons_zero])
            refine wpAnyH_ready (rs := [18]) (by kernel_rfl) (by simp) ?_
            refine (AllReadyH.cons rfl (fun K hK => ?_) AllReadyH.nil)
            refine step_app rfl (.tmp 92) (.tmp 98) 28 28 rfl w9.heap.size 43 ix (.agg #[.string ⟨#[]⟩, .string ⟨#[]⟩, .int .i64 0, .int .i64 0, .int .i64 0, .int .i64 0, .int .i64 0]) 7 72 Tryz.underlying28 hi hz0 hz1 hz2 rfl v24 (j + 1) (rwC chC (C.take j) ++ chC c) (by rfl) HO24.out (.slice (if cc = j then p else Option.map (fun x => x.add (j * 7)) p) (C.length - j) (cc - j)) (C.length - j) (rwC chC (C.drop j)) (by rfl) (ch_rest HN.out HB24.out HK.out) (by have := HL.out; have := HK.out; unfold maxLen; omega) (by have := HL.out; have := HK.out; omega) HB24.out.size ?_
            intro v25 w25x ho25 hg25 hn25 hk25
            have HO25 : Hid (w25x.ownsRow w9.heap.size 43 7 v25 (j + 1 + (C.length - j)) (rwC chC (C.take j) ++ chC c ++ rwC chC (C.drop j))) := Lib.hid (by exact ho25)
            have hb25 : Below w9.heap.size w9 w25x := HB24.out.trans ((Fr.of_grown hg25).below (by intro y hy; exact own_lo HO24.out (Option.mem_toList.1 hy)) HB24.out.size)
            have HB25 := Lib.hid hb25
            refine hK.out _ _ (HSS.out _ hb25) (fun hS25 => ?_)
            clear hK K hb25 ho25 hg25 hn25 hk25 hS24
            (try simp only [Act.put]); (try simp only [List.setIfInBounds_toArray]); (try simp only [List.set_cons_succ]); (try simp only [List.set_cons_zero])
            refine wpAnyH_take (i := 19) (v := ?v51) rfl (by kernel_rfl) (by kernel_rfl) (by kernel_rfl) (fun _ _ _ h => h) (Or.inl ⟨by rfl, ?hy51⟩) (by assumption) ?rest51
            case hy51 => (intro _ hSw; (try dsimp only at hSw); go_simp; (try with_reducible rfl))
            (try simp only [Act.put]); (try simp only [List.setIfInBounds_toArray]); (try simp only [List.set_cons_succ]); (try simp only [List.set_cons_zero])
            refine wpAnyH_take (i := 20) (v := ?v52) rfl (by kernel_rfl) (by kernel_rfl) (by kernel_rfl) (fun _ _ _ h => h) (Or.inl ⟨by rfl, ?hy52⟩) (by assumption) ?rest52
            case hy52 => (intro _ hSw; (try dsimp only at hSw); go_simp; (try with_reducible rfl))
            (try simp only [Act.put]); (try simp only [List.setIfInBounds_toArray]); (try simp only [List.set_cons_succ]); (try simp only [List.set_cons_zero])
            refine wpAnyH_done (by kernel_rfl) ?_ _
            refine LastQ.start rfl ?_
            clear hS25 hHeld
            have d1 := (HSS.out _ HB25.out).1
            have f1 := (HN.out.kept HB25.out).blk.free 1
            obtain ⟨p8, c8, hv8, -, -⟩ := own_slice HO25.out
            have HO8 := HO25
            subst hv8
            generalize (if cc = j then p else Option.map (fun x => x.add (j * 7)) p) = pp
            go_wp2
            refine NoPanic.normal ?_
            (try go_wp2)
            have hle : (C.take j ++ c :: C.drop j).length = j + 1 + (C.length - j) := by rw [List.length_append, List.length_cons, List.length_take, List.length_drop]; have := HK.out; omega
            have ho8 := HO8.out
            have hcat : rwC chC (C.take j) ++ chC c ++ rwC chC (C.drop j) = rwC chC (C.take j ++ c :: C.drop j) := by rw [rwC_append, rwC_cons, List.append_assoc]
            rw [hcat] at ho8
            have ho9 : World.ownsRow w25x w9.heap.size 43 7 (.slice p8 (j + 1 + (C.length - j)) c8) (C.take j ++ c :: C.drop j).length (rwC chC (C.take j ++ c :: C.drop j)) := by rw [hle]; exact ho8
            have hset := HN.out.setC HB25.out (Nat.le_trans HBS.out HBN.out.size) ho9
            rw [← HQ.out.2] at hset
            go_ret
            exact ⟨ret_int HQ.out.1.symm, RqC.mk hset ((Frp.of_below (below_and HBN.out HB25.out) (fun j => j = g)).set (p := ⟨g, 1, none⟩) rfl _)⟩
          · (try simp only [List.getElem_toArray]); (try simp only [List.getElem_cons_succ]); (try simp only [List.getElem_cons_zero])
            go_simp
            obtain ⟨w26x, hw26⟩ : ∃ xq, xq = w21x.alloc (.cells #[.string c.n, .string c.u, .int .i64 c.b, .int .i64 c.a.c, .int .i64 c.a.r, .int .i64 c.a.d, .int .i64 c.a.p] 43) := ⟨_, rfl⟩
            obtain ⟨z26, hz26⟩ : ∃ xq, xq = w21x.heap.size := ⟨_, rfl⟩
            have hn26 : Below w21x.heap.size w21x w26x := by rw [hw26]; exact below_alloc _ _
            have hb26 : Below w9.heap.size w9 w26x := below_and HB21.out hn26
            have HB26 := Lib.hid hb26
            have HY26_10 : Hid (Blk w26x z26 (chC c) 43) := Lib.hid (by rw [hw26, hz26]; exact Blk.made w21x (chC c) _)
            have HO26 := Lib.hid (own_fr HO21.out (Fr.of_below hn26 []) (fun _ _ => by simp))
            have HNE26_10 : Hid (∀ q, ((.slice (some ⟨z21, 0, none⟩) 0 0) : Value).ownBlock = some q → q ≠ z26) := Lib.hid (fun q hq => by have := own_hi HO21.out hq; omega)
            rw [← hw26, ← hz26]
            refine hK.out _ _ (HSS.out _ hb26) (fun hS26 => ?_)
            clear hK K hb26 hw26 hz26 hn26 hS21
            (try simp only [Act.put]); (try simp only [List.setIfInBounds_toArray]); (try simp only [List.set_cons_succ]); (try simp only [List.set_cons_zero])
            refine wpAnyH_ready (rs := [8]) (by kernel_rfl) (by simp) ?_
            refine (AllReadyH.cons rfl (fun K hK => ?_) AllReadyH.nil)
            refine step_app rfl (.tmp 82) (.tmp 88) 28 28 rfl w9.heap.size 43 ix (.agg #[.string ⟨#[]⟩, .string ⟨#[]⟩, .int .i64 0, .int .i64 0, .int .i64 0, .int .i64 0, .int .i64 0]) 7 72 Tryz.underlying28 hi hz0 hz1 hz2 rfl (.slice (some ⟨z21, 0, none⟩) 0 0) 0 [] (by rfl) HO26.out (.slice p j cc) j (rwC chC (C.take j)) (by rfl) (ch_first HN.out HB26.out HK.out) (by have := HL.out; have := HK.out; unfold maxLen; omega) (by have := HL.out; have := HK.out; omega) HB26.out.size ?_
            intro v27 w27x ho27 hg27 hn27 hk27
            have HO27 : Hid (w27x.ownsRow w9.heap.size 43 7 v27 j (rwC chC (C.take j))) := Lib.hid (by simpa using ho27)
            have hb27 : Below w9.heap.size w9 w27x := HB26.out.trans ((Fr.of_grown hg27).below (by intro y hy; exact own_lo HO26.out (Option.mem_toList.1 hy)) HB26.out.size)
            have HB27 := Lib.hid hb27
            have HY27_10 := Lib.hid (HY26_10.out.fr (Fr.of_grown hg27) (fun hm => HNE26_10.out _ (Option.mem_toList.1 hm) rfl))
            have HNE27_10 : Hid (∀ q, v27.ownBlock = some q → q ≠ z26) := Lib.hid (fun q hq => by rcases hk27 q hq with h1 | h1; exact HNE26_10.out q h1; have := HY26_10.out.lt; omega)
            refine hK.out _ _ (HSS.out _ hb27) (fun hS27 => ?_)
            clear hK K hb27 ho27 hg27 hn27 hk27 hS26
            (try simp only [Act.put]); (try simp only [List.setIfInBounds_toArray]); (try simp only [List.set_cons_succ]); (try simp only [List.set_cons_zero])
            refine wpAnyH_ready (rs := [11]) (by kernel_rfl) (by simp) ?_
            refine (AllReadyH.cons rfl (fun K hK => ?_) AllReadyH.nil)
            refine step_app rfl (.tmp 89) (.tmp 91) 28 28 rfl w9.heap.size 43 ix (.agg #[.string ⟨#[]⟩, .string ⟨#[]⟩, .int .i64 0, .int .i64 0, .int .i64 0, .int .i64 0, .int .i64 0]) 7 72 Tryz.underlying28 hi hz0 hz1 hz2 rfl v27 j (rwC chC (C.take j)) (by rfl) HO27.out (.slice (some ⟨z26, 0, none⟩) 1 1) 1 (chC c) (by rfl) (src_block Tryz.underlying28 _ z26 ((chC c)).toArray HY27_10.out rfl (chC_one c)) (by have := HL.out; have := HK.out; unfold maxLen; omega) (by have := HL.out; have := HK.out; omega) HB27.out.size ?_
            intro v28 w28x ho28 hg28 hn28 hk28
            have HO28 : Hid (w28x.ownsRow w9.heap.size 43 7 v28 (j + 1) (rwC chC (C.take j) ++ chC c)) := Lib.hid (by exact ho28)
            have hb28 : Below w9.heap.size w9 w28x := HB27.out.trans ((Fr.of_grown hg28).below (by intro y hy; exact own_lo HO27.out (Option.mem_toList.1 hy)) HB27.out.size)
            have HB28 := Lib.hid hb28
            refine hK.out _ _ (HSS.out _ hb28) (fun hS28 => ?_)
            clear hK K hb28 ho28 hg28 hn28 hk28 hS27
            (try simp only [Act.put]); (try simp only [List.setIfInBounds_toArray]); (try simp only [List.set_cons_succ]); (try simp only [List.set_cons_zero])
            refine wpAnyH_ready (rs := [18]) (by kernel_rfl) (by simp) ?_
            refine (AllReadyH.cons rfl (fun K hK => ?_) AllReadyH.nil)
            refine step_app rfl (.tmp 92) (.tmp 98) 28 28 rfl w9.heap.size 43 ix (.agg #[.string ⟨#[]⟩, .string ⟨#[]⟩, .int .i64 0, .int .i64 0, .int .i64 0, .int .i64 0, .int .i64 0]) 7 72 Tryz.underlying28 hi hz0 hz1 hz2 rfl v28 (j + 1) (rwC chC (C.take j) ++ chC c) (by rfl) HO28.out (.slice (if cc = j then p else Option.map (fun x => x.add (j * 7)) p) (C.length - j) (cc - j)) (C.length - j) (rwC chC (C.drop j)) (by rfl) (ch_rest HN.out HB28.out HK.out) (by have := HL.out; have := HK.out; unfold maxLen; omega) (by have := HL.out; have := HK.out; omega) HB28.out.size ?_
            intro v29 w29x ho29 hg29 hn29 hk29
            have HO29 : Hid (w29x.ownsRow w9.heap.size 43 7 v29 (j + 1 + (C.length - j)) (rwC chC (C.take j) ++ chC c ++ rwC chC (C.drop j))) := Lib.hid (by exact ho29)
            have hb29 : Below w9.heap.size w9 w29x := HB28.out.trans ((Fr.of_grown hg29).below (by intro y hy; exact own_lo HO28.out (Option.mem_toList.1 hy)) HB28.out.size)
            have HB29 := Lib.hid hb29
            refine hK.out _ _ (HSS.out _ hb29) (fun hS29 => ?_)
            clear hK K hb29 ho29 hg29 hn29 hk29 hS28
            (try simp only [Act.put]); (try simp only [List.setIfInBounds_toArray]); (try simp only [List.set_cons_succ]); (try simp only [List.set_cons_zero])
            refine wpAnyH_take (i := 19) (v := ?v53) rfl (by kernel_rfl) (by kernel_rfl) (by kernel_rfl) (fun _ _ _ h => h) (Or.inl ⟨by rfl, ?hy53⟩) (by assumption) ?rest53
            case hy53 => (intro _ hSw; (try dsimp only at hSw); go_simp; (try with_reducible rfl))
            (try simp only [Act.put]); (try simp only [List.setIfInBounds_toArray]); (try simp only [List.set_cons_succ]); (try simp only [List.set_cons_zero])
            refine wpAnyH_take (i := 20) (v := ?v54) rfl (by kernel_rfl) (by kernel_rfl) (by kernel_rfl) (fun _ _ _ h => h) (Or.inl ⟨by rfl, ?hy54⟩) (by assumption) ?rest54
            case hy54 => (intro _ hSw; (try dsimp only at hSw); go_simp; (try with_reducible rfl))
            (try simp only [Act.put]); (try simp only [List.setIfInBounds_toArray]); (try simp only [List.set_cons_succ]); (try simp only [List.set_cons_zero])
            refine wpAnyH_done (by kernel_rfl) ?_ _
            refine LastQ.start rfl ?_
            clear hS29 hHeld
            have d1 := (HSS.out _ HB29.out).1
            have f1 := (HN.out.kept HB29.out).blk.free 1
            obtain ⟨p8, c8, hv8, -, -⟩ := own_slice HO29.out
            have HO8 := HO29
            subst hv8
            generalize (if cc = j then p else Option.map (fun x => x.add (j * 7)) p) = pp
            go_wp2
            refine NoPanic.normal ?_
            (try go_wp2)
            have hle : (C.take j ++ c :: C.drop j).length = j + 1 + (C.length - j) := by rw [List.length_append, List.length_cons, List.length_take, List.length_drop]; have := HK.out; omega
            have ho8 := HO8.out
            have hcat : rwC chC (C.take j) ++ chC c ++ rwC chC (C.drop j) = rwC chC (C.take j ++ c :: C.drop j) := by rw [rwC_append, rwC_cons, List.append_assoc]
            rw [hcat] at ho8
            have ho9 : World.ownsRow w29x w9.heap.size 43 7 (.slice p8 (j + 1 + (C.length - j)) c8) (C.take j ++ c :: C.drop j).length (rwC chC (C.take j ++ c :: C.drop j)) := by rw [hle]; exact ho8
            have hset := HN.out.setC HB29.out (Nat.le_trans HBS.out HBN.out.size) ho9
            rw [← HQ.out.2] at hset
            go_ret
            exact ⟨ret_int HQ.out.1.symm, RqC.mk hset ((Frp.of_below (below_and HBN.out HB29.out) (fun j => j = g)).set (p := ⟨g, 1, none⟩) rfl _)⟩
        · (try simp only [List.getElem_toArray]); (try simp only [List.getElem_cons_succ]); (try simp only [List.getElem_cons_zero])
          go_simp
          obtain ⟨w30x, hw30⟩ : ∃ xq, xq = wd20.alloc (.cells #[.string c.n, .string c.u, .int .i64 c.b, .int .i64 c.a.c, .int .i64 c.a.r, .int .i64 c.a.d, .int .i64 c.a.p] 43) := ⟨_, rfl⟩
          obtain ⟨z30, hz30⟩ : ∃ xq, xq = wd20.heap.size := ⟨_, rfl⟩
          have hn30 : Below wd20.heap.size wd20 w30x := by rw [hw30]; exact below_alloc _ _
          have hb30 : Below w9.heap.size w9 w30x := below_and HB20.out hn30
          have HB30 := Lib.hid hb30
          have HY30_10 : Hid (Blk w30x z30 (chC c) 43) := Lib.hid (by rw [hw30, hz30]; exact Blk.made wd20 (chC c) _)
          rw [← hw30, ← hz30]
          refine hK.out _ _ (HSS.out _ hb30) (fun hS30 => ?_)
          clear hK K hb30 hw30 hz30 hn30 hS20
          (try simp only [Act.put]); (try simp only [List.setIfInBounds_toArray]); (try simp only [List.set_cons_succ]); (try simp only [List.set_cons_zero])
          refine wpAnyH_ready (rs := [1]) (by kernel_rfl) (by simp) ?_
          refine (AllReadyH.cons rfl (fun K hK => ?_) AllReadyH.nil)
          (try simp only [List.getElem_toArray]); (try simp only [List.getElem_cons_succ]); (try simp only [List.getElem_cons_zero])
          go_simp
          obtain ⟨w31x, hw31⟩ : ∃ xq, xq = w30x.alloc (.cells #[] 43) := ⟨_, rfl⟩
          obtain ⟨z31, hz31⟩ : ∃ xq, xq = w30x.heap.size := ⟨_, rfl⟩
          have hn31 : Below w30x.heap.size w30x w31x := by rw [hw31]; exact below_alloc _ _
          have hb31 : Below w9.heap.size w9 w31x := below_and HB30.out hn31
          have HB31 := Lib.hid hb31
          have HY31_10 := Lib.hid (HY30_10.out.kept hn31)
          have HNE31_10 : Hid (∀ q, (Value.slice (some ⟨z31, 0, none⟩) 0 0).ownBlock = some q → q ≠ z30) := Lib.hid (fun q hq => by simp [Value.ownBlock] at hq; have := HY30_10.out.lt; omega)
          have HO31 : Hid (w31x.ownsRow w9.heap.size 43 7 (.slice (some ⟨z31, 0, none⟩) 0 0) 0 []) := Lib.hid (by rw [hw31, hz31]; exact World.ownsRow_made w30x #[] 0 HB30.out.size (by decide) rfl)
          rw [← hw31, ← hz31]
          refine hK.out _ _ (HSS.out _ hb31) (fun hS31 => ?_)
          clear hK K hb31 hw31 hz31 hn31 hS30
          (try simp only [Act.put]); (try simp only [List.setIfInBounds_toArray]); (try simp only [List.set_cons_succ]); (try simp only [List.set_cons_zero])
          refine wpAnyH_ready (rs := [8]) (by kernel_rfl) (by simp) ?_
          refine (AllReadyH.cons rfl (fun K hK => ?_) AllReadyH.nil)
          refine step_app rfl (.tmp 82) (.tmp 88) 28 28 rfl w9.heap.size 43 ix (.agg #[.string ⟨#[]⟩, .string ⟨#[]⟩, .int .i64 0, .int .i64 0, .int .i64 0, .int .i64 0, .int .i64 0]) 7 72 Tryz.underlying28 hi hz0 hz1 hz2 rfl (.slice (some ⟨z31, 0, none⟩) 0 0) 0 [] (by rfl) HO31.out (.slice p j cc) j (rwC chC (C.take j)) (by rfl) (ch_first HN.out HB31.out HK.out) (by have := HL.out; have := HK.out; unfold maxLen; omega) (by have := HL.out; have := HK.out; omega) HB31.out.size ?_
          intro v32 w32x ho32 hg32 hn32 hk32
          have HO32 : Hid (w32x.ownsRow w9.heap.size 43 7 v32 j (rwC chC (C.take j))) := Lib.hid (by simpa using ho32)
          have hb32 : Below w9.heap.size w9 w32x := HB31.out.trans ((Fr.of_grown hg32).below (by intro y hy; exact own_lo HO31.out (Option.mem_toList.1 hy)) HB31.out.size)
          have HB32 := Lib.hid hb32
          have HY32_10 := Lib.hid (HY31_10.out.fr (Fr.of_grown hg32) (fun hm => HNE31_10.out _ (Option.mem_toList.1 hm) rfl))
          have HNE32_10 : Hid (∀ q, v32.ownBlock = some q → q ≠ z30) := Lib.hid (fun q hq => by rcases hk32 q hq with h1 | h1; exact HNE31_10.out q h1; have := HY31_10.out.lt; omega)
          refine hK.out _ _ (HSS.out _ hb32) (fun hS32 => ?_)
          clear hK K hb32 ho32 hg32 hn32 hk32 hS31
          (try simp only [Act.put]); (try simp only [List.setIfInBounds_toArray]); (try simp only [List.set_cons_succ]); (try simp only [List.set_cons_zero])
          refine wpAnyH_ready (rs := [11]) (by kernel_rfl) (by simp) ?_
          refine (AllReadyH.cons rfl (fun K hK => ?_) AllReadyH.nil)
          refine step_app rfl (.tmp 89) (.tmp 91) 28 28 rfl w9.heap.size 43 ix (.agg #[.string ⟨#[]⟩, .string ⟨#[]⟩, .int .i64 0, .int .i64 0, .int .i64 0, .int .i64 0, .int .i64 0]) 7 72 Tryz.underlying28 hi hz0 hz1 hz2 rfl v32 j (rwC chC (C.take j)) (by rfl) HO32.out (.slice (some ⟨z30, 0, none⟩) 1 1) 1 (chC c) (by rfl) (src_block Tryz.underlying28 _ z30 ((chC c)).toArray HY32_10.out rfl (chC_one c)) (by have := HL.out; have := HK.out; unfold maxLen; omega) (by have := HL.out; have := HK.out; omega) HB32.out.size ?_
          intro v33 w33x ho33 hg33 hn33 hk33
          have HO33 : Hid (w33x.ownsRow w9.heap.size 43 7 v33 (j + 1) (rwC chC (C.take j) ++ chC c)) := Lib.hid (by exact ho33)
          have hb33 : Below w9.heap.size w9 w33x := HB32.out.trans ((Fr.of_grown hg33).below (by intro y hy; exact own_lo HO32.out (Option.mem_toList.1 hy)) HB32.out.size)
          have HB33 := Lib.hid hb33
          refine hK.out _ _ (HSS.out _ hb33) (fun hS33 => ?_)
          clear hK K hb33 ho33 hg33 hn33 hk33 hS32
          (try simp only [Act.put]); (try simp only [List.setIfInBounds_toArray]); (try simp only [List.set_cons_succ]); (try simp only [List.set_cons_zero])
          refine wpAnyH_ready (rs := [18]) (by kernel_rfl) (by simp) ?_
          refine (AllReadyH.cons rfl (fun K hK => ?_) AllReadyH.nil)
          refine step_app rfl (.tmp 92) (.tmp 98) 28 28 rfl w9.heap.size 43 ix (.agg #[.string ⟨#[]⟩, .string ⟨#[]⟩, .int .i64 0, .int .i64 0, .int .i64 0, .int .i64 0, .int .i64 0]) 7 72 Tryz.underlying28 hi hz0 hz1 hz2 rfl v33 (j + 1) (rwC chC (C.take j) ++ chC c) (by rfl) HO33.out (.slice (if cc = j then p else Option.map (fun x => x.add (j * 7)) p) (C.length - j) (cc - j)) (C.length - j) (rwC chC (C.drop j)) (by rfl) (ch_rest HN.out HB33.out HK.out) (by have := HL.out; have := HK.out; unfold maxLen; omega) (by have := HL.out; have := HK.out; omega) HB33.out.size ?_
          intro v34 w34x ho34 hg34 hn34 hk34
          have HO34 : Hid (w34x.ownsRow w9.heap.size 43 7 v34 (j + 1 + (C.length - j)) (rwC chC (C.take j) ++ chC c ++ rwC chC (C.drop j))) := Lib.hid (by exact ho34)
          have hb34 : Below w9.heap.size w9 w34x := HB33.out.trans ((Fr.of_grown hg34).below (by intro y hy; exact own_lo HO33.out (Option.mem_toList.1 hy)) HB33.out.size)
          have HB34 := Lib.hid hb34
          refine hK.out _ _ (HSS.out _ hb34) (fun hS34 => ?_)
          clear hK K hb34 ho34 hg34 hn34 hk34 hS33
          (try simp only [Act.put]); (try simp only [List.setIfInBounds_toArray]); (try simp only [List.set_cons_succ]); (try simp only [List.set_cons_zero])
          refine wpAnyH_take (i := 19) (v := ?v55) rfl (by kernel_rfl) (by kernel_rfl) (by kernel_rfl) (fun _ _ _ h => h) (Or.inl ⟨by rfl, ?hy55⟩) (by assumption) ?rest55
          case hy55 => (intro _ hSw; (try dsimp only at hSw); go_simp; (try with_reducible rfl))
          (try simp only [Act.put]); (try simp only [List.setIfInBounds_toArray]); (try simp only [List.set_cons_succ]); (try simp only [List.set_cons_zero])
          refine wpAnyH_take (i := 20) (v := ?v56) rfl (by kernel_rfl) (by kernel_rfl) (by kernel_rfl) (fun _ _ _ h => h) (Or.inl ⟨by rfl, ?hy56⟩) (by assumption) ?rest56
          case hy56 => (intro _ hSw; (try dsimp only at hSw); go_simp; (try with_reducible rfl))
          (try simp only [Act.put]); (try simp only [List.setIfInBounds_toArray]); (try simp only [List.set_cons_succ]); (try simp only [List.set_cons_zero])
          refine wpAnyH_done (by kernel_rfl) ?_ _
          refine LastQ.start rfl ?_
          clear hS34 hHeld
          have d1 := (HSS.out _ HB34.out).1
          have f1 := (HN.out.kept HB34.out).blk.free 1
          obtain ⟨p8, c8, hv8, -, -⟩ := own_slice HO34.out
          have HO8 := HO34
          subst hv8
          generalize (if cc = j then p else Option.map (fun x => x.add (j * 7)) p) = pp
          go_wp2
          refine NoPanic.normal ?_
          (try go_wp2)
          have hle : (C.take j ++ c :: C.drop j).length = j + 1 + (C.length - j) := by rw [List.length_append, List.length_cons, List.length_take, List.length_drop]; have := HK.out; omega
          have ho8 := HO8.out
          have hcat : rwC chC (C.take j) ++ chC c ++ rwC chC (C.drop j) = rwC chC (C.take j ++ c :: C.drop j) := by rw [rwC_append, rwC_cons, List.append_assoc]
          rw [hcat] at ho8
          have ho9 : World.ownsRow w34x w9.heap.size 43 7 (.slice p8 (j + 1 + (C.length - j)) c8) (C.take j ++ c :: C.drop j).length (rwC chC (C.take j ++ c :: C.drop j)) := by rw [hle]; exact ho8
          have hset := HN.out.setC HB34.out (Nat.le_trans HBS.out HBN.out.size) ho9
          rw [← HQ.out.2] at hset
          go_ret
          exact ⟨ret_int HQ.out.1.symm, RqC.mk hset ((Frp.of_below (below_and HBN.out HB34.out) (fun j => j = g)).set (p := ⟨g, 1, none⟩) rfl _)⟩
end Go.Proofs.YtmgbailpmcggiaaGreat
