/- Texts of one proof, laid together: RQChange. No condition of ours. -/
import Derived.Test.YtmgbailpmcggiaaGreatQZ17
namespace Go.Proofs.YtmgbailpmcggiaaGreat
open Go.RowKit

theorem own_cells4 {w : World} {base : Nat} {e : TypeId} {size g n cap : Nat} {xs : List Value} (h : w.ownsRow base e size (.slice (some ⟨g, 0, none⟩) n cap) n xs) (o : Nat) (ho : o + 3 < n * size) (a b c d : Value) :
    (w.setCells g o (#[a, b, c, d] : Array Value).toList).ownsRow base e size (.slice (some ⟨g, 0, none⟩) n cap) n ((((xs.set o a).set (o + 1) b).set (o + 2) c).set (o + 3) d) :=
  own_set (own_set (own_set (own_set h (k := o) (by omega) a) (k := o + 1) (by omega) b) (k := o + 2) (by omega) c) (k := o + 3) ho d
theorem frp_cells {P : Nat → Prop} {a : World} {k : Nat} (hk : P k) : ∀ (vs : List Value) (o : Nat) (w : World), Frp P a w → Frp P a (w.setCells k o vs)
  | [], _, _, h => h
  | v :: r, o, w, h => frp_cells hk r (o + 1) _ (h.set (p := ⟨k, o, none⟩) hk v)
/-- one of the charges has other amounts -/
theorem rwC_amt {C : List Ch} {k : Nat} (hk : k < C.length) (x : Ch) (hx : x = C[k]) (a : Am) :
    ((((rwC chC C).set (k * 7 + 3) (.int .i64 a.c)).set (k * 7 + 3 + 1) (.int .i64 a.r)).set (k * 7 + 3 + 2) (.int .i64 a.d)).set (k * 7 + 3 + 3) (.int .i64 a.p) = rwC chC (C.set k ⟨x.n, x.u, x.b, a⟩) := by
  subst hx
  rw [rwC_set chC_len hk (j := 3) (x := ⟨C[k].n, C[k].u, C[k].b, ⟨a.c, C[k].a.r, C[k].a.d, C[k].a.p⟩⟩) (by omega) rfl]
  rw [show k * 7 + 3 + 1 = k * 7 + 4 from rfl, rwC_set chC_len (i := k) (j := 4) (x := ⟨C[k].n, C[k].u, C[k].b, ⟨a.c, a.r, C[k].a.d, C[k].a.p⟩⟩) (by simpa using hk) (by omega) (by simp), List.set_set]
  rw [show k * 7 + 3 + 2 = k * 7 + 5 from rfl, rwC_set chC_len (i := k) (j := 5) (x := ⟨C[k].n, C[k].u, C[k].b, ⟨a.c, a.r, a.d, C[k].a.p⟩⟩) (by simpa using hk) (by omega) (by simp), List.set_set]
  rw [show k * 7 + 3 + 3 = k * 7 + 6 from rfl, rwC_set chC_len (i := k) (j := 6) (x := ⟨C[k].n, C[k].u, C[k].b, ⟨a.c, a.r, a.d, a.p⟩⟩) (by simpa using hk) (by omega) (by simp), List.set_set]
theorem info_am4 : (Tryz.prog.info? 34).map (fun i => i.size) = some 4 := by kernel_rfl

set_option maxRecDepth 100000 in
set_option maxHeartbeats 1500000 in
theorem rchange_any (base g n : Nat) (vG vC : Value) (S G : List Gr) (C : List Ch) (s : ByteArray) (a : Am) (w : World) (h : RBk base w g vG vC S C) (hq : QI n G C) (hs : Sg S G) (hl : C.length ≤ 100000) :
    Calls Tryz.prog 17 #[ptr g, .string s, amV a] w fun e w' => e = .returned (.int .i64 (changeP G C s a).1) ∧ RBk base w' g vG vC S (changeP G C s a).2 ∧ Frp (fun j => vC.ownBlock = some j) w w' := by
  obtain ⟨r, C', hp⟩ : ∃ r C', changeP G C s a = (r, C') := ⟨_, _, rfl⟩
  rw [hp]
  have HP := Lib.hid hp
  obtain ⟨w1, hw1⟩ : ∃ w1, w1 = w.alloc (.cells #[.int .i64 a.c, .int .i64 a.r, .int .i64 a.d, .int .i64 a.p] 34) := ⟨_, rfl⟩
  obtain ⟨B, hB⟩ : ∃ B, B = w.heap.size := ⟨_, rfl⟩
  have X1 : Hid (Blk w1 B (amC a) 34) := Lib.hid (by rw [hw1, hB]; exact Blk.made w (amC a) _)
  have HB1 : Hid (Below w.heap.size w w1) := Lib.hid (by rw [hw1]; exact below_alloc w _)
  have HQI := Lib.hid hq
  have HSG := Lib.hid hs
  obtain ⟨p, cc, rfl, hc, hm⟩ := own_slice h.ch
  have H1 := Lib.hid (h.kept HB1.out)
  have hml : maxLen ≤ 9223372036854775807 := by decide
  have HL := Lib.hid hl
  have HOLD : Hid (∀ w', Below w.heap.size w w' → C' = C → RBk base w' g vG (.slice p C.length cc) S C' ∧ Frp (fun j => (Value.slice p C.length cc).ownBlock = some j) w w') := Lib.hid (fun w' hb e => ⟨by rw [e]; exact h.kept hb, Frp.of_below hb _⟩)
  clear h hq hs hl hp
  have a0 := X1.out.cell (j := 0) rfl
  have a1 := X1.out.cell (j := 1) rfl
  have a2 := X1.out.cell (j := 2) rfl
  have a3 := X1.out.cell (j := 3) rfl
  rcases nmd_cases s with ⟨h0, hn⟩ | ⟨h0, h1, hn⟩ | ⟨h0, h1, hn⟩
  · have i1 : (s.size : Int) < 1 := by omega
    have HQ : Hid (r = 2 ∧ C' = C) := Lib.hid (by
      have := HP.out
      unfold changeP at this
      rw [hn, Bool.false_and, if_pos rfl] at this
      exact ⟨(congrArg Prod.fst this).symm, (congrArg Prod.snd this).symm⟩)
    clear hn h0
    go_enter Tryz.func17, Tryz.ntmps17
    go_upto_region 1 with fail
    rw [← hw1, ← hB]
    clear hw1 hB
    go_wp2
    go_ret
    exact ⟨ret_int HQ.out.1.symm, HOLD.out _ HB1.out HQ.out.2⟩
  · have i1 : ¬ (s.size : Int) < 1 := by omega
    have i2 : (64 : Int) < (s.size : Int) := by omega
    have HQ : Hid (r = 2 ∧ C' = C) := Lib.hid (by
      have := HP.out
      unfold changeP at this
      rw [hn, Bool.false_and, if_pos rfl] at this
      exact ⟨(congrArg Prod.fst this).symm, (congrArg Prod.snd this).symm⟩)
    clear hn h0 h1
    go_enter Tryz.func17, Tryz.ntmps17
    go_upto_region 1 with fail
    rw [← hw1, ← hB]
    clear hw1 hB
    go_wp2
    go_ret
    exact ⟨ret_int HQ.out.1.symm, HOLD.out _ HB1.out HQ.out.2⟩
  have i1 : ¬ (s.size : Int) < 1 := by omega
  have i2 : ¬ (64 : Int) < (s.size : Int) := by omega
  have HFN : Hid (nmdB s = true) := Lib.hid hn
  clear h0 h1 hn
  cases ho : a.okB
  case false =>
    have HCK : Hid (a.chk = 2) := Lib.hid (by unfold Am.chk; rw [ho]; rfl)
    have HQ : Hid (r = 2 ∧ C' = C) := Lib.hid (by
      have := HP.out
      unfold changeP at this
      rw [ho, Bool.and_false, if_pos rfl] at this
      exact ⟨(congrArg Prod.fst this).symm, (congrArg Prod.snd this).symm⟩)
    clear ho
    go_enter Tryz.func17, Tryz.ntmps17
    go_upto_region 1 with fail
    rw [← hw1, ← hB]
    clear hw1 hB
    go_wp2_with (go_at_call 40; refine (rcheck_any a _).mono ?_; rw [HCK.out]; rintro e w2 ⟨rfl, hb⟩; have X2 := Lib.hid (X1.out.kept hb); have H2 := Lib.hid (H1.out.kept hb); have HB2 := Lib.hid (below_and HB1.out hb); clear hb a0 a1 a2 a3)
    go_ret
    exact ⟨ret_int HQ.out.1.symm, HOLD.out _ HB2.out HQ.out.2⟩
  case true =>
  have HCK : Hid (a.chk = 0) := Lib.hid (by unfold Am.chk; rw [ho]; rfl)
  have HOK := Lib.hid ho
  clear ho
  cases hf : kfnd Ch.key C s.data.toList with
  | none =>
    have HPL := Lib.hid (cplc_none hf)
    have HQ : Hid (r = 6 ∧ C' = C) := Lib.hid (by
      have := HP.out
      unfold changeP at this
      rw [HFN.out, HOK.out, if_neg (by decide), hf] at this
      exact ⟨(congrArg Prod.fst this).symm, (congrArg Prod.snd this).symm⟩)
    clear hf
    go_enter Tryz.func17, Tryz.ntmps17
    go_upto_region 1 with fail
    rw [← hw1, ← hB]
    clear hw1 hB
    go_wp2_with (first | (go_at_call 40; refine (rcheck_any a _).mono ?_; rw [HCK.out]; rintro e w2 ⟨rfl, hb⟩; have X2 := Lib.hid (X1.out.kept hb); have H2 := Lib.hid (H1.out.kept hb); have HB2 := Lib.hid (below_and HB1.out hb); clear hb a0 a1 a2 a3) | (go_at_call 36; refine (rplace_any base g vG _ S C s _ H2.out).mono ?_; rw [HPL.out]; rintro e w3 ⟨rfl, hb⟩; have X3 := Lib.hid (X2.out.kept hb); have H3 := Lib.hid (H2.out.kept hb); have HB3 := Lib.hid (below_and HB2.out hb); clear hb))
    go_ret
    exact ⟨ret_int HQ.out.1.symm, HOLD.out _ HB3.out HQ.out.2⟩
  | some x =>
  obtain ⟨k, hk⟩ : ∃ k, k = kpl Ch.key C s.data.toList := ⟨_, rfl⟩
  obtain ⟨hkl, hxk⟩ := kfnd_place HQI.out.ch.rise hf
  have hkl' : k < C.length := by rw [hk]; exact hkl
  have HXK : Hid (x = C[k]) := Lib.hid (by rw [← hxk]; simp only [hk])
  have HK := Lib.hid hkl'
  have HXN : Hid (x.n = s) := Lib.hid (ByteArray.ext (Array.toList_inj.1 (kfnd_mem hf).2))
  have HXM := Lib.hid (kfnd_mem hf).1
  have HPL : Hid (cplc s C = (k : Int)) := Lib.hid (by rw [hk]; exact cplc_some HQI.out.ch.rise hf)
  have HCP : Hid (changeP G C s a = if mayP G C ⟨x.n, x.u, x.b, a⟩ (fitsB a x.a) ≠ 0 then (mayP G C ⟨x.n, x.u, x.b, a⟩ (fitsB a x.a), C) else (0, C.set k ⟨x.n, x.u, x.b, a⟩)) := Lib.hid (by
    unfold changeP
    rw [HFN.out, HOK.out, if_neg (by decide), hf]
    show (if _ then _ else ((0 : Int), kput Ch.key C ⟨x.n, x.u, x.b, a⟩)) = _
    rw [kput_same (x := ⟨x.n, x.u, x.b, a⟩) HQI.out.ch.rise hf (kfnd_mem hf).2, ← hk])
  have j0 : ¬ (k : Int) < 0 := by omega
  have j1 : (0 : Int) ≤ (k : Int) := by omega
  have j2 : (k : Int) < (C.length : Int) := by omega
  obtain ⟨z, er, hz⟩ : ∃ z er, addR (psum (hit x.u x.b x.n) C) a = (z, er) := ⟨_, _, rfl⟩
  have HUS : Hid (∀ w', RBk base w' g vG (.slice p C.length cc) S C → Calls Tryz.prog 37 #[ptr g, .string x.u, .int .i64 x.b, .string s, .agg #[.int .i64 a.c, .int .i64 a.r, .int .i64 a.d, .int .i64 a.p]] w' fun e w2 => e = .returned (.tuple #[.agg #[.int .i64 z.c, .int .i64 z.r, .int .i64 z.d, .int .i64 z.p], .bool (er == 0)]) ∧ Below w'.heap.size w' w2) := Lib.hid (fun w' h' => rused_any base g vG _ S C x.u s x.b a w' h' HL.out z er (by rw [used_change HQI.out x.u s x.b a HOK.out, ← HXN.out]; exact hz))
  have HMP : Hid (mayP G C ⟨x.n, x.u, x.b, a⟩ (fitsB a x.a) = if er ≠ 0 then 9 else if (!fitsB a x.a && !(x.b == 0) && !fitsB z (grantA G x.u x.b)) = true then 12 else 0) := Lib.hid (by
    unfold mayP
    show (if (addR (psum (hit x.u x.b x.n) C) a).2 ≠ 0 then _ else if (_ && _ && !fitsB (addR (psum (hit x.u x.b x.n) C) a).1 _) = true then _ else _) = _
    rw [hz])
  clear hf hk hz hxk
  go_enter Tryz.func17, Tryz.ntmps17
  go_upto_region 1 with fail
  rw [← hw1, ← hB]
  clear hw1 hB
  go_upto_region 6 with (first | (go_at_call 40; refine (rcheck_any a _).mono ?_; rw [HCK.out]; rintro e w2 ⟨rfl, hb⟩; have X2 := Lib.hid (X1.out.kept hb); have H2 := Lib.hid (H1.out.kept hb); have HB2 := Lib.hid (below_and HB1.out hb); clear hb a0 a1 a2 a3) | (go_at_call 36; refine (rplace_any base g vG _ S C s _ H2.out).mono ?_; rw [HPL.out]; rintro e w3 ⟨rfl, hb⟩; have X3 := Lib.hid (X2.out.kept hb); have H3 := Lib.hid (H2.out.kept hb); have HB3 := Lib.hid (below_and HB2.out hb); clear hb))
  obtain ⟨q, hpq, hcs⟩ := H3.out.chAt HK.out
  subst hpq
  rw [← HXK.out] at hcs
  have x0 : w3.cell? ⟨q, k * 7, none⟩ = some (.string x.n) := hcs 0 _ (by omega) rfl
  have x1 := hcs 1 _ (by omega) rfl
  have x2 := hcs 2 _ (by omega) rfl
  have x3 := hcs 3 _ (by omega) rfl
  have x4 := hcs 4 _ (by omega) rfl
  have x5 := hcs 5 _ (by omega) rfl
  have x6 := hcs 6 _ (by omega) rfl
  have b1 := H3.out.blk.cell (j := 1) rfl
  clear hcs
  go_upto_region 7 with fail
  refine at_hide (F := fun w' => Blk w' w3.heap.size (chC x) 43 ∧ Blk w' B (amC a) 34 ∧ RBk base w' g vG (.slice (some ⟨q, 0, none⟩) C.length cc) S C ∧ Below w.heap.size w w') ⟨Blk.made w3 (chC x) _, X3.out.kept (below_alloc _ _), H3.out.kept (below_alloc _ _), below_and HB3.out (below_alloc _ _)⟩ ?_
  intro w4 hF
  obtain ⟨f1, f2, f3, f4⟩ := hF
  obtain ⟨Y, hY⟩ : ∃ Y, Y = w3.heap.size := ⟨_, rfl⟩
  rw [← hY] at f1 ⊢
  have Y4 := Lib.hid f1
  have X4 := Lib.hid f2
  have H4 := Lib.hid f3
  have HB4 := Lib.hid f4
  clear f1 f2 f3 f4 hY x0 x1 x2 x3 x4 x5 x6 b1
  have a0 := X4.out.cell (j := 0) rfl
  have a1 := X4.out.cell (j := 1) rfl
  have a2 := X4.out.cell (j := 2) rfl
  have a3 := X4.out.cell (j := 3) rfl
  have y1 := Y4.out.cell (j := 1) rfl
  have y2 := Y4.out.cell (j := 2) rfl
  go_upto_region 8 with (go_at_call 37; refine (HUS.out _ H4.out).mono ?_; rintro e w5 ⟨rfl, hb⟩; have X5 := Lib.hid (X4.out.kept hb); have Y5 := Lib.hid (Y4.out.kept hb); have H5 := Lib.hid (H4.out.kept hb); have HB5 := Lib.hid (below_and HB4.out hb); clear hb)
  refine at_hide (F := fun w' => Blk w' w5.heap.size (amC z) 34 ∧ Blk w' Y (chC x) 43 ∧ Blk w' B (amC a) 34 ∧ RBk base w' g vG (.slice (some ⟨q, 0, none⟩) C.length cc) S C ∧ Below w.heap.size w w') ⟨Blk.made w5 (amC z) _, Y5.out.kept (below_alloc _ _), X5.out.kept (below_alloc _ _), H5.out.kept (below_alloc _ _), below_and HB5.out (below_alloc _ _)⟩ ?_
  intro w6 hF
  obtain ⟨f1, f2, f3, f4, f5⟩ := hF
  obtain ⟨Z, hZ⟩ : ∃ Z, Z = w5.heap.size := ⟨_, rfl⟩
  rw [← hZ] at f1 ⊢
  have Z6 := Lib.hid f1
  have Y6 := Lib.hid f2
  have X6 := Lib.hid f3
  have H6 := Lib.hid f4
  have HB6 := Lib.hid f5
  clear f1 f2 f3 f4 f5 hZ a0 a1 a2 a3 y1 y2
  cases heb : (er == 0)
  case false =>
    have HQ : Hid (r = 9 ∧ C' = C) := Lib.hid (by
      have := HP.out
      have hne : er ≠ 0 := by simpa using heb
      rw [HCP.out, HMP.out, if_pos hne, if_pos (by decide)] at this
      exact ⟨(congrArg Prod.fst this).symm, (congrArg Prod.snd this).symm⟩)
    clear heb
    go_wp2
    go_ret
    exact ⟨ret_int HQ.out.1.symm, HOLD.out _ HB6.out HQ.out.2⟩
  case true =>
  have HER : Hid (er = 0) := Lib.hid (by simpa using heb)
  clear heb
  go_upto_region 10 with fail
  obtain ⟨nb, hnb⟩ : ∃ nb, nb = (x.b != 0) := ⟨_, rfl⟩
  obtain ⟨lb, hlb⟩ : ∃ lb, lb = fitsB a x.a := ⟨_, rfl⟩
  obtain ⟨ga, hga⟩ : ∃ ga, ga = grantA G x.u x.b := ⟨_, rfl⟩
  obtain ⟨fb, hfb⟩ : ∃ fb, fb = fitsB z ga := ⟨_, rfl⟩
  have HGR : Hid (∀ w', RBk base w' g vG (.slice (some ⟨q, 0, none⟩) C.length cc) S C → Calls Tryz.prog 39 #[ptr g, .string x.u, .int .i64 x.b] w' fun e w2 => e = .returned (.agg #[.int .i64 ga.c, .int .i64 ga.r, .int .i64 ga.d, .int .i64 ga.p]) ∧ Below w'.heap.size w' w2) := Lib.hid (fun w' h' => by rw [hga, ← ask_gfind HQI.out HSG.out (HQI.out.user _ HXM.out)]; exact rgr_any base g vG _ S C x.u x.b w' h')
  have HMP2 : Hid (mayP G C ⟨x.n, x.u, x.b, a⟩ (fitsB a x.a) = if (nb && !lb && !fb) = true then 12 else 0) := Lib.hid (by rw [HMP.out, if_neg (by simpa using HER.out), ← hga, ← hlb, ← hfb, hnb, Bool.and_comm (!lb)]; rfl)
  clear hga
  go_cut [69] (fun s69 wx => s69 = .bool (nb && !lb && !fb) ∧ Blk wx B (amC a) 34 ∧ RBk base wx g vG (.slice (some ⟨q, 0, none⟩) C.length cc) S C ∧ Below w.heap.size w wx)
  case first =>
    have y1 := Past.blk Y6.out (j := 1) rfl
    have y2 := Past.blk Y6.out (j := 2) rfl
    have y3 := Past.blk Y6.out (j := 3) rfl
    have y4 : ∀ t : Past w6, t.val.cell? ⟨Y, 3 + 1, none⟩ = some (.int .i64 x.a.r) := Past.blk Y6.out (j := 4) rfl
    have y5 : ∀ t : Past w6, t.val.cell? ⟨Y, 3 + 2, none⟩ = some (.int .i64 x.a.d) := Past.blk Y6.out (j := 5) rfl
    have y6 : ∀ t : Past w6, t.val.cell? ⟨Y, 3 + 3, none⟩ = some (.int .i64 x.a.p) := Past.blk Y6.out (j := 6) rfl
    have z0 := Past.blk Z6.out (j := 0) rfl
    have z1 := Past.blk Z6.out (j := 1) rfl
    have z2 := Past.blk Z6.out (j := 2) rfl
    have z3 := Past.blk Z6.out (j := 3) rfl
    have a0 := Past.blk X6.out (j := 0) rfl
    have a1 := Past.blk X6.out (j := 1) rfl
    have a2 := Past.blk X6.out (j := 2) rfl
    have a3 := Past.blk X6.out (j := 3) rfl
    have fin : ∀ t : Past w6, Blk t.val B (amC a) 34 ∧ RBk base t.val g vG (.slice (some ⟨q, 0, none⟩) C.length cc) S C ∧ Below w.heap.size w t.val := fun t => ⟨X6.out.kept t.h, H6.out.kept t.h, below_and HB6.out t.h⟩
    have FIN := Lib.hid fin
    clear fin
    have HT0 := Lib.hid hnb
    have HT1 := Lib.hid hlb
    have HT2 := Lib.hid hfb
    clear hnb hlb hfb
    cases t0 : (x.b != 0) <;> cases t1 : fitsB a x.a <;> cases t2 : fitsB z ga
    all_goals (
      have HV0 := Lib.hid (HT0.out.trans t0)
      have HV1 := Lib.hid (HT1.out.trans t1)
      have HV2 := Lib.hid (HT2.out.trans t2)
      refine wp_region_past (by kernel_rfl) (by kernel_rfl) ?_
      repeat (go_big_quiet_step (first
        | (go_at_call 39; exact past_call (HGR.out _ (H6.out.kept (Past.h _))))
        | (go_at_call 38; exact past_call (rfits_any _ _ _))))
      refine wpQuiet_nil ?_
      intro _ hw'
      obtain ⟨s, hw2⟩ := hw'
      subst hw2
      go_wp2_with fail
      go_meet
      exact ⟨by rw [HV0.out, HV1.out, HV2.out]; rfl, FIN.out s⟩)
  case rest =>
  obtain ⟨rfl, hx, hh, hb⟩ := hcut
  obtain ⟨w7, hw7⟩ : ∃ w7, w7 = wc := ⟨_, rfl⟩
  rw [← hw7] at hx hh hb ⊢
  have X7 := Lib.hid hx
  have H7 := Lib.hid hh
  have HB7 := Lib.hid hb
  clear hx hh hb hw7 hnb hlb hfb
  cases hov : (nb && !lb && !fb)
  case true =>
    have HQ : Hid (r = 12 ∧ C' = C) := Lib.hid (by
      have := HP.out
      rw [HCP.out, HMP2.out, if_pos hov, if_pos (by decide)] at this
      exact ⟨(congrArg Prod.fst this).symm, (congrArg Prod.snd this).symm⟩)
    clear hov
    go_wp2
    go_ret
    exact ⟨ret_int HQ.out.1.symm, HOLD.out _ HB7.out HQ.out.2⟩
  case false =>
  have HQ : Hid (r = 0 ∧ C' = C.set k ⟨x.n, x.u, x.b, a⟩) := Lib.hid (by
    have := HP.out
    rw [HCP.out, HMP2.out, hov] at this
    change ((0 : Int), C.set k ⟨x.n, x.u, x.b, a⟩) = (r, C') at this
    exact ⟨(congrArg Prod.fst this).symm, (congrArg Prod.snd this).symm⟩)
  clear hov
  have a0 := Past.blk X7.out (j := 0) rfl
  have a1 := Past.blk X7.out (j := 1) rfl
  have a2 := Past.blk X7.out (j := 2) rfl
  have a3 := Past.blk X7.out (j := 3) rfl
  have b1 := Past.blk H7.out.blk (j := 1) rfl
  go_upto_region 12 with fail
  refine wp_region_past_one rfl (by kernel_rfl) (by kernel_rfl) (by kernel_rfl) ?_
  repeat (go_big_quiet_step (fail))
  refine wpQuiet_nil ?_
  intro _ hw'
  obtain ⟨s9, hw''⟩ := hw'
  subst hw''
  obtain ⟨w8, h9, e9⟩ : ∃ w8, Below w7.heap.size w7 w8 ∧ w8 = s9.val := ⟨_, s9.h, rfl⟩
  rw [← e9]
  have H8 := Lib.hid (H7.out.kept h9)
  have HB8 := Lib.hid (below_and HB7.out h9)
  clear h9 e9 a0 a1 a2 a3 b1
  have HTH : Hid (w8.there q (k * 7 + 3) 4) := Lib.hid (fun j hj => ⟨by rw [own_cell H8.out.ch (j := k * 7 + 3 + j) (List.getElem?_eq_getElem (by rw [rwC_len chC_len]; have := HK.out; omega))]; rfl, own_free H8.out.ch _⟩)
  have HI4 : Hid ((Tryz.prog.info? 34).map (·.size) = some (#[.int .i64 a.c, .int .i64 a.r, .int .i64 a.d, .int .i64 a.p] : Array Value).size) := Lib.hid (by kernel_rfl)
  have HA1 : Hid ((#[.int .i64 a.c, .int .i64 a.r, .int .i64 a.d, .int .i64 a.p] : Array Value).all (·.oneCell') = true) := Lib.hid (one_all (amC_oneq a))
  have HN : Hid (∃ wS, wS = w8.setCells q (k * 7 + 3) (#[.int .i64 a.c, .int .i64 a.r, .int .i64 a.d, .int .i64 a.p] : Array Value).toList ∧ RBk base wS g vG (.slice (some ⟨q, 0, none⟩) C.length cc) S C' ∧ Frp (fun j => (Value.slice (some ⟨q, 0, none⟩) C.length cc).ownBlock = some j) w wS) := Lib.hid ⟨_, rfl, by
    have hne : g ≠ q := fun e => H8.out.n2 (by rw [e]; rfl)
    have hqg : vG.ownBlock ≠ some q := by
      intro hv
      obtain ⟨q2, c2, e2, -, -, hh2⟩ := own_block H8.out.ch (by have := HK.out; omega)
      simp only [Value.slice.injEq, Option.some.injEq, Addr.mk.injEq, and_true] at e2
      obtain ⟨rfl, -⟩ := e2
      exact own_own H8.out.gr H8.out.ch (by decide) hv rfl
    have h1 := own_cells4 H8.out.ch (k * 7 + 3) (by have := HK.out; omega) (.int .i64 a.c) (.int .i64 a.r) (.int .i64 a.d) (.int .i64 a.p)
    rw [rwC_amt HK.out x HXK.out a, ← HQ.out.2] at h1
    have hfr : Frp (fun j => (Value.slice (some ⟨q, 0, none⟩) C.length cc).ownBlock = some j) w8 (w8.setCells q (k * 7 + 3) (#[.int .i64 a.c, .int .i64 a.r, .int .i64 a.d, .int .i64 a.p] : Array Value).toList) := frp_cells (P := fun j => (Value.slice (some ⟨q, 0, none⟩) C.length cc).ownBlock = some j) (k := q) rfl _ _ _ (Frp.refl _ _)
    have hlc : C'.length = C.length := by rw [HQ.out.2, List.length_set]
    refine ⟨Blk.cellsO hne _ _ _ H8.out.blk, own_frp H8.out.gr hfr (fun y hy e => ?_), by rw [hlc]; exact h1, H8.out.n1, H8.out.n2⟩
    simp only [Value.ownBlock, Option.some.injEq] at e
    exact hqg (by rw [e]; exact hy), frp_cells (P := fun j => (Value.slice (some ⟨q, 0, none⟩) C.length cc).ownBlock = some j) (k := q) rfl _ _ _ (Frp.of_below HB8.out _)⟩
  go_wp2_with (refine wpList_store_mid rfl 34 _ _ rfl q (k * 7 + 3) #[.int .i64 a.c, .int .i64 a.r, .int .i64 a.d, .int .i64 a.p] rfl rfl HTH.out HI4.out HA1.out ?_; obtain ⟨wS, hwS, hs1, hs2⟩ := HN.out; rw [← hwS]; have N1 := Lib.hid hs1; have N2 := Lib.hid hs2; clear hwS hs1 hs2)
  go_ret
  exact ⟨ret_int HQ.out.1.symm, N1.out, N2.out⟩
end Go.Proofs.YtmgbailpmcggiaaGreat
