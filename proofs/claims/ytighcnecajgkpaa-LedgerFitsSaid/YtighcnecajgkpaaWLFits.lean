/- The walk of LedgerFits (written by genfits.py). -/
import Derived.Test.YtighcnecajgkpaaLedFits
import Derived.Test.YtighcnecajgkpaaLedActs
import Derived.Test.YtighcnecajgkpaaLin
namespace Go.Proofs.Ytighcnecajgkpaa
open Go.RowKit

theorem fr_drew {S : List Nat} {a w : World} (h : Fr S a w) : Fr S a w.drew := h.draw 1
/-- what a round's region reads -/
def S11 (ab o k g : Nat) (x : Ac) (z : Am) (w' : World) : Prop := w'.cell? ⟨ab, o + k * 7, none⟩ = some (.int .i64 x.k) ∧ w'.cell? ⟨ab, o + k * 7 + 1, none⟩ = some (.string x.s) ∧ w'.cell? ⟨ab, o + k * 7 + 2, none⟩ = some (.string x.t) ∧ w'.cell? ⟨ab, o + k * 7 + 3, none⟩ = some (.int .i64 x.a.c) ∧ w'.cell? ⟨ab, o + k * 7 + 4, none⟩ = some (.int .i64 x.a.r) ∧ w'.cell? ⟨ab, o + k * 7 + 5, none⟩ = some (.int .i64 x.a.d) ∧ w'.cell? ⟨ab, o + k * 7 + 6, none⟩ = some (.int .i64 x.a.p) ∧ w'.cell? ⟨g, 0, none⟩ = some (.int .i64 z.c) ∧ w'.cell? ⟨g, 1, none⟩ = some (.int .i64 z.r) ∧ w'.cell? ⟨g, 2, none⟩ = some (.int .i64 z.d) ∧ w'.cell? ⟨g, 3, none⟩ = some (.int .i64 z.p)
theorem S11.fr {ab o k g : Nat} {x : Ac} {z : Am} {w w' : World} {S : List Nat} (h : S11 ab o k g x z w) (hab : ab ∉ S) (hg : g ∉ S) (hf : Fr S w w') : S11 ab o k g x z w' :=
  ⟨cell_fr h.1 hf hab, cell_fr h.2.1 hf hab, cell_fr h.2.2.1 hf hab, cell_fr h.2.2.2.1 hf hab, cell_fr h.2.2.2.2.1 hf hab, cell_fr h.2.2.2.2.2.1 hf hab, cell_fr h.2.2.2.2.2.2.1 hf hab, cell_fr h.2.2.2.2.2.2.2.1 hf hg, cell_fr h.2.2.2.2.2.2.2.2.1 hf hg, cell_fr h.2.2.2.2.2.2.2.2.2.1 hf hg, cell_fr h.2.2.2.2.2.2.2.2.2.2 hf hg⟩
theorem Inv.freeAll {cap : Am} {L : List Ent} (hI : Inv cap L) : ∃ z : Am, ∀ (b mb : Nat) (w : World), Led w b mb cap L → Calls Try.prog 13 #[ptr b] w fun e w' => e = .returned (.agg #[.int .i64 z.c, .int .i64 z.r, .int .i64 z.d, .int .i64 z.p]) ∧ Below w.heap.size w w' := by
  obtain ⟨z, hz, hzo, hzs⟩ := hI.free
  exact ⟨z, fun b mb w h => free_made b mb cap L w h hI.rise.apart hI.oks (hI.fit2 _ _) z 0 (by rw [inB_nil hI]; exact hz)⟩

set_option maxRecDepth 100000 in
set_option maxHeartbeats 2000000 in
theorem ledgerFits_go (cap : Am) (v : Value) (l : List Ac) (w : World) (h : Acts w v l) :
    Calls Try.prog 6 #[amV cap, v] w fun e w' => e = .returned (.bool true) ∧ Below w.heap.size w w' := by
  obtain ⟨p, c, rfl, hlc, hcm⟩ := h.shape
  have hml : maxLen ≤ 9223372036854775807 := by decide
  obtain ⟨w1, hw1⟩ : ∃ w1, w1 = w.alloc (.cells #[.int .i64 cap.c, .int .i64 cap.r, .int .i64 cap.d, .int .i64 cap.p] 28) := ⟨_, rfl⟩
  obtain ⟨B, hB⟩ : ∃ B, B = w.heap.size := ⟨_, rfl⟩
  have S0 : Hid (Blk w1 B (amC cap) 28) := Lib.hid (by rw [hw1, hB]; exact Blk.made w (amC cap) _)
  have HB1 : Hid (Below w.heap.size w w1) := Lib.hid (by rw [hw1]; exact below_alloc w _)
  have H := Lib.hid h
  have HABV : Hid (∀ b o, p = some ⟨b, o, none⟩ → 0 < l.length → b < w.heap.size) := Lib.hid (fun b o hp hl => by
    obtain ⟨b', o', hp', hc⟩ := h.at hl
    rw [hp] at hp'
    cases hp'
    exact World.block_lt_of_cell? w _ (hc 0 _ (by omega) rfl))
  clear h
  cases hc : cap.okB
  · have HC := Lib.hid hc
    clear hc
    go_enter Try.func6, Try.ntmps6
    go_upto_region 1 with fail
    rw [← hw1, ← hB]
    clear hw1 hB
    go_wp2_with (first
      | (go_at_call 7; refine (llives _).mono ?_; rintro e w2 ⟨rfl, hb⟩; have hbr := S0.out.kept hb; have c0 := hbr.cell (j := 0) rfl; have c1 := hbr.cell (j := 1) rfl; have c2 := hbr.cell (j := 2) rfl; have c3 := hbr.cell (j := 3) rfl; have HB2 := Lib.hid (below_and HB1.out hb); clear hb hbr)
      | (go_at_call 8; refine (lnew_bad cap _ HC.out).mono ?_; rintro e w3 ⟨rfl, hb⟩; have HB3 := Lib.hid (below_and HB2.out hb); clear hb))
    go_ret
    exact ⟨rfl, HB3.out⟩
  have HC := Lib.hid hc
  clear hc
  by_cases hl : 200 < l.length
  · have i1 : (200 : Int) < (l.length : Int) := by omega
    go_enter Try.func6, Try.ntmps6
    go_upto_region 1 with fail
    rw [← hw1, ← hB]
    clear hw1 hB
    go_wp2_with (first
      | (go_at_call 7; refine (llives _).mono ?_; rintro e w2 ⟨rfl, hb⟩; have hbr := S0.out.kept hb; have c0 := hbr.cell (j := 0) rfl; have c1 := hbr.cell (j := 1) rfl; have c2 := hbr.cell (j := 2) rfl; have c3 := hbr.cell (j := 3) rfl; have HB2 := Lib.hid (below_and HB1.out hb); clear hb hbr)
      | (go_at_call 8; refine (lnew_ok cap _ HC.out).mono ?_; rintro e w3 ⟨b, mb, rfl, -, -, -, hb⟩; have HB3 := Lib.hid (below_and HB2.out hb); clear hb))
    go_ret
    exact ⟨rfl, HB3.out⟩
  have HL : Hid (l.length ≤ 200) := Lib.hid (by omega)
  have i1 : ¬ (200 : Int) < (l.length : Int) := by omega
  clear hl
  go_enter Try.func6, Try.ntmps6
  go_upto_region 1 with fail
  rw [← hw1, ← hB]
  clear hw1 hB
  go_upto_region 6 with (first
    | (go_at_call 7; refine (llives _).mono ?_; rintro e w2 ⟨rfl, hb⟩; have hbr := S0.out.kept hb; have c0 := hbr.cell (j := 0) rfl; have c1 := hbr.cell (j := 1) rfl; have c2 := hbr.cell (j := 2) rfl; have c3 := hbr.cell (j := 3) rfl; have HB2 := Lib.hid (below_and HB1.out hb); clear hb hbr)
    | (go_at_call 8; refine (lnew_ok cap _ HC.out).mono ?_; rintro e w3 ⟨b, mb, rfl, hb0, hm0, hled, hb⟩; have HM0 : Hid (w.heap.size ≤ mb) := Lib.hid (Nat.le_trans HB2.out.size hm0); have HB3 := Lib.hid (below_and HB2.out hb); have HLE := Lib.hid hled; clear hb hb0 hm0 hled c0 c1 c2 c3))
  go_wp2
  go_loopw [7] (fun i wr => ∃ (k : Nat) (L : List Ent), k ≤ l.length ∧ i = .int .i64 (k : Int) ∧ Hid (Led wr b mb cap L) ∧ Hid (Inv cap L) ∧ Hid (L.length ≤ k) ∧ Hid (Below w.heap.size w wr)) (fun i _ => l.length - (intOf i).toNat)
  case atStart => exact ⟨0, [], Nat.zero_le _, rfl, HLE, Lib.hid (Inv.nil HC.out), Lib.hid (Nat.zero_le _), HB3⟩
  case round =>
    obtain ⟨k, L, hk, rfl, HR, HI, HLL, HB⟩ := hrel
    by_cases hlt : k < l.length
    · obtain ⟨ab, o, rfl, hcs⟩ := (H.out.below HB.out).at hlt
      obtain ⟨x, hx⟩ : ∃ x, x = l[k] := ⟨_, rfl⟩
      have hxm : x ∈ l := by rw [hx]; exact List.getElem_mem hlt
      have HXS := Lib.hid (H.out.2 x hxm)
      rw [← hx] at hcs
      have HCS := Lib.hid hcs
      have HAB : Hid (ab < w.heap.size) := Lib.hid (HABV.out ab o rfl (by omega))
      obtain ⟨z, hz⟩ := HI.out.freeAll
      have HZ := Lib.hid hz
      have HNM : Hid (∀ e ∈ L, e.n.size ≤ maxLen) := Lib.hid (fun e he => by have := (HI.out.nm e he).2; unfold maxLen; omega)
      have HLN : Hid (L.length ≤ 100000) := Lib.hid (by have := HLL.out; have := HL.out; omega)
      have i2 : (k : Int) < (l.length : Int) := by omega
      have HI2 := Lib.hid (HI.out.step x.k x.s x.t x.a)
      have HL2 : Hid ((stepP cap L x.k x.s x.t x.a).2.length ≤ k + 1) := Lib.hid (by have := step_len cap L x.k x.s x.t x.a; have := HLL.out; omega)
      clear hcs hx hxm hz
      go_upto_region 10 with (first
        | (go_at_call 24; refine (entries_made b mb cap L _ HR.out HI.out.rise HNM.out HLN.out).mono ?_; rintro e w3 ⟨v8, rfl, ho, hb⟩; have HO := Lib.hid ho; have HBE := Lib.hid hb; have HRE := Lib.hid (HR.out.kept hb); clear ho hb)
        | (go_at_call 13; refine (HZ.out b mb _ HRE.out).mono ?_; rintro e w4 ⟨rfl, hb⟩; have HBF := Lib.hid (below_and HBE.out hb); have HO4 := Lib.hid (own_fr HO.out (Fr.of_below hb []) (fun _ _ => by simp)); have HRF := Lib.hid (HRE.out.kept hb); clear hb))
      obtain ⟨w5, hw5⟩ : ∃ w5, w5 = w4.alloc (.cells #[.int .i64 z.c, .int .i64 z.r, .int .i64 z.d, .int .i64 z.p] 28) := ⟨_, rfl⟩
      obtain ⟨g, hg⟩ : ∃ g, g = w4.heap.size := ⟨_, rfl⟩
      have hbb : Below w4.heap.size w4 w5 := by rw [hw5]; exact below_alloc _ _
      have hgz : Blk w5 g (amC z) 28 := by rw [hw5, hg]; exact Blk.made w4 (amC z) _
      have HB5 : Hid (Below w.heap.size w w5) := Lib.hid (below_and HB.out (below_and HBF.out hbb))
      have HR5 := Lib.hid (HRF.out.kept hbb)
      have HO5 : Hid (w5.ownsRow wr.heap.size 48 6 v8 L.length (entsC L)) := Lib.hid (own_fr HO4.out (Fr.of_below hbb []) (fun _ _ => by simp))
      have HE : Hid (S11 ab o k g x z w5) := Lib.hid (by
        have hcs2 : ∀ j u, j < 7 → (x.c)[j]? = some u → w5.cell? ⟨ab, o + k * 7 + j, none⟩ = some u := fun j u hj hu => cell_kept (HCS.out j u hj hu) (below_and HBF.out hbb)
        exact ⟨hcs2 0 _ (by omega) rfl, hcs2 1 _ (by omega) rfl, hcs2 2 _ (by omega) rfl, hcs2 3 _ (by omega) rfl, hcs2 4 _ (by omega) rfl, hcs2 5 _ (by omega) rfl, hcs2 6 _ (by omega) rfl, hgz.cell (j := 0) rfl, hgz.cell (j := 1) rfl, hgz.cell (j := 2) rfl, hgz.cell (j := 3) rfl⟩)
      have HNA : Hid (ab ∉ [mb]) := Lib.hid (by have := HAB.out; have := HM0.out; simp; omega)
      have HMB : Hid (mb < wr.heap.size) := Lib.hid HR.out.map.lt
      have HNG : Hid (g ∉ [mb]) := Lib.hid (by have h1 := HMB.out; have h2 := HBF.out.size; simp; omega)
      have HNO : Hid (∀ q, v8.ownBlock = some q → q ∉ [mb]) := Lib.hid (fun q hq => by have h1 := own_base HO5.out hq; have h2 := HMB.out; simp; omega)
      rw [← hw5, ← hg]
      clear hw5 hg hbb hgz HO HBE HRE HO4 HRF
      have HST : Hid (∀ w', Led w' b mb cap L → Calls Try.prog 16 #[ptr b, .agg #[.int .i64 x.k, .string x.s, .string x.t, .int .i64 x.a.c, .int .i64 x.a.r, .int .i64 x.a.d, .int .i64 x.a.p]] w' fun e w2 => e = .returned (.int .i64 (stepP cap L x.k x.s x.t x.a).1) ∧ Led w2 b mb cap (stepP cap L x.k x.s x.t x.a).2 ∧ Fr [mb] w' w2) :=
        Lib.hid (fun w' h' => step_all b mb cap L x.k x.s x.t x.a w' h' HI.out HXS.out.1 HXS.out.2 HLN.out)
      have HERR : Hid ((stepP cap L x.k x.s x.t x.a).1 ≠ 0 → (stepP cap L x.k x.s x.t x.a).2 = L) := Lib.hid (fun he => step_err cap L x.k x.s x.t x.a he)
      obtain ⟨er, L2, hs⟩ : ∃ er L2, stepP cap L x.k x.s x.t x.a = (er, L2) := ⟨_, _, rfl⟩
      rw [hs] at HST HERR HI2 HL2
      clear hs
      have HST2 : Hid (∀ w', Led w' b mb cap L → Calls Try.prog 16 #[ptr b, .agg #[.int .i64 x.k, .string x.s, .string x.t, .int .i64 x.a.c, .int .i64 x.a.r, .int .i64 x.a.d, .int .i64 x.a.p]] w' fun e w2 => e = .returned (.int .i64 er) ∧ Led w2 b mb cap L2 ∧ Fr [mb] w' w2) := HST
      clear HST
      have HST := HST2
      clear HST2
      by_cases her : er = 0
      · subst her
        have HLN2 : Hid (L2.length ≤ 100000) := Lib.hid (by have h2 : L2.length ≤ k + 1 := HL2.out; have h3 := HL.out; omega)
        obtain ⟨g0, g1, g2, g3, g4, g5, g6, -⟩ := HE.out
        go_wp2
        refine wp_region_dead (f1 := #[true, true, true, true, true, true, true, true, false, false, false, false, false, false, false, false, false, false, false, false]) (f2 := #[true, true, true, true, true, true, true, true, true, true, true, true, true, true, true, true, true, true, true, false]) [0, 1, 2, 3, 4, 5, 6, 7] [8, 9, 10, 11, 12, 13, 14, 15, 16, 17, 18] [19] (by kernel_rfl) (by kernel_rfl) (by kernel_rfl) (by kernel_rfl) (by kernel_rfl) (by kernel_rfl) rfl rfl rfl ?_
        go_wp2_with (go_at_call 16; refine (HST.out _ (by refine HR5.out.kept ?_; (repeat (first | with_reducible exact Below.refl _ _ | apply bl_drew | with_reducible (refine below_and ?_ (below_alloc _ _)))))).mono ?_; rintro e w6 ⟨rfl, hl6, hf⟩; have F6 : Hid (Fr [mb] w5 w6) := Lib.hid (Fr.then (by (repeat (first | with_reducible exact Fr.refl _ _ | with_reducible exact F6.out | with_reducible exact F7.out | with_reducible exact F8.out | with_reducible exact F9.out | apply fr_drew | with_reducible (refine Fr.alloc ?_ _)))) hf); have H6 := Lib.hid hl6; clear hl6 hf)
        refine DeadQ.start ?_
        repeat (refine wpDead.cons (by kernel_rfl) ?_; simp only [Act.put, List.setIfInBounds_toArray, List.set_cons_zero, List.set_cons_succ])
        refine wpDead.nil ?_
        go_wp2
        refine Strict.normal ?_
        all_goals go_wp2_with (go_at_call 27; refine (lawfits_any b mb cap L2 _ (by exact H6.out) HI2.out HLN2.out).mono ?_; rintro e w7 ⟨rfl, hb⟩; have H7 := Lib.hid (H6.out.kept hb); have HB7 : Hid (Below w.heap.size w w7) := Lib.hid (below_and (HB5.out.trans (F6.out.below (fun y hy => by rw [List.mem_singleton.1 hy]; exact HM0.out) HB5.out.size)) hb); clear hb)
        all_goals go_roundw
        case rel => exact ⟨k + 1, L2, hlt, by go_num, H7, HI2, HL2, HB7⟩
        case measure => simp [intOf]; omega
      · have t1 : (er != 0) = true := by simpa using her
        have hL2 : L2 = L := HERR.out her
        subst hL2
        clear her
        go_wp2
        go_region_held3 (fun w' => w'.cell? ⟨ab, o + k * 7, none⟩ = some (.int .i64 x.k) ∧ w'.cell? ⟨ab, o + k * 7 + 1, none⟩ = some (.string x.s) ∧ w'.cell? ⟨ab, o + k * 7 + 2, none⟩ = some (.string x.t) ∧ w'.cell? ⟨ab, o + k * 7 + 3, none⟩ = some (.int .i64 x.a.c) ∧ w'.cell? ⟨ab, o + k * 7 + 4, none⟩ = some (.int .i64 x.a.r) ∧ w'.cell? ⟨ab, o + k * 7 + 5, none⟩ = some (.int .i64 x.a.d) ∧ w'.cell? ⟨ab, o + k * 7 + 6, none⟩ = some (.int .i64 x.a.p) ∧ w'.cell? ⟨g, 0, none⟩ = some (.int .i64 z.c) ∧ w'.cell? ⟨g, 1, none⟩ = some (.int .i64 z.r) ∧ w'.cell? ⟨g, 2, none⟩ = some (.int .i64 z.d) ∧ w'.cell? ⟨g, 3, none⟩ = some (.int .i64 z.p))
          (refine HE.out.fr HNA.out HNG.out ?_ <;> (repeat (first | with_reducible exact Fr.refl _ _ | with_reducible exact F6.out | with_reducible exact F7.out | with_reducible exact F8.out | with_reducible exact F9.out | apply fr_drew | with_reducible (refine Fr.alloc ?_ _))))
          (first
            | (go_at_call 16; refine (HST.out _ (by refine HR5.out.kept ?_; (repeat (first | with_reducible exact Below.refl _ _ | apply bl_drew | with_reducible (refine below_and ?_ (below_alloc _ _)))))).mono ?_; rintro e w6 ⟨rfl, hl6, hf⟩; have F6 : Hid (Fr [mb] w5 w6) := Lib.hid (Fr.then (by (repeat (first | with_reducible exact Fr.refl _ _ | with_reducible exact F6.out | with_reducible exact F7.out | with_reducible exact F8.out | with_reducible exact F9.out | apply fr_drew | with_reducible (refine Fr.alloc ?_ _)))) hf); have H6 := Lib.hid hl6; clear hl6 hf)
            | (go_at_call 24; refine (entries_made b mb cap L2 _ H6.out HI.out.rise HNM.out HLN.out).mono ?_; rintro e w7 ⟨v9, rfl, ho, hb⟩; have F7 : Hid (Fr [mb] w5 w7) := Lib.hid (F6.out.then (Fr.of_below hb [mb])); have H7 := Lib.hid (H6.out.kept hb); have HO7 := Lib.hid ho; clear ho hb)
            | (go_at_call 26; refine (alike_same L2 _ _ v8 _ _ (own_fr HO5.out F7.out HNO.out) HO7.out).mono ?_; rintro e w8 ⟨rfl, hb⟩; have F8 : Hid (Fr [mb] w5 w8) := Lib.hid (F7.out.then (Fr.of_below hb [mb])); have H8 := Lib.hid (H7.out.kept hb); clear hb)
            | (go_at_call 13; refine (HZ.out b mb _ (by refine H8.out.kept ?_; (repeat (first | with_reducible exact Below.refl _ _ | apply bl_drew | with_reducible (refine below_and ?_ (below_alloc _ _)))))).mono ?_; rintro e w9 ⟨rfl, hb⟩; have F9 : Hid (Fr [mb] w5 w9) := Lib.hid (F8.out.then (Fr.of_below (by refine below_and ?_ hb; (repeat (first | with_reducible exact Below.refl _ _ | apply bl_drew | with_reducible (refine below_and ?_ (below_alloc _ _))))) [mb])); have H9 := Lib.hid (H8.out.kept (by refine below_and ?_ hb; (repeat (first | with_reducible exact Below.refl _ _ | apply bl_drew | with_reducible (refine below_and ?_ (below_alloc _ _)))))); clear hb))
        all_goals go_wp2_with (go_at_call 27; refine (lawfits_any b mb cap L2 _ (by refine H9.out.kept ?_; (repeat (first | with_reducible exact Below.refl _ _ | apply bl_drew | with_reducible (refine below_and ?_ (below_alloc _ _))))) HI.out HLN.out).mono ?_; rintro e wf ⟨rfl, hb⟩; have HF := Lib.hid (H9.out.kept (by refine below_and ?_ hb; (repeat (first | with_reducible exact Below.refl _ _ | apply bl_drew | with_reducible (refine below_and ?_ (below_alloc _ _)))))); have HBF2 : Hid (Below w.heap.size w wf) := Lib.hid (below_and (HB5.out.trans (F9.out.below (fun y hy => by rw [List.mem_singleton.1 hy]; exact HM0.out) HB5.out.size)) (by refine below_and ?_ hb; (repeat (first | with_reducible exact Below.refl _ _ | apply bl_drew | with_reducible (refine below_and ?_ (below_alloc _ _)))))); clear hb)
        all_goals go_roundw
        all_goals first
          | exact ⟨k + 1, L2, hlt, by go_num, HF, HI, HL2, HBF2⟩
          | (simp [intOf]; omega)
    · obtain rfl : k = l.length := by omega
      go_wp2
      go_ret
      exact ⟨rfl, HB.out⟩

theorem ledgerFits_walk (cs : List Value) (v : Value) (es : List (List Value)) (w : World) (h : Leaves Try.prog [2, 2, 2, 2] cs) (hr : Row w v 7 es.length es.flatten) (hf : ∀ x ∈ es, Leaves Try.prog [3, 9, 9, 2, 2, 2, 2] x) :
    Calls Try.prog 6 #[.agg cs.toArray, v] w fun e w' => e = .returned (.bool true) ∧ Below w.heap.size w w' := by
  obtain ⟨l, hl⟩ := acts_of hr hf
  match cs, h.1, h.2 with
  | [v0, v1, v2, v3], _, hc =>
    obtain ⟨c, rfl, -⟩ := fieldOk.int (v := v0) (hc 0 _ rfl) Try.underlying2
    obtain ⟨r, rfl, -⟩ := fieldOk.int (v := v1) (hc 1 _ rfl) Try.underlying2
    obtain ⟨d, rfl, -⟩ := fieldOk.int (v := v2) (hc 2 _ rfl) Try.underlying2
    obtain ⟨p, rfl, -⟩ := fieldOk.int (v := v3) (hc 3 _ rfl) Try.underlying2
    exact ledgerFits_go ⟨c, r, d, p⟩ v l w hl
end Go.Proofs.Ytighcnecajgkpaa
