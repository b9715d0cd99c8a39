/- The law's fits on a ledger between calls: it answers true. -/
import Derived.Test.YtighcnecajgkpaaLedAct
import Derived.Test.YtighcnecajgkpaaLedAlike
import Derived.Test.YtighcnecajgkpaaLedFitP
import Derived.Test.YtighcnecajgkpaaRFour
import Derived.Test.YtighcnecajgkpaaLate
import Derived.Test.YtighcnecajgkpaaAdd
import Derived.Deep.DeepCutAuto
namespace Go.Proofs.Ytighcnecajgkpaa
open Go.RowKit

def Eight (b0 o0 b1 o1 : Nat) (a x : Am) (w : World) : Prop := w.cell? ⟨b0, o0, none⟩ = some (.int .i64 a.c) ∧ w.cell? ⟨b0, o0 + 1, none⟩ = some (.int .i64 a.r) ∧ w.cell? ⟨b0, o0 + 2, none⟩ = some (.int .i64 a.d) ∧ w.cell? ⟨b0, o0 + 3, none⟩ = some (.int .i64 a.p) ∧ w.cell? ⟨b1, o1, none⟩ = some (.int .i64 x.c) ∧ w.cell? ⟨b1, o1 + 1, none⟩ = some (.int .i64 x.r) ∧ w.cell? ⟨b1, o1 + 2, none⟩ = some (.int .i64 x.d) ∧ w.cell? ⟨b1, o1 + 3, none⟩ = some (.int .i64 x.p)
theorem Eight.kept {b0 o0 b1 o1 : Nat} {a x : Am} {w w' : World} (h : Eight b0 o0 b1 o1 a x w) (hb : Below w.heap.size w w') : Eight b0 o0 b1 o1 a x w' :=
  ⟨cell_kept h.1 hb, cell_kept h.2.1 hb, cell_kept h.2.2.1 hb, cell_kept h.2.2.2.1 hb, cell_kept h.2.2.2.2.1 hb, cell_kept h.2.2.2.2.2.1 hb, cell_kept h.2.2.2.2.2.2.1 hb, cell_kept h.2.2.2.2.2.2.2 hb⟩
theorem ladd_val (a x z : Am) (er : Int) (w : World) (h : addR a x = (z, er)) :
    Calls Try.prog 44 #[amV a, amV x] w fun e w' => e = .returned (.tuple #[.agg #[.int .i64 z.c, .int .i64 z.r, .int .i64 z.d, .int .i64 z.p], .int .i64 er]) ∧ Below w.heap.size w w' :=
  (add_any a x w).mono fun e w' ⟨h1, h2⟩ => ⟨by rw [h1, h], h2⟩
theorem lcap_lit (b mb : Nat) (cap : Am) (L : List Ent) (w : World) (h : Led w b mb cap L) :
    Calls Try.prog 25 #[ptr b] w fun e w' => e = .returned (.agg #[.int .i64 cap.c, .int .i64 cap.r, .int .i64 cap.d, .int .i64 cap.p]) ∧ Below w.heap.size w w' := lcap_made b mb cap L w h
theorem rchk_zero (x : Am) (w : World) (h : x.okB = true) :
    Calls Try.prog 34 #[.agg #[.int .i64 x.c, .int .i64 x.r, .int .i64 x.d, .int .i64 x.p]] w fun e w' => e = .returned (.int .i64 0) ∧ Below w.heap.size w w' := by
  have := rcheck_any x w
  have hc : x.chk = 0 := by unfold Am.chk; rw [h]; rfl
  rw [hc] at this
  exact this
theorem Inv.leftAll {cap : Am} {L : List Ent} (h : Inv cap L) {x : Ent} (hx : x ∈ L) (hi : x.i.toList = []) : ∃ z : Am, z.okB = true ∧ (∀ j, j < 4 → z.get j + (sumA (inR x.n) L).get j = x.a.get j) ∧
    ∀ (b mb : Nat) (w : World), Led w b mb cap L → Calls Try.prog 10 #[ptr b, .string x.n] w fun e w' => e = .returned (.tuple #[.agg #[.int .i64 z.c, .int .i64 z.r, .int .i64 z.d, .int .i64 z.p], .int .i64 0]) ∧ Below w.heap.size w w' := by
  obtain ⟨z, hz, ho, hs⟩ := h.left hx hi
  refine ⟨z, ho, hs, fun b mb w hl => ?_⟩
  exact left_yes b mb cap L x.n x w hl (by have := (h.nm x hx).2; unfold maxLen; omega) (size_list (h.nm x hx).1) (fnd_of h.rise.apart hx) h.rise.apart h.oks (h.fit2 _ _) z 0 (by rw [inB_nil h]; exact hz)

theorem bel_then {n : Nat} {a b c : World} (h1 : Below n a b) (h2 : Below b.heap.size b c) (hn : n ≤ a.heap.size) : Below n a c := h1.trans (h2.mono (Nat.le_trans hn h1.size))

set_option maxRecDepth 100000 in
set_option maxHeartbeats 2000000 in
theorem lawfits_any (b mb : Nat) (cap : Am) (L : List Ent) (w : World) (h : Led w b mb cap L) (hI : Inv cap L) (hl : L.length ≤ 100000) :
    Calls Try.prog 27 #[ptr b] w fun e w' => e = .returned (.bool true) ∧ Below w.heap.size w w' := by
  obtain ⟨z, hz, hzo, hzs⟩ := hI.free
  have hml : maxLen ≤ 9223372036854775807 := by decide
  have H := Lib.hid h
  have HI := Lib.hid hI
  have HL := Lib.hid hl
  have HZO := Lib.hid hzo
  have HZS := Lib.hid hzs
  have HNM : Hid (∀ e ∈ L, e.n.size ≤ maxLen) := Lib.hid (fun e he => by have := (hI.nm e he).2; unfold maxLen; omega)
  have HFR : Hid (∀ w, Led w b mb cap L → Calls Try.prog 13 #[ptr b] w fun e w' => e = .returned (.agg #[.int .i64 z.c, .int .i64 z.r, .int .i64 z.d, .int .i64 z.p]) ∧ Below w.heap.size w w') :=
    Lib.hid (fun w h => free_made b mb cap L w h hI.rise.apart hI.oks (hI.fit2 _ _) z 0 (by rw [inB_nil hI]; exact hz))
  clear h hI hl hz hzo hzs
  go_enter Try.func27, Try.ntmps27
  go_upto_region 2 with (go_at_call 24; refine (entries_made b mb cap L _ H.out HI.out.rise HNM.out HL.out).mono ?_; rintro e w3 ⟨v, rfl, ho, hb⟩; obtain ⟨p, c, rfl, hc, hm⟩ := own_slice ho; have HO := Lib.hid ho; have HB3 := Lib.hid hb; have H3 := Lib.hid (H.out.kept hb); clear ho hb)
  go_upto_region 3 with (go_at_call 13; refine (HFR.out _ H3.out).mono ?_; rintro e w4 ⟨rfl, hb⟩; have HB4 := Lib.hid (below_and HB3.out hb); have HO4 := Lib.hid (own_fr HO.out (Fr.of_below hb []) (fun _ _ => by simp)); have H4 := Lib.hid (H3.out.kept hb); clear hb)
  obtain ⟨wb, hwb⟩ : ∃ wb, wb = w4.alloc (.cells #[.int .i64 z.c, .int .i64 z.r, .int .i64 z.d, .int .i64 z.p] 28) := ⟨_, rfl⟩
  obtain ⟨g, hg⟩ : ∃ g, g = w4.heap.size := ⟨_, rfl⟩
  rw [← hwb, ← hg]
  have HG : Hid (Blk wb g (amC z) 28) := Lib.hid (by rw [hwb, hg]; exact Blk.made w4 (amC z) _)
  have hbb : Below w4.heap.size w4 wb := by rw [hwb]; exact below_alloc _ _
  have HBB : Hid (Below w.heap.size w wb) := Lib.hid (below_and HB4.out hbb)
  have HOB := Lib.hid (own_fr HO4.out (Fr.of_below hbb []) (fun _ _ => by simp))
  have HB' := Lib.hid (H4.out.kept hbb)
  have HGS : Hid (w4.heap.size ≤ g ∧ w.heap.size ≤ w4.heap.size ∧ w4.heap.size ≤ wb.heap.size) := Lib.hid ⟨by omega, HB4.out.size, hbb.size⟩
  have HKG : Hid (∀ wc : World, Below w4.heap.size wb wc → Led wc b mb cap L ∧ wc.ownsRow w.heap.size 48 6 (.slice p L.length c) L.length (entsC L) ∧ Below w.heap.size w wc) := Lib.hid (fun wc hq => by
    have hw4 : Below w4.heap.size w4 wc := hbb.trans hq
    exact ⟨H4.out.kept hw4, own_fr HO4.out (Fr.of_below hw4 []) (fun _ _ => by simp), below_and HB4.out hw4⟩)
  clear hwb hg hbb HO H3 HB3 HO4 H4 HB4
  go_wp2
  go_loopw [5] (fun i wc => ∃ k : Nat, k ≤ L.length ∧ i = .int .i64 (k : Int) ∧ Hid (Blk wc g (amC (partF (inR ⟨#[]⟩) z L k)) 28) ∧ Hid (Below w4.heap.size wb wc)) (fun i _ => L.length - (intOf i).toNat)
  case atStart => exact ⟨0, Nat.zero_le _, rfl, Lib.hid (by rw [partF_zero]; exact HG.out), Lib.hid (Below.refl _ _)⟩
  case round =>
    obtain ⟨k, hk, rfl, HA, HB⟩ := hrel
    by_cases hlt : k < L.length
    · have HR := Lib.hid (HKG.out _ HB.out)
      obtain ⟨ge, ce, ee, -, -, -⟩ := own_block HR.out.2.1 (by omega)
      simp only [Value.slice.injEq] at ee
      obtain ⟨rfl, -, rfl⟩ := ee
      obtain ⟨x, hx⟩ : ∃ x, x = L[k] := ⟨_, rfl⟩
      have hxm : x ∈ L := by rw [hx]; exact List.getElem_mem hlt
      have e1 : wr.cell? ⟨ge, k * 6 + 1, none⟩ = some (.string x.i) := own_cell HR.out.2.1 (by rw [entsC_at L k hlt 1 (by omega), ← hx]; rfl)
      have i1 : (k : Int) < (L.length : Int) := by omega
      cases hs : x.i.toList.isEmpty
      · have hp : inR ⟨#[]⟩ x = false := by unfold inR; rw [nil_list]; cases hq : x.i.toList with
          | nil => rw [hq] at hs; cases hs
          | cons _ _ => rfl
        have HA2 : Hid (Blk wr g (amC (partF (inR ⟨#[]⟩) z L (k + 1))) 28) := Lib.hid (by rw [partF_skip hlt hx hp]; exact HA.out)
        clear hx hxm hp
        go_wp2
        go_roundw
        case rel => exact ⟨k + 1, hlt, by go_num, HA2, HB⟩
        case measure => simp [intOf]; omega
      · have hi : x.i.toList = [] := List.isEmpty_iff.1 hs
        have hp : inR ⟨#[]⟩ x = true := by unfold inR; rw [nil_list, hi]; rfl
        obtain ⟨z2, hz2o, hz2s, hz2⟩ := HI.out.leftAll hxm hi
        have HZ2O := Lib.hid hz2o
        have HZ2S := Lib.hid hz2s
        have HZ2 := Lib.hid hz2
        have HXO := Lib.hid (HI.out.oks x hxm)
        obtain ⟨a, ha⟩ : ∃ a, a = partF (inR ⟨#[]⟩) z L k := ⟨_, rfl⟩
        obtain ⟨y, hy⟩ : ∃ y, y = partF (inR ⟨#[]⟩) z L (k + 1) := ⟨_, rfl⟩
        have HAD : Hid (addR a x.a = (y, 0)) := Lib.hid (by rw [ha, hy]; exact partF_add HI.out.oks HZO.out HI.out.cok HZS.out hlt hx hp)
        rw [← ha] at HA
        have HY := Lib.hid hy
        have e0 : wr.cell? ⟨ge, k * 6, none⟩ = some (.string x.n) := own_cell HR.out.2.1 (by rw [show k * 6 = k * 6 + 0 from rfl, entsC_at L k hlt 0 (by omega), ← hx]; rfl)
        have E0 := Lib.hid e0
        have hee : ∀ j u, j < 4 → (amC x.a)[j]? = some u → wr.cell? ⟨ge, k * 6 + 2 + j, none⟩ = some u := fun j u hj hu => own_cell HR.out.2.1 (by rw [show k * 6 + 2 + j = k * 6 + (2 + j) from by omega, entsC_at L k hlt (2 + j) (by omega), ← hx]; obtain rfl | rfl | rfl | rfl : j = 0 ∨ j = 1 ∨ j = 2 ∨ j = 3 := (by omega); all_goals exact hu)
        have HEE := Lib.hid hee
        have HE : Hid (Eight g 0 ge (k * 6 + 2) a x.a wr) := Lib.hid ⟨HA.out.cell (j := 0) rfl, HA.out.cell (j := 1) rfl, HA.out.cell (j := 2) rfl, HA.out.cell (j := 3) rfl, hee 0 _ (by omega) rfl, hee 1 _ (by omega) rfl, hee 2 _ (by omega) rfl, hee 3 _ (by omega) rfl⟩
        have HX := Lib.hid hx
        clear hx hxm hp ha hy e0 hee hi hz2o hz2s hz2
        go_wp2
        go_cut [6, 7] (fun s6 s7 wx => ∃ q, s6 = ptr q ∧ s7 = .int .i64 0 ∧ wr.heap.size ≤ q ∧ Blk wx q (amC y) 28 ∧ Below wr.heap.size wr wx)
        case first =>
          go_region_held3 (fun w' => w'.cell? ⟨g, 0, none⟩ = some (.int .i64 a.c) ∧ w'.cell? ⟨g, 1, none⟩ = some (.int .i64 a.r) ∧ w'.cell? ⟨g, 2, none⟩ = some (.int .i64 a.d) ∧ w'.cell? ⟨g, 3, none⟩ = some (.int .i64 a.p) ∧ w'.cell? ⟨ge, k * 6 + 2, none⟩ = some (.int .i64 x.a.c) ∧ w'.cell? ⟨ge, k * 6 + 2 + 1, none⟩ = some (.int .i64 x.a.r) ∧ w'.cell? ⟨ge, k * 6 + 2 + 2, none⟩ = some (.int .i64 x.a.d) ∧ w'.cell? ⟨ge, k * 6 + 2 + 3, none⟩ = some (.int .i64 x.a.p))
            (refine HE.out.kept ?_ <;> (repeat (first | with_reducible (refine bel_set4 ?_ (Nat.le_refl _)) | with_reducible (refine below_and ?_ (below_alloc _ _)) | with_reducible exact HB6.out | with_reducible exact Below.refl _ _ | apply bl_drew)))
            (first | (go_at_call 44; refine (ladd_val a x.a y 0 _ HAD.out).mono ?_; rintro e w6 ⟨rfl, hb⟩; have HB6 : Hid (Below wr.heap.size wr w6) := Lib.hid (by refine below_and ?_ hb; (repeat (first | with_reducible exact Below.refl _ _ | apply bl_drew | with_reducible (refine below_and ?_ (below_alloc _ _))))); (first | (have hq : Blk w6 wr.heap.size (amC .zero) 28 := (Blk.made wr.drew (amC .zero) 28).kept hb; have HQ6 := Lib.hid hq; have q0 := hq.cell (j := 0) rfl; have q1 := hq.cell (j := 1) rfl; have q2 := hq.cell (j := 2) rfl; have q3 := hq.cell (j := 3) rfl; have p0 := hq.free 0; have p1 := hq.free 1; have p2 := hq.free 2; have p3 := hq.free 3; clear hq) | skip); clear hb))
          all_goals go_wp2_with fail
          all_goals go_meet
          all_goals first
            | (refine ⟨_, rfl, rfl, Nat.le_refl _, ?_, ?_⟩
               · exact (((HQ6.out.set 0 (.int .i64 y.c)).set 1 (.int .i64 y.r)).set 2 (.int .i64 y.d)).set 3 (.int .i64 y.p)
               · exact bel_set4 HB6.out (Nat.le_refl _))
            | (refine ⟨_, rfl, rfl, HB6.out.size, ?_, ?_⟩
               · exact Blk.made w6 (amC y) _
               · exact below_and HB6.out (below_alloc _ _))
            | trace_state
        case rest =>
        obtain ⟨q, rfl, rfl, hq, hbq, hb⟩ := hcut
        have HQ0 := Lib.hid hq
        have HBX : Hid (Below wr.heap.size wr wc) := Lib.hid hb
        have z0 := hbq.cell (j := 0) rfl
        have z1 := hbq.cell (j := 1) rfl
        have z2c := hbq.cell (j := 2) rfl
        have z3 := hbq.cell (j := 3) rfl
        have hg6 := HA.out.kept hb
        have HG6 := Lib.hid hg6
        have r0 := hg6.cell (j := 0) rfl
        have r1 := hg6.cell (j := 1) rfl
        have r2 := hg6.cell (j := 2) rfl
        have r3 := hg6.cell (j := 3) rfl
        have f0 := hg6.free 0
        have f1 := hg6.free 1
        have f2 := hg6.free 2
        have f3 := hg6.free 3
        clear hq hbq hb hg6
        go_upto_region 11 with fail
        obtain ⟨wz, hwz⟩ : ∃ wz, wz = (((wc.setCell ⟨g, 0, none⟩ (.int .i64 y.c)).setCell ⟨g, 1, none⟩ (.int .i64 y.r)).setCell ⟨g, 2, none⟩ (.int .i64 y.d)).setCell ⟨g, 3, none⟩ (.int .i64 y.p) := ⟨_, rfl⟩
        have HZG : Hid (Blk wz g (amC y) 28) := Lib.hid (by rw [hwz]; exact (((HG6.out.set 0 (.int .i64 y.c)).set 1 (.int .i64 y.r)).set 2 (.int .i64 y.d)).set 3 (.int .i64 y.p))
        have HBZ : Hid (Below w4.heap.size wb wz) := Lib.hid (by rw [hwz]; exact bel_set4 (bel_then HB.out HBX.out HGS.out.2.2) HGS.out.1)
        have HRZ := Lib.hid (HKG.out _ HBZ.out)
        have e0z : wz.cell? ⟨ge, k * 6, none⟩ = some (.string x.n) := own_cell HRZ.out.2.1 (by rw [show k * 6 = k * 6 + 0 from rfl, entsC_at L k hlt 0 (by omega), ← HX.out]; rfl)
        rw [← hwz]
        clear hwz HG6 z0 z1 z2c z3 r0 r1 r2 r3 f0 f1 f2 f3
        go_upto_region 12 with (go_at_call 10; refine (HZ2.out b mb _ HRZ.out.1).mono ?_; rintro e w6 ⟨rfl, hb⟩; have HB6 := Lib.hid hb; clear hb)
        obtain ⟨wt, hwt⟩ : ∃ wt, wt = w6.alloc (.cells #[.int .i64 z2.c, .int .i64 z2.r, .int .i64 z2.d, .int .i64 z2.p] 28) := ⟨_, rfl⟩
        obtain ⟨q2, hq2⟩ : ∃ q2, q2 = w6.heap.size := ⟨_, rfl⟩
        have HQ2 : Hid (wz.heap.size ≤ q2) := Lib.hid (by rw [hq2]; exact HB6.out.size)
        have hb : Below wz.heap.size wz wt := by rw [hwt]; exact below_and HB6.out (below_alloc _ _)
        have HT : Hid (Blk wt q2 (amC z2) 28) := Lib.hid (by rw [hwt, hq2]; exact Blk.made w6 (amC z2) _)
        have HBT := Lib.hid (bel_then HBZ.out hb HGS.out.2.2)
        have HZGT := Lib.hid (HZG.out.kept hb)
        have HZT := Lib.hid hb.size
        rw [← hwt, ← hq2]
        clear hwt hq2 hb e0z
        go_wp2
        go_loopw [7, 9] (fun s7 s9 wm => ∃ m : Nat, m ≤ L.length ∧ s7 = .int .i64 0 ∧ s9 = .int .i64 (m : Int) ∧ Hid (Blk wm q2 (amC (partF (inR x.n) z2 L m)) 28) ∧ Hid (Below wz.heap.size wt wm)) (fun _ s9 _ => L.length - (intOf s9).toNat)
        case atStart => exact ⟨0, Nat.zero_le _, rfl, rfl, Lib.hid (by rw [partF_zero]; exact HT.out), Lib.hid (Below.refl _ _)⟩
        case round =>
          obtain ⟨m, hmm, rfl, rfl, HM, HBM⟩ := hrel
          by_cases hlm : m < L.length
          · have hb9 := HBT.out.trans (HBM.out.mono (Nat.le_trans HGS.out.2.2 HBZ.out.size))
            have HBMW := Lib.hid hb9
            have HRM := Lib.hid (HKG.out _ hb9)
            obtain ⟨y2, hy2⟩ : ∃ y2, y2 = L[m] := ⟨_, rfl⟩
            have hym : y2 ∈ L := by rw [hy2]; exact List.getElem_mem hlm
            have i2 : (m : Int) < (L.length : Int) := by omega
            have a0 : ∀ s : Past wr, s.val.cell? ⟨ge, k * 6, none⟩ = some (.string x.n) := Past.cell (own_cell HRM.out.2.1 (by rw [show k * 6 = k * 6 + 0 from rfl, entsC_at L k hlt 0 (by omega), ← HX.out]; rfl))
            have a1 : ∀ s : Past wr, s.val.cell? ⟨ge, m * 6 + 1, none⟩ = some (.string y2.i) := Past.cell (own_cell HRM.out.2.1 (by rw [entsC_at L m hlm 1 (by omega), ← hy2]; rfl))
            have hff : ∀ j u, j < 4 → (amC y2.a)[j]? = some u → wr.cell? ⟨ge, m * 6 + 2 + j, none⟩ = some u := fun j u hj hu => own_cell HRM.out.2.1 (by rw [show m * 6 + 2 + j = m * 6 + (2 + j) from by omega, entsC_at L m hlm (2 + j) (by omega), ← hy2]; obtain rfl | rfl | rfl | rfl : j = 0 ∨ j = 1 ∨ j = 2 ∨ j = 3 := (by omega); all_goals exact hu)
            have HFF := Lib.hid hff
            cases hq : (y2.i.toList == x.n.toList)
            · have HM2 : Hid (Blk wr q2 (amC (partF (inR x.n) z2 L (m + 1))) 28) := Lib.hid (by rw [partF_skip hlm hy2 (by unfold inR; exact hq)]; exact HM.out)
              clear hy2 hym hff hb9
              go_wp2
              refine wp_region_past (by kernel_rfl) (by kernel_rfl) ?_
              repeat (go_big_quiet_step (fail))
              refine wpQuiet_nil ?_
              intro _ hw'
              obtain ⟨s9, hw''⟩ := hw'
              subst hw''
              obtain ⟨w9, h9, e9⟩ : ∃ w9, Below wr.heap.size wr w9 ∧ w9 = s9.val := ⟨_, s9.h, rfl⟩
              rw [← e9]
              have HM9 := Lib.hid (HM2.out.kept h9)
              have HB9 : Hid (Below wz.heap.size wt w9) := Lib.hid (bel_then HBM.out h9 HZT.out)
              clear h9 e9 a0 a1
              go_wp2
              go_roundw
              case rel => exact ⟨m + 1, hlm, rfl, by go_num, HM9, HB9⟩
              case measure => simp [intOf]; omega
            · obtain ⟨n2, hn2⟩ : ∃ n2, n2 = partF (inR x.n) z2 L (m + 1) := ⟨_, rfl⟩
              obtain ⟨a2, ha2⟩ : ∃ a2, a2 = partF (inR x.n) z2 L m := ⟨_, rfl⟩
              have HAD2 : Hid (addR a2 y2.a = (n2, 0)) := Lib.hid (by rw [ha2, hn2]; exact partF_add HI.out.oks HZ2O.out HXO.out HZ2S.out hlm hy2 (by unfold inR; exact hq))
              rw [← ha2] at HM
              have HN2 := Lib.hid hn2
              clear hy2 hym hff hb9 hn2 ha2
              go_wp2
              refine wp_region_past (by kernel_rfl) (by kernel_rfl) ?_
              repeat (go_big_quiet_step (fail))
              refine wpQuiet_nil ?_
              intro _ hw'
              obtain ⟨s9, hw''⟩ := hw'
              subst hw''
              obtain ⟨w9, h9, e9⟩ : ∃ w9, Below wr.heap.size wr w9 ∧ w9 = s9.val := ⟨_, s9.h, rfl⟩
              rw [← e9]
              have HM9 := Lib.hid (HM.out.kept h9)
              have HB9 : Hid (Below wz.heap.size wt w9) := Lib.hid (bel_then HBM.out h9 HZT.out)
              have c0 : ∀ s : Past w9, s.val.cell? ⟨ge, m * 6 + 2, none⟩ = some (.int .i64 y2.a.c) := Past.cell (cell_kept (HFF.out 0 _ (by omega) rfl) h9)
              have c1 : ∀ s : Past w9, s.val.cell? ⟨ge, m * 6 + 2 + 1, none⟩ = some (.int .i64 y2.a.r) := Past.cell (cell_kept (HFF.out 1 _ (by omega) rfl) h9)
              have c2 : ∀ s : Past w9, s.val.cell? ⟨ge, m * 6 + 2 + 2, none⟩ = some (.int .i64 y2.a.d) := Past.cell (cell_kept (HFF.out 2 _ (by omega) rfl) h9)
              have c3 : ∀ s : Past w9, s.val.cell? ⟨ge, m * 6 + 2 + 3, none⟩ = some (.int .i64 y2.a.p) := Past.cell (cell_kept (HFF.out 3 _ (by omega) rfl) h9)
              have d0 : ∀ s : Past w9, s.val.cell? ⟨q2, 0, none⟩ = some (.int .i64 a2.c) := Past.blk HM9.out (j := 0) rfl
              have d1 : ∀ s : Past w9, s.val.cell? ⟨q2, 1, none⟩ = some (.int .i64 a2.r) := Past.blk HM9.out (j := 1) rfl
              have d2 : ∀ s : Past w9, s.val.cell? ⟨q2, 2, none⟩ = some (.int .i64 a2.d) := Past.blk HM9.out (j := 2) rfl
              have d3 : ∀ s : Past w9, s.val.cell? ⟨q2, 3, none⟩ = some (.int .i64 a2.p) := Past.blk HM9.out (j := 3) rfl
              clear h9 e9 a0 a1
              go_wp2
              refine wp_region_late2 rfl (by kernel_rfl) (by kernel_rfl) (by kernel_rfl) (by kernel_rfl) (by kernel_rfl) (by kernel_rfl) ?_
              repeat (go_big_quiet_step (first | (go_at_call 44; exact past_call (ladd_val a2 y2.a n2 0 _ HAD2.out))))
              refine wpQuiet_nil ?_
              intro _ hw'
              obtain ⟨s9, hw''⟩ := hw'
              subst hw''
              obtain ⟨w10, h10, e10⟩ : ∃ w10, Below w9.heap.size w9 w10 ∧ w10 = s9.val := ⟨_, s9.h, rfl⟩
              rw [← e10]
              have hm10 := HM9.out.kept h10
              have HM10 := Lib.hid hm10
              have HB10 : Hid (Below wz.heap.size wt w10) := Lib.hid (bel_then HB9.out h10 HZT.out)
              have r0 := hm10.cell (j := 0) rfl
              have r1 := hm10.cell (j := 1) rfl
              have r2 := hm10.cell (j := 2) rfl
              have r3 := hm10.cell (j := 3) rfl
              have f0 := hm10.free 0
              have f1 := hm10.free 1
              have f2 := hm10.free 2
              have f3 := hm10.free 3
              clear h10 e10 hm10 c0 c1 c2 c3 d0 d1 d2 d3
              go_wp2
              refine NoPanic.normal ?_
              go_wp2
              go_roundw
              case rel => exact ⟨m + 1, hlm, rfl, by go_num, Lib.hid (by rw [← HN2.out]; exact (((HM10.out.set 0 (.int .i64 n2.c)).set 1 (.int .i64 n2.r)).set 2 (.int .i64 n2.d)).set 3 (.int .i64 n2.p)), Lib.hid (bel_set4 HB10.out HQ2.out)⟩
              case measure => simp [intOf]; omega
          · obtain rfl : m = L.length := by omega
            have hb9 := HBT.out.trans (HBM.out.mono (Nat.le_trans HGS.out.2.2 HBZ.out.size))
            have HBMW := Lib.hid hb9
            have HRM := Lib.hid (HKG.out _ hb9)
            have hmx : Blk wr q2 (amC x.a) 28 := by have := HM.out; rw [partF_end HZ2S.out] at this; exact this
            have HGX : Hid (Blk wr g (amC (partF (inR ⟨#[]⟩) z L (k + 1))) 28) := Lib.hid (by rw [← HY.out]; exact HZGT.out.below HBM.out HZG.out.lt)
            have hff : ∀ j u, j < 4 → (amC x.a)[j]? = some u → wr.cell? ⟨ge, k * 6 + 2 + j, none⟩ = some u := fun j u hj hu => own_cell HRM.out.2.1 (by rw [show k * 6 + 2 + j = k * 6 + (2 + j) from by omega, entsC_at L k hlt (2 + j) (by omega), ← HX.out]; obtain rfl | rfl | rfl | rfl : j = 0 ∨ j = 1 ∨ j = 2 ∨ j = 3 := (by omega); all_goals exact hu)
            have c0 : ∀ s : Past wr, s.val.cell? ⟨ge, k * 6 + 2, none⟩ = some (.int .i64 x.a.c) := Past.cell (hff 0 _ (by omega) rfl)
            have c1 : ∀ s : Past wr, s.val.cell? ⟨ge, k * 6 + 2 + 1, none⟩ = some (.int .i64 x.a.r) := Past.cell (hff 1 _ (by omega) rfl)
            have c2 : ∀ s : Past wr, s.val.cell? ⟨ge, k * 6 + 2 + 2, none⟩ = some (.int .i64 x.a.d) := Past.cell (hff 2 _ (by omega) rfl)
            have c3 : ∀ s : Past wr, s.val.cell? ⟨ge, k * 6 + 2 + 3, none⟩ = some (.int .i64 x.a.p) := Past.cell (hff 3 _ (by omega) rfl)
            have d0 : ∀ s : Past wr, s.val.cell? ⟨q2, 0, none⟩ = some (.int .i64 x.a.c) := Past.blk hmx (j := 0) rfl
            have d1 : ∀ s : Past wr, s.val.cell? ⟨q2, 1, none⟩ = some (.int .i64 x.a.r) := Past.blk hmx (j := 1) rfl
            have d2 : ∀ s : Past wr, s.val.cell? ⟨q2, 2, none⟩ = some (.int .i64 x.a.d) := Past.blk hmx (j := 2) rfl
            have d3 : ∀ s : Past wr, s.val.cell? ⟨q2, 3, none⟩ = some (.int .i64 x.a.p) := Past.blk hmx (j := 3) rfl
            clear hb9 hff hmx
            go_wp2
            refine wp_region_past (by kernel_rfl) (by kernel_rfl) ?_
            repeat (go_big_quiet_step (fail))
            refine wpQuiet_nil ?_
            intro _ hw'
            obtain ⟨s9, hw''⟩ := hw'
            subst hw''
            obtain ⟨w9, h9, e9⟩ : ∃ w9, Below wr.heap.size wr w9 ∧ w9 = s9.val := ⟨_, s9.h, rfl⟩
            rw [← e9]
            have HG9 := Lib.hid (HGX.out.kept h9)
            have HB9 := Lib.hid (bel_then HBMW.out h9 HGS.out.2.2)
            clear h9 e9 c0 c1 c2 c3 d0 d1 d2 d3
            go_wp2
            go_roundw
            case rel => exact ⟨k + 1, hlt, by go_num, HG9, HB9⟩
            case measure => simp [intOf]; omega
    · obtain rfl : k = L.length := by omega
      have HR := Lib.hid (HKG.out _ HB.out)
      have hgx : Blk wr g (amC cap) 28 := by have := HA.out; rw [partF_end HZS.out] at this; exact this
      have d0 : ∀ s : Past wr, s.val.cell? ⟨g, 0, none⟩ = some (.int .i64 cap.c) := Past.blk hgx (j := 0) rfl
      have d1 : ∀ s : Past wr, s.val.cell? ⟨g, 1, none⟩ = some (.int .i64 cap.r) := Past.blk hgx (j := 1) rfl
      have d2 : ∀ s : Past wr, s.val.cell? ⟨g, 2, none⟩ = some (.int .i64 cap.d) := Past.blk hgx (j := 2) rfl
      have d3 : ∀ s : Past wr, s.val.cell? ⟨g, 3, none⟩ = some (.int .i64 cap.p) := Past.blk hgx (j := 3) rfl
      clear hgx
      go_wp2
      refine wp_region_past (by kernel_rfl) (by kernel_rfl) ?_
      repeat (go_big_quiet_step (first
        | (go_at_call 25; exact past_call (lcap_lit b mb cap L _ (HR.out.1.kept (Past.h _))))
        | (go_at_call 13; exact past_call (HFR.out _ (HR.out.1.kept (Past.h _))))
        | (go_at_call 34; exact past_call (rchk_zero z _ HZO.out))))
      refine wpQuiet_nil ?_
      intro _ hw'
      obtain ⟨s9, hw''⟩ := hw'
      subst hw''
      obtain ⟨w9, h9, e9⟩ : ∃ w9, Below wr.heap.size wr w9 ∧ w9 = s9.val := ⟨_, s9.h, rfl⟩
      rw [← e9]
      have HB9 := Lib.hid (below_and HR.out.2.2 h9)
      clear h9 e9 d0 d1 d2 d3
      go_wp2
      go_ret
      exact ⟨rfl, HB9.out⟩
end Go.Proofs.Ytighcnecajgkpaa
