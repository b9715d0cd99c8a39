/- The queue's All: the copy. -/
import Derived.Test.YtlemfbgmhjklaaaQMem2
import Derived.Test.YtlemfbgmhjklaaaQAllP
import Derived.Deep.Cut
namespace Go.Proofs.Ytlemfbgmhjklaaa
open Go.RowKit

theorem headV_eq (M : List MRow) : headV M = .tuple #[pval (headP M), .bool (headB M)] := by
  unfold headV headP headB
  cases headM M <;> rfl

def ownLen : Value → Nat
  | .slice _ n _ => n
  | _ => 0
/-- one row more, behind the others -/
theorem Qu.snoc {w w6 : World} {b : Nat} {T : Int} {v v5 : Value} {R : List PRow} {x : PRow} {o : Obj} (h : Qu w b T v R) (hx : RowAt w x) (hxf : ∀ k ∈ fpR x, k ∉ fpW b v)
    (ho : w6.ownsRow 0 60 1 v5 (R.length + 1) (rptrs R ++ [.pointer (some ⟨x.g, 0, none⟩)])) (hg : (w.alloc o).grownBy w6 v.ownBlock) (hn : ∀ k, v5.ownBlock = some k → v.ownBlock = some k ∨ (w.alloc o).heap.size ≤ k) :
    Qu (w6.setCell ⟨b, 0, none⟩ v5) b T v5 (R ++ [x]) ∧ Stp w (w6.setCell ⟨b, 0, none⟩ v5) b v v5 := by
  have hsz : (w.alloc o).heap.size = w.heap.size + 1 := by simp
  have hB : some b ≠ v.ownBlock := fun e => h.ne e.symm
  have hnew : ∀ k, v5.ownBlock = some k → k ≠ b ∧ (v.ownBlock = some k ∨ w.heap.size ≤ k) := fun k hk => (hn k hk).elim (fun h1 => ⟨fun e => hB (by rw [h1, e]), .inl h1⟩) (fun h1 => ⟨fun e => absurd h.blk.lt (by omega), .inr (by omega)⟩)
  have hfr := (Fr.of_below (below_alloc w o) (v.ownBlock.toList)).then (Fr.of_grown hg)
  have hst : Stp w (w6.setCell ⟨b, 0, none⟩ v5) b v v5 := ⟨((hfr.mono (T := fpW b v) (fun k hk => mem_fpW.2 (.inr (by simpa using hk)))).set (p := ⟨b, 0, none⟩) (mem_fpW.2 (.inl rfl)) v5), fun k hk => (hnew k hk).2⟩
  refine ⟨⟨((h.blk.alloc o).grown hg hB).set 0 v5, ?_, fun e => (hnew b e).1 rfl, fun r hr => ?_⟩, hst⟩
  · refine own_other ?_ (fun e => (hnew b e).1 rfl) _
    unfold rptrs at *
    simpa [rptr] using ho
  · have h4 : RowAt w r ∧ ∀ k ∈ fpR r, k ∉ fpW b v := by
      rcases List.mem_append.1 hr with hr | hr
      · exact h.rows r hr
      · rw [List.mem_singleton.1 hr]; exact ⟨hx, hxf⟩
    refine ⟨h4.1.fr hst.fr h4.2, fun k hk hkw => ?_⟩
    rcases mem_fpW.1 hkw with rfl | hkw
    · exact h4.2 _ hk (mem_fpW.2 (.inl rfl))
    · rcases (hnew k hkw).2 with h6 | h6
      · exact h4.2 k hk (mem_fpW.2 (.inr h6))
      · have := h4.1.lt hk; omega

/-- the copy so far: the first rows in memory of its own -/
structure Cp (w0 : World) (ob : Nat) (T : Int) (R : List PRow) (k : Nat) (w : World) : Prop where
  ex : ∃ v R2, Qu w ob T v R2 ∧ SepR R2 ∧ R2.map PRow.a = (R.take k).map PRow.a ∧ (∀ j ∈ fpW ob v, w0.heap.size ≤ j) ∧ ∀ r ∈ R2, ∀ j ∈ fpR r, w0.heap.size ≤ j
  bel : Below w0.heap.size w0 w

set_option maxRecDepth 100000 in
set_option maxHeartbeats 2000000 in
theorem all_any (b : Nat) (P : Nat → Prop) (N : Int) (M : List MRow) (w : World) (h : Qm w b P N M) (hN : N ≤ 2305843009213693952) (hl : (flatM M).length ≤ 100000) :
    Calls Try.prog 11 #[ptr b] w fun e w' => ∃ o, e = .returned o ∧ w'.ownsRow w.heap.size 29 4 o (flatM M).length (pcells (allM M)) ∧ Below w.heap.size w w' := by
  have hml : maxLen ≤ 9223372036854775807 := by decide
  obtain ⟨T, v, R, h1, h2, h3, h4, h5, h6, h7, h8, h9⟩ := h
  obtain ⟨s1, s2⟩ := h6.small h7
  obtain ⟨i0, hi, hz0, hz1, hz2⟩ := info_parts info_row
  obtain ⟨p, c, rfl, hc, hm⟩ := h1.shape
  have c0 := h1.blk.cell (j := 0) rfl
  have c1 := h1.blk.cell (j := 1) rfl
  have H := Lib.hid h1
  have HS2 := Lib.hid s2
  have HQI := Lib.hid h5
  have HMD := Lib.hid h6
  have HMI := Lib.hid h7
  have HL := Lib.hid hl
  have hRl : R.length ≤ 100000 := by omega
  clear h1 h2 h3 h4 h5 h6 h7 s1 s2 hl
  go_enter Try.func11, Try.ntmps11
  go_upto_region 4 with (go_at_call 28; refine (qnone_made b _ _ _ _ H.out).mono ?_; rintro e w2 ⟨rfl, rfl⟩)
  obtain ⟨w1, hw1⟩ : ∃ w1, w1 = w.alloc (.cells #[.slice none 0 0, .int .u64 T, .bool true] 57) := ⟨_, rfl⟩
  obtain ⟨ob, hob⟩ : ∃ ob, ob = w.heap.size := ⟨_, rfl⟩
  have HC : Hid (Cp w ob T R 0 w1) := Lib.hid (by
    rw [hw1, hob]
    refine ⟨⟨.slice none 0 0, [], ⟨Blk.made w [.slice none 0 0, .int .u64 T, .bool true] _, World.ownsRow_nil _ _ _ _, by simp [Value.ownBlock], fun r hr => by cases hr⟩, List.Pairwise.nil, rfl, fun j hj => ?_, fun r hr => by cases hr⟩, below_alloc w _⟩
    rcases mem_fpW.1 hj with rfl | hj
    · exact Nat.le_refl _
    · simp [Value.ownBlock] at hj)
  have HSZ : Hid (w.heap.size ≤ ob) := Lib.hid (by rw [hob]; exact Nat.le_refl _)
  have H1 := H.out.kept HC.out.bel
  have e0 := H1.blk.cell (j := 0) rfl
  rw [← hw1, ← hob]
  clear hw1 hob H1 c0 c1
  go_wp2
  go_loopw [23] (fun o wr => ∃ k : Nat, k ≤ R.length ∧ o = .int .i64 (k : Int) ∧ Hid (Cp w ob T R k wr)) (fun o _ => R.length - (intOf o).toNat)
  case atStart => exact ⟨0, Nat.zero_le _, rfl, HC⟩
  case round =>
    obtain ⟨k, hk, rfl, HCP⟩ := hrel
    by_cases hlt : k < R.length
    · obtain ⟨x, hxe⟩ : ∃ x, x = R[k] := ⟨_, rfl⟩
      have hx' : R[k]? = some x := by rw [hxe, List.getElem?_eq_getElem hlt]
      have HR := H.out.kept HCP.out.bel
      obtain ⟨g, cap, e, -⟩ := HR.lies (by omega)
      simp only [Value.slice.injEq] at e
      obtain ⟨rfl, -, rfl⟩ := e
      have c1 := own_cell HR.own (rptrs_at hx')
      have HRX := Lib.hid (HR.row hx')
      have d0 := HRX.out.blk.cell (j := 0) rfl
      have d1 := HRX.out.blk.cell (j := 1) rfl
      have d2 := HRX.out.blk.cell (j := 2) rfl
      have d3 := HRX.out.blk.cell (j := 3) rfl
      obtain ⟨xg, xv, xk, xt, xps⟩ := x
      obtain ⟨xq, xo, xc, hxv, hxc, -, -⟩ := HRX.out.own.shape
      simp only at hxv
      subst hxv
      obtain ⟨v2, R2, hq2, hsep2, hmap2, hP1, hP2⟩ := HCP.out.ex
      have HQ2 := Lib.hid hq2
      have HP1 := Lib.hid hP1
      have HP2 := Lib.hid hP2
      have HSEP := Lib.hid hsep2
      have HMAP := Lib.hid hmap2
      have hR2l : R2.length = k := by have := congrArg List.length hmap2; simpa [Nat.min_eq_left (Nat.le_of_lt hlt)] using this
      have HXPL : Hid (xps.length ≤ 100000) := Lib.hid (by have := HS2.out _ (List.mem_of_getElem? hx'); have := HL.out; simp only at *; omega)
      have HXP0 : Hid (0 < xps.length) := Lib.hid (List.length_pos_iff.2 (HMI.out.ne _ (HMD.out.mem (List.mem_map.2 ⟨_, List.mem_of_getElem? hx', rfl⟩))))
      have i1 : (k : Int) < (R.length : Int) := by omega
      have HX := Lib.hid hx'
      obtain ⟨gn, hgn⟩ : ∃ gn, gn = wr.heap.size := ⟨_, rfl⟩
      have HA := Lib.hid (below_alloc wr (.cells #[.string xk.1, .int .i64 xk.2, .int .u64 xt, .slice (some ⟨xq, xo, none⟩) xps.length xc] 62))
      have HOX : Hid (OwnO (wr.alloc (.cells #[.string xk.1, .int .i64 xk.2, .int .u64 xt, .slice (some ⟨xq, xo, none⟩) xps.length xc] 62)) 29 4 (.slice (some ⟨xq, xo, none⟩) xps.length xc) xps.length (pcells xps)) := Lib.hid (HRX.out.own.kept HA.out)
      have HBN : Hid (Blk (wr.alloc (.cells #[.string xk.1, .int .i64 xk.2, .int .u64 xt, .slice (some ⟨xq, xo, none⟩) xps.length xc] 62)) wr.heap.size [.string xk.1, .int .i64 xk.2, .int .u64 xt, .slice (some ⟨xq, xo, none⟩) xps.length xc] 62) := Lib.hid (Blk.made wr _ _)
      have d3' := (HRX.out.blk.kept HA.out).cell (j := 3) rfl
      clear hxe hx' hq2 hsep2 hmap2 hP1 hP2 HR hgn
      simp only at c1
      go_upto_region 9 with (go_at_call 30; refine (clone_any xq xo xc xps _ (by have := HXPL.out; omega) HXP0.out HOX.out).mono ?_; rintro e w3 ⟨vn, rfl, ho, hn, hb⟩; obtain ⟨qn, on, cn, rfl, -, -, -⟩ := ho.shape; have HON := Lib.hid ho; have HNN := Lib.hid hn; have HB3 := Lib.hid (below_and HA.out hb); have HBN3 := Lib.hid (HBN.out.kept hb); have g3 := HBN3.out.cell (j := 3) rfl; have f3 := HBN3.out.free 3; clear ho hn hb)
      obtain ⟨gn, hgn⟩ : ∃ gn, gn = wr.heap.size := ⟨_, rfl⟩
      obtain ⟨w4, hw4⟩ : ∃ w4, w4 = w3.setCell ⟨wr.heap.size, 3, none⟩ (.slice (some ⟨qn, on, none⟩) xps.length cn) := ⟨_, rfl⟩
      have hqn : wr.heap.size + 1 ≤ qn := by have := HNN.out qn rfl; simpa using this
      have hlo : w.heap.size ≤ wr.heap.size := HCP.out.bel.size
      have HRN : Hid (RowAt w4 ⟨gn, .slice (some ⟨qn, on, none⟩) xps.length cn, ⟨xk, xt, xps⟩⟩) := Lib.hid (by
        rw [hw4, hgn]
        refine ⟨HBN3.out.set 3 _, HON.out.fr ((Fr.refl [wr.heap.size] w3).set (p := ⟨wr.heap.size, 3, none⟩) (by simp) _) (fun g hg hm => ?_), fun e => ?_⟩
        · have h1 := List.mem_singleton.1 hm
          simp [Value.ownBlock] at hg
          omega
        · simp [Value.ownBlock] at e
          omega)
      have HQ4 : Hid (Qu w4 ob T v2 R2) := Lib.hid (by
        rw [hw4]
        refine (HQ2.out.kept HB3.out).fr ((Fr.refl [wr.heap.size] w3).set (p := ⟨wr.heap.size, 3, none⟩) (by simp) _) (fun k' hk hm => ?_) (fun r hr k' hk hm => ?_)
        · rw [List.mem_singleton.1 hm] at hk
          rcases mem_fpW.1 hk with e | e
          · have := HQ2.out.blk.lt; omega
          · have := own_hi HQ2.out.own e; omega
        · rw [List.mem_singleton.1 hm] at hk
          have := (HQ2.out.rows r hr).1.lt hk
          omega)
      have HXF : Hid (∀ k' ∈ fpR (⟨gn, .slice (some ⟨qn, on, none⟩) xps.length cn, ⟨xk, xt, xps⟩⟩ : PRow), wr.heap.size ≤ k') := Lib.hid (fun k' hk => by
        rcases mem_fpR.1 hk with rfl | hk
        · rw [hgn]; exact Nat.le_refl _
        · simp [Value.ownBlock] at hk; omega)
      have HXW : Hid (∀ k' ∈ fpR (⟨gn, .slice (some ⟨qn, on, none⟩) xps.length cn, ⟨xk, xt, xps⟩⟩ : PRow), k' ∉ fpW ob v2) := Lib.hid (fun k' hk hm => by
        have h1 := HXF.out k' hk
        rcases mem_fpW.1 hm with rfl | e
        · have := HQ2.out.blk.lt; omega
        · have := own_hi HQ2.out.own e; omega)
      have HB4 : Hid (Below wr.heap.size wr w4) := Lib.hid (by
        rw [hw4]
        exact HB3.out.trans (((Fr.refl [wr.heap.size] w3).set (p := ⟨wr.heap.size, 3, none⟩) (by simp) _).below (by simp) HB3.out.size))
      have HGN := Lib.hid hgn
      rw [← hw4, ← hgn]
      clear hw4 hgn g3 f3 d0 d1 d2 d3 d3' c1 HBN HBN3 HA HOX HON HB3 HRX
      have e0 := HQ4.out.blk.cell (j := 0) rfl
      have e1 := (HQ4.out.blk.alloc (.cells #[.pointer (some ⟨gn, 0, none⟩)] 60)).cell (j := 0) rfl
      have HO4 : Hid ((w4.alloc (.cells #[.pointer (some ⟨gn, 0, none⟩)] 60)).ownsRow 0 60 1 v2 R2.length (rptrs R2)) := Lib.hid (HQ4.out.own.alloc _)
      have HBQ : Hid (Blk (w4.alloc (.cells #[.pointer (some ⟨gn, 0, none⟩)] 60)) ob [v2, .int .u64 T, .bool true] 57) := Lib.hid (HQ4.out.blk.alloc _)
      have HNE : Hid (some ob ≠ v2.ownBlock) := Lib.hid (fun e => HQ4.out.ne e.symm)
      have HR2 : Hid (R2.length ≤ 100000) := Lib.hid (by omega)
      have HKL := Lib.hid hR2l
      clear hR2l
      go_wp2_with (at_builtin; go_loud (refine wpList_app5 rfl _ _ 54 54 rfl 0 60 i0 (.pointer none) 1 8 Try.underlying54 hi hz0 hz1 hz2 rfl v2 R2.length (rptrs R2) rfl HO4.out _ 1 _ rfl (src_block Try.underlying54 _ _ #[_] (heap_alloc_new _ _) rfl (by simp [Value.oneCell'])) (by have := HR2.out; unfold maxLen; omega) (by have := HR2.out; omega) (Nat.zero_le _) ?_; intro v5 w6 ho hg hn; have HO6 := Lib.hid ho; have HG6 := Lib.hid hg; have HN6 := Lib.hid hn; obtain ⟨p5, c5, rfl, -, -⟩ := own_slice ho; have g0 := (HBQ.out.grown hg HNE.out).cell (j := 0) rfl; have f0 := (HBQ.out.grown hg HNE.out).free 0; clear ho hg hn))
      go_roundw
      case rel =>
        refine ⟨k + 1, hlt, by go_num, Lib.hid ?_⟩
        have hq := Qu.snoc HQ4.out HRN.out HXW.out HO6.out HG6.out HN6.out
        refine ⟨⟨_, _, hq.1, (SepR.add HSEP.out (N := wr.heap.size) HXF.out (fun s hs k' hk => ?_)).perm (List.perm_append_comm (l₁ := [_]) (l₂ := R2)), ?_, fun j hj => ?_, fun r hr j hj => ?_⟩, ?_⟩
        · exact (HQ2.out.rows s hs).1.lt hk
        · rw [List.map_append, HMAP.out, List.take_succ_eq_append_getElem hlt, List.map_append]
          have := HX.out
          rw [List.getElem?_eq_getElem hlt] at this
          simp only [Option.some.injEq] at this
          rw [this]
          rfl
        · rcases mem_fpW.1 hj with rfl | hj
          · exact HSZ.out
          · rcases HN6.out j hj with h | h
            · exact HP1.out j (mem_fpW.2 (.inr h))
            · have h2 := HB4.out.size
              have h3 : w4.heap.size + 1 ≤ j := by simpa using h
              omega
        · rcases List.mem_append.1 hr with hr | hr
          · exact HP2.out r hr j hj
          · rw [List.mem_singleton.1 hr] at hj
            exact Nat.le_trans hlo (HXF.out j hj)
        · exact (below_and HCP.out.bel HB4.out).trans (hq.2.fr.below (fun j hj => HP1.out j hj) (below_and HCP.out.bel HB4.out).size)
      case measure => simp [intOf]; omega
    · obtain rfl : k = R.length := by omega
      obtain ⟨v2, R2, hq2, hsep2, hmap2, hP1, hP2⟩ := HCP.out.ex
      rw [List.take_length] at hmap2
      have HM2 : Hid (Qm wr ob (fun k => w.heap.size ≤ k) N M) := Lib.hid ⟨T, v2, R2, hq2, hsep2, hP1, hP2, by rw [hmap2]; exact HQI.out, by rw [hmap2]; exact HMD.out, HMI.out, h8, h9⟩
      have HBW := Lib.hid HCP.out.bel
      clear hq2 hsep2 hmap2 hP1 hP2 HCP e0
      obtain ⟨p0, hp0⟩ : ∃ p0, p0 = headP M := ⟨_, rfl⟩
      obtain ⟨ok0, hok0⟩ : ∃ ok0, ok0 = headB M := ⟨_, rfl⟩
      have HV : Hid (headV M = .tuple #[pval p0, .bool ok0]) := Lib.hid (by rw [headV_eq, hp0, hok0])
      have HEQ : Hid (allM M = if ok0 = true then p0 :: allM (takeM M) else []) := Lib.hid (by rw [hok0, hp0]; exact allM_eq HMI.out)
      have HLE : Hid ((flatM (takeM M)).length + (if ok0 = true then 1 else 0) = (flatM M).length) := Lib.hid (by rw [hok0]; exact take_len HMI.out)
      clear hp0 hok0
      go_wp2_with (go_at_call 14; refine (qtake_any ob _ N M _ HM2.out (by omega) (by have := HL.out; omega)).mono ?_; rw [HV.out]; rintro e w3 ⟨rfl, hq, hf⟩; have HQ3 := Lib.hid hq; have HB3 : Hid (Below w.heap.size w w3) := Lib.hid (HBW.out.trans (hf.below (fun _ h => h) HBW.out.size)); have HS3 := Lib.hid hf.size; clear hq hf)
      obtain ⟨tot, htot⟩ : ∃ tot, tot = (flatM M).length := ⟨_, rfl⟩
      have HTOT := Lib.hid htot
      have htl : tot ≤ 100000 := by have := HL.out; omega
      rw [← htot] at HLE
      clear htot
      go_loopw [7, 8, 9] (fun o g ok wz => ∃ (acc : List Pend) (g8 : Nat) (p : Pend) (bk : Bool) (M' : List MRow), g = .pointer (some ⟨g8, 0, none⟩) ∧ ok = .bool bk ∧ Hid (wz.ownsRow w.heap.size 29 4 o acc.length (pcells acc)) ∧ Hid (Blk wz g8 (pend p) 29) ∧ Hid (Qm wz ob (fun k => w.heap.size ≤ k ∧ k ≠ g8 ∧ o.ownBlock ≠ some k) (N + 1 + (acc.length : Int)) M') ∧ Hid (allM M = acc ++ if bk = true then p :: allM M' else []) ∧ acc.length + ((flatM M').length + (if bk = true then 1 else 0)) = tot ∧ Hid (Below w.heap.size w wz) ∧ w.heap.size ≤ g8 ∧ Hid (o.ownBlock ≠ some g8)) (fun o _ _ _ => tot + 1 - ownLen o)
      case atStart =>
        refine ⟨[], w3.heap.size, p0, ok0, takeM M, rfl, rfl, Lib.hid (World.ownsRow_nil _ _ _ _), Lib.hid (Blk.made w3 (pend p0) _), Lib.hid ?_, Lib.hid (by rw [HEQ.out]; rfl), by have := HLE.out; simpa using this, Lib.hid (below_and HB3.out (below_alloc w3 _)), HB3.out.size, Lib.hid (by simp [Value.ownBlock])⟩
        have h1 := HQ3.out.mono (Q := fun k => w.heap.size ≤ k ∧ k ≠ w3.heap.size ∧ (Value.slice none 0 0).ownBlock ≠ some k) (fun k hk hlt => ⟨hk.elim id (fun h => Nat.le_trans HBW.out.size h), by omega, by simp [Value.ownBlock]⟩)
        have h2 := (h1.kept (below_alloc w3 (.cells (pend p0).toArray 29))).grow (N' := N + 1 + (([] : List Pend).length : Int)) (by simp)
        exact h2
      case round =>
        obtain ⟨acc, g8, p1, bk, M', rfl, rfl, HOW, HB8, HQM, HALL, hcnt, HBL, hg8, HOG⟩ := hrel
        obtain ⟨pa, ca, rfl, hca, -⟩ := own_slice HOW.out
        cases bk
        · have HEND : Hid (allM M = acc) := Lib.hid (by rw [HALL.out]; simp)
          have HLN : Hid (acc.length = tot) := Lib.hid (by rw [← HEND.out, allM_len HMI.out]; exact HTOT.out.symm)
          go_wp2
          go_ret
          refine ⟨_, rfl, ?_, HBL.out⟩
          rw [← HTOT.out, HEND.out, ← HLN.out]
          exact HOW.out
        · have hacc : acc.length < tot := by simp at hcnt; omega
          have HALL2 : Hid (allM M = acc ++ p1 :: allM M') := Lib.hid (by rw [HALL.out]; simp)
          have HMI' := Lib.hid HQM.out.mi
          obtain ⟨p2, hp2⟩ : ∃ p2, p2 = headP M' := ⟨_, rfl⟩
          obtain ⟨ok2, hok2⟩ : ∃ ok2, ok2 = headB M' := ⟨_, rfl⟩
          have HV2 : Hid (headV M' = .tuple #[pval p2, .bool ok2]) := Lib.hid (by rw [headV_eq, hp2, hok2])
          have HEQ2 : Hid (allM M' = if ok2 = true then p2 :: allM (takeM M') else []) := Lib.hid (by rw [hok2, hp2]; exact allM_eq HMI'.out)
          have HLE2 : Hid ((flatM (takeM M')).length + (if ok2 = true then 1 else 0) = (flatM M').length) := Lib.hid (by rw [hok2]; exact take_len HMI'.out)
          have hM'l : (flatM M').length ≤ 100000 := by simp at hcnt; omega
          have HCNT : Hid (acc.length + ((flatM M').length + 1) = tot) := Lib.hid (by simpa using hcnt)
          obtain ⟨j0, hj0, hz0', hz1', hz2'⟩ := info_parts info_pend
          have e0 := HB8.out.cell (j := 0) rfl
          have e1 := HB8.out.cell (j := 1) rfl
          have e2 := HB8.out.cell (j := 2) rfl
          have e3 := HB8.out.cell (j := 3) rfl
          have HOA : Hid ((wr.alloc (.cells #[.string p1.job, .int .i64 p1.idx, .string p1.user, .int .i64 p1.band] 29)).ownsRow w.heap.size 29 4 (.slice pa acc.length ca) acc.length (pcells acc)) := Lib.hid (HOW.out.alloc _)
          have HBA : Hid (Blk (wr.alloc (.cells #[.string p1.job, .int .i64 p1.idx, .string p1.user, .int .i64 p1.band] 29)) g8 (pend p1) 29) := Lib.hid (HB8.out.alloc _)
          have HSZW : Hid (w.heap.size ≤ wr.heap.size) := Lib.hid HBL.out.size
          clear hp2 hok2 hcnt
          go_upto_region 17 with (at_builtin; go_loud (refine wpList_app5 rfl _ _ 22 22 rfl w.heap.size 29 j0 (.agg #[.string ⟨#[]⟩, .int .i64 0, .string ⟨#[]⟩, .int .i64 0]) 4 48 Try.underlying22 hj0 hz0' hz1' hz2' rfl _ acc.length (pcells acc) rfl HOA.out _ 1 _ rfl (src_block Try.underlying22 _ _ #[_, _, _, _] (heap_alloc_new _ _) rfl (pend_one p1)) (by unfold maxLen; omega) (by omega) (by have := HSZW.out; simp; omega) ?_; intro o6 w6 ho hg hn; have HO6 := Lib.hid ho; have HG6 := Lib.hid hg; have HN6 := Lib.hid hn; obtain ⟨p6, c6, rfl, -, -⟩ := own_slice ho; have hb6 := HBA.out.grown hg (fun e => HOG.out (by rw [e]; rfl)); have g0 := hb6.cell (j := 0) rfl; have g1 := hb6.cell (j := 1) rfl; have g2 := hb6.cell (j := 2) rfl; have g3 := hb6.cell (j := 3) rfl; clear ho hg hn hb6))
          obtain ⟨g9, hg9⟩ : ∃ g9, g9 = w6.heap.size := ⟨_, rfl⟩
          have hs6 : wr.heap.size + 1 ≤ w6.heap.size := by have := HG6.out.size; simpa using this
          have HQ6 : Hid (Qm w6 ob (fun k => w.heap.size ≤ k ∧ k ≠ g9 ∧ (Value.slice p6 (acc.length + 1) c6).ownBlock ≠ some k) (N + 1 + (acc.length : Int)) M') := Lib.hid (by
            have h1 := HQM.out.mono (Q := fun k => (w.heap.size ≤ k ∧ k ≠ g8 ∧ (Value.slice pa acc.length ca).ownBlock ≠ some k) ∧ (w.heap.size ≤ k ∧ k ≠ g9 ∧ (Value.slice p6 (acc.length + 1) c6).ownBlock ≠ some k)) (fun k hk hlt => ⟨hk, hk.1, by omega, fun e => by
              rcases HN6.out k e with h | h
              · exact hk.2.2 h
              · have h2 : wr.heap.size + 1 ≤ k := by simpa using h
                omega⟩)
            have h2 := (h1.kept (below_alloc wr _)).fr (Fr.of_grown HG6.out) (fun k hk hP => hP.1.2.2 (Option.mem_toList.1 hk))
            exact h2.mono (fun k hk _ => hk.2))
          have HQ7 : Hid (Qm (w6.alloc (.cells #[.string p1.job, .int .i64 p1.idx, .string p1.user, .int .i64 p1.band] 29)) ob (fun k => w.heap.size ≤ k ∧ k ≠ g9 ∧ (Value.slice p6 (acc.length + 1) c6).ownBlock ≠ some k) (N + 1 + (acc.length : Int)) M') := Lib.hid (HQ6.out.kept (below_alloc w6 _))
          have HB9 : Hid (Blk (w6.alloc (.cells #[.string p1.job, .int .i64 p1.idx, .string p1.user, .int .i64 p1.band] 29)) g9 (pend p1) 29) := Lib.hid (by rw [hg9]; exact Blk.made w6 (pend p1) _)
          have HB6 : Hid (Below w.heap.size w w6) := Lib.hid (HBL.out.trans (((Fr.of_below (below_alloc wr (.cells #[.string p1.job, .int .i64 p1.idx, .string p1.user, .int .i64 p1.band] 29)) _).then (Fr.of_grown HG6.out)).below (fun k hk => own_lo HOA.out (Option.mem_toList.1 hk)) HBL.out.size))
          have HO7 : Hid ((w6.alloc (.cells #[.string p1.job, .int .i64 p1.idx, .string p1.user, .int .i64 p1.band] 29)).ownsRow w.heap.size 29 4 (Value.slice p6 (acc.length + 1) c6) (acc.length + 1) (pcells acc ++ [.string p1.job, .int .i64 p1.idx, .string p1.user, .int .i64 p1.band])) := Lib.hid (HO6.out.alloc _)
          have HG9 := Lib.hid hg9
          have hg9w : w.heap.size ≤ g9 := by rw [hg9]; exact HB6.out.size
          have HOG9 : Hid ((Value.slice p6 (acc.length + 1) c6).ownBlock ≠ some g9) := Lib.hid (fun e => by have := own_hi HO6.out e; omega)
          go_upto_region 14 with fail
          obtain ⟨w7, hw7⟩ : ∃ w7, w7 = w6.alloc (.cells #[.string p1.job, .int .i64 p1.idx, .string p1.user, .int .i64 p1.band] 29) := ⟨_, rfl⟩
          have HS7 : Hid (w7.heap.size = g9 + 1) := Lib.hid (by rw [hw7, hg9]; simp)
          have HB7 : Hid (Below w.heap.size w w7) := Lib.hid (by rw [hw7]; exact HB6.out.trans (Below.alloc (Below.refl _ _) HB6.out.size _))
          rw [← hw7] at HQ7 HB9 HO7
          rw [← hw7, ← hg9]
          clear hw7 hg9 e0 e1 e2 e3 g0 g1 g2 g3 HQ6 HQM HB8 HBA HOA HN6 HALL
          go_wp2_with (go_at_call 14; refine (qtake_any ob (fun k => w.heap.size ≤ k ∧ k ≠ g9 ∧ (Value.slice p6 (acc.length + 1) c6).ownBlock ≠ some k) _ M' _ HQ7.out (by omega) (by omega)).mono ?_; rw [HV2.out]; rintro e w8 ⟨rfl, hq, hf⟩; have HQ8 := Lib.hid hq; have HB8 : Hid (Below w.heap.size w w8) := Lib.hid (HB7.out.trans (hf.below (fun _ h => h.1) HB7.out.size)); have HBG8 : Hid (Blk w8 g9 (pend p1) 29) := Lib.hid (by obtain ⟨S, hS, hS2⟩ := hf; exact HB9.out.fr hS (fun hm => (hS2 _ hm).2.1 rfl)); have HO8 : Hid (w8.ownsRow w.heap.size 29 4 (Value.slice p6 (acc.length + 1) c6) (acc.length + 1) (pcells acc ++ [.string p1.job, .int .i64 p1.idx, .string p1.user, .int .i64 p1.band])) := Lib.hid (by obtain ⟨S, hS, hS2⟩ := hf; exact own_fr HO7.out hS (fun g hg hm => (hS2 _ hm).2.2 hg)); have g0 := HBG8.out.cell (j := 0) rfl; have g1 := HBG8.out.cell (j := 1) rfl; have g2 := HBG8.out.cell (j := 2) rfl; have g3 := HBG8.out.cell (j := 3) rfl; have gf := HBG8.out.free; clear hq hf)
          go_roundw
          case rel =>
            have hfill : Fr [g9] w8 ((((w8.setCell ⟨g9, 0, none⟩ (.string p2.job)).setCell ⟨g9, 1, none⟩ (.int .i64 p2.idx)).setCell ⟨g9, 2, none⟩ (.string p2.user)).setCell ⟨g9, 3, none⟩ (.int .i64 p2.band)) := ((((Fr.refl [g9] w8).set (p := ⟨g9, 0, none⟩) (by simp) _).set (p := ⟨g9, 1, none⟩) (by simp) _).set (p := ⟨g9, 2, none⟩) (by simp) _).set (p := ⟨g9, 3, none⟩) (by simp) _
            refine ⟨acc ++ [p1], g9, p2, ok2, takeM M', rfl, rfl, Lib.hid ?_, Lib.hid (blk_fill HBG8.out), Lib.hid ?_, Lib.hid ?_, ?_, Lib.hid (HB8.out.trans (hfill.below (by simpa using hg9w) HB8.out.size)), hg9w, HOG9⟩
            · have := own_fr HO8.out hfill (fun g hg hm => HOG9.out (by rw [← List.mem_singleton.1 hm]; exact hg))
              rw [pcells_append]
              simpa [pcells, pend] using this
            · have h1 := HQ8.out.mono (Q := (fun k => w.heap.size ≤ k ∧ k ≠ g9 ∧ (Value.slice p6 (acc.length + 1) c6).ownBlock ≠ some k)) (fun k hk hlt => hk.elim id (fun h => by
                have h2 := HS7.out
                refine ⟨by omega, by omega, fun e => ?_⟩
                have := own_hi HO6.out e
                have := HG9.out
                omega))
              have h2 := (h1.fr hfill (fun k hk hP => hP.2.1 (List.mem_singleton.1 hk))).grow (N' := N + 1 + ((acc ++ [p1]).length : Int)) (by simp; omega)
              exact h2
            · rw [HALL2.out, HEQ2.out]
              simp
            · have h1 := HCNT.out
              have h2 := HLE2.out
              simp only [List.length_append, List.length_cons, List.length_nil]
              omega
          case measure => simp [ownLen]; omega
end Go.Proofs.Ytlemfbgmhjklaaa
