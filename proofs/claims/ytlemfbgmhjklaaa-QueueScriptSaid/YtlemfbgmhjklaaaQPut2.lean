/- The queue's Put: a row that is there, or a new one. -/
import Derived.Test.YtlemfbgmhjklaaaQPut
import Derived.Deep.Cut
namespace Go.Proofs.Ytlemfbgmhjklaaa
open Go.RowKit

theorem u64_in {n : Int} (h : 0 ≤ n ∧ n ≤ 9223372036854775807) : IntKind.u64.wrap n = n := by
  unfold IntKind.wrap
  simp only [IntKind.bits, IntKind.signed]
  simp only [Bool.false_and, Bool.false_eq_true, if_false]
  omega
def rowOf (R : List PRow) (k : Key) : Option Nat := R.findIdx? fun r => decide (r.a.key = k)
theorem rowOf_some {R : List PRow} {t : Key} {i : Nat} (hi : i < R.length) (h1 : R[i].a.key = t) (h2 : ∀ j (h : j < R.length), j < i → R[j].a.key ≠ t) : rowOf R t = some i := by
  unfold rowOf
  rw [List.findIdx?_eq_some_iff_getElem]
  exact ⟨hi, by simpa using h1, fun j hj => by simpa using h2 j (by omega) hj⟩
theorem rowOf_none {R : List PRow} {t : Key} (h : ∀ j (h : j < R.length), R[j].a.key ≠ t) : rowOf R t = none := by
  unfold rowOf
  rw [List.findIdx?_eq_none_iff]
  intro x hx
  obtain ⟨j, hj, rfl⟩ := List.getElem_of_mem hx
  simpa using h j hj
/-- what Put leaves: a row that is longer, or one more -/
def PutQ (w w' : World) (b : Nat) (T : Int) (v : Value) (R : List PRow) (p : Pend) : Prop :=
  (∃ i r v1, rowOf R p.key = some i ∧ R[i]? = some r ∧ Qu w' b T v (R.set i ⟨r.g, v1, ⟨r.a.key, r.a.turn, r.a.ps ++ [p]⟩⟩) ∧ SepR (R.set i ⟨r.g, v1, ⟨r.a.key, r.a.turn, r.a.ps ++ [p]⟩⟩) ∧ Fr (fpR r) w w' ∧ ∀ k, v1.ownBlock = some k → r.v.ownBlock = some k ∨ w.heap.size ≤ k) ∨
  (rowOf R p.key = none ∧ ∃ x v', x.a = ⟨p.key, T + 1, [p]⟩ ∧ (∀ k ∈ fpR x, w.heap.size ≤ k) ∧ Qu w' b (T + 1) v' (Hp.push rlt R x) ∧ SepR (Hp.push rlt R x) ∧ Fr (fpW b v) w w' ∧ ∀ k, v'.ownBlock = some k → v.ownBlock = some k ∨ w.heap.size ≤ k)

set_option maxRecDepth 100000 in
set_option maxHeartbeats 2000000 in
theorem put_go (b : Nat) (T : Int) (v : Value) (R : List PRow) (p : Pend) (w : World) (h : Qu w b T v R) (hs : SepR R) (ho : OkP p) (hq : (findR R p.task).isSome = false) (hT : 0 ≤ T) (hT2 : T ≤ 4611686018427387904) (hl : R.length ≤ 900000) (hps : ∀ r ∈ R, r.a.ps.length ≤ 900000) :
    Calls Try.prog 10 #[ptr b, pval p] w fun e w' => e = .returned (.int .i64 0) ∧ PutQ w w' b T v R p := by
  have hml : maxLen ≤ 9223372036854775807 := by decide
  obtain ⟨i0, hi, hz0, hz1, hz2⟩ := info_parts info_pend
  obtain ⟨pp, c, rfl, hc, hm⟩ := h.shape
  have H := Lib.hid h
  have HQ := Lib.hid hq
  have HS := Lib.hid hs
  have HPS := Lib.hid hps
  clear h hq hs hps
  obtain ⟨h1, h2, h3, h4, h5⟩ := ho
  obtain ⟨j, i, u, d⟩ := p
  simp only at h1 h2 h3 h4 h5
  go_enter Try.func10, Try.ntmps10
  go_upto_region 7 with (first
    | (go_at_call 28; refine (qnone_made b _ _ _ _ (H.out.kept (below_alloc _ _))).mono ?_; rintro e w2 ⟨rfl, rfl⟩)
    | (go_at_call 25; refine (has_any b T (.slice pp R.length c) R (j, i) _ (H.out.kept (below_alloc _ _))).mono ?_; rintro e w2 ⟨rfl, hb⟩; rw [show (findR R (j, i)).isSome = false from HQ.out]; have HB := Lib.hid hb; clear hb))
  have HBX : Hid (Blk w2 w.heap.size (pend ⟨j, i, u, d⟩) 29) := Lib.hid ((Blk.made w (pend ⟨j, i, u, d⟩) _).kept HB.out)
  have HB2 : Hid (Below w.heap.size w w2) := Lib.hid (below_and (below_alloc w _) HB.out)
  obtain ⟨tb, htb⟩ : ∃ tb, tb = w.heap.size := ⟨_, rfl⟩
  rw [← htb] at HBX ⊢
  have HTB := Lib.hid htb
  clear htb HB
  have H2 : Hid (Qu w2 b T (.slice pp R.length c) R) := Lib.hid (H.out.kept HB2.out)
  have cq := H2.out.blk.cell (j := 0) rfl
  go_wp2
  go_loopw [46] (fun o wc => ∃ k : Nat, k ≤ R.length ∧ o = .int .i64 (k : Int) ∧ Hid (∀ j' (h : j' < R.length), j' < k → R[j'].a.key ≠ (u, d)) ∧ Hid (Below w2.heap.size w2 wc)) (fun o _ => R.length - (intOf o).toNat)
  case atStart => exact ⟨0, Nat.zero_le _, rfl, Lib.hid (fun _ _ h => by omega), Lib.hid (Below.refl _ _)⟩
  case round =>
    obtain ⟨k, hk, rfl, hno, HB⟩ := hrel
    have H3 : Hid (Qu wr b T (.slice pp R.length c) R) := Lib.hid (H2.out.kept HB.out)
    have HBX3 : Hid (Blk wr tb (pend ⟨j, i, u, d⟩) 29) := Lib.hid (HBX.out.kept HB.out)
    have e0 := HBX3.out.cell (j := 0) rfl
    have e1 := HBX3.out.cell (j := 1) rfl
    have e2 := HBX3.out.cell (j := 2) rfl
    have e3 := HBX3.out.cell (j := 3) rfl
    by_cases hlt : k < R.length
    · obtain ⟨x, hxe⟩ : ∃ x, x = R[k] := ⟨_, rfl⟩
      have hx' : R[k]? = some x := by rw [hxe, List.getElem?_eq_getElem hlt]
      obtain ⟨g, cap, e, -⟩ := H3.out.lies (by omega)
      simp only [Value.slice.injEq] at e
      obtain ⟨rfl, -, rfl⟩ := e
      have c1 := own_cell H3.out.own (rptrs_at hx')
      have d0 := (H3.out.row hx').blk.cell (j := 0) rfl
      have d1 := (H3.out.row hx').blk.cell (j := 1) rfl
      have i1 : (k : Int) < (R.length : Int) := by omega
      have HX := Lib.hid hx'
      have hkey : x.a.key = (x.a.key.1, x.a.key.2) := rfl
      cases hu : (x.a.key.1.toList == u.toList)
      · have HN : Hid (∀ j' (h : j' < R.length), j' < k + 1 → R[j'].a.key ≠ (u, d)) := Lib.hid fun j' hj hjk => by
          by_cases hjk2 : j' < k
          · exact hno.out j' hj hjk2
          · obtain rfl : j' = k := by omega
            rw [← hxe]
            intro e
            rw [toList_eq, e] at hu
            simp at hu
        clear hxe hx' hkey
        go_wp2
        go_quiet (fail)
        go_wp2
        go_roundw
        case rel => exact ⟨k + 1, hlt, by go_num, HN, Lib.hid (below_and HB.out (below_drewN _))⟩
        case measure => simp [intOf]; omega
      · have hue : x.a.key.1 = u := by rw [toList_eq] at hu; simpa using hu
        cases hd : (x.a.key.2 == d)
        · have HN : Hid (∀ j' (h : j' < R.length), j' < k + 1 → R[j'].a.key ≠ (u, d)) := Lib.hid fun j' hj hjk => by
            by_cases hjk2 : j' < k
            · exact hno.out j' hj hjk2
            · obtain rfl : j' = k := by omega
              rw [← hxe]
              intro e
              rw [e] at hd
              simp at hd
          clear hxe hx' hkey hue
          go_wp2
          go_quiet (fail)
          go_wp2
          go_roundw
          case rel => exact ⟨k + 1, hlt, by go_num, HN, Lib.hid (below_and HB.out (below_drewN _))⟩
          case measure => simp [intOf]; omega
        · have hke : x.a.key = (u, d) := by rw [hkey, hue]; simp at hd; rw [hd]
          have HF : Hid (rowOf R (u, d) = some k) := Lib.hid (rowOf_some hlt (by rw [← hxe]; exact hke) hno.out)
          have HKE := Lib.hid hke
          clear hxe hx' hkey hue hke
          go_wp2
          go_quiet (fail)
          go_wp2
          obtain ⟨w4, hw4⟩ : ∃ w4, w4 = wr.drewN nq := ⟨_, rfl⟩
          have HB4 : Hid (Below w.heap.size w w4) := Lib.hid (by rw [hw4]; exact below_and HB2.out (below_and HB.out (below_drewN _)))
          have HBX4 : Hid (Blk w4 tb (pend ⟨j, i, u, d⟩) 29) := Lib.hid (by rw [hw4]; exact HBX3.out.kept (below_drewN _))
          have H4 : Hid (RowAt w4 x) := Lib.hid (by rw [hw4]; exact (H3.out.row HX.out).fr (Fr.of_below (below_drewN _) []) (fun _ _ => by simp))
          rw [← hw4]
          clear hw4 e0 e1 e2 e3 c1 d0 d1 hu hd
          have e0 := HBX4.out.cell (j := 0) rfl
          have e1 := HBX4.out.cell (j := 1) rfl
          have e2 := HBX4.out.cell (j := 2) rfl
          have e3 := HBX4.out.cell (j := 3) rfl
          have d3 := H4.out.blk.cell (j := 3) rfl
          obtain ⟨xg, xv, xk, xt, xps⟩ := x
          obtain ⟨xq, xo, xc, hxv, -⟩ := H4.out.own.shape
          simp only at hxv
          subst hxv
          have HPL : Hid (xps.length ≤ 900000) := Lib.hid (HPS.out _ (List.mem_of_getElem? HX.out))
          have HNE : Hid (some xg ≠ some xq) := Lib.hid (fun e => H4.out.ne (by simp only [Value.ownBlock]; rw [e]))
          obtain ⟨w5, hw5⟩ : ∃ w5, w5 = (w4.alloc (.cells #[.string j, .int .i64 i, .string u, .int .i64 d] 29)).drew := ⟨_, rfl⟩
          have o1 : Hid (OwnO ((w4.alloc (.cells #[.string j, .int .i64 i, .string u, .int .i64 d] 29)).drew) 29 4 (.slice (some ⟨xq, xo, none⟩) xps.length xc) xps.length (pcells xps)) := Lib.hid (H4.out.own.kept (below_ad w4 _))
          have o2 : Hid (Src Try.prog 4 22 (.slice (some ⟨w4.heap.size, 0, none⟩) 1 1) 1 (pend ⟨j, i, u, d⟩) ((w4.alloc (.cells #[.string j, .int .i64 i, .string u, .int .i64 d] 29)).drew)) := Lib.hid (src_block Try.underlying22 ((w4.alloc (.cells #[.string j, .int .i64 i, .string u, .int .i64 d] 29)).drew) _ #[.string j, .int .i64 i, .string u, .int .i64 d] (heap_alloc_new w4 _) rfl (pend_one ⟨j, i, u, d⟩))
          have b1 : Hid (Blk ((w4.alloc (.cells #[.string j, .int .i64 i, .string u, .int .i64 d] 29)).drew) xg [.string xk.1, .int .i64 xk.2, .int .u64 xt, .slice (some ⟨xq, xo, none⟩) xps.length xc] 62) := Lib.hid (H4.out.blk.kept (below_ad w4 _))
          have d4 : (w4.alloc (.cells #[.string j, .int .i64 i, .string u, .int .i64 d] 29)).cell? ⟨xg, 3, none⟩ = _ := b1.out.cell (j := 3) rfl
          go_region_law (refine step_appO rfl (.tmp 70) (.tmp 72) 22 22 rfl 29 i0 (.agg #[.string ⟨#[]⟩, .int .i64 0, .string ⟨#[]⟩, .int .i64 0]) 4 48 Try.underlying22 hi hz0 hz1 hz2 rfl xq xo xc xps.length (pcells xps) (by simp [Act.eval, Act.put]) o1.out (.slice (some ⟨w4.heap.size, 0, none⟩) 1 1) 1 (pend ⟨j, i, u, d⟩) (by simp [Act.eval, Act.put]) o2.out (by have := HPL.out; unfold maxLen; omega) (by have := HPL.out; omega) ?_; intro v2 w6 ho2 hg2 hr2 hk2; obtain ⟨q2, p2, c2, rfl, -, -, -⟩ := ho2.shape; have g1 := (b1.out.grown hg2 HNE.out).cell (j := 3) rfl; have g2 := (b1.out.grown hg2 HNE.out).free 3; have HO2 := Lib.hid ho2; have HK2 := Lib.hid hk2; have HG2 := Lib.hid hg2; clear ho2 hg2 hr2 hk2)
          all_goals go_wp2
          all_goals go_ret
          all_goals (
            refine ⟨rfl, .inl ⟨k, ⟨xg, .slice (some ⟨xq, xo, none⟩) xps.length xc, ⟨xk, xt, xps⟩⟩, (.slice (some ⟨q2, p2, none⟩) (xps.length + 1) c2), HF.out, HX.out, ?_⟩⟩
            have hsz : w.heap.size ≤ w4.heap.size := HB4.out.size
            have hk6 : ∀ k, (Value.slice (some ⟨q2, p2, none⟩) (xps.length + 1) c2).ownBlock = some k → k = xq ∨ w.heap.size ≤ k := fun k hk => (HK2.out k hk).imp id (fun h => by have h2 : w4.heap.size + 1 ≤ k := (by simpa using h); omega)
            have hfr : Fr (fpR ⟨xg, .slice (some ⟨xq, xo, none⟩) xps.length xc, ⟨xk, xt, xps⟩⟩) w (w6.setCell ⟨xg, 3, none⟩ (.slice (some ⟨q2, p2, none⟩) (xps.length + 1) c2)) := ((Fr.of_below (below_and HB4.out (below_ad w4 _)) _).then ((Fr.of_grown HG2.out).mono (fun k hk => mem_fpR.2 (.inr (by simpa [Value.ownBlock, eq_comm] using hk))))).set (p := ⟨xg, 3, none⟩) (mem_fpR.2 (.inl rfl)) (.slice (some ⟨q2, p2, none⟩) (xps.length + 1) c2)
            have hnew : ∀ k ∈ fpR (⟨xg, (.slice (some ⟨q2, p2, none⟩) (xps.length + 1) c2), ⟨xk, xt, xps ++ [⟨j, i, u, d⟩]⟩⟩ : PRow), k ∈ fpR ⟨xg, .slice (some ⟨xq, xo, none⟩) xps.length xc, ⟨xk, xt, xps⟩⟩ ∨ w.heap.size ≤ k := fun k hk => by
              rcases mem_fpR.1 hk with rfl | hk
              · exact .inl (mem_fpR.2 (.inl rfl))
              · rcases hk6 k hk with rfl | h1
                · exact .inl (mem_fpR.2 (.inr rfl))
                · exact .inr h1
            have hxg : (Value.slice (some ⟨q2, p2, none⟩) (xps.length + 1) c2).ownBlock ≠ some xg := fun e => by
              rcases HK2.out xg e with h1 | h1
              · exact HNE.out (by rw [h1])
              · have h2 : w4.heap.size + 1 ≤ xg := (by simpa using h1)
                have := H4.out.blk.lt
                simp only at this
                omega
            have hrow : RowAt (w6.setCell ⟨xg, 3, none⟩ (.slice (some ⟨q2, p2, none⟩) (xps.length + 1) c2)) ⟨xg, (.slice (some ⟨q2, p2, none⟩) (xps.length + 1) c2), ⟨xk, xt, xps ++ [⟨j, i, u, d⟩]⟩⟩ := by
              refine ⟨(b1.out.grown HG2.out HNE.out).set 3 (.slice (some ⟨q2, p2, none⟩) (xps.length + 1) c2), ?_, hxg⟩
              have := HO2.out.fr ((Fr.refl [xg] w6).set (p := ⟨xg, 3, none⟩) (by simp) (.slice (some ⟨q2, p2, none⟩) (xps.length + 1) c2)) (fun g hg hm => hxg (by rw [hg, List.mem_singleton.1 hm]))
              simp only [List.length_append, List.length_cons, List.length_nil, pcells_append]
              simpa [pcells] using this
            have hq := Qu.set (r' := ⟨xg, .slice (some ⟨q2, p2, none⟩) (xps.length + 1) c2, ⟨xk, xt, xps ++ [⟨j, i, u, d⟩]⟩⟩) H.out HS.out HX.out hfr rfl hrow hnew
            exact ⟨hq.1, hq.2, hfr, fun k hk => (hk6 k hk).imp (fun e => by rw [e]; rfl) id⟩)
    · obtain rfl : k = R.length := by omega
      have HF : Hid (rowOf R (u, d) = none) := Lib.hid (rowOf_none (fun j' hj => hno.out j' hj hj))
      have c2 := H3.out.blk.cell (j := 1) rfl
      have f2 := H3.out.blk.free 1
      have u1 : IntKind.u64.wrap (T + 1) = T + 1 := u64_in (by omega)
      go_wp2
      obtain ⟨w4, hw4⟩ : ∃ w4, w4 = wr.setCell ⟨b, 1, none⟩ (.int .u64 (T + 1)) := ⟨_, rfl⟩
      have HF4 : Hid (Fr (fpW b (.slice pp R.length c)) w w4) := Lib.hid (by rw [hw4]; exact (Fr.of_below (below_and HB2.out HB.out) _).set (p := ⟨b, 1, none⟩) (mem_fpW.2 (.inl rfl)) _)
      have htbb : tb ≠ b := fun e => by have h1 := HTB.out; have h2 := H.out.blk.lt; omega
      have HTV : Hid (tb ∉ fpW b (.slice pp R.length c)) := Lib.hid (fun hm => by
        rcases mem_fpW.1 hm with e | e
        · exact htbb e
        · have h1 := own_hi H.out.own e; have h2 := HTB.out; omega)
      have HBX4 : Hid (Blk w4 tb (pend ⟨j, i, u, d⟩) 29) := Lib.hid (by rw [hw4]; exact HBX3.out.other htbb _)
      have H4 : Hid (Qu w4 b (T + 1) (.slice pp R.length c) R) := Lib.hid (by
        rw [hw4]
        refine H3.out.turn (T := T) (T' := T + 1) ⟨(Fr.refl _ _).set (p := ⟨b, 1, none⟩) (mem_fpW.2 (.inl rfl)) _, fun _ h => .inl h⟩ (fun _ h => h) (H3.out.blk.set 1 _) (own_other H3.out.own H3.out.ne _) H3.out.ne)
      rw [← hw4]
      clear hw4 e0 e1 e2 e3 c2 f2 htbb
      have HSB : ∀ w', Below w4.heap.size w4 w' → (w'.cell? ⟨b, 1, none⟩ = some (.int .u64 (T + 1)) ∧ w'.cell? ⟨tb, 0, none⟩ = some (.string j) ∧ w'.cell? ⟨tb, 1, none⟩ = some (.int .i64 i) ∧ w'.cell? ⟨tb, 2, none⟩ = some (.string u) ∧ w'.cell? ⟨tb, 3, none⟩ = some (.int .i64 d)) := fun w' hb =>
        ⟨(H4.out.kept hb).blk.cell (j := 1) rfl, (HBX4.out.kept hb).cell (j := 0) rfl, (HBX4.out.kept hb).cell (j := 1) rfl, (HBX4.out.kept hb).cell (j := 2) rfl, (HBX4.out.kept hb).cell (j := 3) rfl⟩
      have hb5 := below_alloc w4 (.cells #[.string j, .int .i64 i, .string u, .int .i64 d] 29)
      have hb6 : Below w4.heap.size w4 (((w4.alloc (.cells #[.string j, .int .i64 i, .string u, .int .i64 d] 29)).alloc (.cells #[.string u, .int .i64 d, .int .u64 (T + 1), .slice (some ⟨w4.heap.size, 0, none⟩) 1 1] 62)).drew) := below_and hb5 (below_ad _ _)
      have HK0 := Lib.hid (HSB w4.drew (below_drewN 1))
      have HK1 := Lib.hid (HSB ((w4.alloc (.cells #[.string j, .int .i64 i, .string u, .int .i64 d] 29)).drew) (below_ad w4 _))
      have HK2 := Lib.hid (HSB (((w4.alloc (.cells #[.string j, .int .i64 i, .string u, .int .i64 d] 29)).alloc (.cells #[.string u, .int .i64 d, .int .u64 (T + 1), .slice (some ⟨w4.heap.size, 0, none⟩) 1 1] 62)).drew) hb6)
      have HX6 : Hid (RowAt (((w4.alloc (.cells #[.string j, .int .i64 i, .string u, .int .i64 d] 29)).alloc (.cells #[.string u, .int .i64 d, .int .u64 (T + 1), .slice (some ⟨w4.heap.size, 0, none⟩) 1 1] 62)).drew) ⟨w4.heap.size + 1, .slice (some ⟨w4.heap.size, 0, none⟩) 1 1, ⟨(u, d), T + 1, [⟨j, i, u, d⟩]⟩⟩) := Lib.hid (by
        refine ⟨?_, ⟨by simp [pcells, pend], w4.heap.size, 0, 1, #[.string j, .int .i64 i, .string u, .int .i64 d], rfl, ?_, Nat.le_refl _, by decide, Nat.le_refl _, rfl⟩, by simp [Value.ownBlock]⟩
        · have := (Blk.made (w4.alloc (.cells #[.string j, .int .i64 i, .string u, .int .i64 d] 29)) [.string u, .int .i64 d, .int .u64 (T + 1), .slice (some ⟨w4.heap.size, 0, none⟩) 1 1] 62)
          rw [show (w4.alloc (.cells #[.string j, .int .i64 i, .string u, .int .i64 d] 29)).heap.size = w4.heap.size + 1 by simp] at this
          exact this.kept (below_drewN 1)
        · exact ((Blk.made w4 [.string j, .int .i64 i, .string u, .int .i64 d] 29).kept (below_ad _ _)))
      have HQ6 : Hid (Qu (((w4.alloc (.cells #[.string j, .int .i64 i, .string u, .int .i64 d] 29)).alloc (.cells #[.string u, .int .i64 d, .int .u64 (T + 1), .slice (some ⟨w4.heap.size, 0, none⟩) 1 1] 62)).drew) b (T + 1) (.slice pp R.length c) R) := Lib.hid (H4.out.kept hb6)
      have HXF : Hid (∀ k ∈ fpR ⟨w4.heap.size + 1, .slice (some ⟨w4.heap.size, 0, none⟩) 1 1, ⟨(u, d), T + 1, [⟨j, i, u, d⟩]⟩⟩, w4.heap.size ≤ k) := Lib.hid (fun k hk => by
        rcases mem_fpR.1 hk with rfl | hk
        · simp
        · simp [Value.ownBlock] at hk; omega)
      have HXW : Hid (∀ k ∈ fpR ⟨w4.heap.size + 1, .slice (some ⟨w4.heap.size, 0, none⟩) 1 1, ⟨(u, d), T + 1, [⟨j, i, u, d⟩]⟩⟩, k ∉ fpW b (.slice pp R.length c)) := Lib.hid (fun k hk hm => by
        have h1 := HXF.out k hk
        rcases mem_fpW.1 hm with rfl | e
        · have := H4.out.blk.lt; omega
        · have := own_hi H4.out.own e; omega)
      clear hb5 hb6 HSB
      go_region_held3 (fun w' => (w'.cell? ⟨b, 1, none⟩ = some (.int .u64 (T + 1)) ∧ w'.cell? ⟨tb, 0, none⟩ = some (.string j) ∧ w'.cell? ⟨tb, 1, none⟩ = some (.int .i64 i) ∧ w'.cell? ⟨tb, 2, none⟩ = some (.string u) ∧ w'.cell? ⟨tb, 3, none⟩ = some (.int .i64 d)))
        (first | with_reducible exact HK0.out | with_reducible exact HK1.out | with_reducible exact HK2.out | with_reducible exact HK7.out | exact HK0.out | exact HK1.out | exact HK2.out)
        ((go_at_call 29; refine (hpush_any b ⟨w4.heap.size + 1, .slice (some ⟨w4.heap.size, 0, none⟩) 1 1, ⟨(u, d), T + 1, [⟨j, i, u, d⟩]⟩⟩ (T + 1) (.slice pp R.length c) R _ HQ6.out HX6.out HXW.out hl).mono ?_; rintro e w7 ⟨rfl, v7, hw, hst⟩; have HW7 := Lib.hid hw; have HST := Lib.hid hst; have HBX7 := Lib.hid (HBX4.out.kept (below_and (below_alloc w4 _) (below_ad _ _)) |>.fr hst.fr HTV.out); have HK7 : Hid (w7.cell? ⟨b, 1, none⟩ = some (.int .u64 (T + 1)) ∧ w7.cell? ⟨tb, 0, none⟩ = some (.string j) ∧ w7.cell? ⟨tb, 1, none⟩ = some (.int .i64 i) ∧ w7.cell? ⟨tb, 2, none⟩ = some (.string u) ∧ w7.cell? ⟨tb, 3, none⟩ = some (.int .i64 d)) := Lib.hid ⟨hw.blk.cell (j := 1) rfl, HBX7.out.cell (j := 0) rfl, HBX7.out.cell (j := 1) rfl, HBX7.out.cell (j := 2) rfl, HBX7.out.cell (j := 3) rfl⟩; clear hw hst))
      all_goals go_wp2
      all_goals go_ret
      all_goals (
        have hfr : Fr (fpW b (.slice pp R.length c)) w w7 := (HF4.out.then (Fr.of_below (below_and (below_alloc w4 _) (below_ad _ _)) _)).then HST.out.fr
        have hsz := HF4.out.size
        refine ⟨rfl, .inr ⟨HF.out, ⟨w4.heap.size + 1, .slice (some ⟨w4.heap.size, 0, none⟩) 1 1, ⟨(u, d), T + 1, [⟨j, i, u, d⟩]⟩⟩, v7, rfl, fun k hk => Nat.le_trans hsz (HXF.out k hk), HW7.out, ?_, hfr, fun k hk => (HST.out.new k hk).imp id (fun h => ?_)⟩⟩
        · exact (SepR.add HS.out (fun k hk => HXF.out k hk) (fun s hs k hk => ((H4.out.rows s hs).1.lt hk))).perm (Hp.push_perm rlt R _).symm
        · have h2 : w4.heap.size + 1 + 1 ≤ k := (by simpa using h)
          omega)
end Go.Proofs.Ytlemfbgmhjklaaa
