/- resource.Scale -/
import Derived.Test.YtmgecehdicpjnaaDoorAddP
import Derived.Deep.QuietTactic
import Derived.BigQuiet
namespace Go.Proofs.YtmgecehdicpjnaaDoor
open Go.RowKit

def scaleR (x : Am) (n : Int) : Am × Int :=
  if x.okB = false ∨ n < 0 then (.zero, 2) else if any4 (fun k => decide (0 < n ∧ 1099511627776 / n < x.get k)) = true then (.zero, 9) else (.of fun k => x.get k * n, 0)
theorem scaleR_bad {x : Am} {n : Int} (h : x.okB = false ∨ n < 0) : scaleR x n = (.zero, 2) := by unfold scaleR; rw [if_pos h]
theorem scaleR_over {x : Am} {n : Int} (h : x.okB = true) (hn : 0 < n) {k : Nat} (hk : k < 4) (ho : 1099511627776 / n < x.get k) : scaleR x n = (.zero, 9) := by
  unfold scaleR; rw [if_neg (by rw [h]; simp; omega), if_pos (any4_yes hk (by simp [hn, ho]))]
theorem scaleR_ok {x z : Am} {n : Int} (h : x.okB = true) (hn : 0 ≤ n) (ho : ∀ k, k < 4 → 0 < n → x.get k ≤ 1099511627776 / n) (hz : ∀ k, k < 4 → z.get k = x.get k * n) : scaleR x n = (z, 0) := by
  unfold scaleR
  rw [if_neg (by rw [h]; simp; omega), if_neg (by rw [any4_no (fun k hk => by have := ho k hk; simp; intro h0; have := this h0; omega)]; decide)]
  congr 1
  exact Am.ext_get fun k hk => by rw [Am.of_get _ k hk, hz k hk]

set_option maxRecDepth 100000 in
set_option maxHeartbeats 2000000 in
theorem scale_bad (x : Am) (n : Int) (w : World) (h : x.okB = false ∨ n < 0) :
    Calls Tryd.prog 15 #[amV x, .int .i64 n] w fun e w' => e = .returned (.tuple #[amV (scaleR x n).1, .int .i64 (scaleR x n).2]) ∧ Below w.heap.size w w' := by
  have HR := Lib.hid (scaleR_bad h)
  obtain ⟨w3, hw3⟩ : ∃ w3, w3 = ((w.alloc (.cells #[.int .i64 x.c, .int .i64 x.r, .int .i64 x.d, .int .i64 x.p] 23)).alloc (.cells #[.int .i64 0, .int .i64 0, .int .i64 0, .int .i64 0] 23)) := ⟨_, rfl⟩
  obtain ⟨B, hB⟩ : ∃ B, B = w.heap.size := ⟨_, rfl⟩
  have B0 : Hid (Blk w3 B (amC x) 23) := Lib.hid (by
    have := (Blk.made w (amC x) 23).alloc (.cells #[.int .i64 0, .int .i64 0, .int .i64 0, .int .i64 0] 23)
    rw [hw3, hB]; exact this)
  have B2 : Hid (Blk w3 (B + 1) (amC .zero) 23) := Lib.hid (by
    have := (Blk.made (w.alloc (.cells #[.int .i64 x.c, .int .i64 x.r, .int .i64 x.d, .int .i64 x.p] 23)) (amC .zero) 23)
    rw [hw3, hB]; simpa [Am.zero] using this)
  have HBW0 : Hid (w.heap.size ≤ B) := Lib.hid (by omega)
  have HBL : Hid (Below w.heap.size w w3) := Lib.hid (by rw [hw3]; exact below_and (below_alloc w _) (below_alloc _ _))
  have c0 := B0.out.cell (j := 0) rfl
  have c1 := B0.out.cell (j := 1) rfl
  have c2 := B0.out.cell (j := 2) rfl
  have c3 := B0.out.cell (j := 3) rfl
  cases hq : x.okB
  · have HA := Lib.hid hq
    clear h hq
    go_enter Tryd.func15, Tryd.ntmps15
    go_upto_region 1 with fail
    rw [← hw3, ← hB]
    clear hw3 hB
    go_wp2_with (go_at_call 32; refine (all_one w3 x).mono ?_; rw [HA.out]; rintro e ws ⟨rfl, hb⟩; have hbr := B2.out.kept hb; have C2 := Lib.hid hbr; have HBS := Lib.hid (below_and HBL.out hb); have r0 := hbr.cell (j := 0) rfl; have r1 := hbr.cell (j := 1) rfl; have r2 := hbr.cell (j := 2) rfl; have r3 := hbr.cell (j := 3) rfl; have f0 := hbr.free 0; have f1 := hbr.free 1; have f2 := hbr.free 2; have f3 := hbr.free 3; clear hb hbr)
    refine bodyPost_ret (results_row_tmp rfl _ _ (B + 1) 23 #[.int .i64 0, .int .i64 0, .int .i64 0, .int .i64 0] (0, 0) _ rfl ?_ Tryd.underlying23 rfl (by kernel_rfl)) rfl ⟨?_, ?_⟩
    · exact (((C2.out.set 0 (.int .i64 0)).set 1 (.int .i64 0)).set 2 (.int .i64 0)).set 3 (.int .i64 0)
    · rw [HR.out]; rfl
    · have hBw : w.heap.size ≤ B + 1 := by have := HBW0.out; omega
      exact (((HBS.out.setCell (p := ⟨B + 1, 0, none⟩) hBw _).setCell (p := ⟨B + 1, 1, none⟩) hBw _).setCell (p := ⟨B + 1, 2, none⟩) hBw _).setCell (p := ⟨B + 1, 3, none⟩) hBw _
  · have HA := Lib.hid hq
    have hn : n < 0 := h.resolve_left (by rw [hq]; decide)
    clear h hq
    go_enter Tryd.func15, Tryd.ntmps15
    go_upto_region 1 with fail
    rw [← hw3, ← hB]
    clear hw3 hB
    go_wp2_with (go_at_call 32; refine (all_one w3 x).mono ?_; rw [HA.out]; rintro e ws ⟨rfl, hb⟩; have hbr := B2.out.kept hb; have C2 := Lib.hid hbr; have HBS := Lib.hid (below_and HBL.out hb); have r0 := hbr.cell (j := 0) rfl; have r1 := hbr.cell (j := 1) rfl; have r2 := hbr.cell (j := 2) rfl; have r3 := hbr.cell (j := 3) rfl; have f0 := hbr.free 0; have f1 := hbr.free 1; have f2 := hbr.free 2; have f3 := hbr.free 3; clear hb hbr)
    refine bodyPost_ret (results_row_tmp rfl _ _ (B + 1) 23 #[.int .i64 0, .int .i64 0, .int .i64 0, .int .i64 0] (0, 0) _ rfl ?_ Tryd.underlying23 rfl (by kernel_rfl)) rfl ⟨?_, ?_⟩
    · exact (((C2.out.set 0 (.int .i64 0)).set 1 (.int .i64 0)).set 2 (.int .i64 0)).set 3 (.int .i64 0)
    · rw [HR.out]; rfl
    · have hBw : w.heap.size ≤ B + 1 := by have := HBW0.out; omega
      exact (((HBS.out.setCell (p := ⟨B + 1, 0, none⟩) hBw _).setCell (p := ⟨B + 1, 1, none⟩) hBw _).setCell (p := ⟨B + 1, 2, none⟩) hBw _).setCell (p := ⟨B + 1, 3, none⟩) hBw _

set_option maxRecDepth 100000 in
set_option maxHeartbeats 2000000 in
theorem scale_good (x : Am) (n : Int) (w : World) (hx : x.okB = true) (hn : 0 ≤ n) (hn2 : n ≤ 9223372036854775807) :
    Calls Tryd.prog 15 #[amV x, .int .i64 n] w fun e w' => e = .returned (.tuple #[amV (scaleR x n).1, .int .i64 (scaleR x n).2]) ∧ Below w.heap.size w w' := by
  have HA := Lib.hid hx
  obtain ⟨w3, hw3⟩ : ∃ w3, w3 = ((w.alloc (.cells #[.int .i64 x.c, .int .i64 x.r, .int .i64 x.d, .int .i64 x.p] 23)).alloc (.cells #[.int .i64 0, .int .i64 0, .int .i64 0, .int .i64 0] 23)) := ⟨_, rfl⟩
  obtain ⟨B, hB⟩ : ∃ B, B = w.heap.size := ⟨_, rfl⟩
  have B0 : Hid (Blk w3 B (amC x) 23) := Lib.hid (by
    have := (Blk.made w (amC x) 23).alloc (.cells #[.int .i64 0, .int .i64 0, .int .i64 0, .int .i64 0] 23)
    rw [hw3, hB]; exact this)
  have B2 : Hid (Blk w3 (B + 1) (amC .zero) 23) := Lib.hid (by
    have := (Blk.made (w.alloc (.cells #[.int .i64 x.c, .int .i64 x.r, .int .i64 x.d, .int .i64 x.p] 23)) (amC .zero) 23)
    rw [hw3, hB]; simpa [Am.zero] using this)
  have HBW0 : Hid (w.heap.size ≤ B) := Lib.hid (by omega)
  have HBL : Hid (Below w.heap.size w w3) := Lib.hid (by rw [hw3]; exact below_and (below_alloc w _) (below_alloc _ _))
  have c0 := B0.out.cell (j := 0) rfl
  have c1 := B0.out.cell (j := 1) rfl
  have c2 := B0.out.cell (j := 2) rfl
  have c3 := B0.out.cell (j := 3) rfl
  obtain ⟨z, hz⟩ : ∃ z : Am, z = .of fun k => x.get k * n := ⟨_, rfl⟩
  have HZ : Hid (∀ k, k < 4 → z.get k = x.get k * n) := Lib.hid (fun k hk => by rw [hz, Am.of_get _ k hk])
  clear hz hx
  have hd0 : decide (n < 0) = false := by simpa using hn
  go_enter Tryd.func15, Tryd.ntmps15
  go_upto_region 1 with fail
  rw [← hw3, ← hB]
  clear hw3 hB
  go_upto_region 4 with (first
    | (go_at_call 32; refine (all_one w3 x).mono ?_; rw [HA.out]; rintro e ws ⟨rfl, hb⟩; have hb0 := B0.out.kept hb; have hbr := B2.out.kept hb; have C2 := Lib.hid hbr; have HBS := Lib.hid (below_and HBL.out hb); have HBSW : Hid (B + 2 ≤ ws.heap.size) := Lib.hid (by have := hbr.lt; omega); clear c0 c1 c2 c3; have c0 := hb0.cell (j := 0) rfl; have c1 := hb0.cell (j := 1) rfl; have c2 := hb0.cell (j := 2) rfl; have c3 := hb0.cell (j := 3) rfl; clear hb hbr hb0)
    | (go_at_call 33; refine (array_any x _).mono ?_; rintro e wa ⟨rfl, hb⟩; have HBa := Lib.hid hb; clear hb))
  obtain ⟨wb, hwb⟩ : ∃ wb, wb = wa.alloc (.cells #[.int .i64 x.c, .int .i64 x.r, .int .i64 x.d, .int .i64 x.p] 50) := ⟨_, rfl⟩
  obtain ⟨g, hg⟩ : ∃ g, g = wa.heap.size := ⟨_, rfl⟩
  have HG : Hid (Blk wb g (amC x) 50) := Lib.hid (by rw [hwb, hg]; exact Blk.made wa (amC x) _)
  have HBB : Hid (Below ws.heap.size ws wb) := Lib.hid (by rw [hwb]; exact below_and HBa.out (below_alloc _ _))
  have HGS : Hid (ws.heap.size ≤ g) := Lib.hid (by rw [hg]; exact HBa.out.size)
  rw [← hwb, ← hg]
  clear hwb hg c0 c1 c2 c3
  go_wp2
  go_loopw [19] (fun i wc => ∃ k : Nat, k ≤ 4 ∧ i = .int .i64 (k : Int) ∧ Hid (Blk wc g (amC (Am.mix k x z)) 50) ∧ Hid (Below ws.heap.size ws wc) ∧ Hid (∀ j, j < k → 0 < n → x.get j ≤ 1099511627776 / n)) (fun i _ => 4 - (intOf i).toNat)
  case atStart => exact ⟨0, Nat.zero_le _, rfl, HG, HBB, Lib.hid (fun j h => by omega)⟩
  case round =>
    obtain ⟨k, hk, rfl, HXa, HBx, HO⟩ := hrel
    by_cases hlt : k < 4
    · have i0 : (0 : Int) ≤ (k : Int) := by omega
      have i1 : (k : Int) < 4 := by omega
      have hx := HXa.out.cell (Am.mix_get k hlt x z)
      have fx := HXa.out.free k
      have hzk := HZ.out k hlt
      obtain ⟨p, hp⟩ : ∃ p, p = x.get k := ⟨_, rfl⟩
      have p0 : 0 ≤ p ∧ p ≤ 1099511627776 := by rw [hp]; exact ok_get HA.out hlt
      obtain ⟨p1, p2⟩ := p0
      rw [← hp] at hx hzk
      have HZK := Lib.hid hzk
      have HP := Lib.hid hp
      have BR : Hid (Blk wr (B + 1) (amC .zero) 23) := Lib.hid (C2.out.kept HBx.out)
      clear hp hzk
      by_cases hn0 : n = 0
      · subst hn0
        have HO2 : Hid (∀ j, j < k + 1 → (0 : Int) < 0 → x.get j ≤ 1099511627776 / 0) := Lib.hid (fun j _ h => by omega)
        have s1 : IntKind.i64.wrap (p * 0) = p * 0 := by rw [IntKind.wrap_i64]; omega
        go_wp2
        go_quiet (fail)
        go_wp2
        go_roundw
        case rel => exact ⟨k + 1, by omega, by go_num, Lib.hid (by
            have := (HXa.out.kept (below_drewN nq)).set k (.int .i64 (z.get k))
            rw [Am.mix_set k hlt, HZK.out] at this
            simpa using this), Lib.hid ((Below.drewN' HBx.out nq).setCell (p := ⟨g, k, none⟩) HGS.out _), HO2⟩
        case measure => simp [intOf]; omega
      · have hn1 : 0 < n := by omega
        have e0 : (n == 0) = false := by simpa using hn0
        by_cases hov : 1099511627776 / n < p
        · have HR := Lib.hid (scaleR_over (x := x) (n := n) HA.out hn1 hlt (by have := HP.out; omega))
          have hbr := BR.out
          have r0 := hbr.cell (j := 0) rfl
          have r1 := hbr.cell (j := 1) rfl
          have r2 := hbr.cell (j := 2) rfl
          have r3 := hbr.cell (j := 3) rfl
          have f0 := hbr.free 0
          have f1 := hbr.free 1
          have f2 := hbr.free 2
          have f3 := hbr.free 3
          have HBRq : Hid (∀ nq, Blk (wr.drewN nq) (B + 1) (amC .zero) 23) := Lib.hid fun nq => BR.out.kept (below_drewN nq)
          have HBLq : Hid (∀ nq, Below w.heap.size w (wr.drewN nq)) := Lib.hid fun nq => below_and (below_and HBS.out HBx.out) (below_drewN nq)
          clear hbr
          go_wp2
          go_quiet (fail)
          go_wp2
          refine bodyPost_ret (results_row_tmp rfl _ _ (B + 1) 23 #[.int .i64 0, .int .i64 0, .int .i64 0, .int .i64 0] (0, 0) _ rfl ?_ Tryd.underlying23 rfl (by kernel_rfl)) rfl ⟨?_, ?_⟩
          · exact ((((HBRq.out nq).set 0 (.int .i64 0)).set 1 (.int .i64 0)).set 2 (.int .i64 0)).set 3 (.int .i64 0)
          · rw [HR.out]; rfl
          · have hBw : w.heap.size ≤ B + 1 := by have := HBW0.out; omega
            exact ((((HBLq.out nq).setCell (p := ⟨B + 1, 0, none⟩) hBw _).setCell (p := ⟨B + 1, 1, none⟩) hBw _).setCell (p := ⟨B + 1, 2, none⟩) hBw _).setCell (p := ⟨B + 1, 3, none⟩) hBw _
        · have hd : decide (1099511627776 / n < p) = false := by simpa using hov
          have HO2 : Hid (∀ j, j < k + 1 → 0 < n → x.get j ≤ 1099511627776 / n) := Lib.hid (fun j hj hnn => by
            by_cases h : j < k
            · exact HO.out j h hnn
            · obtain rfl : j = k := by omega
              have := HP.out; omega)
          have m1 : 0 ≤ p * n := Int.mul_nonneg p1 hn
          have m2 : p * n ≤ 1099511627776 := (Int.le_ediv_iff_mul_le hn1).1 (by omega)
          have s1 : IntKind.i64.wrap (p * n) = p * n := by rw [IntKind.wrap_i64]; omega
          go_wp2
          go_quiet (fail)
          go_wp2
          go_roundw
          case rel => exact ⟨k + 1, by omega, by go_num, Lib.hid (by
              have := (HXa.out.kept (below_drewN nq)).set k (.int .i64 (z.get k))
              rw [Am.mix_set k hlt, HZK.out] at this
              exact this), Lib.hid ((Below.drewN' HBx.out nq).setCell (p := ⟨g, k, none⟩) HGS.out _), HO2⟩
          case measure => simp [intOf]; omega
    · obtain rfl : k = 4 := by omega
      have HR := Lib.hid (scaleR_ok (x := x) (z := z) HA.out hn HO.out HZ.out)
      have hx4 : Blk wr g (amC z) 50 := HXa.out
      have z0 := hx4.cell (j := 0) rfl
      have z1 := hx4.cell (j := 1) rfl
      have z2 := hx4.cell (j := 2) rfl
      have z3 := hx4.cell (j := 3) rfl
      have BR : Hid (Blk wr (B + 1) (amC .zero) 23) := Lib.hid (C2.out.kept HBx.out)
      clear hx4
      go_wp2_with (go_at_call 43; refine (amounts_any z _).mono ?_; rintro e w5 ⟨rfl, hb⟩; have hbr := BR.out.kept hb; have r0 := hbr.cell (j := 0) rfl; have r1 := hbr.cell (j := 1) rfl; have r2 := hbr.cell (j := 2) rfl; have r3 := hbr.cell (j := 3) rfl; have f0 := hbr.free 0; have f1 := hbr.free 1; have f2 := hbr.free 2; have f3 := hbr.free 3; have BR5 := Lib.hid hbr; have HB5 := Lib.hid (below_and HBS.out (below_and HBx.out hb)); clear hb hbr)
      refine bodyPost_ret (results_row_tmp rfl _ _ (B + 1) 23 #[.int .i64 z.c, .int .i64 z.r, .int .i64 z.d, .int .i64 z.p] (0, 0) _ rfl ?_ Tryd.underlying23 rfl (by kernel_rfl)) rfl ⟨?_, ?_⟩
      · exact (((BR5.out.set 0 (.int .i64 z.c)).set 1 (.int .i64 z.r)).set 2 (.int .i64 z.d)).set 3 (.int .i64 z.p)
      · rw [HR.out]; rfl
      · have hBw : w.heap.size ≤ B + 1 := by have := HBW0.out; omega
        exact (((HB5.out.setCell (p := ⟨B + 1, 0, none⟩) hBw _).setCell (p := ⟨B + 1, 1, none⟩) hBw _).setCell (p := ⟨B + 1, 2, none⟩) hBw _).setCell (p := ⟨B + 1, 3, none⟩) hBw _
end Go.Proofs.YtmgecehdicpjnaaDoor
