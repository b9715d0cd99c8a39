/- The document's Scale -/
import Derived.Test.YtmgecehdicpjnaaDoorRFour
namespace Go.Proofs.YtmgecehdicpjnaaDoor
open Go.RowKit

set_option maxRecDepth 100000 in
set_option maxHeartbeats 2000000 in
theorem rscale_bad (x : Am) (n : Int) (w : World) (h : x.okB = false ∨ n < 0) :
    Calls Tryd.prog 24 #[amV x, .int .i64 n] w fun e w' => e = .returned (.tuple #[amV (scaleR x n).1, .int .i64 (scaleR x n).2]) ∧ Below w.heap.size w w' := by
  have HR := Lib.hid (scaleR_bad h)
  obtain ⟨w3, hw3⟩ : ∃ w3, w3 = ((w.alloc (.cells #[.int .i64 x.c, .int .i64 x.r, .int .i64 x.d, .int .i64 x.p] 23)).alloc (.cells #[.int .i64 0, .int .i64 0, .int .i64 0, .int .i64 0] 23)) := ⟨_, rfl⟩
  obtain ⟨B, hB⟩ : ∃ B, B = w.heap.size := ⟨_, rfl⟩
  have B0 : Hid (Blk w3 B (amC x) 23) := Lib.hid (by
    have := (Blk.made w (amC x) 23).alloc (.cells #[.int .i64 0, .int .i64 0, .int .i64 0, .int .i64 0] 23)
    rw [hw3, hB]; exact this)
  have B2 : Hid (Blk w3 (B + 1) (amC .zero) 23) := Lib.hid (by
    have := (Blk.made (w.alloc (.cells #[.int .i64 x.c, .int .i64 x.r, .int .i64 x.d, .int .i64 x.p] 23)) (amC .zero) 23)
    rw [hw3, hB]; simpa [Am.zero] using this)
  have HBW0 : Hid (w.heap.size ≤ B) := Lib.hid (by omega)
  have HBL : Hid (Below w.heap.size w w3) := Lib.hid (by rw [hw3]; exact below_and (below_alloc w _) (below_alloc _ _))
  have c0 := B0.out.cell (j := 0) rfl
  have c1 := B0.out.cell (j := 1) rfl
  have c2 := B0.out.cell (j := 2) rfl
  have c3 := B0.out.cell (j := 3) rfl
  cases hq : x.okB
  · have HA := Lib.hid hq
    clear h hq
    go_enter Tryd.func24, Tryd.ntmps24
    go_upto_region 1 with fail
    rw [← hw3, ← hB]
    clear hw3 hB
    go_wp2_with (go_at_call 37; refine (wrong_one w3 x).mono ?_; rw [HA.out]; rintro e ws ⟨rfl, hb⟩; have hbr := B2.out.kept hb; have C2 := Lib.hid hbr; have HBS := Lib.hid (below_and HBL.out hb); have r0 := hbr.cell (j := 0) rfl; have r1 := hbr.cell (j := 1) rfl; have r2 := hbr.cell (j := 2) rfl; have r3 := hbr.cell (j := 3) rfl; have f0 := hbr.free 0; have f1 := hbr.free 1; have f2 := hbr.free 2; have f3 := hbr.free 3; clear hb hbr)
    refine bodyPost_ret (results_row_tmp rfl _ _ (B + 1) 23 #[.int .i64 0, .int .i64 0, .int .i64 0, .int .i64 0] (0, 0) _ rfl ?_ Tryd.underlying23 rfl (by kernel_rfl)) rfl ⟨?_, ?_⟩
    · exact (((C2.out.set 0 (.int .i64 0)).set 1 (.int .i64 0)).set 2 (.int .i64 0)).set 3 (.int .i64 0)
    · rw [HR.out]; rfl
    · have hBw : w.heap.size ≤ B + 1 := by have := HBW0.out; omega
      exact (((HBS.out.setCell (p := ⟨B + 1, 0, none⟩) hBw _).setCell (p := ⟨B + 1, 1, none⟩) hBw _).setCell (p := ⟨B + 1, 2, none⟩) hBw _).setCell (p := ⟨B + 1, 3, none⟩) hBw _
  · have HA := Lib.hid hq
    have hn : n < 0 := h.resolve_left (by rw [hq]; decide)
    clear h hq
    go_enter Tryd.func24, Tryd.ntmps24
    go_upto_region 1 with fail
    rw [← hw3, ← hB]
    clear hw3 hB
    go_wp2_with (go_at_call 37; refine (wrong_one w3 x).mono ?_; rw [HA.out]; rintro e ws ⟨rfl, hb⟩; have hbr := B2.out.kept hb; have C2 := Lib.hid hbr; have HBS := Lib.hid (below_and HBL.out hb); have r0 := hbr.cell (j := 0) rfl; have r1 := hbr.cell (j := 1) rfl; have r2 := hbr.cell (j := 2) rfl; have r3 := hbr.cell (j := 3) rfl; have f0 := hbr.free 0; have f1 := hbr.free 1; have f2 := hbr.free 2; have f3 := hbr.free 3; clear hb hbr)
    refine bodyPost_ret (results_row_tmp rfl _ _ (B + 1) 23 #[.int .i64 0, .int .i64 0, .int .i64 0, .int .i64 0] (0, 0) _ rfl ?_ Tryd.underlying23 rfl (by kernel_rfl)) rfl ⟨?_, ?_⟩
    · exact (((C2.out.set 0 (.int .i64 0)).set 1 (.int .i64 0)).set 2 (.int .i64 0)).set 3 (.int .i64 0)
    · rw [HR.out]; rfl
    · have hBw : w.heap.size ≤ B + 1 := by have := HBW0.out; omega
      exact (((HBS.out.setCell (p := ⟨B + 1, 0, none⟩) hBw _).setCell (p := ⟨B + 1, 1, none⟩) hBw _).setCell (p := ⟨B + 1, 2, none⟩) hBw _).setCell (p := ⟨B + 1, 3, none⟩) hBw _

set_option maxRecDepth 100000 in
set_option maxHeartbeats 2000000 in
theorem rscale_good (x : Am) (n : Int) (w : World) (hx : x.okB = true) (hn : 0 ≤ n) (hn2 : n ≤ 9223372036854775807) :
    Calls Tryd.prog 24 #[amV x, .int .i64 n] w fun e w' => e = .returned (.tuple #[amV (scaleR x n).1, .int .i64 (scaleR x n).2]) ∧ Below w.heap.size w w' := by
  have HA := Lib.hid hx
  obtain ⟨w3, hw3⟩ : ∃ w3, w3 = ((w.alloc (.cells #[.int .i64 x.c, .int .i64 x.r, .int .i64 x.d, .int .i64 x.p] 23)).alloc (.cells #[.int .i64 0, .int .i64 0, .int .i64 0, .int .i64 0] 23)) := ⟨_, rfl⟩
  obtain ⟨B, hB⟩ : ∃ B, B = w.heap.size := ⟨_, rfl⟩
  have B0 : Hid (Blk w3 B (amC x) 23) := Lib.hid (by
    have := (Blk.made w (amC x) 23).alloc (.cells #[.int .i64 0, .int .i64 0, .int .i64 0, .int .i64 0] 23)
    rw [hw3, hB]; exact this)
  have B2 : Hid (Blk w3 (B + 1) (amC .zero) 23) := Lib.hid (by
    have := (Blk.made (w.alloc (.cells #[.int .i64 x.c, .int .i64 x.r, .int .i64 x.d, .int .i64 x.p] 23)) (amC .zero) 23)
    rw [hw3, hB]; simpa [Am.zero] using this)
  have HBW0 : Hid (w.heap.size ≤ B) := Lib.hid (by omega)
  have HBL : Hid (Below w.heap.size w w3) := Lib.hid (by rw [hw3]; exact below_and (below_alloc w _) (below_alloc _ _))
  have c0 := B0.out.cell (j := 0) rfl
  have c1 := B0.out.cell (j := 1) rfl
  have c2 := B0.out.cell (j := 2) rfl
  have c3 := B0.out.cell (j := 3) rfl
  obtain ⟨z, hz⟩ : ∃ z : Am, z = .of fun k => x.get k * n := ⟨_, rfl⟩
  have HZ : Hid (∀ k, k < 4 → z.get k = x.get k * n) := Lib.hid (fun k hk => by rw [hz, Am.of_get _ k hk])
  clear hz hx
  have hd0 : decide (n < 0) = false := by simpa using hn
  go_enter Tryd.func24, Tryd.ntmps24
  go_upto_region 1 with fail
  rw [← hw3, ← hB]
  clear hw3 hB
  go_upto_region 4 with (first
    | (go_at_call 37; refine (wrong_one w3 x).mono ?_; rw [HA.out]; rintro e ws ⟨rfl, hb⟩; have hb0 := B0.out.kept hb; have hbr := B2.out.kept hb; have C2 := Lib.hid hbr; have HBS := Lib.hid (below_and HBL.out hb); have HBSW : Hid (B + 2 ≤ ws.heap.size) := Lib.hid (by have := hbr.lt; omega); clear c0 c1 c2 c3; have c0 := hb0.cell (j := 0) rfl; have c1 := hb0.cell (j := 1) rfl; have c2 := hb0.cell (j := 2) rfl; have c3 := hb0.cell (j := 3) rfl; clear hb hbr hb0)
    | (go_at_call 38; refine (four_any x _).mono ?_; rintro e wb ⟨g, rfl, hgs, hblk, hb⟩; have HBB := Lib.hid hb; have HG := Lib.hid hblk; have HGS := Lib.hid hgs; clear hb hblk hgs))
  clear c0 c1 c2 c3
  go_wp2
  go_loopw [7] (fun i wc => ∃ k : Nat, k ≤ 4 ∧ i = .int .i64 (k : Int) ∧ Hid (Blk wc g (amC (Am.mix k x z)) 2) ∧ Hid (Below ws.heap.size ws wc) ∧ Hid (∀ j, j < k → 0 < n → x.get j ≤ 1099511627776 / n)) (fun i _ => 4 - (intOf i).toNat)
  case atStart => exact ⟨0, Nat.zero_le _, rfl, HG, HBB, Lib.hid (fun j h => by omega)⟩
  case round =>
    obtain ⟨k, hk, rfl, HXa, HBx, HO⟩ := hrel
    by_cases hlt : k < 4
    · have i0 : (0 : Int) ≤ (k : Int) := by omega
      have i1 : (k : Int) < 4 := by omega
      have hx := HXa.out.cell (Am.mix_get k hlt x z)
      have fx := HXa.out.free k
      have hzk := HZ.out k hlt
      obtain ⟨p, hp⟩ : ∃ p, p = x.get k := ⟨_, rfl⟩
      have p0 : 0 ≤ p ∧ p ≤ 1099511627776 := by rw [hp]; exact ok_get HA.out hlt
      obtain ⟨p1, p2⟩ := p0
      rw [← hp] at hx hzk
      have HZK := Lib.hid hzk
      have HP := Lib.hid hp
      have BR : Hid (Blk wr (B + 1) (amC .zero) 23) := Lib.hid (C2.out.kept HBx.out)
      clear hp hzk
      have HNX : Hid (Blk (wr.setCell ⟨g, k, none⟩ (.int .i64 (p * n))) g (amC (Am.mix (k + 1) x z)) 2) := Lib.hid (by
        have := HXa.out.set k (.int .i64 (z.get k))
        rw [Am.mix_set k hlt, HZK.out] at this
        exact this)
      have HNB : Hid (Below ws.heap.size ws (wr.setCell ⟨g, k, none⟩ (.int .i64 (p * n)))) := Lib.hid (HBx.out.setCell (p := ⟨g, k, none⟩) HGS.out _)
      by_cases hp0 : p = 0
      · subst hp0
        have HO2 : Hid (∀ j, j < k + 1 → 0 < n → x.get j ≤ 1099511627776 / n) := Lib.hid (fun j hj hnn => by
          by_cases h : j < k
          · exact HO.out j h hnn
          · obtain rfl : j = k := by omega
            have h1 := HP.out
            rw [← h1]
            exact Int.ediv_nonneg (by omega) (by omega))
        have s0 : (0 : Int) * n = 0 := by omega
        rw [s0] at HNX HNB
        clear s0
        go_wp2
        go_roundw
        case rel => exact ⟨k + 1, by omega, by go_num, HNX, HNB, HO2⟩
        case measure => simp [intOf]; omega
      · have hp1 : 0 < p := by omega
        have e0 : (p == 0) = false := by simpa using hp0
        have dp : decide (0 < p) = true := by simpa using hp1
        by_cases hov : 1099511627776 / p < n
        · have hov2 : 1099511627776 < n * p := (Int.ediv_lt_iff_lt_mul hp1).1 hov
          have hn1 : 0 < n := Int.lt_of_le_of_lt (Int.ediv_nonneg (by omega) (by omega)) hov
          have HR := Lib.hid (scaleR_over (x := x) (n := n) HA.out hn1 hlt (by rw [← HP.out]; exact (Int.ediv_lt_iff_lt_mul hn1).2 (by rw [Int.mul_comm]; exact hov2)))
          have hbr := BR.out
          have r0 := hbr.cell (j := 0) rfl
          have r1 := hbr.cell (j := 1) rfl
          have r2 := hbr.cell (j := 2) rfl
          have r3 := hbr.cell (j := 3) rfl
          have f0 := hbr.free 0
          have f1 := hbr.free 1
          have f2 := hbr.free 2
          have f3 := hbr.free 3
          clear hbr hov2
          go_wp2
          refine bodyPost_ret (results_row_tmp rfl _ _ (B + 1) 23 #[.int .i64 0, .int .i64 0, .int .i64 0, .int .i64 0] (0, 0) _ rfl ?_ Tryd.underlying23 rfl (by kernel_rfl)) rfl ⟨?_, ?_⟩
          · exact (((BR.out.set 0 (.int .i64 0)).set 1 (.int .i64 0)).set 2 (.int .i64 0)).set 3 (.int .i64 0)
          · rw [HR.out]; rfl
          · have hBw : w.heap.size ≤ B + 1 := by have := HBW0.out; omega
            exact ((((below_and HBS.out HBx.out).setCell (p := ⟨B + 1, 0, none⟩) hBw _).setCell (p := ⟨B + 1, 1, none⟩) hBw _).setCell (p := ⟨B + 1, 2, none⟩) hBw _).setCell (p := ⟨B + 1, 3, none⟩) hBw _
        · have hd : decide (1099511627776 / p < n) = false := by simpa using hov
          have m2 : n * p ≤ 1099511627776 := (Int.le_ediv_iff_mul_le hp1).1 (by omega)
          have HO2 : Hid (∀ j, j < k + 1 → 0 < n → x.get j ≤ 1099511627776 / n) := Lib.hid (fun j hj hnn => by
            by_cases h : j < k
            · exact HO.out j h hnn
            · obtain rfl : j = k := by omega
              rw [← HP.out]
              exact (Int.le_ediv_iff_mul_le hnn).2 (by rw [Int.mul_comm]; exact m2))
          have m1 : 0 ≤ p * n := Int.mul_nonneg p1 hn
          have m3 : p * n ≤ 1099511627776 := by rw [Int.mul_comm]; exact m2
          have s1 : IntKind.i64.wrap (p * n) = p * n := by rw [IntKind.wrap_i64]; omega
          clear m2
          go_wp2
          go_roundw
          case rel => exact ⟨k + 1, by omega, by go_num, HNX, HNB, HO2⟩
          case measure => simp [intOf]; omega
    · obtain rfl : k = 4 := by omega
      have HR := Lib.hid (scaleR_ok (x := x) (z := z) HA.out hn HO.out HZ.out)
      have HX4 : Hid (Blk wr g (amC z) 2) := HXa
      have BR : Hid (Blk wr (B + 1) (amC .zero) 23) := Lib.hid (C2.out.kept HBx.out)
      go_wp2_with (go_at_call 46; refine (of_any g z _ HX4.out).mono ?_; rintro e w5 ⟨rfl, hb⟩; have hbr := BR.out.kept hb; have r0 := hbr.cell (j := 0) rfl; have r1 := hbr.cell (j := 1) rfl; have r2 := hbr.cell (j := 2) rfl; have r3 := hbr.cell (j := 3) rfl; have f0 := hbr.free 0; have f1 := hbr.free 1; have f2 := hbr.free 2; have f3 := hbr.free 3; have BR5 := Lib.hid hbr; have HB5 := Lib.hid (below_and HBS.out (below_and HBx.out hb)); clear hb hbr)
      refine bodyPost_ret (results_row_tmp rfl _ _ (B + 1) 23 #[.int .i64 z.c, .int .i64 z.r, .int .i64 z.d, .int .i64 z.p] (0, 0) _ rfl ?_ Tryd.underlying23 rfl (by kernel_rfl)) rfl ⟨?_, ?_⟩
      · exact (((BR5.out.set 0 (.int .i64 z.c)).set 1 (.int .i64 z.r)).set 2 (.int .i64 z.d)).set 3 (.int .i64 z.p)
      · rw [HR.out]; rfl
      · have hBw : w.heap.size ≤ B + 1 := by have := HBW0.out; omega
        exact (((HB5.out.setCell (p := ⟨B + 1, 0, none⟩) hBw _).setCell (p := ⟨B + 1, 1, none⟩) hBw _).setCell (p := ⟨B + 1, 2, none⟩) hBw _).setCell (p := ⟨B + 1, 3, none⟩) hBw _
theorem rscale_any (x : Am) (n : Int) (w : World) (hn2 : n ≤ 9223372036854775807) :
    Calls Tryd.prog 24 #[amV x, .int .i64 n] w fun e w' => e = .returned (.tuple #[amV (scaleR x n).1, .int .i64 (scaleR x n).2]) ∧ Below w.heap.size w w' := by
  cases hx : x.okB
  · exact rscale_bad x n w (.inl hx)
  · by_cases hn : n < 0
    · exact rscale_bad x n w (.inr hn)
    · exact rscale_good x n w hx (by omega) hn2
end Go.Proofs.YtmgecehdicpjnaaDoor
