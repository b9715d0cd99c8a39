/- Add. -/
import Derived.Test.YtaipldegobjboaaDoorMAmt
import Derived.Deep.QuietTactic
import Derived.BigQuiet
namespace Go.Proofs.YtaipldegobjboaaDoor
open Go.RowKit

set_option maxRecDepth 100000 in
set_option maxHeartbeats 4000000 in
theorem add_bad (x y : Am) (w : World) (ha : (x.okB && y.okB) = false) :
    Calls Tryd.prog 30 #[amV x, amV y] w fun e w' => e = .returned (.tuple #[amV (addR x y).1, .int .i64 (addR x y).2]) ∧ Below w.heap.size w w' := by
  have HA := Lib.hid ha
  have HR := Lib.hid (addR_bad ha)
  clear ha
  obtain ⟨w3, hw3⟩ : ∃ w3, w3 = (((w.alloc (.cells #[.int .i64 x.c, .int .i64 x.r, .int .i64 x.d, .int .i64 x.p] 25)).alloc (.cells #[.int .i64 y.c, .int .i64 y.r, .int .i64 y.d, .int .i64 y.p] 25)).alloc (.cells #[.int .i64 0, .int .i64 0, .int .i64 0, .int .i64 0] 25)) := ⟨_, rfl⟩
  obtain ⟨B, hB⟩ : ∃ B, B = w.heap.size := ⟨_, rfl⟩
  have B0 : Hid (Blk w3 B (amC x) 25) := Lib.hid (by
    have := ((Blk.made w (amC x) 25).alloc (.cells #[.int .i64 y.c, .int .i64 y.r, .int .i64 y.d, .int .i64 y.p] 25)).alloc (.cells #[.int .i64 0, .int .i64 0, .int .i64 0, .int .i64 0] 25)
    rw [hw3, hB]; exact this)
  have B1 : Hid (Blk w3 (B + 1) (amC y) 25) := Lib.hid (by
    have := (Blk.made (w.alloc (.cells #[.int .i64 x.c, .int .i64 x.r, .int .i64 x.d, .int .i64 x.p] 25)) (amC y) 25).alloc (.cells #[.int .i64 0, .int .i64 0, .int .i64 0, .int .i64 0] 25)
    rw [hw3, hB]; simpa using this)
  have B2 : Hid (Blk w3 (B + 1 + 1) (amC .zero) 25) := Lib.hid (by
    have := Blk.made ((w.alloc (.cells #[.int .i64 x.c, .int .i64 x.r, .int .i64 x.d, .int .i64 x.p] 25)).alloc (.cells #[.int .i64 y.c, .int .i64 y.r, .int .i64 y.d, .int .i64 y.p] 25)) (amC .zero) 25
    rw [hw3, hB]; simpa [Am.zero] using this)
  have HSZ : Hid (w3.heap.size = B + 3) := Lib.hid (by rw [hw3, hB]; simp)
  have HBW0 : Hid (w.heap.size ≤ B) := Lib.hid (by omega)
  have HBL : Hid (Below w.heap.size w w3) := Lib.hid (by rw [hw3]; exact below_and (below_and (below_alloc w _) (below_alloc _ _)) (below_alloc _ _))
  have c0 := B0.out.cell (j := 0) rfl
  have c1 := B0.out.cell (j := 1) rfl
  have c2 := B0.out.cell (j := 2) rfl
  have c3 := B0.out.cell (j := 3) rfl
  have c4 := B1.out.cell (j := 0) rfl
  have c5 := B1.out.cell (j := 1) rfl
  have c6 := B1.out.cell (j := 2) rfl
  have c7 := B1.out.cell (j := 3) rfl
  go_enter Tryd.func30, Tryd.ntmps30
  go_upto_region 1 with fail
  rw [← hw3, ← hB]
  clear hw3 hB
  go_wp2_with (go_at_call 45; refine (all_two w3 x y).mono ?_; rw [HA.out]; rintro e ws ⟨rfl, hb⟩; have C0 := Lib.hid (B0.out.kept hb); have C1 := Lib.hid (B1.out.kept hb); have hbr := B2.out.kept hb; have C2 := Lib.hid hbr; have HBS := Lib.hid (below_and HBL.out hb); have HSS : Hid (B + 3 ≤ ws.heap.size) := Lib.hid (by have := hb.size; have := HSZ.out; omega); have r0 := hbr.cell (j := 0) rfl; have r1 := hbr.cell (j := 1) rfl; have r2 := hbr.cell (j := 2) rfl; have r3 := hbr.cell (j := 3) rfl; have f0 := hbr.free 0; have f1 := hbr.free 1; have f2 := hbr.free 2; have f3 := hbr.free 3; clear hb hbr)
  refine bodyPost_ret (results_row_tmp rfl _ _ (B + 1 + 1) 25 #[.int .i64 0, .int .i64 0, .int .i64 0, .int .i64 0] (0, 0) _ rfl ?_ Tryd.underlying25 rfl (by kernel_rfl)) rfl ⟨?_, ?_⟩
  · exact (((C2.out.set 0 (.int .i64 0)).set 1 (.int .i64 0)).set 2 (.int .i64 0)).set 3 (.int .i64 0)
  · rw [HR.out]; rfl
  · have hBw : w.heap.size ≤ B + 1 + 1 := by have := HBW0.out; omega
    exact (((HBS.out.setCell (p := ⟨B + 1 + 1, 0, none⟩) hBw _).setCell (p := ⟨B + 1 + 1, 1, none⟩) hBw _).setCell (p := ⟨B + 1 + 1, 2, none⟩) hBw _).setCell (p := ⟨B + 1 + 1, 3, none⟩) hBw _

set_option maxRecDepth 100000 in
set_option maxHeartbeats 4000000 in
theorem add_good (x y : Am) (w : World) (ha : (x.okB && y.okB) = true) :
    Calls Tryd.prog 30 #[amV x, amV y] w fun e w' => e = .returned (.tuple #[amV (addR x y).1, .int .i64 (addR x y).2]) ∧ Below w.heap.size w w' := by
  have HA := Lib.hid ha
  have HX : Hid (x.okB = true) := Lib.hid (by simp at ha; exact ha.1)
  have HY : Hid (y.okB = true) := Lib.hid (by simp at ha; exact ha.2)
  clear ha
  obtain ⟨w3, hw3⟩ : ∃ w3, w3 = (((w.alloc (.cells #[.int .i64 x.c, .int .i64 x.r, .int .i64 x.d, .int .i64 x.p] 25)).alloc (.cells #[.int .i64 y.c, .int .i64 y.r, .int .i64 y.d, .int .i64 y.p] 25)).alloc (.cells #[.int .i64 0, .int .i64 0, .int .i64 0, .int .i64 0] 25)) := ⟨_, rfl⟩
  obtain ⟨B, hB⟩ : ∃ B, B = w.heap.size := ⟨_, rfl⟩
  have B0 : Hid (Blk w3 B (amC x) 25) := Lib.hid (by
    have := ((Blk.made w (amC x) 25).alloc (.cells #[.int .i64 y.c, .int .i64 y.r, .int .i64 y.d, .int .i64 y.p] 25)).alloc (.cells #[.int .i64 0, .int .i64 0, .int .i64 0, .int .i64 0] 25)
    rw [hw3, hB]; exact this)
  have B1 : Hid (Blk w3 (B + 1) (amC y) 25) := Lib.hid (by
    have := (Blk.made (w.alloc (.cells #[.int .i64 x.c, .int .i64 x.r, .int .i64 x.d, .int .i64 x.p] 25)) (amC y) 25).alloc (.cells #[.int .i64 0, .int .i64 0, .int .i64 0, .int .i64 0] 25)
    rw [hw3, hB]; simpa using this)
  have B2 : Hid (Blk w3 (B + 1 + 1) (amC .zero) 25) := Lib.hid (by
    have := Blk.made ((w.alloc (.cells #[.int .i64 x.c, .int .i64 x.r, .int .i64 x.d, .int .i64 x.p] 25)).alloc (.cells #[.int .i64 y.c, .int .i64 y.r, .int .i64 y.d, .int .i64 y.p] 25)) (amC .zero) 25
    rw [hw3, hB]; simpa [Am.zero] using this)
  have HSZ : Hid (w3.heap.size = B + 3) := Lib.hid (by rw [hw3, hB]; simp)
  have HBW0 : Hid (w.heap.size ≤ B) := Lib.hid (by omega)
  have HBL : Hid (Below w.heap.size w w3) := Lib.hid (by rw [hw3]; exact below_and (below_and (below_alloc w _) (below_alloc _ _)) (below_alloc _ _))
  have c0 := B0.out.cell (j := 0) rfl
  have c1 := B0.out.cell (j := 1) rfl
  have c2 := B0.out.cell (j := 2) rfl
  have c3 := B0.out.cell (j := 3) rfl
  have c4 := B1.out.cell (j := 0) rfl
  have c5 := B1.out.cell (j := 1) rfl
  have c6 := B1.out.cell (j := 2) rfl
  have c7 := B1.out.cell (j := 3) rfl
  go_enter Tryd.func30, Tryd.ntmps30
  go_upto_region 1 with fail
  rw [← hw3, ← hB]
  clear hw3 hB
  go_upto_region 3 with (first | (go_at_call 45; refine (all_two w3 x y).mono ?_; rw [HA.out]; rintro e ws ⟨rfl, hb⟩; have C0 := Lib.hid (B0.out.kept hb); have C1 := Lib.hid (B1.out.kept hb); have hbr := B2.out.kept hb; have C2 := Lib.hid hbr; have HBS := Lib.hid (below_and HBL.out hb); have HSS : Hid (B + 3 ≤ ws.heap.size) := Lib.hid (by have := hb.size; have := HSZ.out; omega); have r0 := hbr.cell (j := 0) rfl; have r1 := hbr.cell (j := 1) rfl; have r2 := hbr.cell (j := 2) rfl; have r3 := hbr.cell (j := 3) rfl; have f0 := hbr.free 0; have f1 := hbr.free 1; have f2 := hbr.free 2; have f3 := hbr.free 3; clear hb hbr))
  clear c0 c1 c2 c3 c4 c5 c6 c7 r0 r1 r2 r3 f0 f1 f2 f3 B0 B1 B2
  obtain ⟨B0, B1⟩ : Hid (Blk ws B (amC x) 25) ∧ Hid (Blk ws (B + 1) (amC y) 25) := ⟨C0, C1⟩
  go_cut [6, 7] (fun sa sb wx => Two ws.heap.size wx sa sb x y ∧ Below ws.heap.size ws wx)
  case first =>
    go_region_held3 (fun w' => w'.cell? ⟨B, 0, none⟩ = some (.int .i64 x.c) ∧ w'.cell? ⟨B, 1, none⟩ = some (.int .i64 x.r) ∧ w'.cell? ⟨B, 2, none⟩ = some (.int .i64 x.d) ∧ w'.cell? ⟨B, 3, none⟩ = some (.int .i64 x.p) ∧ w'.cell? ⟨B + 1, 0, none⟩ = some (.int .i64 y.c) ∧ w'.cell? ⟨B + 1, 1, none⟩ = some (.int .i64 y.r) ∧ w'.cell? ⟨B + 1, 2, none⟩ = some (.int .i64 y.d) ∧ w'.cell? ⟨B + 1, 3, none⟩ = some (.int .i64 y.p)) (refine eight (t := 25) (u := 25) ?_ ?_ <;> (repeat (first | exact B0.out | exact B1.out | apply Blk.drew | apply Blk.alloc)))
      (first | (go_at_call 32; refine (array_exact _ _).mono ?_; rintro e w1 ⟨rfl, rfl⟩))
    all_goals go_wp2_with fail
    all_goals go_meet
    all_goals refine ⟨⟨_, _, rfl, rfl, by omega, by omega, by omega, ?_, ?_⟩, ?_⟩
    all_goals first
      | ((repeat (first | exact Below.refl _ _ | apply bl_drew | (refine bl_alloc _ ?_ (by simp <;> omega)))); done)
      | ((repeat (first | (refine Blk.made_at (cs := amC x) ?_; simp; done) | (refine Blk.made_at (cs := amC y) ?_; simp; done) | apply Blk.drew | apply Blk.alloc)); done)
  case rest =>
    obtain ⟨⟨g, h, rfl, rfl, hgh, hg, hh, hb1, hb2⟩, hbl⟩ := hcut
    have HB1 := Lib.hid hb1
    have HB2 := Lib.hid hb2
    have HBW := Lib.hid hbl
    have HGH := Lib.hid (show g ≠ h ∧ ws.heap.size ≤ g ∧ ws.heap.size ≤ h from ⟨hgh, hg, hh⟩)
    clear hb1 hb2 hbl hgh hg hh
    obtain ⟨z, hz⟩ : ∃ z : Am, z = .of fun k => x.get k + y.get k := ⟨_, rfl⟩
    have HZ : Hid (∀ k, k < 4 → z.get k = x.get k + y.get k) := Lib.hid (fun k hk => by rw [hz, Am.of_get _ k hk])
    clear hz
    go_wp2
    go_loopw [19] (fun i wc => ∃ k : Nat, k ≤ 4 ∧ i = .int .i64 (k : Int) ∧ Hid (Blk wc g (amC (Am.mix k x z)) 77) ∧ Hid (Blk wc h (amC y) 77) ∧ Hid (Below ws.heap.size ws wc) ∧ Hid (∀ j, j < k → x.get j + y.get j ≤ 1099511627776)) (fun i _ => 4 - (intOf i).toNat)
    case atStart => exact ⟨0, Nat.zero_le _, rfl, HB1, HB2, HBW, Lib.hid (fun j h => by omega)⟩
    case round =>
      obtain ⟨k, hk, rfl, HXa, HYa, HBx, HO⟩ := hrel
      by_cases hlt : k < 4
      · have i0 : (0 : Int) ≤ (k : Int) := by omega
        have i1 : (k : Int) < 4 := by omega
        have hx := HXa.out.cell (Am.mix_get k hlt x z)
        have hy := HYa.out.cell (amC_get y hlt)
        have fx := HXa.out.free k
        have hzk := HZ.out k hlt
        obtain ⟨p, hp⟩ : ∃ p, p = x.get k := ⟨_, rfl⟩
        obtain ⟨q, hq⟩ : ∃ q, q = y.get k := ⟨_, rfl⟩
        have p0 : 0 ≤ p ∧ p ≤ 1099511627776 := by rw [hp]; exact ok_get HX.out hlt
        have q0 : 0 ≤ q ∧ q ≤ 1099511627776 := by rw [hq]; exact ok_get HY.out hlt
        obtain ⟨p1, p2⟩ := p0
        obtain ⟨q1, q2⟩ := q0
        rw [← hp] at hx
        rw [← hq] at hy
        rw [← hp, ← hq] at hzk
        have HZK := Lib.hid hzk
        have HPQ := Lib.hid (show p = x.get k ∧ q = y.get k from ⟨hp, hq⟩)
        have BR : Hid (Blk wr (B + 1 + 1) (amC .zero) 25) := Lib.hid (C2.out.kept HBx.out)
        clear hp hq hzk
        by_cases hov : 1099511627776 - q < p
        · have HR := Lib.hid (addR_over (x := x) (y := y) (by rw [HX.out, HY.out]; rfl) hlt (by have := HPQ.out; omega))
          have hbr := BR.out
          have r0 := hbr.cell (j := 0) rfl
          have r1 := hbr.cell (j := 1) rfl
          have r2 := hbr.cell (j := 2) rfl
          have r3 := hbr.cell (j := 3) rfl
          have f0 := hbr.free 0
          have f1 := hbr.free 1
          have f2 := hbr.free 2
          have f3 := hbr.free 3
          have BRq : ∀ nq, Blk (wr.drewN nq) (B + 1 + 1) (amC .zero) 25 := fun nq => BR.out.kept (below_drewN nq)
          have BLq : ∀ nq, Below w.heap.size w (wr.drewN nq) := fun nq => below_and (below_and HBS.out HBx.out) (below_drewN nq)
          have HBRq := Lib.hid BRq
          have HBLq := Lib.hid BLq
          clear hbr BRq BLq
          go_wp2
          go_quiet (fail)
          go_wp2
          refine bodyPost_ret (results_row_tmp rfl _ _ (B + 1 + 1) 25 #[.int .i64 0, .int .i64 0, .int .i64 0, .int .i64 0] (0, 0) _ rfl ?_ Tryd.underlying25 rfl (by kernel_rfl)) rfl ⟨?_, ?_⟩
          · exact ((((HBRq.out nq).set 0 (.int .i64 0)).set 1 (.int .i64 0)).set 2 (.int .i64 0)).set 3 (.int .i64 0)
          · rw [HR.out]; rfl
          · have hBw : w.heap.size ≤ B + 1 + 1 := by have := HBW0.out; omega
            exact ((((HBLq.out nq).setCell (p := ⟨B + 1 + 1, 0, none⟩) hBw _).setCell (p := ⟨B + 1 + 1, 1, none⟩) hBw _).setCell (p := ⟨B + 1 + 1, 2, none⟩) hBw _).setCell (p := ⟨B + 1 + 1, 3, none⟩) hBw _
        · have hd : decide (1099511627776 - q < p) = false := by simpa using hov
          have HO2 : Hid (∀ j, j < k + 1 → x.get j + y.get j ≤ 1099511627776) := Lib.hid (fun j hj => by
            by_cases h : j < k
            · exact HO.out j h
            · obtain rfl : j = k := by omega
              have := HPQ.out; omega)
          have s1 : IntKind.i64.wrap (p + q) = p + q := by rw [IntKind.wrap_i64]; omega
          have s2 : wrap64 (p + q) = p + q := by unfold wrap64; omega
          go_wp2
          go_quiet (fail)
          go_wp2
          go_region
          all_goals go_wp2
          go_roundw
          case rel => exact ⟨k + 1, by omega, by go_num, Lib.hid (by
              have := (HXa.out.kept (below_drewN nq)).set k (.int .i64 (z.get k))
              rw [Am.mix_set k hlt, HZK.out] at this
              exact this), Lib.hid ((HYa.out.kept (below_drewN nq)).other (Ne.symm HGH.out.1) _), Lib.hid (bl_drew ((Below.drewN' HBx.out nq).setCell (p := ⟨g, k, none⟩) HGH.out.2.1 _)), HO2⟩
          case measure => simp [intOf]; omega
      · obtain rfl : k = 4 := by omega
        have HR := Lib.hid (addR_ok (x := x) (y := y) (z := z) (by rw [HX.out, HY.out]; rfl) HO.out HZ.out)
        have hx4 : Blk wr g (amC z) 77 := HXa.out
        have z0 := hx4.cell (j := 0) rfl
        have z1 := hx4.cell (j := 1) rfl
        have z2 := hx4.cell (j := 2) rfl
        have z3 := hx4.cell (j := 3) rfl
        have BR : Hid (Blk wr (B + 1 + 1) (amC .zero) 25) := Lib.hid (C2.out.kept HBx.out)
        clear hx4
        go_wp2_with (go_at_call 46; refine (amounts_any z _).mono ?_; rintro e w5 ⟨rfl, hb⟩; have hbr := BR.out.kept hb; have r0 := hbr.cell (j := 0) rfl; have r1 := hbr.cell (j := 1) rfl; have r2 := hbr.cell (j := 2) rfl; have r3 := hbr.cell (j := 3) rfl; have f0 := hbr.free 0; have f1 := hbr.free 1; have f2 := hbr.free 2; have f3 := hbr.free 3; have BR5 := Lib.hid hbr; have HB5 := Lib.hid (below_and HBS.out (below_and HBx.out hb)); clear hb hbr)
        refine bodyPost_ret (results_row_tmp rfl _ _ (B + 1 + 1) 25 #[.int .i64 z.c, .int .i64 z.r, .int .i64 z.d, .int .i64 z.p] (0, 0) _ rfl ?_ Tryd.underlying25 rfl (by kernel_rfl)) rfl ⟨?_, ?_⟩
        · exact (((BR5.out.set 0 (.int .i64 z.c)).set 1 (.int .i64 z.r)).set 2 (.int .i64 z.d)).set 3 (.int .i64 z.p)
        · rw [HR.out]; rfl
        · have hBw : w.heap.size ≤ B + 1 + 1 := by have := HBW0.out; omega
          exact (((HB5.out.setCell (p := ⟨B + 1 + 1, 0, none⟩) hBw _).setCell (p := ⟨B + 1 + 1, 1, none⟩) hBw _).setCell (p := ⟨B + 1 + 1, 2, none⟩) hBw _).setCell (p := ⟨B + 1 + 1, 3, none⟩) hBw _

theorem add_any (x y : Am) (w : World) :
    Calls Tryd.prog 30 #[amV x, amV y] w fun e w' => e = .returned (.tuple #[amV (addR x y).1, .int .i64 (addR x y).2]) ∧ Below w.heap.size w w' := by
  cases h : x.okB && y.okB
  · exact add_bad x y w h
  · exact add_good x y w h
end Go.Proofs.YtaipldegobjboaaDoor
