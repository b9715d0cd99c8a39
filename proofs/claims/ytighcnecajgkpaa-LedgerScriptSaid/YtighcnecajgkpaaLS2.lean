/- Texts of one proof, laid together: Add, Fits, Sub, Led, LedPlain2, LedSum, Maps2, LedRoom, ByteOrd, LedPlain3. No condition of ours. -/
import Derived.Test.YtighcnecajgkpaaLS1
import Derived.Deep.QuietTactic
import Derived.BigQuiet
import Derived.Outline
import Derived.Deep.DeepCutAuto
import Derived.Sort.KeysCollected
namespace Go.Proofs.Ytighcnecajgkpaa
open Go.RowKit

set_option maxRecDepth 100000 in
set_option maxHeartbeats 4000000 in
theorem add_bad (x y : Am) (w : World) (ha : (x.okB && y.okB) = false) :
    Calls Try.prog 44 #[amV x, amV y] w fun e w' => e = .returned (.tuple #[amV (addR x y).1, .int .i64 (addR x y).2]) ∧ Below w.heap.size w w' := by
  have HA := Lib.hid ha
  have HR := Lib.hid (addR_bad ha)
  clear ha
  obtain ⟨w3, hw3⟩ : ∃ w3, w3 = (((w.alloc (.cells #[.int .i64 x.c, .int .i64 x.r, .int .i64 x.d, .int .i64 x.p] 28)).alloc (.cells #[.int .i64 y.c, .int .i64 y.r, .int .i64 y.d, .int .i64 y.p] 28)).alloc (.cells #[.int .i64 0, .int .i64 0, .int .i64 0, .int .i64 0] 28)) := ⟨_, rfl⟩
  obtain ⟨B, hB⟩ : ∃ B, B = w.heap.size := ⟨_, rfl⟩
  have B0 : Hid (Blk w3 B (amC x) 28) := Lib.hid (by
    have := ((Blk.made w (amC x) 28).alloc (.cells #[.int .i64 y.c, .int .i64 y.r, .int .i64 y.d, .int .i64 y.p] 28)).alloc (.cells #[.int .i64 0, .int .i64 0, .int .i64 0, .int .i64 0] 28)
    rw [hw3, hB]; exact this)
  have B1 : Hid (Blk w3 (B + 1) (amC y) 28) := Lib.hid (by
    have := (Blk.made (w.alloc (.cells #[.int .i64 x.c, .int .i64 x.r, .int .i64 x.d, .int .i64 x.p] 28)) (amC y) 28).alloc (.cells #[.int .i64 0, .int .i64 0, .int .i64 0, .int .i64 0] 28)
    rw [hw3, hB]; simpa using this)
  have B2 : Hid (Blk w3 (B + 1 + 1) (amC .zero) 28) := Lib.hid (by
    have := Blk.made ((w.alloc (.cells #[.int .i64 x.c, .int .i64 x.r, .int .i64 x.d, .int .i64 x.p] 28)).alloc (.cells #[.int .i64 y.c, .int .i64 y.r, .int .i64 y.d, .int .i64 y.p] 28)) (amC .zero) 28
    rw [hw3, hB]; simpa [Am.zero] using this)
  have HSZ : Hid (w3.heap.size = B + 3) := Lib.hid (by rw [hw3, hB]; simp)
  have HBW0 : Hid (w.heap.size ≤ B) := Lib.hid (by omega)
  have HBL : Hid (Below w.heap.size w w3) := Lib.hid (by rw [hw3]; exact below_and (below_and (below_alloc w _) (below_alloc _ _)) (below_alloc _ _))
  have c0 := B0.out.cell (j := 0) rfl
  have c1 := B0.out.cell (j := 1) rfl
  have c2 := B0.out.cell (j := 2) rfl
  have c3 := B0.out.cell (j := 3) rfl
  have c4 := B1.out.cell (j := 0) rfl
  have c5 := B1.out.cell (j := 1) rfl
  have c6 := B1.out.cell (j := 2) rfl
  have c7 := B1.out.cell (j := 3) rfl
  go_enter Try.func44, Try.ntmps44
  go_upto_region 1 with fail
  rw [← hw3, ← hB]
  clear hw3 hB
  go_wp2_with (go_at_call 55; refine (all_two w3 x y).mono ?_; rw [HA.out]; rintro e ws ⟨rfl, hb⟩; have C0 := Lib.hid (B0.out.kept hb); have C1 := Lib.hid (B1.out.kept hb); have hbr := B2.out.kept hb; have C2 := Lib.hid hbr; have HBS := Lib.hid (below_and HBL.out hb); have HSS : Hid (B + 3 ≤ ws.heap.size) := Lib.hid (by have := hb.size; have := HSZ.out; omega); have r0 := hbr.cell (j := 0) rfl; have r1 := hbr.cell (j := 1) rfl; have r2 := hbr.cell (j := 2) rfl; have r3 := hbr.cell (j := 3) rfl; have f0 := hbr.free 0; have f1 := hbr.free 1; have f2 := hbr.free 2; have f3 := hbr.free 3; clear hb hbr)
  refine bodyPost_ret (results_row_tmp rfl _ _ (B + 1 + 1) 28 #[.int .i64 0, .int .i64 0, .int .i64 0, .int .i64 0] (0, 0) _ rfl ?_ Try.underlying28 rfl (by kernel_rfl)) rfl ⟨?_, ?_⟩
  · exact (((C2.out.set 0 (.int .i64 0)).set 1 (.int .i64 0)).set 2 (.int .i64 0)).set 3 (.int .i64 0)
  · rw [HR.out]; rfl
  · have hBw : w.heap.size ≤ B + 1 + 1 := by have := HBW0.out; omega
    exact (((HBS.out.setCell (p := ⟨B + 1 + 1, 0, none⟩) hBw _).setCell (p := ⟨B + 1 + 1, 1, none⟩) hBw _).setCell (p := ⟨B + 1 + 1, 2, none⟩) hBw _).setCell (p := ⟨B + 1 + 1, 3, none⟩) hBw _

set_option maxRecDepth 100000 in
set_option maxHeartbeats 4000000 in
theorem add_good (x y : Am) (w : World) (ha : (x.okB && y.okB) = true) :
    Calls Try.prog 44 #[amV x, amV y] w fun e w' => e = .returned (.tuple #[amV (addR x y).1, .int .i64 (addR x y).2]) ∧ Below w.heap.size w w' := by
  have HA := Lib.hid ha
  have HX : Hid (x.okB = true) := Lib.hid (by simp at ha; exact ha.1)
  have HY : Hid (y.okB = true) := Lib.hid (by simp at ha; exact ha.2)
  clear ha
  obtain ⟨w3, hw3⟩ : ∃ w3, w3 = (((w.alloc (.cells #[.int .i64 x.c, .int .i64 x.r, .int .i64 x.d, .int .i64 x.p] 28)).alloc (.cells #[.int .i64 y.c, .int .i64 y.r, .int .i64 y.d, .int .i64 y.p] 28)).alloc (.cells #[.int .i64 0, .int .i64 0, .int .i64 0, .int .i64 0] 28)) := ⟨_, rfl⟩
  obtain ⟨B, hB⟩ : ∃ B, B = w.heap.size := ⟨_, rfl⟩
  have B0 : Hid (Blk w3 B (amC x) 28) := Lib.hid (by
    have := ((Blk.made w (amC x) 28).alloc (.cells #[.int .i64 y.c, .int .i64 y.r, .int .i64 y.d, .int .i64 y.p] 28)).alloc (.cells #[.int .i64 0, .int .i64 0, .int .i64 0, .int .i64 0] 28)
    rw [hw3, hB]; exact this)
  have B1 : Hid (Blk w3 (B + 1) (amC y) 28) := Lib.hid (by
    have := (Blk.made (w.alloc (.cells #[.int .i64 x.c, .int .i64 x.r, .int .i64 x.d, .int .i64 x.p] 28)) (amC y) 28).alloc (.cells #[.int .i64 0, .int .i64 0, .int .i64 0, .int .i64 0] 28)
    rw [hw3, hB]; simpa using this)
  have B2 : Hid (Blk w3 (B + 1 + 1) (amC .zero) 28) := Lib.hid (by
    have := Blk.made ((w.alloc (.cells #[.int .i64 x.c, .int .i64 x.r, .int .i64 x.d, .int .i64 x.p] 28)).alloc (.cells #[.int .i64 y.c, .int .i64 y.r, .int .i64 y.d, .int .i64 y.p] 28)) (amC .zero) 28
    rw [hw3, hB]; simpa [Am.zero] using this)
  have HSZ : Hid (w3.heap.size = B + 3) := Lib.hid (by rw [hw3, hB]; simp)
  have HBW0 : Hid (w.heap.size ≤ B) := Lib.hid (by omega)
  have HBL : Hid (Below w.heap.size w w3) := Lib.hid (by rw [hw3]; exact below_and (below_and (below_alloc w _) (below_alloc _ _)) (below_alloc _ _))
  have c0 := B0.out.cell (j := 0) rfl
  have c1 := B0.out.cell (j := 1) rfl
  have c2 := B0.out.cell (j := 2) rfl
  have c3 := B0.out.cell (j := 3) rfl
  have c4 := B1.out.cell (j := 0) rfl
  have c5 := B1.out.cell (j := 1) rfl
  have c6 := B1.out.cell (j := 2) rfl
  have c7 := B1.out.cell (j := 3) rfl
  go_enter Try.func44, Try.ntmps44
  go_upto_region 1 with fail
  rw [← hw3, ← hB]
  clear hw3 hB
  go_upto_region 3 with (first | (go_at_call 55; refine (all_two w3 x y).mono ?_; rw [HA.out]; rintro e ws ⟨rfl, hb⟩; have C0 := Lib.hid (B0.out.kept hb); have C1 := Lib.hid (B1.out.kept hb); have hbr := B2.out.kept hb; have C2 := Lib.hid hbr; have HBS := Lib.hid (below_and HBL.out hb); have HSS : Hid (B + 3 ≤ ws.heap.size) := Lib.hid (by have := hb.size; have := HSZ.out; omega); have r0 := hbr.cell (j := 0) rfl; have r1 := hbr.cell (j := 1) rfl; have r2 := hbr.cell (j := 2) rfl; have r3 := hbr.cell (j := 3) rfl; have f0 := hbr.free 0; have f1 := hbr.free 1; have f2 := hbr.free 2; have f3 := hbr.free 3; clear hb hbr))
  clear c0 c1 c2 c3 c4 c5 c6 c7 r0 r1 r2 r3 f0 f1 f2 f3 B0 B1 B2
  obtain ⟨B0, B1⟩ : Hid (Blk ws B (amC x) 28) ∧ Hid (Blk ws (B + 1) (amC y) 28) := ⟨C0, C1⟩
  go_cut [6, 7] (fun sa sb wx => Two ws.heap.size wx sa sb x y ∧ Below ws.heap.size ws wx)
  case first =>
    go_region_held3 (fun w' => w'.cell? ⟨B, 0, none⟩ = some (.int .i64 x.c) ∧ w'.cell? ⟨B, 1, none⟩ = some (.int .i64 x.r) ∧ w'.cell? ⟨B, 2, none⟩ = some (.int .i64 x.d) ∧ w'.cell? ⟨B, 3, none⟩ = some (.int .i64 x.p) ∧ w'.cell? ⟨B + 1, 0, none⟩ = some (.int .i64 y.c) ∧ w'.cell? ⟨B + 1, 1, none⟩ = some (.int .i64 y.r) ∧ w'.cell? ⟨B + 1, 2, none⟩ = some (.int .i64 y.d) ∧ w'.cell? ⟨B + 1, 3, none⟩ = some (.int .i64 y.p)) (refine eight (t := 28) (u := 28) ?_ ?_ <;> (repeat (first | exact B0.out | exact B1.out | apply Blk.drew | apply Blk.alloc)))
      (first | (go_at_call 45; refine (array_exact _ _).mono ?_; rintro e w1 ⟨rfl, rfl⟩))
    all_goals go_wp2_with fail
    all_goals go_meet
    all_goals refine ⟨⟨_, _, rfl, rfl, by omega, by omega, by omega, ?_, ?_⟩, ?_⟩
    all_goals first
      | ((repeat (first | exact Below.refl _ _ | apply bl_drew | (refine bl_alloc _ ?_ (by simp <;> omega)))); done)
      | ((repeat (first | (refine Blk.made_at (cs := amC x) ?_; simp; done) | (refine Blk.made_at (cs := amC y) ?_; simp; done) | apply Blk.drew | apply Blk.alloc)); done)
  case rest =>
    obtain ⟨⟨g, h, rfl, rfl, hgh, hg, hh, hb1, hb2⟩, hbl⟩ := hcut
    have HB1 := Lib.hid hb1
    have HB2 := Lib.hid hb2
    have HBW := Lib.hid hbl
    have HGH := Lib.hid (show g ≠ h ∧ ws.heap.size ≤ g ∧ ws.heap.size ≤ h from ⟨hgh, hg, hh⟩)
    clear hb1 hb2 hbl hgh hg hh
    obtain ⟨z, hz⟩ : ∃ z : Am, z = .of fun k => x.get k + y.get k := ⟨_, rfl⟩
    have HZ : Hid (∀ k, k < 4 → z.get k = x.get k + y.get k) := Lib.hid (fun k hk => by rw [hz, Am.of_get _ k hk])
    clear hz
    go_wp2
    go_loopw [19] (fun i wc => ∃ k : Nat, k ≤ 4 ∧ i = .int .i64 (k : Int) ∧ Hid (Blk wc g (amC (Am.mix k x z)) 77) ∧ Hid (Blk wc h (amC y) 77) ∧ Hid (Below ws.heap.size ws wc) ∧ Hid (∀ j, j < k → x.get j + y.get j ≤ 1099511627776)) (fun i _ => 4 - (intOf i).toNat)
    case atStart => exact ⟨0, Nat.zero_le _, rfl, HB1, HB2, HBW, Lib.hid (fun j h => by omega)⟩
    case round =>
      obtain ⟨k, hk, rfl, HXa, HYa, HBx, HO⟩ := hrel
      by_cases hlt : k < 4
      · have i0 : (0 : Int) ≤ (k : Int) := by omega
        have i1 : (k : Int) < 4 := by omega
        have hx := HXa.out.cell (Am.mix_get k hlt x z)
        have hy := HYa.out.cell (amC_get y hlt)
        have fx := HXa.out.free k
        have hzk := HZ.out k hlt
        obtain ⟨p, hp⟩ : ∃ p, p = x.get k := ⟨_, rfl⟩
        obtain ⟨q, hq⟩ : ∃ q, q = y.get k := ⟨_, rfl⟩
        have p0 : 0 ≤ p ∧ p ≤ 1099511627776 := by rw [hp]; exact ok_get HX.out hlt
        have q0 : 0 ≤ q ∧ q ≤ 1099511627776 := by rw [hq]; exact ok_get HY.out hlt
        obtain ⟨p1, p2⟩ := p0
        obtain ⟨q1, q2⟩ := q0
        rw [← hp] at hx
        rw [← hq] at hy
        rw [← hp, ← hq] at hzk
        have HZK := Lib.hid hzk
        have HPQ := Lib.hid (show p = x.get k ∧ q = y.get k from ⟨hp, hq⟩)
        have BR : Hid (Blk wr (B + 1 + 1) (amC .zero) 28) := Lib.hid (C2.out.kept HBx.out)
        clear hp hq hzk
        by_cases hov : 1099511627776 - q < p
        · have HR := Lib.hid (addR_over (x := x) (y := y) (by rw [HX.out, HY.out]; rfl) hlt (by have := HPQ.out; omega))
          have hbr := BR.out
          have r0 := hbr.cell (j := 0) rfl
          have r1 := hbr.cell (j := 1) rfl
          have r2 := hbr.cell (j := 2) rfl
          have r3 := hbr.cell (j := 3) rfl
          have f0 := hbr.free 0
          have f1 := hbr.free 1
          have f2 := hbr.free 2
          have f3 := hbr.free 3
          have BRq : ∀ nq, Blk (wr.drewN nq) (B + 1 + 1) (amC .zero) 28 := fun nq => BR.out.kept (below_drewN nq)
          have BLq : ∀ nq, Below w.heap.size w (wr.drewN nq) := fun nq => below_and (below_and HBS.out HBx.out) (below_drewN nq)
          have HBRq := Lib.hid BRq
          have HBLq := Lib.hid BLq
          clear hbr BRq BLq
          go_wp2
          go_quiet (fail)
          go_wp2
          refine bodyPost_ret (results_row_tmp rfl _ _ (B + 1 + 1) 28 #[.int .i64 0, .int .i64 0, .int .i64 0, .int .i64 0] (0, 0) _ rfl ?_ Try.underlying28 rfl (by kernel_rfl)) rfl ⟨?_, ?_⟩
          · exact ((((HBRq.out nq).set 0 (.int .i64 0)).set 1 (.int .i64 0)).set 2 (.int .i64 0)).set 3 (.int .i64 0)
          · rw [HR.out]; rfl
          · have hBw : w.heap.size ≤ B + 1 + 1 := by have := HBW0.out; omega
            exact ((((HBLq.out nq).setCell (p := ⟨B + 1 + 1, 0, none⟩) hBw _).setCell (p := ⟨B + 1 + 1, 1, none⟩) hBw _).setCell (p := ⟨B + 1 + 1, 2, none⟩) hBw _).setCell (p := ⟨B + 1 + 1, 3, none⟩) hBw _
        · have hd : decide (1099511627776 - q < p) = false := by simpa using hov
          have HO2 : Hid (∀ j, j < k + 1 → x.get j + y.get j ≤ 1099511627776) := Lib.hid (fun j hj => by
            by_cases h : j < k
            · exact HO.out j h
            · obtain rfl : j = k := by omega
              have := HPQ.out; omega)
          have s1 : IntKind.i64.wrap (p + q) = p + q := by rw [IntKind.wrap_i64]; omega
          have s2 : wrap64 (p + q) = p + q := by unfold wrap64; omega
          go_wp2
          go_quiet (fail)
          go_wp2
          go_region
          all_goals go_wp2
          go_roundw
          case rel => exact ⟨k + 1, by omega, by go_num, Lib.hid (by
              have := (HXa.out.kept (below_drewN nq)).set k (.int .i64 (z.get k))
              rw [Am.mix_set k hlt, HZK.out] at this
              exact this), Lib.hid ((HYa.out.kept (below_drewN nq)).other (Ne.symm HGH.out.1) _), Lib.hid (bl_drew ((Below.drewN' HBx.out nq).setCell (p := ⟨g, k, none⟩) HGH.out.2.1 _)), HO2⟩
          case measure => simp [intOf]; omega
      · obtain rfl : k = 4 := by omega
        have HR := Lib.hid (addR_ok (x := x) (y := y) (z := z) (by rw [HX.out, HY.out]; rfl) HO.out HZ.out)
        have hx4 : Blk wr g (amC z) 77 := HXa.out
        have z0 := hx4.cell (j := 0) rfl
        have z1 := hx4.cell (j := 1) rfl
        have z2 := hx4.cell (j := 2) rfl
        have z3 := hx4.cell (j := 3) rfl
        have BR : Hid (Blk wr (B + 1 + 1) (amC .zero) 28) := Lib.hid (C2.out.kept HBx.out)
        clear hx4
        go_wp2_with (go_at_call 56; refine (amounts_any z _).mono ?_; rintro e w5 ⟨rfl, hb⟩; have hbr := BR.out.kept hb; have r0 := hbr.cell (j := 0) rfl; have r1 := hbr.cell (j := 1) rfl; have r2 := hbr.cell (j := 2) rfl; have r3 := hbr.cell (j := 3) rfl; have f0 := hbr.free 0; have f1 := hbr.free 1; have f2 := hbr.free 2; have f3 := hbr.free 3; have BR5 := Lib.hid hbr; have HB5 := Lib.hid (below_and HBS.out (below_and HBx.out hb)); clear hb hbr)
        refine bodyPost_ret (results_row_tmp rfl _ _ (B + 1 + 1) 28 #[.int .i64 z.c, .int .i64 z.r, .int .i64 z.d, .int .i64 z.p] (0, 0) _ rfl ?_ Try.underlying28 rfl (by kernel_rfl)) rfl ⟨?_, ?_⟩
        · exact (((BR5.out.set 0 (.int .i64 z.c)).set 1 (.int .i64 z.r)).set 2 (.int .i64 z.d)).set 3 (.int .i64 z.p)
        · rw [HR.out]; rfl
        · have hBw : w.heap.size ≤ B + 1 + 1 := by have := HBW0.out; omega
          exact (((HB5.out.setCell (p := ⟨B + 1 + 1, 0, none⟩) hBw _).setCell (p := ⟨B + 1 + 1, 1, none⟩) hBw _).setCell (p := ⟨B + 1 + 1, 2, none⟩) hBw _).setCell (p := ⟨B + 1 + 1, 3, none⟩) hBw _

theorem add_any (x y : Am) (w : World) :
    Calls Try.prog 44 #[amV x, amV y] w fun e w' => e = .returned (.tuple #[amV (addR x y).1, .int .i64 (addR x y).2]) ∧ Below w.heap.size w w' := by
  cases h : x.okB && y.okB
  · exact add_bad x y w h
  · exact add_good x y w h
end Go.Proofs.Ytighcnecajgkpaa
namespace Go.Proofs.Ytighcnecajgkpaa
open Go.RowKit

set_option maxRecDepth 100000 in
set_option maxHeartbeats 1000000 in
theorem fits_any (x y : Am) (w : World) :
    Calls Try.prog 30 #[amV x, amV y] w fun e w' => e = .returned (.bool (fitsB x y)) ∧ Below w.heap.size w w' := by
  obtain ⟨w3, hw3⟩ : ∃ w3, w3 = ((w.alloc (.cells #[.int .i64 x.c, .int .i64 x.r, .int .i64 x.d, .int .i64 x.p] 28)).alloc (.cells #[.int .i64 y.c, .int .i64 y.r, .int .i64 y.d, .int .i64 y.p] 28)) := ⟨_, rfl⟩
  obtain ⟨B, hB⟩ : ∃ B, B = w.heap.size := ⟨_, rfl⟩
  have B0 : Hid (Blk w3 B (amC x) 28) := Lib.hid (by
    have := (Blk.made w (amC x) 28).alloc (.cells #[.int .i64 y.c, .int .i64 y.r, .int .i64 y.d, .int .i64 y.p] 28)
    rw [hw3, hB]; exact this)
  have B1 : Hid (Blk w3 (B + 1) (amC y) 28) := Lib.hid (by
    have := (Blk.made (w.alloc (.cells #[.int .i64 x.c, .int .i64 x.r, .int .i64 x.d, .int .i64 x.p] 28)) (amC y) 28)
    rw [hw3, hB]; simpa using this)
  have HBL : Hid (Below w.heap.size w w3) := Lib.hid (by rw [hw3]; exact below_and (below_alloc w _) (below_alloc _ _))
  have c4 := B1.out.cell (j := 0) rfl
  have c5 := B1.out.cell (j := 1) rfl
  have c6 := B1.out.cell (j := 2) rfl
  have c7 := B1.out.cell (j := 3) rfl
  go_enter Try.func30, Try.ntmps30
  go_upto_region 1 with fail
  rw [← hw3, ← hB]
  clear hw3 hB
  go_upto_region 2 with (go_at_call 45; refine (array_any y _).mono ?_; rintro e w5 ⟨rfl, hb⟩; have HB5 := Lib.hid hb; clear hb)
  obtain ⟨w6, hw6⟩ : ∃ w6, w6 = w5.alloc (.cells #[.int .i64 y.c, .int .i64 y.r, .int .i64 y.d, .int .i64 y.p] 77) := ⟨_, rfl⟩
  obtain ⟨g, hg⟩ : ∃ g, g = w5.heap.size := ⟨_, rfl⟩
  have HY : Hid (Blk w6 g (amC y) 77) := Lib.hid (by rw [hw6, hg]; exact Blk.made w5 (amC y) _)
  have HB6 : Hid (Below w3.heap.size w3 w6) := Lib.hid (by rw [hw6]; exact below_and HB5.out (below_alloc _ _))
  rw [← hw6, ← hg]
  clear hw6 hg c4 c5 c6 c7
  have c0 := (B0.out.kept HB6.out).cell (j := 0) rfl
  have c1 := (B0.out.kept HB6.out).cell (j := 1) rfl
  have c2 := (B0.out.kept HB6.out).cell (j := 2) rfl
  have c3 := (B0.out.kept HB6.out).cell (j := 3) rfl
  go_wp2_with (go_at_call 45; refine (array_any x _).mono ?_; rintro e w7 ⟨rfl, hb⟩; have HB7 := Lib.hid (below_and HBL.out (below_and HB6.out hb)); have HY7 := Lib.hid (HY.out.kept hb); clear hb)
  go_loop [12] (fun i => ∃ k : Nat, k ≤ 4 ∧ i = .int .i64 (k : Int) ∧ Hid (∀ j, j < k → x.get j ≤ y.get j)) (fun i => 4 - (intOf i).toNat)
  case atStart => exact ⟨0, Nat.zero_le _, rfl, fun j h => by omega⟩
  case round =>
    obtain ⟨k, hk, rfl, HA⟩ := hrel
    by_cases hlt : k < 4
    · have hix := index_am x w7 k hlt
      have hy := HY7.out.cell (amC_get y hlt)
      have i0 : (0 : Int) ≤ (k : Int) := by omega
      have i1 : (k : Int) < 4 := by omega
      obtain ⟨p, hp⟩ : ∃ p, p = x.get k := ⟨_, rfl⟩
      obtain ⟨q, hq⟩ : ∃ q, q = y.get k := ⟨_, rfl⟩
      rw [← hp] at hix
      rw [← hq] at hy
      have HPQ := Lib.hid (show p = x.get k ∧ q = y.get k from ⟨hp, hq⟩)
      clear hp hq
      by_cases hov : q < p
      · have HN : Hid (fitsB x y = false) := Lib.hid (by unfold fitsB; rw [any4_yes hlt (by have := HPQ.out; simp only [decide_eq_true_eq]; omega)]; rfl)
        go_wp2
        go_ret
        exact ⟨ret_bool HN.out.symm, HB7.out⟩
      · have hd : decide (q < p) = false := by simpa using hov
        have HA2 : Hid (∀ j, j < k + 1 → x.get j ≤ y.get j) := Lib.hid (fun j hj => by
          by_cases h : j < k
          · exact HA.out j h
          · obtain rfl : j = k := by omega
            have := HPQ.out; omega)
        go_wp2
        go_round
        case rel => exact ⟨k + 1, by omega, by go_num, HA2⟩
        case measure => simp [intOf]; omega
    · obtain rfl : k = 4 := by omega
      have HN : Hid (fitsB x y = true) := Lib.hid (by unfold fitsB; rw [any4_no (fun j hj => by have := HA.out j hj; simpa using this)]; rfl)
      go_wp2
      go_ret
      exact ⟨ret_bool HN.out.symm, HB7.out⟩
theorem fits_yes {x y : Am} (h : fitsB x y = true) {k : Nat} (hk : k < 4) : x.get k ≤ y.get k := by
  unfold fitsB at h
  have := any4_false (by simpa using h) hk
  simpa using this
end Go.Proofs.Ytighcnecajgkpaa
namespace Go.Proofs.Ytighcnecajgkpaa
open Go.RowKit

set_option maxRecDepth 100000 in
set_option maxHeartbeats 4000000 in
theorem sub_bad (x y : Am) (w : World) (ha : (x.okB && y.okB) = false) :
    Calls Try.prog 46 #[amV x, amV y] w fun e w' => e = .returned (.tuple #[amV (subR x y).1, .int .i64 (subR x y).2]) ∧ Below w.heap.size w w' := by
  have HA := Lib.hid ha
  have HR := Lib.hid (subR_bad ha)
  clear ha
  obtain ⟨w3, hw3⟩ : ∃ w3, w3 = (((w.alloc (.cells #[.int .i64 x.c, .int .i64 x.r, .int .i64 x.d, .int .i64 x.p] 28)).alloc (.cells #[.int .i64 y.c, .int .i64 y.r, .int .i64 y.d, .int .i64 y.p] 28)).alloc (.cells #[.int .i64 0, .int .i64 0, .int .i64 0, .int .i64 0] 28)) := ⟨_, rfl⟩
  obtain ⟨B, hB⟩ : ∃ B, B = w.heap.size := ⟨_, rfl⟩
  have B0 : Hid (Blk w3 B (amC x) 28) := Lib.hid (by
    have := ((Blk.made w (amC x) 28).alloc (.cells #[.int .i64 y.c, .int .i64 y.r, .int .i64 y.d, .int .i64 y.p] 28)).alloc (.cells #[.int .i64 0, .int .i64 0, .int .i64 0, .int .i64 0] 28)
    rw [hw3, hB]; exact this)
  have B1 : Hid (Blk w3 (B + 1) (amC y) 28) := Lib.hid (by
    have := (Blk.made (w.alloc (.cells #[.int .i64 x.c, .int .i64 x.r, .int .i64 x.d, .int .i64 x.p] 28)) (amC y) 28).alloc (.cells #[.int .i64 0, .int .i64 0, .int .i64 0, .int .i64 0] 28)
    rw [hw3, hB]; simpa using this)
  have B2 : Hid (Blk w3 (B + 1 + 1) (amC .zero) 28) := Lib.hid (by
    have := Blk.made ((w.alloc (.cells #[.int .i64 x.c, .int .i64 x.r, .int .i64 x.d, .int .i64 x.p] 28)).alloc (.cells #[.int .i64 y.c, .int .i64 y.r, .int .i64 y.d, .int .i64 y.p] 28)) (amC .zero) 28
    rw [hw3, hB]; simpa [Am.zero] using this)
  have HSZ : Hid (w3.heap.size = B + 3) := Lib.hid (by rw [hw3, hB]; simp)
  have HBW0 : Hid (w.heap.size ≤ B) := Lib.hid (by omega)
  have HBL : Hid (Below w.heap.size w w3) := Lib.hid (by rw [hw3]; exact below_and (below_and (below_alloc w _) (below_alloc _ _)) (below_alloc _ _))
  have c0 := B0.out.cell (j := 0) rfl
  have c1 := B0.out.cell (j := 1) rfl
  have c2 := B0.out.cell (j := 2) rfl
  have c3 := B0.out.cell (j := 3) rfl
  have c4 := B1.out.cell (j := 0) rfl
  have c5 := B1.out.cell (j := 1) rfl
  have c6 := B1.out.cell (j := 2) rfl
  have c7 := B1.out.cell (j := 3) rfl
  go_enter Try.func46, Try.ntmps46
  go_upto_region 1 with fail
  rw [← hw3, ← hB]
  clear hw3 hB
  go_wp2_with (go_at_call 55; refine (all_two w3 x y).mono ?_; rw [HA.out]; rintro e ws ⟨rfl, hb⟩; have C0 := Lib.hid (B0.out.kept hb); have C1 := Lib.hid (B1.out.kept hb); have hbr := B2.out.kept hb; have C2 := Lib.hid hbr; have HBS := Lib.hid (below_and HBL.out hb); have HSS : Hid (B + 3 ≤ ws.heap.size) := Lib.hid (by have := hb.size; have := HSZ.out; omega); have r0 := hbr.cell (j := 0) rfl; have r1 := hbr.cell (j := 1) rfl; have r2 := hbr.cell (j := 2) rfl; have r3 := hbr.cell (j := 3) rfl; have f0 := hbr.free 0; have f1 := hbr.free 1; have f2 := hbr.free 2; have f3 := hbr.free 3; clear hb hbr)
  refine bodyPost_ret (results_row_tmp rfl _ _ (B + 1 + 1) 28 #[.int .i64 0, .int .i64 0, .int .i64 0, .int .i64 0] (0, 0) _ rfl ?_ Try.underlying28 rfl (by kernel_rfl)) rfl ⟨?_, ?_⟩
  · exact (((C2.out.set 0 (.int .i64 0)).set 1 (.int .i64 0)).set 2 (.int .i64 0)).set 3 (.int .i64 0)
  · rw [HR.out]; rfl
  · have hBw : w.heap.size ≤ B + 1 + 1 := by have := HBW0.out; omega
    exact (((HBS.out.setCell (p := ⟨B + 1 + 1, 0, none⟩) hBw _).setCell (p := ⟨B + 1 + 1, 1, none⟩) hBw _).setCell (p := ⟨B + 1 + 1, 2, none⟩) hBw _).setCell (p := ⟨B + 1 + 1, 3, none⟩) hBw _

set_option maxRecDepth 100000 in
set_option maxHeartbeats 4000000 in
theorem sub_nofit (x y : Am) (w : World) (ha : (x.okB && y.okB) = true) (hf : fitsB y x = false) :
    Calls Try.prog 46 #[amV x, amV y] w fun e w' => e = .returned (.tuple #[amV (subR x y).1, .int .i64 (subR x y).2]) ∧ Below w.heap.size w w' := by
  have HA := Lib.hid ha
  have HF := Lib.hid hf
  have HR := Lib.hid (subR_fit ha hf)
  clear ha hf
  obtain ⟨w3, hw3⟩ : ∃ w3, w3 = (((w.alloc (.cells #[.int .i64 x.c, .int .i64 x.r, .int .i64 x.d, .int .i64 x.p] 28)).alloc (.cells #[.int .i64 y.c, .int .i64 y.r, .int .i64 y.d, .int .i64 y.p] 28)).alloc (.cells #[.int .i64 0, .int .i64 0, .int .i64 0, .int .i64 0] 28)) := ⟨_, rfl⟩
  obtain ⟨B, hB⟩ : ∃ B, B = w.heap.size := ⟨_, rfl⟩
  have B0 : Hid (Blk w3 B (amC x) 28) := Lib.hid (by
    have := ((Blk.made w (amC x) 28).alloc (.cells #[.int .i64 y.c, .int .i64 y.r, .int .i64 y.d, .int .i64 y.p] 28)).alloc (.cells #[.int .i64 0, .int .i64 0, .int .i64 0, .int .i64 0] 28)
    rw [hw3, hB]; exact this)
  have B1 : Hid (Blk w3 (B + 1) (amC y) 28) := Lib.hid (by
    have := (Blk.made (w.alloc (.cells #[.int .i64 x.c, .int .i64 x.r, .int .i64 x.d, .int .i64 x.p] 28)) (amC y) 28).alloc (.cells #[.int .i64 0, .int .i64 0, .int .i64 0, .int .i64 0] 28)
    rw [hw3, hB]; simpa using this)
  have B2 : Hid (Blk w3 (B + 1 + 1) (amC .zero) 28) := Lib.hid (by
    have := Blk.made ((w.alloc (.cells #[.int .i64 x.c, .int .i64 x.r, .int .i64 x.d, .int .i64 x.p] 28)).alloc (.cells #[.int .i64 y.c, .int .i64 y.r, .int .i64 y.d, .int .i64 y.p] 28)) (amC .zero) 28
    rw [hw3, hB]; simpa [Am.zero] using this)
  have HSZ : Hid (w3.heap.size = B + 3) := Lib.hid (by rw [hw3, hB]; simp)
  have HBW0 : Hid (w.heap.size ≤ B) := Lib.hid (by omega)
  have HBL : Hid (Below w.heap.size w w3) := Lib.hid (by rw [hw3]; exact below_and (below_and (below_alloc w _) (below_alloc _ _)) (below_alloc _ _))
  have c0 := B0.out.cell (j := 0) rfl
  have c1 := B0.out.cell (j := 1) rfl
  have c2 := B0.out.cell (j := 2) rfl
  have c3 := B0.out.cell (j := 3) rfl
  have c4 := B1.out.cell (j := 0) rfl
  have c5 := B1.out.cell (j := 1) rfl
  have c6 := B1.out.cell (j := 2) rfl
  have c7 := B1.out.cell (j := 3) rfl
  go_enter Try.func46, Try.ntmps46
  go_upto_region 1 with fail
  rw [← hw3, ← hB]
  clear hw3 hB
  go_wp2_with (first | (go_at_call 55; refine (all_two w3 x y).mono ?_; rw [HA.out]; rintro e ws ⟨rfl, hb⟩; have C0 := Lib.hid (B0.out.kept hb); have C1 := Lib.hid (B1.out.kept hb); have hbr := B2.out.kept hb; have C2 := Lib.hid hbr; have HBS := Lib.hid (below_and HBL.out hb); have HSS : Hid (B + 3 ≤ ws.heap.size) := Lib.hid (by have := hb.size; have := HSZ.out; omega); have r0 := hbr.cell (j := 0) rfl; have r1 := hbr.cell (j := 1) rfl; have r2 := hbr.cell (j := 2) rfl; have r3 := hbr.cell (j := 3) rfl; have f0 := hbr.free 0; have f1 := hbr.free 1; have f2 := hbr.free 2; have f3 := hbr.free 3; clear hb hbr; clear c0 c1 c2 c3 c4 c5 c6 c7; have c0 := C0.out.cell (j := 0) rfl; have c1 := C0.out.cell (j := 1) rfl; have c2 := C0.out.cell (j := 2) rfl; have c3 := C0.out.cell (j := 3) rfl; have c4 := C1.out.cell (j := 0) rfl; have c5 := C1.out.cell (j := 1) rfl; have c6 := C1.out.cell (j := 2) rfl; have c7 := C1.out.cell (j := 3) rfl) | (go_at_call 30; refine (fits_any y x _).mono ?_; rw [HF.out]; rintro e wt ⟨rfl, hb⟩; have D0 := Lib.hid (C0.out.kept hb); have D1 := Lib.hid (C1.out.kept hb); have hbr := C2.out.kept hb; have D2 := Lib.hid hbr; have HBT := Lib.hid (below_and HBS.out hb); have HST : Hid (B + 3 ≤ wt.heap.size) := Lib.hid (by have := hb.size; have := HSS.out; omega); have r0 := hbr.cell (j := 0) rfl; have r1 := hbr.cell (j := 1) rfl; have r2 := hbr.cell (j := 2) rfl; have r3 := hbr.cell (j := 3) rfl; have f0 := hbr.free 0; have f1 := hbr.free 1; have f2 := hbr.free 2; have f3 := hbr.free 3; clear hb hbr))
  refine bodyPost_ret (results_row_tmp rfl _ _ (B + 1 + 1) 28 #[.int .i64 0, .int .i64 0, .int .i64 0, .int .i64 0] (0, 0) _ rfl ?_ Try.underlying28 rfl (by kernel_rfl)) rfl ⟨?_, ?_⟩
  · exact (((D2.out.set 0 (.int .i64 0)).set 1 (.int .i64 0)).set 2 (.int .i64 0)).set 3 (.int .i64 0)
  · rw [HR.out]; rfl
  · have hBw : w.heap.size ≤ B + 1 + 1 := by have := HBW0.out; omega
    exact (((HBT.out.setCell (p := ⟨B + 1 + 1, 0, none⟩) hBw _).setCell (p := ⟨B + 1 + 1, 1, none⟩) hBw _).setCell (p := ⟨B + 1 + 1, 2, none⟩) hBw _).setCell (p := ⟨B + 1 + 1, 3, none⟩) hBw _

set_option maxRecDepth 100000 in
set_option maxHeartbeats 4000000 in
theorem sub_good (x y : Am) (w : World) (ha : (x.okB && y.okB) = true) (hf : fitsB y x = true) :
    Calls Try.prog 46 #[amV x, amV y] w fun e w' => e = .returned (.tuple #[amV (subR x y).1, .int .i64 (subR x y).2]) ∧ Below w.heap.size w w' := by
  have HA := Lib.hid ha
  have HX : Hid (x.okB = true) := Lib.hid (by simp at ha; exact ha.1)
  have HY : Hid (y.okB = true) := Lib.hid (by simp at ha; exact ha.2)
  clear ha
  have HF := Lib.hid hf
  clear hf
  obtain ⟨w3, hw3⟩ : ∃ w3, w3 = (((w.alloc (.cells #[.int .i64 x.c, .int .i64 x.r, .int .i64 x.d, .int .i64 x.p] 28)).alloc (.cells #[.int .i64 y.c, .int .i64 y.r, .int .i64 y.d, .int .i64 y.p] 28)).alloc (.cells #[.int .i64 0, .int .i64 0, .int .i64 0, .int .i64 0] 28)) := ⟨_, rfl⟩
  obtain ⟨B, hB⟩ : ∃ B, B = w.heap.size := ⟨_, rfl⟩
  have B0 : Hid (Blk w3 B (amC x) 28) := Lib.hid (by
    have := ((Blk.made w (amC x) 28).alloc (.cells #[.int .i64 y.c, .int .i64 y.r, .int .i64 y.d, .int .i64 y.p] 28)).alloc (.cells #[.int .i64 0, .int .i64 0, .int .i64 0, .int .i64 0] 28)
    rw [hw3, hB]; exact this)
  have B1 : Hid (Blk w3 (B + 1) (amC y) 28) := Lib.hid (by
    have := (Blk.made (w.alloc (.cells #[.int .i64 x.c, .int .i64 x.r, .int .i64 x.d, .int .i64 x.p] 28)) (amC y) 28).alloc (.cells #[.int .i64 0, .int .i64 0, .int .i64 0, .int .i64 0] 28)
    rw [hw3, hB]; simpa using this)
  have B2 : Hid (Blk w3 (B + 1 + 1) (amC .zero) 28) := Lib.hid (by
    have := Blk.made ((w.alloc (.cells #[.int .i64 x.c, .int .i64 x.r, .int .i64 x.d, .int .i64 x.p] 28)).alloc (.cells #[.int .i64 y.c, .int .i64 y.r, .int .i64 y.d, .int .i64 y.p] 28)) (amC .zero) 28
    rw [hw3, hB]; simpa [Am.zero] using this)
  have HSZ : Hid (w3.heap.size = B + 3) := Lib.hid (by rw [hw3, hB]; simp)
  have HBW0 : Hid (w.heap.size ≤ B) := Lib.hid (by omega)
  have HBL : Hid (Below w.heap.size w w3) := Lib.hid (by rw [hw3]; exact below_and (below_and (below_alloc w _) (below_alloc _ _)) (below_alloc _ _))
  have c0 := B0.out.cell (j := 0) rfl
  have c1 := B0.out.cell (j := 1) rfl
  have c2 := B0.out.cell (j := 2) rfl
  have c3 := B0.out.cell (j := 3) rfl
  have c4 := B1.out.cell (j := 0) rfl
  have c5 := B1.out.cell (j := 1) rfl
  have c6 := B1.out.cell (j := 2) rfl
  have c7 := B1.out.cell (j := 3) rfl
  go_enter Try.func46, Try.ntmps46
  go_upto_region 1 with fail
  rw [← hw3, ← hB]
  clear hw3 hB
  go_upto_region 5 with (first | (go_at_call 55; refine (all_two w3 x y).mono ?_; rw [HA.out]; rintro e ws ⟨rfl, hb⟩; have C0 := Lib.hid (B0.out.kept hb); have C1 := Lib.hid (B1.out.kept hb); have hbr := B2.out.kept hb; have C2 := Lib.hid hbr; have HBS := Lib.hid (below_and HBL.out hb); have HSS : Hid (B + 3 ≤ ws.heap.size) := Lib.hid (by have := hb.size; have := HSZ.out; omega); have r0 := hbr.cell (j := 0) rfl; have r1 := hbr.cell (j := 1) rfl; have r2 := hbr.cell (j := 2) rfl; have r3 := hbr.cell (j := 3) rfl; have f0 := hbr.free 0; have f1 := hbr.free 1; have f2 := hbr.free 2; have f3 := hbr.free 3; clear hb hbr; clear c0 c1 c2 c3 c4 c5 c6 c7; have c0 := C0.out.cell (j := 0) rfl; have c1 := C0.out.cell (j := 1) rfl; have c2 := C0.out.cell (j := 2) rfl; have c3 := C0.out.cell (j := 3) rfl; have c4 := C1.out.cell (j := 0) rfl; have c5 := C1.out.cell (j := 1) rfl; have c6 := C1.out.cell (j := 2) rfl; have c7 := C1.out.cell (j := 3) rfl) | (go_at_call 30; refine (fits_any y x _).mono ?_; rw [HF.out]; rintro e wt ⟨rfl, hb⟩; have D0 := Lib.hid (C0.out.kept hb); have D1 := Lib.hid (C1.out.kept hb); have hbr := C2.out.kept hb; have D2 := Lib.hid hbr; have HBT := Lib.hid (below_and HBS.out hb); have HST : Hid (B + 3 ≤ wt.heap.size) := Lib.hid (by have := hb.size; have := HSS.out; omega); have r0 := hbr.cell (j := 0) rfl; have r1 := hbr.cell (j := 1) rfl; have r2 := hbr.cell (j := 2) rfl; have r3 := hbr.cell (j := 3) rfl; have f0 := hbr.free 0; have f1 := hbr.free 1; have f2 := hbr.free 2; have f3 := hbr.free 3; clear hb hbr))
  clear c0 c1 c2 c3 c4 c5 c6 c7 r0 r1 r2 r3 f0 f1 f2 f3 B0 B1 B2
  obtain ⟨B0, B1⟩ : Hid (Blk wt B (amC x) 28) ∧ Hid (Blk wt (B + 1) (amC y) 28) := ⟨D0, D1⟩
  go_cut [6, 7] (fun sa sb wx => Two wt.heap.size wx sa sb x y ∧ Below wt.heap.size wt wx)
  case first =>
    go_region_held3 (fun w' => w'.cell? ⟨B, 0, none⟩ = some (.int .i64 x.c) ∧ w'.cell? ⟨B, 1, none⟩ = some (.int .i64 x.r) ∧ w'.cell? ⟨B, 2, none⟩ = some (.int .i64 x.d) ∧ w'.cell? ⟨B, 3, none⟩ = some (.int .i64 x.p) ∧ w'.cell? ⟨B + 1, 0, none⟩ = some (.int .i64 y.c) ∧ w'.cell? ⟨B + 1, 1, none⟩ = some (.int .i64 y.r) ∧ w'.cell? ⟨B + 1, 2, none⟩ = some (.int .i64 y.d) ∧ w'.cell? ⟨B + 1, 3, none⟩ = some (.int .i64 y.p)) (refine eight (t := 28) (u := 28) ?_ ?_ <;> (repeat (first | exact B0.out | exact B1.out | apply Blk.drew | apply Blk.alloc)))
      (first | (go_at_call 45; refine (array_exact _ _).mono ?_; rintro e w1 ⟨rfl, rfl⟩))
    all_goals go_wp2_with fail
    all_goals go_meet
    all_goals refine ⟨⟨_, _, rfl, rfl, by omega, by omega, by omega, ?_, ?_⟩, ?_⟩
    all_goals first
      | ((repeat (first | exact Below.refl _ _ | apply bl_drew | (refine bl_alloc _ ?_ (by simp <;> omega)))); done)
      | ((repeat (first | (refine Blk.made_at (cs := amC x) ?_; simp; done) | (refine Blk.made_at (cs := amC y) ?_; simp; done) | apply Blk.drew | apply Blk.alloc)); done)
  case rest =>
    obtain ⟨⟨g, h, rfl, rfl, hgh, hg, hh, hb1, hb2⟩, hbl⟩ := hcut
    have HB1 := Lib.hid hb1
    have HB2 := Lib.hid hb2
    have HBW := Lib.hid hbl
    have HGH := Lib.hid (show g ≠ h ∧ wt.heap.size ≤ g ∧ wt.heap.size ≤ h from ⟨hgh, hg, hh⟩)
    clear hb1 hb2 hbl hgh hg hh
    obtain ⟨z, hz⟩ : ∃ z : Am, z = .of fun k => x.get k - y.get k := ⟨_, rfl⟩
    have HZ : Hid (∀ k, k < 4 → z.get k = x.get k - y.get k) := Lib.hid (fun k hk => by rw [hz, Am.of_get _ k hk])
    clear hz
    go_wp2
    go_loopw [24] (fun i wc => ∃ k : Nat, k ≤ 4 ∧ i = .int .i64 (k : Int) ∧ Hid (Blk wc g (amC (Am.mix k x z)) 77) ∧ Hid (Blk wc h (amC y) 77) ∧ Hid (Below wt.heap.size wt wc)) (fun i _ => 4 - (intOf i).toNat)
    case atStart => exact ⟨0, Nat.zero_le _, rfl, HB1, HB2, HBW⟩
    case round =>
      obtain ⟨k, hk, rfl, HXa, HYa, HBx⟩ := hrel
      by_cases hlt : k < 4
      · have i0 : (0 : Int) ≤ (k : Int) := by omega
        have i1 : (k : Int) < 4 := by omega
        have hx := HXa.out.cell (Am.mix_get k hlt x z)
        have hy := HYa.out.cell (amC_get y hlt)
        have fx := HXa.out.free k
        have hzk := HZ.out k hlt
        obtain ⟨p, hp⟩ : ∃ p, p = x.get k := ⟨_, rfl⟩
        obtain ⟨q, hq⟩ : ∃ q, q = y.get k := ⟨_, rfl⟩
        have p0 : 0 ≤ p ∧ p ≤ 1099511627776 := by rw [hp]; exact ok_get HX.out hlt
        have q0 : 0 ≤ q ∧ q ≤ 1099511627776 := by rw [hq]; exact ok_get HY.out hlt
        obtain ⟨p1, p2⟩ := p0
        obtain ⟨q1, q2⟩ := q0
        rw [← hp] at hx
        rw [← hq] at hy
        rw [← hp, ← hq] at hzk
        have HZK := Lib.hid hzk
        clear hp hq hzk
        have s1 : IntKind.i64.wrap (p - q) = p - q := by rw [IntKind.wrap_i64]; omega
        have s2 : wrap64 (p - q) = p - q := by unfold wrap64; omega
        go_wp2
        go_region
        all_goals go_wp2
        go_roundw
        case rel => exact ⟨k + 1, by omega, by go_num, Lib.hid (by
            have := HXa.out.set k (.int .i64 (z.get k))
            rw [Am.mix_set k hlt, HZK.out] at this
            exact this), Lib.hid (HYa.out.other (Ne.symm HGH.out.1) _), Lib.hid (bl_drew (HBx.out.setCell (p := ⟨g, k, none⟩) HGH.out.2.1 _))⟩
        case measure => simp [intOf]; omega
      · obtain rfl : k = 4 := by omega
        have HR := Lib.hid (subR_ok (x := x) (y := y) (z := z) (by rw [HX.out, HY.out]; rfl) HF.out HZ.out)
        have hx4 : Blk wr g (amC z) 77 := HXa.out
        have z0 := hx4.cell (j := 0) rfl
        have z1 := hx4.cell (j := 1) rfl
        have z2 := hx4.cell (j := 2) rfl
        have z3 := hx4.cell (j := 3) rfl
        have BR : Hid (Blk wr (B + 1 + 1) (amC .zero) 28) := Lib.hid (D2.out.kept HBx.out)
        clear hx4
        go_wp2_with (go_at_call 56; refine (amounts_any z _).mono ?_; rintro e w5 ⟨rfl, hb⟩; have hbr := BR.out.kept hb; have r0 := hbr.cell (j := 0) rfl; have r1 := hbr.cell (j := 1) rfl; have r2 := hbr.cell (j := 2) rfl; have r3 := hbr.cell (j := 3) rfl; have f0 := hbr.free 0; have f1 := hbr.free 1; have f2 := hbr.free 2; have f3 := hbr.free 3; have BR5 := Lib.hid hbr; have HB5 := Lib.hid (below_and HBT.out (below_and HBx.out hb)); clear hb hbr)
        refine bodyPost_ret (results_row_tmp rfl _ _ (B + 1 + 1) 28 #[.int .i64 z.c, .int .i64 z.r, .int .i64 z.d, .int .i64 z.p] (0, 0) _ rfl ?_ Try.underlying28 rfl (by kernel_rfl)) rfl ⟨?_, ?_⟩
        · exact (((BR5.out.set 0 (.int .i64 z.c)).set 1 (.int .i64 z.r)).set 2 (.int .i64 z.d)).set 3 (.int .i64 z.p)
        · rw [HR.out]; rfl
        · have hBw : w.heap.size ≤ B + 1 + 1 := by have := HBW0.out; omega
          exact (((HB5.out.setCell (p := ⟨B + 1 + 1, 0, none⟩) hBw _).setCell (p := ⟨B + 1 + 1, 1, none⟩) hBw _).setCell (p := ⟨B + 1 + 1, 2, none⟩) hBw _).setCell (p := ⟨B + 1 + 1, 3, none⟩) hBw _

theorem sub_any (x y : Am) (w : World) :
    Calls Try.prog 46 #[amV x, amV y] w fun e w' => e = .returned (.tuple #[amV (subR x y).1, .int .i64 (subR x y).2]) ∧ Below w.heap.size w w' := by
  cases h : x.okB && y.okB
  · exact sub_bad x y w h
  · cases hf : fitsB y x
    · exact sub_nofit x y w h hf
    · exact sub_good x y w h hf
end Go.Proofs.Ytighcnecajgkpaa
namespace Go.Proofs.Ytighcnecajgkpaa
open Go.RowKit

/-- block b is a ledger that was made, its map in block mb -/
structure Led (w : World) (b mb : Nat) (cap : Am) (L : List Ent) : Prop where
  blk : Blk w b [.int .i64 cap.c, .int .i64 cap.r, .int .i64 cap.d, .int .i64 cap.p, .map (some mb)] 54
  map : SMap Try.prog 9 w mb (entM L)
  ne : mb ≠ b
theorem Led.kept {w w' : World} {b mb : Nat} {cap : Am} {L : List Ent} (h : Led w b mb cap L) (hb : Below w.heap.size w w') : Led w' b mb cap L := ⟨h.blk.kept hb, h.map.kept hb, h.ne⟩

abbrev zE : Ent := ⟨⟨#[]⟩, ⟨#[]⟩, ⟨0, 0, 0, 0⟩⟩
theorem zero_run {P : Program} {t : TypeId} {z : Value} (h : (P.info? t).bind (·.zero) = some z) (w : World) : (zeroValue t).run P w = .ok z w := by
  cases hi : P.info? t with
  | none => rw [hi] at h; cases h
  | some i =>
    rw [hi] at h
    have hz : i.zero = some z := h
    simp [zeroValue, typeInfo, hi, hz, Result.andThen]
theorem ezero (w : World) : (zeroValue 48).run Try.prog w = .ok (entV zE) w := zero_run (by kernel_rfl) w

theorem blk6 {w : World} {g : Nat} {x z : Ent} {t : TypeId} (h : Blk w g (entC x) t) : Blk ((((((w.setCell ⟨g, 0, none⟩ (.string z.n)).setCell ⟨g, 1, none⟩ (.string z.i)).setCell ⟨g, 2, none⟩ (.int .i64 z.a.c)).setCell ⟨g, 3, none⟩ (.int .i64 z.a.r)).setCell ⟨g, 4, none⟩ (.int .i64 z.a.d)).setCell ⟨g, 5, none⟩ (.int .i64 z.a.p)) g (entC z) t :=
  (((((h.set 0 _).set 1 _).set 2 _).set 3 _).set 4 _).set 5 _

/-! none -/
set_option maxRecDepth 100000 in
set_option maxHeartbeats 400000 in
theorem none_made (b mb : Nat) (cap : Am) (L : List Ent) (w : World) (h : Led w b mb cap L) :
    Calls Try.prog 29 #[ptr b] w fun e w' => e = .returned (.bool false) ∧ w = w' := by
  have c1 := h.blk.cell (j := 4) rfl
  clear h
  have he := fun w r => run_eql_map_nil (P := Try.prog) w 52 9 48 r Try.underlying52
  go_enter Try.func29, Try.ntmps29
  go_wp2
  go_ret
  exact ⟨rfl, rfl⟩
set_option maxRecDepth 100000 in
set_option maxHeartbeats 400000 in
theorem none_nil (w : World) :
    Calls Try.prog 29 #[.pointer none] w fun e w' => e = .returned (.bool true) ∧ w = w' := by
  go_enter Try.func29, Try.ntmps29
  go_wp2
  go_ret
  exact ⟨rfl, rfl⟩
set_option maxRecDepth 100000 in
set_option maxHeartbeats 400000 in
theorem none_unmade (b : Nat) (w : World) (h : w.cell? ⟨b, 4, none⟩ = some (.map none)) :
    Calls Try.prog 29 #[ptr b] w fun e w' => e = .returned (.bool true) ∧ w = w' := by
  have he := fun w r => run_eql_map_nil (P := Try.prog) w 52 9 48 r Try.underlying52
  go_enter Try.func29, Try.ntmps29
  go_wp2
  go_ret
  exact ⟨rfl, rfl⟩

/-! New -/
set_option maxRecDepth 100000 in
set_option maxHeartbeats 1000000 in
theorem lnew_ok (cap : Am) (w : World) (hc : cap.okB = true) :
    Calls Try.prog 8 #[amV cap] w fun e w' => ∃ b mb, e = .returned (.tuple #[ptr b, .int .i64 0]) ∧ w.heap.size ≤ b ∧ w.heap.size ≤ mb ∧ Led w' b mb cap [] ∧ Below w.heap.size w w' := by
  have HC := Lib.hid (Am.chk_yes hc)
  clear hc
  have hmm := @run_makeMap Try.prog
  go_enter Try.func8, Try.ntmps8
  go_wp2_with (go_at_call 28; refine (check_any cap _).mono ?_; rw [HC.out]; rintro e w1 ⟨rfl, hb⟩; have hq := (Blk.made w (amC cap) 28).kept hb; have c0 := hq.cell (j := 0) rfl; have c1 := hq.cell (j := 1) rfl; have c2 := hq.cell (j := 2) rfl; have c3 := hq.cell (j := 3) rfl; have HB1 := Lib.hid (below_and (below_alloc w _) hb); clear hb hq)
  go_ret2
  have hs := HB1.out.size
  refine ⟨w1.heap.size + 1, w1.heap.size, rfl, by omega, hs, ⟨by simpa using Blk.made (w1.alloc (.map #[] 0)) [.int .i64 cap.c, .int .i64 cap.r, .int .i64 cap.d, .int .i64 cap.p, .map (some w1.heap.size)] 54, (smap_made w1 _ _).kept (below_alloc _ _), by omega⟩, below_and (below_and HB1.out (below_alloc w1 _)) (below_alloc _ _)⟩
set_option maxRecDepth 100000 in
set_option maxHeartbeats 1000000 in
theorem lnew_bad (cap : Am) (w : World) (hc : cap.okB = false) :
    Calls Try.prog 8 #[amV cap] w fun e w' => e = .returned (.tuple #[.pointer none, .int .i64 2]) ∧ Below w.heap.size w w' := by
  have HC := Lib.hid (Am.chk_no hc)
  clear hc
  go_enter Try.func8, Try.ntmps8
  go_wp2_with (go_at_call 28; refine (check_any cap _).mono ?_; rw [HC.out]; rintro e w1 ⟨rfl, hb⟩; have HB1 := Lib.hid (below_and (below_alloc w _) hb); clear hb)
  go_ret2
  exact ⟨rfl, HB1.out⟩

/-! Get -/
theorem get_some {L : List Ent} {s : List UInt8} {e : Ent} (h : fnd L s = some e) : (entM L).get s = some (entV e) ∧ (entM L).hasK s = true := by rw [entM_get, entM_has, h]; exact ⟨rfl, rfl⟩
theorem get_none {L : List Ent} {s : List UInt8} (h : fnd L s = none) : (entM L).get s = none ∧ (entM L).hasK s = false := by rw [entM_get, entM_has, h]; exact ⟨rfl, rfl⟩
set_option maxRecDepth 100000 in
set_option maxHeartbeats 1000000 in
theorem lget_yes (b mb : Nat) (cap : Am) (L : List Ent) (s : ByteArray) (x : Ent) (w : World) (h : Led w b mb cap L) (hs : s.size ≤ maxLen) (hg : fnd L s.data.toList = some x) :
    Calls Try.prog 22 #[ptr b, .string s] w fun e w' => e = .returned (.tuple #[entV x, .int .i64 0]) ∧ Below w.heap.size w w' := by
  have H := Lib.hid h
  have HS := Lib.hid hs
  have HG := Lib.hid (get_some hg)
  have c4 := ((h.kept (below_alloc w (.cells #[.string ⟨#[]⟩, .string ⟨#[]⟩, .int .i64 0, .int .i64 0, .int .i64 0, .int .i64 0] 48))).blk).cell (j := 4) rfl
  clear h hs hg
  go_enter Try.func22, Try.ntmps22
  go_wp2_with (first
    | (go_at_call 29; refine (none_made b mb _ _ _ (by exact H.out.kept (below_alloc _ _))).mono ?_; rintro e w' ⟨rfl, rfl⟩)
    | (at_lookup; refine wpList_slook_ok _ rfl _ _ _ rfl 9 48 Try.underlying9 Try.underlying52 (ezero _) mb (entM L) rfl (by exact (H.out.kept (below_alloc _ _)).map) s rfl HS.out ?_; rw [HG.out.1, HG.out.2]; simp only [Option.getD_some]))
  refine bodyPost_ret (results_row_tmp rfl _ _ w.heap.size 48 #[.string x.n, .string x.i, .int .i64 x.a.c, .int .i64 x.a.r, .int .i64 x.a.d, .int .i64 x.a.p] (0, 0) _ rfl ((Blk.made w (entC x) 48).kept (below_alloc _ _)) Try.underlying48 rfl (by kernel_rfl)) rfl ?_
  exact ⟨rfl, below_and (below_alloc w _) (below_alloc _ _)⟩
set_option maxRecDepth 100000 in
set_option maxHeartbeats 1000000 in
theorem lget_no (b mb : Nat) (cap : Am) (L : List Ent) (s : ByteArray) (w : World) (h : Led w b mb cap L) (hs : s.size ≤ maxLen) (hg : fnd L s.data.toList = none) :
    Calls Try.prog 22 #[ptr b, .string s] w fun e w' => e = .returned (.tuple #[entV zE, .int .i64 6]) ∧ Below w.heap.size w w' := by
  have H := Lib.hid h
  have HS := Lib.hid hs
  have HG := Lib.hid (get_none hg)
  have c4 := ((h.kept (below_alloc w (.cells #[.string ⟨#[]⟩, .string ⟨#[]⟩, .int .i64 0, .int .i64 0, .int .i64 0, .int .i64 0] 48))).blk).cell (j := 4) rfl
  clear h hs hg
  go_enter Try.func22, Try.ntmps22
  go_wp2_with (first
    | (go_at_call 29; refine (none_made b mb _ _ _ (by exact H.out.kept (below_alloc _ _))).mono ?_; rintro e w' ⟨rfl, rfl⟩)
    | (at_lookup; refine wpList_slook_ok _ rfl _ _ _ rfl 9 48 Try.underlying9 Try.underlying52 (ezero _) mb (entM L) rfl (by exact (H.out.kept (below_alloc _ _)).map) s rfl HS.out ?_; rw [HG.out.1, HG.out.2]; simp only [Option.getD_none]))
  refine bodyPost_ret (results_row_tmp rfl _ _ w.heap.size 48 #[.string ⟨#[]⟩, .string ⟨#[]⟩, .int .i64 0, .int .i64 0, .int .i64 0, .int .i64 0] (0, 0) _ rfl ((Blk.made w (entC zE) 48).kept (below_alloc _ _)) Try.underlying48 rfl (by kernel_rfl)) rfl ?_
  exact ⟨rfl, below_and (below_alloc w _) (below_alloc _ _)⟩

/-! Capacity -/
set_option maxRecDepth 100000 in
set_option maxHeartbeats 1000000 in
theorem lcap_made (b mb : Nat) (cap : Am) (L : List Ent) (w : World) (h : Led w b mb cap L) :
    Calls Try.prog 25 #[ptr b] w fun e w' => e = .returned (amV cap) ∧ Below w.heap.size w w' := by
  have H := Lib.hid h
  have hk := (h.kept (below_alloc w (.cells #[.int .i64 0, .int .i64 0, .int .i64 0, .int .i64 0] 28))).blk
  have c0 := hk.cell (j := 0) rfl
  have c1 := hk.cell (j := 1) rfl
  have c2 := hk.cell (j := 2) rfl
  have c3 := hk.cell (j := 3) rfl
  clear h hk
  go_enter Try.func25, Try.ntmps25
  go_wp2_with (go_at_call 29; refine (none_made b mb _ _ _ (by exact H.out.kept (below_alloc _ _))).mono ?_; rintro e w' ⟨rfl, rfl⟩)
  refine bodyPost_ret (results_row rfl _ _ w.heap.size 28 #[.int .i64 cap.c, .int .i64 cap.r, .int .i64 cap.d, .int .i64 cap.p] (0, 0) _ rfl (Blk.made w (amC cap) 28) Try.underlying28 rfl (by kernel_rfl)) rfl ?_
  exact ⟨rfl, below_alloc w _⟩

/-! the picking functions -/
/-- room's: it is in a place, and not the one aside -/
def inB (s t : ByteArray) (e : Ent) : Bool := (e.i.toList == s.toList) && !(e.n.toList == t.toList)
set_option maxRecDepth 100000 in
set_option maxHeartbeats 1000000 in
theorem pick1_any (x : Ent) (s t : ByteArray) (p q : Nat) (w : World) (h0 : w.cell? ⟨p, 0, none⟩ = some (.string s)) (h1 : w.cell? ⟨q, 0, none⟩ = some (.string t)) :
    Calls Try.prog 47 #[entV x, ptr p, ptr q] w fun e w' => e = .returned (.bool (inB s t x)) ∧ Below w.heap.size w w' := by
  have k0 := cell_kept h0 (below_alloc w (.cells #[.string x.n, .string x.i, .int .i64 x.a.c, .int .i64 x.a.r, .int .i64 x.a.d, .int .i64 x.a.p] 48))
  have k1 := cell_kept h1 (below_alloc w (.cells #[.string x.n, .string x.i, .int .i64 x.a.c, .int .i64 x.a.r, .int .i64 x.a.d, .int .i64 x.a.p] 48))
  cases hq : (x.i.toList == s.toList)
  · have HR : Hid (inB s t x = false) := Lib.hid (by unfold inB; rw [hq]; rfl)
    clear h0 h1
    go_enter Try.func47, Try.ntmps47
    go_wp2
    go_ret
    exact ⟨ret_bool HR.out.symm, below_alloc w _⟩
  · cases hr : (x.n.toList == t.toList)
    · have HR : Hid (inB s t x = true) := Lib.hid (by unfold inB; rw [hq, hr]; rfl)
      have hr2 : (x.n.toList != t.toList) = true := by rw [bne, hr]; rfl
      clear h0 h1
      go_enter Try.func47, Try.ntmps47
      go_wp2
      go_ret
      exact ⟨ret_bool HR.out.symm, below_alloc w _⟩
    · have HR : Hid (inB s t x = false) := Lib.hid (by unfold inB; rw [hq, hr]; rfl)
      have hr2 : (x.n.toList != t.toList) = false := by rw [bne, hr]; rfl
      clear h0 h1
      go_enter Try.func47, Try.ntmps47
      go_wp2
      go_ret
      exact ⟨ret_bool HR.out.symm, below_alloc w _⟩
/-- Resize's: it is in a place -/
def inR (s : ByteArray) (e : Ent) : Bool := e.i.toList == s.toList
set_option maxRecDepth 100000 in
set_option maxHeartbeats 1000000 in
theorem pick2_any (x : Ent) (s : ByteArray) (p : Nat) (w : World) (h0 : w.cell? ⟨p, 0, none⟩ = some (.string s)) :
    Calls Try.prog 33 #[entV x, ptr p] w fun e w' => e = .returned (.bool (inR s x)) ∧ Below w.heap.size w w' := by
  have k0 := cell_kept h0 (below_alloc w (.cells #[.string x.n, .string x.i, .int .i64 x.a.c, .int .i64 x.a.r, .int .i64 x.a.d, .int .i64 x.a.p] 48))
  cases hq : (x.i.toList == s.toList)
  all_goals
    have HR := Lib.hid (show inR s x = _ from hq)
    clear h0
    go_enter Try.func33, Try.ntmps33
    go_wp2
    go_ret
    exact ⟨ret_bool HR.out.symm, below_alloc w _⟩
end Go.Proofs.Ytighcnecajgkpaa
namespace Go.Proofs.Ytighcnecajgkpaa
open Go.RowKit

def Oks (L : List Ent) : Prop := ∀ e ∈ L, e.a.okB = true
def doneF (p : Ent → Bool) (left : Lit → Bool) (k : Nat) (e : Ent) : Int := if left (.string e.key) then 0 else pickF p k e
def doneA (p : Ent → Bool) (L : List Ent) (left : Lit → Bool) : Am := .of fun k => tot (doneF p left k) L
theorem doneA_get (p : Ent → Bool) (L : List Ent) (left : Lit → Bool) {k : Nat} (hk : k < 4) : (doneA p L left).get k = tot (doneF p left k) L := Am.of_get _ k hk
theorem zero_get (k : Nat) (hk : k < 4) : Am.zero.get k = 0 := by
  match k, hk with
  | 0, _ => rfl
  | 1, _ => rfl
  | 2, _ => rfl
  | 3, _ => rfl
theorem tot_zero : ∀ L : List Ent, tot (fun _ => 0) L = 0
  | [] => rfl
  | e :: L => by rw [tot_cons, tot_zero L]; rfl
theorem doneA_start {p : Ent → Bool} {L : List Ent} {left : Lit → Bool} (h : ∀ e ∈ L, left (.string e.key) = true) : doneA p L left = .zero := Am.ext_get fun k hk => by
  rw [doneA_get p L left hk, zero_get k hk, ← tot_zero L]
  exact tot_congr fun e he => by unfold doneF; rw [h e he]; rfl
theorem doneA_end {p : Ent → Bool} {L : List Ent} {left : Lit → Bool} (h : ∀ s, left (.string s) = false) : doneA p L left = sumA p L := Am.ext_get fun k hk => by
  rw [doneA_get p L left hk, sumA_get p L hk]
  exact tot_congr fun e he => by unfold doneF; rw [h]; rfl
theorem doneA_step {p : Ent → Bool} {L : List Ent} {left : Lit → Bool} (hd : Apart L) {e : Ent} (he : e ∈ L) (hl : left (.string e.key) = true) {k : Nat} (hk : k < 4) :
    (doneA p L (fun z => left z && !z.sameKey (.string e.key))).get k = (doneA p L left).get k + pickF p k e := by
  rw [doneA_get p L _ hk, doneA_get p L _ hk]
  exact tot_step hd he (fun s => left (.string s)) hl (pickF p k)
theorem doneA_skip {p : Ent → Bool} {L : List Ent} {left : Lit → Bool} (hd : Apart L) {e : Ent} (he : e ∈ L) (hl : left (.string e.key) = true) (hp : p e = false) :
    doneA p L (fun z => left z && !z.sameKey (.string e.key)) = doneA p L left := Am.ext_get fun k hk => by
  rw [doneA_step hd he hl hk]
  unfold pickF
  rw [hp]
  simp
theorem pickF_nonneg {p : Ent → Bool} {L : List Ent} (ho : Oks L) {k : Nat} (hk : k < 4) : ∀ e ∈ L, 0 ≤ pickF p k e := fun e he => by
  have := ok_get (ho e he) hk
  unfold pickF
  split <;> omega
theorem doneA_bd {p : Ent → Bool} {L : List Ent} (left : Lit → Bool) (ho : Oks L) {k : Nat} (hk : k < 4) : 0 ≤ (doneA p L left).get k ∧ (doneA p L left).get k ≤ (sumA p L).get k := by
  rw [doneA_get p L left hk, sumA_get p L hk]
  refine ⟨tot_nonneg fun e he => ?_, tot_le fun e he => ?_⟩
  · have := pickF_nonneg (p := p) ho hk e he
    unfold doneF
    split <;> omega
  · have := pickF_nonneg (p := p) ho hk e he
    unfold doneF
    split <;> omega
/-- the picked ones are not too many -/
def Fit (p : Ent → Bool) (L : List Ent) : Prop := (sumA p L).okB = true
theorem doneA_add {p : Ent → Bool} {L : List Ent} {left : Lit → Bool} (hd : Apart L) (ho : Oks L) (hf : Fit p L) {e : Ent} (he : e ∈ L) (hl : left (.string e.key) = true) (hp : p e = true) :
    addR (doneA p L left) e.a = (doneA p L (fun z => left z && !z.sameKey (.string e.key)), 0) := by
  have hb : ∀ (l : Lit → Bool) k, k < 4 → 0 ≤ (doneA p L l).get k ∧ (doneA p L l).get k ≤ 1099511627776 := fun l k hk => by
    have h1 := doneA_bd (p := p) l ho hk
    have h2 := ok_get hf hk
    omega
  have hst : ∀ k, k < 4 → (doneA p L (fun z => left z && !z.sameKey (.string e.key))).get k = (doneA p L left).get k + e.a.get k := fun k hk => by
    rw [doneA_step hd he hl hk]; unfold pickF; rw [hp]; simp
  have h1 : (doneA p L left).okB = true := by rw [Am.okB_iff]; exact hb left
  exact addR_ok (by rw [h1, ho e he]; rfl) (fun k hk => by rw [← hst k hk]; exact (hb _ k hk).2) hst
end Go.Proofs.Ytighcnecajgkpaa
namespace Go.Proofs.Ytighcnecajgkpaa
open Go.RowKit

set_option maxRecDepth 100000 in
set_option maxHeartbeats 2000000 in
theorem sum1_any (b mb : Nat) (cap : Am) (L : List Ent) (s t : ByteArray) (p q : Nat) (w : World) (h : Led w b mb cap L) (hd : Apart L) (ho : Oks L) (hf : Fit (inB s t) L) (h0 : w.cell? ⟨p, 0, none⟩ = some (.string s)) (h1 : w.cell? ⟨q, 0, none⟩ = some (.string t)) :
    Calls Try.prog 32 #[ptr b, .func (Fn.func 47) #[] #[ptr p, ptr q]] w fun e w' => e = .returned (amV (sumA (inB s t) L)) ∧ Below w.heap.size w w' := by
  obtain ⟨P, hP⟩ : ∃ P : Ent → Bool, P = inB s t := ⟨_, rfl⟩
  rw [← hP] at hf ⊢
  obtain ⟨w3, hw3⟩ : ∃ w3, w3 = (w.alloc (.cells #[.int .i64 0, .int .i64 0, .int .i64 0, .int .i64 0] 28)).alloc (.cells #[.int .i64 0, .int .i64 0, .int .i64 0, .int .i64 0] 28) := ⟨_, rfl⟩
  obtain ⟨B, hB⟩ : ∃ B, B = w.heap.size := ⟨_, rfl⟩
  have B0 : Hid (Blk w3 B (amC .zero) 28) := Lib.hid (by rw [hw3, hB]; exact (Blk.made w (amC .zero) _).alloc _)
  have B1 : Hid (Blk w3 (B + 1) (amC .zero) 28) := Lib.hid (by
    have := Blk.made (w.alloc (.cells #[.int .i64 0, .int .i64 0, .int .i64 0, .int .i64 0] 28)) (amC .zero) 28
    rw [hw3, hB]; simpa [Am.zero] using this)
  have HSZ : Hid (w3.heap.size = B + 2 ∧ w.heap.size = B) := Lib.hid (by rw [hw3, hB]; simp)
  have HBL : Hid (Below w.heap.size w w3) := Lib.hid (by rw [hw3]; exact below_and (below_alloc w _) (below_alloc _ _))
  have H := Lib.hid h
  have H3 : Hid (Led w3 b mb cap L) := Lib.hid (h.kept HBL.out)
  have HML : Hid (mb < B) := Lib.hid (by rw [hB]; exact h.map.lt)
  have HD := Lib.hid hd
  have HO := Lib.hid ho
  have HF := Lib.hid hf
  have HPK : Hid (∀ x w', Below w.heap.size w w' → Calls Try.prog 47 #[entV x, ptr p, ptr q] w' fun e w2 => e = .returned (.bool (P x)) ∧ Below w'.heap.size w' w2) := Lib.hid (fun x w' hb => by rw [hP]; exact pick1_any x s t p q w' (cell_kept h0 hb) (cell_kept h1 hb))
  have c4 := H3.out.blk.cell (j := 4) rfl
  clear h hd ho hf hP h0 h1
  go_enter Try.func32, Try.ntmps32
  go_upto_region 2 with fail
  rw [← hw3, ← hB]
  clear hw3 hB
  go_wp2_with (at_range; refine wpList_srange _ rfl _ _ rfl 9 48 Try.underlying9 Try.underlying52 mb (entM L) rfl H3.out.map ?_; intro w4 hrg0 hb0 hs0; have HRG := Lib.hid hrg0; have HB4 := Lib.hid hb0; have HS4 := Lib.hid hs0; clear hrg0 hb0 hs0)
  go_frame
  go_loopw [13] (fun _ wr => ∃ (left : Lit → Bool) (cnt : Nat), Hid (SRange Try.prog 9 wr mb w3.heap.size (entM L) left cnt) ∧ Hid (Blk wr (B + 1) (amC (doneA P L left)) 28) ∧ Hid (Blk wr B (amC .zero) 28) ∧ Hid (Below w.heap.size w wr)) (fun _ wr => wr.rangeLeft mb w3.heap.size)
  case atStart =>
    refine ⟨_, _, HRG, Lib.hid ?_, Lib.hid (B0.out.kept HB4.out), Lib.hid (below_and HBL.out HB4.out)⟩
    rw [doneA_start (fun e he => by
      show Maps.has (entM L).dat (.string e.key) = true
      rw [SM.dat_has, entM_has, fnd_of HD.out he]; rfl)]
    exact B1.out.kept HB4.out
  case round =>
    obtain ⟨left, cnt, HR, HA, HZ, HBx⟩ := hrel
    go_wp2_with (at_next; refine wpList_snext _ rfl _ rfl 9 Try.underlying9 mb w3.heap.size (entM L) left cnt rfl HR.out ?_ ?_)
    · intro hl0
      have HE := Lib.hid (doneA_end (p := P) (L := L) hl0)
      have a0 := HA.out.cell (j := 0) rfl
      have a1 := HA.out.cell (j := 1) rfl
      have a2 := HA.out.cell (j := 2) rfl
      have a3 := HA.out.cell (j := 3) rfl
      have r0 := HZ.out.cell (j := 0) rfl
      have r1 := HZ.out.cell (j := 1) rfl
      have r2 := HZ.out.cell (j := 2) rfl
      have r3 := HZ.out.cell (j := 3) rfl
      have f0 := HZ.out.free 0
      have f1 := HZ.out.free 1
      have f2 := HZ.out.free 2
      have f3 := HZ.out.free 3
      obtain ⟨z, hz⟩ : ∃ z, z = doneA P L left := ⟨_, rfl⟩
      rw [← hz] at a0 a1 a2 a3
      have HZE : Hid (z = sumA P L) := Lib.hid (by rw [hz]; exact HE.out)
      clear hz hl0
      go_wp2
      refine bodyPost_ret (results_row rfl _ _ B 28 #[.int .i64 z.c, .int .i64 z.r, .int .i64 z.d, .int .i64 z.p] (0, 0) _ rfl ?_ Try.underlying28 rfl (by kernel_rfl)) rfl ⟨by rw [← HZE.out], ?_⟩
      · exact (((HZ.out.set 0 (.int .i64 z.c)).set 1 (.int .i64 z.r)).set 2 (.int .i64 z.d)).set 3 (.int .i64 z.p)
      · have hBw : w.heap.size ≤ B := by have := HSZ.out; omega
        exact (((HBx.out.setCell (p := ⟨B, 0, none⟩) hBw _).setCell (p := ⟨B, 1, none⟩) hBw _).setCell (p := ⟨B, 2, none⟩) hBw _).setCell (p := ⟨B, 3, none⟩) hBw _
    · intro x c w5 cnt5 hlx hgx hrg5 hlt5 hg5 hs5 hen
      obtain ⟨e, hfe, hc⟩ : ∃ e, fnd L x.data.toList = some e ∧ c = entV e := by
        rw [entM_get] at hgx
        cases hq : fnd L x.data.toList with
        | none => rw [hq] at hgx; cases hgx
        | some e => rw [hq] at hgx; exact ⟨e, rfl, (Option.some.inj hgx).symm⟩
      subst hc
      obtain ⟨hem, hek⟩ := fnd_mem hfe
      rw [← hek] at hlx hrg5
      have HA5 := Lib.hid (HA.out.grown hg5 (by have := HSZ.out; simp; omega))
      have HZ5 := Lib.hid (HZ.out.grown hg5 (by have := HSZ.out; simp; omega))
      have HB5 : Hid (Below w.heap.size w w5) := Lib.hid (HBx.out.trans (grown_below hg5 (by have := HSZ.out; omega) HBx.out.size))
      have HR5 := Lib.hid hrg5
      have HL5 := Lib.hid hlt5
      have hb6 := below_alloc w5 (.cells #[.string e.n, .string e.i, .int .i64 e.a.c, .int .i64 e.a.r, .int .i64 e.a.d, .int .i64 e.a.p] 48)
      have HB6 := Lib.hid hb6
      have HME : Hid (e ∈ L ∧ left (.string e.key) = true) := Lib.hid ⟨hem, hlx⟩
      clear hgx hfe hem hek hlx hrg5 hlt5 hg5 hs5 hb6
      cases hp : P e
      · have HP := Lib.hid hp
        have HS := Lib.hid (doneA_skip HD.out HME.out.1 HME.out.2 hp)
        clear hp
        go_wp2_with (go_at_call 47; refine (HPK.out e _ (below_and HB5.out HB6.out)).mono ?_; rw [HP.out]; rintro e' w7 ⟨rfl, hb⟩; have HB7 := Lib.hid (below_and HB6.out hb); clear hb)
        go_roundw
        case rel => exact ⟨_, cnt5, Lib.hid (HR5.out.below HB7.out), Lib.hid (by rw [HS.out]; exact HA5.out.kept HB7.out), Lib.hid (HZ5.out.kept HB7.out), Lib.hid (below_and HB5.out HB7.out)⟩
        case measure => rw [(HR5.out.below HB7.out).left, HR.out.left]; exact HL5.out
      · have HP := Lib.hid hp
        have HS := Lib.hid (doneA_add HD.out HO.out HF.out HME.out.1 HME.out.2 hp)
        obtain ⟨z, hz⟩ : ∃ z, z = doneA P L (fun z => left z && !z.sameKey (.string e.key)) := ⟨_, rfl⟩
        rw [← hz] at HS
        obtain ⟨y, hy⟩ : ∃ y, y = doneA P L left := ⟨_, rfl⟩
        rw [← hy] at HS HA5
        have HZZ := Lib.hid hz
        have HADD : Hid (∀ w, Calls Try.prog 44 #[amV y, amV e.a] w fun e' w' => e' = .returned (.tuple #[amV z, .int .i64 0]) ∧ Below w.heap.size w w') := Lib.hid (fun w => (add_any y e.a w).mono fun e' w' ⟨h1, h2⟩ => ⟨by rw [h1, HS.out], h2⟩)
        clear hp hz hy
        go_wp2_with (first
          | (go_at_call 47; refine (HPK.out e _ (below_and HB5.out HB6.out)).mono ?_; rw [HP.out]; rintro e' w7 ⟨rfl, hb⟩; have he7 := (Blk.made w5 (entC e) 48).kept hb; have e2 := he7.cell (j := 2) rfl; have e3 := he7.cell (j := 3) rfl; have e4 := he7.cell (j := 4) rfl; have e5 := he7.cell (j := 5) rfl; have HB7 := Lib.hid (below_and HB6.out hb); have ha7 := HA5.out.kept HB7.out; have a0 := ha7.cell (j := 0) rfl; have a1 := ha7.cell (j := 1) rfl; have a2 := ha7.cell (j := 2) rfl; have a3 := ha7.cell (j := 3) rfl; clear hb he7 ha7)
          | (go_at_call 44; refine (HADD.out _).mono ?_; rintro e' w8 ⟨rfl, hb⟩; have HB8 := Lib.hid (below_and HB7.out hb); have ha8 := HA5.out.kept HB8.out; clear a0 a1 a2 a3 e2 e3 e4 e5; have HA8 := Lib.hid ha8; have a0 := ha8.cell (j := 0) rfl; have a1 := ha8.cell (j := 1) rfl; have a2 := ha8.cell (j := 2) rfl; have a3 := ha8.cell (j := 3) rfl; have f0 := ha8.free 0; have f1 := ha8.free 1; have f2 := ha8.free 2; have f3 := ha8.free 3; have HR8 := Lib.hid (HR5.out.below HB8.out); have HZ8 := Lib.hid (HZ5.out.kept HB8.out); have HBB := Lib.hid (below_and HB5.out HB8.out); clear hb ha8))
        go_roundw
        case rel =>
          have hq : ∀ j : Nat, (⟨B + 1, j, none⟩ : Addr).block ≠ mb ∧ (⟨B + 1, j, none⟩ : Addr).block ≠ w3.heap.size := fun j => by have := HSZ.out; have := HML.out; simp; omega
          have hBw : w.heap.size ≤ B + 1 := by have := HSZ.out; omega
          exact ⟨_, cnt5, Lib.hid ((((HR8.out.set (hq 0).1 (hq 0).2 _).set (hq 1).1 (hq 1).2 _).set (hq 2).1 (hq 2).2 _).set (hq 3).1 (hq 3).2 _), Lib.hid (by rw [← HZZ.out]; exact (((HA8.out.set 0 (.int .i64 z.c)).set 1 (.int .i64 z.r)).set 2 (.int .i64 z.d)).set 3 (.int .i64 z.p)), Lib.hid ((((HZ8.out.other (a := ⟨B + 1, 0, none⟩) (by simp) _).other (a := ⟨B + 1, 1, none⟩) (by simp) _).other (a := ⟨B + 1, 2, none⟩) (by simp) _).other (a := ⟨B + 1, 3, none⟩) (by simp) _), Lib.hid ((((HBB.out.setCell (p := ⟨B + 1, 0, none⟩) hBw _).setCell (p := ⟨B + 1, 1, none⟩) hBw _).setCell (p := ⟨B + 1, 2, none⟩) hBw _).setCell (p := ⟨B + 1, 3, none⟩) hBw _)⟩
        case measure =>
          have hq : ∀ j : Nat, (⟨B + 1, j, none⟩ : Addr).block ≠ mb ∧ (⟨B + 1, j, none⟩ : Addr).block ≠ w3.heap.size := fun j => by have := HSZ.out; have := HML.out; simp; omega
          rw [((((HR8.out.set (hq 0).1 (hq 0).2 (.int .i64 z.c)).set (hq 1).1 (hq 1).2 (.int .i64 z.r)).set (hq 2).1 (hq 2).2 (.int .i64 z.d)).set (hq 3).1 (hq 3).2 (.int .i64 z.p)).left, HR.out.left]
          exact HL5.out

set_option maxRecDepth 100000 in
set_option maxHeartbeats 2000000 in
theorem sum2_any (b mb : Nat) (cap : Am) (L : List Ent) (s : ByteArray) (p : Nat) (w : World) (h : Led w b mb cap L) (hd : Apart L) (ho : Oks L) (hf : Fit (inR s) L) (h0 : w.cell? ⟨p, 0, none⟩ = some (.string s)) :
    Calls Try.prog 32 #[ptr b, .func (Fn.func 33) #[] #[ptr p]] w fun e w' => e = .returned (amV (sumA (inR s) L)) ∧ Below w.heap.size w w' := by
  obtain ⟨P, hP⟩ : ∃ P : Ent → Bool, P = inR s := ⟨_, rfl⟩
  rw [← hP] at hf ⊢
  obtain ⟨w3, hw3⟩ : ∃ w3, w3 = (w.alloc (.cells #[.int .i64 0, .int .i64 0, .int .i64 0, .int .i64 0] 28)).alloc (.cells #[.int .i64 0, .int .i64 0, .int .i64 0, .int .i64 0] 28) := ⟨_, rfl⟩
  obtain ⟨B, hB⟩ : ∃ B, B = w.heap.size := ⟨_, rfl⟩
  have B0 : Hid (Blk w3 B (amC .zero) 28) := Lib.hid (by rw [hw3, hB]; exact (Blk.made w (amC .zero) _).alloc _)
  have B1 : Hid (Blk w3 (B + 1) (amC .zero) 28) := Lib.hid (by
    have := Blk.made (w.alloc (.cells #[.int .i64 0, .int .i64 0, .int .i64 0, .int .i64 0] 28)) (amC .zero) 28
    rw [hw3, hB]; simpa [Am.zero] using this)
  have HSZ : Hid (w3.heap.size = B + 2 ∧ w.heap.size = B) := Lib.hid (by rw [hw3, hB]; simp)
  have HBL : Hid (Below w.heap.size w w3) := Lib.hid (by rw [hw3]; exact below_and (below_alloc w _) (below_alloc _ _))
  have H := Lib.hid h
  have H3 : Hid (Led w3 b mb cap L) := Lib.hid (h.kept HBL.out)
  have HML : Hid (mb < B) := Lib.hid (by rw [hB]; exact h.map.lt)
  have HD := Lib.hid hd
  have HO := Lib.hid ho
  have HF := Lib.hid hf
  have HPK : Hid (∀ x w', Below w.heap.size w w' → Calls Try.prog 33 #[entV x, ptr p] w' fun e w2 => e = .returned (.bool (P x)) ∧ Below w'.heap.size w' w2) := Lib.hid (fun x w' hb => by rw [hP]; exact pick2_any x s p w' (cell_kept h0 hb))
  have c4 := H3.out.blk.cell (j := 4) rfl
  clear h hd ho hf hP h0
  go_enter Try.func32, Try.ntmps32
  go_upto_region 2 with fail
  rw [← hw3, ← hB]
  clear hw3 hB
  go_wp2_with (at_range; refine wpList_srange _ rfl _ _ rfl 9 48 Try.underlying9 Try.underlying52 mb (entM L) rfl H3.out.map ?_; intro w4 hrg0 hb0 hs0; have HRG := Lib.hid hrg0; have HB4 := Lib.hid hb0; have HS4 := Lib.hid hs0; clear hrg0 hb0 hs0)
  go_frame
  go_loopw [13] (fun _ wr => ∃ (left : Lit → Bool) (cnt : Nat), Hid (SRange Try.prog 9 wr mb w3.heap.size (entM L) left cnt) ∧ Hid (Blk wr (B + 1) (amC (doneA P L left)) 28) ∧ Hid (Blk wr B (amC .zero) 28) ∧ Hid (Below w.heap.size w wr)) (fun _ wr => wr.rangeLeft mb w3.heap.size)
  case atStart =>
    refine ⟨_, _, HRG, Lib.hid ?_, Lib.hid (B0.out.kept HB4.out), Lib.hid (below_and HBL.out HB4.out)⟩
    rw [doneA_start (fun e he => by
      show Maps.has (entM L).dat (.string e.key) = true
      rw [SM.dat_has, entM_has, fnd_of HD.out he]; rfl)]
    exact B1.out.kept HB4.out
  case round =>
    obtain ⟨left, cnt, HR, HA, HZ, HBx⟩ := hrel
    go_wp2_with (at_next; refine wpList_snext _ rfl _ rfl 9 Try.underlying9 mb w3.heap.size (entM L) left cnt rfl HR.out ?_ ?_)
    · intro hl0
      have HE := Lib.hid (doneA_end (p := P) (L := L) hl0)
      have a0 := HA.out.cell (j := 0) rfl
      have a1 := HA.out.cell (j := 1) rfl
      have a2 := HA.out.cell (j := 2) rfl
      have a3 := HA.out.cell (j := 3) rfl
      have r0 := HZ.out.cell (j := 0) rfl
      have r1 := HZ.out.cell (j := 1) rfl
      have r2 := HZ.out.cell (j := 2) rfl
      have r3 := HZ.out.cell (j := 3) rfl
      have f0 := HZ.out.free 0
      have f1 := HZ.out.free 1
      have f2 := HZ.out.free 2
      have f3 := HZ.out.free 3
      obtain ⟨z, hz⟩ : ∃ z, z = doneA P L left := ⟨_, rfl⟩
      rw [← hz] at a0 a1 a2 a3
      have HZE : Hid (z = sumA P L) := Lib.hid (by rw [hz]; exact HE.out)
      clear hz hl0
      go_wp2
      refine bodyPost_ret (results_row rfl _ _ B 28 #[.int .i64 z.c, .int .i64 z.r, .int .i64 z.d, .int .i64 z.p] (0, 0) _ rfl ?_ Try.underlying28 rfl (by kernel_rfl)) rfl ⟨by rw [← HZE.out], ?_⟩
      · exact (((HZ.out.set 0 (.int .i64 z.c)).set 1 (.int .i64 z.r)).set 2 (.int .i64 z.d)).set 3 (.int .i64 z.p)
      · have hBw : w.heap.size ≤ B := by have := HSZ.out; omega
        exact (((HBx.out.setCell (p := ⟨B, 0, none⟩) hBw _).setCell (p := ⟨B, 1, none⟩) hBw _).setCell (p := ⟨B, 2, none⟩) hBw _).setCell (p := ⟨B, 3, none⟩) hBw _
    · intro x c w5 cnt5 hlx hgx hrg5 hlt5 hg5 hs5 hen
      obtain ⟨e, hfe, hc⟩ : ∃ e, fnd L x.data.toList = some e ∧ c = entV e := by
        rw [entM_get] at hgx
        cases hq : fnd L x.data.toList with
        | none => rw [hq] at hgx; cases hgx
        | some e => rw [hq] at hgx; exact ⟨e, rfl, (Option.some.inj hgx).symm⟩
      subst hc
      obtain ⟨hem, hek⟩ := fnd_mem hfe
      rw [← hek] at hlx hrg5
      have HA5 := Lib.hid (HA.out.grown hg5 (by have := HSZ.out; simp; omega))
      have HZ5 := Lib.hid (HZ.out.grown hg5 (by have := HSZ.out; simp; omega))
      have HB5 : Hid (Below w.heap.size w w5) := Lib.hid (HBx.out.trans (grown_below hg5 (by have := HSZ.out; omega) HBx.out.size))
      have HR5 := Lib.hid hrg5
      have HL5 := Lib.hid hlt5
      have hb6 := below_alloc w5 (.cells #[.string e.n, .string e.i, .int .i64 e.a.c, .int .i64 e.a.r, .int .i64 e.a.d, .int .i64 e.a.p] 48)
      have HB6 := Lib.hid hb6
      have HME : Hid (e ∈ L ∧ left (.string e.key) = true) := Lib.hid ⟨hem, hlx⟩
      clear hgx hfe hem hek hlx hrg5 hlt5 hg5 hs5 hb6
      cases hp : P e
      · have HP := Lib.hid hp
        have HS := Lib.hid (doneA_skip HD.out HME.out.1 HME.out.2 hp)
        clear hp
        go_wp2_with (go_at_call 33; refine (HPK.out e _ (below_and HB5.out HB6.out)).mono ?_; rw [HP.out]; rintro e' w7 ⟨rfl, hb⟩; have HB7 := Lib.hid (below_and HB6.out hb); clear hb)
        go_roundw
        case rel => exact ⟨_, cnt5, Lib.hid (HR5.out.below HB7.out), Lib.hid (by rw [HS.out]; exact HA5.out.kept HB7.out), Lib.hid (HZ5.out.kept HB7.out), Lib.hid (below_and HB5.out HB7.out)⟩
        case measure => rw [(HR5.out.below HB7.out).left, HR.out.left]; exact HL5.out
      · have HP := Lib.hid hp
        have HS := Lib.hid (doneA_add HD.out HO.out HF.out HME.out.1 HME.out.2 hp)
        obtain ⟨z, hz⟩ : ∃ z, z = doneA P L (fun z => left z && !z.sameKey (.string e.key)) := ⟨_, rfl⟩
        rw [← hz] at HS
        obtain ⟨y, hy⟩ : ∃ y, y = doneA P L left := ⟨_, rfl⟩
        rw [← hy] at HS HA5
        have HZZ := Lib.hid hz
        have HADD : Hid (∀ w, Calls Try.prog 44 #[amV y, amV e.a] w fun e' w' => e' = .returned (.tuple #[amV z, .int .i64 0]) ∧ Below w.heap.size w w') := Lib.hid (fun w => (add_any y e.a w).mono fun e' w' ⟨h1, h2⟩ => ⟨by rw [h1, HS.out], h2⟩)
        clear hp hz hy
        go_wp2_with (first
          | (go_at_call 33; refine (HPK.out e _ (below_and HB5.out HB6.out)).mono ?_; rw [HP.out]; rintro e' w7 ⟨rfl, hb⟩; have he7 := (Blk.made w5 (entC e) 48).kept hb; have e2 := he7.cell (j := 2) rfl; have e3 := he7.cell (j := 3) rfl; have e4 := he7.cell (j := 4) rfl; have e5 := he7.cell (j := 5) rfl; have HB7 := Lib.hid (below_and HB6.out hb); have ha7 := HA5.out.kept HB7.out; have a0 := ha7.cell (j := 0) rfl; have a1 := ha7.cell (j := 1) rfl; have a2 := ha7.cell (j := 2) rfl; have a3 := ha7.cell (j := 3) rfl; clear hb he7 ha7)
          | (go_at_call 44; refine (HADD.out _).mono ?_; rintro e' w8 ⟨rfl, hb⟩; have HB8 := Lib.hid (below_and HB7.out hb); have ha8 := HA5.out.kept HB8.out; clear a0 a1 a2 a3 e2 e3 e4 e5; have HA8 := Lib.hid ha8; have a0 := ha8.cell (j := 0) rfl; have a1 := ha8.cell (j := 1) rfl; have a2 := ha8.cell (j := 2) rfl; have a3 := ha8.cell (j := 3) rfl; have f0 := ha8.free 0; have f1 := ha8.free 1; have f2 := ha8.free 2; have f3 := ha8.free 3; have HR8 := Lib.hid (HR5.out.below HB8.out); have HZ8 := Lib.hid (HZ5.out.kept HB8.out); have HBB := Lib.hid (below_and HB5.out HB8.out); clear hb ha8))
        go_roundw
        case rel =>
          have hq : ∀ j : Nat, (⟨B + 1, j, none⟩ : Addr).block ≠ mb ∧ (⟨B + 1, j, none⟩ : Addr).block ≠ w3.heap.size := fun j => by have := HSZ.out; have := HML.out; simp; omega
          have hBw : w.heap.size ≤ B + 1 := by have := HSZ.out; omega
          exact ⟨_, cnt5, Lib.hid ((((HR8.out.set (hq 0).1 (hq 0).2 _).set (hq 1).1 (hq 1).2 _).set (hq 2).1 (hq 2).2 _).set (hq 3).1 (hq 3).2 _), Lib.hid (by rw [← HZZ.out]; exact (((HA8.out.set 0 (.int .i64 z.c)).set 1 (.int .i64 z.r)).set 2 (.int .i64 z.d)).set 3 (.int .i64 z.p)), Lib.hid ((((HZ8.out.other (a := ⟨B + 1, 0, none⟩) (by simp) _).other (a := ⟨B + 1, 1, none⟩) (by simp) _).other (a := ⟨B + 1, 2, none⟩) (by simp) _).other (a := ⟨B + 1, 3, none⟩) (by simp) _), Lib.hid ((((HBB.out.setCell (p := ⟨B + 1, 0, none⟩) hBw _).setCell (p := ⟨B + 1, 1, none⟩) hBw _).setCell (p := ⟨B + 1, 2, none⟩) hBw _).setCell (p := ⟨B + 1, 3, none⟩) hBw _)⟩
        case measure =>
          have hq : ∀ j : Nat, (⟨B + 1, j, none⟩ : Addr).block ≠ mb ∧ (⟨B + 1, j, none⟩ : Addr).block ≠ w3.heap.size := fun j => by have := HSZ.out; have := HML.out; simp; omega
          rw [((((HR8.out.set (hq 0).1 (hq 0).2 (.int .i64 z.c)).set (hq 1).1 (hq 1).2 (.int .i64 z.r)).set (hq 2).1 (hq 2).2 (.int .i64 z.d)).set (hq 3).1 (hq 3).2 (.int .i64 z.p)).left, HR.out.left]
          exact HL5.out
end Go.Proofs.Ytighcnecajgkpaa
namespace Go.Proofs.Ytighcnecajgkpaa
open Go.RowKit

theorem SMap.look {P : Program} {k e t : TypeId} {w : World} {b : Nat} {m : SM} (h : SMap P k w b m) (hk : P.underlying k = some .string) (ht : P.underlying t = some (.map k e)) {z : Value} (hz : (zeroValue e).run P w = .ok z w) {s : ByteArray} (hs : s.size ≤ maxLen) :
    (Instr.lookup t (.map (some b)) (.string s) false).run P w = .ok ((m.get s.data.toList).getD z) w := by
  obtain ⟨v, ps, h1, h2⟩ := World.ownsMap.lookup h (Maps.string_keyed hk) ht hz (zd := .held z) (zp := []) rfl (keyOf_str hk hs)
  rw [SM.dat_at] at h2
  rw [h1, anyElem_inv h2]
theorem SMap.look_ok {P : Program} {k e t : TypeId} {w : World} {b : Nat} {m : SM} (h : SMap P k w b m) (hk : P.underlying k = some .string) (ht : P.underlying t = some (.map k e)) {z : Value} (hz : (zeroValue e).run P w = .ok z w) {s : ByteArray} (hs : s.size ≤ maxLen) :
    (Instr.lookup t (.map (some b)) (.string s) true).run P w = .ok (.tuple #[(m.get s.data.toList).getD z, .bool (m.hasK s.data.toList)]) w := by
  obtain ⟨v, ps, h1, h2⟩ := World.ownsMap.look_ok h (Maps.string_keyed hk) ht hz (zd := .held z) (zp := []) rfl (keyOf_str hk hs)
  rw [SM.dat_at] at h2
  rw [h1, anyElem_inv h2, SM.dat_has]
theorem wpList_slook {P : Program} (w : World) {ops : Array Oper} {rest : List Oper} {o : Oper} {a : Act} {Q : Exit → Act → World → Prop} (hg : o.guard = none) (x1 x2 : Operand) (t : TypeId) (hop : o.op = Op.lookup t x1 x2 false)
    (k e : TypeId) (hk : P.underlying k = some .string) (ht : P.underlying t = some (.map k e)) {z : Value} (hz : (zeroValue e).run P w = .ok z w) (b : Nat) (m : SM)
    (hm : a.eval x1 = .map (some b)) (hown : SMap P k w b m) (s : ByteArray) (hx : a.eval x2 = .string s) (hs : s.size ≤ maxLen)
    (hK : wpList P ops Q rest (a.put o.dst ((m.get s.data.toList).getD z)) w) :
    wpList P ops Q (o :: rest) a w := by
  refine wpList_plain hg fun K' hK' => ?_
  have hrun := hown.look hk ht hz hs
  unfold Oper.wp
  simp [execOp, hop, hm, hx, hrun, Result.andThen]
  exact hK' _ _ hK
end Go.Proofs.Ytighcnecajgkpaa
namespace Go.Proofs.Ytighcnecajgkpaa
open Go.RowKit

theorem four_kept {w w' : World} {a b c d : Addr} {p q r s : Value} (h : w.cell? a = some p ∧ w.cell? b = some q ∧ w.cell? c = some r ∧ w.cell? d = some s) (hb : Below w.heap.size w w') : w'.cell? a = some p ∧ w'.cell? b = some q ∧ w'.cell? c = some r ∧ w'.cell? d = some s :=
  ⟨cell_kept h.1 hb, cell_kept h.2.1 hb, cell_kept h.2.2.1 hb, cell_kept h.2.2.2 hb⟩
theorem bel_set4 {n : Nat} {a w : World} {k : Nat} {p q r s : Value} (h : Below n a w) (hk : n ≤ k) : Below n a ((((w.setCell ⟨k, 0, none⟩ p).setCell ⟨k, 1, none⟩ q).setCell ⟨k, 2, none⟩ r).setCell ⟨k, 3, none⟩ s) :=
  (((h.setCell (p := ⟨k, 0, none⟩) hk _).setCell (p := ⟨k, 1, none⟩) hk _).setCell (p := ⟨k, 2, none⟩) hk _).setCell (p := ⟨k, 3, none⟩) hk _
/-- behind the taking away: its answer lies in memory of the call's own -/
def RoomP (w : World) (z : Am) (v : Value) (wx : World) : Prop := ∃ q, v = ptr q ∧ w.heap.size ≤ q ∧ Blk wx q (amC z) 28 ∧ Below w.heap.size w wx

set_option maxRecDepth 100000 in
set_option maxHeartbeats 4000000 in
theorem room_top (b mb : Nat) (cap : Am) (L : List Ent) (s t : ByteArray) (w : World) (h : Led w b mb cap L) (hd : Apart L) (ho : Oks L) (hf : Fit (inB s t) L) (hs : s.toList = []) (z : Am) (er : Int) (hz : subR cap (sumA (inB s t) L) = (z, er)) :
    Calls Try.prog 31 #[ptr b, .string s, .string t] w fun e w' => e = .returned (amV z) ∧ Below w.heap.size w w' := by
  obtain ⟨w3, hw3⟩ : ∃ w3, w3 = ((w.alloc (.cells #[.string s] 9)).alloc (.cells #[.string t] 9)).alloc (.cells #[.int .i64 0, .int .i64 0, .int .i64 0, .int .i64 0] 28) := ⟨_, rfl⟩
  obtain ⟨B, hB⟩ : ∃ B, B = w.heap.size := ⟨_, rfl⟩
  have S0 : Hid (Blk w3 B [.string s] 9) := Lib.hid (by rw [hw3, hB]; exact ((Blk.made w [.string s] 9).alloc _).alloc _)
  have S1 : Hid (Blk w3 (B + 1) [.string t] 9) := Lib.hid (by
    have := (Blk.made (w.alloc (.cells #[.string s] 9)) [.string t] 9).alloc (.cells #[.int .i64 0, .int .i64 0, .int .i64 0, .int .i64 0] 28)
    rw [hw3, hB]; simpa using this)
  have S2 : Hid (Blk w3 (B + 1 + 1) (amC .zero) 28) := Lib.hid (by
    have := Blk.made ((w.alloc (.cells #[.string s] 9)).alloc (.cells #[.string t] 9)) (amC .zero) 28
    rw [hw3, hB]; simpa [Am.zero] using this)
  have HSZ : Hid (w3.heap.size = B + 3 ∧ w.heap.size = B) := Lib.hid (by rw [hw3, hB]; simp)
  have HBL : Hid (Below w.heap.size w w3) := Lib.hid (by rw [hw3]; exact below_and (below_and (below_alloc w _) (below_alloc _ _)) (below_alloc _ _))
  have H3 : Hid (Led w3 b mb cap L) := Lib.hid (h.kept HBL.out)
  have HD := Lib.hid hd
  have HO := Lib.hid ho
  have HF := Lib.hid hf
  have HZ := Lib.hid hz
  have HSUB : Hid (∀ w, Calls Try.prog 46 #[amV cap, amV (sumA (inB s t) L)] w fun e' w' => e' = .returned (.tuple #[amV z, .int .i64 er]) ∧ Below w.heap.size w w') := Lib.hid (fun w => (sub_any _ _ w).mono fun e' w' ⟨h1, h2⟩ => ⟨by rw [h1, HZ.out], h2⟩)
  have c0 := H3.out.blk.cell (j := 0) rfl
  have c1 := H3.out.blk.cell (j := 1) rfl
  have c2 := H3.out.blk.cell (j := 2) rfl
  have c3 := H3.out.blk.cell (j := 3) rfl
  have s0 : ∀ (A : Array Value) (t : TypeId), (w3.alloc (.cells A t)).cell? ⟨B, 0, none⟩ = some (.string s) := fun A t => (S0.out.alloc _).cell (j := 0) rfl
  have e0 : s.toList.isEmpty = true := by rw [hs]; rfl
  clear h hd ho hf hz
  go_enter Try.func31, Try.ntmps31
  go_upto_region 1 with fail
  rw [← hw3, ← hB]
  clear hw3 hB
  go_upto_region 4 with fail
  obtain ⟨w4, hw4⟩ : ∃ w4, w4 = w3.alloc (.cells #[.int .i64 cap.c, .int .i64 cap.r, .int .i64 cap.d, .int .i64 cap.p] 28) := ⟨_, rfl⟩
  have HB4 : Hid (Below w3.heap.size w3 w4) := Lib.hid (by rw [hw4]; exact below_alloc _ _)
  have S3 : Hid (Blk w4 w3.heap.size (amC cap) 28) := Lib.hid (by rw [hw4]; exact Blk.made w3 (amC cap) _)
  rw [← hw4]
  clear hw4 c0 c1 c2 c3 s0
  obtain ⟨S36, HB6⟩ : Hid (Blk w4 w3.heap.size (amC cap) 28) ∧ Hid (Below w3.heap.size w3 w4) := ⟨S3, HB4⟩
  clear S3 HB4
  have HE : Hid (w4.cell? ⟨w3.heap.size, 0, none⟩ = some (.int .i64 cap.c) ∧ w4.cell? ⟨w3.heap.size, 1, none⟩ = some (.int .i64 cap.r) ∧ w4.cell? ⟨w3.heap.size, 2, none⟩ = some (.int .i64 cap.d) ∧ w4.cell? ⟨w3.heap.size, 3, none⟩ = some (.int .i64 cap.p)) := Lib.hid ⟨S36.out.cell (j := 0) rfl, S36.out.cell (j := 1) rfl, S36.out.cell (j := 2) rfl, S36.out.cell (j := 3) rfl⟩
  have H6 := Lib.hid (H3.out.kept HB6.out)
  have S06 := Lib.hid (S0.out.kept HB6.out)
  have S16 := Lib.hid (S1.out.kept HB6.out)
  have S26 := Lib.hid (S2.out.kept HB6.out)
  go_cut [8] (fun s8 wx => RoomP w4 z s8 wx)
  case first =>
    go_region_held3 (fun w' => w'.cell? ⟨w3.heap.size, 0, none⟩ = some (.int .i64 cap.c) ∧ w'.cell? ⟨w3.heap.size, 1, none⟩ = some (.int .i64 cap.r) ∧ w'.cell? ⟨w3.heap.size, 2, none⟩ = some (.int .i64 cap.d) ∧ w'.cell? ⟨w3.heap.size, 3, none⟩ = some (.int .i64 cap.p))
      (refine four_kept HE.out ?_ <;> (repeat (first | exact Below.refl _ _ | exact HB8.out | exact HB7.out | apply bl_drew | (refine below_and ?_ (below_alloc _ _)) | (refine bel_set4 ?_ (Nat.le_refl _)) | (refine bel_set4 ?_ HQL.out))))
      (first
        | (go_at_call 32; refine (sum1_any b mb cap L s t B (B + 1) _ (H6.out.kept (by repeat (first | exact Below.refl _ _ | apply bl_drew | (refine below_and ?_ (below_alloc _ _))))) HD.out HO.out HF.out ((S06.out.kept (by repeat (first | exact Below.refl _ _ | apply bl_drew | (refine below_and ?_ (below_alloc _ _))))).cell (j := 0) rfl) ((S16.out.kept (by repeat (first | exact Below.refl _ _ | apply bl_drew | (refine below_and ?_ (below_alloc _ _))))).cell (j := 0) rfl)).mono ?_; rintro e w7 ⟨rfl, hb⟩; have HB7 : Hid (Below w4.heap.size w4 w7) := Lib.hid (by refine below_and ?_ hb; (repeat (first | exact Below.refl _ _ | apply bl_drew | (refine below_and ?_ (below_alloc _ _))))); (first | (have hq : Blk w7 w4.heap.size (amC .zero) 28 := (Blk.made w4.drew (amC .zero) 28).kept hb; have HQ7 := Lib.hid hq; clear hq) | skip); clear hb)
        | (go_at_call 46; refine (HSUB.out _).mono ?_; rintro e w8 ⟨rfl, hb⟩; have HB8 : Hid (Below w4.heap.size w4 w8) := Lib.hid (by refine below_and ?_ hb; (repeat (first | exact HB7.out | apply bl_drew | (refine below_and ?_ (below_alloc _ _))))); (first | (have hq : Blk w8 w4.heap.size (amC .zero) 28 := HQ7.out.kept hb; have HQ8 := Lib.hid hq; have q0 := hq.cell (j := 0) rfl; have q1 := hq.cell (j := 1) rfl; have q2 := hq.cell (j := 2) rfl; have q3 := hq.cell (j := 3) rfl; have p0 := hq.free 0; have p1 := hq.free 1; have p2 := hq.free 2; have p3 := hq.free 3; clear hq) | (have hq : Blk w8 w7.heap.size (amC .zero) 28 := (Blk.made w7 (amC .zero) 28).kept hb; have HQ8 := Lib.hid hq; have HQL : Hid (w4.heap.size ≤ w7.heap.size) := Lib.hid HB7.out.size; have q0 := hq.cell (j := 0) rfl; have q1 := hq.cell (j := 1) rfl; have q2 := hq.cell (j := 2) rfl; have q3 := hq.cell (j := 3) rfl; have p0 := hq.free 0; have p1 := hq.free 1; have p2 := hq.free 2; have p3 := hq.free 3; clear hq) | skip); clear hb))
    all_goals go_wp2_with fail
    all_goals go_meet
    all_goals first
      | (exact ⟨_, rfl, Nat.le_refl _, ((((HQ8.out.set 0 (.int .i64 z.c)).set 1 (.int .i64 z.r)).set 2 (.int .i64 z.d)).set 3 (.int .i64 z.p)), bel_set4 HB8.out (Nat.le_refl _)⟩)
      | (exact ⟨_, rfl, HQL.out, ((((HQ8.out.set 0 (.int .i64 z.c)).set 1 (.int .i64 z.r)).set 2 (.int .i64 z.d)).set 3 (.int .i64 z.p)), bel_set4 HB8.out HQL.out⟩)
      | (exact ⟨_, rfl, HB8.out.size, Blk.made w8 (amC z) _, below_and HB8.out (below_alloc _ _)⟩)
      | trace_state
  case rest =>
    obtain ⟨q, rfl, hq, hbq, hb⟩ := hcut
    have hbr := S26.out.kept hb
    have HBR := Lib.hid hbr
    have HBB := Lib.hid (below_and HBL.out (below_and HB6.out hb))
    have z0 := hbq.cell (j := 0) rfl
    have z1 := hbq.cell (j := 1) rfl
    have z2 := hbq.cell (j := 2) rfl
    have z3 := hbq.cell (j := 3) rfl
    have r0 := hbr.cell (j := 0) rfl
    have r1 := hbr.cell (j := 1) rfl
    have r2 := hbr.cell (j := 2) rfl
    have r3 := hbr.cell (j := 3) rfl
    have f0 := hbr.free 0
    have f1 := hbr.free 1
    have f2 := hbr.free 2
    have f3 := hbr.free 3
    clear hq hbq hb hbr
    go_wp2
    refine bodyPost_ret (results_row rfl _ _ (B + 1 + 1) 28 #[.int .i64 z.c, .int .i64 z.r, .int .i64 z.d, .int .i64 z.p] (0, 0) _ rfl ?_ Try.underlying28 rfl (by kernel_rfl)) rfl ⟨rfl, ?_⟩
    · exact (((HBR.out.set 0 (.int .i64 z.c)).set 1 (.int .i64 z.r)).set 2 (.int .i64 z.d)).set 3 (.int .i64 z.p)
    · have hBw : w.heap.size ≤ B + 1 + 1 := by have := HSZ.out; omega
      exact (((HBB.out.setCell (p := ⟨B + 1 + 1, 0, none⟩) hBw _).setCell (p := ⟨B + 1 + 1, 1, none⟩) hBw _).setCell (p := ⟨B + 1 + 1, 2, none⟩) hBw _).setCell (p := ⟨B + 1 + 1, 3, none⟩) hBw _

set_option maxRecDepth 100000 in
set_option maxHeartbeats 4000000 in
theorem room_in (b mb : Nat) (cap : Am) (L : List Ent) (s t : ByteArray) (x : Ent) (w : World) (h : Led w b mb cap L) (hd : Apart L) (ho : Oks L) (hf : Fit (inB s t) L) (hs : ¬ s.toList = []) (hsz : s.size ≤ maxLen) (hx : fnd L s.data.toList = some x) (z : Am) (er : Int) (hz : subR x.a (sumA (inB s t) L) = (z, er)) :
    Calls Try.prog 31 #[ptr b, .string s, .string t] w fun e w' => e = .returned (amV z) ∧ Below w.heap.size w w' := by
  obtain ⟨w3, hw3⟩ : ∃ w3, w3 = ((w.alloc (.cells #[.string s] 9)).alloc (.cells #[.string t] 9)).alloc (.cells #[.int .i64 0, .int .i64 0, .int .i64 0, .int .i64 0] 28) := ⟨_, rfl⟩
  obtain ⟨B, hB⟩ : ∃ B, B = w.heap.size := ⟨_, rfl⟩
  have S0 : Hid (Blk w3 B [.string s] 9) := Lib.hid (by rw [hw3, hB]; exact ((Blk.made w [.string s] 9).alloc _).alloc _)
  have S1 : Hid (Blk w3 (B + 1) [.string t] 9) := Lib.hid (by
    have := (Blk.made (w.alloc (.cells #[.string s] 9)) [.string t] 9).alloc (.cells #[.int .i64 0, .int .i64 0, .int .i64 0, .int .i64 0] 28)
    rw [hw3, hB]; simpa using this)
  have S2 : Hid (Blk w3 (B + 1 + 1) (amC .zero) 28) := Lib.hid (by
    have := Blk.made ((w.alloc (.cells #[.string s] 9)).alloc (.cells #[.string t] 9)) (amC .zero) 28
    rw [hw3, hB]; simpa [Am.zero] using this)
  have HSZ : Hid (w3.heap.size = B + 3 ∧ w.heap.size = B) := Lib.hid (by rw [hw3, hB]; simp)
  have HBL : Hid (Below w.heap.size w w3) := Lib.hid (by rw [hw3]; exact below_and (below_and (below_alloc w _) (below_alloc _ _)) (below_alloc _ _))
  have H3 : Hid (Led w3 b mb cap L) := Lib.hid (h.kept HBL.out)
  have HD := Lib.hid hd
  have HO := Lib.hid ho
  have HF := Lib.hid hf
  have HZ := Lib.hid hz
  have HSUB : Hid (∀ w, Calls Try.prog 46 #[amV x.a, amV (sumA (inB s t) L)] w fun e' w' => e' = .returned (.tuple #[amV z, .int .i64 er]) ∧ Below w.heap.size w w') := Lib.hid (fun w => (sub_any _ _ w).mono fun e' w' ⟨h1, h2⟩ => ⟨by rw [h1, HZ.out], h2⟩)
  have c0 := H3.out.blk.cell (j := 0) rfl
  have c1 := H3.out.blk.cell (j := 1) rfl
  have c2 := H3.out.blk.cell (j := 2) rfl
  have c3 := H3.out.blk.cell (j := 3) rfl
  have s0 : ∀ (A : Array Value) (t : TypeId), (w3.alloc (.cells A t)).cell? ⟨B, 0, none⟩ = some (.string s) := fun A t => (S0.out.alloc _).cell (j := 0) rfl
  have e0 : s.toList.isEmpty = false := by simpa using hs
  have HS := Lib.hid hsz
  have HX := Lib.hid (get_some hx)
  clear h hd ho hf hz hsz hx
  go_enter Try.func31, Try.ntmps31
  go_upto_region 1 with fail
  rw [← hw3, ← hB]
  clear hw3 hB
  go_upto_region 3 with fail
  obtain ⟨w4, hw4⟩ : ∃ w4, w4 = w3.alloc (.cells #[.int .i64 cap.c, .int .i64 cap.r, .int .i64 cap.d, .int .i64 cap.p] 28) := ⟨_, rfl⟩
  have HB4 : Hid (Below w3.heap.size w3 w4) := Lib.hid (by rw [hw4]; exact below_alloc _ _)
  have S3 : Hid (Blk w4 w3.heap.size (amC cap) 28) := Lib.hid (by rw [hw4]; exact Blk.made w3 (amC cap) _)
  rw [← hw4]
  clear hw4 c0 c1 c2 c3 s0
  have H4 := Lib.hid (H3.out.kept HB4.out)
  have q4 := Past.blk H4.out.blk (j := 4) rfl
  have q0 := Past.blk (S0.out.kept HB4.out) (j := 0) rfl
  have hlk : ∀ s' : Past w4, (Instr.lookup 52 (.map (some mb)) (.string s) false).run Try.prog s'.val = .ok (entV x) s'.val := fun s' => by
    have := (H4.out.kept s'.h).map.look Try.underlying9 Try.underlying52 (ezero _) HS.out
    rw [HX.out.1] at this
    exact this
  have hfd : ∀ w, (Instr.field 48 (entV x) 2).run Try.prog w = .ok (.agg #[.int .i64 x.a.c, .int .i64 x.a.r, .int .i64 x.a.d, .int .i64 x.a.p]) w := fun w => by kernel_rfl
  refine wp_region_past_last (by rfl) (by kernel_rfl) (by kernel_rfl) (by kernel_rfl) ?_
  simp only [List.dropLast, List.getLast_cons_cons, List.getLast_singleton]
  repeat (go_big_quiet_step (fail))
  refine wpQuiet_nil ?_
  intro _ hw'
  obtain ⟨s', hw''⟩ := hw'
  subst hw''
  obtain ⟨w5, h5, e5⟩ : ∃ w5, Below w4.heap.size w4 w5 ∧ w5 = s'.val := ⟨_, s'.h, rfl⟩
  rw [← e5]
  have S35 := Lib.hid (S3.out.kept h5)
  have r0 := S35.out.cell (j := 0) rfl
  have r1 := S35.out.cell (j := 1) rfl
  have r2 := S35.out.cell (j := 2) rfl
  have r3 := S35.out.cell (j := 3) rfl
  have f0 := S35.out.free 0
  have f1 := S35.out.free 1
  have f2 := S35.out.free 2
  have f3 := S35.out.free 3
  have HB5 := Lib.hid (below_and HB4.out h5)
  clear h5 e5 hlk q4 q0 hfd
  go_upto_region 4 with fail
  obtain ⟨w6, hw6⟩ : ∃ w6, w6 = (((w5.setCell ⟨w3.heap.size, 0, none⟩ (.int .i64 x.a.c)).setCell ⟨w3.heap.size, 1, none⟩ (.int .i64 x.a.r)).setCell ⟨w3.heap.size, 2, none⟩ (.int .i64 x.a.d)).setCell ⟨w3.heap.size, 3, none⟩ (.int .i64 x.a.p) := ⟨_, rfl⟩
  have S36 : Hid (Blk w6 w3.heap.size (amC x.a) 28) := Lib.hid (by rw [hw6]; exact (((S35.out.set 0 _).set 1 _).set 2 _).set 3 _)
  have HB6 : Hid (Below w3.heap.size w3 w6) := Lib.hid (by rw [hw6]; exact (((HB5.out.setCell (p := ⟨w3.heap.size, 0, none⟩) (Nat.le_refl _) _).setCell (p := ⟨w3.heap.size, 1, none⟩) (Nat.le_refl _) _).setCell (p := ⟨w3.heap.size, 2, none⟩) (Nat.le_refl _) _).setCell (p := ⟨w3.heap.size, 3, none⟩) (Nat.le_refl _) _)
  rw [← hw6]
  clear hw6 r0 r1 r2 r3 f0 f1 f2 f3 S35 HB5 S3 HB4
  have HE : Hid (w6.cell? ⟨w3.heap.size, 0, none⟩ = some (.int .i64 x.a.c) ∧ w6.cell? ⟨w3.heap.size, 1, none⟩ = some (.int .i64 x.a.r) ∧ w6.cell? ⟨w3.heap.size, 2, none⟩ = some (.int .i64 x.a.d) ∧ w6.cell? ⟨w3.heap.size, 3, none⟩ = some (.int .i64 x.a.p)) := Lib.hid ⟨S36.out.cell (j := 0) rfl, S36.out.cell (j := 1) rfl, S36.out.cell (j := 2) rfl, S36.out.cell (j := 3) rfl⟩
  have H6 := Lib.hid (H3.out.kept HB6.out)
  have S06 := Lib.hid (S0.out.kept HB6.out)
  have S16 := Lib.hid (S1.out.kept HB6.out)
  have S26 := Lib.hid (S2.out.kept HB6.out)
  go_cut [8] (fun s8 wx => RoomP w6 z s8 wx)
  case first =>
    go_region_held3 (fun w' => w'.cell? ⟨w3.heap.size, 0, none⟩ = some (.int .i64 x.a.c) ∧ w'.cell? ⟨w3.heap.size, 1, none⟩ = some (.int .i64 x.a.r) ∧ w'.cell? ⟨w3.heap.size, 2, none⟩ = some (.int .i64 x.a.d) ∧ w'.cell? ⟨w3.heap.size, 3, none⟩ = some (.int .i64 x.a.p))
      (refine four_kept HE.out ?_ <;> (repeat (first | exact Below.refl _ _ | exact HB8.out | exact HB7.out | apply bl_drew | (refine below_and ?_ (below_alloc _ _)) | (refine bel_set4 ?_ (Nat.le_refl _)) | (refine bel_set4 ?_ HQL.out))))
      (first
        | (go_at_call 32; refine (sum1_any b mb cap L s t B (B + 1) _ (H6.out.kept (by repeat (first | exact Below.refl _ _ | apply bl_drew | (refine below_and ?_ (below_alloc _ _))))) HD.out HO.out HF.out ((S06.out.kept (by repeat (first | exact Below.refl _ _ | apply bl_drew | (refine below_and ?_ (below_alloc _ _))))).cell (j := 0) rfl) ((S16.out.kept (by repeat (first | exact Below.refl _ _ | apply bl_drew | (refine below_and ?_ (below_alloc _ _))))).cell (j := 0) rfl)).mono ?_; rintro e w7 ⟨rfl, hb⟩; have HB7 : Hid (Below w6.heap.size w6 w7) := Lib.hid (by refine below_and ?_ hb; (repeat (first | exact Below.refl _ _ | apply bl_drew | (refine below_and ?_ (below_alloc _ _))))); (first | (have hq : Blk w7 w6.heap.size (amC .zero) 28 := (Blk.made w6.drew (amC .zero) 28).kept hb; have HQ7 := Lib.hid hq; clear hq) | skip); clear hb)
        | (go_at_call 46; refine (HSUB.out _).mono ?_; rintro e w8 ⟨rfl, hb⟩; have HB8 : Hid (Below w6.heap.size w6 w8) := Lib.hid (by refine below_and ?_ hb; (repeat (first | exact HB7.out | apply bl_drew | (refine below_and ?_ (below_alloc _ _))))); (first | (have hq : Blk w8 w6.heap.size (amC .zero) 28 := HQ7.out.kept hb; have HQ8 := Lib.hid hq; have q0 := hq.cell (j := 0) rfl; have q1 := hq.cell (j := 1) rfl; have q2 := hq.cell (j := 2) rfl; have q3 := hq.cell (j := 3) rfl; have p0 := hq.free 0; have p1 := hq.free 1; have p2 := hq.free 2; have p3 := hq.free 3; clear hq) | (have hq : Blk w8 w7.heap.size (amC .zero) 28 := (Blk.made w7 (amC .zero) 28).kept hb; have HQ8 := Lib.hid hq; have HQL : Hid (w6.heap.size ≤ w7.heap.size) := Lib.hid HB7.out.size; have q0 := hq.cell (j := 0) rfl; have q1 := hq.cell (j := 1) rfl; have q2 := hq.cell (j := 2) rfl; have q3 := hq.cell (j := 3) rfl; have p0 := hq.free 0; have p1 := hq.free 1; have p2 := hq.free 2; have p3 := hq.free 3; clear hq) | skip); clear hb))
    all_goals go_wp2_with fail
    all_goals go_meet
    all_goals first
      | (exact ⟨_, rfl, Nat.le_refl _, ((((HQ8.out.set 0 (.int .i64 z.c)).set 1 (.int .i64 z.r)).set 2 (.int .i64 z.d)).set 3 (.int .i64 z.p)), bel_set4 HB8.out (Nat.le_refl _)⟩)
      | (exact ⟨_, rfl, HQL.out, ((((HQ8.out.set 0 (.int .i64 z.c)).set 1 (.int .i64 z.r)).set 2 (.int .i64 z.d)).set 3 (.int .i64 z.p)), bel_set4 HB8.out HQL.out⟩)
      | (exact ⟨_, rfl, HB8.out.size, Blk.made w8 (amC z) _, below_and HB8.out (below_alloc _ _)⟩)
      | trace_state
  case rest =>
    obtain ⟨q, rfl, hq, hbq, hb⟩ := hcut
    have hbr := S26.out.kept hb
    have HBR := Lib.hid hbr
    have HBB := Lib.hid (below_and HBL.out (below_and HB6.out hb))
    have z0 := hbq.cell (j := 0) rfl
    have z1 := hbq.cell (j := 1) rfl
    have z2 := hbq.cell (j := 2) rfl
    have z3 := hbq.cell (j := 3) rfl
    have r0 := hbr.cell (j := 0) rfl
    have r1 := hbr.cell (j := 1) rfl
    have r2 := hbr.cell (j := 2) rfl
    have r3 := hbr.cell (j := 3) rfl
    have f0 := hbr.free 0
    have f1 := hbr.free 1
    have f2 := hbr.free 2
    have f3 := hbr.free 3
    clear hq hbq hb hbr
    go_wp2
    refine bodyPost_ret (results_row rfl _ _ (B + 1 + 1) 28 #[.int .i64 z.c, .int .i64 z.r, .int .i64 z.d, .int .i64 z.p] (0, 0) _ rfl ?_ Try.underlying28 rfl (by kernel_rfl)) rfl ⟨rfl, ?_⟩
    · exact (((HBR.out.set 0 (.int .i64 z.c)).set 1 (.int .i64 z.r)).set 2 (.int .i64 z.d)).set 3 (.int .i64 z.p)
    · have hBw : w.heap.size ≤ B + 1 + 1 := by have := HSZ.out; omega
      exact (((HBB.out.setCell (p := ⟨B + 1 + 1, 0, none⟩) hBw _).setCell (p := ⟨B + 1 + 1, 1, none⟩) hBw _).setCell (p := ⟨B + 1 + 1, 2, none⟩) hBw _).setCell (p := ⟨B + 1 + 1, 3, none⟩) hBw _
end Go.Proofs.Ytighcnecajgkpaa
namespace Go.Proofs.Ytighcnecajgkpaa
open Go.RowKit

theorem before_lt : ∀ a b : List UInt8, bytesBefore a b = true ↔ a < b
  | [], [] => by simp [bytesBefore]
  | [], _ :: _ => by simp [bytesBefore]
  | _ :: _, [] => by simp [bytesBefore]
  | x :: a, y :: b => by
    rw [bytesBefore, List.cons_lt_cons_iff]
    have ih := before_lt a b
    simp only [Bool.or_eq_true, decide_eq_true_eq, Bool.and_eq_true, beq_iff_eq, ih]
theorem lt_irr (a : List UInt8) : ¬ a < a := List.lt_irrefl a
theorem lt_tr {a b c : List UInt8} (h : a < b) (k : b < c) : a < c := List.lt_trans h k
theorem lt_tot {a b : List UInt8} (h : ¬ a < b) (hne : a ≠ b) : b < a := by
  by_cases h2 : b < a
  · exact h2
  · exact absurd (List.le_antisymm (List.not_lt.1 h2) (List.not_lt.1 h)) hne

/-- a rising list is what its sort gives -/
theorem sort_rises {l ss : List (List UInt8)} (hp : ss.Perm l) (hr : l.Pairwise (· < ·)) : ss.mergeSort (fun x y => decide (x ≤ y)) = l := by
  have h1 : (ss.mergeSort (fun x y => decide (x ≤ y))).Pairwise (fun x y => decide (x ≤ y) = true) := List.pairwise_mergeSort (fun a b c h1 h2 => by
    simp only [decide_eq_true_eq] at *
    exact List.le_trans h1 h2) (fun a b => by
    simp only [Bool.or_eq_true, decide_eq_true_eq]
    exact List.le_total a b) ss
  have h2 : (ss.mergeSort (fun x y => decide (x ≤ y))).Perm l := (List.mergeSort_perm ss _).trans hp
  have h3 : l.Pairwise (fun x y => decide (x ≤ y) = true) := hr.imp fun {a b} h => by
    simp only [decide_eq_true_eq]
    exact List.le_of_lt h
  refine List.Perm.eq_of_pairwise (le := fun x y => decide (x ≤ y) = true) (fun a b _ _ h1 h2 => ?_) h1 h3 h2
  simp only [decide_eq_true_eq] at h1 h2
  exact List.le_antisymm h1 h2
end Go.Proofs.Ytighcnecajgkpaa
namespace Go.Proofs.Ytighcnecajgkpaa
open Go.RowKit

def Rise (L : List Ent) : Prop := L.Pairwise fun x y => x.key < y.key
theorem Rise.apart {L : List Ent} (h : Rise L) : Apart L := by
  unfold Rise at h
  unfold Apart
  exact h.imp fun {a b} k e => by rw [e] at k; exact lt_irr _ k
theorem Rise.keys {L : List Ent} (h : Rise L) : (L.map Ent.key).Pairwise (· < ·) := by
  rw [List.pairwise_map]
  exact h
theorem Rise.rem {L : List Ent} (h : Rise L) (s : List UInt8) : Rise (rem L s) := List.Pairwise.filter _ h
theorem rem_no (L : List Ent) (s : List UInt8) : ∀ e ∈ rem L s, e.key ≠ s := by
  intro e he
  unfold Go.Proofs.Ytighcnecajgkpaa.rem at he
  rw [List.mem_filter] at he
  simpa using he.2
theorem Rise.ins {x : Ent} : ∀ {L : List Ent}, Rise L → (∀ e ∈ L, e.key ≠ x.key) → Rise (insE x L)
  | [], _, _ => by simp [insE, Rise]
  | y :: L, h, hn => by
    unfold Rise at *
    rw [List.pairwise_cons] at h
    unfold insE
    split
    · rename_i hb
      have hxy := (before_lt _ _).1 hb
      rw [List.pairwise_cons, List.pairwise_cons]
      refine ⟨fun e he => ?_, h⟩
      rcases List.mem_cons.1 he with rfl | he
      · exact hxy
      · exact lt_tr hxy (h.1 e he)
    · rename_i hb
      have hyx : y.key < x.key := lt_tot (fun h => hb ((before_lt _ _).2 h)) (fun e => hn y (by simp) e.symm)
      rw [List.pairwise_cons]
      refine ⟨fun e he => ?_, Rise.ins h.2 (fun e he => hn e (by simp [he]))⟩
      rcases (insE_mem x L e).1 he with rfl | he
      · exact hyx
      · exact h.1 e he
theorem Rise.put {L : List Ent} (h : Rise L) (x : Ent) : Rise (putE L x) := Rise.ins (h.rem _) (rem_no L _)
theorem entM_keys (L : List Ent) : Go.Maps.size (entM L).dat = L.length := by simp [SM.dat, Go.Maps.size, entM]
theorem strKeys_ent (L : List Ent) : Go.strKeys (entM L).dat = L.map Ent.key := by
  simp [SM.dat, Go.strKeys, entM, SM.ent, List.map_map, Function.comp_def]
  intro a _
  rfl
end Go.Proofs.Ytighcnecajgkpaa
