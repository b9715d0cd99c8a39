/- The document's Fits -/
import Derived.Test.YtmgecehdicpjnaaDoorRFour
import Derived.Deep.DeepCutAuto
namespace Go.Proofs.YtmgecehdicpjnaaDoor
open Go.RowKit

set_option maxRecDepth 100000 in
set_option maxHeartbeats 4000000 in
theorem rfits_any (x y : Am) (w : World) :
    Calls Tryd.prog 27 #[amV x, amV y] w fun e w' => e = .returned (.bool (fitsB x y)) ∧ Below w.heap.size w w' := by
  obtain ⟨w3, hw3⟩ : ∃ w3, w3 = ((w.alloc (.cells #[.int .i64 x.c, .int .i64 x.r, .int .i64 x.d, .int .i64 x.p] 23)).alloc (.cells #[.int .i64 y.c, .int .i64 y.r, .int .i64 y.d, .int .i64 y.p] 23)) := ⟨_, rfl⟩
  obtain ⟨B, hB⟩ : ∃ B, B = w.heap.size := ⟨_, rfl⟩
  have B0 : Hid (Blk w3 B (amC x) 23) := Lib.hid (by
    have := (Blk.made w (amC x) 23).alloc (.cells #[.int .i64 y.c, .int .i64 y.r, .int .i64 y.d, .int .i64 y.p] 23)
    rw [hw3, hB]; exact this)
  have B1 : Hid (Blk w3 (B + 1) (amC y) 23) := Lib.hid (by
    have := Blk.made (w.alloc (.cells #[.int .i64 x.c, .int .i64 x.r, .int .i64 x.d, .int .i64 x.p] 23)) (amC y) 23
    rw [hw3, hB]; simpa using this)
  have HBL : Hid (Below w.heap.size w w3) := Lib.hid (by rw [hw3]; exact below_and (below_alloc w _) (below_alloc _ _))
  have HSZ : Hid (w3.heap.size = B + 2) := Lib.hid (by rw [hw3, hB]; simp)
  have HBW0 : Hid (w.heap.size ≤ B) := Lib.hid (by omega)
  go_enter Tryd.func27, Tryd.ntmps27
  go_upto_region 1 with fail
  rw [← hw3, ← hB]
  clear hw3 hB
  go_cut [5, 6] (fun sa sb wx => TwoS w3.heap.size wx sa sb x y ∧ Below w3.heap.size w3 wx)
  case first =>
    go_region_held3 (fun w' => w'.cell? ⟨B, 0, none⟩ = some (.int .i64 x.c) ∧ w'.cell? ⟨B, 1, none⟩ = some (.int .i64 x.r) ∧ w'.cell? ⟨B, 2, none⟩ = some (.int .i64 x.d) ∧ w'.cell? ⟨B, 3, none⟩ = some (.int .i64 x.p) ∧ w'.cell? ⟨B + 1, 0, none⟩ = some (.int .i64 y.c) ∧ w'.cell? ⟨B + 1, 1, none⟩ = some (.int .i64 y.r) ∧ w'.cell? ⟨B + 1, 2, none⟩ = some (.int .i64 y.d) ∧ w'.cell? ⟨B + 1, 3, none⟩ = some (.int .i64 y.p)) (refine eight (t := 23) (u := 23) ?_ ?_ <;> (repeat (first | exact B0.out | exact B1.out | apply Blk.drew | apply Blk.alloc)))
      (first | (go_at_call 38; refine (four_exact _ _).mono ?_; rintro e w1 ⟨rfl, rfl⟩))
    all_goals go_wp2_with fail
    all_goals go_meet
    all_goals refine ⟨⟨_, _, rfl, rfl, by first | omega | (simp; omega), by first | omega | (simp; omega), by first | omega | (simp; omega), ?_, ?_⟩, ?_⟩
    all_goals first
      | ((repeat (first | exact Below.refl _ _ | apply bl_drew | (refine bl_alloc _ ?_ (by simp <;> omega)))); done)
      | ((repeat (first | (refine Blk.made_at (cs := amC x) ?_; simp; done) | (refine Blk.made_at (cs := amC y) ?_; simp; done) | apply Blk.drew | apply Blk.alloc)); done)
  case rest =>
    obtain ⟨⟨g, h, rfl, rfl, hgh, hg, hh, hb1, hb2⟩, hbl⟩ := hcut
    have HB1 := Lib.hid hb1
    have HB2 := Lib.hid hb2
    have HBW := Lib.hid hbl
    have HGH := Lib.hid (show g ≠ h ∧ w3.heap.size ≤ g ∧ w3.heap.size ≤ h from ⟨hgh, hg, hh⟩)
    clear hb1 hb2 hbl hgh hg hh
    go_wp2
    go_loopw [7] (fun i wc => ∃ k : Nat, k ≤ 4 ∧ i = .int .i64 (k : Int) ∧ Hid (∀ j, j < k → x.get j ≤ y.get j) ∧ Hid (Below w3.heap.size w3 wc) ∧ Hid (Blk wc g (amC x) 2) ∧ Hid (Blk wc h (amC y) 2)) (fun i _ => 4 - (intOf i).toNat)
    case atStart => exact ⟨0, Nat.zero_le _, rfl, Lib.hid (fun j h => by omega), HBW, HB1, HB2⟩
    case round =>
      obtain ⟨k, hk, rfl, HAx, HBx, HXa, HYa⟩ := hrel
      by_cases hlt : k < 4
      · have i0 : (0 : Int) ≤ (k : Int) := by omega
        have i1 : (k : Int) < 4 := by omega
        have hx := HXa.out.cell (amC_get x hlt)
        have hy := HYa.out.cell (amC_get y hlt)
        obtain ⟨p, hp⟩ : ∃ p, p = x.get k := ⟨_, rfl⟩
        obtain ⟨q, hq⟩ : ∃ q, q = y.get k := ⟨_, rfl⟩
        rw [← hp] at hx
        rw [← hq] at hy
        have HPQ := Lib.hid (show p = x.get k ∧ q = y.get k from ⟨hp, hq⟩)
        clear hp hq
        by_cases hov : q < p
        · have HN : Hid (fitsB x y = false) := Lib.hid (by unfold fitsB; rw [any4_yes hlt (by have := HPQ.out; simp only [decide_eq_true_eq]; omega)]; rfl)
          go_wp2
          go_quiet (fail)
          go_wp2
          go_ret
          exact ⟨ret_bool HN.out.symm, below_and HBL.out (below_and HBx.out (below_drewN nq))⟩
        · have hd : decide (q < p) = false := by simpa using hov
          have HA2 : Hid (∀ j, j < k + 1 → x.get j ≤ y.get j) := Lib.hid (fun j hj => by
            by_cases h : j < k
            · exact HAx.out j h
            · obtain rfl : j = k := by omega
              have := HPQ.out; omega)
          go_wp2
          go_quiet (fail)
          go_wp2
          go_roundw
          case rel => exact ⟨k + 1, by omega, by go_num, HA2, Lib.hid (below_and HBx.out (below_drewN nq)), Lib.hid (HXa.out.kept (below_drewN nq)), Lib.hid (HYa.out.kept (below_drewN nq))⟩
          case measure => simp [intOf]; omega
      · obtain rfl : k = 4 := by omega
        have HN : Hid (fitsB x y = true) := Lib.hid (by unfold fitsB; rw [any4_no (fun j hj => by have := HAx.out j hj; simpa using this)]; rfl)
        go_wp2
        go_ret
        exact ⟨ret_bool HN.out.symm, below_and HBL.out HBx.out⟩

end Go.Proofs.YtmgecehdicpjnaaDoor
