/- Fits. -/
import Derived.Test.YtaipldegobjboaaDoorMAmt
namespace Go.Proofs.YtaipldegobjboaaDoor
open Go.RowKit

set_option maxRecDepth 100000 in
set_option maxHeartbeats 1000000 in
theorem fits_any (x y : Am) (w : World) :
    Calls Tryd.prog 29 #[amV x, amV y] w fun e w' => e = .returned (.bool (fitsB x y)) ∧ Below w.heap.size w w' := by
  obtain ⟨w3, hw3⟩ : ∃ w3, w3 = ((w.alloc (.cells #[.int .i64 x.c, .int .i64 x.r, .int .i64 x.d, .int .i64 x.p] 25)).alloc (.cells #[.int .i64 y.c, .int .i64 y.r, .int .i64 y.d, .int .i64 y.p] 25)) := ⟨_, rfl⟩
  obtain ⟨B, hB⟩ : ∃ B, B = w.heap.size := ⟨_, rfl⟩
  have B0 : Hid (Blk w3 B (amC x) 25) := Lib.hid (by
    have := (Blk.made w (amC x) 25).alloc (.cells #[.int .i64 y.c, .int .i64 y.r, .int .i64 y.d, .int .i64 y.p] 25)
    rw [hw3, hB]; exact this)
  have B1 : Hid (Blk w3 (B + 1) (amC y) 25) := Lib.hid (by
    have := (Blk.made (w.alloc (.cells #[.int .i64 x.c, .int .i64 x.r, .int .i64 x.d, .int .i64 x.p] 25)) (amC y) 25)
    rw [hw3, hB]; simpa using this)
  have HBL : Hid (Below w.heap.size w w3) := Lib.hid (by rw [hw3]; exact below_and (below_alloc w _) (below_alloc _ _))
  have c4 := B1.out.cell (j := 0) rfl
  have c5 := B1.out.cell (j := 1) rfl
  have c6 := B1.out.cell (j := 2) rfl
  have c7 := B1.out.cell (j := 3) rfl
  go_enter Tryd.func29, Tryd.ntmps29
  go_upto_region 1 with fail
  rw [← hw3, ← hB]
  clear hw3 hB
  go_upto_region 2 with (go_at_call 32; refine (array_any y _).mono ?_; rintro e w5 ⟨rfl, hb⟩; have HB5 := Lib.hid hb; clear hb)
  obtain ⟨w6, hw6⟩ : ∃ w6, w6 = w5.alloc (.cells #[.int .i64 y.c, .int .i64 y.r, .int .i64 y.d, .int .i64 y.p] 77) := ⟨_, rfl⟩
  obtain ⟨g, hg⟩ : ∃ g, g = w5.heap.size := ⟨_, rfl⟩
  have HY : Hid (Blk w6 g (amC y) 77) := Lib.hid (by rw [hw6, hg]; exact Blk.made w5 (amC y) _)
  have HB6 : Hid (Below w3.heap.size w3 w6) := Lib.hid (by rw [hw6]; exact below_and HB5.out (below_alloc _ _))
  rw [← hw6, ← hg]
  clear hw6 hg c4 c5 c6 c7
  have c0 := (B0.out.kept HB6.out).cell (j := 0) rfl
  have c1 := (B0.out.kept HB6.out).cell (j := 1) rfl
  have c2 := (B0.out.kept HB6.out).cell (j := 2) rfl
  have c3 := (B0.out.kept HB6.out).cell (j := 3) rfl
  go_wp2_with (go_at_call 32; refine (array_any x _).mono ?_; rintro e w7 ⟨rfl, hb⟩; have HB7 := Lib.hid (below_and HBL.out (below_and HB6.out hb)); have HY7 := Lib.hid (HY.out.kept hb); clear hb)
  go_loop [12] (fun i => ∃ k : Nat, k ≤ 4 ∧ i = .int .i64 (k : Int) ∧ Hid (∀ j, j < k → x.get j ≤ y.get j)) (fun i => 4 - (intOf i).toNat)
  case atStart => exact ⟨0, Nat.zero_le _, rfl, fun j h => by omega⟩
  case round =>
    obtain ⟨k, hk, rfl, HA⟩ := hrel
    by_cases hlt : k < 4
    · have hix := index_am x w7 k hlt
      have hy := HY7.out.cell (amC_get y hlt)
      have i0 : (0 : Int) ≤ (k : Int) := by omega
      have i1 : (k : Int) < 4 := by omega
      obtain ⟨p, hp⟩ : ∃ p, p = x.get k := ⟨_, rfl⟩
      obtain ⟨q, hq⟩ : ∃ q, q = y.get k := ⟨_, rfl⟩
      rw [← hp] at hix
      rw [← hq] at hy
      have HPQ := Lib.hid (show p = x.get k ∧ q = y.get k from ⟨hp, hq⟩)
      clear hp hq
      by_cases hov : q < p
      · have HN : Hid (fitsB x y = false) := Lib.hid (by unfold fitsB; rw [any4_yes hlt (by have := HPQ.out; simp only [decide_eq_true_eq]; omega)]; rfl)
        go_wp2
        go_ret
        exact ⟨ret_bool HN.out.symm, HB7.out⟩
      · have hd : decide (q < p) = false := by simpa using hov
        have HA2 : Hid (∀ j, j < k + 1 → x.get j ≤ y.get j) := Lib.hid (fun j hj => by
          by_cases h : j < k
          · exact HA.out j h
          · obtain rfl : j = k := by omega
            have := HPQ.out; omega)
        go_wp2
        go_round
        case rel => exact ⟨k + 1, by omega, by go_num, HA2⟩
        case measure => simp [intOf]; omega
    · obtain rfl : k = 4 := by omega
      have HN : Hid (fitsB x y = true) := Lib.hid (by unfold fitsB; rw [any4_no (fun j hj => by have := HA.out j hj; simpa using this)]; rfl)
      go_wp2
      go_ret
      exact ⟨ret_bool HN.out.symm, HB7.out⟩
theorem fits_yes {x y : Am} (h : fitsB x y = true) {k : Nat} (hk : k < 4) : x.get k ≤ y.get k := by
  unfold fitsB at h
  have := any4_false (by simpa using h) hk
  simpa using this
end Go.Proofs.YtaipldegobjboaaDoor
