/- The document's answer: Four, of, Check, wrong. -/
import Derived.Test.YtmgecehdicpjnaaDoorFits
import Derived.Test.YtmgecehdicpjnaaDoorScale
import Derived.Deep.QuietTactic
import Derived.BigQuiet
import Derived.StillTailTactics
namespace Go.Proofs.YtmgecehdicpjnaaDoor
open Go.RowKit

abbrev four (g : Nat) : Value := .slice (some ⟨g, 0, none⟩) 4 4

set_option maxRecDepth 100000 in
set_option maxHeartbeats 400000 in
theorem four_exact (x : Am) (w : World) :
    Calls Tryd.prog 38 #[amV x] w fun e w' => e = .returned (four (w.heap.size + 1)) ∧ w' = (w.alloc (.cells #[.int .i64 x.c, .int .i64 x.r, .int .i64 x.d, .int .i64 x.p] 23)).alloc (.cells #[.int .i64 x.c, .int .i64 x.r, .int .i64 x.d, .int .i64 x.p] 2) := by
  go_enter Tryd.func38, Tryd.ntmps38
  go_wp2
  go_ret
  exact ⟨by simp, rfl⟩
theorem four_any (x : Am) (w : World) :
    Calls Tryd.prog 38 #[amV x] w fun e w' => ∃ g, e = .returned (four g) ∧ w.heap.size ≤ g ∧ Blk w' g (amC x) 2 ∧ Below w.heap.size w w' :=
  (four_exact x w).mono fun e w' ⟨h1, h2⟩ => ⟨_, h1, by omega, by
    have := Blk.made (w.alloc (.cells (amC x).toArray 23)) (amC x) 2
    rw [h2]; simpa using this, by rw [h2]; exact below_and (below_alloc w _) (below_alloc _ _)⟩

set_option maxRecDepth 100000 in
set_option maxHeartbeats 1000000 in
theorem of_any (g : Nat) (x : Am) (w : World) (h : Blk w g (amC x) 2) :
    Calls Tryd.prog 46 #[four g] w fun e w' => e = .returned (amV x) ∧ Below w.heap.size w w' := by
  obtain ⟨w3, hw3⟩ : ∃ w3, w3 = w.alloc (.cells #[.int .i64 0, .int .i64 0, .int .i64 0, .int .i64 0] 23) := ⟨_, rfl⟩
  obtain ⟨B, hB⟩ : ∃ B, B = w.heap.size := ⟨_, rfl⟩
  have B0 : Hid (Blk w3 B (amC .zero) 23) := Lib.hid (by rw [hw3, hB]; exact Blk.made w (amC .zero) _)
  have HBL : Hid (Below w.heap.size w w3) := Lib.hid (by rw [hw3]; exact below_alloc w _)
  have HBW0 : Hid (w.heap.size ≤ B) := Lib.hid (by omega)
  have hg := h.kept HBL.out
  have c0 := hg.cell (j := 0) rfl
  have c1 := hg.cell (j := 1) rfl
  have c2 := hg.cell (j := 2) rfl
  have c3 := hg.cell (j := 3) rfl
  have r0 := B0.out.cell (j := 0) rfl
  have r1 := B0.out.cell (j := 1) rfl
  have r2 := B0.out.cell (j := 2) rfl
  have r3 := B0.out.cell (j := 3) rfl
  have f0 := B0.out.free 0
  have f1 := B0.out.free 1
  have f2 := B0.out.free 2
  have f3 := B0.out.free 3
  clear h hg
  go_enter Tryd.func46, Tryd.ntmps46
  go_upto_region 1 with fail
  rw [← hw3, ← hB]
  clear hw3 hB
  go_still_tail 13, (by kernel_rfl)
  change wpList _ _ _ _ _ w3.drew
  go_wp2
  refine bodyPost_ret (results_row rfl _ _ B 23 #[.int .i64 x.c, .int .i64 x.r, .int .i64 x.d, .int .i64 x.p] (0, 0) _ rfl ?_ Tryd.underlying23 rfl (by kernel_rfl)) rfl ⟨rfl, ?_⟩
  · exact (((B0.out.set 0 (.int .i64 x.c)).set 1 (.int .i64 x.r)).set 2 (.int .i64 x.d)).set 3 (.int .i64 x.p)
  · have hBw := HBW0.out
    exact ((((bl_drew HBL.out).setCell (p := ⟨B, 0, none⟩) hBw _).setCell (p := ⟨B, 1, none⟩) hBw _).setCell (p := ⟨B, 2, none⟩) hBw _).setCell (p := ⟨B, 3, none⟩) hBw _

set_option maxRecDepth 100000 in
set_option maxHeartbeats 600000 in
theorem rcheck_any (x : Am) (w : World) :
    Calls Tryd.prog 22 #[amV x] w fun e w' => e = .returned (.int .i64 x.chk) ∧ Below w.heap.size w w' := by
  go_enter Tryd.func22, Tryd.ntmps22
  go_wp2_with (go_at_call 38; refine (four_any x _).mono ?_; rintro e w1 ⟨g, rfl, -, hblk, hb⟩; have HG := Lib.hid hblk; have HB := Lib.hid (below_and (below_alloc w _) hb); clear hb hblk)
  go_loop [4] (fun i => ∃ k : Nat, k ≤ 4 ∧ i = .int .i64 (k : Int) ∧ Hid (∀ j, j < k → 0 ≤ x.get j ∧ x.get j ≤ 1099511627776)) (fun i => 4 - (intOf i).toNat)
  case atStart => exact ⟨0, Nat.zero_le _, rfl, fun j h => by omega⟩
  case round =>
    obtain ⟨k, hk, rfl, HA⟩ := hrel
    by_cases hlt : k < 4
    · have hx := HG.out.cell (amC_get x hlt)
      have i0 : (0 : Int) ≤ (k : Int) := by omega
      have i1 : (k : Int) < 4 := by omega
      obtain ⟨z, hz⟩ : ∃ z, z = x.get k := ⟨_, rfl⟩
      rw [← hz] at hx
      have HZ := Lib.hid hz
      clear hz
      by_cases h1 : z < 0
      · have HN : Hid (x.okB = false) := Lib.hid (by rw [← Bool.not_eq_true, Am.okB_iff]; intro h; have := h k hlt; have := HZ.out; omega)
        go_wp2
        go_ret
        exact ⟨ret_int (Am.chk_no HN.out).symm, HB.out⟩
      · by_cases h2 : 1099511627776 < z
        · have HN : Hid (x.okB = false) := Lib.hid (by rw [← Bool.not_eq_true, Am.okB_iff]; intro h; have := h k hlt; have := HZ.out; omega)
          go_wp2
          go_ret
          exact ⟨ret_int (Am.chk_no HN.out).symm, HB.out⟩
        · have HA2 : Hid (∀ j, j < k + 1 → 0 ≤ x.get j ∧ x.get j ≤ 1099511627776) := Lib.hid (fun j hj => by
            by_cases h : j < k
            · exact HA.out j h
            · obtain rfl : j = k := by omega
              have := HZ.out; omega)
          have d1 : decide (z < 0) = false := by simpa using h1
          have d2 : decide (1099511627776 < z) = false := by simpa using h2
          go_wp2
          go_round
          case rel => exact ⟨k + 1, by omega, by go_num, HA2⟩
          case measure => simp [intOf]; omega
    · obtain rfl : k = 4 := by omega
      have HN : Hid (x.okB = true) := Lib.hid (by rw [Am.okB_iff]; exact HA.out)
      go_wp2
      go_ret
      exact ⟨ret_int (Am.chk_yes HN.out).symm, HB.out⟩

set_option maxRecDepth 100000 in
set_option maxHeartbeats 600000 in
theorem wrong_any (v : Value) (xs : List Am) (w : World) (h : Ams w v xs) :
    Calls Tryd.prog 37 #[v] w fun e w' => e = .returned (.bool (!allB xs)) ∧ Below w.heap.size w w' := by
  obtain ⟨p, c, rfl, hc, hm⟩ := h.shape
  have hml : maxLen ≤ 9223372036854775807 := by decide
  have H := Lib.hid h
  clear h
  go_enter Tryd.func37, Tryd.ntmps37
  go_wp2
  go_loopw [3] (fun i wc => ∃ k : Nat, k ≤ xs.length ∧ i = .int .i64 (k : Int) ∧ Hid ((xs.take k).all Am.okB = true) ∧ Hid (Below w.heap.size w wc)) (fun i _ => xs.length - (intOf i).toNat)
  case atStart => exact ⟨0, Nat.zero_le _, rfl, by simp [Hid], Below.refl _ _⟩
  case round =>
    obtain ⟨k, hk, rfl, HA, HB⟩ := hrel
    by_cases hlt : k < xs.length
    · obtain ⟨b, o, rfl, e0, e1, e2, e3⟩ := (H.out.below HB.out).amAt hlt
      obtain ⟨x, hx⟩ : ∃ x, x = xs[k] := ⟨_, rfl⟩
      rw [← hx] at e0 e1 e2 e3
      cases hq : x.okB
      · have HN : Hid (allB xs = false) := Lib.hid (by unfold allB; rw [← Bool.not_eq_true, List.all_eq_true]; intro hh; have := hh xs[k] (List.getElem_mem hlt); rw [← hx, hq] at this; cases this)
        have HQ := Lib.hid (Am.chk_no hq)
        clear hq hx
        go_wp2_with (go_at_call 22; refine (rcheck_any x _).mono ?_; rw [HQ.out]; rintro e w2 ⟨rfl, hb⟩; have HB2 := Lib.hid (below_and HB.out hb); clear hb)
        go_ret
        exact ⟨ret_bool (by rw [HN.out]; rfl), HB2.out⟩
      · have HN : Hid ((xs.take (k + 1)).all Am.okB = true) := Lib.hid (by rw [List.take_succ_eq_append_getElem hlt, List.all_append, HA.out, ← hx]; simp [hq])
        have HQ := Lib.hid (Am.chk_yes hq)
        clear hq hx
        go_wp2_with (go_at_call 22; refine (rcheck_any x _).mono ?_; rw [HQ.out]; rintro e w2 ⟨rfl, hb⟩; have HB2 := Lib.hid (below_and HB.out hb); clear hb)
        go_roundw
        case rel => exact ⟨k + 1, hlt, by go_num, HN, HB2⟩
        case measure => simp [intOf]; omega
    · obtain rfl : k = xs.length := by omega
      have HN : Hid (allB xs = true) := Lib.hid (by have := HA.out; rwa [List.take_length] at this)
      go_wp2
      go_ret
      exact ⟨ret_bool (by rw [HN.out]; rfl), HB.out⟩
theorem wrong_two (w : World) (x y : Am) : Calls Tryd.prog 37 #[.slice (some ⟨w.heap.size, 0, none⟩) 2 2] (w.alloc (.cells #[.int .i64 x.c, .int .i64 x.r, .int .i64 x.d, .int .i64 x.p, .int .i64 y.c, .int .i64 y.r, .int .i64 y.d, .int .i64 y.p] 23)) fun e w' => e = .returned (.bool (!(x.okB && y.okB))) ∧ Below w.heap.size w w' :=
  (wrong_any _ [x, y] _ (ams_two w x y)).mono fun e w' ⟨h1, h2⟩ => ⟨by rw [h1]; simp [allB], below_and (below_alloc w _) h2⟩
theorem wrong_one (w : World) (x : Am) : Calls Tryd.prog 37 #[.slice (some ⟨w.heap.size, 0, none⟩) 1 1] (w.alloc (.cells #[.int .i64 x.c, .int .i64 x.r, .int .i64 x.d, .int .i64 x.p] 23)) fun e w' => e = .returned (.bool (!x.okB)) ∧ Below w.heap.size w w' :=
  (wrong_any _ [x] _ (ams_one w x)).mono fun e w' ⟨h1, h2⟩ => ⟨by rw [h1]; simp [allB], below_and (below_alloc w _) h2⟩

/-- two slices of four of the call's own, from block B on -/
def TwoS (B : Nat) (w : World) (u v : Value) (x y : Am) : Prop :=
  ∃ g h, u = four g ∧ v = four h ∧ g ≠ h ∧ B ≤ g ∧ B ≤ h ∧ Blk w g (amC x) 2 ∧ Blk w h (amC y) 2
end Go.Proofs.YtmgecehdicpjnaaDoor
