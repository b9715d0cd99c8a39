/- Texts of one proof, laid together: RFour, RFits. No condition of ours. -/
import Derived.Test.YtmgbailpmcggiaaGreatQZ3
import Derived.Deep.QuietTactic
import Derived.BigQuiet
import Derived.StillTailTactics
import Derived.Deep.DeepCutAuto
namespace Go.Proofs.YtmgbailpmcggiaaGreat
open Go.RowKit

abbrev four (g : Nat) : Value := .slice (some ⟨g, 0, none⟩) 4 4

set_option maxRecDepth 100000 in
set_option maxHeartbeats 400000 in
theorem four_exact (x : Am) (w : World) :
    Calls Tryz.prog 59 #[amV x] w fun e w' => e = .returned (four (w.heap.size + 1)) ∧ w' = (w.alloc (.cells #[.int .i64 x.c, .int .i64 x.r, .int .i64 x.d, .int .i64 x.p] 34)).alloc (.cells #[.int .i64 x.c, .int .i64 x.r, .int .i64 x.d, .int .i64 x.p] 2) := by
  go_enter Tryz.func59, Tryz.ntmps59
  go_wp2
  go_ret
  exact ⟨by simp, rfl⟩
theorem four_any (x : Am) (w : World) :
    Calls Tryz.prog 59 #[amV x] w fun e w' => ∃ g, e = .returned (four g) ∧ w.heap.size ≤ g ∧ Blk w' g (amC x) 2 ∧ Below w.heap.size w w' :=
  (four_exact x w).mono fun e w' ⟨h1, h2⟩ => ⟨_, h1, by omega, by
    have := Blk.made (w.alloc (.cells (amC x).toArray 34)) (amC x) 2
    rw [h2]; simpa using this, by rw [h2]; exact below_and (below_alloc w _) (below_alloc _ _)⟩

set_option maxRecDepth 100000 in
set_option maxHeartbeats 1000000 in
theorem of_any (g : Nat) (x : Am) (w : World) (h : Blk w g (amC x) 2) :
    Calls Tryz.prog 63 #[four g] w fun e w' => e = .returned (amV x) ∧ Below w.heap.size w w' := by
  obtain ⟨w3, hw3⟩ : ∃ w3, w3 = w.alloc (.cells #[.int .i64 0, .int .i64 0, .int .i64 0, .int .i64 0] 34) := ⟨_, rfl⟩
  obtain ⟨B, hB⟩ : ∃ B, B = w.heap.size := ⟨_, rfl⟩
  have B0 : Hid (Blk w3 B (amC .zero) 34) := Lib.hid (by rw [hw3, hB]; exact Blk.made w (amC .zero) _)
  have HBL : Hid (Below w.heap.size w w3) := Lib.hid (by rw [hw3]; exact below_alloc w _)
  have HBW0 : Hid (w.heap.size ≤ B) := Lib.hid (by omega)
  have hg := h.kept HBL.out
  have c0 := hg.cell (j := 0) rfl
  have c1 := hg.cell (j := 1) rfl
  have c2 := hg.cell (j := 2) rfl
  have c3 := hg.cell (j := 3) rfl
  have r0 := B0.out.cell (j := 0) rfl
  have r1 := B0.out.cell (j := 1) rfl
  have r2 := B0.out.cell (j := 2) rfl
  have r3 := B0.out.cell (j := 3) rfl
  have f0 := B0.out.free 0
  have f1 := B0.out.free 1
  have f2 := B0.out.free 2
  have f3 := B0.out.free 3
  clear h hg
  go_enter Tryz.func63, Tryz.ntmps63
  go_upto_region 1 with fail
  rw [← hw3, ← hB]
  clear hw3 hB
  go_still_tail 13, (by kernel_rfl)
  change wpList _ _ _ _ _ w3.drew
  go_wp2
  refine bodyPost_ret (results_row rfl _ _ B 34 #[.int .i64 x.c, .int .i64 x.r, .int .i64 x.d, .int .i64 x.p] (0, 0) _ rfl ?_ Tryz.underlying34 rfl (by kernel_rfl)) rfl ⟨rfl, ?_⟩
  · exact (((B0.out.set 0 (.int .i64 x.c)).set 1 (.int .i64 x.r)).set 2 (.int .i64 x.d)).set 3 (.int .i64 x.p)
  · have hBw := HBW0.out
    exact ((((bl_drew HBL.out).setCell (p := ⟨B, 0, none⟩) hBw _).setCell (p := ⟨B, 1, none⟩) hBw _).setCell (p := ⟨B, 2, none⟩) hBw _).setCell (p := ⟨B, 3, none⟩) hBw _

set_option maxRecDepth 100000 in
set_option maxHeartbeats 600000 in
theorem rcheck_any (x : Am) (w : World) :
    Calls Tryz.prog 40 #[amV x] w fun e w' => e = .returned (.int .i64 x.chk) ∧ Below w.heap.size w w' := by
  go_enter Tryz.func40, Tryz.ntmps40
  go_wp2_with (go_at_call 59; refine (four_any x _).mono ?_; rintro e w1 ⟨g, rfl, -, hblk, hb⟩; have HG := Lib.hid hblk; have HB := Lib.hid (below_and (below_alloc w _) hb); clear hb hblk)
  go_loop [4] (fun i => ∃ k : Nat, k ≤ 4 ∧ i = .int .i64 (k : Int) ∧ Hid (∀ j, j < k → 0 ≤ x.get j ∧ x.get j ≤ 1099511627776)) (fun i => 4 - (intOf i).toNat)
  case atStart => exact ⟨0, Nat.zero_le _, rfl, fun j h => by omega⟩
  case round =>
    obtain ⟨k, hk, rfl, HA⟩ := hrel
    by_cases hlt : k < 4
    · have hx := HG.out.cell (amC_get x hlt)
      have i0 : (0 : Int) ≤ (k : Int) := by omega
      have i1 : (k : Int) < 4 := by omega
      obtain ⟨z, hz⟩ : ∃ z, z = x.get k := ⟨_, rfl⟩
      rw [← hz] at hx
      have HZ := Lib.hid hz
      clear hz
      by_cases h1 : z < 0
      · have HN : Hid (x.okB = false) := Lib.hid (by rw [← Bool.not_eq_true, Am.okB_iff]; intro h; have := h k hlt; have := HZ.out; omega)
        go_wp2
        go_ret
        exact ⟨ret_int (Am.chk_no HN.out).symm, HB.out⟩
      · by_cases h2 : 1099511627776 < z
        · have HN : Hid (x.okB = false) := Lib.hid (by rw [← Bool.not_eq_true, Am.okB_iff]; intro h; have := h k hlt; have := HZ.out; omega)
          go_wp2
          go_ret
          exact ⟨ret_int (Am.chk_no HN.out).symm, HB.out⟩
        · have HA2 : Hid (∀ j, j < k + 1 → 0 ≤ x.get j ∧ x.get j ≤ 1099511627776) := Lib.hid (fun j hj => by
            by_cases h : j < k
            · exact HA.out j h
            · obtain rfl : j = k := by omega
              have := HZ.out; omega)
          have d1 : decide (z < 0) = false := by simpa using h1
          have d2 : decide (1099511627776 < z) = false := by simpa using h2
          go_wp2
          go_round
          case rel => exact ⟨k + 1, by omega, by go_num, HA2⟩
          case measure => simp [intOf]; omega
    · obtain rfl : k = 4 := by omega
      have HN : Hid (x.okB = true) := Lib.hid (by rw [Am.okB_iff]; exact HA.out)
      go_wp2
      go_ret
      exact ⟨ret_int (Am.chk_yes HN.out).symm, HB.out⟩

set_option maxRecDepth 100000 in
set_option maxHeartbeats 600000 in
theorem wrong_any (v : Value) (xs : List Am) (w : World) (h : Ams w v xs) :
    Calls Tryz.prog 62 #[v] w fun e w' => e = .returned (.bool (!allB xs)) ∧ Below w.heap.size w w' := by
  obtain ⟨p, c, rfl, hc, hm⟩ := h.shape
  have hml : maxLen ≤ 9223372036854775807 := by decide
  have H := Lib.hid h
  clear h
  go_enter Tryz.func62, Tryz.ntmps62
  go_wp2
  go_loopw [3] (fun i wc => ∃ k : Nat, k ≤ xs.length ∧ i = .int .i64 (k : Int) ∧ Hid ((xs.take k).all Am.okB = true) ∧ Hid (Below w.heap.size w wc)) (fun i _ => xs.length - (intOf i).toNat)
  case atStart => exact ⟨0, Nat.zero_le _, rfl, by simp [Hid], Below.refl _ _⟩
  case round =>
    obtain ⟨k, hk, rfl, HA, HB⟩ := hrel
    by_cases hlt : k < xs.length
    · obtain ⟨b, o, rfl, e0, e1, e2, e3⟩ := (H.out.below HB.out).amAt hlt
      obtain ⟨x, hx⟩ : ∃ x, x = xs[k] := ⟨_, rfl⟩
      rw [← hx] at e0 e1 e2 e3
      cases hq : x.okB
      · have HN : Hid (allB xs = false) := Lib.hid (by unfold allB; rw [← Bool.not_eq_true, List.all_eq_true]; intro hh; have := hh xs[k] (List.getElem_mem hlt); rw [← hx, hq] at this; cases this)
        have HQ := Lib.hid (Am.chk_no hq)
        clear hq hx
        go_wp2_with (go_at_call 40; refine (rcheck_any x _).mono ?_; rw [HQ.out]; rintro e w2 ⟨rfl, hb⟩; have HB2 := Lib.hid (below_and HB.out hb); clear hb)
        go_ret
        exact ⟨ret_bool (by rw [HN.out]; rfl), HB2.out⟩
      · have HN : Hid ((xs.take (k + 1)).all Am.okB = true) := Lib.hid (by rw [List.take_succ_eq_append_getElem hlt, List.all_append, HA.out, ← hx]; simp [hq])
        have HQ := Lib.hid (Am.chk_yes hq)
        clear hq hx
        go_wp2_with (go_at_call 40; refine (rcheck_any x _).mono ?_; rw [HQ.out]; rintro e w2 ⟨rfl, hb⟩; have HB2 := Lib.hid (below_and HB.out hb); clear hb)
        go_roundw
        case rel => exact ⟨k + 1, hlt, by go_num, HN, HB2⟩
        case measure => simp [intOf]; omega
    · obtain rfl : k = xs.length := by omega
      have HN : Hid (allB xs = true) := Lib.hid (by have := HA.out; rwa [List.take_length] at this)
      go_wp2
      go_ret
      exact ⟨ret_bool (by rw [HN.out]; rfl), HB.out⟩
theorem wrong_two (w : World) (x y : Am) : Calls Tryz.prog 62 #[.slice (some ⟨w.heap.size, 0, none⟩) 2 2] (w.alloc (.cells #[.int .i64 x.c, .int .i64 x.r, .int .i64 x.d, .int .i64 x.p, .int .i64 y.c, .int .i64 y.r, .int .i64 y.d, .int .i64 y.p] 34)) fun e w' => e = .returned (.bool (!(x.okB && y.okB))) ∧ Below w.heap.size w w' :=
  (wrong_any _ [x, y] _ (ams_two w x y)).mono fun e w' ⟨h1, h2⟩ => ⟨by rw [h1]; simp [allB], below_and (below_alloc w _) h2⟩
theorem wrong_one (w : World) (x : Am) : Calls Tryz.prog 62 #[.slice (some ⟨w.heap.size, 0, none⟩) 1 1] (w.alloc (.cells #[.int .i64 x.c, .int .i64 x.r, .int .i64 x.d, .int .i64 x.p] 34)) fun e w' => e = .returned (.bool (!x.okB)) ∧ Below w.heap.size w w' :=
  (wrong_any _ [x] _ (ams_one w x)).mono fun e w' ⟨h1, h2⟩ => ⟨by rw [h1]; simp [allB], below_and (below_alloc w _) h2⟩

/-- two slices of four of the call's own, from block B on -/
def TwoS (B : Nat) (w : World) (u v : Value) (x y : Am) : Prop :=
  ∃ g h, u = four g ∧ v = four h ∧ g ≠ h ∧ B ≤ g ∧ B ≤ h ∧ Blk w g (amC x) 2 ∧ Blk w h (amC y) 2
end Go.Proofs.YtmgbailpmcggiaaGreat
namespace Go.Proofs.YtmgbailpmcggiaaGreat
open Go.RowKit

set_option maxRecDepth 100000 in
set_option maxHeartbeats 4000000 in
theorem rfits_any (x y : Am) (w : World) :
    Calls Tryz.prog 38 #[amV x, amV y] w fun e w' => e = .returned (.bool (fitsB x y)) ∧ Below w.heap.size w w' := by
  obtain ⟨w3, hw3⟩ : ∃ w3, w3 = ((w.alloc (.cells #[.int .i64 x.c, .int .i64 x.r, .int .i64 x.d, .int .i64 x.p] 34)).alloc (.cells #[.int .i64 y.c, .int .i64 y.r, .int .i64 y.d, .int .i64 y.p] 34)) := ⟨_, rfl⟩
  obtain ⟨B, hB⟩ : ∃ B, B = w.heap.size := ⟨_, rfl⟩
  have B0 : Hid (Blk w3 B (amC x) 34) := Lib.hid (by
    have := (Blk.made w (amC x) 34).alloc (.cells #[.int .i64 y.c, .int .i64 y.r, .int .i64 y.d, .int .i64 y.p] 34)
    rw [hw3, hB]; exact this)
  have B1 : Hid (Blk w3 (B + 1) (amC y) 34) := Lib.hid (by
    have := Blk.made (w.alloc (.cells #[.int .i64 x.c, .int .i64 x.r, .int .i64 x.d, .int .i64 x.p] 34)) (amC y) 34
    rw [hw3, hB]; simpa using this)
  have HBL : Hid (Below w.heap.size w w3) := Lib.hid (by rw [hw3]; exact below_and (below_alloc w _) (below_alloc _ _))
  have HSZ : Hid (w3.heap.size = B + 2) := Lib.hid (by rw [hw3, hB]; simp)
  have HBW0 : Hid (w.heap.size ≤ B) := Lib.hid (by omega)
  go_enter Tryz.func38, Tryz.ntmps38
  go_upto_region 1 with fail
  rw [← hw3, ← hB]
  clear hw3 hB
  go_cut [5, 6] (fun sa sb wx => TwoS w3.heap.size wx sa sb x y ∧ Below w3.heap.size w3 wx)
  case first =>
    go_region_held3 (fun w' => w'.cell? ⟨B, 0, none⟩ = some (.int .i64 x.c) ∧ w'.cell? ⟨B, 1, none⟩ = some (.int .i64 x.r) ∧ w'.cell? ⟨B, 2, none⟩ = some (.int .i64 x.d) ∧ w'.cell? ⟨B, 3, none⟩ = some (.int .i64 x.p) ∧ w'.cell? ⟨B + 1, 0, none⟩ = some (.int .i64 y.c) ∧ w'.cell? ⟨B + 1, 1, none⟩ = some (.int .i64 y.r) ∧ w'.cell? ⟨B + 1, 2, none⟩ = some (.int .i64 y.d) ∧ w'.cell? ⟨B + 1, 3, none⟩ = some (.int .i64 y.p)) (refine eight (t := 34) (u := 34) ?_ ?_ <;> (repeat (first | exact B0.out | exact B1.out | apply Blk.drew | apply Blk.alloc)))
      (first | (go_at_call 59; refine (four_exact _ _).mono ?_; rintro e w1 ⟨rfl, rfl⟩))
    all_goals go_wp2_with fail
    all_goals go_meet
    all_goals refine ⟨⟨_, _, rfl, rfl, by first | omega | (simp; omega), by first | omega | (simp; omega), by first | omega | (simp; omega), ?_, ?_⟩, ?_⟩
    all_goals first
      | ((repeat (first | exact Below.refl _ _ | apply bl_drew | (refine bl_alloc _ ?_ (by simp <;> omega)))); done)
      | ((repeat (first | (refine Blk.made_at (cs := amC x) ?_; simp; done) | (refine Blk.made_at (cs := amC y) ?_; simp; done) | apply Blk.drew | apply Blk.alloc)); done)
  case rest =>
    obtain ⟨⟨g, h, rfl, rfl, hgh, hg, hh, hb1, hb2⟩, hbl⟩ := hcut
    have HB1 := Lib.hid hb1
    have HB2 := Lib.hid hb2
    have HBW := Lib.hid hbl
    have HGH := Lib.hid (show g ≠ h ∧ w3.heap.size ≤ g ∧ w3.heap.size ≤ h from ⟨hgh, hg, hh⟩)
    clear hb1 hb2 hbl hgh hg hh
    go_wp2
    go_loopw [7] (fun i wc => ∃ k : Nat, k ≤ 4 ∧ i = .int .i64 (k : Int) ∧ Hid (∀ j, j < k → x.get j ≤ y.get j) ∧ Hid (Below w3.heap.size w3 wc) ∧ Hid (Blk wc g (amC x) 2) ∧ Hid (Blk wc h (amC y) 2)) (fun i _ => 4 - (intOf i).toNat)
    case atStart => exact ⟨0, Nat.zero_le _, rfl, Lib.hid (fun j h => by omega), HBW, HB1, HB2⟩
    case round =>
      obtain ⟨k, hk, rfl, HAx, HBx, HXa, HYa⟩ := hrel
      by_cases hlt : k < 4
      · have i0 : (0 : Int) ≤ (k : Int) := by omega
        have i1 : (k : Int) < 4 := by omega
        have hx := HXa.out.cell (amC_get x hlt)
        have hy := HYa.out.cell (amC_get y hlt)
        obtain ⟨p, hp⟩ : ∃ p, p = x.get k := ⟨_, rfl⟩
        obtain ⟨q, hq⟩ : ∃ q, q = y.get k := ⟨_, rfl⟩
        rw [← hp] at hx
        rw [← hq] at hy
        have HPQ := Lib.hid (show p = x.get k ∧ q = y.get k from ⟨hp, hq⟩)
        clear hp hq
        by_cases hov : q < p
        · have HN : Hid (fitsB x y = false) := Lib.hid (by unfold fitsB; rw [any4_yes hlt (by have := HPQ.out; simp only [decide_eq_true_eq]; omega)]; rfl)
          go_wp2
          go_quiet (fail)
          go_wp2
          go_ret
          exact ⟨ret_bool HN.out.symm, below_and HBL.out (below_and HBx.out (below_drewN nq))⟩
        · have hd : decide (q < p) = false := by simpa using hov
          have HA2 : Hid (∀ j, j < k + 1 → x.get j ≤ y.get j) := Lib.hid (fun j hj => by
            by_cases h : j < k
            · exact HAx.out j h
            · obtain rfl : j = k := by omega
              have := HPQ.out; omega)
          go_wp2
          go_quiet (fail)
          go_wp2
          go_roundw
          case rel => exact ⟨k + 1, by omega, by go_num, HA2, Lib.hid (below_and HBx.out (below_drewN nq)), Lib.hid (HXa.out.kept (below_drewN nq)), Lib.hid (HYa.out.kept (below_drewN nq))⟩
          case measure => simp [intOf]; omega
      · obtain rfl : k = 4 := by omega
        have HN : Hid (fitsB x y = true) := Lib.hid (by unfold fitsB; rw [any4_no (fun j hj => by have := HAx.out j hj; simpa using this)]; rfl)
        go_wp2
        go_ret
        exact ⟨ret_bool HN.out.symm, below_and HBL.out HBx.out⟩

end Go.Proofs.YtmgbailpmcggiaaGreat
