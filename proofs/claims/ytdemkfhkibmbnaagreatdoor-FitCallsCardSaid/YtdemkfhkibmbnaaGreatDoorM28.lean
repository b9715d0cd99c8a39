/- RFour, RAdd, RSum, RFits. -/
import Derived.Test.YtdemkfhkibmbnaaGreatDoorM27
import Derived.StillTailTactics
set_option maxRecDepth 100000
set_option maxHeartbeats 8000000
namespace Go.Proofs.YtdemkfhkibmbnaaGreatDoor
open Go.RowKit
abbrev four (g : Nat) : Value := .slice (some ⟨g, 0, none⟩) 4 4
theorem four_exact (x : Am) (w : World) :
  Calls Tryz.prog 60 #[amV x] w fun e w' => e = .returned (four (w.heap.size + 1)) ∧ w' = (w.alloc (.cells #[.int .i64 x.c, .int .i64 x.r, .int .i64 x.d, .int .i64 x.p] 23)).alloc (.cells #[.int .i64 x.c, .int .i64 x.r, .int .i64 x.d, .int .i64 x.p] 2) := by
 go_enter Tryz.func60, Tryz.ntmps60; go_wp2; go_ret; exact ⟨by simp, rfl⟩
theorem four_any (x : Am) (w : World) :
  Calls Tryz.prog 60 #[amV x] w fun e w' => ∃ g, e = .returned (four g) ∧ w.heap.size ≤ g ∧ Blk w' g (amC x) 2 ∧ Below w.heap.size w w' :=
 (four_exact x w).mono fun e w' ⟨h1, h2⟩ => ⟨_, h1, by omega, by
  have := Blk.made (w.alloc (.cells (amC x).toArray 23)) (amC x) 2
  rw [h2]; simpa using this, by rw [h2]; exact below_and (below_alloc w _) (below_alloc _ _)⟩
theorem of_any (g : Nat) (x : Am) (w : World) (h : Blk w g (amC x) 2) :
  Calls Tryz.prog 72 #[four g] w fun e w' => e = .returned (amV x) ∧ Below w.heap.size w w' := by
 obtain ⟨w3, hw3⟩ : ∃ w3, w3 = w.alloc (.cells #[.int .i64 0, .int .i64 0, .int .i64 0, .int .i64 0] 23) := ⟨_, rfl⟩; obtain ⟨B, hB⟩ : ∃ B, B = w.heap.size := ⟨_, rfl⟩; have B0 : Hid (Blk w3 B (amC .zero) 23) := zz (by rw [hw3, hB]; exact Blk.made w (amC .zero) _); have HBL : Hid (Below w.heap.size w w3) := zz (by rw [hw3]; exact below_alloc w _); have HBW0 : Hid (w.heap.size ≤ B) := zz (by omega); have hg := h.kept HBL.o; obtain ⟨c0, c1, c2, c3⟩ := cl4 hg; obtain ⟨r0, r1, r2, r3⟩ := cl4 B0.o; obtain ⟨f0, f1, f2, f3⟩ := fz4 B0.o; clear h hg; go_enter Tryz.func72, Tryz.ntmps72; go_upto_region 1 with fail; rw [← hw3, ← hB]; clear hw3 hB
 go_still_tail 13, (by kernel_rfl)
 change wpList _ _ _ _ _ w3.drew
 go_wp2; refine bodyPost_ret (results_row rfl _ _ B 23 #[.int .i64 x.c, .int .i64 x.r, .int .i64 x.d, .int .i64 x.p] (0, 0) _ rfl ?_ Tryz.underlying23 rfl (by kernel_rfl)) rfl ⟨rfl, ?_⟩
 ·exact (((B0.o.set 0 (.int .i64 x.c)).set 1 (.int .i64 x.r)).set 2 (.int .i64 x.d)).set 3 (.int .i64 x.p)
 ·have hBw := HBW0.o
  exact ((((bl_drew HBL.o).setCell (p := ⟨B, 0, none⟩) hBw _).setCell (p := ⟨B, 1, none⟩) hBw _).setCell (p := ⟨B, 2, none⟩) hBw _).setCell (p := ⟨B, 3, none⟩) hBw _
theorem rcheck_any (x : Am) (w : World) :
  Calls Tryz.prog 28 #[amV x] w fun e w' => e = .returned (.int .i64 x.chk) ∧ Below w.heap.size w w' := by
 go_enter Tryz.func28, Tryz.ntmps28; go_wp2_with (go_at_call 60; refine (four_any x _).mono ?_; rintro e w1 ⟨g, rfl, -, hblk, hb⟩; have HG := zz hblk; have HB := zz (below_and (below_alloc w _) hb); clear hb hblk)
 go_loop [4] (fun i => ∃ k : Nat, k ≤ 4 ∧ i = .int .i64 (k : Int) ∧ Hid (∀ j, j < k → 0 ≤ x.get j ∧ x.get j ≤ 1099511627776)) (fun i => 4 - (intOf i).toNat)
 case atStart => exact ⟨0, Nat.zero_le _, rfl, fun j h => by omega⟩
 case round =>
  obtain ⟨k, hk, rfl, HA⟩ := hrel
  by_cases hlt : k < 4
  ·have hx := HG.o.cell (amC_get x hlt)
   have i0 : (0 : Int) ≤ (k : Int) := by omega
   have i1 : (k : Int) < 4 := by omega
   obtain ⟨z, hz⟩ : ∃ z, z = x.get k := ⟨_, rfl⟩; rw [← hz] at hx; have HZ := zz hz; clear hz
   by_cases h1 : z < 0
   ·have HN : Hid (x.okB = false) := zz (by rw [← Bool.not_eq_true, Am.okB_iff]; intro h; have := h k hlt; have := HZ.o; omega)
    go_wp2; go_ret; exact ⟨ret_int (Am.chk_no HN.o).symm, HB.o⟩
   ·by_cases h2 : 1099511627776 < z
    ·have HN : Hid (x.okB = false) := zz (by rw [← Bool.not_eq_true, Am.okB_iff]; intro h; have := h k hlt; have := HZ.o; omega)
     go_wp2; go_ret; exact ⟨ret_int (Am.chk_no HN.o).symm, HB.o⟩
    ·have HA2 : Hid (∀ j, j < k + 1 → 0 ≤ x.get j ∧ x.get j ≤ 1099511627776) := zz (fun j hj => by
      by_cases h : j < k
      ·exact HA.o j h
      ·obtain rfl : j = k := by omega
       have := HZ.o; omega)
     have d1 : decide (z < 0) = false := by simpa using h1
     have d2 : decide (1099511627776 < z) = false := by simpa using h2
     go_wp2
     go_round
     case rel => exact ⟨k + 1, by omega, by go_num, HA2⟩
     case measure => simp [intOf]; omega
  ·obtain rfl : k = 4 := by omega
   have HN : Hid (x.okB = true) := zz (by rw [Am.okB_iff]; exact HA.o); go_wp2; go_ret; exact ⟨ret_int (Am.chk_yes HN.o).symm, HB.o⟩
theorem wrong_any (v : Value) (xs : List Am) (w : World) (h : Ams w v xs) :
  Calls Tryz.prog 71 #[v] w fun e w' => e = .returned (.bool (!allB xs)) ∧ Below w.heap.size w w' := by
 obtain ⟨p, c, rfl, hc, hm⟩ := h.shape; have hml : maxLen ≤ 9223372036854775807 := by decide
 have H := zz h; clear h; go_enter Tryz.func71, Tryz.ntmps71; go_wp2
 go_loopw [3] (fun i wc => ∃ k : Nat, k ≤ xs.length ∧ i = .int .i64 (k : Int) ∧ Hid ((xs.take k).all Am.okB = true) ∧ Hid (Below w.heap.size w wc)) (fun i _ => xs.length - (intOf i).toNat)
 case atStart => exact ⟨0, Nat.zero_le _, rfl, by simp [Hid], Below.refl _ _⟩
 case round =>
  obtain ⟨k, hk, rfl, HA, HB⟩ := hrel
  by_cases hlt : k < xs.length
  ·obtain ⟨b, o, rfl, e0, e1, e2, e3⟩ := (H.o.below HB.o).amAt hlt
   obtain ⟨x, hx⟩ : ∃ x, x = xs[k] := ⟨_, rfl⟩; rw [← hx] at e0 e1 e2 e3; cases hq : x.okB
   ·have HN : Hid (allB xs = false) := zz (by unfold allB; rw [← Bool.not_eq_true, List.all_eq_true]; intro hh; have := hh xs[k] (List.getElem_mem hlt); rw [← hx, hq] at this; cases this)
    have HQ := zz (Am.chk_no hq); clear hq hx; go_wp2_with (go_at_call 28; refine (rcheck_any x _).mono ?_; rw [HQ.o]; rintro e w2 ⟨rfl, hb⟩; have HB2 := zz (below_and HB.o hb); clear hb); go_ret; exact ⟨ret_bool (by rw [HN.o]; rfl), HB2.o⟩
   ·have HN : Hid ((xs.take (k + 1)).all Am.okB = true) := zz (by rw [List.take_succ_eq_append_getElem hlt, List.all_append, HA.o, ← hx]; simp [hq])
    have HQ := zz (Am.chk_yes hq); clear hq hx; go_wp2_with (go_at_call 28; refine (rcheck_any x _).mono ?_; rw [HQ.o]; rintro e w2 ⟨rfl, hb⟩; have HB2 := zz (below_and HB.o hb); clear hb); go_roundw
    case rel => exact ⟨k + 1, hlt, by go_num, HN, HB2⟩
    case measure => simp [intOf]; omega
  ·obtain rfl : k = xs.length := by omega
   have HN : Hid (allB xs = true) := zz (by have := HA.o; rwa [List.take_length] at this); go_wp2; go_ret; exact ⟨ret_bool (by rw [HN.o]; rfl), HB.o⟩
theorem wrong_two (w : World) (x y : Am) : Calls Tryz.prog 71 #[.slice (some ⟨w.heap.size, 0, none⟩) 2 2] (w.alloc (.cells #[.int .i64 x.c, .int .i64 x.r, .int .i64 x.d, .int .i64 x.p, .int .i64 y.c, .int .i64 y.r, .int .i64 y.d, .int .i64 y.p] 23)) fun e w' => e = .returned (.bool (!(x.okB && y.okB))) ∧ Below w.heap.size w w' :=
 (wrong_any _ [x, y] _ (ams_two w x y)).mono fun e w' ⟨h1, h2⟩ => ⟨by rw [h1]; simp [allB], below_and (below_alloc w _) h2⟩
def TwoS (B : Nat) (w : World) (u v : Value) (x y : Am) : Prop :=
 ∃ g h, u = four g ∧ v = four h ∧ g ≠ h ∧ B ≤ g ∧ B ≤ h ∧ Blk w g (amC x) 2 ∧ Blk w h (amC y) 2
theorem radd_bad (x y : Am) (w : World) (ha : (x.okB && y.okB) = false) :
  Calls Tryz.prog 79 #[amV x, amV y] w fun e w' => e = .returned (.tuple #[amV (addR x y).1, .int .i64 (addR x y).2]) ∧ Below w.heap.size w w' := by
 have HA : Hid ((x.okB && y.okB) = false) := zz ha; have HR := zz (addR_bad ha); clear ha; obtain ⟨w3, hw3⟩ : ∃ w3, w3 = (((w.alloc (.cells #[.int .i64 x.c, .int .i64 x.r, .int .i64 x.d, .int .i64 x.p] 23)).alloc (.cells #[.int .i64 y.c, .int .i64 y.r, .int .i64 y.d, .int .i64 y.p] 23)).alloc (.cells #[.int .i64 0, .int .i64 0, .int .i64 0, .int .i64 0] 23)) := ⟨_, rfl⟩; obtain ⟨B, hB⟩ : ∃ B, B = w.heap.size := ⟨_, rfl⟩
 have B0 : Hid (Blk w3 B (amC x) 23) := zz (by
  have := ((Blk.made w (amC x) 23).alloc (.cells #[.int .i64 y.c, .int .i64 y.r, .int .i64 y.d, .int .i64 y.p] 23)).alloc (.cells #[.int .i64 0, .int .i64 0, .int .i64 0, .int .i64 0] 23)
  rw [hw3, hB]; exact this)
 have B1 : Hid (Blk w3 (B + 1) (amC y) 23) := zz (by
  have := (Blk.made (w.alloc (.cells #[.int .i64 x.c, .int .i64 x.r, .int .i64 x.d, .int .i64 x.p] 23)) (amC y) 23).alloc (.cells #[.int .i64 0, .int .i64 0, .int .i64 0, .int .i64 0] 23)
  rw [hw3, hB]; simpa using this)
 have B2 : Hid (Blk w3 (B + 1 + 1) (amC .zero) 23) := zz (by
  have := Blk.made ((w.alloc (.cells #[.int .i64 x.c, .int .i64 x.r, .int .i64 x.d, .int .i64 x.p] 23)).alloc (.cells #[.int .i64 y.c, .int .i64 y.r, .int .i64 y.d, .int .i64 y.p] 23)) (amC .zero) 23
  rw [hw3, hB]; simpa [Am.zero] using this)
 have HBL : Hid (Below w.heap.size w w3) := zz (by rw [hw3]; exact below_and (below_and (below_alloc w _) (below_alloc _ _)) (below_alloc _ _)); have HSZ : Hid (w3.heap.size = B + 3) := zz (by rw [hw3, hB]; simp); have HBW0 : Hid (w.heap.size ≤ B) := zz (by omega); obtain ⟨c0, c1, c2, c3⟩ := cl4 B0.o; obtain ⟨c4, c5, c6, c7⟩ := cl4 B1.o; go_enter Tryz.func79, Tryz.ntmps79; go_upto_region 1 with fail; rw [← hw3, ← hB]; clear hw3 hB; go_wp2_with (go_at_call 71; refine (wrong_two w3 x y).mono ?_; rw [HA.o]; rintro e ws ⟨rfl, hb⟩; have C0 := zz (B0.o.kept hb); have C1 := zz (B1.o.kept hb); have HBS := zz (below_and HBL.o hb); have HSS : Hid (B + 3 ≤ ws.heap.size) := zz (by have := hb.size; have := HSZ.o; omega); have hbr := B2.o.kept hb; have C2 := zz hbr; have r0 := hbr.cell (j := 0) rfl; have f0 := hbr.free 0; have r1 := hbr.cell (j := 1) rfl; have f1 := hbr.free 1; have r2 := hbr.cell (j := 2) rfl; have f2 := hbr.free 2; have r3 := hbr.cell (j := 3) rfl; have f3 := hbr.free 3; clear hb hbr; clear c0 c1 c2 c3 c4 c5 c6 c7; obtain ⟨c0, c1, c2, c3⟩ := cl4 C0.o; obtain ⟨c4, c5, c6, c7⟩ := cl4 C1.o)
 refine bodyPost_ret (results_row_tmp rfl _ _ (B + 1 + 1) 23 #[.int .i64 0, .int .i64 0, .int .i64 0, .int .i64 0] (0, 0) _ rfl ?_ Tryz.underlying23 rfl (by kernel_rfl)) rfl ⟨?_, ?_⟩
 ·exact (((C2.o.set 0 (.int .i64 0)).set 1 (.int .i64 0)).set 2 (.int .i64 0)).set 3 (.int .i64 0)
 ·first | rfl | (rw [HR.o]; rfl)
 ·have hBw : w.heap.size ≤ B + 1 + 1 := by have := HBW0.o; omega
  exact (((HBS.o.setCell (p := ⟨B + 1 + 1, 0, none⟩) hBw _).setCell (p := ⟨B + 1 + 1, 1, none⟩) hBw _).setCell (p := ⟨B + 1 + 1, 2, none⟩) hBw _).setCell (p := ⟨B + 1 + 1, 3, none⟩) hBw _
theorem radd_good (x y : Am) (w : World) (ha : (x.okB && y.okB) = true) :
  Calls Tryz.prog 79 #[amV x, amV y] w fun e w' => e = .returned (.tuple #[amV (addR x y).1, .int .i64 (addR x y).2]) ∧ Below w.heap.size w w' := by
 have HA : Hid ((x.okB && y.okB) = true) := zz ha; have HX : Hid (x.okB = true) := zz (by simp at ha; exact ha.1); have HY : Hid (y.okB = true) := zz (by simp at ha; exact ha.2); clear ha; obtain ⟨w3, hw3⟩ : ∃ w3, w3 = (((w.alloc (.cells #[.int .i64 x.c, .int .i64 x.r, .int .i64 x.d, .int .i64 x.p] 23)).alloc (.cells #[.int .i64 y.c, .int .i64 y.r, .int .i64 y.d, .int .i64 y.p] 23)).alloc (.cells #[.int .i64 0, .int .i64 0, .int .i64 0, .int .i64 0] 23)) := ⟨_, rfl⟩; obtain ⟨B, hB⟩ : ∃ B, B = w.heap.size := ⟨_, rfl⟩
 have B0 : Hid (Blk w3 B (amC x) 23) := zz (by
  have := ((Blk.made w (amC x) 23).alloc (.cells #[.int .i64 y.c, .int .i64 y.r, .int .i64 y.d, .int .i64 y.p] 23)).alloc (.cells #[.int .i64 0, .int .i64 0, .int .i64 0, .int .i64 0] 23)
  rw [hw3, hB]; exact this)
 have B1 : Hid (Blk w3 (B + 1) (amC y) 23) := zz (by
  have := (Blk.made (w.alloc (.cells #[.int .i64 x.c, .int .i64 x.r, .int .i64 x.d, .int .i64 x.p] 23)) (amC y) 23).alloc (.cells #[.int .i64 0, .int .i64 0, .int .i64 0, .int .i64 0] 23)
  rw [hw3, hB]; simpa using this)
 have B2 : Hid (Blk w3 (B + 1 + 1) (amC .zero) 23) := zz (by
  have := Blk.made ((w.alloc (.cells #[.int .i64 x.c, .int .i64 x.r, .int .i64 x.d, .int .i64 x.p] 23)).alloc (.cells #[.int .i64 y.c, .int .i64 y.r, .int .i64 y.d, .int .i64 y.p] 23)) (amC .zero) 23
  rw [hw3, hB]; simpa [Am.zero] using this)
 have HBL : Hid (Below w.heap.size w w3) := zz (by rw [hw3]; exact below_and (below_and (below_alloc w _) (below_alloc _ _)) (below_alloc _ _)); have HSZ : Hid (w3.heap.size = B + 3) := zz (by rw [hw3, hB]; simp); have HBW0 : Hid (w.heap.size ≤ B) := zz (by omega); obtain ⟨c0, c1, c2, c3⟩ := cl4 B0.o; obtain ⟨c4, c5, c6, c7⟩ := cl4 B1.o; go_enter Tryz.func79, Tryz.ntmps79; go_upto_region 1 with fail; rw [← hw3, ← hB]; clear hw3 hB; go_upto_region 3 with (first | (go_at_call 71; refine (wrong_two w3 x y).mono ?_; rw [HA.o]; rintro e ws ⟨rfl, hb⟩; have C0 := zz (B0.o.kept hb); have C1 := zz (B1.o.kept hb); have HBS := zz (below_and HBL.o hb); have HSS : Hid (B + 3 ≤ ws.heap.size) := zz (by have := hb.size; have := HSZ.o; omega); have hbr := B2.o.kept hb; have C2 := zz hbr; have r0 := hbr.cell (j := 0) rfl; have f0 := hbr.free 0; have r1 := hbr.cell (j := 1) rfl; have f1 := hbr.free 1; have r2 := hbr.cell (j := 2) rfl; have f2 := hbr.free 2; have r3 := hbr.cell (j := 3) rfl; have f3 := hbr.free 3; clear hb hbr; clear c0 c1 c2 c3 c4 c5 c6 c7; obtain ⟨c0, c1, c2, c3⟩ := cl4 C0.o; obtain ⟨c4, c5, c6, c7⟩ := cl4 C1.o))
 clear c0 c1 c2 c3 c4 c5 c6 c7 r0 r1 r2 r3 f0 f1 f2 f3
 go_cut [6, 7] (fun sa sb wx => TwoS ws.heap.size wx sa sb x y ∧ Below ws.heap.size ws wx)
 case first =>
  go_region_held3 (fun w' => w'.cell? ⟨B, 0, none⟩ = some (.int .i64 x.c) ∧ w'.cell? ⟨B, 1, none⟩ = some (.int .i64 x.r) ∧ w'.cell? ⟨B, 2, none⟩ = some (.int .i64 x.d) ∧ w'.cell? ⟨B, 3, none⟩ = some (.int .i64 x.p) ∧ w'.cell? ⟨B + 1, 0, none⟩ = some (.int .i64 y.c) ∧ w'.cell? ⟨B + 1, 1, none⟩ = some (.int .i64 y.r) ∧ w'.cell? ⟨B + 1, 2, none⟩ = some (.int .i64 y.d) ∧ w'.cell? ⟨B + 1, 3, none⟩ = some (.int .i64 y.p)) (refine eight (t := 23) (u := 23) ?_ ?_ <;> (repeat (first | exact C0.o | exact C1.o | apply Blk.drew | apply Blk.alloc)))
   (first | (go_at_call 60; refine (four_exact _ _).mono ?_; rintro e w1 ⟨rfl, rfl⟩))
  all_goals go_wp2_with fail
  all_goals go_meet
  all_goals refine ⟨⟨_, _, rfl, rfl, by first | omega | (simp; omega), by first | omega | (simp; omega), by first | omega | (simp; omega), ?_, ?_⟩, ?_⟩
  all_goals first
   | ((repeat (first | exact Below.refl _ _ | apply bl_drew | (refine bl_alloc _ ?_ (by simp <;> omega)))); done)
   | ((repeat (first | (refine Blk.made_at (cs := amC x) ?_; simp; done) | (refine Blk.made_at (cs := amC y) ?_; simp; done) | apply Blk.drew | apply Blk.alloc)); done)
 case rest =>
  obtain ⟨⟨g, h, rfl, rfl, hgh, hg, hh, hb1, hb2⟩, hbl⟩ := hcut; have HB1 := zz hb1; have HB2 := zz hb2; have HBW := zz hbl; have HGH := zz (show g ≠ h ∧ ws.heap.size ≤ g ∧ ws.heap.size ≤ h from ⟨hgh, hg, hh⟩); clear hb1 hb2 hbl hgh hg hh
  obtain ⟨z, hz⟩ : ∃ z : Am, z = .of fun k => x.get k + y.get k := ⟨_, rfl⟩
  have HZ : Hid (∀ k, k < 4 → z.get k = x.get k + y.get k) := zz (fun k hk => by rw [hz, Am.of_get _ k hk]); clear hz; go_wp2
  go_loopw [8] (fun i wc => ∃ k : Nat, k ≤ 4 ∧ i = .int .i64 (k : Int) ∧ Hid (Blk wc g (amC (Am.mix k x z)) 2) ∧ Hid (Blk wc h (amC y) 2) ∧ Hid (Below ws.heap.size ws wc) ∧ Hid (∀ j, j < k → x.get j + y.get j ≤ 1099511627776)) (fun i _ => 4 - (intOf i).toNat)
  case atStart => exact ⟨0, Nat.zero_le _, rfl, HB1, HB2, HBW, zz (fun j h => by omega)⟩
  case round =>
   obtain ⟨k, hk, rfl, HXa, HYa, HBx, HO⟩ := hrel
   by_cases hlt : k < 4
   ·have i0 : (0 : Int) ≤ (k : Int) := by omega
    have i1 : (k : Int) < 4 := by omega
    have hx := HXa.o.cell (Am.mix_get k hlt x z); have hy := HYa.o.cell (amC_get y hlt); have fx := HXa.o.free k; have hzk := HZ.o k hlt; have hnx := ((HXa.o.set k (.int .i64 (z.get k))).cell (j := k) (u := .int .i64 (z.get k)) (List.getElem?_set_self (by simpa using hlt))); obtain ⟨p, hp⟩ : ∃ p, p = x.get k := ⟨_, rfl⟩; obtain ⟨q, hq⟩ : ∃ q, q = y.get k := ⟨_, rfl⟩; have p0 : 0 ≤ p ∧ p ≤ 1099511627776 := by rw [hp]; exact ok_get HX.o hlt
    have q0 : 0 ≤ q ∧ q ≤ 1099511627776 := by rw [hq]; exact ok_get HY.o hlt
    obtain ⟨p1, p2⟩ := p0; obtain ⟨q1, q2⟩ := q0; rw [← hp] at hx; rw [← hq] at hy; rw [← hp, ← hq] at hzk; rw [hzk] at hnx; have HZK := zz hzk; have HPQ := zz (show p = x.get k ∧ q = y.get k from ⟨hp, hq⟩); have BR : Hid (Blk wr (B + 1 + 1) (amC .zero) 23) := zz (C2.o.kept HBx.o)
    have HNX : Hid (Blk (wr.setCell ⟨g, k, none⟩ (.int .i64 (p + q))) g (amC (Am.mix (k + 1) x z)) 2) := zz (by
     have := HXa.o.set k (.int .i64 (z.get k)); rw [Am.mix_set k hlt, hzk] at this
     exact this)
    have HNY : Hid (Blk (wr.setCell ⟨g, k, none⟩ (.int .i64 (p + q))) h (amC y) 2) := zz (HYa.o.other (Ne.symm HGH.o.1) _); have HNB : Hid (Below ws.heap.size ws (wr.setCell ⟨g, k, none⟩ (.int .i64 (p + q))).drew) := zz (bl_drew (HBx.o.setCell (p := ⟨g, k, none⟩) HGH.o.2.1 _)); have s1 : IntKind.i64.wrap (p + q) = p + q := by rw [IntKind.wrap_i64]; omega
    have s2 : wrap64 (p + q) = p + q := by unfold wrap64; omega
    clear hp hq hzk
    by_cases hov : 1099511627776 < p + q
    ·have HR := zz (addR_over (x := x) (y := y) (by rw [HX.o, HY.o]; rfl) hlt (by have := HPQ.o; omega))
     have hbr : Blk (wr.setCell ⟨g, k, none⟩ (.int .i64 (p + q))) (B + 1 + 1) (amC .zero) 23 := BR.o.other (by have := HGH.o; have := HSS.o; first | omega | (simp; omega)) _; have r0 := hbr.cell (j := 0) rfl; have f0 := hbr.free 0; have r1 := hbr.cell (j := 1) rfl; have f1 := hbr.free 1; have r2 := hbr.cell (j := 2) rfl; have f2 := hbr.free 2; have r3 := hbr.cell (j := 3) rfl; have f3 := hbr.free 3; have BRS := zz hbr; clear hbr; go_wp2
     go_region
     all_goals go_wp2
     refine bodyPost_ret (results_row_tmp rfl _ _ (B + 1 + 1) 23 #[.int .i64 0, .int .i64 0, .int .i64 0, .int .i64 0] (0, 0) _ rfl ?_ Tryz.underlying23 rfl (by kernel_rfl)) rfl ⟨?_, ?_⟩
     ·exact (((BRS.o.set 0 (.int .i64 0)).set 1 (.int .i64 0)).set 2 (.int .i64 0)).set 3 (.int .i64 0)
     ·first | rfl | (rw [HR.o]; rfl)
     ·have hBw : w.heap.size ≤ B + 1 + 1 := by have := HBW0.o; omega
      exact ((((below_and HBS.o HNB.o).setCell (p := ⟨B + 1 + 1, 0, none⟩) hBw _).setCell (p := ⟨B + 1 + 1, 1, none⟩) hBw _).setCell (p := ⟨B + 1 + 1, 2, none⟩) hBw _).setCell (p := ⟨B + 1 + 1, 3, none⟩) hBw _
    ·have hd : decide (1099511627776 < p + q) = false := by simpa using hov
     have HO2 : Hid (∀ j, j < k + 1 → x.get j + y.get j ≤ 1099511627776) := zz (fun j hj => by
      by_cases h : j < k
      ·exact HO.o j h
      ·obtain rfl : j = k := by omega
       have := HPQ.o; omega)
     go_wp2
     go_region
     all_goals go_wp2
     go_roundw
     case rel => exact ⟨k + 1, by omega, by go_num, HNX, HNY, HNB, HO2⟩
     case measure => simp [intOf]; omega
   ·obtain rfl : k = 4 := by omega
    have HR := zz (addR_ok (x := x) (y := y) (z := z) (by rw [HX.o, HY.o]; rfl) HO.o HZ.o); have HX4 : Hid (Blk wr g (amC z) 2) := HXa; have BR : Hid (Blk wr (B + 1 + 1) (amC .zero) 23) := zz (C2.o.kept HBx.o); go_wp2_with (go_at_call 72; refine (of_any g z _ HX4.o).mono ?_; rintro e w5 ⟨rfl, hb⟩; have hbr := BR.o.kept hb; have r0 := hbr.cell (j := 0) rfl; have f0 := hbr.free 0; have r1 := hbr.cell (j := 1) rfl; have f1 := hbr.free 1; have r2 := hbr.cell (j := 2) rfl; have f2 := hbr.free 2; have r3 := hbr.cell (j := 3) rfl; have f3 := hbr.free 3; have BR5 := zz hbr; have HB5 := zz (below_and HBS.o (below_and HBx.o hb)); clear hb hbr); refine bodyPost_ret (results_row_tmp rfl _ _ (B + 1 + 1) 23 #[.int .i64 z.c, .int .i64 z.r, .int .i64 z.d, .int .i64 z.p] (0, 0) _ rfl ?_ Tryz.underlying23 rfl (by kernel_rfl)) rfl ⟨?_, ?_⟩
    ·exact (((BR5.o.set 0 (.int .i64 z.c)).set 1 (.int .i64 z.r)).set 2 (.int .i64 z.d)).set 3 (.int .i64 z.p)
    ·first | rfl | (rw [HR.o]; rfl)
    ·have hBw : w.heap.size ≤ B + 1 + 1 := by have := HBW0.o; omega
     exact (((HB5.o.setCell (p := ⟨B + 1 + 1, 0, none⟩) hBw _).setCell (p := ⟨B + 1 + 1, 1, none⟩) hBw _).setCell (p := ⟨B + 1 + 1, 2, none⟩) hBw _).setCell (p := ⟨B + 1 + 1, 3, none⟩) hBw _
theorem radd_any (x y : Am) (w : World) :
  Calls Tryz.prog 79 #[amV x, amV y] w fun e w' => e = .returned (.tuple #[amV (addR x y).1, .int .i64 (addR x y).2]) ∧ Below w.heap.size w w' := by
 cases h : x.okB && y.okB
 ·exact radd_bad x y w h
 ·exact radd_good x y w h
def Eight (b0 o0 b1 o1 : Nat) (a x : Am) (w : World) : Prop := w.cell? ⟨b0, o0, none⟩ = some (.int .i64 a.c) ∧ w.cell? ⟨b0, o0 + 1, none⟩ = some (.int .i64 a.r) ∧ w.cell? ⟨b0, o0 + 2, none⟩ = some (.int .i64 a.d) ∧ w.cell? ⟨b0, o0 + 3, none⟩ = some (.int .i64 a.p) ∧ w.cell? ⟨b1, o1, none⟩ = some (.int .i64 x.c) ∧ w.cell? ⟨b1, o1 + 1, none⟩ = some (.int .i64 x.r) ∧ w.cell? ⟨b1, o1 + 2, none⟩ = some (.int .i64 x.d) ∧ w.cell? ⟨b1, o1 + 3, none⟩ = some (.int .i64 x.p)
theorem Eight.kept {b0 o0 b1 o1 : Nat} {a x : Am} {w w' : World} (h : Eight b0 o0 b1 o1 a x w) (hb : Below w.heap.size w w') : Eight b0 o0 b1 o1 a x w' :=
  ⟨cell_kept h.1 hb, cell_kept h.2.1 hb, cell_kept h.2.2.1 hb, cell_kept h.2.2.2.1 hb, cell_kept h.2.2.2.2.1 hb, cell_kept h.2.2.2.2.2.1 hb, cell_kept h.2.2.2.2.2.2.1 hb, cell_kept h.2.2.2.2.2.2.2 hb⟩
theorem bel_set4 {n : Nat} {a w : World} {k : Nat} {p q r s : Value} (h : Below n a w) (hk : n ≤ k) : Below n a ((((w.setCell ⟨k, 0, none⟩ p).setCell ⟨k, 1, none⟩ q).setCell ⟨k, 2, none⟩ r).setCell ⟨k, 3, none⟩ s) :=
  (((h.setCell (p := ⟨k, 0, none⟩) hk _).setCell (p := ⟨k, 1, none⟩) hk _).setCell (p := ⟨k, 2, none⟩) hk _).setCell (p := ⟨k, 3, none⟩) hk _
theorem radd_val (a x z : Am) (er : Int) (w : World) (h : addR a x = (z, er)) :
    Calls Tryz.prog 79 #[amV a, amV x] w fun e w' => e = .returned (.tuple #[amV z, .int .i64 er]) ∧ Below w.heap.size w w' :=
  (radd_any a x w).mono fun e w' ⟨h1, h2⟩ => ⟨by rw [h1, h], h2⟩
theorem rsum_any (v : Value) (xs : List Am) (w : World) (h : Ams w v xs) :
    Calls Tryz.prog 70 #[v] w fun e w' => e = .returned (.tuple #[amV (sumR xs).1, .int .i64 (sumR xs).2]) ∧ Below w.heap.size w w' := by
  obtain ⟨p, c, rfl, hc, hm⟩ := h.shape; have hml : maxLen ≤ 9223372036854775807 := by decide
  obtain ⟨w3, hw3⟩ : ∃ w3, w3 = w.alloc (.cells #[.int .i64 0, .int .i64 0, .int .i64 0, .int .i64 0] 23) := ⟨_, rfl⟩; obtain ⟨B, hB⟩ : ∃ B, B = w.heap.size := ⟨_, rfl⟩; have B2 : Hid (Blk w3 B (amC .zero) 23) := zz (by rw [hw3, hB]; exact Blk.made w (amC .zero) _); have HBL : Hid (Below w.heap.size w w3) := zz (by rw [hw3]; exact below_alloc w _); have HBW0 : Hid (w.heap.size ≤ B) := zz (by omega); have H3 : Hid (Ams w3 (.slice p xs.length c) xs) := zz (h.below HBL.o); clear h; cases hq : allB xs
  · have HQ := zz hq
    have HR : Hid (sumR xs = (.zero, 2)) := zz (by unfold sumR; rw [if_pos hq]); clear hq; go_enter Tryz.func70, Tryz.ntmps70; go_upto_region 1 with fail; rw [← hw3, ← hB]; clear hw3 hB; go_wp2_with (go_at_call 71; refine (wrong_any _ xs _ H3.o).mono ?_; rw [HQ.o]; rintro e ws ⟨rfl, hb⟩; have hbr := B2.o.kept hb; have C2 := zz hbr; have HBS := zz (below_and HBL.o hb); obtain ⟨r0, r1, r2, r3⟩ := cl4 hbr; obtain ⟨f0, f1, f2, f3⟩ := fz4 hbr; clear hb hbr); refine bodyPost_ret (results_row_tmp rfl _ _ B 23 #[.int .i64 0, .int .i64 0, .int .i64 0, .int .i64 0] (0, 0) _ rfl ?_ Tryz.underlying23 rfl (by kernel_rfl)) rfl ⟨?_, ?_⟩
    · exact (((C2.o.set 0 (.int .i64 0)).set 1 (.int .i64 0)).set 2 (.int .i64 0)).set 3 (.int .i64 0)
    · rw [HR.o]; rfl
    · have hBw : w.heap.size ≤ B := HBW0.o
      exact (((HBS.o.setCell (p := ⟨B, 0, none⟩) hBw _).setCell (p := ⟨B, 1, none⟩) hBw _).setCell (p := ⟨B, 2, none⟩) hBw _).setCell (p := ⟨B, 3, none⟩) hBw _
  · have HQ := zz hq
    have HR : Hid (sumR xs = sumF .zero xs) := zz (by unfold sumR; rw [if_neg (by rw [hq]; decide)]); clear hq; go_enter Tryz.func70, Tryz.ntmps70; go_upto_region 1 with fail; rw [← hw3, ← hB]; clear hw3 hB; go_upto_region 4 with (go_at_call 71; refine (wrong_any _ xs _ H3.o).mono ?_; rw [HQ.o]; rintro e ws ⟨rfl, hb⟩; have C2 := zz (B2.o.kept hb); have HS := zz (H3.o.below hb); have HBS := zz (below_and HBL.o hb); clear hb); obtain ⟨wb, hwb⟩ : ∃ wb, wb = ws.alloc (.cells #[.int .i64 0, .int .i64 0, .int .i64 0, .int .i64 0] 23) := ⟨_, rfl⟩; obtain ⟨g, hg⟩ : ∃ g, g = ws.heap.size := ⟨_, rfl⟩; have HG : Hid (Blk wb g (amC .zero) 23) := zz (by rw [hwb, hg]; exact Blk.made ws (amC .zero) _); have HBB : Hid (Below ws.heap.size ws wb) := zz (by rw [hwb]; exact below_alloc _ _); have HGS : Hid (ws.heap.size ≤ g) := zz (by omega); rw [← hwb, ← hg]; clear hwb hg; go_wp2
    go_loopw [5] (fun i wc => ∃ (k : Nat) (a : Am), k ≤ xs.length ∧ i = .int .i64 (k : Int) ∧ Hid (Blk wc g (amC a) 23) ∧ Hid (Below ws.heap.size ws wc) ∧ Hid (sumF .zero xs = sumF a (xs.drop k))) (fun i _ => xs.length - (intOf i).toNat)
    case atStart => exact ⟨0, .zero, Nat.zero_le _, rfl, HG, HBB, zz (by simp)⟩
    case round =>
      obtain ⟨k, a, hk, rfl, HA, HBx, HF⟩ := hrel
      by_cases hlt : k < xs.length
      · obtain ⟨b, o, rfl, e0, e1, e2, e3⟩ := (HS.o.below HBx.o).amAt hlt
        obtain ⟨x, hx⟩ : ∃ x, x = xs[k] := ⟨_, rfl⟩; rw [← hx] at e0 e1 e2 e3; have HE : Hid (Eight g 0 b (o + k * 4) a x wr) := zz ⟨HA.o.cell (j := 0) rfl, HA.o.cell (j := 1) rfl, HA.o.cell (j := 2) rfl, HA.o.cell (j := 3) rfl, e0, e1, e2, e3⟩; have HF2 : Hid (sumF .zero xs = sumF a (x :: xs.drop (k + 1))) := zz (by rw [HF.o, List.drop_eq_getElem_cons hlt, hx]); obtain ⟨z, er, hz⟩ : ∃ z er, addR a x = (z, er) := ⟨_, _, rfl⟩; have HZ := zz hz; clear hx e0 e1 e2 e3; go_wp2
        go_cut [6, 7] (fun s6 s7 wx => ∃ q, s6 = ptr q ∧ s7 = .int .i64 er ∧ wr.heap.size ≤ q ∧ Blk wx q (amC z) 23 ∧ Below wr.heap.size wr wx)
        case first =>
          clear hz
          go_region_held3 (fun w' => w'.cell? ⟨g, 0, none⟩ = some (.int .i64 a.c) ∧ w'.cell? ⟨g, 1, none⟩ = some (.int .i64 a.r) ∧ w'.cell? ⟨g, 2, none⟩ = some (.int .i64 a.d) ∧ w'.cell? ⟨g, 3, none⟩ = some (.int .i64 a.p) ∧ w'.cell? ⟨b, o + k * 4, none⟩ = some (.int .i64 x.c) ∧ w'.cell? ⟨b, o + k * 4 + 1, none⟩ = some (.int .i64 x.r) ∧ w'.cell? ⟨b, o + k * 4 + 2, none⟩ = some (.int .i64 x.d) ∧ w'.cell? ⟨b, o + k * 4 + 3, none⟩ = some (.int .i64 x.p))
            (refine HE.o.kept ?_ <;> (repeat (first | exact Below.refl _ _ | exact HB6.o | apply bl_drew | (refine below_and ?_ (below_alloc _ _)) | (refine bel_set4 ?_ (Nat.le_refl _)))))
            (first | (go_at_call 79; refine (radd_val a x z er _ HZ.o).mono ?_; rintro e w6 ⟨rfl, hb⟩; have HB6 : Hid (Below wr.heap.size wr w6) := zz (by refine below_and ?_ hb; (repeat (first | exact Below.refl _ _ | apply bl_drew | (refine below_and ?_ (below_alloc _ _))))); (first | (have hq : Blk w6 wr.heap.size (amC .zero) 23 := (Blk.made wr.drew (amC .zero) 23).kept hb; have HQ6 := zz hq; obtain ⟨q0, q1, q2, q3⟩ := cl4 hq; obtain ⟨p0, p1, p2, p3⟩ := fz4 hq; clear hq) | skip); clear hb))
          all_goals go_wp2_with fail
          all_goals go_meet
          all_goals first
            | (refine ⟨_, rfl, rfl, Nat.le_refl _, ?_, ?_⟩
               · exact (((HQ6.o.set 0 (.int .i64 z.c)).set 1 (.int .i64 z.r)).set 2 (.int .i64 z.d)).set 3 (.int .i64 z.p)
               · exact (((HB6.o.setCell (p := ⟨wr.heap.size, 0, none⟩) (Nat.le_refl _) _).setCell (p := ⟨wr.heap.size, 1, none⟩) (Nat.le_refl _) _).setCell (p := ⟨wr.heap.size, 2, none⟩) (Nat.le_refl _) _).setCell (p := ⟨wr.heap.size, 3, none⟩) (Nat.le_refl _) _)
            | (refine ⟨_, rfl, rfl, HB6.o.size, ?_, ?_⟩
               · exact Blk.made w6 (amC z) _
               · exact below_and HB6.o (below_alloc _ _))
            | trace_state
        case rest =>
        obtain ⟨q, rfl, rfl, hq, hbq, hb⟩ := hcut; have HQB := zz hbq; have HQ0 := zz hq; have HBQ := zz hb; obtain ⟨z0, z1, z2, z3⟩ := cl4 hbq
        by_cases her : er = 0
        · subst her
          have HF3 : Hid (sumF .zero xs = sumF z (xs.drop (k + 1))) := zz (by rw [HF2.o]; show (if (addR a x).2 = 0 then _ else _) = _; rw [hz]; rfl); have hg6 := HA.o.kept hb; have HG6 := zz hg6; obtain ⟨r0, r1, r2, r3⟩ := cl4 hg6; obtain ⟨f0, f1, f2, f3⟩ := fz4 hg6; have HB6 := zz (below_and HBx.o hb); clear hz hg6 hb hbq hq; go_wp2; go_roundw
          case rel => exact ⟨k + 1, z, hlt, by go_num, zz ((((HG6.o.set 0 (.int .i64 z.c)).set 1 (.int .i64 z.r)).set 2 (.int .i64 z.d)).set 3 (.int .i64 z.p)), zz ((((HB6.o.setCell (p := ⟨g, 0, none⟩) HGS.o _).setCell (p := ⟨g, 1, none⟩) HGS.o _).setCell (p := ⟨g, 2, none⟩) HGS.o _).setCell (p := ⟨g, 3, none⟩) HGS.o _), HF3⟩
          case measure => simp [intOf]; omega
        · have t1 : (er == 0) = false := by simpa using her
          have HF3 : Hid (sumF .zero xs = (.zero, er)) := zz (by rw [HF2.o]; show (if (addR a x).2 = 0 then _ else _) = _; rw [hz]; exact if_neg her); have hg6 := C2.o.kept (below_and HBx.o hb); have HG6 := zz hg6; obtain ⟨r0, r1, r2, r3⟩ := cl4 hg6; obtain ⟨f0, f1, f2, f3⟩ := fz4 hg6; have HB6 := zz (below_and HBS.o (below_and HBx.o hb)); clear hz her hg6 hb hbq hq; go_wp2; refine bodyPost_ret (results_row_tmp rfl _ _ B 23 #[.int .i64 0, .int .i64 0, .int .i64 0, .int .i64 0] (0, 0) _ rfl ?_ Tryz.underlying23 rfl (by kernel_rfl)) rfl ⟨?_, ?_⟩
          · exact (((HG6.o.set 0 (.int .i64 0)).set 1 (.int .i64 0)).set 2 (.int .i64 0)).set 3 (.int .i64 0)
          · rw [HR.o, HF3.o]; rfl
          · have hBw : w.heap.size ≤ B := HBW0.o
            exact (((HB6.o.setCell (p := ⟨B, 0, none⟩) hBw _).setCell (p := ⟨B, 1, none⟩) hBw _).setCell (p := ⟨B, 2, none⟩) hBw _).setCell (p := ⟨B, 3, none⟩) hBw _
      · obtain rfl : k = xs.length := by omega
        have HF3 : Hid (sumF .zero xs = (a, 0)) := zz (by rw [HF.o, List.drop_length]; rfl); obtain ⟨a0, a1, a2, a3⟩ := cl4 HA.o; have hbr := C2.o.kept HBx.o; obtain ⟨r0, r1, r2, r3⟩ := cl4 hbr; obtain ⟨f0, f1, f2, f3⟩ := fz4 hbr; have HB5 := zz (below_and HBS.o HBx.o); have BR5 := zz hbr; clear hbr; go_wp2; refine bodyPost_ret (results_row_tmp rfl _ _ B 23 #[.int .i64 a.c, .int .i64 a.r, .int .i64 a.d, .int .i64 a.p] (0, 0) _ rfl ?_ Tryz.underlying23 rfl (by kernel_rfl)) rfl ⟨?_, ?_⟩
        · exact (((BR5.o.set 0 (.int .i64 a.c)).set 1 (.int .i64 a.r)).set 2 (.int .i64 a.d)).set 3 (.int .i64 a.p)
        · rw [HR.o, HF3.o]; rfl
        · have hBw : w.heap.size ≤ B := HBW0.o
          exact (((HB5.o.setCell (p := ⟨B, 0, none⟩) hBw _).setCell (p := ⟨B, 1, none⟩) hBw _).setCell (p := ⟨B, 2, none⟩) hBw _).setCell (p := ⟨B, 3, none⟩) hBw _
theorem rfits_any (x y : Am) (w : World) :
  Calls Tryz.prog 62 #[amV x, amV y] w fun e w' => e = .returned (.bool (fitsB x y)) ∧ Below w.heap.size w w' := by
 obtain ⟨w3, hw3⟩ : ∃ w3, w3 = ((w.alloc (.cells #[.int .i64 x.c, .int .i64 x.r, .int .i64 x.d, .int .i64 x.p] 23)).alloc (.cells #[.int .i64 y.c, .int .i64 y.r, .int .i64 y.d, .int .i64 y.p] 23)) := ⟨_, rfl⟩; obtain ⟨B, hB⟩ : ∃ B, B = w.heap.size := ⟨_, rfl⟩
 have B0 : Hid (Blk w3 B (amC x) 23) := zz (by
  have := (Blk.made w (amC x) 23).alloc (.cells #[.int .i64 y.c, .int .i64 y.r, .int .i64 y.d, .int .i64 y.p] 23)
  rw [hw3, hB]; exact this)
 have B1 : Hid (Blk w3 (B + 1) (amC y) 23) := zz (by
  have := Blk.made (w.alloc (.cells #[.int .i64 x.c, .int .i64 x.r, .int .i64 x.d, .int .i64 x.p] 23)) (amC y) 23
  rw [hw3, hB]; simpa using this)
 have HBL : Hid (Below w.heap.size w w3) := zz (by rw [hw3]; exact below_and (below_alloc w _) (below_alloc _ _)); have HSZ : Hid (w3.heap.size = B + 2) := zz (by rw [hw3, hB]; simp); have HBW0 : Hid (w.heap.size ≤ B) := zz (by omega); go_enter Tryz.func62, Tryz.ntmps62; go_upto_region 1 with fail; rw [← hw3, ← hB]; clear hw3 hB
 go_cut [5, 6] (fun sa sb wx => TwoS w3.heap.size wx sa sb x y ∧ Below w3.heap.size w3 wx)
 case first =>
  go_region_held3 (fun w' => w'.cell? ⟨B, 0, none⟩ = some (.int .i64 x.c) ∧ w'.cell? ⟨B, 1, none⟩ = some (.int .i64 x.r) ∧ w'.cell? ⟨B, 2, none⟩ = some (.int .i64 x.d) ∧ w'.cell? ⟨B, 3, none⟩ = some (.int .i64 x.p) ∧ w'.cell? ⟨B + 1, 0, none⟩ = some (.int .i64 y.c) ∧ w'.cell? ⟨B + 1, 1, none⟩ = some (.int .i64 y.r) ∧ w'.cell? ⟨B + 1, 2, none⟩ = some (.int .i64 y.d) ∧ w'.cell? ⟨B + 1, 3, none⟩ = some (.int .i64 y.p)) (refine eight (t := 23) (u := 23) ?_ ?_ <;> (repeat (first | exact B0.o | exact B1.o | apply Blk.drew | apply Blk.alloc)))
   (first | (go_at_call 60; refine (four_exact _ _).mono ?_; rintro e w1 ⟨rfl, rfl⟩))
  all_goals go_wp2_with fail
  all_goals go_meet
  all_goals refine ⟨⟨_, _, rfl, rfl, by first | omega | (simp; omega), by first | omega | (simp; omega), by first | omega | (simp; omega), ?_, ?_⟩, ?_⟩
  all_goals first
   | ((repeat (first | exact Below.refl _ _ | apply bl_drew | (refine bl_alloc _ ?_ (by simp <;> omega)))); done)
   | ((repeat (first | (refine Blk.made_at (cs := amC x) ?_; simp; done) | (refine Blk.made_at (cs := amC y) ?_; simp; done) | apply Blk.drew | apply Blk.alloc)); done)
 case rest =>
  obtain ⟨⟨g, h, rfl, rfl, hgh, hg, hh, hb1, hb2⟩, hbl⟩ := hcut; have HB1 := zz hb1; have HB2 := zz hb2; have HBW := zz hbl; have HGH := zz (show g ≠ h ∧ w3.heap.size ≤ g ∧ w3.heap.size ≤ h from ⟨hgh, hg, hh⟩); clear hb1 hb2 hbl hgh hg hh; go_wp2
  go_loopw [7] (fun i wc => ∃ k : Nat, k ≤ 4 ∧ i = .int .i64 (k : Int) ∧ Hid (∀ j, j < k → x.get j ≤ y.get j) ∧ Hid (Below w3.heap.size w3 wc) ∧ Hid (Blk wc g (amC x) 2) ∧ Hid (Blk wc h (amC y) 2)) (fun i _ => 4 - (intOf i).toNat)
  case atStart => exact ⟨0, Nat.zero_le _, rfl, zz (fun j h => by omega), HBW, HB1, HB2⟩
  case round =>
   obtain ⟨k, hk, rfl, HAx, HBx, HXa, HYa⟩ := hrel
   by_cases hlt : k < 4
   ·have i0 : (0 : Int) ≤ (k : Int) := by omega
    have i1 : (k : Int) < 4 := by omega
    have hx := HXa.o.cell (amC_get x hlt); have hy := HYa.o.cell (amC_get y hlt); obtain ⟨p, hp⟩ : ∃ p, p = x.get k := ⟨_, rfl⟩; obtain ⟨q, hq⟩ : ∃ q, q = y.get k := ⟨_, rfl⟩; rw [← hp] at hx; rw [← hq] at hy; have HPQ := zz (show p = x.get k ∧ q = y.get k from ⟨hp, hq⟩); clear hp hq
    by_cases hov : q < p
    ·have HN : Hid (fitsB x y = false) := zz (by unfold fitsB; rw [any4_yes hlt (by have := HPQ.o; simp only [decide_eq_true_eq]; omega)]; rfl)
     go_wp2
     go_quiet (fail)
     go_wp2; go_ret; exact ⟨ret_bool HN.o.symm, below_and HBL.o (below_and HBx.o (below_drewN nq))⟩
    ·have hd : decide (q < p) = false := by simpa using hov
     have HA2 : Hid (∀ j, j < k + 1 → x.get j ≤ y.get j) := zz (fun j hj => by
      by_cases h : j < k
      ·exact HAx.o j h
      ·obtain rfl : j = k := by omega
       have := HPQ.o; omega)
     go_wp2
     go_quiet (fail)
     go_wp2; go_roundw
     case rel => exact ⟨k + 1, by omega, by go_num, HA2, zz (below_and HBx.o (below_drewN nq)), zz (HXa.o.kept (below_drewN nq)), zz (HYa.o.kept (below_drewN nq))⟩
     case measure => simp [intOf]; omega
   ·obtain rfl : k = 4 := by omega
    have HN : Hid (fitsB x y = true) := zz (by unfold fitsB; rw [any4_no (fun j hj => by have := HAx.o j hj; simpa using this)]; rfl); go_wp2; go_ret; exact ⟨ret_bool HN.o.symm, below_and HBL.o HBx.o⟩
