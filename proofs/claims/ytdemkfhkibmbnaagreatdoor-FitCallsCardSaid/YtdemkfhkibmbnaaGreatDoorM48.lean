/- FdOpen, FtMach, FtLives, RuSame. -/
import Derived.Test.YtdemkfhkibmbnaaGreatDoorM47
import Derived.Test.YtdemkfhkibmbnaaGreatDoorM46
set_option maxRecDepth 100000
set_option maxHeartbeats 8000000
namespace Go.Proofs.YtdemkfhkibmbnaaGreatDoor.Ft
open Go.RowKit Go.Proofs.YtdemkfhkibmbnaaGreatDoor Go.Proofs.YtdemkfhkibmbnaaGreatDoor.Ru
theorem us_ofR {x : List Value} (h : LeavG (FieldB Tryz.prog) [9, 3, 3, 2, 2, 2, 2, 9, 4] x) : ∃ u : Us, x = usC u ∧ UsOk u ∧ u.j.length ≤ 140737488351232 := by
 obtain ⟨hl, hf⟩ := h
 match x, hl with
 | [a, b, c, d, e, f, g, i, j], _ =>
  obtain ⟨a, rfl, ha⟩ := str_ofR (hf 0 _ rfl) Tryz.underlying9; obtain ⟨b, rfl, hb⟩ := (hf 1 _ rfl).1.int Tryz.underlying3; obtain ⟨c, rfl, -⟩ := i64_ofR (hf 2 _ rfl) Tryz.underlying3; obtain ⟨d, rfl, -⟩ := i64_ofR (hf 3 _ rfl) Tryz.underlying2; obtain ⟨e, rfl, -⟩ := i64_ofR (hf 4 _ rfl) Tryz.underlying2; obtain ⟨f, rfl, -⟩ := i64_ofR (hf 5 _ rfl) Tryz.underlying2; obtain ⟨g, rfl, -⟩ := i64_ofR (hf 6 _ rfl) Tryz.underlying2; obtain ⟨i, rfl, -⟩ := str_ofR (hf 7 _ rfl) Tryz.underlying9; obtain ⟨j, rfl⟩ := (hf 8 _ rfl).1.bool Tryz.underlying4; exact ⟨⟨a, b, c, ⟨d, e, f, g⟩, i, j⟩, rfl, ⟨by simp only; omega, hb⟩, ha⟩
theorem leafq_plainR {P : Program} {W : World} {t : TypeId} {v : Value} (h : LeafQ P W t v) (hp : plainType P t = true) : FieldB P t v := by
 rcases h with h | ⟨e, k, zs, h1, -⟩
 ·exact h
 ·unfold plainType at hp; rw [h1] at hp; cases hp
theorem need_ofR {W : World} {x : List Value} (h : LeavG (LeafQ Tryz.prog W) [9, 3, 2, 2, 2, 2, 24, 9] x) : ∃ (N : Ne) (vl : Value), x = neC N vl ∧ Nds W N vl ∧ NeOk N ∧ NeB N ∧ N.L.length * 64 ≤ 140737488351232 := by
 obtain ⟨hl, hf⟩ := h
 match x, hl with
 | [a, b, c, d, e, f, v, j], _ =>
  obtain ⟨a, rfl, ha⟩ := str_ofR (leafq_plainR (hf 0 _ rfl) (by kernel_rfl)) Tryz.underlying9; obtain ⟨b, rfl, -⟩ := i64_ofR (leafq_plainR (hf 1 _ rfl) (by kernel_rfl)) Tryz.underlying3; obtain ⟨c, rfl, -⟩ := i64_ofR (leafq_plainR (hf 2 _ rfl) (by kernel_rfl)) Tryz.underlying2; obtain ⟨d, rfl, -⟩ := i64_ofR (leafq_plainR (hf 3 _ rfl) (by kernel_rfl)) Tryz.underlying2; obtain ⟨e, rfl, -⟩ := i64_ofR (leafq_plainR (hf 4 _ rfl) (by kernel_rfl)) Tryz.underlying2; obtain ⟨f, rfl, -⟩ := i64_ofR (leafq_plainR (hf 5 _ rfl) (by kernel_rfl)) Tryz.underlying2; obtain ⟨L, hL, hQ, hB⟩ := rows_qR (hf 6 _ rfl) Tryz.underlying24 (ls := [3, 9, 9, 2, 3, 3]) (by kernel_rfl) (fun x hx => nd_ofR hx); obtain ⟨j, rfl, hj⟩ := str_ofR (leafq_plainR (hf 7 _ rfl) (by kernel_rfl)) Tryz.underlying9; rw [show Tryz.prog.bytesOf 69 = 64 from by kernel_rfl] at hB; exact ⟨⟨a, b, ⟨c, d, e, f⟩, L, j⟩, v, rfl, hL, ⟨fun n hn => (hQ n hn).1⟩, ⟨ha, hj, fun n hn => (hQ n hn).2⟩, hB⟩
theorem view_ofR {W : World} {x : List Value} (h : LeavG (LeafQ Tryz.prog W) [9, 29, 2, 2, 2, 2, 4, 30] x) : ∃ (V : Vw) (va vu : Value), x = vwC V va vu ∧ Vws W V va vu ∧ (V.us.length ≤ 1000 → VwOk V ∧ VwB V) ∧ V.at'.length * 32 ≤ 140737488351232 := by
 obtain ⟨hl, hf⟩ := h
 match x, hl with
 | [a, v, c, d, e, f, j, u], _ =>
  obtain ⟨a, rfl, ha⟩ := str_ofR (leafq_plainR (hf 0 _ rfl) (by kernel_rfl)) Tryz.underlying9; obtain ⟨L, hL, hQ, hB⟩ := rows_qR (hf 1 _ rfl) Tryz.underlying29 (ls := [9, 9]) (by kernel_rfl) (fun x hx => at_ofR hx); obtain ⟨c, rfl, -⟩ := i64_ofR (leafq_plainR (hf 2 _ rfl) (by kernel_rfl)) Tryz.underlying2; obtain ⟨d, rfl, -⟩ := i64_ofR (leafq_plainR (hf 3 _ rfl) (by kernel_rfl)) Tryz.underlying2; obtain ⟨e, rfl, -⟩ := i64_ofR (leafq_plainR (hf 4 _ rfl) (by kernel_rfl)) Tryz.underlying2; obtain ⟨f, rfl, -⟩ := i64_ofR (leafq_plainR (hf 5 _ rfl) (by kernel_rfl)) Tryz.underlying2; obtain ⟨j, rfl⟩ := (leafq_plainR (hf 6 _ rfl) (by kernel_rfl)).1.bool Tryz.underlying4; obtain ⟨M, hM, hR, -⟩ := rows_qR (hf 7 _ rfl) Tryz.underlying30 (ls := [9, 3, 3, 2, 2, 2, 2, 9, 4]) (by kernel_rfl) (fun x hx => us_ofR hx); rw [show Tryz.prog.bytesOf 81 = 32 from by kernel_rfl] at hB; exact ⟨⟨a, L, ⟨c, d, e, f⟩, j, M⟩, v, u, rfl, ⟨hL, hM⟩, fun h60 => ⟨⟨h60, fun u hu => (hR u hu).1, by simp only; omega, fun a h => by have := (hQ a h).2; omega⟩, ⟨h60, fun u hu => (hR u hu).2, ha, hQ⟩⟩, hB⟩
def needP (b c : Int) : Ne := ⟨[120], b, ⟨c, 0, 0, 0⟩, anyL, []⟩
def machP : Vw := ⟨[109], [⟨[97, 114, 99, 104], [120, 56, 54]⟩], ⟨10, 0, 0, 0⟩, true, [⟨[97], 0, 1, ⟨6, 0, 0, 0⟩, [], false⟩, ⟨[98], 0, 2, ⟨2, 0, 0, 0⟩, [], false⟩]⟩
theorem anyRule_any (w : World) :
  Calls Tryz.prog 51 #[] w fun r w' => ∃ q c, r = .returned (.agg #[.slice q 1 c]) ∧ OwnN w' w.heap.size (.slice q 1 c) anyL ∧ Below w.heap.size w w' := by
 obtain ⟨X, hX⟩ : ∃ X, X = w.heap.size := ⟨_, rfl⟩; go_enter Tryz.func51, Tryz.ntmps51; go_upto_region 1 with fail
 refine at_hide (F := fun w' => Blk w' X [.slice none 0 0] 26 ∧ Below w.heap.size w w' ∧ w'.heap.size = X + 1) ⟨by
  rw [hX]; exact Blk.made w [_] _, below_alloc _ _, by rw [hX]; simp⟩ ?_
 intro w1 hF; rw [← hX]; have HX1 := zz hF.1; have HB1 : Hid (Below w.heap.size w w1) := zz hF.2.1; have HZ1 := zz hF.2.2; have HXW : Hid (w.heap.size ≤ X) := zz (by omega); have HO1 : Hid (OwnN (w1.alloc (.cells #[.int .i64 1, .string ⟨#[]⟩, .string ⟨#[]⟩, .int .i64 0, .int .i64 (-1), .int .i64 (-1)] 69)) w1.heap.size (.slice (some ⟨w1.heap.size, 0, none⟩) 1 1) anyL) := zz (World.ownsRow_lit w1 #[.int .i64 1, .string ⟨#[]⟩, .string ⟨#[]⟩, .int .i64 0, .int .i64 (-1), .int .i64 (-1)] 1 (Nat.le_refl _) (by simp [maxLen]) rfl); have HX2 := zz (HX1.o.alloc (.cells #[.int .i64 1, .string ⟨#[]⟩, .string ⟨#[]⟩, .int .i64 0, .int .i64 (-1), .int .i64 (-1)] 69)); have c0 := HX2.o.cell (j := 0) rfl; have f0 := HX2.o.free 0; have HB2 := zz (below_and HB1.o (below_alloc w1 (.cells #[.int .i64 1, .string ⟨#[]⟩, .string ⟨#[]⟩, .int .i64 0, .int .i64 (-1), .int .i64 (-1)] 69))); clear hF hX; go_wp2; refine ret_cell1 rfl rfl rfl (HX2.o.set 0 (.slice (some ⟨w1.heap.size, 0, none⟩) 1 1)) Tryz.underlying26 rfl size_rule ?_; exact ⟨_, _, rfl, (HO1.o.set (a := ⟨X, 0, none⟩) (by have := HZ1.o; simp; omega) _).low HB1.o.size, HB2.o.setCell (by have := HXW.o; simp; omega) _⟩
theorem need_any (b c : Int) (w : World) :
  Calls Tryz.prog 21 #[.int .i64 b, .int .i64 c] w fun r w' => ∃ q k, r = .returned (neV (needP b c) (.slice q 1 k)) ∧ Nds w' (needP b c) (.slice q 1 k) ∧ Below w.heap.size w w' := by
 have HAR := zz anyRule_any; obtain ⟨X, hX⟩ : ∃ X, X = w.heap.size := ⟨_, rfl⟩; go_enter Tryz.func21, Tryz.ntmps21; go_upto_region 1 with fail
 refine at_hide (F := fun w' => Blk w' X ([.string ⟨#[]⟩, .int .i64 0, .int .i64 0, .int .i64 0, .int .i64 0, .int .i64 0, .slice none 0 0, .string ⟨#[]⟩] : List Value) 28 ∧ Below w.heap.size w w' ∧ w'.heap.size = X + 1) ⟨by
  rw [hX]; exact Blk.made w ([.string ⟨#[]⟩, .int .i64 0, .int .i64 0, .int .i64 0, .int .i64 0, .int .i64 0, .slice none 0 0, .string ⟨#[]⟩] : List Value) _, below_alloc _ _, by rw [hX]; simp⟩ ?_
 intro w1 hF; rw [← hX]; have HX1 := zz hF.1; have HB1 : Hid (Below w.heap.size w w1) := zz hF.2.1; have HZ1 := zz hF.2.2; have HXW : Hid (w.heap.size ≤ X) := zz (by omega); clear hF hX; go_wp2_with (go_at_call 51; refine (HAR.o w1).mono ?_; rintro r w2 ⟨q2, k2, rfl, ho, hb⟩; have HO2 := zz ho; have HB2 := zz (below_and HB1.o hb); have HX2 := zz (HX1.o.kept hb); have c0 := HX2.o.cell (j := 0) (rfl); have c1 := HX2.o.cell (j := 1) (rfl); have c2 := HX2.o.cell (j := 2) (rfl); have c3 := HX2.o.cell (j := 3) (rfl); have c4 := HX2.o.cell (j := 4) (rfl); have c5 := HX2.o.cell (j := 5) (rfl); have c6 := HX2.o.cell (j := 6) (rfl); have c7 := HX2.o.cell (j := 7) (rfl); obtain ⟨f0, f1, f2, f3, f4, f5, f6, f7⟩ := fz8 HX2.o; clear ho hb); refine ret_cell1 rfl rfl rfl (blk_fill8 HX2.o rfl _ _ _ _ _ _ _ _) Tryz.underlying28 rfl size_ne ?_; exact ⟨q2, k2, rfl, (own_fill8 HO2.o (by have := HZ1.o; omega) _ _ _ _ _ _ _ _).row, below_fill8 HB2.o (by have := HXW.o; omega) _ _ _ _ _ _ _ _⟩
theorem own_fill8' {w : World} {base g size n : Nat} {t : TypeId} {v : Value} {xs : List Value} (h : w.ownsRow base t size v n xs) (hg : g < base) (x0 x1 x2 x3 x4 x5 x6 x7 : Value) : ((((((((w.setCell ⟨g, 0, none⟩ x0).setCell ⟨g, 1, none⟩ x1).setCell ⟨g, 2, none⟩ x2).setCell ⟨g, 3, none⟩ x3).setCell ⟨g, 4, none⟩ x4).setCell ⟨g, 5, none⟩ x5).setCell ⟨g, 6, none⟩ x6).setCell ⟨g, 7, none⟩ x7).ownsRow base t size v n xs :=
 ownsRow_setCell_below (ownsRow_setCell_below (ownsRow_setCell_below (ownsRow_setCell_below (ownsRow_setCell_below (ownsRow_setCell_below (ownsRow_setCell_below (ownsRow_setCell_below h (a := ⟨g, 0, none⟩) hg _) (a := ⟨g, 1, none⟩) hg _) (a := ⟨g, 2, none⟩) hg _) (a := ⟨g, 3, none⟩) hg _) (a := ⟨g, 4, none⟩) hg _) (a := ⟨g, 5, none⟩) hg _) (a := ⟨g, 6, none⟩) hg _) (a := ⟨g, 7, none⟩) hg _
theorem machine_any (w : World) :
  Calls Tryz.prog 50 #[] w fun r w' => ∃ va vu, r = .returned (vwV machP va vu) ∧ Vws w' machP va vu ∧ Below w.heap.size w w' := by
 obtain ⟨X, hX⟩ : ∃ X, X = w.heap.size := ⟨_, rfl⟩; go_enter Tryz.func50, Tryz.ntmps50; go_upto_region 1 with fail
 refine at_hide (F := fun w' => Blk w' X ([.string ⟨#[]⟩, .slice none 0 0, .int .i64 0, .int .i64 0, .int .i64 0, .int .i64 0, .bool false, .slice none 0 0] : List Value) 32 ∧ Below w.heap.size w w' ∧ w'.heap.size = X + 1) ⟨by
  rw [hX]; exact Blk.made w ([.string ⟨#[]⟩, .slice none 0 0, .int .i64 0, .int .i64 0, .int .i64 0, .int .i64 0, .bool false, .slice none 0 0] : List Value) _, below_alloc _ _, by rw [hX]; simp⟩ ?_
 intro w1 hF; rw [← hX]; have HX1 := zz hF.1; have HB1 : Hid (Below w.heap.size w w1) := zz hF.2.1; have HZ1 := zz hF.2.2; have HXW : Hid (w.heap.size ≤ X) := zz (by omega); have HA2 : Hid ((w1.alloc (.cells #[.string ⟨#[97, 114, 99, 104]⟩, .string ⟨#[120, 56, 54]⟩] 81)).ownsRow w1.heap.size 81 2 (.slice (some ⟨w1.heap.size, 0, none⟩) 1 1) 1 [.string ⟨#[97, 114, 99, 104]⟩, .string ⟨#[120, 56, 54]⟩]) := zz (World.ownsRow_lit w1 #[.string ⟨#[97, 114, 99, 104]⟩, .string ⟨#[120, 56, 54]⟩] 1 (Nat.le_refl _) (by simp [maxLen]) rfl); have HA3 : Hid (((w1.alloc (.cells #[.string ⟨#[97, 114, 99, 104]⟩, .string ⟨#[120, 56, 54]⟩] 81)).alloc (.cells #[.string ⟨#[97]⟩, .int .i64 0, .int .i64 1, .int .i64 6, .int .i64 0, .int .i64 0, .int .i64 0, .string ⟨#[]⟩, .bool false, .string ⟨#[98]⟩, .int .i64 0, .int .i64 2, .int .i64 2, .int .i64 0, .int .i64 0, .int .i64 0, .string ⟨#[]⟩, .bool false] 58)).ownsRow w1.heap.size 81 2 (.slice (some ⟨w1.heap.size, 0, none⟩) 1 1) 1 [.string ⟨#[97, 114, 99, 104]⟩, .string ⟨#[120, 56, 54]⟩]) := zz (HA2.o.alloc _)
 have HU3 : Hid (((w1.alloc (.cells #[.string ⟨#[97, 114, 99, 104]⟩, .string ⟨#[120, 56, 54]⟩] 81)).alloc (.cells #[.string ⟨#[97]⟩, .int .i64 0, .int .i64 1, .int .i64 6, .int .i64 0, .int .i64 0, .int .i64 0, .string ⟨#[]⟩, .bool false, .string ⟨#[98]⟩, .int .i64 0, .int .i64 2, .int .i64 2, .int .i64 0, .int .i64 0, .int .i64 0, .string ⟨#[]⟩, .bool false] 58)).ownsRow w1.heap.size 58 9 (.slice (some ⟨w1.heap.size + 1, 0, none⟩) 2 2) 2 (rwC usC machP.us)) := zz (by
  have := World.ownsRow_lit (base := w1.heap.size) (e := 58) (size := 9) (w1.alloc (.cells #[.string ⟨#[97, 114, 99, 104]⟩, .string ⟨#[120, 56, 54]⟩] 81)) #[.string ⟨#[97]⟩, .int .i64 0, .int .i64 1, .int .i64 6, .int .i64 0, .int .i64 0, .int .i64 0, .string ⟨#[]⟩, .bool false, .string ⟨#[98]⟩, .int .i64 0, .int .i64 2, .int .i64 2, .int .i64 0, .int .i64 0, .int .i64 0, .string ⟨#[]⟩, .bool false] 2 (by simp) (by simp [maxLen]) rfl; rw [show (w1.alloc (.cells #[.string ⟨#[97, 114, 99, 104]⟩, .string ⟨#[120, 56, 54]⟩] 81)).heap.size = w1.heap.size + 1 from by simp] at this
  exact this)
 have HX2 := zz ((HX1.o.alloc (.cells #[.string ⟨#[97, 114, 99, 104]⟩, .string ⟨#[120, 56, 54]⟩] 81)).alloc (.cells #[.string ⟨#[97]⟩, .int .i64 0, .int .i64 1, .int .i64 6, .int .i64 0, .int .i64 0, .int .i64 0, .string ⟨#[]⟩, .bool false, .string ⟨#[98]⟩, .int .i64 0, .int .i64 2, .int .i64 2, .int .i64 0, .int .i64 0, .int .i64 0, .string ⟨#[]⟩, .bool false] 58)); have c0 := HX2.o.cell (j := 0) (rfl); have c1 := HX2.o.cell (j := 1) (rfl); have c2 := HX2.o.cell (j := 2) (rfl); have c3 := HX2.o.cell (j := 3) (rfl); have c4 := HX2.o.cell (j := 4) (rfl); have c5 := HX2.o.cell (j := 5) (rfl); have c6 := HX2.o.cell (j := 6) (rfl); have c7 := HX2.o.cell (j := 7) (rfl); obtain ⟨f0, f1, f2, f3, f4, f5, f6, f7⟩ := fz8 HX2.o; have HB2 := zz (below_and (below_and HB1.o (below_alloc w1 (.cells #[.string ⟨#[97, 114, 99, 104]⟩, .string ⟨#[120, 56, 54]⟩] 81))) (below_alloc (w1.alloc (.cells #[.string ⟨#[97, 114, 99, 104]⟩, .string ⟨#[120, 56, 54]⟩] 81)) (.cells #[.string ⟨#[97]⟩, .int .i64 0, .int .i64 1, .int .i64 6, .int .i64 0, .int .i64 0, .int .i64 0, .string ⟨#[]⟩, .bool false, .string ⟨#[98]⟩, .int .i64 0, .int .i64 2, .int .i64 2, .int .i64 0, .int .i64 0, .int .i64 0, .string ⟨#[]⟩, .bool false] 58)))
 clear hF hX; go_wp2; refine ret_cell1 rfl rfl rfl (blk_fill8 HX2.o rfl _ _ _ _ _ _ _ _) Tryz.underlying32 rfl size_vw ?_; refine ⟨.slice (some ⟨w1.heap.size, 0, none⟩) 1 1, .slice (some ⟨w1.heap.size + 1, 0, none⟩) 2 2, rfl, ⟨?_, ?_⟩, below_fill8 HB2.o (by have := HXW.o; omega) _ _ _ _ _ _ _ _⟩
 ·exact row_of_owns (own_fill8' HA3.o (by have := HZ1.o; omega) _ _ _ _ _ _ _ _) (rwC_one atC_one machP.at')
 ·exact usw_own (own_fill8' HU3.o (by have := HZ1.o; omega) _ _ _ _ _ _ _ _)
theorem mach_ok : VwOk machP := ⟨by decide, by
 intro u hu; simp only [machP, List.mem_cons, List.not_mem_nil, or_false] at hu; rcases hu with rfl | rfl
 ·exact ⟨by decide, by decide⟩
 ·exact ⟨by decide, by decide⟩, by decide, by
 intro a ha; simp only [machP, List.mem_cons, List.not_mem_nil, or_false] at ha; subst ha
 decide⟩
theorem any_fit1 : ∀ n ∈ anyL, Fit1 n := by
 intro n hn; simp only [anyL, List.mem_cons, List.not_mem_nil, or_false] at hn; subst hn; exact ⟨by decide, by decide, by decide, by decide⟩
theorem need_ok (b c : Int) : NeOk (needP b c) := ⟨any_fit1⟩
theorem kind_any (N : Ne) (v : Value) (x : Int) (h : fitP N machP = (x, [], 0)) (w : World) (hn : Nds w N v) (hk : NeOk N) (hE : ErrV w) (hT : Tab w) :
  Calls Tryz.prog 20 #[neV N v] w fun r w' => r = .returned (.int .i64 x) ∧ Below w.heap.size w w' := by
 obtain ⟨pn, cn, rfl⟩ := hn.slice; obtain ⟨ln, hln⟩ : ∃ ln, ln = N.L.length := ⟨_, rfl⟩
 have HFI : Hid (∀ va vu w', Below w.heap.size w w' → Vws w' machP va vu → Calls Tryz.prog 15 #[neV N (.slice pn ln cn), vwV machP va vu] w' fun r w2 => r = .returned (.tuple #[.int .i64 x, .string ⟨#[]⟩, .int .i64 0]) ∧ Below w'.heap.size w' w2) := zz (fun va vu w' hb hv => by
  rw [hln]; have := fit_any N machP _ va vu w' (hn.below hb) hk hv mach_ok (hE.below hb) (hT.below hb); rw [h] at this
  exact this)
 have HMA := zz machine_any; rw [← hln]; clear hn hk hE hT hln h; obtain ⟨X, hX⟩ : ∃ X, X = w.heap.size := ⟨_, rfl⟩; go_enter Tryz.func20, Tryz.ntmps20; go_upto_region 1 with fail
 refine at_hide (F := fun w' => Blk w' X (neC N (.slice pn ln cn)) 28 ∧ Below w.heap.size w w') ⟨by
  rw [hX]; exact Blk.made w (neC N (.slice pn ln cn)) _, below_alloc _ _⟩ ?_
 intro w1 hF; rw [← hX]; have HX1 := zz hF.1; have HB1 : Hid (Below w.heap.size w w1) := zz hF.2
 have HSS : Hid (∀ w', Below w1.heap.size w1 w' → w'.cell? ⟨X, 0, none⟩ = some (.string (bs N.j)) ∧ w'.cell? ⟨X, 1, none⟩ = some (.int .i64 N.d) ∧ w'.cell? ⟨X, 2, none⟩ = some (.int .i64 N.a.c) ∧ w'.cell? ⟨X, 3, none⟩ = some (.int .i64 N.a.r) ∧ w'.cell? ⟨X, 4, none⟩ = some (.int .i64 N.a.d) ∧ w'.cell? ⟨X, 5, none⟩ = some (.int .i64 N.a.p) ∧ w'.cell? ⟨X, 6, none⟩ = some (.slice pn ln cn) ∧ w'.cell? ⟨X, 7, none⟩ = some (.string (bs N.n))) := zz (fun w' hb => by
  have h1 := HX1.o.kept hb
  exact ⟨h1.cell (j := 0) rfl, h1.cell (j := 1) rfl, h1.cell (j := 2) rfl, h1.cell (j := 3) rfl, h1.cell (j := 4) rfl, h1.cell (j := 5) rfl, h1.cell (j := 6) rfl, h1.cell (j := 7) rfl⟩)
 clear hF hX
 go_region_held3 (fun w' => w'.cell? ⟨X, 0, none⟩ = some (.string (bs N.j)) ∧ w'.cell? ⟨X, 1, none⟩ = some (.int .i64 N.d) ∧ w'.cell? ⟨X, 2, none⟩ = some (.int .i64 N.a.c) ∧ w'.cell? ⟨X, 3, none⟩ = some (.int .i64 N.a.r) ∧ w'.cell? ⟨X, 4, none⟩ = some (.int .i64 N.a.d) ∧ w'.cell? ⟨X, 5, none⟩ = some (.int .i64 N.a.p) ∧ w'.cell? ⟨X, 6, none⟩ = some (.slice pn ln cn) ∧ w'.cell? ⟨X, 7, none⟩ = some (.string (bs N.n)))
  (refine HSS.o _ ?_ <;> (repeat (first | with_reducible exact Below.refl _ _ | with_reducible exact HB8.o | with_reducible exact HB7.o | apply below_drew')))
  (first
   | (go_at_call 50; refine (HMA.o _).mono ?_; rintro r w7 ⟨va, vu, rfl, hv, hb⟩; have HV7 := zz hv; have HB7 : Hid (Below w1.heap.size w1 w7) := zz (by refine below_and ?_ hb; (repeat (first | with_reducible exact Below.refl _ _ | apply below_drew'))); clear hb hv)
   | (go_at_call 15; refine (HFI.o _ _ _ (below_and HB1.o (by repeat (first | with_reducible exact HB7.o | apply below_drew'))) (HV7.o.below (by repeat (first | with_reducible exact Below.refl _ _ | apply below_drew')))).mono ?_; rintro r w8 ⟨rfl, hb⟩; have HB8 : Hid (Below w1.heap.size w1 w8) := zz (by refine below_and ?_ hb; (repeat (first | with_reducible exact HB7.o | apply below_drew'))); clear hb))
 go_wp2; go_ret; exact ⟨rfl, below_and HB1.o (by repeat (first | with_reducible exact HB8.o | apply below_drew'))⟩
theorem fit_12 : fitP (needP 1 2) machP = (2, [], 0) := by kernel_rfl
theorem fit_28 : fitP (needP 2 8) machP = (1, [], 0) := by kernel_rfl
theorem lives_any (w : World) (hE : ErrV w) (hT : Tab w) :
  Calls Tryz.prog 4 #[] w fun r w' => r = .returned (.bool true) ∧ Below w.heap.size w w' := by
 have HND := zz need_any; have HK1 : Hid (∀ q k w', Below w.heap.size w w' → Nds w' (needP 1 2) (.slice q 1 k) → Calls Tryz.prog 20 #[neV (needP 1 2) (.slice q 1 k)] w' fun r w2 => r = .returned (.int .i64 2) ∧ Below w'.heap.size w' w2) := zz (fun q k w' hb hn => kind_any _ _ 2 fit_12 w' hn (need_ok 1 2) (hE.below hb) (hT.below hb)); have HK2 : Hid (∀ q k w', Below w.heap.size w w' → Nds w' (needP 2 8) (.slice q 1 k) → Calls Tryz.prog 20 #[neV (needP 2 8) (.slice q 1 k)] w' fun r w2 => r = .returned (.int .i64 1) ∧ Below w'.heap.size w' w2) := zz (fun q k w' hb hn => kind_any _ _ 1 fit_28 w' hn (need_ok 2 8) (hE.below hb) (hT.below hb)); clear hE hT; go_enter Tryz.func4, Tryz.ntmps4
 go_wp2_with (first
  | (go_at_call 21; have hx := HB3; clear hx; refine (HND.o _ _ _).mono ?_; rintro r w4 ⟨q4, k4, rfl, hn, hb⟩; have HN4 := zz hn; have HB4 := zz (below_and HB3.o hb); clear hn hb)
  | (go_at_call 21; refine (HND.o _ _ _).mono ?_; rintro r w2 ⟨q2, k2, rfl, hn, hb⟩; have HN2 := zz hn; have HB2 : Hid (Below w.heap.size w w2) := zz hb; clear hn hb)
  | (go_at_call 20; refine (HK2.o q4 k4 _ HB4.o HN4.o).mono ?_; rintro r w5 ⟨rfl, hb⟩; have HB5 := zz (below_and HB4.o hb); clear hb)
  | (go_at_call 20; refine (HK1.o q2 k2 _ HB2.o HN2.o).mono ?_; rintro r w3 ⟨rfl, hb⟩; have HB3 := zz (below_and HB2.o hb); clear hb))
 go_ret; exact ⟨rfl, HB5.o⟩
end Go.Proofs.YtdemkfhkibmbnaaGreatDoor.Ft
namespace Go.Proofs.YtdemkfhkibmbnaaGreatDoor.Ru
open Go.RowKit Go.Proofs.YtdemkfhkibmbnaaGreatDoor
theorem same_rule (v u : Value) (L M : List Nd) (w : World) (hv : Row w v 6 L.length (rwC ndC L)) (hu : Row w u 6 M.length (rwC ndC M)) :
  Calls Tryz.prog 19 #[.agg #[v], .agg #[u]] w fun r w' => r = .returned (.bool (decide (L = M))) ∧ Below w.heap.size w w' := by
 obtain ⟨p, c, rfl, hc, hm, -⟩ := id hv; obtain ⟨p2, c2, rfl, hc2, hm2, -⟩ := id hu; have HV := zz hv; have HU := zz hu; have hml : maxLen ≤ 9223372036854775807 := by decide
 have hn63 : (L.length : Int) ≤ 9223372036854775807 := by omega
 have hm63 : (M.length : Int) ≤ 9223372036854775807 := by omega
 clear hv hu hc hm hc2 hm2 hml
 by_cases hl : L.length = M.length
 ·have HL := zz hl
  obtain ⟨n, hn⟩ : ∃ n, n = L.length := ⟨_, rfl⟩; have HN := zz hn; rw [← hl]; rw [← hn] at hn63 ⊢; clear hl hn hm63; obtain ⟨w0, hw0⟩ : ∃ w0, w0 = (w.alloc (.cells #[.slice p n c] 26)).alloc (.cells #[.slice p2 n c2] 26) := ⟨_, rfl⟩; go_enter Tryz.func19, Tryz.ntmps19; go_upto_region 1 with fail; rw [← hw0]; have HB0 : Hid (Below w.heap.size w w0) := zz (by rw [hw0]; exact below_and (below_alloc _ _) (below_alloc _ _))
  have b0 : w0.cell? ⟨w.heap.size, 0, none⟩ = some (.slice p n c) := by
   rw [hw0]; exact (Blk.alloc (Blk.made w [_] _) _).cell (j := 0) rfl
  have b1 : w0.cell? ⟨w.heap.size + 1, 0, none⟩ = some (.slice p2 n c2) := by
   rw [hw0]; have := (Blk.made (w.alloc (.cells #[.slice p n c] 26)) [.slice p2 n c2] 26).cell (j := 0) rfl; rw [show (w.alloc (.cells #[.slice p n c] 26)).heap.size = w.heap.size + 1 from by simp] at this; exact this
  clear hw0; obtain ⟨R, hR⟩ : ∃ R, R = w.heap.size := ⟨_, rfl⟩; rw [← hR] at b0 b1 ⊢; have HBB0 : Hid (w0.cell? ⟨R, 0, none⟩ = some (.slice p n c) ∧ w0.cell? ⟨R + 1, 0, none⟩ = some (.slice p2 n c2)) := zz ⟨b0, b1⟩; clear hR; go_wp2
  go_loopw [5] (fun i wr => ∃ k : Nat, k ≤ n ∧ i = .int .i64 (k : Int) ∧ Hid (∀ i (h1 : i < L.length) (h2 : i < M.length), i < k → L[i] = M[i]) ∧ Hid (Below w0.heap.size w0 wr)) (fun i _ => n - (intOf i).toNat)
  case atStart => exact ⟨0, Nat.zero_le _, rfl, zz (fun _ _ _ h => by omega), zz (Below.refl _ _)⟩
  case round =>
   obtain ⟨k, hk, rfl, HE, HB⟩ := hrel
   by_cases hlt : k < n
   ·have HKL : Hid (k < L.length) := zz (by have := HN.o; omega)
    have HKM : Hid (k < M.length) := zz (by have := HN.o; have := HL.o; omega)
    have HLC : Hid (∃ b o, p = some ⟨b, o, none⟩ ∧ ∀ j u, (ndC (L[k]'HKL.o))[j]? = some u → wr.cell? ⟨b, o + k * 6 + j, none⟩ = some u) := zz (by
     have hr := HV.o.below (below_and HB0.o HB.o)
     exact node_at hr HKL.o)
    have HMC : Hid (∃ b o, p2 = some ⟨b, o, none⟩ ∧ ∀ j u, (ndC (M[k]'HKM.o))[j]? = some u → wr.cell? ⟨b, o + k * 6 + j, none⟩ = some u) := zz (by
     have hr := HU.o.below (below_and HB0.o HB.o)
     exact node_at hr HKM.o)
    obtain ⟨x, hx⟩ : ∃ x, x = L[k]'HKL.o := ⟨_, rfl⟩; obtain ⟨y, hy⟩ : ∃ y, y = M[k]'HKM.o := ⟨_, rfl⟩; rw [← hx] at HLC; rw [← hy] at HMC; have HX := zz hx; have HY := zz hy; clear hx hy; obtain ⟨b, o, rfl, hcell⟩ := HLC.o; obtain ⟨b', o', rfl, hcell'⟩ := HMC.o; have q0 := hcell 0 _ rfl; rw [Nat.add_zero] at q0; have q1 := hcell 1 _ rfl; have q2 := hcell 2 _ rfl; have q3 := hcell 3 _ rfl; have q4 := hcell 4 _ rfl; have q5 := hcell 5 _ rfl; have r0 := hcell' 0 _ rfl; rw [Nat.add_zero] at r0; have r1 := hcell' 1 _ rfl; have r2 := hcell' 2 _ rfl; have r3 := hcell' 3 _ rfl; have r4 := hcell' 4 _ rfl; have r5 := hcell' 5 _ rfl; have b0 := cell_kept HBB0.o.1 HB.o; have b1 := cell_kept HBB0.o.2 HB.o; clear hcell hcell' HLC HMC
    by_cases he : x = y
    ·have hne : ∀ w, (binOp .neq 69 (.agg #[.int .i64 x.k, .string (bs x.nm), .string (bs x.vl), .int .i64 x.x, .int .i64 x.a, .int .i64 x.b]) (.agg #[.int .i64 y.k, .string (bs y.nm), .string (bs y.vl), .int .i64 y.x, .int .i64 y.a, .int .i64 y.b])).run Tryz.prog w = .ok (.bool false) w := fun w => by have := nd_neq x y w; rw [decide_eq_true he] at this; exact this
     have HE2 : Hid (∀ i (h1 : i < L.length) (h2 : i < M.length), i < k + 1 → L[i] = M[i]) := zz (fun i h1 h2 hi => by
      by_cases e : i = k
      ·subst e
       have e1 := HX.o; have e2 := HY.o; rw [← e1, ← e2, he]
      ·exact HE.o i h1 h2 (by omega))
     clear he; go_wp2
     go_quiet (fail)
     have HB2 : Hid (Below w0.heap.size w0 (wr.drewN nq)) := zz (Below.drewN' HB.o nq); go_wp2; go_roundw
     case rel => exact ⟨k + 1, by omega, by go_num, HE2, HB2⟩
     case measure => simp [intOf]; omega
    ·have hne : ∀ w, (binOp .neq 69 (.agg #[.int .i64 x.k, .string (bs x.nm), .string (bs x.vl), .int .i64 x.x, .int .i64 x.a, .int .i64 x.b]) (.agg #[.int .i64 y.k, .string (bs y.nm), .string (bs y.vl), .int .i64 y.x, .int .i64 y.a, .int .i64 y.b])).run Tryz.prog w = .ok (.bool true) w := fun w => by have := nd_neq x y w; rw [decide_eq_false he] at this; exact this
     have HN2 : Hid (decide (L = M) = false) := zz (list_ne HKL.o HKM.o (by rw [← HX.o, ← HY.o]; exact he)); clear he; go_wp2
     go_quiet (fail)
     have HB2 : Hid (Below w.heap.size w (wr.drewN nq)) := zz (Below.drewN' (below_and HB0.o HB.o) nq); go_wp2; go_ret; exact ⟨ret_bool HN2.o.symm, HB2.o⟩
   ·obtain rfl : k = n := by omega
    have HN2 : Hid (decide (L = M) = true) := zz (list_all HL.o (fun i h1 h2 => HE.o i h1 h2 (by have := HN.o; omega))); have b0 := cell_kept HBB0.o.1 HB.o; have b1 := cell_kept HBB0.o.2 HB.o; go_wp2; go_ret; exact ⟨ret_bool HN2.o.symm, below_and HB0.o HB.o⟩
 ·have HN2 : Hid (decide (L = M) = false) := zz (by rw [decide_eq_false_iff_not]; intro e; rw [e] at hl; exact hl rfl)
  have t1 : ((L.length : Int) != (M.length : Int)) = true := by simp; omega
  have t2 : (L.length != M.length) = true := by simpa using hl
  have t3 : (L.length == M.length) = false := by simpa using hl
  go_enter Tryz.func19, Tryz.ntmps19; go_wp2; go_ret; exact ⟨ret_bool HN2.o.symm, below_and (below_alloc _ _) (below_alloc _ _)⟩
