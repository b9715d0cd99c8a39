/- resource.Share -/
import Derived.Test.YtmgecehdicpjnaaDoorFits
import Derived.Deep.QuietTactic
import Derived.BigQuiet
namespace Go.Proofs.YtmgecehdicpjnaaDoor
open Go.RowKit

/-- the greatest share of the first k -/
def shareN (x y : Am) : Nat → Int
  | 0 => 0
  | k + 1 => if 0 < y.get k then max (shareN x y k) (x.get k * 1000 / y.get k) else shareN x y k
def shareR (x y : Am) : Int × Int := if (x.okB && y.okB) = false then (0, 2) else if fitsB x y = false then (0, 14) else (shareN x y 4, 0)
theorem shareR_bad {x y : Am} (h : (x.okB && y.okB) = false) : shareR x y = (0, 2) := by unfold shareR; rw [if_pos h]
theorem shareR_fit {x y : Am} (h : (x.okB && y.okB) = true) (hf : fitsB x y = false) : shareR x y = (0, 14) := by
  unfold shareR; rw [if_neg (by rw [h]; decide), if_pos hf]
theorem shareR_ok {x y : Am} (h : (x.okB && y.okB) = true) (hf : fitsB x y = true) : shareR x y = (shareN x y 4, 0) := by
  unfold shareR; rw [if_neg (by rw [h]; decide), if_neg (by rw [hf]; decide)]

set_option maxRecDepth 100000 in
set_option maxHeartbeats 4000000 in
theorem share_bad (x y : Am) (w : World) (ha : (x.okB && y.okB) = false) :
    Calls Tryd.prog 20 #[amV x, amV y] w fun e w' => e = .returned (.tuple #[.int .i64 (shareR x y).1, .int .i64 (shareR x y).2]) ∧ Below w.heap.size w w' := by
  have HA := Lib.hid ha
  have HR := Lib.hid (shareR_bad ha)
  clear ha
  obtain ⟨w3, hw3⟩ : ∃ w3, w3 = ((w.alloc (.cells #[.int .i64 x.c, .int .i64 x.r, .int .i64 x.d, .int .i64 x.p] 23)).alloc (.cells #[.int .i64 y.c, .int .i64 y.r, .int .i64 y.d, .int .i64 y.p] 23)) := ⟨_, rfl⟩
  obtain ⟨B, hB⟩ : ∃ B, B = w.heap.size := ⟨_, rfl⟩
  have B0 : Hid (Blk w3 B (amC x) 23) := Lib.hid (by
    have := (Blk.made w (amC x) 23).alloc (.cells #[.int .i64 y.c, .int .i64 y.r, .int .i64 y.d, .int .i64 y.p] 23)
    rw [hw3, hB]; exact this)
  have B1 : Hid (Blk w3 (B + 1) (amC y) 23) := Lib.hid (by
    have := (Blk.made (w.alloc (.cells #[.int .i64 x.c, .int .i64 x.r, .int .i64 x.d, .int .i64 x.p] 23)) (amC y) 23)
    rw [hw3, hB]; simpa using this)
  have HBL : Hid (Below w.heap.size w w3) := Lib.hid (by rw [hw3]; exact below_and (below_alloc w _) (below_alloc _ _))
  have c0 := B0.out.cell (j := 0) rfl
  have c1 := B0.out.cell (j := 1) rfl
  have c2 := B0.out.cell (j := 2) rfl
  have c3 := B0.out.cell (j := 3) rfl
  have c4 := B1.out.cell (j := 0) rfl
  have c5 := B1.out.cell (j := 1) rfl
  have c6 := B1.out.cell (j := 2) rfl
  have c7 := B1.out.cell (j := 3) rfl
  go_enter Tryd.func20, Tryd.ntmps20
  go_upto_region 1 with fail
  rw [← hw3, ← hB]
  clear hw3 hB
  go_wp2_with (go_at_call 32; refine (all_two w3 x y).mono ?_; rw [HA.out]; rintro e ws ⟨rfl, hb⟩; have C0 := Lib.hid (B0.out.kept hb); have C1 := Lib.hid (B1.out.kept hb); have HBS := Lib.hid (below_and HBL.out hb); clear hb c0 c1 c2 c3 c4 c5 c6 c7; have c0 := C0.out.cell (j := 0) rfl; have c1 := C0.out.cell (j := 1) rfl; have c2 := C0.out.cell (j := 2) rfl; have c3 := C0.out.cell (j := 3) rfl; have c4 := C1.out.cell (j := 0) rfl; have c5 := C1.out.cell (j := 1) rfl; have c6 := C1.out.cell (j := 2) rfl; have c7 := C1.out.cell (j := 3) rfl)
  go_ret2
  exact ⟨by rw [HR.out]; rfl, HBS.out⟩

set_option maxRecDepth 100000 in
set_option maxHeartbeats 4000000 in
theorem share_nofit (x y : Am) (w : World) (ha : (x.okB && y.okB) = true) (hf : fitsB x y = false) :
    Calls Tryd.prog 20 #[amV x, amV y] w fun e w' => e = .returned (.tuple #[.int .i64 (shareR x y).1, .int .i64 (shareR x y).2]) ∧ Below w.heap.size w w' := by
  have HA := Lib.hid ha
  have HF := Lib.hid hf
  have HR := Lib.hid (shareR_fit ha hf)
  clear ha hf
  obtain ⟨w3, hw3⟩ : ∃ w3, w3 = ((w.alloc (.cells #[.int .i64 x.c, .int .i64 x.r, .int .i64 x.d, .int .i64 x.p] 23)).alloc (.cells #[.int .i64 y.c, .int .i64 y.r, .int .i64 y.d, .int .i64 y.p] 23)) := ⟨_, rfl⟩
  obtain ⟨B, hB⟩ : ∃ B, B = w.heap.size := ⟨_, rfl⟩
  have B0 : Hid (Blk w3 B (amC x) 23) := Lib.hid (by
    have := (Blk.made w (amC x) 23).alloc (.cells #[.int .i64 y.c, .int .i64 y.r, .int .i64 y.d, .int .i64 y.p] 23)
    rw [hw3, hB]; exact this)
  have B1 : Hid (Blk w3 (B + 1) (amC y) 23) := Lib.hid (by
    have := (Blk.made (w.alloc (.cells #[.int .i64 x.c, .int .i64 x.r, .int .i64 x.d, .int .i64 x.p] 23)) (amC y) 23)
    rw [hw3, hB]; simpa using this)
  have HBL : Hid (Below w.heap.size w w3) := Lib.hid (by rw [hw3]; exact below_and (below_alloc w _) (below_alloc _ _))
  have c0 := B0.out.cell (j := 0) rfl
  have c1 := B0.out.cell (j := 1) rfl
  have c2 := B0.out.cell (j := 2) rfl
  have c3 := B0.out.cell (j := 3) rfl
  have c4 := B1.out.cell (j := 0) rfl
  have c5 := B1.out.cell (j := 1) rfl
  have c6 := B1.out.cell (j := 2) rfl
  have c7 := B1.out.cell (j := 3) rfl
  go_enter Tryd.func20, Tryd.ntmps20
  go_upto_region 1 with fail
  rw [← hw3, ← hB]
  clear hw3 hB
  go_wp2_with (first | (go_at_call 32; refine (all_two w3 x y).mono ?_; rw [HA.out]; rintro e ws ⟨rfl, hb⟩; have C0 := Lib.hid (B0.out.kept hb); have C1 := Lib.hid (B1.out.kept hb); have HBS := Lib.hid (below_and HBL.out hb); clear hb c0 c1 c2 c3 c4 c5 c6 c7; have c0 := C0.out.cell (j := 0) rfl; have c1 := C0.out.cell (j := 1) rfl; have c2 := C0.out.cell (j := 2) rfl; have c3 := C0.out.cell (j := 3) rfl; have c4 := C1.out.cell (j := 0) rfl; have c5 := C1.out.cell (j := 1) rfl; have c6 := C1.out.cell (j := 2) rfl; have c7 := C1.out.cell (j := 3) rfl) | (go_at_call 19; refine (fits_any x y _).mono ?_; rw [HF.out]; rintro e wt ⟨rfl, hb⟩; have D0 := Lib.hid (C0.out.kept hb); have D1 := Lib.hid (C1.out.kept hb); have HBT := Lib.hid (below_and HBS.out hb); clear hb))
  go_ret2
  exact ⟨by rw [HR.out]; rfl, HBT.out⟩

set_option maxRecDepth 100000 in
set_option maxHeartbeats 4000000 in
theorem share_good (x y : Am) (w : World) (ha : (x.okB && y.okB) = true) (hf : fitsB x y = true) :
    Calls Tryd.prog 20 #[amV x, amV y] w fun e w' => e = .returned (.tuple #[.int .i64 (shareR x y).1, .int .i64 (shareR x y).2]) ∧ Below w.heap.size w w' := by
  have HA := Lib.hid ha
  have HF := Lib.hid hf
  have HR := Lib.hid (shareR_ok ha hf)
  have HX : Hid (x.okB = true) := Lib.hid (by simp at ha; exact ha.1)
  have HY : Hid (y.okB = true) := Lib.hid (by simp at ha; exact ha.2)
  clear ha hf
  obtain ⟨w3, hw3⟩ : ∃ w3, w3 = ((w.alloc (.cells #[.int .i64 x.c, .int .i64 x.r, .int .i64 x.d, .int .i64 x.p] 23)).alloc (.cells #[.int .i64 y.c, .int .i64 y.r, .int .i64 y.d, .int .i64 y.p] 23)) := ⟨_, rfl⟩
  obtain ⟨B, hB⟩ : ∃ B, B = w.heap.size := ⟨_, rfl⟩
  have B0 : Hid (Blk w3 B (amC x) 23) := Lib.hid (by
    have := (Blk.made w (amC x) 23).alloc (.cells #[.int .i64 y.c, .int .i64 y.r, .int .i64 y.d, .int .i64 y.p] 23)
    rw [hw3, hB]; exact this)
  have B1 : Hid (Blk w3 (B + 1) (amC y) 23) := Lib.hid (by
    have := (Blk.made (w.alloc (.cells #[.int .i64 x.c, .int .i64 x.r, .int .i64 x.d, .int .i64 x.p] 23)) (amC y) 23)
    rw [hw3, hB]; simpa using this)
  have HBL : Hid (Below w.heap.size w w3) := Lib.hid (by rw [hw3]; exact below_and (below_alloc w _) (below_alloc _ _))
  have c0 := B0.out.cell (j := 0) rfl
  have c1 := B0.out.cell (j := 1) rfl
  have c2 := B0.out.cell (j := 2) rfl
  have c3 := B0.out.cell (j := 3) rfl
  have c4 := B1.out.cell (j := 0) rfl
  have c5 := B1.out.cell (j := 1) rfl
  have c6 := B1.out.cell (j := 2) rfl
  have c7 := B1.out.cell (j := 3) rfl
  go_enter Tryd.func20, Tryd.ntmps20
  go_upto_region 1 with fail
  rw [← hw3, ← hB]
  clear hw3 hB
  go_upto_region 5 with (first | (go_at_call 32; refine (all_two w3 x y).mono ?_; rw [HA.out]; rintro e ws ⟨rfl, hb⟩; have C0 := Lib.hid (B0.out.kept hb); have C1 := Lib.hid (B1.out.kept hb); have HBS := Lib.hid (below_and HBL.out hb); clear hb c0 c1 c2 c3 c4 c5 c6 c7; have c0 := C0.out.cell (j := 0) rfl; have c1 := C0.out.cell (j := 1) rfl; have c2 := C0.out.cell (j := 2) rfl; have c3 := C0.out.cell (j := 3) rfl; have c4 := C1.out.cell (j := 0) rfl; have c5 := C1.out.cell (j := 1) rfl; have c6 := C1.out.cell (j := 2) rfl; have c7 := C1.out.cell (j := 3) rfl) | (go_at_call 19; refine (fits_any x y _).mono ?_; rw [HF.out]; rintro e wt ⟨rfl, hb⟩; have D0 := Lib.hid (C0.out.kept hb); have D1 := Lib.hid (C1.out.kept hb); have HBT := Lib.hid (below_and HBS.out hb); clear hb))
  clear c0 c1 c2 c3 c4 c5 c6 c7 B0 B1
  obtain ⟨B0, B1⟩ : Hid (Blk wt B (amC x) 23) ∧ Hid (Blk wt (B + 1) (amC y) 23) := ⟨D0, D1⟩
  go_cut [6, 7] (fun sa sb wx => Two wt.heap.size wx sa sb x y ∧ Below wt.heap.size wt wx)
  case first =>
    go_region_held3 (fun w' => w'.cell? ⟨B, 0, none⟩ = some (.int .i64 x.c) ∧ w'.cell? ⟨B, 1, none⟩ = some (.int .i64 x.r) ∧ w'.cell? ⟨B, 2, none⟩ = some (.int .i64 x.d) ∧ w'.cell? ⟨B, 3, none⟩ = some (.int .i64 x.p) ∧ w'.cell? ⟨B + 1, 0, none⟩ = some (.int .i64 y.c) ∧ w'.cell? ⟨B + 1, 1, none⟩ = some (.int .i64 y.r) ∧ w'.cell? ⟨B + 1, 2, none⟩ = some (.int .i64 y.d) ∧ w'.cell? ⟨B + 1, 3, none⟩ = some (.int .i64 y.p)) (refine eight (t := 23) (u := 23) ?_ ?_ <;> (repeat (first | exact B0.out | exact B1.out | apply Blk.drew | apply Blk.alloc)))
      (first | (go_at_call 33; refine (array_exact _ _).mono ?_; rintro e w1 ⟨rfl, rfl⟩))
    all_goals go_wp2_with fail
    all_goals go_meet
    all_goals refine ⟨⟨_, _, rfl, rfl, by omega, by omega, by omega, ?_, ?_⟩, ?_⟩
    all_goals first
      | ((repeat (first | exact Below.refl _ _ | apply bl_drew | (refine bl_alloc _ ?_ (by simp <;> omega)))); done)
      | ((repeat (first | (refine Blk.made_at (cs := amC x) ?_; simp; done) | (refine Blk.made_at (cs := amC y) ?_; simp; done) | apply Blk.drew | apply Blk.alloc)); done)
  case rest =>
    obtain ⟨⟨g, h, rfl, rfl, hgh, hg, hh, hb1, hb2⟩, hbl⟩ := hcut
    have HB1 := Lib.hid hb1
    have HB2 := Lib.hid hb2
    have HBW := Lib.hid (below_and HBT.out hbl)
    clear hb1 hb2 hbl hgh hg hh
    go_wp2
    go_loopw [8, 23] (fun s i wx => ∃ k : Nat, k ≤ 4 ∧ i = .int .i64 (k : Int) ∧ s = .int .i64 (shareN x y k) ∧ 0 ≤ shareN x y k ∧ shareN x y k ≤ 1099511627776000 ∧ Hid (Below wc.heap.size wc wx)) (fun _ i _ => 4 - (intOf i).toNat)
    case atStart => exact ⟨0, Nat.zero_le _, rfl, rfl, by simp [shareN], by simp [shareN], Lib.hid (Below.refl _ _)⟩
    case round =>
      obtain ⟨k, hk, rfl, rfl, hs1, hs2, HBx⟩ := hrel
      by_cases hlt : k < 4
      · have i0 : (0 : Int) ≤ (k : Int) := by omega
        have i1 : (k : Int) < 4 := by omega
        have hx := (HB1.out.kept HBx.out).cell (amC_get x hlt)
        have hy := (HB2.out.kept HBx.out).cell (amC_get y hlt)
        obtain ⟨p, hp⟩ : ∃ p, p = x.get k := ⟨_, rfl⟩
        obtain ⟨q, hq⟩ : ∃ q, q = y.get k := ⟨_, rfl⟩
        have p0 : 0 ≤ p ∧ p ≤ 1099511627776 := by rw [hp]; exact ok_get HX.out hlt
        have q0 : 0 ≤ q ∧ q ≤ 1099511627776 := by rw [hq]; exact ok_get HY.out hlt
        obtain ⟨p1, p2⟩ := p0
        obtain ⟨q1, q2⟩ := q0
        rw [← hp] at hx
        rw [← hq] at hy
        have HSN : Hid (shareN x y (k + 1) = if 0 < q then max (shareN x y k) (p * 1000 / q) else shareN x y k) := Lib.hid (by rw [hp, hq]; rfl)
        obtain ⟨s, hs⟩ : ∃ s, s = shareN x y k := ⟨_, rfl⟩
        rw [← hs] at HSN hs1 hs2
        rw [← hs]
        clear hp hq hs
        by_cases hq0 : 0 < q
        · have e0 : (q == 0) = false := by simp; omega
          have m1 : 0 ≤ p * 1000 / q := Int.ediv_nonneg (by omega) (by omega)
          have m2 : p * 1000 / q ≤ 1099511627776000 := Int.le_trans (Int.ediv_le_self _ (by omega)) (by omega)
          have HM : Hid (0 ≤ max s (p * 1000 / q) ∧ max s (p * 1000 / q) ≤ 1099511627776000) := Lib.hid (by omega)
          have s1 : IntKind.i64.wrap (p * 1000) = p * 1000 := by rw [IntKind.wrap_i64]; omega
          go_wp2
          go_quiet (fail)
          go_wp2
          go_roundw
          case rel => exact ⟨k + 1, by omega, by go_num, by rw [HSN.out, if_pos hq0]; first | rfl | (congr 1; omega), by rw [HSN.out, if_pos hq0]; exact HM.out.1, by rw [HSN.out, if_pos hq0]; exact HM.out.2, Lib.hid (Below.drewN' HBx.out nq)⟩
          case measure => simp [intOf]; omega
        · have hd : decide (0 < q) = false := by simpa using hq0
          go_wp2
          go_roundw
          case rel => exact ⟨k + 1, by omega, by go_num, by rw [HSN.out, if_neg hq0], by rw [HSN.out, if_neg hq0]; exact hs1, by rw [HSN.out, if_neg hq0]; exact hs2, HBx⟩
          case measure => simp [intOf]; omega
      · obtain rfl : k = 4 := by omega
        go_wp2
        go_ret2
        exact ⟨by rw [HR.out]; rfl, below_and HBW.out HBx.out⟩

theorem share_any (x y : Am) (w : World) :
    Calls Tryd.prog 20 #[amV x, amV y] w fun e w' => e = .returned (.tuple #[.int .i64 (shareR x y).1, .int .i64 (shareR x y).2]) ∧ Below w.heap.size w w' := by
  cases h : x.okB && y.okB
  · exact share_bad x y w h
  · cases hf : fitsB x y
    · exact share_nofit x y w h hf
    · exact share_good x y w h hf
end Go.Proofs.YtmgecehdicpjnaaDoor
