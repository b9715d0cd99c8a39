/- MsCmp. -/
import Derived.Test.YtopkfomlppnpeaaGreatDoorMEl
import Derived.Deep.RegionHeld3
namespace Go.Proofs.YtopkfomlppnpeaaGreatDoor.Ms
open Go.RowKit Go.Proofs.YtopkfomlppnpeaaGreatDoor

theorem below_dr {n : Nat} {a w : World} (h : Below n a w) : Below n a w.drew := Below.drewN' h 1
theorem below_al {n : Nat} {a w : World} (h : Below n a w) (hn : n ≤ w.heap.size) (o : Obj) : Below n a (w.alloc o) := h.alloc hn o
theorem below_as {a w : World} (h : Below a.heap.size a w) (o : Obj) : Below a.heap.size a (w.alloc o) := below_and h (below_alloc _ _)
theorem blk_dr {w : World} {g : Nat} {cs : List Value} {t : TypeId} (h : Blk w g cs t) : Blk w.drew g cs t := h.kept (below_drewN 1)
theorem bl_self (a : List UInt8) : ((bs a).toList != (bs a).toList) = false := by rw [bne_bs]; simp
def cmpS (a b : List UInt8) : Int := if bl a b then -1 else if a == b then 0 else 1
def cmpI (a b : Int) : Int := if a < b then -1 else if b < a then 1 else 0
set_option maxRecDepth 100000 in
set_option maxHeartbeats 2000000 in
theorem nanS_any (a : List UInt8) (w : World) : Calls Tryz.prog 146 #[.string (bs a)] w fun e w' => e = .returned (.bool false) ∧ w = w' := by
  have t0 := bl_self a
  have t1 : ((bs a).toList == (bs a).toList) = true := by rw [beq_bs]; simp
  go_enter Tryz.func146, Tryz.ntmps146
  go_wp2
  go_ret
  exact ⟨rfl, rfl⟩
set_option maxRecDepth 100000 in
set_option maxHeartbeats 2000000 in
theorem nanI_any (a : Int) (w : World) : Calls Tryz.prog 147 #[.int .i64 a] w fun e w' => e = .returned (.bool false) ∧ w = w' := by
  go_enter Tryz.func147, Tryz.ntmps147
  go_wp2
  go_ret
  exact ⟨by simp, rfl⟩
set_option maxRecDepth 100000 in
set_option maxHeartbeats 2000000 in
theorem compS_any (a b : List UInt8) (w : World) : Calls Tryz.prog 120 #[.string (bs a), .string (bs b)] w fun e w' => e = .returned (.int .i64 (cmpS a b)) ∧ w = w' := by
  obtain ⟨r, hr⟩ : ∃ r, r = cmpS a b := ⟨_, rfl⟩
  rw [← hr]
  have HR := Lib.hid hr
  clear hr
  cases h0 : bl a b
  · have l0 : Op.bytesLess (bs a).toList (bs b).toList = false := h0
    have e0 := beq_bs a b
    cases h1 : (a == b)
    · rw [h1] at e0
      have HQ : Hid (r = 1) := Lib.hid (by rw [HR.out]; unfold cmpS; rw [h0, h1]; rfl)
      clear h0 h1
      go_enter Tryz.func120, Tryz.ntmps120
      go_wp2_with (go_at_call 146; refine (nanS_any _ _).mono ?_; rintro e w2 ⟨rfl, rfl⟩)
      go_ret
      exact ⟨by rw [HQ.out]; rfl, rfl⟩
    · rw [h1] at e0
      have HQ : Hid (r = 0) := Lib.hid (by rw [HR.out]; unfold cmpS; rw [h0, h1]; rfl)
      clear h0 h1
      go_enter Tryz.func120, Tryz.ntmps120
      go_wp2_with (go_at_call 146; refine (nanS_any _ _).mono ?_; rintro e w2 ⟨rfl, rfl⟩)
      go_ret
      exact ⟨by rw [HQ.out]; rfl, rfl⟩
  · have l0 : Op.bytesLess (bs a).toList (bs b).toList = true := h0
    have HQ : Hid (r = -1) := Lib.hid (by rw [HR.out]; unfold cmpS; rw [h0]; rfl)
    clear h0
    go_enter Tryz.func120, Tryz.ntmps120
    go_wp2_with (go_at_call 146; refine (nanS_any _ _).mono ?_; rintro e w2 ⟨rfl, rfl⟩)
    go_ret
    exact ⟨by rw [HQ.out]; rfl, rfl⟩
set_option maxRecDepth 100000 in
set_option maxHeartbeats 2000000 in
theorem compI_any (a b : Int) (w : World) : Calls Tryz.prog 121 #[.int .i64 a, .int .i64 b] w fun e w' => e = .returned (.int .i64 (cmpI a b)) ∧ w = w' := by
  obtain ⟨r, hr⟩ : ∃ r, r = cmpI a b := ⟨_, rfl⟩
  rw [← hr]
  have HR := Lib.hid hr
  clear hr
  by_cases h0 : a < b
  · have HQ : Hid (r = -1) := Lib.hid (by rw [HR.out]; unfold cmpI; rw [if_pos h0])
    go_enter Tryz.func121, Tryz.ntmps121
    go_wp2_with (go_at_call 147; refine (nanI_any _ _).mono ?_; rintro e w2 ⟨rfl, rfl⟩)
    go_ret
    exact ⟨by rw [HQ.out]; rfl, rfl⟩
  · by_cases h1 : b < a
    · have HQ : Hid (r = 1) := Lib.hid (by rw [HR.out]; unfold cmpI; rw [if_neg h0, if_pos h1])
      go_enter Tryz.func121, Tryz.ntmps121
      go_wp2_with (go_at_call 147; refine (nanI_any _ _).mono ?_; rintro e w2 ⟨rfl, rfl⟩)
      go_ret
      exact ⟨by rw [HQ.out]; rfl, rfl⟩
    · have HQ : Hid (r = 0) := Lib.hid (by rw [HR.out]; unfold cmpI; rw [if_neg h0, if_neg h1])
      go_enter Tryz.func121, Tryz.ntmps121
      go_wp2_with (go_at_call 147; refine (nanI_any _ _).mono ?_; rintro e w2 ⟨rfl, rfl⟩)
      go_ret
      exact ⟨by rw [HQ.out]; rfl, rfl⟩
set_option maxRecDepth 100000 in
set_option maxHeartbeats 2000000 in
theorem or_any (x y : Int) (g : Nat) (w : World) (h : Blk w g [.int .i64 x, .int .i64 y] 3) : Calls Tryz.prog 119 #[.slice (some ⟨g, 0, none⟩) 2 2] w fun e w' => e = .returned (.int .i64 (if x = 0 then y else x)) ∧ w = w' := by
  have c0 := h.cell (j := 0) rfl
  have c1 := h.cell (j := 1) rfl
  clear h
  obtain ⟨r, hr⟩ : ∃ r, r = if x = 0 then y else x := ⟨_, rfl⟩
  rw [← hr]
  have HR := Lib.hid hr
  clear hr
  go_enter Tryz.func119, Tryz.ntmps119
  go_upto_region 3 with fail
  go_loopw [8] (fun vi wr => wr = w ∧ ∃ k : Nat, k ≤ 2 ∧ vi = .int .i64 k ∧ (0 < k → x = 0) ∧ (1 < k → y = 0)) (fun vi _ => 2 - (intOf vi).toNat)
  case atStart => exact ⟨rfl, 0, by omega, by go_num, by omega, by omega⟩
  case round =>
    obtain ⟨rfl, k, hk, rfl, h0, h1⟩ := hrel
    by_cases hk2 : k = 2
    · subst hk2
      have e0 := h0 (by omega)
      have e1 := h1 (by omega)
      have HQ : Hid (r = 0) := Lib.hid (by rw [HR.out, if_pos e0, e1])
      clear e0 e1 h0 h1
      go_wp2
      go_ret
      exact ⟨by rw [HQ.out]; rfl, rfl⟩
    · obtain ⟨z, hz⟩ : ∃ z, z = if k = 0 then x else y := ⟨_, rfl⟩
      have hc : wr.cell? ⟨g, k, none⟩ = some (.int .i64 z) := by
        rw [hz]
        rcases (show k = 0 ∨ k = 1 by omega) with rfl | rfl
        · exact c0
        · exact c1
      have i1 : (k : Int) < 2 := by omega
      have HZ := Lib.hid hz
      have H0 := Lib.hid h0
      clear hz h0 h1 c0 c1
      by_cases hz0 : z = 0
      · have t0 : (z != 0) = false := by simp [hz0]
        have HZ0 := Lib.hid hz0
        clear hz0
        go_wp2
        go_roundw
        case rel => exact ⟨trivial, k + 1, by omega, by go_num, fun _ => by (have a1 := HZ.out; have a2 := HZ0.out; have a3 := H0.out; by_cases hh : k = 0; (rw [if_pos hh] at a1; omega); exact a3 (by omega)), fun _ => by (have a1 := HZ.out; have a2 := HZ0.out; rw [if_neg (by omega)] at a1; omega)⟩
        case measure => simp [intOf]; omega
      · have t0 : (z != 0) = true := by simp [hz0]
        have HQ : Hid (r = z) := Lib.hid (by have a1 := HZ.out; have a3 := H0.out; rw [HR.out]; by_cases hh : k = 0; (rw [if_pos hh] at a1; rw [if_neg (by omega), a1]); (rw [if_neg hh] at a1; rw [if_pos (a3 (by omega)), a1]))
        clear hz0
        go_wp2
        go_ret
        exact ⟨by rw [HQ.out]; rfl, rfl⟩
theorem bt_eq (x y : El) : decide ((if cmpS x.j y.j = 0 then cmpI x.i y.i else cmpS x.j y.j) < 0) = ltT x y := by
  unfold cmpS ltT cmpI
  cases h0 : bl x.j y.j
  · cases h1 : (x.j == y.j)
    · simp
    · simp
      by_cases h2 : x.i < y.i
      · simp [h2]
      · by_cases h3 : y.i < x.i
        · simp [h2, h3]
        · simp [h2, h3]
  · simp
set_option maxRecDepth 100000 in
set_option maxHeartbeats 2000000 in
theorem byTask_any (x y : El) (w : World) : Calls Tryz.prog 61 #[.agg #[.string (bs x.j), .int .i64 x.i], .agg #[.string (bs y.j), .int .i64 y.i]] w fun e w' => (∃ z, e = .returned (.int .i64 z) ∧ decide (z < 0) = ltT x y) ∧ Below w.heap.size w w' := by
  obtain ⟨X, hX⟩ : ∃ X, X = w.heap.size := ⟨_, rfl⟩
  obtain ⟨w2, hw2⟩ : ∃ w2, w2 = (w.alloc (.cells #[.string (bs x.j), .int .i64 x.i] 35)).alloc (.cells #[.string (bs y.j), .int .i64 y.i] 35) := ⟨_, rfl⟩
  have HX : Hid (Blk w2 X [.string (bs x.j), .int .i64 x.i] 35) := Lib.hid (by rw [hw2, hX]; exact (Blk.made w [.string (bs x.j), .int .i64 x.i] _).alloc _)
  have HY : Hid (Blk w2 (X + 1) [.string (bs y.j), .int .i64 y.i] 35) := Lib.hid (by rw [hw2, hX]; have := Blk.made (w.alloc (.cells #[.string (bs x.j), .int .i64 x.i] 35)) [.string (bs y.j), .int .i64 y.i] 35; simpa using this)
  have HB : Hid (Below w.heap.size w w2) := Lib.hid (by rw [hw2]; exact below_and (below_alloc _ _) (below_alloc _ _))
  go_enter Tryz.func61, Tryz.ntmps61
  go_upto_region 1 with fail
  have hs1 : (w.alloc (.cells #[.string (bs x.j), .int .i64 x.i] 35)).heap.size = X + 1 := by rw [hX]; simp
  rw [← hw2, ← hX]
  clear hw2 hX hs1
  obtain ⟨u, hu⟩ : ∃ u, u = cmpS x.j y.j := ⟨_, rfl⟩
  obtain ⟨v, hv⟩ : ∃ v, v = cmpI x.i y.i := ⟨_, rfl⟩
  have HU : Hid (∀ w', Calls Tryz.prog 120 #[.string (bs x.j), .string (bs y.j)] w' fun e w2 => e = .returned (.int .i64 u) ∧ w' = w2) := Lib.hid (fun w' => by rw [hu]; exact compS_any _ _ _)
  have HV : Hid (∀ w', Calls Tryz.prog 121 #[.int .i64 x.i, .int .i64 y.i] w' fun e w2 => e = .returned (.int .i64 v) ∧ w' = w2) := Lib.hid (fun w' => by rw [hv]; exact compI_any _ _ _)
  obtain ⟨z, hz⟩ : ∃ z, z = if u = 0 then v else u := ⟨_, rfl⟩
  have HZ : Hid (decide (z < 0) = ltT x y) := Lib.hid (by rw [hz, hu, hv]; exact bt_eq x y)
  have HO : Hid (∀ g w', Blk w' g [.int .i64 u, .int .i64 v] 3 → Calls Tryz.prog 119 #[.slice (some ⟨g, 0, none⟩) 2 2] w' fun e w2 => e = .returned (.int .i64 z) ∧ w' = w2) := Lib.hid (fun g w' h => by rw [hz]; exact or_any u v g w' h)
  clear hu hv hz
  have HSS : Hid (∀ w', Below w2.heap.size w2 w' → w'.cell? ⟨X, 0, none⟩ = some (.string (bs x.j)) ∧ w'.cell? ⟨X, 1, none⟩ = some (.int .i64 x.i) ∧ w'.cell? ⟨X + 1, 0, none⟩ = some (.string (bs y.j)) ∧ w'.cell? ⟨X + 1, 1, none⟩ = some (.int .i64 y.i)) := Lib.hid (fun w' hb => ⟨(HX.out.kept hb).cell (j := 0) rfl, (HX.out.kept hb).cell (j := 1) rfl, (HY.out.kept hb).cell (j := 0) rfl, (HY.out.kept hb).cell (j := 1) rfl⟩)
  go_region_held3 (fun w' => w'.cell? ⟨X, 0, none⟩ = some (.string (bs x.j)) ∧ w'.cell? ⟨X, 1, none⟩ = some (.int .i64 x.i) ∧ w'.cell? ⟨X + 1, 0, none⟩ = some (.string (bs y.j)) ∧ w'.cell? ⟨X + 1, 1, none⟩ = some (.int .i64 y.i))
    ((refine HSS.out _ ?_ <;> (repeat (first | with_reducible exact Below.refl _ _ | apply below_dr | apply below_as))))
    (first
      | (go_at_call 120; refine (HU.out _).mono ?_; rintro e w5 ⟨rfl, rfl⟩)
      | (go_at_call 121; refine (HV.out _).mono ?_; rintro e w5 ⟨rfl, rfl⟩)
      | (go_at_call 119; refine (HO.out _ _ (by repeat (first | exact Blk.made _ [.int .i64 u, .int .i64 v] _ | apply blk_dr))).mono ?_; rintro e w5 ⟨rfl, rfl⟩))
  go_wp2
  go_ret
  exact ⟨⟨z, rfl, HZ.out⟩, by repeat (first | with_reducible exact HB.out | apply below_dr | apply below_as)⟩
end Go.Proofs.YtopkfomlppnpeaaGreatDoor.Ms
