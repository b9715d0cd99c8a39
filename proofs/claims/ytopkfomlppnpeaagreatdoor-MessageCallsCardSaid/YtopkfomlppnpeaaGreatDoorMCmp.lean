/- , laid together: MsCmp, MsMay, MsLess. -/
import Derived.Test.YtopkfomlppnpeaaGreatDoorMEl
import Derived.Deep.RegionHeld3
namespace Go.Proofs.YtopkfomlppnpeaaGreatDoor.Ms
open Go.RowKit Go.Proofs.YtopkfomlppnpeaaGreatDoor

theorem below_dr {n : Nat} {a w : World} (h : Below n a w) : Below n a w.drew := Below.drewN' h 1
theorem below_as {a w : World} (h : Below a.heap.size a w) (o : Obj) : Below a.heap.size a (w.alloc o) := below_and h (below_alloc _ _)
theorem blk_dr {w : World} {g : Nat} {cs : List Value} {t : TypeId} (h : Blk w g cs t) : Blk w.drew g cs t := h.kept (below_drewN 1)
theorem bl_self (a : List UInt8) : ((bs a).toList != (bs a).toList) = false := by rw [bne_bs]; simp
def cmpS (a b : List UInt8) : Int := if bl a b then -1 else if a == b then 0 else 1
def cmpI (a b : Int) : Int := if a < b then -1 else if b < a then 1 else 0
set_option maxRecDepth 100000 in
set_option maxHeartbeats 2000000 in
theorem nanS_any (a : List UInt8) (w : World) : Calls Tryz.prog 146 #[.string (bs a)] w fun e w' => e = .returned (.bool false) ∧ w = w' := by
  have t0 := bl_self a
  have t1 : ((bs a).toList == (bs a).toList) = true := by rw [beq_bs]; simp
  go_enter Tryz.func146, Tryz.ntmps146
  go_wp2
  go_ret
  exact ⟨rfl, rfl⟩
set_option maxRecDepth 100000 in
set_option maxHeartbeats 2000000 in
theorem nanI_any (a : Int) (w : World) : Calls Tryz.prog 147 #[.int .i64 a] w fun e w' => e = .returned (.bool false) ∧ w = w' := by
  go_enter Tryz.func147, Tryz.ntmps147
  go_wp2
  go_ret
  exact ⟨by simp, rfl⟩
set_option maxRecDepth 100000 in
set_option maxHeartbeats 2000000 in
theorem compS_any (a b : List UInt8) (w : World) : Calls Tryz.prog 120 #[.string (bs a), .string (bs b)] w fun e w' => e = .returned (.int .i64 (cmpS a b)) ∧ w = w' := by
  obtain ⟨r, hr⟩ : ∃ r, r = cmpS a b := ⟨_, rfl⟩
  rw [← hr]
  have HR := Lib.hid hr
  clear hr
  cases h0 : bl a b
  · have l0 : Op.bytesLess (bs a).toList (bs b).toList = false := h0
    have e0 := beq_bs a b
    cases h1 : (a == b)
    · rw [h1] at e0
      have HQ : Hid (r = 1) := Lib.hid (by rw [HR.out]; unfold cmpS; rw [h0, h1]; rfl)
      clear h0 h1
      go_enter Tryz.func120, Tryz.ntmps120
      go_wp2_with (go_at_call 146; refine (nanS_any _ _).mono ?_; rintro e w2 ⟨rfl, rfl⟩)
      go_ret
      exact ⟨by rw [HQ.out]; rfl, rfl⟩
    · rw [h1] at e0
      have HQ : Hid (r = 0) := Lib.hid (by rw [HR.out]; unfold cmpS; rw [h0, h1]; rfl)
      clear h0 h1
      go_enter Tryz.func120, Tryz.ntmps120
      go_wp2_with (go_at_call 146; refine (nanS_any _ _).mono ?_; rintro e w2 ⟨rfl, rfl⟩)
      go_ret
      exact ⟨by rw [HQ.out]; rfl, rfl⟩
  · have l0 : Op.bytesLess (bs a).toList (bs b).toList = true := h0
    have HQ : Hid (r = -1) := Lib.hid (by rw [HR.out]; unfold cmpS; rw [h0]; rfl)
    clear h0
    go_enter Tryz.func120, Tryz.ntmps120
    go_wp2_with (go_at_call 146; refine (nanS_any _ _).mono ?_; rintro e w2 ⟨rfl, rfl⟩)
    go_ret
    exact ⟨by rw [HQ.out]; rfl, rfl⟩
set_option maxRecDepth 100000 in
set_option maxHeartbeats 2000000 in
theorem compI_any (a b : Int) (w : World) : Calls Tryz.prog 121 #[.int .i64 a, .int .i64 b] w fun e w' => e = .returned (.int .i64 (cmpI a b)) ∧ w = w' := by
  obtain ⟨r, hr⟩ : ∃ r, r = cmpI a b := ⟨_, rfl⟩
  rw [← hr]
  have HR := Lib.hid hr
  clear hr
  by_cases h0 : a < b
  · have HQ : Hid (r = -1) := Lib.hid (by rw [HR.out]; unfold cmpI; rw [if_pos h0])
    go_enter Tryz.func121, Tryz.ntmps121
    go_wp2_with (go_at_call 147; refine (nanI_any _ _).mono ?_; rintro e w2 ⟨rfl, rfl⟩)
    go_ret
    exact ⟨by rw [HQ.out]; rfl, rfl⟩
  · by_cases h1 : b < a
    · have HQ : Hid (r = 1) := Lib.hid (by rw [HR.out]; unfold cmpI; rw [if_neg h0, if_pos h1])
      go_enter Tryz.func121, Tryz.ntmps121
      go_wp2_with (go_at_call 147; refine (nanI_any _ _).mono ?_; rintro e w2 ⟨rfl, rfl⟩)
      go_ret
      exact ⟨by rw [HQ.out]; rfl, rfl⟩
    · have HQ : Hid (r = 0) := Lib.hid (by rw [HR.out]; unfold cmpI; rw [if_neg h0, if_neg h1])
      go_enter Tryz.func121, Tryz.ntmps121
      go_wp2_with (go_at_call 147; refine (nanI_any _ _).mono ?_; rintro e w2 ⟨rfl, rfl⟩)
      go_ret
      exact ⟨by rw [HQ.out]; rfl, rfl⟩
set_option maxRecDepth 100000 in
set_option maxHeartbeats 2000000 in
theorem or_any (x y : Int) (g : Nat) (w : World) (h : Blk w g [.int .i64 x, .int .i64 y] 3) : Calls Tryz.prog 119 #[.slice (some ⟨g, 0, none⟩) 2 2] w fun e w' => e = .returned (.int .i64 (if x = 0 then y else x)) ∧ w = w' := by
  have c0 := h.cell (j := 0) rfl
  have c1 := h.cell (j := 1) rfl
  clear h
  obtain ⟨r, hr⟩ : ∃ r, r = if x = 0 then y else x := ⟨_, rfl⟩
  rw [← hr]
  have HR := Lib.hid hr
  clear hr
  go_enter Tryz.func119, Tryz.ntmps119
  go_upto_region 3 with fail
  go_loopw [8] (fun vi wr => wr = w ∧ ∃ k : Nat, k ≤ 2 ∧ vi = .int .i64 k ∧ (0 < k → x = 0) ∧ (1 < k → y = 0)) (fun vi _ => 2 - (intOf vi).toNat)
  case atStart => exact ⟨rfl, 0, by omega, by go_num, by omega, by omega⟩
  case round =>
    obtain ⟨rfl, k, hk, rfl, h0, h1⟩ := hrel
    by_cases hk2 : k = 2
    · subst hk2
      have e0 := h0 (by omega)
      have e1 := h1 (by omega)
      have HQ : Hid (r = 0) := Lib.hid (by rw [HR.out, if_pos e0, e1])
      clear e0 e1 h0 h1
      go_wp2
      go_ret
      exact ⟨by rw [HQ.out]; rfl, rfl⟩
    · obtain ⟨z, hz⟩ : ∃ z, z = if k = 0 then x else y := ⟨_, rfl⟩
      have hc : wr.cell? ⟨g, k, none⟩ = some (.int .i64 z) := by
        rw [hz]
        rcases (show k = 0 ∨ k = 1 by omega) with rfl | rfl
        · exact c0
        · exact c1
      have i1 : (k : Int) < 2 := by omega
      have HZ := Lib.hid hz
      have H0 := Lib.hid h0
      clear hz h0 h1 c0 c1
      by_cases hz0 : z = 0
      · have t0 : (z != 0) = false := by simp [hz0]
        have HZ0 := Lib.hid hz0
        clear hz0
        go_wp2
        go_roundw
        case rel => exact ⟨trivial, k + 1, by omega, by go_num, fun _ => by (have a1 := HZ.out; have a2 := HZ0.out; have a3 := H0.out; by_cases hh : k = 0; (rw [if_pos hh] at a1; omega); exact a3 (by omega)), fun _ => by (have a1 := HZ.out; have a2 := HZ0.out; rw [if_neg (by omega)] at a1; omega)⟩
        case measure => simp [intOf]; omega
      · have t0 : (z != 0) = true := by simp [hz0]
        have HQ : Hid (r = z) := Lib.hid (by have a1 := HZ.out; have a3 := H0.out; rw [HR.out]; by_cases hh : k = 0; (rw [if_pos hh] at a1; rw [if_neg (by omega), a1]); (rw [if_neg hh] at a1; rw [if_pos (a3 (by omega)), a1]))
        clear hz0
        go_wp2
        go_ret
        exact ⟨by rw [HQ.out]; rfl, rfl⟩
theorem bt_eq (x y : El) : decide ((if cmpS x.j y.j = 0 then cmpI x.i y.i else cmpS x.j y.j) < 0) = ltT x y := by
  unfold cmpS ltT cmpI
  cases h0 : bl x.j y.j
  · cases h1 : (x.j == y.j)
    · simp
    · simp
      by_cases h2 : x.i < y.i
      · simp [h2]
      · by_cases h3 : y.i < x.i
        · simp [h2, h3]
        · simp [h2, h3]
  · simp
set_option maxRecDepth 100000 in
set_option maxHeartbeats 2000000 in
theorem byTask_any (x y : El) (w : World) : Calls Tryz.prog 61 #[.agg #[.string (bs x.j), .int .i64 x.i], .agg #[.string (bs y.j), .int .i64 y.i]] w fun e w' => (∃ z, e = .returned (.int .i64 z) ∧ decide (z < 0) = ltT x y) ∧ Below w.heap.size w w' := by
  obtain ⟨X, hX⟩ : ∃ X, X = w.heap.size := ⟨_, rfl⟩
  obtain ⟨w2, hw2⟩ : ∃ w2, w2 = (w.alloc (.cells #[.string (bs x.j), .int .i64 x.i] 35)).alloc (.cells #[.string (bs y.j), .int .i64 y.i] 35) := ⟨_, rfl⟩
  have HX : Hid (Blk w2 X [.string (bs x.j), .int .i64 x.i] 35) := Lib.hid (by rw [hw2, hX]; exact (Blk.made w [.string (bs x.j), .int .i64 x.i] _).alloc _)
  have HY : Hid (Blk w2 (X + 1) [.string (bs y.j), .int .i64 y.i] 35) := Lib.hid (by rw [hw2, hX]; have := Blk.made (w.alloc (.cells #[.string (bs x.j), .int .i64 x.i] 35)) [.string (bs y.j), .int .i64 y.i] 35; simpa using this)
  have HB : Hid (Below w.heap.size w w2) := Lib.hid (by rw [hw2]; exact below_and (below_alloc _ _) (below_alloc _ _))
  go_enter Tryz.func61, Tryz.ntmps61
  go_upto_region 1 with fail
  have hs1 : (w.alloc (.cells #[.string (bs x.j), .int .i64 x.i] 35)).heap.size = X + 1 := by rw [hX]; simp
  rw [← hw2, ← hX]
  clear hw2 hX hs1
  obtain ⟨u, hu⟩ : ∃ u, u = cmpS x.j y.j := ⟨_, rfl⟩
  obtain ⟨v, hv⟩ : ∃ v, v = cmpI x.i y.i := ⟨_, rfl⟩
  have HU : Hid (∀ w', Calls Tryz.prog 120 #[.string (bs x.j), .string (bs y.j)] w' fun e w2 => e = .returned (.int .i64 u) ∧ w' = w2) := Lib.hid (fun w' => by rw [hu]; exact compS_any _ _ _)
  have HV : Hid (∀ w', Calls Tryz.prog 121 #[.int .i64 x.i, .int .i64 y.i] w' fun e w2 => e = .returned (.int .i64 v) ∧ w' = w2) := Lib.hid (fun w' => by rw [hv]; exact compI_any _ _ _)
  obtain ⟨z, hz⟩ : ∃ z, z = if u = 0 then v else u := ⟨_, rfl⟩
  have HZ : Hid (decide (z < 0) = ltT x y) := Lib.hid (by rw [hz, hu, hv]; exact bt_eq x y)
  have HO : Hid (∀ g w', Blk w' g [.int .i64 u, .int .i64 v] 3 → Calls Tryz.prog 119 #[.slice (some ⟨g, 0, none⟩) 2 2] w' fun e w2 => e = .returned (.int .i64 z) ∧ w' = w2) := Lib.hid (fun g w' h => by rw [hz]; exact or_any u v g w' h)
  clear hu hv hz
  have HSS : Hid (∀ w', Below w2.heap.size w2 w' → w'.cell? ⟨X, 0, none⟩ = some (.string (bs x.j)) ∧ w'.cell? ⟨X, 1, none⟩ = some (.int .i64 x.i) ∧ w'.cell? ⟨X + 1, 0, none⟩ = some (.string (bs y.j)) ∧ w'.cell? ⟨X + 1, 1, none⟩ = some (.int .i64 y.i)) := Lib.hid (fun w' hb => ⟨(HX.out.kept hb).cell (j := 0) rfl, (HX.out.kept hb).cell (j := 1) rfl, (HY.out.kept hb).cell (j := 0) rfl, (HY.out.kept hb).cell (j := 1) rfl⟩)
  go_region_held3 (fun w' => w'.cell? ⟨X, 0, none⟩ = some (.string (bs x.j)) ∧ w'.cell? ⟨X, 1, none⟩ = some (.int .i64 x.i) ∧ w'.cell? ⟨X + 1, 0, none⟩ = some (.string (bs y.j)) ∧ w'.cell? ⟨X + 1, 1, none⟩ = some (.int .i64 y.i))
    ((refine HSS.out _ ?_ <;> (repeat (first | with_reducible exact Below.refl _ _ | apply below_dr | apply below_as))))
    (first
      | (go_at_call 120; refine (HU.out _).mono ?_; rintro e w5 ⟨rfl, rfl⟩)
      | (go_at_call 121; refine (HV.out _).mono ?_; rintro e w5 ⟨rfl, rfl⟩)
      | (go_at_call 119; refine (HO.out _ _ (by repeat (first | exact Blk.made _ [.int .i64 u, .int .i64 v] _ | apply blk_dr))).mono ?_; rintro e w5 ⟨rfl, rfl⟩))
  go_wp2
  go_ret
  exact ⟨⟨z, rfl, HZ.out⟩, by repeat (first | with_reducible exact HB.out | apply below_dr | apply below_as)⟩
end Go.Proofs.YtopkfomlppnpeaaGreatDoor.Ms

namespace Go.Proofs.YtopkfomlppnpeaaGreatDoor.Ms
open Go.RowKit Go.Proofs.YtopkfomlppnpeaaGreatDoor

theorem chk_eq (a : Am) : (a.chk == 0) = a.okB := by unfold Am.chk; cases a.okB <;> rfl
theorem am_neq (x y : Am) (w : World) : (binOp .neq 37 (amV x) (amV y)).run Tryz.prog w = .ok (.bool (!(decide (x = y)))) w := by
  go_simp
  obtain ⟨a, b, c, d⟩ := x
  obtain ⟨a', b', c', d'⟩ := y
  simp only [Am.mk.injEq]
  by_cases h1 : a = a'
  · rw [if_pos h1]
    by_cases h2 : b = b'
    · rw [if_pos h2]
      by_cases h3 : c = c'
      · rw [if_pos h3]
        by_cases h4 : d = d'
        · rw [if_pos h4, decide_eq_true ⟨h1, h2, h3, h4⟩]; rfl
        · rw [if_neg h4, decide_eq_false (fun h => h4 h.2.2.2)]; rfl
      · rw [if_neg h3, decide_eq_false (fun h => h3 h.2.2.1)]; rfl
    · rw [if_neg h2, decide_eq_false (fun h => h2 h.2.1)]; rfl
  · rw [if_neg h1, decide_eq_false (fun h => h1 h.1)]; rfl
theorem nil_bs (l : List UInt8) : ((bs l).toList == (⟨#[]⟩ : ByteArray).toList) = (l == []) := by
  have := beq_bs l []
  exact this
set_option maxRecDepth 100000 in
set_option maxHeartbeats 2000000 in
theorem envM_any (x : El) (w : World) (ht : TxOk x) (hE : ErrV w) : Calls Tryz.prog 56 #[envV x] w fun e w' => e = .returned (.bool (envM x)) ∧ Below w.heap.size w w' := by
  obtain ⟨r, hr⟩ : ∃ r, r = envM x := ⟨_, rfl⟩
  rw [← hr]
  have HR := Lib.hid hr
  clear hr
  obtain ⟨X, hX⟩ : ∃ X, X = w.heap.size := ⟨_, rfl⟩
  obtain ⟨w1, hw1⟩ : ∃ w1, w1 = w.alloc (.cells #[.string (bs x.j), .int .i64 x.a.c, .int .i64 x.a.r, .int .i64 x.a.d, .int .i64 x.a.p] 66) := ⟨_, rfl⟩
  have HX1 : Hid (Blk w1 X [.string (bs x.j), .int .i64 x.a.c, .int .i64 x.a.r, .int .i64 x.a.d, .int .i64 x.a.p] 66) := Lib.hid (by rw [hw1, hX]; exact Blk.made w [.string (bs x.j), .int .i64 x.a.c, .int .i64 x.a.r, .int .i64 x.a.d, .int .i64 x.a.p] _)
  have HB1 : Hid (Below w.heap.size w w1) := Lib.hid (by rw [hw1]; exact below_alloc _ _)
  have HJ := Lib.hid ht.j
  have HS := Lib.hid ht.s
  clear ht
  have HE := Lib.hid hE
  clear hE
  obtain ⟨tn, htn⟩ : ∃ tn, tn = (tnB x.j) := ⟨_, rfl⟩
  have CTN : Hid (∀ w', Below w.heap.size w w' → Calls Tryz.prog 57 #[.string (bs x.j)] w' fun e w2 => e = .returned (.bool tn) ∧ Below w'.heap.size w' w2) := Lib.hid (fun w' hb => by rw [htn]; exact isName_any _ _ HJ.out (HE.out.below hb))
  have Etn := Lib.hid htn
  clear htn
  obtain ⟨ok, hok⟩ : ∃ ok, ok = (x.a.okB) := ⟨_, rfl⟩
  obtain ⟨er, her⟩ : ∃ er, er = x.a.chk := ⟨_, rfl⟩
  have CCK : Hid (∀ w', Calls Tryz.prog 58 #[amV x.a] w' fun e w2 => e = .returned (.int .i64 er) ∧ Below w'.heap.size w' w2) := Lib.hid (fun w' => by rw [her]; exact check_any _ _)
  have tok : (er == 0) = ok := by rw [her, hok]; exact chk_eq _
  clear her
  have Eok := Lib.hid hok
  clear hok
  go_enter Tryz.func56, Tryz.ntmps56
  go_upto_region 1 with fail
  rw [← hw1, ← hX]
  clear hw1 hX
  have c0 := HX1.out.cell (j := 0) rfl
  have c1 := HX1.out.cell (j := 1) rfl
  have c2 := HX1.out.cell (j := 2) rfl
  have c3 := HX1.out.cell (j := 3) rfl
  have c4 := HX1.out.cell (j := 4) rfl
  cases tn
  · have HQ : Hid (r = false) := Lib.hid (by rw [HR.out]; unfold envM; have etn := Etn.out; rw [← etn]; first | rfl | simp)
    go_wp2_with (first | (go_at_call 57; refine (CTN.out _ HB1.out).mono ?_; rintro e w2 ⟨rfl, hb⟩; have HX2 := Lib.hid (HX1.out.kept hb); have HB2 := Lib.hid (below_and HB1.out hb); have d2_0 := HX2.out.cell (j := 0) rfl; have d2_1 := HX2.out.cell (j := 1) rfl; have d2_2 := HX2.out.cell (j := 2) rfl; have d2_3 := HX2.out.cell (j := 3) rfl; have d2_4 := HX2.out.cell (j := 4) rfl; clear hb) | (go_at_call 58; refine (CCK.out _).mono ?_; rintro e w3 ⟨rfl, hb⟩; have HX3 := Lib.hid (HX2.out.kept hb); have HB3 := Lib.hid (below_and HB2.out hb); have d3_0 := HX3.out.cell (j := 0) rfl; have d3_1 := HX3.out.cell (j := 1) rfl; have d3_2 := HX3.out.cell (j := 2) rfl; have d3_3 := HX3.out.cell (j := 3) rfl; have d3_4 := HX3.out.cell (j := 4) rfl; clear hb))
    go_ret
    exact ⟨ret_bool HQ.out.symm, by first | exact HB4.out | exact HB3.out | exact HB2.out | exact HB1.out⟩
  · cases ok
    · have HQ : Hid (r = false) := Lib.hid (by rw [HR.out]; unfold envM; have etn := Etn.out; have eok := Eok.out; rw [← etn, ← eok]; first | rfl | simp)
      go_wp2_with (first | (go_at_call 57; refine (CTN.out _ HB1.out).mono ?_; rintro e w2 ⟨rfl, hb⟩; have HX2 := Lib.hid (HX1.out.kept hb); have HB2 := Lib.hid (below_and HB1.out hb); have d2_0 := HX2.out.cell (j := 0) rfl; have d2_1 := HX2.out.cell (j := 1) rfl; have d2_2 := HX2.out.cell (j := 2) rfl; have d2_3 := HX2.out.cell (j := 3) rfl; have d2_4 := HX2.out.cell (j := 4) rfl; clear hb) | (go_at_call 58; refine (CCK.out _).mono ?_; rintro e w3 ⟨rfl, hb⟩; have HX3 := Lib.hid (HX2.out.kept hb); have HB3 := Lib.hid (below_and HB2.out hb); have d3_0 := HX3.out.cell (j := 0) rfl; have d3_1 := HX3.out.cell (j := 1) rfl; have d3_2 := HX3.out.cell (j := 2) rfl; have d3_3 := HX3.out.cell (j := 3) rfl; have d3_4 := HX3.out.cell (j := 4) rfl; clear hb))
      go_ret
      exact ⟨ret_bool HQ.out.symm, by first | exact HB4.out | exact HB3.out | exact HB2.out | exact HB1.out⟩
    · have HQ : Hid (r = true) := Lib.hid (by rw [HR.out]; unfold envM; have etn := Etn.out; have eok := Eok.out; rw [← etn, ← eok]; first | rfl | simp)
      go_wp2_with (first | (go_at_call 57; refine (CTN.out _ HB1.out).mono ?_; rintro e w2 ⟨rfl, hb⟩; have HX2 := Lib.hid (HX1.out.kept hb); have HB2 := Lib.hid (below_and HB1.out hb); have d2_0 := HX2.out.cell (j := 0) rfl; have d2_1 := HX2.out.cell (j := 1) rfl; have d2_2 := HX2.out.cell (j := 2) rfl; have d2_3 := HX2.out.cell (j := 3) rfl; have d2_4 := HX2.out.cell (j := 4) rfl; clear hb) | (go_at_call 58; refine (CCK.out _).mono ?_; rintro e w3 ⟨rfl, hb⟩; have HX3 := Lib.hid (HX2.out.kept hb); have HB3 := Lib.hid (below_and HB2.out hb); have d3_0 := HX3.out.cell (j := 0) rfl; have d3_1 := HX3.out.cell (j := 1) rfl; have d3_2 := HX3.out.cell (j := 2) rfl; have d3_3 := HX3.out.cell (j := 3) rfl; have d3_4 := HX3.out.cell (j := 4) rfl; clear hb))
      go_ret
      exact ⟨ret_bool HQ.out.symm, by first | exact HB4.out | exact HB3.out | exact HB2.out | exact HB1.out⟩
set_option maxRecDepth 100000 in
set_option maxHeartbeats 2000000 in
theorem staM_any (x : El) (w : World) (ht : TxOk x) (hE : ErrV w) : Calls Tryz.prog 62 #[staV x] w fun e w' => e = .returned (.bool (staM x)) ∧ Below w.heap.size w w' := by
  obtain ⟨r, hr⟩ : ∃ r, r = staM x := ⟨_, rfl⟩
  rw [← hr]
  have HR := Lib.hid hr
  clear hr
  obtain ⟨X, hX⟩ : ∃ X, X = w.heap.size := ⟨_, rfl⟩
  obtain ⟨w1, hw1⟩ : ∃ w1, w1 = w.alloc (.cells #[.string (bs x.j), .int .i64 x.i, .int .u64 x.n, .int .i64 x.a.c, .int .i64 x.a.r, .int .i64 x.a.d, .int .i64 x.a.p, .string (bs x.s)] 39) := ⟨_, rfl⟩
  have HX1 : Hid (Blk w1 X [.string (bs x.j), .int .i64 x.i, .int .u64 x.n, .int .i64 x.a.c, .int .i64 x.a.r, .int .i64 x.a.d, .int .i64 x.a.p, .string (bs x.s)] 39) := Lib.hid (by rw [hw1, hX]; exact Blk.made w [.string (bs x.j), .int .i64 x.i, .int .u64 x.n, .int .i64 x.a.c, .int .i64 x.a.r, .int .i64 x.a.d, .int .i64 x.a.p, .string (bs x.s)] _)
  have HB1 : Hid (Below w.heap.size w w1) := Lib.hid (by rw [hw1]; exact below_alloc _ _)
  have HJ := Lib.hid ht.j
  have HS := Lib.hid ht.s
  clear ht
  have HE := Lib.hid hE
  clear hE
  obtain ⟨tk, htk⟩ : ∃ tk, tk = (tkB x.j x.i) := ⟨_, rfl⟩
  have CTK : Hid (∀ w', Calls Tryz.prog 63 #[.agg #[.string (bs x.j), .int .i64 x.i]] w' fun e w2 => e = .returned (.bool tk) ∧ Below w'.heap.size w' w2) := Lib.hid (fun w' => by rw [htk]; exact isTask_any _ _ _ HJ.out)
  have Etk := Lib.hid htk
  clear htk
  obtain ⟨n1, hn1⟩ : ∃ n1, n1 = (decide (1 ≤ x.n)) := ⟨_, rfl⟩
  have tn1 : decide (1 ≤ x.n) = n1 := hn1.symm
  have En1 := Lib.hid hn1
  clear hn1
  obtain ⟨ok, hok⟩ : ∃ ok, ok = (x.a.okB) := ⟨_, rfl⟩
  obtain ⟨er, her⟩ : ∃ er, er = x.a.chk := ⟨_, rfl⟩
  have CCK : Hid (∀ w', Calls Tryz.prog 58 #[amV x.a] w' fun e w2 => e = .returned (.int .i64 er) ∧ Below w'.heap.size w' w2) := Lib.hid (fun w' => by rw [her]; exact check_any _ _)
  have tok : (er == 0) = ok := by rw [her, hok]; exact chk_eq _
  clear her
  have Eok := Lib.hid hok
  clear hok
  obtain ⟨nz, hnz⟩ : ∃ nz, nz = (!(decide (x.a = Am.zero))) := ⟨_, rfl⟩
  have tnz : ∀ w, (binOp .neq 37 (.agg #[.int .i64 x.a.c, .int .i64 x.a.r, .int .i64 x.a.d, .int .i64 x.a.p]) (.agg #[.int .i64 0, .int .i64 0, .int .i64 0, .int .i64 0])).run Tryz.prog w = .ok (.bool nz) w := fun w => by rw [hnz]; exact am_neq x.a Am.zero w
  have Enz := Lib.hid hnz
  clear hnz
  obtain ⟨s0, hs0⟩ : ∃ s0, s0 = (x.s == []) := ⟨_, rfl⟩
  have ts0 : ((bs x.s).toList == (⟨#[]⟩ : ByteArray).toList) = s0 := by rw [hs0]; exact nil_bs x.s
  have ts1 : ((bs x.s).toList == ([] : List UInt8)) = s0 := by rw [hs0, Lib.toList_data, bs_data]
  have Es0 := Lib.hid hs0
  clear hs0
  obtain ⟨sn, hsn⟩ : ∃ sn, sn = (tnB x.s) := ⟨_, rfl⟩
  have CTN : Hid (∀ w', Below w.heap.size w w' → Calls Tryz.prog 57 #[.string (bs x.s)] w' fun e w2 => e = .returned (.bool sn) ∧ Below w'.heap.size w' w2) := Lib.hid (fun w' hb => by rw [hsn]; exact isName_any _ _ HS.out (HE.out.below hb))
  have Esn := Lib.hid hsn
  clear hsn
  go_enter Tryz.func62, Tryz.ntmps62
  go_upto_region 1 with fail
  rw [← hw1, ← hX]
  clear hw1 hX
  have c0 := HX1.out.cell (j := 0) rfl
  have c1 := HX1.out.cell (j := 1) rfl
  have c2 := HX1.out.cell (j := 2) rfl
  have c3 := HX1.out.cell (j := 3) rfl
  have c4 := HX1.out.cell (j := 4) rfl
  have c5 := HX1.out.cell (j := 5) rfl
  have c6 := HX1.out.cell (j := 6) rfl
  have c7 := HX1.out.cell (j := 7) rfl
  cases tk
  · have HQ : Hid (r = false) := Lib.hid (by rw [HR.out]; unfold staM tk; have etk := Etk.out; rw [← etk]; first | rfl | simp)
    go_wp2_with (first | (go_at_call 63; refine (CTK.out _).mono ?_; rintro e w2 ⟨rfl, hb⟩; have HX2 := Lib.hid (HX1.out.kept hb); have HB2 := Lib.hid (below_and HB1.out hb); have d2_0 := HX2.out.cell (j := 0) rfl; have d2_1 := HX2.out.cell (j := 1) rfl; have d2_2 := HX2.out.cell (j := 2) rfl; have d2_3 := HX2.out.cell (j := 3) rfl; have d2_4 := HX2.out.cell (j := 4) rfl; have d2_5 := HX2.out.cell (j := 5) rfl; have d2_6 := HX2.out.cell (j := 6) rfl; have d2_7 := HX2.out.cell (j := 7) rfl; clear hb) | (go_at_call 58; refine (CCK.out _).mono ?_; rintro e w3 ⟨rfl, hb⟩; have HX3 := Lib.hid (HX2.out.kept hb); have HB3 := Lib.hid (below_and HB2.out hb); have d3_0 := HX3.out.cell (j := 0) rfl; have d3_1 := HX3.out.cell (j := 1) rfl; have d3_2 := HX3.out.cell (j := 2) rfl; have d3_3 := HX3.out.cell (j := 3) rfl; have d3_4 := HX3.out.cell (j := 4) rfl; have d3_5 := HX3.out.cell (j := 5) rfl; have d3_6 := HX3.out.cell (j := 6) rfl; have d3_7 := HX3.out.cell (j := 7) rfl; clear hb) | (go_at_call 57; refine (CTN.out _ HB3.out).mono ?_; rintro e w4 ⟨rfl, hb⟩; have HB4 := Lib.hid (below_and HB3.out hb); clear hb))
    go_ret
    exact ⟨ret_bool HQ.out.symm, by first | exact HB4.out | exact HB3.out | exact HB2.out | exact HB1.out⟩
  · cases n1
    · have HQ : Hid (r = false) := Lib.hid (by rw [HR.out]; unfold staM tk; have etk := Etk.out; have en1 := En1.out; rw [← etk, ← en1]; first | rfl | simp)
      go_wp2_with (first | (go_at_call 63; refine (CTK.out _).mono ?_; rintro e w2 ⟨rfl, hb⟩; have HX2 := Lib.hid (HX1.out.kept hb); have HB2 := Lib.hid (below_and HB1.out hb); have d2_0 := HX2.out.cell (j := 0) rfl; have d2_1 := HX2.out.cell (j := 1) rfl; have d2_2 := HX2.out.cell (j := 2) rfl; have d2_3 := HX2.out.cell (j := 3) rfl; have d2_4 := HX2.out.cell (j := 4) rfl; have d2_5 := HX2.out.cell (j := 5) rfl; have d2_6 := HX2.out.cell (j := 6) rfl; have d2_7 := HX2.out.cell (j := 7) rfl; clear hb) | (go_at_call 58; refine (CCK.out _).mono ?_; rintro e w3 ⟨rfl, hb⟩; have HX3 := Lib.hid (HX2.out.kept hb); have HB3 := Lib.hid (below_and HB2.out hb); have d3_0 := HX3.out.cell (j := 0) rfl; have d3_1 := HX3.out.cell (j := 1) rfl; have d3_2 := HX3.out.cell (j := 2) rfl; have d3_3 := HX3.out.cell (j := 3) rfl; have d3_4 := HX3.out.cell (j := 4) rfl; have d3_5 := HX3.out.cell (j := 5) rfl; have d3_6 := HX3.out.cell (j := 6) rfl; have d3_7 := HX3.out.cell (j := 7) rfl; clear hb) | (go_at_call 57; refine (CTN.out _ HB3.out).mono ?_; rintro e w4 ⟨rfl, hb⟩; have HB4 := Lib.hid (below_and HB3.out hb); clear hb))
      go_ret
      exact ⟨ret_bool HQ.out.symm, by first | exact HB4.out | exact HB3.out | exact HB2.out | exact HB1.out⟩
    · cases ok
      · have HQ : Hid (r = false) := Lib.hid (by rw [HR.out]; unfold staM tk; have etk := Etk.out; have en1 := En1.out; have eok := Eok.out; rw [← etk, ← en1, ← eok]; first | rfl | simp)
        go_wp2_with (first | (go_at_call 63; refine (CTK.out _).mono ?_; rintro e w2 ⟨rfl, hb⟩; have HX2 := Lib.hid (HX1.out.kept hb); have HB2 := Lib.hid (below_and HB1.out hb); have d2_0 := HX2.out.cell (j := 0) rfl; have d2_1 := HX2.out.cell (j := 1) rfl; have d2_2 := HX2.out.cell (j := 2) rfl; have d2_3 := HX2.out.cell (j := 3) rfl; have d2_4 := HX2.out.cell (j := 4) rfl; have d2_5 := HX2.out.cell (j := 5) rfl; have d2_6 := HX2.out.cell (j := 6) rfl; have d2_7 := HX2.out.cell (j := 7) rfl; clear hb) | (go_at_call 58; refine (CCK.out _).mono ?_; rintro e w3 ⟨rfl, hb⟩; have HX3 := Lib.hid (HX2.out.kept hb); have HB3 := Lib.hid (below_and HB2.out hb); have d3_0 := HX3.out.cell (j := 0) rfl; have d3_1 := HX3.out.cell (j := 1) rfl; have d3_2 := HX3.out.cell (j := 2) rfl; have d3_3 := HX3.out.cell (j := 3) rfl; have d3_4 := HX3.out.cell (j := 4) rfl; have d3_5 := HX3.out.cell (j := 5) rfl; have d3_6 := HX3.out.cell (j := 6) rfl; have d3_7 := HX3.out.cell (j := 7) rfl; clear hb) | (go_at_call 57; refine (CTN.out _ HB3.out).mono ?_; rintro e w4 ⟨rfl, hb⟩; have HB4 := Lib.hid (below_and HB3.out hb); clear hb))
        go_ret
        exact ⟨ret_bool HQ.out.symm, by first | exact HB4.out | exact HB3.out | exact HB2.out | exact HB1.out⟩
      · cases nz
        · have HQ : Hid (r = false) := Lib.hid (by rw [HR.out]; unfold staM tk; have etk := Etk.out; have en1 := En1.out; have eok := Eok.out; have enz := Enz.out; rw [← etk, ← en1, ← eok, ← enz]; first | rfl | simp)
          go_wp2_with (first | (go_at_call 63; refine (CTK.out _).mono ?_; rintro e w2 ⟨rfl, hb⟩; have HX2 := Lib.hid (HX1.out.kept hb); have HB2 := Lib.hid (below_and HB1.out hb); have d2_0 := HX2.out.cell (j := 0) rfl; have d2_1 := HX2.out.cell (j := 1) rfl; have d2_2 := HX2.out.cell (j := 2) rfl; have d2_3 := HX2.out.cell (j := 3) rfl; have d2_4 := HX2.out.cell (j := 4) rfl; have d2_5 := HX2.out.cell (j := 5) rfl; have d2_6 := HX2.out.cell (j := 6) rfl; have d2_7 := HX2.out.cell (j := 7) rfl; clear hb) | (go_at_call 58; refine (CCK.out _).mono ?_; rintro e w3 ⟨rfl, hb⟩; have HX3 := Lib.hid (HX2.out.kept hb); have HB3 := Lib.hid (below_and HB2.out hb); have d3_0 := HX3.out.cell (j := 0) rfl; have d3_1 := HX3.out.cell (j := 1) rfl; have d3_2 := HX3.out.cell (j := 2) rfl; have d3_3 := HX3.out.cell (j := 3) rfl; have d3_4 := HX3.out.cell (j := 4) rfl; have d3_5 := HX3.out.cell (j := 5) rfl; have d3_6 := HX3.out.cell (j := 6) rfl; have d3_7 := HX3.out.cell (j := 7) rfl; clear hb) | (go_at_call 57; refine (CTN.out _ HB3.out).mono ?_; rintro e w4 ⟨rfl, hb⟩; have HB4 := Lib.hid (below_and HB3.out hb); clear hb))
          go_ret
          exact ⟨ret_bool HQ.out.symm, by first | exact HB4.out | exact HB3.out | exact HB2.out | exact HB1.out⟩
        · cases s0
          · cases sn
            · have HQ : Hid (r = false) := Lib.hid (by rw [HR.out]; unfold staM tk; have etk := Etk.out; have en1 := En1.out; have eok := Eok.out; have enz := Enz.out; have es0 := Es0.out; have esn := Esn.out; rw [← etk, ← en1, ← eok, ← enz, ← es0, ← esn]; first | rfl | simp)
              go_wp2_with (first | (go_at_call 63; refine (CTK.out _).mono ?_; rintro e w2 ⟨rfl, hb⟩; have HX2 := Lib.hid (HX1.out.kept hb); have HB2 := Lib.hid (below_and HB1.out hb); have d2_0 := HX2.out.cell (j := 0) rfl; have d2_1 := HX2.out.cell (j := 1) rfl; have d2_2 := HX2.out.cell (j := 2) rfl; have d2_3 := HX2.out.cell (j := 3) rfl; have d2_4 := HX2.out.cell (j := 4) rfl; have d2_5 := HX2.out.cell (j := 5) rfl; have d2_6 := HX2.out.cell (j := 6) rfl; have d2_7 := HX2.out.cell (j := 7) rfl; clear hb) | (go_at_call 58; refine (CCK.out _).mono ?_; rintro e w3 ⟨rfl, hb⟩; have HX3 := Lib.hid (HX2.out.kept hb); have HB3 := Lib.hid (below_and HB2.out hb); have d3_0 := HX3.out.cell (j := 0) rfl; have d3_1 := HX3.out.cell (j := 1) rfl; have d3_2 := HX3.out.cell (j := 2) rfl; have d3_3 := HX3.out.cell (j := 3) rfl; have d3_4 := HX3.out.cell (j := 4) rfl; have d3_5 := HX3.out.cell (j := 5) rfl; have d3_6 := HX3.out.cell (j := 6) rfl; have d3_7 := HX3.out.cell (j := 7) rfl; clear hb) | (go_at_call 57; refine (CTN.out _ HB3.out).mono ?_; rintro e w4 ⟨rfl, hb⟩; have HB4 := Lib.hid (below_and HB3.out hb); clear hb))
              go_ret
              exact ⟨ret_bool HQ.out.symm, by first | exact HB4.out | exact HB3.out | exact HB2.out | exact HB1.out⟩
            · have HQ : Hid (r = true) := Lib.hid (by rw [HR.out]; unfold staM tk; have etk := Etk.out; have en1 := En1.out; have eok := Eok.out; have enz := Enz.out; have es0 := Es0.out; have esn := Esn.out; rw [← etk, ← en1, ← eok, ← enz, ← es0, ← esn]; first | rfl | simp)
              go_wp2_with (first | (go_at_call 63; refine (CTK.out _).mono ?_; rintro e w2 ⟨rfl, hb⟩; have HX2 := Lib.hid (HX1.out.kept hb); have HB2 := Lib.hid (below_and HB1.out hb); have d2_0 := HX2.out.cell (j := 0) rfl; have d2_1 := HX2.out.cell (j := 1) rfl; have d2_2 := HX2.out.cell (j := 2) rfl; have d2_3 := HX2.out.cell (j := 3) rfl; have d2_4 := HX2.out.cell (j := 4) rfl; have d2_5 := HX2.out.cell (j := 5) rfl; have d2_6 := HX2.out.cell (j := 6) rfl; have d2_7 := HX2.out.cell (j := 7) rfl; clear hb) | (go_at_call 58; refine (CCK.out _).mono ?_; rintro e w3 ⟨rfl, hb⟩; have HX3 := Lib.hid (HX2.out.kept hb); have HB3 := Lib.hid (below_and HB2.out hb); have d3_0 := HX3.out.cell (j := 0) rfl; have d3_1 := HX3.out.cell (j := 1) rfl; have d3_2 := HX3.out.cell (j := 2) rfl; have d3_3 := HX3.out.cell (j := 3) rfl; have d3_4 := HX3.out.cell (j := 4) rfl; have d3_5 := HX3.out.cell (j := 5) rfl; have d3_6 := HX3.out.cell (j := 6) rfl; have d3_7 := HX3.out.cell (j := 7) rfl; clear hb) | (go_at_call 57; refine (CTN.out _ HB3.out).mono ?_; rintro e w4 ⟨rfl, hb⟩; have HB4 := Lib.hid (below_and HB3.out hb); clear hb))
              go_ret
              exact ⟨ret_bool HQ.out.symm, by first | exact HB4.out | exact HB3.out | exact HB2.out | exact HB1.out⟩
          · have HQ : Hid (r = true) := Lib.hid (by rw [HR.out]; unfold staM tk; have etk := Etk.out; have en1 := En1.out; have eok := Eok.out; have enz := Enz.out; have es0 := Es0.out; rw [← etk, ← en1, ← eok, ← enz, ← es0]; first | rfl | simp)
            go_wp2_with (first | (go_at_call 63; refine (CTK.out _).mono ?_; rintro e w2 ⟨rfl, hb⟩; have HX2 := Lib.hid (HX1.out.kept hb); have HB2 := Lib.hid (below_and HB1.out hb); have d2_0 := HX2.out.cell (j := 0) rfl; have d2_1 := HX2.out.cell (j := 1) rfl; have d2_2 := HX2.out.cell (j := 2) rfl; have d2_3 := HX2.out.cell (j := 3) rfl; have d2_4 := HX2.out.cell (j := 4) rfl; have d2_5 := HX2.out.cell (j := 5) rfl; have d2_6 := HX2.out.cell (j := 6) rfl; have d2_7 := HX2.out.cell (j := 7) rfl; clear hb) | (go_at_call 58; refine (CCK.out _).mono ?_; rintro e w3 ⟨rfl, hb⟩; have HX3 := Lib.hid (HX2.out.kept hb); have HB3 := Lib.hid (below_and HB2.out hb); have d3_0 := HX3.out.cell (j := 0) rfl; have d3_1 := HX3.out.cell (j := 1) rfl; have d3_2 := HX3.out.cell (j := 2) rfl; have d3_3 := HX3.out.cell (j := 3) rfl; have d3_4 := HX3.out.cell (j := 4) rfl; have d3_5 := HX3.out.cell (j := 5) rfl; have d3_6 := HX3.out.cell (j := 6) rfl; have d3_7 := HX3.out.cell (j := 7) rfl; clear hb) | (go_at_call 57; refine (CTN.out _ HB3.out).mono ?_; rintro e w4 ⟨rfl, hb⟩; have HB4 := Lib.hid (below_and HB3.out hb); clear hb))
            go_ret
            exact ⟨ret_bool HQ.out.symm, by first | exact HB4.out | exact HB3.out | exact HB2.out | exact HB1.out⟩
set_option maxRecDepth 100000 in
set_option maxHeartbeats 2000000 in
theorem stoM_any (x : El) (w : World) (ht : TxOk x) : Calls Tryz.prog 66 #[stoV x] w fun e w' => e = .returned (.bool (stoM x)) ∧ Below w.heap.size w w' := by
  obtain ⟨r, hr⟩ : ∃ r, r = stoM x := ⟨_, rfl⟩
  rw [← hr]
  have HR := Lib.hid hr
  clear hr
  obtain ⟨X, hX⟩ : ∃ X, X = w.heap.size := ⟨_, rfl⟩
  obtain ⟨w1, hw1⟩ : ∃ w1, w1 = w.alloc (.cells #[.string (bs x.j), .int .i64 x.i, .int .u64 x.n] 75) := ⟨_, rfl⟩
  have HX1 : Hid (Blk w1 X [.string (bs x.j), .int .i64 x.i, .int .u64 x.n] 75) := Lib.hid (by rw [hw1, hX]; exact Blk.made w [.string (bs x.j), .int .i64 x.i, .int .u64 x.n] _)
  have HB1 : Hid (Below w.heap.size w w1) := Lib.hid (by rw [hw1]; exact below_alloc _ _)
  have HJ := Lib.hid ht.j
  have HS := Lib.hid ht.s
  clear ht
  obtain ⟨tk, htk⟩ : ∃ tk, tk = (tkB x.j x.i) := ⟨_, rfl⟩
  have CTK : Hid (∀ w', Calls Tryz.prog 63 #[.agg #[.string (bs x.j), .int .i64 x.i]] w' fun e w2 => e = .returned (.bool tk) ∧ Below w'.heap.size w' w2) := Lib.hid (fun w' => by rw [htk]; exact isTask_any _ _ _ HJ.out)
  have Etk := Lib.hid htk
  clear htk
  obtain ⟨n1, hn1⟩ : ∃ n1, n1 = (decide (1 ≤ x.n)) := ⟨_, rfl⟩
  have tn1 : decide (1 ≤ x.n) = n1 := hn1.symm
  have En1 := Lib.hid hn1
  clear hn1
  go_enter Tryz.func66, Tryz.ntmps66
  go_upto_region 1 with fail
  rw [← hw1, ← hX]
  clear hw1 hX
  have c0 := HX1.out.cell (j := 0) rfl
  have c1 := HX1.out.cell (j := 1) rfl
  have c2 := HX1.out.cell (j := 2) rfl
  cases tk
  · have HQ : Hid (r = false) := Lib.hid (by rw [HR.out]; unfold stoM tk; have etk := Etk.out; rw [← etk]; first | rfl | simp)
    go_wp2_with (first | (go_at_call 63; refine (CTK.out _).mono ?_; rintro e w2 ⟨rfl, hb⟩; have HX2 := Lib.hid (HX1.out.kept hb); have HB2 := Lib.hid (below_and HB1.out hb); have d2_0 := HX2.out.cell (j := 0) rfl; have d2_1 := HX2.out.cell (j := 1) rfl; have d2_2 := HX2.out.cell (j := 2) rfl; clear hb))
    go_ret
    exact ⟨ret_bool HQ.out.symm, by first | exact HB4.out | exact HB3.out | exact HB2.out | exact HB1.out⟩
  · cases n1
    · have HQ : Hid (r = false) := Lib.hid (by rw [HR.out]; unfold stoM tk; have etk := Etk.out; have en1 := En1.out; rw [← etk, ← en1]; first | rfl | simp)
      go_wp2_with (first | (go_at_call 63; refine (CTK.out _).mono ?_; rintro e w2 ⟨rfl, hb⟩; have HX2 := Lib.hid (HX1.out.kept hb); have HB2 := Lib.hid (below_and HB1.out hb); have d2_0 := HX2.out.cell (j := 0) rfl; have d2_1 := HX2.out.cell (j := 1) rfl; have d2_2 := HX2.out.cell (j := 2) rfl; clear hb))
      go_ret
      exact ⟨ret_bool HQ.out.symm, by first | exact HB4.out | exact HB3.out | exact HB2.out | exact HB1.out⟩
    · have HQ : Hid (r = true) := Lib.hid (by rw [HR.out]; unfold stoM tk; have etk := Etk.out; have en1 := En1.out; rw [← etk, ← en1]; first | rfl | simp)
      go_wp2_with (first | (go_at_call 63; refine (CTK.out _).mono ?_; rintro e w2 ⟨rfl, hb⟩; have HX2 := Lib.hid (HX1.out.kept hb); have HB2 := Lib.hid (below_and HB1.out hb); have d2_0 := HX2.out.cell (j := 0) rfl; have d2_1 := HX2.out.cell (j := 1) rfl; have d2_2 := HX2.out.cell (j := 2) rfl; clear hb))
      go_ret
      exact ⟨ret_bool HQ.out.symm, by first | exact HB4.out | exact HB3.out | exact HB2.out | exact HB1.out⟩
set_option maxRecDepth 100000 in
set_option maxHeartbeats 2000000 in
theorem helM_any (x : El) (w : World) (ht : TxOk x) : Calls Tryz.prog 73 #[helV x] w fun e w' => e = .returned (.bool (helM x)) ∧ Below w.heap.size w w' := by
  obtain ⟨r, hr⟩ : ∃ r, r = helM x := ⟨_, rfl⟩
  rw [← hr]
  have HR := Lib.hid hr
  clear hr
  obtain ⟨X, hX⟩ : ∃ X, X = w.heap.size := ⟨_, rfl⟩
  obtain ⟨w1, hw1⟩ : ∃ w1, w1 = w.alloc (.cells #[.string (bs x.j), .int .i64 x.i, .int .u64 x.n, .int .i64 x.q] 88) := ⟨_, rfl⟩
  have HX1 : Hid (Blk w1 X [.string (bs x.j), .int .i64 x.i, .int .u64 x.n, .int .i64 x.q] 88) := Lib.hid (by rw [hw1, hX]; exact Blk.made w [.string (bs x.j), .int .i64 x.i, .int .u64 x.n, .int .i64 x.q] _)
  have HB1 : Hid (Below w.heap.size w w1) := Lib.hid (by rw [hw1]; exact below_alloc _ _)
  have HJ := Lib.hid ht.j
  have HS := Lib.hid ht.s
  clear ht
  obtain ⟨tk, htk⟩ : ∃ tk, tk = (tkB x.j x.i) := ⟨_, rfl⟩
  have CTK : Hid (∀ w', Calls Tryz.prog 63 #[.agg #[.string (bs x.j), .int .i64 x.i]] w' fun e w2 => e = .returned (.bool tk) ∧ Below w'.heap.size w' w2) := Lib.hid (fun w' => by rw [htk]; exact isTask_any _ _ _ HJ.out)
  have Etk := Lib.hid htk
  clear htk
  obtain ⟨n1, hn1⟩ : ∃ n1, n1 = (decide (1 ≤ x.n)) := ⟨_, rfl⟩
  have tn1 : decide (1 ≤ x.n) = n1 := hn1.symm
  have En1 := Lib.hid hn1
  clear hn1
  obtain ⟨q1, hq1⟩ : ∃ q1, q1 = (decide (1 ≤ x.q)) := ⟨_, rfl⟩
  have tq1 : decide (1 ≤ x.q) = q1 := hq1.symm
  have Eq1 := Lib.hid hq1
  clear hq1
  obtain ⟨q2, hq2⟩ : ∃ q2, q2 = (decide (x.q ≤ 3)) := ⟨_, rfl⟩
  have tq2 : decide (x.q ≤ 3) = q2 := hq2.symm
  have Eq2 := Lib.hid hq2
  clear hq2
  go_enter Tryz.func73, Tryz.ntmps73
  go_upto_region 1 with fail
  rw [← hw1, ← hX]
  clear hw1 hX
  have c0 := HX1.out.cell (j := 0) rfl
  have c1 := HX1.out.cell (j := 1) rfl
  have c2 := HX1.out.cell (j := 2) rfl
  have c3 := HX1.out.cell (j := 3) rfl
  cases tk
  · have HQ : Hid (r = false) := Lib.hid (by rw [HR.out]; unfold helM tk; have etk := Etk.out; rw [← etk]; first | rfl | simp)
    go_wp2_with (first | (go_at_call 63; refine (CTK.out _).mono ?_; rintro e w2 ⟨rfl, hb⟩; have HX2 := Lib.hid (HX1.out.kept hb); have HB2 := Lib.hid (below_and HB1.out hb); have d2_0 := HX2.out.cell (j := 0) rfl; have d2_1 := HX2.out.cell (j := 1) rfl; have d2_2 := HX2.out.cell (j := 2) rfl; have d2_3 := HX2.out.cell (j := 3) rfl; clear hb))
    go_ret
    exact ⟨ret_bool HQ.out.symm, by first | exact HB4.out | exact HB3.out | exact HB2.out | exact HB1.out⟩
  · cases n1
    · have HQ : Hid (r = false) := Lib.hid (by rw [HR.out]; unfold helM tk; have etk := Etk.out; have en1 := En1.out; rw [← etk, ← en1]; first | rfl | simp)
      go_wp2_with (first | (go_at_call 63; refine (CTK.out _).mono ?_; rintro e w2 ⟨rfl, hb⟩; have HX2 := Lib.hid (HX1.out.kept hb); have HB2 := Lib.hid (below_and HB1.out hb); have d2_0 := HX2.out.cell (j := 0) rfl; have d2_1 := HX2.out.cell (j := 1) rfl; have d2_2 := HX2.out.cell (j := 2) rfl; have d2_3 := HX2.out.cell (j := 3) rfl; clear hb))
      go_ret
      exact ⟨ret_bool HQ.out.symm, by first | exact HB4.out | exact HB3.out | exact HB2.out | exact HB1.out⟩
    · cases q1
      · have HQ : Hid (r = false) := Lib.hid (by rw [HR.out]; unfold helM tk; have etk := Etk.out; have en1 := En1.out; have eq1 := Eq1.out; rw [← etk, ← en1, ← eq1]; first | rfl | simp)
        go_wp2_with (first | (go_at_call 63; refine (CTK.out _).mono ?_; rintro e w2 ⟨rfl, hb⟩; have HX2 := Lib.hid (HX1.out.kept hb); have HB2 := Lib.hid (below_and HB1.out hb); have d2_0 := HX2.out.cell (j := 0) rfl; have d2_1 := HX2.out.cell (j := 1) rfl; have d2_2 := HX2.out.cell (j := 2) rfl; have d2_3 := HX2.out.cell (j := 3) rfl; clear hb))
        go_ret
        exact ⟨ret_bool HQ.out.symm, by first | exact HB4.out | exact HB3.out | exact HB2.out | exact HB1.out⟩
      · cases q2
        · have HQ : Hid (r = false) := Lib.hid (by rw [HR.out]; unfold helM tk; have etk := Etk.out; have en1 := En1.out; have eq1 := Eq1.out; have eq2 := Eq2.out; rw [← etk, ← en1, ← eq1, ← eq2]; first | rfl | simp)
          go_wp2_with (first | (go_at_call 63; refine (CTK.out _).mono ?_; rintro e w2 ⟨rfl, hb⟩; have HX2 := Lib.hid (HX1.out.kept hb); have HB2 := Lib.hid (below_and HB1.out hb); have d2_0 := HX2.out.cell (j := 0) rfl; have d2_1 := HX2.out.cell (j := 1) rfl; have d2_2 := HX2.out.cell (j := 2) rfl; have d2_3 := HX2.out.cell (j := 3) rfl; clear hb))
          go_ret
          exact ⟨ret_bool HQ.out.symm, by first | exact HB4.out | exact HB3.out | exact HB2.out | exact HB1.out⟩
        · have HQ : Hid (r = true) := Lib.hid (by rw [HR.out]; unfold helM tk; have etk := Etk.out; have en1 := En1.out; have eq1 := Eq1.out; have eq2 := Eq2.out; rw [← etk, ← en1, ← eq1, ← eq2]; first | rfl | simp)
          go_wp2_with (first | (go_at_call 63; refine (CTK.out _).mono ?_; rintro e w2 ⟨rfl, hb⟩; have HX2 := Lib.hid (HX1.out.kept hb); have HB2 := Lib.hid (below_and HB1.out hb); have d2_0 := HX2.out.cell (j := 0) rfl; have d2_1 := HX2.out.cell (j := 1) rfl; have d2_2 := HX2.out.cell (j := 2) rfl; have d2_3 := HX2.out.cell (j := 3) rfl; clear hb))
          go_ret
          exact ⟨ret_bool HQ.out.symm, by first | exact HB4.out | exact HB3.out | exact HB2.out | exact HB1.out⟩
set_option maxRecDepth 100000 in
set_option maxHeartbeats 2000000 in
theorem finM_any (x : El) (w : World) (ht : TxOk x) : Calls Tryz.prog 76 #[finV x] w fun e w' => e = .returned (.bool (finM x)) ∧ Below w.heap.size w w' := by
  obtain ⟨r, hr⟩ : ∃ r, r = finM x := ⟨_, rfl⟩
  rw [← hr]
  have HR := Lib.hid hr
  clear hr
  obtain ⟨X, hX⟩ : ∃ X, X = w.heap.size := ⟨_, rfl⟩
  obtain ⟨w1, hw1⟩ : ∃ w1, w1 = w.alloc (.cells #[.int .u64 x.k, .string (bs x.j), .int .i64 x.i, .int .u64 x.n, .int .i64 x.q] 95) := ⟨_, rfl⟩
  have HX1 : Hid (Blk w1 X [.int .u64 x.k, .string (bs x.j), .int .i64 x.i, .int .u64 x.n, .int .i64 x.q] 95) := Lib.hid (by rw [hw1, hX]; exact Blk.made w [.int .u64 x.k, .string (bs x.j), .int .i64 x.i, .int .u64 x.n, .int .i64 x.q] _)
  have HB1 : Hid (Below w.heap.size w w1) := Lib.hid (by rw [hw1]; exact below_alloc _ _)
  have HJ := Lib.hid ht.j
  have HS := Lib.hid ht.s
  clear ht
  obtain ⟨tk, htk⟩ : ∃ tk, tk = (tkB x.j x.i) := ⟨_, rfl⟩
  have CTK : Hid (∀ w', Calls Tryz.prog 63 #[.agg #[.string (bs x.j), .int .i64 x.i]] w' fun e w2 => e = .returned (.bool tk) ∧ Below w'.heap.size w' w2) := Lib.hid (fun w' => by rw [htk]; exact isTask_any _ _ _ HJ.out)
  have Etk := Lib.hid htk
  clear htk
  obtain ⟨k1, hk1⟩ : ∃ k1, k1 = (decide (1 ≤ x.k)) := ⟨_, rfl⟩
  have tk1 : decide (1 ≤ x.k) = k1 := hk1.symm
  have Ek1 := Lib.hid hk1
  clear hk1
  obtain ⟨n1, hn1⟩ : ∃ n1, n1 = (decide (1 ≤ x.n)) := ⟨_, rfl⟩
  have tn1 : decide (1 ≤ x.n) = n1 := hn1.symm
  have En1 := Lib.hid hn1
  clear hn1
  obtain ⟨q1, hq1⟩ : ∃ q1, q1 = (decide (0 ≤ x.q)) := ⟨_, rfl⟩
  have tq1 : decide (0 ≤ x.q) = q1 := hq1.symm
  have Eq1 := Lib.hid hq1
  clear hq1
  obtain ⟨q2, hq2⟩ : ∃ q2, q2 = (decide (x.q ≤ 258)) := ⟨_, rfl⟩
  have tq2 : decide (x.q ≤ 258) = q2 := hq2.symm
  have Eq2 := Lib.hid hq2
  clear hq2
  go_enter Tryz.func76, Tryz.ntmps76
  go_upto_region 1 with fail
  rw [← hw1, ← hX]
  clear hw1 hX
  have c0 := HX1.out.cell (j := 0) rfl
  have c1 := HX1.out.cell (j := 1) rfl
  have c2 := HX1.out.cell (j := 2) rfl
  have c3 := HX1.out.cell (j := 3) rfl
  have c4 := HX1.out.cell (j := 4) rfl
  cases tk
  · have HQ : Hid (r = false) := Lib.hid (by rw [HR.out]; unfold finM tk; have etk := Etk.out; rw [← etk]; first | rfl | simp)
    go_wp2_with (first | (go_at_call 63; refine (CTK.out _).mono ?_; rintro e w2 ⟨rfl, hb⟩; have HX2 := Lib.hid (HX1.out.kept hb); have HB2 := Lib.hid (below_and HB1.out hb); have d2_0 := HX2.out.cell (j := 0) rfl; have d2_1 := HX2.out.cell (j := 1) rfl; have d2_2 := HX2.out.cell (j := 2) rfl; have d2_3 := HX2.out.cell (j := 3) rfl; have d2_4 := HX2.out.cell (j := 4) rfl; clear hb))
    go_ret
    exact ⟨ret_bool HQ.out.symm, by first | exact HB4.out | exact HB3.out | exact HB2.out | exact HB1.out⟩
  · cases k1
    · have HQ : Hid (r = false) := Lib.hid (by rw [HR.out]; unfold finM tk; have etk := Etk.out; have ek1 := Ek1.out; rw [← etk, ← ek1]; first | rfl | simp)
      go_wp2_with (first | (go_at_call 63; refine (CTK.out _).mono ?_; rintro e w2 ⟨rfl, hb⟩; have HX2 := Lib.hid (HX1.out.kept hb); have HB2 := Lib.hid (below_and HB1.out hb); have d2_0 := HX2.out.cell (j := 0) rfl; have d2_1 := HX2.out.cell (j := 1) rfl; have d2_2 := HX2.out.cell (j := 2) rfl; have d2_3 := HX2.out.cell (j := 3) rfl; have d2_4 := HX2.out.cell (j := 4) rfl; clear hb))
      go_ret
      exact ⟨ret_bool HQ.out.symm, by first | exact HB4.out | exact HB3.out | exact HB2.out | exact HB1.out⟩
    · cases n1
      · have HQ : Hid (r = false) := Lib.hid (by rw [HR.out]; unfold finM tk; have etk := Etk.out; have ek1 := Ek1.out; have en1 := En1.out; rw [← etk, ← ek1, ← en1]; first | rfl | simp)
        go_wp2_with (first | (go_at_call 63; refine (CTK.out _).mono ?_; rintro e w2 ⟨rfl, hb⟩; have HX2 := Lib.hid (HX1.out.kept hb); have HB2 := Lib.hid (below_and HB1.out hb); have d2_0 := HX2.out.cell (j := 0) rfl; have d2_1 := HX2.out.cell (j := 1) rfl; have d2_2 := HX2.out.cell (j := 2) rfl; have d2_3 := HX2.out.cell (j := 3) rfl; have d2_4 := HX2.out.cell (j := 4) rfl; clear hb))
        go_ret
        exact ⟨ret_bool HQ.out.symm, by first | exact HB4.out | exact HB3.out | exact HB2.out | exact HB1.out⟩
      · cases q1
        · have HQ : Hid (r = false) := Lib.hid (by rw [HR.out]; unfold finM tk; have etk := Etk.out; have ek1 := Ek1.out; have en1 := En1.out; have eq1 := Eq1.out; rw [← etk, ← ek1, ← en1, ← eq1]; first | rfl | simp)
          go_wp2_with (first | (go_at_call 63; refine (CTK.out _).mono ?_; rintro e w2 ⟨rfl, hb⟩; have HX2 := Lib.hid (HX1.out.kept hb); have HB2 := Lib.hid (below_and HB1.out hb); have d2_0 := HX2.out.cell (j := 0) rfl; have d2_1 := HX2.out.cell (j := 1) rfl; have d2_2 := HX2.out.cell (j := 2) rfl; have d2_3 := HX2.out.cell (j := 3) rfl; have d2_4 := HX2.out.cell (j := 4) rfl; clear hb))
          go_ret
          exact ⟨ret_bool HQ.out.symm, by first | exact HB4.out | exact HB3.out | exact HB2.out | exact HB1.out⟩
        · cases q2
          · have HQ : Hid (r = false) := Lib.hid (by rw [HR.out]; unfold finM tk; have etk := Etk.out; have ek1 := Ek1.out; have en1 := En1.out; have eq1 := Eq1.out; have eq2 := Eq2.out; rw [← etk, ← ek1, ← en1, ← eq1, ← eq2]; first | rfl | simp)
            go_wp2_with (first | (go_at_call 63; refine (CTK.out _).mono ?_; rintro e w2 ⟨rfl, hb⟩; have HX2 := Lib.hid (HX1.out.kept hb); have HB2 := Lib.hid (below_and HB1.out hb); have d2_0 := HX2.out.cell (j := 0) rfl; have d2_1 := HX2.out.cell (j := 1) rfl; have d2_2 := HX2.out.cell (j := 2) rfl; have d2_3 := HX2.out.cell (j := 3) rfl; have d2_4 := HX2.out.cell (j := 4) rfl; clear hb))
            go_ret
            exact ⟨ret_bool HQ.out.symm, by first | exact HB4.out | exact HB3.out | exact HB2.out | exact HB1.out⟩
          · have HQ : Hid (r = true) := Lib.hid (by rw [HR.out]; unfold finM tk; have etk := Etk.out; have ek1 := Ek1.out; have en1 := En1.out; have eq1 := Eq1.out; have eq2 := Eq2.out; rw [← etk, ← ek1, ← en1, ← eq1, ← eq2]; first | rfl | simp)
            go_wp2_with (first | (go_at_call 63; refine (CTK.out _).mono ?_; rintro e w2 ⟨rfl, hb⟩; have HX2 := Lib.hid (HX1.out.kept hb); have HB2 := Lib.hid (below_and HB1.out hb); have d2_0 := HX2.out.cell (j := 0) rfl; have d2_1 := HX2.out.cell (j := 1) rfl; have d2_2 := HX2.out.cell (j := 2) rfl; have d2_3 := HX2.out.cell (j := 3) rfl; have d2_4 := HX2.out.cell (j := 4) rfl; clear hb))
            go_ret
            exact ⟨ret_bool HQ.out.symm, by first | exact HB4.out | exact HB3.out | exact HB2.out | exact HB1.out⟩
set_option maxRecDepth 100000 in
set_option maxHeartbeats 2000000 in
theorem refM_any (x : El) (w : World) (ht : TxOk x) : Calls Tryz.prog 79 #[refV x] w fun e w' => e = .returned (.bool (refM x)) ∧ Below w.heap.size w w' := by
  obtain ⟨r, hr⟩ : ∃ r, r = refM x := ⟨_, rfl⟩
  rw [← hr]
  have HR := Lib.hid hr
  clear hr
  obtain ⟨X, hX⟩ : ∃ X, X = w.heap.size := ⟨_, rfl⟩
  obtain ⟨w1, hw1⟩ : ∃ w1, w1 = w.alloc (.cells #[.string (bs x.j), .int .i64 x.i, .int .u64 x.n, .int .i64 x.q] 99) := ⟨_, rfl⟩
  have HX1 : Hid (Blk w1 X [.string (bs x.j), .int .i64 x.i, .int .u64 x.n, .int .i64 x.q] 99) := Lib.hid (by rw [hw1, hX]; exact Blk.made w [.string (bs x.j), .int .i64 x.i, .int .u64 x.n, .int .i64 x.q] _)
  have HB1 : Hid (Below w.heap.size w w1) := Lib.hid (by rw [hw1]; exact below_alloc _ _)
  have HJ := Lib.hid ht.j
  have HS := Lib.hid ht.s
  clear ht
  obtain ⟨tk, htk⟩ : ∃ tk, tk = (tkB x.j x.i) := ⟨_, rfl⟩
  have CTK : Hid (∀ w', Calls Tryz.prog 63 #[.agg #[.string (bs x.j), .int .i64 x.i]] w' fun e w2 => e = .returned (.bool tk) ∧ Below w'.heap.size w' w2) := Lib.hid (fun w' => by rw [htk]; exact isTask_any _ _ _ HJ.out)
  have Etk := Lib.hid htk
  clear htk
  obtain ⟨n1, hn1⟩ : ∃ n1, n1 = (decide (1 ≤ x.n)) := ⟨_, rfl⟩
  have tn1 : decide (1 ≤ x.n) = n1 := hn1.symm
  have En1 := Lib.hid hn1
  clear hn1
  obtain ⟨q1, hq1⟩ : ∃ q1, q1 = (decide (1 ≤ x.q)) := ⟨_, rfl⟩
  have tq1 : decide (1 ≤ x.q) = q1 := hq1.symm
  have Eq1 := Lib.hid hq1
  clear hq1
  obtain ⟨q2, hq2⟩ : ∃ q2, q2 = (decide (x.q ≤ 19)) := ⟨_, rfl⟩
  have tq2 : decide (x.q ≤ 19) = q2 := hq2.symm
  have Eq2 := Lib.hid hq2
  clear hq2
  go_enter Tryz.func79, Tryz.ntmps79
  go_upto_region 1 with fail
  rw [← hw1, ← hX]
  clear hw1 hX
  have c0 := HX1.out.cell (j := 0) rfl
  have c1 := HX1.out.cell (j := 1) rfl
  have c2 := HX1.out.cell (j := 2) rfl
  have c3 := HX1.out.cell (j := 3) rfl
  cases tk
  · have HQ : Hid (r = false) := Lib.hid (by rw [HR.out]; unfold refM tk; have etk := Etk.out; rw [← etk]; first | rfl | simp)
    go_wp2_with (first | (go_at_call 63; refine (CTK.out _).mono ?_; rintro e w2 ⟨rfl, hb⟩; have HX2 := Lib.hid (HX1.out.kept hb); have HB2 := Lib.hid (below_and HB1.out hb); have d2_0 := HX2.out.cell (j := 0) rfl; have d2_1 := HX2.out.cell (j := 1) rfl; have d2_2 := HX2.out.cell (j := 2) rfl; have d2_3 := HX2.out.cell (j := 3) rfl; clear hb))
    go_ret
    exact ⟨ret_bool HQ.out.symm, by first | exact HB4.out | exact HB3.out | exact HB2.out | exact HB1.out⟩
  · cases n1
    · have HQ : Hid (r = false) := Lib.hid (by rw [HR.out]; unfold refM tk; have etk := Etk.out; have en1 := En1.out; rw [← etk, ← en1]; first | rfl | simp)
      go_wp2_with (first | (go_at_call 63; refine (CTK.out _).mono ?_; rintro e w2 ⟨rfl, hb⟩; have HX2 := Lib.hid (HX1.out.kept hb); have HB2 := Lib.hid (below_and HB1.out hb); have d2_0 := HX2.out.cell (j := 0) rfl; have d2_1 := HX2.out.cell (j := 1) rfl; have d2_2 := HX2.out.cell (j := 2) rfl; have d2_3 := HX2.out.cell (j := 3) rfl; clear hb))
      go_ret
      exact ⟨ret_bool HQ.out.symm, by first | exact HB4.out | exact HB3.out | exact HB2.out | exact HB1.out⟩
    · cases q1
      · have HQ : Hid (r = false) := Lib.hid (by rw [HR.out]; unfold refM tk; have etk := Etk.out; have en1 := En1.out; have eq1 := Eq1.out; rw [← etk, ← en1, ← eq1]; first | rfl | simp)
        go_wp2_with (first | (go_at_call 63; refine (CTK.out _).mono ?_; rintro e w2 ⟨rfl, hb⟩; have HX2 := Lib.hid (HX1.out.kept hb); have HB2 := Lib.hid (below_and HB1.out hb); have d2_0 := HX2.out.cell (j := 0) rfl; have d2_1 := HX2.out.cell (j := 1) rfl; have d2_2 := HX2.out.cell (j := 2) rfl; have d2_3 := HX2.out.cell (j := 3) rfl; clear hb))
        go_ret
        exact ⟨ret_bool HQ.out.symm, by first | exact HB4.out | exact HB3.out | exact HB2.out | exact HB1.out⟩
      · cases q2
        · have HQ : Hid (r = false) := Lib.hid (by rw [HR.out]; unfold refM tk; have etk := Etk.out; have en1 := En1.out; have eq1 := Eq1.out; have eq2 := Eq2.out; rw [← etk, ← en1, ← eq1, ← eq2]; first | rfl | simp)
          go_wp2_with (first | (go_at_call 63; refine (CTK.out _).mono ?_; rintro e w2 ⟨rfl, hb⟩; have HX2 := Lib.hid (HX1.out.kept hb); have HB2 := Lib.hid (below_and HB1.out hb); have d2_0 := HX2.out.cell (j := 0) rfl; have d2_1 := HX2.out.cell (j := 1) rfl; have d2_2 := HX2.out.cell (j := 2) rfl; have d2_3 := HX2.out.cell (j := 3) rfl; clear hb))
          go_ret
          exact ⟨ret_bool HQ.out.symm, by first | exact HB4.out | exact HB3.out | exact HB2.out | exact HB1.out⟩
        · have HQ : Hid (r = true) := Lib.hid (by rw [HR.out]; unfold refM tk; have etk := Etk.out; have en1 := En1.out; have eq1 := Eq1.out; have eq2 := Eq2.out; rw [← etk, ← en1, ← eq1, ← eq2]; first | rfl | simp)
          go_wp2_with (first | (go_at_call 63; refine (CTK.out _).mono ?_; rintro e w2 ⟨rfl, hb⟩; have HX2 := Lib.hid (HX1.out.kept hb); have HB2 := Lib.hid (below_and HB1.out hb); have d2_0 := HX2.out.cell (j := 0) rfl; have d2_1 := HX2.out.cell (j := 1) rfl; have d2_2 := HX2.out.cell (j := 2) rfl; have d2_3 := HX2.out.cell (j := 3) rfl; clear hb))
          go_ret
          exact ⟨ret_bool HQ.out.symm, by first | exact HB4.out | exact HB3.out | exact HB2.out | exact HB1.out⟩
end Go.Proofs.YtopkfomlppnpeaaGreatDoor.Ms

namespace Go.Proofs.YtopkfomlppnpeaaGreatDoor.Ms
open Go.RowKit Go.Proofs.YtopkfomlppnpeaaGreatDoor

set_option maxRecDepth 100000 in
set_option maxHeartbeats 2000000 in
theorem envL_any (x y : El) (w : World) : Calls Tryz.prog 55 #[envV x, envV y] w fun e w' => e = .returned (.bool (envL x y)) ∧ Below w.heap.size w w' := by
  obtain ⟨r, hr⟩ : ∃ r, r = envL x y := ⟨_, rfl⟩
  rw [← hr]
  have l0 : Op.bytesLess (bs x.j).toList (bs y.j).toList = r := by rw [hr]; rfl
  clear hr
  obtain ⟨X, hX⟩ : ∃ X, X = w.heap.size := ⟨_, rfl⟩
  obtain ⟨w2, hw2⟩ : ∃ w2, w2 = (w.alloc (.cells #[.string (bs x.j), .int .i64 x.a.c, .int .i64 x.a.r, .int .i64 x.a.d, .int .i64 x.a.p] 66)).alloc (.cells #[.string (bs y.j), .int .i64 y.a.c, .int .i64 y.a.r, .int .i64 y.a.d, .int .i64 y.a.p] 66) := ⟨_, rfl⟩
  have HX : Hid (Blk w2 X [.string (bs x.j), .int .i64 x.a.c, .int .i64 x.a.r, .int .i64 x.a.d, .int .i64 x.a.p] 66) := Lib.hid (by rw [hw2, hX]; exact (Blk.made w [.string (bs x.j), .int .i64 x.a.c, .int .i64 x.a.r, .int .i64 x.a.d, .int .i64 x.a.p] _).alloc _)
  have HY : Hid (Blk w2 (X + 1) [.string (bs y.j), .int .i64 y.a.c, .int .i64 y.a.r, .int .i64 y.a.d, .int .i64 y.a.p] 66) := Lib.hid (by rw [hw2, hX]; have := Blk.made (w.alloc (.cells #[.string (bs x.j), .int .i64 x.a.c, .int .i64 x.a.r, .int .i64 x.a.d, .int .i64 x.a.p] 66)) [.string (bs y.j), .int .i64 y.a.c, .int .i64 y.a.r, .int .i64 y.a.d, .int .i64 y.a.p] 66; simpa using this)
  have HB : Hid (Below w.heap.size w w2) := Lib.hid (by rw [hw2]; exact below_and (below_alloc _ _) (below_alloc _ _))
  go_enter Tryz.func55, Tryz.ntmps55
  go_upto_region 1 with fail
  have hs1 : (w.alloc (.cells #[.string (bs x.j), .int .i64 x.a.c, .int .i64 x.a.r, .int .i64 x.a.d, .int .i64 x.a.p] 66)).heap.size = X + 1 := by rw [hX]; simp
  rw [← hw2, ← hX]
  clear hw2 hX hs1
  have x0 := HX.out.cell (j := 0) rfl
  have y0 := HY.out.cell (j := 0) rfl
  go_wp2
  go_ret
  exact ⟨rfl, HB.out⟩
set_option maxRecDepth 100000 in
set_option maxHeartbeats 2000000 in
theorem staL_any (x y : El) (w : World) : Calls Tryz.prog 60 #[staV x, staV y] w fun e w' => e = .returned (.bool (ltT x y)) ∧ Below w.heap.size w w' := by
  obtain ⟨X, hX⟩ : ∃ X, X = w.heap.size := ⟨_, rfl⟩
  obtain ⟨w2, hw2⟩ : ∃ w2, w2 = (w.alloc (.cells #[.string (bs x.j), .int .i64 x.i, .int .u64 x.n, .int .i64 x.a.c, .int .i64 x.a.r, .int .i64 x.a.d, .int .i64 x.a.p, .string (bs x.s)] 39)).alloc (.cells #[.string (bs y.j), .int .i64 y.i, .int .u64 y.n, .int .i64 y.a.c, .int .i64 y.a.r, .int .i64 y.a.d, .int .i64 y.a.p, .string (bs y.s)] 39) := ⟨_, rfl⟩
  have HX : Hid (Blk w2 X [.string (bs x.j), .int .i64 x.i, .int .u64 x.n, .int .i64 x.a.c, .int .i64 x.a.r, .int .i64 x.a.d, .int .i64 x.a.p, .string (bs x.s)] 39) := Lib.hid (by rw [hw2, hX]; exact (Blk.made w [.string (bs x.j), .int .i64 x.i, .int .u64 x.n, .int .i64 x.a.c, .int .i64 x.a.r, .int .i64 x.a.d, .int .i64 x.a.p, .string (bs x.s)] _).alloc _)
  have HY : Hid (Blk w2 (X + 1) [.string (bs y.j), .int .i64 y.i, .int .u64 y.n, .int .i64 y.a.c, .int .i64 y.a.r, .int .i64 y.a.d, .int .i64 y.a.p, .string (bs y.s)] 39) := Lib.hid (by rw [hw2, hX]; have := Blk.made (w.alloc (.cells #[.string (bs x.j), .int .i64 x.i, .int .u64 x.n, .int .i64 x.a.c, .int .i64 x.a.r, .int .i64 x.a.d, .int .i64 x.a.p, .string (bs x.s)] 39)) [.string (bs y.j), .int .i64 y.i, .int .u64 y.n, .int .i64 y.a.c, .int .i64 y.a.r, .int .i64 y.a.d, .int .i64 y.a.p, .string (bs y.s)] 39; simpa using this)
  have HB : Hid (Below w.heap.size w w2) := Lib.hid (by rw [hw2]; exact below_and (below_alloc _ _) (below_alloc _ _))
  go_enter Tryz.func60, Tryz.ntmps60
  go_upto_region 1 with fail
  have hs1 : (w.alloc (.cells #[.string (bs x.j), .int .i64 x.i, .int .u64 x.n, .int .i64 x.a.c, .int .i64 x.a.r, .int .i64 x.a.d, .int .i64 x.a.p, .string (bs x.s)] 39)).heap.size = X + 1 := by rw [hX]; simp
  rw [← hw2, ← hX]
  clear hw2 hX hs1
  have x0 := HX.out.cell (j := 0) rfl
  have x1 := HX.out.cell (j := 1) rfl
  have y0 := HY.out.cell (j := 0) rfl
  have y1 := HY.out.cell (j := 1) rfl
  go_wp2_with (go_at_call 61; refine (byTask_any x y _).mono ?_; rintro e w3 ⟨⟨z, rfl, hz⟩, hb⟩; have HZ := Lib.hid hz; have HB3 := Lib.hid (below_and HB.out hb); clear hz hb)
  go_ret
  exact ⟨ret_bool HZ.out, HB3.out⟩
set_option maxRecDepth 100000 in
set_option maxHeartbeats 2000000 in
theorem stoL_any (x y : El) (w : World) : Calls Tryz.prog 65 #[stoV x, stoV y] w fun e w' => e = .returned (.bool (ltT x y)) ∧ Below w.heap.size w w' := by
  obtain ⟨X, hX⟩ : ∃ X, X = w.heap.size := ⟨_, rfl⟩
  obtain ⟨w2, hw2⟩ : ∃ w2, w2 = (w.alloc (.cells #[.string (bs x.j), .int .i64 x.i, .int .u64 x.n] 75)).alloc (.cells #[.string (bs y.j), .int .i64 y.i, .int .u64 y.n] 75) := ⟨_, rfl⟩
  have HX : Hid (Blk w2 X [.string (bs x.j), .int .i64 x.i, .int .u64 x.n] 75) := Lib.hid (by rw [hw2, hX]; exact (Blk.made w [.string (bs x.j), .int .i64 x.i, .int .u64 x.n] _).alloc _)
  have HY : Hid (Blk w2 (X + 1) [.string (bs y.j), .int .i64 y.i, .int .u64 y.n] 75) := Lib.hid (by rw [hw2, hX]; have := Blk.made (w.alloc (.cells #[.string (bs x.j), .int .i64 x.i, .int .u64 x.n] 75)) [.string (bs y.j), .int .i64 y.i, .int .u64 y.n] 75; simpa using this)
  have HB : Hid (Below w.heap.size w w2) := Lib.hid (by rw [hw2]; exact below_and (below_alloc _ _) (below_alloc _ _))
  go_enter Tryz.func65, Tryz.ntmps65
  go_upto_region 1 with fail
  have hs1 : (w.alloc (.cells #[.string (bs x.j), .int .i64 x.i, .int .u64 x.n] 75)).heap.size = X + 1 := by rw [hX]; simp
  rw [← hw2, ← hX]
  clear hw2 hX hs1
  have x0 := HX.out.cell (j := 0) rfl
  have x1 := HX.out.cell (j := 1) rfl
  have y0 := HY.out.cell (j := 0) rfl
  have y1 := HY.out.cell (j := 1) rfl
  go_wp2_with (go_at_call 61; refine (byTask_any x y _).mono ?_; rintro e w3 ⟨⟨z, rfl, hz⟩, hb⟩; have HZ := Lib.hid hz; have HB3 := Lib.hid (below_and HB.out hb); clear hz hb)
  go_ret
  exact ⟨ret_bool HZ.out, HB3.out⟩
set_option maxRecDepth 100000 in
set_option maxHeartbeats 2000000 in
theorem helL_any (x y : El) (w : World) : Calls Tryz.prog 72 #[helV x, helV y] w fun e w' => e = .returned (.bool (ltT x y)) ∧ Below w.heap.size w w' := by
  obtain ⟨X, hX⟩ : ∃ X, X = w.heap.size := ⟨_, rfl⟩
  obtain ⟨w2, hw2⟩ : ∃ w2, w2 = (w.alloc (.cells #[.string (bs x.j), .int .i64 x.i, .int .u64 x.n, .int .i64 x.q] 88)).alloc (.cells #[.string (bs y.j), .int .i64 y.i, .int .u64 y.n, .int .i64 y.q] 88) := ⟨_, rfl⟩
  have HX : Hid (Blk w2 X [.string (bs x.j), .int .i64 x.i, .int .u64 x.n, .int .i64 x.q] 88) := Lib.hid (by rw [hw2, hX]; exact (Blk.made w [.string (bs x.j), .int .i64 x.i, .int .u64 x.n, .int .i64 x.q] _).alloc _)
  have HY : Hid (Blk w2 (X + 1) [.string (bs y.j), .int .i64 y.i, .int .u64 y.n, .int .i64 y.q] 88) := Lib.hid (by rw [hw2, hX]; have := Blk.made (w.alloc (.cells #[.string (bs x.j), .int .i64 x.i, .int .u64 x.n, .int .i64 x.q] 88)) [.string (bs y.j), .int .i64 y.i, .int .u64 y.n, .int .i64 y.q] 88; simpa using this)
  have HB : Hid (Below w.heap.size w w2) := Lib.hid (by rw [hw2]; exact below_and (below_alloc _ _) (below_alloc _ _))
  go_enter Tryz.func72, Tryz.ntmps72
  go_upto_region 1 with fail
  have hs1 : (w.alloc (.cells #[.string (bs x.j), .int .i64 x.i, .int .u64 x.n, .int .i64 x.q] 88)).heap.size = X + 1 := by rw [hX]; simp
  rw [← hw2, ← hX]
  clear hw2 hX hs1
  have x0 := HX.out.cell (j := 0) rfl
  have x1 := HX.out.cell (j := 1) rfl
  have y0 := HY.out.cell (j := 0) rfl
  have y1 := HY.out.cell (j := 1) rfl
  go_wp2_with (go_at_call 61; refine (byTask_any x y _).mono ?_; rintro e w3 ⟨⟨z, rfl, hz⟩, hb⟩; have HZ := Lib.hid hz; have HB3 := Lib.hid (below_and HB.out hb); clear hz hb)
  go_ret
  exact ⟨ret_bool HZ.out, HB3.out⟩
set_option maxRecDepth 100000 in
set_option maxHeartbeats 2000000 in
theorem finL_any (x y : El) (w : World) : Calls Tryz.prog 75 #[finV x, finV y] w fun e w' => e = .returned (.bool (finL x y)) ∧ Below w.heap.size w w' := by
  obtain ⟨X, hX⟩ : ∃ X, X = w.heap.size := ⟨_, rfl⟩
  obtain ⟨w2, hw2⟩ : ∃ w2, w2 = (w.alloc (.cells #[.int .u64 x.k, .string (bs x.j), .int .i64 x.i, .int .u64 x.n, .int .i64 x.q] 95)).alloc (.cells #[.int .u64 y.k, .string (bs y.j), .int .i64 y.i, .int .u64 y.n, .int .i64 y.q] 95) := ⟨_, rfl⟩
  have HX : Hid (Blk w2 X [.int .u64 x.k, .string (bs x.j), .int .i64 x.i, .int .u64 x.n, .int .i64 x.q] 95) := Lib.hid (by rw [hw2, hX]; exact (Blk.made w [.int .u64 x.k, .string (bs x.j), .int .i64 x.i, .int .u64 x.n, .int .i64 x.q] _).alloc _)
  have HY : Hid (Blk w2 (X + 1) [.int .u64 y.k, .string (bs y.j), .int .i64 y.i, .int .u64 y.n, .int .i64 y.q] 95) := Lib.hid (by rw [hw2, hX]; have := Blk.made (w.alloc (.cells #[.int .u64 x.k, .string (bs x.j), .int .i64 x.i, .int .u64 x.n, .int .i64 x.q] 95)) [.int .u64 y.k, .string (bs y.j), .int .i64 y.i, .int .u64 y.n, .int .i64 y.q] 95; simpa using this)
  have HB : Hid (Below w.heap.size w w2) := Lib.hid (by rw [hw2]; exact below_and (below_alloc _ _) (below_alloc _ _))
  go_enter Tryz.func75, Tryz.ntmps75
  go_upto_region 1 with fail
  have hs1 : (w.alloc (.cells #[.int .u64 x.k, .string (bs x.j), .int .i64 x.i, .int .u64 x.n, .int .i64 x.q] 95)).heap.size = X + 1 := by rw [hX]; simp
  rw [← hw2, ← hX]
  clear hw2 hX hs1
  have x0 := HX.out.cell (j := 0) rfl
  have y0 := HY.out.cell (j := 0) rfl
  go_wp2
  go_ret
  exact ⟨rfl, HB.out⟩
set_option maxRecDepth 100000 in
set_option maxHeartbeats 2000000 in
theorem refL_any (x y : El) (w : World) : Calls Tryz.prog 78 #[refV x, refV y] w fun e w' => e = .returned (.bool (ltT x y)) ∧ Below w.heap.size w w' := by
  obtain ⟨X, hX⟩ : ∃ X, X = w.heap.size := ⟨_, rfl⟩
  obtain ⟨w2, hw2⟩ : ∃ w2, w2 = (w.alloc (.cells #[.string (bs x.j), .int .i64 x.i, .int .u64 x.n, .int .i64 x.q] 99)).alloc (.cells #[.string (bs y.j), .int .i64 y.i, .int .u64 y.n, .int .i64 y.q] 99) := ⟨_, rfl⟩
  have HX : Hid (Blk w2 X [.string (bs x.j), .int .i64 x.i, .int .u64 x.n, .int .i64 x.q] 99) := Lib.hid (by rw [hw2, hX]; exact (Blk.made w [.string (bs x.j), .int .i64 x.i, .int .u64 x.n, .int .i64 x.q] _).alloc _)
  have HY : Hid (Blk w2 (X + 1) [.string (bs y.j), .int .i64 y.i, .int .u64 y.n, .int .i64 y.q] 99) := Lib.hid (by rw [hw2, hX]; have := Blk.made (w.alloc (.cells #[.string (bs x.j), .int .i64 x.i, .int .u64 x.n, .int .i64 x.q] 99)) [.string (bs y.j), .int .i64 y.i, .int .u64 y.n, .int .i64 y.q] 99; simpa using this)
  have HB : Hid (Below w.heap.size w w2) := Lib.hid (by rw [hw2]; exact below_and (below_alloc _ _) (below_alloc _ _))
  go_enter Tryz.func78, Tryz.ntmps78
  go_upto_region 1 with fail
  have hs1 : (w.alloc (.cells #[.string (bs x.j), .int .i64 x.i, .int .u64 x.n, .int .i64 x.q] 99)).heap.size = X + 1 := by rw [hX]; simp
  rw [← hw2, ← hX]
  clear hw2 hX hs1
  have x0 := HX.out.cell (j := 0) rfl
  have x1 := HX.out.cell (j := 1) rfl
  have y0 := HY.out.cell (j := 0) rfl
  have y1 := HY.out.cell (j := 1) rfl
  go_wp2_with (go_at_call 61; refine (byTask_any x y _).mono ?_; rintro e w3 ⟨⟨z, rfl, hz⟩, hb⟩; have HZ := Lib.hid hz; have HB3 := Lib.hid (below_and HB.out hb); clear hz hb)
  go_ret
  exact ⟨ret_bool HZ.out, HB3.out⟩
end Go.Proofs.YtopkfomlppnpeaaGreatDoor.Ms
