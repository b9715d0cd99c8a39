/- cmp.Compare, cmp.Or, and the ends' order. -/
import Derived.Test.YtmgcigohfccgeaaSep
import Derived.Test.YtmgcigohfccgeaaHeap
import Derived.Deep.RegionWith
import Derived.Deep.RegionHeld3
import Derived.Sort.Walk0
namespace Go.Proofs.Ytmgcigohfccgeaa
open Go.RowKit

abbrev End := ByteArray × Int
/-- the order of the ends: by time, then by name -/
def elt (x y : End) : Bool := decide (x.2 < y.2) || (x.2 == y.2 && decide (x.1.data.toList < y.1.data.toList))

set_option maxRecDepth 100000 in
set_option maxHeartbeats 400000 in
theorem cmpi_any (x y : Int) (w : World) :
    Calls Try.prog 122 #[.int .i64 x, .int .i64 y] w fun e w' => e = .returned (.int .i64 (if x < y then -1 else if y < x then 1 else 0)) ∧ w = w' := by
  go_enter Try.func122, Try.ntmps122
  by_cases h : x < y
  · rw [if_pos h]
    go_wp2
    go_ret
    exact ⟨rfl, rfl⟩
  · rw [if_neg h]
    by_cases h2 : y < x
    · rw [if_pos h2]
      go_wp2
      go_ret
      exact ⟨rfl, rfl⟩
    · rw [if_neg h2]
      go_wp2
      go_ret
      exact ⟨rfl, rfl⟩

set_option maxRecDepth 100000 in
set_option maxHeartbeats 400000 in
theorem cmps_any (x y : ByteArray) (w : World) :
    Calls Try.prog 123 #[.string x, .string y] w fun e w' => e = .returned (.int .i64 (if x.data.toList < y.data.toList then -1 else if x.data.toList = y.data.toList then 0 else 1)) ∧ w = w' := by
  have l1 : Op.bytesLess x.toList y.toList = decide (x.data.toList < y.data.toList) := by rw [bytesLess_eq, Lib.toList_data, Lib.toList_data]
  have l2 : (x.toList == y.toList) = decide (x.data.toList = y.data.toList) := by rw [Lib.toList_data, Lib.toList_data, Bool.eq_iff_iff]; simp
  have l3 : (x.toList == x.toList) = true := by simp
  have l4 : (y.toList == y.toList) = true := by simp
  go_enter Try.func123, Try.ntmps123
  by_cases h : x.data.toList < y.data.toList
  · rw [if_pos h]
    have m1 : Op.bytesLess x.toList y.toList = true := by rw [l1]; simp [h]
    clear l1 l2 h
    go_wp2
    go_ret
    exact ⟨rfl, rfl⟩
  · rw [if_neg h]
    have m1 : Op.bytesLess x.toList y.toList = false := by rw [l1]; simp [h]
    by_cases h2 : x.data.toList = y.data.toList
    · rw [if_pos h2]
      have m2 : (x.toList == y.toList) = true := by rw [l2]; simp [h2]
      clear l1 l2 h h2
      go_wp2
      go_ret
      exact ⟨rfl, rfl⟩
    · rw [if_neg h2]
      have m2 : (x.toList == y.toList) = false := by rw [l2]; simp [h2]
      clear l1 l2 h h2
      go_wp2
      go_ret
      exact ⟨rfl, rfl⟩

set_option maxRecDepth 100000 in
set_option maxHeartbeats 400000 in
theorem or2_any (g : Nat) (x y : Int) (w : World) (h1 : w.cell? ⟨g, 0, none⟩ = some (.int .i64 x)) (h2 : w.cell? ⟨g, 1, none⟩ = some (.int .i64 y)) :
    Calls Try.prog 121 #[.slice (some ⟨g, 0, none⟩) 2 2] w fun e w' => e = .returned (.int .i64 (if x = 0 then y else x)) ∧ w = w' := by
  go_enter Try.func121, Try.ntmps121
  go_wp2
  go_loop [8] (fun i => ∃ k : Nat, k ≤ 2 ∧ i = .int .i64 (k : Int) ∧ (0 < k → x = 0) ∧ (1 < k → y = 0)) (fun i => 2 - (intOf i).toNat)
  case atStart => exact ⟨0, by omega, rfl, by omega, by omega⟩
  case round =>
    obtain ⟨k, hk, rfl, e1, e2⟩ := hrel
    obtain rfl | rfl | rfl : k = 0 ∨ k = 1 ∨ k = 2 := by omega
    · by_cases hx : x = 0
      · have t : (x == 0) = true := by simpa using hx
        go_wp2
        go_round
        case rel => exact ⟨1, by omega, by go_num, fun _ => hx, by omega⟩
        case measure => simp [intOf]
      · have t : (x == 0) = false := by simpa using hx
        go_wp2
        go_ret
        exact ⟨ret_int (by first | rfl | simp_all), rfl⟩
    · have hx := e1 (by omega)
      by_cases hy : y = 0
      · have t : (y == 0) = true := by simpa using hy
        go_wp2
        go_round
        case rel => exact ⟨2, by omega, by go_num, fun _ => hx, fun _ => hy⟩
        case measure => simp [intOf]
      · have t : (y == 0) = false := by simpa using hy
        go_wp2
        go_ret
        exact ⟨ret_int (by first | rfl | simp_all), rfl⟩
    · have hx := e1 (by omega)
      have hy := e2 (by omega)
      go_wp2
      go_ret
      exact ⟨ret_int (by first | rfl | simp_all), rfl⟩

/-- Less, of two ends that lie in the block -/
theorem less_cmp (x y : End) : decide ((if (if x.2 < y.2 then (-1 : Int) else if y.2 < x.2 then 1 else 0) = 0 then (if x.1.data.toList < y.1.data.toList then (-1 : Int) else if x.1.data.toList = y.1.data.toList then 0 else 1) else (if x.2 < y.2 then (-1 : Int) else if y.2 < x.2 then 1 else 0)) < 0) = elt x y := by
  unfold elt
  obtain ⟨x1, x2⟩ := x
  obtain ⟨y1, y2⟩ := y
  show decide ((if (if x2 < y2 then (-1 : Int) else if y2 < x2 then 1 else 0) = 0 then (if x1.data.toList < y1.data.toList then (-1 : Int) else if x1.data.toList = y1.data.toList then 0 else 1) else (if x2 < y2 then (-1 : Int) else if y2 < x2 then 1 else 0)) < 0) = (decide (x2 < y2) || (x2 == y2 && decide (x1.data.toList < y1.data.toList)))
  generalize x1.data.toList = p
  generalize y1.data.toList = q
  by_cases h1 : x2 < y2
  · simp [h1]
  · by_cases h2 : y2 < x2
    · have : x2 ≠ y2 := by omega
      simp [h1, h2, this]
    · have : x2 = y2 := by omega
      subst this
      by_cases h3 : p < q
      · simp [h3]
      · by_cases h4 : p = q
        · subst h4; simp [h3]
        · simp [h3, h4]

set_option maxRecDepth 100000 in
set_option maxHeartbeats 1000000 in
theorem eless_any (g i j n cap : Nat) (s1 s2 : ByteArray) (a1 a2 : Int) (w : World) (hi : i < n) (hj : j < n) (hn : n ≤ 9223372036854775807) (hg : g < w.heap.size)
    (c1 : w.cell? ⟨g, i * 2, none⟩ = some (.string s1)) (c2 : w.cell? ⟨g, i * 2 + 1, none⟩ = some (.int .i64 a1))
    (c3 : w.cell? ⟨g, j * 2, none⟩ = some (.string s2)) (c4 : w.cell? ⟨g, j * 2 + 1, none⟩ = some (.int .i64 a2)) :
    Calls Try.prog 119 #[.slice (some ⟨g, 0, none⟩) n cap, .int .i64 (i : Int), .int .i64 (j : Int)] w fun e w' => e = .returned (.bool (elt (s1, a1) (s2, a2))) ∧ Below w.heap.size w w' := by
  obtain ⟨C1, hC1⟩ : ∃ c, c = (if a1 < a2 then (-1 : Int) else if a2 < a1 then 1 else 0) := ⟨_, rfl⟩
  obtain ⟨C2, hC2⟩ : ∃ c, c = (if s1.data.toList < s2.data.toList then (-1 : Int) else if s1.data.toList = s2.data.toList then 0 else 1) := ⟨_, rfl⟩
  obtain ⟨R, hR⟩ : ∃ c, c = (if C1 = 0 then C2 else C1) := ⟨_, rfl⟩
  have hRR : Hid (decide (R < 0) = elt (s1, a1) (s2, a2)) := Lib.hid (by rw [hR, hC1, hC2]; exact less_cmp (s1, a1) (s2, a2))
  have HC1 := Lib.hid hC1
  have HC2 := Lib.hid hC2
  have HR := Lib.hid hR
  clear hC1 hC2 hR
  go_enter Try.func119, Try.ntmps119
  go_wp2
  go_region_held3 (fun w' => w'.cell? ⟨g, i * 2 + 1, none⟩ = some (.int .i64 a1) ∧ w'.cell? ⟨g, j * 2 + 1, none⟩ = some (.int .i64 a2) ∧ w'.cell? ⟨g, i * 2, none⟩ = some (.string s1) ∧ w'.cell? ⟨g, j * 2, none⟩ = some (.string s2)) (first | exact ⟨c2, c4, c1, c3⟩ | exact ⟨cell_kept c2 (below_ad w _), cell_kept c4 (below_ad w _), cell_kept c1 (below_ad w _), cell_kept c3 (below_ad w _)⟩) (first
    | (go_at_call 122; refine (cmpi_any _ _ _).mono ?_; rw [← HC1.out]; rintro e w1 ⟨rfl, rfl⟩)
    | (go_at_call 123; refine (cmps_any _ _ _).mono ?_; rw [← HC2.out]; rintro e w1 ⟨rfl, rfl⟩)
    | (go_at_call 121; refine (or2_any _ C1 C2 _ (by simp) (by simp)).mono ?_; rw [← HR.out]; rintro e w1 ⟨rfl, rfl⟩))
  all_goals go_wp2
  all_goals go_ret
  all_goals exact ⟨ret_bool hRR.out, below_ad w _⟩
end Go.Proofs.Ytmgcigohfccgeaa
