/- The document's Wait, by halves, tells what Clk.waits says. -/
import Derived.Test.YtmgcigohfccgeaaCWait
namespace Go.Proofs.Ytmgcigohfccgeaa
open Go.RowKit

set_option maxRecDepth 100000 in
set_option maxHeartbeats 600000 in
theorem rwait_any (lease d : Int) (w : World) :
    Calls Try.prog 26 #[.int .i64 lease, .int .i64 d] w fun e w' => e = .returned (.tuple #[.int .i64 (Clk.waits lease d).1, .int .i64 (Clk.waits lease d).2]) ∧ w = w' := by
  by_cases hb : lease < 1 ∨ 1048576 < lease ∨ d < 0 ∨ 500 < d
  · have e : Clk.waits lease d = (0, 2) := by unfold Clk.waits; rw [if_pos hb]
    rw [e]
    go_enter Try.func26, Try.ntmps26
    by_cases h1 : lease < 1
    · go_wp2
      go_ret2
      exact ⟨rfl, rfl⟩
    · by_cases h2 : 1048576 < lease
      · go_wp2
        go_ret2
        exact ⟨rfl, rfl⟩
      · by_cases h3 : d < 0
        · go_wp2
          go_ret2
          exact ⟨rfl, rfl⟩
        · have h4 : 500 < d := by omega
          clear hb
          go_wp2
          go_ret2
          exact ⟨rfl, rfl⟩
  · have e : Clk.waits lease d = (Clk.wait lease d, 0) := by unfold Clk.waits; rw [if_neg hb]
    rw [e]
    have h1 : 1 ≤ lease := by omega
    have h2 : lease ≤ 1048576 := by omega
    have h3 : 0 ≤ d := by omega
    have h4 : d ≤ 500 := by omega
    clear hb e
    have hspec := Clk.wait_spec (lease := lease) h3 h4
    have hleast := fun m => Clk.wait_least (lease := lease) (m := m) h3 h4
    have hu1 : 0 ≤ (lease + 2) * (1000 + d) := Int.mul_nonneg (by omega) (by omega)
    have hu2 : (lease + 2) * (1000 + d) ≤ 1048578 * 1500 := Int.mul_le_mul (by omega) (by omega) (by omega) (by omega)
    obtain ⟨u, hu⟩ : ∃ u, u = (lease + 2) * (1000 + d) := ⟨_, rfl⟩
    rw [← hu] at hu1 hu2 hspec hleast
    have W1 : wrap64 ((lease + 2) * (1000 + d)) = u := by rw [← hu]; unfold wrap64; omega
    clear hu
    obtain ⟨W, hW⟩ : ∃ W, W = Clk.wait lease d := ⟨_, rfl⟩
    rw [← hW] at hspec hleast ⊢
    have w2 : 2 ≤ W := by
      refine Int.not_lt.1 fun hc => ?_
      have := Int.mul_neg_of_neg_of_pos (show W - 2 < 0 by omega) (show 0 < 1000 - d by omega)
      omega
    have w9 : W ≤ 1099511627776 := hleast _ (by
      have := Int.mul_le_mul (show (1099511627774 : Int) ≤ 1099511627776 - 2 by omega) (show (500 : Int) ≤ 1000 - d by omega) (by omega) (by omega)
      omega)
    have HS := Lib.hid hspec
    have HL := Lib.hid hleast
    clear hspec hleast hW
    go_enter Try.func26, Try.ntmps26
    go_wp2
    go_loop [6, 7, 8] (fun _ lo hi => ∃ a b : Nat, lo = .int .i64 (a : Int) ∧ hi = .int .i64 (b : Int) ∧ 2 ≤ a ∧ (a : Int) ≤ W ∧ W ≤ (b : Int) ∧ (b : Int) ≤ 1099511627776) (fun _ lo hi => (intOf hi - intOf lo).toNat)
    case atStart => exact ⟨2, 1099511627776, rfl, rfl, by omega, by omega, by omega, by omega⟩
    case round =>
      obtain ⟨a, b, rfl, rfl, q1, q2, q3, q4⟩ := hrel
      by_cases hlt : a < b
      · obtain ⟨m, hm⟩ : ∃ m, m = (a + b) / 2 := ⟨_, rfl⟩
        have r1 : ((a : Int) + (b : Int)) / 2 = (m : Int) := by omega
        have r3 : ((a : Int) + (b : Int)).tdiv 2 = (m : Int) := by rw [Int.tdiv_eq_ediv_of_nonneg (by omega)]; exact r1
        have m1 : 2 ≤ m := by omega
        have m2 : m < b := by omega
        have m3 : a ≤ m := by omega
        have v1 : 0 ≤ ((m : Int) - 2) * (1000 - d) := Int.mul_nonneg (by omega) (by omega)
        have v2 : ((m : Int) - 2) * (1000 - d) ≤ 1099511627776 * 1000 := Int.mul_le_mul (by omega) (by omega) (by omega) (by omega)
        have hle := HL.out (m : Int)
        have hmono : W ≤ (m : Int) → (W - 2) * (1000 - d) ≤ ((m : Int) - 2) * (1000 - d) := fun h => Int.mul_le_mul_of_nonneg_right (by omega) (by omega)
        obtain ⟨x, hx⟩ : ∃ x, x = ((m : Int) - 2) * (1000 - d) := ⟨_, rfl⟩
        rw [← hx] at v1 v2 hle hmono
        have V1 : wrap64 (((m : Int) - 2) * (1000 - d)) = x := by rw [← hx]; unfold wrap64; omega
        clear hx hm
        by_cases hc : u ≤ x
        · have hm2 := hle hc
          clear hle hmono
          go_wp2
          go_round
          case rel => exact ⟨a, m, rfl, rfl, q1, q2, hm2, by omega⟩
          case measure => simp [intOf]; omega
        · have hm2 : (m : Int) + 1 ≤ W := by
            refine Int.not_lt.1 fun h => ?_
            have := hmono (by omega)
            have := HS.out
            omega
          clear hle hmono
          go_wp2
          go_round
          case rel => exact ⟨m + 1, b, by go_num, rfl, by omega, by omega, q3, q4⟩
          case measure => simp [intOf]; omega
      · have : (a : Int) = W := by omega
        subst this
        go_wp2
        go_ret2
        exact ⟨rfl, rfl⟩
end Go.Proofs.Ytmgcigohfccgeaa
