/- clock.Wait tells what Clk.waits says. -/
import Derived.Test.YtmgcigohfccgeaaLib2
import Derived.Test.YtmgcigohfccgeaaCPlain
namespace Go.Proofs.Ytmgcigohfccgeaa
open Go.RowKit
namespace Clk
def waits (lease d : Int) : Int × Int := if lease < 1 ∨ 1048576 < lease ∨ d < 0 ∨ 500 < d then (0, 2) else (wait lease d, 0)
end Clk

theorem ret_wait {a b : Int} (h : a = b) : Ending.returned (.tuple #[.int .i64 a, .int .i64 0]) = Ending.returned (.tuple #[.int .i64 b, .int .i64 0]) := by rw [h]

set_option maxRecDepth 100000 in
set_option maxHeartbeats 1000000 in
theorem wait_any (lease d : Int) (w : World) :
    Calls Try.prog 25 #[.int .i64 lease, .int .i64 d] w fun e w' => e = .returned (.tuple #[.int .i64 (Clk.waits lease d).1, .int .i64 (Clk.waits lease d).2]) ∧ w = w' := by
  by_cases hb : lease < 1 ∨ 1048576 < lease ∨ d < 0 ∨ 500 < d
  · have e : Clk.waits lease d = (0, 2) := by unfold Clk.waits; rw [if_pos hb]
    rw [e]
    go_enter Try.func25, Try.ntmps25
    by_cases h1 : lease < 1
    · go_wp2
      go_ret2
      exact ⟨rfl, rfl⟩
    · by_cases h2 : 1048576 < lease
      · go_wp2
        go_ret2
        exact ⟨rfl, rfl⟩
      · by_cases h3 : d < 0
        · go_wp2
          go_ret2
          exact ⟨rfl, rfl⟩
        · have h4 : 500 < d := by omega
          clear hb
          go_wp2
          go_ret2
          exact ⟨rfl, rfl⟩
  · have e : Clk.waits lease d = (Clk.wait lease d, 0) := by unfold Clk.waits; rw [if_neg hb]
    rw [e]
    have h1 : 1 ≤ lease := by omega
    have h2 : lease ≤ 1048576 := by omega
    have h3 : 0 ≤ d := by omega
    have h4 : d ≤ 500 := by omega
    clear hb e
    go_enter Try.func25, Try.ntmps25
    have hu1 : 0 ≤ (lease + 2) * (1000 + d) := Int.mul_nonneg (by omega) (by omega)
    have hu2 : (lease + 2) * (1000 + d) ≤ 1048578 * 1500 := Int.mul_le_mul (by omega) (by omega) (by omega) (by omega)
    have hwait : Clk.wait lease d = 2 + ((lease + 2) * (1000 + d) + (1000 - d) - 1) / (1000 - d) := rfl
    obtain ⟨u, hu⟩ : ∃ u, u = (lease + 2) * (1000 + d) := ⟨_, rfl⟩
    rw [← hu] at hu1 hu2 hwait
    have W1 : wrap64 ((lease + 2) * (1000 + d)) = u := by rw [← hu]; unfold wrap64; omega
    clear hu
    have W2 : wrap64 (u + (1000 - d)) = u + (1000 - d) := by unfold wrap64; omega
    have W3 : wrap64 (u + (1000 - d) - 1) = u + (1000 - d) - 1 := by unfold wrap64; omega
    have D1 : (u + (1000 - d) - 1).tdiv (1000 - d) = (u + (1000 - d) - 1) / (1000 - d) := Int.tdiv_eq_ediv_of_nonneg (by omega)
    have D2 : 0 ≤ (u + (1000 - d) - 1) / (1000 - d) := Int.ediv_nonneg (by omega) (by omega)
    have D3 : (u + (1000 - d) - 1) / (1000 - d) ≤ u + (1000 - d) - 1 := Int.ediv_le_self _ (by omega)
    have W4 : wrap64 ((u + (1000 - d) - 1) / (1000 - d)) = (u + (1000 - d) - 1) / (1000 - d) := by unfold wrap64; omega
    have W5 : wrap64 (2 + (u + (1000 - d) - 1) / (1000 - d)) = 2 + (u + (1000 - d) - 1) / (1000 - d) := by unfold wrap64; omega
    go_wp2
    go_ret2
    exact ⟨ret_wait hwait.symm, rfl⟩
end Go.Proofs.Ytmgcigohfccgeaa
