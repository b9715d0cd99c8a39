/- Pick. -/
import Derived.Test.YtopkfomlppnpeaaGreatDoorLib2
namespace Go.Proofs.YtopkfomlppnpeaaGreatDoor
open Go.RowKit

theorem tmod_band (x n : Int) (hn : 0 < n) : -n < x.tmod n ∧ x.tmod n < n := by
  have h1 := Int.tmod_lt_of_pos x hn
  refine ⟨?_, h1⟩
  rcases Int.le_total 0 x with h | h
  · have := Int.tmod_nonneg n h; omega
  · have h3 := Int.tmod_nonneg n (show 0 ≤ -x by omega)
    have h4 := Int.tmod_lt_of_pos (-x) hn
    rw [Int.neg_tmod] at h3 h4; omega

theorem pick_fix (x n : Int) (hn : 0 < n) : (x.tmod n + n).tmod n = x % n := by
  obtain ⟨h1, h2⟩ := tmod_band x n hn
  rw [Int.tmod_eq_emod_of_nonneg (by omega), Int.add_emod_right]
  rw [Int.tmod_def, Int.sub_mul_emod_self_left]

set_option maxHeartbeats 1000000 in
theorem pickn_any (x n : Int) (w : World) (hn : 0 < n) (hm : n ≤ 4611686018427387904) :
    Calls Tryz.prog 108 #[.int .i64 x, .int .i64 n] w fun e w' => e = .returned (.int .i64 (x % n)) ∧ w = w' := by
  obtain ⟨h1, h2⟩ := tmod_band x n hn
  have h3 := Int.emod_nonneg x (show n ≠ 0 by omega)
  have h4 := Int.emod_lt_of_pos x hn
  have s1 : wrap64 (x.tmod n) = x.tmod n := by unfold wrap64; omega
  have s2 : wrap64 (x.tmod n + n) = x.tmod n + n := by unfold wrap64; omega
  have s3 : wrap64 ((x.tmod n + n).tmod n) = x % n := by rw [pick_fix x n hn]; unfold wrap64; omega
  have s4 := pick_fix x n hn
  have s5 : wrap64 (x % n) = x % n := by unfold wrap64; omega
  have n0 : (n == 0) = false := by simp; omega
  go_enter Tryz.func108, Tryz.ntmps108
  go_wp2
  go_ret
  exact ⟨rfl, rfl⟩
end Go.Proofs.YtopkfomlppnpeaaGreatDoor
