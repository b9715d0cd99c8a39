/- RuTight. -/
import Derived.Test.YtdnoceancoclmaaGreatDoorM10
namespace Go.Proofs.YtdnoceancoclmaaGreatDoor.Ru
open Go.RowKit Go.Proofs.YtdnoceancoclmaaGreatDoor

set_option maxRecDepth 100000 in
set_option maxHeartbeats 1000000 in
theorem tight_any (k : Int) (w : World) :
    Calls Tryz.prog 40 #[.int .i64 k] w fun r w' => r = .returned (.int .i64 ((tightK k : Nat) : Int)) ∧ w' = w := by
  by_cases h9 : k = 9
  · subst h9
    go_enter Tryz.func40, Tryz.ntmps40
    go_wp2
    go_ret
    exact ⟨rfl, rfl⟩
  by_cases h8 : k = 8
  · subst h8
    go_enter Tryz.func40, Tryz.ntmps40
    go_wp2
    go_ret
    exact ⟨rfl, rfl⟩
  by_cases h7 : k = 7
  · subst h7
    go_enter Tryz.func40, Tryz.ntmps40
    go_wp2
    go_ret
    exact ⟨rfl, rfl⟩
  have HT : Hid (tightK k = 4) := Lib.hid (by unfold tightK; rw [if_neg h9, if_neg h8, if_neg h7])
  have t9 : (k == 9) = false := by simpa using h9
  have t8 : (k == 8) = false := by simpa using h8
  have t7 : (k == 7) = false := by simpa using h7
  clear h9 h8 h7
  go_enter Tryz.func40, Tryz.ntmps40
  go_wp2
  go_ret
  exact ⟨by rw [HT.out]; rfl, rfl⟩
end Go.Proofs.YtdnoceancoclmaaGreatDoor.Ru
