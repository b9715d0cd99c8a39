/- RuTight. -/
import Derived.Test.YtdemkfhkibmbnaaGreatDoorM08
set_option maxRecDepth 100000
set_option maxHeartbeats 8000000
namespace Go.Proofs.YtdemkfhkibmbnaaGreatDoor.Ru
open Go.RowKit Go.Proofs.YtdemkfhkibmbnaaGreatDoor
theorem tight_any (k : Int) (w : World) :
  Calls Tryz.prog 90 #[.int .i64 k] w fun r w' => r = .returned (.int .i64 ((tightK k : Nat) : Int)) ∧ w' = w := by
 by_cases h9 : k = 9
 ·subst h9
  go_enter Tryz.func90, Tryz.ntmps90; go_wp2; go_ret; exact ⟨rfl, rfl⟩
 by_cases h8 : k = 8
 ·subst h8
  go_enter Tryz.func90, Tryz.ntmps90; go_wp2; go_ret; exact ⟨rfl, rfl⟩
 by_cases h7 : k = 7
 ·subst h7
  go_enter Tryz.func90, Tryz.ntmps90; go_wp2; go_ret; exact ⟨rfl, rfl⟩
 have HT : Hid (tightK k = 4) := zz (by unfold tightK; rw [if_neg h9, if_neg h8, if_neg h7]); have t9 : (k == 9) = false := by simpa using h9
 have t8 : (k == 8) = false := by simpa using h8
 have t7 : (k == 7) = false := by simpa using h7
 clear h9 h8 h7; go_enter Tryz.func90, Tryz.ntmps90; go_wp2; go_ret; exact ⟨by rw [HT.o]; rfl, rfl⟩
