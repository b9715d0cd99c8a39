/- The document's watch: a tick out of bounds. -/
import Derived.Test.YtmgcigohfccgeaaRW
namespace Go.Proofs.Ytmgcigohfccgeaa
open Go.RowKit

set_option maxRecDepth 100000 in
set_option maxHeartbeats 1000000 in
theorem rtick_bad (b : Nat) (n : Int) (w : World) (hb : n < 0 ∨ 1048576 < n) :
    Calls Try.prog 51 #[ptr b, .int .i64 n] w fun e w' => e = .returned (.tuple #[.slice none 0 0, .int .i64 2]) ∧ w = w' := by
  by_cases h1 : n < 0
  · clear hb
    go_enter Try.func51, Try.ntmps51
    go_wp2
    go_ret2
    exact ⟨rfl, rfl⟩
  · have h2 : 1048576 < n := by omega
    clear hb
    go_enter Try.func51, Try.ntmps51
    go_wp2
    go_ret2
    exact ⟨rfl, rfl⟩
end Go.Proofs.Ytmgcigohfccgeaa
