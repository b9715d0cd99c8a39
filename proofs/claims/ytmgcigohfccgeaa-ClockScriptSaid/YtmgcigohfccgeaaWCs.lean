/- The walk of ClockScript: too many acts. -/
import Derived.Test.YtmgcigohfccgeaaCsActs
import Derived.Test.YtmgcigohfccgeaaCLives
import Derived.Test.YtmgcigohfccgeaaRW7
import Derived.Test.YtmgcigohfccgeaaRW4
import Derived.Test.YtmgcigohfccgeaaRW5
namespace Go.Proofs.Ytmgcigohfccgeaa
open Go.RowKit

set_option maxRecDepth 100000 in
set_option maxHeartbeats 600000 in
theorem clockScript_big (v : Value) (l : List Ka) (w : World) (h : Kas w v l) (hl : 200 < l.length) :
    Calls Try.prog 11 #[v] w fun e w' => e = .returned (.bool true) ∧ Below w.heap.size w w' := by
  obtain ⟨p, c, rfl, hlc, hcm⟩ := h.shape
  have hml : maxLen ≤ 9223372036854775807 := by decide
  clear h
  go_enter Try.func11, Try.ntmps11
  go_wp2_with (go_at_call 21; refine (clives _).mono ?_; rintro e w1 ⟨rfl, hb⟩; have HB := Lib.hid hb; clear hb)
  go_ret
  exact ⟨rfl, HB.out⟩

/-- the document's new watch -/
theorem rnew_made (w : World) : RWt (w.alloc (.cells #[.int .i64 0, .slice none 0 0] 80)) w.heap.size 0 (.slice none 0 0) [] ∧ Sh (.slice none 0 0) :=
  ⟨⟨Blk.made w [.int .i64 0, .slice none 0 0] _, ⟨none, 0, rfl, by simp, by simp, rfl, fun _ hu => (by cases hu), fun _ => ⟨rfl, rfl⟩, .inl rfl⟩, by simp [Value.ownBlock]⟩, .inl rfl⟩
end Go.Proofs.Ytmgcigohfccgeaa
