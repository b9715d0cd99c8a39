/- the walk of ClockCalls -/
import Derived.Test.YtmgcigohfccgeaaCLend
import Derived.Test.YtmgcigohfccgeaaRKeeps
import Derived.Test.YtmgcigohfccgeaaRWait
namespace Go.Proofs.Ytmgcigohfccgeaa
open Go.RowKit

set_option maxRecDepth 100000 in
set_option maxHeartbeats 1000000 in
theorem clockCalls_walk (v : Value) (zss : List (List Int)) (node d lease : Int) (w : World) (h : Rows2 w v zss) (_ : ∀ l ∈ zss, ∀ n ∈ l, (Lit.int .i64 n).wf = true) (_ : (Lit.int .i64 node).wf = true) (_ : (Lit.int .i64 d).wf = true) (_ : (Lit.int .i64 lease).wf = true) :
    Calls Try.prog 4 #[v, .int .i64 node, .int .i64 d, .int .i64 lease] w fun e w' => e = .returned (.bool true) ∧ Below w.heap.size w w' := by
  have HZ := Lib.hid h
  clear h
  cases hs : Clk.small zss
  · have HS := Lib.hid hs
    clear hs
    go_enter Try.func4, Try.ntmps4
    go_wp2_with (first
      | (go_at_call 21; refine (clives _).mono ?_; rintro e w1 ⟨rfl, hb⟩; have HB := Lib.hid hb; have HZ1 := Lib.hid (HZ.out.below hb); clear hb)
      | (go_at_call 22; refine (small_any _ zss _ HZ1.out).mono ?_; rw [HS.out]; rintro e w2 ⟨rfl, rfl⟩))
    go_ret
    exact ⟨rfl, HB.out⟩
  · have HS := Lib.hid hs
    have hl : zss.length ≤ 200 := by unfold Clk.small at hs; simp at hs; exact hs.2
    rcases hK : Clk.keeps zss node d with ⟨a0, e0⟩
    rcases hW : Clk.waits lease d with ⟨W, e2⟩
    have HK := Lib.hid hK
    have HW := Lib.hid hW
    clear hs hK hW
    go_enter Try.func4, Try.ntmps4
    go_wp2_with (first
      | (go_at_call 21; refine (clives _).mono ?_; rintro e w1 ⟨rfl, hb⟩; have HB := Lib.hid hb; have HZ1 := Lib.hid (HZ.out.below hb); clear hb)
      | (go_at_call 22; refine (small_any _ zss _ HZ1.out).mono ?_; rw [HS.out]; rintro e w2 ⟨rfl, rfl⟩)
      | (go_at_call 23; refine (lend_any _ zss _ HZ1.out HS.out).mono ?_; rintro e w2 ⟨v2, rfl, hr, hb⟩; have HR2 := Lib.hid hr; have HB2 := Lib.hid (below_and HB.out hb); have HZ2 := Lib.hid (HZ1.out.below hb); clear hr hb)
      | (go_at_call 14; refine (keeps_any _ zss _ d _ HR2.out).mono ?_; rw [HK.out]; rintro e w4 ⟨rfl, rfl⟩)
      | (go_at_call 24; refine (rkeeps_any _ zss _ d _ HZ2.out hl).mono ?_; rw [HK.out]; rintro e w4 ⟨rfl, hb⟩; have HB4 := Lib.hid (below_and HB2.out hb); clear hb)
      | (go_at_call 25; refine (wait_any _ _ _).mono ?_; rw [HW.out]; rintro e w5 ⟨rfl, rfl⟩)
      | (go_at_call 26; refine (rwait_any _ _ _).mono ?_; rw [HW.out]; rintro e w5 ⟨rfl, rfl⟩))
    go_ret
    exact ⟨by first | rfl | simp, HB4.out⟩
end Go.Proofs.Ytmgcigohfccgeaa
