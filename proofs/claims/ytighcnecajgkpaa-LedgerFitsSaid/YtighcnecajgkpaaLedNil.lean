/- LedgerNil: step on no ledger; the walk. -/
import Derived.Test.YtighcnecajgkpaaLedOff
import Derived.Test.YtighcnecajgkpaaLedLives
import Derived.Test.YtighcnecajgkpaaPick
import Derived.Test.YtighcnecajgkpaaOpen5
namespace Go.Proofs.Ytighcnecajgkpaa
open Go.RowKit

/-- the leaves of an Act -/
abbrev actC (k : Int) (s t : ByteArray) (a : Am) : List Value := [.int .i64 k, .string s, .string t, .int .i64 a.c, .int .i64 a.r, .int .i64 a.d, .int .i64 a.p]

set_option maxRecDepth 100000 in
set_option maxHeartbeats 2000000 in
theorem off_step (v : Value) (k : Int) (s t : ByteArray) (a : Am) (w : World) (h : Off v w) :
    Calls Try.prog 16 #[v, .agg #[.int .i64 k, .string s, .string t, .int .i64 a.c, .int .i64 a.r, .int .i64 a.d, .int .i64 a.p]] w fun e w' => e = .returned (.int .i64 1) ∧ Below w.heap.size w w' := by
  obtain ⟨w3, hw3⟩ : ∃ w3, w3 = w.alloc (.cells #[.int .i64 k, .string s, .string t, .int .i64 a.c, .int .i64 a.r, .int .i64 a.d, .int .i64 a.p] 40) := ⟨_, rfl⟩
  obtain ⟨B, hB⟩ : ∃ B, B = w.heap.size := ⟨_, rfl⟩
  have S0 : Hid (Blk w3 B (actC k s t a) 40) := Lib.hid (by rw [hw3, hB]; exact Blk.made w (actC k s t a) _)
  have HBL : Hid (Below w.heap.size w w3) := Lib.hid (by rw [hw3]; exact below_alloc w _)
  have H3 := Lib.hid (h.kept HBL.out)
  have c0 := S0.out.cell (j := 0) rfl
  have c1 := S0.out.cell (j := 1) rfl
  have c2 := S0.out.cell (j := 2) rfl
  have c3 := S0.out.cell (j := 3) rfl
  have c4 := S0.out.cell (j := 4) rfl
  have c5 := S0.out.cell (j := 5) rfl
  have c6 := S0.out.cell (j := 6) rfl
  have hq0 := Int.emod_nonneg k (show (4 : Int) ≠ 0 by omega)
  have hq4 := Int.emod_lt_of_pos k (show (0 : Int) < 4 by omega)
  have HPK := Lib.hid (pickn_any k 4 w3 (by omega) (by omega))
  generalize k % 4 = q at hq0 hq4 HPK
  clear h
  obtain rfl | rfl | rfl | rfl : q = 0 ∨ q = 1 ∨ q = 2 ∨ q = 3 := by omega
  all_goals
    go_enter Try.func16, Try.ntmps16
    go_upto_region 1 with fail
    rw [← hw3, ← hB]
    clear hw3 hB
    go_wp2_with (first
      | (go_at_call 37; refine HPK.out.mono ?_; rintro e w4 ⟨rfl, rfl⟩)
      | (go_at_call 9; refine (off_take v s t a _ H3.out).mono ?_; rintro e w4 ⟨rfl, hb⟩; have HB4 := Lib.hid (below_and HBL.out hb); clear hb)
      | (go_at_call 11; refine (off_give v s _ H3.out).mono ?_; rintro e w4 ⟨rfl, hb⟩; have HB4 := Lib.hid (below_and HBL.out hb); clear hb)
      | (go_at_call 12; refine (off_resize v s a _ H3.out).mono ?_; rintro e w4 ⟨rfl, hb⟩; have HB4 := Lib.hid (below_and HBL.out hb); clear hb)
      | (go_at_call 22; refine (off_get v s _ H3.out).mono ?_; rintro e w4 ⟨rfl, hb⟩; have HB4 := Lib.hid (below_and HBL.out hb); clear hb))
    go_ret
    exact ⟨rfl, by first | exact HB4.out | exact below_and HB4.out (below_alloc _ _)⟩
end Go.Proofs.Ytighcnecajgkpaa
