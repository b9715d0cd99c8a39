/- WireScript, walked -/
import Derived.Test.YtchaigaechmbnaaWReads
namespace Go.Proofs.Ytchaigaechmbnaa
open Go.RowKit

theorem RRdr.keptR {w w' : World} {b c : Nat} {l : List UInt8} {at_ : Nat} {e : Int} (h : RRdr w b l at_ e) (hg : w.grownBy w' (some c)) (hb : b = c + 1) : RRdr w' b l at_ e := by
  subst hb
  obtain ⟨v, h1, hv, hown, hat⟩ := h
  exact ⟨v, h1.grown hg (by simp), hv.grownA hg (fun hl e => by have := hown hl c e; omega), hown, hat⟩
theorem Rdr.keptX {w w' : World} {b c : Nat} {l : List UInt8} {at_ : Nat} {e : Int} (h : Rdr w b l at_ e) (hg : w.grownBy w' (some c)) (hb : c = b + 1) : Rdr w' b l at_ e := by
  subst hb
  obtain ⟨v, h1, hv, hown, hat⟩ := h
  exact ⟨v, h1.grown hg (by simp), hv.grownA hg (fun hl e => by have := hown hl _ e; omega), hown, hat⟩

theorem tmod_eq (x : Int) : ((x.tmod 7 + 7).tmod 7) = x % 7 := by
  have h1 := Int.tmod_lt_of_pos x (show (0 : Int) < 7 by omega)
  have h2 : -7 < x.tmod 7 := by
    rcases Int.le_total 0 x with h | h
    · have := Int.tmod_nonneg 7 h; omega
    · have h3 := Int.tmod_nonneg 7 (show 0 ≤ -x by omega)
      have h4 := Int.tmod_lt_of_pos (-x) (show (0 : Int) < 7 by omega)
      rw [Int.neg_tmod] at h3 h4; omega
  have h3 := Int.mul_tdiv_add_tmod x 7
  rw [Int.tmod_eq_emod_of_nonneg (by omega)]
  omega

set_option maxRecDepth 100000 in
set_option maxHeartbeats 1000000 in
theorem pick_any (x : Int) (w : World) :
    Calls Try.prog 32 #[.int .i64 x, .int .i64 7] w fun e w' => e = .returned (.int .i64 (x % 7)) ∧ w' = w := by
  have h1 := Int.tmod_lt_of_pos x (show (0 : Int) < 7 by omega)
  have h2 : -7 < x.tmod 7 := by
    rcases Int.le_total 0 x with h | h
    · have := Int.tmod_nonneg 7 h; omega
    · have h3 := Int.tmod_nonneg 7 (show 0 ≤ -x by omega)
      have h4 := Int.tmod_lt_of_pos (-x) (show (0 : Int) < 7 by omega)
      rw [Int.neg_tmod] at h3 h4; omega
  have s1 : wrap64 (x.tmod 7) = x.tmod 7 := by unfold wrap64; omega
  have s2 : wrap64 (x.tmod 7 + 7) = x.tmod 7 + 7 := by unfold wrap64; omega
  have s3 : wrap64 ((x.tmod 7 + 7).tmod 7) = x % 7 := by rw [tmod_eq]; unfold wrap64; omega
  have s4 := tmod_eq x
  have s5 : wrap64 (x % 7) = x % 7 := by unfold wrap64; omega
  go_enter Try.func32, Try.ntmps32
  go_wp2
  go_ret
  exact ⟨rfl, rfl⟩

set_option maxRecDepth 100000 in
set_option maxHeartbeats 1000000 in
theorem same_readers (b c : Nat) (l : List UInt8) (at_ : Nat) (e : Int) (w : World) (h1 : Rdr w b l at_ e) (h2 : RRdr w c l at_ e) :
    Calls Try.prog 42 #[ptr b, ptr c] w fun ε w' => ε = .returned (.bool true) ∧ ∃ n, w' = w.drewN n := by
  have H1 := Lib.hid h1
  obtain ⟨v, hb, -, -, -⟩ := h2
  have d1 := hb.cell (j := 1) rfl
  have d2 := hb.cell (j := 2) rfl
  have t1 : (e == e) = true := by simp
  have t2 : ((at_ : Int) == (at_ : Int)) = true := by simp
  clear h1 hb
  go_enter Try.func42, Try.ntmps42
  go_wp2_with fail
  go_quiet (first
    | (go_at_call 21; exact Calls.quiet_of_same (err_any b l at_ e _ (H1.out.drewN _)))
    | (go_at_call 23; exact Calls.quiet_of_same (at_any b l at_ e _ (H1.out.drewN _))))
  go_wp2
  go_ret
  exact ⟨rfl, nq, rfl⟩

end Go.Proofs.Ytchaigaechmbnaa
