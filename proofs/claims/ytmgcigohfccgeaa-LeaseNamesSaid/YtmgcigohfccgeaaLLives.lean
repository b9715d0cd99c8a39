/- Chapter 28's lives answers true. -/
import Derived.Test.YtmgcigohfccgeaaLTab2
namespace Go.Proofs.Ytmgcigohfccgeaa
open Go.RowKit

abbrev em : ByteArray := ⟨#[109]⟩
theorem em_len : em.size ≤ maxLen := by decide
theorem em_ne : em.toList.isEmpty = false := by
  rw [ByteArray.toList, ByteArray.toList.loop, if_pos (by decide), ByteArray.toList.loop, if_neg (by decide)]
  rfl
theorem wait10 : Clk.wait 10 0 = 14 := by decide
theorem waits10 : Clk.waits 10 0 = (Clk.wait 10 0, 0) := by decide

set_option maxRecDepth 100000 in
set_option maxHeartbeats 2000000 in
theorem llives (w : World) :
    Calls Try.prog 13 #[] w fun e w' => e = .returned (.bool true) ∧ Below w.heap.size w w' := by
  go_enter Try.func13, Try.ntmps13
  go_wp2_with (first
    | (go_at_call 15; refine (lnew_ok 10 0 _ waits10).mono ?_; rw [wait10]; rintro e w1 ⟨b, mb, rfl, hb, hmb, ht, hbl⟩; have HX := Lib.hid hb; have HM := Lib.hid hmb; have HT := Lib.hid ht; have HB := Lib.hid hbl; clear hb hmb ht hbl)
    | (go_at_call 16; refine (ladd_ok b mb 10 14 0 [] em _ HT.out (by decide) em_len em_ne rfl (by decide)).mono ?_; rintro e w2 ⟨rfl, ht, hg⟩; have HT2 := Lib.hid (show LTab w2 b mb 10 14 0 [([109], hv 0 0 0)] from ht); have HB2 := Lib.hid (below_andG HB.out hg HM.out); clear ht hg)
    | (go_at_call 19; refine (ltick_ok b mb 10 14 13 _ 1 _ (HT4.out.kept HK5.out) (by decide) (by decide) (by decide)).mono ?_; rintro e w6 ⟨rfl, ht, hg⟩; have HT6 := Lib.hid (show LTab w6 b mb 10 14 14 [([109], hv 0 0 0)] from ht); have HB6 := Lib.hid (below_andG HB5.out hg HX.out); clear ht hg)
    | (go_at_call 19; refine (ltick_ok b mb 10 14 0 _ 13 _ HT2.out (by decide) (by decide) (by decide)).mono ?_; rintro e w3 ⟨rfl, ht, hg⟩; have HT3 := Lib.hid (show LTab w3 b mb 10 14 13 [([109], hv 0 0 0)] from ht); have HB3 := Lib.hid (below_andG HB2.out hg HX.out); clear ht hg)
    | (go_at_call 20; refine (lsure_yes b mb 10 14 14 _ em 0 0 0 _ HT6.out (by decide) em_len rfl (by decide) (by decide) (by decide) true (by decide)).mono ?_; rintro e w7 ⟨rfl, hb⟩; have HB7 := Lib.hid (below_and HB6.out hb); clear hb)
    | (go_at_call 20; refine (lsure_yes b mb 10 14 13 _ em 0 0 0 _ HT3.out (by decide) em_len rfl (by decide) (by decide) (by decide) false (by decide)).mono ?_; rintro e w4 ⟨rfl, hb⟩; have HT4 := Lib.hid (HT3.out.kept hb); have HB4 := Lib.hid (below_and HB3.out hb); clear hb)
    | (go_at_call 50; refine (lLeft_yes b mb 10 14 13 _ em 0 0 0 _ HT4.out (by decide) em_len rfl (by decide) (by decide) (by decide) 1 (by decide)).mono ?_; rintro e w5 ⟨rfl, hb⟩; have HK5 := Lib.hid hb; have HB5 := Lib.hid (below_and HB4.out hb); clear hb))
  go_ret
  exact ⟨rfl, HB7.out⟩
end Go.Proofs.Ytmgcigohfccgeaa
