/- Chapter 9's lives answers true. -/
import Derived.Test.YtmgecehdicpjnaaDoorParse
import Derived.Test.YtmgecehdicpjnaaDoorText
namespace Go.Proofs.YtmgecehdicpjnaaDoor
open Go.RowKit

theorem text500 : textS ⟨500, 0, 0, 2⟩ = [99, 112, 117, 61, 53, 48, 48, 32, 112, 111, 114, 116, 115, 61, 50] := by decide +kernel
theorem parse_l : parseP [114, 97, 109, 61, 49, 32, 32, 99, 112, 117, 61, 50] = (⟨2, 1, 0, 0⟩, 0, 0) := by decide

set_option maxRecDepth 100000 in
set_option maxHeartbeats 1000000 in
theorem rlives (w : World) (ht : Tab w) :
    Calls Tryd.prog 9 #[] w fun e w' => e = .returned (.bool true) ∧ Below w.heap.size w w' := by
  have HT := Lib.hid ht
  have HS : Hid ((⟨(textS ⟨500, 0, 0, 2⟩).toArray⟩ : ByteArray) = ⟨#[99, 112, 117, 61, 53, 48, 48, 32, 112, 111, 114, 116, 115, 61, 50]⟩) := Lib.hid (by rw [text500])
  have HP := Lib.hid (fun w => parse_any ⟨#[114, 97, 109, 61, 49, 32, 32, 99, 112, 117, 61, 50]⟩ w (by decide))
  clear ht
  go_enter Tryd.func9, Tryd.ntmps9
  go_wp2_with (first
    | (go_at_call 10; refine (text_good ⟨500, 0, 0, 2⟩ _ (by decide) HT.out).mono ?_; rw [HS.out]; rintro e w1 ⟨rfl, hb⟩; have HB1 := Lib.hid hb; clear hb)
    | (go_at_call 12; refine (HP.out _).mono ?_; unfold pPost; rw [parse_l]; rintro e w2 ⟨rfl, hb⟩; have HB2 := Lib.hid (below_and HB1.out hb); clear hb))
  go_ret
  exact ⟨rfl, below_and HB2.out (below_and (below_alloc _ _) (below_alloc _ _))⟩
end Go.Proofs.YtmgecehdicpjnaaDoor
