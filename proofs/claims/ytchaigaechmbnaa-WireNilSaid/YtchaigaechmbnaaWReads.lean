/- WireReads, walked -/
import Derived.Test.YtchaigaechmbnaaLives
namespace Go.Proofs.Ytchaigaechmbnaa
open Go.RowKit

theorem room_reach {n : Nat} (h : n ≤ 140737488351232) : Room n := by unfold Room; omega

set_option maxRecDepth 100000 in
set_option maxHeartbeats 1000000 in
theorem wireReads_walk (v : Value) (l : List UInt8) (w : World) (h : Rd w v l) (hl : l.length ≤ 140737488351232) :
    Calls Try.prog 3 #[v] w fun e w' => e = .returned (.bool true) ∧ Below w.heap.size w w' := by
  have HV := Lib.hid h
  have HL := Lib.hid (room_reach hl)
  clear h hl
  go_enter Try.func3, Try.ntmps3
  go_wp2_with fail
  refine (lives_any w).mono ?_
  rintro e w1 ⟨rfl, hb⟩
  have HB1 := Lib.hid hb
  clear hb
  go_wp2_with fail
  refine (own_any v l w1 (HV.out.below HB1.out) HL.out).mono ?_
  rintro e w2 ⟨v2, rfl, ho, hb⟩
  have HO := Lib.hid ho
  have HB2 := Lib.hid (below_and HB1.out hb)
  clear hb ho HB1
  go_wp2_with fail
  refine (opq (read_any v2 l w2 (HO.out.rd HL.out))).mono ?_
  rintro e w3 ⟨rfl, hb⟩
  have HO3 := Lib.hid (HO.out.below hb)
  have HB3 := Lib.hid (below_and HB2.out hb)
  clear hb HO HB2
  go_wp2_with fail
  refine (opq (refRead_any v l w3 (HV.out.below HB3.out))).mono ?_
  rintro e w4 ⟨rfl, hb⟩
  have HO4 := Lib.hid (HO3.out.below hb)
  have HB4 := Lib.hid (below_and HB3.out hb)
  clear hb HO3 HB3
  go_wp2_with fail
  refine (opq (kept_any v2 v l w4 HO4.out (HV.out.below HB4.out) HL.out)).mono ?_
  rintro e w5 ⟨rfl, hb⟩
  have HB5 := Lib.hid (below_and HB4.out hb)
  clear hb HO4 HB4
  go_wp2_with fail
  go_ret
  exact ⟨rfl, HB5.out⟩
end Go.Proofs.Ytchaigaechmbnaa
