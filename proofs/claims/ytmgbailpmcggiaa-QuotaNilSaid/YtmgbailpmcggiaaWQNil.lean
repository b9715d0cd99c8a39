/- the walk of QuotaNil -/
import Derived.Test.YtmgbailpmcggiaaQOff
import Derived.Test.YtmgbailpmcggiaaOpen5
namespace Go.Proofs.Ytmgbailpmcggiaa
open Go.RowKit

set_option maxRecDepth 100000 in
set_option maxHeartbeats 4000000 in
theorem quotaNil_go (k : Int) (s u : ByteArray) (d : Int) (a : Am) (w : World) :
    Calls Try.prog 5 #[actV k s u d a] w fun e w' => e = .returned (.bool true) ∧ Below w.heap.size w w' := by
  obtain ⟨w1, hw1⟩ : ∃ w1, w1 = w.alloc (.cells #[.int .i64 k, .string s, .string u, .int .i64 d, .int .i64 a.c, .int .i64 a.r, .int .i64 a.d, .int .i64 a.p] 40) := ⟨_, rfl⟩
  obtain ⟨w2, hw2⟩ : ∃ w2, w2 = w1.alloc (.cells #[.map none, .map none] 54) := ⟨_, rfl⟩
  obtain ⟨B, hB⟩ : ∃ B, B = w.heap.size := ⟨_, rfl⟩
  have z1 : w1.heap.size = B + 1 := by rw [hw1, hB]; simp
  have z2 : w2.heap.size = B + 1 + 1 := by rw [hw2]; simp [z1]
  obtain ⟨w3, hw3⟩ : ∃ w3, w3 = w2.alloc (.cells #[.pointer none, ptr (B + 1)] 23) := ⟨_, rfl⟩
  have hb3 : Below w.heap.size w w3 := by rw [hw3, hw2, hw1]; exact below_and (below_and (below_alloc w _) (below_alloc _ _)) (below_alloc _ _)
  have hA : Blk w3 B (actC k s u d a) 40 := by rw [hw3, hw2, hw1, hB]; exact ((Blk.made w (actC k s u d a) _).alloc _).alloc _
  have hU : Blk w3 (B + 1) [.map none, .map none] 54 := by
    have := (Blk.made w1 [.map none, .map none] 54).alloc (.cells #[.pointer none, ptr (B + 1)] 23)
    rw [z1, ← hw2, ← hw3] at this
    exact this
  have hP : Blk w3 (B + 1 + 1) [.pointer none, ptr (B + 1)] 23 := by
    have := Blk.made w2 [.pointer none, ptr (B + 1)] 23
    rw [z2, ← hw3] at this
    exact this
  have HA := Lib.hid hA
  have HP := Lib.hid hP
  have HB3 := Lib.hid hb3
  have HO : Hid (∀ q : Nat, q < 2 → ∃ v, [Value.pointer none, ptr (B + 1)][q]? = some v ∧ QOff v w3) := Lib.hid (fun q hq => by
    obtain rfl | rfl : q = 0 ∨ q = 1 := by omega
    · exact ⟨_, rfl, .inl rfl⟩
    · exact ⟨_, rfl, .inr ⟨_, rfl, hU⟩⟩)
  have HW : Hid (w3 = ((w.alloc (.cells #[.int .i64 k, .string s, .string u, .int .i64 d, .int .i64 a.c, .int .i64 a.r, .int .i64 a.d, .int .i64 a.p] 40)).alloc (.cells #[.map none, .map none] 54)).alloc (.cells #[.pointer none, ptr (w.heap.size + 1)] 23)) := Lib.hid (by rw [hw3, hw2, hw1, hB])
  have HBB := Lib.hid hB
  clear hA hU hP hb3 z1 z2 hw1 hw2 hw3 hB
  clear w1 w2
  go_enter Try.func5, Try.ntmps5
  go_upto_region 2 with fail
  rw [← HW.out, ← HBB.out]
  clear HW HBB
  go_wp2
  go_loopw [4] (fun i wr => ∃ q : Nat, q ≤ 2 ∧ i = .int .i64 (q : Int) ∧ Hid (Below w3.heap.size w3 wr)) (fun i _ => 2 - (intOf i).toNat)
  case atStart => exact ⟨0, by omega, rfl, Lib.hid (Below.refl _ _)⟩
  case round =>
    obtain ⟨q, hq, rfl, HB⟩ := hrel
    by_cases hlt : q < 2
    · obtain ⟨v, hv, hoff⟩ := HO.out q hlt
      have i1 : (q : Int) < 2 := by omega
      have i0 : (0 : Int) ≤ (q : Int) := by omega
      have HAR := Lib.hid (HA.out.kept HB.out)
      have p0 := (HP.out.kept HB.out).cell (j := q) hv
      have HOV := Lib.hid (hoff.kept HB.out)
      have a2 := HAR.out.cell (j := 2) rfl
      have a3 := HAR.out.cell (j := 3) rfl
      clear hv hoff
      go_upto_region 7 with (go_at_call 22; refine (qoff_used v u d _ HOV.out).mono ?_; rintro e w6 ⟨rfl, hb⟩; have hbz := below_and hb (below_alloc w6 (.cells #[.int .i64 Am.zero.c, .int .i64 Am.zero.r, .int .i64 Am.zero.d, .int .i64 Am.zero.p] 28)); have HB6 := Lib.hid hbz; have HX6 := Lib.hid (Blk.made w6 (amC .zero) 28); clear hb hbz a2 a3 p0)
      refine at_hide (F := fun w' => Blk w' w6.heap.size (amC .zero) 28 ∧ Below wr.heap.size wr w') ⟨HX6.out, HB6.out⟩ ?_
      intro w7 hF
      obtain ⟨x, hx⟩ : ∃ x, x = w6.heap.size := ⟨_, rfl⟩
      rw [← hx] at hF ⊢
      have HX7 := Lib.hid hF.1
      have HB7 := Lib.hid hF.2
      clear hF HX6 HB6 hx
      clear w6
      have a2 := (HAR.out.kept HB7.out).cell (j := 2) rfl
      have a3 := (HAR.out.kept HB7.out).cell (j := 3) rfl
      go_upto_region 8 with (go_at_call 16; refine (qoff_granted v u d _ (HOV.out.kept HB7.out)).mono ?_; rintro e w8 ⟨rfl, hb⟩; have hbz := below_and hb (below_alloc w8 (.cells #[.int .i64 Am.zero.c, .int .i64 Am.zero.r, .int .i64 Am.zero.d, .int .i64 Am.zero.p] 28)); have HB8 := Lib.hid (below_and HB7.out hbz); have HX8 := Lib.hid (HX7.out.kept hbz); have HY8 := Lib.hid (Blk.made w8 (amC .zero) 28); clear hb hbz a2 a3)
      refine at_hide (F := fun w' => Blk w' x (amC .zero) 28 ∧ Blk w' w8.heap.size (amC .zero) 28 ∧ Below wr.heap.size wr w') ⟨HX8.out, HY8.out, HB8.out⟩ ?_
      intro w9 hF
      obtain ⟨y, hy⟩ : ∃ y, y = w8.heap.size := ⟨_, rfl⟩
      rw [← hy] at hF ⊢
      have HX9 := Lib.hid hF.1
      have HY9 := Lib.hid hF.2.1
      have HB9 := Lib.hid hF.2.2
      clear hF HX8 HY8 HB8 hy HX7 HB7
      clear w8 w7
      have a2 := (HAR.out.kept HB9.out).cell (j := 2) rfl
      have a3 := (HAR.out.kept HB9.out).cell (j := 3) rfl
      go_upto_region 9 with (go_at_call 12; refine (qoff_left v u d _ (HOV.out.kept HB9.out)).mono ?_; rintro e w10 ⟨rfl, hb⟩; have hbz := below_and hb (below_alloc w10 (.cells #[.int .i64 Am.zero.c, .int .i64 Am.zero.r, .int .i64 Am.zero.d, .int .i64 Am.zero.p] 28)); have HBA := Lib.hid (below_and HB9.out hbz); have HXA := Lib.hid (HX9.out.kept hbz); have HYA := Lib.hid (HY9.out.kept hbz); have HZA := Lib.hid (Blk.made w10 (amC .zero) 28); clear hb hbz a2 a3)
      refine at_hide (F := fun w' => Blk w' x (amC .zero) 28 ∧ Blk w' y (amC .zero) 28 ∧ Blk w' w10.heap.size (amC .zero) 28 ∧ Below wr.heap.size wr w') ⟨HXA.out, HYA.out, HZA.out, HBA.out⟩ ?_
      intro w11 hF
      obtain ⟨z, hz⟩ : ∃ z, z = w10.heap.size := ⟨_, rfl⟩
      rw [← hz] at hF ⊢
      have HX11 := Lib.hid hF.1
      have HY11 := Lib.hid hF.2.1
      have HZ11 := Lib.hid hF.2.2.1
      have HB11 := Lib.hid hF.2.2.2
      clear hF HXA HYA HZA HBA hz HX9 HY9 HB9
      clear w10 w9
      have ha := HAR.out.kept HB11.out
      have a0 := ha.cell (j := 0) rfl
      have a1 := ha.cell (j := 1) rfl
      have a2 := ha.cell (j := 2) rfl
      have a3 := ha.cell (j := 3) rfl
      have a4 := ha.cell (j := 4) rfl
      have a5 := ha.cell (j := 5) rfl
      have a6 := ha.cell (j := 6) rfl
      have a7 := ha.cell (j := 7) rfl
      clear ha
      go_wp2_with (first
        | (go_at_call 19; refine (qoff_step v k s u d a _ (HOV.out.kept HB11.out)).mono ?_; rintro e w12 ⟨rfl, hb⟩; have HB12 := Lib.hid (below_and HB11.out hb); have hx := HX11.out.kept hb; have hy := HY11.out.kept hb; have hz := HZ11.out.kept hb; have x0 := hx.cell (j := 0) rfl; have x1 := hx.cell (j := 1) rfl; have x2 := hx.cell (j := 2) rfl; have x3 := hx.cell (j := 3) rfl; have y0 := hy.cell (j := 0) rfl; have y1 := hy.cell (j := 1) rfl; have y2 := hy.cell (j := 2) rfl; have y3 := hy.cell (j := 3) rfl; have z0 := hz.cell (j := 0) rfl; have z1 := hz.cell (j := 1) rfl; have z2 := hz.cell (j := 2) rfl; have z3 := hz.cell (j := 3) rfl; clear hb hx hy hz)
        | (go_at_call 13; refine (qoff_charges v _ (HOV.out.kept HB12.out)).mono ?_; rintro e w13 ⟨rfl, hb⟩; have HB13 := Lib.hid (below_and HB12.out hb); clear hb)
        | (go_at_call 18; refine (qoff_grants v _ (HOV.out.kept HB13.out)).mono ?_; rintro e w14 ⟨rfl, hb⟩; have HB14 := Lib.hid (below_and HB13.out hb); clear hb)
        | (go_at_call 10; refine (qoff_over v _ (HOV.out.kept HB14.out)).mono ?_; rintro e w15 ⟨rfl, hb⟩; have HB15 := Lib.hid (below_and HB14.out hb); clear hb))
      go_roundw
      case rel => exact ⟨q + 1, by omega, by go_num, Lib.hid (below_and HB.out HB15.out)⟩
      case measure => simp [intOf]; omega
    · obtain rfl : q = 2 := by omega
      go_wp2_with (go_at_call 6; refine (qlives _).mono ?_; rintro e w4 ⟨rfl, hb⟩; have HB4 := Lib.hid (below_and (below_and HB3.out HB.out) hb); clear hb)
      go_ret
      exact ⟨rfl, HB4.out⟩

theorem quotaNil_walk (cs : List Value) (w : World) (h : Leaves Try.prog [3, 9, 9, 3, 2, 2, 2, 2] cs) :
    Calls Try.prog 5 #[.agg cs.toArray] w fun e w' => e = .returned (.bool true) ∧ Below w.heap.size w w' := by
  match cs, h.1, h.2 with
  | [v0, v1, v2, v3, v4, v5, v6, v7], _, hf =>
    obtain ⟨k, rfl, -⟩ := fieldOk.int (v := v0) (hf 0 _ rfl) Try.underlying3
    obtain ⟨s, rfl, -⟩ := fieldOk.str (v := v1) (hf 1 _ rfl) Try.underlying9
    obtain ⟨u, rfl, -⟩ := fieldOk.str (v := v2) (hf 2 _ rfl) Try.underlying9
    obtain ⟨d, rfl, -⟩ := fieldOk.int (v := v3) (hf 3 _ rfl) Try.underlying3
    obtain ⟨c, rfl, -⟩ := fieldOk.int (v := v4) (hf 4 _ rfl) Try.underlying2
    obtain ⟨r, rfl, -⟩ := fieldOk.int (v := v5) (hf 5 _ rfl) Try.underlying2
    obtain ⟨e, rfl, -⟩ := fieldOk.int (v := v6) (hf 6 _ rfl) Try.underlying2
    obtain ⟨p, rfl, -⟩ := fieldOk.int (v := v7) (hf 7 _ rfl) Try.underlying2
    exact quotaNil_go k s u d ⟨c, r, e, p⟩ w
end Go.Proofs.Ytmgbailpmcggiaa
