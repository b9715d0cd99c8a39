/- the walk of ResourceBack -/
import Derived.Test.YtmgecehdicpjnaaDoorRLives
import Derived.Test.YtmgecehdicpjnaaDoorBackPlain
import Derived.Test.YtmgecehdicpjnaaDoorWRSums
import Derived.Outline
namespace Go.Proofs.YtmgecehdicpjnaaDoor
open Go.RowKit

theorem text_short {x : Am} (hx : x.okB = true) : (textS x).length ≤ 204 := by
  unfold textS
  split
  · decide
  · have h1 := join_le _ (parts_le hx 4 (Nat.le_refl _))
    have h2 := parts_len x 4
    rw [List.length_map] at h1
    omega

set_option maxRecDepth 100000 in
set_option maxHeartbeats 2000000 in
theorem rback_bad (a : Am) (w : World) (ht : Tab w) (hx : a.okB = false) :
    Calls Tryd.prog 4 #[amV a] w fun e w' => e = .returned (.bool true) ∧ Below w.heap.size w w' := by
  obtain ⟨w3, hw3⟩ : ∃ w3, w3 = w.alloc (.cells #[.int .i64 a.c, .int .i64 a.r, .int .i64 a.d, .int .i64 a.p] 23) := ⟨_, rfl⟩
  obtain ⟨B, hB⟩ : ∃ B, B = w.heap.size := ⟨_, rfl⟩
  have B0 : Hid (Blk w3 B (amC a) 23) := Lib.hid (by rw [hw3, hB]; exact Blk.made w (amC a) _)
  have HBL : Hid (Below w.heap.size w w3) := Lib.hid (by rw [hw3]; exact below_alloc w _)
  have HT : Hid (Tab w3) := Lib.hid (ht.below HBL.out)
  have HX := Lib.hid hx
  have HCH := Lib.hid (Am.chk_no hx)
  clear ht hx
  go_enter Tryd.func4, Tryd.ntmps4
  go_upto_region 1 with fail
  rw [← hw3, ← hB]
  clear hw3 hB
  go_wp2_with (first
    | (go_at_call 9; refine (rlives _ HT.out).mono ?_; rintro e' w4 ⟨rfl, hb⟩; have hb0 := B0.out.kept hb; have C0 := Lib.hid hb0; have c0 := hb0.cell (j := 0) rfl; have c1 := hb0.cell (j := 1) rfl; have c2 := hb0.cell (j := 2) rfl; have c3 := hb0.cell (j := 3) rfl; have HB4 := Lib.hid (below_and HBL.out hb); clear hb hb0)
    | (go_at_call 10; refine (text_bad a _ HX.out).mono ?_; rintro e' w5 ⟨rfl, hb⟩; have hb0 := C0.out.kept hb; clear c0 c1 c2 c3; have c0 := hb0.cell (j := 0) rfl; have c1 := hb0.cell (j := 1) rfl; have c2 := hb0.cell (j := 2) rfl; have c3 := hb0.cell (j := 3) rfl; have HB5 := Lib.hid (below_and HB4.out hb); clear hb hb0)
    | (go_at_call 14; refine (check_any a _).mono ?_; rw [HCH.out]; rintro e' w6 ⟨rfl, hb⟩; have HB6 := Lib.hid (below_and HB5.out hb); clear hb))
  go_ret
  exact ⟨rfl, HB6.out⟩

set_option maxRecDepth 100000 in
set_option maxHeartbeats 2000000 in
theorem rback_good (a : Am) (w : World) (ht : Tab w) (hx : a.okB = true) :
    Calls Tryd.prog 4 #[amV a] w fun e w' => e = .returned (.bool true) ∧ Below w.heap.size w w' := by
  obtain ⟨w3, hw3⟩ : ∃ w3, w3 = w.alloc (.cells #[.int .i64 a.c, .int .i64 a.r, .int .i64 a.d, .int .i64 a.p] 23) := ⟨_, rfl⟩
  obtain ⟨B, hB⟩ : ∃ B, B = w.heap.size := ⟨_, rfl⟩
  have B0 : Hid (Blk w3 B (amC a) 23) := Lib.hid (by rw [hw3, hB]; exact Blk.made w (amC a) _)
  have HBL : Hid (Below w.heap.size w w3) := Lib.hid (by rw [hw3]; exact below_alloc w _)
  have HT : Hid (Tab w3) := Lib.hid (ht.below HBL.out)
  have HX := Lib.hid hx
  obtain ⟨s, hs⟩ : ∃ s : ByteArray, s = ⟨(textS a).toArray⟩ := ⟨_, rfl⟩
  have HTX : Hid (∀ w, Tab w → Calls Tryd.prog 10 #[amV a] w fun e w' => e = .returned (.tuple #[.string s, .int .i64 0]) ∧ Below w.heap.size w w') := Lib.hid (fun w ht => by rw [hs]; exact text_good a w hx ht)
  have HPA : Hid (∀ w, Calls Tryd.prog 12 #[.string s] w fun e w' => e = .returned (.tuple #[amV a, .agg #[.int .i64 0, .int .i64 0]]) ∧ Below w.heap.size w w') := Lib.hid (fun w => by
    have h1 := text_short hx
    have h2 : s.size = (textS a).length := by rw [hs]; show (textS a).toArray.size = _; simp
    have h3 : s.data.toList = textS a := by rw [hs]
    have h4 := parse_any s w (by omega)
    unfold pPost at h4
    rw [h3, text_back a hx] at h4
    exact h4)
  clear ht hx hs
  go_enter Tryd.func4, Tryd.ntmps4
  go_upto_region 1 with fail
  rw [← hw3, ← hB]
  clear hw3 hB
  go_wp2_with (first
    | (go_at_call 9; refine (rlives _ HT.out).mono ?_; rintro e' w4 ⟨rfl, hb⟩; have hb0 := B0.out.kept hb; have C0 := Lib.hid hb0; have c0 := hb0.cell (j := 0) rfl; have c1 := hb0.cell (j := 1) rfl; have c2 := hb0.cell (j := 2) rfl; have c3 := hb0.cell (j := 3) rfl; have HB4 := Lib.hid (below_and HBL.out hb); have HT4 := Lib.hid (HT.out.below hb); clear hb hb0)
    | (go_at_call 10; refine (HTX.out _ HT4.out).mono ?_; rintro e' w5 ⟨rfl, hb⟩; have hb0 := C0.out.kept hb; clear c0 c1 c2 c3; have D0 := Lib.hid hb0; have HB5 := Lib.hid (below_and HB4.out hb); clear hb hb0)
    | (go_at_call 12; refine (HPA.out _).mono ?_; rintro e' w6 ⟨rfl, hb⟩; have hb0 := D0.out.kept hb; have c0 : ∀ (A F : Array Value) (t f : TypeId), ((w6.alloc (.cells A t)).alloc (.cells F f)).cell? ⟨B, 0, none⟩ = some (.int .i64 a.c) := fun A F t f => ((hb0.alloc _).alloc _).cell (j := 0) rfl; have c1 : ∀ (A F : Array Value) (t f : TypeId), ((w6.alloc (.cells A t)).alloc (.cells F f)).cell? ⟨B, 1, none⟩ = some (.int .i64 a.r) := fun A F t f => ((hb0.alloc _).alloc _).cell (j := 1) rfl; have c2 : ∀ (A F : Array Value) (t f : TypeId), ((w6.alloc (.cells A t)).alloc (.cells F f)).cell? ⟨B, 2, none⟩ = some (.int .i64 a.d) := fun A F t f => ((hb0.alloc _).alloc _).cell (j := 2) rfl; have c3 : ∀ (A F : Array Value) (t f : TypeId), ((w6.alloc (.cells A t)).alloc (.cells F f)).cell? ⟨B, 3, none⟩ = some (.int .i64 a.p) := fun A F t f => ((hb0.alloc _).alloc _).cell (j := 3) rfl; have HB6 := Lib.hid (below_and HB5.out hb); clear hb hb0))
  go_ret
  exact ⟨rfl, below_and (below_and HB6.out (below_alloc _ _)) (below_alloc _ _)⟩

theorem resourceBack_walk (xs : List Value) (w : World) (hl : xs.length = 4) (h0 : fieldOk Tryd.prog 2 (xs.getD 0 undef)) (h1 : fieldOk Tryd.prog 2 (xs.getD 1 undef)) (h2 : fieldOk Tryd.prog 2 (xs.getD 2 undef)) (h3 : fieldOk Tryd.prog 2 (xs.getD 3 undef)) (ht : Tab w) :
    Calls Tryd.prog 4 #[.agg xs.toArray] w fun e w' => e = .returned (.bool true) ∧ Below w.heap.size w w' := by
  obtain ⟨a, ha⟩ := am_of xs hl h0 h1 h2 h3
  rw [ha]
  cases hx : a.okB
  · exact rback_bad a w ht hx
  · exact rback_good a w ht hx
end Go.Proofs.YtmgecehdicpjnaaDoor
