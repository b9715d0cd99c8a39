/- the walk of ResourceTexts -/
import Derived.Test.YtmgecehdicpjnaaDoorRParse
import Derived.Test.YtmgecehdicpjnaaDoorWRBack
namespace Go.Proofs.YtmgecehdicpjnaaDoor
open Go.RowKit

theorem text_any (x : Am) (w : World) (ht : Tab w) : Calls Tryd.prog 10 #[amV x] w fun e w' => e = .returned (.tuple #[.string (if x.okB then ⟨(textS x).toArray⟩ else ⟨#[]⟩), .int .i64 (if x.okB then 0 else 2)]) ∧ Below w.heap.size w w' := by
  cases h : x.okB
  · exact text_bad x w h
  · exact text_good x w h ht

set_option maxRecDepth 100000 in
set_option maxHeartbeats 2000000 in
theorem rtexts_go (a : Am) (s : ByteArray) (w : World) (ht : Tab w) (hs : s.size ≤ 140737488351232) :
    Calls Tryd.prog 3 #[amV a, .string s] w fun e w' => e = .returned (.bool true) ∧ Below w.heap.size w w' := by
  obtain ⟨w3, hw3⟩ : ∃ w3, w3 = w.alloc (.cells #[.int .i64 a.c, .int .i64 a.r, .int .i64 a.d, .int .i64 a.p] 23) := ⟨_, rfl⟩
  obtain ⟨B, hB⟩ : ∃ B, B = w.heap.size := ⟨_, rfl⟩
  have B0 : Hid (Blk w3 B (amC a) 23) := Lib.hid (by rw [hw3, hB]; exact Blk.made w (amC a) _)
  have HBL : Hid (Below w.heap.size w w3) := Lib.hid (by rw [hw3]; exact below_alloc w _)
  have HT : Hid (Tab w3) := Lib.hid (ht.below HBL.out)
  obtain ⟨T, hT⟩ : ∃ T : ByteArray, T = if a.okB then ⟨(textS a).toArray⟩ else ⟨#[]⟩ := ⟨_, rfl⟩
  obtain ⟨c, hc⟩ : ∃ c : Int, c = if a.okB then 0 else 2 := ⟨_, rfl⟩
  obtain ⟨z, hz⟩ : ∃ z, z = (parseP s.data.toList).1 := ⟨_, rfl⟩
  obtain ⟨x, hx⟩ : ∃ x, x = (parseP s.data.toList).2.1 := ⟨_, rfl⟩
  obtain ⟨y, hy⟩ : ∃ y, y = (parseP s.data.toList).2.2 := ⟨_, rfl⟩
  have HT1 : Hid (∀ w, Tab w → Calls Tryd.prog 10 #[amV a] w fun e w' => e = .returned (.tuple #[.string T, .int .i64 c]) ∧ Below w.heap.size w w') := Lib.hid (fun w ht => by rw [hT, hc]; exact text_any a w ht)
  have HT2 : Hid (∀ w, Calls Tryd.prog 11 #[amV a] w fun e w' => e = .returned (.tuple #[.string T, .int .i64 c]) ∧ Below w.heap.size w w') := Lib.hid (fun w => by rw [hT, hc]; exact rtext_any a w)
  have HP1 : Hid (∀ w, Calls Tryd.prog 12 #[.string s] w fun e w' => e = .returned (.tuple #[amV z, .agg #[.int .i64 x, .int .i64 y]]) ∧ Below w.heap.size w w') := Lib.hid (fun w => by rw [hz, hx, hy]; exact parse_any s w hs)
  have HP2 : Hid (∀ w, Calls Tryd.prog 13 #[.string s] w fun e w' => e = .returned (.tuple #[amV z, .agg #[.int .i64 x, .int .i64 y]]) ∧ Below w.heap.size w w') := Lib.hid (fun w => by rw [hz, hx, hy]; exact rparse_any s w hs)
  have c0 := B0.out.cell (j := 0) rfl
  have c1 := B0.out.cell (j := 1) rfl
  have c2 := B0.out.cell (j := 2) rfl
  have c3 := B0.out.cell (j := 3) rfl
  clear ht hT hc hz hx hy hs
  go_enter Tryd.func3, Tryd.ntmps3
  go_upto_region 1 with fail
  rw [← hw3, ← hB]
  clear hw3 hB
  go_wp2_with (first
    | (go_at_call 9; refine (rlives _ HT.out).mono ?_; rintro e' w4 ⟨rfl, hb⟩; have hb0 := B0.out.kept hb; have C0 := Lib.hid hb0; clear c0 c1 c2 c3; have c0 := hb0.cell (j := 0) rfl; have c1 := hb0.cell (j := 1) rfl; have c2 := hb0.cell (j := 2) rfl; have c3 := hb0.cell (j := 3) rfl; have HB4 := Lib.hid (below_and HBL.out hb); have HT4 := Lib.hid (HT.out.below hb); clear hb hb0)
    | (go_at_call 10; refine (HT1.out _ HT4.out).mono ?_; rintro e' w5 ⟨rfl, hb⟩; have hb0 := C0.out.kept hb; clear c0 c1 c2 c3; have c0 := hb0.cell (j := 0) rfl; have c1 := hb0.cell (j := 1) rfl; have c2 := hb0.cell (j := 2) rfl; have c3 := hb0.cell (j := 3) rfl; have HB5 := Lib.hid (below_and HB4.out hb); clear hb hb0)
    | (go_at_call 11; refine (HT2.out _).mono ?_; rintro e' w6 ⟨rfl, hb⟩; clear c0 c1 c2 c3; have HB6 := Lib.hid (below_and HB5.out hb); clear hb)
    | (go_at_call 12; refine (HP1.out _).mono ?_; rintro e' w7 ⟨rfl, hb⟩; have HB7 := Lib.hid (below_and HB6.out hb); clear hb)
    | (go_at_call 13; refine (HP2.out _).mono ?_; rintro e' w8 ⟨rfl, hb⟩; have hA := ((Blk.made w7 (amC z) 23).alloc (.cells #[.int .i64 x, .int .i64 y] 29)).kept hb; have hF : Blk w8 (w7.heap.size + 1) [.int .i64 x, .int .i64 y] 29 := by { have h9 := (Blk.made (w7.alloc (.cells #[.int .i64 z.c, .int .i64 z.r, .int .i64 z.d, .int .i64 z.p] 23)) [.int .i64 x, .int .i64 y] 29).kept hb; simpa using h9 }; have d0 : ∀ (A F : Array Value) (t f : TypeId), ((w8.alloc (.cells A t)).alloc (.cells F f)).cell? ⟨w7.heap.size, 0, none⟩ = some (.int .i64 z.c) := fun A F t f => ((hA.alloc _).alloc _).cell (j := 0) rfl; have d1 : ∀ (A F : Array Value) (t f : TypeId), ((w8.alloc (.cells A t)).alloc (.cells F f)).cell? ⟨w7.heap.size, 1, none⟩ = some (.int .i64 z.r) := fun A F t f => ((hA.alloc _).alloc _).cell (j := 1) rfl; have d2 : ∀ (A F : Array Value) (t f : TypeId), ((w8.alloc (.cells A t)).alloc (.cells F f)).cell? ⟨w7.heap.size, 2, none⟩ = some (.int .i64 z.d) := fun A F t f => ((hA.alloc _).alloc _).cell (j := 2) rfl; have d3 : ∀ (A F : Array Value) (t f : TypeId), ((w8.alloc (.cells A t)).alloc (.cells F f)).cell? ⟨w7.heap.size, 3, none⟩ = some (.int .i64 z.p) := fun A F t f => ((hA.alloc _).alloc _).cell (j := 3) rfl; have e0 : ∀ (A F : Array Value) (t f : TypeId), ((w8.alloc (.cells A t)).alloc (.cells F f)).cell? ⟨w7.heap.size + 1, 0, none⟩ = some (.int .i64 x) := fun A F t f => ((hF.alloc _).alloc _).cell (j := 0) rfl; have e1 : ∀ (A F : Array Value) (t f : TypeId), ((w8.alloc (.cells A t)).alloc (.cells F f)).cell? ⟨w7.heap.size + 1, 1, none⟩ = some (.int .i64 y) := fun A F t f => ((hF.alloc _).alloc _).cell (j := 1) rfl; have HB8 := Lib.hid (below_and (below_and (below_and HB7.out (below_alloc _ _)) (below_alloc _ _)) hb); clear hA hF hb))
  go_ret
  exact ⟨rfl, below_and (below_and HB8.out (below_alloc _ _)) (below_alloc _ _)⟩

theorem resourceTexts_walk (xs : List Value) (s : ByteArray) (w : World) (hl : xs.length = 4) (h0 : fieldOk Tryd.prog 2 (xs.getD 0 undef)) (h1 : fieldOk Tryd.prog 2 (xs.getD 1 undef)) (h2 : fieldOk Tryd.prog 2 (xs.getD 2 undef)) (h3 : fieldOk Tryd.prog 2 (xs.getD 3 undef)) (hs : s.size ≤ 140737488351232) (ht : Tab w) :
    Calls Tryd.prog 3 #[.agg xs.toArray, .string s] w fun e w' => e = .returned (.bool true) ∧ Below w.heap.size w w' := by
  obtain ⟨a, ha⟩ := am_of xs hl h0 h1 h2 h3
  rw [ha]
  exact rtexts_go a s w ht hs
end Go.Proofs.YtmgecehdicpjnaaDoor
