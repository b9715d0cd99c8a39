/- The watch: Left, Drop; Set and Tick of bad arguments. -/
import Derived.Test.YtmgcigohfccgeaaWTick
namespace Go.Proofs.Ytmgcigohfccgeaa
open Go.RowKit

/-- what Left tells -/
def leftL (L : List End) (T : Int) (s : List UInt8) : Int × Bool := match pl L s with
  | some i => ((L.getD i (⟨#[]⟩, 0)).2 - T, true)
  | none => (0, false)

set_option maxRecDepth 100000 in
set_option maxHeartbeats 600000 in
theorem wleft_made (b : Nat) (T : Int) (v : Value) (L : List End) (s : ByteArray) (w : World) (h : Wt w b T v L) (hT : 0 ≤ T) (hT2 : T ≤ 2305843009213693952) (hat : ∀ x ∈ L, 0 ≤ x.2 ∧ x.2 ≤ 4611686018427387904) :
    Calls Try.prog 32 #[ptr b, .string s] w fun e w' => e = .returned (.tuple #[.int .i64 (leftL L T s.data.toList).1, .bool (leftL L T s.data.toList).2]) ∧ Below w.heap.size w w' := by
  have H := Lib.hid h
  clear h
  cases hp : pl L s.data.toList with
  | none =>
    have HP : Hid (plI L s.data.toList = -1) := Lib.hid (by unfold plI; rw [hp])
    have hl : leftL L T s.data.toList = (0, false) := by unfold leftL; rw [hp]
    rw [hl]
    clear hp hl
    go_enter Try.func32, Try.ntmps32
    go_wp2_with (first
      | (go_at_call 60; refine (wnone_made b _ _ _ _ H.out).mono ?_; rintro e w2 ⟨rfl, rfl⟩)
      | (go_at_call 61; refine (place_any b T v L s _ H.out _ HP.out).mono ?_; rintro e w2 ⟨rfl, hb⟩; have HB := Lib.hid hb; clear hb))
    go_ret2
    exact ⟨rfl, HB.out⟩
  | some i =>
    obtain ⟨hi, -⟩ := pl_spec hp
    have HP : Hid (plI L s.data.toList = (i : Int)) := Lib.hid (by unfold plI; rw [hp])
    obtain ⟨x, hx⟩ : ∃ x, L[i]? = some x := ⟨L[i], List.getElem?_eq_getElem hi⟩
    have hb := hat x (List.mem_of_getElem? hx)
    have hl : leftL L T s.data.toList = (x.2 - T, true) := by unfold leftL; rw [hp]; simp [List.getD, hx]
    rw [hl]
    have HX := Lib.hid hx
    clear hp hl hx hat
    obtain ⟨g, cap, rfl, hc1, hc2, hc3, hc4⟩ := H.out.lies (by omega)
    have u1 : wrap64 (x.2 - T) = x.2 - T := by unfold wrap64; omega
    have u2 : IntKind.i64.wrap (x.2 - T) = x.2 - T := i64_in (by omega)
    go_enter Try.func32, Try.ntmps32
    go_wp2_with (first
      | (go_at_call 60; refine (wnone_made b _ _ _ _ H.out).mono ?_; rintro e w2 ⟨rfl, rfl⟩)
      | (go_at_call 61; refine (place_any b T _ L s _ H.out _ HP.out).mono ?_; rintro e w2 ⟨rfl, hb⟩; have HB := Lib.hid hb; have HW2 := Lib.hid (H.out.kept hb); have c0 := HW2.out.blk.cell (j := 0) rfl; have c1 := HW2.out.blk.cell (j := 1) rfl; have c2 := own_cell HW2.out.own (ecells_at HX.out); clear hb))
    all_goals (try go_quiet (fail))
    all_goals (try go_wp2)
    all_goals go_ret2
    all_goals first
      | exact ⟨rfl, Below.drewN' HB.out _⟩
      | exact ⟨rfl, HB.out⟩

set_option maxRecDepth 100000 in
set_option maxHeartbeats 600000 in
theorem wdrop_no (b : Nat) (T : Int) (v : Value) (L : List End) (s : ByteArray) (w : World) (h : Wt w b T v L) (hp : pl L s.data.toList = none) :
    Calls Try.prog 35 #[ptr b, .string s] w fun e w' => e = .returned (.int .i64 6) ∧ Below w.heap.size w w' := by
  have H := Lib.hid h
  have HP : Hid (plI L s.data.toList = -1) := Lib.hid (by unfold plI; rw [hp])
  clear h hp
  go_enter Try.func35, Try.ntmps35
  go_wp2_with (first
    | (go_at_call 60; refine (wnone_made b _ _ _ _ H.out).mono ?_; rintro e w2 ⟨rfl, rfl⟩)
    | (go_at_call 61; refine (place_any b T v L s _ H.out _ HP.out).mono ?_; rintro e w2 ⟨rfl, hb⟩; have HB := Lib.hid hb; clear hb))
  go_ret
  exact ⟨rfl, HB.out⟩

set_option maxRecDepth 100000 in
set_option maxHeartbeats 600000 in
theorem wdrop_yes (b i : Nat) (T : Int) (v : Value) (L : List End) (s : ByteArray) (w : World) (h : Wt w b T v L) (hl : L.length ≤ 800000) (hp : pl L s.data.toList = some i) :
    Calls Try.prog 35 #[ptr b, .string s] w fun e w' => e = .returned (.int .i64 0) ∧ ∃ v', Wt w' b T v' (dropL L s.data.toList) ∧ Stp w w' b v v' := by
  have H := Lib.hid h
  obtain ⟨hi, -⟩ := pl_spec hp
  obtain ⟨m, hm⟩ : ∃ m, L.length = m + 1 := ⟨L.length - 1, by omega⟩
  have HX : Hid (L[i]? = some L[i]) := Lib.hid (List.getElem?_eq_getElem hi)
  have HM := Lib.hid hm
  have him : i ≤ m := by omega
  have HP : Hid (plI L s.data.toList = (i : Int)) := Lib.hid (by unfold plI; rw [hp])
  have HD : Hid (dropL L s.data.toList = Hp.remove elt L i) := Lib.hid (by unfold dropL; rw [hp])
  have HL := Lib.hid hl
  clear h hp hm hl
  go_enter Try.func35, Try.ntmps35
  go_wp2_with (first
    | (go_at_call 60; refine (wnone_made b _ _ _ _ H.out).mono ?_; rintro e w2 ⟨rfl, rfl⟩)
    | (go_at_call 61; refine (place_any b T v L s _ H.out _ HP.out).mono ?_; rintro e w2 ⟨rfl, hb⟩; have HB := Lib.hid hb; have HW2 := Lib.hid (H.out.kept hb); clear hb)
    | (go_at_call 62; refine (hremove_any b i T v L m L[i] _ HW2.out HM.out him HX.out (by have := HL.out; omega)).mono ?_; rintro e w4 ⟨rfl, v4, hw, hs4⟩; have HW4 := Lib.hid hw; have HS4 := Lib.hid hs4; clear hw hs4))
  go_ret
  refine ⟨rfl, v4, ?_, (Stp.of_below HB.out b v).trans HS4.out⟩
  rw [HD.out]
  exact HW4.out

set_option maxRecDepth 100000 in
set_option maxHeartbeats 600000 in
theorem wset_bad (b : Nat) (T n : Int) (v : Value) (L : List End) (s : ByteArray) (w : World) (h : Wt w b T v L) (hb : n < 1 ∨ 1073741824 < n ∨ s.toList.isEmpty = true) :
    Calls Try.prog 28 #[ptr b, .string s, .int .i64 n] w fun e w' => e = .returned (.int .i64 2) ∧ w = w' := by
  have H := Lib.hid h
  clear h
  by_cases h1 : n < 1
  · clear hb
    go_enter Try.func28, Try.ntmps28
    go_wp2_with (go_at_call 60; refine (wnone_made b _ _ _ _ H.out).mono ?_; rintro e w2 ⟨rfl, rfl⟩)
    go_ret
    exact ⟨rfl, rfl⟩
  · by_cases h2 : 1073741824 < n
    · clear hb
      go_enter Try.func28, Try.ntmps28
      go_wp2_with (go_at_call 60; refine (wnone_made b _ _ _ _ H.out).mono ?_; rintro e w2 ⟨rfl, rfl⟩)
      go_ret
      exact ⟨rfl, rfl⟩
    · have h3 : s.toList.isEmpty = true := by
        rcases hb with hb | hb | hb
        · omega
        · omega
        · exact hb
      clear hb
      go_enter Try.func28, Try.ntmps28
      go_wp2_with (go_at_call 60; refine (wnone_made b _ _ _ _ H.out).mono ?_; rintro e w2 ⟨rfl, rfl⟩)
      go_ret
      exact ⟨rfl, rfl⟩

set_option maxRecDepth 100000 in
set_option maxHeartbeats 600000 in
theorem wtick_bad (b : Nat) (T n : Int) (v : Value) (L : List End) (w : World) (h : Wt w b T v L) (hb : n < 0 ∨ 1048576 < n) :
    Calls Try.prog 29 #[ptr b, .int .i64 n] w fun e w' => e = .returned (.tuple #[.slice none 0 0, .int .i64 2]) ∧ w = w' := by
  have H := Lib.hid h
  clear h
  by_cases h1 : n < 0
  · clear hb
    go_enter Try.func29, Try.ntmps29
    go_wp2_with (go_at_call 60; refine (wnone_made b _ _ _ _ H.out).mono ?_; rintro e w2 ⟨rfl, rfl⟩)
    go_ret2
    exact ⟨rfl, rfl⟩
  · have h2 : 1048576 < n := by omega
    clear hb
    go_enter Try.func29, Try.ntmps29
    go_wp2_with (go_at_call 60; refine (wnone_made b _ _ _ _ H.out).mono ?_; rintro e w2 ⟨rfl, rfl⟩)
    go_ret2
    exact ⟨rfl, rfl⟩
end Go.Proofs.Ytmgcigohfccgeaa
