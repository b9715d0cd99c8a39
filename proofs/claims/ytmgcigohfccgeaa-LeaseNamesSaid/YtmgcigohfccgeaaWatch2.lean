/- The watch: New, Set, Drop, Left, Now. -/
import Derived.Test.YtmgcigohfccgeaaWatch
namespace Go.Proofs.Ytmgcigohfccgeaa
open Go.RowKit

set_option maxRecDepth 100000 in
set_option maxHeartbeats 400000 in
theorem wnew_any (w : World) :
    Calls Try.prog 27 #[] w fun e w' => ∃ b v, e = .returned (ptr b) ∧ w.heap.size ≤ b ∧ v.ownBlock = none ∧ Wt w' b 0 v [] ∧ Below w.heap.size w w' := by
  go_enter Try.func27, Try.ntmps27
  go_wp2
  go_ret
  refine ⟨w.heap.size, .slice none 0 0, rfl, Nat.le_refl _, rfl, ⟨Blk.made w [.int .i64 0, .slice none 0 0, .bool true] _, World.ownsRow_nil _ _ _ _, by simp [Value.ownBlock]⟩, below_alloc w _⟩

set_option maxRecDepth 100000 in
set_option maxHeartbeats 400000 in
theorem wnone_made (b : Nat) (T : Int) (v : Value) (L : List End) (w : World) (h : Wt w b T v L) :
    Calls Try.prog 60 #[ptr b] w fun e w' => e = .returned (.bool false) ∧ w = w' := by
  have c1 := h.blk.cell (j := 2) rfl
  clear h
  go_enter Try.func60, Try.ntmps60
  go_wp2
  go_ret
  exact ⟨rfl, rfl⟩

set_option maxRecDepth 100000 in
set_option maxHeartbeats 400000 in
theorem wnow_made (b : Nat) (T : Int) (v : Value) (L : List End) (w : World) (h : Wt w b T v L) :
    Calls Try.prog 34 #[ptr b] w fun e w' => e = .returned (.int .i64 T) ∧ w = w' := by
  have c1 := h.blk.cell (j := 0) rfl
  have H := Lib.hid h
  clear h
  go_enter Try.func34, Try.ntmps34
  go_wp2_with (go_at_call 60; refine (wnone_made b _ _ _ _ H.out).mono ?_; rintro e w2 ⟨rfl, rfl⟩)
  go_ret
  exact ⟨rfl, rfl⟩

/-- the list without a name's end -/
def dropL (L : List End) (s : List UInt8) : List End := match pl L s with | some i => Hp.remove elt L i | none => L
def setL (L : List End) (s : ByteArray) (at_ : Int) : List End := Hp.push elt (dropL L s.data.toList) (s, at_)
theorem length_dropL (L : List End) (s : List UInt8) : (dropL L s).length ≤ L.length := by
  unfold dropL
  split
  · unfold Hp.remove; rw [List.length_take]; omega
  · exact Nat.le_refl _

theorem i64_in {n : Int} (h : -9223372036854775808 ≤ n ∧ n ≤ 9223372036854775807) : IntKind.i64.wrap n = n := by
  rw [IntKind.wrap_i64]; omega

set_option maxRecDepth 100000 in
set_option maxHeartbeats 600000 in
theorem wset_ok (b : Nat) (T n : Int) (v : Value) (L : List End) (s : ByteArray) (w : World) (h : Wt w b T v L) (hl : L.length ≤ 800000) (h1 : 1 ≤ n) (h2 : n ≤ 1073741824) (hs : s.toList.isEmpty = false) (hT : 0 ≤ T) (hT2 : T ≤ 2305843009213693952) :
    Calls Try.prog 28 #[ptr b, .string s, .int .i64 n] w fun e w' => e = .returned (.int .i64 0) ∧ ∃ v', Wt w' b T v' (setL L s (T + n)) ∧ Stp w w' b v v' := by
  have H := Lib.hid h
  have u1 : IntKind.i64.wrap (T + n) = T + n := i64_in (by omega)
  clear h
  cases hp : pl L s.data.toList with
  | none =>
    have HP : Hid (plI L s.data.toList = -1) := Lib.hid (by unfold plI; rw [hp])
    have HD : Hid (setL L s (T + n) = Hp.push elt L (s, T + n)) := Lib.hid (by unfold setL dropL; rw [hp])
    clear hp
    go_enter Try.func28, Try.ntmps28
    go_wp2_with (first
      | (go_at_call 60; refine (wnone_made b _ _ _ _ H.out).mono ?_; rintro e w2 ⟨rfl, rfl⟩)
      | (go_at_call 61; refine (place_any b T v L s _ H.out _ HP.out).mono ?_; rintro e w2 ⟨rfl, hb⟩; have HB := Lib.hid hb; have HW2 := Lib.hid (H.out.kept hb); have c0 := HW2.out.blk.cell (j := 0) rfl; have HW2d : Hid (Wt w2.drew b T v L) := Lib.hid (HW2.out.kept (below_drewN 1)); clear hb))
    go_region_held3 (fun w' => w'.cell? ⟨b, 0, none⟩ = some (.int .i64 T)) (first | exact c0 | exact HW3.out.blk.cell (j := 0) rfl) (first
      | (go_at_call 63; refine (hpush_any b s _ T v L _ HW2d.out (by omega)).mono ?_; rintro e w3 ⟨rfl, v3, hw, hs3⟩; have HW3 := Lib.hid hw; have HS3 := Lib.hid (Stp.trans (Stp.of_below (Below.drewN' HB.out 1) b v) hs3); clear hw hs3))
    all_goals go_wp2
    all_goals go_ret
    all_goals refine ⟨rfl, v3, ?_, HS3.out⟩
    all_goals rw [HD.out]
    all_goals exact HW3.out
  | some i =>
    obtain ⟨hi, -⟩ := pl_spec hp
    obtain ⟨m, hm⟩ : ∃ m, L.length = m + 1 := ⟨L.length - 1, by omega⟩
    have HX : Hid (L[i]? = some L[i]) := Lib.hid (List.getElem?_eq_getElem hi)
    have HM := Lib.hid hm
    have him : i ≤ m := by omega
    have HP : Hid (plI L s.data.toList = (i : Int)) := Lib.hid (by unfold plI; rw [hp])
    have HD : Hid (setL L s (T + n) = Hp.push elt (Hp.remove elt L i) (s, T + n)) := Lib.hid (by unfold setL dropL; rw [hp])
    have HRL : Hid ((Hp.remove elt L i).length ≤ 900000) := Lib.hid (by unfold Hp.remove; rw [List.length_take]; omega)
    have HL := Lib.hid hl
    clear hp hm hl
    go_enter Try.func28, Try.ntmps28
    go_wp2_with (first
      | (go_at_call 60; refine (wnone_made b _ _ _ _ H.out).mono ?_; rintro e w2 ⟨rfl, rfl⟩)
      | (go_at_call 61; refine (place_any b T v L s _ H.out _ HP.out).mono ?_; rintro e w2 ⟨rfl, hb⟩; have HB := Lib.hid hb; have HW2 := Lib.hid (H.out.kept hb); clear hb)
      | (go_at_call 62; refine (hremove_any b i T v L m L[i] _ HW2.out HM.out him HX.out (by have := HL.out; omega)).mono ?_; rintro e w4 ⟨rfl, v4, hw, hs4⟩; have HW4 := Lib.hid hw; have HS4 := Lib.hid hs4; have c0 := HW4.out.blk.cell (j := 0) rfl; have HW4d : Hid (Wt w4.drew b T v4 _) := Lib.hid (HW4.out.kept (below_drewN 1)); clear hw hs4))
    go_region_held3 (fun w' => w'.cell? ⟨b, 0, none⟩ = some (.int .i64 T)) (first | exact c0 | exact HW3.out.blk.cell (j := 0) rfl) (first
      | (go_at_call 63; refine (hpush_any b s _ T v4 _ _ HW4d.out HRL.out).mono ?_; rintro e w3 ⟨rfl, v3, hw, hs3⟩; have HW3 := Lib.hid hw; have HS3 := Lib.hid (((Stp.of_below HB.out b v).trans HS4.out).trans (Stp.trans (Stp.of_below (below_drewN 1) b v4) hs3)); clear hw hs3))
    all_goals go_wp2
    all_goals go_ret
    all_goals refine ⟨rfl, v3, ?_, HS3.out⟩
    all_goals rw [HD.out]
    all_goals exact HW3.out
end Go.Proofs.Ytmgcigohfccgeaa
