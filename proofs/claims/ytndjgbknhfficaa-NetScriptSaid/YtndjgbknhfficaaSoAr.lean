/- SoAr. -/
import Derived.Test.YtndjgbknhfficaaSep
import Derived.Sort.AssemblyPlain
import Derived.CellFam
import Derived.BigGuard
import Derived.BigCall
import Derived.BigQuiet
import Derived.Deep.Draws
import Derived.Deep.QuietTactic
namespace Go.Proofs.Ytndjgbknhfficaa.So
open Go.RowKit Go.Sort Go.Proofs.Ytndjgbknhfficaa

abbrev encU (x : Int) : Value := .int .u64 x

/-- block g holds the numbers d (N of them) from off on; since w0 only that block was turned -/
structure Ar (w0 : World) (g off N : Nat) (Y Z : List Value) (w : World) (d : Array Int) : Prop where
  sz : d.size = N
  ofs : Y.length = off
  blk : Blk w g (Y ++ (d.toList.map encU ++ Z)) 25
  fr : Fr [g] w0 w

section
variable {w0 w : World} {g off N : Nat} {Y Z : List Value} {d : Array Int}
theorem get_list (d : Array Int) (i : Nat) (h : i < d.size) : d.toList[i]? = some d[i]! := by
  rw [List.getElem?_eq_getElem (by simpa using h), getElem!_pos d i h]
  simp
theorem Ar.cell (h : Ar w0 g off N Y Z w d) {t : Nat} (ht : t < N) : w.cell? ⟨g, off + t, none⟩ = some (.int .u64 d[t]!) := by
  refine h.blk.cell ?_
  have hs : t < d.size := by rw [h.sz]; exact ht
  rw [← h.ofs, List.getElem?_append_right (by omega), show Y.length + t - Y.length = t by omega, List.getElem?_append_left (by simpa using hs), List.getElem?_map, get_list d t hs]
  rfl
theorem Ar.free (h : Ar w0 g off N Y Z w d) (t : Nat) : w.frozen? ⟨g, off + t, none⟩ = false := h.blk.free _
theorem Ar.draw (h : Ar w0 g off N Y Z w d) (n : Nat) : Ar w0 g off N Y Z (w.drewN n) d := ⟨h.sz, h.ofs, h.blk.kept (below_drewN n), h.fr.draw n⟩
theorem Ar.drew (h : Ar w0 g off N Y Z w d) : Ar w0 g off N Y Z w.drew d := h.draw 1
theorem Ar.below {w' : World} (h : Ar w0 g off N Y Z w d) (hb : Below w.heap.size w w') : Ar w0 g off N Y Z w' d := ⟨h.sz, h.ofs, h.blk.kept hb, h.fr.then (Fr.of_below hb _)⟩
theorem Ar.put (h : Ar w0 g off N Y Z w d) {i : Nat} (hi : i < N) (x : Int) : Ar w0 g off N Y Z (w.setCell ⟨g, off + i, none⟩ (.int .u64 x)) (d.setIfInBounds i x) := by
  refine ⟨by simpa using h.sz, h.ofs, ?_, h.fr.set (by simp) _⟩
  have h1 := h.blk.set (off + i) (.int .u64 x)
  have hs : i < d.size := by rw [h.sz]; exact hi
  rw [← h.ofs, List.set_append, if_neg (by omega), show Y.length + i - Y.length = i by omega, List.set_append, if_pos (by simpa using hs)] at h1
  rw [← h.ofs]
  have e : (d.setIfInBounds i x).toList.map encU = (d.toList.map encU).set i (encU x) := by simp [List.map_set]
  rw [e]
  exact h1
theorem Ar.swp (h : Ar w0 g off N Y Z w d) {i j : Nat} (hi : i < N) (hj : j < N) : Ar w0 g off N Y Z ((w.setCell ⟨g, off + i, none⟩ (.int .u64 d[j]!)).setCell ⟨g, off + j, none⟩ (.int .u64 d[i]!)) (Go.Sort.swp d i j) := (h.put hi d[j]!).put hj d[i]!
theorem Ar.free' (h : Ar w0 g off N Y Z w d) (x : Value) (i t : Nat) : (w.setCell ⟨g, off + i, none⟩ x).frozen? ⟨g, off + t, none⟩ = false := by
  have h1 := h.blk.set (off + i) x
  exact h1.free _
theorem size_swp' (d : Array Int) (i j : Nat) : (Go.Sort.swp d i j).size = d.size := by simp [Go.Sort.swp]
end

set_option maxHeartbeats 1000000 in
theorem nan_no (x : Int) (w : World) : Calls Try.prog 66 #[.int .u64 x] w fun e w' => e = .returned (.bool false) ∧ w' = w := by
  go_enter Try.func66, Try.ntmps66
  go_wp2
  go_ret
  exact ⟨by simp, rfl⟩

set_option maxHeartbeats 1000000 in
theorem less_any (x y : Int) (w : World) : Calls Try.prog 56 #[.int .u64 x, .int .u64 y] w fun e w' => e = .returned (.bool (ltInt x y)) ∧ w' = w := by
  go_enter Try.func56, Try.ntmps56
  go_wp2_with (go_at_call 66; refine (nan_no _ _).mono ?_; rintro e w' ⟨rfl, rfl⟩)
  go_ret
  exact ⟨rfl, rfl⟩
end Go.Proofs.Ytndjgbknhfficaa.So
