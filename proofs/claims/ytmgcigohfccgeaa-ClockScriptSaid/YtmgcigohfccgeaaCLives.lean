/- Chapter 8's lives answers true; small, lend. -/
import Derived.Test.YtmgcigohfccgeaaWatch2
import Derived.Test.YtmgcigohfccgeaaCKeeps
import Derived.Test.YtmgcigohfccgeaaCWait
namespace Go.Proofs.Ytmgcigohfccgeaa
open Go.RowKit

theorem w10 : Clk.waits 10 0 = (14, 0) := by decide
theorem w17 : Clk.waits 10 100 = (17, 0) := by decide
theorem k1111 : Clk.keeps [[1], [1], [1], [1]] 0 0 = (true, 0) := by decide


theorem push5 (h : Array Obj) (a b : Obj) {k j : Nat} (hk : k = h.size + j) (hj : j < 4) : (((((h.push a).push a).push a).push a).push b)[k]? = some a := by
  subst hk
  simp only [Array.getElem?_push, Array.size_push]
  repeat' split
  all_goals first | rfl | omega
theorem push5b (h : Array Obj) (a b : Obj) : (((((h.push a).push a).push a).push a).push b)[h.size + 1 + 1 + 1 + 1]? = some b := by
  rw [Array.getElem?_push, if_pos (by simp only [Array.size_push])]
theorem lit1111 (w : World) : Rows2 (((((w.alloc (.cells #[.int .i64 1] 3)).alloc (.cells #[.int .i64 1] 3)).alloc (.cells #[.int .i64 1] 3)).alloc (.cells #[.int .i64 1] 3)).alloc
    (.cells #[.slice (some ⟨w.heap.size, 0, none⟩) 1 1, .slice (some ⟨w.heap.size + 1, 0, none⟩) 1 1, .slice (some ⟨w.heap.size + 1 + 1, 0, none⟩) 1 1, .slice (some ⟨w.heap.size + 1 + 1 + 1, 0, none⟩) 1 1] 24))
    (.slice (some ⟨w.heap.size + 1 + 1 + 1 + 1, 0, none⟩) 4 4) [[1], [1], [1], [1]] := by
  refine rows2_lit (vs := [.slice (some ⟨w.heap.size, 0, none⟩) 1 1, .slice (some ⟨w.heap.size + 1, 0, none⟩) 1 1, .slice (some ⟨w.heap.size + 1 + 1, 0, none⟩) 1 1, .slice (some ⟨w.heap.size + 1 + 1 + 1, 0, none⟩) 1 1]) (e := 24) (fr := (0, 0)) ?_ rfl (by decide) (by simp [Value.oneCell']) ?_
  · exact push5b w.heap _ _
  · intro i hi u hu
    have hrow : ∀ g, (((((w.heap.push (.cells #[.int .i64 1] 3)).push (.cells #[.int .i64 1] 3)).push (.cells #[.int .i64 1] 3)).push (.cells #[.int .i64 1] 3)).push
    (.cells #[.slice (some ⟨w.heap.size, 0, none⟩) 1 1, .slice (some ⟨w.heap.size + 1, 0, none⟩) 1 1, .slice (some ⟨w.heap.size + 1 + 1, 0, none⟩) 1 1, .slice (some ⟨w.heap.size + 1 + 1 + 1, 0, none⟩) 1 1] 24))[g]? = some (.cells #[.int .i64 1] 3) →
      Row (((((w.alloc (.cells #[.int .i64 1] 3)).alloc (.cells #[.int .i64 1] 3)).alloc (.cells #[.int .i64 1] 3)).alloc (.cells #[.int .i64 1] 3)).alloc
    (.cells #[.slice (some ⟨w.heap.size, 0, none⟩) 1 1, .slice (some ⟨w.heap.size + 1, 0, none⟩) 1 1, .slice (some ⟨w.heap.size + 1 + 1, 0, none⟩) 1 1, .slice (some ⟨w.heap.size + 1 + 1 + 1, 0, none⟩) 1 1] 24)) (.slice (some ⟨g, 0, none⟩) 1 1) 1 1 [.int .i64 1] := fun g hg =>
      row_block (us := [.int .i64 1]) hg (by decide) (by simp [Value.oneCell'])
    match i, hi, hu with
    | 0, _, hu => simp at hu; subst hu; exact hrow _ (push5 w.heap _ _ (j := 0) (by omega) (by omega))
    | 1, _, hu => simp at hu; subst hu; exact hrow _ (push5 w.heap _ _ (j := 1) (by omega) (by omega))
    | 2, _, hu => simp at hu; subst hu; exact hrow _ (push5 w.heap _ _ (j := 2) (by omega) (by omega))
    | 3, _, hu => simp at hu; subst hu; exact hrow _ (push5 w.heap _ _ (j := 3) (by omega) (by omega))
    | n + 4, h, _ => exact absurd h (by show ¬ n + 4 < 4; omega)

theorem below5 (w : World) (a b c d e : Obj) : Below w.heap.size w (((((w.alloc a).alloc b).alloc c).alloc d).alloc e) :=
  below_and (below_and (below_and (below_and (below_alloc w a) (below_alloc _ b)) (below_alloc _ c)) (below_alloc _ d)) (below_alloc _ e)

abbrev ea : ByteArray := ⟨#[97]⟩
theorem ea_ne : ea.toList.isEmpty = false := by
  rw [ByteArray.toList, ByteArray.toList.loop, if_pos (by decide), ByteArray.toList.loop, if_neg (by decide)]
  rfl

set_option maxRecDepth 100000 in
set_option maxHeartbeats 600000 in
theorem clives (w : World) :
    Calls Try.prog 21 #[] w fun e w' => e = .returned (.bool true) ∧ Below w.heap.size w w' := by
  have hL := Lib.hid (lit1111 w)
  go_enter Try.func21, Try.ntmps21
  go_wp2_with (first
    | (go_at_call 25; refine (wait_any _ _ _).mono ?_; (first | rw [w10] | rw [w17]); rintro e w1 ⟨rfl, rfl⟩)
    | (go_at_call 14; refine (keeps_any _ [[1], [1], [1], [1]] _ _ _ hL.out).mono ?_; rw [k1111]; rintro e w1 ⟨rfl, hw⟩; have HB1 : Hid (Below w.heap.size w w1) := Lib.hid (hw ▸ below5 w _ _ _ _ _); clear hw hL)
    | (go_at_call 27; refine (wnew_any _).mono ?_; rintro e w2 ⟨b, v, rfl, hb, hv, hw, hbl⟩; have HX := Lib.hid hb; have HV := Lib.hid hv; have HW2 := Lib.hid hw; have HB2 := Lib.hid (below_and HB1.out hbl); clear hb hv hw hbl)
    | (go_at_call 28; refine (wset_ok b _ _ v [] ea _ HW2.out (by decide) (by decide) (by decide) ea_ne (by decide) (by decide)).mono ?_; rintro e w3 ⟨rfl, v3, hw, hs⟩; have HW3 := Lib.hid hw; have HS3 := Lib.hid hs; clear hw hs)
    | (go_at_call 34; refine (wnow_made b _ _ _ _ HW3.out).mono ?_; rintro e w4 ⟨rfl, rfl⟩))
  go_ret
  refine ⟨rfl, ?_⟩
  exact HB2.out.trans (HS3.out.fr.below (fun k hk => by
    rcases mem_fpW.1 hk with rfl | hk
    · exact Nat.le_trans HB1.out.size HX.out
    · rw [HV.out] at hk; cases hk) HB2.out.size)

/-- a course that is gone through -/
def Clk.small (zss : List (List Int)) : Bool := !(zss.any fun l => decide (64 < l.length)) && decide (zss.length ≤ 200)

set_option maxRecDepth 100000 in
set_option maxHeartbeats 600000 in
theorem small_any (v : Value) (zss : List (List Int)) (w : World) (h : Rows2 w v zss) :
    Calls Try.prog 22 #[v] w fun e w' => e = .returned (.bool (Clk.small zss)) ∧ w = w' := by
  have HZ := Lib.hid h
  obtain ⟨p, c, rfl, hc, hm, -⟩ := h.parts
  have hml : maxLen ≤ 9223372036854775807 := by decide
  clear h
  go_enter Try.func22, Try.ntmps22
  go_wp2
  go_loop [3] (fun i => ∃ k : Nat, k ≤ zss.length ∧ i = .int .i64 (k : Int) ∧ Hid (((zss.take k).any fun l => decide (64 < l.length)) = false)) (fun i => zss.length - (intOf i).toNat)
  case atStart => exact ⟨0, Nat.zero_le _, rfl, by simp [Hid]⟩
  case round =>
    obtain ⟨k, hk, rfl, hok⟩ := hrel
    by_cases hlt : k < zss.length
    · obtain ⟨b, o, p', c', rfl, e1, hrk⟩ := HZ.out.rowAt hlt
      by_cases h64 : 64 < zss[k].length
      · have HS : Hid (Clk.small zss = false) := Lib.hid (by unfold Clk.small; rw [any_at zss _ k hlt (by simp [h64])]; rfl)
        go_wp2
        go_ret
        exact ⟨ret_bool HS.out.symm, rfl⟩
      · have hnb : Hid (((zss.take (k + 1)).any fun l => decide (64 < l.length)) = false) := Lib.hid (any_take_succ _ _ k hlt hok.out (by simp; omega))
        clear hrk
        go_wp2
        go_round
        case rel => exact ⟨k + 1, hlt, by go_num, hnb⟩
        case measure => simp [intOf]; omega
    · obtain rfl : k = zss.length := by omega
      have HS : Hid (Clk.small zss = decide (zss.length ≤ 200)) := Lib.hid (by unfold Clk.small; have := hok.out; rw [List.take_length] at this; rw [this]; rfl)
      clear hok
      go_wp2
      go_ret
      exact ⟨ret_bool (by rw [HS.out, Bool.eq_iff_iff]; simp; omega), rfl⟩
end Go.Proofs.Ytmgcigohfccgeaa
