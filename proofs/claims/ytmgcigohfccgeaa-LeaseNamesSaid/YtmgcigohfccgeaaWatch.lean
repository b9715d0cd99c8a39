/- The watch: New, none, place, Set, Drop, Left, Now. -/
import Derived.Test.YtmgcigohfccgeaaHeapOps
namespace Go.Proofs.Ytmgcigohfccgeaa
open Go.RowKit

/-- where a name's end lies -/
def pl (L : List End) (s : List UInt8) : Option Nat := L.findIdx? fun x => x.1.data.toList == s
def plI (L : List End) (s : List UInt8) : Int := match pl L s with | some i => (i : Int) | none => -1

theorem pl_some {L : List End} {s : List UInt8} {i : Nat} (hi : i < L.length) (h1 : (L[i].1.data.toList == s) = true) (h2 : ∀ j (h : j < L.length), j < i → (L[j].1.data.toList == s) = false) : pl L s = some i := by
  unfold pl
  rw [List.findIdx?_eq_some_iff_getElem]
  exact ⟨hi, h1, fun j hj => by simpa using h2 j (by omega) hj⟩
theorem pl_none {L : List End} {s : List UInt8} (h : ∀ j (h : j < L.length), (L[j].1.data.toList == s) = false) : pl L s = none := by
  unfold pl
  rw [List.findIdx?_eq_none_iff]
  intro x hx
  obtain ⟨j, hj, rfl⟩ := List.getElem_of_mem hx
  exact h j hj
theorem pl_spec {L : List End} {s : List UInt8} {i : Nat} (h : pl L s = some i) : ∃ hi : i < L.length, L[i].1.data.toList = s := by
  unfold pl at h
  rw [List.findIdx?_eq_some_iff_getElem] at h
  obtain ⟨hi, h1, -⟩ := h
  exact ⟨hi, by simpa using h1⟩

set_option maxRecDepth 100000 in
set_option maxHeartbeats 400000 in
theorem place1_any (n s : ByteArray) (a : Int) (g : Nat) (w : World) (hc : w.cell? ⟨g, 0, none⟩ = some (.string s)) (r : Bool) (hr : (n.data.toList == s.data.toList) = r) :
    Calls Try.prog 76 #[.agg #[.string n, .int .i64 a], .pointer (some ⟨g, 0, none⟩)] w fun e w' => e = .returned (.bool r) ∧ Below w.heap.size w w' := by
  have t1 : (n.toList == s.toList) = r := by rw [Lib.toList_data, Lib.toList_data]; exact hr
  have c2 := cell_kept hc (below_alloc w (.cells #[.string n, .int .i64 a] 101))
  clear hr
  go_enter Try.func76, Try.ntmps76
  go_wp2
  go_ret
  exact ⟨rfl, below_alloc w _⟩

set_option maxRecDepth 100000 in
set_option maxHeartbeats 600000 in
theorem eindex_any (b g : Nat) (T : Int) (v : Value) (L : List End) (s : ByteArray) (w : World) (h : Wt w b T v L) (hc : w.cell? ⟨g, 0, none⟩ = some (.string s)) (r : Int) (hr : plI L s.data.toList = r) :
    Calls Try.prog 75 #[v, .func (.func 76) #[] #[.pointer (some ⟨g, 0, none⟩)]] w fun e w' => e = .returned (.int .i64 r) ∧ Below w.heap.size w w' := by
  obtain ⟨p, c, rfl, hcc, hcm⟩ := h.shape
  have hlen : L.length ≤ 9223372036854775807 := by simp only [maxLen] at hcm; omega
  have H := Lib.hid h
  have HC := Lib.hid hc
  have HR := Lib.hid hr
  clear h hc hr
  go_enter Try.func75, Try.ntmps75
  go_wp2
  go_loopw [8] (fun i wc => ∃ k : Nat, k ≤ L.length ∧ i = .int .i64 (k : Int) ∧ Hid (∀ j (h : j < L.length), j < k → (L[j].1.data.toList == s.data.toList) = false) ∧ Hid (Below w.heap.size w wc)) (fun i _ => L.length - (intOf i).toNat)
  case atStart => exact ⟨0, Nat.zero_le _, rfl, fun j _ h => by omega, Below.refl _ _⟩
  case round =>
    obtain ⟨k, hk, rfl, hno, HB⟩ := hrel
    by_cases hlt : k < L.length
    · have hx : L[k]? = some L[k] := List.getElem?_eq_getElem hlt
      obtain ⟨g2, cap, e, h1, h2, h3, h4⟩ := (H.out.kept HB.out).lies (by omega)
      simp only [Value.slice.injEq] at e
      obtain ⟨rfl, -, rfl⟩ := e
      have c1 := own_cell (H.out.kept HB.out).own (ecells_name hx)
      have c2 := own_cell (H.out.kept HB.out).own (ecells_at hx)
      obtain ⟨x, hxe⟩ : ∃ x, x = L[k] := ⟨_, rfl⟩
      rw [← hxe] at c1 c2
      obtain ⟨n, a⟩ := x
      have c3 := Lib.hid (cell_kept HC.out HB.out)
      cases hq : (n.data.toList == s.data.toList)
      · have HQ := Lib.hid hq
        have HN : Hid (∀ j (h : j < L.length), j < k + 1 → (L[j].1.data.toList == s.data.toList) = false) := Lib.hid fun j hj hjk => by
          by_cases hjk2 : j < k
          · exact hno.out j hj hjk2
          · obtain rfl : j = k := by omega
            rw [← hxe]; exact hq
        clear hq hxe hx
        go_wp2_with (go_at_call 76; refine (place1_any n s a g _ c3.out false HQ.out).mono ?_; rintro e w2 ⟨rfl, hb⟩; have HB2 := Lib.hid (below_and HB.out hb); clear hb)
        go_roundw
        case rel => exact ⟨k + 1, hlt, by go_num, HN, HB2⟩
        case measure => simp [intOf]; omega
      · have HQ := Lib.hid hq
        have HF := Lib.hid (pl_some hlt (by rw [← hxe]; exact hq) hno.out)
        clear hq hxe hx
        go_wp2_with (go_at_call 76; refine (place1_any n s a g _ c3.out true HQ.out).mono ?_; rintro e w2 ⟨rfl, hb⟩; have HB2 := Lib.hid (below_and HB.out hb); clear hb)
        go_ret
        exact ⟨ret_int (by rw [← HR.out]; unfold plI; rw [HF.out]), HB2.out⟩
    · obtain rfl : k = L.length := by omega
      have HF := Lib.hid (pl_none (s := s.data.toList) (fun j hj => hno.out j hj hj))
      go_wp2
      go_ret
      exact ⟨ret_int (by rw [← HR.out]; unfold plI; rw [HF.out]), HB.out⟩

set_option maxRecDepth 100000 in
set_option maxHeartbeats 400000 in
theorem place_any (b : Nat) (T : Int) (v : Value) (L : List End) (s : ByteArray) (w : World) (h : Wt w b T v L) (r : Int) (hr : plI L s.data.toList = r) :
    Calls Try.prog 61 #[ptr b, .string s] w fun e w' => e = .returned (.int .i64 r) ∧ Below w.heap.size w w' := by
  have H := Lib.hid h
  have HR := Lib.hid hr
  have c1 := (h.kept (below_alloc w (.cells #[.string s] 9))).blk.cell (j := 1) rfl
  clear h hr
  go_enter Try.func61, Try.ntmps61
  go_wp2_with (go_at_call 75; refine (eindex_any b _ T v L s _ (H.out.kept (below_alloc _ _)) (by simp) _ HR.out).mono ?_; rintro e w2 ⟨rfl, hb⟩; have HB := Lib.hid (below_and (below_alloc _ _) hb); clear hb)
  go_ret
  exact ⟨rfl, HB.out⟩
end Go.Proofs.Ytmgcigohfccgeaa
