/- Texts. -/
import Derived.Test.YtdnoceancoclmaaGreatDoorOpen3
import Derived.Sort.Walk0
import Derived.Deep.QuietTactic
import Derived.BigQuiet
namespace Go.Proofs.YtdnoceancoclmaaGreatDoor
open Go.RowKit

def sameT (a b : List ByteArray) : Bool := a.map (·.data.toList) == b.map (·.data.toList)

theorem sameT_len {a b : List ByteArray} (h : a.length ≠ b.length) : sameT a b = false := by
  unfold sameT
  rw [beq_eq_false_iff_ne]
  intro e
  have := congrArg List.length e
  simp at this
  exact h this
theorem sameT_ne {a b : List ByteArray} {k : Nat} (h1 : k < a.length) (h2 : k < b.length) (h : (a[k].data.toList == b[k].data.toList) = false) : sameT a b = false := by
  unfold sameT
  rw [beq_eq_false_iff_ne] at *
  intro e
  have := congrArg (fun l : List (List UInt8) => l[k]?) e
  simp [h1, h2] at this
  exact h (by rw [this])
theorem sameT_all {a b : List ByteArray} (hl : a.length = b.length) (h : ∀ k (h1 : k < a.length) (h2 : k < b.length), a[k].data.toList = b[k].data.toList) : sameT a b = true := by
  unfold sameT
  rw [beq_iff_eq]
  apply List.ext_getElem (by simpa using hl)
  intro i h1 h2
  simp at h1 h2
  simp only [List.getElem_map]
  exact h i h1 h2

set_option maxRecDepth 100000 in
set_option maxHeartbeats 600000 in
theorem sametexts_any (v1 v2 : Value) (a b : List ByteArray) (w : World) (h1 : Texts w v1 a) (h2 : Texts w v2 b) :
    Calls Tryz.prog 17 #[v1, v2] w fun e w' => e = .returned (.bool (sameT a b)) ∧ Below w.heap.size w w' := by
  obtain ⟨p1, c1, rfl, l1, m1, hat1⟩ := h1.parts
  obtain ⟨p2, c2, rfl, l2, m2, hat2⟩ := h2.parts
  have hml : maxLen ≤ 9223372036854775807 := by decide
  have H1 := Lib.hid hat1
  have H2 := Lib.hid hat2
  clear h1 h2 hat1 hat2
  go_enter Tryz.func17, Tryz.ntmps17
  by_cases hl : a.length = b.length
  · have q0 : ((a.length : Int) == (b.length : Int)) = true := by simp; omega
    go_wp2
    go_loopw [5] (fun i wc => ∃ k : Nat, k ≤ a.length ∧ i = .int .i64 (k : Int) ∧ Hid (Below w.heap.size w wc) ∧ Hid (∀ j (h1 : j < a.length) (h2 : j < b.length), j < k → a[j].data.toList = b[j].data.toList)) (fun i _ => a.length - (intOf i).toNat)
    case atStart => exact ⟨0, Nat.zero_le _, rfl, Below.refl _ _, fun j _ _ h => by omega⟩
    case round =>
      obtain ⟨k, hk, rfl, HB, hall⟩ := hrel
      by_cases hlt : k < a.length
      · obtain ⟨b1, o1, rfl, e1⟩ := H1.out k hlt
        obtain ⟨b2, o2, rfl, e2⟩ := H2.out k (by omega)
        have e1 := cell_kept e1 HB.out
        have e2 := cell_kept e2 HB.out
        cases hq : (a[k].data.toList == b[k].data.toList)
        · have t1 : (a[k].toList == b[k].toList) = false := by rw [Lib.toList_data, Lib.toList_data]; exact hq
          have HS := Lib.hid (sameT_ne hlt (by omega) hq)
          clear hq
          go_wp2
          go_quiet (fail)
          go_wp2
          go_ret
          exact ⟨ret_bool HS.out.symm, Below.drewN' HB.out nq⟩
        · have t1 : (a[k].toList == b[k].toList) = true := by rw [Lib.toList_data, Lib.toList_data]; exact hq
          have HN : Hid (∀ j (h1 : j < a.length) (h2 : j < b.length), j < k + 1 → a[j].data.toList = b[j].data.toList) := Lib.hid fun j h1 h2 h3 => by
            by_cases h4 : j < k
            · exact hall.out j h1 h2 h4
            · obtain rfl : j = k := by omega
              simpa using hq
          clear hq
          go_wp2
          go_quiet (fail)
          go_wp2
          go_roundw
          case rel => exact ⟨k + 1, hlt, by go_num, Below.drewN' HB.out nq, HN⟩
          case measure => simp [intOf]; omega
      · have HS := Lib.hid (sameT_all hl (fun k h1 h2 => hall.out k h1 h2 (by omega)))
        go_wp2
        go_ret
        exact ⟨ret_bool HS.out.symm, HB.out⟩
  · have q0 : ((a.length : Int) == (b.length : Int)) = false := by simp; omega
    have HS := Lib.hid (sameT_len hl)
    go_wp2
    go_ret
    exact ⟨ret_bool HS.out.symm, Below.refl _ _⟩
end Go.Proofs.YtdnoceancoclmaaGreatDoor
