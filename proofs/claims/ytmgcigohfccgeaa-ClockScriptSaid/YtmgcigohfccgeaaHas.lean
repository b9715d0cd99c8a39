/- Chapter 8's has: is a text one of some? -/
import Derived.Test.YtmgcigohfccgeaaTexts
namespace Go.Proofs.Ytmgcigohfccgeaa
open Go.RowKit

def hasT (ss : List ByteArray) (s : List UInt8) : Bool := ss.any fun x => x.data.toList == s

set_option maxRecDepth 100000 in
set_option maxHeartbeats 600000 in
theorem has_any (v : Value) (ss : List ByteArray) (s : ByteArray) (w : World) (h : Texts w v ss) :
    Calls Try.prog 30 #[v, .string s] w fun e w' => e = .returned (.bool (hasT ss s.data.toList)) ∧ w = w' := by
  obtain ⟨p1, c1, rfl, l1, m1, hat1⟩ := h.parts
  have hml : maxLen ≤ 9223372036854775807 := by decide
  have H1 := Lib.hid hat1
  clear h hat1
  go_enter Try.func30, Try.ntmps30
  go_wp2
  go_loop [5] (fun i => ∃ k : Nat, k ≤ ss.length ∧ i = .int .i64 (k : Int) ∧ Hid (((ss.take k).any fun x => x.data.toList == s.data.toList) = false)) (fun i => ss.length - (intOf i).toNat)
  case atStart => exact ⟨0, Nat.zero_le _, rfl, by simp [Hid]⟩
  case round =>
    obtain ⟨k, hk, rfl, hok⟩ := hrel
    by_cases hlt : k < ss.length
    · obtain ⟨b1, o1, rfl, e1⟩ := H1.out k hlt
      cases hq : (ss[k].data.toList == s.data.toList)
      · have t1 : (ss[k].toList == s.toList) = false := by rw [Lib.toList_data, Lib.toList_data]; exact hq
        have HN : Hid (((ss.take (k + 1)).any fun x => x.data.toList == s.data.toList) = false) := Lib.hid (by
          rw [List.take_succ_eq_append_getElem hlt, List.any_append, hok.out]
          simpa using hq)
        clear hq
        go_wp2
        go_round
        case rel => exact ⟨k + 1, hlt, by go_num, HN⟩
        case measure => simp [intOf]; omega
      · have t1 : (ss[k].toList == s.toList) = true := by rw [Lib.toList_data, Lib.toList_data]; exact hq
        have HS : Hid (hasT ss s.data.toList = true) := Lib.hid (List.any_eq_true.2 ⟨ss[k], List.getElem_mem hlt, hq⟩)
        clear hq
        go_wp2
        go_ret
        exact ⟨ret_bool HS.out.symm, rfl⟩
    · obtain rfl : k = ss.length := by omega
      have HS : Hid (hasT ss s.data.toList = false) := Lib.hid (by have := hok.out; rwa [List.take_length] at this)
      go_wp2
      go_ret
      exact ⟨ret_bool HS.out.symm, rfl⟩
end Go.Proofs.Ytmgcigohfccgeaa
