/- The document's watch: Left. -/
import Derived.Test.YtmgcigohfccgeaaRW4
import Derived.Test.YtmgcigohfccgeaaWatch3
import Derived.Test.YtmgcigohfccgeaaPast
namespace Go.Proofs.Ytmgcigohfccgeaa
open Go.RowKit

set_option maxRecDepth 100000 in
set_option maxHeartbeats 2000000 in
theorem rleft_yes (b : Nat) (T : Int) (v : Value) (S : List End) (s : ByteArray) (w : World) (h : RWt w b T v S) (i : Nat) (hi : i < S.length) (hp : pl S s.data.toList = some i) (hu : IntKind.i64.wrap (S[i].2 - T) = S[i].2 - T) :
    Calls Try.prog 54 #[ptr b, .string s] w fun e w' => e = .returned (.tuple #[.int .i64 (S[i].2 - T), .bool true]) ∧ Below w.heap.size w w' := by
  have hp' := hp
  unfold pl at hp'
  rw [List.findIdx?_eq_some_iff_getElem] at hp'
  obtain ⟨hi', hie, hno⟩ := hp'
  have HN : Hid (∀ j (h : j < S.length), j < i → (S[j].1.data.toList == s.data.toList) = false) := Lib.hid fun j hj hji => by simpa using hno j hji
  have HE : Hid ((S[i].1.data.toList == s.data.toList) = true) := Lib.hid hie
  have HU := Lib.hid hu
  have hml : maxLen ≤ 9223372036854775807 := by decide
  have H := Lib.hid h
  obtain ⟨g, o, c, rfl, hc1, hc2, -, -⟩ := h.endAt hi
  have c1 := h.blk.cell (j := 1) rfl
  clear hp hno hie h hu
  go_enter Try.func54, Try.ntmps54
  go_wp2
  go_loop [6] (fun x => ∃ k : Nat, k ≤ i ∧ x = .int .i64 (k : Int)) (fun x => i - (intOf x).toNat)
  case atStart => exact ⟨0, Nat.zero_le _, rfl⟩
  case round =>
    obtain ⟨k, hk, rfl⟩ := hrel
    obtain ⟨g', o', c', e', -, -, e1, e2⟩ := H.out.endAt (i := k) (by omega)
    simp only [Value.slice.injEq, Option.some.injEq, Addr.mk.injEq, and_true, true_and] at e'
    obtain ⟨⟨rfl, rfl⟩, rfl⟩ := e'
    have i1 : (k : Int) < (S.length : Int) := by omega
    obtain ⟨nm, hnm⟩ : ∃ nm, nm = S[k].1 := ⟨_, rfl⟩
    rw [← hnm] at e1
    by_cases hlt : k < i
    · have t1 : (nm.toList == s.toList) = false := by rw [Lib.toList_data, Lib.toList_data, hnm]; exact HN.out k (by omega) hlt
      clear hnm e2
      go_wp2
      go_round
      case rel => exact ⟨k + 1, hlt, by go_num⟩
      case measure => simp [intOf]; omega
    · obtain rfl : k = i := by omega
      have t1 : (nm.toList == s.toList) = true := by rw [Lib.toList_data, Lib.toList_data, hnm]; exact HE.out
      obtain ⟨at_, hat⟩ : ∃ at_, at_ = S[k].2 := ⟨_, rfl⟩
      rw [← hat] at e2
      have u1 : IntKind.i64.wrap (at_ - T) = at_ - T := by rw [hat]; exact HU.out
      have HAT := Lib.hid hat
      have x0 : ∀ y : Past w, y.val.cell? ⟨g, o + k * 2 + 1, none⟩ = some (.int .i64 at_) := Past.cell (by rw [Nat.add_assoc]; exact e2)
      have x1 : ∀ y : Past w, y.val.cell? ⟨b, 1, none⟩ = some (.slice (some ⟨g, o, none⟩) S.length c) := Past.blk H.out.blk (j := 1) rfl
      have x2 : ∀ y : Past w, y.val.cell? ⟨b, 0, none⟩ = some (.int .i64 T) := Past.blk H.out.blk (j := 0) rfl
      clear hnm hat e2
      go_wp2
      refine wp_region_past (by kernel_rfl) (by kernel_rfl) ?_
      repeat (go_big_quiet_step (fail))
      refine wpQuiet_nil ?_
      intro _ hw'
      obtain ⟨s9, hw''⟩ := hw'
      subst hw''
      obtain ⟨w9, h9, e9⟩ : ∃ w9, Below w.heap.size w w9 ∧ w9 = s9.val := ⟨_, s9.h, rfl⟩
      rw [← e9]
      have HB9 := Lib.hid h9
      clear h9 e9 x0 x1 x2
      go_wp2
      go_ret2
      exact ⟨by rw [← HAT.out]; rfl, HB9.out⟩

set_option maxRecDepth 100000 in
set_option maxHeartbeats 2000000 in
theorem rleft_no (b : Nat) (T : Int) (v : Value) (S : List End) (s : ByteArray) (w : World) (h : RWt w b T v S) (hp : pl S s.data.toList = none) :
    Calls Try.prog 54 #[ptr b, .string s] w fun e w' => e = .returned (.tuple #[.int .i64 0, .bool false]) ∧ Below w.heap.size w w' := by
  have hp' := hp
  unfold pl at hp'
  rw [List.findIdx?_eq_none_iff] at hp'
  have HN : Hid (∀ j (h : j < S.length), (S[j].1.data.toList == s.data.toList) = false) := Lib.hid fun j hj => by simpa using hp' _ (List.getElem_mem hj)
  have hml : maxLen ≤ 9223372036854775807 := by decide
  have H := Lib.hid h
  obtain ⟨p, c, rfl, hc1, hc2, -⟩ := h.row
  have c1 := h.blk.cell (j := 1) rfl
  clear hp hp' h
  go_enter Try.func54, Try.ntmps54
  go_wp2
  go_loop [6] (fun x => ∃ k : Nat, k ≤ S.length ∧ x = .int .i64 (k : Int)) (fun x => S.length - (intOf x).toNat)
  case atStart => exact ⟨0, Nat.zero_le _, rfl⟩
  case round =>
    obtain ⟨k, hk, rfl⟩ := hrel
    by_cases hlt : k < S.length
    · obtain ⟨g', o', c', e', -, -, e1, -⟩ := H.out.endAt hlt
      simp only [Value.slice.injEq] at e'
      obtain ⟨rfl, -, rfl⟩ := e'
      obtain ⟨nm, hnm⟩ : ∃ nm, nm = S[k].1 := ⟨_, rfl⟩
      rw [← hnm] at e1
      have t1 : (nm.toList == s.toList) = false := by rw [Lib.toList_data, Lib.toList_data, hnm]; exact HN.out k hlt
      have i1 : (k : Int) < (S.length : Int) := by omega
      clear hnm
      go_wp2
      go_round
      case rel => exact ⟨k + 1, hlt, by go_num⟩
      case measure => simp [intOf]; omega
    · obtain rfl : k = S.length := by omega
      go_wp2
      go_ret2
      exact ⟨rfl, Below.refl _ _⟩
end Go.Proofs.Ytmgcigohfccgeaa
