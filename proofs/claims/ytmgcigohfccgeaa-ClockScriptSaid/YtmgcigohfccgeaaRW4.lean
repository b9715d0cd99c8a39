/- The document's watch: Drop and Set, whatever they are asked. -/
import Derived.Test.YtmgcigohfccgeaaRW3
namespace Go.Proofs.Ytmgcigohfccgeaa
open Go.RowKit

set_option maxRecDepth 100000 in
set_option maxHeartbeats 2000000 in
theorem rdrop_no (b : Nat) (T : Int) (v : Value) (S : List End) (s : ByteArray) (w : World) (h : RWt w b T v S) (hp : pl S s.data.toList = none) :
    Calls Try.prog 53 #[ptr b, .string s] w fun e w' => e = .returned (.int .i64 6) ∧ Below w.heap.size w w' := by
  have hp' := hp
  unfold pl at hp'
  rw [List.findIdx?_eq_none_iff] at hp'
  have HN : Hid (∀ j (h : j < S.length), (S[j].1.data.toList == s.data.toList) = false) := Lib.hid fun j hj => by simpa using hp' _ (List.getElem_mem hj)
  have hml : maxLen ≤ 9223372036854775807 := by decide
  have H := Lib.hid h
  obtain ⟨p, c, rfl, hc1, hc2, -⟩ := h.row
  have c1 := h.blk.cell (j := 1) rfl
  clear hp hp' h
  go_enter Try.func53, Try.ntmps53
  go_wp2
  go_loop [5] (fun x => ∃ k : Nat, k ≤ S.length ∧ x = .int .i64 (k : Int)) (fun x => S.length - (intOf x).toNat)
  case atStart => exact ⟨0, Nat.zero_le _, rfl⟩
  case round =>
    obtain ⟨k, hk, rfl⟩ := hrel
    by_cases hlt : k < S.length
    · obtain ⟨g', o', c', e', -, -, e1, -⟩ := H.out.endAt hlt
      simp only [Value.slice.injEq] at e'
      obtain ⟨rfl, -, rfl⟩ := e'
      obtain ⟨nm, hnm⟩ : ∃ nm, nm = S[k].1 := ⟨_, rfl⟩
      rw [← hnm] at e1
      have t1 : (nm.toList == s.toList) = false := by rw [Lib.toList_data, Lib.toList_data, hnm]; exact HN.out k hlt
      have i1 : (k : Int) < (S.length : Int) := by omega
      clear hnm
      go_wp2
      go_round
      case rel => exact ⟨k + 1, hlt, by go_num⟩
      case measure => simp [intOf]; omega
    · obtain rfl : k = S.length := by omega
      go_wp2
      go_ret
      exact ⟨rfl, Below.refl _ _⟩

def dropS (S : List End) (s : ByteArray) : List End := match pl S s.data.toList with
  | some i => S.eraseIdx i
  | none => S
theorem dropS_len (S : List End) (s : ByteArray) : (dropS S s).length ≤ S.length := by
  unfold dropS
  split
  · exact List.length_eraseIdx_le _ _
  · exact Nat.le_refl _
theorem rdrop_any (b : Nat) (T : Int) (v : Value) (S : List End) (s : ByteArray) (w : World) (h : RWt w b T v S) (hl : S.length ≤ 800000) (hsh : Sh v) :
    Calls Try.prog 53 #[ptr b, .string s] w fun e w' => e = .returned (.int .i64 (if (pl S s.data.toList).isSome then 0 else 6)) ∧ ∃ v', RWt w' b T v' (dropS S s) ∧ RStp w w' b v v' ∧ Sh v' := by
  unfold dropS
  cases hp : pl S s.data.toList with
  | none => exact (rdrop_no b T v S s w h hp).mono fun e w' ⟨h1, h2⟩ => ⟨h1, v, h.kept h2, RStp.of_below h2 _ _, hsh⟩
  | some i => exact rdrop_yes b T v S s w h hl i hp
/-- what a Set leaves -/
def setS (S : List End) (s : ByteArray) (a : Int) : List End := (dropS S s).take (insJ (dropS S s) (s, a)) ++ (s, a) :: (dropS S s).drop (insJ (dropS S s) (s, a))
theorem rset_ok (b : Nat) (T n : Int) (v : Value) (S : List End) (s : ByteArray) (w : World) (h : RWt w b T v S) (hl : S.length ≤ 700000) (hsh : Sh v) (hn : 1 ≤ n) (hn2 : n ≤ 1073741824) (hT : 0 ≤ T) (hT2 : T ≤ 2305843009213693952) (hs : s.toList.isEmpty = false) :
    Calls Try.prog 52 #[ptr b, .string s, .int .i64 n] w fun e w' => e = .returned (.int .i64 0) ∧ ∃ v', RWt w' b T v' (setS S s (T + n)) ∧ RStp w w' b v v' ∧ Sh v' :=
  rset_go b T n v S s w hn hn2 hT hT2 hs (T + n) rfl (dropS S s) (Nat.le_trans (dropS_len S s) hl) ((rdrop_any b T v S s w h (by omega) hsh).mono fun _ _ ⟨h1, h2⟩ => ⟨⟨_, h1⟩, h2⟩)

set_option maxRecDepth 100000 in
set_option maxHeartbeats 1000000 in
theorem rset_bad (b : Nat) (n : Int) (s : ByteArray) (w : World) (h : n < 1 ∨ 1073741824 < n ∨ s.toList.isEmpty = true) :
    Calls Try.prog 52 #[ptr b, .string s, .int .i64 n] w fun e w' => e = .returned (.int .i64 2) ∧ Below w.heap.size w w' := by
  by_cases h1 : n < 1
  · clear h
    go_enter Try.func52, Try.ntmps52
    go_wp2
    go_ret
    exact ⟨rfl, Below.refl _ _⟩
  by_cases h2 : 1073741824 < n
  · clear h
    go_enter Try.func52, Try.ntmps52
    go_wp2
    go_ret
    exact ⟨rfl, Below.refl _ _⟩
  have h3 : s.toList.isEmpty = true := (h.resolve_left h1).resolve_left h2
  clear h
  go_enter Try.func52, Try.ntmps52
  go_wp2
  go_ret
  exact ⟨rfl, Below.refl _ _⟩
end Go.Proofs.Ytmgcigohfccgeaa
