/- strings.Cut at '=', and resource.part -/
import Derived.Test.YtmgecehdicpjnaaDoorNumber
import Derived.Test.YtmgecehdicpjnaaDoorText
import Derived.Lib.IndexLaws
import Derived.Deep.QuietTactic
import Derived.BigQuiet
import Derived.Outline
namespace Go.Proofs.YtmgecehdicpjnaaDoor
open Go.RowKit

def keyL (l : List UInt8) : List UInt8 := l.takeWhile (· != 61)
def digL (l : List UInt8) : List UInt8 := (l.dropWhile (· != 61)).drop 1
theorem split_none : ∀ {l : List UInt8}, (∀ k : Nat, l[k]? ≠ some 61) → l.takeWhile (· != 61) = l ∧ l.dropWhile (· != 61) = []
  | [], _ => ⟨rfl, rfl⟩
  | c :: l, h => by
    have h0 : c ≠ 61 := fun e => h 0 (by simp [e])
    have hc : (c != 61) = true := by simpa using h0
    obtain ⟨h1, h2⟩ := split_none (l := l) (fun k hk => h (k + 1) (by simpa using hk))
    simp only [List.takeWhile_cons, List.dropWhile_cons, hc, if_true, h1, h2, and_self]
theorem split_some : ∀ {l : List UInt8} {o : Nat}, l[o]? = some 61 → (∀ k : Nat, k < o → l[k]? ≠ some 61) → l.takeWhile (· != 61) = l.take o ∧ l.dropWhile (· != 61) = l.drop o
  | [], o, h, _ => by simp at h
  | c :: l, 0, h, _ => by
    simp at h
    subst h
    exact ⟨rfl, rfl⟩
  | c :: l, o + 1, h, hn => by
    have h0 : c ≠ 61 := fun e => hn 0 (by omega) (by simp [e])
    have hc : (c != 61) = true := by simpa using h0
    obtain ⟨h1, h2⟩ := split_some (l := l) (o := o) (by simpa using h) (fun k hk hk2 => hn (k + 1) (by omega) (by simpa using hk2))
    simp only [List.takeWhile_cons, List.dropWhile_cons, hc, if_true, h1, h2]
    exact ⟨rfl, rfl⟩

theorem ba_of {a : ByteArray} {l : List UInt8} (h : a.data.toList = l) : a = ⟨l.toArray⟩ := by
  cases a with | mk d => simp at h; rw [← h]

set_option maxRecDepth 100000 in
set_option maxHeartbeats 1000000 in
theorem lcut_any (s : ByteArray) (w : World) (hs : s.size ≤ maxLen) :
    Calls Tryd.prog 61 #[.string s, .string ⟨#[61]⟩] w fun e w' => (∃ f, e = .returned (.tuple #[.string ⟨(keyL s.data.toList).toArray⟩, .string ⟨(digL s.data.toList).toArray⟩, .bool f])) ∧ Below w.heap.size w w' := by
  unfold maxLen at hs
  have hge := Lib.indexByte_ge s.data.toList 61
  by_cases hi : Lib.indexByte s.data.toList 61 = -1
  · have hn := Lib.indexByte_none hi
    obtain ⟨h1, h2⟩ := split_none hn
    have HI := Lib.hid hi
    have HK : Hid (s = ⟨(keyL s.data.toList).toArray⟩) := Lib.hid (ba_of (by unfold keyL; exact h1.symm))
    have HD : Hid (digL s.data.toList = []) := Lib.hid (by unfold digL; rw [h2]; rfl)
    clear hi hn h1 h2 hge
    go_enter Tryd.func61, Tryd.ntmps61
    go_wp2_with (go_at_call 69; refine (Tryd.stringslite_Index_one s 61 _).mono ?_; rw [HI.out]; rintro e w1 ⟨rfl, rfl⟩)
    go_ret3
    exact ⟨⟨false, by rw [HD.out, ← HK.out]; rfl⟩, Below.refl _ _⟩
  · obtain ⟨o, ho⟩ : ∃ o : Nat, Lib.indexByte s.data.toList 61 = (o : Int) := ⟨(Lib.indexByte s.data.toList 61).toNat, by omega⟩
    obtain ⟨hs1, hs2⟩ := Lib.indexByte_some ho
    obtain ⟨h1, h2⟩ := split_some hs1 hs2
    have hlt : o < s.size := by
      have := (List.getElem?_eq_some_iff.1 hs1).1
      simpa using this
    have HI := Lib.hid ho
    have HK : Hid (s.extract 0 o = ⟨(keyL s.data.toList).toArray⟩) := Lib.hid (ba_of (by unfold keyL; rw [h1, Lib.extract_data]; simp))
    have HD : Hid (s.extract (o + 1) s.size = ⟨(digL s.data.toList).toArray⟩) := Lib.hid (ba_of (by unfold digL; rw [h2, Lib.extract_to_end, List.drop_drop]))
    clear ho hi hs1 hs2 h1 h2 hge
    have b0 : (0 : Int) ≤ (o : Int) := by omega
    have b1 : (o : Int) ≤ (s.size : Int) := by omega
    have b2 : (0 : Int) ≤ (o : Int) + 1 := by omega
    have b3 : (o : Int) + 1 ≤ (s.size : Int) := by omega
    have u1 : IntKind.i64.wrap ((o : Int) + 1) = (o : Int) + 1 := by rw [IntKind.wrap_i64]; omega
    go_enter Tryd.func61, Tryd.ntmps61
    go_wp2_with (go_at_call 69; refine (Tryd.stringslite_Index_one s 61 _).mono ?_; rw [HI.out]; rintro e w1 ⟨rfl, rfl⟩)
    go_quiet (fail)
    go_wp2
    go_ret3
    exact ⟨⟨true, by rw [← HK.out, ← HD.out]; rfl⟩, below_drewN nq⟩

set_option maxRecDepth 100000 in
set_option maxHeartbeats 1000000 in
theorem cut_any (s : ByteArray) (w : World) (hs : s.size ≤ maxLen) :
    Calls Tryd.prog 52 #[.string s, .string ⟨#[61]⟩] w fun e w' => (∃ f, e = .returned (.tuple #[.string ⟨(keyL s.data.toList).toArray⟩, .string ⟨(digL s.data.toList).toArray⟩, .bool f])) ∧ Below w.heap.size w w' := by
  go_enter Tryd.func52, Tryd.ntmps52
  go_wp2_with (go_at_call 61; refine (lcut_any s _ hs).mono ?_; rintro e w1 ⟨⟨f, rfl⟩, hb⟩; have HB := Lib.hid hb; clear hb)
  go_ret3
  exact ⟨⟨f, rfl⟩, HB.out⟩

/-- which of the four a part is, its number, an error -/
def partR (l : List UInt8) : Nat × Int × Int :=
  if keyL l = [99, 112, 117] then (0, numP (digL l)) else if keyL l = [114, 97, 109] then (1, numP (digL l)) else if keyL l = [100, 105, 115, 107] then (2, numP (digL l)) else if keyL l = [112, 111, 114, 116, 115] then (3, numP (digL l)) else (0, 0, 5)
theorem partR_yes {l : List UInt8} {k : Nat} (hk : k < 4) (h : keyL l = (nmS k).data.toList) : partR l = (k, numP (digL l)) := by
  unfold partR
  match k, hk, h with
  | 0, _, h => rw [h]; rfl
  | 1, _, h => rw [h]; rfl
  | 2, _, h => rw [h]; rfl
  | 3, _, h => rw [h]; rfl
  | n + 4, hk, _ => omega
theorem partR_no {l : List UInt8} (h : ∀ k, k < 4 → keyL l ≠ (nmS k).data.toList) : partR l = (0, 0, 5) := by
  unfold partR
  have h0 : keyL l ≠ [99, 112, 117] := h 0 (by omega)
  have h1 : keyL l ≠ [114, 97, 109] := h 1 (by omega)
  have h2 : keyL l ≠ [100, 105, 115, 107] := h 2 (by omega)
  have h3 : keyL l ≠ [112, 111, 114, 116, 115] := h 3 (by omega)
  rw [if_neg h0, if_neg h1, if_neg h2, if_neg h3]

set_option maxRecDepth 100000 in
set_option maxHeartbeats 1000000 in
theorem part_any (s : ByteArray) (w : World) (hs : s.size ≤ maxLen) :
    Calls Tryd.prog 42 #[.string s] w fun e w' => e = .returned (.tuple #[.int .i64 ((partR s.data.toList).1 : Int), .int .i64 (partR s.data.toList).2.1, .int .i64 (partR s.data.toList).2.2]) ∧ Below w.heap.size w w' := by
  obtain ⟨key, hkey⟩ : ∃ key : ByteArray, key = ⟨(keyL s.data.toList).toArray⟩ := ⟨_, rfl⟩
  obtain ⟨dig, hdig⟩ : ∃ dig : ByteArray, dig = ⟨(digL s.data.toList).toArray⟩ := ⟨_, rfl⟩
  have HK : Hid (key.data.toList = keyL s.data.toList) := Lib.hid (by rw [hkey])
  have HD : Hid (dig.data.toList = digL s.data.toList) := Lib.hid (by rw [hdig])
  have HDS : Hid (dig.size ≤ maxLen) := Lib.hid (by
    have h1 : dig.data.toList.length = dig.size := by simp
    have h2 : (digL s.data.toList).length ≤ s.size := by
      unfold digL
      rw [List.length_drop]
      have := (List.dropWhile_suffix (l := s.data.toList) (fun c : UInt8 => c != 61)).length_le
      have h3 : s.data.toList.length = s.size := by simp
      omega
    rw [← h1, HD.out]
    omega)
  have HC := Lib.hid (fun w => cut_any s w hs)
  rw [← hkey, ← hdig] at HC
  clear hkey hdig
  go_enter Tryd.func42, Tryd.ntmps42
  go_wp2_with (first
    | (go_at_call 52; refine (HC.out _).mono ?_; rintro e w1 ⟨⟨f, rfl⟩, hb⟩; have HB1 := Lib.hid hb; clear hb)
    | (go_at_call 34; refine (names_any _).mono ?_; rintro e w2 ⟨rfl, hb⟩; have HB2 := Lib.hid (below_and HB1.out hb); clear hb))
  go_loop [19] (fun i => ∃ k : Nat, k ≤ 4 ∧ i = .int .i64 (k : Int) ∧ Hid (∀ j, j < k → keyL s.data.toList ≠ (nmS j).data.toList)) (fun i => 4 - (intOf i).toNat)
  case atStart => exact ⟨0, Nat.zero_le _, rfl, fun j h => by omega⟩
  case round =>
    obtain ⟨k, hk, rfl, HN⟩ := hrel
    by_cases hlt : k < 4
    · have hix := index_nm w2 k hlt
      obtain ⟨nm, hnm⟩ : ∃ nm, nm = nmS k := ⟨_, rfl⟩
      rw [← hnm] at hix
      cases hq : (key.data.toList == nm.data.toList)
      · have t1 : (key.toList == nm.toList) = false := by rw [Lib.toList_data, Lib.toList_data]; exact hq
        have HN2 : Hid (∀ j, j < k + 1 → keyL s.data.toList ≠ (nmS j).data.toList) := Lib.hid (fun j hj => by
          by_cases h : j < k
          · exact HN.out j h
          · obtain rfl : j = k := by omega
            rw [← HK.out, ← hnm]; simpa using hq)
        clear hq hnm
        go_wp2
        go_round
        case rel => exact ⟨k + 1, by omega, by go_num, HN2⟩
        case measure => simp [intOf]; omega
      · have t1 : (key.toList == nm.toList) = true := by rw [Lib.toList_data, Lib.toList_data]; exact hq
        have HR : Hid (partR s.data.toList = (k, numP dig.data.toList)) := Lib.hid (by rw [HD.out]; exact partR_yes hlt (by rw [← HK.out, ← hnm]; simpa using hq))
        clear hq hnm
        go_wp2_with (go_at_call 53; refine (number_any dig _ HDS.out).mono ?_; rintro e w3 ⟨rfl, hb⟩; have HB3 := Lib.hid (below_and HB2.out hb); clear hb)
        go_ret3
        exact ⟨by rw [HR.out]; rfl, HB3.out⟩
    · obtain rfl : k = 4 := by omega
      have HR := Lib.hid (partR_no HN.out)
      go_wp2
      go_ret3
      exact ⟨by rw [HR.out]; rfl, HB2.out⟩
end Go.Proofs.YtmgecehdicpjnaaDoor
