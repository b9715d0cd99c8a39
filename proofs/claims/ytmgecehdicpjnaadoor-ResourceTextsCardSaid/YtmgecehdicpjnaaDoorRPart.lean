/- The document's keys, part. -/
import Derived.Test.YtmgecehdicpjnaaDoorRNumber
import Derived.Test.YtmgecehdicpjnaaDoorRDigits
namespace Go.Proofs.YtmgecehdicpjnaaDoor
open Go.RowKit

abbrev keysC : List Value := [.string ⟨#[99, 112, 117]⟩, .string ⟨#[114, 97, 109]⟩, .string ⟨#[100, 105, 115, 107]⟩, .string ⟨#[112, 111, 114, 116, 115]⟩]
theorem keysC_get {k : Nat} (hk : k < 4) : keysC[k]? = some (.string (nmS k)) := by
  match k, hk with
  | 0, _ => rfl
  | 1, _ => rfl
  | 2, _ => rfl
  | 3, _ => rfl
  | n + 4, h => omega
set_option maxRecDepth 100000 in
theorem keys_any (w : World) :
    Calls Tryd.prog 39 #[] w fun e w' => ∃ g, e = .returned (four g) ∧ w.heap.size ≤ g ∧ Blk w' g keysC 9 ∧ Below w.heap.size w w' := by
  go_enter Tryd.func39, Tryd.ntmps39
  go_wp2
  go_ret
  exact ⟨_, rfl, Nat.le_refl _, Blk.made w keysC _, below_alloc w _⟩

/-- does a text begin with a name and '=', and has more? -/
def preB (l : List UInt8) (k : Nat) : Prop := ∃ d, d ≠ [] ∧ l = (nmS k).data.toList ++ 61 :: d
theorem extract_all (s : ByteArray) {m : Nat} (hm : m ≤ s.size) : s.data.toList = (s.extract 0 m).data.toList ++ (s.extract m s.size).data.toList := by
  rw [← Lib.toList_data (s.extract 0 m), Lib.extract_toList, ← Lib.toList_data (s.extract m s.size), Lib.extract_toList]
  have h : s.data.toList.length = s.size := by simp
  simp
  rw [List.take_of_length_le (l := s.data.toList.drop m) (by rw [List.length_drop]; omega), List.take_append_drop]
theorem pre_yes {s key : ByteArray} {k : Nat} (hk : key = nmS k ++ ⟨#[61]⟩) (hm : key.size < s.size) (he : (s.extract 0 key.size).data.toList = key.data.toList) : s.data.toList = (nmS k).data.toList ++ 61 :: (s.extract key.size s.size).data.toList := by
  rw [extract_all s (m := key.size) (by omega), he, hk]
  simp
theorem pre_no {s key : ByteArray} {k : Nat} (hk : key = nmS k ++ ⟨#[61]⟩) (h : ¬ (key.size < s.size ∧ (s.extract 0 key.size).data.toList = key.data.toList)) : ¬ preB s.data.toList k := by
  rintro ⟨d, hd, he⟩
  refine h ?_
  have h1 : key.data.toList = (nmS k).data.toList ++ [61] := by rw [hk]; simp
  have h2 : s.data.toList = key.data.toList ++ d := by rw [h1, he]; simp
  have h3 : s.size = key.size + d.length := by
    have := congrArg List.length h2
    simpa using this
  have h4 : 0 < d.length := List.length_pos_iff.2 hd
  refine ⟨by omega, ?_⟩
  rw [← Lib.toList_data, Lib.extract_toList, h2]
  simp

set_option maxRecDepth 100000 in
set_option maxHeartbeats 1000000 in
theorem rpart_any (s : ByteArray) (w : World) (hs : s.size ≤ maxLen) :
    Calls Tryd.prog 44 #[.string s] w fun e w' => (∃ (i : Int) (d : ByteArray), e = .returned (.tuple #[.int .i64 i, .string d]) ∧ PartX s.data.toList i d.data.toList ∧ d.size ≤ s.size) ∧ Below w.heap.size w w' := by
  unfold maxLen at hs
  go_enter Tryd.func44, Tryd.ntmps44
  go_wp2
  go_loopw [4] (fun i wc => ∃ k : Nat, k ≤ 4 ∧ i = .int .i64 (k : Int) ∧ Hid (∀ j, j < k → ¬ preB s.data.toList j) ∧ Hid (Below w.heap.size w wc)) (fun i _ => 4 - (intOf i).toNat)
  case atStart => exact ⟨0, Nat.zero_le _, rfl, Lib.hid (fun j h => by omega), Lib.hid (Below.refl _ _)⟩
  case round =>
    obtain ⟨k, hk, rfl, HN, HB⟩ := hrel
    by_cases hlt : k < 4
    · have i0 : (0 : Int) ≤ (k : Int) := by omega
      have i1 : (k : Int) < 4 := by omega
      have hnl := nmS_size k
      obtain ⟨nm, hnm⟩ : ∃ nm, nm = nmS k := ⟨_, rfl⟩
      obtain ⟨key, hkey⟩ : ∃ key : ByteArray, key = nm ++ ⟨#[61]⟩ := ⟨_, rfl⟩
      rw [← hnm] at hnl
      have hks : key.size ≤ 6 := by rw [hkey, ByteArray.size_append]; show nm.size + 1 ≤ 6; omega
      have hadd : ∀ w, (Op.stringOp .add nm ⟨#[61]⟩).run Tryd.prog w = .ok (.string key) w := fun w => by
        rw [hkey]; exact run_string_add_sum w nm ⟨#[61]⟩ (by show nm.size + 1 ≤ _; omega)
      have HK : Hid (key = nmS k ++ ⟨#[61]⟩) := Lib.hid (by rw [hkey, hnm])
      have HNM := Lib.hid hnm
      clear hnm hkey
      by_cases hgt : key.size < s.size
      · have d1 : decide ((key.size : Int) < (s.size : Int)) = true := by simp; omega
        have q0 : (key.size : Int) ≤ (s.size : Int) := by omega
        have q1 : (0 : Int) ≤ (key.size : Int) := by omega
        cases hq : ((s.extract 0 key.size).toList == key.toList)
        · have HN2 : Hid (∀ j, j < k + 1 → ¬ preB s.data.toList j) := Lib.hid (fun j hj => by
            by_cases h : j < k
            · exact HN.out j h
            · obtain rfl : j = k := by omega
              exact pre_no HK.out (fun h => by
                rw [Lib.toList_data, Lib.toList_data] at hq
                simp only [beq_eq_false_iff_ne, ne_eq] at hq
                exact hq h.2))
          go_wp2_with (go_at_call 39; refine (keys_any _).mono ?_; rintro e w1 ⟨g, rfl, -, hg, hb⟩; have hc := hg.cell (keysC_get hlt); rw [← HNM.out] at hc; have HB1 := Lib.hid (below_and HB.out hb); clear hg hb)
          go_roundw
          case rel => exact ⟨k + 1, by omega, by go_num, HN2, HB1⟩
          case measure => simp [intOf]; omega
        · have HR : Hid (PartX s.data.toList (k : Int) (s.extract key.size s.size).data.toList) := Lib.hid (by
            have hp := pre_yes HK.out hgt (by rw [Lib.toList_data, Lib.toList_data] at hq; simpa using hq)
            refine ⟨by omega, by omega, fun h => by omega, fun k' h => ?_⟩
            obtain rfl : k' = k := by omega
            rw [hp, partR_pre hlt])
          go_wp2_with (go_at_call 39; refine (keys_any _).mono ?_; rintro e w1 ⟨g, rfl, -, hg, hb⟩; have hc := hg.cell (keysC_get hlt); rw [← HNM.out] at hc; have HB1 := Lib.hid (below_and HB.out hb); clear hg hb)
          go_quiet (fail)
          go_wp2
          go_ret2
          exact ⟨⟨_, _, rfl, HR.out, by rw [ByteArray.size_extract]; omega⟩, below_and HB1.out (below_drewN nq)⟩
      · have d1 : decide ((key.size : Int) < (s.size : Int)) = false := by simp; omega
        have HN2 : Hid (∀ j, j < k + 1 → ¬ preB s.data.toList j) := Lib.hid (fun j hj => by
          by_cases h : j < k
          · exact HN.out j h
          · obtain rfl : j = k := by omega
            exact pre_no HK.out (fun h => hgt h.1))
        go_wp2_with (go_at_call 39; refine (keys_any _).mono ?_; rintro e w1 ⟨g, rfl, -, hg, hb⟩; have hc := hg.cell (keysC_get hlt); rw [← HNM.out] at hc; have HB1 := Lib.hid (below_and HB.out hb); clear hg hb)
        go_roundw
        case rel => exact ⟨k + 1, by omega, by go_num, HN2, HB1⟩
        case measure => simp [intOf]; omega
    · obtain rfl : k = 4 := by omega
      have HR : Hid (PartX s.data.toList (-1) (ByteArray.empty : ByteArray).data.toList) := Lib.hid ⟨by omega, by omega, fun _ => partR_none (fun k hk d hd he => HN.out k hk ⟨d, hd, he⟩), fun k h => by omega⟩
      go_wp2
      go_ret2
      exact ⟨⟨_, _, rfl, HR.out, by show 0 ≤ s.size; omega⟩, HB.out⟩
end Go.Proofs.YtmgecehdicpjnaaDoor
