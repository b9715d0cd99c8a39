/- The document's Number. -/
import Derived.Test.YtmgecehdicpjnaaDoorRtPlain
import Derived.Test.YtmgecehdicpjnaaDoorRFour
namespace Go.Proofs.YtmgecehdicpjnaaDoor
open Go.RowKit

def NumPost (l : List UInt8) (e : Ending) : Prop := ∃ (x : Int) (over ok : Bool), e = .returned (.tuple #[.int .i64 x, .bool over, .bool ok]) ∧ NumR l x over ok

theorem numF_ge (l : List UInt8) (c : UInt8) (a : Int) (h : 1099511627776 < numF a l) (hc : dg c = true) : 1099511627776 < numF a (l ++ [c]) := by
  rw [numF_snoc]
  unfold dg at hc
  simp only [Bool.and_eq_true, decide_eq_true_eq] at hc
  omega

set_option maxRecDepth 100000 in
set_option maxHeartbeats 1000000 in
theorem rnumber_go (s : ByteArray) (w : World) (hs : s.size ≤ maxLen) (h0 : 0 < s.size) (h1 : ¬ (s.data.toList.head? = some 48 ∧ 1 < s.data.toList.length)) :
    Calls Tryd.prog 45 #[.string s, .int .i64 1099511627776] w fun e w' => NumPost s.data.toList e ∧ w = w' := by
  unfold maxLen at hs
  obtain ⟨l, hl⟩ : ∃ l, l = s.data.toList := ⟨_, rfl⟩
  have hsz : s.size = l.length := by rw [hl]; simp
  have HNE : Hid (¬ (l = [] ∨ (l.head? = some 48 ∧ 1 < l.length))) := Lib.hid (by
    rw [← hl] at h1
    rintro (h | h)
    · have : l.length = 0 := by rw [h]; rfl
      omega
    · exact h1 h)
  have e0 : s.toList.isEmpty = false := by rw [Lib.toList_data, ← hl]; cases l with | nil => (have : ([] : List UInt8).length = 0 := rfl; omega) | cons => rfl
  have e1 : ¬ s.toList = [] := by simpa using e0
  have e3 : (1 < s.size) → s[0].toNat ≠ 48 := fun hlt h => by
    refine h1 ⟨?_, by rw [← hl]; omega⟩
    rw [List.head?_eq_getElem?]
    have : s.data.toList[0]? = some s[0] := by
      rw [List.getElem?_eq_getElem (by rw [← hl]; omega)]; rfl
    rw [this]
    congr 1
    exact UInt8.toNat_inj.1 (by rw [h]; rfl)
  rw [← hl]
  have HG : Hid (∀ k (hk : k < s.size) (hk2 : k < l.length), s[k] = l[k]) := Lib.hid (fun k hk hk2 => by subst hl; rfl)
  have HSZ := Lib.hid hsz
  have hl1 : l.length ≤ 9223372036854775807 := by omega
  have HDF : Hid (∀ k (hk : k < l.length), numF 0 (l.take (k + 1)) = min (10 * numF 0 (l.take k) + ((l[k].toNat : Int) - 48)) 1099511627777) := Lib.hid (fun k hk => by rw [List.take_succ_eq_append_getElem hk, numF_snoc])
  clear h1 hl
  by_cases hlen : 1 < s.size
  all_goals
    first
      | have e4 := e3 hlen
      | skip
    first
      | have e5 : ((s[0].toNat : Int) == 48) = false := (by simp; omega)
      | skip
    first
      | have q1 : decide ((1 : Int) < (s.size : Int)) = true := (by simp; omega)
      | have q1 : decide ((1 : Int) < (s.size : Int)) = false := (by simp; omega)
    clear e3 hlen hsz
    go_enter Tryd.func45, Tryd.ntmps45
    go_wp2
    go_loop [4, 5, 7] (fun x ov i => ∃ (k : Nat) (n : Int) (b : Bool), k ≤ l.length ∧ i = .int .i64 (k : Int) ∧ x = .int .i64 n ∧ ov = .bool b ∧ 0 ≤ n ∧ n ≤ 20000000000000 ∧ Hid ((l.take k).all dg = true ∧ (b = false → n = numF 0 (l.take k) ∧ n ≤ 1099511627776) ∧ (b = true → 1099511627776 < numF 0 (l.take k)))) (fun _ _ i => l.length - (intOf i).toNat)
    case atStart => exact ⟨0, 0, false, Nat.zero_le _, rfl, rfl, rfl, by omega, by omega, Lib.hid ⟨by simp, fun _ => ⟨by simp [numF], by omega⟩, fun h => by cases h⟩⟩
    case round =>
      obtain ⟨k, n, b, hk, rfl, rfl, rfl, n1, n2, HR⟩ := hrel
      by_cases hlt : k < l.length
      · have i0 : (0 : Int) ≤ (k : Int) := by omega
        have i1 : (k : Int) < (s.size : Int) := by have := HSZ.out; omega
        have i2 : k < s.size := by have := HSZ.out; omega
        obtain ⟨c, hc⟩ : ∃ c, c = s[k] := ⟨_, rfl⟩
        have HC : Hid (c = l[k]) := Lib.hid (by rw [hc]; exact HG.out k i2 hlt)
        have hcc2 : s[k] = c := hc.symm
        have HF := HDF.out k hlt
        rw [← HC.out] at HF
        have HFH := Lib.hid HF
        have cb := c.toNat_lt
        clear hc HF
        by_cases hd1 : c.toNat < 48
        · have HN : Hid (numP l = (0, 5)) := Lib.hid (numP_bad hlt (by rw [← HC.out]; unfold dg; simp; omega))
          have d1 : decide ((c.toNat : Int) < 48) = true := by simp; omega
          go_wp2
          go_ret3
          exact ⟨⟨_, _, _, rfl, fun _ => by rw [HN.out], fun h => (by cases h), fun h => (by cases h)⟩, rfl⟩
        have d1 : decide ((c.toNat : Int) < 48) = false := by simp; omega
        by_cases hd2 : 57 < c.toNat
        · have HN : Hid (numP l = (0, 5)) := Lib.hid (numP_bad hlt (by rw [← HC.out]; unfold dg; simp; omega))
          have d2 : decide ((57 : Int) < (c.toNat : Int)) = true := by simp; omega
          go_wp2
          go_ret3
          exact ⟨⟨_, _, _, rfl, fun _ => by rw [HN.out], fun h => (by cases h), fun h => (by cases h)⟩, rfl⟩
        have d2 : decide ((57 : Int) < (c.toNat : Int)) = false := by simp; omega
        have hdg : dg c = true := by unfold dg; simp; omega
        have HD2 : Hid ((l.take (k + 1)).all dg = true) := Lib.hid (by rw [List.take_succ_eq_append_getElem hlt, List.all_append, HR.out.1, ← HC.out]; simp [hdg])
        have v1 : (48 : Int) ≤ (c.toNat : Int) := by omega
        have v2 : (c.toNat : Int) ≤ 57 := by omega
        have w1 : IntKind.u8.wrap ((c.toNat : Int) - 48) = (c.toNat : Int) - 48 := by rw [IntKind.wrap_u8]; omega
        have w2 : IntKind.i64.wrap ((c.toNat : Int) - 48) = (c.toNat : Int) - 48 := by rw [IntKind.wrap_i64]; omega
        cases b
        · have hb := HR.out.2.1 rfl
          have n3 : n ≤ 1099511627776 := hb.2
          have HB := Lib.hid hb.1
          have w3 : IntKind.i64.wrap (n * 10) = n * 10 := by rw [IntKind.wrap_i64]; omega
          have w4 : IntKind.i64.wrap (n * 10 + ((c.toNat : Int) - 48)) = n * 10 + ((c.toNat : Int) - 48) := by rw [IntKind.wrap_i64]; omega
          clear hb hdg hd1 hd2
          by_cases hov : 1099511627776 < n * 10 + ((c.toNat : Int) - 48)
          · have d3 : decide (1099511627776 < n * 10 + ((c.toNat : Int) - 48)) = true := by simpa using hov
            have HR2 : Hid ((l.take (k + 1)).all dg = true ∧ (true = false → n * 10 + ((c.toNat : Int) - 48) = numF 0 (l.take (k + 1)) ∧ n * 10 + ((c.toNat : Int) - 48) ≤ 1099511627776) ∧ (true = true → 1099511627776 < numF 0 (l.take (k + 1)))) := Lib.hid ⟨HD2.out, fun h => (by cases h), fun _ => by rw [HFH.out, ← HB.out]; omega⟩
            go_wp2
            go_round
            case rel => exact ⟨k + 1, _, _, hlt, by go_num, rfl, rfl, by omega, by omega, HR2⟩
            case measure => simp [intOf]; omega
          · have d3 : decide (1099511627776 < n * 10 + ((c.toNat : Int) - 48)) = false := by simpa using hov
            have HR2 : Hid ((l.take (k + 1)).all dg = true ∧ (false = false → n * 10 + ((c.toNat : Int) - 48) = numF 0 (l.take (k + 1)) ∧ n * 10 + ((c.toNat : Int) - 48) ≤ 1099511627776) ∧ (false = true → 1099511627776 < numF 0 (l.take (k + 1)))) := Lib.hid ⟨HD2.out, fun _ => ⟨by rw [HFH.out, ← HB.out]; omega, by omega⟩, fun h => by cases h⟩
            go_wp2
            go_round
            case rel => exact ⟨k + 1, _, _, hlt, by go_num, rfl, rfl, by omega, by omega, HR2⟩
            case measure => simp [intOf]; omega
        · have hb := HR.out.2.2 rfl
          have HR2 : Hid ((l.take (k + 1)).all dg = true ∧ (true = false → n = numF 0 (l.take (k + 1)) ∧ n ≤ 1099511627776) ∧ (true = true → 1099511627776 < numF 0 (l.take (k + 1)))) := Lib.hid ⟨HD2.out, fun h => (by cases h), fun _ => by rw [HFH.out]; omega⟩
          clear hb hdg hd1 hd2
          go_wp2
          go_round
          case rel => exact ⟨k + 1, _, _, hlt, by go_num, rfl, rfl, n1, n2, HR2⟩
          case measure => simp [intOf]; omega
      · obtain rfl : k = l.length := by omega
        have i1 : ¬ ((l.length : Int) < (s.size : Int)) := by have := HSZ.out; omega
        have HN := Lib.hid (numP_go HNE.out (by have := HR.out.1; rwa [List.take_length] at this))
        have HR2 : Hid (NumR l n b true) := Lib.hid (by
          have h1 := HR.out.2
          rw [List.take_length] at h1
          refine ⟨fun h => (by cases h), fun _ h => ?_, fun _ h => ?_⟩
          · rw [HN.out, if_pos (h1.2 h)]
          · rw [HN.out, if_neg (by have := h1.1 h; omega), ← (h1.1 h).1])
        go_wp2
        go_ret3
        exact ⟨⟨_, _, _, rfl, HR2.out⟩, rfl⟩

set_option maxRecDepth 100000 in
set_option maxHeartbeats 1000000 in
theorem rnumber_any (s : ByteArray) (w : World) (hs : s.size ≤ maxLen) :
    Calls Tryd.prog 45 #[.string s, .int .i64 1099511627776] w fun e w' => NumPost s.data.toList e ∧ w = w' := by
  by_cases h0 : s.size = 0
  · have e : s.data.toList = [] := List.eq_nil_of_length_eq_zero (by simpa using h0)
    have HR : Hid (numP s.data.toList = (0, 5)) := Lib.hid (by rw [e]; rfl)
    have e0 : s.toList.isEmpty = true := by rw [Lib.toList_data, e]; rfl
    have e1 : s.toList = [] := by simpa using e0
    clear e h0
    go_enter Tryd.func45, Tryd.ntmps45
    go_wp2
    go_ret3
    exact ⟨⟨_, _, _, rfl, fun _ => by rw [HR.out], fun h => (by cases h), fun h => (by cases h)⟩, rfl⟩
  · by_cases h1 : s.data.toList.head? = some 48 ∧ 1 < s.data.toList.length
    · have HR : Hid (numP s.data.toList = (0, 5)) := Lib.hid (by unfold numP; rw [if_pos (.inr h1)])
      have h2 : 1 < s.size := by have := h1.2; simpa using this
      have h3 : s[0].toNat = 48 := by
        have := h1.1
        rw [List.head?_eq_getElem?, List.getElem?_eq_getElem (by omega)] at this
        have e : s[0] = 48 := Option.some.inj this
        rw [e]; rfl
      have h4 : 0 < s.size := by omega
      have e0 : s.toList.isEmpty = false := by rw [Lib.toList_data]; cases h : s.data.toList with | nil => (rw [h] at h1; simp at h1) | cons => rfl
      have e1 : ¬ s.toList = [] := by simpa using e0
      clear h1 h0
      unfold maxLen at hs
      go_enter Tryd.func45, Tryd.ntmps45
      go_wp2
      go_ret3
      exact ⟨⟨_, _, _, rfl, fun _ => by rw [HR.out], fun h => (by cases h), fun h => (by cases h)⟩, rfl⟩
    · exact rnumber_go s w hs (by omega) h1
end Go.Proofs.YtmgecehdicpjnaaDoor
