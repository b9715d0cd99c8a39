/- , laid together: RdDig, RdAdd. -/
import Derived.Test.YtdnoceancoclmaaGreatDoorM17
import Derived.Test.YtdnoceancoclmaaGreatDoorM03
import Derived.Test.YtdnoceancoclmaaGreatDoorM16
namespace Go.Proofs.YtdnoceancoclmaaGreatDoor.Ru
open Go.RowKit Go.Proofs.YtdnoceancoclmaaGreatDoor

/-- what digits tells -/
def digX (l : List UInt8) : Int := if l.all dgt then digV (l.take 12) else 0
def digK (l : List UInt8) : Bool := l.all dgt && (decide (1 ≤ l.length) && decide (l.length ≤ 12))
theorem take_min {l : List UInt8} {k : Nat} (hk : k < l.length) (h : k < 12) : digV (l.take (min (k + 1) 12)) = 10 * digV (l.take (min k 12)) + ((l[k].toNat : Int) - 48) := by
  rw [Nat.min_eq_left (by omega), Nat.min_eq_left (by omega), List.take_succ_eq_append_getElem hk, digV_snoc]
theorem take_min' {l : List UInt8} {k : Nat} (h : ¬ k < 12) : l.take (min (k + 1) 12) = l.take (min k 12) := by
  rw [Nat.min_eq_right (by omega), Nat.min_eq_right (by omega)]
set_option maxRecDepth 100000 in
set_option maxHeartbeats 2000000 in
theorem ddig_any (l : List UInt8) (w : World) (hs : l.length ≤ 140737488351232) : Calls Tryz.prog 54 #[.string (bs l)] w fun e w' => e = .returned (.tuple #[.int .i64 (digX l), .bool (digK l)]) ∧ w = w' := by
  obtain ⟨s, hs0⟩ : ∃ s, s = bs l := ⟨_, rfl⟩
  have hsz : s.size = l.length := by rw [hs0]; simp [bs, ByteArray.size]
  have HG : Hid (∀ k (h1 : k < s.size) (h2 : k < l.length), s[k] = l[k]) := Lib.hid (fun k h1 h2 => by subst hs0; rfl)
  rw [← hs0]
  have HSZ := Lib.hid hsz
  clear hs0 hsz
  obtain ⟨X, hX⟩ : ∃ X, X = digX l := ⟨_, rfl⟩
  obtain ⟨K, hK⟩ : ∃ K, K = digK l := ⟨_, rfl⟩
  rw [← hX, ← hK]
  have HX := Lib.hid hX
  have HK := Lib.hid hK
  clear hX hK
  go_enter Tryz.func54, Tryz.ntmps54
  go_wp2
  go_loopw [4, 5] (fun x i wr => wr = w ∧ ∃ k : Nat, k ≤ l.length ∧ i = .int .i64 (k : Int) ∧ x = .int .i64 (digV (l.take (min k 12))) ∧ Hid ((l.take k).all dgt = true)) (fun _ i _ => l.length - (intOf i).toNat)
  case atStart => exact ⟨rfl, 0, Nat.zero_le _, rfl, rfl, by simp [Hid]⟩
  case round =>
    obtain ⟨rfl, k, hk, rfl, rfl, HD⟩ := hrel
    have nb := digV_le (s := l.take (min k 12)) (fun c hc => List.all_eq_true.1 HD.out c (List.mem_of_mem_take (i := 12) (by rw [List.take_take, Nat.min_comm]; exact hc))) (by rw [List.length_take]; omega)
    obtain ⟨n1, n2⟩ := nb
    by_cases hlt : k < l.length
    · have i1 : (k : Int) < (s.size : Int) := by have := HSZ.out; omega
      have i2 : k < s.size := by have := HSZ.out; omega
      have i3 : (0 : Int) ≤ (k : Int) := by omega
      obtain ⟨c, hc⟩ : ∃ c, c = s[k] := ⟨_, rfl⟩
      have HCC : Hid (c = l[k]) := Lib.hid (by rw [hc]; exact HG.out k i2 hlt)
      have hcc : s[k] = c := hc.symm
      have cb := c.toNat_lt
      clear hc
      by_cases hd1 : c.toNat < 48
      · have hbd : l.all dgt = false := all_not hlt (by rw [← HCC.out]; unfold dgt; simp; omega)
        have HX2 : Hid (X = 0) := Lib.hid (by rw [HX.out]; unfold digX; rw [hbd]; rfl)
        have HK2 : Hid (K = false) := Lib.hid (by rw [HK.out]; unfold digK; rw [hbd]; rfl)
        clear hbd
        have d1 : decide ((c.toNat : Int) < 48) = true := by simp; omega
        go_wp2
        go_ret2
        exact ⟨by rw [HX2.out, HK2.out]; rfl, rfl⟩
      by_cases hd2 : 57 < c.toNat
      · have hbd : l.all dgt = false := all_not hlt (by rw [← HCC.out]; unfold dgt; simp; omega)
        have HX2 : Hid (X = 0) := Lib.hid (by rw [HX.out]; unfold digX; rw [hbd]; rfl)
        have HK2 : Hid (K = false) := Lib.hid (by rw [HK.out]; unfold digK; rw [hbd]; rfl)
        clear hbd
        have d1 : decide ((c.toNat : Int) < 48) = false := by simp; omega
        have d2 : decide ((57 : Int) < (c.toNat : Int)) = true := by simp; omega
        go_wp2
        go_ret2
        exact ⟨by rw [HX2.out, HK2.out]; rfl, rfl⟩
      have HD2 : Hid ((l.take (k + 1)).all dgt = true) := Lib.hid (by rw [List.take_succ_eq_append_getElem hlt, List.all_append, HD.out, ← HCC.out]; unfold dgt; simp; omega)
      have d1 : decide ((c.toNat : Int) < 48) = false := by simp; omega
      have d2 : decide ((57 : Int) < (c.toNat : Int)) = false := by simp; omega
      have v1 : (48 : Int) ≤ (c.toNat : Int) := by omega
      have v2 : (c.toNat : Int) ≤ 57 := by omega
      have w1 : IntKind.u8.wrap ((c.toNat : Int) - 48) = (c.toNat : Int) - 48 := by rw [IntKind.wrap_u8]; omega
      by_cases h12 : k < 12
      · have HS : Hid (digV (l.take (min (k + 1) 12)) = 10 * digV (l.take (min k 12)) + ((c.toNat : Int) - 48)) := Lib.hid (by rw [take_min hlt h12, HCC.out])
        obtain ⟨m, hm⟩ : ∃ m, m = digV (l.take (min k 12)) := ⟨_, rfl⟩
        rw [← hm] at HS n1 n2
        rw [← hm]
        clear hm
        have y1 : IntKind.i64.wrap (m * 10) = m * 10 := by rw [IntKind.wrap_i64]; omega
        have y2 : IntKind.i64.wrap (m * 10 + ((c.toNat : Int) - 48)) = m * 10 + ((c.toNat : Int) - 48) := by rw [IntKind.wrap_i64]; omega
        have e12 : decide ((k : Int) < 12) = true := by simp; omega
        go_wp2
        go_roundw
        case rel => exact ⟨(by first | rfl | trivial), k + 1, hlt, by go_num, by rw [HS.out]; congr 1; omega, HD2⟩
        case measure => simp [intOf]; omega
      · have HS : Hid (l.take (min (k + 1) 12) = l.take (min k 12)) := Lib.hid (take_min' h12)
        have e12 : decide ((k : Int) < 12) = false := by simp; omega
        go_wp2
        go_roundw
        case rel => exact ⟨(by first | rfl | trivial), k + 1, hlt, by go_num, by rw [HS.out], HD2⟩
        case measure => simp [intOf]; omega
    · obtain rfl : k = l.length := by omega
      have i1 : ¬ ((l.length : Int) < (s.size : Int)) := by have := HSZ.out; omega
      have hall : l.all dgt = true := by have := HD.out; rwa [List.take_length] at this
      have HX2 : Hid (X = digV (l.take (min l.length 12))) := Lib.hid (by rw [HX.out]; unfold digX; rw [hall, if_pos rfl]; congr 1; rw [Nat.min_comm, ← List.take_take, List.take_length])
      have HK2 : Hid (K = (decide (1 ≤ l.length) && decide (l.length ≤ 12))) := Lib.hid (by rw [HK.out]; unfold digK; rw [hall, Bool.true_and])
      clear hall
      by_cases g1 : 1 ≤ l.length
      · have e1 : decide ((1 : Int) ≤ (s.size : Int)) = true := by have := HSZ.out; simp; omega
        by_cases g2 : l.length ≤ 12
        · have e2 : decide ((s.size : Int) ≤ 12) = true := by have := HSZ.out; simp; omega
          have HK3 : Hid (K = true) := Lib.hid (by rw [HK2.out, decide_eq_true g1, decide_eq_true g2]; rfl)
          go_wp2
          go_ret2
          exact ⟨by first | (rw [HX2.out, HK3.out]; rfl) | (rw [HX2.out, HK3.out, Nat.min_eq_left g2, List.take_length]; rfl), rfl⟩
        · have e2 : decide ((s.size : Int) ≤ 12) = false := by have := HSZ.out; simp; omega
          have HK3 : Hid (K = false) := Lib.hid (by rw [HK2.out, decide_eq_false g2, Bool.and_false])
          go_wp2
          go_ret2
          exact ⟨by first | (rw [HX2.out, HK3.out]; rfl) | (rw [HX2.out, HK3.out, Nat.min_eq_left g2, List.take_length]; rfl), rfl⟩
      · have e1 : decide ((1 : Int) ≤ (s.size : Int)) = false := by have := HSZ.out; simp; omega
        have HK3 : Hid (K = false) := Lib.hid (by rw [HK2.out, decide_eq_false g1]; rfl)
        go_wp2
        go_ret2
        exact ⟨by first | (rw [HX2.out, HK3.out]; rfl) | (rw [HX2.out, HK3.out, Nat.min_eq_left g2, List.take_length]; rfl), rfl⟩
/-- a word that may be read -/
def lenB (m : Nat) (l : List UInt8) : Bool := decide (l.length = 0) || decide (m < l.length)
set_option maxRecDepth 100000 in
set_option maxHeartbeats 2000000 in
theorem dvalue_any {base b : Nat} {s : ByteArray} {k : Nat} {n : Int} {v : Value} {L : List Nd} {bd : Bool} {e a : Int} {w : World} (h : Dp base w b s k v L bd e a n) (hk : k ≤ s.size) : Calls Tryz.prog 119 #[ptr b] w fun r w' => r = .returned (.string (bs (runW (blk (rest s k))))) ∧ Dq base w' b s (skip s k + (runW (blk (rest s k))).length) v L (bd || lenB 32 (runW (blk (rest s k)))) n ∧ Onb b w w' := by
  have HBL := Lib.hid (dblanks_any base b s k n v L bd e a w h hk)
  obtain ⟨-, hj2, hj3, -, -⟩ := skip_is hk
  obtain ⟨j, hj⟩ : ∃ j, j = skip s k := ⟨_, rfl⟩
  rw [hj3]
  rw [← hj] at hj2 HBL ⊢
  have HJK := Lib.hid hj2
  have hsz := h.sz
  obtain ⟨t, ht⟩ : ∃ t, t = runW (rest s j) := ⟨_, rfl⟩
  obtain ⟨l, hl⟩ : ∃ l, l = t.length := ⟨_, rfl⟩
  have HT : Hid (runW (rest s j) = t) := Lib.hid ht.symm
  have HTL : Hid (t.length = l) := Lib.hid hl.symm
  rw [← ht]
  have htl : j + l ≤ s.size := by rw [hl, ht]; exact (runW_spec hj2).1
  have htz : ((bs t).size : Int) = (l : Int) := by rw [hl]; simp [bs, ByteArray.size]
  clear h hk hj hj3 hl ht
  go_enter Tryz.func119, Tryz.ntmps119
  go_upto_region 2 with (go_at_call 63; refine HBL.out.mono ?_; rintro r w2 ⟨rfl, hq, ho⟩; have H2 := Lib.hid hq; have HO2 := Lib.hid ho; clear hq ho)
  have c1 := H2.out.blk.cell (j := 1) rfl
  go_upto_region 4 with (go_at_call 126; refine (drun_any H2.out HJK.out).mono ?_; rw [HT.out, HTL.out]; rintro r w3 ⟨rfl, hq, ho⟩; have H3 := Lib.hid hq; have HO3 : Hid (Onb b w w3) := Lib.hid (HO2.out.then ho); clear hq ho)
  clear c1 HBL H2 HO2
  by_cases g1 : l = 0
  · have e1 : ((l : Int) == 0) = true := by simp; omega
    have e2 : decide ((32 : Int) < (l : Int)) = false := by simp; omega
    have HB : Hid (lenB 32 t = true) := Lib.hid (by unfold lenB; rw [HTL.out, decide_eq_true g1]; rfl)
    go_wp2_with (go_at_call 44; refine (dfail_any H3.out 5 _ (by decide)).mono ?_; rintro r w4 ⟨rfl, hq, ho⟩; have HQ4 := Lib.hid hq; have HO4 : Hid (Onb b w w4) := Lib.hid (HO3.out.then ho); clear hq ho)
    go_ret
    exact ⟨rfl, (by have h9 := HQ4.out; rw [HTL.out, HB.out, Bool.or_true]; exact h9), HO4.out⟩
  have e1 : ((l : Int) == 0) = false := by simp; omega
  by_cases g2 : 32 < l
  · have e2 : decide ((32 : Int) < (l : Int)) = true := by simp; omega
    have HB : Hid (lenB 32 t = true) := Lib.hid (by unfold lenB; rw [HTL.out, decide_eq_true g2, Bool.or_true])
    go_wp2_with (go_at_call 44; refine (dfail_any H3.out 5 _ (by decide)).mono ?_; rintro r w4 ⟨rfl, hq, ho⟩; have HQ4 := Lib.hid hq; have HO4 : Hid (Onb b w w4) := Lib.hid (HO3.out.then ho); clear hq ho)
    go_ret
    exact ⟨rfl, (by have h9 := HQ4.out; rw [HTL.out, HB.out, Bool.or_true]; exact h9), HO4.out⟩
  have e2 : decide ((32 : Int) < (l : Int)) = false := by simp; omega
  have HB : Hid (lenB 32 t = false) := Lib.hid (by unfold lenB; rw [HTL.out, decide_eq_false g1, decide_eq_false g2]; rfl)
  go_wp2
  go_ret
  exact ⟨rfl, (by have h9 : Dq base w3 b s (j + l) v L bd n := ⟨_, _, H3.out⟩; rw [HTL.out, HB.out, Bool.or_false]; exact h9), HO3.out⟩
/-- digits that may not be read -/
def numB (l : List UInt8) : Bool := !(digK l)
set_option maxRecDepth 100000 in
set_option maxHeartbeats 2000000 in
theorem dnumber_any {base b : Nat} {s : ByteArray} {k : Nat} {n : Int} {v : Value} {L : List Nd} {bd : Bool} {e a : Int} {w : World} (h : Dp base w b s k v L bd e a n) (hk : k ≤ s.size) : Calls Tryz.prog 120 #[ptr b] w fun r w' => (∃ x : Int, r = .returned (.int .i64 x) ∧ (numB (runW (blk (rest s k))) = false → x = digV (runW (blk (rest s k))))) ∧ Dq base w' b s (skip s k + (runW (blk (rest s k))).length) v L (bd || numB (runW (blk (rest s k)))) n ∧ Onb b w w' := by
  have HBL := Lib.hid (dblanks_any base b s k n v L bd e a w h hk)
  obtain ⟨-, hj2, hj3, -, -⟩ := skip_is hk
  obtain ⟨j, hj⟩ : ∃ j, j = skip s k := ⟨_, rfl⟩
  rw [hj3]
  rw [← hj] at hj2 HBL ⊢
  have HJK := Lib.hid hj2
  have hsz := h.sz
  obtain ⟨t, ht⟩ : ∃ t, t = runW (rest s j) := ⟨_, rfl⟩
  obtain ⟨l, hl⟩ : ∃ l, l = t.length := ⟨_, rfl⟩
  have HT : Hid (runW (rest s j) = t) := Lib.hid ht.symm
  have HTL : Hid (t.length = l) := Lib.hid hl.symm
  rw [← ht]
  have htl : j + l ≤ s.size := by rw [hl, ht]; exact (runW_spec hj2).1
  have htz : ((bs t).size : Int) = (l : Int) := by rw [hl]; simp [bs, ByteArray.size]
  clear h hk hj hj3 hl ht
  have HDG : Hid (∀ w, Calls Tryz.prog 54 #[.string (bs t)] w fun e w' => e = .returned (.tuple #[.int .i64 (digX t), .bool (digK t)]) ∧ w = w') := Lib.hid (fun w => ddig_any t w (by have := HTL.out; omega))
  obtain ⟨X, hX⟩ : ∃ X, X = digX t := ⟨_, rfl⟩
  obtain ⟨B, hB⟩ : ∃ B, B = digK t := ⟨_, rfl⟩
  rw [← hX, ← hB] at HDG
  have HX := Lib.hid hX
  have HB := Lib.hid hB
  clear hX hB
  obtain ⟨tb, htb⟩ : ∃ tb, tb = bs t := ⟨_, rfl⟩
  have HTB : Hid (bs t = tb) := Lib.hid htb.symm
  have HG : Hid (∀ i (h1 : i < tb.size) (h2 : i < t.length), tb[i] = t[i]) := Lib.hid (fun i h1 h2 => by subst htb; rfl)
  rw [← htb] at HDG htz
  clear htb
  go_enter Tryz.func120, Tryz.ntmps120
  go_upto_region 2 with (go_at_call 63; refine HBL.out.mono ?_; rintro r w2 ⟨rfl, hq, ho⟩; have H2 := Lib.hid hq; have HO2 := Lib.hid ho; clear hq ho)
  have c1 := H2.out.blk.cell (j := 1) rfl
  go_upto_region 5 with (go_at_call 126; refine (drun_any H2.out HJK.out).mono ?_; rw [HT.out, HTL.out, HTB.out]; rintro r w3 ⟨rfl, hq, ho⟩; have H3 := Lib.hid hq; have HO3 : Hid (Onb b w w3) := Lib.hid (HO2.out.then ho); clear hq ho)
  clear c1 HBL H2 HO2
  go_loopw [5] (fun i wr => wr = w3 ∧ ∃ k : Nat, k ≤ l ∧ k ≤ 12 ∧ i = .int .i64 (k : Int) ∧ Hid ((t.take k).all dgt = true)) (fun i _ => l - (intOf i).toNat)
  case atStart => exact ⟨rfl, 0, Nat.zero_le _, Nat.zero_le _, rfl, by simp [Hid]⟩
  case round =>
    obtain ⟨rfl, i, hi, hi12, rfl, HD⟩ := hrel
    by_cases hlt : i < l
    · have i2 : i < tb.size := by omega
      have i1 : (i : Int) < (l : Int) := by omega
      have i3 : (0 : Int) ≤ (i : Int) := by omega
      have i4 : i < t.length := by have := HTL.out; omega
      obtain ⟨c, hc⟩ : ∃ c, c = tb[i] := ⟨_, rfl⟩
      have HCC : Hid (c = t[i]) := Lib.hid (by rw [hc]; exact HG.out i i2 i4)
      have HI4 := Lib.hid i4
      have hcc : tb[i] = c := hc.symm
      have cb := c.toNat_lt
      have u1 : IntKind.i64.wrap ((j : Int) + (i : Int)) = (j : Int) + (i : Int) := by rw [IntKind.wrap_i64]; omega
      clear hc
      by_cases hd1 : c.toNat < 48
      · have HNB : Hid (numB t = true) := Lib.hid (by unfold numB digK; rw [all_not HI4.out (by rw [← HCC.out]; unfold dgt; simp; omega)]; rfl)
        have d1 : decide ((c.toNat : Int) < 48) = true := by simp; omega
        go_wp2_with (go_at_call 44; refine (dfail_any H3.out 5 _ (by decide)).mono ?_; rintro r w4 ⟨rfl, hq, ho⟩; have HQ4 := Lib.hid hq; have HO4 : Hid (Onb b w w4) := Lib.hid (HO3.out.then ho); clear hq ho)
        go_ret
        exact ⟨⟨_, rfl, fun h9 => by rw [HNB.out] at h9; cases h9⟩, (by have h9 := HQ4.out; rw [HTL.out, HNB.out, Bool.or_true]; exact h9), HO4.out⟩
      by_cases hd2 : 57 < c.toNat
      · have HNB : Hid (numB t = true) := Lib.hid (by unfold numB digK; rw [all_not HI4.out (by rw [← HCC.out]; unfold dgt; simp; omega)]; rfl)
        have d1 : decide ((c.toNat : Int) < 48) = false := by simp; omega
        have d2 : decide ((57 : Int) < (c.toNat : Int)) = true := by simp; omega
        go_wp2_with (go_at_call 44; refine (dfail_any H3.out 5 _ (by decide)).mono ?_; rintro r w4 ⟨rfl, hq, ho⟩; have HQ4 := Lib.hid hq; have HO4 : Hid (Onb b w w4) := Lib.hid (HO3.out.then ho); clear hq ho)
        go_ret
        exact ⟨⟨_, rfl, fun h9 => by rw [HNB.out] at h9; cases h9⟩, (by have h9 := HQ4.out; rw [HTL.out, HNB.out, Bool.or_true]; exact h9), HO4.out⟩
      have HD2 : Hid ((t.take (i + 1)).all dgt = true) := Lib.hid (by rw [List.take_succ_eq_append_getElem HI4.out, List.all_append, HD.out, ← HCC.out]; unfold dgt; simp; omega)
      have d1 : decide ((c.toNat : Int) < 48) = false := by simp; omega
      have d2 : decide ((57 : Int) < (c.toNat : Int)) = false := by simp; omega
      by_cases h12 : 12 ≤ i
      · have HNB : Hid (numB t = true) := Lib.hid (by unfold numB digK; rw [decide_eq_false (p := t.length ≤ 12) (by have := HI4.out; omega)]; simp)
        have e12 : decide ((12 : Int) ≤ (i : Int)) = true := by simp; omega
        go_wp2_with (go_at_call 44; refine (dfail_any H3.out 5 _ (by decide)).mono ?_; rintro r w4 ⟨rfl, hq, ho⟩; have HQ4 := Lib.hid hq; have HO4 : Hid (Onb b w w4) := Lib.hid (HO3.out.then ho); clear hq ho)
        go_ret
        exact ⟨⟨_, rfl, fun h9 => by rw [HNB.out] at h9; cases h9⟩, (by have h9 := HQ4.out; rw [HTL.out, HNB.out, Bool.or_true]; exact h9), HO4.out⟩
      have e12 : decide ((12 : Int) ≤ (i : Int)) = false := by simp; omega
      go_wp2
      go_roundw
      case rel => exact ⟨(by first | rfl | trivial), i + 1, hlt, by omega, by go_num, HD2⟩
      case measure => simp [intOf]; omega
    · obtain rfl : l = i := by omega
      have i1 : ¬ ((l : Int) < (l : Int)) := by omega
      have hall : t.all dgt = true := by have := HD.out; rw [← HTL.out, List.take_length] at this; exact this
      have hk0 : digK t = decide (1 ≤ l) := by unfold digK; rw [hall, HTL.out, decide_eq_true (p := l ≤ 12) hi12]; simp
      have HXV : Hid (X = digV t) := Lib.hid (by rw [HX.out]; unfold digX; rw [hall, if_pos rfl, List.take_of_length_le (by have := HTL.out; omega)])
      clear hall
      by_cases g1 : l = 0
      · have e1 : ((l : Int) == 0) = true := by simp; omega
        have HNB : Hid (numB t = true) := Lib.hid (by unfold numB; rw [hk0, decide_eq_false (by omega)]; rfl)
        clear hk0
        go_wp2_with (first | (go_at_call 44; refine (dfail_any H3.out 5 _ (by decide)).mono ?_; rintro r w4 ⟨rfl, hq, ho⟩; have HQ4 := Lib.hid hq; have HO4 : Hid (Onb b w w4) := Lib.hid (HO3.out.then ho); clear hq ho) | (go_at_call 54; refine (HDG.out _).mono ?_; rintro e9 w9 ⟨rfl, rfl⟩))
        go_ret
        exact ⟨⟨_, rfl, fun h9 => by rw [HNB.out] at h9; cases h9⟩, (by have h9 := HQ4.out; rw [HTL.out, HNB.out, Bool.or_true]; exact h9), HO4.out⟩
      · have e1 : ((l : Int) == 0) = false := by simp; omega
        have HNB : Hid (numB t = false) := Lib.hid (by unfold numB; rw [hk0, decide_eq_true (by omega)]; rfl)
        clear hk0
        go_wp2_with (go_at_call 54; refine (HDG.out _).mono ?_; rintro e9 w9 ⟨rfl, rfl⟩)
        go_ret
        exact ⟨⟨_, rfl, fun _ => HXV.out⟩, (by have h9 : Dq base wr b s (j + l) v L bd n := ⟨_, _, H3.out⟩; rw [HTL.out, HNB.out, Bool.or_false]; exact h9), HO3.out⟩
end Go.Proofs.YtdnoceancoclmaaGreatDoor.Ru

namespace Go.Proofs.YtdnoceancoclmaaGreatDoor.Ru
open Go.RowKit Go.Proofs.YtdnoceancoclmaaGreatDoor

/-- behind a node that was put in -/
def DodS (base : Nat) (w w' : World) (b : Nat) (s : ByteArray) (k : Nat) (e a n : Int) (v : Value) (L : List Nd) : Prop :=
  ∃ v', Dp base w' b s k v' L false e a n ∧ Frp (fun j => j = b ∨ v.ownBlock = some j) w w'
theorem DodS.below {base : Nat} {w w' : World} {b : Nat} {s : ByteArray} {k : Nat} {n e a : Int} {v : Value} {L L0 : List Nd} {bd : Bool} (h : DodS base w w' b s k e a n v L) (h0 : Dp base w b s k v L0 bd e a n) (hb : base ≤ w.heap.size) : Below base w w' := by
  obtain ⟨v', h6, h7⟩ := h
  exact h7.below (fun q hq => by rcases hq with rfl | hq; exact h0.hb; exact own_lo h0.own hq) hb
set_option maxRecDepth 100000 in
set_option maxHeartbeats 1000000 in
theorem dadd_bad {base b : Nat} {s : ByteArray} {k : Nat} {n : Int} {v : Value} {L : List Nd} {e a : Int} {w : World} (h : Dp base w b s k v L true e a n) (x : Nd) :
    Calls Tryz.prog 62 #[ptr b, ndV x] w fun r w' => (∃ j : Int, r = .returned (.int .i64 j)) ∧ Dp base w' b s k v L true e a n ∧ Onb b w w' := by
  obtain ⟨w1, hw1⟩ : ∃ w1, w1 = w.alloc (.cells #[.int .i64 x.k, .string (bs x.nm), .string (bs x.vl), .int .i64 x.x, .int .i64 x.a, .int .i64 x.b] 52) := ⟨_, rfl⟩
  obtain ⟨B, hB⟩ : ∃ B, B = w.heap.size := ⟨_, rfl⟩
  have hbl : Below w.heap.size w w1 := by rw [hw1]; exact below_alloc w _
  have H1 := Lib.hid (h.kept hbl)
  have HO1 : Hid (Onb b w w1) := Lib.hid (Frp.of_below hbl _)
  have c5 := H1.out.blk.cell (j := 5) rfl
  have c2 := H1.out.blk.cell (j := 2) rfl
  obtain ⟨p4, q4, hv4, -, hm4⟩ := own_slice H1.out.own
  have hl2 : (L.length : Int) ≤ 1000 := by have := H1.out.ln; omega
  rw [hv4] at H1 c2 ⊢
  have u1 : IntKind.i64.wrap ((L.length : Int) - 1) = (L.length : Int) - 1 := by rw [IntKind.wrap_i64]; omega
  clear h hbl hv4
  go_enter Tryz.func62, Tryz.ntmps62
  go_upto_region 1 with fail
  rw [← hw1, ← hB]
  clear hw1 hB
  go_wp2
  go_ret
  exact ⟨⟨_, rfl⟩, H1.out, HO1.out⟩

set_option maxRecDepth 100000 in
set_option maxHeartbeats 2000000 in
theorem dadd_ok {base b : Nat} {s : ByteArray} {k : Nat} {n : Int} {v : Value} {L : List Nd} {e a : Int} {w : World} (h : Dp base w b s k v L false e a n) (x : Nd) (hl : L.length < 1000) (hbase : base ≤ w.heap.size) :
    Calls Tryz.prog 62 #[ptr b, ndV x] w fun r w' => r = .returned (.int .i64 (L.length : Int)) ∧ DodS base w w' b s k e a n v (L ++ [x]) := by
  obtain ⟨ix, hi, hz0, hz1, hz2⟩ := info_parts info_nd
  obtain ⟨w1, hw1⟩ : ∃ w1, w1 = w.alloc (.cells #[.int .i64 x.k, .string (bs x.nm), .string (bs x.vl), .int .i64 x.x, .int .i64 x.a, .int .i64 x.b] 52) := ⟨_, rfl⟩
  obtain ⟨B, hB⟩ : ∃ B, B = w.heap.size := ⟨_, rfl⟩
  have hbl : Below w.heap.size w w1 := by rw [hw1]; exact below_alloc w _
  have X1 : Hid (Blk w1 B (ndC x) 52) := Lib.hid (by rw [hw1, hB]; exact Blk.made w (ndC x) _)
  have H1 := Lib.hid (h.kept hbl)
  have HBL := Lib.hid hbl
  have HVB : Hid (∀ q, v.ownBlock = some q → q < B) := Lib.hid (fun q hq => by rw [hB]; exact own_hi h.own hq)
  have HB0 : Hid (b < B) := Lib.hid (by rw [hB]; exact h.blk.lt)
  have HBW : Hid (B = w.heap.size) := Lib.hid hB
  have HBS := Lib.hid hbase
  have HL := Lib.hid hl
  have c5 := H1.out.blk.cell (j := 5) rfl
  have HSS : Hid (∀ w', Below w1.heap.size w1 w' → w'.cell? ⟨b, 2, none⟩ = some v ∧ w'.cell? ⟨B, 0, none⟩ = some (.int .i64 x.k) ∧ w'.cell? ⟨B, 1, none⟩ = some (.string (bs x.nm)) ∧ w'.cell? ⟨B, 2, none⟩ = some (.string (bs x.vl)) ∧ w'.cell? ⟨B, 3, none⟩ = some (.int .i64 x.x) ∧ w'.cell? ⟨B, 4, none⟩ = some (.int .i64 x.a) ∧ w'.cell? ⟨B, 5, none⟩ = some (.int .i64 x.b)) := Lib.hid (fun w' hb => ⟨(H1.out.kept hb).blk.cell (j := 2) rfl, (X1.out.kept hb).cell (j := 0) rfl, (X1.out.kept hb).cell (j := 1) rfl, (X1.out.kept hb).cell (j := 2) rfl, (X1.out.kept hb).cell (j := 3) rfl, (X1.out.kept hb).cell (j := 4) rfl, (X1.out.kept hb).cell (j := 5) rfl⟩)
  clear h hbl hl hbase
  go_enter Tryz.func62, Tryz.ntmps62
  go_upto_region 1 with fail
  rw [← hw1, ← hB]
  clear hw1 hB
  go_upto_region 2 with fail
  clear c5
  refine wp_region_noPanic ?_
  refine wp_region_lastH (fun w' => w'.cell? ⟨b, 2, none⟩ = some v ∧ w'.cell? ⟨B, 0, none⟩ = some (.int .i64 x.k) ∧ w'.cell? ⟨B, 1, none⟩ = some (.string (bs x.nm)) ∧ w'.cell? ⟨B, 2, none⟩ = some (.string (bs x.vl)) ∧ w'.cell? ⟨B, 3, none⟩ = some (.int .i64 x.x) ∧ w'.cell? ⟨B, 4, none⟩ = some (.int .i64 x.a) ∧ w'.cell? ⟨B, 5, none⟩ = some (.int .i64 x.b)) 10 rfl rfl (by kernel_rfl) (by kernel_rfl) (HSS.out _ (below_drewN 1)) (fun hHeld => ?_)
  have HB2 : Hid (Below w1.heap.size w1 w1.drew) := Lib.hid (below_drewN 1)
  obtain ⟨w2, hw2⟩ : ∃ xq, xq = w1.drew := ⟨_, rfl⟩
  rw [← hw2] at hHeld HB2 ⊢
  clear hw2
  refine wpAnyH_take (i := 0) (v := ?v1) rfl (by kernel_rfl) (by kernel_rfl) (by kernel_rfl) (fun _ _ _ h => h) (Or.inl ⟨by rfl, ?hy1⟩) (by assumption) ?rest1
  case hy1 => (intro _ hSw; (try dsimp only at hSw); go_simp; (try with_reducible rfl))
  (try simp only [Act.put]); (try simp only [List.setIfInBounds_toArray]); (try simp only [List.set_cons_succ]); (try simp only [List.set_cons_zero])
  refine wpAnyH_take (i := 1) (v := ?v2) rfl (by kernel_rfl) (by kernel_rfl) (by kernel_rfl) (fun _ _ _ h => h) (Or.inl ⟨by rfl, ?hy2⟩) (by assumption) ?rest2
  case hy2 => (intro _ hSw; (try dsimp only at hSw); go_simp; (try with_reducible rfl))
  (try simp only [Act.put]); (try simp only [List.setIfInBounds_toArray]); (try simp only [List.set_cons_succ]); (try simp only [List.set_cons_zero])
  refine wpAnyH_take (i := 2) (v := ?v3) rfl (by kernel_rfl) (by kernel_rfl) (by kernel_rfl) (fun _ _ _ h => h) (Or.inl ⟨by rfl, ?hy3⟩) (by assumption) ?rest3
  case hy3 => (intro _ hSw; (try dsimp only at hSw); go_simp; (try with_reducible rfl))
  (try simp only [Act.put]); (try simp only [List.setIfInBounds_toArray]); (try simp only [List.set_cons_succ]); (try simp only [List.set_cons_zero])
  refine wpAnyH_take (i := 3) (v := ?v4) rfl (by kernel_rfl) (by kernel_rfl) (by kernel_rfl) (fun _ _ _ h => h) (Or.inl ⟨by rfl, ?hy4⟩) (by assumption) ?rest4
  case hy4 => (intro _ hSw; (try dsimp only at hSw); go_simp; (try with_reducible rfl))
  (try simp only [Act.put]); (try simp only [List.setIfInBounds_toArray]); (try simp only [List.set_cons_succ]); (try simp only [List.set_cons_zero])
  refine wpAnyH_take (i := 4) (v := ?v5) rfl (by kernel_rfl) (by kernel_rfl) (by kernel_rfl) (fun _ _ _ h => h) (Or.inl ⟨by rfl, ?hy5⟩) (by assumption) ?rest5
  case hy5 => (intro _ hSw; (try dsimp only at hSw); go_simp; (try with_reducible rfl))
  (try simp only [Act.put]); (try simp only [List.setIfInBounds_toArray]); (try simp only [List.set_cons_succ]); (try simp only [List.set_cons_zero])
  refine wpAnyH_take (i := 5) (v := ?v6) rfl (by kernel_rfl) (by kernel_rfl) (by kernel_rfl) (fun _ _ _ h => h) (Or.inl ⟨by rfl, ?hy6⟩) (by assumption) ?rest6
  case hy6 => (intro _ hSw; (try dsimp only at hSw); go_simp; (try with_reducible rfl))
  (try simp only [Act.put]); (try simp only [List.setIfInBounds_toArray]); (try simp only [List.set_cons_succ]); (try simp only [List.set_cons_zero])
  (try simp only [List.getElem_toArray]); (try simp only [List.getElem_cons_succ]); (try simp only [List.getElem_cons_zero]); (try simp only [List.setIfInBounds_toArray]); (try simp only [List.set_cons_succ, List.set_cons_zero])
  refine wpAnyH_ready (rs := [6]) (by kernel_rfl) (by simp) ?_
  refine (AllReadyH.cons rfl (fun K hK => ?_) AllReadyH.nil)
  (try simp only [List.getElem_toArray]); (try simp only [List.getElem_cons_succ]); (try simp only [List.getElem_cons_zero])
  go_simp
  obtain ⟨w3, hw3⟩ : ∃ xq, xq = w2.alloc (.cells #[.int .i64 x.k, .string (bs x.nm), .string (bs x.vl), .int .i64 x.x, .int .i64 x.a, .int .i64 x.b] 52) := ⟨_, rfl⟩
  obtain ⟨z3, hz3⟩ : ∃ xq, xq = w2.heap.size := ⟨_, rfl⟩
  have hb3 : Below w1.heap.size w1 w3 := by rw [hw3]; exact below_and HB2.out (below_alloc _ _)
  have HY3 : Hid (Blk w3 z3 (ndC x) 52) := Lib.hid (by rw [hw3, hz3]; exact Blk.made w2 (ndC x) _)
  have HB3 := Lib.hid hb3
  rw [← hw3, ← hz3]
  refine hK.out _ _ (HSS.out _ hb3) (fun hS3 => ?_)
  clear hK K hb3 hw3 hz3
  (try simp only [Act.put]); (try simp only [List.setIfInBounds_toArray]); (try simp only [List.set_cons_succ]); (try simp only [List.set_cons_zero])
  have HO3 := Lib.hid (H1.out.kept HB3.out).own
  have HW3 : Hid (base ≤ w3.heap.size) := Lib.hid (by have h1 := HBS.out; have h2 := HBL.out.size; have h3 := HB3.out.size; omega)
  refine wpAnyH_ready (rs := [7]) (by kernel_rfl) (by simp) ?_
  refine (AllReadyH.cons rfl (fun K hK => ?_) AllReadyH.nil)
  refine step_app rfl (.tmp 14) (.tmp 16) 22 22 rfl base 52 ix (.agg #[.int .i64 0, .string ⟨#[]⟩, .string ⟨#[]⟩, .int .i64 0, .int .i64 0, .int .i64 0]) 6 64 Tryz.underlying22 hi hz0 hz1 hz2 rfl v L.length (rwC ndC L) (by rfl) HO3.out (.slice (some ⟨z3, 0, none⟩) 1 1) 1 (ndC x) (by rfl) (src_block Tryz.underlying22 _ z3 (ndC x).toArray HY3.out rfl (ndC_one x)) (by have := HL.out; unfold maxLen; omega) (by have := HL.out; omega) HW3.out ?_
  intro v4 w4 ho4 hg4 hn4 hk4
  have HO4 : Hid (w4.ownsRow base 52 6 v4 (L ++ [x]).length (rwC ndC (L ++ [x]))) := Lib.hid (by rw [rwC_snoc, List.length_append]; exact ho4)
  have HF4 : Hid (Frp (fun j => v.ownBlock = some j) w1 w4) := Lib.hid ((Frp.of_below HB3.out _).grown hg4 (fun q hq => .inl hq))
  have HP4 : Hid (Blk w4 b [.string s, .int .i64 (k : Int), v, .int .i64 e, .int .i64 a, .bool false, .int .i64 n] 72) := Lib.hid (H1.out.blk.frp HF4.out H1.out.nb)
  have HX4 : Hid (Blk w4 B (ndC x) 52) := Lib.hid (X1.out.frp HF4.out (fun hq => by have := HVB.out _ hq; omega))
  refine hK.out _ _ ⟨HP4.out.cell (j := 2) rfl, HX4.out.cell (j := 0) rfl, HX4.out.cell (j := 1) rfl, HX4.out.cell (j := 2) rfl, HX4.out.cell (j := 3) rfl, HX4.out.cell (j := 4) rfl, HX4.out.cell (j := 5) rfl⟩ (fun hS4 => ?_)
  clear hK K ho4 hg4 hn4 hk4
  (try simp only [Act.put]); (try simp only [List.setIfInBounds_toArray]); (try simp only [List.set_cons_succ]); (try simp only [List.set_cons_zero])
  refine wpAnyH_take (i := 8) (v := ?v7) rfl (by kernel_rfl) (by kernel_rfl) (by kernel_rfl) (fun _ _ _ h => h) (Or.inl ⟨by rfl, ?hy7⟩) (by assumption) ?rest7
  case hy7 => (intro _ hSw; (try dsimp only at hSw); go_simp; (try with_reducible rfl))
  (try simp only [Act.put]); (try simp only [List.setIfInBounds_toArray]); (try simp only [List.set_cons_succ]); (try simp only [List.set_cons_zero])
  refine wpAnyH_take (i := 9) (v := ?v8) rfl (by kernel_rfl) (by kernel_rfl) (by kernel_rfl) (fun _ _ _ h => h) (Or.inl ⟨by rfl, ?hy8⟩) (by assumption) ?rest8
  case hy8 => (intro _ hSw; (try dsimp only at hSw); go_simp; (try with_reducible rfl))
  (try simp only [Act.put]); (try simp only [List.setIfInBounds_toArray]); (try simp only [List.set_cons_succ]); (try simp only [List.set_cons_zero])
  refine wpAnyH_done (by kernel_rfl) ?_ _
  refine LastQ.start rfl ?_
  clear hHeld hS3 hS4
  have hne : v4.ownBlock ≠ some b := own_ty HO4.out HP4.out (by decide)
  have HNE := Lib.hid hne
  clear hne
  obtain ⟨p4, q4, hv4, -, hm4⟩ := own_slice HO4.out
  have HPR : Hid (Dp base (w4.setCell ⟨b, 2, none⟩ v4) b s k v4 (L ++ [x]) false e a n) := Lib.hid ⟨HP4.out.set 2 v4, own_other HO4.out (p := ⟨b, 2, none⟩) HNE.out _, H1.out.hb, H1.out.sz, H1.out.er, by have := HL.out; rw [List.length_append]; simp only [List.length_cons, List.length_nil]; omega⟩
  have HFF : Hid (Frp (fun j => j = b ∨ v.ownBlock = some j) w (w4.setCell ⟨b, 2, none⟩ v4)) := Lib.hid (((Frp.of_below HBL.out _).then (HF4.out.mono (fun q hq => .inr hq))).set (p := ⟨b, 2, none⟩) (.inl rfl) v4)
  have d4 := HP4.out.cell (j := 2) rfl
  have f4 := HP4.out.free 2
  have hlen : (L ++ [x]).length = L.length + 1 := by simp
  rw [hlen] at hv4
  have hl2 : (L.length : Int) ≤ 1000 := by have := HL.out; omega
  rw [hv4] at HPR HFF HNE ⊢
  have hml : maxLen ≤ 9223372036854775807 := by decide
  clear hv4 HO4 hlen
  go_wp2
  refine NoPanic.normal ?_
  have c4 := HPR.out.blk.cell (j := 2) rfl
  have u1 : IntKind.i64.wrap ((L.length : Int) + 1 - 1) = (L.length : Int) := by rw [IntKind.wrap_i64]; omega
  go_wp2
  go_ret
  exact ⟨by simp, _, HPR.out, HFF.out⟩
end Go.Proofs.YtdnoceancoclmaaGreatDoor.Ru
