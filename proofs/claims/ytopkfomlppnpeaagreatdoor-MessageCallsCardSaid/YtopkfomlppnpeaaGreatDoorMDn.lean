/- , laid together: MsDName, MsDNum, MsDPars, MsDTask. -/
import Derived.Test.YtopkfomlppnpeaaGreatDoorMTk
import Derived.Test.YtopkfomlppnpeaaGreatDoorMCmp
namespace Go.Proofs.YtopkfomlppnpeaaGreatDoor.Ms
open Go.RowKit Go.Proofs.YtopkfomlppnpeaaGreatDoor

set_option maxRecDepth 100000 in
set_option maxHeartbeats 2000000 in
theorem rname_any (s : ByteArray) (w : World) (hs : s.size ≤ 140737488351232) : Calls Tryz.prog 162 #[.string s, .int .i64 16] w fun e w' => e = .returned (.bool (specB s.data.toList)) ∧ w = w' := by
  obtain ⟨l, hl⟩ : ∃ l, l = s.data.toList := ⟨_, rfl⟩
  have hsz : s.size = l.length := by rw [hl]; simp
  have HG : Hid (∀ k (h1 : k < s.size) (h2 : k < l.length), s[k] = l[k]) := Lib.hid (fun k h1 h2 => by subst hl; rfl)
  rw [← hl]
  by_cases h0 : s.size < 1
  · have HR : Hid (specB l = false) := Lib.hid (by unfold specB; rw [decide_eq_false (by omega)]; rfl)
    have e0 : decide ((s.size : Int) < 1) = true := by simp; omega
    clear hl hsz HG
    go_enter Tryz.func162, Tryz.ntmps162
    go_wp2
    go_ret
    exact ⟨ret_bool HR.out.symm, rfl⟩
  have e0 : decide ((s.size : Int) < 1) = false := by simp; omega
  by_cases h1 : 16 < s.size
  · have HR : Hid (specB l = false) := Lib.hid (by unfold specB; rw [decide_eq_false (by omega)]; rfl)
    have e1 : decide ((16 : Int) < (s.size : Int)) = true := by simp; omega
    clear hl hsz HG
    go_enter Tryz.func162, Tryz.ntmps162
    go_wp2
    go_ret
    exact ⟨ret_bool HR.out.symm, rfl⟩
  have e1 : decide ((16 : Int) < (s.size : Int)) = false := by simp; omega
  have i0 : 0 < s.size := by omega
  have i5 : (0 : Int) < (s.size : Int) := by omega
  obtain ⟨c0, hc0⟩ : ∃ c0, c0 = s[0] := ⟨_, rfl⟩
  have HC0 : Hid (hd lo l = lo c0) := Lib.hid (by
    rw [hc0, HG.out 0 i0 (by omega)]
    cases l with
    | nil => (have g9 : ([] : List UInt8).length = 0 := rfl; omega)
    | cons c r => rfl)
  have hcc : s[0] = c0 := hc0.symm
  have cb0 := c0.toNat_lt
  clear hc0
  by_cases h2 : c0.toNat < 97
  · have HR : Hid (specB l = false) := Lib.hid (by unfold specB; rw [HC0.out, show lo c0 = false from by unfold lo; simp; omega]; simp)
    have e2 : decide ((c0.toNat : Int) < 97) = true := by simp; omega
    clear hl hsz HG
    go_enter Tryz.func162, Tryz.ntmps162
    go_wp2
    go_ret
    exact ⟨ret_bool HR.out.symm, rfl⟩
  have e2 : decide ((c0.toNat : Int) < 97) = false := by simp; omega
  by_cases h3 : 122 < c0.toNat
  · have HR : Hid (specB l = false) := Lib.hid (by unfold specB; rw [HC0.out, show lo c0 = false from by unfold lo; simp; omega]; simp)
    have e3 : decide ((122 : Int) < (c0.toNat : Int)) = true := by simp; omega
    clear hl hsz HG
    go_enter Tryz.func162, Tryz.ntmps162
    go_wp2
    go_ret
    exact ⟨ret_bool HR.out.symm, rfl⟩
  have e3 : decide ((122 : Int) < (c0.toNat : Int)) = false := by simp; omega
  have HH : Hid (specB l = l.all nmc) := Lib.hid (by unfold specB; rw [HC0.out, show lo c0 = true from by unfold lo; simp; omega, decide_eq_true (by omega)]; rfl)
  have HSZ := Lib.hid hsz
  have hl1 : l.length ≤ 16 := by omega
  clear h2 h3 hl hsz h0 h1
  go_enter Tryz.func162, Tryz.ntmps162
  go_upto_region 4 with fail
  go_loopw [5] (fun i wr => wr = w ∧ ∃ k : Nat, k ≤ l.length ∧ i = .int .i64 (k : Int) ∧ Hid ((l.take k).all nmc = true)) (fun i _ => l.length - (intOf i).toNat)
  case atStart => exact ⟨rfl, 0, Nat.zero_le _, rfl, by simp [Hid]⟩
  case round =>
    obtain ⟨rfl, k, hk, rfl, HD⟩ := hrel
    by_cases hlt : k < l.length
    rotate_left
    · obtain rfl : k = l.length := by omega
      have i1 : ¬ ((l.length : Int) < (s.size : Int)) := by have := HSZ.out; omega
      have HR : Hid (specB l = true) := Lib.hid (by rw [HH.out]; have := HD.out; rwa [List.take_length] at this)
      go_wp2
      go_ret
      exact ⟨ret_bool HR.out.symm, rfl⟩
    have i1 : (k : Int) < (s.size : Int) := by have := HSZ.out; omega
    have i2 : k < s.size := by have := HSZ.out; omega
    have i3 : (0 : Int) ≤ (k : Int) := by omega
    obtain ⟨c, hc⟩ : ∃ c, c = s[k] := ⟨_, rfl⟩
    have HCC : Hid (c = l[k]) := Lib.hid (by rw [hc]; exact HG.out k i2 hlt)
    have hck : s[k] = c := hc.symm
    have cb := c.toNat_lt
    clear hc
    by_cases g1 : c.toNat = 45
    · have d1 : decide ((97 : Int) ≤ (c.toNat : Int)) = false := by simp; omega
      have d2 : decide ((c.toNat : Int) ≤ 122) = true := by simp; omega
      have d3 : decide ((48 : Int) ≤ (c.toNat : Int)) = false := by simp; omega
      have d4 : decide ((c.toNat : Int) ≤ 57) = true := by simp; omega
      have d5 : ((c.toNat : Int) == 45) = true := by simp; omega
      have HN : Hid (nmc c = true) := Lib.hid (by unfold nmc lo dgt; simp; omega)
      clear g1
      go_wp2
      go_roundw
      case rel => exact ⟨(by first | rfl | trivial), k + 1, hlt, by go_num, Lib.hid (by rw [List.take_succ_eq_append_getElem hlt, List.all_append, HD.out, ← HCC.out]; simp [HN.out])⟩
      case measure => simp [intOf]; omega
    by_cases g2 : c.toNat < 48
    · have d1 : decide ((97 : Int) ≤ (c.toNat : Int)) = false := by simp; omega
      have d2 : decide ((c.toNat : Int) ≤ 122) = true := by simp; omega
      have d3 : decide ((48 : Int) ≤ (c.toNat : Int)) = false := by simp; omega
      have d4 : decide ((c.toNat : Int) ≤ 57) = true := by simp; omega
      have d5 : ((c.toNat : Int) == 45) = false := by simp; omega
      have HR : Hid (specB l = false) := Lib.hid (by rw [HH.out]; exact all_no hlt (by rw [← HCC.out]; unfold nmc lo dgt; simp; omega))
      clear g1 g2
      go_wp2
      go_ret
      exact ⟨ret_bool HR.out.symm, rfl⟩
    by_cases g3 : c.toNat ≤ 57
    · have d1 : decide ((97 : Int) ≤ (c.toNat : Int)) = false := by simp; omega
      have d2 : decide ((c.toNat : Int) ≤ 122) = true := by simp; omega
      have d3 : decide ((48 : Int) ≤ (c.toNat : Int)) = true := by simp; omega
      have d4 : decide ((c.toNat : Int) ≤ 57) = true := by simp; omega
      have d5 : ((c.toNat : Int) == 45) = false := by simp; omega
      have HN : Hid (nmc c = true) := Lib.hid (by unfold nmc lo dgt; simp; omega)
      clear g1 g2 g3
      go_wp2
      go_roundw
      case rel => exact ⟨(by first | rfl | trivial), k + 1, hlt, by go_num, Lib.hid (by rw [List.take_succ_eq_append_getElem hlt, List.all_append, HD.out, ← HCC.out]; simp [HN.out])⟩
      case measure => simp [intOf]; omega
    by_cases g4 : c.toNat < 97
    · have d1 : decide ((97 : Int) ≤ (c.toNat : Int)) = false := by simp; omega
      have d2 : decide ((c.toNat : Int) ≤ 122) = true := by simp; omega
      have d3 : decide ((48 : Int) ≤ (c.toNat : Int)) = true := by simp; omega
      have d4 : decide ((c.toNat : Int) ≤ 57) = false := by simp; omega
      have d5 : ((c.toNat : Int) == 45) = false := by simp; omega
      have HR : Hid (specB l = false) := Lib.hid (by rw [HH.out]; exact all_no hlt (by rw [← HCC.out]; unfold nmc lo dgt; simp; omega))
      clear g1 g2 g3 g4
      go_wp2
      go_ret
      exact ⟨ret_bool HR.out.symm, rfl⟩
    by_cases g5 : c.toNat ≤ 122
    · have d1 : decide ((97 : Int) ≤ (c.toNat : Int)) = true := by simp; omega
      have d2 : decide ((c.toNat : Int) ≤ 122) = true := by simp; omega
      have d3 : decide ((48 : Int) ≤ (c.toNat : Int)) = true := by simp; omega
      have d4 : decide ((c.toNat : Int) ≤ 57) = false := by simp; omega
      have d5 : ((c.toNat : Int) == 45) = false := by simp; omega
      have HN : Hid (nmc c = true) := Lib.hid (by unfold nmc lo dgt; simp; omega)
      clear g1 g2 g3 g4 g5
      go_wp2
      go_roundw
      case rel => exact ⟨(by first | rfl | trivial), k + 1, hlt, by go_num, Lib.hid (by rw [List.take_succ_eq_append_getElem hlt, List.all_append, HD.out, ← HCC.out]; simp [HN.out])⟩
      case measure => simp [intOf]; omega
    · have d1 : decide ((97 : Int) ≤ (c.toNat : Int)) = true := by simp; omega
      have d2 : decide ((c.toNat : Int) ≤ 122) = false := by simp; omega
      have d3 : decide ((48 : Int) ≤ (c.toNat : Int)) = true := by simp; omega
      have d4 : decide ((c.toNat : Int) ≤ 57) = false := by simp; omega
      have d5 : ((c.toNat : Int) == 45) = false := by simp; omega
      have HR : Hid (specB l = false) := Lib.hid (by rw [HH.out]; exact all_no hlt (by rw [← HCC.out]; unfold nmc lo dgt; simp; omega))
      clear g1 g2 g3 g4 g5
      go_wp2
      go_ret
      exact ⟨ret_bool HR.out.symm, rfl⟩
set_option maxRecDepth 100000 in
set_option maxHeartbeats 2000000 in
theorem rname12_any (l : List UInt8) (w : World) (hs : l.length ≤ 140737488351232) : Calls Tryz.prog 151 #[.string (bs l)] w fun e w' => e = .returned (.bool (specB l)) ∧ w = w' := by
  have H : Hid (Calls Tryz.prog 162 #[.string (bs l), .int .i64 16] w fun e w' => e = .returned (.bool (specB l)) ∧ w = w') := Lib.hid (by have h9 := rname_any (bs l) w (by have : (bs l).size = l.length := (by simp [bs, ByteArray.size]); omega); rw [bs_data] at h9; exact h9)
  obtain ⟨r, hr⟩ : ∃ r, r = specB l := ⟨_, rfl⟩
  rw [← hr] at H ⊢
  clear hr hs
  go_enter Tryz.func151, Tryz.ntmps151
  go_wp2_with (go_at_call 162; refine H.out.mono ?_; rintro e w2 ⟨rfl, rfl⟩)
  go_ret
  exact ⟨rfl, rfl⟩
end Go.Proofs.YtopkfomlppnpeaaGreatDoor.Ms

namespace Go.Proofs.YtopkfomlppnpeaaGreatDoor.Ms
open Go.RowKit Go.Proofs.YtopkfomlppnpeaaGreatDoor

/-- what digits say -/
def dv (a : Int) (l : List UInt8) : Int := l.foldl (fun a c => a * 10 + ((c.toNat : Int) - 48)) a
def canB (l : List UInt8) : Bool := (l != []) && !((l.head? == some 48) && decide (1 < l.length)) && l.all dgt
def num63 (l : List UInt8) : Option Int := if canB l = true ∧ dv 0 l ≤ 63 then some (dv 0 l) else none
def NumS (l : List UInt8) (x : Int) (over ok : Bool) : Prop := (ok = false → num63 l = none) ∧ (ok = true → over = true → num63 l = none) ∧ (ok = true → over = false → num63 l = some x)
def NumD (l : List UInt8) (e : Ending) : Prop := ∃ (x : Int) (over ok : Bool), e = .returned (.tuple #[.int .i64 x, .bool over, .bool ok]) ∧ NumS l x over ok
theorem dv_snoc (a : Int) (l : List UInt8) (c : UInt8) : dv a (l ++ [c]) = dv a l * 10 + ((c.toNat : Int) - 48) := by unfold dv; rw [List.foldl_append]; rfl
theorem num_bad {l : List UInt8} {k : Nat} (hk : k < l.length) (h : dgt l[k] = false) : num63 l = none := by
  unfold num63
  rw [if_neg]
  rintro ⟨h1, -⟩
  unfold canB at h1
  rw [all_no hk h] at h1
  simp at h1
set_option maxRecDepth 100000 in
set_option maxHeartbeats 2000000 in
theorem rnum_any (s : ByteArray) (w : World) (hs : s.size ≤ 140737488351232) : Calls Tryz.prog 150 #[.string s, .int .i64 63] w fun e w' => NumD s.data.toList e ∧ w = w' := by
  obtain ⟨l, hl⟩ : ∃ l, l = s.data.toList := ⟨_, rfl⟩
  have hsz : s.size = l.length := by rw [hl]; simp
  have HG : Hid (∀ k (h1 : k < s.size) (h2 : k < l.length), s[k] = l[k]) := Lib.hid (fun k h1 h2 => by subst hl; rfl)
  have htl : s.toList = l := by rw [Lib.toList_data, ← hl]
  rw [← hl]
  by_cases h0 : l = []
  · have HR : Hid (num63 l = none) := Lib.hid (by rw [h0]; rfl)
    have e0 : s.toList.isEmpty = true := by rw [htl, h0]; rfl
    have e1 : s.toList = [] := by rw [htl, h0]
    clear h0 hl hsz HG htl
    go_enter Tryz.func150, Tryz.ntmps150
    go_wp2
    go_ret3
    exact ⟨⟨_, _, _, rfl, fun _ => HR.out, fun h => (by cases h), fun h => (by cases h)⟩, rfl⟩
  have hpos : 0 < l.length := List.length_pos_iff.2 h0
  have e0 : s.toList.isEmpty = false := by rw [htl]; cases l with | nil => exact absurd rfl h0 | cons => rfl
  have e1 : ¬ s.toList = [] := by rw [htl]; exact h0
  have i0 : 0 < s.size := by omega
  have i5 : (0 : Int) < (s.size : Int) := by omega
  obtain ⟨c0, hc0⟩ : ∃ c0, c0 = s[0] := ⟨_, rfl⟩
  have HC0 : Hid (l.head? = some c0) := Lib.hid (by rw [hc0, HG.out 0 i0 hpos]; cases l with | nil => exact absurd rfl h0 | cons => rfl)
  have hcc : s[0] = c0 := hc0.symm
  have cb0 := c0.toNat_lt
  have HNE := Lib.hid h0
  have HSZ := Lib.hid hsz
  clear hc0 hl htl h0
  by_cases hz : c0.toNat = 48 ∧ 1 < s.size
  · have HR : Hid (num63 l = none) := Lib.hid (by
      unfold num63
      rw [if_neg]
      rintro ⟨h1, -⟩
      unfold canB at h1
      rw [HC0.out, decide_eq_true (by omega : 1 < l.length), show (c0 : UInt8) = 48 from UInt8.toNat_inj.1 hz.1] at h1
      simp at h1)
    have q1 : decide ((1 : Int) < (s.size : Int)) = true := by simp; omega
    have q2 : ((c0.toNat : Int) == 48) = true := by simp; omega
    clear hz hsz hpos
    go_enter Tryz.func150, Tryz.ntmps150
    go_wp2
    go_ret3
    exact ⟨⟨_, _, _, rfl, fun _ => HR.out, fun h => (by cases h), fun h => (by cases h)⟩, rfl⟩
  have HCAN : Hid (canB l = l.all dgt) := Lib.hid (by
    unfold canB
    rw [HC0.out]
    have h1 : (l != []) = true := by simpa using HNE.out
    rw [h1]
    by_cases h2 : 1 < l.length
    · have h3 : ((some c0 : Option UInt8) == some 48) = false := by
        rw [beq_eq_false_iff_ne]
        intro h4
        have h5 := Option.some.inj h4
        exact hz ⟨by rw [h5]; rfl, by omega⟩
      rw [h3]; simp
    · rw [decide_eq_false h2]; simp)
  have hl1 : l.length ≤ 140737488351232 := by omega
  by_cases hlen : 1 < s.size
  all_goals
    first
      | have e5 : ((c0.toNat : Int) == 48) = false := (by simp; omega)
      | skip
    first
      | have q1 : decide ((1 : Int) < (s.size : Int)) = true := (by simp; omega)
      | have q1 : decide ((1 : Int) < (s.size : Int)) = false := (by simp; omega)
    clear hlen hsz hz hpos
    go_enter Tryz.func150, Tryz.ntmps150
    go_upto_region 4 with fail
    go_loopw [4, 5, 7] (fun x ov i wr => wr = w ∧ ∃ (k : Nat) (n : Int) (b : Bool), k ≤ l.length ∧ i = .int .i64 (k : Int) ∧ x = .int .i64 n ∧ ov = .bool b ∧ 0 ≤ n ∧ n ≤ 2000 ∧ Hid ((l.take k).all dgt = true ∧ (b = false → n = dv 0 (l.take k) ∧ n ≤ 63) ∧ (b = true → 63 < dv 0 (l.take k)))) (fun _ _ i _ => l.length - (intOf i).toNat)
    case atStart => exact ⟨rfl, 0, 0, false, Nat.zero_le _, rfl, rfl, rfl, by omega, by omega, Lib.hid ⟨by simp, fun _ => ⟨by simp [dv], by omega⟩, fun h => by cases h⟩⟩
    case round =>
      obtain ⟨rfl, k, n, b, hk, rfl, rfl, rfl, n1, n2, HR⟩ := hrel
      by_cases hlt : k < l.length
      · have i1 : (k : Int) < (s.size : Int) := by have := HSZ.out; omega
        have i2 : k < s.size := by have := HSZ.out; omega
        have i3 : (0 : Int) ≤ (k : Int) := by omega
        obtain ⟨c, hc⟩ : ∃ c, c = s[k] := ⟨_, rfl⟩
        have HC : Hid (c = l[k]) := Lib.hid (by rw [hc]; exact HG.out k i2 hlt)
        have hcc2 : s[k] = c := hc.symm
        have cb := c.toNat_lt
        have HDV : Hid (dv 0 (l.take (k + 1)) = dv 0 (l.take k) * 10 + ((c.toNat : Int) - 48)) := Lib.hid (by rw [List.take_succ_eq_append_getElem hlt, dv_snoc, ← HC.out])
        clear hc
        by_cases hd1 : c.toNat < 48
        · have HN : Hid (num63 l = none) := Lib.hid (num_bad hlt (by rw [← HC.out]; unfold dgt; simp; omega))
          have d1 : decide ((c.toNat : Int) < 48) = true := by simp; omega
          go_wp2
          go_ret3
          exact ⟨⟨_, _, _, rfl, fun _ => HN.out, fun h => (by cases h), fun h => (by cases h)⟩, rfl⟩
        have d1 : decide ((c.toNat : Int) < 48) = false := by simp; omega
        by_cases hd2 : 57 < c.toNat
        · have HN : Hid (num63 l = none) := Lib.hid (num_bad hlt (by rw [← HC.out]; unfold dgt; simp; omega))
          have d2 : decide ((57 : Int) < (c.toNat : Int)) = true := by simp; omega
          go_wp2
          go_ret3
          exact ⟨⟨_, _, _, rfl, fun _ => HN.out, fun h => (by cases h), fun h => (by cases h)⟩, rfl⟩
        have d2 : decide ((57 : Int) < (c.toNat : Int)) = false := by simp; omega
        have hdg : dgt c = true := by unfold dgt; simp; omega
        have HD2 : Hid ((l.take (k + 1)).all dgt = true) := Lib.hid (by rw [List.take_succ_eq_append_getElem hlt, List.all_append, HR.out.1, ← HC.out]; simp [hdg])
        have v1 : (48 : Int) ≤ (c.toNat : Int) := by omega
        have v2 : (c.toNat : Int) ≤ 57 := by omega
        have w1 : IntKind.u8.wrap ((c.toNat : Int) - 48) = (c.toNat : Int) - 48 := by rw [IntKind.wrap_u8]; omega
        have w2 : IntKind.i64.wrap ((c.toNat : Int) - 48) = (c.toNat : Int) - 48 := by rw [IntKind.wrap_i64]; omega
        cases b
        · have hb := HR.out.2.1 rfl
          have n3 : n ≤ 63 := hb.2
          have HB := Lib.hid hb.1
          have w3 : IntKind.i64.wrap (n * 10) = n * 10 := by rw [IntKind.wrap_i64]; omega
          have w4 : IntKind.i64.wrap (n * 10 + ((c.toNat : Int) - 48)) = n * 10 + ((c.toNat : Int) - 48) := by rw [IntKind.wrap_i64]; omega
          clear hb hdg hd1 hd2
          by_cases hov : 63 < n * 10 + ((c.toNat : Int) - 48)
          · have d3 : decide (63 < n * 10 + ((c.toNat : Int) - 48)) = true := by simpa using hov
            have HR2 : Hid ((l.take (k + 1)).all dgt = true ∧ (true = false → n * 10 + ((c.toNat : Int) - 48) = dv 0 (l.take (k + 1)) ∧ n * 10 + ((c.toNat : Int) - 48) ≤ 63) ∧ (true = true → 63 < dv 0 (l.take (k + 1)))) := Lib.hid ⟨HD2.out, fun h => (by cases h), fun _ => by rw [HDV.out, ← HB.out]; exact hov⟩
            go_wp2
            go_roundw
            case rel => exact ⟨(by first | rfl | trivial), k + 1, _, _, hlt, by go_num, rfl, rfl, by omega, by omega, HR2⟩
            case measure => simp [intOf]; omega
          · have d3 : decide (63 < n * 10 + ((c.toNat : Int) - 48)) = false := by simpa using hov
            have HR2 : Hid ((l.take (k + 1)).all dgt = true ∧ (false = false → n * 10 + ((c.toNat : Int) - 48) = dv 0 (l.take (k + 1)) ∧ n * 10 + ((c.toNat : Int) - 48) ≤ 63) ∧ (false = true → 63 < dv 0 (l.take (k + 1)))) := Lib.hid ⟨HD2.out, fun _ => ⟨by rw [HDV.out, ← HB.out], by omega⟩, fun h => (by cases h)⟩
            go_wp2
            go_roundw
            case rel => exact ⟨(by first | rfl | trivial), k + 1, _, _, hlt, by go_num, rfl, rfl, by omega, by omega, HR2⟩
            case measure => simp [intOf]; omega
        · have hb := HR.out.2.2 rfl
          have HR2 : Hid ((l.take (k + 1)).all dgt = true ∧ (true = false → n = dv 0 (l.take (k + 1)) ∧ n ≤ 63) ∧ (true = true → 63 < dv 0 (l.take (k + 1)))) := Lib.hid ⟨HD2.out, fun h => (by cases h), fun _ => by rw [HDV.out]; omega⟩
          clear hb hdg hd1 hd2
          go_wp2
          go_roundw
          case rel => exact ⟨(by first | rfl | trivial), k + 1, _, _, hlt, by go_num, rfl, rfl, n1, n2, HR2⟩
          case measure => simp [intOf]; omega
      · obtain rfl : k = l.length := by omega
        have i1 : ¬ ((l.length : Int) < (s.size : Int)) := by have := HSZ.out; omega
        have HR2 : Hid (NumS l n b true) := Lib.hid (by
          have h1 := HR.out
          rw [List.take_length] at h1
          refine ⟨fun h => (by cases h), fun _ h => ?_, fun _ h => ?_⟩
          · unfold num63; rw [if_neg (fun h9 => by have := h1.2.2 h; omega)]
          · unfold num63; rw [HCAN.out, if_pos ⟨h1.1, by have := h1.2.1 h; omega⟩, ← (h1.2.1 h).1])
        go_wp2
        go_ret3
        exact ⟨⟨_, _, _, rfl, HR2.out⟩, rfl⟩
end Go.Proofs.YtopkfomlppnpeaaGreatDoor.Ms

namespace Go.Proofs.YtopkfomlppnpeaaGreatDoor.Ms
open Go.RowKit Go.Proofs.YtopkfomlppnpeaaGreatDoor

/-- is a text a task's name, as the document says? -/
def ptD (l : List UInt8) : Bool := specB (cutL l).1 && (num63 (cutL l).2).isSome
theorem index_none : ∀ {l : List UInt8}, l.all (fun c => c != 46) = true → Lib.indexByte l 46 = -1
  | [], _ => rfl
  | b :: l, h => by
    simp only [List.all_cons, Bool.and_eq_true, bne_iff_ne, ne_eq] at h
    unfold Lib.indexByte
    rw [if_neg (by simpa using h.1), index_none h.2]
    rfl
theorem index_at : ∀ {l : List UInt8} {k : Nat} (hk : k < l.length), (l.take k).all (fun c => c != 46) = true → l[k] = 46 → Lib.indexByte l 46 = (k : Int)
  | b :: l, 0, _, _, hc => by
    unfold Lib.indexByte
    simp only [List.getElem_cons_zero] at hc
    rw [if_pos (by simp [hc])]
    rfl
  | b :: l, k + 1, hk, h, hc => by
    simp only [List.take_succ_cons, List.all_cons, Bool.and_eq_true, bne_iff_ne, ne_eq] at h
    have h2 := index_at (l := l) (k := k) (by simpa using hk) h.2 (by simpa using hc)
    unfold Lib.indexByte
    rw [if_neg (by simpa using h.1), h2, if_neg (by first | (simp; done) | (simp; omega))]
    omega
theorem cut_none {l : List UInt8} (h : l.all (fun c => c != 46) = true) : ptD l = false := by
  unfold ptD cutL
  rw [index_none h, if_pos (by omega)]
  simp only
  rw [show num63 [] = none from rfl]
  simp
theorem cut_at {l : List UInt8} {k : Nat} (hk : k < l.length) (h : (l.take k).all (fun c => c != 46) = true) (hc : l[k] = 46) : ptD l = (specB (l.take k) && (num63 (l.drop (k + 1))).isSome) := by
  unfold ptD cutL
  rw [index_at hk h hc, if_neg (by omega)]
  simp
set_option maxRecDepth 100000 in
set_option maxHeartbeats 1000000 in
theorem rname12_s (s : ByteArray) (w : World) (hs : s.size ≤ 140737488351232) : Calls Tryz.prog 151 #[.string s] w fun e w' => e = .returned (.bool (specB s.data.toList)) ∧ w = w' := by
  have h9 := rname12_any s.data.toList w (by simpa using hs)
  have e : bs s.data.toList = s := by simp [bs]
  rw [e] at h9
  exact h9
def PtD (l : List UInt8) (e : Ending) : Prop := ∃ (j : ByteArray) (x : Int), e = .returned (.tuple #[.agg #[.string j, .int .i64 x], .int .i64 (if ptD l then 0 else 5)])
set_option maxRecDepth 100000 in
set_option maxHeartbeats 2000000 in
theorem rparse_any (s : ByteArray) (w : World) (hs : s.size ≤ 140737488351232) : Calls Tryz.prog 123 #[.string s] w fun e w' => PtD s.data.toList e ∧ Below w.heap.size w w' := by
  obtain ⟨l, hl⟩ : ∃ l, l = s.data.toList := ⟨_, rfl⟩
  have hsz : s.size = l.length := by rw [hl]; simp
  have HG : Hid (∀ k (h1 : k < s.size) (h2 : k < l.length), s[k] = l[k]) := Lib.hid (fun k h1 h2 => by subst hl; rfl)
  have HX : Hid (∀ a b, (s.extract a b).data.toList = (l.drop a).take (b - a)) := Lib.hid (fun a b => by
    have e : s = bs l := by rw [hl]; simp [bs]
    rw [e, ext_bs, bs_data])
  have HXS : Hid (∀ a b, (s.extract a b).size ≤ 140737488351232) := Lib.hid (fun a b => by
    have := HX.out a b
    have h2 : (s.extract a b).data.toList.length = (s.extract a b).size := by rw [Array.length_toList]; rfl
    rw [← h2, this, List.length_take, List.length_drop]
    omega)
  rw [← hl]
  have HSZ := Lib.hid hsz
  have hl1 : l.length ≤ 140737488351232 := by omega
  obtain ⟨R, hR⟩ : ∃ R, R = w.heap.size := ⟨_, rfl⟩
  obtain ⟨w1, hw1⟩ : ∃ w1, w1 = w.alloc (.cells #[.string ⟨#[]⟩, .int .i64 0] 35) := ⟨_, rfl⟩
  have HR1 : Hid (Blk w1 R [.string ⟨#[]⟩, .int .i64 0] 35) := Lib.hid (by rw [hw1, hR]; exact Blk.made w [.string ⟨#[]⟩, .int .i64 0] _)
  have HB1 : Hid (Below w.heap.size w w1) := Lib.hid (by rw [hw1]; exact below_alloc _ _)
  have HRR := Lib.hid hR
  have HBB : Hid (∀ (a b : Value), Below w.heap.size w ((w1.setCell ⟨R, 0, none⟩ a).setCell ⟨R, 1, none⟩ b)) := Lib.hid (fun a b => ((HB1.out.trans (((Frp.refl (fun k => k = R) w1).set (p := ⟨R, 0, none⟩) rfl a).set (p := ⟨R, 1, none⟩) rfl b |>.below (fun k hk => by rw [hk, HRR.out]; exact Nat.le_refl _) HB1.out.size))))
  clear hl hsz
  go_enter Tryz.func123, Tryz.ntmps123
  go_upto_region 1 with fail
  rw [← hw1, ← hR]
  clear hw1 hR
  have f0 := HR1.out.free 0
  have f1 := HR1.out.free 1
  have y0 := HR1.out.cell (j := 0) rfl
  have y1 := HR1.out.cell (j := 1) rfl
  go_upto_region 2 with fail
  go_loopw [4] (fun i wr => wr = w1 ∧ ∃ k : Nat, k ≤ l.length ∧ i = .int .i64 (k : Int) ∧ Hid ((l.take k).all (fun c => c != 46) = true)) (fun i _ => l.length - (intOf i).toNat)
  case atStart => exact ⟨rfl, 0, Nat.zero_le _, by go_num, by simp [Hid]⟩
  case round =>
    obtain ⟨rfl, k, hk, rfl, HD⟩ := hrel
    by_cases hlt : k < l.length
    · have i1 : (k : Int) < (s.size : Int) := by have := HSZ.out; omega
      have i2 : k < s.size := by have := HSZ.out; omega
      have i3 : (0 : Int) ≤ (k : Int) := by omega
      obtain ⟨c, hc⟩ : ∃ c, c = s[k] := ⟨_, rfl⟩
      have HC : Hid (c = l[k]) := Lib.hid (by rw [hc]; exact HG.out k i2 hlt)
      have hcc2 : s[k] = c := hc.symm
      have cb := c.toNat_lt
      clear hc
      by_cases h46 : c.toNat = 46
      · have HPT : Hid (ptD l = (specB (l.take k) && (num63 (l.drop (k + 1))).isSome)) := Lib.hid (cut_at hlt HD.out (by rw [← HC.out]; exact UInt8.toNat_inj.1 h46))
        have d1 : ((c.toNat : Int) != 46) = false := by simp; omega
        have d2 : (c.toNat != 46) = false := by simp; omega
        have HNM := Lib.hid (rnum_any (s.extract (k + 1) s.size) wr (HXS.out _ _))
        have HNA := Lib.hid (rname12_s (s.extract 0 k) wr (HXS.out _ _))
        have e1 := HX.out (k + 1) s.size
        rw [List.take_of_length_le (by rw [List.length_drop]; have := HSZ.out; omega)] at e1
        have e2 := HX.out 0 k
        rw [List.drop_zero, Nat.sub_zero] at e2
        rw [e1] at HNM
        rw [e2] at HNA
        obtain ⟨sp, hsp⟩ : ∃ sp, sp = specB (l.take k) := ⟨_, rfl⟩
        rw [← hsp] at HNA HPT
        clear e1 e2 h46 hsp
        go_upto_region 6 with (go_at_call 150; refine HNM.out.mono ?_; rintro e w2 ⟨⟨x, over, ok, rfl, hn⟩, rfl⟩; have HN := Lib.hid hn; clear hn)
        cases sp
        · have HQ : Hid (ptD l = false) := Lib.hid (by rw [HPT.out]; rfl)
          go_wp2_with (go_at_call 151; refine HNA.out.mono ?_; rintro e w3 ⟨rfl, rfl⟩)
          refine ret_cell rfl rfl rfl ((HR1.out.set 0 (.string ⟨#[]⟩)).set 1 (.int .i64 0)) Tryz.underlying35 rfl (by kernel_rfl) ?_
          exact ⟨⟨_, _, by rw [HQ.out]; rfl⟩, HBB.out _ _⟩
        · cases ok
          · have HQ : Hid (ptD l = false) := Lib.hid (by rw [HPT.out, HN.out.1 rfl]; rfl)
            go_wp2_with (go_at_call 151; refine HNA.out.mono ?_; rintro e w3 ⟨rfl, rfl⟩)
            refine ret_cell rfl rfl rfl ((HR1.out.set 0 (.string ⟨#[]⟩)).set 1 (.int .i64 0)) Tryz.underlying35 rfl (by kernel_rfl) ?_
            exact ⟨⟨_, _, by rw [HQ.out]; rfl⟩, HBB.out _ _⟩
          · cases over
            · have HQ : Hid (ptD l = true) := Lib.hid (by rw [HPT.out, HN.out.2.2 rfl rfl]; rfl)
              go_wp2_with (go_at_call 151; refine HNA.out.mono ?_; rintro e w3 ⟨rfl, rfl⟩)
              refine ret_cell rfl rfl rfl ((HR1.out.set 0 (.string (s.extract 0 k))).set 1 (.int .i64 x)) Tryz.underlying35 rfl (by kernel_rfl) ?_
              exact ⟨⟨_, _, by rw [HQ.out]; rfl⟩, HBB.out _ _⟩
            · have HQ : Hid (ptD l = false) := Lib.hid (by rw [HPT.out, HN.out.2.1 rfl rfl]; rfl)
              go_wp2_with (go_at_call 151; refine HNA.out.mono ?_; rintro e w3 ⟨rfl, rfl⟩)
              refine ret_cell rfl rfl rfl ((HR1.out.set 0 (.string ⟨#[]⟩)).set 1 (.int .i64 0)) Tryz.underlying35 rfl (by kernel_rfl) ?_
              exact ⟨⟨_, _, by rw [HQ.out]; rfl⟩, HBB.out _ _⟩
      · have d1 : ((c.toNat : Int) != 46) = true := by simp; omega
        have d2 : (c.toNat != 46) = true := by simp; omega
        have HD2 : Hid ((l.take (k + 1)).all (fun c => c != 46) = true) := Lib.hid (by
          rw [List.take_succ_eq_append_getElem hlt, List.all_append, HD.out, ← HC.out]
          simp only [List.all_cons, List.all_nil, Bool.and_true, Bool.true_and, bne_iff_ne, ne_eq]
          intro h9
          exact h46 (by rw [h9]; rfl))
        clear h46
        go_wp2
        go_roundw
        case rel => exact ⟨(by first | rfl | trivial), k + 1, hlt, by go_num, HD2⟩
        case measure => simp [intOf]; omega
    · obtain rfl : k = l.length := by omega
      have i1 : ¬ ((l.length : Int) < (s.size : Int)) := by have := HSZ.out; omega
      have HQ : Hid (ptD l = false) := Lib.hid (cut_none (by have := HD.out; rwa [List.take_length] at this))
      go_wp2
      refine ret_cell rfl rfl rfl ((HR1.out.set 0 (.string ⟨#[]⟩)).set 1 (.int .i64 0)) Tryz.underlying35 rfl (by kernel_rfl) ?_
      exact ⟨⟨_, _, by rw [HQ.out]; rfl⟩, HBB.out _ _⟩
end Go.Proofs.YtopkfomlppnpeaaGreatDoor.Ms

namespace Go.Proofs.YtopkfomlppnpeaaGreatDoor.Ms
open Go.RowKit Go.Proofs.YtopkfomlppnpeaaGreatDoor

/-- the texts of the numbers below 64 -/
def two (v : Nat) : List UInt8 := if v < 10 then [UInt8.ofNat (48 + v)] else [UInt8.ofNat (48 + v / 10), UInt8.ofNat (48 + v % 10)]
theorem small_all : (List.range 64).all (fun v => decide (Lib.itoa (v : Int) = two v) && decide (Lib.atoiAll (two v) = .ok (v : Int)) && decide (num63 (two v) = some (v : Int))) = true := by kernel_rfl
theorem small_at {v : Nat} (hv : v < 64) : Lib.itoa (v : Int) = two v ∧ Lib.atoiAll (two v) = .ok (v : Int) ∧ num63 (two v) = some (v : Int) := by
  have h := List.all_eq_true.1 small_all v (List.mem_range.2 hv)
  simp only [Bool.and_eq_true, decide_eq_true_eq] at h
  exact ⟨h.1.1, h.1.2, h.2⟩
theorem dv_ge : ∀ (l : List UInt8) (a : Int), 0 ≤ a → l.all dgt = true → a ≤ dv a l
  | [], a, _, _ => Int.le_refl _
  | c :: l, a, ha, h => by
    simp only [List.all_cons, Bool.and_eq_true] at h
    have hc := h.1
    unfold dgt at hc
    simp only [Bool.and_eq_true, decide_eq_true_eq] at hc
    have := dv_ge l (a * 10 + ((c.toNat : Int) - 48)) (by omega) h.2
    have e : dv a (c :: l) = dv (a * 10 + ((c.toNat : Int) - 48)) l := rfl
    rw [e]
    omega
theorem num_two {l : List UInt8} {v : Int} (h : num63 l = some v) : ∃ n : Nat, n < 64 ∧ v = n ∧ l = two n := by
  unfold num63 at h
  split at h
  · rename_i hc
    obtain ⟨h1, h2⟩ := hc
    have hv := Option.some.inj h
    unfold canB at h1
    simp only [Bool.and_eq_true, bne_iff_ne, ne_eq, Bool.not_eq_true', Bool.and_eq_false_iff, beq_eq_false_iff_ne, decide_eq_false_iff_not] at h1
    obtain ⟨⟨h3, h4⟩, h5⟩ := h1
    match l, h3, h4, h5, h2, hv with
    | [a], _, _, h5, _, hv =>
      simp only [List.all_cons, List.all_nil, Bool.and_true] at h5
      unfold dgt at h5
      simp only [Bool.and_eq_true, decide_eq_true_eq] at h5
      have e : dv 0 [a] = 0 * 10 + ((a.toNat : Int) - 48) := rfl
      refine ⟨a.toNat - 48, by omega, by rw [← hv, e]; omega, ?_⟩
      unfold two
      rw [if_pos (by omega), show 48 + (a.toNat - 48) = a.toNat by omega]
      simp
    | [a, b], _, h4, h5, h2, hv =>
      simp only [List.all_cons, List.all_nil, Bool.and_true, Bool.and_eq_true] at h5
      obtain ⟨ha, hb⟩ := h5
      unfold dgt at ha hb
      simp only [Bool.and_eq_true, decide_eq_true_eq] at ha hb
      have e : dv 0 [a, b] = (0 * 10 + ((a.toNat : Int) - 48)) * 10 + ((b.toNat : Int) - 48) := rfl
      rw [e] at h2 hv
      have h48 : a.toNat ≠ 48 := fun h9 => by
        rcases h4 with h4 | h4
        · exact h4 (congrArg some (UInt8.toNat_inj.1 h9))
        · exact h4 (by simp)
      refine ⟨(a.toNat - 48) * 10 + (b.toNat - 48), by omega, by rw [← hv]; omega, ?_⟩
      unfold two
      rw [if_neg (by omega), show 48 + ((a.toNat - 48) * 10 + (b.toNat - 48)) / 10 = a.toNat by omega, show 48 + ((a.toNat - 48) * 10 + (b.toNat - 48)) % 10 = b.toNat by omega]
      simp
    | a :: b :: c :: t, _, h4, h5, h2, _ =>
      exfalso
      simp only [List.all_cons, Bool.and_eq_true] at h5
      obtain ⟨ha, hb, hc, ht⟩ := h5
      unfold dgt at ha hb hc
      simp only [Bool.and_eq_true, decide_eq_true_eq] at ha hb hc
      have h48 : a.toNat ≠ 48 := fun h9 => by
        rcases h4 with h4 | h4
        · exact h4 (congrArg some (UInt8.toNat_inj.1 h9))
        · exact h4 (by simp)
      have e : dv 0 (a :: b :: c :: t) = dv (((0 * 10 + ((a.toNat : Int) - 48)) * 10 + ((b.toNat : Int) - 48)) * 10 + ((c.toNat : Int) - 48)) t := rfl
      have := dv_ge t (((0 * 10 + ((a.toNat : Int) - 48)) * 10 + ((b.toNat : Int) - 48)) * 10 + ((c.toNat : Int) - 48)) (by omega) ht
      rw [e] at h2
      omega
  · cases h
theorem cut_join {l : List UInt8} (h : (cutL l).2 ≠ []) : l = (cutL l).1 ++ 46 :: (cutL l).2 := by
  unfold cutL at h ⊢
  by_cases hn : Lib.indexByte l 46 < 0
  · rw [if_pos hn] at h; exact absurd rfl h
  · rw [if_neg hn]
    simp only
    have h1 := index_lt l 46
    have hk : (Lib.indexByte l 46).toNat < l.length := by omega
    have hc : l[(Lib.indexByte l 46).toNat] = 46 := index_hit l hn hk
    conv => lhs; rw [← List.take_append_drop (Lib.indexByte l 46).toNat l]
    rw [List.drop_eq_getElem_cons hk, hc]
where
  index_hit : ∀ (l : List UInt8), ¬ Lib.indexByte l 46 < 0 → ∀ hk : (Lib.indexByte l 46).toNat < l.length, l[(Lib.indexByte l 46).toNat] = 46
    | [], h, _ => absurd (by decide : (-1 : Int) < 0) h
    | b :: l, h, hk => by
      by_cases hb : b = 46
      · have e : Lib.indexByte (b :: l) 46 = 0 := by unfold Lib.indexByte; rw [if_pos (by simp [hb])]
        simp only [e]
        exact hb
      · by_cases hm : Lib.indexByte l 46 = -1
        · have e : Lib.indexByte (b :: l) 46 = -1 := by unfold Lib.indexByte; rw [if_neg (by simpa using hb), hm]; rfl
          rw [e] at h; exact absurd (by decide) h
        · have e : Lib.indexByte (b :: l) 46 = Lib.indexByte l 46 + 1 := by
            show (if b == 46 then (0 : Int) else if Lib.indexByte l 46 == -1 then -1 else Lib.indexByte l 46 + 1) = _
            rw [if_neg (by simpa using hb), if_neg (by simpa using hm)]
          have hge := Lib.indexByte_ge l 46
          have h2 : ¬ Lib.indexByte l 46 < 0 := by omega
          have e3 : (Lib.indexByte (b :: l) 46).toNat = (Lib.indexByte l 46).toNat + 1 := by rw [e]; omega
          have hk2 : (Lib.indexByte l 46).toNat < l.length := by rw [e3] at hk; simpa using hk
          have := index_hit l h2 hk2
          simp only [e3, List.getElem_cons_succ]
          exact this
/-- the document's and the program's -/
theorem ptD_eq (l : List UInt8) : ptD l = tnB l := by
  rw [Bool.eq_iff_iff]
  constructor
  · intro h
    unfold ptD at h
    simp only [Bool.and_eq_true, Option.isSome_iff_exists] at h
    obtain ⟨h1, v, h2⟩ := h
    obtain ⟨n, hn, rfl, hr⟩ := num_two h2
    obtain ⟨g1, g2, -⟩ := small_at hn
    have hne : (cutL l).2 ≠ [] := by rw [hr]; unfold two; split <;> simp
    have hj := cut_join hne
    unfold tnB
    rw [hr, g2]
    simp only
    unfold taskO
    rw [if_pos ⟨h1, by omega, by omega⟩, g1, ← hr, ← hj]
    simp
  · intro h
    unfold tnB at h
    split at h
    · rename_i n hn
      have h2 := eq_of_beq h
      unfold taskO at h2
      split at h2
      · rename_i hc
        obtain ⟨c1, c2, c3⟩ := hc
        have h3 := Option.some.inj h2
        obtain ⟨m, rfl⟩ : ∃ m : Nat, (m : Int) = n := ⟨n.toNat, by omega⟩
        obtain ⟨g1, -, g3⟩ := small_at (v := m) (by omega)
        have hne : (cutL l).2 ≠ [] := fun e => by rw [e] at hn; cases hn
        have hj := cut_join hne
        have h4 : 46 :: Lib.itoa (m : Int) = 46 :: (cutL l).2 := List.append_cancel_left (by rw [h3]; exact hj)
        unfold ptD
        rw [c1, ← (List.cons.inj h4).2, g1, g3]
        rfl
      · cases h2
    · cases h
set_option maxRecDepth 100000 in
set_option maxHeartbeats 1000000 in
theorem named_any (l : List UInt8) (w : World) (hl : l.length ≤ 140737488351232) : Calls Tryz.prog 67 #[.string (bs l)] w fun e w' => e = .returned (.bool (tnB l)) ∧ Below w.heap.size w w' := by
  obtain ⟨er, her⟩ : ∃ er : Int, er = if tnB l then 0 else 5 := ⟨_, rfl⟩
  have HTA := Lib.hid (rparse_any (bs l) w (by have : (bs l).size = l.length := (by simp [bs, ByteArray.size]); omega))
  have HQ : Hid ((er == 0) = tnB l) := Lib.hid (by rw [her]; cases tnB l <;> rfl)
  unfold PtD at HTA
  rw [bs_data, ptD_eq, ← her] at HTA
  clear her
  go_enter Tryz.func67, Tryz.ntmps67
  go_wp2_with (go_at_call 123; refine HTA.out.mono ?_; rintro e w5 ⟨⟨a, n, rfl⟩, hb⟩; have HB5 := Lib.hid hb; clear hb)
  go_ret
  exact ⟨ret_bool HQ.out, below_and HB5.out (below_alloc _ _)⟩
end Go.Proofs.YtopkfomlppnpeaaGreatDoor.Ms
