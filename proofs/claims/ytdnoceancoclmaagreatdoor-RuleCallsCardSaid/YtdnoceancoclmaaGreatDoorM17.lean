/- , laid together: RdOne, RdName, RdRun. -/
import Derived.Test.YtdnoceancoclmaaGreatDoorM16
import Derived.Test.YtdnoceancoclmaaGreatDoorRuMem
import Derived.Test.YtdnoceancoclmaaGreatDoorM10
namespace Go.Proofs.YtdnoceancoclmaaGreatDoor.Ru
open Go.RowKit Go.Proofs.YtdnoceancoclmaaGreatDoor

set_option maxRecDepth 100000 in
set_option maxHeartbeats 2000000 in
theorem dfail_any {base b : Nat} {s : ByteArray} {k : Nat} {n : Int} {v : Value} {L : List Nd} {bd : Bool} {e a : Int} {w : World} (h : Dp base w b s k v L bd e a n) (x y : Int) (hx : x ≠ 0) : Calls Tryz.prog 44 #[ptr b, .int .i64 x, .int .i64 y] w fun r w' => r = .returned (.tuple #[]) ∧ Dq base w' b s k v L true n ∧ Onb b w w' := by
  have H := Lib.hid h
  have HX := Lib.hid hx
  have c3 := h.blk.cell (j := 3) rfl
  have c4 := h.blk.cell (j := 4) rfl
  have c5 := h.blk.cell (j := 5) rfl
  have f3 := h.blk.free 3
  have f4 := h.blk.free 4
  have f5 := h.blk.free 5
  clear h hx
  cases bd
  · go_enter Tryz.func44, Tryz.ntmps44
    go_wp2
    refine end0 rfl rfl ⟨rfl, ⟨x, y, H.out.fault x y HX.out⟩, Onb.set (Onb.set (Onb.set (Frp.refl _ w) 5 _) 3 _) 4 _⟩
  · go_enter Tryz.func44, Tryz.ntmps44
    go_wp2
    refine end0 rfl rfl ⟨rfl, ⟨e, a, H.out⟩, Frp.refl _ _⟩
set_option maxRecDepth 100000 in
set_option maxHeartbeats 2000000 in
theorem dcount_any {base b : Nat} {s : ByteArray} {k : Nat} {n : Int} {v : Value} {L : List Nd} {bd : Bool} {e a : Int} {w : World} (h : Dp base w b s k v L bd e a n) (hn : 0 ≤ n ∧ n ≤ 1000) (y : Int) : Calls Tryz.prog 61 #[ptr b, .int .i64 y] w fun r w' => r = .returned (.tuple #[]) ∧ Dq base w' b s k v L (bd || decide (64 < n + 1)) (n + 1) ∧ Onb b w w' := by
  have H1 := Lib.hid (h.num (n + 1))
  have c6 := h.blk.cell (j := 6) rfl
  have f6 := h.blk.free 6
  have HO : Hid (Onb b w (w.setCell ⟨b, 6, none⟩ (.int .i64 (n + 1)))) := Lib.hid (Onb.set (Frp.refl _ w) 6 _)
  have e1 : IntKind.i64.wrap (n + 1) = n + 1 := by rw [IntKind.wrap_i64]; omega
  clear h
  by_cases hl : 64 < n + 1
  · have d1 : decide (64 < n + 1) = true := decide_eq_true hl
    have HD : Hid ((bd || decide (64 < n + 1)) = true) := Lib.hid (by rw [d1, Bool.or_true])
    have d2 : (64 : Int) < n + 1 := hl
    have c6' := H1.out.blk.cell (j := 6) rfl
    clear hl
    go_enter Tryz.func61, Tryz.ntmps61
    go_wp2_with (go_at_call 44; refine (dfail_any H1.out 3 y (by decide)).mono ?_; rintro r w2 ⟨rfl, hq, ho⟩; have HQ := Lib.hid hq; have HO2 := Lib.hid (HO.out.then ho); clear hq ho)
    refine end0 rfl rfl ⟨rfl, by (have h9 := HQ.out; first | exact h9 | (rw [HD.out]; exact h9)), HO2.out⟩
  · have d1 : decide (64 < n + 1) = false := decide_eq_false hl
    have HD : Hid ((bd || decide (64 < n + 1)) = bd) := Lib.hid (by rw [d1, Bool.or_false])
    have d2 : ¬ (64 : Int) < n + 1 := hl
    have c6' := H1.out.blk.cell (j := 6) rfl
    clear hl
    go_enter Tryz.func61, Tryz.ntmps61
    go_wp2
    refine end0 rfl rfl ⟨rfl, by (have h9 : Dq base _ b s k v L bd (n + 1) := ⟨_, _, H1.out⟩; first | exact h9 | (rw [HD.out]; exact h9)), HO.out⟩
/-- the next byte that is no blank; 0: none -/
def pkB (s : ByteArray) (k : Nat) : Int := match blk (rest s k) with | [] => 0 | c :: _ => (c.toNat : Int)
theorem pkB_at {s : ByteArray} {k : Nat} (hk : k ≤ s.size) (h : skip s k < s.size) : pkB s k = (s[skip s k].toNat : Int) := by
  obtain ⟨-, -, h3, -, -⟩ := skip_is hk
  unfold pkB
  rw [h3, rest_at h]
  rfl
theorem pkB_end {s : ByteArray} {k : Nat} (hk : k ≤ s.size) (h : ¬ skip s k < s.size) : pkB s k = 0 := by
  obtain ⟨-, h2, h3, -, -⟩ := skip_is hk
  unfold pkB
  have e : skip s k = s.size := by omega
  rw [h3, e, rest_end]
set_option maxRecDepth 100000 in
set_option maxHeartbeats 2000000 in
theorem dpeek_any {base b : Nat} {s : ByteArray} {k : Nat} {n : Int} {v : Value} {L : List Nd} {bd : Bool} {e a : Int} {w : World} (h : Dp base w b s k v L bd e a n) (hk : k ≤ s.size) : Calls Tryz.prog 43 #[ptr b] w fun r w' => r = .returned (.int .u8 (pkB s k)) ∧ Dp base w' b s (skip s k) v L bd e a n ∧ Onb b w w' := by
  have HBL := Lib.hid (dblanks_any base b s k n v L bd e a w h hk)
  obtain ⟨-, hj2, -, -, -⟩ := skip_is hk
  obtain ⟨j, hj⟩ : ∃ j, j = skip s k := ⟨_, rfl⟩
  have hsz := h.sz
  by_cases hlt : j < s.size
  · have HR : Hid (pkB s k = (s[j].toNat : Int)) := Lib.hid (by subst hj; exact pkB_at hk hlt)
    obtain ⟨c, hc⟩ : ∃ c, c = s[j] := ⟨_, rfl⟩
    rw [← hc] at HR
    have hcc : s[j] = c := hc.symm
    rw [← hj] at HBL ⊢
    have i0 : (0 : Int) ≤ (j : Int) := by omega
    have i1 : (j : Int) < (s.size : Int) := by omega
    clear h hc hj hk
    go_enter Tryz.func43, Tryz.ntmps43
    go_upto_region 2 with (go_at_call 63; refine HBL.out.mono ?_; rintro r w2 ⟨rfl, hq, ho⟩; have HQ := Lib.hid hq; have HO := Lib.hid ho; clear hq ho)
    have b0 := Past.blk HQ.out.blk (j := 0) rfl
    have b1 := Past.blk HQ.out.blk (j := 1) rfl
    refine wp_region_past (by kernel_rfl) (by kernel_rfl) ?_
    repeat (go_big_quiet_step (fail))
    refine wpQuiet_nil ?_
    intro _ hw'
    obtain ⟨s9, hw''⟩ := hw'
    subst hw''
    obtain ⟨w3, h9, e9⟩ : ∃ w9, Below w2.heap.size w2 w9 ∧ w9 = s9.val := ⟨_, s9.h, rfl⟩
    rw [← e9]
    clear e9
    have HQ3 := Lib.hid (HQ.out.kept h9)
    have HO3 := Lib.hid (HO.out.next h9)
    clear h9 b0 b1 HQ HO
    go_upto_region 3 with fail
    have b0 := Past.blk HQ3.out.blk (j := 0) rfl
    have b1 := Past.blk HQ3.out.blk (j := 1) rfl
    refine wp_region_past (by kernel_rfl) (by kernel_rfl) ?_
    repeat (go_big_quiet_step (fail))
    refine wpQuiet_nil ?_
    intro _ hw'
    obtain ⟨s9, hw''⟩ := hw'
    subst hw''
    obtain ⟨w4, h9, e9⟩ : ∃ w9, Below w3.heap.size w3 w9 ∧ w9 = s9.val := ⟨_, s9.h, rfl⟩
    rw [← e9]
    clear e9
    have HQ4 := Lib.hid (HQ3.out.kept h9)
    have HO4 := Lib.hid (HO3.out.next h9)
    clear h9 b0 b1 HQ3 HO3
    go_wp2
    go_ret
    exact ⟨by rw [HR.out]; rfl, HQ4.out, HO4.out⟩
  · have HR : Hid (pkB s k = 0) := Lib.hid (by subst hj; exact pkB_end hk hlt)
    rw [← hj] at HBL ⊢
    have i1 : ¬ (j : Int) < (s.size : Int) := by omega
    clear h hj hk
    go_enter Tryz.func43, Tryz.ntmps43
    go_upto_region 2 with (go_at_call 63; refine HBL.out.mono ?_; rintro r w2 ⟨rfl, hq, ho⟩; have HQ := Lib.hid hq; have HO := Lib.hid ho; clear hq ho)
    have b0 := Past.blk HQ.out.blk (j := 0) rfl
    have b1 := Past.blk HQ.out.blk (j := 1) rfl
    refine wp_region_past (by kernel_rfl) (by kernel_rfl) ?_
    repeat (go_big_quiet_step (fail))
    refine wpQuiet_nil ?_
    intro _ hw'
    obtain ⟨s9, hw''⟩ := hw'
    subst hw''
    obtain ⟨w3, h9, e9⟩ : ∃ w9, Below w2.heap.size w2 w9 ∧ w9 = s9.val := ⟨_, s9.h, rfl⟩
    rw [← e9]
    clear e9
    have HQ3 := Lib.hid (HQ.out.kept h9)
    have HO3 := Lib.hid (HO.out.next h9)
    clear h9 b0 b1 HQ HO
    go_wp2
    go_ret
    exact ⟨by rw [HR.out]; rfl, HQ3.out, HO3.out⟩
end Go.Proofs.YtdnoceancoclmaaGreatDoor.Ru

namespace Go.Proofs.YtdnoceancoclmaaGreatDoor.Ru
open Go.RowKit Go.Proofs.YtdnoceancoclmaaGreatDoor

theorem all_not {l : List UInt8} {p : UInt8 → Bool} {k : Nat} (hk : k < l.length) (h : p l[k] = false) : l.all p = false := by
  rw [← Bool.not_eq_true, List.all_eq_true]
  intro hh
  have := hh _ (List.getElem_mem hk)
  rw [h] at this
  cases this
set_option maxRecDepth 100000 in
set_option maxHeartbeats 2000000 in
theorem dname_any (m : Nat) (s : ByteArray) (w : World) (hm : m ≤ 1000) (hs : s.size ≤ 140737488351232) : Calls Tryz.prog 30 #[.string s, .int .i64 (m : Int)] w fun e w' => e = .returned (.bool (specM m s.data.toList)) ∧ w = w' := by
  obtain ⟨l, hl⟩ : ∃ l, l = s.data.toList := ⟨_, rfl⟩
  have hsz : s.size = l.length := by rw [hl]; simp
  have HG : Hid (∀ k (h1 : k < s.size) (h2 : k < l.length), s[k] = l[k]) := Lib.hid (fun k h1 h2 => by subst hl; rfl)
  rw [← hl]
  by_cases h0 : s.size < 1
  · have HR : Hid (specM m l = false) := Lib.hid (by unfold specM; rw [decide_eq_false (by omega)]; rfl)
    have e0 : decide ((s.size : Int) < 1) = true := by simp; omega
    clear hl hsz HG
    go_enter Tryz.func30, Tryz.ntmps30
    go_wp2
    go_ret
    exact ⟨ret_bool HR.out.symm, rfl⟩
  have e0 : decide ((s.size : Int) < 1) = false := by simp; omega
  by_cases h1 : m < s.size
  · have HR : Hid (specM m l = false) := Lib.hid (by unfold specM; rw [decide_eq_false (p := l.length ≤ m) (by omega)]; simp)
    have e1 : decide ((m : Int) < (s.size : Int)) = true := by simp; omega
    have e1' : decide (m < s.size) = true := by simp; omega
    clear hl hsz HG
    go_enter Tryz.func30, Tryz.ntmps30
    go_wp2
    go_ret
    exact ⟨ret_bool HR.out.symm, rfl⟩
  have e1 : decide ((m : Int) < (s.size : Int)) = false := by simp; omega
  have e1' : decide (m < s.size) = false := by simp; omega
  have i0 : 0 < s.size := by omega
  have i5 : (0 : Int) < (s.size : Int) := by omega
  obtain ⟨c0, hc0⟩ : ∃ c0, c0 = s[0] := ⟨_, rfl⟩
  have HC0 : Hid (hd lo l = lo c0) := Lib.hid (by
    rw [hc0, HG.out 0 i0 (by omega)]
    cases l with
    | nil => (have g9 : ([] : List UInt8).length = 0 := rfl; omega)
    | cons c r => rfl)
  have hcc : s[0] = c0 := hc0.symm
  have cb0 := c0.toNat_lt
  clear hc0
  by_cases h2 : c0.toNat < 97
  · have HR : Hid (specM m l = false) := Lib.hid (by unfold specM; rw [HC0.out, show lo c0 = false from by unfold lo; simp; omega]; simp)
    have e2 : decide ((c0.toNat : Int) < 97) = true := by simp; omega
    clear hl hsz HG
    go_enter Tryz.func30, Tryz.ntmps30
    go_wp2
    go_ret
    exact ⟨ret_bool HR.out.symm, rfl⟩
  have e2 : decide ((c0.toNat : Int) < 97) = false := by simp; omega
  by_cases h3 : 122 < c0.toNat
  · have HR : Hid (specM m l = false) := Lib.hid (by unfold specM; rw [HC0.out, show lo c0 = false from by unfold lo; simp; omega]; simp)
    have e3 : decide ((122 : Int) < (c0.toNat : Int)) = true := by simp; omega
    clear hl hsz HG
    go_enter Tryz.func30, Tryz.ntmps30
    go_wp2
    go_ret
    exact ⟨ret_bool HR.out.symm, rfl⟩
  have e3 : decide ((122 : Int) < (c0.toNat : Int)) = false := by simp; omega
  have HH : Hid (specM m l = l.all nmc) := Lib.hid (by unfold specM; rw [HC0.out, show lo c0 = true from by unfold lo; simp; omega, decide_eq_true (by omega), decide_eq_true (p := l.length ≤ m) (by omega)]; rfl)
  have HSZ := Lib.hid hsz
  have hl1 : l.length ≤ 1000 := by omega
  clear h2 h3 hl hsz h0 h1
  go_enter Tryz.func30, Tryz.ntmps30
  go_upto_region 4 with fail
  go_loopw [5] (fun i wr => wr = w ∧ ∃ k : Nat, k ≤ l.length ∧ i = .int .i64 (k : Int) ∧ Hid ((l.take k).all nmc = true)) (fun i _ => l.length - (intOf i).toNat)
  case atStart => exact ⟨rfl, 0, Nat.zero_le _, rfl, by simp [Hid]⟩
  case round =>
    obtain ⟨rfl, k, hk, rfl, HD⟩ := hrel
    by_cases hlt : k < l.length
    rotate_left
    · obtain rfl : k = l.length := by omega
      have i1 : ¬ ((l.length : Int) < (s.size : Int)) := by have := HSZ.out; omega
      have HR : Hid (specM m l = true) := Lib.hid (by rw [HH.out]; have := HD.out; rwa [List.take_length] at this)
      go_wp2
      go_ret
      exact ⟨ret_bool HR.out.symm, rfl⟩
    have i1 : (k : Int) < (s.size : Int) := by have := HSZ.out; omega
    have i2 : k < s.size := by have := HSZ.out; omega
    have i3 : (0 : Int) ≤ (k : Int) := by omega
    obtain ⟨c, hc⟩ : ∃ c, c = s[k] := ⟨_, rfl⟩
    have HCC : Hid (c = l[k]) := Lib.hid (by rw [hc]; exact HG.out k i2 hlt)
    have hck : s[k] = c := hc.symm
    have cb := c.toNat_lt
    clear hc
    by_cases g1 : c.toNat = 45
    · have d1 : decide ((97 : Int) ≤ (c.toNat : Int)) = false := by simp; omega
      have d2 : decide ((c.toNat : Int) ≤ 122) = true := by simp; omega
      have d3 : decide ((48 : Int) ≤ (c.toNat : Int)) = false := by simp; omega
      have d4 : decide ((c.toNat : Int) ≤ 57) = true := by simp; omega
      have d5 : ((c.toNat : Int) == 45) = true := by simp; omega
      have HN : Hid (nmc c = true) := Lib.hid (by unfold nmc lo dgt; simp; omega)
      clear g1
      go_wp2
      go_roundw
      case rel => exact ⟨(by first | rfl | trivial), k + 1, hlt, by go_num, Lib.hid (by rw [List.take_succ_eq_append_getElem hlt, List.all_append, HD.out, ← HCC.out]; simp [HN.out])⟩
      case measure => simp [intOf]; omega
    by_cases g2 : c.toNat < 48
    · have d1 : decide ((97 : Int) ≤ (c.toNat : Int)) = false := by simp; omega
      have d2 : decide ((c.toNat : Int) ≤ 122) = true := by simp; omega
      have d3 : decide ((48 : Int) ≤ (c.toNat : Int)) = false := by simp; omega
      have d4 : decide ((c.toNat : Int) ≤ 57) = true := by simp; omega
      have d5 : ((c.toNat : Int) == 45) = false := by simp; omega
      have HR : Hid (specM m l = false) := Lib.hid (by rw [HH.out]; exact all_not hlt (by rw [← HCC.out]; unfold nmc lo dgt; simp; omega))
      clear g1 g2
      go_wp2
      go_ret
      exact ⟨ret_bool HR.out.symm, rfl⟩
    by_cases g3 : c.toNat ≤ 57
    · have d1 : decide ((97 : Int) ≤ (c.toNat : Int)) = false := by simp; omega
      have d2 : decide ((c.toNat : Int) ≤ 122) = true := by simp; omega
      have d3 : decide ((48 : Int) ≤ (c.toNat : Int)) = true := by simp; omega
      have d4 : decide ((c.toNat : Int) ≤ 57) = true := by simp; omega
      have d5 : ((c.toNat : Int) == 45) = false := by simp; omega
      have HN : Hid (nmc c = true) := Lib.hid (by unfold nmc lo dgt; simp; omega)
      clear g1 g2 g3
      go_wp2
      go_roundw
      case rel => exact ⟨(by first | rfl | trivial), k + 1, hlt, by go_num, Lib.hid (by rw [List.take_succ_eq_append_getElem hlt, List.all_append, HD.out, ← HCC.out]; simp [HN.out])⟩
      case measure => simp [intOf]; omega
    by_cases g4 : c.toNat < 97
    · have d1 : decide ((97 : Int) ≤ (c.toNat : Int)) = false := by simp; omega
      have d2 : decide ((c.toNat : Int) ≤ 122) = true := by simp; omega
      have d3 : decide ((48 : Int) ≤ (c.toNat : Int)) = true := by simp; omega
      have d4 : decide ((c.toNat : Int) ≤ 57) = false := by simp; omega
      have d5 : ((c.toNat : Int) == 45) = false := by simp; omega
      have HR : Hid (specM m l = false) := Lib.hid (by rw [HH.out]; exact all_not hlt (by rw [← HCC.out]; unfold nmc lo dgt; simp; omega))
      clear g1 g2 g3 g4
      go_wp2
      go_ret
      exact ⟨ret_bool HR.out.symm, rfl⟩
    by_cases g5 : c.toNat ≤ 122
    · have d1 : decide ((97 : Int) ≤ (c.toNat : Int)) = true := by simp; omega
      have d2 : decide ((c.toNat : Int) ≤ 122) = true := by simp; omega
      have d3 : decide ((48 : Int) ≤ (c.toNat : Int)) = true := by simp; omega
      have d4 : decide ((c.toNat : Int) ≤ 57) = false := by simp; omega
      have d5 : ((c.toNat : Int) == 45) = false := by simp; omega
      have HN : Hid (nmc c = true) := Lib.hid (by unfold nmc lo dgt; simp; omega)
      clear g1 g2 g3 g4 g5
      go_wp2
      go_roundw
      case rel => exact ⟨(by first | rfl | trivial), k + 1, hlt, by go_num, Lib.hid (by rw [List.take_succ_eq_append_getElem hlt, List.all_append, HD.out, ← HCC.out]; simp [HN.out])⟩
      case measure => simp [intOf]; omega
    · have d1 : decide ((97 : Int) ≤ (c.toNat : Int)) = true := by simp; omega
      have d2 : decide ((c.toNat : Int) ≤ 122) = false := by simp; omega
      have d3 : decide ((48 : Int) ≤ (c.toNat : Int)) = true := by simp; omega
      have d4 : decide ((c.toNat : Int) ≤ 57) = false := by simp; omega
      have d5 : ((c.toNat : Int) == 45) = false := by simp; omega
      have HR : Hid (specM m l = false) := Lib.hid (by rw [HH.out]; exact all_not hlt (by rw [← HCC.out]; unfold nmc lo dgt; simp; omega))
      clear g1 g2 g3 g4 g5
      go_wp2
      go_ret
      exact ⟨ret_bool HR.out.symm, rfl⟩
set_option maxRecDepth 100000 in
set_option maxHeartbeats 2000000 in
theorem wordByte_any (c : UInt8) (w : World) : Calls Tryz.prog 49 #[.int .u8 (c.toNat : Int)] w fun e w' => e = .returned (.bool (wdc c)) ∧ w = w' := by
  have cb := c.toNat_lt
  by_cases g0 : c.toNat < 45
  · have d1 : decide ((97 : Int) ≤ (c.toNat : Int)) = false := by simp; omega
    have d2 : decide ((c.toNat : Int) ≤ 122) = true := by simp; omega
    have d3 : decide ((65 : Int) ≤ (c.toNat : Int)) = false := by simp; omega
    have d4 : decide ((c.toNat : Int) ≤ 90) = true := by simp; omega
    have d5 : decide ((48 : Int) ≤ (c.toNat : Int)) = false := by simp; omega
    have d6 : decide ((c.toNat : Int) ≤ 57) = true := by simp; omega
    have d7 : ((c.toNat : Int) == 45) = false := by simp; omega
    have d8 : ((c.toNat : Int) == 95) = false := by simp; omega
    have d9 : ((c.toNat : Int) == 46) = false := by simp; omega
    have HR : Hid (wdc c = false) := Lib.hid (by unfold wdc lo up dgt; simp; omega)
    clear cb g0
    go_enter Tryz.func49, Tryz.ntmps49
    go_wp2
    go_ret
    exact ⟨ret_bool HR.out.symm, rfl⟩
  by_cases g1 : c.toNat = 45
  · have d1 : decide ((97 : Int) ≤ (c.toNat : Int)) = false := by simp; omega
    have d2 : decide ((c.toNat : Int) ≤ 122) = true := by simp; omega
    have d3 : decide ((65 : Int) ≤ (c.toNat : Int)) = false := by simp; omega
    have d4 : decide ((c.toNat : Int) ≤ 90) = true := by simp; omega
    have d5 : decide ((48 : Int) ≤ (c.toNat : Int)) = false := by simp; omega
    have d6 : decide ((c.toNat : Int) ≤ 57) = true := by simp; omega
    have d7 : ((c.toNat : Int) == 45) = true := by simp; omega
    have d8 : ((c.toNat : Int) == 95) = false := by simp; omega
    have d9 : ((c.toNat : Int) == 46) = false := by simp; omega
    have HR : Hid (wdc c = true) := Lib.hid (by unfold wdc lo up dgt; simp; omega)
    clear cb g0 g1
    go_enter Tryz.func49, Tryz.ntmps49
    go_wp2
    go_ret
    exact ⟨ret_bool HR.out.symm, rfl⟩
  by_cases g2 : c.toNat = 46
  · have d1 : decide ((97 : Int) ≤ (c.toNat : Int)) = false := by simp; omega
    have d2 : decide ((c.toNat : Int) ≤ 122) = true := by simp; omega
    have d3 : decide ((65 : Int) ≤ (c.toNat : Int)) = false := by simp; omega
    have d4 : decide ((c.toNat : Int) ≤ 90) = true := by simp; omega
    have d5 : decide ((48 : Int) ≤ (c.toNat : Int)) = false := by simp; omega
    have d6 : decide ((c.toNat : Int) ≤ 57) = true := by simp; omega
    have d7 : ((c.toNat : Int) == 45) = false := by simp; omega
    have d8 : ((c.toNat : Int) == 95) = false := by simp; omega
    have d9 : ((c.toNat : Int) == 46) = true := by simp; omega
    have HR : Hid (wdc c = true) := Lib.hid (by unfold wdc lo up dgt; simp; omega)
    clear cb g0 g1 g2
    go_enter Tryz.func49, Tryz.ntmps49
    go_wp2
    go_ret
    exact ⟨ret_bool HR.out.symm, rfl⟩
  by_cases g3 : c.toNat < 48
  · have d1 : decide ((97 : Int) ≤ (c.toNat : Int)) = false := by simp; omega
    have d2 : decide ((c.toNat : Int) ≤ 122) = true := by simp; omega
    have d3 : decide ((65 : Int) ≤ (c.toNat : Int)) = false := by simp; omega
    have d4 : decide ((c.toNat : Int) ≤ 90) = true := by simp; omega
    have d5 : decide ((48 : Int) ≤ (c.toNat : Int)) = false := by simp; omega
    have d6 : decide ((c.toNat : Int) ≤ 57) = true := by simp; omega
    have d7 : ((c.toNat : Int) == 45) = false := by simp; omega
    have d8 : ((c.toNat : Int) == 95) = false := by simp; omega
    have d9 : ((c.toNat : Int) == 46) = false := by simp; omega
    have HR : Hid (wdc c = false) := Lib.hid (by unfold wdc lo up dgt; simp; omega)
    clear cb g0 g1 g2 g3
    go_enter Tryz.func49, Tryz.ntmps49
    go_wp2
    go_ret
    exact ⟨ret_bool HR.out.symm, rfl⟩
  by_cases g4 : c.toNat ≤ 57
  · have d1 : decide ((97 : Int) ≤ (c.toNat : Int)) = false := by simp; omega
    have d2 : decide ((c.toNat : Int) ≤ 122) = true := by simp; omega
    have d3 : decide ((65 : Int) ≤ (c.toNat : Int)) = false := by simp; omega
    have d4 : decide ((c.toNat : Int) ≤ 90) = true := by simp; omega
    have d5 : decide ((48 : Int) ≤ (c.toNat : Int)) = true := by simp; omega
    have d6 : decide ((c.toNat : Int) ≤ 57) = true := by simp; omega
    have d7 : ((c.toNat : Int) == 45) = false := by simp; omega
    have d8 : ((c.toNat : Int) == 95) = false := by simp; omega
    have d9 : ((c.toNat : Int) == 46) = false := by simp; omega
    have HR : Hid (wdc c = true) := Lib.hid (by unfold wdc lo up dgt; simp; omega)
    clear cb g0 g1 g2 g3 g4
    go_enter Tryz.func49, Tryz.ntmps49
    go_wp2
    go_ret
    exact ⟨ret_bool HR.out.symm, rfl⟩
  by_cases g5 : c.toNat < 65
  · have d1 : decide ((97 : Int) ≤ (c.toNat : Int)) = false := by simp; omega
    have d2 : decide ((c.toNat : Int) ≤ 122) = true := by simp; omega
    have d3 : decide ((65 : Int) ≤ (c.toNat : Int)) = false := by simp; omega
    have d4 : decide ((c.toNat : Int) ≤ 90) = true := by simp; omega
    have d5 : decide ((48 : Int) ≤ (c.toNat : Int)) = true := by simp; omega
    have d6 : decide ((c.toNat : Int) ≤ 57) = false := by simp; omega
    have d7 : ((c.toNat : Int) == 45) = false := by simp; omega
    have d8 : ((c.toNat : Int) == 95) = false := by simp; omega
    have d9 : ((c.toNat : Int) == 46) = false := by simp; omega
    have HR : Hid (wdc c = false) := Lib.hid (by unfold wdc lo up dgt; simp; omega)
    clear cb g0 g1 g2 g3 g4 g5
    go_enter Tryz.func49, Tryz.ntmps49
    go_wp2
    go_ret
    exact ⟨ret_bool HR.out.symm, rfl⟩
  by_cases g6 : c.toNat ≤ 90
  · have d1 : decide ((97 : Int) ≤ (c.toNat : Int)) = false := by simp; omega
    have d2 : decide ((c.toNat : Int) ≤ 122) = true := by simp; omega
    have d3 : decide ((65 : Int) ≤ (c.toNat : Int)) = true := by simp; omega
    have d4 : decide ((c.toNat : Int) ≤ 90) = true := by simp; omega
    have d5 : decide ((48 : Int) ≤ (c.toNat : Int)) = true := by simp; omega
    have d6 : decide ((c.toNat : Int) ≤ 57) = false := by simp; omega
    have d7 : ((c.toNat : Int) == 45) = false := by simp; omega
    have d8 : ((c.toNat : Int) == 95) = false := by simp; omega
    have d9 : ((c.toNat : Int) == 46) = false := by simp; omega
    have HR : Hid (wdc c = true) := Lib.hid (by unfold wdc lo up dgt; simp; omega)
    clear cb g0 g1 g2 g3 g4 g5 g6
    go_enter Tryz.func49, Tryz.ntmps49
    go_wp2
    go_ret
    exact ⟨ret_bool HR.out.symm, rfl⟩
  by_cases g7 : c.toNat < 95
  · have d1 : decide ((97 : Int) ≤ (c.toNat : Int)) = false := by simp; omega
    have d2 : decide ((c.toNat : Int) ≤ 122) = true := by simp; omega
    have d3 : decide ((65 : Int) ≤ (c.toNat : Int)) = true := by simp; omega
    have d4 : decide ((c.toNat : Int) ≤ 90) = false := by simp; omega
    have d5 : decide ((48 : Int) ≤ (c.toNat : Int)) = true := by simp; omega
    have d6 : decide ((c.toNat : Int) ≤ 57) = false := by simp; omega
    have d7 : ((c.toNat : Int) == 45) = false := by simp; omega
    have d8 : ((c.toNat : Int) == 95) = false := by simp; omega
    have d9 : ((c.toNat : Int) == 46) = false := by simp; omega
    have HR : Hid (wdc c = false) := Lib.hid (by unfold wdc lo up dgt; simp; omega)
    clear cb g0 g1 g2 g3 g4 g5 g6 g7
    go_enter Tryz.func49, Tryz.ntmps49
    go_wp2
    go_ret
    exact ⟨ret_bool HR.out.symm, rfl⟩
  by_cases g8 : c.toNat = 95
  · have d1 : decide ((97 : Int) ≤ (c.toNat : Int)) = false := by simp; omega
    have d2 : decide ((c.toNat : Int) ≤ 122) = true := by simp; omega
    have d3 : decide ((65 : Int) ≤ (c.toNat : Int)) = true := by simp; omega
    have d4 : decide ((c.toNat : Int) ≤ 90) = false := by simp; omega
    have d5 : decide ((48 : Int) ≤ (c.toNat : Int)) = true := by simp; omega
    have d6 : decide ((c.toNat : Int) ≤ 57) = false := by simp; omega
    have d7 : ((c.toNat : Int) == 45) = false := by simp; omega
    have d8 : ((c.toNat : Int) == 95) = true := by simp; omega
    have d9 : ((c.toNat : Int) == 46) = false := by simp; omega
    have HR : Hid (wdc c = true) := Lib.hid (by unfold wdc lo up dgt; simp; omega)
    clear cb g0 g1 g2 g3 g4 g5 g6 g7 g8
    go_enter Tryz.func49, Tryz.ntmps49
    go_wp2
    go_ret
    exact ⟨ret_bool HR.out.symm, rfl⟩
  by_cases g9 : c.toNat < 97
  · have d1 : decide ((97 : Int) ≤ (c.toNat : Int)) = false := by simp; omega
    have d2 : decide ((c.toNat : Int) ≤ 122) = true := by simp; omega
    have d3 : decide ((65 : Int) ≤ (c.toNat : Int)) = true := by simp; omega
    have d4 : decide ((c.toNat : Int) ≤ 90) = false := by simp; omega
    have d5 : decide ((48 : Int) ≤ (c.toNat : Int)) = true := by simp; omega
    have d6 : decide ((c.toNat : Int) ≤ 57) = false := by simp; omega
    have d7 : ((c.toNat : Int) == 45) = false := by simp; omega
    have d8 : ((c.toNat : Int) == 95) = false := by simp; omega
    have d9 : ((c.toNat : Int) == 46) = false := by simp; omega
    have HR : Hid (wdc c = false) := Lib.hid (by unfold wdc lo up dgt; simp; omega)
    clear cb g0 g1 g2 g3 g4 g5 g6 g7 g8 g9
    go_enter Tryz.func49, Tryz.ntmps49
    go_wp2
    go_ret
    exact ⟨ret_bool HR.out.symm, rfl⟩
  by_cases g10 : c.toNat ≤ 122
  · have d1 : decide ((97 : Int) ≤ (c.toNat : Int)) = true := by simp; omega
    have d2 : decide ((c.toNat : Int) ≤ 122) = true := by simp; omega
    have d3 : decide ((65 : Int) ≤ (c.toNat : Int)) = true := by simp; omega
    have d4 : decide ((c.toNat : Int) ≤ 90) = false := by simp; omega
    have d5 : decide ((48 : Int) ≤ (c.toNat : Int)) = true := by simp; omega
    have d6 : decide ((c.toNat : Int) ≤ 57) = false := by simp; omega
    have d7 : ((c.toNat : Int) == 45) = false := by simp; omega
    have d8 : ((c.toNat : Int) == 95) = false := by simp; omega
    have d9 : ((c.toNat : Int) == 46) = false := by simp; omega
    have HR : Hid (wdc c = true) := Lib.hid (by unfold wdc lo up dgt; simp; omega)
    clear cb g0 g1 g2 g3 g4 g5 g6 g7 g8 g9 g10
    go_enter Tryz.func49, Tryz.ntmps49
    go_wp2
    go_ret
    exact ⟨ret_bool HR.out.symm, rfl⟩
  have d1 : decide ((97 : Int) ≤ (c.toNat : Int)) = true := by simp; omega
  have d2 : decide ((c.toNat : Int) ≤ 122) = false := by simp; omega
  have d3 : decide ((65 : Int) ≤ (c.toNat : Int)) = true := by simp; omega
  have d4 : decide ((c.toNat : Int) ≤ 90) = false := by simp; omega
  have d5 : decide ((48 : Int) ≤ (c.toNat : Int)) = true := by simp; omega
  have d6 : decide ((c.toNat : Int) ≤ 57) = false := by simp; omega
  have d7 : ((c.toNat : Int) == 45) = false := by simp; omega
  have d8 : ((c.toNat : Int) == 95) = false := by simp; omega
  have d9 : ((c.toNat : Int) == 46) = false := by simp; omega
  have HR : Hid (wdc c = false) := Lib.hid (by unfold wdc lo up dgt; simp; omega)
  clear cb g0 g1 g2 g3 g4 g5 g6 g7 g8 g9 g10
  go_enter Tryz.func49, Tryz.ntmps49
  go_wp2
  go_ret
  exact ⟨ret_bool HR.out.symm, rfl⟩
set_option maxRecDepth 100000 in
set_option maxHeartbeats 2000000 in
theorem word_any' (l : List UInt8) (w : World) (hs : l.length ≤ 140737488351232) : Calls Tryz.prog 31 #[.string (bs l)] w fun e w' => e = .returned (.bool (wrdB l)) ∧ w = w' := by
  obtain ⟨s, hs0⟩ : ∃ s, s = bs l := ⟨_, rfl⟩
  have hsz : s.size = l.length := by rw [hs0]; simp [bs, ByteArray.size]
  have HG : Hid (∀ k (h1 : k < s.size) (h2 : k < l.length), s[k] = l[k]) := Lib.hid (fun k h1 h2 => by subst hs0; rfl)
  rw [← hs0]
  have HSZ := Lib.hid hsz
  clear hs0 hsz
  go_enter Tryz.func31, Tryz.ntmps31
  go_upto_region 2 with fail
  go_loopw [3] (fun i wr => wr = w ∧ ∃ k : Nat, k ≤ l.length ∧ i = .int .i64 (k : Int) ∧ Hid ((l.take k).all wdc = true)) (fun i _ => l.length - (intOf i).toNat)
  case atStart => exact ⟨rfl, 0, Nat.zero_le _, rfl, by simp [Hid]⟩
  case round =>
    obtain ⟨rfl, k, hk, rfl, HD⟩ := hrel
    by_cases hlt : k < l.length
    rotate_left
    · obtain rfl : k = l.length := by omega
      have i1 : ¬ ((l.length : Int) < (s.size : Int)) := by have := HSZ.out; omega
      have HA : Hid (l.all wdc = true) := Lib.hid (by have := HD.out; rwa [List.take_length] at this)
      by_cases g1 : 1 ≤ s.size
      · by_cases g2 : s.size ≤ 32
        · have HR : Hid (wrdB l = true) := Lib.hid (by unfold wrdB; rw [HA.out, decide_eq_true (by have := HSZ.out; omega), decide_eq_true (by have := HSZ.out; omega)]; rfl)
          have e1 : decide ((1 : Int) ≤ (s.size : Int)) = true := by simp; omega
          have e2 : decide ((s.size : Int) ≤ 32) = true := by simp; omega
          go_wp2
          go_ret
          exact ⟨ret_bool HR.out.symm, rfl⟩
        · have HR : Hid (wrdB l = false) := Lib.hid (by unfold wrdB; rw [decide_eq_false (p := l.length ≤ 32) (by have := HSZ.out; omega)]; simp)
          have e1 : decide ((1 : Int) ≤ (s.size : Int)) = true := by simp; omega
          have e2 : decide ((s.size : Int) ≤ 32) = false := by simp; omega
          go_wp2
          go_ret
          exact ⟨ret_bool HR.out.symm, rfl⟩
      · have HR : Hid (wrdB l = false) := Lib.hid (by unfold wrdB; rw [decide_eq_false (p := 1 ≤ l.length) (by have := HSZ.out; omega)]; simp)
        have e1 : decide ((1 : Int) ≤ (s.size : Int)) = false := by simp; omega
        go_wp2
        go_ret
        exact ⟨ret_bool HR.out.symm, rfl⟩
    have i1 : (k : Int) < (s.size : Int) := by have := HSZ.out; omega
    have i2 : k < s.size := by have := HSZ.out; omega
    have i3 : (0 : Int) ≤ (k : Int) := by omega
    obtain ⟨c, hc⟩ : ∃ c, c = s[k] := ⟨_, rfl⟩
    have HCC : Hid (c = l[k]) := Lib.hid (by rw [hc]; exact HG.out k i2 hlt)
    have hck : s[k] = c := hc.symm
    clear hc
    obtain ⟨q, hq⟩ : ∃ q, q = wdc c := ⟨_, rfl⟩
    have HW : Hid (∀ w, Calls Tryz.prog 49 #[.int .u8 (c.toNat : Int)] w fun e w' => e = .returned (.bool q) ∧ w = w') := Lib.hid (fun w => by rw [hq]; exact wordByte_any c w)
    have HQ := Lib.hid hq
    clear hq
    cases q
    · have HR : Hid (wrdB l = false) := Lib.hid (by unfold wrdB; rw [all_not hlt (by rw [← HCC.out]; exact HQ.out.symm)]; rfl)
      go_wp2_with (go_at_call 49; refine (HW.out _).mono ?_; rintro e w2 ⟨rfl, rfl⟩)
      go_ret
      exact ⟨ret_bool HR.out.symm, rfl⟩
    · go_wp2_with (go_at_call 49; refine (HW.out _).mono ?_; rintro e w2 ⟨rfl, rfl⟩)
      go_roundw
      case rel => exact ⟨(by first | rfl | trivial), k + 1, hlt, by go_num, Lib.hid (by rw [List.take_succ_eq_append_getElem hlt, List.all_append, HD.out, ← HCC.out]; simp [← HQ.out])⟩
      case measure => simp [intOf]; omega
end Go.Proofs.YtdnoceancoclmaaGreatDoor.Ru

namespace Go.Proofs.YtdnoceancoclmaaGreatDoor.Ru
open Go.RowKit Go.Proofs.YtdnoceancoclmaaGreatDoor

theorem runW_run (r : List UInt8) : runW r = run (r.length + 1) wdc r := by unfold runW run; rw [List.take_of_length_le (by omega)]
theorem runW_spec {s : ByteArray} {k : Nat} (hk : k ≤ s.size) : k + (runW (rest s k)).length ≤ s.size ∧
    (∀ i (h : k + i < s.size), i < (runW (rest s k)).length → wdc s[k + i] = true) ∧ (∀ h : k + (runW (rest s k)).length < s.size, wdc s[k + (runW (rest s k)).length] = false) ∧
    s.extract k (k + (runW (rest s k)).length) = bs (runW (rest s k)) := by
  have h0 := runW_run (rest s k)
  obtain ⟨g1, g2, g3, g4⟩ := run_spec (m := (rest s k).length + 1) (p := wdc) hk
  refine ⟨by rw [h0]; exact g1, fun i h hi => g3 i h (by rw [← h0]; exact hi), fun h => ?_, ?_⟩
  · have h9 := runW_len (rest s k)
    have := g4 (by rw [← h0]; exact h) (by rw [← h0]; omega)
    simp only [← h0] at this
    exact this
  · rw [bs_sub]
    congr 1
    have := run_take ((rest s k).length + 1) wdc (rest s k)
    rw [← h0] at this
    exact this.symm
theorem hdw_rest {s : ByteArray} {j : Nat} (p : UInt8 → Bool) (h : j < s.size) : hd p (rest s j) = p s[j] := by
  rw [rest_at h]; rfl
theorem hdw_end {s : ByteArray} {j : Nat} (p : UInt8 → Bool) (hj : j ≤ s.size) (h : ¬ j < s.size) : hd p (rest s j) = false := by
  have : j = s.size := by omega
  rw [this, rest_end]; rfl
/-- what is read as a name is none -/
def badN (s : ByteArray) (k : Nat) : Bool := decide ((nmR (rest s k)).length = 0) || hd wdc (rest s (k + (nmR (rest s k)).length))
theorem nm_sub {s : ByteArray} {k i : Nat} : (s.extract k (k + i)).data.toList = (rest s k).take i := by
  rw [bs_sub]; simp [bs]
set_option maxRecDepth 100000 in
set_option maxHeartbeats 2000000 in
theorem drun_any {base b : Nat} {s : ByteArray} {k : Nat} {n : Int} {v : Value} {L : List Nd} {bd : Bool} {e a : Int} {w : World} (h : Dp base w b s k v L bd e a n) (hk : k ≤ s.size) : Calls Tryz.prog 126 #[ptr b] w fun r w' => r = .returned (.string (bs (runW (rest s k)))) ∧ Dp base w' b s (k + (runW (rest s k)).length) v L bd e a n ∧ Onb b w w' := by
  obtain ⟨g1, g3, g4, g5⟩ := runW_spec hk
  obtain ⟨t, ht⟩ : ∃ t, t = bs (runW (rest s k)) := ⟨_, rfl⟩
  obtain ⟨l, hl⟩ : ∃ l, l = (runW (rest s k)).length := ⟨_, rfl⟩
  have HEX : Hid (s.extract k (k + l) = t) := Lib.hid (by rw [ht, hl, g5])
  rw [← ht, ← hl]
  rw [← hl] at g1
  have HYES : Hid (∀ i (h : k + i < s.size), i < l → wdc s[k + i] = true) := Lib.hid (fun i h hi => g3 i h (by omega))
  have HNO : Hid (∀ h : k + l < s.size, wdc s[k + l] = false) := Lib.hid (by subst hl; exact g4)
  have HPC : Hid (∀ (c : UInt8) w, Calls Tryz.prog 49 #[.int .u8 (c.toNat : Int)] w fun e w' => e = .returned (.bool (wdc c)) ∧ w = w') := Lib.hid wordByte_any
  have H := Lib.hid h
  have hsz := h.sz
  have c1 := h.blk.cell (j := 1) rfl
  clear h g3 g4 g5 ht hl
  go_enter Tryz.func126, Tryz.ntmps126
  go_wp2
  go_loopw [] (fun wr => ∃ i : Nat, i ≤ l ∧ Hid (Dp base wr b s (k + i) v L bd e a n) ∧ Hid (Onb b w wr)) (fun wr => k + l - (intOf ((wr.cell? ⟨b, 1, none⟩).getD undef)).toNat)
  case atStart => exact ⟨0, Nat.zero_le _, H, Lib.hid (Frp.refl _ _)⟩
  case round =>
    obtain ⟨i, h2, HP, HF⟩ := hrel
    obtain ⟨j, hj⟩ : ∃ j, j = k + i := ⟨_, rfl⟩
    rw [← hj] at HP
    have HJ := Lib.hid hj
    have hkj : k ≤ j ∧ j ≤ s.size ∧ j - k = i := by omega
    obtain ⟨k1, k2, k3⟩ := hkj
    clear hj
    have b0 := Past.blk HP.out.blk (j := 0) rfl
    have b1 := Past.blk HP.out.blk (j := 1) rfl
    have i0 : (0 : Int) ≤ (j : Int) := by omega
    by_cases hlt : i < l
    · have i2 : j < s.size := by have := HJ.out; omega
      have i1 : (j : Int) < (s.size : Int) := by omega
      obtain ⟨c, hc⟩ : ∃ c, c = s[j] := ⟨_, rfl⟩
      have hcc : s[j] = c := hc.symm
      have t1 : wdc c = true := by rw [hc]; have := HJ.out; subst this; exact HYES.out i i2 hlt
      clear hc
      go_wp2
      refine wp_region_past (by kernel_rfl) (by kernel_rfl) ?_
      repeat (go_big_quiet_step ((go_at_call 49; exact past_call_same (HPC.out _ _))))
      refine wpQuiet_nil ?_
      intro _ hw'
      obtain ⟨s9, hw''⟩ := hw'
      subst hw''
      obtain ⟨w9, h9, e9⟩ : ∃ wq, Below wr.heap.size wr wq ∧ wq = s9.val := ⟨_, s9.h, rfl⟩
      rw [← e9]
      clear e9
      have HN := Lib.hid (HP.out.kept h9)
      have HF9 : Hid (Onb b w w9) := Lib.hid (HF.out.next h9)
      clear h9 b0 b1
      have c1 := HN.out.blk.cell (j := 1) rfl
      have f1 := HN.out.blk.free 1
      go_wp2
      go_roundw
      case rel => exact ⟨i + 1, hlt, Lib.hid (by have := HN.out.at (k + (i + 1)); rw [HJ.out]; simpa [Int.add_assoc] using this), Lib.hid (Onb.set HF9.out 1 _)⟩
      case measure =>
        have e1 := HP.out.blk.cell (j := 1) rfl
        have e2 := (HN.out.blk.set 1 (.int .i64 ((j : Int) + 1))).cell (j := 1) rfl
        rw [e1, e2]
        simp [intOf]; omega
    · obtain rfl : l = i := by omega
      have j1 : (k : Int) ≤ (j : Int) := by omega
      have j2 : (j : Int) ≤ (s.size : Int) := by omega
      have hj := HJ.out
      rw [← hj] at HEX ⊢
      clear hj
      by_cases hin : j < s.size
      · have i1 : (j : Int) < (s.size : Int) := by omega
        obtain ⟨c, hc⟩ : ∃ c, c = s[j] := ⟨_, rfl⟩
        have hcc : s[j] = c := hc.symm
        have t1 : wdc c = false := by rw [hc]; have := HJ.out; subst this; exact HNO.out hin
        clear hc
        go_wp2
        refine wp_region_past (by kernel_rfl) (by kernel_rfl) ?_
        repeat (go_big_quiet_step ((go_at_call 49; exact past_call_same (HPC.out _ _))))
        refine wpQuiet_nil ?_
        intro _ hw'
        obtain ⟨s9, hw''⟩ := hw'
        subst hw''
        obtain ⟨w9, h9, e9⟩ : ∃ wq, Below wr.heap.size wr wq ∧ wq = s9.val := ⟨_, s9.h, rfl⟩
        rw [← e9]
        clear e9
        have HN := Lib.hid (HP.out.kept h9)
        have HF9 : Hid (Onb b w w9) := Lib.hid (HF.out.next h9)
        clear h9 b0 b1
        go_upto_region 4 with fail
        have b0 := Past.blk HN.out.blk (j := 0) rfl
        have b1 := Past.blk HN.out.blk (j := 1) rfl
        refine wp_region_past (by kernel_rfl) (by kernel_rfl) ?_
        repeat (go_big_quiet_step (fail))
        refine wpQuiet_nil ?_
        intro _ hw'
        obtain ⟨s9, hw''⟩ := hw'
        subst hw''
        obtain ⟨w8, h9, e9⟩ : ∃ wq, Below w9.heap.size w9 wq ∧ wq = s9.val := ⟨_, s9.h, rfl⟩
        rw [← e9]
        clear e9
        have H8 := Lib.hid (HN.out.kept h9)
        have HF8 : Hid (Onb b w w8) := Lib.hid (HF9.out.next h9)
        clear h9 b0 b1
        go_wp2
        go_ret
        exact ⟨(by rw [HEX.out]; rfl), (by rw [← HJ.out]; exact H8.out), HF8.out⟩
      · have i1 : ¬ (j : Int) < (s.size : Int) := by omega
        go_wp2
        refine wp_region_past (by kernel_rfl) (by kernel_rfl) ?_
        repeat (go_big_quiet_step (fail))
        refine wpQuiet_nil ?_
        intro _ hw'
        obtain ⟨s9, hw''⟩ := hw'
        subst hw''
        obtain ⟨w9, h9, e9⟩ : ∃ wq, Below wr.heap.size wr wq ∧ wq = s9.val := ⟨_, s9.h, rfl⟩
        rw [← e9]
        clear e9
        have HN := Lib.hid (HP.out.kept h9)
        have HF9 : Hid (Onb b w w9) := Lib.hid (HF.out.next h9)
        clear h9 b0 b1
        go_upto_region 4 with fail
        have b0 := Past.blk HN.out.blk (j := 0) rfl
        have b1 := Past.blk HN.out.blk (j := 1) rfl
        refine wp_region_past (by kernel_rfl) (by kernel_rfl) ?_
        repeat (go_big_quiet_step (fail))
        refine wpQuiet_nil ?_
        intro _ hw'
        obtain ⟨s9, hw''⟩ := hw'
        subst hw''
        obtain ⟨w8, h9, e9⟩ : ∃ wq, Below w9.heap.size w9 wq ∧ wq = s9.val := ⟨_, s9.h, rfl⟩
        rw [← e9]
        clear e9
        have H8 := Lib.hid (HN.out.kept h9)
        have HF8 : Hid (Onb b w w8) := Lib.hid (HF9.out.next h9)
        clear h9 b0 b1
        go_wp2
        go_ret
        exact ⟨(by rw [HEX.out]; rfl), (by rw [← HJ.out]; exact H8.out), HF8.out⟩
set_option maxRecDepth 100000 in
set_option maxHeartbeats 2000000 in
theorem dpname_any {base b : Nat} {s : ByteArray} {k : Nat} {n : Int} {v : Value} {L : List Nd} {bd : Bool} {e a : Int} {w : World} (h : Dp base w b s k v L bd e a n) (hk : k ≤ s.size) : Calls Tryz.prog 118 #[ptr b] w fun r w' => r = .returned (.string (bs (nmR (rest s k)))) ∧ Dq base w' b s (k + (nmR (rest s k)).length) v L (bd || badN s k) n ∧ Onb b w w' := by
  obtain ⟨l, hl⟩ : ∃ l, l = (nmR (rest s k)).length := ⟨_, rfl⟩
  have hl2 := nmR_len (rest s k)
  rw [← hl, rest_len] at hl2
  have g1 : k + l ≤ s.size := by omega
  have g2 : l ≤ 24 := hl2.1
  obtain ⟨t, ht⟩ : ∃ t, t = bs (nmR (rest s k)) := ⟨_, rfl⟩
  have HEX : Hid (s.extract k (k + l) = t) := Lib.hid (by rw [ht, bs_sub, hl, nmR_take])
  have HB : Hid (badN s k = (decide (l = 0) || hd wdc (rest s (k + l)))) := Lib.hid (by unfold badN; rw [← hl])
  have HYES : Hid (∀ i, i < l → specM 24 ((rest s k).take (i + 1)) = true) := Lib.hid (fun i hi => nmR_pre (by rw [← hl]; exact hi))
  have HNO : Hid (k + l < s.size → specM 24 ((rest s k).take (l + 1)) = false) := Lib.hid (fun hi => by rw [hl]; exact nmR_more (by rw [← hl, rest_len]; omega))
  rw [← ht, ← hl]
  obtain ⟨B, hB⟩ : ∃ B, B = badN s k := ⟨_, rfl⟩
  rw [← hB] at HB ⊢
  have HPC : Hid (∀ (c : UInt8) w, Calls Tryz.prog 49 #[.int .u8 (c.toNat : Int)] w fun e w' => e = .returned (.bool (wdc c)) ∧ w = w') := Lib.hid wordByte_any
  have H := Lib.hid h
  have hsz := h.sz
  have c1 := h.blk.cell (j := 1) rfl
  clear h ht hl hl2 hB
  go_enter Tryz.func118, Tryz.ntmps118
  go_wp2
  go_loopw [] (fun wr => ∃ i : Nat, i ≤ l ∧ Hid (Dp base wr b s (k + i) v L bd e a n) ∧ Hid (Onb b w wr)) (fun wr => k + l - (intOf ((wr.cell? ⟨b, 1, none⟩).getD undef)).toNat)
  case atStart => exact ⟨0, Nat.zero_le _, H, Lib.hid (Frp.refl _ _)⟩
  case round =>
    obtain ⟨i, h2, HP, HF⟩ := hrel
    obtain ⟨j, hj⟩ : ∃ j, j = k + i := ⟨_, rfl⟩
    rw [← hj] at HP
    have HJ := Lib.hid hj
    have hkj : k ≤ j ∧ j ≤ s.size ∧ j - k = i := by omega
    obtain ⟨k1, k2, k3⟩ := hkj
    clear hj
    have b0 := Past.blk HP.out.blk (j := 0) rfl
    have b1 := Past.blk HP.out.blk (j := 1) rfl
    have i0 : (0 : Int) ≤ (j : Int) := by omega
    have j1 : (k : Int) ≤ (j : Int) := by omega
    have j2 : (j : Int) ≤ (s.size : Int) := by omega
    have j3 : (k : Int) ≤ (j : Int) + 1 := by omega
    have i9 : (0 : Int) ≤ (k : Int) := by omega
    have u1 : IntKind.i64.wrap ((j : Int) + 1) = (j : Int) + 1 := by rw [IntKind.wrap_i64]; omega
    have HSL : Hid ((s.extract k (j + 1)).data.toList = (rest s k).take (i + 1)) := Lib.hid (by have := HJ.out; rw [this, Nat.add_assoc]; exact nm_sub)
    have hsl : (s.extract k (j + 1)).size ≤ 140737488351232 := by rw [ByteArray.size_extract]; omega
    obtain ⟨q, hq⟩ : ∃ q, q = specM 24 ((rest s k).take (i + 1)) := ⟨_, rfl⟩
    have HNM : Hid (∀ w, Calls Tryz.prog 30 #[.string (s.extract k (j + 1)), .int .i64 24] w fun e w' => e = .returned (.bool q) ∧ w = w') := Lib.hid (fun w => by rw [hq, ← HSL.out]; exact dname_any 24 _ w (by omega) hsl)
    have HQ := Lib.hid hq
    clear hq hsl
    by_cases hlt : i < l
    · have i2 : j < s.size := by have := HJ.out; omega
      have i1 : (j : Int) < (s.size : Int) := by omega
      have j4 : (j : Int) + 1 ≤ (s.size : Int) := by omega
      obtain rfl : q = true := by rw [HQ.out]; exact HYES.out i hlt
      go_wp2
      refine wp_region_past (by kernel_rfl) (by kernel_rfl) ?_
      repeat (go_big_quiet_step ((go_at_call 30; exact past_call_same (HNM.out _))))
      refine wpQuiet_nil ?_
      intro _ hw'
      obtain ⟨s9, hw''⟩ := hw'
      subst hw''
      obtain ⟨w9, h9, e9⟩ : ∃ wq, Below wr.heap.size wr wq ∧ wq = s9.val := ⟨_, s9.h, rfl⟩
      rw [← e9]
      clear e9
      have HN := Lib.hid (HP.out.kept h9)
      have HF9 : Hid (Onb b w w9) := Lib.hid (HF.out.next h9)
      clear h9 b0 b1
      have c1 := HN.out.blk.cell (j := 1) rfl
      have f1 := HN.out.blk.free 1
      go_wp2
      go_roundw
      case rel => exact ⟨i + 1, hlt, Lib.hid (by have := HN.out.at (k + (i + 1)); rw [HJ.out]; simpa [Int.add_assoc] using this), Lib.hid (Onb.set HF9.out 1 _)⟩
      case measure =>
        have e1 := HP.out.blk.cell (j := 1) rfl
        have e2 := (HN.out.blk.set 1 (.int .i64 ((j : Int) + 1))).cell (j := 1) rfl
        rw [e1, e2]
        simp [intOf]; omega
    · obtain rfl : l = i := by omega
      have hj := HJ.out
      rw [← hj] at HEX ⊢
      clear hj
      by_cases hin : j < s.size
      · have i1 : (j : Int) < (s.size : Int) := by omega
        have j4 : (j : Int) + 1 ≤ (s.size : Int) := by omega
        obtain rfl : q = false := by rw [HQ.out]; exact HNO.out (by have := HJ.out; omega)
        go_wp2
        refine wp_region_past (by kernel_rfl) (by kernel_rfl) ?_
        repeat (go_big_quiet_step ((go_at_call 30; exact past_call_same (HNM.out _))))
        refine wpQuiet_nil ?_
        intro _ hw'
        obtain ⟨s9, hw''⟩ := hw'
        subst hw''
        obtain ⟨w9, h9, e9⟩ : ∃ wq, Below wr.heap.size wr wq ∧ wq = s9.val := ⟨_, s9.h, rfl⟩
        rw [← e9]
        clear e9
        have HN := Lib.hid (HP.out.kept h9)
        have HF9 : Hid (Onb b w w9) := Lib.hid (HF.out.next h9)
        clear h9 b0 b1
        by_cases hz : l = 0
        · have z1 : ((j : Int) == (k : Int)) = true := by simp; omega
          have HBV : Hid (B = true) := Lib.hid (by rw [HB.out, decide_eq_true hz]; rfl)
          go_upto_region 4 with fail
          have b0 := Past.blk HN.out.blk (j := 0) rfl
          have b1 := Past.blk HN.out.blk (j := 1) rfl
          refine wp_region_past (by kernel_rfl) (by kernel_rfl) ?_
          repeat (go_big_quiet_step (fail))
          refine wpQuiet_nil ?_
          intro _ hw'
          obtain ⟨s9, hw''⟩ := hw'
          subst hw''
          obtain ⟨w7, h9, e9⟩ : ∃ wq, Below w9.heap.size w9 wq ∧ wq = s9.val := ⟨_, s9.h, rfl⟩
          rw [← e9]
          clear e9
          have HN2 := Lib.hid (HN.out.kept h9)
          have HF2 : Hid (Onb b w w7) := Lib.hid (HF9.out.next h9)
          clear h9 b0 b1 HN HF9
          go_upto_region 5 with fail
          have c1 := HN2.out.blk.cell (j := 1) rfl
          go_upto_region 6 with (go_at_call 44; refine (dfail_any HN2.out 5 _ (by decide)).mono ?_; rintro r w4 ⟨rfl, hq, ho⟩; have HQ4 := Lib.hid hq; have HF4 : Hid (Onb b w w4) := Lib.hid (HF2.out.then ho); clear hq ho)
          obtain ⟨e4, a4, h4⟩ := HQ4.out
          have HN4 := Lib.hid h4
          clear HQ4 h4 c1
          have b0 := Past.blk HN4.out.blk (j := 0) rfl
          have b1 := Past.blk HN4.out.blk (j := 1) rfl
          refine wp_region_past (by kernel_rfl) (by kernel_rfl) ?_
          repeat (go_big_quiet_step (fail))
          refine wpQuiet_nil ?_
          intro _ hw'
          obtain ⟨s9, hw''⟩ := hw'
          subst hw''
          obtain ⟨w8, h9, e9⟩ : ∃ wq, Below w4.heap.size w4 wq ∧ wq = s9.val := ⟨_, s9.h, rfl⟩
          rw [← e9]
          clear e9
          have H8 := Lib.hid (HN4.out.kept h9)
          have HF8 : Hid (Onb b w w8) := Lib.hid (HF4.out.next h9)
          clear h9 b0 b1
          go_wp2
          go_ret
          exact ⟨(by rw [HEX.out]; rfl), (by have h9 : Dq base _ b s j v L true n := ⟨_, _, H8.out⟩; rw [HBV.out, Bool.or_true, ← HJ.out]; exact h9), HF8.out⟩
        have z1 : ((j : Int) == (k : Int)) = false := by simp; omega
        obtain ⟨c, hc⟩ : ∃ c, c = s[j] := ⟨_, rfl⟩
        have hcc : s[j] = c := hc.symm
        have HHD : Hid (hd wdc (rest s j) = wdc c) := Lib.hid (by rw [hdw_rest _ hin, hc])
        clear hc
        cases t1 : wdc c
        · have HBV : Hid (B = false) := Lib.hid (by rw [HB.out, decide_eq_false hz, ← HJ.out, HHD.out, t1]; rfl)
          go_upto_region 4 with fail
          have b0 := Past.blk HN.out.blk (j := 0) rfl
          have b1 := Past.blk HN.out.blk (j := 1) rfl
          refine wp_region_past (by kernel_rfl) (by kernel_rfl) ?_
          repeat (go_big_quiet_step ((go_at_call 49; exact past_call_same (HPC.out _ _))))
          refine wpQuiet_nil ?_
          intro _ hw'
          obtain ⟨s9, hw''⟩ := hw'
          subst hw''
          obtain ⟨w7, h9, e9⟩ : ∃ wq, Below w9.heap.size w9 wq ∧ wq = s9.val := ⟨_, s9.h, rfl⟩
          rw [← e9]
          clear e9
          have HN2 := Lib.hid (HN.out.kept h9)
          have HF2 : Hid (Onb b w w7) := Lib.hid (HF9.out.next h9)
          clear h9 b0 b1 HN HF9
          go_upto_region 6 with fail
          have b0 := Past.blk HN2.out.blk (j := 0) rfl
          have b1 := Past.blk HN2.out.blk (j := 1) rfl
          refine wp_region_past (by kernel_rfl) (by kernel_rfl) ?_
          repeat (go_big_quiet_step (fail))
          refine wpQuiet_nil ?_
          intro _ hw'
          obtain ⟨s9, hw''⟩ := hw'
          subst hw''
          obtain ⟨w8, h9, e9⟩ : ∃ wq, Below w7.heap.size w7 wq ∧ wq = s9.val := ⟨_, s9.h, rfl⟩
          rw [← e9]
          clear e9
          have H8 := Lib.hid (HN2.out.kept h9)
          have HF8 : Hid (Onb b w w8) := Lib.hid (HF2.out.next h9)
          clear h9 b0 b1
          go_wp2
          go_ret
          exact ⟨(by rw [HEX.out]; rfl), (by have h9 : Dq base _ b s j v L bd n := ⟨_, _, H8.out⟩; rw [HBV.out, Bool.or_false, ← HJ.out]; exact h9), HF8.out⟩
        · have HBV : Hid (B = true) := Lib.hid (by rw [HB.out, ← HJ.out, HHD.out, t1, Bool.or_true])
          go_upto_region 4 with fail
          have b0 := Past.blk HN.out.blk (j := 0) rfl
          have b1 := Past.blk HN.out.blk (j := 1) rfl
          refine wp_region_past (by kernel_rfl) (by kernel_rfl) ?_
          repeat (go_big_quiet_step ((go_at_call 49; exact past_call_same (HPC.out _ _))))
          refine wpQuiet_nil ?_
          intro _ hw'
          obtain ⟨s9, hw''⟩ := hw'
          subst hw''
          obtain ⟨w7, h9, e9⟩ : ∃ wq, Below w9.heap.size w9 wq ∧ wq = s9.val := ⟨_, s9.h, rfl⟩
          rw [← e9]
          clear e9
          have HN2 := Lib.hid (HN.out.kept h9)
          have HF2 : Hid (Onb b w w7) := Lib.hid (HF9.out.next h9)
          clear h9 b0 b1 HN HF9
          go_upto_region 5 with fail
          have c1 := HN2.out.blk.cell (j := 1) rfl
          go_upto_region 6 with (go_at_call 44; refine (dfail_any HN2.out 5 _ (by decide)).mono ?_; rintro r w4 ⟨rfl, hq, ho⟩; have HQ4 := Lib.hid hq; have HF4 : Hid (Onb b w w4) := Lib.hid (HF2.out.then ho); clear hq ho)
          obtain ⟨e4, a4, h4⟩ := HQ4.out
          have HN4 := Lib.hid h4
          clear HQ4 h4 c1
          have b0 := Past.blk HN4.out.blk (j := 0) rfl
          have b1 := Past.blk HN4.out.blk (j := 1) rfl
          refine wp_region_past (by kernel_rfl) (by kernel_rfl) ?_
          repeat (go_big_quiet_step (fail))
          refine wpQuiet_nil ?_
          intro _ hw'
          obtain ⟨s9, hw''⟩ := hw'
          subst hw''
          obtain ⟨w8, h9, e9⟩ : ∃ wq, Below w4.heap.size w4 wq ∧ wq = s9.val := ⟨_, s9.h, rfl⟩
          rw [← e9]
          clear e9
          have H8 := Lib.hid (HN4.out.kept h9)
          have HF8 : Hid (Onb b w w8) := Lib.hid (HF4.out.next h9)
          clear h9 b0 b1
          go_wp2
          go_ret
          exact ⟨(by rw [HEX.out]; rfl), (by have h9 : Dq base _ b s j v L true n := ⟨_, _, H8.out⟩; rw [HBV.out, Bool.or_true, ← HJ.out]; exact h9), HF8.out⟩
      · have i1 : ¬ (j : Int) < (s.size : Int) := by omega
        clear HNM
        go_wp2
        refine wp_region_past (by kernel_rfl) (by kernel_rfl) ?_
        repeat (go_big_quiet_step (fail))
        refine wpQuiet_nil ?_
        intro _ hw'
        obtain ⟨s9, hw''⟩ := hw'
        subst hw''
        obtain ⟨w9, h9, e9⟩ : ∃ wq, Below wr.heap.size wr wq ∧ wq = s9.val := ⟨_, s9.h, rfl⟩
        rw [← e9]
        clear e9
        have HN := Lib.hid (HP.out.kept h9)
        have HF9 : Hid (Onb b w w9) := Lib.hid (HF.out.next h9)
        clear h9 b0 b1
        by_cases hz : l = 0
        · have z1 : ((j : Int) == (k : Int)) = true := by simp; omega
          have HBV : Hid (B = true) := Lib.hid (by rw [HB.out, decide_eq_true hz]; rfl)
          go_upto_region 4 with fail
          have b0 := Past.blk HN.out.blk (j := 0) rfl
          have b1 := Past.blk HN.out.blk (j := 1) rfl
          refine wp_region_past (by kernel_rfl) (by kernel_rfl) ?_
          repeat (go_big_quiet_step (fail))
          refine wpQuiet_nil ?_
          intro _ hw'
          obtain ⟨s9, hw''⟩ := hw'
          subst hw''
          obtain ⟨w7, h9, e9⟩ : ∃ wq, Below w9.heap.size w9 wq ∧ wq = s9.val := ⟨_, s9.h, rfl⟩
          rw [← e9]
          clear e9
          have HN2 := Lib.hid (HN.out.kept h9)
          have HF2 : Hid (Onb b w w7) := Lib.hid (HF9.out.next h9)
          clear h9 b0 b1 HN HF9
          go_upto_region 5 with fail
          have c1 := HN2.out.blk.cell (j := 1) rfl
          go_upto_region 6 with (go_at_call 44; refine (dfail_any HN2.out 5 _ (by decide)).mono ?_; rintro r w4 ⟨rfl, hq, ho⟩; have HQ4 := Lib.hid hq; have HF4 : Hid (Onb b w w4) := Lib.hid (HF2.out.then ho); clear hq ho)
          obtain ⟨e4, a4, h4⟩ := HQ4.out
          have HN4 := Lib.hid h4
          clear HQ4 h4 c1
          have b0 := Past.blk HN4.out.blk (j := 0) rfl
          have b1 := Past.blk HN4.out.blk (j := 1) rfl
          refine wp_region_past (by kernel_rfl) (by kernel_rfl) ?_
          repeat (go_big_quiet_step (fail))
          refine wpQuiet_nil ?_
          intro _ hw'
          obtain ⟨s9, hw''⟩ := hw'
          subst hw''
          obtain ⟨w8, h9, e9⟩ : ∃ wq, Below w4.heap.size w4 wq ∧ wq = s9.val := ⟨_, s9.h, rfl⟩
          rw [← e9]
          clear e9
          have H8 := Lib.hid (HN4.out.kept h9)
          have HF8 : Hid (Onb b w w8) := Lib.hid (HF4.out.next h9)
          clear h9 b0 b1
          go_wp2
          go_ret
          exact ⟨(by rw [HEX.out]; rfl), (by have h9 : Dq base _ b s j v L true n := ⟨_, _, H8.out⟩; rw [HBV.out, Bool.or_true, ← HJ.out]; exact h9), HF8.out⟩
        have z1 : ((j : Int) == (k : Int)) = false := by simp; omega
        have HBV : Hid (B = false) := Lib.hid (by rw [HB.out, decide_eq_false hz, ← HJ.out, hdw_end _ k2 hin]; rfl)
        go_upto_region 4 with fail
        have b0 := Past.blk HN.out.blk (j := 0) rfl
        have b1 := Past.blk HN.out.blk (j := 1) rfl
        refine wp_region_past (by kernel_rfl) (by kernel_rfl) ?_
        repeat (go_big_quiet_step (fail))
        refine wpQuiet_nil ?_
        intro _ hw'
        obtain ⟨s9, hw''⟩ := hw'
        subst hw''
        obtain ⟨w7, h9, e9⟩ : ∃ wq, Below w9.heap.size w9 wq ∧ wq = s9.val := ⟨_, s9.h, rfl⟩
        rw [← e9]
        clear e9
        have HN2 := Lib.hid (HN.out.kept h9)
        have HF2 : Hid (Onb b w w7) := Lib.hid (HF9.out.next h9)
        clear h9 b0 b1 HN HF9
        go_upto_region 6 with fail
        have b0 := Past.blk HN2.out.blk (j := 0) rfl
        have b1 := Past.blk HN2.out.blk (j := 1) rfl
        refine wp_region_past (by kernel_rfl) (by kernel_rfl) ?_
        repeat (go_big_quiet_step (fail))
        refine wpQuiet_nil ?_
        intro _ hw'
        obtain ⟨s9, hw''⟩ := hw'
        subst hw''
        obtain ⟨w8, h9, e9⟩ : ∃ wq, Below w7.heap.size w7 wq ∧ wq = s9.val := ⟨_, s9.h, rfl⟩
        rw [← e9]
        clear e9
        have H8 := Lib.hid (HN2.out.kept h9)
        have HF8 : Hid (Onb b w w8) := Lib.hid (HF2.out.next h9)
        clear h9 b0 b1
        go_wp2
        go_ret
        exact ⟨(by rw [HEX.out]; rfl), (by have h9 : Dq base _ b s j v L bd n := ⟨_, _, H8.out⟩; rw [HBV.out, Bool.or_false, ← HJ.out]; exact h9), HF8.out⟩
end Go.Proofs.YtdnoceancoclmaaGreatDoor.Ru
