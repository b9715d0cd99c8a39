/- MsSum. -/
import Derived.Test.YtopkfomlppnpeaaGreatDoorMsCrc
import Derived.Test.YtopkfomlppnpeaaGreatDoorRdr
import Derived.Deep.DeepCutAuto
namespace Go.Proofs.YtopkfomlppnpeaaGreatDoor.Ms
open Go.RowKit Go.Proofs.YtopkfomlppnpeaaGreatDoor

theorem of32 (n : Nat) (h : n < 4294967296) : (BitVec.ofInt 32 (n : Int)).toNat = n := by
  rw [BitVec.toNat_ofInt]
  omega
theorem x32 (a b : Nat) (ha : a < 4294967296) (hb : b < 4294967296) : bits .xor .u32 (a : Int) (b : Int) = ((a ^^^ b : Nat) : Int) := by
  show IntKind.u32.wrap ((BitVec.ofInt 32 (a : Int) ^^^ BitVec.ofInt 32 (b : Int)).toNat : Int) = _
  rw [BitVec.toNat_xor, of32 a ha, of32 b hb]
  have := xor_lt ha hb
  unfold IntKind.wrap
  simp [IntKind.bits, IntKind.signed]
  omega
theorem a32 (a : Nat) (ha : a < 4294967296) : bits .and .u32 (a : Int) 1 = ((a % 2 : Nat) : Int) := by
  show IntKind.u32.wrap ((BitVec.ofInt 32 (a : Int) &&& BitVec.ofInt 32 1).toNat : Int) = _
  rw [BitVec.toNat_and, of32 a ha, show (BitVec.ofInt 32 1).toNat = 1 from by decide, Nat.and_one_is_mod]
  unfold IntKind.wrap
  simp [IntKind.bits, IntKind.signed]
  omega
def itr : Nat → Nat → Nat
  | 0, x => x
  | k + 1, x => stp (itr k x)
theorem itr_lt : ∀ (k : Nat) {x : Nat}, x < 4294967296 → itr k x < 4294967296
  | 0, _, h => h
  | k + 1, _, h => stp_lt (itr_lt k h)
theorem byB_itr (s : Nat) (c : UInt8) : byB s c = itr 8 (s ^^^ c.toNat) := rfl
set_option maxRecDepth 100000 in
set_option maxHeartbeats 1000000 in
theorem byByte_any (s : Nat) (c : UInt8) (w : World) (hs : s < 4294967296) : Calls Tryz.prog 157 #[.int .u32 s, .int .u8 c.toNat] w fun e w' => e = .returned (.int .u32 (byB s c)) ∧ w = w' := by
  have hc := c.toNat_lt
  have e1 : bits BinOp.xor IntKind.u32 (s : Int) ((c.toNat : Int) % 4294967296) = ((s ^^^ c.toNat : Nat) : Int) := by
    rw [show ((c.toNat : Int) % 4294967296) = (c.toNat : Int) by omega]
    exact x32 s c.toNat hs (by omega)
  have hx0 : s ^^^ c.toNat < 4294967296 := xor_lt hs (by omega)
  obtain ⟨x, hx⟩ : ∃ x, x = s ^^^ c.toNat := ⟨_, rfl⟩
  have HR : Hid (byB s c = itr 8 x) := Lib.hid (by rw [hx]; exact byB_itr s c)
  rw [← hx] at e1 hx0
  have HX := Lib.hid hx0
  clear hc hx hx0 hs
  go_enter Tryz.func157, Tryz.ntmps157
  go_upto_region 3 with fail
  (try rw [e1])
  clear e1
  go_loopw [0, 9] (fun vs vi wr => wr = w ∧ ∃ k : Nat, k ≤ 8 ∧ vi = .int .i64 k ∧ ∃ y : Nat, vs = .int .u32 y ∧ Hid (y = itr k x)) (fun _ vi _ => 8 - (intOf vi).toNat)
  case atStart => exact ⟨rfl, 0, by omega, by go_num, x, rfl, Lib.hid rfl⟩
  case round =>
    obtain ⟨rfl, k, hk, rfl, y, rfl, HY⟩ := hrel
    by_cases h8 : k = 8
    · subst h8
      have HQ : Hid (byB s c = y) := Lib.hid (by rw [HR.out, HY.out])
      go_wp2
      go_ret
      exact ⟨by rw [HQ.out]; rfl, rfl⟩
    · have i1 : (k : Int) < 8 := by omega
      have HYL : Hid (y < 4294967296) := Lib.hid (by rw [HY.out]; exact itr_lt k HX.out)
      have e2 := a32 y HYL.out
      by_cases h2 : y % 2 = 1
      · have t0 : (bits BinOp.and IntKind.u32 (y : Int) 1 == 1) = true := by rw [e2, h2]; rfl
        have e3 : bits BinOp.xor IntKind.u32 ((y : Int) / 2) 3988292384 = ((stp y : Nat) : Int) := by
          have := x32 (y / 2) poly (by have := HYL.out; omega) (by decide)
          unfold stp
          rw [if_pos h2]
          exact this
        have HYN : Hid (itr (k + 1) x = stp y) := Lib.hid (by rw [HY.out]; rfl)
        have H2 := Lib.hid h2
        clear h2 e2
        go_wp2
        go_roundw
        case rel => exact ⟨trivial, k + 1, by omega, by go_num, stp y, by first | rfl | rw [e3], Lib.hid HYN.out.symm⟩
        case measure => simp [intOf]; omega
      · have t0 : (bits BinOp.and IntKind.u32 (y : Int) 1 == 1) = false := by rw [e2]; simp; omega
        have e3 : (y : Int) / 2 = ((stp y : Nat) : Int) := by
          unfold stp
          rw [if_neg h2]
          omega
        have HYN : Hid (itr (k + 1) x = stp y) := Lib.hid (by rw [HY.out]; rfl)
        have H2 := Lib.hid h2
        clear h2 e2
        go_wp2
        go_roundw
        case rel => exact ⟨trivial, k + 1, by omega, by go_num, stp y, by first | rfl | rw [e3], Lib.hid HYN.out.symm⟩
        case measure => simp [intOf]; omega
theorem Rd.byteA {w : World} {p : Option Addr} {m c k : Nat} {l : List UInt8} (h : Rd w (.slice p m c) l) (hm : m = l.length) (hk : k < l.length) : ∃ b o, p = some ⟨b, o, none⟩ ∧ w.cell? ⟨b, o + k, none⟩ = some (.int .u8 ((l[k]).toNat : Int)) := by
  subst hm
  exact Rd.byte h hk
theorem inv32 (s : Nat) (hs : s < 4294967296) : bits BinOp.xor IntKind.u32 IntKind.u32.max (s : Int) = ((inv s : Nat) : Int) := by
  have := x32 4294967295 s (by decide) hs
  unfold inv
  rw [Nat.xor_comm]
  exact this
set_option maxRecDepth 100000 in
set_option maxHeartbeats 1000000 in
theorem more_any (s : Nat) (v : Value) (l : List UInt8) (w : World) (hs : s < 4294967296) (h : Rd w v l) : Calls Tryz.prog 140 #[.int .u32 s, v] w fun e w' => e = .returned (.int .u32 (more s l)) ∧ w = w' := by
  have HRD := Lib.hid h
  obtain ⟨p, c, rfl, hc, hm, -⟩ := h.parts
  unfold maxLen at hm
  have e1 := inv32 s hs
  have HI : Hid (inv s < 4294967296) := Lib.hid (inv_lt hs)
  obtain ⟨x, hx⟩ : ∃ x, x = inv s := ⟨_, rfl⟩
  have HM : Hid (more s l = inv (l.foldl byB x)) := Lib.hid (by rw [hx]; rfl)
  rw [← hx] at e1 HI
  obtain ⟨m, hmm⟩ : ∃ m, m = l.length := ⟨_, rfl⟩
  have HMM := Lib.hid hmm
  rw [← hmm] at HRD hc ⊢
  clear h hs hx hmm
  go_enter Tryz.func140, Tryz.ntmps140
  go_upto_region 3 with fail
  (try rw [e1])
  clear e1
  go_loopw [5, 12] (fun vs vi wr => wr = w ∧ ∃ k : Nat, k ≤ m ∧ vi = .int .i64 k ∧ ∃ y : Nat, vs = .int .u32 y ∧ Hid (y = (l.take k).foldl byB x)) (fun _ vi _ => m - (intOf vi).toNat)
  case atStart => exact ⟨rfl, 0, Nat.zero_le _, by go_num, x, rfl, Lib.hid rfl⟩
  case round =>
    obtain ⟨rfl, k, hk, rfl, y, rfl, HY⟩ := hrel
    have HYL : Hid (y < 4294967296) := Lib.hid (by rw [HY.out]; exact fold_lt _ HI.out)
    by_cases hlt : k < m
    · have HK : Hid (k < l.length) := Lib.hid (by rw [← HMM.out]; exact hlt)
      obtain ⟨b, o, rfl, hcell⟩ := Ms.Rd.byteA HRD.out HMM.out HK.out
      obtain ⟨z, hz⟩ : ∃ z, z = l[k]'HK.out := ⟨_, rfl⟩
      rw [← hz] at hcell
      have HN : Hid ((l.take (k + 1)).foldl byB x = byB y z) := Lib.hid (by rw [List.take_succ_eq_append_getElem HK.out, List.foldl_append, ← HY.out, ← hz]; rfl)
      clear hz
      have i1 : (k : Int) < (m : Int) := by omega
      go_wp2_with (go_at_call 157; refine (byByte_any y z _ HYL.out).mono ?_; rintro e w2 ⟨rfl, rfl⟩)
      go_roundw
      case rel => exact ⟨trivial, k + 1, hlt, by go_num, byB y z, rfl, Lib.hid HN.out.symm⟩
      case measure => simp [intOf]; omega
    · obtain rfl : k = m := by omega
      have HQ : Hid (more s l = inv y) := Lib.hid (by rw [HM.out, HY.out, HMM.out, List.take_length])
      have e2 := inv32 y HYL.out
      go_wp2
      go_ret
      exact ⟨congrArg (fun z : Nat => Ending.returned (.int .u32 (z : Int))) HQ.out.symm, rfl⟩
set_option maxRecDepth 100000 in
set_option maxHeartbeats 1000000 in
theorem sum_any (v : Value) (l : List UInt8) (w : World) (h : Rd w v l) : Calls Tryz.prog 138 #[v] w fun e w' => e = .returned (.int .u32 (more 0 l)) ∧ w = w' := by
  have h9 := more_any 0 v l w (by omega) h
  obtain ⟨r, hr⟩ : ∃ r, r = more 0 l := ⟨_, rfl⟩
  rw [← hr] at h9 ⊢
  clear hr
  have H : Hid (Calls Tryz.prog 140 #[.int .u32 0, v] w fun e w' => e = .returned (.int .u32 r) ∧ w = w') := h9
  clear h9
  obtain ⟨p, c, rfl, hc, hm, -⟩ := h.parts
  obtain ⟨m, hmm⟩ : ∃ m, m = l.length := ⟨_, rfl⟩
  rw [← hmm] at H ⊢
  clear h hc hm hmm
  go_enter Tryz.func138, Tryz.ntmps138
  go_wp2_with (go_at_call 140; refine H.out.mono ?_; rintro e w2 ⟨rfl, rfl⟩)
  go_ret
  exact ⟨rfl, rfl⟩
end Go.Proofs.YtopkfomlppnpeaaGreatDoor.Ms
