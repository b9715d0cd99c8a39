/- , laid together: Plain, Plain2. -/
import Derived.WalkKit
import Derived.ProofKit
namespace Go.Proofs.YtopkfomlppnpeaaGreatDoor
namespace Wire

/-- the bytes of a number -/
def encF : Nat → Nat → List UInt8
  | 0, _ => []
  | f + 1, x => if x < 128 then [UInt8.ofNat x] else UInt8.ofNat (x % 128 + 128) :: encF f (x / 128)
def enc (x : Nat) : List UInt8 := encF 10 x

/-- a number out of bytes: what it is, how many bytes, the error -/
def dec : List UInt8 → Nat → Nat → Nat × Nat × Nat
  | [], _, _ => (0, 0, 4)
  | c :: r, n, x =>
    if n = 9 ∧ c.toNat ≠ 1 then (0, 0, 5)
    else if 128 ≤ c.toNat then dec r (n + 1) (x + (c.toNat % 128) * 2 ^ (7 * n))
    else if c.toNat = 0 ∧ 0 < n then (0, 0, 5)
    else (x + c.toNat * 2 ^ (7 * n), n + 1, 0)
def read (l : List UInt8) : Nat × Nat × Nat := dec l 0 0

theorem drop_cons {l : List UInt8} {k : Nat} (h : k < l.length) : l.drop k = l[k] :: l.drop (k + 1) := List.drop_eq_getElem_cons h

theorem dec_bad {l : List UInt8} {k z : Nat} {x : UInt8} (h : k < l.length) (hx : l[k] = x) (h9 : (k = 9 ∧ x.toNat ≠ 1) ∨ (x.toNat = 0 ∧ 0 < k)) : dec (l.drop k) k z = (0, 0, 5) := by
  rw [drop_cons h, hx]
  unfold dec
  rcases h9 with h9 | h9
  · rw [if_pos h9]
  · by_cases h1 : k = 9 ∧ x.toNat ≠ 1
    · rw [if_pos h1]
    · rw [if_neg h1, if_neg (by omega), if_pos h9]

theorem dec_more {l : List UInt8} {k z : Nat} {x : UInt8} (h : k < l.length) (hx : l[k] = x) (h9 : ¬ k = 9) (h1 : 128 ≤ x.toNat) :
    dec (l.drop k) k z = dec (l.drop (k + 1)) (k + 1) (z + x.toNat % 128 * 2 ^ (7 * k)) := by
  rw [drop_cons h, hx]
  rw [dec, if_neg (by omega), if_pos h1]

theorem dec_end {l : List UInt8} {k z : Nat} {x : UInt8} (h : k < l.length) (hx : l[k] = x) (h9 : ¬ (k = 9 ∧ x.toNat ≠ 1)) (h1 : x.toNat < 128) (h0 : ¬ (x.toNat = 0 ∧ 0 < k)) :
    dec (l.drop k) k z = (z + x.toNat % 128 * 2 ^ (7 * k), k + 1, 0) := by
  rw [drop_cons h, hx]
  unfold dec
  rw [if_neg h9, if_neg (by omega), if_neg h0, Nat.mod_eq_of_lt h1]

theorem pow7 (k : Nat) : 2 ^ (7 * (k + 1)) = 128 * 2 ^ (7 * k) := by
  rw [Nat.mul_add, Nat.pow_add]; omega

theorem step_lt {z m k : Nat} (hz : z < 2 ^ (7 * k)) : z + m % 128 * 2 ^ (7 * k) < 2 ^ (7 * (k + 1)) := by
  rw [pow7]
  have h : m % 128 * 2 ^ (7 * k) ≤ 127 * 2 ^ (7 * k) := Nat.mul_le_mul_right _ (by omega)
  omega

theorem pow_le63 {k : Nat} (hk : k ≤ 9) : 2 ^ (7 * k) ≤ 9223372036854775808 := by
  have h := Nat.pow_le_pow_right (n := 2) (by omega) (show 7 * k ≤ 63 by omega)
  exact Nat.le_trans h (by decide)

theorem step_u64 {z m k : Nat} (hz : z < 2 ^ (7 * k)) (hk : k ≤ 9) (h9 : k = 9 → m = 1) : z + m % 128 * 2 ^ (7 * k) < 18446744073709551616 := by
  by_cases e : k = 9
  · subst e
    have := h9 rfl
    subst this
    have e9 : 2 ^ (7 * 9) = 9223372036854775808 := by decide
    rw [e9] at *
    omega
  · have h1 := step_lt (m := m) hz
    have h2 := pow_le63 (k := k + 1) (by omega)
    omega

/-- the walk's own form of one step of the sum -/
theorem or_step {z m k : Nat} (hm : m < 256) (hz : z < 2 ^ (7 * k)) (hk : k ≤ 9) (h9 : k = 9 → m = 1) :
    bits .or .u64 (z : Int) (IntKind.u64.wrap (IntKind.u64.wrap (bits .and .u8 (m : Int) 127) * 2 ^ (7 * k))) = ((z + m % 128 * 2 ^ (7 * k) : Nat) : Int) := by
  have hb := step_u64 hz hk h9
  have e1 : bits .and .u8 (m : Int) 127 = ((m % 128 : Nat) : Int) := by
    have := u8_and_nat m 127 hm (by omega)
    rw [nat_mask7] at this
    exact this
  have e2 : ((m % 128 : Nat) : Int) * 2 ^ (7 * k) = ((m % 128 * 2 ^ (7 * k) : Nat) : Int) := by simp
  have hb2 : m % 128 * 2 ^ (7 * k) < 18446744073709551616 := by omega
  have e3 : IntKind.u64.wrap ((m % 128 : Nat) : Int) = ((m % 128 : Nat) : Int) := by rw [IntKind.wrap_u64, Int.emod_eq_of_lt (by omega) (by omega)]
  rw [e1, e3, e2, IntKind.wrap_u64, Int.emod_eq_of_lt (by omega) (by omega)]
  rw [u64_or_nat _ _ (by omega) hb2, Nat.or_comm, nat_join (7 * k) _ _ (by simp) hz, Nat.add_comm]

theorem or128 : ∀ m : Fin 256, m.val ||| 128 = m.val % 128 + 128 := by decide +kernel

theorem or_byte (z : Nat) : Value.int .u8 (bits .or .u8 ((z : Int) % 256) 128) = .int .u8 ((UInt8.ofNat (z % 128 + 128)).toNat : Int) := by
  have e : ((z : Int) % 256) = ((z % 256 : Nat) : Int) := by simp
  have h := u8_or_nat (z % 256) 128 (by omega) (by omega)
  rw [e]
  have h1 := or128 ⟨z % 256, by omega⟩
  simp only at h1
  rw [h1] at h
  have h2 : bits .or .u8 ((z % 256 : Nat) : Int) 128 = ((z % 256 % 128 + 128 : Nat) : Int) := h
  rw [h2]
  simp
  omega

theorem add_byte (z : Nat) : Value.int .u8 ((z : Int) % 128 + 128) = .int .u8 ((UInt8.ofNat (z % 128 + 128)).toNat : Int) := by
  have e : (UInt8.ofNat (z % 128 + 128)).toNat = z % 128 + 128 := by simp; omega
  rw [e]
  simp

theorem quo_wrap {x k z : Nat} {pre : List UInt8} (h : k ≤ 9 ∧ z < 2 ^ (64 - 7 * k) ∧ enc x = pre ++ encF (10 - k) z ∧ pre.length = k) : IntKind.u64.wrap ((z : Int) / 128) = (z : Int) / 128 := by
  have h2 : 2 ^ (64 - 7 * k) ≤ 18446744073709551616 := Nat.le_trans (Nat.pow_le_pow_right (n := 2) (by omega) (show 64 - 7 * k ≤ 64 by omega)) (by decide)
  have := h.2.1
  rw [IntKind.wrap_u64, Int.emod_eq_of_lt (by omega) (by omega)]

theorem encF_more {f z : Nat} (hz : 128 ≤ z) : encF (f + 1) z = UInt8.ofNat (z % 128 + 128) :: encF f (z / 128) := by
  rw [encF, if_neg (by omega)]
theorem encF_end {f z : Nat} (hz : z < 128) : encF (f + 1) z = [UInt8.ofNat z] := by
  rw [encF, if_pos hz]

theorem step_down {k z : Nat} (hk : k ≤ 9) (hz : 128 ≤ z) (h : z < 2 ^ (64 - 7 * k)) : k ≤ 8 ∧ z / 128 < 2 ^ (64 - 7 * (k + 1)) := by
  by_cases e : k = 9
  · subst e
    have : 2 ^ (64 - 7 * 9) = 2 := by decide
    omega
  · refine ⟨by omega, ?_⟩
    have e2 : 64 - 7 * k = (64 - 7 * (k + 1)) + 7 := by omega
    rw [e2, Nat.pow_add] at h
    omega

/-- one more byte -/
theorem step_more {x k z : Nat} {pre : List UInt8} (hz : 128 ≤ z) (h : k ≤ 9 ∧ z < 2 ^ (64 - 7 * k) ∧ enc x = pre ++ encF (10 - k) z ∧ pre.length = k) :
    k + 1 ≤ 9 ∧ z / 128 < 2 ^ (64 - 7 * (k + 1)) ∧ enc x = (pre ++ [UInt8.ofNat (z % 128 + 128)]) ++ encF (10 - (k + 1)) (z / 128) ∧ (pre ++ [UInt8.ofNat (z % 128 + 128)]).length = k + 1 := by
  obtain ⟨h1, h2, h3, h4⟩ := h
  obtain ⟨h5, h6⟩ := step_down h1 hz h2
  refine ⟨by omega, h6, ?_, by simp [h4]⟩
  rw [h3, show 10 - k = (10 - (k + 1)) + 1 from by omega, encF_more hz]
  simp

theorem step_end {x k z : Nat} {pre : List UInt8} (hz : z < 128) (h : k ≤ 9 ∧ z < 2 ^ (64 - 7 * k) ∧ enc x = pre ++ encF (10 - k) z ∧ pre.length = k) :
    enc x = pre ++ [UInt8.ofNat z] := by
  obtain ⟨h1, h2, h3, h4⟩ := h
  rw [h3, show 10 - k = (10 - (k + 1)) + 1 from by omega, encF_end hz]

theorem encF_len : ∀ (f z : Nat), (encF f z).length ≤ f
  | 0, _ => by simp [encF]
  | f + 1, z => by
    rw [encF]
    split
    · simp
    · have := encF_len f (z / 128)
      simp; omega
theorem enc_len (x : Nat) : (enc x).length ≤ 10 := encF_len 10 x

/-- a signed number as one without a sign -/
def zig (y : Int) : Nat := if 0 ≤ y then (2 * y).toNat else (-2 * y - 1).toNat

theorem zig_lt {y : Int} (h2 : -9223372036854775808 ≤ y) (h3 : y < 9223372036854775808) : zig y < 18446744073709551616 := by
  unfold zig; split <;> omega

theorem xor_ones (n : Nat) (h : n < 18446744073709551616) : n ^^^ 18446744073709551615 = 18446744073709551615 - n := by
  have h1 := BitVec.toNat_not (x := BitVec.ofNat 64 n)
  rw [BitVec.not_def, BitVec.toNat_xor] at h1
  simp only [BitVec.toNat_allOnes, BitVec.toNat_ofNat] at h1
  have e : n % 2 ^ 64 = n := Nat.mod_eq_of_lt h
  rw [e] at h1
  have e2 : (2 ^ 64 - 1 : Nat) = 18446744073709551615 := by decide
  rw [e2] at h1
  rw [Nat.xor_comm]
  exact h1

theorem zig_wire {y : Int} (h2 : -9223372036854775808 ≤ y) (h3 : y < 9223372036854775808) :
    bits .xor .u64 (IntKind.u64.wrap (IntKind.u64.wrap y * 2)) (IntKind.u64.wrap (y / 9223372036854775808)) = ((zig y : Nat) : Int) := by
  unfold zig
  simp only [IntKind.wrap_u64]
  by_cases hy : 0 ≤ y
  · rw [if_pos hy]
    have e1 : y % 18446744073709551616 * 2 % 18446744073709551616 = (((2 * y).toNat : Nat) : Int) := by omega
    have e2 : y / 9223372036854775808 % 18446744073709551616 = ((0 : Nat) : Int) := by omega
    rw [e1, e2, bits_xor_u64_nat _ _ (by omega) (by omega)]
    simp
  · rw [if_neg hy]
    have e1 : y % 18446744073709551616 * 2 % 18446744073709551616 = (((2 * y + 18446744073709551616).toNat : Nat) : Int) := by omega
    have e2 : y / 9223372036854775808 % 18446744073709551616 = ((18446744073709551615 : Nat) : Int) := by omega
    rw [e1, e2, bits_xor_u64_nat _ _ (by omega) (by omega), xor_ones _ (by omega)]
    congr 1
    omega

theorem zig_pos {y : Int} (hy : 0 ≤ y) (h3 : y < 9223372036854775808) : IntKind.u64.wrap (IntKind.u64.wrap y * 2) = ((zig y : Nat) : Int) := by
  unfold zig
  simp only [IntKind.wrap_u64]
  rw [if_pos hy]
  omega

theorem zig_neg {y : Int} (hy : ¬ 0 ≤ y) (h2 : -9223372036854775808 ≤ y) : IntKind.u64.wrap (IntKind.u64.wrap (IntKind.u64.wrap (RowKit.wrap64 (-RowKit.wrap64 (y + 1))) * 2) + 1) = ((zig y : Nat) : Int) := by
  unfold zig RowKit.wrap64
  simp only [IntKind.wrap_u64]
  rw [if_neg hy]
  omega

theorem dec_err : ∀ (l : List UInt8) (n x : Nat), (dec l n x).2.2 ≠ 0 → (dec l n x).1 = 0 ∧ (dec l n x).2.1 = 0
  | [], n, x, _ => by simp [dec]
  | c :: r, n, x, h => by
    unfold dec at h ⊢
    split
    · simp
    · split
      · rename_i h1 h2
        rw [if_neg h1, if_pos h2] at h
        exact dec_err r _ _ h
      · split
        · simp
        · rename_i h1 h2 h3
          rw [if_neg h1, if_neg h2, if_neg h3] at h
          simp at h
theorem dec_le : ∀ (l : List UInt8) (n x : Nat), (dec l n x).2.2 = 0 → n < (dec l n x).2.1 ∧ (dec l n x).2.1 ≤ n + l.length
  | [], n, x, h => by simp [dec] at h
  | c :: r, n, x, h => by
    unfold dec at h ⊢
    split
    · rename_i h1; rw [if_pos h1] at h; simp at h
    · split
      · rename_i h1 h2
        rw [if_neg h1, if_pos h2] at h
        have := dec_le r _ _ h
        simp; omega
      · split
        · rename_i h1 h2 h3
          rw [if_neg h1, if_neg h2, if_pos h3] at h; simp at h
        · simp
theorem dec_lt : ∀ (l : List UInt8) (n x : Nat), n ≤ 9 → x < 2 ^ (7 * n) → (dec l n x).1 < 18446744073709551616
  | [], n, x, _, _ => by simp [dec]
  | c :: r, n, x, hn, h => by
    unfold dec
    have hc := c.toNat_lt
    split
    · simp
    · split
      · refine dec_lt r _ _ (by omega) (step_lt h)
      · split
        · simp
        · have := step_u64 (m := c.toNat) h hn (by omega)
          rw [Nat.mod_eq_of_lt (by omega)] at this
          exact this
theorem read_err {l : List UInt8} (h : (read l).2.2 ≠ 0) : (read l).1 = 0 ∧ (read l).2.1 = 0 := dec_err l 0 0 h
theorem read_le {l : List UInt8} (h : (read l).2.2 = 0) : 0 < (read l).2.1 ∧ (read l).2.1 ≤ l.length := by have := dec_le l 0 0 h; unfold read; omega
theorem read_lt (l : List UInt8) : (read l).1 < 18446744073709551616 := dec_lt l 0 0 (by omega) (by decide)

/-- a reader's state: where it stands, its error. What a call answers, and the state behind it. -/
def uint (l : List UInt8) (at_ : Nat) (e : Int) : Nat × Nat × Int :=
  if e ≠ 0 then (0, at_, e)
  else if (read (l.drop at_)).2.2 ≠ 0 then (0, at_, ((read (l.drop at_)).2.2 : Int))
  else ((read (l.drop at_)).1, at_ + (read (l.drop at_)).2.1, 0)
def unzig (x : Nat) : Int := if x % 2 = 0 then (x / 2 : Nat) else -((x / 2 : Nat) : Int) - 1
def int (l : List UInt8) (at_ : Nat) (e : Int) : Int × Nat × Int := (unzig (uint l at_ e).1, (uint l at_ e).2)
def text (l : List UInt8) (at_ : Nat) (e : Int) : List UInt8 × Nat × Int :=
  if e ≠ 0 then ([], at_, e)
  else if (read (l.drop at_)).2.2 ≠ 0 then ([], at_, ((read (l.drop at_)).2.2 : Int))
  else if 65536 < (read (l.drop at_)).1 then ([], at_, 3)
  else if l.length - at_ - (read (l.drop at_)).2.1 < (read (l.drop at_)).1 then ([], at_, 4)
  else ((l.drop (at_ + (read (l.drop at_)).2.1)).take (read (l.drop at_)).1, at_ + (read (l.drop at_)).2.1 + (read (l.drop at_)).1, 0)
def count (l : List UInt8) (at_ : Nat) (e : Int) (most : Int) : Int × Nat × Int :=
  if e ≠ 0 then (0, at_, e)
  else if most < 0 then (0, at_, 2)
  else if (read (l.drop at_)).2.2 ≠ 0 then (0, at_, ((read (l.drop at_)).2.2 : Int))
  else if most < ((read (l.drop at_)).1 : Int) then (0, at_, 3)
  else (((read (l.drop at_)).1 : Int), at_ + (read (l.drop at_)).2.1, 0)
def fail (e n : Int) : Int := if e ≠ 0 then e else n
def done (l : List UInt8) (at_ : Nat) (e : Int) : Int := if e = 0 ∧ at_ < l.length then 5 else e

theorem unzig_wire {x : Nat} (hx : x < 18446744073709551616) :
    bits .xor .i64 (RowKit.wrap64 ((x : Int) / 2)) (RowKit.wrap64 (-RowKit.wrap64 (bits .and .u64 (x : Int) 1))) = unzig x := by
  have e1 : bits .and .u64 (x : Int) 1 = ((x % 2 : Nat) : Int) := by
    have := u64_and_nat x 1 hx (by omega)
    rw [nat_mask1] at this
    exact this
  have e2 : RowKit.wrap64 ((x : Int) / 2) = ((x / 2 : Nat) : Int) := by unfold RowKit.wrap64; omega
  have hh : x / 2 < 9223372036854775808 := by omega
  have e3 : (BitVec.ofInt 64 ((x / 2 : Nat) : Int)).toNat = x / 2 := ofInt_u64 _ (by omega)
  rw [e1, e2]
  unfold unzig
  by_cases h : x % 2 = 0
  · rw [if_pos h, h]
    have e4 : RowKit.wrap64 (-RowKit.wrap64 ((0 : Nat) : Int)) = 0 := by unfold RowKit.wrap64; omega
    rw [e4]
    show IntKind.i64.wrap ((BitVec.ofInt 64 ((x / 2 : Nat) : Int) ^^^ BitVec.ofInt 64 0).toNat : Int) = _
    have e5 : BitVec.ofInt 64 0 = 0#64 := by decide
    rw [e5, BitVec.xor_zero, e3, IntKind.wrap_i64]
    omega
  · rw [if_neg h, show x % 2 = 1 from by omega]
    have e4 : RowKit.wrap64 (-RowKit.wrap64 ((1 : Nat) : Int)) = -1 := by unfold RowKit.wrap64; omega
    rw [e4]
    show IntKind.i64.wrap ((BitVec.ofInt 64 ((x / 2 : Nat) : Int) ^^^ BitVec.ofInt 64 (-1)).toNat : Int) = _
    have e5 : (BitVec.ofInt 64 (-1)).toNat = 18446744073709551615 := by decide
    rw [BitVec.toNat_xor, e3, e5, xor_ones _ (by omega), IntKind.wrap_i64]
    omega

end Wire
end Go.Proofs.YtopkfomlppnpeaaGreatDoor

namespace Go.Proofs.YtopkfomlppnpeaaGreatDoor
namespace Wire

end Wire
end Go.Proofs.YtopkfomlppnpeaaGreatDoor
