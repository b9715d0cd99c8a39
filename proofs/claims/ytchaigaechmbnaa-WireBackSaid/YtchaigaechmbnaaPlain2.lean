/- Laws of the wire's numbers, in plain Lean: what is put down is read back, and only that. -/
import Derived.Test.YtchaigaechmbnaaPlain
namespace Go.Proofs.Ytchaigaechmbnaa
namespace Wire

theorem mul_pow7 (y k : Nat) : y * 2 ^ (7 * (k + 1)) = 128 * y * 2 ^ (7 * k) := by
  rw [pow7, ← Nat.mul_assoc, Nat.mul_comm y 128]

/-- what is read is what was put down -/
theorem dec_enc : ∀ (l : List UInt8) (k z x n : Nat), k ≤ 9 → dec l k z = (x, n, 0) →
    ∃ y, x = z + y * 2 ^ (7 * k) ∧ encF (10 - k) y = l.take (n - k) ∧ (0 < k → y ≠ 0) ∧ k < n
  | [], k, z, x, n, hk, h => by simp [dec] at h
  | c :: r, k, z, x, n, hk, h => by
    unfold dec at h
    split at h
    · simp at h
    · rename_i h9
      have hc := c.toNat_lt
      split at h
      · rename_i h1
        obtain ⟨y', hx, he, hy, hn⟩ := dec_enc r (k + 1) _ x n (by omega) h
        have hy0 := hy (by omega)
        refine ⟨c.toNat % 128 + 128 * y', ?_, ?_, by omega, by omega⟩
        · rw [hx, mul_pow7, Nat.add_mul]; omega
        · rw [show 10 - k = (10 - (k + 1)) + 1 from by omega, encF_more (by omega), show n - k = (n - (k + 1)) + 1 from by omega, List.take_succ_cons]
          have e1 : (c.toNat % 128 + 128 * y') / 128 = y' := by omega
          have e2 : (c.toNat % 128 + 128 * y') % 128 + 128 = c.toNat := by omega
          rw [e1, e2, he]
          simp
      · split at h
        · simp at h
        · rename_i h1 h0
          simp only [Prod.mk.injEq] at h
          obtain ⟨hx, hn, -⟩ := h
          refine ⟨c.toNat, hx.symm, ?_, by omega, by omega⟩
          rw [show 10 - k = (10 - (k + 1)) + 1 from by omega, encF_end (by omega), ← hn, show k + 1 - k = 0 + 1 from by omega, List.take_succ_cons]
          simp

theorem read_enc {l : List UInt8} (h : (read l).2.2 = 0) : enc (read l).1 = l.take (read l).2.1 := by
  obtain ⟨y, hx, he, -, -⟩ := dec_enc l 0 0 (read l).1 (read l).2.1 (by omega) (by unfold read at h; exact Prod.ext rfl (Prod.ext rfl h))
  have : y = (read l).1 := by simpa using hx.symm
  subst this
  exact he

/-- what is put down is read back -/
theorem enc_dec : ∀ (f k y z : Nat) (m : List UInt8), f + k = 10 → 0 < f → y < 2 ^ (64 - 7 * k) → (0 < k → y ≠ 0) →
    dec (encF f y ++ m) k z = (z + y * 2 ^ (7 * k), k + (encF f y).length, 0)
  | 0, k, y, z, m, hf, hp, hy, h0 => by omega
  | f + 1, k, y, z, m, hf, hp, hy, h0 => by
    by_cases hb : y < 128
    · rw [encF_end hb]
      have e : (UInt8.ofNat y).toNat = y := by simp; omega
      have h91 : k = 9 → y < 2 := fun h9 => by
        subst h9
        have : 2 ^ (64 - 7 * 9) = 2 := by decide
        omega
      simp only [List.cons_append, List.nil_append]
      unfold dec
      rw [e, if_neg (by omega), if_neg (by omega), if_neg (by omega)]
      simp
    · have h2 := step_down (k := k) (z := y) (by omega) (by omega) hy
      rw [encF_more (by omega)]
      have e : (UInt8.ofNat (y % 128 + 128)).toNat = y % 128 + 128 := by simp; omega
      simp only [List.cons_append]
      unfold dec
      rw [e, if_neg (by omega), if_pos (by omega), enc_dec f (k + 1) (y / 128) _ m (by omega) (by omega) h2.2 (by omega)]
      rw [mul_pow7]
      have e3 : (y % 128 + 128) % 128 * 2 ^ (7 * k) + 128 * (y / 128) * 2 ^ (7 * k) = y * 2 ^ (7 * k) := by
        rw [← Nat.add_mul]; congr 1; omega
      simp only [List.length_cons, Prod.mk.injEq, and_true]
      omega

theorem enc_read {x : Nat} (hx : x < 18446744073709551616) (m : List UInt8) : read (enc x ++ m) = (x, (enc x).length, 0) := by
  unfold read enc
  rw [enc_dec 10 0 x 0 m rfl (by omega) (by simpa using hx) (by omega)]
  simp

/-- a first part is too short -/
theorem enc_short : ∀ (f k y z i : Nat), f + k = 10 → y < 2 ^ (64 - 7 * k) → i < (encF f y).length → (dec ((encF f y).take i) k z).2.2 = 4
  | 0, k, y, z, i, hf, hy, hi => by simp [encF] at hi
  | f + 1, k, y, z, i, hf, hy, hi => by
    cases i with
    | zero => simp [dec]
    | succ i =>
      by_cases hb : y < 128
      · rw [encF_end hb] at hi; simp at hi
      · have h2 := step_down (k := k) (z := y) (by omega) (by omega) hy
        rw [encF_more (by omega)] at hi ⊢
        have e : (UInt8.ofNat (y % 128 + 128)).toNat = y % 128 + 128 := by simp; omega
        rw [List.take_succ_cons]
        unfold dec
        rw [e, if_neg (by omega), if_pos (by omega)]
        exact enc_short f (k + 1) (y / 128) _ i (by omega) h2.2 (by simpa using hi)

theorem read_short {x : Nat} (hx : x < 18446744073709551616) {i : Nat} (hi : i < (enc x).length) : (read ((enc x).take i)).2.2 = 4 :=
  enc_short 10 0 x 0 i rfl (by simpa using hx) hi

theorem unzig_zig (y : Int) : unzig (zig y) = y := by
  unfold unzig zig
  by_cases h : 0 ≤ y
  · rw [if_pos h, if_pos (by omega)]; omega
  · rw [if_neg h, if_neg (by omega)]; omega

theorem drop_here {l pre post : List UInt8} (h : l = pre ++ post) : l.drop pre.length = post := by subst h; simp

theorem uint_here {l pre post : List UInt8} {x : Nat} (hx : x < 18446744073709551616) (h : l = pre ++ (enc x ++ post)) : uint l pre.length 0 = (x, pre.length + (enc x).length, 0) := by
  unfold uint
  rw [drop_here h, enc_read hx]
  simp

theorem int_here {l pre post : List UInt8} {y : Int} (h1 : -9223372036854775808 ≤ y) (h2 : y < 9223372036854775808) (h : l = pre ++ (enc (zig y) ++ post)) : int l pre.length 0 = (y, pre.length + (enc (zig y)).length, 0) := by
  unfold int
  rw [uint_here (zig_lt h1 h2) h, unzig_zig]

theorem bool_here {l pre post : List UInt8} {b : Bool} (h : l = pre ++ ((if b then 1 else 0) :: post)) : bool l pre.length 0 = (b, pre.length + 1, 0) := by
  unfold bool
  rw [drop_here h]
  cases b <;> rfl

theorem text_here {l pre t post : List UInt8} (ht : t.length ≤ 65536) (h : l = pre ++ (enc t.length ++ (t ++ post))) : text l pre.length 0 = (t, pre.length + (enc t.length).length + t.length, 0) := by
  unfold text
  rw [drop_here h, enc_read (by omega)]
  have e : l.length = pre.length + ((enc t.length).length + (t.length + post.length)) := by rw [h]; simp
  have e2 : l.drop (pre.length + (enc t.length).length) = t ++ post := by
    rw [← List.drop_drop, drop_here h]; simp
  rw [if_neg (by simp), if_neg (by simp), if_neg (by simp; omega), if_neg (by simp; omega), e2]
  simp

end Wire
end Go.Proofs.Ytchaigaechmbnaa
