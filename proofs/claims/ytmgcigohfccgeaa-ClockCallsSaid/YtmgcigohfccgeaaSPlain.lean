/- LeaseSure's law in plain Lean: sums over parts of two clocks. -/
import Derived.Test.YtmgcigohfccgeaaCPlain
namespace Go.Proofs.Ytmgcigohfccgeaa
namespace Clk

/-- the sum of the first k, from `f` on -/
def part (l : List Int) (f k : Nat) : Int := sumL ((l.drop f).take (k - f))

theorem part_self (l : List Int) (f k : Nat) (h : k ≤ f) : part l f k = 0 := by
  unfold part
  rw [show k - f = 0 by omega]
  rfl
theorem part_succ (l : List Int) (f k : Nat) (h : f ≤ k) (hk : k < l.length) : part l f (k + 1) = part l f k + l[k] := by
  unfold part
  rw [show k + 1 - f = (k - f) + 1 by omega, take_succ_sum _ _ (by simp; omega)]
  congr 1
  rw [List.getElem_drop]
  congr 1
  omega
theorem part_split (l : List Int) (f a k : Nat) (h1 : f ≤ a) (h2 : a ≤ k) : part l f k = part l f a + part l a k := by
  unfold part
  rw [← sumL_append]
  congr 1
  rw [show k - f = (a - f) + (k - a) by omega, List.take_add, List.drop_drop]
  congr 2
  congr 1
  omega
theorem sumL_nonneg : ∀ (l : List Int), (∀ x ∈ l, 0 ≤ x) → 0 ≤ sumL l
  | [], _ => by simp [sumL_nil]
  | x :: l, h => by
    rw [sumL_cons]
    have := sumL_nonneg l (fun y hy => h y (by simp [hy]))
    have := h x (by simp)
    omega
theorem sumL_le : ∀ (l : List Int) (c : Int), (∀ x ∈ l, x ≤ c) → sumL l ≤ l.length * c
  | [], _, _ => by simp [sumL_nil]
  | x :: l, c, h => by
    rw [sumL_cons, List.length_cons, mul_succ']
    have := sumL_le l c (fun y hy => h y (by simp [hy]))
    have := h x (by simp)
    omega
theorem part_nonneg (l : List Int) (f k : Nat) (h : ∀ x ∈ l, 0 ≤ x) : 0 ≤ part l f k :=
  sumL_nonneg _ fun x hx => h x (List.mem_of_mem_drop (List.mem_of_mem_take hx))
theorem part_le (l : List Int) (f k : Nat) (c : Int) (hc : 0 ≤ c) (h : ∀ x ∈ l, x ≤ c) : part l f k ≤ l.length * c := by
  have h1 := sumL_le ((l.drop f).take (k - f)) c fun x hx => h x (List.mem_of_mem_drop (List.mem_of_mem_take hx))
  have h2 : (((l.drop f).take (k - f)).length : Int) ≤ l.length := by simp; omega
  have h3 := Int.mul_le_mul_of_nonneg_right h2 hc
  unfold part
  omega

/-- the law -/
theorem sure_over {o0 o1 : List Int} {n d : Int} {f a k : Nat} (hd1 : 0 ≤ d) (hd2 : d ≤ 500) (h0 : keepsAll o0 d) (h1 : keepsAll o1 d) (hlen : o1.length = o0.length) (hpos : ∀ x ∈ o1, 0 ≤ x)
    (hf : f ≤ a) (ha : a ≤ k) (hk : k < o0.length) (hov : wait n d ≤ part o0 a (k + 1)) : n ≤ part o1 f (k + 1) := by
  have a0 := (h0 a (k + 1 - a) (by omega) (by omega)).2
  have a1 := (h1 a (k + 1 - a) (by omega) (by omega)).1
  have := lease_over (lease := n) (d := d) (w := wait n d) (g := k + 1 - a) hd1 hd2 rfl hov a0 a1
  rw [part_split o1 f a (k + 1) hf (by omega)]
  have := part_nonneg o1 f a hpos
  unfold part at *
  omega
end Clk
end Go.Proofs.Ytmgcigohfccgeaa
