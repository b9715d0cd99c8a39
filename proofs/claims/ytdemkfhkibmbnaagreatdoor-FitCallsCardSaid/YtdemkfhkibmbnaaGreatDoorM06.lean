/- Frp, Rw. -/
import Derived.Test.YtdemkfhkibmbnaaGreatDoorM04
import Derived.Test.YtdemkfhkibmbnaaGreatDoorMaps
namespace Go.Proofs.YtdemkfhkibmbnaaGreatDoor
open Go.RowKit
def Frp (P : Nat → Prop) (w w' : World) : Prop := ∃ S, Fr S w w' ∧ ∀ x ∈ S, P x
theorem Frp.of_below {w w' : World} (h : Below w.heap.size w w') (P : Nat → Prop) : Frp P w w' := ⟨[], Fr.of_below h [], by simp⟩
theorem Frp.refl (P : Nat → Prop) (w : World) : Frp P w w := ⟨[], Fr.refl _ _, by simp⟩
theorem Frp.size {P : Nat → Prop} {w w' : World} (h : Frp P w w') : w.heap.size ≤ w'.heap.size := by obtain ⟨S, h, -⟩ := h; exact h.size
theorem Frp.mono {P Q : Nat → Prop} {w w' : World} (h : Frp P w w') (hp : ∀ k, P k → Q k) : Frp Q w w' := by
 obtain ⟨S, h, h2⟩ := h; exact ⟨S, h, fun x hx => hp x (h2 x hx)⟩
theorem Frp.trans {P Q : Nat → Prop} {a b c : World} (h : Frp P a b) (k : Frp Q b c) (hq : ∀ x, Q x → P x ∨ a.heap.size ≤ x) : Frp P a c := by
 obtain ⟨S, h1, h2⟩ := h; obtain ⟨S2, h3, h4⟩ := k
 classical
 refine ⟨S ++ S2.filter (fun x => decide (P x)), (h1.mono (fun x hx => List.mem_append_left _ hx)).trans h3 (fun x hx => ?_), fun x hx => ?_⟩
 ·rcases hq x (h4 x hx) with h5 | h5
  ·exact .inl (List.mem_append_right _ (List.mem_filter.2 ⟨hx, by simpa using h5⟩))
  ·exact .inr h5
 ·rcases List.mem_append.1 hx with hx | hx
  ·exact h2 x hx
  ·simpa using (List.mem_filter.1 hx).2
theorem Frp.then {P : Nat → Prop} {a b c : World} (h : Frp P a b) (k : Frp P b c) : Frp P a c := h.trans k fun _ hx => .inl hx
theorem Frp.below {P : Nat → Prop} {n : Nat} {w w' : World} (h : Frp P w w') (hp : ∀ k, P k → n ≤ k) (hn : n ≤ w.heap.size) : Below n w w' := by
 obtain ⟨S, h, h2⟩ := h; exact h.below (fun x hx => hp x (h2 x hx)) hn
theorem Frp.set {P : Nat → Prop} {a w : World} (h : Frp P a w) {p : Addr} (hp : P p.block) (u : Value) : Frp P a (w.setCell p u) :=
 h.then ⟨[p.block], (Fr.refl _ _).set (p := p) (by simp) u, fun x hx => by rw [List.mem_singleton.1 hx]; exact hp⟩
theorem Frp.grown {P : Nat → Prop} {a w w' : World} {row : Option Nat} (h : Frp P a w) (hg : w.grownBy w' row) (hp : ∀ k, row = some k → P k ∨ a.heap.size ≤ k) : Frp P a w' :=
 h.trans (Q := fun k => row = some k) ⟨row.toList, Fr.of_grown hg, fun x hx => Option.mem_toList.1 hx⟩ hp
theorem Frp.next {P : Nat → Prop} {a w w' : World} (h : Frp P a w) (hb : Below w.heap.size w w') : Frp P a w' := h.then (Frp.of_below hb P)
theorem Blk.frp {Q : Nat → Prop} {w w' : World} {g : Nat} {cs : List Value} {t : TypeId} (h : Blk w g cs t) (hf : Frp Q w w') (hg : ¬ Q g) : Blk w' g cs t := by
 obtain ⟨S, hS, hS2⟩ := hf; exact h.fr hS (fun hm => hg (hS2 _ hm))
theorem own_ty {w : World} {base : Nat} {e t : TypeId} {size n : Nat} {v : Value} {xs cs : List Value} {g : Nat} (h : w.ownsRow base e size v n xs) (hb : Blk w g cs t) (ht : t ≠ e) : v.ownBlock ≠ some g := by
 intro hv; rcases h.2 with ⟨rfl, -⟩ | ⟨q, cap, cur, rfl, -, hh, -⟩
 ·simp [Value.ownBlock] at hv
 ·simp only [Value.ownBlock, Option.some.injEq] at hv
  subst hv
  unfold Blk at hb
  rw [hh] at hb; simp only [Option.some.injEq, Obj.cells.injEq] at hb; exact ht hb.2.1.symm
section
variable {α : Type} (c : α → List Value)
def rwC (L : List α) : List Value := L.flatMap c
end
section
variable {α : Type} {c : α → List Value} {k : Nat}
theorem rwC_nil : rwC c [] = [] := rfl
theorem rwC_cons (x : α) (L : List α) : rwC c (x :: L) = c x ++ rwC c L := by unfold rwC; rw [List.flatMap_cons]
theorem rwC_append (L M : List α) : rwC c (L ++ M) = rwC c L ++ rwC c M := by unfold rwC; rw [List.flatMap_append]
theorem rwC_snoc (L : List α) (x : α) : rwC c (L ++ [x]) = rwC c L ++ c x := by rw [rwC_append, rwC_cons, rwC_nil, List.append_nil]
theorem rwC_len (hk : ∀ x, (c x).length = k) : ∀ L : List α, (rwC c L).length = L.length * k
 | [] => by simp [rwC]
 | x :: L => by rw [rwC_cons, List.length_append, hk, rwC_len hk L, List.length_cons, Nat.add_mul]; omega
theorem rwC_one (h1 : ∀ x, ∀ u ∈ c x, u.oneCell' = true) (L : List α) : ∀ u ∈ rwC c L, u.oneCell' = true := by
 intro u hu; obtain ⟨x, -, hx⟩ := List.mem_flatMap.1 hu; exact h1 x u hx
theorem rwC_drop (hk : ∀ x, (c x).length = k) {L : List α} {m : Nat} (hm : m ≤ L.length) : (rwC c L).drop (m * k) = rwC c (L.drop m) := by
 conv => lhs; rw [← List.take_append_drop m L, rwC_append]
 rw [List.drop_left' (by rw [rwC_len hk, List.length_take, Nat.min_eq_left hm])]
theorem rwC_at (hk : ∀ x, (c x).length = k) {L : List α} {i : Nat} (hi : i < L.length) {j : Nat} (hj : j < k) : (rwC c L)[i * k + j]? = (c L[i])[j]? := by
 have h1 := rwC_drop hk (L := L) (m := i) (by omega); have h2 : (rwC c L)[i * k + j]? = ((rwC c L).drop (i * k))[j]? := by rw [List.getElem?_drop]
 rw [h2, h1, List.drop_eq_getElem_cons hi, rwC_cons, List.getElem?_append_left (by rw [hk]; exact hj)]
end
theorem row_own {w : World} {base : Nat} {e : TypeId} {size n : Nat} {v : Value} {cs : List Value} (h : w.ownsRow base e size v n cs) (h1 : ∀ u ∈ cs, u.oneCell' = true) : ∃ p c, v = .slice p n c ∧ n ≤ c ∧ c ≤ maxLen ∧ Row w (.slice p n c) size n cs := by
 obtain ⟨p, c, rfl, hc, hm⟩ := own_slice h; exact ⟨p, c, rfl, hc, hm, row_of_owns h h1⟩
