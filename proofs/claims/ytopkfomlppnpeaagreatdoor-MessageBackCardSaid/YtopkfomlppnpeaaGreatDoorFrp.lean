/- Frp. -/
import Derived.Test.YtopkfomlppnpeaaGreatDoorMSep
import Derived.Test.YtopkfomlppnpeaaGreatDoorMaps
namespace Go.Proofs.YtopkfomlppnpeaaGreatDoor
open Go.RowKit

/-- nothing but blocks of P has turned of what was there -/
def Frp (P : Nat → Prop) (w w' : World) : Prop := ∃ S, Fr S w w' ∧ ∀ x ∈ S, P x
theorem Frp.of_below {w w' : World} (h : Below w.heap.size w w') (P : Nat → Prop) : Frp P w w' := ⟨[], Fr.of_below h [], by simp⟩
theorem Frp.refl (P : Nat → Prop) (w : World) : Frp P w w := ⟨[], Fr.refl _ _, by simp⟩
theorem Frp.size {P : Nat → Prop} {w w' : World} (h : Frp P w w') : w.heap.size ≤ w'.heap.size := by obtain ⟨S, h, -⟩ := h; exact h.size
theorem Frp.mono {P Q : Nat → Prop} {w w' : World} (h : Frp P w w') (hp : ∀ k, P k → Q k) : Frp Q w w' := by
  obtain ⟨S, h, h2⟩ := h
  exact ⟨S, h, fun x hx => hp x (h2 x hx)⟩
theorem Frp.trans {P Q : Nat → Prop} {a b c : World} (h : Frp P a b) (k : Frp Q b c) (hq : ∀ x, Q x → P x ∨ a.heap.size ≤ x) : Frp P a c := by
  obtain ⟨S, h1, h2⟩ := h
  obtain ⟨S2, h3, h4⟩ := k
  classical
  refine ⟨S ++ S2.filter (fun x => decide (P x)), (h1.mono (fun x hx => List.mem_append_left _ hx)).trans h3 (fun x hx => ?_), fun x hx => ?_⟩
  · rcases hq x (h4 x hx) with h5 | h5
    · exact .inl (List.mem_append_right _ (List.mem_filter.2 ⟨hx, by simpa using h5⟩))
    · exact .inr h5
  · rcases List.mem_append.1 hx with hx | hx
    · exact h2 x hx
    · simpa using (List.mem_filter.1 hx).2
theorem Frp.then {P : Nat → Prop} {a b c : World} (h : Frp P a b) (k : Frp P b c) : Frp P a c := h.trans k fun _ hx => .inl hx
theorem Frp.below {P : Nat → Prop} {n : Nat} {w w' : World} (h : Frp P w w') (hp : ∀ k, P k → n ≤ k) (hn : n ≤ w.heap.size) : Below n w w' := by
  obtain ⟨S, h, h2⟩ := h
  exact h.below (fun x hx => hp x (h2 x hx)) hn
theorem Frp.set {P : Nat → Prop} {a w : World} (h : Frp P a w) {p : Addr} (hp : P p.block) (u : Value) : Frp P a (w.setCell p u) :=
  h.then ⟨[p.block], (Fr.refl _ _).set (p := p) (by simp) u, fun x hx => by rw [List.mem_singleton.1 hx]; exact hp⟩
theorem Frp.grown {P : Nat → Prop} {a w w' : World} {row : Option Nat} (h : Frp P a w) (hg : w.grownBy w' row) (hp : ∀ k, row = some k → P k ∨ a.heap.size ≤ k) : Frp P a w' :=
  h.trans (Q := fun k => row = some k) ⟨row.toList, Fr.of_grown hg, fun x hx => Option.mem_toList.1 hx⟩ hp
theorem Frp.next {P : Nat → Prop} {a w w' : World} (h : Frp P a w) (hb : Below w.heap.size w w') : Frp P a w' := h.then (Frp.of_below hb P)
theorem Blk.frp {Q : Nat → Prop} {w w' : World} {g : Nat} {cs : List Value} {t : TypeId} (h : Blk w g cs t) (hf : Frp Q w w') (hg : ¬ Q g) : Blk w' g cs t := by
  obtain ⟨S, hS, hS2⟩ := hf
  exact h.fr hS (fun hm => hg (hS2 _ hm))
theorem own_frp {Q : Nat → Prop} {w w' : World} {base : Nat} {e : TypeId} {size : Nat} {v : Value} {n : Nat} {xs : List Value} (h : w.ownsRow base e size v n xs) (hf : Frp Q w w') (hg : ∀ g, v.ownBlock = some g → ¬ Q g) : w'.ownsRow base e size v n xs := by
  obtain ⟨S, hS, hS2⟩ := hf
  exact own_fr h hS fun g hv hm => hg g hv (hS2 _ hm)
theorem cell_frp {Q : Nat → Prop} {w w' : World} {a : Addr} {v : Value} (h : w.cell? a = some v) (hf : Frp Q w w') (hg : ¬ Q a.block) : w'.cell? a = some v := by
  obtain ⟨S, hS, hS2⟩ := hf
  exact cell_fr h hS (fun hm => hg (hS2 _ hm))
theorem SMap.fr {P : Program} {k : TypeId} {S : List Nat} {w w' : World} {b : Nat} {m : SM} (h : SMap P k w b m) (hf : Fr S w w') (hb : b ∉ S) : SMap P k w' b m := by
  have hl := h.lt
  obtain ⟨es, clock, h1, h2⟩ := h
  refine ⟨es, clock, ?_, h2⟩
  rw [hf.block b hl hb]
  exact h1
theorem SMap.frp {P : Program} {k : TypeId} {Q : Nat → Prop} {w w' : World} {b : Nat} {m : SM} (h : SMap P k w b m) (hf : Frp Q w w') (hb : ¬ Q b) : SMap P k w' b m := by
  obtain ⟨S, hS, hS2⟩ := hf
  exact h.fr hS (fun hm => hb (hS2 _ hm))
/-- a row's block is not a block of another type -/
theorem own_ty {w : World} {base : Nat} {e t : TypeId} {size n : Nat} {v : Value} {xs cs : List Value} {g : Nat} (h : w.ownsRow base e size v n xs) (hb : Blk w g cs t) (ht : t ≠ e) : v.ownBlock ≠ some g := by
  intro hv
  rcases h.2 with ⟨rfl, -⟩ | ⟨q, cap, cur, rfl, -, hh, -⟩
  · simp [Value.ownBlock] at hv
  · simp only [Value.ownBlock, Option.some.injEq] at hv
    subst hv
    unfold Blk at hb
    rw [hh] at hb
    simp only [Option.some.injEq, Obj.cells.injEq] at hb
    exact ht hb.2.1.symm
theorem blk_ty {w : World} {g : Nat} {cs ds : List Value} {t u : TypeId} (h : Blk w g cs t) (k : Blk w g ds u) : t = u := by
  unfold Blk at h k
  rw [h] at k
  simp only [Option.some.injEq, Obj.cells.injEq] at k
  exact k.2.1
theorem blk_map {P : Program} {k : TypeId} {w : World} {g : Nat} {cs : List Value} {t : TypeId} {m : SM} (h : Blk w g cs t) (hm : SMap P k w g m) : False := by
  obtain ⟨es, clock, h1, -⟩ := hm
  unfold Blk at h
  rw [h] at h1
  cases h1
theorem own_map {P : Program} {k : TypeId} {w : World} {base : Nat} {e : TypeId} {size n : Nat} {v : Value} {xs : List Value} {g : Nat} {m : SM} (h : w.ownsRow base e size v n xs) (hm : SMap P k w g m) : v.ownBlock ≠ some g := by
  intro hv
  obtain ⟨es, clock, h1, -⟩ := hm
  rcases h.2 with ⟨rfl, -⟩ | ⟨q, cap, cur, rfl, -, hh, -⟩
  · simp [Value.ownBlock] at hv
  · simp only [Value.ownBlock, Option.some.injEq] at hv
    subst hv
    rw [hh] at h1
    cases h1
end Go.Proofs.YtopkfomlppnpeaaGreatDoor
