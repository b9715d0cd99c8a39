/- NtOnceW. -/
import Derived.Test.YtndjgbknhfficaaNtOnceP
import Derived.Test.YtndjgbknhfficaaNtOn
namespace Go.Proofs.Ytndjgbknhfficaa.Nt
open Go.RowKit Go.Proofs.Ytndjgbknhfficaa Go.Proofs.Ytndjgbknhfficaa.So

theorem below_drew' {n : Nat} {a w : World} (h : Below n a w) : Below n a w.drew := Below.drewN' h 1
theorem frp_drew {P : Nat → Prop} {a w : World} (h : Frp P a w) : Frp P a w.drew := h.next (below_drewN 1)
theorem frp_alloc {P : Nat → Prop} {a w : World} (h : Frp P a w) (o : Obj) : Frp P a (w.alloc o) := h.next (below_alloc w o)
theorem own_drew {w : World} {base : Nat} {e : TypeId} {size : Nat} {v : Value} {n : Nat} {xs : List Value} (h : w.ownsRow base e size v n xs) : w.drew.ownsRow base e size v n xs := own_keep h (below_drewN 1)
theorem own_e (w : World) (base : Nat) (hb : base ≤ w.heap.size) : (w.alloc (.cells #[] 5)).ownsRow base 5 1 (.slice (some ⟨w.heap.size, 0, none⟩) 0 0) 0 [] := So.row_low (World.ownsRow_lit w #[] 0 (Nat.le_refl _) (by simp [maxLen]) rfl) hb
theorem pnet_drew {w : World} {b mb : Nat} {last : Int} {E : List En} (h : PNet w b mb last E) : PNet w.drew b mb last E := h.kept (below_drewN 1)
section
variable {w0 w w' : World} {b mb : Nat} {last last' : Int} {E E' Sn : List En} {Ov : List Int} {vs vo : Value}
theorem PNet.apT (h : PNet w b mb last E) {base : Nat} {e : TypeId} {size n : Nat} {v : Value} {xs : List Value} (ho : w.ownsRow base e size v n xs) (he : 59 ≠ e) : ∀ g, v.ownBlock = some g → ¬ NP b mb g := fun g hg hq => by
  rcases hq with rfl | rfl
  · exact own_ty ho h.blk he hg
  · exact own_nmap ho h.map hg
theorem PNet.apB {A : Nat} {C : List Value} {t : TypeId} (h : PNet w b mb last E) (hA : Blk w A C t) (ht : 59 ≠ t) : ¬ NP b mb A := fun hq => by
  rcases hq with rfl | rfl
  · exact absurd (blk_ty h.blk hA) ht
  · exact blk_nmap hA h.map
/-- a row of one's own grows: the net stands -/
theorem PNet.beside (h : PNet w b mb last E) {base : Nat} {e : TypeId} {size n : Nat} {v : Value} {xs : List Value} (ho : w.ownsRow base e size v n xs) (he : 59 ≠ e) (he8 : 5 ≠ e) (hg : w.grownBy w' v.ownBlock) : PNet w' b mb last E :=
  h.frp (Q := fun k => v.ownBlock = some k) ((Frp.refl _ w).grown hg (fun k hk => .inl hk)) (fun hq => h.apT ho he b hq (.inl rfl)) (fun hq => h.apT ho he mb hq (.inr rfl)) (fun x hx g hgx hq => own_own (h.own x hx) ho he8 hgx hq)
/-- the law's state: the net, the letters sent, the numbers over -/
structure OW (w0 w : World) (b mb : Nat) (last : Int) (E Sn : List En) (Ov : List Int) (vs vo : Value) : Prop where
  n : ON w0 w b mb last E
  rs : w.ownsRow w0.heap.size 32 5 vs Sn.length (rwC enC Sn)
  rb : ∀ s ∈ Sn, Go.Proofs.Ytndjgbknhfficaa.Rd w0 s.v s.l.bd
  ro : w.ownsRow w0.heap.size 25 1 vo Ov.length (Ov.map encU)
theorem OW.start (h : ON w0 w b mb last E) : OW w0 w b mb last E [] [] (.slice none 0 0) (.slice none 0 0) := ⟨h, ⟨rfl, .inl ⟨rfl, rfl⟩⟩, by simp, ⟨rfl, .inl ⟨rfl, rfl⟩⟩⟩
theorem OW.kept (h : OW w0 w b mb last E Sn Ov vs vo) (hb : Below w.heap.size w w') : OW w0 w' b mb last E Sn Ov vs vo := ⟨h.n.kept hb, own_keep h.rs hb, h.rb, own_keep h.ro hb⟩
theorem OW.step (h : OW w0 w b mb last E Sn Ov vs vo) (hp : PNet w' b mb last' E') (hf : Frp (NP b mb) w w') : OW w0 w' b mb last' E' Sn Ov vs vo :=
  ⟨h.n.step hp hf, own_frp h.rs hf (h.n.p.apT h.rs (by decide)), h.rb, own_frp h.ro hf (h.n.p.apT h.ro (by decide))⟩
theorem OW.sent {v' : Value} {s : En} (h : OW w0 w b mb last E Sn Ov vs vo) (hg : w.grownBy w' vs.ownBlock) (hr : w'.ownsRow w0.heap.size 32 5 v' (Sn.length + 1) (rwC enC Sn ++ enC s)) (hs : Go.Proofs.Ytndjgbknhfficaa.Rd w0 s.v s.l.bd) : OW w0 w' b mb last E (Sn ++ [s]) Ov v' vo := by
  refine ⟨⟨h.n.p.beside h.rs (by decide) (by decide) hg, h.n.lo, below_grown h.n.bel h.n.bel.size h.rs hg⟩, ?_, fun x hx => ?_, own_fr h.ro (Fr.of_grown hg) (fun q hq hm => own_own h.ro h.rs (by decide) hq (Option.mem_toList.1 hm))⟩
  · rw [List.length_append]
    have : rwC enC (Sn ++ [s]) = rwC enC Sn ++ enC s := by rw [rwC_append]; simp [rwC]
    rw [this]
    exact hr
  · rcases List.mem_append.1 hx with hx | hx
    · exact h.rb x hx
    · simp at hx; subst hx; exact hs
theorem OW.over {v' : Value} {n : Int} (h : OW w0 w b mb last E Sn Ov vs vo) (hg : w.grownBy w' vo.ownBlock) (hr : w'.ownsRow w0.heap.size 25 1 v' (Ov.length + 1) (Ov.map encU ++ [.int .u64 n])) : OW w0 w' b mb last E Sn (Ov ++ [n]) vs v' := by
  refine ⟨⟨h.n.p.beside h.ro (by decide) (by decide) hg, h.n.lo, below_grown h.n.bel h.n.bel.size h.ro hg⟩, own_fr h.rs (Fr.of_grown hg) (fun q hq hm => own_own h.rs h.ro (by decide) hq (Option.mem_toList.1 hm)), h.rb, ?_⟩
  rw [List.length_append, List.map_append]
  exact hr
end
end Go.Proofs.Ytndjgbknhfficaa.Nt
