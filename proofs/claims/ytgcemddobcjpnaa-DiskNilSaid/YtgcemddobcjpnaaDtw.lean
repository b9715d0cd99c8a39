/- A disk of the program's, alone and beside one of the document's; blocks that neither turns. -/
import Derived.Test.YtgcemddobcjpnaaRd8
namespace Go.Proofs.Ytgcemddobcjpnaa
open Go.RowKit

/-- a disk of the call's own -/
structure Od (X : Nat → Prop) (wx w0 w : World) (b : Nat) (D : Dk) : Prop where
  d : ∃ mb L, PDk w b mb D L ∧ ∀ k, fpP b mb L k → w0.heap.size ≤ k ∧ ¬ X k
  xl : ∀ k, X k → k < w.heap.size
  fx : Frp (fun k => ¬ X k) wx w
  bel : Below w0.heap.size w0 w
/-- two of them -/
structure Tw (X : Nat → Prop) (wx w0 w : World) (b g : Nat) (D E : Dk) : Prop where
  d : ∃ mb L vF L2, PDk w b mb D L ∧ RDk w g vF E L2 ∧ (∀ k, fpP b mb L k → w0.heap.size ≤ k ∧ ¬ X k) ∧ (∀ k, fpR g vF L2 k → w0.heap.size ≤ k ∧ ¬ X k) ∧ ∀ k, fpP b mb L k → ¬ fpR g vF L2 k
  xl : ∀ k, X k → k < w.heap.size
  fx : Frp (fun k => ¬ X k) wx w
  bel : Below w0.heap.size w0 w
theorem Frp.belowX {X : Nat → Prop} {wx w w' : World} (h : Frp (fun k => ¬ X k) wx w) (hb : Below w.heap.size w w') : Frp (fun k => ¬ X k) wx w' := h.next hb
section
variable {X : Nat → Prop} {wx w0 w w' : World} {b g : Nat} {D E : Dk}
theorem Od.kept (h : Od X wx w0 w b D) (hb : Below w.heap.size w w') : Od X wx w0 w' b D := by
  obtain ⟨mb, L, h1, h2⟩ := h.d
  exact ⟨⟨mb, L, h1.kept hb, h2⟩, fun k hk => Nat.lt_of_lt_of_le (h.xl k hk) hb.size, h.fx.belowX hb, below_and h.bel hb⟩
theorem Tw.kept (h : Tw X wx w0 w b g D E) (hb : Below w.heap.size w w') : Tw X wx w0 w' b g D E := by
  obtain ⟨mb, L, vF, L2, h1, h2, h3, h4, h5⟩ := h.d
  exact ⟨⟨mb, L, vF, L2, h1.kept hb, h2.kept hb, h3, h4, h5⟩, fun k hk => Nat.lt_of_lt_of_le (h.xl k hk) hb.size, h.fx.belowX hb, below_and h.bel hb⟩
theorem Tw.od (h : Tw X wx w0 w b g D E) : Od X wx w0 w b D := by
  obtain ⟨mb, L, vF, L2, h1, h2, h3, h4, h5⟩ := h.d
  exact ⟨⟨mb, L, h1, h3⟩, h.xl, h.fx, h.bel⟩
/-- other blocks are watched, from here on -/
theorem Od.swap (h : Od X wx w0 w b D) (Y : Nat → Prop) (hx : ∀ k, Y k → k < w.heap.size) (hy : ∀ mb L, PDk w b mb D L → (∀ k, fpP b mb L k → w0.heap.size ≤ k ∧ ¬ X k) → ∀ k, fpP b mb L k → ¬ Y k) : Od Y w w0 w b D := by
  obtain ⟨mb, L, h1, h2⟩ := h.d
  exact ⟨⟨mb, L, h1, fun k hk => ⟨(h2 k hk).1, hy mb L h1 h2 k hk⟩⟩, hx, Frp.refl _ _, h.bel⟩
/-- one block more is watched: one that was just made -/
theorem Tw.watch {wa : World} (h : Tw X wx w0 wa b g D E) (hb : Below wa.heap.size wa w) (Y : Nat → Prop) (hx : ∀ k, Y k → k < w.heap.size) (hy : ∀ k, Y k → X k ∨ wa.heap.size ≤ k) : Tw Y w w0 w b g D E := by
  obtain ⟨mb, L, vF, L2, h1, h2, h3, h4, h5⟩ := h.d
  refine ⟨⟨mb, L, vF, L2, h1.kept hb, h2.kept hb, fun k hk => ⟨(h3 k hk).1, fun hk2 => ?_⟩, fun k hk => ⟨(h4 k hk).1, fun hk2 => ?_⟩, h5⟩, hx, Frp.refl _ _, below_and h.bel hb⟩
  · rcases hy k hk2 with h6 | h6
    · exact (h3 k hk).2 h6
    · have := h1.lt hk; omega
  · rcases hy k hk2 with h6 | h6
    · exact (h4 k hk).2 h6
    · have := h2.lt hk; omega
/-- back to the blocks that were watched -/
theorem Tw.back {Y : Nat → Prop} {wy : World} (h : Tw Y wy w0 w b g D E) (hy : ∀ k, X k → Y k) (hf : Frp (fun k => ¬ X k) wx wy) : Tw X wx w0 w b g D E := by
  obtain ⟨mb, L, vF, L2, h1, h2, h3, h4, h5⟩ := h.d
  exact ⟨⟨mb, L, vF, L2, h1, h2, fun k hk => ⟨(h3 k hk).1, fun hx => (h3 k hk).2 (hy k hx)⟩, fun k hk => ⟨(h4 k hk).1, fun hx => (h4 k hk).2 (hy k hx)⟩, h5⟩, fun k hk => h.xl k (hy k hk), hf.then (h.fx.mono (fun k hk hx => hk (hy k hx))), h.bel⟩
/-- a disk of the document's is made beside it -/
theorem Od.beside (h : Od X wx w0 w b D) (hg : w.heap.size ≤ g) (hr : RDk w' g (.slice none 0 0) E []) (hb : Below w.heap.size w w') : Tw X wx w0 w' b g D E := by
  obtain ⟨mb, L, h1, h2⟩ := h.d
  have hfp : ∀ k, fpR g (.slice none 0 0) [] k → k = g := fun k hk => by
    rcases hk with hk | hk | ⟨r, hr, -⟩
    · exact hk
    · cases hk
    · cases hr
  refine ⟨⟨mb, L, _, [], h1.kept hb, hr, h2, fun k hk => ?_, fun k hk hk2 => ?_⟩, fun k hk => Nat.lt_of_lt_of_le (h.xl k hk) hb.size, h.fx.belowX hb, below_and h.bel hb⟩
  · rw [hfp k hk]
    exact ⟨Nat.le_trans h.bel.size hg, fun hx => by have := h.xl g hx; omega⟩
  · have h3 := h1.lt hk
    rw [hfp k hk2] at h3
    omega
theorem Od.turn {mb : Nat} {L : List Pf} {D' : Dk} (h : Od X wx w0 w b D) (h2 : ∀ k, fpP b mb L k → w0.heap.size ≤ k ∧ ¬ X k) (ht : DkTo w w' b mb L D') : Od X wx w0 w' b D' := by
  obtain ⟨L', h3, h4⟩ := ht
  have hn : ∀ k, fpP b mb L' k → w0.heap.size ≤ k ∧ ¬ X k := fun k hk => by
    rcases h4.new k hk with h5 | h5
    · exact h2 k h5
    · exact ⟨Nat.le_trans h.bel.size h5, fun hx => by have := h.xl k hx; omega⟩
  exact ⟨⟨mb, L', h3, hn⟩, fun k hk => Nat.lt_of_lt_of_le (h.xl k hk) h4.fr.size, h.fx.then (h4.fr.mono (fun k hk => (h2 k hk).2)), h.bel.trans (h4.fr.below (fun k hk => (h2 k hk).1) h.bel.size)⟩
theorem Tw.turn1 {mb : Nat} {L : List Pf} {vF : Value} {L2 : List Rf} {D' : Dk} (h : Tw X wx w0 w b g D E) (hr : RDk w g vF E L2) (h2 : ∀ k, fpP b mb L k → w0.heap.size ≤ k ∧ ¬ X k) (h6 : ∀ k, fpR g vF L2 k → w0.heap.size ≤ k ∧ ¬ X k) (h7 : ∀ k, fpP b mb L k → ¬ fpR g vF L2 k) (ht : DkTo w w' b mb L D') : Tw X wx w0 w' b g D' E := by
  obtain ⟨L', h3, h4⟩ := ht
  have hn : ∀ k, fpP b mb L' k → (w0.heap.size ≤ k ∧ ¬ X k) ∧ ¬ fpR g vF L2 k := fun k hk => by
    rcases h4.new k hk with h5 | h5
    · exact ⟨h2 k h5, h7 k h5⟩
    · exact ⟨⟨Nat.le_trans h.bel.size h5, fun hx => by have := h.xl k hx; omega⟩, fun hx => by have := hr.lt hx; omega⟩
  exact ⟨⟨mb, L', vF, L2, h3, hr.frp h4.fr (fun k hk hk2 => h7 k hk2 hk), fun k hk => (hn k hk).1, h6, fun k hk => (hn k hk).2⟩, fun k hk => Nat.lt_of_lt_of_le (h.xl k hk) h4.fr.size, h.fx.then (h4.fr.mono (fun k hk => (h2 k hk).2)), h.bel.trans (h4.fr.below (fun k hk => (h2 k hk).1) h.bel.size)⟩
theorem Tw.turn2 {mb : Nat} {L : List Pf} {vF : Value} {L2 : List Rf} {E' : Dk} (h : Tw X wx w0 w b g D E) (hd : PDk w b mb D L) (h2 : ∀ k, fpP b mb L k → w0.heap.size ≤ k ∧ ¬ X k) (h6 : ∀ k, fpR g vF L2 k → w0.heap.size ≤ k ∧ ¬ X k) (h7 : ∀ k, fpP b mb L k → ¬ fpR g vF L2 k) (ht : RdTo w w' g vF L2 E') : Tw X wx w0 w' b g D E' := by
  obtain ⟨vF', L', h3, h4⟩ := ht
  have hn : ∀ k, fpR g vF' L' k → (w0.heap.size ≤ k ∧ ¬ X k) ∧ ¬ fpP b mb L k := fun k hk => by
    rcases h4.new k hk with h5 | h5
    · exact ⟨h6 k h5, fun hx => h7 k hx h5⟩
    · exact ⟨⟨Nat.le_trans h.bel.size h5, fun hx => by have := h.xl k hx; omega⟩, fun hx => by have := hd.lt hx; omega⟩
  exact ⟨⟨mb, L, vF', L', hd.frp h4.fr (fun k hk hk2 => h7 k hk hk2), h3, h2, fun k hk => (hn k hk).1, fun k hk hk2 => (hn k hk2).2 hk⟩, fun k hk => Nat.lt_of_lt_of_le (h.xl k hk) h4.fr.size, h.fx.then (h4.fr.mono (fun k hk => (h6 k hk).2)), h.bel.trans (h4.fr.below (fun k hk => (h6 k hk).1) h.bel.size)⟩
/-- a call at the disk -/
theorem Od.run {f : FuncId} {args : Array Value} {r : Value} {D' : Dk} (h : Od X wx w0 w b D) (hc : ∀ mb L, PDk w b mb D L → (∀ k, fpP b mb L k → w0.heap.size ≤ k ∧ ¬ X k) → Calls Try.prog f args w fun e w' => e = .returned r ∧ DkTo w w' b mb L D') : Calls Try.prog f args w fun e w' => e = .returned r ∧ Od X wx w0 w' b D' := by
  obtain ⟨mb, L, h1, h2⟩ := h.d
  exact (hc mb L h1 h2).mono fun e w' ⟨he, ht⟩ => ⟨he, h.turn h2 ht⟩
theorem Tw.run1 {f : FuncId} {args : Array Value} {r : Value} {D' : Dk} (h : Tw X wx w0 w b g D E) (hc : ∀ mb L, PDk w b mb D L → (∀ k, fpP b mb L k → w0.heap.size ≤ k ∧ ¬ X k) → Calls Try.prog f args w fun e w' => e = .returned r ∧ DkTo w w' b mb L D') : Calls Try.prog f args w fun e w' => e = .returned r ∧ Tw X wx w0 w' b g D' E := by
  obtain ⟨mb, L, vF, L2, h1, h2, h3, h4, h5⟩ := h.d
  exact (hc mb L h1 h3).mono fun e w' ⟨he, ht⟩ => ⟨he, h.turn1 h2 h3 h4 h5 ht⟩
theorem Tw.run2 {f : FuncId} {args : Array Value} {r : Value} {E' : Dk} (h : Tw X wx w0 w b g D E) (hc : ∀ vF L2, RDk w g vF E L2 → (∀ k, fpR g vF L2 k → w0.heap.size ≤ k ∧ ¬ X k) → Calls Try.prog f args w fun e w' => e = .returned r ∧ RdTo w w' g vF L2 E') : Calls Try.prog f args w fun e w' => e = .returned r ∧ Tw X wx w0 w' b g D E' := by
  obtain ⟨mb, L, vF, L2, h1, h2, h3, h4, h5⟩ := h.d
  exact (hc vF L2 h2 h4).mono fun e w' ⟨he, ht⟩ => ⟨he, h.turn2 h1 h3 h4 h5 ht⟩
/-- a call that only reads -/
theorem Od.see {f : FuncId} {args : Array Value} {Q : Ending → World → Prop} (h : Od X wx w0 w b D) (hc : ∀ mb L, PDk w b mb D L → Calls Try.prog f args w fun e w' => Q e w' ∧ Below w.heap.size w w') : Calls Try.prog f args w fun e w' => Q e w' ∧ Below w.heap.size w w' ∧ Od X wx w0 w' b D := by
  obtain ⟨mb, L, h1, h2⟩ := h.d
  exact (hc mb L h1).mono fun e w' ⟨he, hb⟩ => ⟨he, hb, h.kept hb⟩
end
end Go.Proofs.Ytgcemddobcjpnaa
