/- The document's queue: Put. -/
import Derived.Test.YtlemfbgmhjklaaaRQ4
namespace Go.Proofs.Ytlemfbgmhjklaaa
open Go.RowKit

section
variable {base : Nat} {w w' : World} {g : Nat} {rv : Nat → Value} {vL : Value} {rw : Nat → List ByteArray} {L : List Pend}
/-- the list grown, where it lies or in new memory -/
theorem RQ.growL {w1 w9 : World} {v : Value} {L' : List Pend} (h : RQ base w g rv vL rw L) (h1 : Below w.heap.size w w1) (ho : w9.ownsRow base 29 4 v L'.length (pcells L')) (hg : w1.grownBy w9 vL.ownBlock) (hn : ∀ k, v.ownBlock = some k → vL.ownBlock = some k ∨ w1.heap.size ≤ k) :
    RQ base (w9.setCell ⟨g, 4, none⟩ v) g rv v rw L' ∧ RSt w (w9.setCell ⟨g, 4, none⟩ v) g rv vL rv v := by
  have hk := h.kept h1
  have hb9 : Blk w9 g [rv 0, rv 1, rv 2, rv 3, vL] 46 := hk.blk.grown hg (fun e => hk.neL e.symm)
  have hf : Fr [g] w9 (w9.setCell ⟨g, 4, none⟩ v) := (Fr.refl [g] w9).set (p := ⟨g, 4, none⟩) (by simp) v
  have hvg : v.ownBlock ≠ some g := own_ty ho hb9 (by decide)
  have hgr : Fr vL.ownBlock.toList w1 w9 := Fr.of_grown hg
  refine ⟨⟨hb9.set 4 v, fun b hb4 => own_fr (own_fr (hk.rows b hb4) hgr (fun k hkk hm => ?_)) hf (fun k hkk hm => hk.neR hb4 (by rw [hkk, List.mem_singleton.1 hm])), own_fr ho hf (fun k hkk hm => hvg (by rw [hkk, List.mem_singleton.1 hm])), h.sep, h.lo⟩, ⟨g :: vL.ownBlock.toList, ((Fr.of_below h1 _).then (hgr.mono (fun x hx => List.mem_cons_of_mem _ hx))).then (hf.mono (fun x hx => by rw [List.mem_singleton.1 hx]; exact List.mem_cons_self)), fun x hx => ?_⟩, fun k hkk => ?_⟩
  · have h2 := Option.mem_toList.1 hm
    -- the row's block holds texts, the list's block tasks
    rcases hk.list.2 with ⟨h3, -⟩ | ⟨g', cap, cur, h3, -, h4, -⟩
    · rw [h3] at h2; cases h2
    · rw [h3] at h2
      simp [Value.ownBlock] at h2
      subst h2
      rcases (hk.rows b hb4).2 with ⟨h5, -⟩ | ⟨g2, cap2, cur2, h5, -, h6, -⟩
      · rw [h5] at hkk; cases hkk
      · rw [h5] at hkk
        simp [Value.ownBlock] at hkk
        subst hkk
        rw [h4] at h6
        simp at h6
  · rcases List.mem_cons.1 hx with h2 | h2
    · exact .inl h2
    · exact .inr (.inr (Option.mem_toList.1 h2))
  · rcases hkk with h2 | h2 | h2
    · exact .inl (.inl h2)
    · exact .inl (.inr (.inl h2))
    · rcases hn k h2 with h3 | h3
      · exact .inl (.inr (.inr h3))
      · exact .inr (Nat.le_trans h1.size h3)
/-- a row grown, where it lies or in new memory -/
theorem RQ.growR {w1 w9 : World} {v : Value} {ns : List ByteArray} {b : Nat} (h : RQ base w g rv vL rw L) (hb4 : b < 4) (h1 : Below w.heap.size w w1) (ho : w9.ownsRow base 9 1 v ns.length (strV ns)) (hg : w1.grownBy w9 (rv b).ownBlock) (hn : ∀ k, v.ownBlock = some k → (rv b).ownBlock = some k ∨ w1.heap.size ≤ k) :
    RQ base (w9.setCell ⟨g, b, none⟩ v) g (updV rv b v) vL (updV rw b ns) L ∧ RSt w (w9.setCell ⟨g, b, none⟩ v) g rv vL (updV rv b v) vL := by
  have hk := h.kept h1
  have hb9 : Blk w9 g [rv 0, rv 1, rv 2, rv 3, vL] 46 := hk.blk.grown hg (fun e => hk.neR hb4 e.symm)
  have hf : Fr [g] w9 (w9.setCell ⟨g, b, none⟩ v) := (Fr.refl [g] w9).set (p := ⟨g, b, none⟩) (by simp) v
  have hvg : v.ownBlock ≠ some g := own_ty ho hb9 (by decide)
  have hgr : Fr (rv b).ownBlock.toList w1 w9 := Fr.of_grown hg
  have hrow : ∀ c, c < 4 → ∀ k, (rv c).ownBlock = some k → k < w1.heap.size := fun c hc k hkk => own_hi (hk.rows c hc) hkk
  refine ⟨⟨?_, fun c hc => ?_, own_fr (own_fr hk.list hgr (fun k hkk hm => ?_)) hf (fun k hkk hm => hk.neL (by rw [hkk, List.mem_singleton.1 hm])), fun c hc d hd hne k hkk hk2 => ?_, h.lo⟩, ⟨g :: (rv b).ownBlock.toList, ((Fr.of_below h1 _).then (hgr.mono (fun x hx => List.mem_cons_of_mem _ hx))).then (hf.mono (fun x hx => by rw [List.mem_singleton.1 hx]; exact List.mem_cons_self)), fun x hx => ?_⟩, fun k hkk => ?_⟩
  · have := hb9.set b v
    obtain rfl | rfl | rfl | rfl : b = 0 ∨ b = 1 ∨ b = 2 ∨ b = 3 := by omega
    all_goals simpa [updV] using this
  · by_cases e : c = b
    · subst e
      rw [updV_same, updV_same]
      exact own_fr ho hf (fun k hkk hm => hvg (by rw [hkk, List.mem_singleton.1 hm]))
    · rw [updV_other _ _ e, updV_other _ _ e]
      exact own_fr (own_fr (hk.rows c hc) hgr (fun k hkk hm => h.sep c hc b hb4 e k hkk (Option.mem_toList.1 hm))) hf (fun k hkk hm => hk.neR hc (by rw [hkk, List.mem_singleton.1 hm]))
  · have h2 := Option.mem_toList.1 hm
    rcases hk.list.2 with ⟨h3, -⟩ | ⟨g', cap, cur, h3, -, h4, -⟩
    · rw [h3] at hkk; cases hkk
    · rw [h3] at hkk
      simp [Value.ownBlock] at hkk
      subst hkk
      rcases (hk.rows b hb4).2 with ⟨h5, -⟩ | ⟨g2, cap2, cur2, h5, -, h6, -⟩
      · rw [h5] at h2; cases h2
      · rw [h5] at h2
        simp [Value.ownBlock] at h2
        subst h2
        rw [h4] at h6
        simp at h6
  · by_cases e1 : c = b
    · subst e1
      rw [updV_same] at hkk
      rw [updV_other _ _ (fun e => hne e.symm)] at hk2
      rcases hn k hkk with h3 | h3
      · exact h.sep c hc d hd hne k h3 hk2
      · have := hrow d hd k hk2; omega
    · rw [updV_other _ _ e1] at hkk
      by_cases e2 : d = b
      · subst e2
        rw [updV_same] at hk2
        rcases hn k hk2 with h3 | h3
        · exact h.sep c hc d hd hne k hkk h3
        · have := hrow c hc k hkk; omega
      · rw [updV_other _ _ e2] at hk2
        exact h.sep c hc d hd hne k hkk hk2
  · rcases List.mem_cons.1 hx with h2 | h2
    · exact .inl h2
    · exact .inr (.inl ⟨b, hb4, Option.mem_toList.1 h2⟩)
  · rcases hkk with h2 | ⟨c, hc, h2⟩ | h2
    · exact .inl (.inl h2)
    · by_cases e : c = b
      · subst e
        rw [updV_same] at h2
        rcases hn k h2 with h3 | h3
        · exact .inl (.inr (.inl ⟨c, hc, h3⟩))
        · exact .inr (Nat.le_trans h1.size h3)
      · rw [updV_other _ _ e] at h2
        exact .inl (.inr (.inl ⟨c, hc, h2⟩))
    · exact .inl (.inr (.inr h2))
end
end Go.Proofs.Ytlemfbgmhjklaaa
