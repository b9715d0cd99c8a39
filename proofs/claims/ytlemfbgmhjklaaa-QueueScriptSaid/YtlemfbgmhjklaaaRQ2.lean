/- The document's queue: what its calls turn; cut. -/
import Derived.Test.YtlemfbgmhjklaaaRQ
namespace Go.Proofs.Ytlemfbgmhjklaaa
open Go.RowKit

/-- the blocks of the document's queue -/
def Pd (g : Nat) (rv : Nat → Value) (vL : Value) (k : Nat) : Prop := k = g ∨ (∃ b, b < 4 ∧ (rv b).ownBlock = some k) ∨ vL.ownBlock = some k
theorem blk_frp {Q : Nat → Prop} {w w' : World} {g : Nat} {cs : List Value} {t : TypeId} (h : Blk w g cs t) (hf : Frp Q w w') (hg : ¬ Q g) : Blk w' g cs t := by
  obtain ⟨S, hS, hS2⟩ := hf
  exact h.fr hS (fun hm => hg (hS2 _ hm))
structure RSt (w w' : World) (g : Nat) (rv : Nat → Value) (vL : Value) (rv' : Nat → Value) (vL' : Value) : Prop where
  fr : Frp (Pd g rv vL) w w'
  new : ∀ k, Pd g rv' vL' k → Pd g rv vL k ∨ w.heap.size ≤ k
theorem RSt.of_below {w w' : World} (h : Below w.heap.size w w') (g : Nat) (rv : Nat → Value) (vL : Value) : RSt w w' g rv vL rv vL := ⟨Frp.of_below h _, fun _ h => .inl h⟩
theorem RSt.trans {a b c : World} {g : Nat} {rv rv' rv2 : Nat → Value} {vL vL' vL2 : Value} (h : RSt a b g rv vL rv' vL') (k : RSt b c g rv' vL' rv2 vL2) : RSt a c g rv vL rv2 vL2 :=
  ⟨h.fr.trans k.fr h.new, fun x hx => by
    rcases k.new x hx with h1 | h1
    · exact h.new x h1
    · exact .inr (Nat.le_trans h.fr.size h1)⟩

def updV {α : Type} (f : Nat → α) (b : Nat) (x : α) : Nat → α := fun i => if i = b then x else f i
theorem updV_same {α : Type} (f : Nat → α) (b : Nat) (x : α) : updV f b x b = x := if_pos rfl
theorem updV_other {α : Type} (f : Nat → α) {b i : Nat} (x : α) (h : i ≠ b) : updV f b x i = f i := if_neg h

section
variable {base : Nat} {w w' : World} {g : Nat} {rv : Nat → Value} {vL : Value} {rw : Nat → List ByteArray} {L : List Pend}
theorem RQ.neL (h : RQ base w g rv vL rw L) : vL.ownBlock ≠ some g := own_ty h.list h.blk (by decide)
theorem RQ.neR (h : RQ base w g rv vL rw L) {b : Nat} (hb : b < 4) : (rv b).ownBlock ≠ some g := own_ty (h.rows b hb) h.blk (by decide)
/-- a new list of tasks, in memory that was just made -/
theorem RQ.setL {w9 : World} {v : Value} {L' : List Pend} (h : RQ base w g rv vL rw L) (hb : Below w.heap.size w w9) (ho : w9.ownsRow base 29 4 v L'.length (pcells L')) (hn : ∀ k, v.ownBlock = some k → w.heap.size ≤ k) :
    RQ base (w9.setCell ⟨g, 4, none⟩ v) g rv v rw L' ∧ RSt w (w9.setCell ⟨g, 4, none⟩ v) g rv vL rv v := by
  have h9 := h.kept hb
  have hf : Fr [g] w9 (w9.setCell ⟨g, 4, none⟩ v) := (Fr.refl [g] w9).set (p := ⟨g, 4, none⟩) (by simp) v
  have hvg : v.ownBlock ≠ some g := own_ty ho h9.blk (by decide)
  refine ⟨⟨h9.blk.set 4 v, fun b hb4 => own_fr (h9.rows b hb4) hf (fun k hk hm => h9.neR hb4 (by rw [hk, List.mem_singleton.1 hm])), own_fr ho hf (fun k hk hm => hvg (by rw [hk, List.mem_singleton.1 hm])), h.sep, h.lo⟩, ⟨[g], (Fr.of_below hb [g]).then hf, fun x hx => .inl (List.mem_singleton.1 hx)⟩, fun k hk => ?_⟩
  rcases hk with h1 | h1 | h1
  · exact .inl (.inl h1)
  · exact .inl (.inr (.inl h1))
  · exact .inr (hn k h1)
/-- a new row of users, in memory that was just made -/
theorem RQ.setR {w9 : World} {v : Value} {ns : List ByteArray} {b : Nat} (h : RQ base w g rv vL rw L) (hb4 : b < 4) (hb : Below w.heap.size w w9) (ho : w9.ownsRow base 9 1 v ns.length (strV ns)) (hn : ∀ k, v.ownBlock = some k → w.heap.size ≤ k) :
    RQ base (w9.setCell ⟨g, b, none⟩ v) g (updV rv b v) vL (updV rw b ns) L ∧ RSt w (w9.setCell ⟨g, b, none⟩ v) g rv vL (updV rv b v) vL := by
  have h9 := h.kept hb
  have hf : Fr [g] w9 (w9.setCell ⟨g, b, none⟩ v) := (Fr.refl [g] w9).set (p := ⟨g, b, none⟩) (by simp) v
  have hvg : v.ownBlock ≠ some g := own_ty ho h9.blk (by decide)
  have hrow : ∀ c, c < 4 → ∀ k, (rv c).ownBlock = some k → k < w.heap.size := fun c hc k hk => own_hi (h.rows c hc) hk
  refine ⟨⟨?_, fun c hc => ?_, own_fr h9.list hf (fun k hk hm => h9.neL (by rw [hk, List.mem_singleton.1 hm])), fun c hc d hd hne k hk hk2 => ?_, h.lo⟩, ⟨[g], (Fr.of_below hb [g]).then hf, fun x hx => .inl (List.mem_singleton.1 hx)⟩, fun k hk => ?_⟩
  · have := h9.blk.set b v
    obtain rfl | rfl | rfl | rfl : b = 0 ∨ b = 1 ∨ b = 2 ∨ b = 3 := by omega
    all_goals simpa [updV] using this
  · by_cases e : c = b
    · subst e
      rw [updV_same, updV_same]
      exact own_fr ho hf (fun k hk hm => hvg (by rw [hk, List.mem_singleton.1 hm]))
    · rw [updV_other _ _ e, updV_other _ _ e]
      exact own_fr (h9.rows c hc) hf (fun k hk hm => h9.neR hc (by rw [hk, List.mem_singleton.1 hm]))
  · by_cases e1 : c = b
    · subst e1
      rw [updV_same] at hk
      rw [updV_other _ _ (fun e => hne e.symm)] at hk2
      have := hn k hk
      have := hrow d hd k hk2
      omega
    · rw [updV_other _ _ e1] at hk
      by_cases e2 : d = b
      · subst e2
        rw [updV_same] at hk2
        have := hn k hk2
        have := hrow c hc k hk
        omega
      · rw [updV_other _ _ e2] at hk2
        exact h.sep c hc d hd hne k hk hk2
  · rcases hk with h1 | ⟨c, hc, h1⟩ | h1
    · exact .inl (.inl h1)
    · by_cases e : c = b
      · subst e
        rw [updV_same] at h1
        exact .inr (hn k h1)
      · rw [updV_other _ _ e] at h1
        exact .inl (.inr (.inl ⟨c, hc, h1⟩))
    · exact .inl (.inr (.inr h1))
end

set_option maxRecDepth 100000 in
set_option maxHeartbeats 4000000 in
theorem rcut_any (base g k0 : Nat) (rv : Nat → Value) (vL : Value) (rw : Nat → List ByteArray) (L : List Pend) (w : World) (h : RQ base w g rv vL rw L) (hk : k0 < L.length) (hl : L.length ≤ 900000) :
    Calls Try.prog 39 #[ptr g, .int .i64 (k0 : Int)] w fun e w' => e = .returned (.tuple #[]) ∧ ∃ v', RQ base w' g rv v' rw (L.eraseIdx k0) ∧ RSt w w' g rv vL rv v' := by
  obtain ⟨r, hr⟩ : ∃ r, L.length = k0 + r + 1 := ⟨L.length - k0 - 1, by omega⟩
  obtain ⟨p4, c4, rfl, -, -⟩ := own_slice h.list
  obtain ⟨PP, hPP⟩ : ∃ PP : World → Value → Prop, PP = fun w' v' => (RQ base w' g rv v' rw (L.eraseIdx k0) ∧ RSt w w' g rv (.slice p4 L.length c4) rv v') := ⟨_, rfl⟩
  have HPP : Hid (∀ w' v', (RQ base w' g rv v' rw (L.eraseIdx k0) ∧ RSt w w' g rv (.slice p4 L.length c4) rv v') → PP w' v') := Lib.hid (fun _ _ h => by rw [hPP]; exact h)
  suffices hs : Calls Try.prog 39 #[ptr g, .int .i64 (k0 : Int)] w fun e w' => e = .returned (.tuple #[]) ∧ ∃ v', PP w' v' by rw [hPP] at hs; exact hs
  clear hPP
  have H := Lib.hid h
  have HSZ : Hid (base ≤ w.heap.size) := Lib.hid (Nat.le_trans h.lo (Nat.le_of_lt h.blk.lt))
  have z4 := h.cL
  have z5 : (w.alloc (.cells #[] 29)).cell? ⟨g, 4, none⟩ = _ := (h.kept (below_alloc w _)).cL
  rw [hr] at z4 z5
  clear h
  have HOW := H.out.list
  rw [hr] at HOW
  obtain ⟨q4, c5, e4, hc4, hm4, -⟩ := own_block HOW (by omega)
  simp only [Value.slice.injEq] at e4
  obtain ⟨rfl, -, rfl⟩ := e4
  have HOWH := Lib.hid HOW
  have HO7 : Hid (((w.alloc (.cells #[] 29)).drew).ownsRow base 29 4 (.slice (some ⟨w.heap.size, 0, none⟩) 0 0) 0 []) := Lib.hid ⟨by simp, .inr ⟨w.heap.size, 0, #[], rfl, HSZ.out, heap_alloc_new w _, Nat.le_refl _, Nat.zero_le _, by simp, by simp⟩⟩
  have HSZ0 := HSZ
  have HS1 : Hid (Src Try.prog 4 22 (.slice (some ⟨q4, 0, none⟩) k0 c4) k0 (pcells (L.take k0)) ((w.alloc (.cells #[] 29)).drew)) := Lib.hid (by
    have h1 := own_cut (own_keep HOW (below_ad w (.cells #[] 29))) (m := k0) (by omega)
    rw [pcells_take] at h1
    exact Row.src Try.underlying22 (row_of_owns h1 (pcells_one _)))
  have HEI : Hid (pcells (L.take k0) ++ pcells (L.drop (k0 + 1)) = pcells (L.eraseIdx k0)) := Lib.hid (by rw [← pcells_append, List.eraseIdx_eq_take_drop_succ])
  have HEL : Hid ((L.eraseIdx k0).length = k0 + r) := Lib.hid (by rw [List.length_eraseIdx, if_pos (by omega), hr]; omega)
  have HS2 : Hid (∀ w8 : World, Below w.heap.size w w8 → Src Try.prog 4 22 (.slice (if c4 = k0 + 1 then some ⟨q4, 0, none⟩ else some ⟨q4, (k0 + 1) * 4, none⟩) r (c4 - (k0 + 1))) r (pcells (L.drop (k0 + 1))) w8) := Lib.hid (fun w8 hb => by
    split
    · have hr0 : r = 0 := by omega
      subst hr0
      have h0 : pcells (L.drop (k0 + 1)) = [] := by rw [List.drop_of_length_le (by omega)]; rfl
      rw [h0]
      exact src_none Try.underlying22 _ _
    · have h1 := (OwnO.of_own (own_keep HOWH.out hb) (by simp)).back (m := k0 + 1) (by omega)
      rw [pcells_drop, show k0 + r + 1 - (k0 + 1) = r by omega, Nat.zero_add] at h1
      exact h1.src Try.underlying22 (pcells_one _))
  have i31 : (k0 : Int) ≤ (k0 : Int) + 1 := by omega
  have i32 : 0 ≤ (k0 : Int) + 1 := by omega
  have i33 : (k0 : Int) ≤ (c4 : Int) := by omega
  have i34 : (k0 : Int) ≤ (k0 : Int) + (r : Int) := by omega
  have i35 : (k0 : Int) + 1 ≤ (c4 : Int) := by omega
  have i36 : k0 + r ≤ 900000 := by omega
  have i37 : IntKind.i64.wrap ((k0 : Int) + 1) = (k0 : Int) + 1 := by rw [IntKind.wrap_i64]; omega
  obtain ⟨j0, hj0, hz0, hz1, hz2⟩ := info_parts info_pend
  clear HOW hm4
  go_enter Try.func39, Try.ntmps39
  go_region_law (first | (refine step_app rfl (.tmp 12) (.tmp 19) 22 22 rfl base 29 j0 pzv 4 48 Try.underlying22 hj0 hz0 hz1 hz2 rfl (.slice p8 k0 c8) k0 (pcells (L.take k0)) (by simp [Act.eval, Act.put]) HO8.out (.slice (if c4 = k0 + 1 then some ⟨q4, 0, none⟩ else some ⟨q4, (k0 + 1) * 4, none⟩) r (c4 - (k0 + 1))) r (pcells (L.drop (k0 + 1))) (by simp [Act.eval, Act.put]) (HS2.out _ HF8.out) (by unfold maxLen; omega) (by omega) (by have := HF8.out.size; have := HSZ.out; omega) ?_; intro v9 w9 ho9 hg9 hn9 hk9; rw [HEI.out] at ho9; obtain ⟨p9, c9, rfl, -, -⟩ := own_slice ho9; have HO9 := Lib.hid ho9; have HB9 : Hid (Below w.heap.size w w9) := Lib.hid (HF8.out.trans ((Fr.of_grown hg9).below (fun k hk => HK8.out k (Option.mem_toList.1 hk)) HF8.out.size)); have HK9 : Hid (∀ k, (Value.slice p9 (k0 + r) c9).ownBlock = some k → w.heap.size ≤ k) := Lib.hid (fun k hk => (hk9 k hk).elim (HK8.out k) (fun h => Nat.le_trans HF8.out.size h)); have f9 := (H.out.kept HB9.out).cL; have fr9 := (H.out.kept HB9.out).blk.free 4; clear ho9 hg9 hn9 hk9) | (refine step_app rfl (.tmp 5) (.tmp 11) 22 22 rfl base 29 j0 pzv 4 48 Try.underlying22 hj0 hz0 hz1 hz2 rfl (.slice (some ⟨w.heap.size, 0, none⟩) 0 0) 0 [] (by simp [Act.eval, Act.put]) HO7.out (.slice (some ⟨q4, 0, none⟩) k0 c4) k0 (pcells (L.take k0)) (by simp [Act.eval, Act.put]) HS1.out (by unfold maxLen; omega) (by omega) (by have := HSZ.out; simp; omega) ?_; intro v8 w8 ho8 hg8 hn8 hk8; rw [Nat.zero_add, List.nil_append] at ho8; obtain ⟨p8, c8, rfl, -, -⟩ := own_slice ho8; have HO8 := Lib.hid ho8; have HK8 : Hid (∀ k, (Value.slice p8 k0 c8).ownBlock = some k → w.heap.size ≤ k) := Lib.hid (fun k hk => (hk8 k hk).elim (fun h => by simp [Value.ownBlock] at h; omega) (fun h => by have h2 : w.heap.size + 1 ≤ k := (by simpa using h); omega)); have HF8 : Hid (Below w.heap.size w w8) := Lib.hid ((below_ad w (.cells #[] 29)).trans (grown_below (b := w.heap.size) hg8 (Nat.le_refl _) (by simp))); have f8 := (H.out.kept HF8.out).cL; clear ho8 hg8 hn8 hk8))
  all_goals go_wp2
  all_goals refine end0 rfl rfl ⟨rfl, .slice p9 (k0 + r) c9, ?_⟩
  all_goals exact HPP.out _ _ (H.out.setL HB9.out (by rw [HEL.out]; exact HO9.out) HK9.out)

end Go.Proofs.Ytlemfbgmhjklaaa
