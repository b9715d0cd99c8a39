/- RuLeafP. -/
import Derived.Test.YtdnoceancoclmaaGreatDoorRuNum
import Derived.Test.YtdnoceancoclmaaGreatDoorM16
import Derived.Deep.DeepCutAuto
namespace Go.Proofs.YtdnoceancoclmaaGreatDoor.Ru
open Go.RowKit Go.Proofs.YtdnoceancoclmaaGreatDoor

/-- what a reading of the parser's leaves -/
def Out (base : Nat) (w w' : World) (b : Nat) (s : ByteArray) (d : Int) (R : PR) (r : Ending) : Prop :=
  match R with
  | .ok q => r = .returned (.int .i64 q.1) ∧ (∃ k' v', q.2.r = rest s k' ∧ Prs base w' b s k' d q.2.n v' q.2.L 0 0) ∧ Below base w w'
  | .error e => (∃ j : Int, r = .returned (.int .i64 j)) ∧ (∃ k' d' n' v' L', Prs base w' b s k' d' n' v' L' e.1 e.2) ∧ Below base w w'
theorem onb_below {base : Nat} {w w' : World} {b : Nat} (h : Onb b w w') (hb : base ≤ b) (hw : base ≤ w.heap.size) : Below base w w' := Frp.below h (fun k hk => by rw [hk]; exact hb) hw
theorem out_err {base : Nat} {w w' : World} {b : Nat} {s : ByteArray} {d : Int} {R : PR} {e a : Int} (hR : R = .error (e, a)) {k' : Nat} {d' n' : Int} {v' : Value} {L' : List Nd} (h : Prs base w' b s k' d' n' v' L' e a) (hb : Below base w w') (j : Int) : Out base w w' b s d R (.returned (.int .i64 j)) := by
  rw [hR]
  exact ⟨⟨j, rfl⟩, ⟨k', d', n', v', L', h⟩, hb⟩
theorem out_ok {base : Nat} {w w' : World} {b : Nat} {s : ByteArray} {d : Int} {R : PR} {i : Int} {n' k' : Nat} {L' : List Nd} {v' : Value} (hR : R = .ok (i, ⟨n', L', rest s k'⟩)) (h : Prs base w' b s k' d n' v' L' 0 0) (hb : Below base w w') : Out base w w' b s d R (.returned (.int .i64 i)) := by
  rw [hR]
  exact ⟨rfl, ⟨k', v', rfl, h⟩, hb⟩
theorem at_hide {Q F : World → Prop} {w : World} (hf : F w) (h : ∀ w', F w' → Q w') : Q w := h w hf
theorem Prs.off {base : Nat} {w : World} {b : Nat} {s : ByteArray} {k : Nat} {d n : Int} {v : Value} {L : List Nd} {e a : Int} (h : Prs base w b s k d n v L e a) {Y : Nat} (hY : Y ≠ b) (hv : v.ownBlock ≠ some Y) (i : Nat) (u : Value) : Prs base (w.setCell ⟨Y, i, none⟩ u) b s k d n v L e a :=
  ⟨h.blk.other (a := ⟨Y, i, none⟩) (Ne.symm hY) u, own_other h.own (p := ⟨Y, i, none⟩) hv u, h.hb, h.kb, h.sz⟩
theorem hd_rest {s : ByteArray} {k : Nat} (hk : k < s.size) (p : UInt8 → Bool) : hd p (rest s k) = p s[k] := by
  rw [rest_at hk]; rfl
theorem hd_end {s : ByteArray} (p : UInt8 → Bool) : hd p (rest s s.size) = false := by rw [rest_end]; rfl
theorem isB_skip {s p : ByteArray} {k : Nat} (hk : k ≤ s.size) : isB s p (skip s k) = isB s p k ∧ isK s p (skip s k) = isK s p k := by
  obtain ⟨-, -, h3, -, -⟩ := skip_is hk
  have h1 : isB s p (skip s k) = isB s p k := by unfold isB; rw [← h3, blk_blk]
  exact ⟨h1, by unfold isK; rw [h1, skip_skip hk]⟩
theorem isB_strip {s p : ByteArray} {k : Nat} (hk : k ≤ s.size) : isB s p k = (strip p.data.toList (rest s (skip s k))).isSome := by
  obtain ⟨-, -, h3, -, -⟩ := skip_is hk
  unfold isB
  rw [h3]
theorem strip_no {s p : ByteArray} {k : Nat} (hk : k ≤ s.size) (h : isB s p k = false) : strip p.data.toList (rest s (skip s k)) = none ∧ isK s p k = skip s k := by
  rw [isB_strip hk] at h
  refine ⟨by simpa using h, ?_⟩
  unfold isK
  rw [isB_strip hk, h]; rfl
theorem strip_yes {s p : ByteArray} {k : Nat} (hk : k ≤ s.size) (h : isB s p k = true) : strip p.data.toList (rest s (skip s k)) = some (rest s (isK s p k)) ∧ isK s p k ≤ s.size := by
  obtain ⟨g1, g2, -⟩ := is_facts (p := p) hk
  obtain ⟨-, -, h3, -, -⟩ := skip_is hk
  have := g2 h
  rw [h3] at this
  exact ⟨this, g1⟩
theorem leafP_bad {s : ByteArray} {k n : Nat} {L : List Nd} (hk : k ≤ s.size) (h : hd lo (rest s k) = false) : leafP s.size ⟨n, L, rest s k⟩ = .error (5, (k : Int)) := by
  unfold leafP
  rw [if_pos h, pos_rest hk]
section
variable {s : ByteArray} {k n k1 : Nat} {L : List Nd} {nm : List UInt8}
theorem leafP_any (h : hd lo (rest s k) = true) (hnm : nm = run 24 nmc (rest s k)) (hk1 : k1 = k + nm.length) (ha : nm = anyT) (hm : hd wdc (rest s k1) = false) (hk : k ≤ s.size) :
    leafP s.size ⟨n, L, rest s k⟩ = if 64 < n + 1 then .error (3, (k : Int)) else .ok (put (n + 1) L (rest s k1) ⟨1, [], [], 0, -1, -1⟩) := by
  have hr : (rest s k).drop (run 24 nmc (rest s k)).length = rest s k1 := by rw [← hnm, rest_drop, hk1]
  unfold leafP
  simp only
  rw [if_neg (by rw [h]; simp), hr, ← hnm, if_pos ⟨ha, hm⟩, pos_rest hk]
theorem leafP_more (h : hd lo (rest s k) = true) (hnm : nm = run 24 nmc (rest s k)) (hk1 : k1 = k + nm.length) (hm : hd wdc (rest s k1) = true) (hk : k1 ≤ s.size) :
    leafP s.size ⟨n, L, rest s k⟩ = .error (5, (k1 : Int)) := by
  have hr : (rest s k).drop (run 24 nmc (rest s k)).length = rest s k1 := by rw [← hnm, rest_drop, hk1]
  unfold leafP
  simp only
  rw [if_neg (by rw [h]; simp), hr, ← hnm, if_neg (by rw [hm]; simp), if_pos hm, pos_rest hk]
theorem leafP_else (h : hd lo (rest s k) = true) (hnm : nm = run 24 nmc (rest s k)) (hk1 : k1 = k + nm.length) (ha : nm ≠ anyT) (hm : hd wdc (rest s k1) = false) (hk : k ≤ s.size) (hkk : k1 ≤ s.size) :
    leafP s.size ⟨n, L, rest s k⟩ = if 64 < n + 1 then .error (3, (k : Int)) else opP s.size (n + 1) L nm (rest s (skip s k1)) := by
  have hr : (rest s k).drop (run 24 nmc (rest s k)).length = rest s k1 := by rw [← hnm, rest_drop, hk1]
  obtain ⟨-, -, h3, -, -⟩ := skip_is hkk
  unfold leafP
  simp only
  rw [if_neg (by rw [h]; simp), hr, ← hnm, if_neg (by simp [ha]), if_neg (by rw [hm]; simp), pos_rest hk, h3]
end
end Go.Proofs.YtdnoceancoclmaaGreatDoor.Ru
