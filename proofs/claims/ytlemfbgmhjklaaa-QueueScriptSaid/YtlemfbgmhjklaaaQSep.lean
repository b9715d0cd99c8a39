/- The rows of a queue lie apart. -/
import Derived.Test.YtlemfbgmhjklaaaQDel
namespace Go.Proofs.Ytlemfbgmhjklaaa
open Go.RowKit

def SepR (R : List PRow) : Prop := R.Pairwise (fun r s => ∀ k ∈ fpR r, k ∉ fpR s)
theorem SepR.perm {R S : List PRow} (h : SepR R) (hp : R.Perm S) : SepR S :=
  (hp.pairwise_iff (fun {a b} hab k hk hk2 => hab k hk2 hk)).1 h
theorem SepR.apart {R : List PRow} (h : SepR R) {i j : Nat} {r s : PRow} (hi : R[i]? = some r) (hj : R[j]? = some s) (hij : i ≠ j) : ∀ k ∈ fpR r, k ∉ fpR s := by
  obtain ⟨h1, h2⟩ := List.getElem?_eq_some_iff.1 hi
  obtain ⟨h3, h4⟩ := List.getElem?_eq_some_iff.1 hj
  unfold SepR at h
  rw [List.pairwise_iff_getElem] at h
  rcases Nat.lt_or_ge i j with hlt | hge
  · have := h i j h1 h3 hlt
    rw [h2, h4] at this
    exact this
  · have := h j i h3 h1 (by omega)
    rw [h2, h4] at this
    exact fun k hk hk2 => this k hk2 hk
theorem SepR.set {R : List PRow} (h : SepR R) {i N : Nat} {r r' : PRow} (hi : R[i]? = some r) (hr : ∀ k ∈ fpR r', k ∈ fpR r ∨ N ≤ k) (hN : ∀ s ∈ R, ∀ k ∈ fpR s, k < N) : SepR (R.set i r') := by
  unfold SepR
  rw [List.pairwise_iff_getElem]
  intro a b ha hb hab k hk hk2
  rw [List.length_set] at ha hb
  rw [List.getElem_set] at hk hk2
  have ga : R[a]? = some R[a] := List.getElem?_eq_getElem ha
  have gb : R[b]? = some R[b] := List.getElem?_eq_getElem hb
  split at hk
  · rename_i e
    subst e
    rw [if_neg (by omega)] at hk2
    rcases hr k hk with h1 | h1
    · exact h.apart hi gb (by omega) k h1 hk2
    · have := hN _ (List.getElem_mem hb) k hk2; omega
  · split at hk2
    · rename_i e1 e2
      subst e2
      rcases hr k hk2 with h1 | h1
      · exact h.apart ga hi (by omega) k hk h1
      · have := hN _ (List.getElem_mem ha) k hk; omega
    · exact h.apart ga gb (by omega) k hk hk2
theorem SepR.rem {R R' : List PRow} {r : PRow} (h : SepR R) (hp : R.Perm (r :: R')) : SepR R' := (List.pairwise_cons.1 (h.perm hp)).2
theorem SepR.add {R : List PRow} {r : PRow} {N : Nat} (h : SepR R) (hr : ∀ k ∈ fpR r, N ≤ k) (hN : ∀ s ∈ R, ∀ k ∈ fpR s, k < N) : SepR (r :: R) :=
  List.pairwise_cons.2 ⟨fun s hs k hk hk2 => by have := hr k hk; have := hN s hs k hk2; omega, h⟩

theorem rptrs_same (R : List PRow) (i : Nat) (r r' : PRow) (hi : R[i]? = some r) (hg : r'.g = r.g) : rptrs (R.set i r') = rptrs R := by
  rw [← rptrs_set, hg]
  apply List.ext_getElem?
  intro j
  rw [List.getElem?_set]
  split
  · rename_i e
    subst e
    rw [rptrs_at hi]
    split
    · rfl
    · rename_i h
      rw [rptrs_len] at h
      exact absurd (List.getElem?_eq_some_iff.1 hi).1 h
  · rfl
/-- one row has turned -/
theorem Qu.set {w w' : World} {b i : Nat} {T : Int} {v : Value} {R : List PRow} {r r' : PRow} (h : Qu w b T v R) (hs : SepR R) (hi : R[i]? = some r) (hf : Fr (fpR r) w w') (hg : r'.g = r.g) (hr : RowAt w' r') (hn : ∀ k ∈ fpR r', k ∈ fpR r ∨ w.heap.size ≤ k) : Qu w' b T v (R.set i r') ∧ SepR (R.set i r') := by
  have hrows := h.rows
  have hr0 := hrows r (List.mem_of_getElem? hi)
  have hlt : ∀ k ∈ fpW b v, k < w.heap.size := fun k hk => by
    rcases mem_fpW.1 hk with rfl | hk
    · exact h.blk.lt
    · exact own_hi h.own hk
  refine ⟨⟨h.blk.fr hf (fun hm => hr0.2 _ hm (mem_fpW.2 (.inl rfl))), ?_, h.ne, fun s hsm => ?_⟩, hs.set hi hn (fun s hs k hk => (hrows s hs).1.lt hk)⟩
  · rw [List.length_set, rptrs_same R i r r' hi hg]
    exact own_fr h.own hf (fun g hg hm => hr0.2 _ hm (mem_fpW.2 (.inr hg)))
  · obtain ⟨j, hj, rfl⟩ := List.getElem_of_mem hsm
    rw [List.getElem_set]
    rw [List.length_set] at hj
    split
    · exact ⟨hr, fun k hk hkw => by
        rcases hn k hk with h1 | h1
        · exact hr0.2 k h1 hkw
        · have := hlt k hkw; omega⟩
    · rename_i hij
      have hjm := hrows R[j] (List.getElem_mem hj)
      exact ⟨hjm.1.fr hf (fun k hk hk2 => hs.apart hi (List.getElem?_eq_getElem hj) hij k hk2 hk), hjm.2⟩
end Go.Proofs.Ytlemfbgmhjklaaa
