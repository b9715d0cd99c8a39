/- A slice of acts: how it is read. -/
import Derived.Test.YtighcnecajgkpaaLedNil
import Derived.Test.YtighcnecajgkpaaOpen5
namespace Go.Proofs.Ytighcnecajgkpaa
open Go.RowKit

structure Ac where
  k : Int
  s : ByteArray
  t : ByteArray
  a : Am
abbrev Ac.c (x : Ac) : List Value := actC x.k x.s x.t x.a
def acsC (l : List Ac) : List Value := l.flatMap Ac.c
def Acts (w : World) (v : Value) (l : List Ac) : Prop := Row w v 7 l.length (acsC l) ∧ ∀ x ∈ l, x.s.size ≤ maxLen ∧ x.t.size ≤ maxLen
theorem Acts.below {w w' : World} {v : Value} {l : List Ac} (h : Acts w v l) (hb : Below w.heap.size w w') : Acts w' v l := ⟨h.1.below hb, h.2⟩

theorem acts_list : ∀ es : List (List Value), (∀ x ∈ es, Leaves Try.prog [3, 9, 9, 2, 2, 2, 2] x) → ∃ l : List Ac, l.length = es.length ∧ acsC l = es.flatten ∧ ∀ x ∈ l, x.s.size ≤ maxLen ∧ x.t.size ≤ maxLen
  | [], _ => ⟨[], rfl, rfl, fun _ h => nomatch h⟩
  | cs :: es, hf => by
    obtain ⟨l, h1, h2, h3⟩ := acts_list es fun x hx => hf x (List.mem_cons_of_mem _ hx)
    have h := hf cs List.mem_cons_self
    match cs, h.1, h.2 with
    | [v0, v1, v2, v3, v4, v5, v6], _, hv =>
      obtain ⟨k, rfl, -⟩ := fieldOk.int (v := v0) (hv 0 _ rfl) Try.underlying3
      obtain ⟨s, rfl, hs⟩ := fieldOk.str (v := v1) (hv 1 _ rfl) Try.underlying9
      obtain ⟨t, rfl, ht⟩ := fieldOk.str (v := v2) (hv 2 _ rfl) Try.underlying9
      obtain ⟨c, rfl, -⟩ := fieldOk.int (v := v3) (hv 3 _ rfl) Try.underlying2
      obtain ⟨r, rfl, -⟩ := fieldOk.int (v := v4) (hv 4 _ rfl) Try.underlying2
      obtain ⟨d, rfl, -⟩ := fieldOk.int (v := v5) (hv 5 _ rfl) Try.underlying2
      obtain ⟨p, rfl, -⟩ := fieldOk.int (v := v6) (hv 6 _ rfl) Try.underlying2
      refine ⟨⟨k, s, t, ⟨c, r, d, p⟩⟩ :: l, by simp [h1], ?_, fun x hx => ?_⟩
      · unfold acsC at h2 ⊢
        rw [List.flatMap_cons, List.flatten_cons, h2]
      · rcases List.mem_cons.1 hx with rfl | hx
        · exact ⟨hs, ht⟩
        · exact h3 x hx
theorem acts_of {w : World} {v : Value} {es : List (List Value)} (h : Row w v 7 es.length es.flatten) (hf : ∀ x ∈ es, Leaves Try.prog [3, 9, 9, 2, 2, 2, 2] x) : ∃ l, Acts w v l := by
  obtain ⟨l, h1, h2, h3⟩ := acts_list es hf
  exact ⟨l, by rw [h1, h2]; exact h, h3⟩
theorem acsC_get : ∀ (l : List Ac) {i : Nat} (hi : i < l.length) (j : Nat), j < 7 → (acsC l)[i * 7 + j]? = (l[i].c)[j]?
  | x :: l, 0, _, j, hj => by
    unfold acsC
    rw [List.flatMap_cons, Nat.zero_mul, Nat.zero_add, List.getElem?_append_left (by simpa using hj)]
    rfl
  | x :: l, i + 1, hi, j, hj => by
    unfold acsC
    rw [List.flatMap_cons, List.getElem?_append_right (by simp; omega), show (i + 1) * 7 + j - x.c.length = i * 7 + j from by simp; omega]
    exact acsC_get l (i := i) (by simp at hi; omega) j hj
theorem Acts.at {w : World} {p : Option Addr} {n c : Nat} {l : List Ac} (h : Acts w (.slice p n c) l) {i : Nat} (hi : i < l.length) :
    ∃ b o, p = some ⟨b, o, none⟩ ∧ ∀ j u, j < 7 → (l[i].c)[j]? = some u → w.cell? ⟨b, o + i * 7 + j, none⟩ = some u := by
  obtain ⟨⟨p', c', hv, h1, h2, h3, h4, h5, h6⟩, -⟩ := h
  simp only [Value.slice.injEq] at hv
  obtain ⟨rfl, rfl, rfl⟩ := hv
  rcases h6 with h6 | ⟨b, o, hp, ha⟩
  · rw [h6] at h3
    simp at h3
    omega
  · refine ⟨b, o, hp, fun j u hj hu => ?_⟩
    rw [Nat.add_assoc]
    exact ha _ _ (by rw [acsC_get l hi j hj]; exact hu)
theorem Acts.shape {w : World} {v : Value} {l : List Ac} (h : Acts w v l) : ∃ p c, v = .slice p l.length c ∧ l.length ≤ c ∧ c ≤ maxLen := by
  obtain ⟨p, c, hv, h1, h2, -⟩ := h.1
  exact ⟨p, c, hv, h1, h2⟩
theorem own_base {w : World} {base : Nat} {e : TypeId} {size : Nat} {v : Value} {n : Nat} {xs : List Value} (h : w.ownsRow base e size v n xs) {g : Nat} (hg : v.ownBlock = some g) : base ≤ g := by
  rcases h.2 with ⟨rfl, -⟩ | ⟨g', cap, cur, rfl, hb, -⟩
  · cases hg
  · cases hg
    exact hb
end Go.Proofs.Ytighcnecajgkpaa
