/- A slice of the clock's acts (kind, name, number): how it is read. -/
import Derived.Test.YtmgcigohfccgeaaCsInv
import Derived.Test.YtmgcigohfccgeaaOpen3
namespace Go.Proofs.Ytmgcigohfccgeaa
open Go.RowKit

structure Ka where
  k : Int
  s : ByteArray
  n : Int
abbrev Ka.c (x : Ka) : List Value := [.int .i64 x.k, .string x.s, .int .i64 x.n]
def kasC (l : List Ka) : List Value := l.flatMap Ka.c
def Kas (w : World) (v : Value) (l : List Ka) : Prop := Row w v 3 l.length (kasC l) ∧ ∀ x ∈ l, x.s.size ≤ maxLen ∧ (Lit.int .i64 x.k).wf = true ∧ (Lit.int .i64 x.n).wf = true
theorem Kas.below {w w' : World} {v : Value} {l : List Ka} (h : Kas w v l) (hb : Below w.heap.size w w') : Kas w' v l := ⟨h.1.below hb, h.2⟩
theorem kas_list : ∀ es : List (List Value), (∀ x ∈ es, x.length = 3 ∧ ∀ i t, [3, 9, 3][i]? = some t → fieldOk Try.prog t (x.getD i undef)) → ∃ l : List Ka, l.length = es.length ∧ kasC l = es.flatten ∧ ∀ x ∈ l, x.s.size ≤ maxLen ∧ (Lit.int .i64 x.k).wf = true ∧ (Lit.int .i64 x.n).wf = true
  | [], _ => ⟨[], rfl, rfl, fun _ h => nomatch h⟩
  | cs :: es, hf => by
    obtain ⟨l, h1, h2, h3⟩ := kas_list es fun x hx => hf x (List.mem_cons_of_mem _ hx)
    have h := hf cs List.mem_cons_self
    match cs, h.1, h.2 with
    | [v0, v1, v2], _, hv =>
      obtain ⟨k, rfl, hk⟩ := fieldOk.int (v := v0) (hv 0 _ rfl) Try.underlying3
      obtain ⟨s, rfl, hs⟩ := fieldOk.str (v := v1) (hv 1 _ rfl) Try.underlying9
      obtain ⟨n, rfl, hn⟩ := fieldOk.int (v := v2) (hv 2 _ rfl) Try.underlying3
      refine ⟨⟨k, s, n⟩ :: l, by simp [h1], ?_, fun x hx => ?_⟩
      · unfold kasC at h2 ⊢
        rw [List.flatMap_cons, List.flatten_cons, h2]
      · rcases List.mem_cons.1 hx with rfl | hx
        · exact ⟨hs, hk, hn⟩
        · exact h3 x hx
theorem kas_of {w : World} {v : Value} {es : List (List Value)} (h : Row w v 3 es.length es.flatten) (hf : ∀ x ∈ es, x.length = 3 ∧ ∀ i t, [3, 9, 3][i]? = some t → fieldOk Try.prog t (x.getD i undef)) : ∃ l, Kas w v l := by
  obtain ⟨l, h1, h2, h3⟩ := kas_list es hf
  exact ⟨l, by rw [h1, h2]; exact h, h3⟩
theorem kasC_get : ∀ (l : List Ka) {i : Nat} (hi : i < l.length) (j : Nat), j < 3 → (kasC l)[i * 3 + j]? = (l[i].c)[j]?
  | x :: l, 0, _, j, hj => by
    unfold kasC
    rw [List.flatMap_cons, Nat.zero_mul, Nat.zero_add, List.getElem?_append_left (by simpa using hj)]
    rfl
  | x :: l, i + 1, hi, j, hj => by
    unfold kasC
    rw [List.flatMap_cons, List.getElem?_append_right (by simp; omega), show (i + 1) * 3 + j - x.c.length = i * 3 + j from by simp; omega]
    exact kasC_get l (i := i) (by simp at hi; omega) j hj
theorem Kas.at {w : World} {p : Option Addr} {n c : Nat} {l : List Ka} (h : Kas w (.slice p n c) l) {i : Nat} (hi : i < l.length) :
    ∃ b o, p = some ⟨b, o, none⟩ ∧ ∀ j u, j < 3 → (l[i].c)[j]? = some u → w.cell? ⟨b, o + i * 3 + j, none⟩ = some u := by
  obtain ⟨⟨p', c', hv, h1, h2, h3, h4, h5, h6⟩, -⟩ := h
  simp only [Value.slice.injEq] at hv
  obtain ⟨rfl, rfl, rfl⟩ := hv
  rcases h6 with h6 | ⟨b, o, hp, ha⟩
  · rw [h6] at h3
    simp at h3
    omega
  · refine ⟨b, o, hp, fun j u hj hu => ?_⟩
    rw [Nat.add_assoc]
    exact ha _ _ (by rw [kasC_get l hi j hj]; exact hu)
theorem Kas.shape {w : World} {v : Value} {l : List Ka} (h : Kas w v l) : ∃ p c, v = .slice p l.length c ∧ l.length ≤ c ∧ c ≤ maxLen := by
  obtain ⟨p, c, hv, h1, h2, -⟩ := h.1
  exact ⟨p, c, hv, h1, h2⟩
end Go.Proofs.Ytmgcigohfccgeaa
