/- A slice of the lease's acts (kind, name, boot, now, number): how it is read. -/
import Derived.Test.YtmgcigohfccgeaaOpen3
import Derived.Test.YtmgcigohfccgeaaFlat
namespace Go.Proofs.Ytmgcigohfccgeaa
open Go.RowKit

structure La where
  k : Int
  s : ByteArray
  bt : Int
  nw : Int
  n : Int
abbrev La.c (x : La) : List Value := [.int .i64 x.k, .string x.s, .int .u64 x.bt, .int .i64 x.nw, .int .i64 x.n]
theorem La.c_len (x : La) : x.c.length = 5 := rfl
def lasC (l : List La) : List Value := l.flatMap La.c
def Las (w : World) (v : Value) (l : List La) : Prop := Row w v 5 l.length (lasC l) ∧ ∀ x ∈ l, x.s.size ≤ maxLen ∧ (Lit.int .i64 x.k).wf = true
theorem Las.below {w w' : World} {v : Value} {l : List La} (h : Las w v l) (hb : Below w.heap.size w w') : Las w' v l := ⟨h.1.below hb, h.2⟩
theorem las_list : ∀ es : List (List Value), (∀ x ∈ es, x.length = 5 ∧ ∀ i t, [3, 9, 34, 2, 3][i]? = some t → fieldOk Try.prog t (x.getD i undef)) → ∃ l : List La, l.length = es.length ∧ lasC l = es.flatten ∧ ∀ x ∈ l, x.s.size ≤ maxLen ∧ (Lit.int .i64 x.k).wf = true
  | [], _ => ⟨[], rfl, rfl, fun _ h => nomatch h⟩
  | cs :: es, hf => by
    obtain ⟨l, h1, h2, h3⟩ := las_list es fun x hx => hf x (List.mem_cons_of_mem _ hx)
    have h := hf cs List.mem_cons_self
    match cs, h.1, h.2 with
    | [v0, v1, v2, v3, v4], _, hv =>
      obtain ⟨k, rfl, hk⟩ := fieldOk.int (v := v0) (hv 0 _ rfl) Try.underlying3
      obtain ⟨s, rfl, hs⟩ := fieldOk.str (v := v1) (hv 1 _ rfl) Try.underlying9
      obtain ⟨bt, rfl, -⟩ := fieldOk.int (v := v2) (hv 2 _ rfl) Try.underlying34
      obtain ⟨nw, rfl, -⟩ := fieldOk.int (v := v3) (hv 3 _ rfl) Try.underlying2
      obtain ⟨n, rfl, -⟩ := fieldOk.int (v := v4) (hv 4 _ rfl) Try.underlying3
      refine ⟨⟨k, s, bt, nw, n⟩ :: l, by simp [h1], ?_, fun x hx => ?_⟩
      · unfold lasC at h2 ⊢
        rw [List.flatMap_cons, List.flatten_cons, h2]
      · rcases List.mem_cons.1 hx with rfl | hx
        · exact ⟨hs, hk⟩
        · exact h3 x hx
theorem las_of {w : World} {v : Value} {es : List (List Value)} (h : Row w v 5 es.length es.flatten) (hf : ∀ x ∈ es, x.length = 5 ∧ ∀ i t, [3, 9, 34, 2, 3][i]? = some t → fieldOk Try.prog t (x.getD i undef)) : ∃ l, Las w v l := by
  obtain ⟨l, h1, h2, h3⟩ := las_list es hf
  exact ⟨l, by rw [h1, h2]; exact h, h3⟩
theorem Las.at {w : World} {p : Option Addr} {n c : Nat} {l : List La} (h : Las w (.slice p n c) l) {i : Nat} (hi : i < l.length) :
    ∃ b o, p = some ⟨b, o, none⟩ ∧ ∀ j u, j < 5 → (l[i].c)[j]? = some u → w.cell? ⟨b, o + i * 5 + j, none⟩ = some u := by
  obtain ⟨⟨p', c', hv, h1, h2, h3, h4, h5, h6⟩, -⟩ := h
  simp only [Value.slice.injEq] at hv
  obtain ⟨rfl, rfl, rfl⟩ := hv
  rcases h6 with h6 | ⟨b, o, hp, ha⟩
  · rw [h6] at h3
    simp at h3
    omega
  · refine ⟨b, o, hp, fun j u hj hu => ?_⟩
    rw [Nat.add_assoc]
    exact ha _ _ (by unfold lasC; rw [flat_at La.c_len l i hi j hj]; exact hu)
theorem Las.shape {w : World} {v : Value} {l : List La} (h : Las w v l) : ∃ p c, v = .slice p l.length c ∧ l.length ≤ c ∧ c ≤ maxLen := by
  obtain ⟨p, c, hv, h1, h2, -⟩ := h.1
  exact ⟨p, c, hv, h1, h2⟩
end Go.Proofs.Ytmgcigohfccgeaa
