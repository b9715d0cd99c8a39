/- Slices of slices of numbers: what the walks hold of them. -/
import Derived.Test.YtndjgbknhfficaaLib2
namespace Go.Proofs.Ytndjgbknhfficaa
open Go.RowKit

/-- a slice of slices of numbers reads as these lists -/
def Rows2 (w : World) (v : Value) (zss : List (List Int)) : Prop :=
  ∃ vs : List Value, vs.length = zss.length ∧ Row w v 1 zss.length vs ∧ ∀ i (h : i < zss.length) u, vs[i]? = some u → Row w u 1 zss[i].length (zss[i].map (Value.int .i64))

theorem Rows2.below {w w' : World} {v : Value} {zss : List (List Int)} (h : Rows2 w v zss) (hb : Below w.heap.size w w') : Rows2 w' v zss := by
  obtain ⟨vs, h1, h2, h3⟩ := h
  exact ⟨vs, h1, h2.below hb, fun i hi u hu => (h3 i hi u hu).below hb⟩

theorem Row.num {w : World} {p : Option Addr} {n c : Nat} {k : IntKind} {zs : List Int} (h : Row w (.slice p n c) 1 zs.length (zs.map (Value.int k))) {i : Nat} (hi : i < zs.length) : ∃ b o, p = some ⟨b, o, none⟩ ∧ w.cell? ⟨b, o + i, none⟩ = some (.int k zs[i]) := by
  obtain ⟨p', c', hv, h1, h2, h3, h4, h5, h6⟩ := h
  simp only [Value.slice.injEq] at hv
  obtain ⟨rfl, -, rfl⟩ := hv
  rcases h6 with h6 | ⟨b, o, rfl, ha⟩
  · have : zs = [] := by simpa using h6
    subst this; simp at hi
  · exact ⟨b, o, rfl, ha i _ (by simp [hi])⟩

/-- the outer slice, and where its rows lie -/
theorem Rows2.parts {w : World} {v : Value} {zss : List (List Int)} (h : Rows2 w v zss) :
    ∃ p c, v = .slice p zss.length c ∧ zss.length ≤ c ∧ c ≤ maxLen ∧ ∀ i (hi : i < zss.length), ∃ b o p' c', p = some ⟨b, o, none⟩ ∧ w.cell? ⟨b, o + i, none⟩ = some (.slice p' zss[i].length c') ∧ Row w (.slice p' zss[i].length c') 1 zss[i].length (zss[i].map (Value.int .i64)) := by
  obtain ⟨vs, h1, ⟨p, c, hv, h2, h3, h4, h5, h6, h7⟩, h8⟩ := h
  refine ⟨p, c, hv, h2, h3, fun i hi => ?_⟩
  have hi' : i < vs.length := by omega
  have hr := h8 i hi vs[i] (by simp [hi'])
  rcases h7 with h7 | ⟨b, o, hp, ha⟩
  · rw [h7] at hi'; simp at hi'
  · have hc := ha i vs[i] (by simp [hi'])
    obtain ⟨p', c', hu, hr2⟩ := hr
    rw [hu] at hc
    exact ⟨b, o, p', c', hp, hc, ⟨p', c', rfl, hr2⟩⟩

/-- the same, of a slice value in parts -/
theorem Rows2.rowAt {w : World} {p : Option Addr} {n c : Nat} {zss : List (List Int)} (h : Rows2 w (.slice p n c) zss) {i : Nat} (hi : i < zss.length) :
    ∃ b o p' c', p = some ⟨b, o, none⟩ ∧ w.cell? ⟨b, o + i, none⟩ = some (.slice p' zss[i].length c') ∧ Row w (.slice p' zss[i].length c') 1 zss[i].length (zss[i].map (Value.int .i64)) := by
  obtain ⟨p2, c2, e, -, -, hat⟩ := h.parts
  simp only [Value.slice.injEq] at e
  obtain ⟨rfl, -, rfl⟩ := e
  exact hat i hi


/-- a block whole, as a row -/
theorem row_block {w : World} {g : Nat} {us : List Value} {e : TypeId} {fr : Nat × Nat} (hg : w.heap[g]? = some (.cells us.toArray e fr)) (hm : us.length ≤ maxLen) (h1 : ∀ u ∈ us, u.oneCell' = true) : Row w (.slice (some ⟨g, 0, none⟩) us.length us.length) 1 us.length us := by
  refine ⟨some ⟨g, 0, none⟩, us.length, rfl, Nat.le_refl _, hm, by simp, h1, by simp, .inr ⟨g, 0, rfl, fun j u hj => ?_⟩⟩
  rw [cell_of_row w g (0 + j) us.toArray e fr hg]
  simpa using hj
theorem rows2_lit {w : World} {g : Nat} {vs : List Value} {zss : List (List Int)} {e : TypeId} {fr : Nat × Nat} (hg : w.heap[g]? = some (.cells vs.toArray e fr)) (hl : vs.length = zss.length) (hm : zss.length ≤ maxLen) (h1 : ∀ u ∈ vs, u.oneCell' = true)
    (hr : ∀ i (h : i < zss.length) u, vs[i]? = some u → Row w u 1 zss[i].length (zss[i].map (Value.int .i64))) : Rows2 w (.slice (some ⟨g, 0, none⟩) zss.length zss.length) zss := by
  refine ⟨vs, hl, ?_, hr⟩
  have := row_block hg (by omega) h1
  rw [hl] at this
  exact this
end Go.Proofs.Ytndjgbknhfficaa
