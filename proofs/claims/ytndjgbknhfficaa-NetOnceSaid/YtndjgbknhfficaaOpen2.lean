/- What an argument that is a slice of slices of numbers is to the walks. -/
import Derived.Test.YtndjgbknhfficaaOpen
import Derived.Test.YtndjgbknhfficaaIRows
import Derived.Deep.Matrix
namespace Go.Proofs.Ytndjgbknhfficaa
open Go.ChangeShapes Go.WideShapes Go.ChangeAt Go.RowKit

theorem spot_none {W : World} {x : Addr} {u : Value} (h : W.cell? x = some u) : x.spot = none := by
  unfold World.cell? at h
  split at h
  · split at h
    · simp at h
    · rename_i hh; simpa using hh
  · simp at h

theorem row_of_cells {W : World} {k : IntKind} {a : Option Addr} {l c : Nat} {zs : List Int} (hl : l ≤ c) (hm : c ≤ maxLen) (hz : zs.length = c) (hn : a = none → c = 0)
    (hc : ∀ x, a = some x → ∀ i, i < c → W.cell? (x.add i) = some (.int k (zs.getD i 0))) : Row W (.slice a l c) 1 (zs.take l).length ((zs.take l).map (Value.int k)) := by
  have htl : (zs.take l).length = l := by simp; omega
  refine ⟨a, c, by rw [htl], by rw [htl]; exact hl, hm, by simp, ?_, fun h0 => ?_, ?_⟩
  · intro u hu
    obtain ⟨n, _, rfl⟩ := List.mem_map.1 hu
    rfl
  · have := hn h0
    obtain rfl : l = 0 := by omega
    exact ⟨by simp, this⟩
  · by_cases h0 : l = 0
    · left; subst h0; simp
    · right
      cases a with
      | none => have := hn rfl; omega
      | some x =>
        have hc0 := hc x rfl 0 (by omega)
        have hsp : x.spot = none := by
          have e0 : x.add 0 = x := by simp [Addr.add]
          rw [e0] at hc0
          exact spot_none hc0
        obtain ⟨b, o, sp⟩ := x
        simp only at hsp
        subst hsp
        refine ⟨b, o, rfl, fun i u hi => ?_⟩
        have hi1 : i < l := by
          have := (List.getElem?_eq_some_iff.1 hi).1
          simp at this; omega
        have hi2 : i < zs.length := by omega
        rw [← add_off, hc _ rfl i (by omega)]
        rw [List.getElem?_map, List.getElem?_take, if_pos hi1, List.getElem?_eq_getElem hi2] at hi
        simp at hi
        rw [← hi]
        simp [List.getD, hi2]

theorem open_rows2 {H : Type} {enc : TypeId × Value → H} {P : Program} {W : World} {t e q : TypeId} {v : Value} {d : DataW H} {ps : List MemPlace} {r : Reach} {b0 : Nat}
    (ht : P.underlying t = some (.slice e)) (he : P.underlying e = some (.slice q)) (hq : P.underlying q = some (.int .i64)) (ce : P.cellsOf e = 1) (cq : P.cellsOf q = 1) (hval : Value.okWide P W r b0 t v) (h : DataW.Trod enc P W 0 (fun _ => true) true t v d ps) :
    ∃ zss : List (List Int), Rows2 W v zss ∧ ∀ l ∈ zss, ∀ n ∈ l, (Lit.int .i64 n).wf = true := by
  obtain ⟨a0, len0, cap0, rfl⟩ := okWide_slice ht hval
  obtain ⟨fuel, hf⟩ := h
  rcases Deep.open_int_rows ht he hq ce cq hf with ⟨hcs, hx⟩ | ⟨x, l, c, A, L, C, Z, hcs, _, hl, hm, hx, hr⟩
  · simp [Value.cells] at hcs
    obtain ⟨rfl, rfl, rfl⟩ := hcs
    exact ⟨[], ⟨[], rfl, row_nil W 1, by simp⟩, by simp⟩
  · simp [Value.cells] at hcs
    obtain ⟨rfl, rfl, rfl⟩ := hcs
    have htl : ((List.range len0).map fun i => (Z i).take (L i)).length = len0 := by simp
    refine ⟨(List.range len0).map fun i => (Z i).take (L i), ⟨(List.range len0).map fun i => .slice (A i) (L i) (C i), by simp, ⟨some x, cap0, by rw [htl], by rw [htl]; exact hl, hm, by simp, ?_, by simp, ?_⟩, ?_⟩, ?_⟩
    · intro u hu
      obtain ⟨n, _, rfl⟩ := List.mem_map.1 hu
      rfl
    · by_cases h0 : len0 = 0
      · left; subst h0; simp
      · right
        have hc0 := (hr 0 (by omega)).1
        have hsp : x.spot = none := by
          have e0 : x.add 0 = x := by simp [Addr.add]
          rw [e0] at hc0
          exact spot_none hc0
        obtain ⟨b, o, sp⟩ := x
        simp only at hsp
        subst hsp
        refine ⟨b, o, rfl, fun i u hi => ?_⟩
        have hi1 : i < len0 := by
          have := (List.getElem?_eq_some_iff.1 hi).1
          simpa using this
        rw [← add_off, (hr i (by omega)).1]
        simpa [hi1] using hi
    · intro i hi u hu
      simp at hi
      obtain rfl : Value.slice (A i) (L i) (C i) = u := by simpa [hi] using hu
      obtain ⟨-, r1, r2, r3, -, r5, r6⟩ := hr i (by omega)
      have := row_of_cells (k := .i64) r1 r2 r3 r5 (fun x hx => (r6 x hx).2)
      have e : (L i) = ((Z i).take (L i)).length := by simp; omega
      simpa using this
    · intro z hz n hn
      obtain ⟨i, hi, rfl⟩ := List.mem_map.1 hz
      exact (hr i (by have := List.mem_range.1 hi; omega)).2.2.2.2.1 n (List.mem_of_mem_take hn)
end Go.Proofs.Ytndjgbknhfficaa
