/- NtAct. -/
import Derived.Test.YtndjgbknhfficaaMOp
import Derived.Test.YtndjgbknhfficaaRw
import Derived.Test.YtndjgbknhfficaaFrp
namespace Go.Proofs.Ytndjgbknhfficaa
open Go.RowKit Go.ChangeShapes Go.WideShapes

theorem LeafOk.int {P : Program} {W : World} {t : TypeId} {v : Value} {k : IntKind} (h : LeafOk P W t v) (ht : P.underlying t = some (.int k)) : ∃ n, v = .int k n ∧ (Lit.int k n).wf = true := by
  rcases h with h | ⟨e, k', zs, h1, -⟩
  · exact fieldOk.int h ht
  · rw [ht] at h1; cases h1
theorem LeafOk.nums {P : Program} {W : World} {t e : TypeId} {v : Value} {k : IntKind} (h : LeafOk P W t v) (ht : P.underlying t = some (.slice e)) (he : P.underlying e = some (.int k)) : ∃ zs : List Int, Row W v 1 zs.length (zs.map (Value.int k)) ∧ (∀ n ∈ zs, (Lit.int k n).wf = true) ∧ zs.length * P.bytesOf e ≤ 140737488351232 := by
  rcases h with h | ⟨e', k', zs, h1, h2, h3, h4, h5⟩
  · rcases h with ⟨k', h1, -⟩ | ⟨h1, -⟩ | ⟨h1, -⟩ <;> (rw [ht] at h1; cases h1)
  · rw [ht] at h1
    cases h1
    rw [he] at h2
    cases h2
    exact ⟨zs, h3, h4, h5⟩
end Go.Proofs.Ytndjgbknhfficaa
namespace Go.Proofs.Ytndjgbknhfficaa.Nt
open Go.RowKit Go.ChangeShapes Go.WideShapes
/-- an act: its kind, from, to, body, number -/
structure Na where
  k : Int
  f : Int
  t : Int
  v : Value
  bd : List UInt8
  n : Int
abbrev Na.c (a : Na) : List Value := [.int .i64 a.k, .int .i64 a.f, .int .i64 a.t, a.v, .int .u64 a.n]
structure NaOk (w : World) (a : Na) : Prop where
  k : (Lit.int .i64 a.k).wf = true
  f : (Lit.int .i64 a.f).wf = true
  t : (Lit.int .i64 a.t).wf = true
  n : (Lit.int .u64 a.n).wf = true
  v : Go.Proofs.Ytndjgbknhfficaa.Rd w a.v a.bd
  len : a.bd.length ≤ 140737488351232
theorem NaOk.kept {w w' : World} {a : Na} (h : NaOk w a) (hb : Below w.heap.size w w') : NaOk w' a := ⟨h.k, h.f, h.t, h.n, h.v.below hb, h.len⟩
abbrev naLs : List TypeId := [3, 3, 3, 29, 25]
theorem na_of {W : World} {x : List Value} (h : Leavz Try.prog W naLs x) (hb1 : Try.prog.bytesOf 5 = 1) : ∃ y : Na, x = Na.c y ∧ NaOk W y := by
  obtain ⟨h1, h2⟩ := h
  match x, h1, h2 with
  | [v0, v1, v2, v3, v4], _, h2 =>
    obtain ⟨k, rfl, hk⟩ := (LeafOk.int (v := v0) (h2 0 _ rfl) Try.underlying3)
    obtain ⟨f, rfl, hf⟩ := (LeafOk.int (v := v1) (h2 1 _ rfl) Try.underlying3)
    obtain ⟨t, rfl, ht⟩ := (LeafOk.int (v := v2) (h2 2 _ rfl) Try.underlying3)
    obtain ⟨zs, hz1, hz2, hz3⟩ := (LeafOk.nums (v := v3) (h2 3 _ rfl) Try.underlying29 Try.underlying5)
    obtain ⟨n, rfl, hn⟩ := (LeafOk.int (v := v4) (h2 4 _ rfl) Try.underlying25)
    refine ⟨⟨k, f, t, v3, zs.map fun n => UInt8.ofNat n.toNat, n⟩, rfl, hk, hf, ht, hn, ?_, ?_⟩
    · have e : (zs.map fun n => UInt8.ofNat n.toNat).map B = zs.map (Value.int .u8) := by
        rw [List.map_map]
        refine List.map_congr_left fun n hn => ?_
        have := u8_wf (hz2 n hn)
        simp
        omega
      show Row W v3 1 _ _
      rw [e, List.length_map]
      exact hz1
    · rw [hb1] at hz3
      simp only [List.length_map]
      omega
structure Nas (w : World) (v : Value) (l : List Na) : Prop where
  row : Row w v 5 l.length (rwC Na.c l)
  ok : ∀ x ∈ l, NaOk w x
theorem ex_map {α β : Type} {f : β → α} {p : β → Prop} : ∀ (es : List α), (∀ x ∈ es, ∃ y, x = f y ∧ p y) → ∃ l : List β, es = l.map f ∧ ∀ y ∈ l, p y
  | [], _ => ⟨[], rfl, by simp⟩
  | e :: es, h => by
    obtain ⟨y, h1, h2⟩ := h e (by simp)
    obtain ⟨l, h3, h4⟩ := ex_map es (fun x hx => h x (by simp [hx]))
    exact ⟨y :: l, by rw [h1, h3]; rfl, fun z hz => by
      rcases List.mem_cons.1 hz with rfl | hz
      · exact h2
      · exact h4 z hz⟩
theorem nas_of {W : World} {v : Value} {es : List (List Value)} (hr : Row W v 5 es.length es.flatten) (hf : ∀ x ∈ es, Leavz Try.prog W naLs x) (hb1 : Try.prog.bytesOf 5 = 1) : ∃ l, Nas W v l := by
  obtain ⟨l, hl, hp⟩ := ex_map (f := Na.c) (p := NaOk W) es (fun x hx => na_of (hf x hx) hb1)
  refine ⟨l, ?_, hp⟩
  rw [hl, List.length_map] at hr
  rw [show rwC Na.c l = (l.map Na.c).flatten from by unfold rwC; rw [List.flatMap_def]]
  exact hr
theorem Nas.kept {w w' : World} {v : Value} {l : List Na} (h : Nas w v l) (hb : Below w.heap.size w w') : Nas w' v l := ⟨h.row.below hb, fun x hx => (h.ok x hx).kept hb⟩
end Go.Proofs.Ytndjgbknhfficaa.Nt
