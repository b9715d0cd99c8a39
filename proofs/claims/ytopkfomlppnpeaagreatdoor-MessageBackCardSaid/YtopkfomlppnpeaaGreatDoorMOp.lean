/- , laid together: Open, IRows, Open2, Open3, Open4, Open6, Open7. -/
import Derived.Test.YtopkfomlppnpeaaGreatDoorLib
import Derived.OpenShut
import Derived.ShutString
import Derived.ChangeOld
import Derived.SizedLaws
import Derived.Test.YtopkfomlppnpeaaGreatDoorLib2
import Derived.Deep.Matrix
import Derived.Deep.Fields
namespace Go.Proofs.YtopkfomlppnpeaaGreatDoor
open Go.ChangeShapes Go.WideShapes Go.ChangeAt Go.RowKit
open Go.ChangeMaps (open_string shut_string)

theorem Tryz.ownKnobs : ownKnob Tryz.prog.godebug = none := by kernel_rfl
theorem Tryz.laidOut : laidOutB Tryz.prog = true := by kernel_rfl

/-- a slice of integers that came in: what it reads as, and that it is no greater than the form's reach -/
theorem open_nums {H : Type} {enc : TypeId × Value → H} {P : Program} {W : World} {t e : TypeId} {k : IntKind} {v : Value} {d : DataW H} {ps : List MemPlace} {r : Reach} {b0 : Nat} {ts : List TypeId} {ds : List (DataW H)} {j : Nat}
    (ht : P.underlying t = some (.slice e)) (he : P.underlying e = some (.int k)) (hc : P.cellsOf e = 1) (hval : Value.okWide P W r b0 t v) (h : DataW.Trod enc P W 0 (fun _ => true) true t v d ps)
    (hsz : (DataW.weightsEach P ts ds).all (· ≤ reachBytes) = true) (hj : ts[j]? = some t) (hd : ds[j]? = some d) :
    ∃ zs : List Int, Row W v 1 zs.length (zs.map (Value.int k)) ∧ (∀ n ∈ zs, (Lit.int k n).wf = true) ∧ zs.length * P.bytesOf e ≤ 140737488351232 := by
  obtain ⟨a0, len0, cap0, rfl⟩ := okWide_slice ht hval
  obtain ⟨fuel, hf⟩ := h
  rcases open_ints ht he hc hf with ⟨hcs, hx⟩ | ⟨x, l, c, zs, hcs, _, hl, hm, hz, hx, hcell, hwz⟩
  · simp [Value.cells] at hcs
    obtain ⟨rfl, rfl, rfl⟩ := hcs
    exact ⟨[], row_nil W 1, by simp, by simp⟩
  · simp [Value.cells] at hcs
    obtain ⟨rfl, rfl, rfl⟩ := hcs
    simp only [if_true] at hz
    have htl : (zs.take len0).length = len0 := by simp; omega
    refine ⟨zs.take len0, ⟨some x, cap0, by rw [htl], by rw [htl]; exact hl, hm, by simp, ?_, by simp, ?_⟩, fun n hn => hwz n (List.mem_of_mem_take hn), ?_⟩
    · intro u hu
      obtain ⟨n, _, rfl⟩ := List.mem_map.1 hu
      rfl
    · by_cases h0 : len0 = 0
      · left; subst h0; simp
      · right
        have hc0 := hcell 0 (by omega)
        have hsp : x.spot = none := by
          have e0 : x.add 0 = x := by simp [Addr.add]
          rw [e0] at hc0
          unfold World.cell? at hc0
          split at hc0
          · split at hc0
            · simp at hc0
            · rename_i h; simpa using h
          · simp at hc0
        obtain ⟨b, o, sp⟩ := x
        simp only at hsp
        subst hsp
        refine ⟨b, o, rfl, fun i u hi => ?_⟩
        rw [← add_off]
        have hi2 : i < zs.length := by
          have := (List.getElem?_eq_some_iff.1 hi).1
          simp at this; omega
        rw [hcell i hi2]
        have hi1 : i < len0 := by
          have := (List.getElem?_eq_some_iff.1 hi).1
          simp at this; omega
        rw [List.getElem?_map, List.getElem?_take, if_pos hi1, List.getElem?_eq_getElem hi2] at hi
        simp at hi
        rw [← hi]
        simp [List.getD, hi2]
    · simp only [Prod.mk.injEq] at hx
      have hd' := hx.1
      subst hd'
      have := sized_slice hsz hj hd ht
      rw [htl]
      have h2 : (lits (H := H) k (zs.take len0)).length + (lits (H := H) k (zs.drop len0)).length = cap0 := by
        simp [lits]; omega
      rw [h2] at this
      have h3 : len0 * P.bytesOf e ≤ cap0 * P.bytesOf e := Nat.mul_le_mul_right _ hl
      have h4 : reachBytes = 140737488351232 := by decide
      omega

theorem u8_wf {n : Int} (h : (Lit.int .u8 n).wf = true) : 0 ≤ n ∧ n ≤ 255 := by
  simpa [Lit.wf, IntKind.min, IntKind.max, IntKind.signed, IntKind.bits] using h
theorem i64_wf {n : Int} (h : (Lit.int .i64 n).wf = true) : -9223372036854775808 ≤ n ∧ n ≤ 9223372036854775807 := by
  simpa [Lit.wf, IntKind.min, IntKind.max, IntKind.signed, IntKind.bits] using h
theorem u64_wf {n : Int} (h : (Lit.int .u64 n).wf = true) : 0 ≤ n ∧ n ≤ 18446744073709551615 := by
  simpa [Lit.wf, IntKind.min, IntKind.max, IntKind.signed, IntKind.bits] using h

/-- a slice of bytes that came in -/
theorem open_bytes {H : Type} {enc : TypeId × Value → H} {P : Program} {W : World} {t e : TypeId} {v : Value} {d : DataW H} {ps : List MemPlace} {r : Reach} {b0 : Nat} {ts : List TypeId} {ds : List (DataW H)} {j : Nat}
    (ht : P.underlying t = some (.slice e)) (he : P.underlying e = some (.int .u8)) (hc : P.cellsOf e = 1) (hb : P.bytesOf e = 1) (hval : Value.okWide P W r b0 t v) (h : DataW.Trod enc P W 0 (fun _ => true) true t v d ps)
    (hsz : (DataW.weightsEach P ts ds).all (· ≤ reachBytes) = true) (hj : ts[j]? = some t) (hd : ds[j]? = some d) :
    ∃ l : List UInt8, Rd W v l ∧ l.length ≤ 140737488351232 := by
  obtain ⟨zs, hr, hwf, hl⟩ := open_nums ht he hc hval h hsz hj hd
  refine ⟨zs.map fun n => UInt8.ofNat n.toNat, ?_, by simpa [hb] using hl⟩
  have e : (zs.map fun n => UInt8.ofNat n.toNat).map B = zs.map (Value.int .u8) := by
    rw [List.map_map]
    refine List.map_congr_left fun n hn => ?_
    have := u8_wf (hwf n hn)
    simp
    omega
  unfold Rd
  rw [e, List.length_map]
  exact hr

theorem open_str {H : Type} {enc : TypeId × Value → H} {P : Program} {W : World} {t : TypeId} {v : Value} {d : DataW H} {ps : List MemPlace} {r : Reach} {b0 : Nat} {ts : List TypeId} {ds : List (DataW H)} {j : Nat}
    (ht : P.underlying t = some .string) (hval : Value.okWide P W r b0 t v) (h : DataW.Trod enc P W 0 (fun _ => true) true t v d ps)
    (hsz : (DataW.weightsEach P ts ds).all (· ≤ reachBytes) = true) (hj : ts[j]? = some t) (hd : ds[j]? = some d) :
    ∃ s : ByteArray, v = .string s ∧ d = .lit (.string s.data.toList) ∧ ps = [] ∧ s.size ≤ maxLen ∧ s.size ≤ 140737488351232 := by
  obtain ⟨s, rfl, rfl, rfl, h2⟩ := open_string ht hval h
  have := sized_string hsz hj hd
  have h4 : reachBytes = 140737488351232 := by decide
  have h5 : s.data.toList.length = s.size := by simp
  exact ⟨s, rfl, rfl, rfl, h2, by omega⟩

end Go.Proofs.YtopkfomlppnpeaaGreatDoor

namespace Go.Proofs.YtopkfomlppnpeaaGreatDoor
open Go.RowKit

/-- a slice of slices of numbers reads as these lists -/
def Rows2 (w : World) (v : Value) (zss : List (List Int)) : Prop :=
  ∃ vs : List Value, vs.length = zss.length ∧ Row w v 1 zss.length vs ∧ ∀ i (h : i < zss.length) u, vs[i]? = some u → Row w u 1 zss[i].length (zss[i].map (Value.int .i64))

theorem Rows2.below {w w' : World} {v : Value} {zss : List (List Int)} (h : Rows2 w v zss) (hb : Below w.heap.size w w') : Rows2 w' v zss := by
  obtain ⟨vs, h1, h2, h3⟩ := h
  exact ⟨vs, h1, h2.below hb, fun i hi u hu => (h3 i hi u hu).below hb⟩

theorem Row.num {w : World} {p : Option Addr} {n c : Nat} {k : IntKind} {zs : List Int} (h : Row w (.slice p n c) 1 zs.length (zs.map (Value.int k))) {i : Nat} (hi : i < zs.length) : ∃ b o, p = some ⟨b, o, none⟩ ∧ w.cell? ⟨b, o + i, none⟩ = some (.int k zs[i]) := by
  obtain ⟨p', c', hv, h1, h2, h3, h4, h5, h6⟩ := h
  simp only [Value.slice.injEq] at hv
  obtain ⟨rfl, -, rfl⟩ := hv
  rcases h6 with h6 | ⟨b, o, rfl, ha⟩
  · have : zs = [] := by simpa using h6
    subst this; simp at hi
  · exact ⟨b, o, rfl, ha i _ (by simp [hi])⟩

/-- the outer slice, and where its rows lie -/
theorem Rows2.parts {w : World} {v : Value} {zss : List (List Int)} (h : Rows2 w v zss) :
    ∃ p c, v = .slice p zss.length c ∧ zss.length ≤ c ∧ c ≤ maxLen ∧ ∀ i (hi : i < zss.length), ∃ b o p' c', p = some ⟨b, o, none⟩ ∧ w.cell? ⟨b, o + i, none⟩ = some (.slice p' zss[i].length c') ∧ Row w (.slice p' zss[i].length c') 1 zss[i].length (zss[i].map (Value.int .i64)) := by
  obtain ⟨vs, h1, ⟨p, c, hv, h2, h3, h4, h5, h6, h7⟩, h8⟩ := h
  refine ⟨p, c, hv, h2, h3, fun i hi => ?_⟩
  have hi' : i < vs.length := by omega
  have hr := h8 i hi vs[i] (by simp [hi'])
  rcases h7 with h7 | ⟨b, o, hp, ha⟩
  · rw [h7] at hi'; simp at hi'
  · have hc := ha i vs[i] (by simp [hi'])
    obtain ⟨p', c', hu, hr2⟩ := hr
    rw [hu] at hc
    exact ⟨b, o, p', c', hp, hc, ⟨p', c', rfl, hr2⟩⟩

/-- the same, of a slice value in parts -/
theorem Rows2.rowAt {w : World} {p : Option Addr} {n c : Nat} {zss : List (List Int)} (h : Rows2 w (.slice p n c) zss) {i : Nat} (hi : i < zss.length) :
    ∃ b o p' c', p = some ⟨b, o, none⟩ ∧ w.cell? ⟨b, o + i, none⟩ = some (.slice p' zss[i].length c') ∧ Row w (.slice p' zss[i].length c') 1 zss[i].length (zss[i].map (Value.int .i64)) := by
  obtain ⟨p2, c2, e, -, -, hat⟩ := h.parts
  simp only [Value.slice.injEq] at e
  obtain ⟨rfl, -, rfl⟩ := e
  exact hat i hi


/-- a block whole, as a row -/
theorem row_block {w : World} {g : Nat} {us : List Value} {e : TypeId} {fr : Nat × Nat} (hg : w.heap[g]? = some (.cells us.toArray e fr)) (hm : us.length ≤ maxLen) (h1 : ∀ u ∈ us, u.oneCell' = true) : Row w (.slice (some ⟨g, 0, none⟩) us.length us.length) 1 us.length us := by
  refine ⟨some ⟨g, 0, none⟩, us.length, rfl, Nat.le_refl _, hm, by simp, h1, by simp, .inr ⟨g, 0, rfl, fun j u hj => ?_⟩⟩
  rw [cell_of_row w g (0 + j) us.toArray e fr hg]
  simpa using hj
theorem rows2_lit {w : World} {g : Nat} {vs : List Value} {zss : List (List Int)} {e : TypeId} {fr : Nat × Nat} (hg : w.heap[g]? = some (.cells vs.toArray e fr)) (hl : vs.length = zss.length) (hm : zss.length ≤ maxLen) (h1 : ∀ u ∈ vs, u.oneCell' = true)
    (hr : ∀ i (h : i < zss.length) u, vs[i]? = some u → Row w u 1 zss[i].length (zss[i].map (Value.int .i64))) : Rows2 w (.slice (some ⟨g, 0, none⟩) zss.length zss.length) zss := by
  refine ⟨vs, hl, ?_, hr⟩
  have := row_block hg (by omega) h1
  rw [hl] at this
  exact this
end Go.Proofs.YtopkfomlppnpeaaGreatDoor

namespace Go.Proofs.YtopkfomlppnpeaaGreatDoor
open Go.ChangeShapes Go.WideShapes Go.ChangeAt Go.RowKit

theorem spot_none {W : World} {x : Addr} {u : Value} (h : W.cell? x = some u) : x.spot = none := by
  unfold World.cell? at h
  split at h
  · split at h
    · simp at h
    · rename_i hh; simpa using hh
  · simp at h

theorem row_of_cells {W : World} {k : IntKind} {a : Option Addr} {l c : Nat} {zs : List Int} (hl : l ≤ c) (hm : c ≤ maxLen) (hz : zs.length = c) (hn : a = none → c = 0)
    (hc : ∀ x, a = some x → ∀ i, i < c → W.cell? (x.add i) = some (.int k (zs.getD i 0))) : Row W (.slice a l c) 1 (zs.take l).length ((zs.take l).map (Value.int k)) := by
  have htl : (zs.take l).length = l := by simp; omega
  refine ⟨a, c, by rw [htl], by rw [htl]; exact hl, hm, by simp, ?_, fun h0 => ?_, ?_⟩
  · intro u hu
    obtain ⟨n, _, rfl⟩ := List.mem_map.1 hu
    rfl
  · have := hn h0
    obtain rfl : l = 0 := by omega
    exact ⟨by simp, this⟩
  · by_cases h0 : l = 0
    · left; subst h0; simp
    · right
      cases a with
      | none => have := hn rfl; omega
      | some x =>
        have hc0 := hc x rfl 0 (by omega)
        have hsp : x.spot = none := by
          have e0 : x.add 0 = x := by simp [Addr.add]
          rw [e0] at hc0
          exact spot_none hc0
        obtain ⟨b, o, sp⟩ := x
        simp only at hsp
        subst hsp
        refine ⟨b, o, rfl, fun i u hi => ?_⟩
        have hi1 : i < l := by
          have := (List.getElem?_eq_some_iff.1 hi).1
          simp at this; omega
        have hi2 : i < zs.length := by omega
        rw [← add_off, hc _ rfl i (by omega)]
        rw [List.getElem?_map, List.getElem?_take, if_pos hi1, List.getElem?_eq_getElem hi2] at hi
        simp at hi
        rw [← hi]
        simp [List.getD, hi2]

theorem open_rows2 {H : Type} {enc : TypeId × Value → H} {P : Program} {W : World} {t e q : TypeId} {v : Value} {d : DataW H} {ps : List MemPlace} {r : Reach} {b0 : Nat}
    (ht : P.underlying t = some (.slice e)) (he : P.underlying e = some (.slice q)) (hq : P.underlying q = some (.int .i64)) (ce : P.cellsOf e = 1) (cq : P.cellsOf q = 1) (hval : Value.okWide P W r b0 t v) (h : DataW.Trod enc P W 0 (fun _ => true) true t v d ps) :
    ∃ zss : List (List Int), Rows2 W v zss ∧ ∀ l ∈ zss, ∀ n ∈ l, (Lit.int .i64 n).wf = true := by
  obtain ⟨a0, len0, cap0, rfl⟩ := okWide_slice ht hval
  obtain ⟨fuel, hf⟩ := h
  rcases Deep.open_int_rows ht he hq ce cq hf with ⟨hcs, hx⟩ | ⟨x, l, c, A, L, C, Z, hcs, _, hl, hm, hx, hr⟩
  · simp [Value.cells] at hcs
    obtain ⟨rfl, rfl, rfl⟩ := hcs
    exact ⟨[], ⟨[], rfl, row_nil W 1, by simp⟩, by simp⟩
  · simp [Value.cells] at hcs
    obtain ⟨rfl, rfl, rfl⟩ := hcs
    have htl : ((List.range len0).map fun i => (Z i).take (L i)).length = len0 := by simp
    refine ⟨(List.range len0).map fun i => (Z i).take (L i), ⟨(List.range len0).map fun i => .slice (A i) (L i) (C i), by simp, ⟨some x, cap0, by rw [htl], by rw [htl]; exact hl, hm, by simp, ?_, by simp, ?_⟩, ?_⟩, ?_⟩
    · intro u hu
      obtain ⟨n, _, rfl⟩ := List.mem_map.1 hu
      rfl
    · by_cases h0 : len0 = 0
      · left; subst h0; simp
      · right
        have hc0 := (hr 0 (by omega)).1
        have hsp : x.spot = none := by
          have e0 : x.add 0 = x := by simp [Addr.add]
          rw [e0] at hc0
          exact spot_none hc0
        obtain ⟨b, o, sp⟩ := x
        simp only at hsp
        subst hsp
        refine ⟨b, o, rfl, fun i u hi => ?_⟩
        have hi1 : i < len0 := by
          have := (List.getElem?_eq_some_iff.1 hi).1
          simpa using this
        rw [← add_off, (hr i (by omega)).1]
        simpa [hi1] using hi
    · intro i hi u hu
      simp at hi
      obtain rfl : Value.slice (A i) (L i) (C i) = u := by simpa [hi] using hu
      obtain ⟨-, r1, r2, r3, -, r5, r6⟩ := hr i (by omega)
      have := row_of_cells (k := .i64) r1 r2 r3 r5 (fun x hx => (r6 x hx).2)
      have e : (L i) = ((Z i).take (L i)).length := by simp; omega
      simpa using this
    · intro z hz n hn
      obtain ⟨i, hi, rfl⟩ := List.mem_map.1 hz
      exact (hr i (by have := List.mem_range.1 hi; omega)).2.2.2.2.1 n (List.mem_of_mem_take hn)
end Go.Proofs.YtopkfomlppnpeaaGreatDoor

namespace Go.Proofs.YtopkfomlppnpeaaGreatDoor
open Go.ChangeShapes Go.WideShapes Go.ChangeAt Go.RowKit

/-- what a field of a plain type holds: a number, a text, a truth -/
def fieldOk (P : Program) (t : TypeId) (v : Value) : Prop :=
  (∃ k, P.underlying t = some (.int k) ∧ ∃ n, v = .int k n ∧ (Lit.int k n).wf = true) ∨ (P.underlying t = some .string ∧ ∃ s, v = .string s ∧ s.size ≤ maxLen) ∨ (P.underlying t = some .bool ∧ ∃ b, v = .bool b)

theorem fieldOk.int {P : Program} {t : TypeId} {v : Value} {k : IntKind} (h : fieldOk P t v) (ht : P.underlying t = some (.int k)) : ∃ n, v = .int k n ∧ (Lit.int k n).wf = true := by
  rcases h with ⟨k', h1, h2⟩ | ⟨h1, -⟩ | ⟨h1, -⟩
  · rw [ht] at h1; cases h1; exact h2
  · rw [ht] at h1; cases h1
  · rw [ht] at h1; cases h1
theorem fieldOk.str {P : Program} {t : TypeId} {v : Value} (h : fieldOk P t v) (ht : P.underlying t = some .string) : ∃ s, v = .string s ∧ s.size ≤ maxLen := by
  rcases h with ⟨k', h1, h2⟩ | ⟨h1, h2⟩ | ⟨h1, -⟩
  · rw [ht] at h1; cases h1
  · exact h2
  · rw [ht] at h1; cases h1
theorem fieldOk.bool {P : Program} {t : TypeId} {v : Value} (h : fieldOk P t v) (ht : P.underlying t = some .bool) : ∃ b, v = .bool b := by
  rcases h with ⟨k', h1, h2⟩ | ⟨h1, h2⟩ | ⟨h1, h2⟩
  · rw [ht] at h1; cases h1
  · rw [ht] at h1; cases h1
  · exact h2
theorem fieldOk.one {P : Program} {t : TypeId} {v : Value} (h : fieldOk P t v) : v.oneCell' = true := by
  rcases h with ⟨k', h1, n, rfl, -⟩ | ⟨h1, s, rfl, -⟩ | ⟨h1, b, rfl⟩ <;> rfl

def plainType (P : Program) (t : TypeId) : Bool := match P.underlying t with
  | some (.int _) => true
  | some .string => true
  | some .bool => true
  | _ => false
/-- each field lies at its index, is one cell, and plain: for the kernel -/
def plainFields (P : Program) (fs : Array Field) : Bool := (List.range fs.size).all fun i => match fs[i]? with
  | some f => f.offset == i && P.cellsOf f.type == 1 && plainType P f.type
  | none => false

theorem plain_of {P : Program} {fs : Array Field} (h : plainFields P fs = true) {i : Nat} {f : Field} (hi : fs[i]? = some f) : f.offset = i ∧ P.cellsOf f.type = 1 ∧ plainType P f.type = true := by
  have hlt : i < fs.size := (Array.getElem?_eq_some_iff.1 hi).1
  have := List.all_eq_true.1 h i (List.mem_range.2 hlt)
  simp only [hi, Bool.and_eq_true, beq_iff_eq] at this
  exact ⟨this.1.1, this.1.2, this.2⟩

section
variable {H : Type} {enc : TypeId × Value → H} {P : Program} {W : World} {base : Nat} {sp : Nat → Bool} {held : Bool}

theorem field_of_trod {t : TypeId} {n : Nat} {v : Value} {y : DataW H × List MemPlace} (hp : plainType P t = true) (h : DataW.trod enc P W base sp held n t [v] = some y) : fieldOk P t v := by
  unfold plainType at hp
  split at hp
  · rename_i k hk
    obtain ⟨m, h1, -, h2⟩ := DataW.trod_int hk h
    simp only [List.cons.injEq, and_true] at h1
    exact .inl ⟨k, hk, m, h1, h2⟩
  · rename_i hk
    obtain ⟨s, h1, -, h2⟩ := DataW.trod_string hk h
    simp only [List.cons.injEq, and_true] at h1
    exact .inr (.inl ⟨hk, s, h1, h2⟩)
  · rename_i hk
    obtain ⟨b, h1, -⟩ := DataW.trod_bool hk h
    simp only [List.cons.injEq, and_true] at h1
    exact .inr (.inr ⟨hk, b, h1⟩)
  · cases hp

/-- the cells of a struct of plain fields -/
theorem cells_of_struct {ts : TypeId} {fs : Array Field} {n : Nat} {cs : List Value} {x : DataW H × List MemPlace} (hs : P.underlying ts = some (.struct fs)) (hp : plainFields P fs = true) (hC : P.cellsOf ts = fs.size)
    (h : DataW.trod enc P W base sp held n ts cs = some x) : cs.length = fs.size ∧ ∀ i f, fs[i]? = some f → fieldOk P f.type (cs.getD i undef) := by
  obtain ⟨xs, m, -, -, hl, hxl, hf⟩ := DataW.trod_struct hs h
  rw [hC] at hl
  refine ⟨hl, fun i f hi => ?_⟩
  obtain ⟨h1, h2, h3⟩ := plain_of hp hi
  have hlt : i < fs.size := (Array.getElem?_eq_some_iff.1 hi).1
  have := hf i f hi
  rw [h1, h2, Deep.take1_drop cs i undef (by omega), List.getElem?_eq_getElem (by omega)] at this
  exact field_of_trod h3 this
end

/-- a struct by value -/
theorem open_struct {H : Type} {enc : TypeId × Value → H} {P : Program} {W : World} {t : TypeId} {fs : Array Field} {v : Value} {d : DataW H} {ps : List MemPlace} {r : Reach} {b0 : Nat}
    (hs : P.underlying t = some (.struct fs)) (hp : plainFields P fs = true) (hC : P.cellsOf t = fs.size) (hval : Value.okWide P W r b0 t v) (h : DataW.Trod enc P W 0 (fun _ => true) true t v d ps) :
    ∃ cs : List Value, v = .agg cs.toArray ∧ cs.length = fs.size ∧ ∀ i f, fs[i]? = some f → fieldOk P f.type (cs.getD i undef) := by
  obtain ⟨cs, rfl, -⟩ := okWide_struct hs hval
  obtain ⟨fuel, hf⟩ := h
  have := cells_of_struct hs hp hC hf
  exact ⟨cs.toList, rfl, by simpa [Value.cells] using this.1, fun i f hi => by simpa [Value.cells] using this.2 i f hi⟩

theorem flatten_get {α : Type} {s : Nat} (hs : 0 < s) : ∀ (l : List (List α)), (∀ x ∈ l, x.length = s) → ∀ j, l.flatten[j]? = (l[j / s]?).bind fun x => x[j % s]?
  | [], _, j => by simp
  | x :: l, h, j => by
    have hx := h x (by simp)
    rw [List.flatten_cons]
    by_cases hj : j < s
    · rw [List.getElem?_append_left (by omega), Nat.div_eq_of_lt hj, Nat.mod_eq_of_lt hj]
      simp
    · obtain ⟨k, rfl⟩ : ∃ k, j = s + k := ⟨j - s, by omega⟩
      rw [List.getElem?_append_right (by omega), hx, Nat.add_sub_cancel_left, flatten_get hs l (fun y hy => h y (by simp [hy])) k]
      rw [Nat.add_div_left k hs, Nat.add_mod_left]
      simp
theorem flatten_len {α : Type} {s : Nat} : ∀ (l : List (List α)), (∀ x ∈ l, x.length = s) → l.flatten.length = l.length * s
  | [], _ => by simp
  | x :: l, h => by
    rw [List.flatten_cons, List.length_append, h x (by simp), flatten_len l (fun y hy => h y (by simp [hy])), List.length_cons, Nat.add_mul]
    omega

/-- a slice of structs -/
theorem open_structs {H : Type} {enc : TypeId × Value → H} {P : Program} {W : World} {t e : TypeId} {fs : Array Field} {v : Value} {d : DataW H} {ps : List MemPlace} {r : Reach} {b0 : Nat}
    (ht : P.underlying t = some (.slice e)) (he : P.underlying e = some (.struct fs)) (hp : plainFields P fs = true) (hC : P.cellsOf e = fs.size) (hpos : 0 < fs.size) (hval : Value.okWide P W r b0 t v) (h : DataW.Trod enc P W 0 (fun _ => true) true t v d ps) :
    ∃ es : List (List Value), Row W v fs.size es.length es.flatten ∧ ∀ x ∈ es, x.length = fs.size ∧ ∀ i f, fs[i]? = some f → fieldOk P f.type (x.getD i undef) := by
  obtain ⟨a0, len0, cap0, rfl⟩ := okWide_slice ht hval
  obtain ⟨fuel, hf⟩ := h
  rcases Deep.open_slice ht hf with ⟨hcs, -⟩ | ⟨a, len, cap, m, n, D, Pl, hcs, hb, hl, hm, hmm, -, hr⟩
  · simp [Value.cells] at hcs
    obtain ⟨rfl, rfl, rfl⟩ := hcs
    exact ⟨[], row_nil W _, by simp⟩
  · simp [Value.cells] at hcs
    obtain ⟨rfl, rfl, rfl⟩ := hcs
    simp only [if_true] at hmm
    subst hmm
    rw [hC] at hr
    obtain ⟨C, hCC⟩ := Deep.choose_lt (α := List Value) (p := fun i cs => W.cells? 0 (a.add (i * fs.size)) fs.size = some cs ∧ DataW.trod enc P W 0 (fun _ => true) true n e cs = some (D i, Pl i)) (fun i (hi : i < len0) => by
      obtain ⟨cs, h1, h2⟩ := hr i (by omega)
      exact ⟨cs, h1, h2⟩)
    have hok : ∀ i, i < len0 → (C i).length = fs.size ∧ ∀ j f, fs[j]? = some f → fieldOk P f.type ((C i).getD j undef) := fun i hi => cells_of_struct he hp hC (hCC i hi).2
    have hcell : ∀ i, i < len0 → ∀ j, j < fs.size → W.cell? ((a.add (i * fs.size)).add j) = (C i)[j]? := fun i hi => (World.cells?_some (hCC i hi).1).2.2
    have hmem : ∀ x ∈ (List.range len0).map C, x.length = fs.size ∧ ∀ j f, fs[j]? = some f → fieldOk P f.type (x.getD j undef) := fun x hx => by
      obtain ⟨i, hi, rfl⟩ := List.mem_map.1 hx
      exact hok i (List.mem_range.1 hi)
    have hfl := flatten_len ((List.range len0).map C) (fun x hx => (hmem x hx).1)
    have hln : ((List.range len0).map C).length = len0 := by simp
    refine ⟨(List.range len0).map C, ⟨some a, m, by rw [hln], by rw [hln]; exact hl, hm, by rw [hfl], ?_, by simp, ?_⟩, hmem⟩
    · intro u hu
      obtain ⟨x, hx, hux⟩ := List.mem_flatten.1 hu
      obtain ⟨h1, h2⟩ := hmem x hx
      obtain ⟨j, hj, rfl⟩ := List.getElem_of_mem hux
      have := (h2 j fs[j] (Array.getElem?_eq_getElem (by omega))).one
      simpa [List.getD, hj] using this
    · by_cases h0 : len0 = 0
      · left; subst h0; simp
      · right
        have hc0 := hcell 0 (by omega) 0 hpos
        rw [List.getElem?_eq_getElem (by rw [(hok 0 (by omega)).1]; exact hpos)] at hc0
        have hsp : a.spot = none := by
          have e0 : (a.add (0 * fs.size)).add 0 = a := by simp [Addr.add]
          rw [e0] at hc0
          exact spot_none hc0
        obtain ⟨b, o, spt⟩ := a
        simp only at hsp
        subst hsp
        refine ⟨b, o, rfl, fun j u hj => ?_⟩
        rw [flatten_get hpos _ (fun x hx => (hmem x hx).1)] at hj
        obtain ⟨x, hx, hjx⟩ := Option.bind_eq_some_iff.1 hj
        have hq : j / fs.size < len0 := by
          have := (List.getElem?_eq_some_iff.1 hx).1
          simpa using this
        have hx' : C (j / fs.size) = x := by simpa [hq] using hx
        have := hcell (j / fs.size) hq (j % fs.size) (Nat.mod_lt _ hpos)
        rw [add_off, add_off, hx', hjx] at this
        have e := Nat.div_add_mod j fs.size
        rw [Nat.mul_comm] at e
        rw [Nat.add_assoc, e] at this
        exact this

/-- a slice of plain things: numbers, texts, truths -/
theorem open_plains {H : Type} {enc : TypeId × Value → H} {P : Program} {W : World} {t e : TypeId} {v : Value} {d : DataW H} {ps : List MemPlace} {r : Reach} {b0 : Nat}
    (ht : P.underlying t = some (.slice e)) (hp : plainType P e = true) (hC : P.cellsOf e = 1) (hval : Value.okWide P W r b0 t v) (h : DataW.Trod enc P W 0 (fun _ => true) true t v d ps) :
    ∃ cs : List Value, Row W v 1 cs.length cs ∧ ∀ x ∈ cs, fieldOk P e x := by
  obtain ⟨a0, len0, cap0, rfl⟩ := okWide_slice ht hval
  obtain ⟨fuel, hf⟩ := h
  rcases Deep.open_slice1 ht hC hf with ⟨hcs, -⟩ | ⟨a, len, cap, m, n, V, D, Pl, hcs, hb, hl, hm, hmm, -, hr⟩
  · simp [Value.cells] at hcs
    obtain ⟨rfl, rfl, rfl⟩ := hcs
    exact ⟨[], row_nil W _, by simp⟩
  · simp [Value.cells] at hcs
    obtain ⟨rfl, rfl, rfl⟩ := hcs
    simp only [if_true] at hmm
    subst hmm
    have hmem : ∀ x ∈ (List.range len0).map V, fieldOk P e x := fun x hx => by
      obtain ⟨i, hi, rfl⟩ := List.mem_map.1 hx
      exact field_of_trod hp (hr i (by have := List.mem_range.1 hi; omega)).2
    have hln : ((List.range len0).map V).length = len0 := by simp
    refine ⟨(List.range len0).map V, ⟨some a, m, by rw [hln], by rw [hln]; exact hl, hm, by simp, fun u hu => (hmem u hu).one, by simp, ?_⟩, hmem⟩
    by_cases h0 : len0 = 0
    · left; subst h0; simp
    · right
      have hc0 := (hr 0 (by omega)).1
      have hsp : a.spot = none := by
        have e0 : a.add 0 = a := by simp [Addr.add]
        rw [e0] at hc0
        exact spot_none hc0
      obtain ⟨b, o, spt⟩ := a
      simp only at hsp
      subst hsp
      refine ⟨b, o, rfl, fun j u hj => ?_⟩
      have hjl : j < len0 := by
        have := (List.getElem?_eq_some_iff.1 hj).1
        simpa using this
      rw [← add_off, (hr j (by omega)).1]
      simpa [hjl] using hj

/-- texts, as the walks hold them -/
def Texts (w : World) (v : Value) (ss : List ByteArray) : Prop := Row w v 1 ss.length (ss.map Value.string)
theorem Texts.below {w w' : World} {v : Value} {ss : List ByteArray} (h : Texts w v ss) (hb : Below w.heap.size w w') : Texts w' v ss := Row.below h hb
theorem Texts.parts {w : World} {v : Value} {ss : List ByteArray} (h : Texts w v ss) :
    ∃ p c, v = .slice p ss.length c ∧ ss.length ≤ c ∧ c ≤ maxLen ∧ ∀ i (hi : i < ss.length), ∃ b o, p = some ⟨b, o, none⟩ ∧ w.cell? ⟨b, o + i, none⟩ = some (.string ss[i]) := by
  obtain ⟨p, c, hv, h1, h2, h3, h4, h5, h6⟩ := h
  refine ⟨p, c, hv, h1, h2, fun i hi => ?_⟩
  rcases h6 with h6 | ⟨b, o, hp, ha⟩
  · have : ss = [] := by simpa using h6
    subst this; simp at hi
  · exact ⟨b, o, hp, ha i _ (by simp [hi])⟩
theorem Texts.textAt {w : World} {p : Option Addr} {n c : Nat} {ss : List ByteArray} (h : Texts w (.slice p n c) ss) {i : Nat} (hi : i < ss.length) : ∃ b o, p = some ⟨b, o, none⟩ ∧ w.cell? ⟨b, o + i, none⟩ = some (.string ss[i]) := by
  obtain ⟨p2, c2, e, -, -, hat⟩ := h.parts
  simp only [Value.slice.injEq] at e
  obtain ⟨rfl, -, rfl⟩ := e
  exact hat i hi
theorem map_of_all {α β : Type} {f : α → β} {p : α → Prop} : ∀ (l : List β), (∀ x ∈ l, ∃ a, x = f a ∧ p a) → ∃ la : List α, l = la.map f ∧ ∀ a ∈ la, p a
  | [], _ => ⟨[], rfl, by simp⟩
  | x :: l, h => by
    obtain ⟨a, rfl, ha⟩ := h x (by simp)
    obtain ⟨la, rfl, has⟩ := map_of_all l (fun y hy => h y (by simp [hy]))
    exact ⟨a :: la, rfl, by simpa using ⟨ha, has⟩⟩
theorem open_texts {H : Type} {enc : TypeId × Value → H} {P : Program} {W : World} {t e : TypeId} {v : Value} {d : DataW H} {ps : List MemPlace} {r : Reach} {b0 : Nat}
    (ht : P.underlying t = some (.slice e)) (he : P.underlying e = some .string) (hC : P.cellsOf e = 1) (hval : Value.okWide P W r b0 t v) (h : DataW.Trod enc P W 0 (fun _ => true) true t v d ps) :
    ∃ ss : List ByteArray, Texts W v ss ∧ ∀ s ∈ ss, s.size ≤ maxLen := by
  obtain ⟨cs, h1, h2⟩ := open_plains ht (by unfold plainType; rw [he]) hC hval h
  obtain ⟨ss, rfl, h3⟩ := map_of_all (f := Value.string) (p := fun s => s.size ≤ maxLen) cs (fun x hx => (h2 x hx).str he)
  refine ⟨ss, ?_, h3⟩
  unfold Texts
  simpa using h1
end Go.Proofs.YtopkfomlppnpeaaGreatDoor

namespace Go.Proofs.YtopkfomlppnpeaaGreatDoor
open Go.ChangeShapes Go.WideShapes Go.ChangeAt Go.RowKit

theorem slice_reach {H : Type} {enc : TypeId × Value → H} {P : Program} {W : World} {t e : TypeId} {v : Value} {d : DataW H} {ps : List MemPlace} {r : Reach} {b0 : Nat} {ts : List TypeId} {ds : List (DataW H)} {j : Nat}
    (ht : P.underlying t = some (.slice e)) (hval : Value.okWide P W r b0 t v) (h : DataW.Trod enc P W 0 (fun _ => true) true t v d ps)
    (hsz : (DataW.weightsEach P ts ds).all (· ≤ reachBytes) = true) (hj : ts[j]? = some t) (hd : ds[j]? = some d) (bytes : Nat) (hb : P.bytesOf e = bytes) :
    ∃ a n c, v = .slice a n c ∧ n * bytes ≤ 140737488351232 := by
  obtain ⟨a0, len0, cap0, rfl⟩ := okWide_slice ht hval
  obtain ⟨fuel, hf⟩ := h
  rcases Deep.open_slice ht hf with ⟨hcs, -⟩ | ⟨a, len, cap, m, n, D, Pl, hcs, -, hl, -, hmm, hx, -⟩
  · simp [Value.cells] at hcs
    obtain ⟨rfl, rfl, rfl⟩ := hcs
    exact ⟨_, _, _, rfl, by simp⟩
  · simp [Value.cells] at hcs
    obtain ⟨rfl, rfl, rfl⟩ := hcs
    simp only [Prod.mk.injEq] at hx
    have hd' := hx.1
    subst hd'
    have := sized_slice hsz hj hd ht
    simp only [List.length_map, List.length_range] at this
    rw [hb] at this
    have h3 : len0 * bytes ≤ (len0 + (m - len0)) * bytes := Nat.mul_le_mul_right _ (by omega)
    have h4 : reachBytes = 140737488351232 := by decide
    exact ⟨_, _, _, rfl, by omega⟩
theorem row_len {w : World} {v : Value} {size n : Nat} {cs : List Value} (h : Row w v size n cs) {a : Option Addr} {m c : Nat} (e : v = .slice a m c) : m = n := by
  obtain ⟨p, c', hv, -⟩ := h
  rw [e] at hv
  simp only [Value.slice.injEq] at hv
  exact hv.2.1
end Go.Proofs.YtopkfomlppnpeaaGreatDoor

namespace Go.Proofs.YtopkfomlppnpeaaGreatDoor
open Go.ChangeShapes Go.WideShapes Go.ChangeAt Go.RowKit

section
variable (P : Program)
/-- a slice of numbers -/
def numsType (t : TypeId) : Bool := match P.underlying t with
  | some (.slice e) => match P.underlying e with
    | some (.int _) => P.cellsOf e == 1
    | _ => false
  | _ => false
/-- a leaf: a plain value, or a slice of numbers -/
def LeafOk (W : World) (t : TypeId) (v : Value) : Prop := fieldOk P t v ∨ ∃ (e : TypeId) (k : IntKind) (zs : List Int), P.underlying t = some (.slice e) ∧ P.underlying e = some (.int k) ∧ Row W v 1 zs.length (zs.map (Value.int k)) ∧ (∀ n ∈ zs, (Lit.int k n).wf = true) ∧ zs.length * P.bytesOf e ≤ 140737488351232
/-- the leaves of fields that lie one behind the other -/
def leafsM (rec : TypeId → Option (List TypeId)) : Nat → List Field → Option (List TypeId)
  | _, [] => some []
  | o, f :: fs => match rec f.type with
    | some l => if f.offset == o && P.cellsOf f.type == l.length then (leafsM rec (o + l.length) fs).map (l ++ ·) else none
    | none => none
def leafz : Nat → TypeId → Option (List TypeId)
  | 0, _ => none
  | n + 1, t => if plainType P t || numsType P t then some [t] else match P.underlying t with
    | some (.struct fs) => leafsM P (leafz n) 0 fs.toList
    | _ => none
end

/-- cells read as leaves -/
def Leavz (P : Program) (W : World) (ls : List TypeId) (cs : List Value) : Prop := cs.length = ls.length ∧ ∀ i t, ls[i]? = some t → LeafOk P W t (cs.getD i undef)

theorem Leavz.append {P : Program} {W : World} {ls ms : List TypeId} {cs ds : List Value} (h : Leavz P W ls cs) (k : Leavz P W ms ds) : Leavz P W (ls ++ ms) (cs ++ ds) := by
  refine ⟨by simp [h.1, k.1], fun i t hi => ?_⟩
  by_cases hlt : i < ls.length
  · rw [List.getElem?_append_left hlt] at hi
    have := h.2 i t hi
    rwa [List.getD_eq_getElem?_getD, List.getElem?_append_left (by rw [h.1]; exact hlt), ← List.getD_eq_getElem?_getD]
  · rw [List.getElem?_append_right (by omega)] at hi
    have := k.2 _ t hi
    rwa [List.getD_eq_getElem?_getD, List.getElem?_append_right (by rw [h.1]; omega), ← List.getD_eq_getElem?_getD, h.1]

section
variable {H : Type} {enc : TypeId × Value → H} {P : Program} {W : World}
/-- no part of it is greater than the form's reach -/
def Small (P : Program) (t : TypeId) (d : DataW H) : Prop := ∀ m ∈ d.weights P t, m ≤ 140737488351232
theorem weightsAll_mem {e : TypeId} : ∀ {l : List (DataW H)} {d : DataW H} {n : Nat}, d ∈ l → n ∈ d.weights P e → n ∈ DataW.weightsAll P e l
  | a :: l, d, n, hd, hn => by
    simp only [DataW.weightsAll, List.mem_append]
    rcases List.mem_cons.1 hd with rfl | hd
    · exact Or.inl hn
    · exact Or.inr (weightsAll_mem hd hn)
theorem nums_of_trod {t : TypeId} {n : Nat} {cs : List Value} {x : DataW H × List MemPlace} (hp : numsType P t = true) (h : DataW.trod enc P W 0 (fun _ => true) true n t cs = some x) (hw : Small P t x.1) : ∃ v, cs = [v] ∧ LeafOk P W t v := by
  unfold numsType at hp
  split at hp
  · rename_i e ht
    split at hp
    · rename_i k he
      have hc : P.cellsOf e = 1 := by simpa using hp
      rcases open_ints ht he hc h with ⟨hcs, -⟩ | ⟨x, l, c, zs, hcs, _, hl, hm, hz, hx, hcell, hwz⟩
      · exact ⟨_, hcs, Or.inr ⟨e, k, [], ht, he, row_nil W 1, by simp, by simp⟩⟩
      · refine ⟨_, hcs, Or.inr ⟨e, k, zs.take l, ht, he, ?_, fun n hn => hwz n (List.mem_of_mem_take hn), ?_⟩⟩
        rotate_left
        · have h1 := hw (((lits (H := H) k (zs.take l)).length + (lits (H := H) k (zs.drop l)).length) * P.bytesOf e) (by rw [hx]; simp [DataW.weights, ht])
          have h2 : (zs.take l).length * P.bytesOf e ≤ ((lits (H := H) k (zs.take l)).length + (lits (H := H) k (zs.drop l)).length) * P.bytesOf e := Nat.mul_le_mul_right _ (by simp [lits])
          exact Nat.le_trans h2 h1
        simp only [if_true] at hz
        have htl : (zs.take l).length = l := by simp; omega
        refine ⟨some x, c, by rw [htl], by rw [htl]; exact hl, hm, by simp, ?_, by simp, ?_⟩
        · intro u hu
          obtain ⟨n, _, rfl⟩ := List.mem_map.1 hu
          rfl
        · by_cases h0 : l = 0
          · left; subst h0; simp
          · right
            have hc0 := hcell 0 (by omega)
            have hsp : x.spot = none := by
              have e0 : x.add 0 = x := by simp [Addr.add]
              rw [e0] at hc0
              unfold World.cell? at hc0
              split at hc0
              · split at hc0
                · simp at hc0
                · rename_i h; simpa using h
              · simp at hc0
            obtain ⟨b, o, sp⟩ := x
            simp only at hsp
            subst hsp
            refine ⟨b, o, rfl, fun i u hi => ?_⟩
            rw [← add_off]
            have hi2 : i < zs.length := by
              have := (List.getElem?_eq_some_iff.1 hi).1
              simp at this; omega
            rw [hcell i hi2]
            have hi1 : i < l := by
              have := (List.getElem?_eq_some_iff.1 hi).1
              simp at this; omega
            rw [List.getElem?_map, List.getElem?_take, if_pos hi1, List.getElem?_eq_getElem hi2] at hi
            simp at hi
            rw [← hi]
            simp [List.getD, hi2]
    · cases hp
  · cases hp
theorem leaf_one {t : TypeId} {v : Value} (h : LeafOk P W t v) : v.oneCell' = true := by
  rcases h with h | ⟨e, k, zs, -, -, h, -, -⟩
  · exact h.one
  · obtain ⟨p, c, rfl, -⟩ := h
    rfl

theorem leavesM {rec : TypeId → Option (List TypeId)} {cs : List Value} (hrec : ∀ t l n ds x, rec t = some l → DataW.trod enc P W 0 (fun _ => true) true n t ds = some x → Small P t x.1 → Leavz P W l ds) :
    ∀ (fs : List Field) (o : Nat) (ls : List TypeId), leafsM P rec o fs = some ls → (∀ f ∈ fs, ∃ n x, DataW.trod enc P W 0 (fun _ => true) true n f.type ((cs.drop f.offset).take (P.cellsOf f.type)) = some x ∧ Small P f.type x.1) → Leavz P W ls ((cs.drop o).take ls.length)
  | [], o, ls, h, _ => by
    simp only [leafsM, Option.some.injEq] at h
    subst h
    exact ⟨by simp, fun i t hi => by simp at hi⟩
  | f :: fs, o, ls, h, hf => by
    simp only [leafsM] at h
    cases hr : rec f.type with
    | none => rw [hr] at h; cases h
    | some l =>
      rw [hr] at h
      simp only at h
      split at h
      · rename_i hc
        simp only [Bool.and_eq_true, beq_iff_eq] at hc
        cases hq : leafsM P rec (o + l.length) fs with
        | none => rw [hq] at h; cases h
        | some ms =>
          rw [hq] at h
          simp only [Option.map_some, Option.some.injEq] at h
          subst h
          obtain ⟨n, x, hx, hw⟩ := hf f (by simp)
          have h1 := hrec f.type l n _ x hr hx hw
          rw [hc.1, hc.2] at h1
          have h2 := leavesM hrec fs (o + l.length) ms hq (fun g hg => hf g (by simp [hg]))
          have := h1.append h2
          have e : (cs.drop o).take l.length ++ (cs.drop (o + l.length)).take ms.length = (cs.drop o).take (l ++ ms).length := by
            rw [List.length_append, ← List.drop_drop, List.take_add]
          rwa [e] at this
      · cases h
theorem leaves_of_trodz : ∀ (d : Nat) (t : TypeId) (ls : List TypeId) (n : Nat) (cs : List Value) (x : DataW H × List MemPlace), leafz P d t = some ls → DataW.trod enc P W 0 (fun _ => true) true n t cs = some x → P.cellsOf t = ls.length → Small P t x.1 → Leavz P W ls cs
  | 0, _, _, _, _, _, h, _, _, _ => by cases h
  | d + 1, t, ls, n, cs, x, h, hx, hC, hw => by
    simp only [leafz] at h
    split at h
    · rename_i hp
      simp only [Option.some.injEq] at h
      subst h
      have hone : ∃ v, cs = [v] ∧ LeafOk P W t v := by
        rw [Bool.or_eq_true] at hp
        rcases hp with hp | hp
        · have hv : ∃ v, cs = [v] := by
            unfold plainType at hp
            split at hp
            · rename_i k hk; obtain ⟨m, h1, -⟩ := DataW.trod_int hk hx; exact ⟨_, h1⟩
            · rename_i hk; obtain ⟨m, h1, -⟩ := DataW.trod_string hk hx; exact ⟨_, h1⟩
            · rename_i hk; obtain ⟨m, h1, -⟩ := DataW.trod_bool hk hx; exact ⟨_, h1⟩
            · cases hp
          obtain ⟨v, rfl⟩ := hv
          exact ⟨v, rfl, Or.inl (field_of_trod hp hx)⟩
        · exact nums_of_trod hp hx hw
      obtain ⟨v, rfl, hv⟩ := hone
      refine ⟨rfl, fun i t' hi => ?_⟩
      match i, hi with
      | 0, hi =>
        simp only [List.getElem?_cons_zero, Option.some.injEq] at hi
        subst hi
        exact hv
    · split at h
      · rename_i fs hs
        obtain ⟨xs, m, -, hxe, hl, hxl, hf⟩ := DataW.trod_struct hs hx
        have := leavesM (cs := cs) (enc := enc) (W := W) (rec := fun t => (leafz P d t).bind fun l => if P.cellsOf t = l.length then some l else none) (fun t l n ds x h1 h2 hw2 => by
          cases hq : leafz P d t with
          | none => rw [hq] at h1; cases h1
          | some l' =>
            rw [hq] at h1
            simp only [Option.bind_some] at h1
            split at h1
            · rename_i hc
              simp only [Option.some.injEq] at h1
              subst h1
              exact leaves_of_trodz d t _ n ds x hq h2 hc hw2
            · cases h1) fs.toList 0 ls (by
          have key : ∀ (gs : List Field) (o : Nat) (ms : List TypeId), leafsM P (leafz P d) o gs = some ms → leafsM P (fun t => (leafz P d t).bind fun l => if P.cellsOf t = l.length then some l else none) o gs = some ms := by
            intro gs
            induction gs with
            | nil => intro o ms h; exact h
            | cons g gs ih =>
              intro o ms h
              simp only [leafsM] at h ⊢
              cases hq : leafz P d g.type with
              | none => rw [hq] at h; cases h
              | some l =>
                rw [hq] at h
                simp only at h
                split at h
                · rename_i hc
                  have hc' := hc
                  simp only [Bool.and_eq_true, beq_iff_eq] at hc'
                  simp only [Option.bind_some, hc'.2, if_true]
                  rw [if_pos (by simp [hc'.1])]
                  cases hr : leafsM P (leafz P d) (o + l.length) gs with
                  | none => rw [hr] at h; cases h
                  | some rs =>
                    rw [hr] at h
                    rw [ih _ _ hr]
                    exact h
                · cases h
          exact key _ _ _ h) (fun f hf' => by
          obtain ⟨i, hi, rfl⟩ := List.getElem_of_mem hf'
          have := hf i fs[i] (Array.getElem?_eq_getElem (by simpa using hi))
          have hi' : i < xs.length := by rw [hxl]; simpa using hi
          rw [List.getElem?_eq_getElem hi'] at this
          refine ⟨_, _, by simpa using this, fun k hk => hw k ?_⟩
          rw [hxe]
          have h7 : (fs.toList.map (·.type))[i]? = some fs[i].type := by rw [List.getElem?_map, List.getElem?_eq_getElem (by simpa using hi)]; simp
          have h8 : (xs.map (·.1))[i]? = some xs[i].1 := by rw [List.getElem?_map, List.getElem?_eq_getElem hi']; rfl
          have := DataW.weights_mem_each (P := P) h7 h8 k (by simpa using hk)
          simpa [DataW.weights, hs] using this)
        rw [List.drop_zero, List.take_of_length_le (by rw [hl, hC]; exact Nat.le_refl _)] at this
        exact this
      · cases h
end

theorem small_of {H : Type} {P : Program} {t : TypeId} {d : DataW H} {ts : List TypeId} {ds : List (DataW H)} {j : Nat} (hsz : (DataW.weightsEach P ts ds).all (· ≤ reachBytes) = true) (hj : ts[j]? = some t) (hd : ds[j]? = some d) : Small P t d := fun m hm => by
  have := List.all_eq_true.1 hsz _ (DataW.weights_mem_each hj hd m hm)
  have h4 : reachBytes = 140737488351232 := by decide
  simp at this
  omega
/-- a struct by value -/
theorem open_deepz {H : Type} {enc : TypeId × Value → H} {P : Program} {W : World} {t : TypeId} {fs : Array Field} {v : Value} {d : DataW H} {ps : List MemPlace} {r : Reach} {b0 : Nat} {ls : List TypeId}
    (hs : P.underlying t = some (.struct fs)) (dp : Nat) (hp : leafz P dp t = some ls) (hC : P.cellsOf t = ls.length) (hval : Value.okWide P W r b0 t v) (h : DataW.Trod enc P W 0 (fun _ => true) true t v d ps) (hsm : Small P t d) :
    ∃ cs : List Value, v = .agg cs.toArray ∧ Leavz P W ls cs := by
  obtain ⟨cs, rfl, -⟩ := okWide_struct hs hval
  obtain ⟨fuel, hf⟩ := h
  have := leaves_of_trodz dp t ls _ _ _ hp hf hC hsm
  exact ⟨cs.toList, rfl, by simpa [Value.cells] using this⟩

theorem Leavz.one {P : Program} {W : World} {ls : List TypeId} {cs : List Value} (h : Leavz P W ls cs) : ∀ u ∈ cs, u.oneCell' = true := by
  intro u hu
  obtain ⟨i, hi, rfl⟩ := List.getElem_of_mem hu
  have hi' : i < ls.length := by rw [← h.1]; exact hi
  have := leaf_one (h.2 i ls[i] (List.getElem?_eq_getElem hi'))
  simpa [List.getD, hi] using this

/-- a slice of structs -/
theorem open_deepsz {H : Type} {enc : TypeId × Value → H} {P : Program} {W : World} {t e : TypeId} {v : Value} {d : DataW H} {ps : List MemPlace} {r : Reach} {b0 : Nat} {ls : List TypeId}
    (ht : P.underlying t = some (.slice e)) (dp : Nat) (hp : leafz P dp e = some ls) (hC : P.cellsOf e = ls.length) (hpos : 0 < ls.length) (hval : Value.okWide P W r b0 t v) (h : DataW.Trod enc P W 0 (fun _ => true) true t v d ps) (hsm : Small P t d) :
    ∃ es : List (List Value), Row W v ls.length es.length es.flatten ∧ ∀ x ∈ es, Leavz P W ls x := by
  obtain ⟨a0, len0, cap0, rfl⟩ := okWide_slice ht hval
  obtain ⟨fuel, hf⟩ := h
  rcases Deep.open_slice ht hf with ⟨hcs, -⟩ | ⟨a, len, cap, m, n, D, Pl, hcs, hb, hl, hm, hmm, hx, hr⟩
  · simp [Value.cells] at hcs
    obtain ⟨rfl, rfl, rfl⟩ := hcs
    exact ⟨[], row_nil W _, by simp⟩
  · simp [Value.cells] at hcs
    obtain ⟨rfl, rfl, rfl⟩ := hcs
    simp only [if_true] at hmm
    subst hmm
    rw [hC] at hr
    obtain ⟨C, hCC⟩ := Deep.choose_lt (α := List Value) (p := fun i cs => W.cells? 0 (a.add (i * ls.length)) ls.length = some cs ∧ DataW.trod enc P W 0 (fun _ => true) true n e cs = some (D i, Pl i)) (fun i (hi : i < len0) => by
      obtain ⟨cs, h1, h2⟩ := hr i (by omega)
      exact ⟨cs, h1, h2⟩)
    simp only [Prod.mk.injEq] at hx
    have hd' := hx.1
    have hsi : ∀ i, i < len0 → Small P e (D i) := fun i hi k hk => hsm k (by
      rw [hd']
      simp only [DataW.weights, ht, List.mem_cons, List.mem_append]
      exact Or.inr (Or.inl (weightsAll_mem (List.mem_map.2 ⟨i, List.mem_range.2 hi, rfl⟩) hk)))
    have hok : ∀ i, i < len0 → Leavz P W ls (C i) := fun i hi => leaves_of_trodz dp e ls _ _ _ hp (hCC i hi).2 hC (hsi i hi)
    have hcell : ∀ i, i < len0 → ∀ j, j < ls.length → W.cell? ((a.add (i * ls.length)).add j) = (C i)[j]? := fun i hi => (World.cells?_some (hCC i hi).1).2.2
    have hmem : ∀ x ∈ (List.range len0).map C, Leavz P W ls x := fun x hx => by
      obtain ⟨i, hi, rfl⟩ := List.mem_map.1 hx
      exact hok i (List.mem_range.1 hi)
    have hfl := flatten_len ((List.range len0).map C) (fun x hx => (hmem x hx).1)
    have hln : ((List.range len0).map C).length = len0 := by simp
    refine ⟨(List.range len0).map C, ⟨some a, m, by rw [hln], by rw [hln]; exact hl, hm, by rw [hfl], ?_, by simp, ?_⟩, hmem⟩
    · intro u hu
      obtain ⟨x, hx, hux⟩ := List.mem_flatten.1 hu
      exact (hmem x hx).one u hux
    · by_cases h0 : len0 = 0
      · left; subst h0; simp
      · right
        have hc0 := hcell 0 (by omega) 0 hpos
        rw [List.getElem?_eq_getElem (by rw [(hok 0 (by omega)).1]; exact hpos)] at hc0
        have hsp : a.spot = none := by
          have e0 : (a.add (0 * ls.length)).add 0 = a := by simp [Addr.add]
          rw [e0] at hc0
          exact spot_none hc0
        obtain ⟨b, o, spt⟩ := a
        simp only at hsp
        subst hsp
        refine ⟨b, o, rfl, fun j u hj => ?_⟩
        rw [flatten_get hpos _ (fun x hx => (hmem x hx).1)] at hj
        obtain ⟨x, hx, hjx⟩ := Option.bind_eq_some_iff.1 hj
        have hq : j / ls.length < len0 := by
          have := (List.getElem?_eq_some_iff.1 hx).1
          simpa using this
        have hx' : C (j / ls.length) = x := by simpa [hq] using hx
        have := hcell (j / ls.length) hq (j % ls.length) (Nat.mod_lt _ hpos)
        rw [add_off, add_off, hx', hjx] at this
        have e := Nat.div_add_mod j ls.length
        rw [Nat.mul_comm] at e
        rw [Nat.add_assoc, e] at this
        exact this
end Go.Proofs.YtopkfomlppnpeaaGreatDoor

namespace Go.Proofs.YtopkfomlppnpeaaGreatDoor
open Go.ChangeShapes Go.WideShapes Go.ChangeAt Go.RowKit

/-- a plain value; a text within the form's reach -/
def FieldB (P : Program) (t : TypeId) (v : Value) : Prop := fieldOk P t v ∧ ∀ s, v = .string s → s.size ≤ 140737488351232
def leafG (P : Program) (tst : TypeId → Bool) : Nat → TypeId → Option (List TypeId)
  | 0, _ => none
  | n + 1, t => if tst t then some [t] else match P.underlying t with
    | some (.struct fs) => leafsM P (leafG P tst n) 0 fs.toList
    | _ => none
def LeavG (Ok : TypeId → Value → Prop) (ls : List TypeId) (cs : List Value) : Prop := cs.length = ls.length ∧ ∀ i t, ls[i]? = some t → Ok t (cs.getD i undef)
/-- a slice of structs whose leaves are plain -/
def structsType (P : Program) (t : TypeId) : Bool := match P.underlying t with
  | some (.slice e) => match leafG P (plainType P) 4 e with
    | some ls => P.cellsOf e == ls.length && decide (0 < ls.length)
    | none => false
  | _ => false
def LeafQ (P : Program) (W : World) (t : TypeId) (v : Value) : Prop := FieldB P t v ∨ ∃ (e : TypeId) (ls : List TypeId) (es : List (List Value)), P.underlying t = some (.slice e) ∧ leafG P (plainType P) 4 e = some ls ∧ Row W v ls.length es.length es.flatten ∧ ∀ x ∈ es, LeavG (FieldB P) ls x

theorem LeavG.append {Ok : TypeId → Value → Prop} {ls ms : List TypeId} {cs ds : List Value} (h : LeavG Ok ls cs) (k : LeavG Ok ms ds) : LeavG Ok (ls ++ ms) (cs ++ ds) := by
  refine ⟨by simp [h.1, k.1], fun i t hi => ?_⟩
  by_cases hlt : i < ls.length
  · rw [List.getElem?_append_left hlt] at hi
    have := h.2 i t hi
    rwa [List.getD_eq_getElem?_getD, List.getElem?_append_left (by rw [h.1]; exact hlt), ← List.getD_eq_getElem?_getD]
  · rw [List.getElem?_append_right (by omega)] at hi
    have := k.2 _ t hi
    rwa [List.getD_eq_getElem?_getD, List.getElem?_append_right (by rw [h.1]; omega), ← List.getD_eq_getElem?_getD, h.1]

section
variable {H : Type} {enc : TypeId × Value → H} {P : Program} {W : World}
theorem leavesMG {Ok : TypeId → Value → Prop} {rec : TypeId → Option (List TypeId)} {cs : List Value} (hrec : ∀ t l n ds x, rec t = some l → DataW.trod enc P W 0 (fun _ => true) true n t ds = some x → Small P t x.1 → LeavG Ok l ds) :
    ∀ (fs : List Field) (o : Nat) (ls : List TypeId), leafsM P rec o fs = some ls → (∀ f ∈ fs, ∃ n x, DataW.trod enc P W 0 (fun _ => true) true n f.type ((cs.drop f.offset).take (P.cellsOf f.type)) = some x ∧ Small P f.type x.1) → LeavG Ok ls ((cs.drop o).take ls.length)
  | [], o, ls, h, _ => by
    simp only [leafsM, Option.some.injEq] at h
    subst h
    exact ⟨by simp, fun i t hi => by simp at hi⟩
  | f :: fs, o, ls, h, hf => by
    simp only [leafsM] at h
    cases hr : rec f.type with
    | none => rw [hr] at h; cases h
    | some l =>
      rw [hr] at h
      simp only at h
      split at h
      · rename_i hc
        simp only [Bool.and_eq_true, beq_iff_eq] at hc
        cases hq : leafsM P rec (o + l.length) fs with
        | none => rw [hq] at h; cases h
        | some ms =>
          rw [hq] at h
          simp only [Option.map_some, Option.some.injEq] at h
          subst h
          obtain ⟨n, x, hx, hw⟩ := hf f (by simp)
          have h1 := hrec f.type l n _ x hr hx hw
          rw [hc.1, hc.2] at h1
          have h2 := leavesMG hrec fs (o + l.length) ms hq (fun g hg => hf g (by simp [hg]))
          have := h1.append h2
          have e : (cs.drop o).take l.length ++ (cs.drop (o + l.length)).take ms.length = (cs.drop o).take (l ++ ms).length := by
            rw [List.length_append, ← List.drop_drop, List.take_add]
          rwa [e] at this
      · cases h
theorem leaves_of_trodG {tst : TypeId → Bool} {Ok : TypeId → Value → Prop} (hok : ∀ t n cs x, tst t = true → DataW.trod enc P W 0 (fun _ => true) true n t cs = some x → Small P t x.1 → ∃ v, cs = [v] ∧ Ok t v) : ∀ (d : Nat) (t : TypeId) (ls : List TypeId) (n : Nat) (cs : List Value) (x : DataW H × List MemPlace), leafG P tst d t = some ls → DataW.trod enc P W 0 (fun _ => true) true n t cs = some x → P.cellsOf t = ls.length → Small P t x.1 → LeavG Ok ls cs
  | 0, _, _, _, _, _, h, _, _, _ => by cases h
  | d + 1, t, ls, n, cs, x, h, hx, hC, hw => by
    simp only [leafG] at h
    split at h
    · rename_i hp
      simp only [Option.some.injEq] at h
      subst h
      obtain ⟨v, rfl, hv⟩ := hok t n cs x hp hx hw
      refine ⟨rfl, fun i t' hi => ?_⟩
      match i, hi with
      | 0, hi =>
        simp only [List.getElem?_cons_zero, Option.some.injEq] at hi
        subst hi
        exact hv
    · split at h
      · rename_i fs hs
        obtain ⟨xs, m, -, hxe, hl, hxl, hf⟩ := DataW.trod_struct hs hx
        have := leavesMG (Ok := Ok) (cs := cs) (enc := enc) (W := W) (rec := fun t => (leafG P tst d t).bind fun l => if P.cellsOf t = l.length then some l else none) (fun t l n ds x h1 h2 hw2 => by
          cases hq : leafG P tst d t with
          | none => rw [hq] at h1; cases h1
          | some l' =>
            rw [hq] at h1
            simp only [Option.bind_some] at h1
            split at h1
            · rename_i hc
              simp only [Option.some.injEq] at h1
              subst h1
              exact leaves_of_trodG hok d t _ n ds x hq h2 hc hw2
            · cases h1) fs.toList 0 ls (by
          have key : ∀ (gs : List Field) (o : Nat) (ms : List TypeId), leafsM P (leafG P tst d) o gs = some ms → leafsM P (fun t => (leafG P tst d t).bind fun l => if P.cellsOf t = l.length then some l else none) o gs = some ms := by
            intro gs
            induction gs with
            | nil => intro o ms h; exact h
            | cons g gs ih =>
              intro o ms h
              simp only [leafsM] at h ⊢
              cases hq : leafG P tst d g.type with
              | none => rw [hq] at h; cases h
              | some l =>
                rw [hq] at h
                simp only at h
                split at h
                · rename_i hc
                  have hc' := hc
                  simp only [Bool.and_eq_true, beq_iff_eq] at hc'
                  simp only [Option.bind_some, hc'.2, if_true]
                  rw [if_pos (by simp [hc'.1])]
                  cases hr : leafsM P (leafG P tst d) (o + l.length) gs with
                  | none => rw [hr] at h; cases h
                  | some rs =>
                    rw [hr] at h
                    rw [ih _ _ hr]
                    exact h
                · cases h
          exact key _ _ _ h) (fun f hf' => by
          obtain ⟨i, hi, rfl⟩ := List.getElem_of_mem hf'
          have := hf i fs[i] (Array.getElem?_eq_getElem (by simpa using hi))
          have hi' : i < xs.length := by rw [hxl]; simpa using hi
          rw [List.getElem?_eq_getElem hi'] at this
          refine ⟨_, _, by simpa using this, fun k hk => hw k ?_⟩
          rw [hxe]
          have h7 : (fs.toList.map (·.type))[i]? = some fs[i].type := by rw [List.getElem?_map, List.getElem?_eq_getElem (by simpa using hi)]; simp
          have h8 : (xs.map (·.1))[i]? = some xs[i].1 := by rw [List.getElem?_map, List.getElem?_eq_getElem hi']; rfl
          have := DataW.weights_mem_each (P := P) h7 h8 k (by simpa using hk)
          simpa [DataW.weights, hs] using this)
        rw [List.drop_zero, List.take_of_length_le (by rw [hl, hC]; exact Nat.le_refl _)] at this
        exact this
      · cases h
theorem field_hok (t : TypeId) (n : Nat) (cs : List Value) (x : DataW H × List MemPlace) (hp : plainType P t = true) (hx : DataW.trod enc P W 0 (fun _ => true) true n t cs = some x) (hw : Small P t x.1) : ∃ v, cs = [v] ∧ FieldB P t v := by
  have hp' := hp
  unfold plainType at hp
  split at hp
  · rename_i k hk
    obtain ⟨m, h1, -⟩ := DataW.trod_int hk hx
    subst h1
    exact ⟨_, rfl, field_of_trod hp' hx, fun s h => by cases h⟩
  · rename_i hk
    obtain ⟨s, h1, h2, -⟩ := DataW.trod_string hk hx
    subst h1 h2
    refine ⟨_, rfl, field_of_trod hp' hx, fun s' h => ?_⟩
    cases h
    have := hw s.data.toList.length (by simp [DataW.weights])
    have h5 : s.data.toList.length = s.size := by simp
    omega
  · rename_i hk
    obtain ⟨m, h1, -⟩ := DataW.trod_bool hk hx
    subst h1
    exact ⟨_, rfl, field_of_trod hp' hx, fun s h => by cases h⟩
  · cases hp
theorem LeavG.one {ls : List TypeId} {cs : List Value} (h : LeavG (FieldB P) ls cs) : ∀ u ∈ cs, u.oneCell' = true := by
  intro u hu
  obtain ⟨i, hi, rfl⟩ := List.getElem_of_mem hu
  have hi' : i < ls.length := by rw [← h.1]; exact hi
  have := (h.2 i ls[i] (List.getElem?_eq_getElem hi')).1.one
  simpa [List.getD, hi] using this
theorem structs_of_trod {t : TypeId} {n0 : Nat} {cs : List Value} {x : DataW H × List MemPlace} (hp : structsType P t = true) (h : DataW.trod enc P W 0 (fun _ => true) true n0 t cs = some x) (hsm : Small P t x.1) : ∃ v, cs = [v] ∧ LeafQ P W t v := by
  unfold structsType at hp
  split at hp
  · rename_i e ht
    split at hp
    · rename_i ls hls
      simp only [Bool.and_eq_true, beq_iff_eq, decide_eq_true_eq] at hp
      obtain ⟨hC, hpos⟩ := hp
      rcases Deep.open_slice ht h with ⟨hcs, -⟩ | ⟨a, len0, cap, m, n, D, Pl, hcs, hb, hl, hm, hmm, hx, hr⟩
      · exact ⟨_, hcs, Or.inr ⟨e, ls, [], ht, hls, row_nil W _, by simp⟩⟩
      refine ⟨_, hcs, Or.inr ⟨e, ls, ?_⟩⟩
      simp only [if_true] at hmm
      subst hmm
      rw [hC] at hr
      obtain ⟨C, hCC⟩ := Deep.choose_lt (α := List Value) (p := fun i cs => W.cells? 0 (a.add (i * ls.length)) ls.length = some cs ∧ DataW.trod enc P W 0 (fun _ => true) true n e cs = some (D i, Pl i)) (fun i (hi : i < len0) => by
        obtain ⟨cs, h1, h2⟩ := hr i (by omega)
        exact ⟨cs, h1, h2⟩)
      have hd' := congrArg Prod.fst hx
      have hsi : ∀ i, i < len0 → Small P e (D i) := fun i hi k hk => hsm k (by
        rw [hd']
        simp only [DataW.weights, ht, List.mem_cons, List.mem_append]
        exact Or.inr (Or.inl (weightsAll_mem (List.mem_map.2 ⟨i, List.mem_range.2 hi, rfl⟩) hk)))
      have hok : ∀ i, i < len0 → LeavG (FieldB P) ls (C i) := fun i hi => leaves_of_trodG field_hok 4 e ls _ _ _ hls (hCC i hi).2 hC (hsi i hi)
      have hcell : ∀ i, i < len0 → ∀ j, j < ls.length → W.cell? ((a.add (i * ls.length)).add j) = (C i)[j]? := fun i hi => (World.cells?_some (hCC i hi).1).2.2
      have hmem : ∀ x ∈ (List.range len0).map C, LeavG (FieldB P) ls x := fun x hx => by
        obtain ⟨i, hi, rfl⟩ := List.mem_map.1 hx
        exact hok i (List.mem_range.1 hi)
      have hfl := flatten_len ((List.range len0).map C) (fun x hx => (hmem x hx).1)
      have hln : ((List.range len0).map C).length = len0 := by simp
      refine ⟨(List.range len0).map C, ht, hls, ⟨some a, _, by rw [hln], by rw [hln]; exact hl, hm, by rw [hfl], ?_, by simp, ?_⟩, hmem⟩
      · intro u hu
        obtain ⟨x, hx, hux⟩ := List.mem_flatten.1 hu
        exact (hmem x hx).one u hux
      · by_cases h0 : len0 = 0
        · left; subst h0; simp
        · right
          have hc0 := hcell 0 (by omega) 0 hpos
          rw [List.getElem?_eq_getElem (by rw [(hok 0 (by omega)).1]; exact hpos)] at hc0
          have hsp : a.spot = none := by
            have e0 : (a.add (0 * ls.length)).add 0 = a := by simp [Addr.add]
            rw [e0] at hc0
            exact spot_none hc0
          obtain ⟨b, o, spt⟩ := a
          simp only at hsp
          subst hsp
          refine ⟨b, o, rfl, fun j u hj => ?_⟩
          rw [flatten_get hpos _ (fun x hx => (hmem x hx).1)] at hj
          obtain ⟨x, hx, hjx⟩ := Option.bind_eq_some_iff.1 hj
          have hq : j / ls.length < len0 := by
            have := (List.getElem?_eq_some_iff.1 hx).1
            simpa using this
          have hx' : C (j / ls.length) = x := by simpa [hq] using hx
          have := hcell (j / ls.length) hq (j % ls.length) (Nat.mod_lt _ hpos)
          rw [add_off, add_off, hx', hjx] at this
          have e := Nat.div_add_mod j ls.length
          rw [Nat.mul_comm] at e
          rw [Nat.add_assoc, e] at this
          exact this
    · cases hp
  · cases hp
theorem leafq_hok (t : TypeId) (n : Nat) (cs : List Value) (x : DataW H × List MemPlace) (hp : (plainType P t || structsType P t) = true) (hx : DataW.trod enc P W 0 (fun _ => true) true n t cs = some x) (hw : Small P t x.1) : ∃ v, cs = [v] ∧ LeafQ P W t v := by
  rw [Bool.or_eq_true] at hp
  rcases hp with hp | hp
  · obtain ⟨v, rfl, h⟩ := field_hok t n cs x hp hx hw
    exact ⟨v, rfl, Or.inl h⟩
  · exact structs_of_trod hp hx hw
end
/-- a struct by value -/
theorem open_deepG {H : Type} {enc : TypeId × Value → H} {P : Program} {W : World} {t : TypeId} {fs : Array Field} {v : Value} {d : DataW H} {ps : List MemPlace} {r : Reach} {b0 : Nat} {ls : List TypeId} {tst : TypeId → Bool} {Ok : TypeId → Value → Prop} (hok : ∀ t n cs x, tst t = true → DataW.trod enc P W 0 (fun _ => true) true n t cs = some x → Small P t x.1 → ∃ v, cs = [v] ∧ Ok t v)
    (hs : P.underlying t = some (.struct fs)) (dp : Nat) (hp : leafG P tst dp t = some ls) (hC : P.cellsOf t = ls.length) (hval : Value.okWide P W r b0 t v) (h : DataW.Trod enc P W 0 (fun _ => true) true t v d ps) (hsm : Small P t d) :
    ∃ cs : List Value, v = .agg cs.toArray ∧ LeavG Ok ls cs := by
  obtain ⟨cs, rfl, -⟩ := okWide_struct hs hval
  obtain ⟨fuel, hf⟩ := h
  have := leaves_of_trodG hok dp t ls _ _ _ hp hf hC hsm
  exact ⟨cs.toList, rfl, by simpa [Value.cells] using this⟩


theorem open_deepq {H : Type} {enc : TypeId × Value → H} {P : Program} {W : World} {t : TypeId} {fs : Array Field} {v : Value} {d : DataW H} {ps : List MemPlace} {r : Reach} {b0 : Nat} {ls : List TypeId}
    (hs : P.underlying t = some (.struct fs)) (dp : Nat) (hp : leafG P (fun t => plainType P t || structsType P t) dp t = some ls) (hC : P.cellsOf t = ls.length) (hval : Value.okWide P W r b0 t v) (h : DataW.Trod enc P W 0 (fun _ => true) true t v d ps) (hsm : Small P t d) :
    ∃ cs : List Value, v = .agg cs.toArray ∧ LeavG (LeafQ P W) ls cs := open_deepG (leafq_hok (enc := enc) (P := P) (W := W)) hs dp hp hC hval h hsm
end Go.Proofs.YtopkfomlppnpeaaGreatDoor
