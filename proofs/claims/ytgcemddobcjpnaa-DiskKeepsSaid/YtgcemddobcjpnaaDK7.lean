/- Texts of one proof, laid together: Open2, Open3, Texts, Same, Dsm, Pick, Dsp. No condition of ours. -/
import Derived.Test.YtgcemddobcjpnaaDK6
import Derived.Deep.Matrix
import Derived.Deep.Fields
import Derived.Sort.Walk0
import Derived.Deep.QuietTactic
import Derived.BigQuiet
import Derived.BigRegion
import Derived.Deep.DeepCutAuto
namespace Go.Proofs.Ytgcemddobcjpnaa
open Go.ChangeShapes Go.WideShapes Go.ChangeAt Go.RowKit

theorem spot_none {W : World} {x : Addr} {u : Value} (h : W.cell? x = some u) : x.spot = none := by
  unfold World.cell? at h
  split at h
  · split at h
    · simp at h
    · rename_i hh; simpa using hh
  · simp at h

theorem row_of_cells {W : World} {k : IntKind} {a : Option Addr} {l c : Nat} {zs : List Int} (hl : l ≤ c) (hm : c ≤ maxLen) (hz : zs.length = c) (hn : a = none → c = 0)
    (hc : ∀ x, a = some x → ∀ i, i < c → W.cell? (x.add i) = some (.int k (zs.getD i 0))) : Row W (.slice a l c) 1 (zs.take l).length ((zs.take l).map (Value.int k)) := by
  have htl : (zs.take l).length = l := by simp; omega
  refine ⟨a, c, by rw [htl], by rw [htl]; exact hl, hm, by simp, ?_, fun h0 => ?_, ?_⟩
  · intro u hu
    obtain ⟨n, _, rfl⟩ := List.mem_map.1 hu
    rfl
  · have := hn h0
    obtain rfl : l = 0 := by omega
    exact ⟨by simp, this⟩
  · by_cases h0 : l = 0
    · left; subst h0; simp
    · right
      cases a with
      | none => have := hn rfl; omega
      | some x =>
        have hc0 := hc x rfl 0 (by omega)
        have hsp : x.spot = none := by
          have e0 : x.add 0 = x := by simp [Addr.add]
          rw [e0] at hc0
          exact spot_none hc0
        obtain ⟨b, o, sp⟩ := x
        simp only at hsp
        subst hsp
        refine ⟨b, o, rfl, fun i u hi => ?_⟩
        have hi1 : i < l := by
          have := (List.getElem?_eq_some_iff.1 hi).1
          simp at this; omega
        have hi2 : i < zs.length := by omega
        rw [← add_off, hc _ rfl i (by omega)]
        rw [List.getElem?_map, List.getElem?_take, if_pos hi1, List.getElem?_eq_getElem hi2] at hi
        simp at hi
        rw [← hi]
        simp [List.getD, hi2]

theorem open_rows2 {H : Type} {enc : TypeId × Value → H} {P : Program} {W : World} {t e q : TypeId} {v : Value} {d : DataW H} {ps : List MemPlace} {r : Reach} {b0 : Nat}
    (ht : P.underlying t = some (.slice e)) (he : P.underlying e = some (.slice q)) (hq : P.underlying q = some (.int .i64)) (ce : P.cellsOf e = 1) (cq : P.cellsOf q = 1) (hval : Value.okWide P W r b0 t v) (h : DataW.Trod enc P W 0 (fun _ => true) true t v d ps) :
    ∃ zss : List (List Int), Rows2 W v zss ∧ ∀ l ∈ zss, ∀ n ∈ l, (Lit.int .i64 n).wf = true := by
  obtain ⟨a0, len0, cap0, rfl⟩ := okWide_slice ht hval
  obtain ⟨fuel, hf⟩ := h
  rcases Deep.open_int_rows ht he hq ce cq hf with ⟨hcs, hx⟩ | ⟨x, l, c, A, L, C, Z, hcs, _, hl, hm, hx, hr⟩
  · simp [Value.cells] at hcs
    obtain ⟨rfl, rfl, rfl⟩ := hcs
    exact ⟨[], ⟨[], rfl, row_nil W 1, by simp⟩, by simp⟩
  · simp [Value.cells] at hcs
    obtain ⟨rfl, rfl, rfl⟩ := hcs
    have htl : ((List.range len0).map fun i => (Z i).take (L i)).length = len0 := by simp
    refine ⟨(List.range len0).map fun i => (Z i).take (L i), ⟨(List.range len0).map fun i => .slice (A i) (L i) (C i), by simp, ⟨some x, cap0, by rw [htl], by rw [htl]; exact hl, hm, by simp, ?_, by simp, ?_⟩, ?_⟩, ?_⟩
    · intro u hu
      obtain ⟨n, _, rfl⟩ := List.mem_map.1 hu
      rfl
    · by_cases h0 : len0 = 0
      · left; subst h0; simp
      · right
        have hc0 := (hr 0 (by omega)).1
        have hsp : x.spot = none := by
          have e0 : x.add 0 = x := by simp [Addr.add]
          rw [e0] at hc0
          exact spot_none hc0
        obtain ⟨b, o, sp⟩ := x
        simp only at hsp
        subst hsp
        refine ⟨b, o, rfl, fun i u hi => ?_⟩
        have hi1 : i < len0 := by
          have := (List.getElem?_eq_some_iff.1 hi).1
          simpa using this
        rw [← add_off, (hr i (by omega)).1]
        simpa [hi1] using hi
    · intro i hi u hu
      simp at hi
      obtain rfl : Value.slice (A i) (L i) (C i) = u := by simpa [hi] using hu
      obtain ⟨-, r1, r2, r3, -, r5, r6⟩ := hr i (by omega)
      have := row_of_cells (k := .i64) r1 r2 r3 r5 (fun x hx => (r6 x hx).2)
      have e : (L i) = ((Z i).take (L i)).length := by simp; omega
      simpa using this
    · intro z hz n hn
      obtain ⟨i, hi, rfl⟩ := List.mem_map.1 hz
      exact (hr i (by have := List.mem_range.1 hi; omega)).2.2.2.2.1 n (List.mem_of_mem_take hn)
end Go.Proofs.Ytgcemddobcjpnaa
namespace Go.Proofs.Ytgcemddobcjpnaa
open Go.ChangeShapes Go.WideShapes Go.ChangeAt Go.RowKit

/-- what a field of a plain type holds: a number, a text, a truth -/
def fieldOk (P : Program) (t : TypeId) (v : Value) : Prop :=
  (∃ k, P.underlying t = some (.int k) ∧ ∃ n, v = .int k n ∧ (Lit.int k n).wf = true) ∨ (P.underlying t = some .string ∧ ∃ s, v = .string s ∧ s.size ≤ maxLen) ∨ (P.underlying t = some .bool ∧ ∃ b, v = .bool b)

theorem fieldOk.int {P : Program} {t : TypeId} {v : Value} {k : IntKind} (h : fieldOk P t v) (ht : P.underlying t = some (.int k)) : ∃ n, v = .int k n ∧ (Lit.int k n).wf = true := by
  rcases h with ⟨k', h1, h2⟩ | ⟨h1, -⟩ | ⟨h1, -⟩
  · rw [ht] at h1; cases h1; exact h2
  · rw [ht] at h1; cases h1
  · rw [ht] at h1; cases h1
theorem fieldOk.str {P : Program} {t : TypeId} {v : Value} (h : fieldOk P t v) (ht : P.underlying t = some .string) : ∃ s, v = .string s ∧ s.size ≤ maxLen := by
  rcases h with ⟨k', h1, h2⟩ | ⟨h1, h2⟩ | ⟨h1, -⟩
  · rw [ht] at h1; cases h1
  · exact h2
  · rw [ht] at h1; cases h1
theorem fieldOk.bool {P : Program} {t : TypeId} {v : Value} (h : fieldOk P t v) (ht : P.underlying t = some .bool) : ∃ b, v = .bool b := by
  rcases h with ⟨k', h1, h2⟩ | ⟨h1, h2⟩ | ⟨h1, h2⟩
  · rw [ht] at h1; cases h1
  · rw [ht] at h1; cases h1
  · exact h2
theorem fieldOk.one {P : Program} {t : TypeId} {v : Value} (h : fieldOk P t v) : v.oneCell' = true := by
  rcases h with ⟨k', h1, n, rfl, -⟩ | ⟨h1, s, rfl, -⟩ | ⟨h1, b, rfl⟩ <;> rfl

def plainType (P : Program) (t : TypeId) : Bool := match P.underlying t with
  | some (.int _) => true
  | some .string => true
  | some .bool => true
  | _ => false
/-- each field lies at its index, is one cell, and plain: for the kernel -/
def plainFields (P : Program) (fs : Array Field) : Bool := (List.range fs.size).all fun i => match fs[i]? with
  | some f => f.offset == i && P.cellsOf f.type == 1 && plainType P f.type
  | none => false

theorem plain_of {P : Program} {fs : Array Field} (h : plainFields P fs = true) {i : Nat} {f : Field} (hi : fs[i]? = some f) : f.offset = i ∧ P.cellsOf f.type = 1 ∧ plainType P f.type = true := by
  have hlt : i < fs.size := (Array.getElem?_eq_some_iff.1 hi).1
  have := List.all_eq_true.1 h i (List.mem_range.2 hlt)
  simp only [hi, Bool.and_eq_true, beq_iff_eq] at this
  exact ⟨this.1.1, this.1.2, this.2⟩

section
variable {H : Type} {enc : TypeId × Value → H} {P : Program} {W : World} {base : Nat} {sp : Nat → Bool} {held : Bool}

theorem field_of_trod {t : TypeId} {n : Nat} {v : Value} {y : DataW H × List MemPlace} (hp : plainType P t = true) (h : DataW.trod enc P W base sp held n t [v] = some y) : fieldOk P t v := by
  unfold plainType at hp
  split at hp
  · rename_i k hk
    obtain ⟨m, h1, -, h2⟩ := DataW.trod_int hk h
    simp only [List.cons.injEq, and_true] at h1
    exact .inl ⟨k, hk, m, h1, h2⟩
  · rename_i hk
    obtain ⟨s, h1, -, h2⟩ := DataW.trod_string hk h
    simp only [List.cons.injEq, and_true] at h1
    exact .inr (.inl ⟨hk, s, h1, h2⟩)
  · rename_i hk
    obtain ⟨b, h1, -⟩ := DataW.trod_bool hk h
    simp only [List.cons.injEq, and_true] at h1
    exact .inr (.inr ⟨hk, b, h1⟩)
  · cases hp

/-- the cells of a struct of plain fields -/
theorem cells_of_struct {ts : TypeId} {fs : Array Field} {n : Nat} {cs : List Value} {x : DataW H × List MemPlace} (hs : P.underlying ts = some (.struct fs)) (hp : plainFields P fs = true) (hC : P.cellsOf ts = fs.size)
    (h : DataW.trod enc P W base sp held n ts cs = some x) : cs.length = fs.size ∧ ∀ i f, fs[i]? = some f → fieldOk P f.type (cs.getD i undef) := by
  obtain ⟨xs, m, -, -, hl, hxl, hf⟩ := DataW.trod_struct hs h
  rw [hC] at hl
  refine ⟨hl, fun i f hi => ?_⟩
  obtain ⟨h1, h2, h3⟩ := plain_of hp hi
  have hlt : i < fs.size := (Array.getElem?_eq_some_iff.1 hi).1
  have := hf i f hi
  rw [h1, h2, Deep.take1_drop cs i undef (by omega), List.getElem?_eq_getElem (by omega)] at this
  exact field_of_trod h3 this
end

/-- a struct by value -/
theorem open_struct {H : Type} {enc : TypeId × Value → H} {P : Program} {W : World} {t : TypeId} {fs : Array Field} {v : Value} {d : DataW H} {ps : List MemPlace} {r : Reach} {b0 : Nat}
    (hs : P.underlying t = some (.struct fs)) (hp : plainFields P fs = true) (hC : P.cellsOf t = fs.size) (hval : Value.okWide P W r b0 t v) (h : DataW.Trod enc P W 0 (fun _ => true) true t v d ps) :
    ∃ cs : List Value, v = .agg cs.toArray ∧ cs.length = fs.size ∧ ∀ i f, fs[i]? = some f → fieldOk P f.type (cs.getD i undef) := by
  obtain ⟨cs, rfl, -⟩ := okWide_struct hs hval
  obtain ⟨fuel, hf⟩ := h
  have := cells_of_struct hs hp hC hf
  exact ⟨cs.toList, rfl, by simpa [Value.cells] using this.1, fun i f hi => by simpa [Value.cells] using this.2 i f hi⟩

theorem flatten_get {α : Type} {s : Nat} (hs : 0 < s) : ∀ (l : List (List α)), (∀ x ∈ l, x.length = s) → ∀ j, l.flatten[j]? = (l[j / s]?).bind fun x => x[j % s]?
  | [], _, j => by simp
  | x :: l, h, j => by
    have hx := h x (by simp)
    rw [List.flatten_cons]
    by_cases hj : j < s
    · rw [List.getElem?_append_left (by omega), Nat.div_eq_of_lt hj, Nat.mod_eq_of_lt hj]
      simp
    · obtain ⟨k, rfl⟩ : ∃ k, j = s + k := ⟨j - s, by omega⟩
      rw [List.getElem?_append_right (by omega), hx, Nat.add_sub_cancel_left, flatten_get hs l (fun y hy => h y (by simp [hy])) k]
      rw [Nat.add_div_left k hs, Nat.add_mod_left]
      simp
theorem flatten_len {α : Type} {s : Nat} : ∀ (l : List (List α)), (∀ x ∈ l, x.length = s) → l.flatten.length = l.length * s
  | [], _ => by simp
  | x :: l, h => by
    rw [List.flatten_cons, List.length_append, h x (by simp), flatten_len l (fun y hy => h y (by simp [hy])), List.length_cons, Nat.add_mul]
    omega

/-- a slice of structs -/
theorem open_structs {H : Type} {enc : TypeId × Value → H} {P : Program} {W : World} {t e : TypeId} {fs : Array Field} {v : Value} {d : DataW H} {ps : List MemPlace} {r : Reach} {b0 : Nat}
    (ht : P.underlying t = some (.slice e)) (he : P.underlying e = some (.struct fs)) (hp : plainFields P fs = true) (hC : P.cellsOf e = fs.size) (hpos : 0 < fs.size) (hval : Value.okWide P W r b0 t v) (h : DataW.Trod enc P W 0 (fun _ => true) true t v d ps) :
    ∃ es : List (List Value), Row W v fs.size es.length es.flatten ∧ ∀ x ∈ es, x.length = fs.size ∧ ∀ i f, fs[i]? = some f → fieldOk P f.type (x.getD i undef) := by
  obtain ⟨a0, len0, cap0, rfl⟩ := okWide_slice ht hval
  obtain ⟨fuel, hf⟩ := h
  rcases Deep.open_slice ht hf with ⟨hcs, -⟩ | ⟨a, len, cap, m, n, D, Pl, hcs, hb, hl, hm, hmm, -, hr⟩
  · simp [Value.cells] at hcs
    obtain ⟨rfl, rfl, rfl⟩ := hcs
    exact ⟨[], row_nil W _, by simp⟩
  · simp [Value.cells] at hcs
    obtain ⟨rfl, rfl, rfl⟩ := hcs
    simp only [if_true] at hmm
    subst hmm
    rw [hC] at hr
    obtain ⟨C, hCC⟩ := Deep.choose_lt (α := List Value) (p := fun i cs => W.cells? 0 (a.add (i * fs.size)) fs.size = some cs ∧ DataW.trod enc P W 0 (fun _ => true) true n e cs = some (D i, Pl i)) (fun i (hi : i < len0) => by
      obtain ⟨cs, h1, h2⟩ := hr i (by omega)
      exact ⟨cs, h1, h2⟩)
    have hok : ∀ i, i < len0 → (C i).length = fs.size ∧ ∀ j f, fs[j]? = some f → fieldOk P f.type ((C i).getD j undef) := fun i hi => cells_of_struct he hp hC (hCC i hi).2
    have hcell : ∀ i, i < len0 → ∀ j, j < fs.size → W.cell? ((a.add (i * fs.size)).add j) = (C i)[j]? := fun i hi => (World.cells?_some (hCC i hi).1).2.2
    have hmem : ∀ x ∈ (List.range len0).map C, x.length = fs.size ∧ ∀ j f, fs[j]? = some f → fieldOk P f.type (x.getD j undef) := fun x hx => by
      obtain ⟨i, hi, rfl⟩ := List.mem_map.1 hx
      exact hok i (List.mem_range.1 hi)
    have hfl := flatten_len ((List.range len0).map C) (fun x hx => (hmem x hx).1)
    have hln : ((List.range len0).map C).length = len0 := by simp
    refine ⟨(List.range len0).map C, ⟨some a, m, by rw [hln], by rw [hln]; exact hl, hm, by rw [hfl], ?_, by simp, ?_⟩, hmem⟩
    · intro u hu
      obtain ⟨x, hx, hux⟩ := List.mem_flatten.1 hu
      obtain ⟨h1, h2⟩ := hmem x hx
      obtain ⟨j, hj, rfl⟩ := List.getElem_of_mem hux
      have := (h2 j fs[j] (Array.getElem?_eq_getElem (by omega))).one
      simpa [List.getD, hj] using this
    · by_cases h0 : len0 = 0
      · left; subst h0; simp
      · right
        have hc0 := hcell 0 (by omega) 0 hpos
        rw [List.getElem?_eq_getElem (by rw [(hok 0 (by omega)).1]; exact hpos)] at hc0
        have hsp : a.spot = none := by
          have e0 : (a.add (0 * fs.size)).add 0 = a := by simp [Addr.add]
          rw [e0] at hc0
          exact spot_none hc0
        obtain ⟨b, o, spt⟩ := a
        simp only at hsp
        subst hsp
        refine ⟨b, o, rfl, fun j u hj => ?_⟩
        rw [flatten_get hpos _ (fun x hx => (hmem x hx).1)] at hj
        obtain ⟨x, hx, hjx⟩ := Option.bind_eq_some_iff.1 hj
        have hq : j / fs.size < len0 := by
          have := (List.getElem?_eq_some_iff.1 hx).1
          simpa using this
        have hx' : C (j / fs.size) = x := by simpa [hq] using hx
        have := hcell (j / fs.size) hq (j % fs.size) (Nat.mod_lt _ hpos)
        rw [add_off, add_off, hx', hjx] at this
        have e := Nat.div_add_mod j fs.size
        rw [Nat.mul_comm] at e
        rw [Nat.add_assoc, e] at this
        exact this

/-- a slice of plain things: numbers, texts, truths -/
theorem open_plains {H : Type} {enc : TypeId × Value → H} {P : Program} {W : World} {t e : TypeId} {v : Value} {d : DataW H} {ps : List MemPlace} {r : Reach} {b0 : Nat}
    (ht : P.underlying t = some (.slice e)) (hp : plainType P e = true) (hC : P.cellsOf e = 1) (hval : Value.okWide P W r b0 t v) (h : DataW.Trod enc P W 0 (fun _ => true) true t v d ps) :
    ∃ cs : List Value, Row W v 1 cs.length cs ∧ ∀ x ∈ cs, fieldOk P e x := by
  obtain ⟨a0, len0, cap0, rfl⟩ := okWide_slice ht hval
  obtain ⟨fuel, hf⟩ := h
  rcases Deep.open_slice1 ht hC hf with ⟨hcs, -⟩ | ⟨a, len, cap, m, n, V, D, Pl, hcs, hb, hl, hm, hmm, -, hr⟩
  · simp [Value.cells] at hcs
    obtain ⟨rfl, rfl, rfl⟩ := hcs
    exact ⟨[], row_nil W _, by simp⟩
  · simp [Value.cells] at hcs
    obtain ⟨rfl, rfl, rfl⟩ := hcs
    simp only [if_true] at hmm
    subst hmm
    have hmem : ∀ x ∈ (List.range len0).map V, fieldOk P e x := fun x hx => by
      obtain ⟨i, hi, rfl⟩ := List.mem_map.1 hx
      exact field_of_trod hp (hr i (by have := List.mem_range.1 hi; omega)).2
    have hln : ((List.range len0).map V).length = len0 := by simp
    refine ⟨(List.range len0).map V, ⟨some a, m, by rw [hln], by rw [hln]; exact hl, hm, by simp, fun u hu => (hmem u hu).one, by simp, ?_⟩, hmem⟩
    by_cases h0 : len0 = 0
    · left; subst h0; simp
    · right
      have hc0 := (hr 0 (by omega)).1
      have hsp : a.spot = none := by
        have e0 : a.add 0 = a := by simp [Addr.add]
        rw [e0] at hc0
        exact spot_none hc0
      obtain ⟨b, o, spt⟩ := a
      simp only at hsp
      subst hsp
      refine ⟨b, o, rfl, fun j u hj => ?_⟩
      have hjl : j < len0 := by
        have := (List.getElem?_eq_some_iff.1 hj).1
        simpa using this
      rw [← add_off, (hr j (by omega)).1]
      simpa [hjl] using hj

/-- texts, as the walks hold them -/
def Texts (w : World) (v : Value) (ss : List ByteArray) : Prop := Row w v 1 ss.length (ss.map Value.string)
theorem Texts.below {w w' : World} {v : Value} {ss : List ByteArray} (h : Texts w v ss) (hb : Below w.heap.size w w') : Texts w' v ss := Row.below h hb
theorem Texts.parts {w : World} {v : Value} {ss : List ByteArray} (h : Texts w v ss) :
    ∃ p c, v = .slice p ss.length c ∧ ss.length ≤ c ∧ c ≤ maxLen ∧ ∀ i (hi : i < ss.length), ∃ b o, p = some ⟨b, o, none⟩ ∧ w.cell? ⟨b, o + i, none⟩ = some (.string ss[i]) := by
  obtain ⟨p, c, hv, h1, h2, h3, h4, h5, h6⟩ := h
  refine ⟨p, c, hv, h1, h2, fun i hi => ?_⟩
  rcases h6 with h6 | ⟨b, o, hp, ha⟩
  · have : ss = [] := by simpa using h6
    subst this; simp at hi
  · exact ⟨b, o, hp, ha i _ (by simp [hi])⟩
theorem Texts.textAt {w : World} {p : Option Addr} {n c : Nat} {ss : List ByteArray} (h : Texts w (.slice p n c) ss) {i : Nat} (hi : i < ss.length) : ∃ b o, p = some ⟨b, o, none⟩ ∧ w.cell? ⟨b, o + i, none⟩ = some (.string ss[i]) := by
  obtain ⟨p2, c2, e, -, -, hat⟩ := h.parts
  simp only [Value.slice.injEq] at e
  obtain ⟨rfl, -, rfl⟩ := e
  exact hat i hi
theorem map_of_all {α β : Type} {f : α → β} {p : α → Prop} : ∀ (l : List β), (∀ x ∈ l, ∃ a, x = f a ∧ p a) → ∃ la : List α, l = la.map f ∧ ∀ a ∈ la, p a
  | [], _ => ⟨[], rfl, by simp⟩
  | x :: l, h => by
    obtain ⟨a, rfl, ha⟩ := h x (by simp)
    obtain ⟨la, rfl, has⟩ := map_of_all l (fun y hy => h y (by simp [hy]))
    exact ⟨a :: la, rfl, by simpa using ⟨ha, has⟩⟩
theorem open_texts {H : Type} {enc : TypeId × Value → H} {P : Program} {W : World} {t e : TypeId} {v : Value} {d : DataW H} {ps : List MemPlace} {r : Reach} {b0 : Nat}
    (ht : P.underlying t = some (.slice e)) (he : P.underlying e = some .string) (hC : P.cellsOf e = 1) (hval : Value.okWide P W r b0 t v) (h : DataW.Trod enc P W 0 (fun _ => true) true t v d ps) :
    ∃ ss : List ByteArray, Texts W v ss ∧ ∀ s ∈ ss, s.size ≤ maxLen := by
  obtain ⟨cs, h1, h2⟩ := open_plains ht (by unfold plainType; rw [he]) hC hval h
  obtain ⟨ss, rfl, h3⟩ := map_of_all (f := Value.string) (p := fun s => s.size ≤ maxLen) cs (fun x hx => (h2 x hx).str he)
  refine ⟨ss, ?_, h3⟩
  unfold Texts
  simpa using h1
end Go.Proofs.Ytgcemddobcjpnaa
namespace Go.Proofs.Ytgcemddobcjpnaa
open Go.RowKit

def sameT (a b : List ByteArray) : Bool := a.map (·.data.toList) == b.map (·.data.toList)

theorem sameT_len {a b : List ByteArray} (h : a.length ≠ b.length) : sameT a b = false := by
  unfold sameT
  rw [beq_eq_false_iff_ne]
  intro e
  have := congrArg List.length e
  simp at this
  exact h this
theorem sameT_ne {a b : List ByteArray} {k : Nat} (h1 : k < a.length) (h2 : k < b.length) (h : (a[k].data.toList == b[k].data.toList) = false) : sameT a b = false := by
  unfold sameT
  rw [beq_eq_false_iff_ne] at *
  intro e
  have := congrArg (fun l : List (List UInt8) => l[k]?) e
  simp [h1, h2] at this
  exact h (by rw [this])
theorem sameT_all {a b : List ByteArray} (hl : a.length = b.length) (h : ∀ k (h1 : k < a.length) (h2 : k < b.length), a[k].data.toList = b[k].data.toList) : sameT a b = true := by
  unfold sameT
  rw [beq_iff_eq]
  apply List.ext_getElem (by simpa using hl)
  intro i h1 h2
  simp at h1 h2
  simp only [List.getElem_map]
  exact h i h1 h2

set_option maxRecDepth 100000 in
set_option maxHeartbeats 600000 in
theorem sametexts_any (v1 v2 : Value) (a b : List ByteArray) (w : World) (h1 : Texts w v1 a) (h2 : Texts w v2 b) :
    Calls Try.prog 20 #[v1, v2] w fun e w' => e = .returned (.bool (sameT a b)) ∧ Below w.heap.size w w' := by
  obtain ⟨p1, c1, rfl, l1, m1, hat1⟩ := h1.parts
  obtain ⟨p2, c2, rfl, l2, m2, hat2⟩ := h2.parts
  have hml : maxLen ≤ 9223372036854775807 := by decide
  have H1 := Lib.hid hat1
  have H2 := Lib.hid hat2
  clear h1 h2 hat1 hat2
  go_enter Try.func20, Try.ntmps20
  by_cases hl : a.length = b.length
  · have q0 : ((a.length : Int) == (b.length : Int)) = true := by simp; omega
    go_wp2
    go_loopw [5] (fun i wc => ∃ k : Nat, k ≤ a.length ∧ i = .int .i64 (k : Int) ∧ Hid (Below w.heap.size w wc) ∧ Hid (∀ j (h1 : j < a.length) (h2 : j < b.length), j < k → a[j].data.toList = b[j].data.toList)) (fun i _ => a.length - (intOf i).toNat)
    case atStart => exact ⟨0, Nat.zero_le _, rfl, Below.refl _ _, fun j _ _ h => by omega⟩
    case round =>
      obtain ⟨k, hk, rfl, HB, hall⟩ := hrel
      by_cases hlt : k < a.length
      · obtain ⟨b1, o1, rfl, e1⟩ := H1.out k hlt
        obtain ⟨b2, o2, rfl, e2⟩ := H2.out k (by omega)
        have e1 := cell_kept e1 HB.out
        have e2 := cell_kept e2 HB.out
        cases hq : (a[k].data.toList == b[k].data.toList)
        · have t1 : (a[k].toList == b[k].toList) = false := by rw [Lib.toList_data, Lib.toList_data]; exact hq
          have HS := Lib.hid (sameT_ne hlt (by omega) hq)
          clear hq
          go_wp2
          go_quiet (fail)
          go_wp2
          go_ret
          exact ⟨ret_bool HS.out.symm, Below.drewN' HB.out nq⟩
        · have t1 : (a[k].toList == b[k].toList) = true := by rw [Lib.toList_data, Lib.toList_data]; exact hq
          have HN : Hid (∀ j (h1 : j < a.length) (h2 : j < b.length), j < k + 1 → a[j].data.toList = b[j].data.toList) := Lib.hid fun j h1 h2 h3 => by
            by_cases h4 : j < k
            · exact hall.out j h1 h2 h4
            · obtain rfl : j = k := by omega
              simpa using hq
          clear hq
          go_wp2
          go_quiet (fail)
          go_wp2
          go_roundw
          case rel => exact ⟨k + 1, hlt, by go_num, Below.drewN' HB.out nq, HN⟩
          case measure => simp [intOf]; omega
      · have HS := Lib.hid (sameT_all hl (fun k h1 h2 => hall.out k h1 h2 (by omega)))
        go_wp2
        go_ret
        exact ⟨ret_bool HS.out.symm, HB.out⟩
  · have q0 : ((a.length : Int) == (b.length : Int)) = false := by simp; omega
    have HS := Lib.hid (sameT_len hl)
    go_wp2
    go_ret
    exact ⟨ret_bool HS.out.symm, Below.refl _ _⟩
end Go.Proofs.Ytgcemddobcjpnaa
namespace Go.Proofs.Ytgcemddobcjpnaa
open Go.RowKit

theorem take_ext {l1 l2 : List UInt8} (h : l1.length = l2.length) (hk : ∀ i (h1 : i < l1.length) (h2 : i < l2.length), l1[i] = l2[i]) : l1 = l2 :=
  List.ext_getElem h hk

set_option maxHeartbeats 400000 in
theorem same_any (v1 v2 : Value) (l1 l2 : List UInt8) (w : World) (h1 : Rd w v1 l1) (h2 : Rd w v2 l2) :
    Calls Try.prog 31 #[v1, v2] w fun e w' => e = .returned (.bool (l1 == l2)) ∧ ∃ n, w' = w.drewN n := by
  obtain ⟨p1, c1, rfl, hc1, hm1, ha1⟩ := h1.parts
  obtain ⟨p2, c2, rfl, hc2, hm2, ha2⟩ := h2.parts
  unfold maxLen at hm1 hm2
  by_cases hl : l1.length = l2.length
  case neg =>
    have hf : (l1 == l2) = false := by
      rw [beq_eq_false_iff_ne]; intro e; exact hl (by rw [e])
    have hl' : ((l1.length : Int) != (l2.length : Int)) = true := by rw [bne_iff_ne]; omega
    go_enter Try.func31, Try.ntmps31
    go_wp2
    go_ret
    exact ⟨ret_bool hf.symm, 0, rfl⟩
  case pos =>
    have hl' : ((l1.length : Int) != (l2.length : Int)) = false := by rw [bne_eq_false_iff_eq]; omega
    have HL := Lib.hid hl
    clear hl
    go_enter Try.func31, Try.ntmps31
    go_wp2
    go_loopw [5] (fun i w' => ∃ k q : Nat, k ≤ l1.length ∧ i = .int .i64 k ∧ w' = w.drewN q ∧ Hid (∀ j (h1 : j < l1.length) (h2 : j < l2.length), j < k → l1[j] = l2[j])) (fun i _ => l1.length - (intOf i).toNat)
    case atStart => exact ⟨0, 0, Nat.zero_le _, rfl, rfl, fun j _ _ h => by omega⟩
    case round =>
      obtain ⟨k, q, hk, rfl, rfl, he⟩ := hrel
      by_cases hlt : k < l1.length
      · have hlt2 : k < l2.length := by have := HL.out; omega
        obtain ⟨b1, o1, rfl, a1⟩ := ha1.resolve_left (by rintro rfl; simp at hlt)
        obtain ⟨b2, o2, rfl, a2⟩ := ha2.resolve_left (by rintro rfl; simp at hlt2)
        have e1 := a1 k hlt
        have e2 := a2 k hlt2
        clear a1 a2 ha1 ha2
        generalize hx : l1[k] = x at e1
        generalize hy : l2[k] = y at e2
        have HX := Lib.hid hx
        have HY := Lib.hid hy
        clear hx hy
        go_wp2
        go_quiet (fail)
        by_cases hxy : x = y
        · have hd : ((x.toNat : Int) != (y.toNat : Int)) = false := by rw [hxy]; simp
          have HE := Lib.hid hxy
          clear hxy
          go_wp2
          go_roundw
          case rel =>
            refine ⟨k + 1, q + nq, by omega, by go_num, rfl, fun j g1 g2 hj => ?_⟩
            by_cases hjk : j < k
            · exact he.out j g1 g2 hjk
            · obtain rfl : j = k := by omega
              rw [HX.out, HY.out, HE.out]
          case measure => simp [intOf]; omega
        · have hd : ((x.toNat : Int) != (y.toNat : Int)) = true := by
            rw [bne_iff_ne]; intro e; exact hxy (UInt8.toNat_inj.1 (by omega))
          have hf : (l1 == l2) = false := by
            rw [beq_eq_false_iff_ne]
            intro e
            apply hxy
            rw [← HX.out, ← HY.out]
            subst e
            rfl
          have HF := Lib.hid hf
          clear hxy hf
          go_wp2
          go_ret
          exact ⟨ret_bool HF.out.symm, q + nq, by rw [World.drewN_drewN]⟩
      · have hf : (l1 == l2) = true := by
          rw [beq_iff_eq]
          exact List.ext_getElem HL.out fun i g1 g2 => he.out i g1 g2 (by omega)
        have HF := Lib.hid hf
        clear hf
        go_wp2
        go_ret
        exact ⟨ret_bool HF.out.symm, q, rfl⟩
end Go.Proofs.Ytgcemddobcjpnaa
namespace Go.Proofs.Ytgcemddobcjpnaa
open Go.RowKit

theorem texts_names2 {w : World} {base : Nat} {v : Value} {ns : List ByteArray} {n : Nat} (h : w.ownsRow base 9 1 v n (ns.map Value.string)) : Texts w v ns := by
  have hl := h.1
  have h1 := row_of_owns h (fun u hu => by obtain ⟨y, -, rfl⟩ := List.mem_map.1 hu; rfl)
  unfold Texts
  rw [show ns.length = n from by simpa using hl]
  exact h1
theorem same_own2 {w : World} {b1 b2 n1 n2 : Nat} {v1 v2 : Value} (ns : List ByteArray) (h1 : w.ownsRow b1 9 1 v1 n1 (ns.map Value.string)) (h2 : w.ownsRow b2 9 1 v2 n2 (ns.map Value.string)) :
    Calls Try.prog 20 #[v1, v2] w fun e w' => e = .returned (.bool true) ∧ Below w.heap.size w w' := by
  have := sametexts_any v1 v2 _ _ w (texts_names2 h1) (texts_names2 h2)
  rw [show ∀ a : List ByteArray, sameT a a = true from fun a => by unfold sameT; simp] at this
  exact this
theorem opq2 {P : Program} {f : FuncId} {args : Array Value} {w : World} {v : Value} (h : Calls P f args w fun e w' => e = .returned v ∧ ∃ n, w' = w.drewN n) : Calls P f args w fun e w' => e = .returned v ∧ Below w.heap.size w w' :=
  h.mono fun _ _ ⟨he, n, hw⟩ => ⟨he, by subst hw; exact below_drewN n⟩
section
variable {X : Nat → Prop} {wx w0 w : World} {b g : Nat} {D E : Dk}
theorem Tw.drew (h : Tw X wx w0 w b g D E) : Tw X wx w0 w.drew b g D E := h.kept (below_drewN 1)
theorem Tw.c45 (h : Tw X wx w0 w b g D E) : w.cell? ⟨g, 4, none⟩ = some (.bool E.off) ∧ w.cell? ⟨g, 5, none⟩ = some (.int .i64 E.steps) := by
  obtain ⟨mb, L, vF, L2, h1, h2, -⟩ := h.d
  exact ⟨h2.blk.cell (j := 4) rfl, h2.blk.cell (j := 5) rfl⟩
end
theorem own_drew {w : World} {base : Nat} {e : TypeId} {size : Nat} {v : Value} {n : Nat} {xs : List Value} (h : w.ownsRow base e size v n xs) : w.drew.ownsRow base e size v n xs := own_keep h (below_drewN 1)
theorem bel_drew {n : Nat} {a w : World} (h : Below n a w) : Below n a w.drew := Below.drewN' h 1
theorem names_small {D : Dk} {M : Nat} {N : Int} (h : DkI D M N) : ∀ s ∈ D.names, s.size ≤ maxLen := by
  intro s hs
  unfold Dk.names at hs
  split at hs
  · cases hs
  · obtain ⟨f, hf, rfl⟩ := List.mem_map.1 hs
    have := h.nam f hf
    unfold maxLen; omega
theorem names_len {D : Dk} {M : Nat} {N : Int} (h : DkI D M N) : D.names.length ≤ M := by
  unfold Dk.names
  split
  · simp
  · rw [List.length_map]; exact h.len

set_option maxRecDepth 100000 in
set_option maxHeartbeats 4000000 in
theorem dsame_any {X : Nat → Prop} {wx w0 : World} {b g : Nat} {D : Dk} {M : Nat} {N : Int} (w : World) (h : Tw X wx w0 w b g D D) (gd : Good D M N) :
    Calls Try.prog 25 #[ptr b, ptr g] w fun e w' => e = .returned (.bool true) ∧ Below w.heap.size w w' := by
  have H := Lib.hid h
  have G := Lib.hid gd
  have HSM := Lib.hid (names_small gd.i)
  have hll : D.names.length ≤ 100000 := Nat.le_trans (names_len gd.i) gd.m
  have q0 : ((!D.off) == D.off) = false := by cases D.off <;> rfl
  have q1 : (D.leftP != D.leftP) = false := by simp
  have q2 : (D.steps != D.steps) = false := by simp
  clear h gd
  go_enter Try.func25, Try.ntmps25
  go_upto_region 2 with (go_at_call 57; refine (tr_names H.out G.out).mono ?_; rintro e w1 ⟨v1, rfl, ho, hb⟩; obtain ⟨p1, c1, rfl, -, -⟩ := own_slice ho; have HN1 := Lib.hid ho; have HT1 := Lib.hid (H.out.kept hb); have HB1 := Lib.hid hb; clear ho hb)
  go_region_held3 (fun w' => w'.cell? ⟨g, 4, none⟩ = some (.bool D.off) ∧ w'.cell? ⟨g, 5, none⟩ = some (.int .i64 D.steps))
    ((apply Tw.c45; (repeat (first | with_reducible exact HT4.out | with_reducible exact HT3.out | with_reducible exact HT2.out | with_reducible exact HT1.out | apply Tw.drew))))
    (first
      | (go_at_call 21; refine (od_names (X := X) (wx := wx) (w0 := w0) (b := b) (D := D) (Tw.od (g := g) (E := D) (by (repeat (first | with_reducible exact HT1.out | apply Tw.drew)))) G.out).mono ?_; rintro e w2 ⟨v2, rfl, ho, hb⟩; have HT2 : Hid (Tw X wx w0 w2 b g D D) := Lib.hid (Tw.kept (by (repeat (first | with_reducible exact HT1.out | apply Tw.drew))) hb); have HN1 := Lib.hid (own_keep (by (repeat (first | with_reducible exact HN1.out | apply own_drew)) : World.ownsRow _ w.heap.size 9 1 _ D.names.length (D.names.map Value.string)) hb); have HN2 := Lib.hid ho; have HB2 : Hid (Below w.heap.size w w2) := Lib.hid (below_and (by (repeat (first | with_reducible exact HB1.out | apply bel_drew))) hb); clear ho hb)
      | (go_at_call 20; refine (same_own2 D.names (by (repeat (first | with_reducible exact HN2.out | apply own_drew))) (by (repeat (first | with_reducible exact HN1.out | apply own_drew)))).mono ?_; rintro e w3 ⟨rfl, hb⟩; have HT3 : Hid (Tw X wx w0 w3 b g D D) := Lib.hid (Tw.kept (by (repeat (first | with_reducible exact HT2.out | apply Tw.drew))) hb); have HN3 : Hid (w3.ownsRow w.heap.size 9 1 (.slice p1 D.names.length c1) D.names.length (D.names.map Value.string)) := Lib.hid (own_keep (by (repeat (first | with_reducible exact HN1.out | apply own_drew))) hb); have HB3 : Hid (Below w.heap.size w w3) := Lib.hid (below_and (by (repeat (first | with_reducible exact HB2.out | apply bel_drew))) hb); clear hb)
      | (go_at_call 17; refine (od_on (X := X) (wx := wx) (w0 := w0) (b := b) (D := D) (Tw.od (g := g) (E := D) (by (repeat (first | with_reducible exact HT3.out | apply Tw.drew))))).mono ?_; rintro e w9 ⟨rfl, rfl⟩)
      | (go_at_call 18; refine (od_left (X := X) (wx := wx) (w0 := w0) (b := b) (D := D) (Tw.od (g := g) (E := D) (by (repeat (first | with_reducible exact HT3.out | apply Tw.drew)))) G.out).mono ?_; rintro e w4 ⟨rfl, hb⟩; have HT4 : Hid (Tw X wx w0 w4 b g D D) := Lib.hid (Tw.kept (by (repeat (first | with_reducible exact HT3.out | apply Tw.drew))) hb); have HN4 : Hid (w4.ownsRow w.heap.size 9 1 (.slice p1 D.names.length c1) D.names.length (D.names.map Value.string)) := Lib.hid (own_keep (by (repeat (first | with_reducible exact HN3.out | apply own_drew))) hb); have HB4 : Hid (Below w.heap.size w w4) := Lib.hid (below_and (by (repeat (first | with_reducible exact HB3.out | apply bel_drew))) hb); clear hb)
      | (go_at_call 58; refine (tr_left (X := X) (wx := wx) (w0 := w0) (b := b) (g := g) (D := D) (E := D) (by (repeat (first | with_reducible exact HT4.out | apply Tw.drew))) G.out).mono ?_; rintro e w9 ⟨rfl, rfl⟩)
      | (go_at_call 28; refine (od_steps (X := X) (wx := wx) (w0 := w0) (b := b) (D := D) (Tw.od (g := g) (E := D) (by (repeat (first | with_reducible exact HT4.out | apply Tw.drew))))).mono ?_; rintro e w9 ⟨rfl, rfl⟩))
  clear q0 q1 q2
  go_wp2
  go_loopw [6] (fun i wr => ∃ k : Nat, k ≤ D.names.length ∧ i = .int .i64 (k : Int) ∧ Hid (Below w4.heap.size w4 wr)) (fun i _ => D.names.length - (intOf i).toNat)
  case atStart => exact ⟨0, Nat.zero_le _, rfl, Lib.hid (Below.refl _ _)⟩
  case round =>
    obtain ⟨k, hk, rfl, HR⟩ := hrel
    by_cases hlt : k < D.names.length
    · have i1 : (k : Int) < (D.names.length : Int) := by omega
      obtain ⟨s, hs⟩ : ∃ s, s = D.names[k] := ⟨_, rfl⟩
      have HSS : Hid (s.size ≤ maxLen) := Lib.hid (HSM.out s (by rw [hs]; exact List.getElem_mem hlt))
      obtain ⟨q, cq, e, -, -, -⟩ := own_block HN4.out (by omega)
      simp only [Value.slice.injEq] at e
      obtain ⟨rfl, -, rfl⟩ := e
      have HCL : Hid (∀ w6, Below w4.heap.size w4 w6 → w6.cell? ⟨q, k, none⟩ = some (.string s)) := Lib.hid (fun w6 hb => cell_kept (own_cell HN4.out (j := k) (u := .string s) (by rw [hs]; simp [hlt])) hb)
      have c0 := HCL.out wr HR.out
      have q3 : ∀ a : Int, (a != a) = false := fun a => by simp
      have q4 : ∀ a : List UInt8, (a == a) = true := fun a => by simp
      clear hs
      go_wp2_with (first
        | (go_at_call 14; refine (od_read ((HT4.out.kept HR.out).od) G.out s HSS.out).mono ?_; rintro e w5 ⟨v5, rfl, hf, hb⟩; have HF5 := Lib.hid hf.rd; have HR5 := Lib.hid (below_and HR.out hb); have c5 := HCL.out w5 HR5.out; clear hf hb)
        | (go_at_call 56; refine (tr_read (HT4.out.kept HR5.out) G.out s HSS.out).mono ?_; rintro e w6 ⟨v6, rfl, hf, hb⟩; have HF6 := Lib.hid hf.rd; have HF5b := Lib.hid (HF5.out.below hb); have HR6 := Lib.hid (below_and HR5.out hb); have c6 := HCL.out w6 HR6.out; clear hf hb)
        | (go_at_call 15; refine (od_synced ((HT4.out.kept HR6.out).od) s HSS.out).mono ?_; rintro e w7 ⟨rfl, hb⟩; have HR7 := Lib.hid (below_and HR6.out hb); have c7 := HCL.out w7 HR7.out; have HF6b := Lib.hid (HF6.out.below hb); have HF5c := Lib.hid (HF5b.out.below hb); clear hb)
        | (go_at_call 55; refine (tr_synced (HT4.out.kept HR7.out) G.out s HSS.out).mono ?_; rintro e w8 ⟨rfl, hb⟩; have HR8 := Lib.hid (below_and HR7.out hb); have HF6c := Lib.hid (HF6b.out.below hb); have HF5d := Lib.hid (HF5c.out.below hb); clear hb)
        | (go_at_call 31; refine (opq2 (same_any _ _ _ _ _ HF5d.out HF6c.out)).mono ?_; rw [q4]; rintro e w9 ⟨rfl, hb⟩; have HR9 := Lib.hid (below_and HR8.out hb); clear hb))
      go_roundw
      case rel => exact ⟨k + 1, hlt, by go_num, HR9⟩
      case measure => simp [intOf]; omega
    · obtain rfl : k = D.names.length := by omega
      go_wp2
      go_ret
      exact ⟨rfl, below_and HB4.out HR.out⟩
end Go.Proofs.Ytgcemddobcjpnaa
namespace Go.Proofs.Ytgcemddobcjpnaa
open Go.RowKit

theorem tmod_band (x n : Int) (hn : 0 < n) : -n < x.tmod n ∧ x.tmod n < n := by
  have h1 := Int.tmod_lt_of_pos x hn
  refine ⟨?_, h1⟩
  rcases Int.le_total 0 x with h | h
  · have := Int.tmod_nonneg n h; omega
  · have h3 := Int.tmod_nonneg n (show 0 ≤ -x by omega)
    have h4 := Int.tmod_lt_of_pos (-x) hn
    rw [Int.neg_tmod] at h3 h4; omega

theorem pick_fix (x n : Int) (hn : 0 < n) : (x.tmod n + n).tmod n = x % n := by
  obtain ⟨h1, h2⟩ := tmod_band x n hn
  rw [Int.tmod_eq_emod_of_nonneg (by omega), Int.add_emod_right]
  rw [Int.tmod_def, Int.sub_mul_emod_self_left]

set_option maxHeartbeats 1000000 in
theorem pickn_any (x n : Int) (w : World) (hn : 0 < n) (hm : n ≤ 4611686018427387904) :
    Calls Try.prog 32 #[.int .i64 x, .int .i64 n] w fun e w' => e = .returned (.int .i64 (x % n)) ∧ w = w' := by
  obtain ⟨h1, h2⟩ := tmod_band x n hn
  have h3 := Int.emod_nonneg x (show n ≠ 0 by omega)
  have h4 := Int.emod_lt_of_pos x hn
  have s1 : wrap64 (x.tmod n) = x.tmod n := by unfold wrap64; omega
  have s2 : wrap64 (x.tmod n + n) = x.tmod n + n := by unfold wrap64; omega
  have s3 : wrap64 ((x.tmod n + n).tmod n) = x % n := by rw [pick_fix x n hn]; unfold wrap64; omega
  have s4 := pick_fix x n hn
  have s5 : wrap64 (x % n) = x % n := by unfold wrap64; omega
  have n0 : (n == 0) = false := by simp; omega
  go_enter Try.func32, Try.ntmps32
  go_wp2
  go_ret
  exact ⟨rfl, rfl⟩
end Go.Proofs.Ytgcemddobcjpnaa
namespace Go.Proofs.Ytgcemddobcjpnaa
open Go.RowKit

structure Ac where
  kd : Int
  nm : ByteArray
  nt : ByteArray
  bs : List UInt8
  n : Int
  keep : List Int
def Ac.c (a : Ac) : UInt8 := match a.bs with | [] => 1 | c :: _ => c
abbrev acC (a : Ac) (vb vk : Value) : List Value := [.int .i64 a.kd, .string a.nm, .string a.nt, vb, .int .i64 a.n, vk]
def Dk.act (k : Int) (a : Ac) (D : Dk) : Dk :=
  if k = 0 then (D.make a.nm).2 else if k = 1 then (D.append a.nm a.bs).2 else if k = 2 then (D.sync a.nm).2 else if k = 3 then (D.rename a.nm a.nt).2 else if k = 4 then (D.remove a.nm).2 else
  if k = 5 then (D.setFuse a.n).2 else if k = 6 then D.free else if k = 7 then (D.crash a.keep).2 else if k = 8 then (D.turn a.nm a.n a.c).2 else D
/-- an act as it lies in memory -/
structure AcOk (w0 : World) (a : Ac) (vb vk : Value) : Prop where
  nm : a.nm.size ≤ maxLen
  nt : a.nt.size ≤ maxLen
  rd : Rd w0 vb a.bs
  row : Row w0 vk 1 a.keep.length (a.keep.map (Value.int .i64))
  kw : ∀ x ∈ a.keep, x ≤ 9223372036854775807
  kl : a.keep.length ≤ 17592186044416
theorem row_blk {w : World} {v : Value} {cs : List Value} {n : Nat} (h : Row w v 1 n cs) (hn : 0 < n) {k : Nat} (hk : v.ownBlock = some k) : k < w.heap.size := by
  obtain ⟨p, c, rfl, h1, h2, h3, h4, h5, h6⟩ := h
  have hl : 0 < cs.length := by omega
  rcases h6 with h6 | ⟨b, o, rfl, ha⟩
  · subst h6; simp at hl
  · have := ha 0 cs[0] (by simp [hl])
    have h7 := World.block_lt_of_cell? w _ this
    simp only [Value.ownBlock, Option.some.injEq] at hk
    simp only at h7
    omega

/-- both disks, the act's box, the bytes that are lent -/
structure Sp (X : Nat → Prop) (wx w0 : World) (b g bx : Nat) (a : Ac) (vb vk vl : Value) (D E : Dk) (w : World) : Prop where
  t : ∃ wl, Frp (fun k => ¬ X k) wx wl ∧ Tw (fun k => X k ∨ k = bx ∨ vl.ownBlock = some k) wl w0 w b g D E ∧ Blk wl bx (acC a vb vk) 48 ∧ Fresh 0 wl vl a.bs
section
variable {X : Nat → Prop} {wx w0 w w' : World} {b g bx : Nat} {a : Ac} {vb vk vl : Value} {D E : Dk}
theorem Sp.kept (h : Sp X wx w0 b g bx a vb vk vl D E w) (hb : Below w.heap.size w w') : Sp X wx w0 b g bx a vb vk vl D E w' := by
  obtain ⟨wl, h1, h2, h3, h4⟩ := h.t
  exact ⟨wl, h1, h2.kept hb, h3, h4⟩
theorem Sp.drew (h : Sp X wx w0 b g bx a vb vk vl D E w) : Sp X wx w0 b g bx a vb vk vl D E w.drew := h.kept (below_drewN 1)
theorem Sp.blk (h : Sp X wx w0 b g bx a vb vk vl D E w) : Blk w bx (acC a vb vk) 48 := by
  obtain ⟨wl, h1, h2, h3, h4⟩ := h.t
  exact h3.frp h2.fx (fun hk => hk (.inr (.inl rfl)))
theorem Sp.lent (h : Sp X wx w0 b g bx a vb vk vl D E w) : Fresh 0 w vl a.bs := by
  obtain ⟨wl, h1, h2, h3, h4⟩ := h.t
  exact own_frp h4 h2.fx (fun k hk hn => hn (.inr (.inr hk)))
theorem Sp.bel (h : Sp X wx w0 b g bx a vb vk vl D E w) : Below w0.heap.size w0 w := by
  obtain ⟨wl, h1, h2, h3, h4⟩ := h.t
  exact h2.bel
theorem Sp.back (h : Sp X wx w0 b g bx a vb vk vl D E w) : Tw X wx w0 w b g D E := by
  obtain ⟨wl, h1, h2, h3, h4⟩ := h.t
  exact h2.back (fun k hk => .inl hk) h1
theorem Sp.tw (h : Sp X wx w0 b g bx a vb vk vl D E w) : ∃ Y wl, Tw Y wl w0 w b g D E := by
  obtain ⟨wl, h1, h2, -⟩ := h.t
  exact ⟨_, wl, h2⟩
theorem Sp.run {f : FuncId} {args : Array Value} {r : Value} {D' E' : Dk} (h : Sp X wx w0 b g bx a vb vk vl D E w) (hc : ∀ wl, Tw (fun k => X k ∨ k = bx ∨ vl.ownBlock = some k) wl w0 w b g D E → Calls Try.prog f args w fun e w' => e = .returned r ∧ Tw (fun k => X k ∨ k = bx ∨ vl.ownBlock = some k) wl w0 w' b g D' E') : Calls Try.prog f args w fun e w' => e = .returned r ∧ Sp X wx w0 b g bx a vb vk vl D' E' w' := by
  obtain ⟨wl, h1, h2, h3, h4⟩ := h.t
  exact (hc wl h2).mono fun e w' ⟨he, ht⟩ => ⟨he, ⟨wl, h1, ht, h3, h4⟩⟩
theorem Sp.c1 (h : Sp X wx w0 b g bx a vb vk vl D E w) : w.cell? ⟨bx, 1, none⟩ = some (.string a.nm) := h.blk.cell (j := 1) rfl
theorem Sp.c12 (h : Sp X wx w0 b g bx a vb vk vl D E w) : w.cell? ⟨bx, 1, none⟩ = some (.string a.nm) ∧ w.cell? ⟨bx, 2, none⟩ = some (.string a.nt) := ⟨h.blk.cell (j := 1) rfl, h.blk.cell (j := 2) rfl⟩
theorem Sp.c13 (h : Sp X wx w0 b g bx a vb vk vl D E w) : w.cell? ⟨bx, 1, none⟩ = some (.string a.nm) ∧ w.cell? ⟨bx, 3, none⟩ = some vb := ⟨h.blk.cell (j := 1) rfl, h.blk.cell (j := 3) rfl⟩
theorem Sp.c14 (h : Sp X wx w0 b g bx a vb vk vl D E w) : w.cell? ⟨bx, 1, none⟩ = some (.string a.nm) ∧ w.cell? ⟨bx, 4, none⟩ = some (.int .i64 a.n) := ⟨h.blk.cell (j := 1) rfl, h.blk.cell (j := 4) rfl⟩
theorem Sp.c4 (h : Sp X wx w0 b g bx a vb vk vl D E w) : w.cell? ⟨bx, 4, none⟩ = some (.int .i64 a.n) := h.blk.cell (j := 4) rfl
theorem Sp.c5 (h : Sp X wx w0 b g bx a vb vk vl D E w) : w.cell? ⟨bx, 5, none⟩ = some vk := h.blk.cell (j := 5) rfl
/-- the box and the lent bytes are made -/
theorem Sp.make {wa w6 : World} (h : Tw X wx w0 w b g D E) (hb : Below w.heap.size w w6) (hbx : w.heap.size ≤ bx) (hblk : Blk w6 bx (acC a vb vk) 48) (hl : w6.ownsRow wa.heap.size 5 1 vl a.bs.length (a.bs.map B)) (hwa : w.heap.size ≤ wa.heap.size) : Sp X wx w0 b g bx a vb vk vl D E w6 :=
  ⟨w6, h.fx.next hb, h.watch hb _ (fun k hk => by
    rcases hk with hk | rfl | hk
    · exact Nat.lt_of_lt_of_le (h.xl k hk) hb.size
    · exact hblk.lt
    · exact own_hi hl hk) (fun k hk => by
    rcases hk with hk | rfl | hk
    · exact .inl hk
    · exact .inr hbx
    · exact .inr (Nat.le_trans hwa (own_lo hl hk))), hblk, own_mono hl (Nat.zero_le _)⟩
/-- a crash that is told by a row that was just made -/
theorem Sp.crash1 {M : Nat} {N : Int} {w8 : World} {v : Value} {l : List Int} (h : Sp X wx w0 b g bx a vb vk vl D E w8) (hb : Below w8.heap.size w8 w) (gd : Good D M N) (hr : w.ownsRow w8.heap.size 3 1 v l.length (l.map (Value.int .i64))) (hw : ∀ x ∈ l, x ≤ 9223372036854775807) :
    Calls Try.prog 13 #[ptr b, v] w fun e w' => e = .returned (.int .i64 (D.crash l).1) ∧ Sp X wx w0 b g bx a vb vk vl (D.crash l).2 E w' := by
  obtain ⟨wl, h1, h2, h3, h4⟩ := h.t
  have h5 := h2.watch hb (fun k => (X k ∨ k = bx ∨ vl.ownBlock = some k) ∨ v.ownBlock = some k) (fun k hk => by
    rcases hk with hk | hk
    · exact Nat.lt_of_lt_of_le (h2.xl k hk) hb.size
    · exact own_hi hr hk) (fun k hk => by
    rcases hk with hk | hk
    · exact .inl hk
    · exact .inr (own_lo hr hk))
  have hrow : Row w v 1 l.length (l.map (Value.int .i64)) := row_of_owns hr (fun u hu => by obtain ⟨y, -, rfl⟩ := List.mem_map.1 hu; rfl)
  exact (td_crash h5 gd l v hrow hw (fun _ k hk => .inl (.inr hk))).mono fun e w' ⟨he, ht⟩ => ⟨he, ⟨wl, h1, ht.back (fun k hk => .inl hk) (h2.fx.next hb), h3, h4⟩⟩
end
end Go.Proofs.Ytgcemddobcjpnaa
