/- Structs with slices of numbers among their leaves: an argument, a slice of such. -/
import Derived.Test.YtndjgbknhfficaaOpen3
import Derived.Test.YtndjgbknhfficaaOpen
import Derived.Test.YtndjgbknhfficaaOpen4
namespace Go.Proofs.Ytndjgbknhfficaa
open Go.ChangeShapes Go.WideShapes Go.ChangeAt Go.RowKit

section
variable (P : Program)
/-- a slice of numbers -/
def numsType (t : TypeId) : Bool := match P.underlying t with
  | some (.slice e) => match P.underlying e with
    | some (.int _) => P.cellsOf e == 1
    | _ => false
  | _ => false
/-- a leaf: a plain value, or a slice of numbers -/
def LeafOk (W : World) (t : TypeId) (v : Value) : Prop := fieldOk P t v ∨ ∃ (e : TypeId) (k : IntKind) (zs : List Int), P.underlying t = some (.slice e) ∧ P.underlying e = some (.int k) ∧ Row W v 1 zs.length (zs.map (Value.int k)) ∧ (∀ n ∈ zs, (Lit.int k n).wf = true) ∧ zs.length * P.bytesOf e ≤ 140737488351232
/-- the leaves of fields that lie one behind the other -/
def leafsM (rec : TypeId → Option (List TypeId)) : Nat → List Field → Option (List TypeId)
  | _, [] => some []
  | o, f :: fs => match rec f.type with
    | some l => if f.offset == o && P.cellsOf f.type == l.length then (leafsM rec (o + l.length) fs).map (l ++ ·) else none
    | none => none
def leafz : Nat → TypeId → Option (List TypeId)
  | 0, _ => none
  | n + 1, t => if plainType P t || numsType P t then some [t] else match P.underlying t with
    | some (.struct fs) => leafsM P (leafz n) 0 fs.toList
    | _ => none
end

/-- cells read as leaves -/
def Leavz (P : Program) (W : World) (ls : List TypeId) (cs : List Value) : Prop := cs.length = ls.length ∧ ∀ i t, ls[i]? = some t → LeafOk P W t (cs.getD i undef)

theorem Leavz.append {P : Program} {W : World} {ls ms : List TypeId} {cs ds : List Value} (h : Leavz P W ls cs) (k : Leavz P W ms ds) : Leavz P W (ls ++ ms) (cs ++ ds) := by
  refine ⟨by simp [h.1, k.1], fun i t hi => ?_⟩
  by_cases hlt : i < ls.length
  · rw [List.getElem?_append_left hlt] at hi
    have := h.2 i t hi
    rwa [List.getD_eq_getElem?_getD, List.getElem?_append_left (by rw [h.1]; exact hlt), ← List.getD_eq_getElem?_getD]
  · rw [List.getElem?_append_right (by omega)] at hi
    have := k.2 _ t hi
    rwa [List.getD_eq_getElem?_getD, List.getElem?_append_right (by rw [h.1]; omega), ← List.getD_eq_getElem?_getD, h.1]

section
variable {H : Type} {enc : TypeId × Value → H} {P : Program} {W : World}
/-- no part of it is greater than the form's reach -/
def Small (P : Program) (t : TypeId) (d : DataW H) : Prop := ∀ m ∈ d.weights P t, m ≤ 140737488351232
theorem weightsAll_mem {e : TypeId} : ∀ {l : List (DataW H)} {d : DataW H} {n : Nat}, d ∈ l → n ∈ d.weights P e → n ∈ DataW.weightsAll P e l
  | a :: l, d, n, hd, hn => by
    simp only [DataW.weightsAll, List.mem_append]
    rcases List.mem_cons.1 hd with rfl | hd
    · exact Or.inl hn
    · exact Or.inr (weightsAll_mem hd hn)
theorem nums_of_trod {t : TypeId} {n : Nat} {cs : List Value} {x : DataW H × List MemPlace} (hp : numsType P t = true) (h : DataW.trod enc P W 0 (fun _ => true) true n t cs = some x) (hw : Small P t x.1) : ∃ v, cs = [v] ∧ LeafOk P W t v := by
  unfold numsType at hp
  split at hp
  · rename_i e ht
    split at hp
    · rename_i k he
      have hc : P.cellsOf e = 1 := by simpa using hp
      rcases open_ints ht he hc h with ⟨hcs, -⟩ | ⟨x, l, c, zs, hcs, _, hl, hm, hz, hx, hcell, hwz⟩
      · exact ⟨_, hcs, Or.inr ⟨e, k, [], ht, he, row_nil W 1, by simp, by simp⟩⟩
      · refine ⟨_, hcs, Or.inr ⟨e, k, zs.take l, ht, he, ?_, fun n hn => hwz n (List.mem_of_mem_take hn), ?_⟩⟩
        rotate_left
        · have h1 := hw (((lits (H := H) k (zs.take l)).length + (lits (H := H) k (zs.drop l)).length) * P.bytesOf e) (by rw [hx]; simp [DataW.weights, ht])
          have h2 : (zs.take l).length * P.bytesOf e ≤ ((lits (H := H) k (zs.take l)).length + (lits (H := H) k (zs.drop l)).length) * P.bytesOf e := Nat.mul_le_mul_right _ (by simp [lits])
          exact Nat.le_trans h2 h1
        simp only [if_true] at hz
        have htl : (zs.take l).length = l := by simp; omega
        refine ⟨some x, c, by rw [htl], by rw [htl]; exact hl, hm, by simp, ?_, by simp, ?_⟩
        · intro u hu
          obtain ⟨n, _, rfl⟩ := List.mem_map.1 hu
          rfl
        · by_cases h0 : l = 0
          · left; subst h0; simp
          · right
            have hc0 := hcell 0 (by omega)
            have hsp : x.spot = none := by
              have e0 : x.add 0 = x := by simp [Addr.add]
              rw [e0] at hc0
              unfold World.cell? at hc0
              split at hc0
              · split at hc0
                · simp at hc0
                · rename_i h; simpa using h
              · simp at hc0
            obtain ⟨b, o, sp⟩ := x
            simp only at hsp
            subst hsp
            refine ⟨b, o, rfl, fun i u hi => ?_⟩
            rw [← add_off]
            have hi2 : i < zs.length := by
              have := (List.getElem?_eq_some_iff.1 hi).1
              simp at this; omega
            rw [hcell i hi2]
            have hi1 : i < l := by
              have := (List.getElem?_eq_some_iff.1 hi).1
              simp at this; omega
            rw [List.getElem?_map, List.getElem?_take, if_pos hi1, List.getElem?_eq_getElem hi2] at hi
            simp at hi
            rw [← hi]
            simp [List.getD, hi2]
    · cases hp
  · cases hp
theorem leaf_one {t : TypeId} {v : Value} (h : LeafOk P W t v) : v.oneCell' = true := by
  rcases h with h | ⟨e, k, zs, -, -, h, -, -⟩
  · exact h.one
  · obtain ⟨p, c, rfl, -⟩ := h
    rfl

theorem leavesM {rec : TypeId → Option (List TypeId)} {cs : List Value} (hrec : ∀ t l n ds x, rec t = some l → DataW.trod enc P W 0 (fun _ => true) true n t ds = some x → Small P t x.1 → Leavz P W l ds) :
    ∀ (fs : List Field) (o : Nat) (ls : List TypeId), leafsM P rec o fs = some ls → (∀ f ∈ fs, ∃ n x, DataW.trod enc P W 0 (fun _ => true) true n f.type ((cs.drop f.offset).take (P.cellsOf f.type)) = some x ∧ Small P f.type x.1) → Leavz P W ls ((cs.drop o).take ls.length)
  | [], o, ls, h, _ => by
    simp only [leafsM, Option.some.injEq] at h
    subst h
    exact ⟨by simp, fun i t hi => by simp at hi⟩
  | f :: fs, o, ls, h, hf => by
    simp only [leafsM] at h
    cases hr : rec f.type with
    | none => rw [hr] at h; cases h
    | some l =>
      rw [hr] at h
      simp only at h
      split at h
      · rename_i hc
        simp only [Bool.and_eq_true, beq_iff_eq] at hc
        cases hq : leafsM P rec (o + l.length) fs with
        | none => rw [hq] at h; cases h
        | some ms =>
          rw [hq] at h
          simp only [Option.map_some, Option.some.injEq] at h
          subst h
          obtain ⟨n, x, hx, hw⟩ := hf f (by simp)
          have h1 := hrec f.type l n _ x hr hx hw
          rw [hc.1, hc.2] at h1
          have h2 := leavesM hrec fs (o + l.length) ms hq (fun g hg => hf g (by simp [hg]))
          have := h1.append h2
          have e : (cs.drop o).take l.length ++ (cs.drop (o + l.length)).take ms.length = (cs.drop o).take (l ++ ms).length := by
            rw [List.length_append, ← List.drop_drop, List.take_add]
          rwa [e] at this
      · cases h
theorem leaves_of_trodz : ∀ (d : Nat) (t : TypeId) (ls : List TypeId) (n : Nat) (cs : List Value) (x : DataW H × List MemPlace), leafz P d t = some ls → DataW.trod enc P W 0 (fun _ => true) true n t cs = some x → P.cellsOf t = ls.length → Small P t x.1 → Leavz P W ls cs
  | 0, _, _, _, _, _, h, _, _, _ => by cases h
  | d + 1, t, ls, n, cs, x, h, hx, hC, hw => by
    simp only [leafz] at h
    split at h
    · rename_i hp
      simp only [Option.some.injEq] at h
      subst h
      have hone : ∃ v, cs = [v] ∧ LeafOk P W t v := by
        rw [Bool.or_eq_true] at hp
        rcases hp with hp | hp
        · have hv : ∃ v, cs = [v] := by
            unfold plainType at hp
            split at hp
            · rename_i k hk; obtain ⟨m, h1, -⟩ := DataW.trod_int hk hx; exact ⟨_, h1⟩
            · rename_i hk; obtain ⟨m, h1, -⟩ := DataW.trod_string hk hx; exact ⟨_, h1⟩
            · rename_i hk; obtain ⟨m, h1, -⟩ := DataW.trod_bool hk hx; exact ⟨_, h1⟩
            · cases hp
          obtain ⟨v, rfl⟩ := hv
          exact ⟨v, rfl, Or.inl (field_of_trod hp hx)⟩
        · exact nums_of_trod hp hx hw
      obtain ⟨v, rfl, hv⟩ := hone
      refine ⟨rfl, fun i t' hi => ?_⟩
      match i, hi with
      | 0, hi =>
        simp only [List.getElem?_cons_zero, Option.some.injEq] at hi
        subst hi
        exact hv
    · split at h
      · rename_i fs hs
        obtain ⟨xs, m, -, hxe, hl, hxl, hf⟩ := DataW.trod_struct hs hx
        have := leavesM (cs := cs) (enc := enc) (W := W) (rec := fun t => (leafz P d t).bind fun l => if P.cellsOf t = l.length then some l else none) (fun t l n ds x h1 h2 hw2 => by
          cases hq : leafz P d t with
          | none => rw [hq] at h1; cases h1
          | some l' =>
            rw [hq] at h1
            simp only [Option.bind_some] at h1
            split at h1
            · rename_i hc
              simp only [Option.some.injEq] at h1
              subst h1
              exact leaves_of_trodz d t _ n ds x hq h2 hc hw2
            · cases h1) fs.toList 0 ls (by
          have key : ∀ (gs : List Field) (o : Nat) (ms : List TypeId), leafsM P (leafz P d) o gs = some ms → leafsM P (fun t => (leafz P d t).bind fun l => if P.cellsOf t = l.length then some l else none) o gs = some ms := by
            intro gs
            induction gs with
            | nil => intro o ms h; exact h
            | cons g gs ih =>
              intro o ms h
              simp only [leafsM] at h ⊢
              cases hq : leafz P d g.type with
              | none => rw [hq] at h; cases h
              | some l =>
                rw [hq] at h
                simp only at h
                split at h
                · rename_i hc
                  have hc' := hc
                  simp only [Bool.and_eq_true, beq_iff_eq] at hc'
                  simp only [Option.bind_some, hc'.2, if_true]
                  rw [if_pos (by simp [hc'.1])]
                  cases hr : leafsM P (leafz P d) (o + l.length) gs with
                  | none => rw [hr] at h; cases h
                  | some rs =>
                    rw [hr] at h
                    rw [ih _ _ hr]
                    exact h
                · cases h
          exact key _ _ _ h) (fun f hf' => by
          obtain ⟨i, hi, rfl⟩ := List.getElem_of_mem hf'
          have := hf i fs[i] (Array.getElem?_eq_getElem (by simpa using hi))
          have hi' : i < xs.length := by rw [hxl]; simpa using hi
          rw [List.getElem?_eq_getElem hi'] at this
          refine ⟨_, _, by simpa using this, fun k hk => hw k ?_⟩
          rw [hxe]
          have h7 : (fs.toList.map (·.type))[i]? = some fs[i].type := by rw [List.getElem?_map, List.getElem?_eq_getElem (by simpa using hi)]; simp
          have h8 : (xs.map (·.1))[i]? = some xs[i].1 := by rw [List.getElem?_map, List.getElem?_eq_getElem hi']; rfl
          have := DataW.weights_mem_each (P := P) h7 h8 k (by simpa using hk)
          simpa [DataW.weights, hs] using this)
        rw [List.drop_zero, List.take_of_length_le (by rw [hl, hC]; exact Nat.le_refl _)] at this
        exact this
      · cases h
end

theorem small_of {H : Type} {P : Program} {t : TypeId} {d : DataW H} {ts : List TypeId} {ds : List (DataW H)} {j : Nat} (hsz : (DataW.weightsEach P ts ds).all (· ≤ reachBytes) = true) (hj : ts[j]? = some t) (hd : ds[j]? = some d) : Small P t d := fun m hm => by
  have := List.all_eq_true.1 hsz _ (DataW.weights_mem_each hj hd m hm)
  have h4 : reachBytes = 140737488351232 := by decide
  simp at this
  omega
/-- a struct by value -/
theorem open_deepz {H : Type} {enc : TypeId × Value → H} {P : Program} {W : World} {t : TypeId} {fs : Array Field} {v : Value} {d : DataW H} {ps : List MemPlace} {r : Reach} {b0 : Nat} {ls : List TypeId}
    (hs : P.underlying t = some (.struct fs)) (dp : Nat) (hp : leafz P dp t = some ls) (hC : P.cellsOf t = ls.length) (hval : Value.okWide P W r b0 t v) (h : DataW.Trod enc P W 0 (fun _ => true) true t v d ps) (hsm : Small P t d) :
    ∃ cs : List Value, v = .agg cs.toArray ∧ Leavz P W ls cs := by
  obtain ⟨cs, rfl, -⟩ := okWide_struct hs hval
  obtain ⟨fuel, hf⟩ := h
  have := leaves_of_trodz dp t ls _ _ _ hp hf hC hsm
  exact ⟨cs.toList, rfl, by simpa [Value.cells] using this⟩

theorem Leavz.one {P : Program} {W : World} {ls : List TypeId} {cs : List Value} (h : Leavz P W ls cs) : ∀ u ∈ cs, u.oneCell' = true := by
  intro u hu
  obtain ⟨i, hi, rfl⟩ := List.getElem_of_mem hu
  have hi' : i < ls.length := by rw [← h.1]; exact hi
  have := leaf_one (h.2 i ls[i] (List.getElem?_eq_getElem hi'))
  simpa [List.getD, hi] using this

/-- a slice of structs -/
theorem open_deepsz {H : Type} {enc : TypeId × Value → H} {P : Program} {W : World} {t e : TypeId} {v : Value} {d : DataW H} {ps : List MemPlace} {r : Reach} {b0 : Nat} {ls : List TypeId}
    (ht : P.underlying t = some (.slice e)) (dp : Nat) (hp : leafz P dp e = some ls) (hC : P.cellsOf e = ls.length) (hpos : 0 < ls.length) (hval : Value.okWide P W r b0 t v) (h : DataW.Trod enc P W 0 (fun _ => true) true t v d ps) (hsm : Small P t d) :
    ∃ es : List (List Value), Row W v ls.length es.length es.flatten ∧ ∀ x ∈ es, Leavz P W ls x := by
  obtain ⟨a0, len0, cap0, rfl⟩ := okWide_slice ht hval
  obtain ⟨fuel, hf⟩ := h
  rcases Deep.open_slice ht hf with ⟨hcs, -⟩ | ⟨a, len, cap, m, n, D, Pl, hcs, hb, hl, hm, hmm, hx, hr⟩
  · simp [Value.cells] at hcs
    obtain ⟨rfl, rfl, rfl⟩ := hcs
    exact ⟨[], row_nil W _, by simp⟩
  · simp [Value.cells] at hcs
    obtain ⟨rfl, rfl, rfl⟩ := hcs
    simp only [if_true] at hmm
    subst hmm
    rw [hC] at hr
    obtain ⟨C, hCC⟩ := Deep.choose_lt (α := List Value) (p := fun i cs => W.cells? 0 (a.add (i * ls.length)) ls.length = some cs ∧ DataW.trod enc P W 0 (fun _ => true) true n e cs = some (D i, Pl i)) (fun i (hi : i < len0) => by
      obtain ⟨cs, h1, h2⟩ := hr i (by omega)
      exact ⟨cs, h1, h2⟩)
    simp only [Prod.mk.injEq] at hx
    have hd' := hx.1
    have hsi : ∀ i, i < len0 → Small P e (D i) := fun i hi k hk => hsm k (by
      rw [hd']
      simp only [DataW.weights, ht, List.mem_cons, List.mem_append]
      exact Or.inr (Or.inl (weightsAll_mem (List.mem_map.2 ⟨i, List.mem_range.2 hi, rfl⟩) hk)))
    have hok : ∀ i, i < len0 → Leavz P W ls (C i) := fun i hi => leaves_of_trodz dp e ls _ _ _ hp (hCC i hi).2 hC (hsi i hi)
    have hcell : ∀ i, i < len0 → ∀ j, j < ls.length → W.cell? ((a.add (i * ls.length)).add j) = (C i)[j]? := fun i hi => (World.cells?_some (hCC i hi).1).2.2
    have hmem : ∀ x ∈ (List.range len0).map C, Leavz P W ls x := fun x hx => by
      obtain ⟨i, hi, rfl⟩ := List.mem_map.1 hx
      exact hok i (List.mem_range.1 hi)
    have hfl := flatten_len ((List.range len0).map C) (fun x hx => (hmem x hx).1)
    have hln : ((List.range len0).map C).length = len0 := by simp
    refine ⟨(List.range len0).map C, ⟨some a, m, by rw [hln], by rw [hln]; exact hl, hm, by rw [hfl], ?_, by simp, ?_⟩, hmem⟩
    · intro u hu
      obtain ⟨x, hx, hux⟩ := List.mem_flatten.1 hu
      exact (hmem x hx).one u hux
    · by_cases h0 : len0 = 0
      · left; subst h0; simp
      · right
        have hc0 := hcell 0 (by omega) 0 hpos
        rw [List.getElem?_eq_getElem (by rw [(hok 0 (by omega)).1]; exact hpos)] at hc0
        have hsp : a.spot = none := by
          have e0 : (a.add (0 * ls.length)).add 0 = a := by simp [Addr.add]
          rw [e0] at hc0
          exact spot_none hc0
        obtain ⟨b, o, spt⟩ := a
        simp only at hsp
        subst hsp
        refine ⟨b, o, rfl, fun j u hj => ?_⟩
        rw [flatten_get hpos _ (fun x hx => (hmem x hx).1)] at hj
        obtain ⟨x, hx, hjx⟩ := Option.bind_eq_some_iff.1 hj
        have hq : j / ls.length < len0 := by
          have := (List.getElem?_eq_some_iff.1 hx).1
          simpa using this
        have hx' : C (j / ls.length) = x := by simpa [hq] using hx
        have := hcell (j / ls.length) hq (j % ls.length) (Nat.mod_lt _ hpos)
        rw [add_off, add_off, hx', hjx] at this
        have e := Nat.div_add_mod j ls.length
        rw [Nat.mul_comm] at e
        rw [Nat.add_assoc, e] at this
        exact this
end Go.Proofs.Ytndjgbknhfficaa
