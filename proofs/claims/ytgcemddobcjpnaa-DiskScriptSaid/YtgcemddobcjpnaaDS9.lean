/- Texts of one proof, laid together: Open6, Dacs, WDkScript. No condition of ours. -/
import Derived.Test.YtgcemddobcjpnaaDS8
namespace Go.Proofs.Ytgcemddobcjpnaa
open Go.ChangeShapes Go.WideShapes Go.ChangeAt Go.RowKit

section
variable (P : Program)
/-- a slice of numbers -/
def numsType (t : TypeId) : Bool := match P.underlying t with
  | some (.slice e) => match P.underlying e with
    | some (.int _) => P.cellsOf e == 1
    | _ => false
  | _ => false
/-- a leaf: a plain value, or a slice of numbers -/
def LeafOk (W : World) (t : TypeId) (v : Value) : Prop := fieldOk P t v ∨ ∃ (e : TypeId) (k : IntKind) (zs : List Int), P.underlying t = some (.slice e) ∧ P.underlying e = some (.int k) ∧ Row W v 1 zs.length (zs.map (Value.int k)) ∧ (∀ n ∈ zs, (Lit.int k n).wf = true) ∧ zs.length * P.bytesOf e ≤ 140737488351232
/-- the leaves of fields that lie one behind the other -/
def leafsM (rec : TypeId → Option (List TypeId)) : Nat → List Field → Option (List TypeId)
  | _, [] => some []
  | o, f :: fs => match rec f.type with
    | some l => if f.offset == o && P.cellsOf f.type == l.length then (leafsM rec (o + l.length) fs).map (l ++ ·) else none
    | none => none
def leafz : Nat → TypeId → Option (List TypeId)
  | 0, _ => none
  | n + 1, t => if plainType P t || numsType P t then some [t] else match P.underlying t with
    | some (.struct fs) => leafsM P (leafz n) 0 fs.toList
    | _ => none
end

/-- cells read as leaves -/
def Leavz (P : Program) (W : World) (ls : List TypeId) (cs : List Value) : Prop := cs.length = ls.length ∧ ∀ i t, ls[i]? = some t → LeafOk P W t (cs.getD i undef)

theorem Leavz.append {P : Program} {W : World} {ls ms : List TypeId} {cs ds : List Value} (h : Leavz P W ls cs) (k : Leavz P W ms ds) : Leavz P W (ls ++ ms) (cs ++ ds) := by
  refine ⟨by simp [h.1, k.1], fun i t hi => ?_⟩
  by_cases hlt : i < ls.length
  · rw [List.getElem?_append_left hlt] at hi
    have := h.2 i t hi
    rwa [List.getD_eq_getElem?_getD, List.getElem?_append_left (by rw [h.1]; exact hlt), ← List.getD_eq_getElem?_getD]
  · rw [List.getElem?_append_right (by omega)] at hi
    have := k.2 _ t hi
    rwa [List.getD_eq_getElem?_getD, List.getElem?_append_right (by rw [h.1]; omega), ← List.getD_eq_getElem?_getD, h.1]

section
variable {H : Type} {enc : TypeId × Value → H} {P : Program} {W : World}
/-- no part of it is greater than the form's reach -/
def Small (P : Program) (t : TypeId) (d : DataW H) : Prop := ∀ m ∈ d.weights P t, m ≤ 140737488351232
theorem weightsAll_mem {e : TypeId} : ∀ {l : List (DataW H)} {d : DataW H} {n : Nat}, d ∈ l → n ∈ d.weights P e → n ∈ DataW.weightsAll P e l
  | a :: l, d, n, hd, hn => by
    simp only [DataW.weightsAll, List.mem_append]
    rcases List.mem_cons.1 hd with rfl | hd
    · exact Or.inl hn
    · exact Or.inr (weightsAll_mem hd hn)
theorem nums_of_trod {t : TypeId} {n : Nat} {cs : List Value} {x : DataW H × List MemPlace} (hp : numsType P t = true) (h : DataW.trod enc P W 0 (fun _ => true) true n t cs = some x) (hw : Small P t x.1) : ∃ v, cs = [v] ∧ LeafOk P W t v := by
  unfold numsType at hp
  split at hp
  · rename_i e ht
    split at hp
    · rename_i k he
      have hc : P.cellsOf e = 1 := by simpa using hp
      rcases open_ints ht he hc h with ⟨hcs, -⟩ | ⟨x, l, c, zs, hcs, _, hl, hm, hz, hx, hcell, hwz⟩
      · exact ⟨_, hcs, Or.inr ⟨e, k, [], ht, he, row_nil W 1, by simp, by simp⟩⟩
      · refine ⟨_, hcs, Or.inr ⟨e, k, zs.take l, ht, he, ?_, fun n hn => hwz n (List.mem_of_mem_take hn), ?_⟩⟩
        rotate_left
        · have h1 := hw (((lits (H := H) k (zs.take l)).length + (lits (H := H) k (zs.drop l)).length) * P.bytesOf e) (by rw [hx]; simp [DataW.weights, ht])
          have h2 : (zs.take l).length * P.bytesOf e ≤ ((lits (H := H) k (zs.take l)).length + (lits (H := H) k (zs.drop l)).length) * P.bytesOf e := Nat.mul_le_mul_right _ (by simp [lits])
          exact Nat.le_trans h2 h1
        simp only [if_true] at hz
        have htl : (zs.take l).length = l := by simp; omega
        refine ⟨some x, c, by rw [htl], by rw [htl]; exact hl, hm, by simp, ?_, by simp, ?_⟩
        · intro u hu
          obtain ⟨n, _, rfl⟩ := List.mem_map.1 hu
          rfl
        · by_cases h0 : l = 0
          · left; subst h0; simp
          · right
            have hc0 := hcell 0 (by omega)
            have hsp : x.spot = none := by
              have e0 : x.add 0 = x := by simp [Addr.add]
              rw [e0] at hc0
              unfold World.cell? at hc0
              split at hc0
              · split at hc0
                · simp at hc0
                · rename_i h; simpa using h
              · simp at hc0
            obtain ⟨b, o, sp⟩ := x
            simp only at hsp
            subst hsp
            refine ⟨b, o, rfl, fun i u hi => ?_⟩
            rw [← add_off]
            have hi2 : i < zs.length := by
              have := (List.getElem?_eq_some_iff.1 hi).1
              simp at this; omega
            rw [hcell i hi2]
            have hi1 : i < l := by
              have := (List.getElem?_eq_some_iff.1 hi).1
              simp at this; omega
            rw [List.getElem?_map, List.getElem?_take, if_pos hi1, List.getElem?_eq_getElem hi2] at hi
            simp at hi
            rw [← hi]
            simp [List.getD, hi2]
    · cases hp
  · cases hp
theorem leaf_one {t : TypeId} {v : Value} (h : LeafOk P W t v) : v.oneCell' = true := by
  rcases h with h | ⟨e, k, zs, -, -, h, -, -⟩
  · exact h.one
  · obtain ⟨p, c, rfl, -⟩ := h
    rfl

theorem leavesM {rec : TypeId → Option (List TypeId)} {cs : List Value} (hrec : ∀ t l n ds x, rec t = some l → DataW.trod enc P W 0 (fun _ => true) true n t ds = some x → Small P t x.1 → Leavz P W l ds) :
    ∀ (fs : List Field) (o : Nat) (ls : List TypeId), leafsM P rec o fs = some ls → (∀ f ∈ fs, ∃ n x, DataW.trod enc P W 0 (fun _ => true) true n f.type ((cs.drop f.offset).take (P.cellsOf f.type)) = some x ∧ Small P f.type x.1) → Leavz P W ls ((cs.drop o).take ls.length)
  | [], o, ls, h, _ => by
    simp only [leafsM, Option.some.injEq] at h
    subst h
    exact ⟨by simp, fun i t hi => by simp at hi⟩
  | f :: fs, o, ls, h, hf => by
    simp only [leafsM] at h
    cases hr : rec f.type with
    | none => rw [hr] at h; cases h
    | some l =>
      rw [hr] at h
      simp only at h
      split at h
      · rename_i hc
        simp only [Bool.and_eq_true, beq_iff_eq] at hc
        cases hq : leafsM P rec (o + l.length) fs with
        | none => rw [hq] at h; cases h
        | some ms =>
          rw [hq] at h
          simp only [Option.map_some, Option.some.injEq] at h
          subst h
          obtain ⟨n, x, hx, hw⟩ := hf f (by simp)
          have h1 := hrec f.type l n _ x hr hx hw
          rw [hc.1, hc.2] at h1
          have h2 := leavesM hrec fs (o + l.length) ms hq (fun g hg => hf g (by simp [hg]))
          have := h1.append h2
          have e : (cs.drop o).take l.length ++ (cs.drop (o + l.length)).take ms.length = (cs.drop o).take (l ++ ms).length := by
            rw [List.length_append, ← List.drop_drop, List.take_add]
          rwa [e] at this
      · cases h
theorem leaves_of_trodz : ∀ (d : Nat) (t : TypeId) (ls : List TypeId) (n : Nat) (cs : List Value) (x : DataW H × List MemPlace), leafz P d t = some ls → DataW.trod enc P W 0 (fun _ => true) true n t cs = some x → P.cellsOf t = ls.length → Small P t x.1 → Leavz P W ls cs
  | 0, _, _, _, _, _, h, _, _, _ => by cases h
  | d + 1, t, ls, n, cs, x, h, hx, hC, hw => by
    simp only [leafz] at h
    split at h
    · rename_i hp
      simp only [Option.some.injEq] at h
      subst h
      have hone : ∃ v, cs = [v] ∧ LeafOk P W t v := by
        rw [Bool.or_eq_true] at hp
        rcases hp with hp | hp
        · have hv : ∃ v, cs = [v] := by
            unfold plainType at hp
            split at hp
            · rename_i k hk; obtain ⟨m, h1, -⟩ := DataW.trod_int hk hx; exact ⟨_, h1⟩
            · rename_i hk; obtain ⟨m, h1, -⟩ := DataW.trod_string hk hx; exact ⟨_, h1⟩
            · rename_i hk; obtain ⟨m, h1, -⟩ := DataW.trod_bool hk hx; exact ⟨_, h1⟩
            · cases hp
          obtain ⟨v, rfl⟩ := hv
          exact ⟨v, rfl, Or.inl (field_of_trod hp hx)⟩
        · exact nums_of_trod hp hx hw
      obtain ⟨v, rfl, hv⟩ := hone
      refine ⟨rfl, fun i t' hi => ?_⟩
      match i, hi with
      | 0, hi =>
        simp only [List.getElem?_cons_zero, Option.some.injEq] at hi
        subst hi
        exact hv
    · split at h
      · rename_i fs hs
        obtain ⟨xs, m, -, hxe, hl, hxl, hf⟩ := DataW.trod_struct hs hx
        have := leavesM (cs := cs) (enc := enc) (W := W) (rec := fun t => (leafz P d t).bind fun l => if P.cellsOf t = l.length then some l else none) (fun t l n ds x h1 h2 hw2 => by
          cases hq : leafz P d t with
          | none => rw [hq] at h1; cases h1
          | some l' =>
            rw [hq] at h1
            simp only [Option.bind_some] at h1
            split at h1
            · rename_i hc
              simp only [Option.some.injEq] at h1
              subst h1
              exact leaves_of_trodz d t _ n ds x hq h2 hc hw2
            · cases h1) fs.toList 0 ls (by
          have key : ∀ (gs : List Field) (o : Nat) (ms : List TypeId), leafsM P (leafz P d) o gs = some ms → leafsM P (fun t => (leafz P d t).bind fun l => if P.cellsOf t = l.length then some l else none) o gs = some ms := by
            intro gs
            induction gs with
            | nil => intro o ms h; exact h
            | cons g gs ih =>
              intro o ms h
              simp only [leafsM] at h ⊢
              cases hq : leafz P d g.type with
              | none => rw [hq] at h; cases h
              | some l =>
                rw [hq] at h
                simp only at h
                split at h
                · rename_i hc
                  have hc' := hc
                  simp only [Bool.and_eq_true, beq_iff_eq] at hc'
                  simp only [Option.bind_some, hc'.2, if_true]
                  rw [if_pos (by simp [hc'.1])]
                  cases hr : leafsM P (leafz P d) (o + l.length) gs with
                  | none => rw [hr] at h; cases h
                  | some rs =>
                    rw [hr] at h
                    rw [ih _ _ hr]
                    exact h
                · cases h
          exact key _ _ _ h) (fun f hf' => by
          obtain ⟨i, hi, rfl⟩ := List.getElem_of_mem hf'
          have := hf i fs[i] (Array.getElem?_eq_getElem (by simpa using hi))
          have hi' : i < xs.length := by rw [hxl]; simpa using hi
          rw [List.getElem?_eq_getElem hi'] at this
          refine ⟨_, _, by simpa using this, fun k hk => hw k ?_⟩
          rw [hxe]
          have h7 : (fs.toList.map (·.type))[i]? = some fs[i].type := by rw [List.getElem?_map, List.getElem?_eq_getElem (by simpa using hi)]; simp
          have h8 : (xs.map (·.1))[i]? = some xs[i].1 := by rw [List.getElem?_map, List.getElem?_eq_getElem hi']; rfl
          have := DataW.weights_mem_each (P := P) h7 h8 k (by simpa using hk)
          simpa [DataW.weights, hs] using this)
        rw [List.drop_zero, List.take_of_length_le (by rw [hl, hC]; exact Nat.le_refl _)] at this
        exact this
      · cases h
end

theorem small_of {H : Type} {P : Program} {t : TypeId} {d : DataW H} {ts : List TypeId} {ds : List (DataW H)} {j : Nat} (hsz : (DataW.weightsEach P ts ds).all (· ≤ reachBytes) = true) (hj : ts[j]? = some t) (hd : ds[j]? = some d) : Small P t d := fun m hm => by
  have := List.all_eq_true.1 hsz _ (DataW.weights_mem_each hj hd m hm)
  have h4 : reachBytes = 140737488351232 := by decide
  simp at this
  omega
/-- a struct by value -/
theorem open_deepz {H : Type} {enc : TypeId × Value → H} {P : Program} {W : World} {t : TypeId} {fs : Array Field} {v : Value} {d : DataW H} {ps : List MemPlace} {r : Reach} {b0 : Nat} {ls : List TypeId}
    (hs : P.underlying t = some (.struct fs)) (dp : Nat) (hp : leafz P dp t = some ls) (hC : P.cellsOf t = ls.length) (hval : Value.okWide P W r b0 t v) (h : DataW.Trod enc P W 0 (fun _ => true) true t v d ps) (hsm : Small P t d) :
    ∃ cs : List Value, v = .agg cs.toArray ∧ Leavz P W ls cs := by
  obtain ⟨cs, rfl, -⟩ := okWide_struct hs hval
  obtain ⟨fuel, hf⟩ := h
  have := leaves_of_trodz dp t ls _ _ _ hp hf hC hsm
  exact ⟨cs.toList, rfl, by simpa [Value.cells] using this⟩

theorem Leavz.one {P : Program} {W : World} {ls : List TypeId} {cs : List Value} (h : Leavz P W ls cs) : ∀ u ∈ cs, u.oneCell' = true := by
  intro u hu
  obtain ⟨i, hi, rfl⟩ := List.getElem_of_mem hu
  have hi' : i < ls.length := by rw [← h.1]; exact hi
  have := leaf_one (h.2 i ls[i] (List.getElem?_eq_getElem hi'))
  simpa [List.getD, hi] using this

/-- a slice of structs -/
theorem open_deepsz {H : Type} {enc : TypeId × Value → H} {P : Program} {W : World} {t e : TypeId} {v : Value} {d : DataW H} {ps : List MemPlace} {r : Reach} {b0 : Nat} {ls : List TypeId}
    (ht : P.underlying t = some (.slice e)) (dp : Nat) (hp : leafz P dp e = some ls) (hC : P.cellsOf e = ls.length) (hpos : 0 < ls.length) (hval : Value.okWide P W r b0 t v) (h : DataW.Trod enc P W 0 (fun _ => true) true t v d ps) (hsm : Small P t d) :
    ∃ es : List (List Value), Row W v ls.length es.length es.flatten ∧ ∀ x ∈ es, Leavz P W ls x := by
  obtain ⟨a0, len0, cap0, rfl⟩ := okWide_slice ht hval
  obtain ⟨fuel, hf⟩ := h
  rcases Deep.open_slice ht hf with ⟨hcs, -⟩ | ⟨a, len, cap, m, n, D, Pl, hcs, hb, hl, hm, hmm, hx, hr⟩
  · simp [Value.cells] at hcs
    obtain ⟨rfl, rfl, rfl⟩ := hcs
    exact ⟨[], row_nil W _, by simp⟩
  · simp [Value.cells] at hcs
    obtain ⟨rfl, rfl, rfl⟩ := hcs
    simp only [if_true] at hmm
    subst hmm
    rw [hC] at hr
    obtain ⟨C, hCC⟩ := Deep.choose_lt (α := List Value) (p := fun i cs => W.cells? 0 (a.add (i * ls.length)) ls.length = some cs ∧ DataW.trod enc P W 0 (fun _ => true) true n e cs = some (D i, Pl i)) (fun i (hi : i < len0) => by
      obtain ⟨cs, h1, h2⟩ := hr i (by omega)
      exact ⟨cs, h1, h2⟩)
    simp only [Prod.mk.injEq] at hx
    have hd' := hx.1
    have hsi : ∀ i, i < len0 → Small P e (D i) := fun i hi k hk => hsm k (by
      rw [hd']
      simp only [DataW.weights, ht, List.mem_cons, List.mem_append]
      exact Or.inr (Or.inl (weightsAll_mem (List.mem_map.2 ⟨i, List.mem_range.2 hi, rfl⟩) hk)))
    have hok : ∀ i, i < len0 → Leavz P W ls (C i) := fun i hi => leaves_of_trodz dp e ls _ _ _ hp (hCC i hi).2 hC (hsi i hi)
    have hcell : ∀ i, i < len0 → ∀ j, j < ls.length → W.cell? ((a.add (i * ls.length)).add j) = (C i)[j]? := fun i hi => (World.cells?_some (hCC i hi).1).2.2
    have hmem : ∀ x ∈ (List.range len0).map C, Leavz P W ls x := fun x hx => by
      obtain ⟨i, hi, rfl⟩ := List.mem_map.1 hx
      exact hok i (List.mem_range.1 hi)
    have hfl := flatten_len ((List.range len0).map C) (fun x hx => (hmem x hx).1)
    have hln : ((List.range len0).map C).length = len0 := by simp
    refine ⟨(List.range len0).map C, ⟨some a, m, by rw [hln], by rw [hln]; exact hl, hm, by rw [hfl], ?_, by simp, ?_⟩, hmem⟩
    · intro u hu
      obtain ⟨x, hx, hux⟩ := List.mem_flatten.1 hu
      exact (hmem x hx).one u hux
    · by_cases h0 : len0 = 0
      · left; subst h0; simp
      · right
        have hc0 := hcell 0 (by omega) 0 hpos
        rw [List.getElem?_eq_getElem (by rw [(hok 0 (by omega)).1]; exact hpos)] at hc0
        have hsp : a.spot = none := by
          have e0 : (a.add (0 * ls.length)).add 0 = a := by simp [Addr.add]
          rw [e0] at hc0
          exact spot_none hc0
        obtain ⟨b, o, spt⟩ := a
        simp only at hsp
        subst hsp
        refine ⟨b, o, rfl, fun j u hj => ?_⟩
        rw [flatten_get hpos _ (fun x hx => (hmem x hx).1)] at hj
        obtain ⟨x, hx, hjx⟩ := Option.bind_eq_some_iff.1 hj
        have hq : j / ls.length < len0 := by
          have := (List.getElem?_eq_some_iff.1 hx).1
          simpa using this
        have hx' : C (j / ls.length) = x := by simpa [hq] using hx
        have := hcell (j / ls.length) hq (j % ls.length) (Nat.mod_lt _ hpos)
        rw [add_off, add_off, hx', hjx] at this
        have e := Nat.div_add_mod j ls.length
        rw [Nat.mul_comm] at e
        rw [Nat.add_assoc, e] at this
        exact this
end Go.Proofs.Ytgcemddobcjpnaa
namespace Go.Proofs.Ytgcemddobcjpnaa
open Go.RowKit Go.ChangeShapes Go.WideShapes

theorem LeafOk.int {P : Program} {W : World} {t : TypeId} {v : Value} {k : IntKind} (h : LeafOk P W t v) (ht : P.underlying t = some (.int k)) : ∃ n, v = .int k n ∧ (Lit.int k n).wf = true := by
  rcases h with h | ⟨e, k', zs, h1, -⟩
  · exact fieldOk.int h ht
  · rw [ht] at h1; cases h1
theorem LeafOk.str {P : Program} {W : World} {t : TypeId} {v : Value} (h : LeafOk P W t v) (ht : P.underlying t = some .string) : ∃ s, v = .string s ∧ s.size ≤ maxLen := by
  rcases h with h | ⟨e, k', zs, h1, -⟩
  · exact fieldOk.str h ht
  · rw [ht] at h1; cases h1
theorem LeafOk.nums {P : Program} {W : World} {t e : TypeId} {v : Value} {k : IntKind} (h : LeafOk P W t v) (ht : P.underlying t = some (.slice e)) (he : P.underlying e = some (.int k)) : ∃ zs : List Int, Row W v 1 zs.length (zs.map (Value.int k)) ∧ (∀ n ∈ zs, (Lit.int k n).wf = true) ∧ zs.length * P.bytesOf e ≤ 140737488351232 := by
  rcases h with h | ⟨e', k', zs, h1, h2, h3, h4, h5⟩
  · rcases h with ⟨k', h1, -⟩ | ⟨h1, -⟩ | ⟨h1, -⟩ <;> (rw [ht] at h1; cases h1)
  · rw [ht] at h1
    cases h1
    rw [he] at h2
    cases h2
    exact ⟨zs, h3, h4, h5⟩

structure Av where
  a : Ac
  vb : Value
  vk : Value
abbrev Av.c (x : Av) : List Value := acC x.a x.vb x.vk
theorem avC_len (x : Av) : (Av.c x).length = 6 := rfl
structure Acs (w0 w : World) (v : Value) (l : List Av) : Prop where
  row : Row w v 6 l.length (rwC Av.c l)
  ok : ∀ x ∈ l, AcOk w0 x.a x.vb x.vk ∧ x.a.n ≤ 9223372036854775807
theorem ex_map {α β : Type} {f : β → α} {p : β → Prop} : ∀ (es : List α), (∀ x ∈ es, ∃ y, x = f y ∧ p y) → ∃ l : List β, es = l.map f ∧ ∀ y ∈ l, p y
  | [], _ => ⟨[], rfl, by simp⟩
  | e :: es, h => by
    obtain ⟨y, h1, h2⟩ := h e (by simp)
    obtain ⟨l, h3, h4⟩ := ex_map es (fun x hx => h x (by simp [hx]))
    exact ⟨y :: l, by rw [h1, h3]; rfl, fun z hz => by
      rcases List.mem_cons.1 hz with rfl | hz
      · exact h2
      · exact h4 z hz⟩
theorem acs_of {W : World} {v : Value} {es : List (List Value)} (hr : Row W v 6 es.length es.flatten) (hf : ∀ x ∈ es, Leavz Try.prog W [3, 9, 9, 29, 3, 31] x) (hb1 : Try.prog.bytesOf 3 = 8) : ∃ l, Acs W W v l := by
  obtain ⟨l, hl, hp⟩ := ex_map (f := Av.c) (p := fun y => AcOk W y.a y.vb y.vk ∧ y.a.n ≤ 9223372036854775807) es (fun x hx => by
    obtain ⟨h1, h2⟩ := hf x hx
    match x, h1, h2 with
    | [v0, v1, v2, v3, v4, v5], _, h2 =>
      obtain ⟨k, rfl, -⟩ := (LeafOk.int (v := v0) (h2 0 _ rfl) Try.underlying3)
      obtain ⟨s, rfl, hs⟩ := (LeafOk.str (v := v1) (h2 1 _ rfl) Try.underlying9)
      obtain ⟨t, rfl, ht⟩ := (LeafOk.str (v := v2) (h2 2 _ rfl) Try.underlying9)
      obtain ⟨zs, hz1, hz2, -⟩ := (LeafOk.nums (v := v3) (h2 3 _ rfl) Try.underlying29 Try.underlying5)
      obtain ⟨n, rfl, hn⟩ := (LeafOk.int (v := v4) (h2 4 _ rfl) Try.underlying3)
      obtain ⟨ks, hk1, hk2, hk3⟩ := (LeafOk.nums (v := v5) (h2 5 _ rfl) Try.underlying31 Try.underlying3)
      refine ⟨⟨⟨k, s, t, zs.map fun n => UInt8.ofNat n.toNat, n, ks⟩, v3, v5⟩, rfl, ⟨hs, ht, ?_, hk1, fun x hx => (i64_wf (hk2 x hx)).2, by rw [hb1] at hk3; show ks.length ≤ _; omega⟩, (i64_wf hn).2⟩
      have e : (zs.map fun n => UInt8.ofNat n.toNat).map B = zs.map (Value.int .u8) := by
        rw [List.map_map]
        refine List.map_congr_left fun n hn => ?_
        have := u8_wf (hz2 n hn)
        simp
        omega
      unfold Rd
      rw [e, List.length_map]
      exact hz1)
  refine ⟨l, ?_, hp⟩
  rw [hl, List.length_map] at hr
  rw [show rwC Av.c l = (l.map Av.c).flatten from by unfold rwC; rw [List.flatMap_def]]
  exact hr
end Go.Proofs.Ytgcemddobcjpnaa
namespace Go.Proofs.Ytgcemddobcjpnaa
open Go.RowKit

set_option maxRecDepth 100000 in
set_option maxHeartbeats 2000000 in
theorem diskScript_bad (r : Int) (v : Value) (l : List Av) (w : World) (h : Acs w w v l) (hr : r < 0 ∨ 1073741824 < r) :
    Calls Try.prog 4 #[.int .i64 r, v] w fun e w' => e = .returned (.bool true) ∧ Below w.heap.size w w' := by
  obtain ⟨p, c, rfl, hc, hm, -⟩ := h.row
  have HR := Lib.hid hr
  clear h hr
  go_enter Try.func4, Try.ntmps4
  go_wp2_with (first
    | (go_at_call 8; refine (dlives _).mono ?_; rintro e w1 ⟨rfl, hb⟩; have HB := Lib.hid hb; clear hb)
    | (go_at_call 9; refine (new_bad r _ HR.out).mono ?_; rintro e w2 ⟨rfl, rfl⟩)
    | (go_at_call 23; refine (rnew_bad r _ HR.out).mono ?_; rintro e w2 ⟨rfl, rfl⟩))
  go_ret
  exact ⟨rfl, HB.out⟩

set_option maxRecDepth 100000 in
set_option maxHeartbeats 4000000 in
theorem diskScript_in (r : Int) (v : Value) (l : List Av) (w : World) (h : Acs w w v l) (h0 : 0 ≤ r) (h1 : r ≤ 1073741824) :
    Calls Try.prog 4 #[.int .i64 r, v] w fun e w' => e = .returned (.bool true) ∧ Below w.heap.size w w' := by
  have H := Lib.hid h
  obtain ⟨p, c, rfl, hc, hm, -, -, -, hat⟩ := h.row
  have HAT := Lib.hid hat
  have hml : maxLen ≤ 9223372036854775807 := by decide
  have hll : l.length ≤ 9223372036854775807 := by omega
  have H0 := Lib.hid h0
  have H1 := Lib.hid h1
  clear h hat hml hm hc h0 h1
  go_enter Try.func4, Try.ntmps4
  by_cases hbig : 200 < l.length
  · have i1 : (200 : Int) < (l.length : Int) := by omega
    go_wp2_with (first
      | (go_at_call 8; refine (dlives _).mono ?_; rintro e w1 ⟨rfl, hb⟩; have HB := Lib.hid hb; clear hb)
      | (go_at_call 9; refine (od_new r w _ HB.out H0.out H1.out).mono ?_; rintro e w2 ⟨b, rfl, -, ho, -⟩; have HO := Lib.hid ho; clear ho)
      | (go_at_call 23; refine (rnew_ok r _ H0.out H1.out).mono ?_; rintro e w3 ⟨g, rfl, -, -, hb⟩; have HB3 := Lib.hid hb; clear hb))
    go_ret
    exact ⟨rfl, below_and HO.out.bel HB3.out⟩
  · have i1 : ¬ (200 : Int) < (l.length : Int) := by omega
    have HLB : Hid (l.length ≤ 200) := Lib.hid (by omega)
    go_wp2_with (first
      | (go_at_call 8; refine (dlives _).mono ?_; rintro e w1 ⟨rfl, hb⟩; have HB := Lib.hid hb; clear hb)
      | (go_at_call 9; refine (od_new r w _ HB.out H0.out H1.out).mono ?_; rintro e w2 ⟨b, rfl, -, ho, -⟩; have HO := Lib.hid ho; clear ho)
      | (go_at_call 23; refine (rnew_ok r _ H0.out H1.out).mono ?_; rintro e w3 ⟨g, rfl, hg, hr, hb⟩; have HT : Hid (Tw NoX w2 w w3 b g ⟨r, [], false, 0, false, 0⟩ ⟨r, [], false, 0, false, 0⟩) := Lib.hid (HO.out.beside hg hr hb); clear hg hr hb))
    clear hbig
    have HI0 : Hid (DkI ⟨r, [], false, 0, false, 0⟩ 0 0) := Lib.hid ⟨List.Pairwise.nil, by simp, by simp, by simpa [Dk.bytes] using H0.out, H1.out, by simp, by simp, by simp⟩
    go_loopw [9] (fun i wr => ∃ (k : Nat) (D : Dk), k ≤ l.length ∧ i = .int .i64 (k : Int) ∧ Hid (DkI D k (2001 * (k : Int))) ∧ Hid (Tw NoX w2 w wr b g D D)) (fun i _ => l.length - (intOf i).toNat)
    case atStart => exact ⟨0, _, Nat.zero_le _, rfl, HI0, HT⟩
    case round =>
      obtain ⟨k, D, hk, rfl, HI, HW⟩ := hrel
      by_cases hlt : k < l.length
      · have i2 : (k : Int) < (l.length : Int) := by omega
        rcases HAT.out with ha | ⟨ab, o, rfl, ha⟩
        · exact absurd (congrArg List.length ha) (by rw [rwC_len avC_len]; simp; omega)
        obtain ⟨x, hx⟩ : ∃ x, x = l[k] := ⟨_, rfl⟩
        have hok := H.out.ok x (by rw [hx]; exact List.getElem_mem hlt)
        have HOK := Lib.hid hok
        have hc : ∀ j u, j < 6 → (Av.c x)[j]? = some u → wr.cell? ⟨ab, o + (k * 6 + j), none⟩ = some u := fun j u hj hu => cell_kept (ha _ u (by rw [rwC_at avC_len hlt hj, ← hx]; exact hu)) HW.out.bel
        obtain ⟨a, vb, vk⟩ := x
        obtain ⟨pb, cb, hvb, -, -, -⟩ := hok.1.rd.parts
        simp only at hvb
        subst hvb
        have x0 : wr.cell? ⟨ab, o + k * 6, none⟩ = some (.int .i64 a.kd) := by have := hc 0 (.int .i64 a.kd) (by omega) rfl; simpa [Nat.add_assoc] using this
        have x1 : wr.cell? ⟨ab, o + k * 6 + 1, none⟩ = some (.string a.nm) := by have := hc 1 (.string a.nm) (by omega) rfl; simpa [Nat.add_assoc] using this
        have x2 : wr.cell? ⟨ab, o + k * 6 + 2, none⟩ = some (.string a.nt) := by have := hc 2 (.string a.nt) (by omega) rfl; simpa [Nat.add_assoc] using this
        have x3 : wr.cell? ⟨ab, o + k * 6 + 3, none⟩ = some (.slice pb a.bs.length cb) := by have := hc 3 (.slice pb a.bs.length cb) (by omega) rfl; simpa [Nat.add_assoc] using this
        have x4 : wr.cell? ⟨ab, o + k * 6 + 4, none⟩ = some (.int .i64 a.n) := by have := hc 4 (.int .i64 a.n) (by omega) rfl; simpa [Nat.add_assoc] using this
        have x5 : wr.cell? ⟨ab, o + k * 6 + 5, none⟩ = some (vk) := by have := hc 5 (vk) (by omega) rfl; simpa [Nat.add_assoc] using this
        clear ha hc hok hx
        by_cases hbl : 2000 < a.bs.length
        · have i3 : (2000 : Int) < (a.bs.length : Int) := by omega
          go_wp2
          go_ret
          exact ⟨rfl, HW.out.bel⟩
        · have i3 : ¬ (2000 : Int) < (a.bs.length : Int) := by omega
          have HBL : Hid (a.bs.length ≤ 2000) := Lib.hid (by omega)
          have HG : Hid (Good D k (2001 * (k : Int))) := Lib.hid ⟨HI.out, by have := HLB.out; omega, by have := HLB.out; omega⟩
          have HI2 : Hid (DkI (D.act (a.kd % 11) a) (k + 1) (2001 * ((k + 1 : Nat) : Int))) := Lib.hid ((HI.out.act (a.kd % 11) a HBL.out HOK.out.2).mono (Nat.le_refl _) (by omega))
          have HG2 : Hid (Good (D.act (a.kd % 11) a) (k + 1) (2001 * ((k + 1 : Nat) : Int))) := Lib.hid ⟨HI2.out, by have := HLB.out; omega, by have := HLB.out; omega⟩
          clear hbl
          go_wp2_with (first
            | (go_at_call 24; refine (dstep_any a _ vk w wr NoX w2 b g D D k _ HW.out HG.out HG.out HOK.out.1 HBL.out).mono ?_; rintro e w5 ⟨bb, rfl, hbb, ht⟩; obtain rfl : bb = true := hbb rfl; have HT5 := Lib.hid ht; clear ht hbb)
            | (go_at_call 25; refine (dsame_any _ HT5.out HG2.out).mono ?_; rintro e w6 ⟨rfl, hb⟩; have HT6 := Lib.hid (HT5.out.kept hb); clear hb))
          go_roundw
          case rel => exact ⟨k + 1, _, hlt, by go_num, HI2, HT6⟩
          case measure => simp [intOf]; omega
      · obtain rfl : k = l.length := by omega
        go_wp2
        go_ret
        exact ⟨rfl, HW.out.bel⟩
theorem diskScript_walk (r : Int) (v : Value) (es : List (List Value)) (w : World) (_ : (Lit.int .i64 r).wf = true) (hr : Row w v 6 es.length es.flatten) (hf : ∀ x ∈ es, Leavz Try.prog w [3, 9, 9, 29, 3, 31] x) :
    Calls Try.prog 4 #[.int .i64 r, v] w fun e w' => e = .returned (.bool true) ∧ Below w.heap.size w w' := by
  obtain ⟨l, hl⟩ := acs_of hr hf (by kernel_rfl)
  by_cases h : r < 0 ∨ 1073741824 < r
  · exact diskScript_bad r v l w hl h
  · exact diskScript_in r v l w hl (by omega) (by omega)
end Go.Proofs.Ytgcemddobcjpnaa
