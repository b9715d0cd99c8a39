/- Texts of one proof, laid together: Open6, Dacs, DkAct, DfPlain, WDkFuse. No condition of ours. -/
import Derived.Test.YtgcemddobcjpnaaDF8
namespace Go.Proofs.Ytgcemddobcjpnaa
open Go.ChangeShapes Go.WideShapes Go.ChangeAt Go.RowKit

section
variable (P : Program)
/-- a slice of numbers -/
def numsType (t : TypeId) : Bool := match P.underlying t with
  | some (.slice e) => match P.underlying e with
    | some (.int _) => P.cellsOf e == 1
    | _ => false
  | _ => false
/-- a leaf: a plain value, or a slice of numbers -/
def LeafOk (W : World) (t : TypeId) (v : Value) : Prop := fieldOk P t v ∨ ∃ (e : TypeId) (k : IntKind) (zs : List Int), P.underlying t = some (.slice e) ∧ P.underlying e = some (.int k) ∧ Row W v 1 zs.length (zs.map (Value.int k)) ∧ (∀ n ∈ zs, (Lit.int k n).wf = true) ∧ zs.length * P.bytesOf e ≤ 140737488351232
/-- the leaves of fields that lie one behind the other -/
def leafsM (rec : TypeId → Option (List TypeId)) : Nat → List Field → Option (List TypeId)
  | _, [] => some []
  | o, f :: fs => match rec f.type with
    | some l => if f.offset == o && P.cellsOf f.type == l.length then (leafsM rec (o + l.length) fs).map (l ++ ·) else none
    | none => none
def leafz : Nat → TypeId → Option (List TypeId)
  | 0, _ => none
  | n + 1, t => if plainType P t || numsType P t then some [t] else match P.underlying t with
    | some (.struct fs) => leafsM P (leafz n) 0 fs.toList
    | _ => none
end

/-- cells read as leaves -/
def Leavz (P : Program) (W : World) (ls : List TypeId) (cs : List Value) : Prop := cs.length = ls.length ∧ ∀ i t, ls[i]? = some t → LeafOk P W t (cs.getD i undef)

theorem Leavz.append {P : Program} {W : World} {ls ms : List TypeId} {cs ds : List Value} (h : Leavz P W ls cs) (k : Leavz P W ms ds) : Leavz P W (ls ++ ms) (cs ++ ds) := by
  refine ⟨by simp [h.1, k.1], fun i t hi => ?_⟩
  by_cases hlt : i < ls.length
  · rw [List.getElem?_append_left hlt] at hi
    have := h.2 i t hi
    rwa [List.getD_eq_getElem?_getD, List.getElem?_append_left (by rw [h.1]; exact hlt), ← List.getD_eq_getElem?_getD]
  · rw [List.getElem?_append_right (by omega)] at hi
    have := k.2 _ t hi
    rwa [List.getD_eq_getElem?_getD, List.getElem?_append_right (by rw [h.1]; omega), ← List.getD_eq_getElem?_getD, h.1]

section
variable {H : Type} {enc : TypeId × Value → H} {P : Program} {W : World}
/-- no part of it is greater than the form's reach -/
def Small (P : Program) (t : TypeId) (d : DataW H) : Prop := ∀ m ∈ d.weights P t, m ≤ 140737488351232
theorem weightsAll_mem {e : TypeId} : ∀ {l : List (DataW H)} {d : DataW H} {n : Nat}, d ∈ l → n ∈ d.weights P e → n ∈ DataW.weightsAll P e l
  | a :: l, d, n, hd, hn => by
    simp only [DataW.weightsAll, List.mem_append]
    rcases List.mem_cons.1 hd with rfl | hd
    · exact Or.inl hn
    · exact Or.inr (weightsAll_mem hd hn)
theorem nums_of_trod {t : TypeId} {n : Nat} {cs : List Value} {x : DataW H × List MemPlace} (hp : numsType P t = true) (h : DataW.trod enc P W 0 (fun _ => true) true n t cs = some x) (hw : Small P t x.1) : ∃ v, cs = [v] ∧ LeafOk P W t v := by
  unfold numsType at hp
  split at hp
  · rename_i e ht
    split at hp
    · rename_i k he
      have hc : P.cellsOf e = 1 := by simpa using hp
      rcases open_ints ht he hc h with ⟨hcs, -⟩ | ⟨x, l, c, zs, hcs, _, hl, hm, hz, hx, hcell, hwz⟩
      · exact ⟨_, hcs, Or.inr ⟨e, k, [], ht, he, row_nil W 1, by simp, by simp⟩⟩
      · refine ⟨_, hcs, Or.inr ⟨e, k, zs.take l, ht, he, ?_, fun n hn => hwz n (List.mem_of_mem_take hn), ?_⟩⟩
        rotate_left
        · have h1 := hw (((lits (H := H) k (zs.take l)).length + (lits (H := H) k (zs.drop l)).length) * P.bytesOf e) (by rw [hx]; simp [DataW.weights, ht])
          have h2 : (zs.take l).length * P.bytesOf e ≤ ((lits (H := H) k (zs.take l)).length + (lits (H := H) k (zs.drop l)).length) * P.bytesOf e := Nat.mul_le_mul_right _ (by simp [lits])
          exact Nat.le_trans h2 h1
        simp only [if_true] at hz
        have htl : (zs.take l).length = l := by simp; omega
        refine ⟨some x, c, by rw [htl], by rw [htl]; exact hl, hm, by simp, ?_, by simp, ?_⟩
        · intro u hu
          obtain ⟨n, _, rfl⟩ := List.mem_map.1 hu
          rfl
        · by_cases h0 : l = 0
          · left; subst h0; simp
          · right
            have hc0 := hcell 0 (by omega)
            have hsp : x.spot = none := by
              have e0 : x.add 0 = x := by simp [Addr.add]
              rw [e0] at hc0
              unfold World.cell? at hc0
              split at hc0
              · split at hc0
                · simp at hc0
                · rename_i h; simpa using h
              · simp at hc0
            obtain ⟨b, o, sp⟩ := x
            simp only at hsp
            subst hsp
            refine ⟨b, o, rfl, fun i u hi => ?_⟩
            rw [← add_off]
            have hi2 : i < zs.length := by
              have := (List.getElem?_eq_some_iff.1 hi).1
              simp at this; omega
            rw [hcell i hi2]
            have hi1 : i < l := by
              have := (List.getElem?_eq_some_iff.1 hi).1
              simp at this; omega
            rw [List.getElem?_map, List.getElem?_take, if_pos hi1, List.getElem?_eq_getElem hi2] at hi
            simp at hi
            rw [← hi]
            simp [List.getD, hi2]
    · cases hp
  · cases hp
theorem leaf_one {t : TypeId} {v : Value} (h : LeafOk P W t v) : v.oneCell' = true := by
  rcases h with h | ⟨e, k, zs, -, -, h, -, -⟩
  · exact h.one
  · obtain ⟨p, c, rfl, -⟩ := h
    rfl

theorem leavesM {rec : TypeId → Option (List TypeId)} {cs : List Value} (hrec : ∀ t l n ds x, rec t = some l → DataW.trod enc P W 0 (fun _ => true) true n t ds = some x → Small P t x.1 → Leavz P W l ds) :
    ∀ (fs : List Field) (o : Nat) (ls : List TypeId), leafsM P rec o fs = some ls → (∀ f ∈ fs, ∃ n x, DataW.trod enc P W 0 (fun _ => true) true n f.type ((cs.drop f.offset).take (P.cellsOf f.type)) = some x ∧ Small P f.type x.1) → Leavz P W ls ((cs.drop o).take ls.length)
  | [], o, ls, h, _ => by
    simp only [leafsM, Option.some.injEq] at h
    subst h
    exact ⟨by simp, fun i t hi => by simp at hi⟩
  | f :: fs, o, ls, h, hf => by
    simp only [leafsM] at h
    cases hr : rec f.type with
    | none => rw [hr] at h; cases h
    | some l =>
      rw [hr] at h
      simp only at h
      split at h
      · rename_i hc
        simp only [Bool.and_eq_true, beq_iff_eq] at hc
        cases hq : leafsM P rec (o + l.length) fs with
        | none => rw [hq] at h; cases h
        | some ms =>
          rw [hq] at h
          simp only [Option.map_some, Option.some.injEq] at h
          subst h
          obtain ⟨n, x, hx, hw⟩ := hf f (by simp)
          have h1 := hrec f.type l n _ x hr hx hw
          rw [hc.1, hc.2] at h1
          have h2 := leavesM hrec fs (o + l.length) ms hq (fun g hg => hf g (by simp [hg]))
          have := h1.append h2
          have e : (cs.drop o).take l.length ++ (cs.drop (o + l.length)).take ms.length = (cs.drop o).take (l ++ ms).length := by
            rw [List.length_append, ← List.drop_drop, List.take_add]
          rwa [e] at this
      · cases h
theorem leaves_of_trodz : ∀ (d : Nat) (t : TypeId) (ls : List TypeId) (n : Nat) (cs : List Value) (x : DataW H × List MemPlace), leafz P d t = some ls → DataW.trod enc P W 0 (fun _ => true) true n t cs = some x → P.cellsOf t = ls.length → Small P t x.1 → Leavz P W ls cs
  | 0, _, _, _, _, _, h, _, _, _ => by cases h
  | d + 1, t, ls, n, cs, x, h, hx, hC, hw => by
    simp only [leafz] at h
    split at h
    · rename_i hp
      simp only [Option.some.injEq] at h
      subst h
      have hone : ∃ v, cs = [v] ∧ LeafOk P W t v := by
        rw [Bool.or_eq_true] at hp
        rcases hp with hp | hp
        · have hv : ∃ v, cs = [v] := by
            unfold plainType at hp
            split at hp
            · rename_i k hk; obtain ⟨m, h1, -⟩ := DataW.trod_int hk hx; exact ⟨_, h1⟩
            · rename_i hk; obtain ⟨m, h1, -⟩ := DataW.trod_string hk hx; exact ⟨_, h1⟩
            · rename_i hk; obtain ⟨m, h1, -⟩ := DataW.trod_bool hk hx; exact ⟨_, h1⟩
            · cases hp
          obtain ⟨v, rfl⟩ := hv
          exact ⟨v, rfl, Or.inl (field_of_trod hp hx)⟩
        · exact nums_of_trod hp hx hw
      obtain ⟨v, rfl, hv⟩ := hone
      refine ⟨rfl, fun i t' hi => ?_⟩
      match i, hi with
      | 0, hi =>
        simp only [List.getElem?_cons_zero, Option.some.injEq] at hi
        subst hi
        exact hv
    · split at h
      · rename_i fs hs
        obtain ⟨xs, m, -, hxe, hl, hxl, hf⟩ := DataW.trod_struct hs hx
        have := leavesM (cs := cs) (enc := enc) (W := W) (rec := fun t => (leafz P d t).bind fun l => if P.cellsOf t = l.length then some l else none) (fun t l n ds x h1 h2 hw2 => by
          cases hq : leafz P d t with
          | none => rw [hq] at h1; cases h1
          | some l' =>
            rw [hq] at h1
            simp only [Option.bind_some] at h1
            split at h1
            · rename_i hc
              simp only [Option.some.injEq] at h1
              subst h1
              exact leaves_of_trodz d t _ n ds x hq h2 hc hw2
            · cases h1) fs.toList 0 ls (by
          have key : ∀ (gs : List Field) (o : Nat) (ms : List TypeId), leafsM P (leafz P d) o gs = some ms → leafsM P (fun t => (leafz P d t).bind fun l => if P.cellsOf t = l.length then some l else none) o gs = some ms := by
            intro gs
            induction gs with
            | nil => intro o ms h; exact h
            | cons g gs ih =>
              intro o ms h
              simp only [leafsM] at h ⊢
              cases hq : leafz P d g.type with
              | none => rw [hq] at h; cases h
              | some l =>
                rw [hq] at h
                simp only at h
                split at h
                · rename_i hc
                  have hc' := hc
                  simp only [Bool.and_eq_true, beq_iff_eq] at hc'
                  simp only [Option.bind_some, hc'.2, if_true]
                  rw [if_pos (by simp [hc'.1])]
                  cases hr : leafsM P (leafz P d) (o + l.length) gs with
                  | none => rw [hr] at h; cases h
                  | some rs =>
                    rw [hr] at h
                    rw [ih _ _ hr]
                    exact h
                · cases h
          exact key _ _ _ h) (fun f hf' => by
          obtain ⟨i, hi, rfl⟩ := List.getElem_of_mem hf'
          have := hf i fs[i] (Array.getElem?_eq_getElem (by simpa using hi))
          have hi' : i < xs.length := by rw [hxl]; simpa using hi
          rw [List.getElem?_eq_getElem hi'] at this
          refine ⟨_, _, by simpa using this, fun k hk => hw k ?_⟩
          rw [hxe]
          have h7 : (fs.toList.map (·.type))[i]? = some fs[i].type := by rw [List.getElem?_map, List.getElem?_eq_getElem (by simpa using hi)]; simp
          have h8 : (xs.map (·.1))[i]? = some xs[i].1 := by rw [List.getElem?_map, List.getElem?_eq_getElem hi']; rfl
          have := DataW.weights_mem_each (P := P) h7 h8 k (by simpa using hk)
          simpa [DataW.weights, hs] using this)
        rw [List.drop_zero, List.take_of_length_le (by rw [hl, hC]; exact Nat.le_refl _)] at this
        exact this
      · cases h
end

theorem small_of {H : Type} {P : Program} {t : TypeId} {d : DataW H} {ts : List TypeId} {ds : List (DataW H)} {j : Nat} (hsz : (DataW.weightsEach P ts ds).all (· ≤ reachBytes) = true) (hj : ts[j]? = some t) (hd : ds[j]? = some d) : Small P t d := fun m hm => by
  have := List.all_eq_true.1 hsz _ (DataW.weights_mem_each hj hd m hm)
  have h4 : reachBytes = 140737488351232 := by decide
  simp at this
  omega
/-- a struct by value -/
theorem open_deepz {H : Type} {enc : TypeId × Value → H} {P : Program} {W : World} {t : TypeId} {fs : Array Field} {v : Value} {d : DataW H} {ps : List MemPlace} {r : Reach} {b0 : Nat} {ls : List TypeId}
    (hs : P.underlying t = some (.struct fs)) (dp : Nat) (hp : leafz P dp t = some ls) (hC : P.cellsOf t = ls.length) (hval : Value.okWide P W r b0 t v) (h : DataW.Trod enc P W 0 (fun _ => true) true t v d ps) (hsm : Small P t d) :
    ∃ cs : List Value, v = .agg cs.toArray ∧ Leavz P W ls cs := by
  obtain ⟨cs, rfl, -⟩ := okWide_struct hs hval
  obtain ⟨fuel, hf⟩ := h
  have := leaves_of_trodz dp t ls _ _ _ hp hf hC hsm
  exact ⟨cs.toList, rfl, by simpa [Value.cells] using this⟩

theorem Leavz.one {P : Program} {W : World} {ls : List TypeId} {cs : List Value} (h : Leavz P W ls cs) : ∀ u ∈ cs, u.oneCell' = true := by
  intro u hu
  obtain ⟨i, hi, rfl⟩ := List.getElem_of_mem hu
  have hi' : i < ls.length := by rw [← h.1]; exact hi
  have := leaf_one (h.2 i ls[i] (List.getElem?_eq_getElem hi'))
  simpa [List.getD, hi] using this

/-- a slice of structs -/
theorem open_deepsz {H : Type} {enc : TypeId × Value → H} {P : Program} {W : World} {t e : TypeId} {v : Value} {d : DataW H} {ps : List MemPlace} {r : Reach} {b0 : Nat} {ls : List TypeId}
    (ht : P.underlying t = some (.slice e)) (dp : Nat) (hp : leafz P dp e = some ls) (hC : P.cellsOf e = ls.length) (hpos : 0 < ls.length) (hval : Value.okWide P W r b0 t v) (h : DataW.Trod enc P W 0 (fun _ => true) true t v d ps) (hsm : Small P t d) :
    ∃ es : List (List Value), Row W v ls.length es.length es.flatten ∧ ∀ x ∈ es, Leavz P W ls x := by
  obtain ⟨a0, len0, cap0, rfl⟩ := okWide_slice ht hval
  obtain ⟨fuel, hf⟩ := h
  rcases Deep.open_slice ht hf with ⟨hcs, -⟩ | ⟨a, len, cap, m, n, D, Pl, hcs, hb, hl, hm, hmm, hx, hr⟩
  · simp [Value.cells] at hcs
    obtain ⟨rfl, rfl, rfl⟩ := hcs
    exact ⟨[], row_nil W _, by simp⟩
  · simp [Value.cells] at hcs
    obtain ⟨rfl, rfl, rfl⟩ := hcs
    simp only [if_true] at hmm
    subst hmm
    rw [hC] at hr
    obtain ⟨C, hCC⟩ := Deep.choose_lt (α := List Value) (p := fun i cs => W.cells? 0 (a.add (i * ls.length)) ls.length = some cs ∧ DataW.trod enc P W 0 (fun _ => true) true n e cs = some (D i, Pl i)) (fun i (hi : i < len0) => by
      obtain ⟨cs, h1, h2⟩ := hr i (by omega)
      exact ⟨cs, h1, h2⟩)
    simp only [Prod.mk.injEq] at hx
    have hd' := hx.1
    have hsi : ∀ i, i < len0 → Small P e (D i) := fun i hi k hk => hsm k (by
      rw [hd']
      simp only [DataW.weights, ht, List.mem_cons, List.mem_append]
      exact Or.inr (Or.inl (weightsAll_mem (List.mem_map.2 ⟨i, List.mem_range.2 hi, rfl⟩) hk)))
    have hok : ∀ i, i < len0 → Leavz P W ls (C i) := fun i hi => leaves_of_trodz dp e ls _ _ _ hp (hCC i hi).2 hC (hsi i hi)
    have hcell : ∀ i, i < len0 → ∀ j, j < ls.length → W.cell? ((a.add (i * ls.length)).add j) = (C i)[j]? := fun i hi => (World.cells?_some (hCC i hi).1).2.2
    have hmem : ∀ x ∈ (List.range len0).map C, Leavz P W ls x := fun x hx => by
      obtain ⟨i, hi, rfl⟩ := List.mem_map.1 hx
      exact hok i (List.mem_range.1 hi)
    have hfl := flatten_len ((List.range len0).map C) (fun x hx => (hmem x hx).1)
    have hln : ((List.range len0).map C).length = len0 := by simp
    refine ⟨(List.range len0).map C, ⟨some a, m, by rw [hln], by rw [hln]; exact hl, hm, by rw [hfl], ?_, by simp, ?_⟩, hmem⟩
    · intro u hu
      obtain ⟨x, hx, hux⟩ := List.mem_flatten.1 hu
      exact (hmem x hx).one u hux
    · by_cases h0 : len0 = 0
      · left; subst h0; simp
      · right
        have hc0 := hcell 0 (by omega) 0 hpos
        rw [List.getElem?_eq_getElem (by rw [(hok 0 (by omega)).1]; exact hpos)] at hc0
        have hsp : a.spot = none := by
          have e0 : (a.add (0 * ls.length)).add 0 = a := by simp [Addr.add]
          rw [e0] at hc0
          exact spot_none hc0
        obtain ⟨b, o, spt⟩ := a
        simp only at hsp
        subst hsp
        refine ⟨b, o, rfl, fun j u hj => ?_⟩
        rw [flatten_get hpos _ (fun x hx => (hmem x hx).1)] at hj
        obtain ⟨x, hx, hjx⟩ := Option.bind_eq_some_iff.1 hj
        have hq : j / ls.length < len0 := by
          have := (List.getElem?_eq_some_iff.1 hx).1
          simpa using this
        have hx' : C (j / ls.length) = x := by simpa [hq] using hx
        have := hcell (j / ls.length) hq (j % ls.length) (Nat.mod_lt _ hpos)
        rw [add_off, add_off, hx', hjx] at this
        have e := Nat.div_add_mod j ls.length
        rw [Nat.mul_comm] at e
        rw [Nat.add_assoc, e] at this
        exact this
end Go.Proofs.Ytgcemddobcjpnaa
namespace Go.Proofs.Ytgcemddobcjpnaa
open Go.RowKit Go.ChangeShapes Go.WideShapes

theorem LeafOk.int {P : Program} {W : World} {t : TypeId} {v : Value} {k : IntKind} (h : LeafOk P W t v) (ht : P.underlying t = some (.int k)) : ∃ n, v = .int k n ∧ (Lit.int k n).wf = true := by
  rcases h with h | ⟨e, k', zs, h1, -⟩
  · exact fieldOk.int h ht
  · rw [ht] at h1; cases h1
theorem LeafOk.str {P : Program} {W : World} {t : TypeId} {v : Value} (h : LeafOk P W t v) (ht : P.underlying t = some .string) : ∃ s, v = .string s ∧ s.size ≤ maxLen := by
  rcases h with h | ⟨e, k', zs, h1, -⟩
  · exact fieldOk.str h ht
  · rw [ht] at h1; cases h1
theorem LeafOk.nums {P : Program} {W : World} {t e : TypeId} {v : Value} {k : IntKind} (h : LeafOk P W t v) (ht : P.underlying t = some (.slice e)) (he : P.underlying e = some (.int k)) : ∃ zs : List Int, Row W v 1 zs.length (zs.map (Value.int k)) ∧ (∀ n ∈ zs, (Lit.int k n).wf = true) ∧ zs.length * P.bytesOf e ≤ 140737488351232 := by
  rcases h with h | ⟨e', k', zs, h1, h2, h3, h4, h5⟩
  · rcases h with ⟨k', h1, -⟩ | ⟨h1, -⟩ | ⟨h1, -⟩ <;> (rw [ht] at h1; cases h1)
  · rw [ht] at h1
    cases h1
    rw [he] at h2
    cases h2
    exact ⟨zs, h3, h4, h5⟩

structure Av where
  a : Ac
  vb : Value
  vk : Value
abbrev Av.c (x : Av) : List Value := acC x.a x.vb x.vk
theorem avC_len (x : Av) : (Av.c x).length = 6 := rfl
structure Acs (w0 w : World) (v : Value) (l : List Av) : Prop where
  row : Row w v 6 l.length (rwC Av.c l)
  ok : ∀ x ∈ l, AcOk w0 x.a x.vb x.vk ∧ x.a.n ≤ 9223372036854775807
theorem ex_map {α β : Type} {f : β → α} {p : β → Prop} : ∀ (es : List α), (∀ x ∈ es, ∃ y, x = f y ∧ p y) → ∃ l : List β, es = l.map f ∧ ∀ y ∈ l, p y
  | [], _ => ⟨[], rfl, by simp⟩
  | e :: es, h => by
    obtain ⟨y, h1, h2⟩ := h e (by simp)
    obtain ⟨l, h3, h4⟩ := ex_map es (fun x hx => h x (by simp [hx]))
    exact ⟨y :: l, by rw [h1, h3]; rfl, fun z hz => by
      rcases List.mem_cons.1 hz with rfl | hz
      · exact h2
      · exact h4 z hz⟩
theorem acs_of {W : World} {v : Value} {es : List (List Value)} (hr : Row W v 6 es.length es.flatten) (hf : ∀ x ∈ es, Leavz Try.prog W [3, 9, 9, 29, 3, 31] x) (hb1 : Try.prog.bytesOf 3 = 8) : ∃ l, Acs W W v l := by
  obtain ⟨l, hl, hp⟩ := ex_map (f := Av.c) (p := fun y => AcOk W y.a y.vb y.vk ∧ y.a.n ≤ 9223372036854775807) es (fun x hx => by
    obtain ⟨h1, h2⟩ := hf x hx
    match x, h1, h2 with
    | [v0, v1, v2, v3, v4, v5], _, h2 =>
      obtain ⟨k, rfl, -⟩ := (LeafOk.int (v := v0) (h2 0 _ rfl) Try.underlying3)
      obtain ⟨s, rfl, hs⟩ := (LeafOk.str (v := v1) (h2 1 _ rfl) Try.underlying9)
      obtain ⟨t, rfl, ht⟩ := (LeafOk.str (v := v2) (h2 2 _ rfl) Try.underlying9)
      obtain ⟨zs, hz1, hz2, -⟩ := (LeafOk.nums (v := v3) (h2 3 _ rfl) Try.underlying29 Try.underlying5)
      obtain ⟨n, rfl, hn⟩ := (LeafOk.int (v := v4) (h2 4 _ rfl) Try.underlying3)
      obtain ⟨ks, hk1, hk2, hk3⟩ := (LeafOk.nums (v := v5) (h2 5 _ rfl) Try.underlying31 Try.underlying3)
      refine ⟨⟨⟨k, s, t, zs.map fun n => UInt8.ofNat n.toNat, n, ks⟩, v3, v5⟩, rfl, ⟨hs, ht, ?_, hk1, fun x hx => (i64_wf (hk2 x hx)).2, by rw [hb1] at hk3; show ks.length ≤ _; omega⟩, (i64_wf hn).2⟩
      have e : (zs.map fun n => UInt8.ofNat n.toNat).map B = zs.map (Value.int .u8) := by
        rw [List.map_map]
        refine List.map_congr_left fun n hn => ?_
        have := u8_wf (hz2 n hn)
        simp
        omega
      unfold Rd
      rw [e, List.length_map]
      exact hz1)
  refine ⟨l, ?_, hp⟩
  rw [hl, List.length_map] at hr
  rw [show rwC Av.c l = (l.map Av.c).flatten from by unfold rwC; rw [List.flatMap_def]]
  exact hr
end Go.Proofs.Ytgcemddobcjpnaa
namespace Go.Proofs.Ytgcemddobcjpnaa
open Go.RowKit

def Dk.did (D : Dk) (a : Ac) : Dk := if a.kd % 11 = 8 then D else D.act (a.kd % 11) a
theorem DkI.did {D : Dk} {M : Nat} {N : Int} (h : DkI D M N) (a : Ac) (hb : a.bs.length ≤ 2000) (hn : a.n ≤ 9223372036854775807) : DkI (D.did a) (M + 1) (N + 2001) := by
  unfold Dk.did
  split
  · exact h.mono (by omega) (by omega)
  · exact h.act _ a hb hn
theorem dk00 {D : Dk} {M : Nat} {N : Int} (h : DkI D M N) : DkI ⟨0, [], false, 0, false, 0⟩ M N :=
  ⟨List.Pairwise.nil, by simp, by simp, by simp [Dk.bytes], by simp, by simp, by simp, by have := h.steps; simp only; omega⟩

set_option maxRecDepth 100000 in
set_option maxHeartbeats 4000000 in
theorem act_any (a : Ac) (vb vk : Value) (w0 w : World) (X : Nat → Prop) (wx : World) (b : Nat) (D : Dk) (M : Nat) (N : Int) (h : Od X wx w0 w b D) (gd : Good D M N) (ha : AcOk w0 a vb vk) (hbl : a.bs.length ≤ 2000) :
    Calls Try.prog 29 #[ptr b, .agg #[.int .i64 a.kd, .string a.nm, .string a.nt, vb, .int .i64 a.n, vk]] w fun e w' => e = .returned (.tuple #[]) ∧ Od X wx w0 w' b (D.did a) := by
  have HPK : Hid (∀ w, Calls Try.prog 32 #[.int .i64 a.kd, .int .i64 11] w fun e w' => e = .returned (.int .i64 (a.kd % 11)) ∧ w = w') := Lib.hid (fun w => pickn_any a.kd 11 w (by omega) (by omega))
  have GE : Hid (Good ⟨0, [], false, 0, false, 0⟩ M N) := Lib.hid ⟨dk00 gd.i, gd.m, gd.n⟩
  have GD := Lib.hid gd
  have HA := Lib.hid ha
  have HBL := Lib.hid hbl
  obtain ⟨p, c, rfl, -⟩ := ha.rd.parts
  obtain ⟨wa, hwa⟩ : ∃ wa, wa = w.alloc (.cells #[.int .i64 a.kd, .string a.nm, .string a.nt, .slice p a.bs.length c, .int .i64 a.n, vk] 48) := ⟨_, rfl⟩
  obtain ⟨bx, hbx⟩ : ∃ bx, bx = w.heap.size := ⟨_, rfl⟩
  have HBXA : Hid (Blk wa bx (acC a (.slice p a.bs.length c) vk) 48) := Lib.hid (by rw [hwa, hbx]; exact Blk.made w (acC a (.slice p a.bs.length c) vk) _)
  have HO : Hid (Od X wx w0 wa b D) := Lib.hid (h.kept (by rw [hwa]; exact below_alloc w _))
  obtain ⟨kd, hkd⟩ : ∃ kd, kd = a.kd % 11 := ⟨_, rfl⟩
  rw [← hkd] at HPK
  have HKD := Lib.hid hkd
  clear h gd ha hbl hkd
  go_enter Try.func29, Try.ntmps29
  go_upto_region 1 with fail
  rw [← hwa, ← hbx]
  clear hwa hbx
  have y0 := HBXA.out.cell (j := 0) rfl
  by_cases h8 : kd = 8
  · have q : (kd != 8) = false := by simp [h8]
    have H8 := Lib.hid h8
    clear h8
    go_wp2_with (go_at_call 32; refine (HPK.out _).mono ?_; rintro e w8 ⟨rfl, rfl⟩)
    refine end0 rfl rfl ⟨rfl, ?_⟩
    unfold Dk.did
    rw [if_pos (by rw [← HKD.out]; exact H8.out)]
    exact HO.out
  · have q : (kd != 8) = true := by simp [h8]
    have H8 := Lib.hid h8
    clear h8
    go_wp2_with (first
      | (go_at_call 32; refine (HPK.out _).mono ?_; rintro e w8 ⟨rfl, rfl⟩)
      | (go_at_call 23; refine (rnew_ok 0 _ (by decide) (by decide)).mono ?_; rintro e w3 ⟨g, rfl, hg, hr, hb⟩; have HT : Hid (Tw X wx w0 w3 b g D ⟨0, [], false, 0, false, 0⟩) := Lib.hid (HO.out.beside hg hr hb); have HB3 := Lib.hid (HBXA.out.kept hb); clear hg hr hb; have z0 := HB3.out.cell (j := 0) rfl; have z1 := HB3.out.cell (j := 1) rfl; have z2 := HB3.out.cell (j := 2) rfl; have z3 := HB3.out.cell (j := 3) rfl; have z4 := HB3.out.cell (j := 4) rfl; have z5 := HB3.out.cell (j := 5) rfl)
      | (go_at_call 24; refine (dstep_any a _ vk w0 _ X wx b g D _ M N HT.out GD.out GE.out HA.out HBL.out).mono ?_; rintro e w5 ⟨bb, rfl, -, ht⟩; have HT5 := Lib.hid ht; clear ht))
    refine end0 rfl rfl ⟨rfl, ?_⟩
    unfold Dk.did
    rw [if_neg (by rw [← HKD.out]; exact H8.out)]
    exact HT5.out.od

/-- two disks of the program's -/
structure Two (w0 w : World) (b c : Nat) (D C : Dk) : Prop where
  d : ∃ mb L mc K, PDk w b mb D L ∧ PDk w c mc C K ∧ (∀ k, fpP b mb L k → w0.heap.size ≤ k) ∧ (∀ k, fpP c mc K k → w0.heap.size ≤ k) ∧ ∀ k, fpP b mb L k → ¬ fpP c mc K k
  bel : Below w0.heap.size w0 w
section
variable {w0 w w' : World} {b c : Nat} {D C D' : Dk}
theorem Two.kept (h : Two w0 w b c D C) (hb : Below w.heap.size w w') : Two w0 w' b c D C := by
  obtain ⟨mb, L, mc, K, h1, h2, h3⟩ := h.d
  exact ⟨⟨mb, L, mc, K, h1.kept hb, h2.kept hb, h3⟩, below_and h.bel hb⟩
theorem Two.swap (h : Two w0 w b c D C) : Two w0 w c b C D := by
  obtain ⟨mb, L, mc, K, h1, h2, h3, h4, h5⟩ := h.d
  exact ⟨⟨mc, K, mb, L, h2, h1, h4, h3, fun k hk hk2 => h5 k hk2 hk⟩, h.bel⟩
theorem Two.od (h : Two w0 w b c D C) : Od NoX w w0 w b D := by
  obtain ⟨mb, L, mc, K, h1, h2, h3, h4, h5⟩ := h.d
  exact ⟨⟨mb, L, h1, fun k hk => ⟨h3 k hk, fun hx => hx⟩⟩, fun k hk => hk.elim, Frp.refl _ _, h.bel⟩
theorem Two.run {P : Program} {f : FuncId} {args : Array Value} {r : Value} (h : Two w0 w b c D C) (hc : ∀ X, Od X w w0 w b D → Calls P f args w fun e w' => e = .returned r ∧ Od X w w0 w' b D') : Calls P f args w fun e w' => e = .returned r ∧ Two w0 w' b c D' C := by
  obtain ⟨mb, L, mc, K, h1, h2, h3, h4, h5⟩ := h.d
  refine (hc (fpP c mc K) ⟨⟨mb, L, h1, fun k hk => ⟨h3 k hk, h5 k hk⟩⟩, fun k hk => h2.lt hk, Frp.refl _ _, h.bel⟩).mono fun e w' ⟨he, ho⟩ => ⟨he, ?_⟩
  obtain ⟨mb', L', g1, g2⟩ := ho.d
  exact ⟨⟨mb', L', mc, K, g1, h2.frp ho.fx (fun k hk hn => hn hk), fun k hk => (g2 k hk).1, h4, fun k hk => (g2 k hk).2⟩, ho.bel⟩
theorem Two.start {mc : Nat} {wx : World} (h : Od NoX wx w0 w b D) (h2 : PDk w' c mc C []) (hc : w.heap.size ≤ c) (hm : w.heap.size ≤ mc) (hb : Below w.heap.size w w') : Two w0 w' b c D C := by
  obtain ⟨mb, L, h1, h3⟩ := h.d
  have hs := h.bel.size
  have hfp : ∀ k, fpP c mc [] k → w.heap.size ≤ k := fun k hk => by
    rcases hk with rfl | rfl | ⟨p, hp, -⟩
    · exact hc
    · exact hm
    · cases hp
  exact ⟨⟨mb, L, mc, [], h1.kept hb, h2, fun k hk => (h3 k hk).1, fun k hk => Nat.le_trans hs (hfp k hk), fun k hk hk2 => by have := h1.lt hk; have := hfp k hk2; omega⟩, below_and h.bel hb⟩
end
end Go.Proofs.Ytgcemddobcjpnaa
namespace Go.Proofs.Ytgcemddobcjpnaa
open Go.RowKit

/-- the disk with the fuse, beside the one without -/
def fz (n : Int) (D : Dk) : Dk := { D with fused := true, fuse := n - D.steps }
structure Sim (n : Int) (D C : Dk) : Prop where
  off : D.off = false
  fused : D.fused = false
  eq : C = fz n D
  le : D.steps ≤ n
/-- behind the fuse -/
structure Gone (n : Int) (D C : Dk) : Prop where
  lt : n < D.steps
  off : C.off = true
  st : C.steps = n
def SimTo (n : Int) (D C : Dk) : Prop := Sim n D C ∨ Gone n D C
section
variable {n : Int} {D C : Dk}
theorem Sim.ask (h : Sim n D C) (l : List ByteArray) : C.ask l = D.ask l := by rw [h.eq]; rfl
theorem Sim.get (h : Sim n D C) (s : ByteArray) : C.get s = D.get s := by rw [h.eq]; rfl
theorem Sim.left (h : Sim n D C) : C.left = D.left := by rw [h.eq]; rfl
theorem Sim.mayD (h : Sim n D C) : D.may = true := by unfold Dk.may; rw [h.fused]; rfl
theorem Sim.at_ (h : Sim n D C) (hm : ¬ C.may = true) : D.steps = n := by
  rw [h.eq] at hm
  unfold Dk.may fz at hm
  simp at hm
  omega
theorem Sim.lt (h : Sim n D C) (hm : C.may = true) : D.steps < n := by
  have := h.le
  rw [h.eq] at hm
  unfold Dk.may fz at hm
  simp at hm
  omega
theorem Sim.step (h : Sim n D C) (hm : C.may = true) : Sim n D.stepped C.stepped := by
  have h1 := h.lt hm
  refine ⟨h.off, h.fused, ?_, by show D.steps + 1 ≤ n; omega⟩
  rw [h.eq]
  unfold fz Dk.stepped
  simp only [h.fused, if_true, Dk.mk.injEq, true_and, and_true]
  omega
theorem Sim.withF (h : Sim n D C) (F : List Fl) : Sim n (D.withF F) (C.withF F) := ⟨h.off, h.fused, by rw [h.eq]; rfl, h.le⟩
theorem Sim.F (h : Sim n D C) : C.F = D.F := by rw [h.eq]; rfl
theorem Sim.put (h : Sim n D C) (f : Fl) : Sim n (D.put f) (C.put f) := by
  unfold Dk.put
  rw [h.F]
  exact h.withF _
theorem Sim.cut (h : Sim n D C) (s : ByteArray) : Sim n (D.cut s) (C.cut s) := by
  unfold Dk.cut
  rw [h.F]
  exact h.withF _
theorem Sim.steps (h : Sim n D C) : C.steps = D.steps := by rw [h.eq]; rfl
theorem Sim.gone (h : Sim n D C) (hm : ¬ C.may = true) {E : Dk} (hE : D.steps + 1 ≤ E.steps) : Gone n E C.dead :=
  ⟨by have := h.at_ hm; omega, rfl, by show C.steps = n; rw [h.steps]; exact h.at_ hm⟩
theorem Sim.make (h : Sim n D C) (s : ByteArray) : SimTo n (D.make s).2 (C.make s).2 := by
  unfold Dk.make
  rw [h.ask, h.get, if_pos h.mayD]
  by_cases h1 : D.ask [s] ≠ 0
  · rw [if_pos h1, if_pos h1]; exact .inl h
  rw [if_neg h1, if_neg h1]
  by_cases h2 : (D.get s).isSome = true
  · rw [if_pos h2, if_pos h2]; exact .inl h
  rw [if_neg h2, if_neg h2]
  by_cases h3 : C.may = true
  · rw [if_pos h3]; exact .inl ((h.step h3).put _)
  · rw [if_neg h3]; exact .inr (h.gone h3 (Int.le_refl _))
theorem more_steps : ∀ (k : Nat) (D : Dk) (f : Fl) (l : List UInt8), D.steps ≤ (Dk.more k D f l).2.steps
  | 0, _, _, _ => Int.le_refl _
  | k + 1, D, f, l => by
    unfold Dk.more
    split
    · exact Int.le_refl _
    · split
      · refine Int.le_trans ?_ (more_steps k _ _ _)
        show D.steps ≤ D.steps + 1
        omega
      · exact Int.le_refl _
theorem Sim.more : ∀ (k : Nat) {D C : Dk} (_ : Sim n D C) (f : Fl) (l : List UInt8), SimTo n (Dk.more k D f l).2 (Dk.more k C f l).2
  | 0, _, _, h, _, _ => .inl h
  | k + 1, D, C, h, f, l => by
    unfold Dk.more
    rw [if_pos h.mayD]
    by_cases h1 : l = []
    · rw [if_pos h1, if_pos h1]; exact .inl h
    rw [if_neg h1, if_neg h1]
    by_cases h3 : C.may = true
    · rw [if_pos h3]
      exact Sim.more k ((h.step h3).put _) _ _
    · rw [if_neg h3]
      exact .inr (h.gone h3 (Int.le_trans (Int.le_refl (D.steps + 1)) (more_steps k (D.stepped.addB f (l.take 64)) _ _)))
theorem Sim.append (h : Sim n D C) (s : ByteArray) (l : List UInt8) : SimTo n (D.append s l).2 (C.append s l).2 := by
  unfold Dk.append
  rw [h.ask, h.get, h.left]
  by_cases h1 : D.ask [s] ≠ 0
  · rw [if_pos h1, if_pos h1]; exact .inl h
  rw [if_neg h1, if_neg h1]
  cases h4 : D.get s with
  | none => exact .inl h
  | some f =>
    dsimp only
    by_cases h2 : D.left < (l.length : Int)
    · rw [if_pos h2, if_pos h2]; exact .inl h
    · rw [if_neg h2, if_neg h2]; exact h.more _ f l
theorem Sim.sync (h : Sim n D C) (s : ByteArray) : SimTo n (D.sync s).2 (C.sync s).2 := by
  unfold Dk.sync
  rw [h.ask, h.get]
  by_cases h1 : D.ask [s] ≠ 0
  · rw [if_pos h1, if_pos h1]; exact .inl h
  rw [if_neg h1, if_neg h1]
  cases h4 : D.get s with
  | none => exact .inl h
  | some f =>
    dsimp only
    by_cases h3 : C.may = true
    · rw [if_pos h3, if_pos h.mayD]; exact .inl ((h.step h3).put _)
    · rw [if_neg h3, if_pos h.mayD]; exact .inr (h.gone h3 (Int.le_refl _))
theorem Sim.rename (h : Sim n D C) (s t : ByteArray) : SimTo n (D.rename s t).2 (C.rename s t).2 := by
  unfold Dk.rename
  rw [h.ask, h.get]
  by_cases h1 : D.ask [s, t] ≠ 0
  · rw [if_pos h1, if_pos h1]; exact .inl h
  rw [if_neg h1, if_neg h1]
  cases h4 : D.get s with
  | none => exact .inl h
  | some f =>
    dsimp only
    by_cases h2 : s = t
    · rw [if_pos h2, if_pos h2]; exact .inl h
    rw [if_neg h2, if_neg h2, if_pos h.mayD]
    by_cases h3 : C.may = true
    · rw [if_pos h3]; exact .inl (((h.step h3).cut _).put _)
    · rw [if_neg h3]; exact .inr (h.gone h3 (Int.le_refl _))
theorem Sim.remove (h : Sim n D C) (s : ByteArray) : SimTo n (D.remove s).2 (C.remove s).2 := by
  unfold Dk.remove
  rw [h.ask, h.get]
  by_cases h1 : D.ask [s] ≠ 0
  · rw [if_pos h1, if_pos h1]; exact .inl h
  rw [if_neg h1, if_neg h1]
  cases h4 : D.get s with
  | none => exact .inl h
  | some f =>
    dsimp only
    rw [if_pos h.mayD]
    by_cases h3 : C.may = true
    · rw [if_pos h3]; exact .inl ((h.step h3).cut _)
    · rw [if_neg h3]; exact .inr (h.gone h3 (Int.le_refl _))
theorem Sim.act (h : Sim n D C) (k : Int) (a : Ac) (hk0 : 0 ≤ k) (hk : k ≤ 4) : SimTo n (D.act k a) (C.act k a) := by
  unfold Dk.act
  by_cases h0 : k = 0
  · rw [if_pos h0, if_pos h0]; exact h.make _
  rw [if_neg h0, if_neg h0]
  by_cases h1 : k = 1
  · rw [if_pos h1, if_pos h1]; exact h.append _ _
  rw [if_neg h1, if_neg h1]
  by_cases h2 : k = 2
  · rw [if_pos h2, if_pos h2]; exact h.sync _
  rw [if_neg h2, if_neg h2]
  by_cases h3 : k = 3
  · rw [if_pos h3, if_pos h3]; exact h.rename _ _
  rw [if_neg h3, if_neg h3]
  have h4 : k = 4 := by omega
  rw [if_pos h4, if_pos h4]
  exact h.remove _
theorem Sim.names (h : Sim n D C) : C.names = D.names := by rw [h.eq]; rfl
theorem Sim.leftP (h : Sim n D C) : C.leftP = D.leftP := by rw [h.eq]; rfl
theorem Sim.offC (h : Sim n D C) : C.off = false := by rw [h.eq]; exact h.off
theorem Sim.start (r n : Int) (h : 0 ≤ n) : Sim n ⟨r, [], false, 0, false, 0⟩ ((⟨r, [], false, 0, false, 0⟩ : Dk).setFuse n).2 := by
  refine ⟨rfl, rfl, ?_, h⟩
  unfold Dk.setFuse fz
  rw [if_neg (by simp), if_neg (by omega)]
  simp
end
end Go.Proofs.Ytgcemddobcjpnaa
namespace Go.Proofs.Ytgcemddobcjpnaa
open Go.RowKit

set_option maxRecDepth 100000 in
set_option maxHeartbeats 2000000 in
theorem diskFuse_bad (r n : Int) (v : Value) (l : List Av) (w : World) (h : Acs w w v l) (hr : r < 0 ∨ 1073741824 < r) :
    Calls Try.prog 7 #[.int .i64 r, v, .int .i64 n] w fun e w' => e = .returned (.bool true) ∧ Below w.heap.size w w' := by
  obtain ⟨p, c, rfl, hc, hm, -⟩ := h.row
  have HR := Lib.hid hr
  clear h hr
  go_enter Try.func7, Try.ntmps7
  go_wp2_with (first
    | (go_at_call 8; refine (dlives _).mono ?_; rintro e w1 ⟨rfl, hb⟩; have HB := Lib.hid hb; clear hb)
    | (go_at_call 9; refine (new_bad r _ HR.out).mono ?_; rintro e w2 ⟨rfl, rfl⟩))
  go_ret
  exact ⟨rfl, HB.out⟩

set_option maxRecDepth 100000 in
set_option maxHeartbeats 4000000 in
theorem diskFuse_in (r n : Int) (v : Value) (l : List Av) (w : World) (h : Acs w w v l) (h0 : 0 ≤ r) (h1 : r ≤ 1073741824) :
    Calls Try.prog 7 #[.int .i64 r, v, .int .i64 n] w fun e w' => e = .returned (.bool true) ∧ Below w.heap.size w w' := by
  have H := Lib.hid h
  obtain ⟨p, c, rfl, hc, hm, -, -, -, hat⟩ := h.row
  have HAT := Lib.hid hat
  have hml : maxLen ≤ 9223372036854775807 := by decide
  have hll : l.length ≤ 9223372036854775807 := by omega
  have H0 := Lib.hid h0
  have H1 := Lib.hid h1
  clear h hat hml hm hc h0 h1
  go_enter Try.func7, Try.ntmps7
  by_cases hbig : 200 < l.length
  · have i1 : (200 : Int) < (l.length : Int) := by omega
    go_wp2_with (first
      | (go_at_call 8; refine (dlives _).mono ?_; rintro e w1 ⟨rfl, hb⟩; have HB := Lib.hid hb; clear hb)
      | (go_at_call 9; refine (od_new r w _ HB.out H0.out H1.out).mono ?_; rintro e w2 ⟨b, rfl, -, ho, -⟩; have HB := Lib.hid ho.bel; clear ho))
    go_ret
    exact ⟨rfl, HB.out⟩
  · have i1 : ¬ (200 : Int) < (l.length : Int) := by omega
    have HLB : Hid (l.length ≤ 200) := Lib.hid (by omega)
    obtain ⟨m, hm⟩ : ∃ m, m = n % 300 := ⟨_, rfl⟩
    have hm0 : 0 ≤ m := by omega
    have hm1 : m ≤ 9223372036854775807 := by omega
    have HPK : Hid (∀ w, Calls Try.prog 32 #[.int .i64 n, .int .i64 300] w fun e w' => e = .returned (.int .i64 m) ∧ w = w') := Lib.hid (fun w => by rw [hm]; exact pickn_any n 300 w (by omega) (by omega))
    have HSF : Hid (((⟨r, [], false, 0, false, 0⟩ : Dk).setFuse m).1 = 0) := Lib.hid (by unfold Dk.setFuse; rw [if_neg (by simp), if_neg (by omega)])
    have HI0 : Hid (DkI ⟨r, [], false, 0, false, 0⟩ 0 0) := Lib.hid ⟨List.Pairwise.nil, by simp, by simp, by simpa [Dk.bytes] using H0.out, H1.out, by simp, by simp, by simp⟩
    have HJ0 : Hid (DkI ((⟨r, [], false, 0, false, 0⟩ : Dk).setFuse m).2 0 0) := Lib.hid (HI0.out.setFuse m hm1)
    have HS0 : Hid (Sim m ⟨r, [], false, 0, false, 0⟩ ((⟨r, [], false, 0, false, 0⟩ : Dk).setFuse m).2) := Lib.hid (Sim.start r m hm0)
    clear hm hbig hm0 hm1
    go_wp2_with (first
      | (go_at_call 8; refine (dlives _).mono ?_; rintro e w1 ⟨rfl, hb⟩; have HB := Lib.hid hb; clear hb)
      | (go_at_call 9; refine (od_new r w _ HB.out H0.out H1.out).mono ?_; rintro e w2 ⟨b, rfl, -, ho, -⟩; have HO := Lib.hid ho; clear ho HB)
      | (go_at_call 9; refine (new_ok r _ H0.out H1.out).mono ?_; rintro e w3 ⟨g, mb, rfl, hg, hmb, hp, hbl⟩; have HT : Hid (Two w w3 b g ⟨r, [], false, 0, false, 0⟩ ⟨r, [], false, 0, false, 0⟩) := Lib.hid (Two.start HO.out hp hg hmb hbl); clear hg hmb hp hbl)
      | (go_at_call 32; refine (HPK.out _).mono ?_; rintro e w8 ⟨rfl, rfl⟩)
      | (go_at_call 16; refine (HT.out.swap.run (fun X ho => od_fuse ho m)).mono ?_; rw [HSF.out]; rintro e w4 ⟨rfl, ht⟩; have HU := Lib.hid ht.swap; clear ht))
    clear HPK HSF HT HO
    generalize ((⟨r, [], false, 0, false, 0⟩ : Dk).setFuse m).2 = C0 at HJ0 HS0 HU
    generalize (⟨r, [], false, 0, false, 0⟩ : Dk) = D0 at HI0 HS0 HU
    go_loopw [11] (fun i wr => ∃ (k : Nat) (D C : Dk), k ≤ l.length ∧ i = .int .i64 (k : Int) ∧ Hid (DkI D k (2001 * (k : Int))) ∧ Hid (DkI C k (2001 * (k : Int))) ∧ Hid (Sim m D C) ∧ Hid (Two w wr b g D C)) (fun i _ => l.length - (intOf i).toNat)
    case atStart => exact ⟨0, _, _, Nat.zero_le _, rfl, HI0, HJ0, HS0, HU⟩
    case round =>
      obtain ⟨k, D, C, hk, rfl, HI, HJ, HS, HW⟩ := hrel
      by_cases hlt : k < l.length
      · have i2 : (k : Int) < (l.length : Int) := by omega
        rcases HAT.out with ha | ⟨ab, o, rfl, ha⟩
        · exact absurd (congrArg List.length ha) (by rw [rwC_len avC_len]; simp; omega)
        obtain ⟨x, hx⟩ : ∃ x, x = l[k] := ⟨_, rfl⟩
        have hok := H.out.ok x (by rw [hx]; exact List.getElem_mem hlt)
        have HOK := Lib.hid hok
        have hc0 : ∀ j u, j < 6 → (Av.c x)[j]? = some u → w.cell? ⟨ab, o + (k * 6 + j), none⟩ = some u := fun j u hj hu => ha _ u (by rw [rwC_at avC_len hlt hj, ← hx]; exact hu)
        obtain ⟨a, vb, vk⟩ := x
        obtain ⟨pb, cb, hvb, -, -, -⟩ := hok.1.rd.parts
        simp only at hvb
        subst hvb
        have HCS : Hid (∀ wq, Below w.heap.size w wq → wq.cell? ⟨ab, o + k * 6, none⟩ = some (.int .i64 a.kd) ∧ wq.cell? ⟨ab, o + k * 6 + 1, none⟩ = some (.string a.nm) ∧ wq.cell? ⟨ab, o + k * 6 + 2, none⟩ = some (.string a.nt) ∧ wq.cell? ⟨ab, o + k * 6 + 3, none⟩ = some (.slice pb a.bs.length cb) ∧ wq.cell? ⟨ab, o + k * 6 + 4, none⟩ = some (.int .i64 a.n) ∧ wq.cell? ⟨ab, o + k * 6 + 5, none⟩ = some vk) := Lib.hid (fun wq hb => by
          have x0 := cell_kept (hc0 0 (.int .i64 a.kd) (by omega) rfl) hb
          have x1 := cell_kept (hc0 1 (.string a.nm) (by omega) rfl) hb
          have x2 := cell_kept (hc0 2 (.string a.nt) (by omega) rfl) hb
          have x3 := cell_kept (hc0 3 (.slice pb a.bs.length cb) (by omega) rfl) hb
          have x4 := cell_kept (hc0 4 (.int .i64 a.n) (by omega) rfl) hb
          have x5 := cell_kept (hc0 5 vk (by omega) rfl) hb
          simp only [Nat.add_assoc] at *
          exact ⟨by simpa using x0, x1, x2, x3, x4, x5⟩)
        obtain ⟨x0, x1, x2, x3, x4, x5⟩ := HCS.out wr HW.out.bel
        have HMON : Hid (DkI D (k + 1) (2001 * ((k + 1 : Nat) : Int)) ∧ DkI C (k + 1) (2001 * ((k + 1 : Nat) : Int))) := Lib.hid ⟨HI.out.mono (by omega) (by omega), HJ.out.mono (by omega) (by omega)⟩
        obtain ⟨kd, hkd⟩ : ∃ kd, kd = a.kd % 11 := ⟨_, rfl⟩
        have HPK : Hid (∀ w, Calls Try.prog 32 #[.int .i64 a.kd, .int .i64 11] w fun e w' => e = .returned (.int .i64 kd) ∧ w = w') := Lib.hid (fun w => by rw [hkd]; exact pickn_any a.kd 11 w (by omega) (by omega))
        have HKD := Lib.hid hkd
        clear ha hc0 hok hx hkd
        by_cases hbl : 2000 < a.bs.length
        · have i3 : (2000 : Int) < (a.bs.length : Int) := by omega
          go_wp2_with (go_at_call 32; refine (HPK.out _).mono ?_; rintro e w8 ⟨rfl, rfl⟩)
          go_roundw
          case rel => exact ⟨k + 1, _, _, hlt, by go_num, Lib.hid HMON.out.1, Lib.hid HMON.out.2, HS, HW⟩
          case measure => simp [intOf]; omega
        by_cases h4 : 4 < kd
        · have i3 : ¬ (2000 : Int) < (a.bs.length : Int) := by omega
          go_wp2_with (go_at_call 32; refine (HPK.out _).mono ?_; rintro e w8 ⟨rfl, rfl⟩)
          go_roundw
          case rel => exact ⟨k + 1, _, _, hlt, by go_num, Lib.hid HMON.out.1, Lib.hid HMON.out.2, HS, HW⟩
          case measure => simp [intOf]; omega
        have i3 : ¬ (2000 : Int) < (a.bs.length : Int) := by omega
        have HBL : Hid (a.bs.length ≤ 2000) := Lib.hid (by omega)
        have HG : Hid (Good D k (2001 * (k : Int))) := Lib.hid ⟨HI.out, by have := HLB.out; omega, by have := HLB.out; omega⟩
        have HGC : Hid (Good C k (2001 * (k : Int))) := Lib.hid ⟨HJ.out, by have := HLB.out; omega, by have := HLB.out; omega⟩
        obtain ⟨D1, hD1⟩ : ∃ D1, D1 = D.did a := ⟨_, rfl⟩
        obtain ⟨C1, hC1⟩ : ∃ C1, C1 = C.did a := ⟨_, rfl⟩
        have hk0 := HKD.out
        have HI2 : Hid (DkI D1 (k + 1) (2001 * ((k + 1 : Nat) : Int))) := Lib.hid (by rw [hD1]; exact (HI.out.did a HBL.out HOK.out.2).mono (Nat.le_refl _) (by omega))
        have HJ2 : Hid (DkI C1 (k + 1) (2001 * ((k + 1 : Nat) : Int))) := Lib.hid (by rw [hC1]; exact (HJ.out.did a HBL.out HOK.out.2).mono (Nat.le_refl _) (by omega))
        have hto : SimTo m D1 C1 := by
          rw [hD1, hC1]
          unfold Dk.did
          rw [if_neg (by omega), if_neg (by omega)]
          exact HS.out.act _ a (by omega) (by omega)
        have HG2 : Hid (Good D1 (k + 1) (2001 * ((k + 1 : Nat) : Int))) := Lib.hid ⟨HI2.out, by have := HLB.out; omega, by have := HLB.out; omega⟩
        have HGC2 : Hid (Good C1 (k + 1) (2001 * ((k + 1 : Nat) : Int))) := Lib.hid ⟨HJ2.out, by have := HLB.out; omega, by have := HLB.out; omega⟩
        have HAD : Hid (∀ w1, Two w w1 b g D C → Calls Try.prog 29 #[ptr b, .agg #[.int .i64 a.kd, .string a.nm, .string a.nt, .slice pb a.bs.length cb, .int .i64 a.n, vk]] w1 fun e w' => e = .returned (.tuple #[]) ∧ Two w w' b g D1 C) := Lib.hid (fun w1 ht => ht.run (fun X ho => by rw [hD1]; exact act_any a _ vk w w1 X w1 b D k _ ho HG.out HOK.out.1 HBL.out))
        have HAC : Hid (∀ w1, Two w w1 b g D1 C → Calls Try.prog 29 #[ptr g, .agg #[.int .i64 a.kd, .string a.nm, .string a.nt, .slice pb a.bs.length cb, .int .i64 a.n, vk]] w1 fun e w' => e = .returned (.tuple #[]) ∧ Two w w' b g D1 C1) := Lib.hid (fun w1 ht => by
          have := ht.swap.run (f := 29) (D' := C1) (fun X ho => by rw [hC1]; exact act_any a (.slice pb a.bs.length cb) vk w w1 X w1 g C k _ ho HGC.out HOK.out.1 HBL.out)
          exact this.mono fun e w' ⟨he, h⟩ => ⟨he, h.swap⟩)
        clear hbl hD1 hC1 hk0 HOK HG HGC HKD HMON HI HJ
        have ile : D.steps ≤ m := HS.out.le
        rcases hto with hs | hg
        · have j1 : ¬ m < D1.steps := by have := hs.le; omega
          have j2 : (D1.steps != D1.steps) = false := by simp
          have j3 : (D1.leftP != D1.leftP) = false := by simp
          have HSC := Lib.hid hs.steps
          have HOC := Lib.hid hs.offC
          have HNC := Lib.hid hs.names
          have HLC := Lib.hid hs.leftP
          have HS2 := Lib.hid hs
          clear hs
          go_wp2_with (first
            | (go_at_call 32; refine (HPK.out _).mono ?_; rintro e w8 ⟨rfl, rfl⟩)
            | (go_at_call 28; refine (od_steps HW.out.od).mono ?_; rintro e w5 ⟨rfl, rfl⟩; clear x0 x1 x2 x3 x4 x5; obtain ⟨x0, x1, x2, x3, x4, x5⟩ := HCS.out _ HW.out.bel)
            | (go_at_call 29; refine (HAD.out _ HW.out).mono ?_; rintro e w5 ⟨rfl, ht⟩; have HT5 := Lib.hid ht; clear ht HW x0 x1 x2 x3 x4 x5; obtain ⟨x0, x1, x2, x3, x4, x5⟩ := HCS.out _ HT5.out.bel)
            | (go_at_call 29; refine (HAC.out _ HT5.out).mono ?_; rintro e w6 ⟨rfl, ht⟩; have HT6 := Lib.hid ht; clear ht HT5 x0 x1 x2 x3 x4 x5)
            | (go_at_call 28; refine (od_steps HT6.out.od).mono ?_; rintro e w5 ⟨rfl, rfl⟩)
            | (go_at_call 28; refine (od_steps HT6.out.swap.od).mono ?_; rw [HSC.out]; rintro e w5 ⟨rfl, rfl⟩)
            | (go_at_call 17; refine (od_on HT6.out.swap.od).mono ?_; rw [HOC.out]; rintro e w5 ⟨rfl, rfl⟩)
            | (go_at_call 21; refine (od_names HT6.out.od HG2.out).mono ?_; rintro e w7 ⟨v7, rfl, ho, hb⟩; have HT7 := Lib.hid (HT6.out.kept hb); have HN7 := Lib.hid ho; clear ho hb HT6)
            | (go_at_call 21; refine (od_names HT7.out.swap.od HGC2.out).mono ?_; rw [HNC.out]; rintro e w8 ⟨v8, rfl, ho, hb⟩; have HT8 := Lib.hid (HT7.out.kept hb); have HN8 := Lib.hid (own_keep HN7.out hb); have HN9 := Lib.hid ho; clear ho hb HT7 HN7)
            | (go_at_call 20; refine (same_own2 D1.names HN8.out HN9.out).mono ?_; rintro e w9 ⟨rfl, hb⟩; have HT9 := Lib.hid (HT8.out.kept hb); clear hb HT8 HN8 HN9)
            | (go_at_call 18; refine (od_left HT9.out.od HG2.out).mono ?_; rintro e wa ⟨rfl, hb⟩; have HTa := Lib.hid (HT9.out.kept hb); clear hb HT9)
            | (go_at_call 18; refine (od_left HTa.out.swap.od HGC2.out).mono ?_; rw [HLC.out]; rintro e wb ⟨rfl, hb⟩; have HTb := Lib.hid (HTa.out.kept hb); clear hb HTa))
          go_roundw
          case rel => exact ⟨k + 1, _, _, hlt, by go_num, HI2, HJ2, HS2, HTb⟩
          case measure => simp [intOf]; omega
        · have j1 : m < D1.steps := hg.lt
          have HSC := Lib.hid hg.st
          have HOC := Lib.hid hg.off
          clear hg
          go_wp2_with (first
            | (go_at_call 32; refine (HPK.out _).mono ?_; rintro e w8 ⟨rfl, rfl⟩)
            | (go_at_call 28; refine (od_steps HW.out.od).mono ?_; rintro e w5 ⟨rfl, rfl⟩; clear x0 x1 x2 x3 x4 x5; obtain ⟨x0, x1, x2, x3, x4, x5⟩ := HCS.out _ HW.out.bel)
            | (go_at_call 29; refine (HAD.out _ HW.out).mono ?_; rintro e w5 ⟨rfl, ht⟩; have HT5 := Lib.hid ht; clear ht HW x0 x1 x2 x3 x4 x5; obtain ⟨x0, x1, x2, x3, x4, x5⟩ := HCS.out _ HT5.out.bel)
            | (go_at_call 29; refine (HAC.out _ HT5.out).mono ?_; rintro e w6 ⟨rfl, ht⟩; have HT6 := Lib.hid ht; clear ht HT5 x0 x1 x2 x3 x4 x5)
            | (go_at_call 28; refine (od_steps HT6.out.od).mono ?_; rintro e w5 ⟨rfl, rfl⟩)
            | (go_at_call 28; refine (od_steps HT6.out.swap.od).mono ?_; rw [HSC.out]; rintro e w5 ⟨rfl, rfl⟩)
            | (go_at_call 17; refine (od_on HT6.out.swap.od).mono ?_; rw [HOC.out]; rintro e w5 ⟨rfl, rfl⟩))
          go_ret
          exact ⟨by simp [ile], HT6.out.bel⟩
      · obtain rfl : k = l.length := by omega
        go_wp2
        go_ret
        exact ⟨rfl, HW.out.bel⟩
theorem diskFuse_walk (r : Int) (v : Value) (es : List (List Value)) (n : Int) (w : World) (_ : (Lit.int .i64 r).wf = true) (hr : Row w v 6 es.length es.flatten) (hf : ∀ x ∈ es, Leavz Try.prog w [3, 9, 9, 29, 3, 31] x) (_ : (Lit.int .i64 n).wf = true) :
    Calls Try.prog 7 #[.int .i64 r, v, .int .i64 n] w fun e w' => e = .returned (.bool true) ∧ Below w.heap.size w w' := by
  obtain ⟨l, hl⟩ := acs_of hr hf (by kernel_rfl)
  by_cases h : r < 0 ∨ 1073741824 < r
  · exact diskFuse_bad r n v l w hl h
  · exact diskFuse_in r n v l w hl (by omega) (by omega)
end Go.Proofs.Ytgcemddobcjpnaa
