/- Texts of one proof, laid together: Open6, Dacs, DkAct, DkpPlain, DkKp, WDkKeeps. No condition of ours. -/
import Derived.Test.YtgcemddobcjpnaaDK8
namespace Go.Proofs.Ytgcemddobcjpnaa
open Go.ChangeShapes Go.WideShapes Go.ChangeAt Go.RowKit

section
variable (P : Program)
/-- a slice of numbers -/
def numsType (t : TypeId) : Bool := match P.underlying t with
  | some (.slice e) => match P.underlying e with
    | some (.int _) => P.cellsOf e == 1
    | _ => false
  | _ => false
/-- a leaf: a plain value, or a slice of numbers -/
def LeafOk (W : World) (t : TypeId) (v : Value) : Prop := fieldOk P t v ∨ ∃ (e : TypeId) (k : IntKind) (zs : List Int), P.underlying t = some (.slice e) ∧ P.underlying e = some (.int k) ∧ Row W v 1 zs.length (zs.map (Value.int k)) ∧ (∀ n ∈ zs, (Lit.int k n).wf = true) ∧ zs.length * P.bytesOf e ≤ 140737488351232
/-- the leaves of fields that lie one behind the other -/
def leafsM (rec : TypeId → Option (List TypeId)) : Nat → List Field → Option (List TypeId)
  | _, [] => some []
  | o, f :: fs => match rec f.type with
    | some l => if f.offset == o && P.cellsOf f.type == l.length then (leafsM rec (o + l.length) fs).map (l ++ ·) else none
    | none => none
def leafz : Nat → TypeId → Option (List TypeId)
  | 0, _ => none
  | n + 1, t => if plainType P t || numsType P t then some [t] else match P.underlying t with
    | some (.struct fs) => leafsM P (leafz n) 0 fs.toList
    | _ => none
end

/-- cells read as leaves -/
def Leavz (P : Program) (W : World) (ls : List TypeId) (cs : List Value) : Prop := cs.length = ls.length ∧ ∀ i t, ls[i]? = some t → LeafOk P W t (cs.getD i undef)

theorem Leavz.append {P : Program} {W : World} {ls ms : List TypeId} {cs ds : List Value} (h : Leavz P W ls cs) (k : Leavz P W ms ds) : Leavz P W (ls ++ ms) (cs ++ ds) := by
  refine ⟨by simp [h.1, k.1], fun i t hi => ?_⟩
  by_cases hlt : i < ls.length
  · rw [List.getElem?_append_left hlt] at hi
    have := h.2 i t hi
    rwa [List.getD_eq_getElem?_getD, List.getElem?_append_left (by rw [h.1]; exact hlt), ← List.getD_eq_getElem?_getD]
  · rw [List.getElem?_append_right (by omega)] at hi
    have := k.2 _ t hi
    rwa [List.getD_eq_getElem?_getD, List.getElem?_append_right (by rw [h.1]; omega), ← List.getD_eq_getElem?_getD, h.1]

section
variable {H : Type} {enc : TypeId × Value → H} {P : Program} {W : World}
/-- no part of it is greater than the form's reach -/
def Small (P : Program) (t : TypeId) (d : DataW H) : Prop := ∀ m ∈ d.weights P t, m ≤ 140737488351232
theorem weightsAll_mem {e : TypeId} : ∀ {l : List (DataW H)} {d : DataW H} {n : Nat}, d ∈ l → n ∈ d.weights P e → n ∈ DataW.weightsAll P e l
  | a :: l, d, n, hd, hn => by
    simp only [DataW.weightsAll, List.mem_append]
    rcases List.mem_cons.1 hd with rfl | hd
    · exact Or.inl hn
    · exact Or.inr (weightsAll_mem hd hn)
theorem nums_of_trod {t : TypeId} {n : Nat} {cs : List Value} {x : DataW H × List MemPlace} (hp : numsType P t = true) (h : DataW.trod enc P W 0 (fun _ => true) true n t cs = some x) (hw : Small P t x.1) : ∃ v, cs = [v] ∧ LeafOk P W t v := by
  unfold numsType at hp
  split at hp
  · rename_i e ht
    split at hp
    · rename_i k he
      have hc : P.cellsOf e = 1 := by simpa using hp
      rcases open_ints ht he hc h with ⟨hcs, -⟩ | ⟨x, l, c, zs, hcs, _, hl, hm, hz, hx, hcell, hwz⟩
      · exact ⟨_, hcs, Or.inr ⟨e, k, [], ht, he, row_nil W 1, by simp, by simp⟩⟩
      · refine ⟨_, hcs, Or.inr ⟨e, k, zs.take l, ht, he, ?_, fun n hn => hwz n (List.mem_of_mem_take hn), ?_⟩⟩
        rotate_left
        · have h1 := hw (((lits (H := H) k (zs.take l)).length + (lits (H := H) k (zs.drop l)).length) * P.bytesOf e) (by rw [hx]; simp [DataW.weights, ht])
          have h2 : (zs.take l).length * P.bytesOf e ≤ ((lits (H := H) k (zs.take l)).length + (lits (H := H) k (zs.drop l)).length) * P.bytesOf e := Nat.mul_le_mul_right _ (by simp [lits])
          exact Nat.le_trans h2 h1
        simp only [if_true] at hz
        have htl : (zs.take l).length = l := by simp; omega
        refine ⟨some x, c, by rw [htl], by rw [htl]; exact hl, hm, by simp, ?_, by simp, ?_⟩
        · intro u hu
          obtain ⟨n, _, rfl⟩ := List.mem_map.1 hu
          rfl
        · by_cases h0 : l = 0
          · left; subst h0; simp
          · right
            have hc0 := hcell 0 (by omega)
            have hsp : x.spot = none := by
              have e0 : x.add 0 = x := by simp [Addr.add]
              rw [e0] at hc0
              unfold World.cell? at hc0
              split at hc0
              · split at hc0
                · simp at hc0
                · rename_i h; simpa using h
              · simp at hc0
            obtain ⟨b, o, sp⟩ := x
            simp only at hsp
            subst hsp
            refine ⟨b, o, rfl, fun i u hi => ?_⟩
            rw [← add_off]
            have hi2 : i < zs.length := by
              have := (List.getElem?_eq_some_iff.1 hi).1
              simp at this; omega
            rw [hcell i hi2]
            have hi1 : i < l := by
              have := (List.getElem?_eq_some_iff.1 hi).1
              simp at this; omega
            rw [List.getElem?_map, List.getElem?_take, if_pos hi1, List.getElem?_eq_getElem hi2] at hi
            simp at hi
            rw [← hi]
            simp [List.getD, hi2]
    · cases hp
  · cases hp
theorem leaf_one {t : TypeId} {v : Value} (h : LeafOk P W t v) : v.oneCell' = true := by
  rcases h with h | ⟨e, k, zs, -, -, h, -, -⟩
  · exact h.one
  · obtain ⟨p, c, rfl, -⟩ := h
    rfl

theorem leavesM {rec : TypeId → Option (List TypeId)} {cs : List Value} (hrec : ∀ t l n ds x, rec t = some l → DataW.trod enc P W 0 (fun _ => true) true n t ds = some x → Small P t x.1 → Leavz P W l ds) :
    ∀ (fs : List Field) (o : Nat) (ls : List TypeId), leafsM P rec o fs = some ls → (∀ f ∈ fs, ∃ n x, DataW.trod enc P W 0 (fun _ => true) true n f.type ((cs.drop f.offset).take (P.cellsOf f.type)) = some x ∧ Small P f.type x.1) → Leavz P W ls ((cs.drop o).take ls.length)
  | [], o, ls, h, _ => by
    simp only [leafsM, Option.some.injEq] at h
    subst h
    exact ⟨by simp, fun i t hi => by simp at hi⟩
  | f :: fs, o, ls, h, hf => by
    simp only [leafsM] at h
    cases hr : rec f.type with
    | none => rw [hr] at h; cases h
    | some l =>
      rw [hr] at h
      simp only at h
      split at h
      · rename_i hc
        simp only [Bool.and_eq_true, beq_iff_eq] at hc
        cases hq : leafsM P rec (o + l.length) fs with
        | none => rw [hq] at h; cases h
        | some ms =>
          rw [hq] at h
          simp only [Option.map_some, Option.some.injEq] at h
          subst h
          obtain ⟨n, x, hx, hw⟩ := hf f (by simp)
          have h1 := hrec f.type l n _ x hr hx hw
          rw [hc.1, hc.2] at h1
          have h2 := leavesM hrec fs (o + l.length) ms hq (fun g hg => hf g (by simp [hg]))
          have := h1.append h2
          have e : (cs.drop o).take l.length ++ (cs.drop (o + l.length)).take ms.length = (cs.drop o).take (l ++ ms).length := by
            rw [List.length_append, ← List.drop_drop, List.take_add]
          rwa [e] at this
      · cases h
theorem leaves_of_trodz : ∀ (d : Nat) (t : TypeId) (ls : List TypeId) (n : Nat) (cs : List Value) (x : DataW H × List MemPlace), leafz P d t = some ls → DataW.trod enc P W 0 (fun _ => true) true n t cs = some x → P.cellsOf t = ls.length → Small P t x.1 → Leavz P W ls cs
  | 0, _, _, _, _, _, h, _, _, _ => by cases h
  | d + 1, t, ls, n, cs, x, h, hx, hC, hw => by
    simp only [leafz] at h
    split at h
    · rename_i hp
      simp only [Option.some.injEq] at h
      subst h
      have hone : ∃ v, cs = [v] ∧ LeafOk P W t v := by
        rw [Bool.or_eq_true] at hp
        rcases hp with hp | hp
        · have hv : ∃ v, cs = [v] := by
            unfold plainType at hp
            split at hp
            · rename_i k hk; obtain ⟨m, h1, -⟩ := DataW.trod_int hk hx; exact ⟨_, h1⟩
            · rename_i hk; obtain ⟨m, h1, -⟩ := DataW.trod_string hk hx; exact ⟨_, h1⟩
            · rename_i hk; obtain ⟨m, h1, -⟩ := DataW.trod_bool hk hx; exact ⟨_, h1⟩
            · cases hp
          obtain ⟨v, rfl⟩ := hv
          exact ⟨v, rfl, Or.inl (field_of_trod hp hx)⟩
        · exact nums_of_trod hp hx hw
      obtain ⟨v, rfl, hv⟩ := hone
      refine ⟨rfl, fun i t' hi => ?_⟩
      match i, hi with
      | 0, hi =>
        simp only [List.getElem?_cons_zero, Option.some.injEq] at hi
        subst hi
        exact hv
    · split at h
      · rename_i fs hs
        obtain ⟨xs, m, -, hxe, hl, hxl, hf⟩ := DataW.trod_struct hs hx
        have := leavesM (cs := cs) (enc := enc) (W := W) (rec := fun t => (leafz P d t).bind fun l => if P.cellsOf t = l.length then some l else none) (fun t l n ds x h1 h2 hw2 => by
          cases hq : leafz P d t with
          | none => rw [hq] at h1; cases h1
          | some l' =>
            rw [hq] at h1
            simp only [Option.bind_some] at h1
            split at h1
            · rename_i hc
              simp only [Option.some.injEq] at h1
              subst h1
              exact leaves_of_trodz d t _ n ds x hq h2 hc hw2
            · cases h1) fs.toList 0 ls (by
          have key : ∀ (gs : List Field) (o : Nat) (ms : List TypeId), leafsM P (leafz P d) o gs = some ms → leafsM P (fun t => (leafz P d t).bind fun l => if P.cellsOf t = l.length then some l else none) o gs = some ms := by
            intro gs
            induction gs with
            | nil => intro o ms h; exact h
            | cons g gs ih =>
              intro o ms h
              simp only [leafsM] at h ⊢
              cases hq : leafz P d g.type with
              | none => rw [hq] at h; cases h
              | some l =>
                rw [hq] at h
                simp only at h
                split at h
                · rename_i hc
                  have hc' := hc
                  simp only [Bool.and_eq_true, beq_iff_eq] at hc'
                  simp only [Option.bind_some, hc'.2, if_true]
                  rw [if_pos (by simp [hc'.1])]
                  cases hr : leafsM P (leafz P d) (o + l.length) gs with
                  | none => rw [hr] at h; cases h
                  | some rs =>
                    rw [hr] at h
                    rw [ih _ _ hr]
                    exact h
                · cases h
          exact key _ _ _ h) (fun f hf' => by
          obtain ⟨i, hi, rfl⟩ := List.getElem_of_mem hf'
          have := hf i fs[i] (Array.getElem?_eq_getElem (by simpa using hi))
          have hi' : i < xs.length := by rw [hxl]; simpa using hi
          rw [List.getElem?_eq_getElem hi'] at this
          refine ⟨_, _, by simpa using this, fun k hk => hw k ?_⟩
          rw [hxe]
          have h7 : (fs.toList.map (·.type))[i]? = some fs[i].type := by rw [List.getElem?_map, List.getElem?_eq_getElem (by simpa using hi)]; simp
          have h8 : (xs.map (·.1))[i]? = some xs[i].1 := by rw [List.getElem?_map, List.getElem?_eq_getElem hi']; rfl
          have := DataW.weights_mem_each (P := P) h7 h8 k (by simpa using hk)
          simpa [DataW.weights, hs] using this)
        rw [List.drop_zero, List.take_of_length_le (by rw [hl, hC]; exact Nat.le_refl _)] at this
        exact this
      · cases h
end

theorem small_of {H : Type} {P : Program} {t : TypeId} {d : DataW H} {ts : List TypeId} {ds : List (DataW H)} {j : Nat} (hsz : (DataW.weightsEach P ts ds).all (· ≤ reachBytes) = true) (hj : ts[j]? = some t) (hd : ds[j]? = some d) : Small P t d := fun m hm => by
  have := List.all_eq_true.1 hsz _ (DataW.weights_mem_each hj hd m hm)
  have h4 : reachBytes = 140737488351232 := by decide
  simp at this
  omega
/-- a struct by value -/
theorem open_deepz {H : Type} {enc : TypeId × Value → H} {P : Program} {W : World} {t : TypeId} {fs : Array Field} {v : Value} {d : DataW H} {ps : List MemPlace} {r : Reach} {b0 : Nat} {ls : List TypeId}
    (hs : P.underlying t = some (.struct fs)) (dp : Nat) (hp : leafz P dp t = some ls) (hC : P.cellsOf t = ls.length) (hval : Value.okWide P W r b0 t v) (h : DataW.Trod enc P W 0 (fun _ => true) true t v d ps) (hsm : Small P t d) :
    ∃ cs : List Value, v = .agg cs.toArray ∧ Leavz P W ls cs := by
  obtain ⟨cs, rfl, -⟩ := okWide_struct hs hval
  obtain ⟨fuel, hf⟩ := h
  have := leaves_of_trodz dp t ls _ _ _ hp hf hC hsm
  exact ⟨cs.toList, rfl, by simpa [Value.cells] using this⟩

theorem Leavz.one {P : Program} {W : World} {ls : List TypeId} {cs : List Value} (h : Leavz P W ls cs) : ∀ u ∈ cs, u.oneCell' = true := by
  intro u hu
  obtain ⟨i, hi, rfl⟩ := List.getElem_of_mem hu
  have hi' : i < ls.length := by rw [← h.1]; exact hi
  have := leaf_one (h.2 i ls[i] (List.getElem?_eq_getElem hi'))
  simpa [List.getD, hi] using this

/-- a slice of structs -/
theorem open_deepsz {H : Type} {enc : TypeId × Value → H} {P : Program} {W : World} {t e : TypeId} {v : Value} {d : DataW H} {ps : List MemPlace} {r : Reach} {b0 : Nat} {ls : List TypeId}
    (ht : P.underlying t = some (.slice e)) (dp : Nat) (hp : leafz P dp e = some ls) (hC : P.cellsOf e = ls.length) (hpos : 0 < ls.length) (hval : Value.okWide P W r b0 t v) (h : DataW.Trod enc P W 0 (fun _ => true) true t v d ps) (hsm : Small P t d) :
    ∃ es : List (List Value), Row W v ls.length es.length es.flatten ∧ ∀ x ∈ es, Leavz P W ls x := by
  obtain ⟨a0, len0, cap0, rfl⟩ := okWide_slice ht hval
  obtain ⟨fuel, hf⟩ := h
  rcases Deep.open_slice ht hf with ⟨hcs, -⟩ | ⟨a, len, cap, m, n, D, Pl, hcs, hb, hl, hm, hmm, hx, hr⟩
  · simp [Value.cells] at hcs
    obtain ⟨rfl, rfl, rfl⟩ := hcs
    exact ⟨[], row_nil W _, by simp⟩
  · simp [Value.cells] at hcs
    obtain ⟨rfl, rfl, rfl⟩ := hcs
    simp only [if_true] at hmm
    subst hmm
    rw [hC] at hr
    obtain ⟨C, hCC⟩ := Deep.choose_lt (α := List Value) (p := fun i cs => W.cells? 0 (a.add (i * ls.length)) ls.length = some cs ∧ DataW.trod enc P W 0 (fun _ => true) true n e cs = some (D i, Pl i)) (fun i (hi : i < len0) => by
      obtain ⟨cs, h1, h2⟩ := hr i (by omega)
      exact ⟨cs, h1, h2⟩)
    simp only [Prod.mk.injEq] at hx
    have hd' := hx.1
    have hsi : ∀ i, i < len0 → Small P e (D i) := fun i hi k hk => hsm k (by
      rw [hd']
      simp only [DataW.weights, ht, List.mem_cons, List.mem_append]
      exact Or.inr (Or.inl (weightsAll_mem (List.mem_map.2 ⟨i, List.mem_range.2 hi, rfl⟩) hk)))
    have hok : ∀ i, i < len0 → Leavz P W ls (C i) := fun i hi => leaves_of_trodz dp e ls _ _ _ hp (hCC i hi).2 hC (hsi i hi)
    have hcell : ∀ i, i < len0 → ∀ j, j < ls.length → W.cell? ((a.add (i * ls.length)).add j) = (C i)[j]? := fun i hi => (World.cells?_some (hCC i hi).1).2.2
    have hmem : ∀ x ∈ (List.range len0).map C, Leavz P W ls x := fun x hx => by
      obtain ⟨i, hi, rfl⟩ := List.mem_map.1 hx
      exact hok i (List.mem_range.1 hi)
    have hfl := flatten_len ((List.range len0).map C) (fun x hx => (hmem x hx).1)
    have hln : ((List.range len0).map C).length = len0 := by simp
    refine ⟨(List.range len0).map C, ⟨some a, m, by rw [hln], by rw [hln]; exact hl, hm, by rw [hfl], ?_, by simp, ?_⟩, hmem⟩
    · intro u hu
      obtain ⟨x, hx, hux⟩ := List.mem_flatten.1 hu
      exact (hmem x hx).one u hux
    · by_cases h0 : len0 = 0
      · left; subst h0; simp
      · right
        have hc0 := hcell 0 (by omega) 0 hpos
        rw [List.getElem?_eq_getElem (by rw [(hok 0 (by omega)).1]; exact hpos)] at hc0
        have hsp : a.spot = none := by
          have e0 : (a.add (0 * ls.length)).add 0 = a := by simp [Addr.add]
          rw [e0] at hc0
          exact spot_none hc0
        obtain ⟨b, o, spt⟩ := a
        simp only at hsp
        subst hsp
        refine ⟨b, o, rfl, fun j u hj => ?_⟩
        rw [flatten_get hpos _ (fun x hx => (hmem x hx).1)] at hj
        obtain ⟨x, hx, hjx⟩ := Option.bind_eq_some_iff.1 hj
        have hq : j / ls.length < len0 := by
          have := (List.getElem?_eq_some_iff.1 hx).1
          simpa using this
        have hx' : C (j / ls.length) = x := by simpa [hq] using hx
        have := hcell (j / ls.length) hq (j % ls.length) (Nat.mod_lt _ hpos)
        rw [add_off, add_off, hx', hjx] at this
        have e := Nat.div_add_mod j ls.length
        rw [Nat.mul_comm] at e
        rw [Nat.add_assoc, e] at this
        exact this
end Go.Proofs.Ytgcemddobcjpnaa
namespace Go.Proofs.Ytgcemddobcjpnaa
open Go.RowKit Go.ChangeShapes Go.WideShapes

theorem LeafOk.int {P : Program} {W : World} {t : TypeId} {v : Value} {k : IntKind} (h : LeafOk P W t v) (ht : P.underlying t = some (.int k)) : ∃ n, v = .int k n ∧ (Lit.int k n).wf = true := by
  rcases h with h | ⟨e, k', zs, h1, -⟩
  · exact fieldOk.int h ht
  · rw [ht] at h1; cases h1
theorem LeafOk.str {P : Program} {W : World} {t : TypeId} {v : Value} (h : LeafOk P W t v) (ht : P.underlying t = some .string) : ∃ s, v = .string s ∧ s.size ≤ maxLen := by
  rcases h with h | ⟨e, k', zs, h1, -⟩
  · exact fieldOk.str h ht
  · rw [ht] at h1; cases h1
theorem LeafOk.nums {P : Program} {W : World} {t e : TypeId} {v : Value} {k : IntKind} (h : LeafOk P W t v) (ht : P.underlying t = some (.slice e)) (he : P.underlying e = some (.int k)) : ∃ zs : List Int, Row W v 1 zs.length (zs.map (Value.int k)) ∧ (∀ n ∈ zs, (Lit.int k n).wf = true) ∧ zs.length * P.bytesOf e ≤ 140737488351232 := by
  rcases h with h | ⟨e', k', zs, h1, h2, h3, h4, h5⟩
  · rcases h with ⟨k', h1, -⟩ | ⟨h1, -⟩ | ⟨h1, -⟩ <;> (rw [ht] at h1; cases h1)
  · rw [ht] at h1
    cases h1
    rw [he] at h2
    cases h2
    exact ⟨zs, h3, h4, h5⟩

structure Av where
  a : Ac
  vb : Value
  vk : Value
abbrev Av.c (x : Av) : List Value := acC x.a x.vb x.vk
theorem avC_len (x : Av) : (Av.c x).length = 6 := rfl
structure Acs (w0 w : World) (v : Value) (l : List Av) : Prop where
  row : Row w v 6 l.length (rwC Av.c l)
  ok : ∀ x ∈ l, AcOk w0 x.a x.vb x.vk ∧ x.a.n ≤ 9223372036854775807
theorem ex_map {α β : Type} {f : β → α} {p : β → Prop} : ∀ (es : List α), (∀ x ∈ es, ∃ y, x = f y ∧ p y) → ∃ l : List β, es = l.map f ∧ ∀ y ∈ l, p y
  | [], _ => ⟨[], rfl, by simp⟩
  | e :: es, h => by
    obtain ⟨y, h1, h2⟩ := h e (by simp)
    obtain ⟨l, h3, h4⟩ := ex_map es (fun x hx => h x (by simp [hx]))
    exact ⟨y :: l, by rw [h1, h3]; rfl, fun z hz => by
      rcases List.mem_cons.1 hz with rfl | hz
      · exact h2
      · exact h4 z hz⟩
theorem acs_of {W : World} {v : Value} {es : List (List Value)} (hr : Row W v 6 es.length es.flatten) (hf : ∀ x ∈ es, Leavz Try.prog W [3, 9, 9, 29, 3, 31] x) (hb1 : Try.prog.bytesOf 3 = 8) : ∃ l, Acs W W v l := by
  obtain ⟨l, hl, hp⟩ := ex_map (f := Av.c) (p := fun y => AcOk W y.a y.vb y.vk ∧ y.a.n ≤ 9223372036854775807) es (fun x hx => by
    obtain ⟨h1, h2⟩ := hf x hx
    match x, h1, h2 with
    | [v0, v1, v2, v3, v4, v5], _, h2 =>
      obtain ⟨k, rfl, -⟩ := (LeafOk.int (v := v0) (h2 0 _ rfl) Try.underlying3)
      obtain ⟨s, rfl, hs⟩ := (LeafOk.str (v := v1) (h2 1 _ rfl) Try.underlying9)
      obtain ⟨t, rfl, ht⟩ := (LeafOk.str (v := v2) (h2 2 _ rfl) Try.underlying9)
      obtain ⟨zs, hz1, hz2, -⟩ := (LeafOk.nums (v := v3) (h2 3 _ rfl) Try.underlying29 Try.underlying5)
      obtain ⟨n, rfl, hn⟩ := (LeafOk.int (v := v4) (h2 4 _ rfl) Try.underlying3)
      obtain ⟨ks, hk1, hk2, hk3⟩ := (LeafOk.nums (v := v5) (h2 5 _ rfl) Try.underlying31 Try.underlying3)
      refine ⟨⟨⟨k, s, t, zs.map fun n => UInt8.ofNat n.toNat, n, ks⟩, v3, v5⟩, rfl, ⟨hs, ht, ?_, hk1, fun x hx => (i64_wf (hk2 x hx)).2, by rw [hb1] at hk3; show ks.length ≤ _; omega⟩, (i64_wf hn).2⟩
      have e : (zs.map fun n => UInt8.ofNat n.toNat).map B = zs.map (Value.int .u8) := by
        rw [List.map_map]
        refine List.map_congr_left fun n hn => ?_
        have := u8_wf (hz2 n hn)
        simp
        omega
      unfold Rd
      rw [e, List.length_map]
      exact hz1)
  refine ⟨l, ?_, hp⟩
  rw [hl, List.length_map] at hr
  rw [show rwC Av.c l = (l.map Av.c).flatten from by unfold rwC; rw [List.flatMap_def]]
  exact hr
end Go.Proofs.Ytgcemddobcjpnaa
namespace Go.Proofs.Ytgcemddobcjpnaa
open Go.RowKit

def Dk.did (D : Dk) (a : Ac) : Dk := if a.kd % 11 = 8 then D else D.act (a.kd % 11) a
theorem DkI.did {D : Dk} {M : Nat} {N : Int} (h : DkI D M N) (a : Ac) (hb : a.bs.length ≤ 2000) (hn : a.n ≤ 9223372036854775807) : DkI (D.did a) (M + 1) (N + 2001) := by
  unfold Dk.did
  split
  · exact h.mono (by omega) (by omega)
  · exact h.act _ a hb hn
theorem dk00 {D : Dk} {M : Nat} {N : Int} (h : DkI D M N) : DkI ⟨0, [], false, 0, false, 0⟩ M N :=
  ⟨List.Pairwise.nil, by simp, by simp, by simp [Dk.bytes], by simp, by simp, by simp, by have := h.steps; simp only; omega⟩

set_option maxRecDepth 100000 in
set_option maxHeartbeats 4000000 in
theorem act_any (a : Ac) (vb vk : Value) (w0 w : World) (X : Nat → Prop) (wx : World) (b : Nat) (D : Dk) (M : Nat) (N : Int) (h : Od X wx w0 w b D) (gd : Good D M N) (ha : AcOk w0 a vb vk) (hbl : a.bs.length ≤ 2000) :
    Calls Try.prog 29 #[ptr b, .agg #[.int .i64 a.kd, .string a.nm, .string a.nt, vb, .int .i64 a.n, vk]] w fun e w' => e = .returned (.tuple #[]) ∧ Od X wx w0 w' b (D.did a) := by
  have HPK : Hid (∀ w, Calls Try.prog 32 #[.int .i64 a.kd, .int .i64 11] w fun e w' => e = .returned (.int .i64 (a.kd % 11)) ∧ w = w') := Lib.hid (fun w => pickn_any a.kd 11 w (by omega) (by omega))
  have GE : Hid (Good ⟨0, [], false, 0, false, 0⟩ M N) := Lib.hid ⟨dk00 gd.i, gd.m, gd.n⟩
  have GD := Lib.hid gd
  have HA := Lib.hid ha
  have HBL := Lib.hid hbl
  obtain ⟨p, c, rfl, -⟩ := ha.rd.parts
  obtain ⟨wa, hwa⟩ : ∃ wa, wa = w.alloc (.cells #[.int .i64 a.kd, .string a.nm, .string a.nt, .slice p a.bs.length c, .int .i64 a.n, vk] 48) := ⟨_, rfl⟩
  obtain ⟨bx, hbx⟩ : ∃ bx, bx = w.heap.size := ⟨_, rfl⟩
  have HBXA : Hid (Blk wa bx (acC a (.slice p a.bs.length c) vk) 48) := Lib.hid (by rw [hwa, hbx]; exact Blk.made w (acC a (.slice p a.bs.length c) vk) _)
  have HO : Hid (Od X wx w0 wa b D) := Lib.hid (h.kept (by rw [hwa]; exact below_alloc w _))
  obtain ⟨kd, hkd⟩ : ∃ kd, kd = a.kd % 11 := ⟨_, rfl⟩
  rw [← hkd] at HPK
  have HKD := Lib.hid hkd
  clear h gd ha hbl hkd
  go_enter Try.func29, Try.ntmps29
  go_upto_region 1 with fail
  rw [← hwa, ← hbx]
  clear hwa hbx
  have y0 := HBXA.out.cell (j := 0) rfl
  by_cases h8 : kd = 8
  · have q : (kd != 8) = false := by simp [h8]
    have H8 := Lib.hid h8
    clear h8
    go_wp2_with (go_at_call 32; refine (HPK.out _).mono ?_; rintro e w8 ⟨rfl, rfl⟩)
    refine end0 rfl rfl ⟨rfl, ?_⟩
    unfold Dk.did
    rw [if_pos (by rw [← HKD.out]; exact H8.out)]
    exact HO.out
  · have q : (kd != 8) = true := by simp [h8]
    have H8 := Lib.hid h8
    clear h8
    go_wp2_with (first
      | (go_at_call 32; refine (HPK.out _).mono ?_; rintro e w8 ⟨rfl, rfl⟩)
      | (go_at_call 23; refine (rnew_ok 0 _ (by decide) (by decide)).mono ?_; rintro e w3 ⟨g, rfl, hg, hr, hb⟩; have HT : Hid (Tw X wx w0 w3 b g D ⟨0, [], false, 0, false, 0⟩) := Lib.hid (HO.out.beside hg hr hb); have HB3 := Lib.hid (HBXA.out.kept hb); clear hg hr hb; have z0 := HB3.out.cell (j := 0) rfl; have z1 := HB3.out.cell (j := 1) rfl; have z2 := HB3.out.cell (j := 2) rfl; have z3 := HB3.out.cell (j := 3) rfl; have z4 := HB3.out.cell (j := 4) rfl; have z5 := HB3.out.cell (j := 5) rfl)
      | (go_at_call 24; refine (dstep_any a _ vk w0 _ X wx b g D _ M N HT.out GD.out GE.out HA.out HBL.out).mono ?_; rintro e w5 ⟨bb, rfl, -, ht⟩; have HT5 := Lib.hid ht; clear ht))
    refine end0 rfl rfl ⟨rfl, ?_⟩
    unfold Dk.did
    rw [if_neg (by rw [← HKD.out]; exact H8.out)]
    exact HT5.out.od

/-- two disks of the program's -/
structure Two (w0 w : World) (b c : Nat) (D C : Dk) : Prop where
  d : ∃ mb L mc K, PDk w b mb D L ∧ PDk w c mc C K ∧ (∀ k, fpP b mb L k → w0.heap.size ≤ k) ∧ (∀ k, fpP c mc K k → w0.heap.size ≤ k) ∧ ∀ k, fpP b mb L k → ¬ fpP c mc K k
  bel : Below w0.heap.size w0 w
section
variable {w0 w w' : World} {b c : Nat} {D C D' : Dk}
theorem Two.kept (h : Two w0 w b c D C) (hb : Below w.heap.size w w') : Two w0 w' b c D C := by
  obtain ⟨mb, L, mc, K, h1, h2, h3⟩ := h.d
  exact ⟨⟨mb, L, mc, K, h1.kept hb, h2.kept hb, h3⟩, below_and h.bel hb⟩
theorem Two.swap (h : Two w0 w b c D C) : Two w0 w c b C D := by
  obtain ⟨mb, L, mc, K, h1, h2, h3, h4, h5⟩ := h.d
  exact ⟨⟨mc, K, mb, L, h2, h1, h4, h3, fun k hk hk2 => h5 k hk2 hk⟩, h.bel⟩
theorem Two.od (h : Two w0 w b c D C) : Od NoX w w0 w b D := by
  obtain ⟨mb, L, mc, K, h1, h2, h3, h4, h5⟩ := h.d
  exact ⟨⟨mb, L, h1, fun k hk => ⟨h3 k hk, fun hx => hx⟩⟩, fun k hk => hk.elim, Frp.refl _ _, h.bel⟩
theorem Two.run {P : Program} {f : FuncId} {args : Array Value} {r : Value} (h : Two w0 w b c D C) (hc : ∀ X, Od X w w0 w b D → Calls P f args w fun e w' => e = .returned r ∧ Od X w w0 w' b D') : Calls P f args w fun e w' => e = .returned r ∧ Two w0 w' b c D' C := by
  obtain ⟨mb, L, mc, K, h1, h2, h3, h4, h5⟩ := h.d
  refine (hc (fpP c mc K) ⟨⟨mb, L, h1, fun k hk => ⟨h3 k hk, h5 k hk⟩⟩, fun k hk => h2.lt hk, Frp.refl _ _, h.bel⟩).mono fun e w' ⟨he, ho⟩ => ⟨he, ?_⟩
  obtain ⟨mb', L', g1, g2⟩ := ho.d
  exact ⟨⟨mb', L', mc, K, g1, h2.frp ho.fx (fun k hk hn => hn hk), fun k hk => (g2 k hk).1, h4, fun k hk => (g2 k hk).2⟩, ho.bel⟩
theorem Two.start {mc : Nat} {wx : World} (h : Od NoX wx w0 w b D) (h2 : PDk w' c mc C []) (hc : w.heap.size ≤ c) (hm : w.heap.size ≤ mc) (hb : Below w.heap.size w w') : Two w0 w' b c D C := by
  obtain ⟨mb, L, h1, h3⟩ := h.d
  have hs := h.bel.size
  have hfp : ∀ k, fpP c mc [] k → w.heap.size ≤ k := fun k hk => by
    rcases hk with rfl | rfl | ⟨p, hp, -⟩
    · exact hc
    · exact hm
    · cases hp
  exact ⟨⟨mb, L, mc, [], h1.kept hb, h2, fun k hk => (h3 k hk).1, fun k hk => Nat.le_trans hs (hfp k hk), fun k hk hk2 => by have := h1.lt hk; have := hfp k hk2; omega⟩, below_and h.bel hb⟩
end
end Go.Proofs.Ytgcemddobcjpnaa
namespace Go.Proofs.Ytgcemddobcjpnaa
open Go.RowKit

def Nb (D : Dk) : Prop := ∀ f ∈ D.F, nameB f.n = true
section
variable {D : Dk}
theorem Nb.put (h : Nb D) {x : Fl} (hx : nameB x.n = true) : Nb (D.put x) := fun y hy => by
  rcases (kput_mem D.F x y).1 hy with rfl | ⟨hy, -⟩
  · exact hx
  · exact h y hy
theorem Nb.cut (h : Nb D) (s : ByteArray) : Nb (D.cut s) := fun y hy => h y ((krem_mem D.F _ y).1 hy).1
theorem Nb.stepped (h : Nb D) : Nb D.stepped := h
theorem Nb.dead (h : Nb D) : Nb D.dead := h
theorem Nb.free (h : Nb D) : Nb D.free := h
theorem Nb.make (h : Nb D) (s : ByteArray) : Nb (D.make s).2 := by
  unfold Dk.make
  split
  · exact h
  · rename_i ha
    split
    · exact h
    · split
      · exact h.stepped.put ((ask_ok (not_zero ha)).2 s (by simp))
      · exact h.dead
theorem Nb.more : ∀ (k : Nat) {D : Dk} (_ : Nb D) (f : Fl) (_ : nameB f.n = true) (l : List UInt8), Nb (Dk.more k D f l).2
  | 0, _, h, _, _, _ => h
  | k + 1, D, h, f, hf, l => by
    unfold Dk.more
    split
    · exact h
    · split
      · exact Nb.more k (h.stepped.put (x := { f with b := f.b ++ l.take 64 }) hf) { f with b := f.b ++ l.take 64 } hf _
      · exact h.dead
theorem Nb.append (h : Nb D) (s : ByteArray) (l : List UInt8) : Nb (D.append s l).2 := by
  unfold Dk.append
  split
  · exact h
  · split
    · exact h
    · rename_i f hf
      split
      · exact h
      · exact h.more _ f (h f (get_of hf).1) l
theorem Nb.sync (h : Nb D) (s : ByteArray) : Nb (D.sync s).2 := by
  unfold Dk.sync
  split
  · exact h
  · split
    · exact h
    · rename_i f hf
      split
      · exact h.stepped.put (x := { f with s := f.b.length }) (h f (get_of hf).1)
      · exact h.dead
theorem Nb.rename (h : Nb D) (s t : ByteArray) : Nb (D.rename s t).2 := by
  unfold Dk.rename
  split
  · exact h
  · rename_i ha
    split
    · exact h
    · rename_i f hf
      split
      · exact h
      · split
        · exact (h.stepped.cut s).put (x := { f with n := t }) ((ask_ok (not_zero ha)).2 t (by simp))
        · exact h.dead
theorem Nb.remove (h : Nb D) (s : ByteArray) : Nb (D.remove s).2 := by
  unfold Dk.remove
  split
  · exact h
  · split
    · exact h
    · split
      · exact h.stepped.cut s
      · exact h.dead
theorem Nb.setFuse (h : Nb D) (n : Int) : Nb (D.setFuse n).2 := by
  unfold Dk.setFuse
  split
  · exact h
  · split <;> exact h
theorem Nb.crash (h : Nb D) (keep : List Int) : Nb (D.crash keep).2 := by
  unfold Dk.crash
  split
  · intro f hf
    obtain ⟨i, hi, rfl⟩ := List.mem_mapIdx.1 hf
    exact h D.F[i] (List.getElem_mem hi)
  · exact h
theorem Nb.turn (h : Nb D) (s : ByteArray) (k : Int) (c : UInt8) : Nb (D.turn s k c).2 := by
  unfold Dk.turn
  split
  · split
    · exact h
    · rename_i f hf
      split
      · exact h.put (x := Dk.turned f k.toNat c) (h f (get_of hf).1)
      · exact h
  · exact h
theorem Nb.act (h : Nb D) (k : Int) (a : Ac) : Nb (D.act k a) := by
  unfold Dk.act
  repeat' split
  · exact h.make _
  · exact h.append _ _
  · exact h.sync _
  · exact h.rename _ _
  · exact h.remove _
  · exact h.setFuse _
  · exact h.free
  · exact h.crash _
  · exact h.turn _ _ _
  · exact h
/-- a file by its place -/
theorem DkI.at_ {M : Nat} {N : Int} (h : DkI D M N) (hn : Nb D) (ho : D.off = false) {i : Nat} (hi : i < D.F.length) : D.read D.F[i].n = (0, D.F[i].b) ∧ D.synced D.F[i].n = (0, (D.F[i].s : Int)) := by
  have hm : D.F[i] ∈ D.F := List.getElem_mem hi
  have h1 : D.ask [D.F[i].n] = 0 := by
    unfold Dk.ask
    rw [if_neg (by rw [ho]; simp), if_pos (by simpa using hn _ hm)]
  have h2 : D.get D.F[i].n = some D.F[i] := kfnd_of (key := Fl.key) h.rise.apart hm
  unfold Dk.read Dk.synced
  rw [h1, h2]
  exact ⟨rfl, rfl⟩
theorem names_at (ho : D.off = false) : D.names = D.F.map Fl.n := by
  unfold Dk.names
  rw [if_neg (by rw [ho]; simp)]
theorem crash_bad_p {keep : List Int} (h : Dk.fine keep = false) : D.crash keep = (2, D) := by
  unfold Dk.crash
  rw [if_neg (by rw [h]; simp)]
theorem crash_off {keep : List Int} (h : Dk.fine keep = true) : (D.crash keep).1 = 0 ∧ (D.crash keep).2.off = false ∧ (D.crash keep).2.F = D.F.mapIdx (Dk.keepF keep) := by
  unfold Dk.crash
  rw [if_pos h]
  exact ⟨rfl, rfl, rfl⟩
theorem crash_names {keep : List Int} (h : Dk.fine keep = true) (ho : D.off = false) : (D.crash keep).2.names = D.names := by
  obtain ⟨-, h1, h2⟩ := crash_off (D := D) h
  rw [names_at h1, names_at ho, h2]
  apply List.ext_getElem?
  intro i
  simp only [List.getElem?_mapIdx, List.getElem?_map]
  cases D.F[i]? <;> rfl
/-- what a crash leaves -/
theorem DkI.after {M : Nat} {N : Int} (h : DkI D M N) (hn : Nb D) {keep : List Int} (hk : Dk.fine keep = true) {i : Nat} (hi : i < D.F.length) :
    (D.crash keep).2.read D.F[i].n = (0, D.F[i].b.take (D.F[i].s + Dk.keepN keep i D.F[i])) ∧ (D.crash keep).2.synced D.F[i].n = (0, ((D.F[i].s + Dk.keepN keep i D.F[i] : Nat) : Int)) ∧ D.F[i].s + Dk.keepN keep i D.F[i] ≤ D.F[i].b.length := by
  obtain ⟨-, h1, h2⟩ := crash_off (D := D) hk
  have hl : i < (D.crash keep).2.F.length := by rw [h2, List.length_mapIdx]; exact hi
  have h3 := (h.crash keep).at_ (hn.crash keep) h1 hl
  have h4 : (D.crash keep).2.F[i] = Dk.keepF keep i D.F[i] := by
    have := List.getElem_mapIdx (f := Dk.keepF keep) (l := D.F) (i := i) (h := by rw [List.length_mapIdx]; exact hi)
    rw [← this]
    congr 1
  rw [h4] at h3
  have h5 := h.syn D.F[i] (List.getElem_mem hi)
  have h6 := keepN_le keep i D.F[i]
  exact ⟨h3.1, h3.2, by omega⟩
/-- how much more a crash keeps, as the law reckons it -/
theorem keepN_in {keep : List Int} {i : Nat} (hi : i < keep.length) (f : Fl) (h0 : 0 ≤ keep[i]) (hs : f.s ≤ f.b.length) : (Dk.keepN keep i f : Int) = min keep[i] ((f.b.length : Int) - (f.s : Int)) := by
  unfold Dk.keepN
  rw [List.getElem?_eq_getElem hi]
  simp only
  omega
theorem keepN_out {keep : List Int} {i : Nat} (hi : ¬ i < keep.length) (f : Fl) : Dk.keepN keep i f = 0 := by
  unfold Dk.keepN
  rw [List.getElem?_eq_none (by omega)]
end
end Go.Proofs.Ytgcemddobcjpnaa
namespace Go.Proofs.Ytgcemddobcjpnaa
open Go.RowKit

theorem info_bytes : (Try.prog.info? 29).map (fun i => (i.zero, i.size, i.bytes)) = some (some (.slice none 0 0), 1, 24) := by kernel_rfl
/-- names, bytes and counts, as the law has noted them so far -/
structure Kp (wM w : World) (D : Dk) (us : List Value) (k m : Nat) (vN vW vS : Value) : Prop where
  sz : wM.heap.size ≤ w.heap.size
  nam : w.ownsRow wM.heap.size 9 1 vN D.F.length (D.F.map fun f => Value.string f.n)
  was : w.ownsRow wM.heap.size 29 1 vW k us
  each : ∀ (j : Nat) (u : Value) (f : Fl), us[j]? = some u → D.F[j]? = some f → Fresh wM.heap.size w u f.b
  syn : w.ownsRow wM.heap.size 3 1 vS m ((D.F.take m).map fun f => Value.int .i64 (f.s : Int))
section
variable {wM w w' : World} {D : Dk} {us : List Value} {k m : Nat} {vN vW vS : Value}
theorem Kp.frp {Q : Nat → Prop} (h : Kp wM w D us k m vN vW vS) (hf : Frp Q w w') (hq : ∀ x, wM.heap.size ≤ x → x < w.heap.size → ¬ Q x) : Kp wM w' D us k m vN vW vS :=
  ⟨Nat.le_trans h.sz hf.size, own_frp h.nam hf (fun g hg => hq g (own_lo h.nam hg) (own_hi h.nam hg)), own_frp h.was hf (fun g hg => hq g (own_lo h.was hg) (own_hi h.was hg)),
    fun j u f hu hF => own_frp (h.each j u f hu hF) hf (fun g hg => hq g (own_lo (h.each j u f hu hF) hg) (own_hi (h.each j u f hu hF) hg)), own_frp h.syn hf (fun g hg => hq g (own_lo h.syn hg) (own_hi h.syn hg))⟩
theorem Kp.kept (h : Kp wM w D us k m vN vW vS) (hb : Below w.heap.size w w') : Kp wM w' D us k m vN vW vS := h.frp (Frp.of_below hb (fun _ => False)) (fun _ _ _ h => h)
theorem Kp.push1 {u vW2 : Value} {f : Fl} (h : Kp wM w D us k m vN vW vS) (hk : us.length = k) (hF : D.F[k]? = some f) (hu : Fresh wM.heap.size w u f.b) (ho : w'.ownsRow wM.heap.size 29 1 vW2 (k + 1) (us ++ [u])) (hg : w.grownBy w' vW.ownBlock) : Kp wM w' D (us ++ [u]) (k + 1) m vN vW2 vS := by
  have hf : Frp (fun x => vW.ownBlock = some x) w w' := (Frp.refl _ _).grown hg (fun x hx => .inl hx)
  refine ⟨Nat.le_trans h.sz hf.size, own_frp h.nam hf (fun g hg => own_own h.nam h.was (by decide) hg), ho, fun j u' f' hu' hF' => ?_, own_frp h.syn hf (fun g hg => own_own h.syn h.was (by decide) hg)⟩
  have key : ∀ {x : Value} {l : List UInt8}, Fresh wM.heap.size w x l → Fresh wM.heap.size w' x l := fun hx => own_frp hx hf (fun g hg => own_own hx h.was (by decide) hg)
  rcases Nat.lt_or_ge j k with hj | hj
  · rw [List.getElem?_append_left (by omega)] at hu'
    exact key (h.each j u' f' hu' hF')
  · rw [List.getElem?_append_right (by omega)] at hu'
    have : j = k := by
      rcases Nat.lt_or_ge k j with hj2 | hj2
      · rw [List.getElem?_eq_none (by simp; omega)] at hu'; cases hu'
      · omega
    subst this
    rw [hk, Nat.sub_self] at hu'
    simp only [List.getElem?_cons_zero, Option.some.injEq] at hu'
    rw [hF] at hF'
    simp only [Option.some.injEq] at hF'
    rw [← hu', ← hF']
    exact key hu
theorem Kp.push2 {vS2 : Value} {f : Fl} (h : Kp wM w D us k m vN vW vS) (hF : D.F[m]? = some f) (ho : w'.ownsRow wM.heap.size 3 1 vS2 (m + 1) (((D.F.take m).map fun f => Value.int .i64 (f.s : Int)) ++ [.int .i64 (f.s : Int)])) (hg : w.grownBy w' vS.ownBlock) : Kp wM w' D us k (m + 1) vN vW vS2 := by
  have hf : Frp (fun x => vS.ownBlock = some x) w w' := (Frp.refl _ _).grown hg (fun x hx => .inl hx)
  refine ⟨Nat.le_trans h.sz hf.size, own_frp h.nam hf (fun g hg => own_own h.nam h.syn (by decide) hg), own_frp h.was hf (fun g hg => own_own h.was h.syn (by decide) hg), fun j u' f' hu' hF' => own_frp (h.each j u' f' hu' hF') hf (fun g hg => own_own (h.each j u' f' hu' hF') h.syn (by decide) hg), ?_⟩
  have e : D.F.take (m + 1) = D.F.take m ++ [f] := by rw [List.take_add_one, hF]; rfl
  rw [e, List.map_append]
  exact ho
theorem Kp.start (hs : wM.heap.size ≤ w.heap.size) (hn : w.ownsRow wM.heap.size 9 1 vN D.names.length (D.names.map Value.string)) (ho : D.off = false) : Kp wM w D [] 0 0 vN (.slice none 0 0) (.slice none 0 0) := by
  rw [names_at ho, List.length_map, List.map_map] at hn
  exact ⟨hs, hn, World.ownsRow_nil _ _ _ _, (fun j u f hu _ => by simp at hu), by rw [List.take_zero]; exact World.ownsRow_nil _ _ _ _⟩
end
theorem Row.take {w : World} {p : Option Addr} {n c m : Nat} {cs : List Value} (h : Row w (.slice p n c) 1 n cs) (hm : m ≤ n) : Row w (.slice p m c) 1 m (cs.take m) := by
  obtain ⟨p', c', e, h1, h2, h3, h4, h5, h6⟩ := h
  simp only [Value.slice.injEq] at e
  obtain ⟨rfl, -, rfl⟩ := e
  refine ⟨p, c, rfl, by omega, h2, by rw [List.length_take]; omega, fun u hu => h4 u (List.mem_of_mem_take hu), fun e => ⟨by have := (h5 e).1; omega, (h5 e).2⟩, ?_⟩
  rcases h6 with h6 | ⟨b, o, rfl, ha⟩
  · exact .inl (by rw [h6]; simp)
  · refine .inr ⟨b, o, rfl, fun j u hj => ha j u ?_⟩
    rw [List.getElem?_take] at hj
    split at hj
    · exact hj
    · cases hj
theorem Rd.take {w : World} {p : Option Addr} {c m : Nat} {l : List UInt8} (h : Rd w (.slice p l.length c) l) (hm : m ≤ l.length) : Rd w (.slice p m c) (l.take m) := by
  have := Row.take (m := m) h hm
  unfold Rd
  rw [List.length_take, Nat.min_eq_left hm, List.map_take]
  exact this

set_option maxRecDepth 100000 in
set_option maxHeartbeats 1000000 in
theorem fine_any (keep : List Int) (v : Value) (w : World) (h : Row w v 1 keep.length (keep.map (Value.int .i64))) :
    Calls Try.prog 30 #[v] w fun e w' => e = .returned (.bool (Dk.fine keep)) ∧ w = w' := by
  have HK := Lib.hid h
  obtain ⟨p, c, rfl, hc, hm, -⟩ := h
  have hml : maxLen ≤ 9223372036854775807 := by decide
  have hll : keep.length ≤ 9223372036854775807 := by omega
  clear hml hm hc
  go_enter Try.func30, Try.ntmps30
  go_wp2
  go_loopw [3] (fun i wr => ∃ k : Nat, k ≤ keep.length ∧ i = .int .i64 (k : Int) ∧ w = wr ∧ Hid (∀ j (hj : j < keep.length), j < k → 0 ≤ keep[j])) (fun i _ => keep.length - (intOf i).toNat)
  case atStart => exact ⟨0, Nat.zero_le _, rfl, rfl, Lib.hid (fun j hj h => by omega)⟩
  case round =>
    obtain ⟨k, hk, rfl, hw, HP⟩ := hrel
    subst hw
    by_cases hlt : k < keep.length
    · have i1 : (k : Int) < (keep.length : Int) := by omega
      obtain ⟨b, o, rfl, hcell⟩ := HK.out.num hlt
      obtain ⟨x, hx⟩ : ∃ x, x = keep[k] := ⟨_, rfl⟩
      rw [← hx] at hcell
      have HX := Lib.hid hx
      clear hx
      by_cases hn : x < 0
      · have HF : Hid (Dk.fine keep = false) := Lib.hid (by
          cases hf : Dk.fine keep
          · rfl
          · unfold Dk.fine at hf
            have := List.all_eq_true.1 hf keep[k] (List.getElem_mem hlt)
            simp only [decide_eq_true_eq] at this
            rw [← HX.out] at this
            omega)
        go_wp2
        go_ret
        exact ⟨ret_bool HF.out.symm, (by first | rfl | trivial)⟩
      · have HP2 : Hid (∀ j (hj : j < keep.length), j < k + 1 → 0 ≤ keep[j]) := Lib.hid (fun j hj hjk => by
          rcases Nat.lt_or_ge j k with h1 | h1
          · exact HP.out j hj h1
          · obtain rfl : j = k := by omega
            rw [← HX.out]; omega)
        go_wp2
        go_roundw
        case rel => exact ⟨k + 1, hlt, by go_num, (by first | rfl | trivial), HP2⟩
        case measure => simp [intOf]; omega
    · have HF : Hid (Dk.fine keep = true) := Lib.hid (by
        unfold Dk.fine
        rw [List.all_eq_true]
        intro y hy
        obtain ⟨j, hj, rfl⟩ := List.getElem_of_mem hy
        simpa using HP.out j hj (by omega))
      obtain rfl : k = keep.length := by omega
      go_wp2
      go_ret
      exact ⟨ret_bool HF.out.symm, (by first | rfl | trivial)⟩
end Go.Proofs.Ytgcemddobcjpnaa
namespace Go.Proofs.Ytgcemddobcjpnaa
open Go.RowKit

set_option maxRecDepth 100000 in
set_option maxHeartbeats 2000000 in
theorem diskKeeps_bad (r : Int) (v vk : Value) (l : List Av) (w : World) (h : Acs w w v l) (hr : r < 0 ∨ 1073741824 < r) :
    Calls Try.prog 6 #[.int .i64 r, v, vk] w fun e w' => e = .returned (.bool true) ∧ Below w.heap.size w w' := by
  obtain ⟨p, c, rfl, hc, hm, -⟩ := h.row
  have HR := Lib.hid hr
  clear h hr
  go_enter Try.func6, Try.ntmps6
  go_wp2_with (first
    | (go_at_call 8; refine (dlives _).mono ?_; rintro e w1 ⟨rfl, hb⟩; have HB := Lib.hid hb; clear hb)
    | (go_at_call 9; refine (new_bad r _ HR.out).mono ?_; rintro e w2 ⟨rfl, rfl⟩))
  go_ret
  exact ⟨rfl, HB.out⟩

set_option maxRecDepth 100000 in
set_option maxHeartbeats 8000000 in
theorem diskKeeps_in (r : Int) (v vk : Value) (l : List Av) (ks : List Int) (w : World) (h : Acs w w v l) (hk : Row w vk 1 ks.length (ks.map (Value.int .i64))) (hkw : ∀ x ∈ ks, x ≤ 9223372036854775807) (h0 : 0 ≤ r) (h1 : r ≤ 1073741824) :
    Calls Try.prog 6 #[.int .i64 r, v, vk] w fun e w' => e = .returned (.bool true) ∧ Below w.heap.size w w' := by
  have H := Lib.hid h
  have HKR := Lib.hid hk
  have HKW := Lib.hid hkw
  obtain ⟨p, c, rfl, hc, hm, -, -, -, hat⟩ := h.row
  obtain ⟨pk, ck, rfl, hck, hmk, -⟩ := hk
  have HAT := Lib.hid hat
  have hml : maxLen ≤ 9223372036854775807 := by decide
  have hll : l.length ≤ 9223372036854775807 := by omega
  have hkk : ks.length ≤ 9223372036854775807 := by omega
  obtain ⟨ty1, hi10, hi11, hi12, hi13⟩ := info_parts info_bytes
  obtain ⟨ty2, hi20, hi21, hi22, hi23⟩ := info_parts info_int
  have HI1i := Lib.hid hi10
  have HI2i := Lib.hid hi20
  have H0 := Lib.hid h0
  have H1 := Lib.hid h1
  have HAPK : Hid (∀ Y : Nat → Prop, ks ≠ [] → ∀ x, (Value.slice pk ks.length ck).ownBlock = some x → Y x ∨ x < w.heap.size) := Lib.hid (fun Y hne x hx => .inr (row_blk HKR.out (List.length_pos_iff.2 hne) hx))
  clear h hat hml hm hc h0 h1 hkw hck hmk
  go_enter Try.func6, Try.ntmps6
  by_cases hbig : 200 < l.length
  · have i1 : (200 : Int) < (l.length : Int) := by omega
    go_wp2_with (first
      | (go_at_call 8; refine (dlives _).mono ?_; rintro e w1 ⟨rfl, hb⟩; have HB := Lib.hid hb; clear hb)
      | (go_at_call 9; refine (od_new r w _ HB.out H0.out H1.out).mono ?_; rintro e w2 ⟨b, rfl, -, ho, -⟩; have HB := Lib.hid ho.bel; clear ho))
    go_ret
    exact ⟨rfl, HB.out⟩
  · have i1 : ¬ (200 : Int) < (l.length : Int) := by omega
    have HLB : Hid (l.length ≤ 200) := Lib.hid (by omega)
    have HI0 : Hid (DkI ⟨r, [], false, 0, false, 0⟩ 0 0) := Lib.hid ⟨List.Pairwise.nil, by simp, by simp, by simpa [Dk.bytes] using H0.out, H1.out, by simp, by simp, by simp⟩
    have HN0 : Hid (Nb ⟨r, [], false, 0, false, 0⟩) := Lib.hid (fun f hf => by cases hf)
    clear hbig
    go_wp2_with (first
      | (go_at_call 8; refine (dlives _).mono ?_; rintro e w1 ⟨rfl, hb⟩; have HB := Lib.hid hb; clear hb)
      | (go_at_call 9; refine (od_new r w _ HB.out H0.out H1.out).mono ?_; rintro e w2 ⟨b, rfl, -, ho, -⟩; have HO := Lib.hid ho; clear ho HB))
    generalize (⟨r, [], false, 0, false, 0⟩ : Dk) = D0 at HI0 HN0 HO
    go_loopw [9] (fun i wr => ∃ (k : Nat) (D : Dk), k ≤ l.length ∧ i = .int .i64 (k : Int) ∧ Hid (DkI D k (2001 * (k : Int))) ∧ Hid (Nb D) ∧ Hid (Od NoX w2 w wr b D)) (fun i _ => l.length - (intOf i).toNat)
    case atStart => exact ⟨0, _, Nat.zero_le _, rfl, HI0, HN0, HO⟩
    case round =>
      obtain ⟨k, D, hk, rfl, HI, HN, HW⟩ := hrel
      by_cases hlt : k < l.length
      · have j2 : (k : Int) < (l.length : Int) := by omega
        rcases HAT.out with ha | ⟨ab, o, rfl, ha⟩
        · exact absurd (congrArg List.length ha) (by rw [rwC_len avC_len]; simp; omega)
        obtain ⟨x, hx⟩ : ∃ x, x = l[k] := ⟨_, rfl⟩
        have hok := H.out.ok x (by rw [hx]; exact List.getElem_mem hlt)
        have HOK := Lib.hid hok
        have hc : ∀ j u, j < 6 → (Av.c x)[j]? = some u → wr.cell? ⟨ab, o + (k * 6 + j), none⟩ = some u := fun j u hj hu => cell_kept (ha _ u (by rw [rwC_at avC_len hlt hj, ← hx]; exact hu)) HW.out.bel
        obtain ⟨a, vb, va⟩ := x
        obtain ⟨pb, cb, hvb, -, -, -⟩ := hok.1.rd.parts
        simp only at hvb
        subst hvb
        have x0 : wr.cell? ⟨ab, o + k * 6, none⟩ = some (.int .i64 a.kd) := by have := hc 0 (.int .i64 a.kd) (by omega) rfl; simpa [Nat.add_assoc] using this
        have x1 : wr.cell? ⟨ab, o + k * 6 + 1, none⟩ = some (.string a.nm) := by have := hc 1 (.string a.nm) (by omega) rfl; simpa [Nat.add_assoc] using this
        have x2 : wr.cell? ⟨ab, o + k * 6 + 2, none⟩ = some (.string a.nt) := by have := hc 2 (.string a.nt) (by omega) rfl; simpa [Nat.add_assoc] using this
        have x3 : wr.cell? ⟨ab, o + k * 6 + 3, none⟩ = some (.slice pb a.bs.length cb) := by have := hc 3 (.slice pb a.bs.length cb) (by omega) rfl; simpa [Nat.add_assoc] using this
        have x4 : wr.cell? ⟨ab, o + k * 6 + 4, none⟩ = some (.int .i64 a.n) := by have := hc 4 (.int .i64 a.n) (by omega) rfl; simpa [Nat.add_assoc] using this
        have x5 : wr.cell? ⟨ab, o + k * 6 + 5, none⟩ = some (va) := by have := hc 5 (va) (by omega) rfl; simpa [Nat.add_assoc] using this
        clear ha hc hok hx
        by_cases hbl : 2000 < a.bs.length
        · have i3 : (2000 : Int) < (a.bs.length : Int) := by omega
          go_wp2
          go_ret
          exact ⟨rfl, HW.out.bel⟩
        · have i3 : ¬ (2000 : Int) < (a.bs.length : Int) := by omega
          have HBL : Hid (a.bs.length ≤ 2000) := Lib.hid (by omega)
          have HG : Hid (Good D k (2001 * (k : Int))) := Lib.hid ⟨HI.out, by have := HLB.out; omega, by have := HLB.out; omega⟩
          have HI2 : Hid (DkI (D.did a) (k + 1) (2001 * ((k + 1 : Nat) : Int))) := Lib.hid ((HI.out.did a HBL.out HOK.out.2).mono (Nat.le_refl _) (by omega))
          have HN2 : Hid (Nb (D.did a)) := Lib.hid (by unfold Dk.did; split; · exact HN.out
                                                       · exact HN.out.act _ a)
          clear hbl
          go_wp2_with (go_at_call 29; refine (act_any a _ va w wr NoX w2 b D k _ HW.out HG.out HOK.out.1 HBL.out).mono ?_; rintro e w5 ⟨rfl, ho⟩; have HO5 := Lib.hid ho; clear ho)
          go_roundw
          case rel => exact ⟨k + 1, _, hlt, by go_num, HI2, HN2, HO5⟩
          case measure => simp [intOf]; omega
      · obtain rfl : k = l.length := by omega
        obtain ⟨D1, hD1⟩ : ∃ D1, D1 = D.free := ⟨_, rfl⟩
        have HI1 : Hid (DkI D1 200 1000000) := Lib.hid (by rw [hD1]; exact HI.out.free.mono HLB.out (by have := HLB.out; omega))
        have HN1 : Hid (Nb D1) := Lib.hid (by rw [hD1]; exact HN.out.free)
        have HG1 : Hid (Good D1 200 1000000) := Lib.hid ⟨HI1.out, by omega, by omega⟩
        have HD1 := Lib.hid hD1
        clear hD1 HI HN
        by_cases hoff : D1.off = true
        · have HOF := Lib.hid hoff
          clear hoff
          have HC0 : Hid (D1.crash ks = if Dk.fine ks = true then (0, (D1.crash ks).2) else (2, D1)) := Lib.hid (by
            split
            · exact Prod.ext (crash_off ‹_›).1 rfl
            · exact crash_bad_p (by simpa using ‹¬ Dk.fine ks = true›))
          cases hfn : Dk.fine ks
          · have HFN := Lib.hid hfn
            clear hfn
            go_wp2_with (first
              | (go_at_call 27; refine (od_free HW.out).mono ?_; rw [← HD1.out]; rintro e w5 ⟨rfl, ho⟩; have HW5 := Lib.hid ho; clear ho)
              | (go_at_call 17; refine (od_on HW5.out).mono ?_; rw [HOF.out]; rintro e w9 ⟨rfl, rfl⟩)
              | (go_at_call 13; refine (od_crash HW5.out HG1.out ks _ (HKR.out.below HW5.out.bel) HKW.out (HAPK.out _)).mono ?_; rw [crash_bad_p HFN.out]; rintro e w6 ⟨rfl, ho⟩; have HW6 := Lib.hid ho; clear ho)
              | (go_at_call 30; refine (fine_any ks _ _ (HKR.out.below HW6.out.bel)).mono ?_; rw [HFN.out]; rintro e w9 ⟨rfl, rfl⟩))
            go_ret
            exact ⟨rfl, HW6.out.bel⟩
          · have HFN := Lib.hid hfn
            clear hfn
            go_wp2_with (first
              | (go_at_call 27; refine (od_free HW.out).mono ?_; rw [← HD1.out]; rintro e w5 ⟨rfl, ho⟩; have HW5 := Lib.hid ho; clear ho)
              | (go_at_call 17; refine (od_on HW5.out).mono ?_; rw [HOF.out]; rintro e w9 ⟨rfl, rfl⟩)
              | (go_at_call 13; refine (od_crash HW5.out HG1.out ks _ (HKR.out.below HW5.out.bel) HKW.out (HAPK.out _)).mono ?_; rw [(crash_off HFN.out).1]; rintro e w6 ⟨rfl, ho⟩; have HW6 := Lib.hid ho; clear ho)
              | (go_at_call 30; refine (fine_any ks _ _ (HKR.out.below HW6.out.bel)).mono ?_; rw [HFN.out]; rintro e w9 ⟨rfl, rfl⟩))
            go_ret
            exact ⟨rfl, HW6.out.bel⟩
        · have HOF : Hid (D1.off = false) := Lib.hid (by simpa using hoff)
          clear hoff
          have HL200 : Hid (D1.F.length ≤ 200) := Lib.hid HI1.out.len
          have hl200 : D1.F.length ≤ 200 := HI1.out.len
          have HSM : Hid (∀ f ∈ D1.F, f.n.size ≤ maxLen) := Lib.hid (fun f hf => by have := HI1.out.nam f hf; unfold maxLen; omega)
          go_wp2_with (first
            | (go_at_call 27; refine (od_free HW.out).mono ?_; rw [← HD1.out]; rintro e w5 ⟨rfl, ho⟩; have HW5 := Lib.hid ho; clear ho)
            | (go_at_call 17; refine (od_on HW5.out).mono ?_; rw [HOF.out]; rintro e w9 ⟨rfl, rfl⟩)
            | (go_at_call 21; refine (od_names HW5.out HG1.out).mono ?_; rintro e w7 ⟨v7, rfl, ho, hb⟩; have HB7 := Lib.hid hb; have HK0 : Hid (Kp w5 w7 D1 [] 0 0 v7 (.slice none 0 0) (.slice none 0 0)) := Lib.hid (Kp.start hb.size ho HOF.out); obtain ⟨pN, cN, rfl, -, -⟩ := own_slice HK0.out.nam; clear ho hb))
          go_loopw [11, 12, 13] (fun vW vS i wr => ∃ (k : Nat) (us : List Value), us.length = k ∧ k ≤ D1.F.length ∧ i = .int .i64 (k : Int) ∧ Hid (Kp w5 wr D1 us k k (.slice pN D1.F.length cN) vW vS) ∧ Hid (Below w5.heap.size w5 wr)) (fun _ _ i _ => D1.F.length - (intOf i).toNat)
          case atStart => exact ⟨0, [], rfl, Nat.zero_le _, rfl, HK0, HB7⟩
          case round =>
            obtain ⟨k, us, hul, hk, rfl, HK, HB⟩ := hrel
            have HUL := Lib.hid hul
            clear hul
            by_cases hlt : k < D1.F.length
            · have j3 : (k : Int) < (D1.F.length : Int) := by omega
              obtain ⟨q, cq, e, -, -, -⟩ := own_block HK.out.nam (by omega)
              simp only [Value.slice.injEq] at e
              obtain ⟨rfl, -, rfl⟩ := e
              obtain ⟨f, hf⟩ : ∃ f, f = D1.F[k] := ⟨_, rfl⟩
              have HFK : Hid (D1.F[k]? = some f) := Lib.hid (by rw [hf]; exact List.getElem?_eq_getElem hlt)
              have HRD : Hid (D1.read f.n = (0, f.b) ∧ D1.synced f.n = (0, (f.s : Int))) := Lib.hid (by rw [hf]; exact HI1.out.at_ HN1.out HOF.out hlt)
              have HSS : Hid (f.n.size ≤ maxLen) := Lib.hid (HSM.out f (by rw [hf]; exact List.getElem_mem hlt))
              have HKB : Hid (k ≤ 200) := Lib.hid (by omega)
              have c0 : wr.cell? ⟨q, k, none⟩ = some (.string f.n) := own_cell HK.out.nam (j := k) (by rw [List.getElem?_map, HFK.out]; rfl)
              clear hf
              go_wp2_with (first
                | (go_at_call 14; refine (od_read (HW5.out.kept HB.out) HG1.out f.n HSS.out).mono ?_; rw [HRD.out.1]; dsimp only; rintro e w8 ⟨v8, rfl, hf8, hb⟩; obtain ⟨p8, c8, rfl, -, -⟩ := own_slice hf8; have HF8 : Hid (Fresh w5.heap.size w8 (.slice p8 f.b.length c8) f.b) := Lib.hid (Fresh.mono hf8 HB.out.size); have HB8 := Lib.hid (below_and HB.out hb); have HK8 := Lib.hid (HK.out.kept hb); clear hf8 hb HK c0; have c0 : w8.cell? ⟨q, k, none⟩ = some (.string f.n) := own_cell HK8.out.nam (j := k) (by rw [List.getElem?_map, HFK.out]; rfl))
                | (go_at_call 15; refine (od_synced (HW5.out.kept HB8.out) f.n HSS.out).mono ?_; rw [HRD.out.2]; dsimp only; rintro e w9 ⟨rfl, hb⟩; have HF9 : Hid (Fresh w5.heap.size (w9.alloc (.cells #[.slice p8 f.b.length c8] 29)) (.slice p8 f.b.length c8) f.b) := Lib.hid (HF8.out.below (below_and hb (below_alloc w9 _))); have HB9 := Lib.hid (below_and HB8.out (below_and hb (below_alloc w9 (.cells #[.slice p8 f.b.length c8] 29)))); have HK9 := Lib.hid (HK8.out.kept (below_and hb (below_alloc w9 (.cells #[.slice p8 f.b.length c8] 29)))); clear hb HK8 c0 HF8)
                | (at_builtin; refine wpList_app5 rfl _ _ 60 60 rfl w5.heap.size 29 ty1 (.slice none 0 0) 1 24 Try.underlying60 HI1i.out hi11 hi12 hi13 rfl _ k us rfl HK9.out.was _ 1 _ rfl (src_one Try.underlying60 _ _ rfl) (by have := HKB.out; unfold maxLen; omega) (by have := HKB.out; omega) HK9.out.sz ?_; intro vW2 wa hown hg hn; have HKa : Hid (Kp w5 (wa.alloc (.cells #[.int .i64 (f.s : Int)] 3)) D1 (us ++ [.slice p8 f.b.length c8]) (k + 1) k (.slice (some ⟨q, 0, none⟩) D1.F.length cN) vW2 u12) := Lib.hid ((HK9.out.push1 HUL.out HFK.out HF9.out hown hg).kept (below_alloc wa _)); have HBa : Hid (Below w5.heap.size w5 (wa.alloc (.cells #[.int .i64 (f.s : Int)] 3))) := Lib.hid (below_and (below_grown HB9.out HK9.out.sz HK9.out.was hg) (below_alloc wa _)); clear hown hg hn)
                | (at_builtin; refine wpList_app5 rfl _ _ 31 31 rfl w5.heap.size 3 ty2 (.int .i64 0) 1 8 Try.underlying31 HI2i.out hi21 hi22 hi23 rfl _ k _ rfl HKa.out.syn _ 1 _ rfl (src_one Try.underlying31 _ _ rfl) (by have := HKB.out; unfold maxLen; omega) (by have := HKB.out; omega) HKa.out.sz ?_; intro vS2 wb hown hg hn; have HKb : Hid (Kp w5 wb D1 (us ++ [.slice p8 f.b.length c8]) (k + 1) (k + 1) (.slice (some ⟨q, 0, none⟩) D1.F.length cN) vW2 vS2) := Lib.hid (HKa.out.push2 HFK.out hown hg); have HBb : Hid (Below w5.heap.size w5 wb) := Lib.hid (below_grown HBa.out HKa.out.sz HKa.out.syn hg); clear hown hg hn))
              go_roundw
              case rel => exact ⟨k + 1, _, by simp [HUL.out], hlt, by go_num, HKb, HBb⟩
              case measure => simp [intOf]; omega
            · obtain rfl : k = D1.F.length := by omega
              have HY : Hid (Od (fun x => w5.heap.size ≤ x ∧ x < wr.heap.size) wr w wr b D1) := Lib.hid (HW5.out.watch HB.out _ (fun x hx => hx.2) (fun x hx => .inr hx.1))
              cases hfn : Dk.fine ks
              · have HFN := Lib.hid hfn
                clear hfn
                go_wp2_with (first
                  | (go_at_call 13; refine (od_crash HY.out HG1.out ks _ (HKR.out.below HY.out.bel) HKW.out (HAPK.out _)).mono ?_; rw [crash_bad_p HFN.out]; rintro e w6 ⟨rfl, ho⟩; have HW6 := Lib.hid ho; clear ho)
                  | (go_at_call 30; refine (fine_any ks _ _ (HKR.out.below HW6.out.bel)).mono ?_; rw [HFN.out]; rintro e w9 ⟨rfl, rfl⟩))
                go_ret
                exact ⟨rfl, HW6.out.bel⟩
              · have HFN := Lib.hid hfn
                clear hfn
                have HNM : Hid ((D1.crash ks).2.names = D1.names) := Lib.hid (crash_names HFN.out HOF.out)
                have HG2 : Hid (Good (D1.crash ks).2 200 1000000) := Lib.hid ⟨HI1.out.crash ks, by omega, by omega⟩
                have HAFT : Hid (∀ i (hi : i < D1.F.length), (D1.crash ks).2.read D1.F[i].n = (0, D1.F[i].b.take (D1.F[i].s + Dk.keepN ks i D1.F[i])) ∧ (D1.crash ks).2.synced D1.F[i].n = (0, ((D1.F[i].s + Dk.keepN ks i D1.F[i] : Nat) : Int)) ∧ D1.F[i].s + Dk.keepN ks i D1.F[i] ≤ D1.F[i].b.length) := Lib.hid (fun i hi => HI1.out.after HN1.out HFN.out hi)
                go_wp2_with (first
                  | (go_at_call 13; refine (od_crash HY.out HG1.out ks _ (HKR.out.below HY.out.bel) HKW.out (HAPK.out _)).mono ?_; rw [(crash_off HFN.out).1]; rintro e w6 ⟨rfl, ho⟩; have HW6 := Lib.hid ho; have HK6 : Hid (Kp w5 w6 D1 us D1.F.length D1.F.length (.slice pN D1.F.length cN) u11 u12) := Lib.hid (HK.out.frp ho.fx (fun x g1 g2 hn => hn ⟨g1, g2⟩)); clear ho)
                  | (go_at_call 21; refine (od_names HW6.out HG2.out).mono ?_; rw [HNM.out]; rintro e w7 ⟨v7, rfl, ho, hb⟩; have HN7 := Lib.hid ho; have HW7 := Lib.hid (HW6.out.kept hb); have HK7 := Lib.hid (HK6.out.kept hb); clear ho hb)
                  | (go_at_call 20; refine (same_own2 (b2 := w5.heap.size) (n2 := D1.F.length) D1.names HN7.out (by rw [names_at HOF.out, List.map_map]; exact HK7.out.nam)).mono ?_; rintro e w8 ⟨rfl, hb⟩; have HW8 := Lib.hid (HW7.out.kept hb); have HK8 := Lib.hid (HK7.out.kept hb); clear hb))
                clear HK6 HK7 HW6 HW7 HN7 HNM HY HK HB
                go_loopw [18] (fun i wt => ∃ k : Nat, k ≤ D1.F.length ∧ i = .int .i64 (k : Int) ∧ Hid (Below w8.heap.size w8 wt)) (fun i _ => D1.F.length - (intOf i).toNat)
                case atStart => exact ⟨0, Nat.zero_le _, rfl, Lib.hid (Below.refl _ _)⟩
                case round =>
                  obtain ⟨k, hk, rfl, HB⟩ := hrel
                  by_cases hlt : k < D1.F.length
                  · have j3 : (k : Int) < (D1.F.length : Int) := by omega
                    obtain ⟨q, cq, e, -, -, -⟩ := own_block HK8.out.nam (by omega)
                    simp only [Value.slice.injEq] at e
                    obtain ⟨rfl, -, rfl⟩ := e
                    obtain ⟨gw, cw, rfl, -, -, -⟩ := own_block HK8.out.was (by omega)
                    obtain ⟨gs, cs, rfl, -, -, -⟩ := own_block HK8.out.syn (by omega)
                    obtain ⟨f, hf⟩ : ∃ f, f = D1.F[k] := ⟨_, rfl⟩
                    have hFK : D1.F[k]? = some f := by rw [hf]; exact List.getElem?_eq_getElem hlt
                    have haft := HAFT.out k hlt
                    rw [← hf] at haft
                    obtain ⟨ha1, ha2, ha3⟩ := haft
                    have HSS : Hid (f.n.size ≤ maxLen) := Lib.hid (HSM.out f (by rw [hf]; exact List.getElem_mem hlt))
                    have hsyn := HI1.out.syn f (by rw [hf]; exact List.getElem_mem hlt)
                    have hone := HI1.out.one_le (f := f) (by rw [hf]; exact List.getElem_mem hlt)
                    have hroom := HI1.out.room
                    unfold lenF at hone
                    obtain ⟨nk, hnk⟩ : ∃ nk, nk = Dk.keepN ks k f := ⟨_, rfl⟩
                    rw [← hnk] at ha1 ha2 ha3
                    obtain ⟨l2, hl2⟩ : ∃ l2, l2 = f.b.take (f.s + nk) := ⟨_, rfl⟩
                    have hl2n : l2.length = f.s + nk := by rw [hl2, List.length_take]; omega
                    have HT2 : Hid (f.b.take l2.length = l2) := Lib.hid (by rw [hl2n]; exact hl2.symm)
                    rw [← hl2] at ha1
                    rw [← hl2n] at ha2
                    have HRD : Hid ((D1.crash ks).2.read f.n = (0, l2) ∧ (D1.crash ks).2.synced f.n = (0, (l2.length : Int))) := Lib.hid ⟨ha1, ha2⟩
                    have hul : us.length = D1.F.length := HUL.out
                    obtain ⟨u, hu⟩ : ∃ u, us[k]? = some u := ⟨_, List.getElem?_eq_getElem (by omega)⟩
                    have hfu := HK8.out.each k u f hu hFK
                    obtain ⟨pu, cu, rfl, hcu, hcm⟩ := own_slice hfu
                    have HFU := Lib.hid hfu
                    have HCN : Hid (∀ w', Below w8.heap.size w8 w' → w'.cell? ⟨q, k, none⟩ = some (.string f.n) ∧ w'.cell? ⟨gw, k, none⟩ = some (.slice pu f.b.length cu) ∧ w'.cell? ⟨gs, k, none⟩ = some (.int .i64 (f.s : Int))) := Lib.hid (fun w' hb => ⟨cell_kept (own_cell HK8.out.nam (j := k) (by rw [List.getElem?_map, hFK]; rfl)) hb, cell_kept (own_cell HK8.out.was (j := k) hu) hb, cell_kept (own_cell HK8.out.syn (j := k) (by rw [List.getElem?_map, List.getElem?_take, if_pos hlt, hFK]; rfl)) hb⟩)
                    obtain ⟨c0, c1, c2⟩ := HCN.out wr HB.out
                    have b0 : (0 : Int) ≤ (f.s : Int) := by omega
                    have b1 : (f.s : Int) ≤ (f.b.length : Int) := by omega
                    have b2 : (f.b.length : Int) ≤ 1073741824 := by omega
                    have b4 : (0 : Int) ≤ (nk : Int) := by omega
                    have b6 : (f.s : Int) + (nk : Int) ≤ (f.b.length : Int) := by omega
                    have b5 : (f.b.length : Int) ≤ (cu : Int) := by omega
                    have b7 : (l2.length : Int) ≤ (f.b.length : Int) := by omega
                    have b8 : (cu : Int) ≤ 9223372036854775807 := by unfold maxLen at hcm; omega
                    have u1 : IntKind.i64.wrap ((f.b.length : Int) - (f.s : Int)) = (f.b.length : Int) - (f.s : Int) := by rw [IntKind.wrap_i64]; omega
                    have q1 : ((l2.length : Int) != (l2.length : Int)) = false := by simp
                    have q4 : (l2 == l2) = true := by simp
                    by_cases hkk2 : k < ks.length
                    · have j4 : (k : Int) < (ks.length : Int) := by omega
                      obtain ⟨bk, ok, rfl, hkc⟩ := HKR.out.num hkk2
                      obtain ⟨x, hx⟩ : ∃ x, x = ks[k] := ⟨_, rfl⟩
                      rw [← hx] at hkc
                      have hx0 : 0 ≤ x := by
                        have h1 := HFN.out
                        unfold Dk.fine at h1
                        have := List.all_eq_true.1 h1 ks[k] (List.getElem_mem hkk2)
                        simp only [decide_eq_true_eq] at this
                        rw [hx]; exact this
                      have hmn : min x ((f.b.length : Int) - (f.s : Int)) = (nk : Int) := by
                        rw [hnk, keepN_in hkk2 f (by rw [← hx]; exact hx0) hsyn, ← hx]
                      have q2 : ((l2.length : Int) != (f.s : Int) + (nk : Int)) = false := by simp; omega
                      have u2 : IntKind.i64.wrap ((f.s : Int) + (nk : Int)) = (f.s : Int) + (nk : Int) := by rw [IntKind.wrap_i64]; omega
                      have HKC := Lib.hid hkc
                      clear hx0 hx hFK ha1 ha2 ha3 hsyn hone hroom hnk hl2 hl2n hul hu hfu hcu hcm hf hkc
                      go_upto_region 35 with (first
                        | (go_at_call 14; refine (od_read (HW8.out.kept HB.out) HG2.out f.n HSS.out).mono ?_; rw [HRD.out.1]; dsimp only; rintro e w9 ⟨v9, rfl, hf9, hb⟩; obtain ⟨p9, c9, rfl, -, -⟩ := own_slice hf9; have HF9 := Lib.hid hf9.rd; have HB9 := Lib.hid (below_and HB.out hb); clear hf9 hb c0 c1 c2; obtain ⟨c0, c1, c2⟩ := HCN.out w9 HB9.out)
                        | (go_at_call 15; refine (od_synced (HW8.out.kept HB9.out) f.n HSS.out).mono ?_; rw [HRD.out.2]; dsimp only; rintro e wa ⟨rfl, hb⟩; have HFa := Lib.hid (HF9.out.below hb); have HBa := Lib.hid (below_and HB9.out hb); clear hb c0 c1 c2; obtain ⟨c0, c1, c2⟩ := HCN.out wa HBa.out))
                      have HBW : Hid (Below w.heap.size w wa) := Lib.hid (HW8.out.kept HBa.out).bel
                      have kc := cell_kept HKC.out HBW.out
                      have q5 := Past.cell kc
                      have q6 := Past.cell c1
                      have q7 := Past.cell c2
                      refine wp_region_past (by kernel_rfl) (by kernel_rfl) ?_
                      repeat (go_big_quiet_step (fail))
                      refine wpQuiet_nil ?_
                      intro _ hw'
                      obtain ⟨s', hw''⟩ := hw'
                      subst hw''
                      obtain ⟨wb, h5, e5⟩ : ∃ wb, Below wa.heap.size wa wb ∧ wb = s'.val := ⟨_, s'.h, rfl⟩
                      rw [← e5]
                      have HFb := Lib.hid (HFa.out.below h5)
                      have HBb := Lib.hid (below_and HBa.out h5)
                      have HUb : Hid (Rd wb (.slice pu l2.length cu) l2) := Lib.hid (by have := (HFU.out.below HBb.out).rd.take (m := l2.length) (by omega); rw [HT2.out] at this; exact this)
                      clear h5 e5 q5 q6 q7 kc c0 c1 c2
                      obtain ⟨c0, c1, c2⟩ := HCN.out wb HBb.out
                      go_wp2_with (go_at_call 31; refine (opq2 (same_any _ _ _ _ _ HFb.out HUb.out)).mono ?_; rw [q4]; rintro e wc ⟨rfl, hb⟩; have HBc := Lib.hid (below_and HBb.out hb); clear hb)
                      go_roundw
                      case rel => exact ⟨k + 1, hlt, by go_num, HBc⟩
                      case measure => simp [intOf]; omega
                    · have j4 : ¬ (k : Int) < (ks.length : Int) := by omega
                      have hn0 : nk = 0 := by rw [hnk]; exact keepN_out hkk2 f
                      have q2 : ((l2.length : Int) != (f.s : Int) + 0) = false := by simp; omega
                      have q3 : ((l2.length : Int) != (f.s : Int)) = false := by simp; omega
                      have u2 : IntKind.i64.wrap ((f.s : Int) + 0) = (f.s : Int) + 0 := by rw [IntKind.wrap_i64]; omega
                      have HUT : Hid (∀ w', Below w8.heap.size w8 w' → Rd w' (.slice pu l2.length cu) l2) := Lib.hid (fun w' hb => by have := (HFU.out.below hb).rd.take (m := l2.length) (by omega); rw [HT2.out] at this; exact this)
                      clear hn0 hFK ha1 ha2 ha3 hsyn hone hroom hnk hl2 hl2n hul hu hfu hcu hcm hf
                      go_wp2_with (first
                        | (go_at_call 14; refine (od_read (HW8.out.kept HB.out) HG2.out f.n HSS.out).mono ?_; rw [HRD.out.1]; dsimp only; rintro e w9 ⟨v9, rfl, hf9, hb⟩; obtain ⟨p9, c9, rfl, -, -⟩ := own_slice hf9; have HF9 := Lib.hid hf9.rd; have HB9 := Lib.hid (below_and HB.out hb); clear hf9 hb c0 c1 c2; obtain ⟨c0, c1, c2⟩ := HCN.out w9 HB9.out)
                        | (go_at_call 15; refine (od_synced (HW8.out.kept HB9.out) f.n HSS.out).mono ?_; rw [HRD.out.2]; dsimp only; rintro e wa ⟨rfl, hb⟩; have HFa := Lib.hid (HF9.out.below hb); have HBa := Lib.hid (below_and HB9.out hb); clear hb c0 c1 c2; obtain ⟨c0, c1, c2⟩ := HCN.out wa HBa.out)
                        | (go_at_call 31; refine (opq2 (same_any _ _ _ _ _ HFa.out (HUT.out _ HBa.out))).mono ?_; rw [q4]; rintro e wc ⟨rfl, hb⟩; have HBc := Lib.hid (below_and HBa.out hb); clear hb))
                      go_roundw
                      case rel => exact ⟨k + 1, hlt, by go_num, HBc⟩
                      case measure => simp [intOf]; omega
                  · obtain rfl : k = D1.F.length := by omega
                    go_wp2
                    go_ret
                    exact ⟨rfl, (HW8.out.kept HB.out).bel⟩
theorem diskKeeps_walk (r : Int) (v : Value) (es : List (List Value)) (vk : Value) (ks : List Int) (w : World) (_ : (Lit.int .i64 r).wf = true) (hr : Row w v 6 es.length es.flatten) (hf : ∀ x ∈ es, Leavz Try.prog w [3, 9, 9, 29, 3, 31] x) (hk : Row w vk 1 ks.length (ks.map (Value.int .i64))) (hkw : ∀ n ∈ ks, (Lit.int .i64 n).wf = true) (_ : ks.length * 8 ≤ 140737488351232) :
    Calls Try.prog 6 #[.int .i64 r, v, vk] w fun e w' => e = .returned (.bool true) ∧ Below w.heap.size w w' := by
  obtain ⟨l, hl⟩ := acs_of hr hf (by kernel_rfl)
  by_cases h : r < 0 ∨ 1073741824 < r
  · exact diskKeeps_bad r v vk l w hl h
  · exact diskKeeps_in r v vk l ks w hl hk (fun x hx => (i64_wf (hkw x hx)).2) (by omega) (by omega)
end Go.Proofs.Ytgcemddobcjpnaa
