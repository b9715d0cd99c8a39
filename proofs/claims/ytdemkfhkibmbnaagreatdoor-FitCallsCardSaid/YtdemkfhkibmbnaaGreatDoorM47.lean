/- Open4, Open6, Open7, RdOpen. -/
import Derived.Test.YtdemkfhkibmbnaaGreatDoorM11
import Derived.Test.YtdemkfhkibmbnaaGreatDoorRuHoldP
namespace Go.Proofs.YtdemkfhkibmbnaaGreatDoor
open Go.ChangeShapes Go.WideShapes Go.ChangeAt Go.RowKit
section
variable (P : Program)
def leafsM (rec : TypeId → Option (List TypeId)) : Nat → List Field → Option (List TypeId)
 | _, [] => some []
 | o, f :: fs => match rec f.type with
  | some l => if f.offset == o && P.cellsOf f.type == l.length then (leafsM rec (o + l.length) fs).map (l ++ ·) else none
  | none => none
end
section
variable {H : Type} {enc : TypeId × Value → H} {P : Program} {W : World}
def Small (P : Program) (t : TypeId) (d : DataW H) : Prop := ∀ m ∈ d.weights P t, m ≤ 140737488351232
theorem weightsAll_mem {e : TypeId} : ∀ {l : List (DataW H)} {d : DataW H} {n : Nat}, d ∈ l → n ∈ d.weights P e → n ∈ DataW.weightsAll P e l
 | a :: l, d, n, hd, hn => by
  simp only [DataW.weightsAll, List.mem_append]; rcases List.mem_cons.1 hd with rfl | hd
  ·exact Or.inl hn
  ·exact Or.inr (weightsAll_mem hd hn)
end
theorem small_of {H : Type} {P : Program} {t : TypeId} {d : DataW H} {ts : List TypeId} {ds : List (DataW H)} {j : Nat} (hsz : (DataW.weightsEach P ts ds).all (· ≤ reachBytes) = true) (hj : ts[j]? = some t) (hd : ds[j]? = some d) : Small P t d := fun m hm => by
 have := List.all_eq_true.1 hsz _ (DataW.weights_mem_each hj hd m hm); have h4 : reachBytes = 140737488351232 := by decide
 simp at this
 omega
def FieldB (P : Program) (t : TypeId) (v : Value) : Prop := fieldOk P t v ∧ ∀ s, v = .string s → s.size ≤ 140737488351232
def leafG (P : Program) (tst : TypeId → Bool) : Nat → TypeId → Option (List TypeId)
 | 0, _ => none
 | n + 1, t => if tst t then some [t] else match P.underlying t with
  | some (.struct fs) => leafsM P (leafG P tst n) 0 fs.toList
  | _ => none
def LeavG (Ok : TypeId → Value → Prop) (ls : List TypeId) (cs : List Value) : Prop := cs.length = ls.length ∧ ∀ i t, ls[i]? = some t → Ok t (cs.getD i undef)
def structsType (P : Program) (t : TypeId) : Bool := match P.underlying t with
 | some (.slice e) => match leafG P (plainType P) 4 e with
  | some ls => P.cellsOf e == ls.length && decide (0 < ls.length)
  | none => false
 | _ => false
def LeafQ (P : Program) (W : World) (t : TypeId) (v : Value) : Prop := FieldB P t v ∨ ∃ (e : TypeId) (ls : List TypeId) (es : List (List Value)), P.underlying t = some (.slice e) ∧ leafG P (plainType P) 4 e = some ls ∧ Row W v ls.length es.length es.flatten ∧ (∀ x ∈ es, LeavG (FieldB P) ls x) ∧ es.length * P.bytesOf e ≤ 140737488351232
theorem LeavG.append {Ok : TypeId → Value → Prop} {ls ms : List TypeId} {cs ds : List Value} (h : LeavG Ok ls cs) (k : LeavG Ok ms ds) : LeavG Ok (ls ++ ms) (cs ++ ds) := by
 refine ⟨by simp [h.1, k.1], fun i t hi => ?_⟩
 by_cases hlt : i < ls.length
 ·rw [List.getElem?_append_left hlt] at hi
  have := h.2 i t hi
  rwa [List.getD_eq_getElem?_getD, List.getElem?_append_left (by rw [h.1]; exact hlt), ← List.getD_eq_getElem?_getD]
 ·rw [List.getElem?_append_right (by omega)] at hi
  have := k.2 _ t hi
  rwa [List.getD_eq_getElem?_getD, List.getElem?_append_right (by rw [h.1]; omega), ← List.getD_eq_getElem?_getD, h.1]
section
variable {H : Type} {enc : TypeId × Value → H} {P : Program} {W : World}
theorem leavesMG {Ok : TypeId → Value → Prop} {rec : TypeId → Option (List TypeId)} {cs : List Value} (hrec : ∀ t l n ds x, rec t = some l → DataW.trod enc P W 0 (fun _ => true) true n t ds = some x → Small P t x.1 → LeavG Ok l ds) :
  ∀ (fs : List Field) (o : Nat) (ls : List TypeId), leafsM P rec o fs = some ls → (∀ f ∈ fs, ∃ n x, DataW.trod enc P W 0 (fun _ => true) true n f.type ((cs.drop f.offset).take (P.cellsOf f.type)) = some x ∧ Small P f.type x.1) → LeavG Ok ls ((cs.drop o).take ls.length)
 | [], o, ls, h, _ => by
  simp only [leafsM, Option.some.injEq] at h; subst h; exact ⟨by simp, fun i t hi => by simp at hi⟩
 | f :: fs, o, ls, h, hf => by
  simp only [leafsM] at h
  cases hr : rec f.type with
  | none => rw [hr] at h; cases h
  | some l =>
   rw [hr] at h; simp only at h
   split at h
   ·rename_i hc
    simp only [Bool.and_eq_true, beq_iff_eq] at hc
    cases hq : leafsM P rec (o + l.length) fs with
    | none => rw [hq] at h; cases h
    | some ms =>
     rw [hq] at h; simp only [Option.map_some, Option.some.injEq] at h; subst h; obtain ⟨n, x, hx, hw⟩ := hf f (by simp); have h1 := hrec f.type l n _ x hr hx hw; rw [hc.1, hc.2] at h1; have h2 := leavesMG hrec fs (o + l.length) ms hq (fun g hg => hf g (by simp [hg])); have := h1.append h2
     have e : (cs.drop o).take l.length ++ (cs.drop (o + l.length)).take ms.length = (cs.drop o).take (l ++ ms).length := by
      rw [List.length_append, ← List.drop_drop, List.take_add]
     rwa [e] at this
   ·cases h
theorem leaves_of_trodG {tst : TypeId → Bool} {Ok : TypeId → Value → Prop} (hok : ∀ t n cs x, tst t = true → DataW.trod enc P W 0 (fun _ => true) true n t cs = some x → Small P t x.1 → ∃ v, cs = [v] ∧ Ok t v) : ∀ (d : Nat) (t : TypeId) (ls : List TypeId) (n : Nat) (cs : List Value) (x : DataW H × List MemPlace), leafG P tst d t = some ls → DataW.trod enc P W 0 (fun _ => true) true n t cs = some x → P.cellsOf t = ls.length → Small P t x.1 → LeavG Ok ls cs
 | 0, _, _, _, _, _, h, _, _, _ => by cases h
 | d + 1, t, ls, n, cs, x, h, hx, hC, hw => by
  simp only [leafG] at h
  split at h
  ·rename_i hp
   simp only [Option.some.injEq] at h; subst h; obtain ⟨v, rfl, hv⟩ := hok t n cs x hp hx hw; refine ⟨rfl, fun i t' hi => ?_⟩
   match i, hi with
   | 0, hi =>
    simp only [List.getElem?_cons_zero, Option.some.injEq] at hi; subst hi; exact hv
  ·split at h
   ·rename_i fs hs
    obtain ⟨xs, m, -, hxe, hl, hxl, hf⟩ := DataW.trod_struct hs hx
    have := leavesMG (Ok := Ok) (cs := cs) (enc := enc) (W := W) (rec := fun t => (leafG P tst d t).bind fun l => if P.cellsOf t = l.length then some l else none) (fun t l n ds x h1 h2 hw2 => by
     cases hq : leafG P tst d t with
     | none => rw [hq] at h1; cases h1
     | some l' =>
      rw [hq] at h1; simp only [Option.bind_some] at h1
      split at h1
      ·rename_i hc
       simp only [Option.some.injEq] at h1; subst h1; exact leaves_of_trodG hok d t _ n ds x hq h2 hc hw2
      ·cases h1) fs.toList 0 ls (by
     have key : ∀ (gs : List Field) (o : Nat) (ms : List TypeId), leafsM P (leafG P tst d) o gs = some ms → leafsM P (fun t => (leafG P tst d t).bind fun l => if P.cellsOf t = l.length then some l else none) o gs = some ms := by
      intro gs
      induction gs with
      | nil => intro o ms h; exact h
      | cons g gs ih =>
       intro o ms h; simp only [leafsM] at h ⊢
       cases hq : leafG P tst d g.type with
       | none => rw [hq] at h; cases h
       | some l =>
        rw [hq] at h; simp only at h
        split at h
        ·rename_i hc
         have hc' := hc; simp only [Bool.and_eq_true, beq_iff_eq] at hc'; simp only [Option.bind_some, hc'.2, if_true]; rw [if_pos (by simp [hc'.1])]
         cases hr : leafsM P (leafG P tst d) (o + l.length) gs with
         | none => rw [hr] at h; cases h
         | some rs =>
          rw [hr] at h; rw [ih _ _ hr]; exact h
        ·cases h
     exact key _ _ _ h) (fun f hf' => by
     obtain ⟨i, hi, rfl⟩ := List.getElem_of_mem hf'; have := hf i fs[i] (Array.getElem?_eq_getElem (by simpa using hi)); have hi' : i < xs.length := by rw [hxl]; simpa using hi
     rw [List.getElem?_eq_getElem hi'] at this; refine ⟨_, _, by simpa using this, fun k hk => hw k ?_⟩; rw [hxe]; have h7 : (fs.toList.map (·.type))[i]? = some fs[i].type := by rw [List.getElem?_map, List.getElem?_eq_getElem (by simpa using hi)]; simp
     have h8 : (xs.map (·.1))[i]? = some xs[i].1 := by rw [List.getElem?_map, List.getElem?_eq_getElem hi']; rfl
     have := DataW.weights_mem_each (P := P) h7 h8 k (by simpa using hk)
     simpa [DataW.weights, hs] using this)
    rw [List.drop_zero, List.take_of_length_le (by rw [hl, hC]; exact Nat.le_refl _)] at this; exact this
   ·cases h
theorem field_hok (t : TypeId) (n : Nat) (cs : List Value) (x : DataW H × List MemPlace) (hp : plainType P t = true) (hx : DataW.trod enc P W 0 (fun _ => true) true n t cs = some x) (hw : Small P t x.1) : ∃ v, cs = [v] ∧ FieldB P t v := by
 have hp' := hp
 unfold plainType at hp
 split at hp
 ·rename_i k hk
  obtain ⟨m, h1, -⟩ := DataW.trod_int hk hx; subst h1; exact ⟨_, rfl, field_of_trod hp' hx, fun s h => by cases h⟩
 ·rename_i hk
  obtain ⟨s, h1, h2, -⟩ := DataW.trod_string hk hx; subst h1 h2; refine ⟨_, rfl, field_of_trod hp' hx, fun s' h => ?_⟩; cases h; have := hw s.data.toList.length (by simp [DataW.weights]); have h5 : s.data.toList.length = s.size := by simp
  omega
 ·rename_i hk
  obtain ⟨m, h1, -⟩ := DataW.trod_bool hk hx; subst h1; exact ⟨_, rfl, field_of_trod hp' hx, fun s h => by cases h⟩
 ·cases hp
theorem LeavG.one {ls : List TypeId} {cs : List Value} (h : LeavG (FieldB P) ls cs) : ∀ u ∈ cs, u.oneCell' = true := by
 intro u hu; obtain ⟨i, hi, rfl⟩ := List.getElem_of_mem hu; have hi' : i < ls.length := by rw [← h.1]; exact hi
 have := (h.2 i ls[i] (List.getElem?_eq_getElem hi')).1.one
 simpa [List.getD, hi] using this
theorem structs_of_trod {t : TypeId} {n0 : Nat} {cs : List Value} {x : DataW H × List MemPlace} (hp : structsType P t = true) (h : DataW.trod enc P W 0 (fun _ => true) true n0 t cs = some x) (hsm : Small P t x.1) : ∃ v, cs = [v] ∧ LeafQ P W t v := by
 unfold structsType at hp
 split at hp
 ·rename_i e ht
  split at hp
  ·rename_i ls hls
   simp only [Bool.and_eq_true, beq_iff_eq, decide_eq_true_eq] at hp; obtain ⟨hC, hpos⟩ := hp; rcases Deep.open_slice ht h with ⟨hcs, -⟩ | ⟨a, len0, cap, m, n, D, Pl, hcs, hb, hl, hm, hmm, hx, hr⟩
   ·exact ⟨_, hcs, Or.inr ⟨e, ls, [], ht, hls, row_nil W _, by simp, by simp⟩⟩
   refine ⟨_, hcs, Or.inr ⟨e, ls, ?_⟩⟩; simp only [if_true] at hmm; subst hmm; rw [hC] at hr
   obtain ⟨C, hCC⟩ := Deep.choose_lt (α := List Value) (p := fun i cs => W.cells? 0 (a.add (i * ls.length)) ls.length = some cs ∧ DataW.trod enc P W 0 (fun _ => true) true n e cs = some (D i, Pl i)) (fun i (hi : i < len0) => by
    obtain ⟨cs, h1, h2⟩ := hr i (by omega)
    exact ⟨cs, h1, h2⟩)
   have hd' := congrArg Prod.fst hx
   have hsi : ∀ i, i < len0 → Small P e (D i) := fun i hi k hk => hsm k (by
    rw [hd']; simp only [DataW.weights, ht, List.mem_cons, List.mem_append]
    exact Or.inr (Or.inl (weightsAll_mem (List.mem_map.2 ⟨i, List.mem_range.2 hi, rfl⟩) hk)))
   have hok : ∀ i, i < len0 → LeavG (FieldB P) ls (C i) := fun i hi => leaves_of_trodG field_hok 4 e ls _ _ _ hls (hCC i hi).2 hC (hsi i hi)
   have hcell : ∀ i, i < len0 → ∀ j, j < ls.length → W.cell? ((a.add (i * ls.length)).add j) = (C i)[j]? := fun i hi => (World.cells?_some (hCC i hi).1).2.2
   have hmem : ∀ x ∈ (List.range len0).map C, LeavG (FieldB P) ls x := fun x hx => by
    obtain ⟨i, hi, rfl⟩ := List.mem_map.1 hx; exact hok i (List.mem_range.1 hi)
   have hfl := flatten_len ((List.range len0).map C) (fun x hx => (hmem x hx).1); have hln : ((List.range len0).map C).length = len0 := by simp
   refine ⟨(List.range len0).map C, ht, hls, ⟨some a, _, by rw [hln], by rw [hln]; exact hl, hm, by rw [hfl], ?_, by simp, ?_⟩, hmem, by rw [hln]; refine Nat.le_trans ?_ (hsm _ (by rw [hd']; simp only [DataW.weights, ht, List.mem_cons]; exact Or.inl rfl)); exact Nat.mul_le_mul_right _ (by simp)⟩
   ·intro u hu
    obtain ⟨x, hx, hux⟩ := List.mem_flatten.1 hu; exact (hmem x hx).one u hux
   ·by_cases h0 : len0 = 0
    ·left; subst h0; simp
    ·right
     have hc0 := hcell 0 (by omega) 0 hpos; rw [List.getElem?_eq_getElem (by rw [(hok 0 (by omega)).1]; exact hpos)] at hc0
     have hsp : a.spot = none := by
      have e0 : (a.add (0 * ls.length)).add 0 = a := by simp [Addr.add]
      rw [e0] at hc0; exact spot_none hc0
     obtain ⟨b, o, spt⟩ := a; simp only at hsp; subst hsp; refine ⟨b, o, rfl, fun j u hj => ?_⟩; rw [flatten_get hpos _ (fun x hx => (hmem x hx).1)] at hj; obtain ⟨x, hx, hjx⟩ := Option.bind_eq_some_iff.1 hj
     have hq : j / ls.length < len0 := by
      have := (List.getElem?_eq_some_iff.1 hx).1
      simpa using this
     have hx' : C (j / ls.length) = x := by simpa [hq] using hx
     have := hcell (j / ls.length) hq (j % ls.length) (Nat.mod_lt _ hpos); rw [add_off, add_off, hx', hjx] at this; have e := Nat.div_add_mod j ls.length; rw [Nat.mul_comm] at e; rw [Nat.add_assoc, e] at this; exact this
  ·cases hp
 ·cases hp
theorem leafq_hok (t : TypeId) (n : Nat) (cs : List Value) (x : DataW H × List MemPlace) (hp : (plainType P t || structsType P t) = true) (hx : DataW.trod enc P W 0 (fun _ => true) true n t cs = some x) (hw : Small P t x.1) : ∃ v, cs = [v] ∧ LeafQ P W t v := by
 rw [Bool.or_eq_true] at hp; rcases hp with hp | hp
 ·obtain ⟨v, rfl, h⟩ := field_hok t n cs x hp hx hw
  exact ⟨v, rfl, Or.inl h⟩
 ·exact structs_of_trod hp hx hw
end
theorem open_deepG {H : Type} {enc : TypeId × Value → H} {P : Program} {W : World} {t : TypeId} {fs : Array Field} {v : Value} {d : DataW H} {ps : List MemPlace} {r : Reach} {b0 : Nat} {ls : List TypeId} {tst : TypeId → Bool} {Ok : TypeId → Value → Prop} (hok : ∀ t n cs x, tst t = true → DataW.trod enc P W 0 (fun _ => true) true n t cs = some x → Small P t x.1 → ∃ v, cs = [v] ∧ Ok t v)
  (hs : P.underlying t = some (.struct fs)) (dp : Nat) (hp : leafG P tst dp t = some ls) (hC : P.cellsOf t = ls.length) (hval : Value.okWide P W r b0 t v) (h : DataW.Trod enc P W 0 (fun _ => true) true t v d ps) (hsm : Small P t d) :
  ∃ cs : List Value, v = .agg cs.toArray ∧ LeavG Ok ls cs := by
 obtain ⟨cs, rfl, -⟩ := okWide_struct hs hval; obtain ⟨fuel, hf⟩ := h; have := leaves_of_trodG hok dp t ls _ _ _ hp hf hC hsm; exact ⟨cs.toList, rfl, by simpa [Value.cells] using this⟩
theorem open_deepq {H : Type} {enc : TypeId × Value → H} {P : Program} {W : World} {t : TypeId} {fs : Array Field} {v : Value} {d : DataW H} {ps : List MemPlace} {r : Reach} {b0 : Nat} {ls : List TypeId}
  (hs : P.underlying t = some (.struct fs)) (dp : Nat) (hp : leafG P (fun t => plainType P t || structsType P t) dp t = some ls) (hC : P.cellsOf t = ls.length) (hval : Value.okWide P W r b0 t v) (h : DataW.Trod enc P W 0 (fun _ => true) true t v d ps) (hsm : Small P t d) :
  ∃ cs : List Value, v = .agg cs.toArray ∧ LeavG (LeafQ P W) ls cs := open_deepG (leafq_hok (enc := enc) (P := P) (W := W)) hs dp hp hC hval h hsm
end Go.Proofs.YtdemkfhkibmbnaaGreatDoor
namespace Go.Proofs.YtdemkfhkibmbnaaGreatDoor.Ru
open Go.RowKit Go.Proofs.YtdemkfhkibmbnaaGreatDoor
theorem rows_ofR {α : Type} (c : α → List Value) (Q : α → Prop) (R : List Value → Prop) (h : ∀ x, R x → ∃ a, x = c a ∧ Q a) : ∀ es : List (List Value), (∀ x ∈ es, R x) → ∃ L : List α, es.flatten = rwC c L ∧ es.length = L.length ∧ ∀ a ∈ L, Q a
 | [], _ => ⟨[], rfl, rfl, by simp⟩
 | x :: es, hx => by
  obtain ⟨L, h1, h2, h3⟩ := rows_ofR c Q R h es (fun y hy => hx y (by simp [hy])); obtain ⟨a, rfl, ha⟩ := h x (hx x (by simp)); refine ⟨a :: L, ?_, by simp [h2], ?_⟩
  ·rw [List.flatten_cons, h1]; rfl
  ·intro b hb
   rcases List.mem_cons.1 hb with rfl | hb
   ·exact ha
   ·exact h3 b hb
theorem str_ofR {t : TypeId} {v : Value} (h : FieldB Tryz.prog t v) (ht : Tryz.prog.underlying t = some .string) : ∃ l : List UInt8, v = .string (bs l) ∧ l.length ≤ 140737488351232 := by
 obtain ⟨s, rfl, -⟩ := h.1.str ht; refine ⟨s.data.toList, by simp [bs], ?_⟩; have h1 := h.2 s rfl; have : s.data.toList.length = s.size := by simp
 omega
theorem i64_ofR {t : TypeId} {v : Value} (h : FieldB Tryz.prog t v) (ht : Tryz.prog.underlying t = some (.int .i64)) : ∃ n : Int, v = .int .i64 n ∧ (-9223372036854775808 ≤ n ∧ n ≤ 9223372036854775807) := by
 obtain ⟨n, rfl, hn⟩ := h.1.int ht; exact ⟨n, rfl, by simpa [Lit.wf, IntKind.min, IntKind.max, IntKind.signed, IntKind.bits] using hn⟩
def NdB (n : Nd) : Prop := Fit1 n ∧ n.nm.length ≤ 140737488351232 ∧ n.vl.length ≤ 140737488351232
def AtB (a : At) : Prop := a.nm.length ≤ 140737488351232 ∧ a.vl.length ≤ 140737488351232
theorem nd_ofR {x : List Value} (h : LeavG (FieldB Tryz.prog) [3, 9, 9, 2, 3, 3] x) : ∃ n : Nd, x = ndC n ∧ NdB n := by
 obtain ⟨hl, hf⟩ := h
 match x, hl with
 | [a, b, c, d, e, f], _ =>
  obtain ⟨a, rfl, -⟩ := i64_ofR (hf 0 _ rfl) Tryz.underlying3; obtain ⟨b, rfl, hb⟩ := str_ofR (hf 1 _ rfl) Tryz.underlying9; obtain ⟨c, rfl, hc⟩ := str_ofR (hf 2 _ rfl) Tryz.underlying9; obtain ⟨d, rfl, hd⟩ := i64_ofR (hf 3 _ rfl) Tryz.underlying2; obtain ⟨e, rfl, -⟩ := i64_ofR (hf 4 _ rfl) Tryz.underlying3; obtain ⟨f, rfl, -⟩ := i64_ofR (hf 5 _ rfl) Tryz.underlying3; exact ⟨⟨a, b, c, d, e, f⟩, rfl, ⟨by simp only; omega, by simp only; omega, hd⟩, hb, hc⟩
theorem at_ofR {x : List Value} (h : LeavG (FieldB Tryz.prog) [9, 9] x) : ∃ a : At, x = atC a ∧ AtB a := by
 obtain ⟨hl, hf⟩ := h
 match x, hl with
 | [a, b], _ =>
  obtain ⟨a, rfl, ha⟩ := str_ofR (hf 0 _ rfl) Tryz.underlying9; obtain ⟨b, rfl, hb⟩ := str_ofR (hf 1 _ rfl) Tryz.underlying9; exact ⟨⟨a, b⟩, rfl, ha, hb⟩
theorem rows_qR {α : Type} {c : α → List Value} {Q : α → Prop} {W : World} {t e : TypeId} {v : Value} {ls : List TypeId} (h : LeafQ Tryz.prog W t v) (ht : Tryz.prog.underlying t = some (.slice e)) (hls : leafG Tryz.prog (plainType Tryz.prog) 4 e = some ls)
  (hc : ∀ x, LeavG (FieldB Tryz.prog) ls x → ∃ a, x = c a ∧ Q a) : ∃ L : List α, Row W v ls.length L.length (rwC c L) ∧ (∀ a ∈ L, Q a) ∧ L.length * Tryz.prog.bytesOf e ≤ 140737488351232 := by
 rcases h with h | ⟨e', ls', es, h1, h2, h3, h4, h5⟩
 ·rcases h.1 with ⟨k, h, -⟩ | ⟨h, -⟩ | ⟨h, -⟩ <;> · rw [ht] at h; cases h
 ·rw [ht] at h1
  simp only [Option.some.injEq, TypeDesc.slice.injEq] at h1; subst h1; rw [hls] at h2; simp only [Option.some.injEq] at h2; subst h2; obtain ⟨L, g1, g2, g3⟩ := rows_ofR c Q _ hc es h4; rw [g1, g2] at h3; exact ⟨L, h3, g3, by rw [← g2]; exact h5⟩
