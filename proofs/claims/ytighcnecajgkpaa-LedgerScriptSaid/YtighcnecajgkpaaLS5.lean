/- Texts of one proof, laid together: Open5, LedNil, LedAct, LedAlike, LedFitP, RFour, Past2, Late, LedFits, LedActs, Lin. No condition of ours. -/
import Derived.Test.YtighcnecajgkpaaLS4
import Derived.Deep.QuietTactic
import Derived.BigQuiet
import Derived.StillTailTactics
import Derived.Deep.RegionHeld3
import Derived.Deep.DeepCutAuto
namespace Go.Proofs.Ytighcnecajgkpaa
open Go.ChangeShapes Go.WideShapes Go.ChangeAt Go.RowKit

section
variable (P : Program)
/-- the leaves of fields that lie one behind the other -/
def leafsL (rec : TypeId → Option (List TypeId)) : Nat → List Field → Option (List TypeId)
  | _, [] => some []
  | o, f :: fs => match rec f.type with
    | some l => if f.offset == o && P.cellsOf f.type == l.length then (leafsL rec (o + l.length) fs).map (l ++ ·) else none
    | none => none
def leafs : Nat → TypeId → Option (List TypeId)
  | 0, _ => none
  | n + 1, t => if plainType P t then some [t] else match P.underlying t with
    | some (.struct fs) => leafsL P (leafs n) 0 fs.toList
    | _ => none
end

/-- cells read as leaves -/
def Leaves (P : Program) (ls : List TypeId) (cs : List Value) : Prop := cs.length = ls.length ∧ ∀ i t, ls[i]? = some t → fieldOk P t (cs.getD i undef)

theorem Leaves.append {P : Program} {ls ms : List TypeId} {cs ds : List Value} (h : Leaves P ls cs) (k : Leaves P ms ds) : Leaves P (ls ++ ms) (cs ++ ds) := by
  refine ⟨by simp [h.1, k.1], fun i t hi => ?_⟩
  by_cases hlt : i < ls.length
  · rw [List.getElem?_append_left hlt] at hi
    have := h.2 i t hi
    rwa [List.getD_eq_getElem?_getD, List.getElem?_append_left (by rw [h.1]; exact hlt), ← List.getD_eq_getElem?_getD]
  · rw [List.getElem?_append_right (by omega)] at hi
    have := k.2 _ t hi
    rwa [List.getD_eq_getElem?_getD, List.getElem?_append_right (by rw [h.1]; omega), ← List.getD_eq_getElem?_getD, h.1]

section
variable {H : Type} {enc : TypeId × Value → H} {P : Program} {W : World} {base : Nat} {sp : Nat → Bool} {held : Bool}

theorem leavesL {rec : TypeId → Option (List TypeId)} {cs : List Value} (hrec : ∀ t l n ds x, rec t = some l → DataW.trod enc P W base sp held n t ds = some x → Leaves P l ds) :
    ∀ (fs : List Field) (o : Nat) (ls : List TypeId), leafsL P rec o fs = some ls → (∀ f ∈ fs, ∃ n x, DataW.trod enc P W base sp held n f.type ((cs.drop f.offset).take (P.cellsOf f.type)) = some x) → Leaves P ls ((cs.drop o).take ls.length)
  | [], o, ls, h, _ => by
    simp only [leafsL, Option.some.injEq] at h
    subst h
    exact ⟨by simp, fun i t hi => by simp at hi⟩
  | f :: fs, o, ls, h, hf => by
    simp only [leafsL] at h
    cases hr : rec f.type with
    | none => rw [hr] at h; cases h
    | some l =>
      rw [hr] at h
      simp only at h
      split at h
      · rename_i hc
        simp only [Bool.and_eq_true, beq_iff_eq] at hc
        cases hq : leafsL P rec (o + l.length) fs with
        | none => rw [hq] at h; cases h
        | some ms =>
          rw [hq] at h
          simp only [Option.map_some, Option.some.injEq] at h
          subst h
          obtain ⟨n, x, hx⟩ := hf f (by simp)
          have h1 := hrec f.type l n _ x hr hx
          rw [hc.1, hc.2] at h1
          have h2 := leavesL hrec fs (o + l.length) ms hq (fun g hg => hf g (by simp [hg]))
          have := h1.append h2
          have e : (cs.drop o).take l.length ++ (cs.drop (o + l.length)).take ms.length = (cs.drop o).take (l ++ ms).length := by
            rw [List.length_append, ← List.drop_drop, List.take_add]
          rwa [e] at this
      · cases h
theorem leaves_of_trod : ∀ (d : Nat) (t : TypeId) (ls : List TypeId) (n : Nat) (cs : List Value) (x : DataW H × List MemPlace), leafs P d t = some ls → DataW.trod enc P W base sp held n t cs = some x → P.cellsOf t = ls.length → Leaves P ls cs
  | 0, _, _, _, _, _, h, _, _ => by cases h
  | d + 1, t, ls, n, cs, x, h, hx, hC => by
    simp only [leafs] at h
    split at h
    · rename_i hp
      simp only [Option.some.injEq] at h
      subst h
      have hone : ∃ v, cs = [v] := by
        unfold plainType at hp
        split at hp
        · rename_i k hk; obtain ⟨m, h1, -⟩ := DataW.trod_int hk hx; exact ⟨_, h1⟩
        · rename_i hk; obtain ⟨m, h1, -⟩ := DataW.trod_string hk hx; exact ⟨_, h1⟩
        · rename_i hk; obtain ⟨m, h1, -⟩ := DataW.trod_bool hk hx; exact ⟨_, h1⟩
        · cases hp
      obtain ⟨v, rfl⟩ := hone
      have := field_of_trod hp hx
      refine ⟨rfl, fun i t' hi => ?_⟩
      match i, hi with
      | 0, hi =>
        simp only [List.getElem?_cons_zero, Option.some.injEq] at hi
        subst hi
        exact this
    · split at h
      · rename_i fs hs
        obtain ⟨xs, m, -, -, hl, hxl, hf⟩ := DataW.trod_struct hs hx
        have := leavesL (cs := cs) (enc := enc) (W := W) (base := base) (sp := sp) (held := held) (rec := fun t => (leafs P d t).bind fun l => if P.cellsOf t = l.length then some l else none) (fun t l n ds x h1 h2 => by
          cases hq : leafs P d t with
          | none => rw [hq] at h1; cases h1
          | some l' =>
            rw [hq] at h1
            simp only [Option.bind_some] at h1
            split at h1
            · rename_i hc
              simp only [Option.some.injEq] at h1
              subst h1
              exact leaves_of_trod d t _ n ds x hq h2 hc
            · cases h1) fs.toList 0 ls (by
          have key : ∀ (gs : List Field) (o : Nat) (ms : List TypeId), leafsL P (leafs P d) o gs = some ms → leafsL P (fun t => (leafs P d t).bind fun l => if P.cellsOf t = l.length then some l else none) o gs = some ms := by
            intro gs
            induction gs with
            | nil => intro o ms h; exact h
            | cons g gs ih =>
              intro o ms h
              simp only [leafsL] at h ⊢
              cases hq : leafs P d g.type with
              | none => rw [hq] at h; cases h
              | some l =>
                rw [hq] at h
                simp only at h
                split at h
                · rename_i hc
                  have hc' := hc
                  simp only [Bool.and_eq_true, beq_iff_eq] at hc'
                  simp only [Option.bind_some, hc'.2, if_true]
                  rw [if_pos (by simp [hc'.1])]
                  cases hr : leafsL P (leafs P d) (o + l.length) gs with
                  | none => rw [hr] at h; cases h
                  | some rs =>
                    rw [hr] at h
                    rw [ih _ _ hr]
                    exact h
                · cases h
          exact key _ _ _ h) (fun f hf' => by
          obtain ⟨i, hi, rfl⟩ := List.getElem_of_mem hf'
          have := hf i fs[i] (Array.getElem?_eq_getElem (by simpa using hi))
          have hi' : i < xs.length := by rw [hxl]; simpa using hi
          rw [List.getElem?_eq_getElem hi'] at this
          exact ⟨_, _, by simpa using this⟩)
        rw [List.drop_zero, List.take_of_length_le (by rw [hl, hC]; exact Nat.le_refl _)] at this
        exact this
      · cases h
end

/-- a struct by value -/
theorem open_deep {H : Type} {enc : TypeId × Value → H} {P : Program} {W : World} {t : TypeId} {fs : Array Field} {v : Value} {d : DataW H} {ps : List MemPlace} {r : Reach} {b0 : Nat} {ls : List TypeId}
    (hs : P.underlying t = some (.struct fs)) (dp : Nat) (hp : leafs P dp t = some ls) (hC : P.cellsOf t = ls.length) (hval : Value.okWide P W r b0 t v) (h : DataW.Trod enc P W 0 (fun _ => true) true t v d ps) :
    ∃ cs : List Value, v = .agg cs.toArray ∧ Leaves P ls cs := by
  obtain ⟨cs, rfl, -⟩ := okWide_struct hs hval
  obtain ⟨fuel, hf⟩ := h
  have := leaves_of_trod dp t ls _ _ _ hp hf hC
  exact ⟨cs.toList, rfl, by simpa [Value.cells] using this⟩

theorem Leaves.one {P : Program} {ls : List TypeId} {cs : List Value} (h : Leaves P ls cs) : ∀ u ∈ cs, u.oneCell' = true := by
  intro u hu
  obtain ⟨i, hi, rfl⟩ := List.getElem_of_mem hu
  have hi' : i < ls.length := by rw [← h.1]; exact hi
  have := (h.2 i ls[i] (List.getElem?_eq_getElem hi')).one
  simpa [List.getD, hi] using this

/-- a slice of structs -/
theorem open_deeps {H : Type} {enc : TypeId × Value → H} {P : Program} {W : World} {t e : TypeId} {v : Value} {d : DataW H} {ps : List MemPlace} {r : Reach} {b0 : Nat} {ls : List TypeId}
    (ht : P.underlying t = some (.slice e)) (dp : Nat) (hp : leafs P dp e = some ls) (hC : P.cellsOf e = ls.length) (hpos : 0 < ls.length) (hval : Value.okWide P W r b0 t v) (h : DataW.Trod enc P W 0 (fun _ => true) true t v d ps) :
    ∃ es : List (List Value), Row W v ls.length es.length es.flatten ∧ ∀ x ∈ es, Leaves P ls x := by
  obtain ⟨a0, len0, cap0, rfl⟩ := okWide_slice ht hval
  obtain ⟨fuel, hf⟩ := h
  rcases Deep.open_slice ht hf with ⟨hcs, -⟩ | ⟨a, len, cap, m, n, D, Pl, hcs, hb, hl, hm, hmm, -, hr⟩
  · simp [Value.cells] at hcs
    obtain ⟨rfl, rfl, rfl⟩ := hcs
    exact ⟨[], row_nil W _, by simp⟩
  · simp [Value.cells] at hcs
    obtain ⟨rfl, rfl, rfl⟩ := hcs
    simp only [if_true] at hmm
    subst hmm
    rw [hC] at hr
    obtain ⟨C, hCC⟩ := Deep.choose_lt (α := List Value) (p := fun i cs => W.cells? 0 (a.add (i * ls.length)) ls.length = some cs ∧ DataW.trod enc P W 0 (fun _ => true) true n e cs = some (D i, Pl i)) (fun i (hi : i < len0) => by
      obtain ⟨cs, h1, h2⟩ := hr i (by omega)
      exact ⟨cs, h1, h2⟩)
    have hok : ∀ i, i < len0 → Leaves P ls (C i) := fun i hi => leaves_of_trod dp e ls _ _ _ hp (hCC i hi).2 hC
    have hcell : ∀ i, i < len0 → ∀ j, j < ls.length → W.cell? ((a.add (i * ls.length)).add j) = (C i)[j]? := fun i hi => (World.cells?_some (hCC i hi).1).2.2
    have hmem : ∀ x ∈ (List.range len0).map C, Leaves P ls x := fun x hx => by
      obtain ⟨i, hi, rfl⟩ := List.mem_map.1 hx
      exact hok i (List.mem_range.1 hi)
    have hfl := flatten_len ((List.range len0).map C) (fun x hx => (hmem x hx).1)
    have hln : ((List.range len0).map C).length = len0 := by simp
    refine ⟨(List.range len0).map C, ⟨some a, m, by rw [hln], by rw [hln]; exact hl, hm, by rw [hfl], ?_, by simp, ?_⟩, hmem⟩
    · intro u hu
      obtain ⟨x, hx, hux⟩ := List.mem_flatten.1 hu
      exact (hmem x hx).one u hux
    · by_cases h0 : len0 = 0
      · left; subst h0; simp
      · right
        have hc0 := hcell 0 (by omega) 0 hpos
        rw [List.getElem?_eq_getElem (by rw [(hok 0 (by omega)).1]; exact hpos)] at hc0
        have hsp : a.spot = none := by
          have e0 : (a.add (0 * ls.length)).add 0 = a := by simp [Addr.add]
          rw [e0] at hc0
          exact spot_none hc0
        obtain ⟨b, o, spt⟩ := a
        simp only at hsp
        subst hsp
        refine ⟨b, o, rfl, fun j u hj => ?_⟩
        rw [flatten_get hpos _ (fun x hx => (hmem x hx).1)] at hj
        obtain ⟨x, hx, hjx⟩ := Option.bind_eq_some_iff.1 hj
        have hq : j / ls.length < len0 := by
          have := (List.getElem?_eq_some_iff.1 hx).1
          simpa using this
        have hx' : C (j / ls.length) = x := by simpa [hq] using hx
        have := hcell (j / ls.length) hq (j % ls.length) (Nat.mod_lt _ hpos)
        rw [add_off, add_off, hx', hjx] at this
        have e := Nat.div_add_mod j ls.length
        rw [Nat.mul_comm] at e
        rw [Nat.add_assoc, e] at this
        exact this
end Go.Proofs.Ytighcnecajgkpaa
namespace Go.Proofs.Ytighcnecajgkpaa
open Go.RowKit

/-- the leaves of an Act -/
abbrev actC (k : Int) (s t : ByteArray) (a : Am) : List Value := [.int .i64 k, .string s, .string t, .int .i64 a.c, .int .i64 a.r, .int .i64 a.d, .int .i64 a.p]

set_option maxRecDepth 100000 in
set_option maxHeartbeats 2000000 in
theorem off_step (v : Value) (k : Int) (s t : ByteArray) (a : Am) (w : World) (h : Off v w) :
    Calls Try.prog 16 #[v, .agg #[.int .i64 k, .string s, .string t, .int .i64 a.c, .int .i64 a.r, .int .i64 a.d, .int .i64 a.p]] w fun e w' => e = .returned (.int .i64 1) ∧ Below w.heap.size w w' := by
  obtain ⟨w3, hw3⟩ : ∃ w3, w3 = w.alloc (.cells #[.int .i64 k, .string s, .string t, .int .i64 a.c, .int .i64 a.r, .int .i64 a.d, .int .i64 a.p] 40) := ⟨_, rfl⟩
  obtain ⟨B, hB⟩ : ∃ B, B = w.heap.size := ⟨_, rfl⟩
  have S0 : Hid (Blk w3 B (actC k s t a) 40) := Lib.hid (by rw [hw3, hB]; exact Blk.made w (actC k s t a) _)
  have HBL : Hid (Below w.heap.size w w3) := Lib.hid (by rw [hw3]; exact below_alloc w _)
  have H3 := Lib.hid (h.kept HBL.out)
  have c0 := S0.out.cell (j := 0) rfl
  have c1 := S0.out.cell (j := 1) rfl
  have c2 := S0.out.cell (j := 2) rfl
  have c3 := S0.out.cell (j := 3) rfl
  have c4 := S0.out.cell (j := 4) rfl
  have c5 := S0.out.cell (j := 5) rfl
  have c6 := S0.out.cell (j := 6) rfl
  have hq0 := Int.emod_nonneg k (show (4 : Int) ≠ 0 by omega)
  have hq4 := Int.emod_lt_of_pos k (show (0 : Int) < 4 by omega)
  have HPK := Lib.hid (pickn_any k 4 w3 (by omega) (by omega))
  generalize k % 4 = q at hq0 hq4 HPK
  clear h
  obtain rfl | rfl | rfl | rfl : q = 0 ∨ q = 1 ∨ q = 2 ∨ q = 3 := by omega
  all_goals
    go_enter Try.func16, Try.ntmps16
    go_upto_region 1 with fail
    rw [← hw3, ← hB]
    clear hw3 hB
    go_wp2_with (first
      | (go_at_call 37; refine HPK.out.mono ?_; rintro e w4 ⟨rfl, rfl⟩)
      | (go_at_call 9; refine (off_take v s t a _ H3.out).mono ?_; rintro e w4 ⟨rfl, hb⟩; have HB4 := Lib.hid (below_and HBL.out hb); clear hb)
      | (go_at_call 11; refine (off_give v s _ H3.out).mono ?_; rintro e w4 ⟨rfl, hb⟩; have HB4 := Lib.hid (below_and HBL.out hb); clear hb)
      | (go_at_call 12; refine (off_resize v s a _ H3.out).mono ?_; rintro e w4 ⟨rfl, hb⟩; have HB4 := Lib.hid (below_and HBL.out hb); clear hb)
      | (go_at_call 22; refine (off_get v s _ H3.out).mono ?_; rintro e w4 ⟨rfl, hb⟩; have HB4 := Lib.hid (below_and HBL.out hb); clear hb))
    go_ret
    exact ⟨rfl, by first | exact HB4.out | exact below_and HB4.out (below_alloc _ _)⟩
end Go.Proofs.Ytighcnecajgkpaa
namespace Go.Proofs.Ytighcnecajgkpaa
open Go.RowKit

def getP (L : List Ent) (s : ByteArray) : Int × List Ent := if (fnd L s.data.toList).isSome then (0, L) else (6, L)
def stepP (cap : Am) (L : List Ent) (k : Int) (s t : ByteArray) (a : Am) : Int × List Ent :=
  if k % 4 = 0 then takeP cap L s t a else if k % 4 = 1 then giveP L s else if k % 4 = 2 then resizeP cap L s a else getP L s
theorem Inv.step {cap : Am} {L : List Ent} (h : Inv cap L) (k : Int) (s t : ByteArray) (a : Am) : Inv cap (stepP cap L k s t a).2 := by
  unfold stepP
  split
  · exact h.take s t a
  · split
    · exact h.give s
    · split
      · exact h.resize s a
      · unfold getP; split <;> exact h
theorem step_len (cap : Am) (L : List Ent) (k : Int) (s t : ByteArray) (a : Am) : (stepP cap L k s t a).2.length ≤ L.length + 1 := by
  unfold stepP
  split
  · exact take_len2 cap L s t a
  · split
    · exact give_len2 L s
    · split
      · exact resize_len2 cap L s a
      · unfold getP; split <;> (show L.length ≤ _; omega)
theorem step_err (cap : Am) (L : List Ent) (k : Int) (s t : ByteArray) (a : Am) (h : (stepP cap L k s t a).1 ≠ 0) : (stepP cap L k s t a).2 = L := by
  unfold stepP at *
  split
  · next h0 => rw [if_pos h0] at h; exact take_err cap L s t a h
  · next h0 =>
    rw [if_neg h0] at h
    split
    · next h1 => rw [if_pos h1] at h; exact give_err L s h
    · next h1 =>
      rw [if_neg h1] at h
      split
      · next h2 => rw [if_pos h2] at h; exact resize_err cap L s a h
      · unfold getP; split <;> rfl

theorem lget_all (b mb : Nat) (cap : Am) (L : List Ent) (s : ByteArray) (w : World) (h : Led w b mb cap L) (hs : s.size ≤ maxLen) :
    Calls Try.prog 22 #[ptr b, .string s] w fun e w' => e = .returned (.tuple #[entV ((fnd L s.data.toList).getD zE), .int .i64 (getP L s).1]) ∧ Below w.heap.size w w' := by
  cases hx : fnd L s.data.toList with
  | none =>
    have hg : (getP L s).1 = 6 := by unfold getP; rw [hx]; rfl
    rw [hg]
    exact lget_no b mb cap L s w h hs hx
  | some x =>
    have hg : (getP L s).1 = 0 := by unfold getP; rw [hx]; rfl
    rw [hg]
    exact lget_yes b mb cap L s x w h hs hx

set_option maxRecDepth 100000 in
set_option maxHeartbeats 2000000 in
theorem step_all (b mb : Nat) (cap : Am) (L : List Ent) (k : Int) (s t : ByteArray) (a : Am) (w : World) (h : Led w b mb cap L) (hI : Inv cap L) (hs : s.size ≤ maxLen) (ht : t.size ≤ maxLen) (hl : L.length ≤ 100000) :
    Calls Try.prog 16 #[ptr b, .agg #[.int .i64 k, .string s, .string t, .int .i64 a.c, .int .i64 a.r, .int .i64 a.d, .int .i64 a.p]] w fun e w' => e = .returned (.int .i64 (stepP cap L k s t a).1) ∧ Led w' b mb cap (stepP cap L k s t a).2 ∧ Fr [mb] w w' := by
  obtain ⟨w3, hw3⟩ : ∃ w3, w3 = w.alloc (.cells #[.int .i64 k, .string s, .string t, .int .i64 a.c, .int .i64 a.r, .int .i64 a.d, .int .i64 a.p] 40) := ⟨_, rfl⟩
  obtain ⟨B, hB⟩ : ∃ B, B = w.heap.size := ⟨_, rfl⟩
  have S0 : Hid (Blk w3 B (actC k s t a) 40) := Lib.hid (by rw [hw3, hB]; exact Blk.made w (actC k s t a) _)
  have HBL : Hid (Below w.heap.size w w3) := Lib.hid (by rw [hw3]; exact below_alloc w _)
  have h3 := h.kept HBL.out
  have hml : L.length < maxLen := by unfold maxLen; omega
  have c0 := S0.out.cell (j := 0) rfl
  have c1 := S0.out.cell (j := 1) rfl
  have c2 := S0.out.cell (j := 2) rfl
  have c3 := S0.out.cell (j := 3) rfl
  have c4 := S0.out.cell (j := 4) rfl
  have c5 := S0.out.cell (j := 5) rfl
  have c6 := S0.out.cell (j := 6) rfl
  have hq0 := Int.emod_nonneg k (show (4 : Int) ≠ 0 by omega)
  have hq4 := Int.emod_lt_of_pos k (show (0 : Int) < 4 by omega)
  obtain ⟨r, hr⟩ : ∃ r, r = stepP cap L k s t a := ⟨_, rfl⟩
  have T0 : Hid (k % 4 = 0 → Calls Try.prog 9 #[ptr b, .string s, .string t, amV a] w3 fun e w' => e = .returned (.int .i64 r.1) ∧ Led w' b mb cap r.2 ∧ Fr [mb] w3 w') := Lib.hid (fun hk => by
    rw [hr]; unfold stepP; rw [if_pos hk]; exact take_all b mb cap L s t a w3 h3 hI ht hml)
  have T1 : Hid (k % 4 = 1 → Calls Try.prog 11 #[ptr b, .string s] w3 fun e w' => e = .returned (.int .i64 r.1) ∧ Led w' b mb cap r.2 ∧ Fr [mb] w3 w') := Lib.hid (fun hk => by
    rw [hr]; unfold stepP; rw [if_neg (by omega), if_pos hk]; exact give_all b mb cap L s w3 h3 hI hs hl)
  have T2 : Hid (k % 4 = 2 → Calls Try.prog 12 #[ptr b, .string s, amV a] w3 fun e w' => e = .returned (.int .i64 r.1) ∧ Led w' b mb cap r.2 ∧ Fr [mb] w3 w') := Lib.hid (fun hk => by
    rw [hr]; unfold stepP; rw [if_neg (by omega), if_neg (by omega), if_pos hk]; exact resize_all b mb cap L s a w3 h3 hI hs hml)
  have T3 : Hid (k % 4 = 3 → ∃ x : Ent, Calls Try.prog 22 #[ptr b, .string s] w3 fun e w' => e = .returned (.tuple #[entV x, .int .i64 r.1]) ∧ Led w' b mb cap r.2 ∧ Below w3.heap.size w3 w') := Lib.hid (fun hk => by
    have hr2 : stepP cap L k s t a = getP L s := by unfold stepP; rw [if_neg (by omega), if_neg (by omega), if_neg (by omega)]
    have hr3 : (getP L s).2 = L := by unfold getP; split <;> rfl
    rw [hr, hr2, hr3]
    exact ⟨_, (lget_all b mb cap L s w3 h3 hs).mono fun e w' ⟨h1, h2⟩ => ⟨h1, h3.kept h2, h2⟩⟩)
  have HPK := Lib.hid (pickn_any k 4 w3 (by omega) (by omega))
  rw [← hr]
  generalize k % 4 = q at hq0 hq4 HPK T0 T1 T2 T3
  clear h h3 hI hs ht hl hml hr
  obtain rfl | rfl | rfl | rfl : q = 0 ∨ q = 1 ∨ q = 2 ∨ q = 3 := by omega
  · have TT := Lib.hid (T0.out rfl)
    clear T0 T1 T2 T3
    go_enter Try.func16, Try.ntmps16
    go_upto_region 1 with fail
    rw [← hw3, ← hB]
    clear hw3 hB
    go_wp2_with (first
      | (go_at_call 37; refine HPK.out.mono ?_; rintro e w4 ⟨rfl, rfl⟩)
      | (go_at_call 9; refine TT.out.mono ?_; rintro e w4 ⟨rfl, hl, hf⟩; have H4 := Lib.hid hl; have F4 := Lib.hid hf; clear hl hf))
    go_ret
    exact ⟨rfl, H4.out, (Fr.of_below HBL.out [mb]).then F4.out⟩
  · have TT := Lib.hid (T1.out rfl)
    clear T0 T1 T2 T3
    go_enter Try.func16, Try.ntmps16
    go_upto_region 1 with fail
    rw [← hw3, ← hB]
    clear hw3 hB
    go_wp2_with (first
      | (go_at_call 37; refine HPK.out.mono ?_; rintro e w4 ⟨rfl, rfl⟩)
      | (go_at_call 11; refine TT.out.mono ?_; rintro e w4 ⟨rfl, hl, hf⟩; have H4 := Lib.hid hl; have F4 := Lib.hid hf; clear hl hf))
    go_ret
    exact ⟨rfl, H4.out, (Fr.of_below HBL.out [mb]).then F4.out⟩
  · have TT := Lib.hid (T2.out rfl)
    clear T0 T1 T2 T3
    go_enter Try.func16, Try.ntmps16
    go_upto_region 1 with fail
    rw [← hw3, ← hB]
    clear hw3 hB
    go_wp2_with (first
      | (go_at_call 37; refine HPK.out.mono ?_; rintro e w4 ⟨rfl, rfl⟩)
      | (go_at_call 12; refine TT.out.mono ?_; rintro e w4 ⟨rfl, hl, hf⟩; have H4 := Lib.hid hl; have F4 := Lib.hid hf; clear hl hf))
    go_ret
    exact ⟨rfl, H4.out, (Fr.of_below HBL.out [mb]).then F4.out⟩
  · obtain ⟨x, hT⟩ := T3.out rfl
    have TT := Lib.hid hT
    clear T0 T1 T2 T3 hT
    go_enter Try.func16, Try.ntmps16
    go_upto_region 1 with fail
    rw [← hw3, ← hB]
    clear hw3 hB
    go_wp2_with (first
      | (go_at_call 37; refine HPK.out.mono ?_; rintro e w4 ⟨rfl, rfl⟩)
      | (go_at_call 22; refine TT.out.mono ?_; rintro e w4 ⟨rfl, hl, hb⟩; have H4 := Lib.hid hl; have HB4 := Lib.hid (below_and HBL.out hb); clear hl hb))
    go_ret
    exact ⟨rfl, H4.out.kept (below_alloc _ _), Fr.of_below (below_and HB4.out (below_alloc _ _)) [mb]⟩
end Go.Proofs.Ytighcnecajgkpaa
namespace Go.Proofs.Ytighcnecajgkpaa
open Go.RowKit

set_option maxRecDepth 100000 in
set_option maxHeartbeats 2000000 in
theorem alike_same (L : List Ent) (b1 b2 : Nat) (v1 v2 : Value) (w : World) (h1 : w.ownsRow b1 48 6 v1 L.length (entsC L)) (h2 : w.ownsRow b2 48 6 v2 L.length (entsC L)) :
    Calls Try.prog 26 #[v1, v2] w fun e w' => e = .returned (.bool true) ∧ Below w.heap.size w w' := by
  obtain ⟨p1, k1, rfl, hk1, hm1⟩ := own_slice h1
  obtain ⟨p2, k2, rfl, hk2, hm2⟩ := own_slice h2
  have H1 := Lib.hid h1
  have H2 := Lib.hid h2
  have hml : maxLen ≤ 9223372036854775807 := by decide
  clear h1 h2
  go_enter Try.func26, Try.ntmps26
  go_wp2
  go_loopw [5] (fun i wr => ∃ k : Nat, k ≤ L.length ∧ i = .int .i64 (k : Int) ∧ Hid (Below w.heap.size w wr)) (fun i _ => L.length - (intOf i).toNat)
  case atStart => exact ⟨0, Nat.zero_le _, rfl, Lib.hid (Below.refl _ _)⟩
  case round =>
    obtain ⟨k, hk, rfl, HB⟩ := hrel
    by_cases hlt : k < L.length
    · obtain ⟨g1, c1, e1, -, -, -⟩ := own_block H1.out (by omega)
      obtain ⟨g2, c2, e2, -, -, -⟩ := own_block H2.out (by omega)
      simp only [Value.slice.injEq] at e1 e2
      obtain ⟨rfl, -, rfl⟩ := e1
      obtain ⟨rfl, -, rfl⟩ := e2
      obtain ⟨x, hx⟩ : ∃ x, x = L[k] := ⟨_, rfl⟩
      have f1 : ∀ j u, j < 6 → (entC x)[j]? = some u → ∀ s : Past wr, s.val.cell? ⟨g1, k * 6 + j, none⟩ = some u := fun j u hj hu => Past.cell (cell_kept (own_cell H1.out (by rw [entsC_at L k hlt j hj, ← hx]; exact hu)) HB.out)
      have f2 : ∀ j u, j < 6 → (entC x)[j]? = some u → ∀ s : Past wr, s.val.cell? ⟨g2, k * 6 + j, none⟩ = some u := fun j u hj hu => Past.cell (cell_kept (own_cell H2.out (by rw [entsC_at L k hlt j hj, ← hx]; exact hu)) HB.out)
      have a0 : ∀ s : Past wr, s.val.cell? ⟨g1, k * 6, none⟩ = some (.string x.n) := f1 0 _ (by omega) rfl
      have a1 := f1 1 _ (by omega) rfl
      have a2 := f1 2 _ (by omega) rfl
      have a3 := f1 3 _ (by omega) rfl
      have a4 := f1 4 _ (by omega) rfl
      have a5 := f1 5 _ (by omega) rfl
      have d0 : ∀ s : Past wr, s.val.cell? ⟨g2, k * 6, none⟩ = some (.string x.n) := f2 0 _ (by omega) rfl
      have d1 := f2 1 _ (by omega) rfl
      have d2 := f2 2 _ (by omega) rfl
      have d3 := f2 3 _ (by omega) rfl
      have d4 := f2 4 _ (by omega) rfl
      have d5 := f2 5 _ (by omega) rfl
      have i1 : (k : Int) < (L.length : Int) := by omega
      clear f1 f2 hx
      go_wp2
      refine wp_region_past (by kernel_rfl) (by kernel_rfl) ?_
      repeat (go_big_quiet_step (fail))
      refine wpQuiet_nil ?_
      intro _ hw'
      obtain ⟨s9, hw''⟩ := hw'
      subst hw''
      obtain ⟨w9, h9, e9⟩ : ∃ w9, Below wr.heap.size wr w9 ∧ w9 = s9.val := ⟨_, s9.h, rfl⟩
      rw [← e9]
      have HB9 : Hid (Below w.heap.size w w9) := Lib.hid (below_and HB.out h9)
      clear h9 e9 a0 a1 a2 a3 a4 a5 d0 d1 d2 d3 d4 d5
      go_wp2
      go_roundw
      case rel => exact ⟨k + 1, hlt, by go_num, HB9⟩
      case measure => simp [intOf]; omega
    · obtain rfl : k = L.length := by omega
      go_wp2
      go_ret
      exact ⟨rfl, HB.out⟩
end Go.Proofs.Ytighcnecajgkpaa
namespace Go.Proofs.Ytighcnecajgkpaa
open Go.RowKit

theorem tot_snoc (f : Ent → Int) (x : Ent) : ∀ L : List Ent, tot f (L ++ [x]) = tot f L + f x
  | [] => by simp [tot]
  | y :: L => by rw [List.cons_append, tot_cons, tot_cons, tot_snoc f x L]; omega
/-- base, and the picked ones of the first k -/
def partF (p : Ent → Bool) (base : Am) (L : List Ent) (k : Nat) : Am := .of fun j => base.get j + (sumA p (L.take k)).get j
theorem partF_get (p : Ent → Bool) (base : Am) (L : List Ent) (k : Nat) {j : Nat} (hj : j < 4) : (partF p base L k).get j = base.get j + (sumA p (L.take k)).get j := Am.of_get _ j hj
theorem partF_zero (p : Ent → Bool) (base : Am) (L : List Ent) : partF p base L 0 = base := Am.ext_get fun j hj => by
  rw [partF_get p base L 0 hj, List.take_zero, sum_none (L := []) (fun e he => absurd he List.not_mem_nil) hj]; omega
theorem sum_snoc (p : Ent → Bool) {L : List Ent} {x : Ent} {k : Nat} (hk : k < L.length) (hx : x = L[k]) {j : Nat} (hj : j < 4) : (sumA p (L.take (k + 1))).get j = (sumA p (L.take k)).get j + pickF p j x := by
  rw [sumA_get _ _ hj, sumA_get _ _ hj, List.take_succ_eq_append_getElem hk, ← hx, tot_snoc]
theorem partF_skip {p : Ent → Bool} {base : Am} {L : List Ent} {x : Ent} {k : Nat} (hk : k < L.length) (hx : x = L[k]) (hp : p x = false) : partF p base L (k + 1) = partF p base L k := Am.ext_get fun j hj => by
  rw [partF_get _ _ _ _ hj, partF_get _ _ _ _ hj, sum_snoc p hk hx hj]
  unfold pickF
  rw [hp]
  simp
theorem sum_take {p : Ent → Bool} {L : List Ent} (ho : Oks L) (k : Nat) {j : Nat} (hj : j < 4) : 0 ≤ (sumA p (L.take k)).get j ∧ (sumA p (L.take k)).get j ≤ (sumA p L).get j := by
  have h1 : Oks (L.take k) := fun e he => ho e (List.mem_of_mem_take he)
  have h2 : Oks (L.drop k) := fun e he => ho e (List.mem_of_mem_drop he)
  refine ⟨sum_nonneg h1 hj, ?_⟩
  have h3 := sum_nonneg (p := p) h2 hj
  rw [sumA_get _ _ hj] at *
  rw [sumA_get _ _ hj]
  have h4 : tot (pickF p j) L = tot (pickF p j) (L.take k) + tot (pickF p j) (L.drop k) := by
    unfold tot
    rw [← List.sum_append, ← List.map_append, List.take_append_drop]
  omega
theorem partF_ok {p : Ent → Bool} {base top : Am} {L : List Ent} (ho : Oks L) (hb : base.okB = true) (ht : top.okB = true) (h : ∀ j, j < 4 → base.get j + (sumA p L).get j = top.get j) (k : Nat) : (partF p base L k).okB = true := by
  rw [Am.okB_iff]
  intro j hj
  rw [partF_get _ _ _ _ hj]
  have h1 := sum_take (p := p) ho k hj
  have h2 := h j hj
  have h3 := ok_get hb hj
  have h4 := ok_get ht hj
  omega
theorem partF_add {p : Ent → Bool} {base top : Am} {L : List Ent} {x : Ent} {k : Nat} (ho : Oks L) (hb : base.okB = true) (ht : top.okB = true) (h : ∀ j, j < 4 → base.get j + (sumA p L).get j = top.get j) (hk : k < L.length) (hx : x = L[k]) (hp : p x = true) :
    addR (partF p base L k) x.a = (partF p base L (k + 1), 0) := by
  have hxo : x.a.okB = true := ho x (by rw [hx]; exact List.getElem_mem hk)
  refine addR_ok (by rw [partF_ok ho hb ht h k, hxo]; rfl) (fun j hj => ?_) (fun j hj => ?_)
  · have h1 := ok_get (partF_ok ho hb ht h (k + 1)) hj
    rw [partF_get _ _ _ _ hj, sum_snoc p hk hx hj] at h1
    rw [partF_get _ _ _ _ hj]
    unfold pickF at h1
    rw [hp] at h1
    simp only [if_true] at h1
    omega
  · rw [partF_get _ _ _ _ hj, partF_get _ _ _ _ hj, sum_snoc p hk hx hj]
    unfold pickF
    rw [hp]
    simp only [if_true]
    omega
theorem partF_end {p : Ent → Bool} {base top : Am} {L : List Ent} (h : ∀ j, j < 4 → base.get j + (sumA p L).get j = top.get j) : partF p base L L.length = top := Am.ext_get fun j hj => by
  rw [partF_get _ _ _ _ hj, List.take_length, h j hj]

/-- what is free, and what is left, as sums -/
theorem Inv.free {cap : Am} {L : List Ent} (h : Inv cap L) : ∃ z, subR cap (sumA (inR ⟨#[]⟩) L) = (z, 0) ∧ z.okB = true ∧ ∀ j, j < 4 → z.get j + (sumA (inR ⟨#[]⟩) L).get j = cap.get j := by
  refine ⟨_, subR_le h.cok (h.fit ⟨#[]⟩) h.capF, ?_, fun j hj => by rw [Am.of_get _ j hj]; omega⟩
  rw [Am.okB_iff]
  intro j hj
  rw [Am.of_get _ j hj]
  have h1 := h.capF j hj
  have h2 := sum_nonneg (p := inR ⟨#[]⟩) h.oks hj
  have h3 := ok_get h.cok hj
  omega
theorem Inv.left {cap : Am} {L : List Ent} (h : Inv cap L) {y : Ent} (hy : y ∈ L) (hi : y.i.toList = []) : ∃ z, subR y.a (sumA (inR y.n) L) = (z, 0) ∧ z.okB = true ∧ ∀ j, j < 4 → z.get j + (sumA (inR y.n) L).get j = y.a.get j := by
  refine ⟨_, subR_le (h.oks y hy) (h.fit y.n) (h.parF y hy hi), ?_, fun j hj => by rw [Am.of_get _ j hj]; omega⟩
  rw [Am.okB_iff]
  intro j hj
  rw [Am.of_get _ j hj]
  have h1 := h.parF y hy hi j hj
  have h2 := sum_nonneg (p := inR y.n) h.oks hj
  have h3 := ok_get (h.oks y hy) hj
  omega
end Go.Proofs.Ytighcnecajgkpaa
namespace Go.Proofs.Ytighcnecajgkpaa
open Go.RowKit

abbrev four (g : Nat) : Value := .slice (some ⟨g, 0, none⟩) 4 4

set_option maxRecDepth 100000 in
set_option maxHeartbeats 400000 in
theorem four_exact (x : Am) (w : World) :
    Calls Try.prog 48 #[amV x] w fun e w' => e = .returned (four (w.heap.size + 1)) ∧ w' = (w.alloc (.cells #[.int .i64 x.c, .int .i64 x.r, .int .i64 x.d, .int .i64 x.p] 28)).alloc (.cells #[.int .i64 x.c, .int .i64 x.r, .int .i64 x.d, .int .i64 x.p] 2) := by
  go_enter Try.func48, Try.ntmps48
  go_wp2
  go_ret
  exact ⟨by simp, rfl⟩
theorem four_any (x : Am) (w : World) :
    Calls Try.prog 48 #[amV x] w fun e w' => ∃ g, e = .returned (four g) ∧ w.heap.size ≤ g ∧ Blk w' g (amC x) 2 ∧ Below w.heap.size w w' :=
  (four_exact x w).mono fun e w' ⟨h1, h2⟩ => ⟨_, h1, by omega, by
    have := Blk.made (w.alloc (.cells (amC x).toArray 28)) (amC x) 2
    rw [h2]; simpa using this, by rw [h2]; exact below_and (below_alloc w _) (below_alloc _ _)⟩

set_option maxRecDepth 100000 in
set_option maxHeartbeats 1000000 in
theorem of_any (g : Nat) (x : Am) (w : World) (h : Blk w g (amC x) 2) :
    Calls Try.prog 58 #[four g] w fun e w' => e = .returned (amV x) ∧ Below w.heap.size w w' := by
  obtain ⟨w3, hw3⟩ : ∃ w3, w3 = w.alloc (.cells #[.int .i64 0, .int .i64 0, .int .i64 0, .int .i64 0] 28) := ⟨_, rfl⟩
  obtain ⟨B, hB⟩ : ∃ B, B = w.heap.size := ⟨_, rfl⟩
  have B0 : Hid (Blk w3 B (amC .zero) 28) := Lib.hid (by rw [hw3, hB]; exact Blk.made w (amC .zero) _)
  have HBL : Hid (Below w.heap.size w w3) := Lib.hid (by rw [hw3]; exact below_alloc w _)
  have HBW0 : Hid (w.heap.size ≤ B) := Lib.hid (by omega)
  have hg := h.kept HBL.out
  have c0 := hg.cell (j := 0) rfl
  have c1 := hg.cell (j := 1) rfl
  have c2 := hg.cell (j := 2) rfl
  have c3 := hg.cell (j := 3) rfl
  have r0 := B0.out.cell (j := 0) rfl
  have r1 := B0.out.cell (j := 1) rfl
  have r2 := B0.out.cell (j := 2) rfl
  have r3 := B0.out.cell (j := 3) rfl
  have f0 := B0.out.free 0
  have f1 := B0.out.free 1
  have f2 := B0.out.free 2
  have f3 := B0.out.free 3
  clear h hg
  go_enter Try.func58, Try.ntmps58
  go_upto_region 1 with fail
  rw [← hw3, ← hB]
  clear hw3 hB
  go_still_tail 13, (by kernel_rfl)
  change wpList _ _ _ _ _ w3.drew
  go_wp2
  refine bodyPost_ret (results_row rfl _ _ B 28 #[.int .i64 x.c, .int .i64 x.r, .int .i64 x.d, .int .i64 x.p] (0, 0) _ rfl ?_ Try.underlying28 rfl (by kernel_rfl)) rfl ⟨rfl, ?_⟩
  · exact (((B0.out.set 0 (.int .i64 x.c)).set 1 (.int .i64 x.r)).set 2 (.int .i64 x.d)).set 3 (.int .i64 x.p)
  · have hBw := HBW0.out
    exact ((((bl_drew HBL.out).setCell (p := ⟨B, 0, none⟩) hBw _).setCell (p := ⟨B, 1, none⟩) hBw _).setCell (p := ⟨B, 2, none⟩) hBw _).setCell (p := ⟨B, 3, none⟩) hBw _

set_option maxRecDepth 100000 in
set_option maxHeartbeats 600000 in
theorem rcheck_any (x : Am) (w : World) :
    Calls Try.prog 34 #[amV x] w fun e w' => e = .returned (.int .i64 x.chk) ∧ Below w.heap.size w w' := by
  go_enter Try.func34, Try.ntmps34
  go_wp2_with (go_at_call 48; refine (four_any x _).mono ?_; rintro e w1 ⟨g, rfl, -, hblk, hb⟩; have HG := Lib.hid hblk; have HB := Lib.hid (below_and (below_alloc w _) hb); clear hb hblk)
  go_loop [4] (fun i => ∃ k : Nat, k ≤ 4 ∧ i = .int .i64 (k : Int) ∧ Hid (∀ j, j < k → 0 ≤ x.get j ∧ x.get j ≤ 1099511627776)) (fun i => 4 - (intOf i).toNat)
  case atStart => exact ⟨0, Nat.zero_le _, rfl, fun j h => by omega⟩
  case round =>
    obtain ⟨k, hk, rfl, HA⟩ := hrel
    by_cases hlt : k < 4
    · have hx := HG.out.cell (amC_get x hlt)
      have i0 : (0 : Int) ≤ (k : Int) := by omega
      have i1 : (k : Int) < 4 := by omega
      obtain ⟨z, hz⟩ : ∃ z, z = x.get k := ⟨_, rfl⟩
      rw [← hz] at hx
      have HZ := Lib.hid hz
      clear hz
      by_cases h1 : z < 0
      · have HN : Hid (x.okB = false) := Lib.hid (by rw [← Bool.not_eq_true, Am.okB_iff]; intro h; have := h k hlt; have := HZ.out; omega)
        go_wp2
        go_ret
        exact ⟨ret_int (Am.chk_no HN.out).symm, HB.out⟩
      · by_cases h2 : 1099511627776 < z
        · have HN : Hid (x.okB = false) := Lib.hid (by rw [← Bool.not_eq_true, Am.okB_iff]; intro h; have := h k hlt; have := HZ.out; omega)
          go_wp2
          go_ret
          exact ⟨ret_int (Am.chk_no HN.out).symm, HB.out⟩
        · have HA2 : Hid (∀ j, j < k + 1 → 0 ≤ x.get j ∧ x.get j ≤ 1099511627776) := Lib.hid (fun j hj => by
            by_cases h : j < k
            · exact HA.out j h
            · obtain rfl : j = k := by omega
              have := HZ.out; omega)
          have d1 : decide (z < 0) = false := by simpa using h1
          have d2 : decide (1099511627776 < z) = false := by simpa using h2
          go_wp2
          go_round
          case rel => exact ⟨k + 1, by omega, by go_num, HA2⟩
          case measure => simp [intOf]; omega
    · obtain rfl : k = 4 := by omega
      have HN : Hid (x.okB = true) := Lib.hid (by rw [Am.okB_iff]; exact HA.out)
      go_wp2
      go_ret
      exact ⟨ret_int (Am.chk_yes HN.out).symm, HB.out⟩

set_option maxRecDepth 100000 in
set_option maxHeartbeats 600000 in
theorem wrong_any (v : Value) (xs : List Am) (w : World) (h : Ams w v xs) :
    Calls Try.prog 57 #[v] w fun e w' => e = .returned (.bool (!allB xs)) ∧ Below w.heap.size w w' := by
  obtain ⟨p, c, rfl, hc, hm⟩ := h.shape
  have hml : maxLen ≤ 9223372036854775807 := by decide
  have H := Lib.hid h
  clear h
  go_enter Try.func57, Try.ntmps57
  go_wp2
  go_loopw [3] (fun i wc => ∃ k : Nat, k ≤ xs.length ∧ i = .int .i64 (k : Int) ∧ Hid ((xs.take k).all Am.okB = true) ∧ Hid (Below w.heap.size w wc)) (fun i _ => xs.length - (intOf i).toNat)
  case atStart => exact ⟨0, Nat.zero_le _, rfl, by simp [Hid], Below.refl _ _⟩
  case round =>
    obtain ⟨k, hk, rfl, HA, HB⟩ := hrel
    by_cases hlt : k < xs.length
    · obtain ⟨b, o, rfl, e0, e1, e2, e3⟩ := (H.out.below HB.out).amAt hlt
      obtain ⟨x, hx⟩ : ∃ x, x = xs[k] := ⟨_, rfl⟩
      rw [← hx] at e0 e1 e2 e3
      cases hq : x.okB
      · have HN : Hid (allB xs = false) := Lib.hid (by unfold allB; rw [← Bool.not_eq_true, List.all_eq_true]; intro hh; have := hh xs[k] (List.getElem_mem hlt); rw [← hx, hq] at this; cases this)
        have HQ := Lib.hid (Am.chk_no hq)
        clear hq hx
        go_wp2_with (go_at_call 34; refine (rcheck_any x _).mono ?_; rw [HQ.out]; rintro e w2 ⟨rfl, hb⟩; have HB2 := Lib.hid (below_and HB.out hb); clear hb)
        go_ret
        exact ⟨ret_bool (by rw [HN.out]; rfl), HB2.out⟩
      · have HN : Hid ((xs.take (k + 1)).all Am.okB = true) := Lib.hid (by rw [List.take_succ_eq_append_getElem hlt, List.all_append, HA.out, ← hx]; simp [hq])
        have HQ := Lib.hid (Am.chk_yes hq)
        clear hq hx
        go_wp2_with (go_at_call 34; refine (rcheck_any x _).mono ?_; rw [HQ.out]; rintro e w2 ⟨rfl, hb⟩; have HB2 := Lib.hid (below_and HB.out hb); clear hb)
        go_roundw
        case rel => exact ⟨k + 1, hlt, by go_num, HN, HB2⟩
        case measure => simp [intOf]; omega
    · obtain rfl : k = xs.length := by omega
      have HN : Hid (allB xs = true) := Lib.hid (by have := HA.out; rwa [List.take_length] at this)
      go_wp2
      go_ret
      exact ⟨ret_bool (by rw [HN.out]; rfl), HB.out⟩
theorem wrong_two (w : World) (x y : Am) : Calls Try.prog 57 #[.slice (some ⟨w.heap.size, 0, none⟩) 2 2] (w.alloc (.cells #[.int .i64 x.c, .int .i64 x.r, .int .i64 x.d, .int .i64 x.p, .int .i64 y.c, .int .i64 y.r, .int .i64 y.d, .int .i64 y.p] 28)) fun e w' => e = .returned (.bool (!(x.okB && y.okB))) ∧ Below w.heap.size w w' :=
  (wrong_any _ [x, y] _ (ams_two w x y)).mono fun e w' ⟨h1, h2⟩ => ⟨by rw [h1]; simp [allB], below_and (below_alloc w _) h2⟩
theorem wrong_one (w : World) (x : Am) : Calls Try.prog 57 #[.slice (some ⟨w.heap.size, 0, none⟩) 1 1] (w.alloc (.cells #[.int .i64 x.c, .int .i64 x.r, .int .i64 x.d, .int .i64 x.p] 28)) fun e w' => e = .returned (.bool (!x.okB)) ∧ Below w.heap.size w w' :=
  (wrong_any _ [x] _ (ams_one w x)).mono fun e w' ⟨h1, h2⟩ => ⟨by rw [h1]; simp [allB], below_and (below_alloc w _) h2⟩

/-- two slices of four of the call's own, from block B on -/
def TwoS (B : Nat) (w : World) (u v : Value) (x y : Am) : Prop :=
  ∃ g h, u = four g ∧ v = four h ∧ g ≠ h ∧ B ≤ g ∧ B ≤ h ∧ Blk w g (amC x) 2 ∧ Blk w h (amC y) 2
end Go.Proofs.Ytighcnecajgkpaa
namespace Go.Proofs.Ytighcnecajgkpaa
open Go.RowKit Go

section
variable {P : Program}
theorem upon_unpop {o : Oper} {a : Act} {K : Act → World → Prop} {ops : Array Oper} {Q : Exit → Act → World → Prop} {n : Nat} (r : Result Next) (h : o.upon P a K Q r) : o.upon P a K (popQ P ops Q n) r := by
  have hl : LetsOut Q → LetsOut (popQ P ops Q n) := fun ⟨a, w, h⟩ => ⟨a, w, h⟩
  cases r with
  | ok nx w' =>
    cases nx <;> simp only [Oper.upon] at h ⊢ <;>
      first
        | exact h
        | exact Calls.mono h (fun e w'' he => by cases e <;> first | exact he | exact hl he)
  | halt x w' => cases x <;> simp only [Oper.upon] at h ⊢ <;> exact h
theorem wpOp_unpop {ops : Array Oper} {Q : Exit → Act → World → Prop} {n i : Nat} {K : Act → World → Prop} {a : Act} {w : World} (hn : ops.size = n + 1) (hb : backB ops = true) (hi : i < n) (h : wpOp P ops Q i K a w) : wpOp P ops.pop (popQ P ops Q n) i K a w := by
  have hpop : ∀ j, j < n → ops.pop[j]? = ops[j]? := fun j hj => by rw [Array.getElem?_pop, if_pos (by omega)]
  unfold wpOp at *
  rw [hpop i hi]
  cases ho : ops[i]? with
  | none => simp only [ho] at h ⊢; exact h
  | some o =>
    simp only [ho] at h ⊢
    have hg := (backB_spec hb ho).2
    have hw : Region.wanted o (yielded ops.pop a.tmps) = Region.wanted o (yielded ops a.tmps) := by
      unfold Region.wanted
      cases hgu : o.guard with
      | none => rfl
      | some x =>
        obtain ⟨g, b⟩ := x
        have := hg g b hgu
        simp only
        unfold yielded
        rw [hpop g (by omega)]
    rw [hw]
    by_cases hwt : Region.wanted o (yielded ops a.tmps) = true
    · rw [if_pos hwt] at h ⊢
      rcases h with h | ⟨h1, ⟨a', w', h2⟩⟩
      · exact .inl (upon_unpop _ h)
      · exact .inr ⟨h1, ⟨a', w', h2⟩⟩
    · rw [if_neg hwt] at h ⊢
      exact h

/-- the region, its last two operations behind all others -/
theorem wp_region_past_pop2 {id : Nat} {Q : Exit → Act → World → Prop} {a : Act} {w : World} {l : List Oper} {o1 o2 : Oper} (hm : P.follows .mixedOrders = true) (hB : Region.lexB .any l.toArray = true) (hp : popB (l ++ [o1] ++ [o2]).toArray = true) (hp1 : popB (l ++ [o1]).toArray = true)
    (h : wpQuiet P l.toArray (fun w' => ∃ s : Past w, w' = s.val) (fun a' => ∀ w', (∃ s : Past w, w' = s.val) → wpOp P (l ++ [o1] ++ [o2]).toArray Q l.length (fun a2 w2 => wpOp P (l ++ [o1] ++ [o2]).toArray Q (l.length + 1) (fun a3 w3 => Q .normal a3 w3) a2 w2) a' w') l a) : (Code.region id (l ++ [o1] ++ [o2]).toArray true).wp P Q a w := by
  have hn : (l ++ [o1] ++ [o2]).toArray.size = (l.length + 1) + 1 := by simp
  have hn1 : (l ++ [o1]).toArray.size = l.length + 1 := by simp
  have hpop : (l ++ [o1] ++ [o2]).toArray.pop = (l ++ [o1]).toArray := by simp
  have hpop1 : (l ++ [o1]).toArray.pop = l.toArray := by simp
  unfold popB at hp hp1
  simp only [Bool.and_eq_true, decide_eq_true_eq] at hp hp1
  obtain ⟨⟨hb, hs⟩, -⟩ := hp
  obtain ⟨⟨hb1, hs1⟩, -⟩ := hp1
  rw [hn, Nat.add_sub_cancel] at hs
  rw [hn1, Nat.add_sub_cancel] at hs1
  simp only [Region.lexB, Bool.and_eq_true] at hB
  refine wp_region_any hm ?_
  rw [hn, show Array.replicate (l.length + 1 + 1) false = (Array.replicate (l.length + 1) false).push false from by rw [← Array.replicate_succ]]
  have mk : ∀ (L : List Oper) (k : Nat), L.toArray.size = k + 1 → HeadInv .any L.toArray k ((Array.replicate k false).push false) := fun L k hk => by
    rw [← Array.replicate_succ]
    refine ⟨by rw [hk]; simp, fun j oj hj hl => ?_, fun t h1 h2 => ?_⟩
    · rw [getD_replicate_false] at hl
      cases hl
    · simp [show t < k + 1 from by omega]
  refine wpAny_pop hn hb hs (l.length + 1) _ a _ (by simp) (mk _ _ hn) ?_
  rw [hpop, show Array.replicate (l.length + 1) false = (Array.replicate l.length false).push false from by rw [← Array.replicate_succ]]
  refine wpAny_pop hn1 hb1 hs1 l.length _ a _ (by simp) (mk _ _ hn1) ?_
  rw [hpop1]
  refine wpAny_of_quiet (C := fun w' => ∃ s : Past w, w' = s.val) (Q := fun a' => ∀ w', (∃ s : Past w, w' = s.val) → popQ P (l ++ [o1]).toArray (popQ P (l ++ [o1] ++ [o2]).toArray Q (l.length + 1)) l.length .normal a' w') (fun _ w' hw' h => h w' hw') _ _ _ _ ⟨⟨{ w with drawn := w.drawn + 1 }, below_drewN 1⟩, rfl⟩ ?_
  have h9 : wpQuiet P l.toArray (fun w' => ∃ s : Past w, w' = s.val) (fun a' => ∀ w', (∃ s : Past w, w' = s.val) → popQ P (l ++ [o1]).toArray (popQ P (l ++ [o1] ++ [o2]).toArray Q (l.length + 1)) l.length .normal a' w') l a := quiet_weaken (fun a' h' w' hw' => by
    have h2 := wpOp_unpop hn hb (by omega) (h' w' hw')
    rw [hpop] at h2
    exact h2) _ _ h
  have := wpAnyQ_lex (P := P) (C := fun w' => ∃ s : Past w, w' = s.val) (md := .any) hB.1 l 0 (Array.replicate l.length false) a (by simp) (by simpa using hB.2) h9
  exact this

/-- the same, of a region that is written out -/
theorem wp_region_past_last2 {id : Nat} {Q : Exit → Act → World → Prop} {a : Act} {w : World} {L M : List Oper} {o1 o2 : Oper} (hL : L = M ++ [o1] ++ [o2]) (hm : P.follows .mixedOrders = true) (hB : Region.lexB .any M.toArray = true) (hp : popB L.toArray = true) (hp1 : popB (M ++ [o1]).toArray = true)
    (h : wpQuiet P M.toArray (fun w' => ∃ s : Past w, w' = s.val) (fun a' => ∀ w', (∃ s : Past w, w' = s.val) → wpList P L.toArray Q [o1, o2] a' w') M a) : (Code.region id L.toArray true).wp P Q a w := by
  subst hL
  refine wp_region_past_pop2 hm hB hp hp1 ?_
  refine quiet_weaken (fun a' h' w' hw' => ?_) _ _ h
  have h2 := h' w' hw'
  have g1 : (M ++ [o1] ++ [o2]).toArray[M.length]? = some o1 := by simp
  have g2 : (M ++ [o1] ++ [o2]).toArray[M.length + 1]? = some o2 := by simp
  unfold wpOp
  rw [g1, g2]
  exact h2
/-- its front, its last but one, its last -/
def cut2 : List Oper → Option (List Oper × Oper × Oper)
  | [] => none
  | [_] => none
  | [x, y] => some ([], x, y)
  | x :: l => (cut2 l).map fun (m, a, b) => (x :: m, a, b)
theorem cut2_spec : ∀ {L M : List Oper} {o1 o2 : Oper}, cut2 L = some (M, o1, o2) → L = M ++ [o1] ++ [o2]
  | [], _, _, _, h => by cases h
  | [_], _, _, _, h => by cases h
  | [x, y], _, _, _, h => by cases h; rfl
  | x :: y :: z :: l, M, o1, o2, h => by
    have h' : (cut2 (y :: z :: l)).map (fun (m, a, b) => (x :: m, a, b)) = some (M, o1, o2) := h
    cases hc : cut2 (y :: z :: l) with
    | none => rw [hc] at h'; cases h'
    | some r =>
      obtain ⟨m, a, b⟩ := r
      rw [hc] at h'
      cases h'
      rw [cut2_spec hc]
      rfl
theorem wp_region_past_two {id : Nat} {Q : Exit → Act → World → Prop} {a : Act} {w : World} {L M : List Oper} {o1 o2 : Oper} (hL : cut2 L = some (M, o1, o2)) (hm : P.follows .mixedOrders = true) (hB : Region.lexB .any M.toArray = true) (hp : popB L.toArray = true) (hp1 : popB (M ++ [o1]).toArray = true)
    (h : wpQuiet P M.toArray (fun w' => ∃ s : Past w, w' = s.val) (fun a' => ∀ w', (∃ s : Past w, w' = s.val) → wpList P L.toArray Q [o1, o2] a' w') M a) : (Code.region id L.toArray true).wp P Q a w :=
  wp_region_past_last2 (cut2_spec hL) hm hB hp hp1 h
end
end Go.Proofs.Ytighcnecajgkpaa
namespace Go.Proofs.Ytighcnecajgkpaa
open Go.RowKit Go

section
variable {P : Program}
/-- an operation that only passes a value on -/
def passB (o : Oper) : Bool := match o.op with
  | .extract .. | .move _ | .assign _ => true
  | _ => false
theorem extract_run (v : Value) (k : Nat) (w w' w1 : World) (u : Value) (h : (Instr.extract v k).run P w = .ok u w1) : w1 = w ∧ (Instr.extract v k).run P w' = .ok u w' := by
  cases v with
  | tuple vs =>
    simp only [Instr.extract] at h ⊢
    split at h
    · next x hx =>
      simp only [Sem.run_pure, Result.ok.injEq] at h
      obtain ⟨rfl, rfl⟩ := h
      exact ⟨rfl, rfl⟩
    · next hx => simp [stuck, Sem.run_halt] at h
  | _ => simp [Instr.extract, stuck, Sem.run_halt] at h
theorem pass_yields {o : Oper} {a : Act} {C : World → Prop} {v : Value} {ops : Array Oper} {w : World} (hp : passB o = true) (hw : C w) (h : YieldsIn P ops C o v a) : Yields P ops o v a := by
  rcases h with ⟨h1, h2⟩ | h
  · refine .inl ⟨h1, fun w' => ?_⟩
    have h3 := h2 w hw
    unfold Oper.quietAt at h3
    unfold passB at hp
    unfold execOp at h3 ⊢
    cases ho : o.op <;> rw [ho] at hp h3 <;> first | (cases hp; done) | skip
    case move x =>
      simp only [Sem.run_pure, Oper.quietUpon] at h3 ⊢
      rw [h3.2]
    case assign x =>
      simp only [Sem.run_pure, Oper.quietUpon] at h3 ⊢
      rw [h3.2]
    case extract t k =>
      simp only [Sem.run_bind] at h3 ⊢
      cases hr : (Instr.extract (a.eval t) k).run P w with
      | ok u w1 =>
        obtain ⟨rfl, hr2⟩ := extract_run _ _ _ w' _ _ hr
        rw [hr] at h3
        rw [hr2]
        simp only [Result.andThen_ok, Sem.run_pure, Oper.quietUpon] at h3 ⊢
        rw [h3.2]
      | halt x w1 =>
        rw [hr] at h3
        simp [Result.andThen, Oper.quietUpon] at h3
  · exact .inr h

/-- operation n waits for all ahead of it but those that only pass on, and these are apart from what does not wait for them -/
def late0 (ops : Array Oper) (n : Nat) : Array Bool := ((List.range ops.size).map fun i => decide (i < n) && Region.waitsFor .any ops n i).toArray
def lateB (ops : Array Oper) (n : Nat) : Bool := (List.range n).all fun i => match ops[i]? with
  | some o => Region.waitsFor .any ops n i || (passB o && Region.free .any ops (late0 ops n) i)
  | none => false
theorem late0_false {ops : Array Oper} {n k : Nat} (hk : k < ops.size) (h : ¬ (k < n ∧ Region.waitsFor .any ops n k = true)) : (late0 ops n).getD k true = false := by
  unfold late0
  have h1 : (decide (k < n) && Region.waitsFor .any ops n k) = false := by
    rw [Bool.eq_false_iff]
    intro h2
    simp only [Bool.and_eq_true, decide_eq_true_eq] at h2
    exact h h2
  simp [hk, h1]
theorem qOp_pop {ops : Array Oper} {C : World → Prop} {n i : Nat} {K : Act → Prop} {a : Act} (hn : ops.size = n + 1) (hb : backB ops = true) (hi : i < n) (h : qOp P ops.pop C i K a) : qOp P ops C i K a := by
  have hpop : ∀ j, j < n → ops.pop[j]? = ops[j]? := fun j hj => by rw [Array.getElem?_pop, if_pos (by omega)]
  unfold qOp at *
  rw [hpop i hi] at h
  cases ho : ops[i]? with
  | none => simp only [ho] at h ⊢; exact h
  | some o =>
    simp only [ho] at h ⊢
    have hg := (backB_spec hb ho).2
    have hw : Region.wanted o (yielded ops.pop a.tmps) = Region.wanted o (yielded ops a.tmps) := by
      unfold Region.wanted
      cases hgu : o.guard with
      | none => rfl
      | some x =>
        obtain ⟨g, b⟩ := x
        have := hg g b hgu
        simp only
        unfold yielded
        rw [hpop g (by omega)]
    rw [hw] at h
    exact h

theorem wpAny_late {ops : Array Oper} {C : World → Prop} {Q : Exit → Act → World → Prop} {Qq : Act → Prop} {n : Nat} (hn : ops.size = n + 1) (hb : backB ops = true) (hl : lateB ops n = true) (hsel : Region.noSelect ops = true)
    (hQ : ∀ c a d v w, Q (.panic c) (Act.put a d v) w → Q (.panic c) a w) (hq : ∀ a w, C w → Qq a → wpOp P ops Q n (fun a' w' => Q .normal a' w') a w) :
    ∀ (fuel : Nat) (listed : Array Bool) (a : Act) (w : World), C w → listed.size = n → wpAnyQ P .any ops.pop C Qq fuel listed a → wpAny P .any ops Q (fuel + 1) (listed.push false) a w := by
  have hpop : ∀ j, j < n → ops.pop[j]? = ops[j]? := fun j hj => by rw [Array.getElem?_pop, if_pos (by omega)]
  obtain ⟨on, hon⟩ : ∃ on, ops[n]? = some on := ⟨ops[n], Array.getElem?_eq_getElem (by omega)⟩
  have hready : ∀ (listed : Array Bool), listed.size = n → ∀ i, i < n → (i ∈ Region.ready .any ops (listed.push false) ↔ i ∈ Region.ready .any ops.pop listed) := fun listed hl i hi => by
    rw [mem_ready, mem_ready, getD_push (by omega), hpop i hi]
    refine and_congr_right fun _ => ⟨fun ⟨o, ho, h⟩ => ⟨o, ho, fun e he hbe => ?_⟩, fun ⟨o, ho, h⟩ => ⟨o, ho, fun e he hbe => ?_⟩⟩
    · have h1 := h e he hbe
      have h2 := (backB_spec hb ho).1 e he hbe
      rwa [getD_push (by omega)] at h1
    · have h1 := h e he hbe
      have h2 := (backB_spec hb ho).1 e he hbe
      rwa [getD_push (by omega)]
  have hsome : ∀ (listed : Array Bool), listed.size = n → (∃ j, j < n ∧ listed.getD j true = false) → Region.ready .any ops.pop listed ≠ [] := fun listed hl hex => by
    obtain ⟨j, hj, hmin⟩ : ∃ j, (j < n ∧ listed.getD j true = false) ∧ ∀ k, k < j → ¬ (k < n ∧ listed.getD k true = false) := by
      obtain ⟨j0, hj0⟩ := hex
      induction j0 using Nat.strongRecOn with
      | _ j0 ih =>
        by_cases h : ∃ k, k < j0 ∧ (k < n ∧ listed.getD k true = false)
        · obtain ⟨k, hk, hk2⟩ := h
          exact ih k hk hk2
        · exact ⟨j0, hj0, fun k hk hk2 => h ⟨k, hk, hk2⟩⟩
    obtain ⟨hjn, hjl⟩ := hj
    obtain ⟨o, ho⟩ : ∃ o, ops[j]? = some o := ⟨ops[j], Array.getElem?_eq_getElem (by omega)⟩
    intro he
    have : j ∈ Region.ready .any ops.pop listed := by
      rw [mem_ready, hpop j hjn]
      refine ⟨hjl, o, ho, fun e hee hbe => ?_⟩
      have h2 := (backB_spec hb ho).1 e hee hbe
      have h3 := hmin e.on h2
      have h4 : e.on < listed.size := by omega
      have h5 : ¬ listed.getD e.on true = false := fun h => h3 ⟨by omega, h⟩
      simp [h4] at h5 ⊢
      exact h5
    rw [he] at this
    cases this
  -- all have come up: the last one
  have hlast : ∀ (fuel : Nat) (listed : Array Bool) (a : Act) (w : World), C w → listed.size = n → (¬ ∃ j, j < n ∧ listed.getD j true = false) → Qq a → wpAny P .any ops Q (fuel + 1) (listed.push false) a w := fun fuel listed a w hw hl hex hqa => by
    have hall : ∀ j, j < n → listed.getD j true = true := fun j hj => by
      cases h : listed.getD j true
      · exact absurd ⟨j, hj, h⟩ hex
      · rfl
    have hnr : n ∈ Region.ready .any ops (listed.push false) := by
      rw [mem_ready]
      refine ⟨by rw [← hl]; simp, on, hon, fun e he hbe => ?_⟩
      have h2 := (backB_spec hb hon).1 e he hbe
      have h3 := hall e.on h2
      have h4 : e.on < listed.size := by omega
      rw [getD_push h4]
      simp [h4] at h3 ⊢
      exact h3
    refine ⟨fun h => (by rw [h] at hnr; cases hnr), fun i hi => ?_⟩
    have hin : i < n + 1 := by
      obtain ⟨-, o, ho, -⟩ := mem_ready.1 hi
      have := (Array.getElem?_eq_some_iff.1 ho).1
      omega
    by_cases hi2 : i < n
    · have h5 := (mem_ready.1 hi).1
      rw [getD_push (by omega), hall i hi2] at h5
      cases h5
    · obtain rfl : i = n := by omega
      refine wpOp_mono (fun a' w' h' => wpAny_done ?_ h' _) (hq a w hw hqa)
      rw [List.eq_nil_iff_forall_not_mem]
      intro k hk
      obtain ⟨h6, o, ho, -⟩ := mem_ready.1 hk
      have hk2 := (Array.getElem?_eq_some_iff.1 ho).1
      by_cases hki : k = i
      · subst hki
        simp [hl] at h6
      · have h7 : k < listed.size := by omega
        have h8 := hall k (by omega)
        rw [getD_set_ne true (Ne.symm hki), getD_push h7, h8] at h6
        cases h6
  have hnil : ∀ (listed : Array Bool), (¬ ∃ j, j < n ∧ listed.getD j true = false) → Region.ready .any ops.pop listed = [] := fun listed hex => by
    rw [List.eq_nil_iff_forall_not_mem]
    intro k hk
    obtain ⟨h6, o, ho, -⟩ := mem_ready.1 hk
    have hk2 := (Array.getElem?_eq_some_iff.1 ho).1
    exact hex ⟨k, by simp at hk2; omega, h6⟩
  intro fuel
  induction fuel with
  | zero =>
    intro listed a w hw hl' H
    refine hlast 0 listed a w hw hl' (fun hex => hsome listed hl' hex H.1) H.2
  | succ fuel ih =>
    intro listed a w hw hl' H
    by_cases hex : ∃ j, j < n ∧ listed.getD j true = false
    · have hne := hsome listed hl' hex
      have hset : ∀ i, i < n → (listed.push false).setIfInBounds i true = (listed.setIfInBounds i true).push false := fun i hin => by
        apply Array.ext_getElem?
        intro k
        simp only [Array.getElem?_setIfInBounds, Array.getElem?_push, Array.size_setIfInBounds, Array.size_push]
        by_cases hki : i = k
        · subst hki
          simp [hl', hin, Nat.ne_of_lt hin, Nat.lt_succ_of_lt hin]
        · simp [hki]
      by_cases hnr : n ∈ Region.ready .any ops (listed.push false)
      · obtain ⟨j, hj⟩ := List.exists_mem_of_ne_nil _ hne
        have hjn : j < n := by
          obtain ⟨-, o, ho, -⟩ := mem_ready.1 hj
          have := (Array.getElem?_eq_some_iff.1 ho).1
          simp at this; omega
        obtain ⟨oj, hoj⟩ : ∃ o, ops[j]? = some o := ⟨ops[j], Array.getElem?_eq_getElem (by omega)⟩
        have hjl := (mem_ready.1 hj).1
        have h1 := List.all_eq_true.1 hl j (List.mem_range.2 hjn)
        simp only [hoj, Bool.or_eq_true, Bool.and_eq_true] at h1
        have hwait : ∀ j, j < n → listed.getD j true = false → ¬ Region.waitsFor .any ops n j = true := fun j hjn hjl h1 => by
          obtain ⟨o', ho', e, he, hbe, hon'⟩ := Region.waitsFor_spec h1
          obtain ⟨-, o2, ho2, h2⟩ := mem_ready.1 hnr
          have : o' = o2 := Option.some.inj (ho'.symm.trans ho2)
          subst this
          have h3 := h2 e he hbe
          rw [hon', getD_push (by omega)] at h3
          have h4 : j < listed.size := by omega
          simp [h4] at h3 hjl
          rw [hjl] at h3
          cases h3
        rcases h1 with h1 | ⟨hp, hf⟩
        · exact absurd h1 (hwait j hjn hjl)
        · have h2 := qOp_pop hn hb hjn (H.2 j hj)
          obtain ⟨v, hy, hK⟩ := yieldsIn_of_qOp hoj h2
          have hY := pass_yields (ops := ops) hp hw hy
          have h3 := ih (listed.setIfInBounds j true) (a.put oj.dst v) w hw (by simp [hl']) hK
          rw [← hset j hjn] at h3
          refine wpAny_first hoj (Region.noSelect_spec hsel) (fun c a w => hQ c a _ _ w) _ _ a w (fun k ok hk hkj hun hno => ?_) ((hready listed hl' j hjn).2 hj) hY h3
          have hks := (Array.getElem?_eq_some_iff.1 hk).1
          refine Region.free_spec hoj hf k ok hk hkj (late0_false hks fun ⟨h4, h5⟩ => ?_) hno
          rw [getD_push (by omega)] at hun
          exact hwait k h4 hun h5
      · refine ⟨fun h => absurd h ?_, fun i hi => ?_⟩
        · obtain ⟨k, hk⟩ := List.exists_mem_of_ne_nil _ hne
          have hkn : k < n := by
            obtain ⟨-, o, ho, -⟩ := mem_ready.1 hk
            have := (Array.getElem?_eq_some_iff.1 ho).1
            simp at this; omega
          intro h0
          have := (hready listed hl' k hkn).2 hk
          rw [h0] at this
          cases this
        · have hin2 : i < n + 1 := by
            obtain ⟨-, o, ho, -⟩ := mem_ready.1 hi
            have := (Array.getElem?_eq_some_iff.1 ho).1
            omega
          have hin : i < n := by
            rcases Nat.lt_or_ge i n with h | h
            · exact h
            · obtain rfl : i = n := by omega
              exact absurd hi hnr
          have hi' := (hready listed hl' i hin).1 hi
          rw [hset i hin]
          exact wpOp_of_qOp hw (fun a' w' hw' h' => ih _ a' w' hw' (by simp [hl']) h') (qOp_pop hn hb hin (H.2 i hi'))
    · exact hlast _ listed a w hw hl' hex (H.1 (hnil listed hex))

/-- the region: what is ahead of the store, quietly; the store; the last one -/
theorem wp_region_past_late2 {id : Nat} {Q : Exit → Act → World → Prop} {a : Act} {w : World} {L M : List Oper} {o1 o2 : Oper} (hL : cut2 L = some (M, o1, o2)) (hm : P.follows .mixedOrders = true) (hB : Region.lexB .any M.toArray = true) (hp : popB L.toArray = true) (hb : backB (M ++ [o1]).toArray = true) (hl : lateB (M ++ [o1]).toArray M.length = true) (hs : Region.noSelect (M ++ [o1]).toArray = true)
    (hQ : ∀ c a d v w, Q (.panic c) (Act.put a d v) w → Q (.panic c) a w)
    (h : wpQuiet P M.toArray (fun w' => ∃ s : Past w, w' = s.val) (fun a' => ∀ w', (∃ s : Past w, w' = s.val) → wpList P L.toArray Q [o1, o2] a' w') M a) : (Code.region id L.toArray true).wp P Q a w := by
  have hL' := cut2_spec hL
  subst hL'
  have hn : (M ++ [o1] ++ [o2]).toArray.size = (M.length + 1) + 1 := by simp
  have hn1 : (M ++ [o1]).toArray.size = M.length + 1 := by simp
  have hpop : (M ++ [o1] ++ [o2]).toArray.pop = (M ++ [o1]).toArray := by simp
  have hpop1 : (M ++ [o1]).toArray.pop = M.toArray := by simp
  unfold popB at hp
  simp only [Bool.and_eq_true, decide_eq_true_eq] at hp
  obtain ⟨⟨hbL, hsL⟩, -⟩ := hp
  rw [hn, Nat.add_sub_cancel] at hsL
  simp only [Region.lexB, Bool.and_eq_true] at hB
  refine wp_region_any hm ?_
  rw [hn, show Array.replicate (M.length + 1 + 1) false = (Array.replicate (M.length + 1) false).push false from by rw [← Array.replicate_succ]]
  have inv : HeadInv .any (M ++ [o1] ++ [o2]).toArray (M.length + 1) ((Array.replicate (M.length + 1) false).push false) := by
    rw [← Array.replicate_succ]
    refine ⟨by rw [hn]; simp, fun j oj hj hl => ?_, fun t h1 h2 => ?_⟩
    · rw [getD_replicate_false] at hl
      cases hl
    · simp [show t < M.length + 1 + 1 from by omega]
  refine wpAny_pop hn hbL hsL (M.length + 1) _ a _ (by simp) inv ?_
  rw [hpop, show Array.replicate (M.length + 1) false = (Array.replicate M.length false).push false from by rw [← Array.replicate_succ]]
  refine wpAny_late (P := P) (Q := popQ P (M ++ [o1] ++ [o2]).toArray Q (M.length + 1)) (C := fun w' => ∃ s : Past w, w' = s.val) (Qq := fun a' => ∀ w', (∃ s : Past w, w' = s.val) → wpOp P (M ++ [o1] ++ [o2]).toArray Q M.length (fun a2 w2 => wpOp P (M ++ [o1] ++ [o2]).toArray Q (M.length + 1) (fun a3 w3 => Q .normal a3 w3) a2 w2) a' w') hn1 hb hl hs (fun c a d v w h => hQ c a d v w h) (fun a' w' hw' hqa => ?_) M.length (Array.replicate M.length false) a { w with drawn := w.drawn + 1 } ⟨⟨{ w with drawn := w.drawn + 1 }, below_drewN 1⟩, rfl⟩ (Array.size_replicate) ?_
  · have h2 := wpOp_unpop hn hbL (by omega) (hqa w' hw')
    rw [hpop] at h2
    exact h2
  · rw [hpop1]
    have h9 := quiet_weaken (Q' := fun a' => ∀ w', (∃ s : Past w, w' = s.val) → wpOp P (M ++ [o1] ++ [o2]).toArray Q M.length (fun a2 w2 => wpOp P (M ++ [o1] ++ [o2]).toArray Q (M.length + 1) (fun a3 w3 => Q .normal a3 w3) a2 w2) a' w') (fun a' h' w' hw' => by
      have h2 := h' w' hw'
      have g1 : (M ++ [o1] ++ [o2]).toArray[M.length]? = some o1 := by simp
      have g2 : (M ++ [o1] ++ [o2]).toArray[M.length + 1]? = some o2 := by simp
      unfold wpOp
      rw [g1, g2]
      exact h2) _ _ h
    have := wpAnyQ_lex (P := P) (C := fun w' => ∃ s : Past w, w' = s.val) (md := .any) hB.1 M 0 (Array.replicate M.length false) a (by simp) (by simpa using hB.2) h9
    exact this
/-- the same, not to panic: behind it 'refine NoPanic.normal ?_' -/
theorem wp_region_late2 {id : Nat} {Q : Exit → Act → World → Prop} {a : Act} {w : World} {L M : List Oper} {o1 o2 : Oper} (hL : cut2 L = some (M, o1, o2)) (hm : P.follows .mixedOrders = true) (hB : Region.lexB .any M.toArray = true) (hp : popB L.toArray = true) (hb : backB (M ++ [o1]).toArray = true) (hl : lateB (M ++ [o1]).toArray M.length = true) (hs : Region.noSelect (M ++ [o1]).toArray = true)
    (h : wpQuiet P M.toArray (fun w' => ∃ s : Past w, w' = s.val) (fun a' => ∀ w', (∃ s : Past w, w' = s.val) → wpList P L.toArray (NoPanic Q) [o1, o2] a' w') M a) : (Code.region id L.toArray true).wp P Q a w :=
  wp_region_noPanic (wp_region_past_late2 hL hm hB hp hb hl hs (fun _ _ _ _ _ h => h.elim) h)
/-- its front, its last -/
def cut1 : List Oper → Option (List Oper × Oper)
  | [] => none
  | [x] => some ([], x)
  | x :: l => (cut1 l).map fun (m, a) => (x :: m, a)
theorem cut1_spec : ∀ {L M : List Oper} {o : Oper}, cut1 L = some (M, o) → L = M ++ [o]
  | [], _, _, h => by cases h
  | [x], _, _, h => by cases h; rfl
  | x :: y :: l, M, o, h => by
    have h' : (cut1 (y :: l)).map (fun (m, a) => (x :: m, a)) = some (M, o) := h
    cases hc : cut1 (y :: l) with
    | none => rw [hc] at h'; cases h'
    | some r =>
      obtain ⟨m, a⟩ := r
      rw [hc] at h'
      cases h'
      rw [cut1_spec hc]
      rfl
/-- the region: what is ahead of its last operation, quietly; that one -/
theorem wp_region_past_one {id : Nat} {Q : Exit → Act → World → Prop} {a : Act} {w : World} {L M : List Oper} {o : Oper} (hL : cut1 L = some (M, o)) (hm : P.follows .mixedOrders = true) (hB : Region.lexB .any M.toArray = true) (hp : popB L.toArray = true)
    (h : wpQuiet P M.toArray (fun w' => ∃ s : Past w, w' = s.val) (fun a' => ∀ w', (∃ s : Past w, w' = s.val) → wpList P L.toArray Q [o] a' w') M a) : (Code.region id L.toArray true).wp P Q a w := by
  have hL' := cut1_spec hL
  subst hL'
  refine wp_region_past_pop hm hB hp ?_
  refine quiet_weaken (fun a' h' w' hw' => ?_) _ _ h
  have g1 : (M ++ [o]).toArray[M.length]? = some o := by simp
  show wpOp P (M ++ [o]).toArray Q M.length (fun a' w' => Q .normal a' w') a' w'
  unfold wpOp
  rw [g1]
  exact h' w' hw'
end
end Go.Proofs.Ytighcnecajgkpaa
namespace Go.Proofs.Ytighcnecajgkpaa
open Go.RowKit

def Eight (b0 o0 b1 o1 : Nat) (a x : Am) (w : World) : Prop := w.cell? ⟨b0, o0, none⟩ = some (.int .i64 a.c) ∧ w.cell? ⟨b0, o0 + 1, none⟩ = some (.int .i64 a.r) ∧ w.cell? ⟨b0, o0 + 2, none⟩ = some (.int .i64 a.d) ∧ w.cell? ⟨b0, o0 + 3, none⟩ = some (.int .i64 a.p) ∧ w.cell? ⟨b1, o1, none⟩ = some (.int .i64 x.c) ∧ w.cell? ⟨b1, o1 + 1, none⟩ = some (.int .i64 x.r) ∧ w.cell? ⟨b1, o1 + 2, none⟩ = some (.int .i64 x.d) ∧ w.cell? ⟨b1, o1 + 3, none⟩ = some (.int .i64 x.p)
theorem Eight.kept {b0 o0 b1 o1 : Nat} {a x : Am} {w w' : World} (h : Eight b0 o0 b1 o1 a x w) (hb : Below w.heap.size w w') : Eight b0 o0 b1 o1 a x w' :=
  ⟨cell_kept h.1 hb, cell_kept h.2.1 hb, cell_kept h.2.2.1 hb, cell_kept h.2.2.2.1 hb, cell_kept h.2.2.2.2.1 hb, cell_kept h.2.2.2.2.2.1 hb, cell_kept h.2.2.2.2.2.2.1 hb, cell_kept h.2.2.2.2.2.2.2 hb⟩
theorem ladd_val (a x z : Am) (er : Int) (w : World) (h : addR a x = (z, er)) :
    Calls Try.prog 44 #[amV a, amV x] w fun e w' => e = .returned (.tuple #[.agg #[.int .i64 z.c, .int .i64 z.r, .int .i64 z.d, .int .i64 z.p], .int .i64 er]) ∧ Below w.heap.size w w' :=
  (add_any a x w).mono fun e w' ⟨h1, h2⟩ => ⟨by rw [h1, h], h2⟩
theorem lcap_lit (b mb : Nat) (cap : Am) (L : List Ent) (w : World) (h : Led w b mb cap L) :
    Calls Try.prog 25 #[ptr b] w fun e w' => e = .returned (.agg #[.int .i64 cap.c, .int .i64 cap.r, .int .i64 cap.d, .int .i64 cap.p]) ∧ Below w.heap.size w w' := lcap_made b mb cap L w h
theorem rchk_zero (x : Am) (w : World) (h : x.okB = true) :
    Calls Try.prog 34 #[.agg #[.int .i64 x.c, .int .i64 x.r, .int .i64 x.d, .int .i64 x.p]] w fun e w' => e = .returned (.int .i64 0) ∧ Below w.heap.size w w' := by
  have := rcheck_any x w
  have hc : x.chk = 0 := by unfold Am.chk; rw [h]; rfl
  rw [hc] at this
  exact this
theorem Inv.leftAll {cap : Am} {L : List Ent} (h : Inv cap L) {x : Ent} (hx : x ∈ L) (hi : x.i.toList = []) : ∃ z : Am, z.okB = true ∧ (∀ j, j < 4 → z.get j + (sumA (inR x.n) L).get j = x.a.get j) ∧
    ∀ (b mb : Nat) (w : World), Led w b mb cap L → Calls Try.prog 10 #[ptr b, .string x.n] w fun e w' => e = .returned (.tuple #[.agg #[.int .i64 z.c, .int .i64 z.r, .int .i64 z.d, .int .i64 z.p], .int .i64 0]) ∧ Below w.heap.size w w' := by
  obtain ⟨z, hz, ho, hs⟩ := h.left hx hi
  refine ⟨z, ho, hs, fun b mb w hl => ?_⟩
  exact left_yes b mb cap L x.n x w hl (by have := (h.nm x hx).2; unfold maxLen; omega) (size_list (h.nm x hx).1) (fnd_of h.rise.apart hx) h.rise.apart h.oks (h.fit2 _ _) z 0 (by rw [inB_nil h]; exact hz)

theorem bel_then {n : Nat} {a b c : World} (h1 : Below n a b) (h2 : Below b.heap.size b c) (hn : n ≤ a.heap.size) : Below n a c := h1.trans (h2.mono (Nat.le_trans hn h1.size))

set_option maxRecDepth 100000 in
set_option maxHeartbeats 2000000 in
theorem lawfits_any (b mb : Nat) (cap : Am) (L : List Ent) (w : World) (h : Led w b mb cap L) (hI : Inv cap L) (hl : L.length ≤ 100000) :
    Calls Try.prog 27 #[ptr b] w fun e w' => e = .returned (.bool true) ∧ Below w.heap.size w w' := by
  obtain ⟨z, hz, hzo, hzs⟩ := hI.free
  have hml : maxLen ≤ 9223372036854775807 := by decide
  have H := Lib.hid h
  have HI := Lib.hid hI
  have HL := Lib.hid hl
  have HZO := Lib.hid hzo
  have HZS := Lib.hid hzs
  have HNM : Hid (∀ e ∈ L, e.n.size ≤ maxLen) := Lib.hid (fun e he => by have := (hI.nm e he).2; unfold maxLen; omega)
  have HFR : Hid (∀ w, Led w b mb cap L → Calls Try.prog 13 #[ptr b] w fun e w' => e = .returned (.agg #[.int .i64 z.c, .int .i64 z.r, .int .i64 z.d, .int .i64 z.p]) ∧ Below w.heap.size w w') :=
    Lib.hid (fun w h => free_made b mb cap L w h hI.rise.apart hI.oks (hI.fit2 _ _) z 0 (by rw [inB_nil hI]; exact hz))
  clear h hI hl hz hzo hzs
  go_enter Try.func27, Try.ntmps27
  go_upto_region 2 with (go_at_call 24; refine (entries_made b mb cap L _ H.out HI.out.rise HNM.out HL.out).mono ?_; rintro e w3 ⟨v, rfl, ho, hb⟩; obtain ⟨p, c, rfl, hc, hm⟩ := own_slice ho; have HO := Lib.hid ho; have HB3 := Lib.hid hb; have H3 := Lib.hid (H.out.kept hb); clear ho hb)
  go_upto_region 3 with (go_at_call 13; refine (HFR.out _ H3.out).mono ?_; rintro e w4 ⟨rfl, hb⟩; have HB4 := Lib.hid (below_and HB3.out hb); have HO4 := Lib.hid (own_fr HO.out (Fr.of_below hb []) (fun _ _ => by simp)); have H4 := Lib.hid (H3.out.kept hb); clear hb)
  obtain ⟨wb, hwb⟩ : ∃ wb, wb = w4.alloc (.cells #[.int .i64 z.c, .int .i64 z.r, .int .i64 z.d, .int .i64 z.p] 28) := ⟨_, rfl⟩
  obtain ⟨g, hg⟩ : ∃ g, g = w4.heap.size := ⟨_, rfl⟩
  rw [← hwb, ← hg]
  have HG : Hid (Blk wb g (amC z) 28) := Lib.hid (by rw [hwb, hg]; exact Blk.made w4 (amC z) _)
  have hbb : Below w4.heap.size w4 wb := by rw [hwb]; exact below_alloc _ _
  have HBB : Hid (Below w.heap.size w wb) := Lib.hid (below_and HB4.out hbb)
  have HOB := Lib.hid (own_fr HO4.out (Fr.of_below hbb []) (fun _ _ => by simp))
  have HB' := Lib.hid (H4.out.kept hbb)
  have HGS : Hid (w4.heap.size ≤ g ∧ w.heap.size ≤ w4.heap.size ∧ w4.heap.size ≤ wb.heap.size) := Lib.hid ⟨by omega, HB4.out.size, hbb.size⟩
  have HKG : Hid (∀ wc : World, Below w4.heap.size wb wc → Led wc b mb cap L ∧ wc.ownsRow w.heap.size 48 6 (.slice p L.length c) L.length (entsC L) ∧ Below w.heap.size w wc) := Lib.hid (fun wc hq => by
    have hw4 : Below w4.heap.size w4 wc := hbb.trans hq
    exact ⟨H4.out.kept hw4, own_fr HO4.out (Fr.of_below hw4 []) (fun _ _ => by simp), below_and HB4.out hw4⟩)
  clear hwb hg hbb HO H3 HB3 HO4 H4 HB4
  go_wp2
  go_loopw [5] (fun i wc => ∃ k : Nat, k ≤ L.length ∧ i = .int .i64 (k : Int) ∧ Hid (Blk wc g (amC (partF (inR ⟨#[]⟩) z L k)) 28) ∧ Hid (Below w4.heap.size wb wc)) (fun i _ => L.length - (intOf i).toNat)
  case atStart => exact ⟨0, Nat.zero_le _, rfl, Lib.hid (by rw [partF_zero]; exact HG.out), Lib.hid (Below.refl _ _)⟩
  case round =>
    obtain ⟨k, hk, rfl, HA, HB⟩ := hrel
    by_cases hlt : k < L.length
    · have HR := Lib.hid (HKG.out _ HB.out)
      obtain ⟨ge, ce, ee, -, -, -⟩ := own_block HR.out.2.1 (by omega)
      simp only [Value.slice.injEq] at ee
      obtain ⟨rfl, -, rfl⟩ := ee
      obtain ⟨x, hx⟩ : ∃ x, x = L[k] := ⟨_, rfl⟩
      have hxm : x ∈ L := by rw [hx]; exact List.getElem_mem hlt
      have e1 : wr.cell? ⟨ge, k * 6 + 1, none⟩ = some (.string x.i) := own_cell HR.out.2.1 (by rw [entsC_at L k hlt 1 (by omega), ← hx]; rfl)
      have i1 : (k : Int) < (L.length : Int) := by omega
      cases hs : x.i.toList.isEmpty
      · have hp : inR ⟨#[]⟩ x = false := by unfold inR; rw [nil_list]; cases hq : x.i.toList with
          | nil => rw [hq] at hs; cases hs
          | cons _ _ => rfl
        have HA2 : Hid (Blk wr g (amC (partF (inR ⟨#[]⟩) z L (k + 1))) 28) := Lib.hid (by rw [partF_skip hlt hx hp]; exact HA.out)
        clear hx hxm hp
        go_wp2
        go_roundw
        case rel => exact ⟨k + 1, hlt, by go_num, HA2, HB⟩
        case measure => simp [intOf]; omega
      · have hi : x.i.toList = [] := List.isEmpty_iff.1 hs
        have hp : inR ⟨#[]⟩ x = true := by unfold inR; rw [nil_list, hi]; rfl
        obtain ⟨z2, hz2o, hz2s, hz2⟩ := HI.out.leftAll hxm hi
        have HZ2O := Lib.hid hz2o
        have HZ2S := Lib.hid hz2s
        have HZ2 := Lib.hid hz2
        have HXO := Lib.hid (HI.out.oks x hxm)
        obtain ⟨a, ha⟩ : ∃ a, a = partF (inR ⟨#[]⟩) z L k := ⟨_, rfl⟩
        obtain ⟨y, hy⟩ : ∃ y, y = partF (inR ⟨#[]⟩) z L (k + 1) := ⟨_, rfl⟩
        have HAD : Hid (addR a x.a = (y, 0)) := Lib.hid (by rw [ha, hy]; exact partF_add HI.out.oks HZO.out HI.out.cok HZS.out hlt hx hp)
        rw [← ha] at HA
        have HY := Lib.hid hy
        have e0 : wr.cell? ⟨ge, k * 6, none⟩ = some (.string x.n) := own_cell HR.out.2.1 (by rw [show k * 6 = k * 6 + 0 from rfl, entsC_at L k hlt 0 (by omega), ← hx]; rfl)
        have E0 := Lib.hid e0
        have hee : ∀ j u, j < 4 → (amC x.a)[j]? = some u → wr.cell? ⟨ge, k * 6 + 2 + j, none⟩ = some u := fun j u hj hu => own_cell HR.out.2.1 (by rw [show k * 6 + 2 + j = k * 6 + (2 + j) from by omega, entsC_at L k hlt (2 + j) (by omega), ← hx]; obtain rfl | rfl | rfl | rfl : j = 0 ∨ j = 1 ∨ j = 2 ∨ j = 3 := (by omega); all_goals exact hu)
        have HEE := Lib.hid hee
        have HE : Hid (Eight g 0 ge (k * 6 + 2) a x.a wr) := Lib.hid ⟨HA.out.cell (j := 0) rfl, HA.out.cell (j := 1) rfl, HA.out.cell (j := 2) rfl, HA.out.cell (j := 3) rfl, hee 0 _ (by omega) rfl, hee 1 _ (by omega) rfl, hee 2 _ (by omega) rfl, hee 3 _ (by omega) rfl⟩
        have HX := Lib.hid hx
        clear hx hxm hp ha hy e0 hee hi hz2o hz2s hz2
        go_wp2
        go_cut [6, 7] (fun s6 s7 wx => ∃ q, s6 = ptr q ∧ s7 = .int .i64 0 ∧ wr.heap.size ≤ q ∧ Blk wx q (amC y) 28 ∧ Below wr.heap.size wr wx)
        case first =>
          go_region_held3 (fun w' => w'.cell? ⟨g, 0, none⟩ = some (.int .i64 a.c) ∧ w'.cell? ⟨g, 1, none⟩ = some (.int .i64 a.r) ∧ w'.cell? ⟨g, 2, none⟩ = some (.int .i64 a.d) ∧ w'.cell? ⟨g, 3, none⟩ = some (.int .i64 a.p) ∧ w'.cell? ⟨ge, k * 6 + 2, none⟩ = some (.int .i64 x.a.c) ∧ w'.cell? ⟨ge, k * 6 + 2 + 1, none⟩ = some (.int .i64 x.a.r) ∧ w'.cell? ⟨ge, k * 6 + 2 + 2, none⟩ = some (.int .i64 x.a.d) ∧ w'.cell? ⟨ge, k * 6 + 2 + 3, none⟩ = some (.int .i64 x.a.p))
            (refine HE.out.kept ?_ <;> (repeat (first | with_reducible (refine bel_set4 ?_ (Nat.le_refl _)) | with_reducible (refine below_and ?_ (below_alloc _ _)) | with_reducible exact HB6.out | with_reducible exact Below.refl _ _ | apply bl_drew)))
            (first | (go_at_call 44; refine (ladd_val a x.a y 0 _ HAD.out).mono ?_; rintro e w6 ⟨rfl, hb⟩; have HB6 : Hid (Below wr.heap.size wr w6) := Lib.hid (by refine below_and ?_ hb; (repeat (first | with_reducible exact Below.refl _ _ | apply bl_drew | with_reducible (refine below_and ?_ (below_alloc _ _))))); (first | (have hq : Blk w6 wr.heap.size (amC .zero) 28 := (Blk.made wr.drew (amC .zero) 28).kept hb; have HQ6 := Lib.hid hq; have q0 := hq.cell (j := 0) rfl; have q1 := hq.cell (j := 1) rfl; have q2 := hq.cell (j := 2) rfl; have q3 := hq.cell (j := 3) rfl; have p0 := hq.free 0; have p1 := hq.free 1; have p2 := hq.free 2; have p3 := hq.free 3; clear hq) | skip); clear hb))
          all_goals go_wp2_with fail
          all_goals go_meet
          all_goals first
            | (refine ⟨_, rfl, rfl, Nat.le_refl _, ?_, ?_⟩
               · exact (((HQ6.out.set 0 (.int .i64 y.c)).set 1 (.int .i64 y.r)).set 2 (.int .i64 y.d)).set 3 (.int .i64 y.p)
               · exact bel_set4 HB6.out (Nat.le_refl _))
            | (refine ⟨_, rfl, rfl, HB6.out.size, ?_, ?_⟩
               · exact Blk.made w6 (amC y) _
               · exact below_and HB6.out (below_alloc _ _))
            | trace_state
        case rest =>
        obtain ⟨q, rfl, rfl, hq, hbq, hb⟩ := hcut
        have HQ0 := Lib.hid hq
        have HBX : Hid (Below wr.heap.size wr wc) := Lib.hid hb
        have z0 := hbq.cell (j := 0) rfl
        have z1 := hbq.cell (j := 1) rfl
        have z2c := hbq.cell (j := 2) rfl
        have z3 := hbq.cell (j := 3) rfl
        have hg6 := HA.out.kept hb
        have HG6 := Lib.hid hg6
        have r0 := hg6.cell (j := 0) rfl
        have r1 := hg6.cell (j := 1) rfl
        have r2 := hg6.cell (j := 2) rfl
        have r3 := hg6.cell (j := 3) rfl
        have f0 := hg6.free 0
        have f1 := hg6.free 1
        have f2 := hg6.free 2
        have f3 := hg6.free 3
        clear hq hbq hb hg6
        go_upto_region 11 with fail
        obtain ⟨wz, hwz⟩ : ∃ wz, wz = (((wc.setCell ⟨g, 0, none⟩ (.int .i64 y.c)).setCell ⟨g, 1, none⟩ (.int .i64 y.r)).setCell ⟨g, 2, none⟩ (.int .i64 y.d)).setCell ⟨g, 3, none⟩ (.int .i64 y.p) := ⟨_, rfl⟩
        have HZG : Hid (Blk wz g (amC y) 28) := Lib.hid (by rw [hwz]; exact (((HG6.out.set 0 (.int .i64 y.c)).set 1 (.int .i64 y.r)).set 2 (.int .i64 y.d)).set 3 (.int .i64 y.p))
        have HBZ : Hid (Below w4.heap.size wb wz) := Lib.hid (by rw [hwz]; exact bel_set4 (bel_then HB.out HBX.out HGS.out.2.2) HGS.out.1)
        have HRZ := Lib.hid (HKG.out _ HBZ.out)
        have e0z : wz.cell? ⟨ge, k * 6, none⟩ = some (.string x.n) := own_cell HRZ.out.2.1 (by rw [show k * 6 = k * 6 + 0 from rfl, entsC_at L k hlt 0 (by omega), ← HX.out]; rfl)
        rw [← hwz]
        clear hwz HG6 z0 z1 z2c z3 r0 r1 r2 r3 f0 f1 f2 f3
        go_upto_region 12 with (go_at_call 10; refine (HZ2.out b mb _ HRZ.out.1).mono ?_; rintro e w6 ⟨rfl, hb⟩; have HB6 := Lib.hid hb; clear hb)
        obtain ⟨wt, hwt⟩ : ∃ wt, wt = w6.alloc (.cells #[.int .i64 z2.c, .int .i64 z2.r, .int .i64 z2.d, .int .i64 z2.p] 28) := ⟨_, rfl⟩
        obtain ⟨q2, hq2⟩ : ∃ q2, q2 = w6.heap.size := ⟨_, rfl⟩
        have HQ2 : Hid (wz.heap.size ≤ q2) := Lib.hid (by rw [hq2]; exact HB6.out.size)
        have hb : Below wz.heap.size wz wt := by rw [hwt]; exact below_and HB6.out (below_alloc _ _)
        have HT : Hid (Blk wt q2 (amC z2) 28) := Lib.hid (by rw [hwt, hq2]; exact Blk.made w6 (amC z2) _)
        have HBT := Lib.hid (bel_then HBZ.out hb HGS.out.2.2)
        have HZGT := Lib.hid (HZG.out.kept hb)
        have HZT := Lib.hid hb.size
        rw [← hwt, ← hq2]
        clear hwt hq2 hb e0z
        go_wp2
        go_loopw [7, 9] (fun s7 s9 wm => ∃ m : Nat, m ≤ L.length ∧ s7 = .int .i64 0 ∧ s9 = .int .i64 (m : Int) ∧ Hid (Blk wm q2 (amC (partF (inR x.n) z2 L m)) 28) ∧ Hid (Below wz.heap.size wt wm)) (fun _ s9 _ => L.length - (intOf s9).toNat)
        case atStart => exact ⟨0, Nat.zero_le _, rfl, rfl, Lib.hid (by rw [partF_zero]; exact HT.out), Lib.hid (Below.refl _ _)⟩
        case round =>
          obtain ⟨m, hmm, rfl, rfl, HM, HBM⟩ := hrel
          by_cases hlm : m < L.length
          · have hb9 := HBT.out.trans (HBM.out.mono (Nat.le_trans HGS.out.2.2 HBZ.out.size))
            have HBMW := Lib.hid hb9
            have HRM := Lib.hid (HKG.out _ hb9)
            obtain ⟨y2, hy2⟩ : ∃ y2, y2 = L[m] := ⟨_, rfl⟩
            have hym : y2 ∈ L := by rw [hy2]; exact List.getElem_mem hlm
            have i2 : (m : Int) < (L.length : Int) := by omega
            have a0 : ∀ s : Past wr, s.val.cell? ⟨ge, k * 6, none⟩ = some (.string x.n) := Past.cell (own_cell HRM.out.2.1 (by rw [show k * 6 = k * 6 + 0 from rfl, entsC_at L k hlt 0 (by omega), ← HX.out]; rfl))
            have a1 : ∀ s : Past wr, s.val.cell? ⟨ge, m * 6 + 1, none⟩ = some (.string y2.i) := Past.cell (own_cell HRM.out.2.1 (by rw [entsC_at L m hlm 1 (by omega), ← hy2]; rfl))
            have hff : ∀ j u, j < 4 → (amC y2.a)[j]? = some u → wr.cell? ⟨ge, m * 6 + 2 + j, none⟩ = some u := fun j u hj hu => own_cell HRM.out.2.1 (by rw [show m * 6 + 2 + j = m * 6 + (2 + j) from by omega, entsC_at L m hlm (2 + j) (by omega), ← hy2]; obtain rfl | rfl | rfl | rfl : j = 0 ∨ j = 1 ∨ j = 2 ∨ j = 3 := (by omega); all_goals exact hu)
            have HFF := Lib.hid hff
            cases hq : (y2.i.toList == x.n.toList)
            · have HM2 : Hid (Blk wr q2 (amC (partF (inR x.n) z2 L (m + 1))) 28) := Lib.hid (by rw [partF_skip hlm hy2 (by unfold inR; exact hq)]; exact HM.out)
              clear hy2 hym hff hb9
              go_wp2
              refine wp_region_past (by kernel_rfl) (by kernel_rfl) ?_
              repeat (go_big_quiet_step (fail))
              refine wpQuiet_nil ?_
              intro _ hw'
              obtain ⟨s9, hw''⟩ := hw'
              subst hw''
              obtain ⟨w9, h9, e9⟩ : ∃ w9, Below wr.heap.size wr w9 ∧ w9 = s9.val := ⟨_, s9.h, rfl⟩
              rw [← e9]
              have HM9 := Lib.hid (HM2.out.kept h9)
              have HB9 : Hid (Below wz.heap.size wt w9) := Lib.hid (bel_then HBM.out h9 HZT.out)
              clear h9 e9 a0 a1
              go_wp2
              go_roundw
              case rel => exact ⟨m + 1, hlm, rfl, by go_num, HM9, HB9⟩
              case measure => simp [intOf]; omega
            · obtain ⟨n2, hn2⟩ : ∃ n2, n2 = partF (inR x.n) z2 L (m + 1) := ⟨_, rfl⟩
              obtain ⟨a2, ha2⟩ : ∃ a2, a2 = partF (inR x.n) z2 L m := ⟨_, rfl⟩
              have HAD2 : Hid (addR a2 y2.a = (n2, 0)) := Lib.hid (by rw [ha2, hn2]; exact partF_add HI.out.oks HZ2O.out HXO.out HZ2S.out hlm hy2 (by unfold inR; exact hq))
              rw [← ha2] at HM
              have HN2 := Lib.hid hn2
              clear hy2 hym hff hb9 hn2 ha2
              go_wp2
              refine wp_region_past (by kernel_rfl) (by kernel_rfl) ?_
              repeat (go_big_quiet_step (fail))
              refine wpQuiet_nil ?_
              intro _ hw'
              obtain ⟨s9, hw''⟩ := hw'
              subst hw''
              obtain ⟨w9, h9, e9⟩ : ∃ w9, Below wr.heap.size wr w9 ∧ w9 = s9.val := ⟨_, s9.h, rfl⟩
              rw [← e9]
              have HM9 := Lib.hid (HM.out.kept h9)
              have HB9 : Hid (Below wz.heap.size wt w9) := Lib.hid (bel_then HBM.out h9 HZT.out)
              have c0 : ∀ s : Past w9, s.val.cell? ⟨ge, m * 6 + 2, none⟩ = some (.int .i64 y2.a.c) := Past.cell (cell_kept (HFF.out 0 _ (by omega) rfl) h9)
              have c1 : ∀ s : Past w9, s.val.cell? ⟨ge, m * 6 + 2 + 1, none⟩ = some (.int .i64 y2.a.r) := Past.cell (cell_kept (HFF.out 1 _ (by omega) rfl) h9)
              have c2 : ∀ s : Past w9, s.val.cell? ⟨ge, m * 6 + 2 + 2, none⟩ = some (.int .i64 y2.a.d) := Past.cell (cell_kept (HFF.out 2 _ (by omega) rfl) h9)
              have c3 : ∀ s : Past w9, s.val.cell? ⟨ge, m * 6 + 2 + 3, none⟩ = some (.int .i64 y2.a.p) := Past.cell (cell_kept (HFF.out 3 _ (by omega) rfl) h9)
              have d0 : ∀ s : Past w9, s.val.cell? ⟨q2, 0, none⟩ = some (.int .i64 a2.c) := Past.blk HM9.out (j := 0) rfl
              have d1 : ∀ s : Past w9, s.val.cell? ⟨q2, 1, none⟩ = some (.int .i64 a2.r) := Past.blk HM9.out (j := 1) rfl
              have d2 : ∀ s : Past w9, s.val.cell? ⟨q2, 2, none⟩ = some (.int .i64 a2.d) := Past.blk HM9.out (j := 2) rfl
              have d3 : ∀ s : Past w9, s.val.cell? ⟨q2, 3, none⟩ = some (.int .i64 a2.p) := Past.blk HM9.out (j := 3) rfl
              clear h9 e9 a0 a1
              go_wp2
              refine wp_region_late2 rfl (by kernel_rfl) (by kernel_rfl) (by kernel_rfl) (by kernel_rfl) (by kernel_rfl) (by kernel_rfl) ?_
              repeat (go_big_quiet_step (first | (go_at_call 44; exact past_call (ladd_val a2 y2.a n2 0 _ HAD2.out))))
              refine wpQuiet_nil ?_
              intro _ hw'
              obtain ⟨s9, hw''⟩ := hw'
              subst hw''
              obtain ⟨w10, h10, e10⟩ : ∃ w10, Below w9.heap.size w9 w10 ∧ w10 = s9.val := ⟨_, s9.h, rfl⟩
              rw [← e10]
              have hm10 := HM9.out.kept h10
              have HM10 := Lib.hid hm10
              have HB10 : Hid (Below wz.heap.size wt w10) := Lib.hid (bel_then HB9.out h10 HZT.out)
              have r0 := hm10.cell (j := 0) rfl
              have r1 := hm10.cell (j := 1) rfl
              have r2 := hm10.cell (j := 2) rfl
              have r3 := hm10.cell (j := 3) rfl
              have f0 := hm10.free 0
              have f1 := hm10.free 1
              have f2 := hm10.free 2
              have f3 := hm10.free 3
              clear h10 e10 hm10 c0 c1 c2 c3 d0 d1 d2 d3
              go_wp2
              refine NoPanic.normal ?_
              go_wp2
              go_roundw
              case rel => exact ⟨m + 1, hlm, rfl, by go_num, Lib.hid (by rw [← HN2.out]; exact (((HM10.out.set 0 (.int .i64 n2.c)).set 1 (.int .i64 n2.r)).set 2 (.int .i64 n2.d)).set 3 (.int .i64 n2.p)), Lib.hid (bel_set4 HB10.out HQ2.out)⟩
              case measure => simp [intOf]; omega
          · obtain rfl : m = L.length := by omega
            have hb9 := HBT.out.trans (HBM.out.mono (Nat.le_trans HGS.out.2.2 HBZ.out.size))
            have HBMW := Lib.hid hb9
            have HRM := Lib.hid (HKG.out _ hb9)
            have hmx : Blk wr q2 (amC x.a) 28 := by have := HM.out; rw [partF_end HZ2S.out] at this; exact this
            have HGX : Hid (Blk wr g (amC (partF (inR ⟨#[]⟩) z L (k + 1))) 28) := Lib.hid (by rw [← HY.out]; exact HZGT.out.below HBM.out HZG.out.lt)
            have hff : ∀ j u, j < 4 → (amC x.a)[j]? = some u → wr.cell? ⟨ge, k * 6 + 2 + j, none⟩ = some u := fun j u hj hu => own_cell HRM.out.2.1 (by rw [show k * 6 + 2 + j = k * 6 + (2 + j) from by omega, entsC_at L k hlt (2 + j) (by omega), ← HX.out]; obtain rfl | rfl | rfl | rfl : j = 0 ∨ j = 1 ∨ j = 2 ∨ j = 3 := (by omega); all_goals exact hu)
            have c0 : ∀ s : Past wr, s.val.cell? ⟨ge, k * 6 + 2, none⟩ = some (.int .i64 x.a.c) := Past.cell (hff 0 _ (by omega) rfl)
            have c1 : ∀ s : Past wr, s.val.cell? ⟨ge, k * 6 + 2 + 1, none⟩ = some (.int .i64 x.a.r) := Past.cell (hff 1 _ (by omega) rfl)
            have c2 : ∀ s : Past wr, s.val.cell? ⟨ge, k * 6 + 2 + 2, none⟩ = some (.int .i64 x.a.d) := Past.cell (hff 2 _ (by omega) rfl)
            have c3 : ∀ s : Past wr, s.val.cell? ⟨ge, k * 6 + 2 + 3, none⟩ = some (.int .i64 x.a.p) := Past.cell (hff 3 _ (by omega) rfl)
            have d0 : ∀ s : Past wr, s.val.cell? ⟨q2, 0, none⟩ = some (.int .i64 x.a.c) := Past.blk hmx (j := 0) rfl
            have d1 : ∀ s : Past wr, s.val.cell? ⟨q2, 1, none⟩ = some (.int .i64 x.a.r) := Past.blk hmx (j := 1) rfl
            have d2 : ∀ s : Past wr, s.val.cell? ⟨q2, 2, none⟩ = some (.int .i64 x.a.d) := Past.blk hmx (j := 2) rfl
            have d3 : ∀ s : Past wr, s.val.cell? ⟨q2, 3, none⟩ = some (.int .i64 x.a.p) := Past.blk hmx (j := 3) rfl
            clear hb9 hff hmx
            go_wp2
            refine wp_region_past (by kernel_rfl) (by kernel_rfl) ?_
            repeat (go_big_quiet_step (fail))
            refine wpQuiet_nil ?_
            intro _ hw'
            obtain ⟨s9, hw''⟩ := hw'
            subst hw''
            obtain ⟨w9, h9, e9⟩ : ∃ w9, Below wr.heap.size wr w9 ∧ w9 = s9.val := ⟨_, s9.h, rfl⟩
            rw [← e9]
            have HG9 := Lib.hid (HGX.out.kept h9)
            have HB9 := Lib.hid (bel_then HBMW.out h9 HGS.out.2.2)
            clear h9 e9 c0 c1 c2 c3 d0 d1 d2 d3
            go_wp2
            go_roundw
            case rel => exact ⟨k + 1, hlt, by go_num, HG9, HB9⟩
            case measure => simp [intOf]; omega
    · obtain rfl : k = L.length := by omega
      have HR := Lib.hid (HKG.out _ HB.out)
      have hgx : Blk wr g (amC cap) 28 := by have := HA.out; rw [partF_end HZS.out] at this; exact this
      have d0 : ∀ s : Past wr, s.val.cell? ⟨g, 0, none⟩ = some (.int .i64 cap.c) := Past.blk hgx (j := 0) rfl
      have d1 : ∀ s : Past wr, s.val.cell? ⟨g, 1, none⟩ = some (.int .i64 cap.r) := Past.blk hgx (j := 1) rfl
      have d2 : ∀ s : Past wr, s.val.cell? ⟨g, 2, none⟩ = some (.int .i64 cap.d) := Past.blk hgx (j := 2) rfl
      have d3 : ∀ s : Past wr, s.val.cell? ⟨g, 3, none⟩ = some (.int .i64 cap.p) := Past.blk hgx (j := 3) rfl
      clear hgx
      go_wp2
      refine wp_region_past (by kernel_rfl) (by kernel_rfl) ?_
      repeat (go_big_quiet_step (first
        | (go_at_call 25; exact past_call (lcap_lit b mb cap L _ (HR.out.1.kept (Past.h _))))
        | (go_at_call 13; exact past_call (HFR.out _ (HR.out.1.kept (Past.h _))))
        | (go_at_call 34; exact past_call (rchk_zero z _ HZO.out))))
      refine wpQuiet_nil ?_
      intro _ hw'
      obtain ⟨s9, hw''⟩ := hw'
      subst hw''
      obtain ⟨w9, h9, e9⟩ : ∃ w9, Below wr.heap.size wr w9 ∧ w9 = s9.val := ⟨_, s9.h, rfl⟩
      rw [← e9]
      have HB9 := Lib.hid (below_and HR.out.2.2 h9)
      clear h9 e9 d0 d1 d2 d3
      go_wp2
      go_ret
      exact ⟨rfl, HB9.out⟩
end Go.Proofs.Ytighcnecajgkpaa
namespace Go.Proofs.Ytighcnecajgkpaa
open Go.RowKit

structure Ac where
  k : Int
  s : ByteArray
  t : ByteArray
  a : Am
abbrev Ac.c (x : Ac) : List Value := actC x.k x.s x.t x.a
def acsC (l : List Ac) : List Value := l.flatMap Ac.c
def Acts (w : World) (v : Value) (l : List Ac) : Prop := Row w v 7 l.length (acsC l) ∧ ∀ x ∈ l, x.s.size ≤ maxLen ∧ x.t.size ≤ maxLen
theorem Acts.below {w w' : World} {v : Value} {l : List Ac} (h : Acts w v l) (hb : Below w.heap.size w w') : Acts w' v l := ⟨h.1.below hb, h.2⟩

theorem acts_list : ∀ es : List (List Value), (∀ x ∈ es, Leaves Try.prog [3, 9, 9, 2, 2, 2, 2] x) → ∃ l : List Ac, l.length = es.length ∧ acsC l = es.flatten ∧ ∀ x ∈ l, x.s.size ≤ maxLen ∧ x.t.size ≤ maxLen
  | [], _ => ⟨[], rfl, rfl, fun _ h => nomatch h⟩
  | cs :: es, hf => by
    obtain ⟨l, h1, h2, h3⟩ := acts_list es fun x hx => hf x (List.mem_cons_of_mem _ hx)
    have h := hf cs List.mem_cons_self
    match cs, h.1, h.2 with
    | [v0, v1, v2, v3, v4, v5, v6], _, hv =>
      obtain ⟨k, rfl, -⟩ := fieldOk.int (v := v0) (hv 0 _ rfl) Try.underlying3
      obtain ⟨s, rfl, hs⟩ := fieldOk.str (v := v1) (hv 1 _ rfl) Try.underlying9
      obtain ⟨t, rfl, ht⟩ := fieldOk.str (v := v2) (hv 2 _ rfl) Try.underlying9
      obtain ⟨c, rfl, -⟩ := fieldOk.int (v := v3) (hv 3 _ rfl) Try.underlying2
      obtain ⟨r, rfl, -⟩ := fieldOk.int (v := v4) (hv 4 _ rfl) Try.underlying2
      obtain ⟨d, rfl, -⟩ := fieldOk.int (v := v5) (hv 5 _ rfl) Try.underlying2
      obtain ⟨p, rfl, -⟩ := fieldOk.int (v := v6) (hv 6 _ rfl) Try.underlying2
      refine ⟨⟨k, s, t, ⟨c, r, d, p⟩⟩ :: l, by simp [h1], ?_, fun x hx => ?_⟩
      · unfold acsC at h2 ⊢
        rw [List.flatMap_cons, List.flatten_cons, h2]
      · rcases List.mem_cons.1 hx with rfl | hx
        · exact ⟨hs, ht⟩
        · exact h3 x hx
theorem acts_of {w : World} {v : Value} {es : List (List Value)} (h : Row w v 7 es.length es.flatten) (hf : ∀ x ∈ es, Leaves Try.prog [3, 9, 9, 2, 2, 2, 2] x) : ∃ l, Acts w v l := by
  obtain ⟨l, h1, h2, h3⟩ := acts_list es hf
  exact ⟨l, by rw [h1, h2]; exact h, h3⟩
theorem acsC_get : ∀ (l : List Ac) {i : Nat} (hi : i < l.length) (j : Nat), j < 7 → (acsC l)[i * 7 + j]? = (l[i].c)[j]?
  | x :: l, 0, _, j, hj => by
    unfold acsC
    rw [List.flatMap_cons, Nat.zero_mul, Nat.zero_add, List.getElem?_append_left (by simpa using hj)]
    rfl
  | x :: l, i + 1, hi, j, hj => by
    unfold acsC
    rw [List.flatMap_cons, List.getElem?_append_right (by simp; omega), show (i + 1) * 7 + j - x.c.length = i * 7 + j from by simp; omega]
    exact acsC_get l (i := i) (by simp at hi; omega) j hj
theorem Acts.at {w : World} {p : Option Addr} {n c : Nat} {l : List Ac} (h : Acts w (.slice p n c) l) {i : Nat} (hi : i < l.length) :
    ∃ b o, p = some ⟨b, o, none⟩ ∧ ∀ j u, j < 7 → (l[i].c)[j]? = some u → w.cell? ⟨b, o + i * 7 + j, none⟩ = some u := by
  obtain ⟨⟨p', c', hv, h1, h2, h3, h4, h5, h6⟩, -⟩ := h
  simp only [Value.slice.injEq] at hv
  obtain ⟨rfl, rfl, rfl⟩ := hv
  rcases h6 with h6 | ⟨b, o, hp, ha⟩
  · rw [h6] at h3
    simp at h3
    omega
  · refine ⟨b, o, hp, fun j u hj hu => ?_⟩
    rw [Nat.add_assoc]
    exact ha _ _ (by rw [acsC_get l hi j hj]; exact hu)
theorem Acts.shape {w : World} {v : Value} {l : List Ac} (h : Acts w v l) : ∃ p c, v = .slice p l.length c ∧ l.length ≤ c ∧ c ≤ maxLen := by
  obtain ⟨p, c, hv, h1, h2, -⟩ := h.1
  exact ⟨p, c, hv, h1, h2⟩
theorem own_base {w : World} {base : Nat} {e : TypeId} {size : Nat} {v : Value} {n : Nat} {xs : List Value} (h : w.ownsRow base e size v n xs) {g : Nat} (hg : v.ownBlock = some g) : base ≤ g := by
  rcases h.2 with ⟨rfl, -⟩ | ⟨g', cap, cur, rfl, hb, -⟩
  · cases hg
  · cases hg
    exact hb
end Go.Proofs.Ytighcnecajgkpaa
namespace Go.Proofs.Ytighcnecajgkpaa
open Go.RowKit Go

/-- Q, but False at every way out -/
def Strict (Q : Exit → Act → World → Prop) : Exit → Act → World → Prop
  | .normal, a, w => Q .normal a w
  | _, _, _ => False
theorem Strict.normal {Q : Exit → Act → World → Prop} {a : Act} {w : World} (h : Q .normal a w) : Strict Q .normal a w := h
theorem Strict.imp {Q : Exit → Act → World → Prop} : ∀ (e : Exit) (a : Act) (w : World), Strict Q e a w → Q e a w := fun e a w h => by
  cases e <;> first | exact h | exact (h : False).elim
theorem Strict.noOut {Q : Exit → Act → World → Prop} : ¬ LetsOut (Strict Q) := fun ⟨_, _, h⟩ => h

section
variable {P : Program}
theorem pass_of_wp {o : Oper} {a : Act} {w : World} {K : Act → World → Prop} {Q : Exit → Act → World → Prop} (hp : passB o = true) (h : o.wp P a w K (Strict Q)) :
    ∃ v, (∀ w', (execOp a.eval o).run P w' = .ok (.value v) w') ∧ K (a.put o.dst v) w := by
  unfold passB at hp
  unfold Oper.wp execOp at h
  unfold execOp
  cases ho : o.op <;> rw [ho] at hp h <;> first | (cases hp; done) | skip
  case move x =>
    simp only [Sem.run_pure, Oper.upon] at h ⊢
    exact ⟨_, fun _ => rfl, h⟩
  case assign x =>
    simp only [Sem.run_pure, Oper.upon] at h ⊢
    exact ⟨_, fun _ => rfl, h⟩
  case extract t k =>
    simp only [Sem.run_bind] at h ⊢
    cases hr : (Instr.extract (a.eval t) k).run P w with
    | ok u w1 =>
      rw [hr] at h
      simp only [Result.andThen_ok, Sem.run_pure, Oper.upon] at h
      refine ⟨u, fun w' => ?_, ?_⟩
      · rw [(extract_run _ _ _ w' _ _ hr).2]
        rfl
      · rw [(extract_run _ _ _ w _ _ hr).1] at h
        exact h
    | halt x w1 =>
      rw [hr] at h
      exfalso
      cases x <;> simp [Result.andThen, Oper.upon, Strict] at h

/-- in this order each operation comes up alone, or only passes a value on and is apart from the others -/
def linB (ops : Array Oper) : List Nat → Array Bool → Bool
  | [], listed => (Region.ready .any ops listed).isEmpty
  | k :: r, listed => (decide (Region.ready .any ops listed = [k]) || ((Region.ready .any ops listed).contains k && Region.free .any ops listed k && (match ops[k]? with | some o => passB o | none => false))) && linB ops r (listed.setIfInBounds k true)
def pickOps (ops : Array Oper) : List Nat → Option (List Oper)
  | [] => some []
  | k :: r => match ops[k]?, pickOps ops r with
    | some o, some l => some (o :: l)
    | _, _ => none
theorem wpAny_lin {ops : Array Oper} {Q : Exit → Act → World → Prop} (hsel : Region.noSelect ops = true) : ∀ (ord : List Nat) (l : List Oper) (listed : Array Bool) (a : Act) (w : World), pickOps ops ord = some l → linB ops ord listed = true → wpList P ops (Strict Q) l a w → wpAny P .any ops (Strict Q) ord.length listed a w
  | [], l, listed, a, w, hp, hB, h => by
    simp only [pickOps, Option.some.injEq] at hp
    subst hp
    exact ⟨by simpa [linB] using hB, h⟩
  | k :: r, l, listed, a, w, hp, hB, h => by
    simp only [pickOps] at hp
    split at hp
    · next o l' ho hl' =>
      simp only [Option.some.injEq] at hp
      subst hp
      simp only [linB, Bool.and_eq_true, Bool.or_eq_true, decide_eq_true_eq] at hB
      obtain ⟨hk, hB'⟩ := hB
      have ih := fun a' w' => wpAny_lin (Q := Q) hsel r l' (listed.setIfInBounds k true) a' w' hl' hB'
      rcases hk with hk | ⟨⟨hr, hf⟩, hpass⟩
      · refine ⟨fun h0 => (by rw [hk] at h0; cases h0), fun i hi => ?_⟩
        rw [hk] at hi
        have hik : i = k := by simpa using hi
        subst hik
        refine wpOp_mono (fun a' w' h' => ih a' w' h') ?_
        unfold wpOp
        rw [ho]
        exact h
      · rw [ho] at hpass
        have hY : ∃ v, Yields P ops o v a ∧ wpList P ops (Strict Q) l' (a.put o.dst v) w := by
          unfold wpList at h
          by_cases hw : Region.wanted o (yielded ops a.tmps) = true
          · rw [if_pos hw] at h
            rcases h with h | ⟨-, h⟩
            · obtain ⟨v, h1, h2⟩ := pass_of_wp hpass h
              exact ⟨v, .inl ⟨hw, h1⟩, h2⟩
            · exact absurd h Strict.noOut
          · rw [if_neg hw] at h
            exact ⟨undef, .inr ⟨by simpa using hw, rfl⟩, h⟩
        obtain ⟨v, hy, hK⟩ := hY
        exact wpAny_first ho (Region.noSelect_spec hsel) (fun _ _ _ h => h.elim) _ listed a w (Region.free_spec ho hf) (by simpa using hr) hy (ih _ _ hK)
    · cases hp

/-- the region as one that draws no order -/
theorem wp_region_lin {id : Nat} {Q : Exit → Act → World → Prop} {a : Act} {w : World} {L : Array Oper} {l : List Oper} (ord : List Nat) (hm : P.follows .mixedOrders = true) (hs : Region.noSelect L = true) (hn : ord.length = L.size) (hB : linB L ord (Array.replicate L.size false) = true) (hl : pickOps L ord = some l)
    (h : wpList P L (Strict Q) l a w.drew) : (Code.region id L true).wp P Q a w := by
  refine Code.wp_mono Strict.imp (wp_region_any hm ?_)
  rw [← hn]
  have := wpAny_lin (Q := Q) hs ord l (Array.replicate L.size false) a w.drew hl hB h
  rw [← hn] at this
  exact this

/-! A stretch of operations that are not wanted, in between. -/
theorem upon_strict {X Y : Exit → Act → World → Prop} {o : Oper} {a : Act} {K : Act → World → Prop} (r : Result Next) (h : o.upon P a K (Strict X) r) : o.upon P a K (Strict Y) r := by
  have hl : LetsOut (Strict X) → LetsOut (Strict Y) := fun h => absurd h Strict.noOut
  cases r with
  | ok nx w' =>
    cases nx <;> simp only [Oper.upon] at h ⊢ <;>
      first
        | exact h
        | exact Calls.mono h (fun e w'' he => by cases e <;> first | exact he | exact hl he)
  | halt x w' => cases x <;> simp only [Oper.upon] at h ⊢ <;> exact h
theorem wpOp_strict {ops : Array Oper} {X Y : Exit → Act → World → Prop} {i : Nat} {K : Act → World → Prop} {a : Act} {w : World} (h : wpOp P ops (Strict X) i K a w) : wpOp P ops (Strict Y) i K a w := by
  unfold wpOp at *
  split
  · next ho => rw [ho] at h; exact h
  · next o ho =>
    rw [ho] at h
    simp only at h
    split
    · next hw =>
      rw [if_pos hw] at h
      exact h.imp (upon_strict _) (fun ⟨h1, h2⟩ => ⟨h1, absurd h2 Strict.noOut⟩)
    · next hw => rw [if_neg hw] at h; exact h
/-- the list of what has come up behind such a walk -/
def linS (ops : Array Oper) : List Nat → Array Bool → Option (Array Bool)
  | [], listed => some listed
  | k :: r, listed => if (decide (Region.ready .any ops listed = [k]) || ((Region.ready .any ops listed).contains k && Region.free .any ops listed k && (match ops[k]? with | some o => passB o | none => false))) = true then linS ops r (listed.setIfInBounds k true) else none
def deadS (ops : Array Oper) : List Nat → Array Bool → Option (Array Bool)
  | [], listed => some listed
  | k :: r, listed => if ((Region.ready .any ops listed).contains k && Region.free .any ops listed k) = true then deadS ops r (listed.setIfInBounds k true) else none
def wpDead (ops : Array Oper) (K : Act → World → Prop) : List Oper → Act → World → Prop
  | [], a, w => K a w
  | o :: r, a, w => Region.wanted o (yielded ops a.tmps) = false ∧ wpDead ops K r (a.put o.dst undef) w
theorem wpAny_linS {ops : Array Oper} {Q X : Exit → Act → World → Prop} {g : Nat} {fin : Array Bool} (hsel : Region.noSelect ops = true) (hK : ∀ a w, X .normal a w → wpAny P .any ops (Strict Q) g fin a w) :
    ∀ (ord : List Nat) (l : List Oper) (listed : Array Bool) (a : Act) (w : World), pickOps ops ord = some l → linS ops ord listed = some fin → wpList P ops (Strict X) l a w → wpAny P .any ops (Strict Q) (ord.length + g) listed a w
  | [], l, listed, a, w, hp, hB, h => by
    simp only [pickOps, Option.some.injEq] at hp
    simp only [linS, Option.some.injEq] at hB
    subst hp hB
    rw [List.length_nil, Nat.zero_add]
    exact hK a w h
  | k :: r, l, listed, a, w, hp, hB, h => by
    simp only [pickOps] at hp
    split at hp
    · next o l' ho hl' =>
      simp only [Option.some.injEq] at hp
      subst hp
      simp only [linS, ho] at hB
      split at hB
      · next hk =>
        simp only [Bool.and_eq_true, Bool.or_eq_true, decide_eq_true_eq] at hk
        have ih := fun a' w' => wpAny_linS (Q := Q) hsel hK r l' (listed.setIfInBounds k true) a' w' hl' hB
        rw [show (k :: r).length + g = (r.length + g) + 1 from by simp; omega]
        rcases hk with hk | ⟨⟨hr, hf⟩, hpass⟩
        · refine ⟨fun h0 => (by rw [hk] at h0; cases h0), fun i hi => ?_⟩
          rw [hk] at hi
          have hik : i = k := by simpa using hi
          subst hik
          refine wpOp_mono (fun a' w' h' => ih a' w' h') (wpOp_strict (X := X) ?_)
          unfold wpOp
          rw [ho]
          exact h
        · have hY : ∃ v, Yields P ops o v a ∧ wpList P ops (Strict X) l' (a.put o.dst v) w := by
            unfold wpList at h
            by_cases hw : Region.wanted o (yielded ops a.tmps) = true
            · rw [if_pos hw] at h
              rcases h with h | ⟨-, h⟩
              · obtain ⟨v, h1, h2⟩ := pass_of_wp hpass h
                exact ⟨v, .inl ⟨hw, h1⟩, h2⟩
              · exact absurd h Strict.noOut
            · rw [if_neg hw] at h
              exact ⟨undef, .inr ⟨by simpa using hw, rfl⟩, h⟩
          obtain ⟨v, hy, hK'⟩ := hY
          exact wpAny_first ho (Region.noSelect_spec hsel) (fun _ _ _ h => h.elim) _ listed a w (Region.free_spec ho hf) (by simpa using hr) hy (ih _ _ hK')
      · cases hB
    · cases hp
theorem wpAny_deadS {ops : Array Oper} {Q : Exit → Act → World → Prop} {K : Act → World → Prop} {g : Nat} {fin : Array Bool} (hsel : Region.noSelect ops = true) (hK : ∀ a w, K a w → wpAny P .any ops (Strict Q) g fin a w) :
    ∀ (ord : List Nat) (l : List Oper) (listed : Array Bool) (a : Act) (w : World), pickOps ops ord = some l → deadS ops ord listed = some fin → wpDead ops K l a w → wpAny P .any ops (Strict Q) (ord.length + g) listed a w
  | [], l, listed, a, w, hp, hB, h => by
    simp only [pickOps, Option.some.injEq] at hp
    simp only [deadS, Option.some.injEq] at hB
    subst hp hB
    rw [List.length_nil, Nat.zero_add]
    exact hK a w h
  | k :: r, l, listed, a, w, hp, hB, h => by
    simp only [pickOps] at hp
    split at hp
    · next o l' ho hl' =>
      simp only [Option.some.injEq] at hp
      subst hp
      simp only [deadS] at hB
      split at hB
      · next hk =>
        simp only [Bool.and_eq_true] at hk
        rw [show (k :: r).length + g = (r.length + g) + 1 from by simp; omega]
        exact wpAny_first ho (Region.noSelect_spec hsel) (fun _ _ _ h => h.elim) _ listed a w (Region.free_spec ho hk.2) (by simpa using hk.1) (.inr ⟨h.1, rfl⟩) (wpAny_deadS hsel hK r l' _ _ w hl' hB h.2)
      · cases hB
    · cases hp
/-- what stands behind the first stretch: the operations that are not wanted, then the last stretch -/
def DeadQ (P : Program) (ops : Array Oper) (Q : Exit → Act → World → Prop) (ld l2 : List Oper) : Exit → Act → World → Prop := fun _ a w => wpDead ops (fun a' w' => wpList P ops (Strict Q) l2 a' w') ld a w
theorem DeadQ.start {ops : Array Oper} {Q : Exit → Act → World → Prop} {ld l2 : List Oper} {a : Act} {w : World} (h : wpDead ops (fun a' w' => wpList P ops (Strict Q) l2 a' w') ld a w) : Strict (DeadQ P ops Q ld l2) .normal a w := h
theorem wpDead.cons {ops : Array Oper} {K : Act → World → Prop} {o : Oper} {r : List Oper} {a : Act} {w : World} (h1 : Region.wanted o (yielded ops a.tmps) = false) (h2 : wpDead ops K r (a.put o.dst undef) w) : wpDead ops K (o :: r) a w := ⟨h1, h2⟩
theorem wpDead.nil {ops : Array Oper} {K : Act → World → Prop} {a : Act} {w : World} (h : K a w) : wpDead ops K [] a w := h
theorem wp_region_dead {id : Nat} {Q : Exit → Act → World → Prop} {a : Act} {w : World} {L : Array Oper} {l1 ld l2 : List Oper} {f1 f2 : Array Bool} (o1 od o2 : List Nat) (hm : P.follows .mixedOrders = true) (hs : Region.noSelect L = true) (hn : o1.length + (od.length + o2.length) = L.size)
    (h1 : linS L o1 (Array.replicate L.size false) = some f1) (hd : deadS L od f1 = some f2) (h2 : linB L o2 f2 = true) (e1 : pickOps L o1 = some l1) (ed : pickOps L od = some ld) (e2 : pickOps L o2 = some l2)
    (h : wpList P L (Strict (DeadQ P L Q ld l2)) l1 a w.drew) : (Code.region id L true).wp P Q a w := by
  refine Code.wp_mono Strict.imp (wp_region_any hm ?_)
  have := wpAny_linS (Q := Q) (X := DeadQ P L Q ld l2) (g := od.length + o2.length) (fin := f1) hs (fun a1 w1 hd1 =>
    wpAny_deadS (Q := Q) (K := fun a' w' => wpList P L (Strict Q) l2 a' w') (g := o2.length) (fin := f2) hs (fun a2 w2 h9 => wpAny_lin hs o2 l2 f2 a2 w2 e2 h2 h9) od ld f1 a1 w1 ed hd hd1) o1 l1 _ a w.drew e1 h1 h
  rw [hn] at this
  exact this
end
end Go.Proofs.Ytighcnecajgkpaa
