/- The queue in memory as the rows in the order in which they would be asked: Put, Take, Peek, Drop, Has, Len. -/
import Derived.Test.YtlemfbgmhjklaaaQDrop
import Derived.Test.YtlemfbgmhjklaaaQMid
namespace Go.Proofs.Ytlemfbgmhjklaaa
open Go.RowKit

/-- nothing but blocks of P has turned of what was there -/
def Frp (P : Nat → Prop) (w w' : World) : Prop := ∃ S, Fr S w w' ∧ ∀ x ∈ S, P x
theorem Frp.of_below {w w' : World} (h : Below w.heap.size w w') (P : Nat → Prop) : Frp P w w' := ⟨[], Fr.of_below h [], by simp⟩
theorem Frp.size {P : Nat → Prop} {w w' : World} (h : Frp P w w') : w.heap.size ≤ w'.heap.size := by obtain ⟨S, h, -⟩ := h; exact h.size
theorem Frp.mono {P Q : Nat → Prop} {w w' : World} (h : Frp P w w') (hp : ∀ k, P k → Q k) : Frp Q w w' := by
  obtain ⟨S, h, h2⟩ := h
  exact ⟨S, h, fun x hx => hp x (h2 x hx)⟩
theorem Frp.trans {P Q : Nat → Prop} {a b c : World} (h : Frp P a b) (k : Frp Q b c) (hq : ∀ x, Q x → P x ∨ a.heap.size ≤ x) : Frp P a c := by
  obtain ⟨S, h1, h2⟩ := h
  obtain ⟨S2, h3, h4⟩ := k
  classical
  refine ⟨S ++ S2.filter (fun x => decide (P x)), (h1.mono (fun x hx => List.mem_append_left _ hx)).trans h3 (fun x hx => ?_), fun x hx => ?_⟩
  · rcases hq x (h4 x hx) with h5 | h5
    · exact .inl (List.mem_append_right _ (List.mem_filter.2 ⟨hx, by simpa using h5⟩))
    · exact .inr h5
  · rcases List.mem_append.1 hx with hx | hx
    · exact h2 x hx
    · simpa using (List.mem_filter.1 hx).2
theorem Frp.below {P : Nat → Prop} {n : Nat} {w w' : World} (h : Frp P w w') (hp : ∀ k, P k → n ≤ k) (hn : n ≤ w.heap.size) : Below n w w' := by
  obtain ⟨S, h, h2⟩ := h
  exact h.below (fun x hx => hp x (h2 x hx)) hn

def Qm (w : World) (b : Nat) (P : Nat → Prop) (N : Int) (M : List MRow) : Prop :=
  ∃ T v R, Qu w b T v R ∧ SepR R ∧ (∀ k ∈ fpW b v, P k) ∧ (∀ r ∈ R, ∀ k ∈ fpR r, P k) ∧ QI T (R.map PRow.a) ∧ Md (R.map PRow.a) M ∧ MI M ∧ 0 ≤ T ∧ T ≤ N

theorem Qm.mi {w : World} {b : Nat} {P : Nat → Prop} {N : Int} {M : List MRow} (h : Qm w b P N M) : MI M := by
  obtain ⟨T, v, R, -, -, -, -, -, -, h, -⟩ := h
  exact h
theorem Qm.kept {w w' : World} {b : Nat} {P : Nat → Prop} {N : Int} {M : List MRow} (h : Qm w b P N M) (hb : Below w.heap.size w w') : Qm w' b P N M := by
  obtain ⟨T, v, R, h, rest⟩ := h
  exact ⟨T, v, R, h.kept hb, rest⟩
theorem Qm.grow {w : World} {b : Nat} {P : Nat → Prop} {N N' : Int} {M : List MRow} (h : Qm w b P N M) (hn : N ≤ N') : Qm w b P N' M := by
  obtain ⟨T, v, R, h1, h2, h3, h4, h5, h6, h7, h8, h9⟩ := h
  exact ⟨T, v, R, h1, h2, h3, h4, h5, h6, h7, h8, Int.le_trans h9 hn⟩
/-- its blocks are among those of P, and were made -/
theorem Qm.mono {w : World} {b : Nat} {P Q : Nat → Prop} {N : Int} {M : List MRow} (h : Qm w b P N M) (hp : ∀ k, P k → k < w.heap.size → Q k) : Qm w b Q N M := by
  obtain ⟨T, v, R, h1, h2, h3, h4, h5, h6, h7, h8, h9⟩ := h
  refine ⟨T, v, R, h1, h2, fun k hk => hp k (h3 k hk) ?_, fun r hr k hk => hp k (h4 r hr k hk) ((h1.rows r hr).1.lt hk), h5, h6, h7, h8, h9⟩
  rcases mem_fpW.1 hk with rfl | hk
  · exact h1.blk.lt
  · exact own_hi h1.own hk
theorem Qm.fr {S : List Nat} {w w' : World} {b : Nat} {P : Nat → Prop} {N : Int} {M : List MRow} (h : Qm w b P N M) (hf : Fr S w w') (hs : ∀ k ∈ S, ¬ P k) : Qm w' b P N M := by
  obtain ⟨T, v, R, h1, h2, h3, h4, rest⟩ := h
  exact ⟨T, v, R, h1.fr hf (fun k hk hm => hs k hm (h3 k hk)) (fun r hr k hk hm => hs k hm (h4 r hr k hk)), h2, h3, h4, rest⟩

theorem idx_isSome {ps : List Pend} {t : Tid} : (idx ps t).isSome = true ↔ ∃ p ∈ ps, p.task = t := by
  unfold idx
  rw [List.findIdx?_isSome]
  simp
theorem findR_isSome {R : List PRow} {t : Tid} : (findR R t).isSome = true ↔ ∃ r ∈ R, ∃ p ∈ r.a.ps, p.task = t := by
  unfold findR
  rw [List.findIdx?_isSome]
  simp only [List.any_eq_true]
  constructor
  · rintro ⟨r, hr, h⟩; exact ⟨r, hr, idx_isSome.1 h⟩
  · rintro ⟨r, hr, h⟩; exact ⟨r, hr, idx_isSome.2 h⟩
theorem Md.fl {L : List ARow} {M : List MRow} (h : Md L M) : (L.flatMap (·.ps)).Perm (flatM M) := h.flat
theorem findR_has {R : List PRow} {M : List MRow} (h : Md (R.map PRow.a) M) (t : Tid) : (findR R t).isSome = hasM M t := by
  rw [Bool.eq_iff_iff, findR_isSome, hasM_iff]
  have hp := h.fl
  rw [List.flatMap_map] at hp
  constructor
  · rintro ⟨r, hr, p, hp2, e⟩
    exact ⟨p, hp.mem_iff.1 (List.mem_flatMap.2 ⟨r, hr, hp2⟩), e⟩
  · rintro ⟨p, hp2, e⟩
    obtain ⟨r, hr, h3⟩ := List.mem_flatMap.1 (hp.mem_iff.2 hp2)
    exact ⟨r, hr, p, h3, e⟩
theorem rowOf_key {R : List PRow} {M : List MRow} (h : Md (R.map PRow.a) M) (k : Key) : (rowOf R k).isSome = keyM M k := by
  have hp := h.keys
  rw [List.map_map] at hp
  rw [Bool.eq_iff_iff, keyM_iff]
  unfold rowOf
  rw [List.findIdx?_isSome]
  simp only [List.any_eq_true, decide_eq_true_eq]
  constructor
  · rintro ⟨r, hr, e⟩
    have := hp.mem_iff.1 (List.mem_map.2 ⟨r, hr, rfl⟩)
    obtain ⟨m, hm, e2⟩ := List.mem_map.1 this
    exact ⟨m, hm, e2.trans e⟩
  · rintro ⟨m, hm, e⟩
    have := hp.mem_iff.2 (List.mem_map.2 ⟨m, hm, rfl⟩)
    obtain ⟨r, hr, e2⟩ := List.mem_map.1 this
    exact ⟨r, hr, e2.trans e⟩
theorem isH_rlt (R : List PRow) (n : Nat) : Hp.IsH rlt R n ↔ Hp.IsH alt (R.map PRow.a) n := (isH_map PRow.a alt R n).symm
theorem rlt_ok : Hp.Ok rlt := ⟨fun x y h => alt_ok.asym _ _ h, fun x y z h k => alt_ok.tr _ _ _ h k⟩
theorem nodup_keys {R : List PRow} {M : List MRow} (h : Md (R.map PRow.a) M) (hm : MI M) : ((R.map PRow.a).map (·.key)).Nodup := h.keys.nodup_iff.2 hm.keys

theorem lenR_flat {R : List PRow} {M : List MRow} (h : Md (R.map PRow.a) M) : lenR R = (flatM M).length := by
  have := h.fl.length_eq
  rw [List.flatMap_map] at this
  exact this
theorem flatM_ge : ∀ {M : List MRow}, (∀ m ∈ M, m.2 ≠ []) → M.length ≤ (flatM M).length
  | [], _ => Nat.zero_le _
  | m :: M, h => by
    have h1 := flatM_ge fun x hx => h x (List.mem_cons_of_mem m hx)
    have h2 : 0 < m.2.length := List.length_pos_iff.2 (h m List.mem_cons_self)
    unfold flatM at *
    rw [List.flatMap_cons, List.length_append, List.length_cons]
    omega
theorem Md.small {R : List PRow} {M : List MRow} (h : Md (R.map PRow.a) M) (hm : MI M) : R.length ≤ (flatM M).length ∧ ∀ r ∈ R, r.a.ps.length ≤ (flatM M).length := by
  refine ⟨?_, fun r hr => ?_⟩
  · have h1 := h.len
    rw [List.length_map] at h1
    rw [h1]
    exact flatM_ge hm.ne
  · have h1 := h.mem (List.mem_map.2 ⟨r, hr, rfl⟩)
    have h2 : ((strip r.a).2).Sublist (M.flatMap (·.2)) := by
      rw [List.flatMap_def]
      exact List.sublist_flatten_of_mem (List.mem_map.2 ⟨_, h1, rfl⟩)
    exact h2.length_le

instance (p : Pend) : Decidable (badP p) := by unfold badP; infer_instance
/-- what Put answers, and what it leaves -/
def putE (M : List MRow) (p : Pend) : Int := if badP p then 2 else if hasM M p.task = true then 7 else 0
def putS (M : List MRow) (p : Pend) : List MRow := if badP p then M else if hasM M p.task = true then M else putM M p

theorem map_set_a (R : List PRow) (i : Nat) (r : PRow) : (R.set i r).map PRow.a = (R.map PRow.a).set i r.a := List.map_set ..

theorem qput_any (b : Nat) (P : Nat → Prop) (N : Int) (M : List MRow) (p : Pend) (w : World) (h : Qm w b P N M) (hN : N ≤ 4611686018427387904) (hl : (flatM M).length ≤ 800000) :
    Calls Try.prog 10 #[ptr b, pval p] w fun e w' => e = .returned (.int .i64 (putE M p)) ∧ Qm w' b (fun k => P k ∨ w.heap.size ≤ k) (N + 1) (putS M p) ∧ Frp P w w' := by
  have hQ := h
  obtain ⟨T, v, R, h1, h2, h3, h4, h5, h6, h7, h8, h9⟩ := h
  obtain ⟨s1, s2⟩ := h6.small h7
  unfold putE putS
  by_cases hb : badP p
  · rw [if_pos hb, if_pos hb]
    refine (put_bad b T v R p w h1 hb).mono ?_
    rintro e w' ⟨rfl, hbl⟩
    exact ⟨rfl, ((hQ.kept hbl).mono (fun k hk _ => .inl hk)).grow (by omega), Frp.of_below hbl P⟩
  · rw [if_neg hb, if_neg hb]
    have ho := okP hb
    cases hq : hasM M p.task
    · rw [if_neg (by simp), if_neg (by simp)]
      refine (put_go b T v R p w h1 h2 ho (by rw [findR_has h6]; exact hq) h8 (by omega) (by omega) (fun r hr => by have := s2 r hr; omega)).mono ?_
      rintro e w' ⟨rfl, hp⟩
      refine ⟨rfl, ?_⟩
      have hband : 0 ≤ p.band ∧ p.band ≤ 3 := ⟨by have := ho.b0; omega, by have := ho.b3; omega⟩
      rcases hp with ⟨i, r, v1, hi, hr, hq1, hq2, hf, hn⟩ | ⟨hi, x, v', hx, hxn, hq1, hq2, hf, hn⟩
      · have hk : keyM M p.key = true := by rw [← rowOf_key h6, hi]; rfl
        have hrk : r.a.key = p.key := by
          unfold rowOf at hi
          rw [List.findIdx?_eq_some_iff_getElem] at hi
          obtain ⟨hil, h10, -⟩ := hi
          rw [List.getElem?_eq_getElem hil] at hr
          simp only [Option.some.injEq] at hr
          rw [hr] at h10
          simpa using h10
        have he : (R.set i ⟨r.g, v1, ⟨r.a.key, r.a.turn, r.a.ps ++ [p]⟩⟩).map PRow.a = (R.map PRow.a).map (upd p.key (· ++ [p])) := by
          rw [map_set_a]
          have := set_upd (· ++ [p]) (L := R.map PRow.a) (i := i) (r := r.a) (nodup_keys h6 h7) (by rw [List.getElem?_map, hr]; rfl)
          rw [hrk] at this
          rw [← this, hrk]
        have hput : putM M p = M.map (updM p.key (· ++ [p])) := by unfold putM; rw [if_pos hk]
        refine ⟨⟨T, v, _, hq1, hq2, fun k hk => .inl (h3 k hk), fun s hs k hk => ?_, by rw [he]; exact h5.upd _ _, by rw [he, hput]; exact h6.upd _ _, h7.put hq hband, h8, by omega⟩, ⟨_, hf, fun k hk => h4 r (List.mem_of_getElem? hr) k hk⟩⟩
        have : s = ⟨r.g, v1, ⟨r.a.key, r.a.turn, r.a.ps ++ [p]⟩⟩ ∨ s ∈ R := by
          rcases List.mem_or_eq_of_mem_set hs with h | h
          · exact .inr h
          · exact .inl h
        rcases this with rfl | hs
        · rcases mem_fpR.1 hk with rfl | hk
          · exact .inl (h4 r (List.mem_of_getElem? hr) _ (mem_fpR.2 (.inl rfl)))
          · rcases hn k hk with h | h
            · exact .inl (h4 r (List.mem_of_getElem? hr) _ (mem_fpR.2 (.inr h)))
            · exact .inr h
        · exact .inl (h4 s hs k hk)
      · have hk : ¬ keyM M p.key = true := by rw [← rowOf_key h6, hi]; simp
        have hput : putM M p = insM M (p.key, [p]) := by unfold putM; rw [if_neg hk]
        have hpm : ((Hp.push rlt R x).map PRow.a).Perm (x.a :: R.map PRow.a) := (Hp.push_perm rlt R x).map PRow.a
        have hh : Hp.IsH alt ((Hp.push rlt R x).map PRow.a) ((Hp.push rlt R x).map PRow.a).length := by
          rw [List.length_map, ← isH_rlt]
          exact Hp.push_heap rlt_ok (by rw [isH_rlt]; have := h5.heap; rwa [List.length_map] at this) x
        have ht : x.a.turn = T + 1 := by rw [hx]
        refine ⟨⟨T + 1, v', _, hq1, hq2, fun k hk => ?_, fun s hs k hk => ?_, QI.ins h5.turn h5.turns ht hpm hh, ?_, h7.put hq hband, by omega, by omega⟩, ⟨_, hf, fun k hk => h3 k hk⟩⟩
        · rcases mem_fpW.1 hk with rfl | hk
          · exact .inl (h3 _ (mem_fpW.2 (.inl rfl)))
          · rcases hn k hk with h | h
            · exact .inl (h3 _ (mem_fpW.2 (.inr h)))
            · exact .inr h
        · rcases List.mem_cons.1 ((Hp.push_perm rlt R x).mem_iff.1 hs) with rfl | hs
          · exact .inr (hxn k hk)
          · exact .inl (h4 s hs k hk)
        · rw [hput]
          have := Md.ins h6 h5.turn ht hpm
          rw [hx] at this
          exact this
    · rw [if_pos rfl, if_pos rfl]
      refine (put_there b T v R p w h1 ho (by rw [findR_has h6]; exact hq)).mono ?_
      rintro e w' ⟨rfl, hbl⟩
      exact ⟨rfl, ((hQ.kept hbl).mono (fun k hk _ => .inl hk)).grow (by omega), Frp.of_below hbl P⟩

theorem qhas_any (b : Nat) (P : Nat → Prop) (N : Int) (M : List MRow) (t : Tid) (w : World) (h : Qm w b P N M) :
    Calls Try.prog 25 #[ptr b, tval t] w fun e w' => e = .returned (.bool (hasM M t)) ∧ Below w.heap.size w w' := by
  obtain ⟨T, v, R, h1, h2, h3, h4, h5, h6, -⟩ := h
  rw [← findR_has h6]
  exact has_any b T v R t w h1
theorem qlen_any (b : Nat) (P : Nat → Prop) (N : Int) (M : List MRow) (w : World) (h : Qm w b P N M) (hl : (flatM M).length ≤ 800000) :
    Calls Try.prog 19 #[ptr b] w fun e w' => e = .returned (.int .i64 ((flatM M).length : Nat)) ∧ w = w' := by
  obtain ⟨T, v, R, h1, h2, h3, h4, h5, h6, -⟩ := h
  rw [← lenR_flat h6] at hl ⊢
  exact len_any b T v R w h1 (by omega)
/-- what Take and Peek answer -/
def headV (M : List MRow) : Value := match headM M with
  | some p => .tuple #[pval p, .bool true]
  | none => .tuple #[pzv, .bool false]
theorem qpeek_any (b : Nat) (P : Nat → Prop) (N : Int) (M : List MRow) (w : World) (h : Qm w b P N M) :
    Calls Try.prog 18 #[ptr b] w fun e w' => e = .returned (headV M) ∧ Below w.heap.size w w' := by
  obtain ⟨T, v, R, h1, h2, h3, h4, h5, h6, h7, -⟩ := h
  cases R with
  | nil =>
    have : M = [] := Md.none h6
    subst this
    exact peek_none b T v w h1
  | cons r R =>
    obtain ⟨M', rfl, -⟩ := Md.first (r := r.a) (L := R.map PRow.a) h6 h5
    have hne := h7.ne _ List.mem_cons_self
    cases hp : r.a.ps with
    | nil => exact absurd hp hne
    | cons p tl =>
      have e : headV (strip r.a :: M') = .tuple #[pval p, .bool true] := by unfold headV headM strip; rw [hp]; rfl
      rw [e]
      exact peek_some b T v r R p tl w h1 hp
end Go.Proofs.Ytlemfbgmhjklaaa
