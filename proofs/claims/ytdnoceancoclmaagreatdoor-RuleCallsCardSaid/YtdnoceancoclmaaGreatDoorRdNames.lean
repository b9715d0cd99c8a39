/- RdNames. -/
import Derived.Test.YtdnoceancoclmaaGreatDoorM16
import Derived.Lib.SlicesCompact
namespace Go.Proofs.YtdnoceancoclmaaGreatDoor.Ru

theorem lt_less : ∀ a b : List UInt8, Op.bytesLess a b = decide (a < b)
  | [], [] => by simp [Op.bytesLess]
  | [], _ :: _ => by simp [Op.bytesLess]
  | _ :: _, [] => by simp [Op.bytesLess]
  | x :: a, y :: b => by
    have h := lt_less a b
    unfold Op.bytesLess
    rw [h]
    rw [Bool.eq_iff_iff]
    simp only [Bool.or_eq_true, decide_eq_true_eq, Bool.and_eq_true, beq_iff_eq, List.cons_lt_cons_iff]
theorem lt_irr (a : List UInt8) : ¬ a < a := List.lt_irrefl a
theorem lt_tri (a b : List UInt8) : a < b ∨ a = b ∨ b < a := by
  rcases List.le_total a b with h | h
  · by_cases e : a = b
    · exact .inr (.inl e)
    · left
      rcases Classical.em (a < b) with g | g
      · exact g
      · exact absurd (List.le_antisymm h (List.not_lt.1 g)) e
  · by_cases e : a = b
    · exact .inr (.inl e)
    · right; right
      rcases Classical.em (b < a) with g | g
      · exact g
      · exact absurd (List.le_antisymm (List.not_lt.1 g) h) e
def Rising (l : List (List UInt8)) : Prop := l.Pairwise (· < ·)
/-- two rising lists of the same are the same -/
theorem rising_ext : ∀ {l l' : List (List UInt8)}, Rising l → Rising l' → (∀ x, x ∈ l ↔ x ∈ l') → l = l'
  | [], [], _, _, _ => rfl
  | [], y :: l', _, _, h => absurd ((h y).2 (by simp)) (by simp)
  | x :: l, [], _, _, h => absurd ((h x).1 (by simp)) (by simp)
  | x :: l, y :: l', hl, hl', h => by
    unfold Rising at *
    rw [List.pairwise_cons] at hl hl'
    have e : x = y := by
      rcases List.mem_cons.1 ((h x).1 (by simp)) with g | g
      · exact g
      · rcases List.mem_cons.1 ((h y).2 (by simp)) with g' | g'
        · exact g'.symm
        · exact absurd (List.lt_trans (hl.1 y g') (hl'.1 x g)) (lt_irr x)
    subst e
    have : l = l' := rising_ext hl.2 hl'.2 fun z => by
      constructor
      · intro hz
        rcases List.mem_cons.1 ((h z).1 (List.mem_cons_of_mem _ hz)) with g | g
        · subst g; exact absurd (hl.1 z hz) (lt_irr z)
        · exact g
      · intro hz
        rcases List.mem_cons.1 ((h z).2 (List.mem_cons_of_mem _ hz)) with g | g
        · subst g; exact absurd (hl'.1 z hz) (lt_irr z)
        · exact g
    rw [this]
/-- where a name comes in -/
def nmI (out : List (List UInt8)) (s : List UInt8) : Nat := (out.takeWhile (fun o => Op.bytesLess o s)).length
def addN (out : List (List UInt8)) (s : List UInt8) : List (List UInt8) := if s ≠ [] ∧ out[nmI out s]? ≠ some s then out.take (nmI out s) ++ [s] ++ out.drop (nmI out s) else out
def namesD (L : List Nd) : List (List UInt8) := L.foldl (fun o n => addN o n.nm) []
theorem nmI_le (out : List (List UInt8)) (s : List UInt8) : nmI out s ≤ out.length := (List.takeWhile_sublist _).length_le
theorem nmI_lt : ∀ {out : List (List UInt8)} {s : List UInt8} {j : Nat}, j < nmI out s → ∃ o, out[j]? = some o ∧ o < s
  | [], _, j, h => absurd h (by simp [nmI])
  | o :: out, s, j, h => by
    unfold nmI at h
    rw [List.takeWhile_cons] at h
    cases hc : Op.bytesLess o s
    · rw [hc] at h; simp at h
    · rw [hc] at h
      simp only [if_true, List.length_cons] at h
      cases j with
      | zero => exact ⟨o, rfl, by rw [lt_less] at hc; exact of_decide_eq_true hc⟩
      | succ j => exact nmI_lt (out := out) (j := j) (by unfold nmI; omega)
theorem nmI_at : ∀ {out : List (List UInt8)} {s o : List UInt8}, out[nmI out s]? = some o → ¬ o < s
  | [], _, _, h => by simp [nmI] at h
  | p :: out, s, o, h => by
    unfold nmI at h
    rw [List.takeWhile_cons] at h
    cases hc : Op.bytesLess p s
    · rw [hc] at h
      simp at h
      subst h
      rw [lt_less] at hc
      exact of_decide_eq_false hc
    · rw [hc] at h
      simp only [if_true, List.length_cons, List.getElem?_cons_succ] at h
      exact nmI_at (out := out) h
theorem take_lt {out : List (List UInt8)} {s x : List UInt8} (h : x ∈ out.take (nmI out s)) : x < s := by
  obtain ⟨j, hj, rfl⟩ := List.getElem_of_mem h
  rw [List.length_take] at hj
  obtain ⟨o, h1, h2⟩ := nmI_lt (out := out) (s := s) (j := j) (by omega)
  rw [List.getElem_take]
  rw [List.getElem?_eq_getElem (by omega)] at h1
  rw [Option.some.inj h1]
  exact h2
theorem drop_gt {out : List (List UInt8)} {s x : List UInt8} (hr : Rising out) (hn : out[nmI out s]? ≠ some s) (h : x ∈ out.drop (nmI out s)) : s < x := by
  obtain ⟨j, hj, rfl⟩ := List.getElem_of_mem h
  rw [List.length_drop] at hj
  rw [List.getElem_drop]
  have hk : nmI out s < out.length := by omega
  have h0 : out[nmI out s]? = some out[nmI out s] := List.getElem?_eq_getElem hk
  have h1 : ¬ out[nmI out s] < s := nmI_at h0
  have h2 : out[nmI out s] ≠ s := fun e => hn (by rw [h0, e])
  have h3 : s < out[nmI out s] := by
    rcases lt_tri s out[nmI out s] with g | g | g
    · exact g
    · exact absurd g.symm h2
    · exact absurd g h1
  cases j with
  | zero => exact h3
  | succ j => exact List.lt_trans h3 (List.pairwise_iff_getElem.1 hr _ _ hk (by omega) (by omega))
theorem addN_ok {out : List (List UInt8)} (hr : Rising out) (s : List UInt8) : Rising (addN out s) ∧ ∀ x, x ∈ addN out s ↔ x ∈ out ∨ (x = s ∧ s ≠ []) := by
  unfold addN
  by_cases hc : s ≠ [] ∧ out[nmI out s]? ≠ some s
  · rw [if_pos hc]
    have hsplit : out.take (nmI out s) ++ out.drop (nmI out s) = out := List.take_append_drop _ _
    refine ⟨?_, fun x => ?_⟩
    · unfold Rising at *
      rw [List.append_assoc, List.pairwise_append]
      refine ⟨hr.sublist (List.take_sublist _ _), ?_, ?_⟩
      · rw [List.singleton_append, List.pairwise_cons]
        exact ⟨fun x hx => drop_gt hr hc.2 hx, hr.sublist (List.drop_sublist _ _)⟩
      · intro x hx y hy
        have h1 := take_lt hx
        rw [List.singleton_append] at hy
        rcases List.mem_cons.1 hy with rfl | hy
        · exact h1
        · exact List.lt_trans h1 (drop_gt hr hc.2 hy)
    · have : x ∈ out ↔ x ∈ out.take (nmI out s) ∨ x ∈ out.drop (nmI out s) := by
        conv => lhs; rw [← hsplit]
        rw [List.mem_append]
      rw [this]
      simp only [List.mem_append, List.mem_singleton]
      constructor
      · rintro ((h | h) | h)
        · exact .inl (.inl h)
        · exact .inr ⟨h, hc.1⟩
        · exact .inl (.inr h)
      · rintro ((h | h) | ⟨h, -⟩)
        · exact .inl (.inl h)
        · exact .inr h
        · exact .inl (.inr h)
  · rw [if_neg hc]
    refine ⟨hr, fun x => ⟨.inl, ?_⟩⟩
    rintro (h | ⟨rfl, h⟩)
    · exact h
    · have : out[nmI out x]? = some x := by
        apply Classical.byContradiction
        intro g
        exact hc ⟨h, g⟩
      exact List.mem_of_getElem? this
theorem namesD_ok (L : List Nd) : Rising (namesD L) ∧ ∀ x, x ∈ namesD L ↔ x ≠ [] ∧ ∃ n ∈ L, n.nm = x := by
  have key : ∀ (L : List Nd) (o : List (List UInt8)), Rising o → Rising (L.foldl (fun o n => addN o n.nm) o) ∧ ∀ x, x ∈ L.foldl (fun o n => addN o n.nm) o ↔ x ∈ o ∨ (x ≠ [] ∧ ∃ n ∈ L, n.nm = x) := by
    intro L
    induction L with
    | nil => intro o ho; exact ⟨ho, fun x => by simp⟩
    | cons n L ih =>
      intro o ho
      obtain ⟨h1, h2⟩ := addN_ok ho n.nm
      obtain ⟨h3, h4⟩ := ih (addN o n.nm) h1
      refine ⟨h3, fun x => ?_⟩
      rw [List.foldl_cons, h4, h2]
      constructor
      · rintro ((h | ⟨h, h'⟩) | ⟨h, m, hm, h'⟩)
        · exact .inl h
        · exact .inr ⟨by rw [h]; exact h', n, by simp, h.symm⟩
        · exact .inr ⟨h, m, by simp [hm], h'⟩
      · rintro (h | ⟨h, m, hm, h'⟩)
        · exact .inl (.inl h)
        · rcases List.mem_cons.1 hm with g | g
          · subst g; exact .inl (.inr ⟨h'.symm, by rw [h']; exact h⟩)
          · exact .inr ⟨h, m, g, h'⟩
  obtain ⟨h1, h2⟩ := key L [] List.Pairwise.nil
  exact ⟨h1, fun x => by rw [show namesD L = L.foldl (fun o n => addN o n.nm) [] from rfl, h2]; simp⟩
/-- sorted, then made one of -/
theorem compact_ok {d : Array (List UInt8)} (hs : ∀ i j, i < j → j < d.size → ¬ d[j]! < d[i]!) : ∀ m, m ≤ d.size → Rising (Lib.compactUpTo d m) ∧ ∀ x, x ∈ Lib.compactUpTo d m ↔ ∃ j, j < m ∧ d[j]! = x
  | 0, _ => ⟨List.Pairwise.nil, fun x => by simp [Lib.compactUpTo]⟩
  | m + 1, hm => by
    obtain ⟨h1, h2⟩ := compact_ok hs m (by omega)
    rw [Lib.compactUpTo_succ]
    cases hk : Lib.keeps d m
    · rw [if_neg (by decide), List.append_nil]
      refine ⟨h1, fun x => ?_⟩
      rw [h2]
      have h0 : 0 < m := by
        rcases Nat.eq_zero_or_pos m with g | g
        · subst g; simp [Lib.keeps] at hk
        · exact g
      have he : d[m]! = d[m - 1]! := by
        apply Classical.byContradiction
        intro g
        rw [Lib.keeps_pos g] at hk
        cases hk
      constructor
      · rintro ⟨j, hj, h⟩; exact ⟨j, by omega, h⟩
      · rintro ⟨j, hj, h⟩
        by_cases g : j = m
        · subst g; exact ⟨j - 1, by omega, by rw [← he]; exact h⟩
        · exact ⟨j, by omega, h⟩
    · rw [if_pos rfl]
      refine ⟨?_, fun x => ?_⟩
      · unfold Rising at *
        rw [List.pairwise_append]
        refine ⟨h1, List.pairwise_singleton _ _, ?_⟩
        intro x hx y hy
        rw [List.mem_singleton] at hy
        subst hy
        obtain ⟨j, hj, rfl⟩ := (h2 x).1 hx
        rcases lt_tri d[j]! d[m]! with g | g | g
        · exact g
        · exfalso
          have hne : d[m]! ≠ d[m - 1]! := by
            intro e
            have hm0 : m ≠ 0 := by omega
            rw [Lib.keeps_neg (by omega) e] at hk
            cases hk
          rcases lt_tri d[m - 1]! d[m]! with k | k | k
          · by_cases e : j = m - 1
            · rw [← e] at hne; exact hne g.symm
            · have := hs j (m - 1) (by omega) (by omega)
              rw [g] at this
              exact this k
          · exact hne k.symm
          · exact hs (m - 1) m (by omega) (by omega) k
        · exact absurd g (hs j m hj (by omega))
      · rw [List.mem_append, List.mem_singleton, h2]
        constructor
        · rintro (⟨j, hj, h⟩ | h)
          · exact ⟨j, by omega, h⟩
          · exact ⟨m, by omega, h.symm⟩
        · rintro ⟨j, hj, h⟩
          by_cases g : j = m
          · subst g; exact .inr h.symm
          · exact .inl ⟨j, by omega, h⟩
/-- the names that are not nothing, in the nodes' order -/
def nmsP (L : List Nd) : List (List UInt8) := (L.map Nd.nm).filter (fun s => !(s == []))
theorem names_eq (L : List Nd) {S : List (List UInt8)} (hp : S.Perm (nmsP L)) (hs : S.Pairwise (fun x y => ¬ y < x)) : Lib.compact S = namesD L := by
  have hd : ∀ i j, i < j → j < S.toArray.size → ¬ S.toArray[j]! < S.toArray[i]! := by
    intro i j hij hj
    have hj' : j < S.length := by simpa using hj
    have := List.pairwise_iff_getElem.1 hs i j (by omega) hj' hij
    rw [getElem!_pos S.toArray j (by simpa using hj'), getElem!_pos S.toArray i (by simp; omega)]
    simpa using this
  obtain ⟨h1, h2⟩ := compact_ok hd S.toArray.size (Nat.le_refl _)
  obtain ⟨h3, h4⟩ := namesD_ok L
  have e : Lib.compact S = Lib.compactUpTo S.toArray S.toArray.size := by unfold Lib.compact; simp
  rw [e]
  refine rising_ext h1 h3 fun x => ?_
  rw [h2, h4]
  have hm : (∃ j, j < S.toArray.size ∧ S.toArray[j]! = x) ↔ x ∈ S := by
    constructor
    · rintro ⟨j, hj, h⟩
      have hj' : j < S.length := by simpa using hj
      rw [getElem!_pos S.toArray j hj] at h
      have : S[j] = x := by simpa using h
      rw [← this]
      exact List.getElem_mem _
    · intro h
      obtain ⟨j, hj, rfl⟩ := List.getElem_of_mem h
      exact ⟨j, by simpa using hj, by rw [getElem!_pos S.toArray j (by simpa using hj)]; simp⟩
  rw [hm, hp.mem_iff]
  unfold nmsP
  rw [List.mem_filter, List.mem_map]
  simp only [Bool.not_eq_true', beq_eq_false_iff_ne, ne_eq]
  exact and_comm
end Go.Proofs.YtdnoceancoclmaaGreatDoor.Ru
