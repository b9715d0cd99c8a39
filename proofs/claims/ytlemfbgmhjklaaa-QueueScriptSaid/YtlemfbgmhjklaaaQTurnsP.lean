/- The queue, plain: of one band, the users take turns. -/
import Derived.Test.YtlemfbgmhjklaaaQAllP
namespace Go.Proofs.Ytlemfbgmhjklaaa

/-- all rows are of band 1 -/
def One (M : List MRow) : Prop := ∀ m ∈ M, m.1.2 = 1
theorem while_all {α : Type} {p : α → Bool} : ∀ {l : List α}, (∀ x ∈ l, p x = true) → l.takeWhile p = l ∧ l.dropWhile p = []
  | [], _ => ⟨rfl, rfl⟩
  | x :: l, h => by
    have h1 := h x List.mem_cons_self
    have h2 := while_all (l := l) fun y hy => h y (List.mem_cons_of_mem _ hy)
    rw [List.takeWhile_cons, List.dropWhile_cons, if_pos h1, if_pos h1, h2.1, h2.2]
    exact ⟨rfl, rfl⟩
theorem ins_one {M : List MRow} {m : MRow} (h : One M) (hm : m.1.2 = 1) : insM M m = M ++ [m] := by
  unfold insM
  obtain ⟨h1, h2⟩ := while_all (p := fun x : MRow => decide (m.1.2 ≤ x.1.2)) (l := M) fun x hx => by rw [h x hx, hm]; rfl
  rw [h1, h2]
def tailsM (M : List MRow) : List MRow := M.filterMap fun m => if m.2.tail = [] then none else some (m.1, m.2.tail)
def headsM (M : List MRow) : List Pend := M.filterMap fun m => m.2.head?
theorem take_one {m : MRow} {M : List MRow} (h : One (m :: M)) : takeM (m :: M) = M ++ tailsM [m] := by
  show (if m.2.tail = [] then M else insM M (m.1, m.2.tail)) = _
  unfold tailsM
  rw [List.filterMap_cons]
  split
  · rename_i e
    simp
  · rename_i e
    exact ins_one (m := (m.1, m.2.tail)) (fun x hx => h x (List.mem_cons_of_mem _ hx)) (h m List.mem_cons_self)
theorem One.take {M : List MRow} (h : One M) : One (takeM M) := by
  match M, h with
  | [], _ => intro m hm; cases hm
  | m :: M, h =>
    rw [take_one h]
    intro x hx
    rcases List.mem_append.1 hx with hx | hx
    · exact h x (List.mem_cons_of_mem _ hx)
    · unfold tailsM at hx
      obtain ⟨y, hy, e⟩ := List.mem_filterMap.1 hx
      rw [List.mem_singleton.1 hy] at e
      split at e
      · cases e
      · cases e
        exact h m List.mem_cons_self
/-- one round of the rows in front -/
theorem all_round : ∀ (M B : List MRow), MI (M ++ B) → One (M ++ B) → allM (M ++ B) = headsM M ++ allM (B ++ tailsM M)
  | [], B, _, _ => by simp [headsM, tailsM]
  | m :: M, B, h, ho => by
    obtain ⟨p, tl, hm, hp⟩ := h.head
    rw [List.cons_append] at h ho ⊢
    rw [allM_eq h]
    have hb : headB (m :: (M ++ B)) = true := by unfold headB; rw [show headM (m :: (M ++ B)) = some p from hp]; rfl
    have hh : headP (m :: (M ++ B)) = p := by unfold headP; rw [show headM (m :: (M ++ B)) = some p from hp]; rfl
    rw [if_pos hb, hh]
    have ht := h.take
    have hot := ho.take
    rw [take_one ho] at ht hot ⊢
    rw [List.append_assoc] at ht hot ⊢
    rw [all_round M (B ++ tailsM [m]) ht hot]
    have e1 : headsM (m :: M) = p :: headsM M := by unfold headsM; rw [List.filterMap_cons, hm]; rfl
    have e2 : tailsM (m :: M) = tailsM [m] ++ tailsM M := by unfold tailsM; rw [← List.filterMap_append]; rfl
    rw [e1, e2, List.cons_append, List.append_assoc]
theorem MI.round : ∀ {M B : List MRow}, MI (M ++ B) → One (M ++ B) → MI (B ++ tailsM M)
  | [], B, h, _ => by
    have : tailsM [] = [] := rfl
    rw [this, List.append_nil]
    exact h
  | m :: M, B, h, ho => by
    rw [List.cons_append] at h ho
    have ht := h.take
    have hot := ho.take
    rw [take_one ho, List.append_assoc] at ht hot
    have := MI.round ht hot
    have e : tailsM (m :: M) = tailsM [m] ++ tailsM M := by unfold tailsM; rw [← List.filterMap_append]; rfl
    rw [e, ← List.append_assoc]
    exact this
/-- whoever comes has a row -/
theorem all_key {M : List MRow} (h : MI M) {p : Pend} (hp : p ∈ allM M) : ∃ m ∈ M, m.1 = p.key := by
  have := (allM_perm _ M h (Nat.le_refl _)).mem_iff.1 hp
  obtain ⟨m, hm, hpm⟩ := List.mem_flatMap.1 this
  exact ⟨m, hm, (h.own m hm p hpm).symm⟩
theorem heads_keys : ∀ {M : List MRow}, (∀ m ∈ M, m.2 ≠ []) → (∀ m ∈ M, ∀ p ∈ m.2, p.key = m.1) → (headsM M).map Pend.key = M.map (·.1)
  | [], _, _ => rfl
  | m :: M, h, ho => by
    have ih := heads_keys (M := M) (fun x hx => h x (List.mem_cons_of_mem _ hx)) (fun x hx => ho x (List.mem_cons_of_mem _ hx))
    obtain ⟨p, tl, hm⟩ : ∃ p tl, m.2 = p :: tl := by
      cases hm : m.2 with
      | nil => exact absurd hm (h m List.mem_cons_self)
      | cons p tl => exact ⟨p, tl, rfl⟩
    unfold headsM at *
    rw [List.filterMap_cons, hm]
    simp only [List.head?_cons, List.map_cons]
    rw [ih, ho m List.mem_cons_self p (by rw [hm]; exact List.mem_cons_self)]
theorem heads_len {M : List MRow} (h : ∀ m ∈ M, m.2 ≠ []) (ho : ∀ m ∈ M, ∀ p ∈ m.2, p.key = m.1) : (headsM M).length = M.length := by
  have := congrArg List.length (heads_keys h ho)
  simpa using this

/-- what the law asks of two places -/
def TurnsOk (ps : List Pend) (i k : Nat) : Prop := ∀ m (hm : m < ps.length), i < m → ps[m].user ≠ (ps.getD i pend0).user → (((ps.drop (i + 1)).take (k - (i + 1))).filter (fun p => decide (p.user = ps[m].user))).length = 1

theorem count_one {us : List ByteArray} (hn : us.Nodup) {v : ByteArray} (hv : v ∈ us) : (us.filter (fun u => decide (u = v))).length = 1 := by
  induction us with
  | nil => cases hv
  | cons u us ih =>
    have h1 := List.nodup_cons.1 hn
    rcases List.mem_cons.1 hv with rfl | hv
    · rw [List.filter_cons_of_pos (by simp)]
      have : us.filter (fun u => decide (u = v)) = [] := by
        rw [List.filter_eq_nil_iff]
        intro x hx
        simp only [decide_eq_true_eq]
        intro e
        exact h1.1 (e ▸ hx)
      rw [this]
      rfl
    · rw [List.filter_cons_of_neg]
      · exact ih h1.2 hv
      · simp only [decide_eq_true_eq]
        intro e
        exact h1.1 (e ▸ hv)
/-- at the front -/
theorem turns_front {M : List MRow} (h : MI M) (ho : One M) {k : Nat} (hk : k < (allM M).length) (hk0 : 0 < k) (hu : (allM M)[k].user = ((allM M).getD 0 pend0).user) (hno : ∀ j (hj : j < (allM M).length), 0 < j → j < k → (allM M)[j].user ≠ ((allM M).getD 0 pend0).user) : TurnsOk (allM M) 0 k := by
  match M, h, ho with
  | [], _, _ => exact absurd hk (by simp [allM, flatM, allN])
  | m :: M, h, ho =>
    obtain ⟨p, tl, hm, hp⟩ := h.head
    have hb : headB (m :: M) = true := by unfold headB; rw [hp]; rfl
    have hh : headP (m :: M) = p := by unfold headP; rw [hp]; rfl
    have he : allM (m :: M) = p :: allM (takeM (m :: M)) := by rw [allM_eq h, if_pos hb, hh]
    have htk := take_one ho
    have ht := h.take
    have hot := ho.take
    rw [htk] at ht hot
    have hround := all_round M (tailsM [m]) ht hot
    rw [← htk] at hround
    have hpk : p.key = m.1 := h.own m List.mem_cons_self p (by rw [hm]; exact List.mem_cons_self)
    have hpu : p.user = m.1.1 := by rw [← hpk]; rfl
    have hMne : ∀ x ∈ M, x.2 ≠ [] := fun x hx => h.ne x (List.mem_cons_of_mem _ hx)
    have hMo : ∀ x ∈ M, ∀ q ∈ x.2, q.key = x.1 := fun x hx => h.own x (List.mem_cons_of_mem _ hx)
    have hhk := heads_keys hMne hMo
    have hhl := heads_len hMne hMo
    have hkeysM : (M.map (·.1)).Nodup := (List.nodup_cons.1 h.keys).2
    have hmnot : m.1 ∉ M.map (·.1) := (List.nodup_cons.1 h.keys).1
    -- users of the heads
    have hus : ((headsM M).map (·.user)) = M.map (·.1.1) := by
      have := congrArg (List.map Prod.fst) hhk
      rw [List.map_map, List.map_map] at this
      exact this
    have huser : ∀ x ∈ M, x.1.1 ≠ p.user := fun x hx e => by
      refine hmnot (List.mem_map.2 ⟨x, hx, ?_⟩)
      have e1 := ho x (List.mem_cons_of_mem _ hx)
      have e2 := ho m List.mem_cons_self
      rw [Prod.ext_iff]
      exact ⟨by rw [e, hpu], by rw [e1, e2]⟩
    have hnodup : (M.map (·.1.1)).Nodup := by
      have h9 : ∀ {l : List MRow}, One l → (l.map (·.1)).Nodup → (l.map (·.1.1)).Nodup := by
        intro l
        induction l with
        | nil => intro _ _; exact List.nodup_nil
        | cons y l ih =>
          intro ho1 hn1
          have h2 := List.nodup_cons.1 hn1
          refine List.nodup_cons.2 ⟨fun hm1 => ?_, ih (fun z hz => ho1 z (List.mem_cons_of_mem _ hz)) h2.2⟩
          obtain ⟨z, hz, e⟩ := List.mem_map.1 hm1
          refine h2.1 (List.mem_map.2 ⟨z, hz, ?_⟩)
          rw [Prod.ext_iff]
          exact ⟨e, by rw [ho1 z (List.mem_cons_of_mem _ hz), ho1 y List.mem_cons_self]⟩
      exact h9 (fun x hx => ho x (List.mem_cons_of_mem _ hx)) hkeysM
    have h0 : (allM (m :: M)).getD 0 pend0 = p := by rw [he]; rfl
    have hall : allM (m :: M) = p :: (headsM M ++ allM (tailsM [m] ++ tailsM M)) := by rw [he, hround]
    have htail : tl ≠ [] := by
      intro e
      subst e
      have e1 : tailsM [m] = [] := by unfold tailsM; simp [hm]
      have e2 : allM (takeM (m :: M)) = allM M := by rw [htk, e1, List.append_nil]
      obtain ⟨k0, rfl⟩ : ∃ k0, k = k0 + 1 := ⟨k - 1, by omega⟩
      rw [h0] at hu
      obtain ⟨y, hy⟩ : ∃ y, y = (allM (m :: M))[k0 + 1] := ⟨_, rfl⟩
      have h1 : (allM (m :: M))[k0 + 1]? = some y := by rw [hy]; exact List.getElem?_eq_getElem hk
      rw [← hy] at hu
      rw [he, e2, List.getElem?_cons_succ] at h1
      obtain ⟨x, hx, e3⟩ := all_key h.tail (List.mem_of_getElem? h1)
      exact huser x hx (by rw [e3]; exact hu)
    obtain ⟨q, tl2, rfl⟩ : ∃ q tl2, tl = q :: tl2 := by
      cases tl with
      | nil => exact absurd rfl htail
      | cons q tl2 => exact ⟨q, tl2, rfl⟩
    have e1 : tailsM [m] = [(m.1, q :: tl2)] := by unfold tailsM; simp [hm]
    rw [e1] at ht hot hall
    have hM2 : MI ([(m.1, q :: tl2)] ++ tailsM M) := ht.round hot
    obtain ⟨rest, hrest⟩ : ∃ rest, allM ([(m.1, q :: tl2)] ++ tailsM M) = q :: rest := by
      rw [allM_eq hM2]
      exact ⟨_, if_pos rfl⟩
    rw [hrest] at hall
    have hqu : q.user = p.user := by
      have := h.own m List.mem_cons_self q (by rw [hm]; exact List.mem_cons_of_mem _ List.mem_cons_self)
      rw [hpu, ← this]
      rfl
    have hlen : (allM (m :: M)).length = M.length + 1 + 1 + rest.length := by rw [hall]; simp [hhl]; omega
    have hq? : (allM (m :: M))[M.length + 1]? = some q := by
      rw [hall, List.getElem?_cons_succ, List.getElem?_append_right (by omega), hhl, Nat.sub_self]
      rfl
    rw [h0] at hu hno
    have hle : k ≤ M.length + 1 := by
      rcases Nat.lt_or_ge (M.length + 1) k with hlt | hge
      · have h1 : M.length + 1 < (allM (m :: M)).length := by omega
        have h2 := hno _ h1 (by omega) hlt
        rw [List.getElem?_eq_getElem h1] at hq?
        simp only [Option.some.injEq] at hq?
        rw [hq?] at h2
        exact absurd hqu h2
      · exact hge
    have hke : k = M.length + 1 := by
      rcases Nat.lt_or_ge k (M.length + 1) with hlt | hge
      · obtain ⟨k0, rfl⟩ : ∃ k0, k = k0 + 1 := ⟨k - 1, by omega⟩
        have h1 : (allM (m :: M))[k0 + 1]? = some (allM (m :: M))[k0 + 1] := List.getElem?_eq_getElem hk
        obtain ⟨y, hy⟩ : ∃ y, y = (allM (m :: M))[k0 + 1] := ⟨_, rfl⟩
        rw [← hy] at h1 hu
        rw [hall, List.getElem?_cons_succ, List.getElem?_append_left (by rw [hhl]; omega)] at h1
        have h2 := List.mem_of_getElem? h1
        have h3 : y.user ∈ M.map (·.1.1) := by rw [← hus]; exact List.mem_map.2 ⟨y, h2, rfl⟩
        obtain ⟨x, hx, e⟩ := List.mem_map.1 h3
        exact absurd (e.trans hu) (huser x hx)
      · omega
    intro n hn hn0 hne
    rw [h0] at hne
    obtain ⟨y, hy⟩ : ∃ y, y = (allM (m :: M))[n] := ⟨_, rfl⟩
    rw [← hy] at hne ⊢
    have hyin : y ∈ allM (takeM (m :: M)) := by
      obtain ⟨n0, rfl⟩ : ∃ n0, n = n0 + 1 := ⟨n - 1, by omega⟩
      have h1 : (allM (m :: M))[n0 + 1]? = some (allM (m :: M))[n0 + 1] := List.getElem?_eq_getElem hn
      rw [← hy, he, List.getElem?_cons_succ] at h1
      exact List.mem_of_getElem? h1
    obtain ⟨x, hx, e3⟩ := all_key h.take hyin
    rw [htk, e1] at hx
    have hxM : x ∈ M := by
      rcases List.mem_append.1 hx with hx | hx
      · exact hx
      · rw [List.mem_singleton.1 hx] at e3
        exact absurd (by rw [hpu]; exact (congrArg Prod.fst e3).symm) hne
    have hv : y.user ∈ M.map (·.1.1) := List.mem_map.2 ⟨x, hxM, congrArg Prod.fst e3⟩
    have hdt : ((allM (m :: M)).drop (0 + 1)).take (k - (0 + 1)) = headsM M := by
      rw [hall, hke]
      simp only [Nat.zero_add, Nat.add_sub_cancel, List.drop_succ_cons, List.drop_zero]
      rw [← hhl, List.take_left']
      rfl
    rw [hdt]
    have := count_one hnodup hv
    rw [← hus, List.filter_map, List.length_map] at this
    exact this
theorem drop_state : ∀ (i : Nat) {M : List MRow}, MI M → One M → i ≤ (allM M).length → ∃ M', MI M' ∧ One M' ∧ allM M' = (allM M).drop i
  | 0, M, h, ho, _ => ⟨M, h, ho, rfl⟩
  | i + 1, M, h, ho, hi => by
    cases hb : headB M
    · have : allM M = [] := by rw [allM_eq h, hb]; rfl
      rw [this] at hi
      simp at hi
    · have he : allM M = headP M :: allM (takeM M) := by rw [allM_eq h, if_pos hb]
      rw [he] at hi ⊢
      obtain ⟨M', h1, h2, h3⟩ := drop_state i h.take ho.take (by simpa using hi)
      exact ⟨M', h1, h2, by rw [h3]; rfl⟩
theorem turns_all {M : List MRow} (h : MI M) (ho : One M) {i k : Nat} (hk : k < (allM M).length) (hik : i < k) (hu : (allM M)[k].user = ((allM M).getD i pend0).user) (hno : ∀ j (hj : j < (allM M).length), i < j → j < k → (allM M)[j].user ≠ ((allM M).getD i pend0).user) : TurnsOk (allM M) i k := by
  obtain ⟨M', h1, h2, h3⟩ := drop_state i h ho (by omega)
  have hl : (allM M').length = (allM M).length - i := by rw [h3, List.length_drop]
  have hg : ∀ j (hj : j < (allM M').length), (allM M')[j] = (allM M)[i + j]'(by omega) := fun j hj => by
    simp only [h3, List.getElem_drop]
  have h0 : (allM M').getD 0 pend0 = (allM M).getD i pend0 := by
    rw [h3]
    simp [List.getD_eq_getElem?_getD, List.getElem?_drop]
  have hf := turns_front h1 h2 (k := k - i) (by omega) (by omega) (by rw [hg, h0, ← hu]; congr 2; omega) (fun j hj hj0 hjk => by rw [hg, h0]; exact hno _ _ (by omega) (by omega))
  intro n hn hin hne
  obtain ⟨u, hu2⟩ : ∃ u, u = (allM M)[n].user := ⟨_, rfl⟩
  have e4 : ((allM M')[n - i]'(by omega)).user = u := by rw [hg, hu2]; congr 2; omega
  have := hf (n - i) (by omega) (by omega) (by rw [e4, h0, hu2]; exact hne)
  rw [e4] at this
  rw [h3, List.drop_drop] at this
  have e1 : i + (0 + 1) = i + 1 := by omega
  have e2 : k - i - (0 + 1) = k - (i + 1) := by omega
  rw [e1, e2] at this
  rw [← hu2]
  exact this
end Go.Proofs.Ytlemfbgmhjklaaa
