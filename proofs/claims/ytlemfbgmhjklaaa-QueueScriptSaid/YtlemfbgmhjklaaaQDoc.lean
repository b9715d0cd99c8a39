/- The queue, plain: the document's words for the rows. -/
import Derived.Test.YtlemfbgmhjklaaaQOnceP
namespace Go.Proofs.Ytlemfbgmhjklaaa

def usersM (M : List MRow) (b : Nat) : List ByteArray := (M.filter fun m => decide (m.1.2 = (b : Int))).map (·.1.1)
def kf (k : Key) (p : Pend) : Bool := decide (p.key = k)
/-- the document's queue: of each band the users in their row; all that wait, as they came -/
structure Dq (rw : Nat → List ByteArray) (L : List Pend) (M : List MRow) : Prop where
  rows : ∀ b, b < 4 → rw b = usersM M b
  tasks : ∀ m ∈ M, L.filter (kf m.1) = m.2
  perm : L.Perm (flatM M)

theorem filter_swap {α : Type} (f g : α → Bool) (L : List α) : (L.filter f).filter g = (L.filter g).filter f := by
  rw [List.filter_filter, List.filter_filter]
  congr 1
  funext x
  exact Bool.and_comm ..
theorem Dq.new : Dq (fun _ => []) [] [] := ⟨fun _ _ => rfl, fun m hm => (by cases hm), List.Perm.refl _⟩
theorem users_ins {M : List MRow} {m : MRow} (hf : M.Pairwise (fun x y => y.1.2 ≤ x.1.2)) (b : Nat) : usersM (insM M m) b = usersM M b ++ if m.1.2 = (b : Int) then [m.1.1] else [] := by
  have hd := dropWhile_lt (b := m.1.2) hf
  have hM : M = M.takeWhile (fun x => decide (m.1.2 ≤ x.1.2)) ++ M.dropWhile (fun x => decide (m.1.2 ≤ x.1.2)) := List.takeWhile_append_dropWhile.symm
  unfold usersM insM
  by_cases e : m.1.2 = (b : Int)
  · have h0 : (M.dropWhile (fun x => decide (m.1.2 ≤ x.1.2))).filter (fun m => decide (m.1.2 = (b : Int))) = [] := by
      rw [List.filter_eq_nil_iff]
      intro y hy
      have := hd y hy
      simp only [decide_eq_true_eq]
      omega
    have h1 : M.filter (fun m => decide (m.1.2 = (b : Int))) = (M.takeWhile (fun x => decide (m.1.2 ≤ x.1.2))).filter (fun m => decide (m.1.2 = (b : Int))) := by
      conv => lhs; rw [hM]
      rw [List.filter_append, h0, List.append_nil]
    rw [h1, List.filter_append, List.filter_cons_of_pos (by simpa using e), h0, if_pos e, List.map_append]
    rfl
  · rw [List.filter_append, List.filter_cons_of_neg (by simpa using e), ← List.filter_append, ← hM, if_neg e, List.append_nil]
theorem users_map {M : List MRow} {f : MRow → MRow} (h : ∀ m, (f m).1 = m.1) (b : Nat) : usersM (M.map f) b = usersM M b := by
  unfold usersM
  rw [List.filter_map, List.map_map]
  have e1 : (fun m : MRow => decide (m.1.2 = (b : Int))) ∘ f = fun m => decide (m.1.2 = (b : Int)) := funext fun m => by simp only [Function.comp, h]
  rw [e1]
  exact List.map_congr_left fun m _ => by simp only [Function.comp, h]

section
variable {rw : Nat → List ByteArray} {L : List Pend} {M : List MRow}
theorem Dq.has (h : Dq rw L M) (t : ByteArray × Int) : (L.any fun p => decide (p.task = t)) = hasM M t := by
  rw [Bool.eq_iff_iff, hasM_iff]
  simp only [List.any_eq_true, decide_eq_true_eq]
  constructor
  · rintro ⟨p, hp, e⟩; exact ⟨p, h.perm.mem_iff.1 hp, e⟩
  · rintro ⟨p, hp, e⟩; exact ⟨p, h.perm.mem_iff.2 hp, e⟩
theorem Dq.key (h : Dq rw L M) (hm : MI M) (k : Key) : (L.any (kf k)) = keyM M k := by
  rw [Bool.eq_iff_iff, keyM_iff]
  simp only [List.any_eq_true, kf, decide_eq_true_eq]
  constructor
  · rintro ⟨p, hp, e⟩
    obtain ⟨m, hmm, hpm⟩ := List.mem_flatMap.1 (h.perm.mem_iff.1 hp)
    exact ⟨m, hmm, by rw [← hm.own m hmm p hpm]; exact e⟩
  · rintro ⟨m, hmm, e⟩
    cases hp : m.2 with
    | nil => exact absurd hp (hm.ne m hmm)
    | cons p tl =>
      exact ⟨p, h.perm.mem_iff.2 (List.mem_flatMap.2 ⟨m, hmm, by rw [hp]; exact List.mem_cons_self⟩), by rw [hm.own m hmm p (by rw [hp]; exact List.mem_cons_self)]; exact e⟩
theorem Dq.put (h : Dq rw L M) (hm : MI M) {p : Pend} (hb : 0 ≤ p.band ∧ p.band ≤ 3) {rw' : Nat → List ByteArray} (hr : ∀ b, b < 4 → rw' b = rw b ++ if p.band = (b : Int) ∧ keyM M p.key = false then [p.user] else []) : Dq rw' (L ++ [p]) (putM M p) := by
  refine ⟨fun b hbb => ?_, fun m hmm => ?_, ?_⟩
  · rw [hr b hbb, h.rows b hbb]
    unfold putM
    by_cases hk : keyM M p.key = true
    · rw [if_pos hk, users_map (updM_key _ _), if_neg (by rw [hk]; simp), List.append_nil]
    · have hk' : keyM M p.key = false := by simpa using hk
      rw [if_neg hk, users_ins hm.falls]
      congr 1
      by_cases e : p.band = (b : Int)
      · rw [if_pos ⟨e, hk'⟩]
        show _ = if p.band = (b : Int) then [p.user] else []
        rw [if_pos e]
      · rw [if_neg (fun h => e h.1)]
        show _ = if p.band = (b : Int) then [p.user] else []
        rw [if_neg e]
  · rw [List.filter_append]
    unfold putM at hmm
    split at hmm
    · obtain ⟨x, hx, rfl⟩ := List.mem_map.1 hmm
      rw [updM_key, h.tasks x hx]
      unfold updM
      by_cases e : x.1 = p.key
      · rw [if_pos e, List.filter_cons_of_pos (by simp [kf, e])]; rfl
      · rw [if_neg e, List.filter_cons_of_neg (by simpa [kf] using fun e2 => e e2.symm)]; simp
    · rename_i hk
      rcases List.mem_cons.1 ((insM_perm _ _).mem_iff.1 hmm) with rfl | hmm
      · have : L.filter (kf p.key) = [] := by
          rw [List.filter_eq_nil_iff]
          intro q hq
          have h1 := h.key hm p.key
          intro h2
          rw [List.any_eq_true.2 ⟨q, hq, h2⟩] at h1
          exact hk h1.symm
        rw [this, List.filter_cons_of_pos (by simp [kf])]
        rfl
      · rw [h.tasks m hmm, List.filter_cons_of_neg]
        · simp
        · simp only [kf, decide_eq_true_eq]
          intro e
          exact hk (keyM_iff.2 ⟨m, hmm, e.symm⟩)
  · exact (List.perm_append_comm.trans ((List.perm_cons p).2 h.perm)).trans (putM_flat hm).symm
theorem Dq.nodup (h : Dq rw L M) (hm : MI M) : (L.map Pend.task).Nodup := (h.perm.map _).nodup_iff.2 hm.tasks
/-- one is no more -/
theorem Dq.drop (h : Dq rw L M) (hm : MI M) {i : Nat} (hi : i < L.length) {rw' : Nat → List ByteArray}
    (hr : ∀ b, b < 4 → rw' b = if L[i].band = (b : Int) ∧ ((L.eraseIdx i).any (kf L[i].key)) = false then (rw b).filter (fun u => decide (u ≠ L[i].user)) else rw b) : Dq rw' (L.eraseIdx i) (dropM M L[i].task) := by
  have hn := h.nodup hm
  obtain ⟨p, hp⟩ : ∃ p, p = L[i] := ⟨_, rfl⟩
  have hpi : L[i]? = some p := by rw [hp]; exact List.getElem?_eq_getElem hi
  have he : L.eraseIdx i = L.filter (fun q => decide (q.task ≠ p.task)) := by rw [hp]; exact (filter_ne_erase hi rfl hn).symm
  obtain ⟨m0, hm0, hpm0⟩ := List.mem_flatMap.1 (h.perm.mem_iff.1 (by rw [hp]; exact List.getElem_mem hi : p ∈ L))
  have hk0 : m0.1 = p.key := (hm.own m0 hm0 p hpm0).symm
  rw [← hp] at hr ⊢
  have hfl : ∀ m ∈ M, (L.eraseIdx i).filter (kf m.1) = m.2.filter (fun q => decide (q.task ≠ p.task)) := fun m hmm => by
    rw [he, filter_swap, h.tasks m hmm]
  refine ⟨fun b hb => ?_, fun m hmm => ?_, ?_⟩
  · rw [hr b hb, h.rows b hb]
    have hany : ((L.eraseIdx i).any (kf p.key)) = !(m0.2.filter (fun q => decide (q.task ≠ p.task))).isEmpty := by
      have h1 := hfl m0 hm0
      rw [hk0] at h1
      rw [← h1]
      rw [Bool.eq_iff_iff]
      simp [List.isEmpty_iff, List.filter_eq_nil_iff]
    have e1 : ∀ x ∈ M, ((fun a : MRow => decide (a.1.2 = (b : Int)) && !a.2.isEmpty) ∘ fun m => (m.1, m.2.filter fun q => decide (q.task ≠ p.task))) x = (decide (x.1.2 = (b : Int)) && !(decide (x.1 = m0.1) && (m0.2.filter (fun q => decide (q.task ≠ p.task))).isEmpty)) := fun x hx => by
      simp only [Function.comp]
      by_cases e : x.1 = m0.1
      · rw [hm.same hm0 hx e]; simp
      · have : (x.2.filter fun q => decide (q.task ≠ p.task)) = x.2 := by
          rw [List.filter_eq_self]
          intro q hq
          simpa using hm.apart hm0 hx e hpm0 hq
        rw [this]
        have hne := hm.ne x hx
        have : x.2.isEmpty = false := by simpa using hne
        rw [this]
        simp [e]
    have hR : usersM (dropM M p.task) b = (M.filter (fun x => (decide (x.1.2 = (b : Int)) && !(decide (x.1 = m0.1) && (m0.2.filter (fun q => decide (q.task ≠ p.task))).isEmpty)))).map (·.1.1) := by
      unfold usersM dropM
      rw [List.filter_filter, List.filter_map, List.map_map, List.filter_congr e1]
      rfl
    rw [hR]
    unfold usersM
    cases hz : (m0.2.filter (fun q => decide (q.task ≠ p.task))).isEmpty
    · rw [if_neg (by rw [hany, hz]; simp)]
      congr 2
      funext x
      simp
    · by_cases eb : p.band = (b : Int)
      · rw [if_pos ⟨eb, by rw [hany, hz]; rfl⟩, List.filter_map, List.filter_filter]
        congr 1
        refine List.filter_congr fun x hx => ?_
        simp only [Function.comp, Bool.and_true]
        rw [Bool.eq_iff_iff]
        simp only [Bool.and_eq_true, decide_eq_true_eq, Bool.not_eq_true', decide_eq_false_iff_not, ne_eq]
        rw [hk0]
        constructor
        · rintro ⟨h1, h2⟩
          exact ⟨h2, fun h3 => h1 (by rw [h3]; rfl)⟩
        · rintro ⟨h1, h2⟩
          refine ⟨fun h3 => h2 ?_, h1⟩
          rw [Prod.ext_iff]
          exact ⟨h3, by rw [h1, ← eb]; rfl⟩
      · rw [if_neg (fun h => eb h.1)]
        congr 1
        refine List.filter_congr fun x hx => ?_
        rw [Bool.eq_iff_iff]
        simp only [Bool.and_eq_true, decide_eq_true_eq, Bool.not_eq_true', Bool.and_eq_false_imp, decide_eq_true_eq, Bool.and_true]
        constructor
        · intro h1
          refine ⟨h1, ?_⟩
          simp only [decide_eq_false_iff_not]
          intro h2
          apply eb
          rw [← h1, h2, hk0]
          rfl
        · exact fun h1 => h1.1
  · obtain ⟨x, hx, e1, e2, -⟩ := dropM_mem hmm
    rw [e1, e2]
    exact hfl x hx
  · rw [hp]
    exact once_drop hm h.perm hi
theorem head_find {f : Pend → Bool} {p : Pend} {tl : List Pend} : ∀ {L : List Pend}, L.filter f = p :: tl → ∃ i, L.findIdx? f = some i ∧ L[i]? = some p
  | [], h => by simp at h
  | x :: L, h => by
    by_cases hx : f x = true
    · rw [List.filter_cons_of_pos hx] at h
      cases h
      exact ⟨0, by rw [List.findIdx?_cons, if_pos hx], rfl⟩
    · rw [List.filter_cons_of_neg hx] at h
      obtain ⟨i, h1, h2⟩ := head_find h
      exact ⟨i + 1, by rw [List.findIdx?_cons, if_neg hx, h1]; rfl, by simpa using h2⟩
/-- whose turn it is -/
theorem Dq.next {m : MRow} {M0 : List MRow} (h : Dq rw L (m :: M0)) (hm : MI (m :: M0)) : ∃ b0 : Nat, b0 < 4 ∧ m.1.2 = (b0 : Int) ∧ rw b0 = m.1.1 :: usersM M0 b0 ∧ (∀ b, b < 4 → b0 < b → rw b = []) ∧ ∀ b, b < 4 → b ≠ b0 → rw b = usersM M0 b := by
  have hb := hm.band m List.mem_cons_self
  refine ⟨m.1.2.toNat, by omega, by omega, ?_, fun b hb4 hlt => ?_, fun b hb4 hne => ?_⟩
  · rw [h.rows _ (by omega)]
    unfold usersM
    rw [List.filter_cons_of_pos (by simp; omega), List.map_cons]
  · rw [h.rows b hb4]
    unfold usersM
    have : (m :: M0).filter (fun m => decide (m.1.2 = (b : Int))) = [] := by
      rw [List.filter_eq_nil_iff]
      intro y hy
      simp only [decide_eq_true_eq]
      rcases List.mem_cons.1 hy with rfl | hy
      · omega
      · have := (List.pairwise_cons.1 hm.falls).1 y hy
        omega
    rw [this]
    rfl
  · rw [h.rows b hb4]
    unfold usersM
    rw [List.filter_cons_of_neg (by simp; omega)]
theorem Dq.none (h : Dq rw L []) : ∀ b, b < 4 → rw b = [] := fun b hb => h.rows b hb
theorem Dq.take {m : MRow} {M0 : List MRow} (h : Dq rw L (m :: M0)) (hm : MI (m :: M0)) {p : Pend} {tl : List Pend} (hp : m.2 = p :: tl) {i : Nat} (hi : i < L.length) (hip : L[i] = p) {b0 : Nat} (hb0 : b0 < 4) (hmb : m.1.2 = (b0 : Int)) {rw' : Nat → List ByteArray}
    (hr0 : rw' b0 = if ((L.eraseIdx i).any (kf m.1)) = false then (usersM M0 b0 ++ [m.1.1]).filter (fun u => decide (u ≠ m.1.1)) else usersM M0 b0 ++ [m.1.1]) (hr : ∀ b, b < 4 → b ≠ b0 → rw' b = usersM M0 b) : Dq rw' (L.eraseIdx i) (takeM (m :: M0)) := by
  have hn := h.nodup hm
  have he : L.eraseIdx i = L.filter (fun q => decide (q.task ≠ p.task)) := by rw [← hip]; exact (filter_ne_erase hi rfl hn).symm
  have hpm : p ∈ m.2 := by rw [hp]; exact List.mem_cons_self
  have hmt := hm.rowTasks (m := m) List.mem_cons_self
  rw [hp] at hmt
  have htlf : m.2.filter (fun q => decide (q.task ≠ p.task)) = tl := by
    rw [hp, List.filter_cons_of_neg (by simp), List.filter_eq_self]
    intro q hq
    simp only [ne_eq, decide_not, Bool.not_eq_true', decide_eq_false_iff_not]
    intro e
    exact (List.nodup_cons.1 hmt).1 (List.mem_map.2 ⟨q, hq, e⟩)
  have hfm : (L.eraseIdx i).filter (kf m.1) = tl := by rw [he, filter_swap, h.tasks m List.mem_cons_self, htlf]
  have hfx : ∀ x ∈ M0, (L.eraseIdx i).filter (kf x.1) = x.2 := fun x hx => by
    rw [he, filter_swap, h.tasks x (List.mem_cons_of_mem _ hx), List.filter_eq_self]
    intro q hq
    have hne : x.1 ≠ m.1 := fun e => (List.nodup_cons.1 hm.keys).1 (List.mem_map.2 ⟨x, hx, e⟩)
    simpa using hm.apart List.mem_cons_self (List.mem_cons_of_mem _ hx) hne hpm hq
  have hany : ((L.eraseIdx i).any (kf m.1)) = !tl.isEmpty := by
    rw [← hfm, Bool.eq_iff_iff]
    simp [List.isEmpty_iff, List.filter_eq_nil_iff]
  have hnot : m.1.1 ∉ usersM M0 b0 := fun hu => by
    unfold usersM at hu
    obtain ⟨x, hx, e⟩ := List.mem_map.1 hu
    have hx2 := List.mem_filter.1 hx
    refine (List.nodup_cons.1 hm.keys).1 (List.mem_map.2 ⟨x, hx2.1, ?_⟩)
    rw [Prod.ext_iff]
    exact ⟨e, by have := hx2.2; simp only [decide_eq_true_eq] at this; rw [this, hmb]⟩
  have hperm : (L.eraseIdx i).Perm (flatM (takeM (m :: M0))) := once_take hm h.perm hi (show headM (m :: M0) = some p from by show m.2.head? = _; rw [hp]; rfl) hip
  have htk : takeM (m :: M0) = if tl = [] then M0 else insM M0 (m.1, tl) := by
    show (if m.2.tail = [] then M0 else insM M0 (m.1, m.2.tail)) = _
    rw [hp]
    rfl
  rw [htk] at hperm ⊢
  by_cases htl : tl = []
  · rw [if_pos htl] at hperm ⊢
    refine ⟨fun b hb => ?_, fun x hx => hfx x hx, hperm⟩
    by_cases e : b = b0
    · subst e
      rw [hr0, hany, htl, if_pos (by rfl), List.filter_append, List.filter_cons_of_neg (by simp), List.filter_nil, List.append_nil, List.filter_eq_self]
      intro u hu
      simp only [ne_eq, decide_not, Bool.not_eq_true', decide_eq_false_iff_not]
      intro e2
      exact hnot (e2 ▸ hu)
    · exact hr b hb e
  · rw [if_neg htl] at hperm ⊢
    refine ⟨fun b hb => ?_, fun x hx => ?_, hperm⟩
    · rw [users_ins hm.tail.falls]
      by_cases e : b = b0
      · subst e
        rw [hr0, hany, if_neg (by simpa using htl), if_pos hmb]
      · rw [hr b hb e, if_neg (by simp only; omega), List.append_nil]
    · rcases List.mem_cons.1 ((insM_perm _ _).mem_iff.1 hx) with rfl | hx
      · exact hfm
      · exact hfx x hx
end
end Go.Proofs.Ytlemfbgmhjklaaa
