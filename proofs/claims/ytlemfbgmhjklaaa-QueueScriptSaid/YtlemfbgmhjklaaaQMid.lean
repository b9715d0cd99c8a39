/- The queue, plain: what Put, Take and Drop do to the rows. -/
import Derived.Test.YtlemfbgmhjklaaaQPlain
namespace Go.Proofs.Ytlemfbgmhjklaaa

def flatM (M : List MRow) : List Pend := M.flatMap (·.2)
def hasM (M : List MRow) (t : ByteArray × Int) : Bool := (flatM M).any fun p => decide (p.task = t)
def keyM (M : List MRow) (k : Key) : Bool := M.any fun m => decide (m.1 = k)
def putM (M : List MRow) (p : Pend) : List MRow := if keyM M p.key = true then M.map (updM p.key (· ++ [p])) else insM M (p.key, [p])
def headM : List MRow → Option Pend
  | [] => none
  | m :: _ => m.2.head?
def takeM : List MRow → List MRow
  | [] => []
  | m :: M => if m.2.tail = [] then M else insM M (m.1, m.2.tail)
def dropM (M : List MRow) (t : ByteArray × Int) : List MRow := (M.map fun m => (m.1, m.2.filter fun p => decide (p.task ≠ t))).filter fun m => !m.2.isEmpty

theorem hasM_iff {M : List MRow} {t : ByteArray × Int} : hasM M t = true ↔ ∃ p ∈ flatM M, p.task = t := by simp [hasM]
theorem keyM_iff {M : List MRow} {k : Key} : keyM M k = true ↔ ∃ m ∈ M, m.1 = k := by simp [keyM]

theorem nodup_inj {α β : Type} {f : α → β} : ∀ {l : List α}, (l.map f).Nodup → ∀ {a b : α}, a ∈ l → b ∈ l → f a = f b → a = b
  | [], _, _, _, ha, _, _ => by cases ha
  | x :: l, h, a, b, ha, hb, e => by
    have h1 := List.nodup_cons.1 h
    rcases List.mem_cons.1 ha with ha1 | ha1
    · rcases List.mem_cons.1 hb with hb1 | hb1
      · rw [ha1, hb1]
      · exact absurd (List.mem_map.2 ⟨b, hb1, by rw [← e, ha1]⟩) h1.1
    · rcases List.mem_cons.1 hb with hb1 | hb1
      · exact absurd (List.mem_map.2 ⟨a, ha1, by rw [e, hb1]⟩) h1.1
      · exact nodup_inj h1.2 ha1 hb1 e
theorem insM_perm (M : List MRow) (m : MRow) : (insM M m).Perm (m :: M) := by
  unfold insM
  refine List.perm_middle.trans ((List.perm_cons m).2 ?_)
  rw [List.takeWhile_append_dropWhile]
theorem dropWhile_lt {M : List MRow} {b : Int} (h : M.Pairwise (fun x y => y.1.2 ≤ x.1.2)) : ∀ y ∈ M.dropWhile (fun x => decide (b ≤ x.1.2)), y.1.2 < b := by
  induction M with
  | nil => intro y hy; cases hy
  | cons s S ih =>
    intro y hy
    rw [List.dropWhile_cons] at hy
    by_cases hb : b ≤ s.1.2
    · rw [if_pos (by simpa using hb)] at hy
      exact ih (List.pairwise_cons.1 h).2 y hy
    · rw [if_neg (by simpa using hb)] at hy
      rcases List.mem_cons.1 hy with rfl | hy
      · omega
      · have := (List.pairwise_cons.1 h).1 y hy
        omega
theorem insM_falls {M : List MRow} {m : MRow} (h : M.Pairwise (fun x y => y.1.2 ≤ x.1.2)) : (insM M m).Pairwise (fun x y => y.1.2 ≤ x.1.2) := by
  have h2 := h
  rw [← List.takeWhile_append_dropWhile (p := fun x : MRow => decide (m.1.2 ≤ x.1.2)) (l := M), List.pairwise_append] at h2
  unfold insM
  rw [List.pairwise_append]
  refine ⟨h2.1, List.pairwise_cons.2 ⟨fun y hy => ?_, h2.2.1⟩, fun a ha b hb => ?_⟩
  · have := dropWhile_lt h y hy; omega
  · rcases List.mem_cons.1 hb with rfl | hb
    · simpa using takeWhile_imp ha
    · exact h2.2.2 a ha b hb

theorem MI.ins {M : List MRow} {m : MRow} (h : MI M) (hk : ∀ x ∈ M, x.1 ≠ m.1) (hne : m.2 ≠ []) (hown : ∀ p ∈ m.2, p.key = m.1) (ht : ((m.2 ++ flatM M).map Pend.task).Nodup) (hb : 0 ≤ m.1.2 ∧ m.1.2 ≤ 3) : MI (insM M m) := by
  have hp := insM_perm M m
  have hm : ∀ x ∈ insM M m, x = m ∨ x ∈ M := fun x hx => List.mem_cons.1 (hp.mem_iff.1 hx)
  refine ⟨?_, ?_, ?_, ?_, insM_falls h.falls, ?_⟩
  · rw [(hp.map (·.1)).nodup_iff, List.map_cons, List.nodup_cons]
    refine ⟨fun hmm => ?_, h.keys⟩
    obtain ⟨x, hx, e⟩ := List.mem_map.1 hmm
    exact hk x hx e
  · intro x hx
    rcases hm x hx with rfl | hx
    · exact hne
    · exact h.ne x hx
  · intro x hx
    rcases hm x hx with rfl | hx
    · exact hown
    · exact h.own x hx
  · have := (hp.flatMap_right (·.2)).map Pend.task
    rw [this.nodup_iff, List.flatMap_cons]
    exact ht
  · intro x hx
    rcases hm x hx with rfl | hx
    · exact hb
    · exact h.band x hx
theorem MI.tail {m : MRow} {M : List MRow} (h : MI (m :: M)) : MI M := by
  refine ⟨(List.nodup_cons.1 h.keys).2, fun x hx => h.ne x (List.mem_cons_of_mem _ hx), fun x hx => h.own x (List.mem_cons_of_mem _ hx), ?_, (List.pairwise_cons.1 h.falls).2, fun x hx => h.band x (List.mem_cons_of_mem _ hx)⟩
  have := h.tasks
  rw [List.flatMap_cons, List.map_append] at this
  exact (List.nodup_append.1 this).2.1
theorem MI.take {M : List MRow} (h : MI M) : MI (takeM M) := by
  match M, h with
  | [], h => exact h
  | m :: M, h =>
    show MI (if m.2.tail = [] then M else insM M (m.1, m.2.tail))
    split
    · exact h.tail
    · rename_i ht
      refine h.tail.ins (fun x hx e => ?_) ht (fun p hp => h.own m List.mem_cons_self p (List.mem_of_mem_tail hp)) ?_ (h.band m List.mem_cons_self)
      · exact (List.nodup_cons.1 h.keys).1 (List.mem_map.2 ⟨x, hx, e⟩)
      · have h1 := h.tasks
        rw [List.flatMap_cons] at h1
        have h2 : (m.2.tail ++ flatM M).Sublist (m.2 ++ M.flatMap (·.2)) := List.Sublist.append (List.tail_sublist _) (List.Sublist.refl _)
        exact (h2.map _).nodup h1
theorem flat_upd (k : Key) (p : Pend) {M : List MRow} (h : (M.map (·.1)).Nodup) (hk : keyM M k = true) : (flatM (M.map (updM k (· ++ [p])))).Perm (p :: flatM M) := by
  induction M with
  | nil => simp [keyM] at hk
  | cons m M ih =>
    have h1 := List.nodup_cons.1 h
    unfold flatM
    rw [List.map_cons, List.flatMap_cons, List.flatMap_cons]
    by_cases e : m.1 = k
    · have h2 : M.map (updM k (· ++ [p])) = M := by
        refine (List.map_congr_left (g := id) (fun x hx => ?_)).trans (List.map_id M)
        unfold updM
        rw [if_neg]
        · rfl
        · intro e2
          exact h1.1 (List.mem_map.2 ⟨x, hx, e2.trans e.symm⟩)
      rw [h2]
      have h3 : updM k (· ++ [p]) m = (m.1, m.2 ++ [p]) := by unfold updM; rw [if_pos e]
      rw [h3]
      simp only [List.append_assoc, List.cons_append, List.nil_append]
      exact List.perm_middle
    · have h3 : updM k (· ++ [p]) m = m := by unfold updM; rw [if_neg e]
      rw [h3]
      have h4 : keyM M k = true := by
        rw [keyM_iff] at hk ⊢
        obtain ⟨x, hx, e2⟩ := hk
        rcases List.mem_cons.1 hx with rfl | hx
        · exact absurd e2 e
        · exact ⟨x, hx, e2⟩
      exact (List.Perm.append_left m.2 (ih h1.2 h4)).trans List.perm_middle
theorem MI.put {M : List MRow} {p : Pend} (h : MI M) (hn : hasM M p.task = false) (hb : 0 ≤ p.band ∧ p.band ≤ 3) : MI (putM M p) := by
  have hnt : p.task ∉ (flatM M).map Pend.task := fun hm => by
    obtain ⟨x, hx, e⟩ := List.mem_map.1 hm
    have := hasM_iff.2 ⟨x, hx, e⟩
    rw [hn] at this
    cases this
  unfold putM
  split
  · rename_i hk
    have hkeys : (M.map (updM p.key (· ++ [p]))).map (·.1) = M.map (·.1) := by
      rw [List.map_map]
      exact List.map_congr_left fun x _ => updM_key _ _ _
    refine ⟨by rw [hkeys]; exact h.keys, fun m hm => ?_, fun m hm => ?_, ?_, ?_, fun m hm => ?_⟩
    · obtain ⟨x, hx, rfl⟩ := List.mem_map.1 hm
      unfold updM
      split
      · simp
      · exact h.ne x hx
    · obtain ⟨x, hx, rfl⟩ := List.mem_map.1 hm
      unfold updM
      split
      · rename_i e
        intro q hq
        rcases List.mem_append.1 hq with hq | hq
        · exact h.own x hx q hq
        · rw [List.mem_singleton.1 hq]; exact e.symm
      · exact h.own x hx
    · have := (flat_upd p.key p h.keys hk).map Pend.task
      unfold flatM at this hnt
      rw [this.nodup_iff, List.map_cons, List.nodup_cons]
      exact ⟨hnt, h.tasks⟩
    · rw [List.pairwise_map]
      exact h.falls.imp fun {a b} h => by rw [updM_key, updM_key]; exact h
    · obtain ⟨x, hx, rfl⟩ := List.mem_map.1 hm
      rw [updM_key]
      exact h.band x hx
  · rename_i hk
    refine h.ins (fun x hx e => hk (keyM_iff.2 ⟨x, hx, e⟩)) (by simp) (fun q hq => by rw [List.mem_singleton.1 hq]) ?_ hb
    rw [List.singleton_append, List.map_cons, List.nodup_cons]
    exact ⟨hnt, h.tasks⟩
theorem flat_drop (M : List MRow) (t : ByteArray × Int) : flatM (dropM M t) = (flatM M).filter fun p => decide (p.task ≠ t) := by
  induction M with
  | nil => rfl
  | cons m M ih =>
    unfold flatM dropM at *
    rw [List.map_cons, List.flatMap_cons, List.filter_append, ← ih, List.filter_cons]
    split
    · rw [List.flatMap_cons]
    · rename_i h
      have : (m.2.filter fun p => decide (p.task ≠ t)) = [] := by simpa using h
      rw [this, List.nil_append]
theorem dropM_mem {M : List MRow} {t : ByteArray × Int} {m : MRow} (h : m ∈ dropM M t) : ∃ x ∈ M, m.1 = x.1 ∧ m.2 = x.2.filter (fun p => decide (p.task ≠ t)) ∧ m.2 ≠ [] := by
  unfold dropM at h
  rw [List.mem_filter] at h
  obtain ⟨x, hx, rfl⟩ := List.mem_map.1 h.1
  exact ⟨x, hx, rfl, rfl, by simpa using h.2⟩
theorem MI.drop {M : List MRow} (h : MI M) (t : ByteArray × Int) : MI (dropM M t) := by
  refine ⟨?_, fun m hm => (dropM_mem hm).choose_spec.2.2.2, fun m hm p hp => ?_, ?_, ?_, fun m hm => ?_⟩
  · have : ((dropM M t).map (·.1)).Sublist (M.map (·.1)) := by
      unfold dropM
      refine (List.filter_sublist.map _).trans ?_
      rw [List.map_map]
      exact List.Sublist.refl _
    exact this.nodup h.keys
  · obtain ⟨x, hx, e1, e2, -⟩ := dropM_mem hm
    rw [e2] at hp
    rw [e1]
    exact h.own x hx p (List.mem_filter.1 hp).1
  · have e := flat_drop M t
    unfold flatM at e
    rw [e]
    exact (List.filter_sublist.map _).nodup h.tasks
  · unfold dropM
    refine List.Pairwise.filter _ ?_
    rw [List.pairwise_map]
    exact h.falls
  · obtain ⟨x, hx, e1, -⟩ := dropM_mem hm
    rw [e1]
    exact h.band x hx

theorem filter_ne_erase {ps : List Pend} {t : ByteArray × Int} : ∀ {k : Nat} (hk : k < ps.length), ps[k].task = t → (ps.map Pend.task).Nodup → (ps.filter fun p => decide (p.task ≠ t)) = ps.eraseIdx k := by
  induction ps with
  | nil => intro k hk; simp at hk
  | cons p ps ih =>
    intro k hk he hn
    have h1 := List.nodup_cons.1 hn
    cases k with
    | zero =>
      simp only [List.getElem_cons_zero] at he
      rw [List.filter_cons_of_neg (by simp [he]), List.eraseIdx_cons_zero, List.filter_eq_self.2]
      intro q hq
      simp only [ne_eq, decide_not, Bool.not_eq_true', decide_eq_false_iff_not]
      intro e
      exact h1.1 (List.mem_map.2 ⟨q, hq, e.trans he.symm⟩)
    | succ k =>
      simp only [List.getElem_cons_succ] at he
      simp only [List.length_cons, Nat.add_lt_add_iff_right] at hk
      rw [List.filter_cons_of_pos, List.eraseIdx_cons_succ, ih hk he h1.2]
      simp only [ne_eq, decide_not, Bool.not_eq_true', decide_eq_false_iff_not]
      intro e
      exact h1.1 (List.mem_map.2 ⟨ps[k], List.getElem_mem hk, he.trans e.symm⟩)
/-- the tasks of other rows are others -/
theorem MI.apart {M : List MRow} (h : MI M) {m x : MRow} (hm : m ∈ M) (hx : x ∈ M) (hne : x.1 ≠ m.1) {p q : Pend} (hp : p ∈ m.2) (hq : q ∈ x.2) : q.task ≠ p.task := by
  intro e
  have h1 := h.tasks
  have hpf : p ∈ flatM M := List.mem_flatMap.2 ⟨m, hm, hp⟩
  have hqf : q ∈ flatM M := List.mem_flatMap.2 ⟨x, hx, hq⟩
  have : q = p := by
    exact nodup_inj h1 hqf hpf e
  subst this
  exact hne ((h.own x hx q hq).symm.trans (h.own m hm q hp))
theorem MI.same {M : List MRow} (h : MI M) {m x : MRow} (hm : m ∈ M) (hx : x ∈ M) (he : x.1 = m.1) : x = m := by
  exact nodup_inj h.keys hx hm he
theorem MI.rowTasks {M : List MRow} (h : MI M) {m : MRow} (hm : m ∈ M) : (m.2.map Pend.task).Nodup :=
  ((List.sublist_flatten_of_mem (List.mem_map.2 ⟨m, hm, rfl⟩)).map Pend.task).nodup (by have := h.tasks; rwa [List.flatMap_def] at this)
/-- a row of several tasks is left -/
theorem MI.drop_more {M : List MRow} (h : MI M) {m : MRow} (hm : m ∈ M) {k : Nat} (hk : k < m.2.length) (h2 : m.2.eraseIdx k ≠ []) : dropM M m.2[k].task = M.map (updM m.1 (·.eraseIdx k)) := by
  unfold dropM
  have e : (M.map fun x => (x.1, x.2.filter fun p => decide (p.task ≠ m.2[k].task))) = M.map (updM m.1 (·.eraseIdx k)) := by
    refine List.map_congr_left fun x hx => ?_
    unfold updM
    split
    · rename_i he
      obtain rfl := h.same hm hx he
      rw [filter_ne_erase hk rfl (h.rowTasks hm)]
    · rename_i he
      have : (x.2.filter fun p => decide (p.task ≠ m.2[k].task)) = x.2 := by
        rw [List.filter_eq_self]
        intro q hq
        simpa using h.apart hm hx he (List.getElem_mem hk) hq
      rw [this]
  rw [e, List.filter_eq_self]
  intro x hx
  obtain ⟨y, hy, rfl⟩ := List.mem_map.1 hx
  unfold updM
  split
  · rename_i he
    obtain rfl := h.same hm hy he
    simpa using h2
  · simpa using h.ne y hy
/-- a row of one task goes -/
theorem MI.drop_one {M : List MRow} (h : MI M) {m : MRow} (hm : m ∈ M) {k : Nat} (hk : k < m.2.length) (h2 : m.2.eraseIdx k = []) : dropM M m.2[k].task = M.filter (fun x => x.1 ≠ m.1) := by
  unfold dropM
  have e : ∀ x ∈ M, (x.2.filter fun p => decide (p.task ≠ m.2[k].task)) = if x.1 = m.1 then [] else x.2 := fun x hx => by
    split
    · rename_i he
      obtain rfl := h.same hm hx he
      rw [filter_ne_erase hk rfl (h.rowTasks hm), h2]
    · rename_i he
      rw [List.filter_eq_self]
      intro q hq
      simpa using h.apart hm hx he (List.getElem_mem hk) hq
  rw [List.filter_map]
  have e2 : M.filter ((fun m : MRow => !m.2.isEmpty) ∘ fun x => (x.1, x.2.filter fun p => decide (p.task ≠ m.2[k].task))) = M.filter (fun x => decide (x.1 ≠ m.1)) := by
    refine List.filter_congr fun x hx => ?_
    simp only [Function.comp]
    rw [e x hx]
    by_cases he : x.1 = m.1
    · rw [if_pos he]; simp [he]
    · rw [if_neg he]
      have := h.ne x hx
      simp [he, this]
  rw [e2]
  refine (List.map_congr_left (g := id) fun x hx => ?_).trans (List.map_id _)
  have hx2 := List.mem_filter.1 hx
  rw [e x hx2.1, if_neg (by simpa using hx2.2)]
  rfl
end Go.Proofs.Ytlemfbgmhjklaaa
