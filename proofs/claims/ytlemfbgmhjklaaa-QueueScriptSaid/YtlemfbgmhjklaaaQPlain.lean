/- The queue, plain: rows of tasks in the order in which they would be asked; the heap that keeps them. -/
import Derived.Test.YtlemfbgmhjklaaaHeap
namespace Go.Proofs.Ytlemfbgmhjklaaa

structure Pend where
  job : ByteArray
  idx : Int
  user : ByteArray
  band : Int
deriving DecidableEq

abbrev Key := ByteArray × Int
def Pend.task (p : Pend) : ByteArray × Int := (p.job, p.idx)
def Pend.key (p : Pend) : Key := (p.user, p.band)

/-- a user's tasks in a band -/
abbrev MRow := Key × List Pend
/-- such a row with the number of its turn -/
structure ARow where
  key : Key
  turn : Int
  ps : List Pend

/-- the order of the rows: by falling band, then by turn -/
def alt (x y : ARow) : Bool := decide (y.key.2 < x.key.2) || (x.key.2 == y.key.2 && decide (x.turn < y.turn))
theorem alt_iff {x y : ARow} : alt x y = true ↔ y.key.2 < x.key.2 ∨ (x.key.2 = y.key.2 ∧ x.turn < y.turn) := by simp [alt]
theorem alt_ok : Hp.Ok alt := by
  refine ⟨fun x y h => ?_, fun x y z h k => ?_⟩
  · rw [alt_iff] at h
    rw [Bool.eq_false_iff]
    intro hh
    rw [alt_iff] at hh
    omega
  · rw [Bool.eq_false_iff] at *
    intro hh
    rw [Ne, alt_iff] at h k
    rw [alt_iff] at hh
    omega

structure QI (T : Int) (L : List ARow) : Prop where
  heap : Hp.IsH alt L L.length
  turn : ∀ r ∈ L, r.turn ≤ T
  turns : (L.map (·.turn)).Nodup

def strip (r : ARow) : MRow := (r.key, r.ps)
def Md (L : List ARow) (M : List MRow) : Prop := ∃ S : List ARow, S.Perm L ∧ S.Pairwise (fun x y => alt x y = true) ∧ M = S.map strip

/-- what holds of the rows -/
structure MI (M : List MRow) : Prop where
  keys : (M.map (·.1)).Nodup
  ne : ∀ m ∈ M, m.2 ≠ []
  own : ∀ m ∈ M, ∀ p ∈ m.2, p.key = m.1
  tasks : ((M.flatMap (·.2)).map Pend.task).Nodup
  falls : M.Pairwise (fun x y => y.1.2 ≤ x.1.2)
  band : ∀ m ∈ M, 0 ≤ m.1.2 ∧ m.1.2 ≤ 3

def insM (M : List MRow) (m : MRow) : List MRow := M.takeWhile (fun x => decide (m.1.2 ≤ x.1.2)) ++ m :: M.dropWhile (fun x => decide (m.1.2 ≤ x.1.2))
def updM (k : Key) (f : List Pend → List Pend) (m : MRow) : MRow := if m.1 = k then (m.1, f m.2) else m
def upd (k : Key) (f : List Pend → List Pend) (r : ARow) : ARow := if r.key = k then ⟨r.key, r.turn, f r.ps⟩ else r
theorem strip_upd (k : Key) (f : List Pend → List Pend) (r : ARow) : strip (upd k f r) = updM k f (strip r) := by
  unfold strip upd updM
  split <;> rfl
theorem upd_key (k : Key) (f : List Pend → List Pend) (r : ARow) : (upd k f r).key = r.key := by unfold upd; split <;> rfl
theorem upd_turn (k : Key) (f : List Pend → List Pend) (r : ARow) : (upd k f r).turn = r.turn := by unfold upd; split <;> rfl
theorem updM_key (k : Key) (f : List Pend → List Pend) (r : MRow) : (updM k f r).1 = r.1 := by unfold updM; split <;> rfl
theorem alt_congr {x x' y y' : ARow} (h1 : x'.key = x.key) (h2 : x'.turn = x.turn) (h3 : y'.key = y.key) (h4 : y'.turn = y.turn) : alt x' y' = alt x y := by
  unfold alt
  rw [h1, h2, h3, h4]

theorem ltAt_map {α β : Type} (f : α → β) (lt : β → β → Bool) (l : List α) (i j : Nat) : Hp.ltAt lt (l.map f) i j = Hp.ltAt (fun x y => lt (f x) (f y)) l i j := by
  unfold Hp.ltAt
  rw [List.getElem?_map, List.getElem?_map]
  cases l[i]? <;> cases l[j]? <;> rfl
theorem isH_map {α β : Type} (f : α → β) (lt : β → β → Bool) (l : List α) (n : Nat) : Hp.IsH lt (l.map f) n ↔ Hp.IsH (fun x y => lt (f x) (f y)) l n := by
  unfold Hp.IsH
  simp only [ltAt_map]

theorem Md.keys {L : List ARow} {M : List MRow} (h : Md L M) : (L.map (·.key)).Perm (M.map (·.1)) := by
  obtain ⟨S, hp, -, rfl⟩ := h
  rw [List.map_map]
  exact (hp.map _).symm
theorem Md.flat {L : List ARow} {M : List MRow} (h : Md L M) : (L.flatMap (·.ps)).Perm (M.flatMap (·.2)) := by
  obtain ⟨S, hp, -, rfl⟩ := h
  rw [List.flatMap_map]
  exact (hp.flatMap_right _).symm
theorem Md.mem {L : List ARow} {M : List MRow} (h : Md L M) {r : ARow} (hr : r ∈ L) : strip r ∈ M := by
  obtain ⟨S, hp, -, rfl⟩ := h
  exact List.mem_map_of_mem (hp.mem_iff.2 hr)
theorem Md.len {L : List ARow} {M : List MRow} (h : Md L M) : L.length = M.length := by
  obtain ⟨S, hp, -, rfl⟩ := h
  rw [List.length_map, hp.length_eq]

/-- the first of the heap is the first of the rows -/
theorem Md.first {T : Int} {r : ARow} {L : List ARow} {M : List MRow} (h : Md (r :: L) M) (hq : QI T (r :: L)) : ∃ M', M = strip r :: M' ∧ Md L M' := by
  obtain ⟨S, hp, hs, rfl⟩ := h
  match S, hp, hs with
  | [], hp, _ => exact absurd hp.length_eq (by simp)
  | s :: S, hp, hs =>
    have he : s = r := by
      by_cases h : s = r
      · exact h
      · have h1 : r ∈ S := by
          have := hp.mem_iff.2 (List.mem_cons_self (a := r) (l := L))
          rcases List.mem_cons.1 this with h2 | h2
          · exact absurd h2.symm h
          · exact h2
        have h2 := (List.pairwise_cons.1 hs).1 r h1
        have h3 : s ∈ r :: L := hp.mem_iff.1 List.mem_cons_self
        obtain ⟨k, hk, hk2⟩ := List.getElem_of_mem h3
        have h4 := Hp.heap_first alt_ok hq.heap k hk
        unfold Hp.ltAt at h4
        rw [List.getElem?_eq_getElem hk, hk2] at h4
        simp at h4
        rw [h4] at h2
        cases h2
    subst he
    exact ⟨S.map strip, rfl, S, (List.perm_cons _).1 hp, (List.pairwise_cons.1 hs).2, rfl⟩
theorem Md.none {M : List MRow} (h : Md [] M) : M = [] := List.eq_nil_of_length_eq_zero h.len.symm

theorem Md.upd {L : List ARow} {M : List MRow} (h : Md L M) (k : Key) (f : List Pend → List Pend) : Md (L.map (upd k f)) (M.map (updM k f)) := by
  obtain ⟨S, hp, hs, rfl⟩ := h
  refine ⟨S.map (Go.Proofs.Ytlemfbgmhjklaaa.upd k f), hp.map _, ?_, ?_⟩
  · rw [List.pairwise_map]
    exact hs.imp fun {a b} h => by rw [alt_congr (upd_key _ _ _) (upd_turn _ _ _) (upd_key _ _ _) (upd_turn _ _ _)]; exact h
  · rw [List.map_map, List.map_map]
    exact List.map_congr_left fun r _ => (strip_upd k f r).symm
theorem QI.upd {T : Int} {L : List ARow} (h : QI T L) (k : Key) (f : List Pend → List Pend) : QI T (L.map (upd k f)) := by
  refine ⟨?_, ?_, ?_⟩
  · rw [List.length_map, isH_map]
    have : (fun x y => alt (Go.Proofs.Ytlemfbgmhjklaaa.upd k f x) (Go.Proofs.Ytlemfbgmhjklaaa.upd k f y)) = alt := by
      funext x y
      exact alt_congr (upd_key _ _ _) (upd_turn _ _ _) (upd_key _ _ _) (upd_turn _ _ _)
    rw [this]
    exact h.heap
  · intro r hr
    obtain ⟨x, hx, rfl⟩ := List.mem_map.1 hr
    rw [upd_turn]
    exact h.turn x hx
  · rw [List.map_map]
    have e : (fun x : ARow => x.turn) ∘ Go.Proofs.Ytlemfbgmhjklaaa.upd k f = (·.turn) := funext fun r => upd_turn k f r
    rw [e]
    exact h.turns
theorem map_upd_none {k : Key} (f : List Pend → List Pend) : ∀ {L : List ARow}, k ∉ L.map (·.key) → L.map (upd k f) = L
  | [], _ => rfl
  | x :: L, h => by
    simp only [List.map_cons, List.mem_cons, not_or] at h
    rw [List.map_cons, map_upd_none f h.2]
    congr 1
    unfold upd
    rw [if_neg (fun e => h.1 e.symm)]
theorem set_upd (f : List Pend → List Pend) : ∀ {L : List ARow} {i : Nat} {r : ARow}, (L.map (·.key)).Nodup → L[i]? = some r → L.set i ⟨r.key, r.turn, f r.ps⟩ = L.map (upd r.key f)
  | [], _, _, _, h => by simp at h
  | x :: L, 0, r, hn, h => by
    simp at h
    subst h
    have h1 := (List.nodup_cons.1 hn).1
    rw [List.set_cons_zero, List.map_cons, map_upd_none f h1]
    congr 1
    unfold upd; rw [if_pos rfl]
  | x :: L, i + 1, r, hn, h => by
    simp at h
    have h1 : x.key ∉ L.map (·.key) := (List.nodup_cons.1 hn).1
    rw [List.set_cons_succ, List.map_cons, set_upd f (List.nodup_cons.1 hn).2 h]
    congr 1
    unfold upd
    rw [if_neg]
    intro e
    exact h1 (by rw [e]; exact List.mem_map_of_mem (List.mem_of_getElem? h))

theorem takeWhile_dropWhile_band {S : List ARow} {b : Int} (hs : S.Pairwise (fun x y => alt x y = true)) : ∀ y ∈ S.dropWhile (fun x => decide (b ≤ x.key.2)), y.key.2 < b := by
  induction S with
  | nil => intro y hy; cases hy
  | cons s S ih =>
    intro y hy
    rw [List.dropWhile_cons] at hy
    by_cases h : b ≤ s.key.2
    · rw [if_pos (by simpa using h)] at hy
      exact ih (List.pairwise_cons.1 hs).2 y hy
    · rw [if_neg (by simpa using h)] at hy
      rcases List.mem_cons.1 hy with rfl | hy
      · omega
      · have := alt_iff.1 ((List.pairwise_cons.1 hs).1 y hy)
        omega
theorem takeWhile_imp {α : Type} {p : α → Bool} : ∀ {l : List α} {y : α}, y ∈ l.takeWhile p → p y = true
  | [], _, h => by simp at h
  | x :: l, y, h => by
    rw [List.takeWhile_cons] at h
    split at h
    · rename_i hx
      rcases List.mem_cons.1 h with rfl | h
      · exact hx
      · exact takeWhile_imp h
    · cases h
/-- a row with a later turn comes behind all of its band -/
theorem Md.ins {T : Int} {L L' : List ARow} {M : List MRow} {x : ARow} (h : Md L M) (ht : ∀ r ∈ L, r.turn ≤ T) (hx : x.turn = T + 1) (hp : L'.Perm (x :: L)) : Md L' (insM M (strip x)) := by
  obtain ⟨S, hS, hs, rfl⟩ := h
  obtain ⟨p, hpp⟩ : ∃ p : ARow → Bool, p = fun y => decide (x.key.2 ≤ y.key.2) := ⟨_, rfl⟩
  have htw : ∀ y ∈ S.takeWhile p, x.key.2 ≤ y.key.2 := fun y hy => by
    have := takeWhile_imp hy
    rw [hpp] at this
    simpa using this
  have hdw : ∀ y ∈ S.dropWhile p, y.key.2 < x.key.2 := by rw [hpp]; exact takeWhile_dropWhile_band hs
  have hst : S = S.takeWhile p ++ S.dropWhile p := List.takeWhile_append_dropWhile.symm
  have hs2 := hs
  rw [hst, List.pairwise_append] at hs2
  refine ⟨S.takeWhile p ++ x :: S.dropWhile p, ?_, ?_, ?_⟩
  · refine (List.perm_middle).trans (((List.perm_cons x).2 ?_).trans hp.symm)
    rw [← hst]
    exact hS
  · rw [List.pairwise_append]
    refine ⟨hs2.1, List.pairwise_cons.2 ⟨fun y hy => alt_iff.2 (.inl (hdw y hy)), hs2.2.1⟩, fun a ha b hb => ?_⟩
    rcases List.mem_cons.1 hb with rfl | hb
    · have h1 := htw a ha
      have h2 := ht a (hS.mem_iff.1 (List.takeWhile_subset _ ha))
      rw [alt_iff]
      omega
    · exact hs2.2.2 a ha b hb
  · unfold insM
    have e : (fun y => decide ((strip x).1.2 ≤ y.1.2)) ∘ strip = p := by rw [hpp]; rfl
    rw [List.map_append, List.map_cons, List.takeWhile_map, List.dropWhile_map, e]

theorem filter_key_none {k : Key} : ∀ {L : List ARow}, k ∉ L.map (·.key) → L.filter (fun r => r.key ≠ k) = L
  | [], _ => rfl
  | x :: L, h => by
    simp only [List.map_cons, List.mem_cons, not_or] at h
    rw [List.filter_cons_of_pos (by simpa using fun e : x.key = k => h.1 e.symm), filter_key_none h.2]
/-- a row is no more -/
theorem Md.rem {L L' : List ARow} {M : List MRow} {x : ARow} (h : Md L M) (hn : (L.map (·.key)).Nodup) (hp : L.Perm (x :: L')) : Md L' (M.filter (fun m => m.1 ≠ x.key)) := by
  obtain ⟨S, hS, hs, rfl⟩ := h
  have h1 : x.key ∉ L'.map (·.key) := (List.nodup_cons.1 ((hp.map (·.key)).nodup_iff.1 hn)).1
  refine ⟨S.filter (fun r => r.key ≠ x.key), ?_, hs.filter _, ?_⟩
  · have := (hS.trans hp).filter (fun r => decide (r.key ≠ x.key))
    rw [List.filter_cons_of_neg (by simp)] at this
    rw [filter_key_none h1] at this
    exact this
  · rw [List.filter_map]
    rfl
theorem QI.rem {T : Int} {L L' : List ARow} {x : ARow} (h : QI T L) (hp : L.Perm (x :: L')) (hh : Hp.IsH alt L' L'.length) : QI T L' :=
  ⟨hh, fun r hr => h.turn r (hp.mem_iff.2 (List.mem_cons_of_mem _ hr)), (List.nodup_cons.1 ((hp.map (·.turn)).nodup_iff.1 h.turns)).2⟩
theorem QI.ins {T : Int} {L L' : List ARow} {x : ARow} (ht : ∀ r ∈ L, r.turn ≤ T) (hn : (L.map (·.turn)).Nodup) (hx : x.turn = T + 1) (hp : L'.Perm (x :: L)) (hh : Hp.IsH alt L' L'.length) : QI (T + 1) L' := by
  refine ⟨hh, fun r hr => ?_, (hp.map (·.turn)).nodup_iff.2 (List.nodup_cons.2 ⟨fun hm => ?_, hn⟩)⟩
  · rcases List.mem_cons.1 (hp.mem_iff.1 hr) with rfl | h
    · omega
    · have := ht r h; omega
  · obtain ⟨r, hr, e⟩ := List.mem_map.1 hm
    have h1 := ht r hr
    have h2 : r.turn = x.turn := e
    omega
end Go.Proofs.Ytlemfbgmhjklaaa
