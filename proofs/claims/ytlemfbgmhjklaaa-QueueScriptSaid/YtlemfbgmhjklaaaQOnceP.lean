/- The queue, plain: what was put in and is neither taken nor dropped is what waits. -/
import Derived.Test.YtlemfbgmhjklaaaQTurnsP
import Derived.Test.YtlemfbgmhjklaaaQMem2
namespace Go.Proofs.Ytlemfbgmhjklaaa

theorem putE_zero {M : List MRow} {p : Pend} (h : putE M p = 0) : ¬ badP p ∧ hasM M p.task = false ∧ putS M p = putM M p := by
  unfold putE at h
  unfold putS
  by_cases hb : badP p
  · rw [if_pos hb] at h; cases h
  · rw [if_neg hb] at h ⊢
    cases hq : hasM M p.task
    · exact ⟨hb, rfl, by rw [if_neg (by simp)]⟩
    · rw [hq, if_pos rfl] at h; cases h
theorem putE_not {M : List MRow} {p : Pend} (h : putE M p ≠ 0) : putS M p = M := by
  unfold putE at h
  unfold putS
  by_cases hb : badP p
  · rw [if_pos hb]
  · rw [if_neg hb] at h ⊢
    cases hq : hasM M p.task
    · rw [hq, if_neg (by simp)] at h; exact absurd rfl h
    · rw [if_pos rfl]
theorem putM_flat {M : List MRow} {p : Pend} (h : MI M) : (flatM (putM M p)).Perm (p :: flatM M) := by
  unfold putM
  split
  · rename_i hk
    exact flat_upd p.key p h.keys hk
  · have := (insM_perm M (p.key, [p])).flatMap_right (·.2)
    rw [List.flatMap_cons] at this
    exact this
/-- whoever is next is of no lower band than any -/
theorem head_top {M : List MRow} (h : MI M) {x : Pend} (hx : headM M = some x) : ∀ p ∈ flatM M, p.band ≤ x.band := by
  match M, h with
  | [], _ => cases hx
  | m :: M, h =>
    obtain ⟨q, tl, hm, hq⟩ := h.head
    rw [hq] at hx
    cases hx
    have hxk : x.band = m.1.2 := by
      have := h.own m List.mem_cons_self x (by rw [hm]; exact List.mem_cons_self)
      rw [← this]
      rfl
    intro p hp
    obtain ⟨y, hy, hpy⟩ := List.mem_flatMap.1 hp
    have hpk : p.band = y.1.2 := by rw [← h.own y hy p hpy]; rfl
    rw [hpk, hxk]
    rcases List.mem_cons.1 hy with rfl | hy
    · exact Int.le_refl _
    · exact (List.pairwise_cons.1 h.falls).1 y hy
theorem erase_perm {I : List Pend} {k : Nat} (hk : k < I.length) : I.Perm (I[k] :: I.eraseIdx k) := by
  have h1 : I = I.take k ++ I[k] :: I.drop (k + 1) := by
    conv => lhs; rw [← List.take_append_drop k I, List.drop_eq_getElem_cons hk]
  rw [List.eraseIdx_eq_take_drop_succ]
  conv => lhs; rw [h1]
  exact List.perm_middle
theorem once_take {I : List Pend} {M : List MRow} (h : MI M) (hp : I.Perm (flatM M)) {k : Nat} (hk : k < I.length) {x : Pend} (hx : headM M = some x) (he : I[k] = x) : (I.eraseIdx k).Perm (flatM (takeM M)) := by
  have h1 := (erase_perm hk).symm.trans (hp.trans (flatM_take h hx))
  rw [he] at h1
  exact (List.perm_cons x).1 h1
theorem once_drop {I : List Pend} {M : List MRow} (h : MI M) (hp : I.Perm (flatM M)) {k : Nat} (hk : k < I.length) : (I.eraseIdx k).Perm (flatM (dropM M I[k].task)) := by
  have hn : (I.map Pend.task).Nodup := (hp.map _).nodup_iff.2 h.tasks
  rw [flat_drop, ← filter_ne_erase hk rfl hn]
  exact hp.filter _
theorem once_none {I : List Pend} {M : List MRow} (hp : I.Perm (flatM M)) (t : ByteArray × Int) (h : hasM M t = false) : (flatM (dropM M t)) = flatM M := by
  rw [flat_drop, List.filter_eq_self]
  intro q hq
  simp only [ne_eq, decide_not, Bool.not_eq_true', decide_eq_false_iff_not]
  intro e
  have := hasM_iff.2 ⟨q, hq, e⟩
  rw [h] at this
  cases this
theorem once_find {I : List Pend} {M : List MRow} (hp : I.Perm (flatM M)) {t : ByteArray × Int} (h : hasM M t = true) : ∃ k, ∃ hk : k < I.length, I[k].task = t := by
  obtain ⟨p, hm, e⟩ := hasM_iff.1 h
  obtain ⟨k, hk, he⟩ := List.getElem_of_mem (hp.mem_iff.2 hm)
  exact ⟨k, hk, by rw [he]; exact e⟩
end Go.Proofs.Ytlemfbgmhjklaaa
