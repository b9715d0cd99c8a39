/- NtScP. -/
import Derived.Test.YtndjgbknhfficaaNtNum
namespace Go.Proofs.Ytndjgbknhfficaa.Nt
open Go.RowKit Go.Proofs.Ytndjgbknhfficaa Go.Proofs.Ytndjgbknhfficaa.So

def lts (L : List En) : List Lt := L.map (·.l)
theorem edel_erase : ∀ {E : List En} (_ : Rise E) {n : Int} {i : Nat} (hi : i < E.length) (_ : (E[i]'hi).l.no = n), edel E n = E.eraseIdx i
  | a :: r, hr, n, i, hi, hn => by
    have hp : ∀ x ∈ r, a.l.no < x.l.no := fun x hx => by
      have := (List.pairwise_cons.1 (show (a.l.no :: nos r).Pairwise (· < ·) from hr)).1
      exact this _ (List.mem_map_of_mem hx)
    have hr2 : Rise r := (List.pairwise_cons.1 (show (a.l.no :: nos r).Pairwise (· < ·) from hr)).2
    cases i with
    | zero =>
      have hn' : a.l.no = n := hn
      have h1 : edel (a :: r) n = r.filter (fun e => !(e.l.no == n)) := by
        unfold edel
        rw [List.filter_cons_of_neg (by simp [hn'])]
      rw [h1, List.eraseIdx_cons_zero]
      refine List.filter_eq_self.2 fun x hx => ?_
      have := hp x hx
      have h2 : ¬ x.l.no = n := by omega
      simpa using h2
    | succ i =>
      have hi' : i < r.length := by simpa using hi
      have hn' : (r[i]'hi').l.no = n := hn
      have h3 := hp _ (List.getElem_mem hi')
      have h1 : edel (a :: r) n = a :: edel r n := by
        unfold edel
        rw [List.filter_cons_of_pos (by have h2 : ¬ a.l.no = n := by omega
                                        simpa using h2)]
      rw [h1, List.eraseIdx_cons_succ, edel_erase hr2 hi' hn']
theorem lts_len {L E : List En} (h : lts L = lts E) : L.length = E.length := by have := congrArg List.length h; simpa [lts] using this
theorem lts_at {L E : List En} (h : lts L = lts E) {i : Nat} (hi : i < E.length) : (L[i]'(by rw [lts_len h]; exact hi)).l = (E[i]'hi).l := by
  have h1 : (lts L)[i]? = (lts E)[i]? := by rw [h]
  unfold lts at h1
  rw [List.getElem?_map, List.getElem?_map, List.getElem?_eq_getElem hi, List.getElem?_eq_getElem (by rw [lts_len h]; exact hi)] at h1
  simpa using h1
theorem lts_none {L E : List En} (h : lts L = lts E) {n : Int} (hg : eget E n = none) : ∀ e ∈ L, e.l.no ≠ n := fun e he hn => by
  have h1 : e.l ∈ lts E := by rw [← h]; exact List.mem_map_of_mem he
  obtain ⟨x, hx, hxl⟩ := List.mem_map.1 h1
  have h2 := List.find?_eq_none.1 hg x hx
  simp at h2
  rw [hxl] at h2
  exact h2 hn
theorem lts_erase {L E : List En} (h : lts L = lts E) (i : Nat) : lts (L.eraseIdx i) = lts (E.eraseIdx i) := by
  unfold lts at *
  rw [List.eraseIdx_eq_take_drop_succ, List.eraseIdx_eq_take_drop_succ, List.map_append, List.map_append, List.map_take, List.map_take, List.map_drop, List.map_drop, h]
theorem lts_some {L E : List En} (hr : Rise E) (h : lts L = lts E) {n : Int} {x : En} (hg : eget E n = some x) :
    ∃ (i : Nat) (hi : i < L.length), (L[i]'hi).l = x.l ∧ x.l.no = n ∧ (∀ j (hj : j < i), (L[j]'(by omega)).l.no ≠ n) ∧ lts (L.eraseIdx i) = lts (edel E n) := by
  obtain ⟨hm, hn⟩ := eget_mem hg
  obtain ⟨i, hi, hx⟩ := List.getElem_of_mem hm
  have hi2 : i < L.length := by rw [lts_len h]; exact hi
  refine ⟨i, hi2, by rw [lts_at h hi, hx], hn, fun j hj => ?_, ?_⟩
  · rw [lts_at h (by omega)]
    have hp : (nos E).Pairwise (· < ·) := hr
    have := List.pairwise_iff_getElem.1 hp j i (by simp [nos]; omega) (by simp [nos]; omega) hj
    simp only [nos, List.getElem_map] at this
    rw [hx] at this
    omega
  · rw [edel_erase hr hi (by rw [hx]; exact hn)]
    exact lts_erase h i
theorem lts_filter {L E : List En} (h : lts L = lts E) (P : Lt → Bool) : lts (L.filter fun e => P e.l) = lts (E.filter fun e => P e.l) := by
  unfold lts at *
  have e : ∀ M : List En, (M.filter fun e => P e.l).map (·.l) = (M.map (·.l)).filter P := fun M => by
    rw [List.filter_map]; rfl
  rw [e, e, h]
theorem lts_nos {L E : List En} (h : lts L = lts E) : nos L = nos E := by
  have e : ∀ M : List En, nos M = (lts M).map (·.no) := fun M => by unfold nos lts; rw [List.map_map]; rfl
  rw [e, e, h]
theorem lts_pick {L E : List En} (h : lts L = lts E) (x : Int) : pick (fun e => e.l.rc == x) L = pick (fun e => e.l.rc == x) E := lts_nos (lts_filter h (fun l => l.rc == x))
theorem lts_add {L E : List En} (h : lts L = lts E) {a b : En} (hab : a.l = b.l) : lts (L ++ [a]) = lts (E ++ [b]) := by
  unfold lts at *
  rw [List.map_append, List.map_append, h]
  simp [hab]
end Go.Proofs.Ytndjgbknhfficaa.Nt
