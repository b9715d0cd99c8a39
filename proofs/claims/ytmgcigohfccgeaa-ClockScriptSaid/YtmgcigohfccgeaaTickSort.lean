/- What a tick tells, in its order: the due ones of the sorted list. In plain Lean. -/
import Derived.Test.YtmgcigohfccgeaaOncePlain2
namespace Go.Proofs.Ytmgcigohfccgeaa

theorem ba_ext {a b : ByteArray} (h : a.data.toList = b.data.toList) : a = b := by
  cases a with | mk a => cases b with | mk b => simp at h; rw [h]
theorem elt_total {x y : End} (h1 : elt x y = false) (h2 : elt y x = false) : x = y := by
  unfold elt at h1 h2
  simp only [Bool.or_eq_false_iff, Bool.and_eq_false_iff, decide_eq_false_iff_not, beq_eq_false_iff_ne, ne_eq] at h1 h2
  have e2 : x.2 = y.2 := by omega
  have a1 : ¬ x.1.data.toList < y.1.data.toList := h1.2.resolve_left (by omega)
  have a2 : ¬ y.1.data.toList < x.1.data.toList := h2.2.resolve_left (by omega)
  rw [List.not_lt] at a1 a2
  exact Prod.ext (ba_ext (List.le_antisymm a2 a1)) e2

/-- sorted by end, then by name -/
def Srt (S : List End) : Prop := S.Pairwise fun x y => elt y x = false
def dueP (T : Int) (x : End) : Bool := decide (x.2 ≤ T)

theorem first_srt {L S : List End} {x : End} (hp : L.Perm (x :: S)) (hh : Hp.IsH elt L L.length) (hs : Srt (x :: S)) : L[0]? = some x := by
  have hl : 0 < L.length := by have := hp.length_eq; simp only [List.length_cons] at this; omega
  have hy : L[0]? = some L[0] := List.getElem?_eq_getElem hl
  rw [hy]
  congr 1
  have hx : x ∈ L := hp.mem_iff.2 (by simp)
  obtain ⟨k, hk, e⟩ := List.getElem_of_mem hx
  have h1 : elt x L[0] = false := by
    have := Hp.heap_first elt_ok hh k hk
    unfold Hp.ltAt at this
    rw [hy, List.getElem?_eq_getElem hk, e] at this
    simpa using this
  have h2 : L[0] ∈ x :: S := hp.mem_iff.1 (List.getElem_mem hl)
  rcases List.mem_cons.1 h2 with h2 | h2
  · exact h2
  · exact elt_total ((List.pairwise_cons.1 hs).1 _ h2) h1

theorem tick_sorted (T : Int) : ∀ (S L : List End), L.Perm S → Hp.IsH elt L L.length → Srt S → (tick L T).1 = S.takeWhile (dueP T) ∧ (tick L T).2.Perm (S.dropWhile (dueP T))
  | [], L, hp, _, _ => by
    obtain rfl := hp.eq_nil
    rw [tick_nil]
    exact ⟨rfl, by simp⟩
  | x :: S, L, hp, hh, hs => by
    have hx := first_srt hp hh hs
    by_cases hle : x.2 ≤ T
    · have hd : dueP T x = true := by simpa [dueP] using hle
      have hr := Hp.remove_perm elt L 0 x hx
      have h2 : (Hp.remove elt L 0).Perm S := List.Perm.cons_inv (hr.symm.trans hp)
      have hl : 0 < L.length := by have := hp.length_eq; simp only [List.length_cons] at this; omega
      obtain ⟨h3, h4⟩ := tick_sorted T S _ h2 (Hp.remove_heap elt_ok hh hl) (List.pairwise_cons.1 hs).2
      rw [tick_go hx hle, List.takeWhile_cons_of_pos hd, List.dropWhile_cons_of_pos hd]
      exact ⟨by rw [h3], h4⟩
    · have hd : ¬ dueP T x = true := by simpa [dueP] using hle
      rw [tick_stop hx hle, List.takeWhile_cons_of_neg hd, List.dropWhile_cons_of_neg hd]
      exact ⟨rfl, hp⟩
end Go.Proofs.Ytmgcigohfccgeaa
