/- The document's names and the program's: both are the sorted list. -/
import Derived.Test.YtmgcigohfccgeaaRW6
import Derived.Test.YtmgcigohfccgeaaWNm
import Derived.Test.YtmgcigohfccgeaaRWPlain
import Derived.Test.YtmgcigohfccgeaaByteOrd
namespace Go.Proofs.Ytmgcigohfccgeaa

theorem nmIns_perm (ns : List ByteArray) (nm : ByteArray) : (nmIns ns nm).Perm (nm :: ns) := by
  unfold nmIns
  refine List.perm_middle.trans ?_
  rw [List.take_append_drop]
theorem nmIns_nil (nm : ByteArray) : nmIns [] nm = [nm] := rfl
theorem nmIns_cons (y : ByteArray) (ns : List ByteArray) (nm : ByteArray) : nmIns (y :: ns) nm = if Op.bytesLess y.toList nm.toList = true then y :: nmIns ns nm else nm :: y :: ns := by
  unfold nmIns nmI
  rw [List.findIdx_cons]
  cases Op.bytesLess y.toList nm.toList <;> simp
def Upw (ns : List ByteArray) : Prop := ns.Pairwise fun a b => a.data.toList ≤ b.data.toList
theorem nmIns_up {ns : List ByteArray} {nm : ByteArray} (h : Upw ns) : Upw (nmIns ns nm) := by
  unfold Upw at *
  induction ns with
  | nil => rw [nmIns_nil]; exact List.pairwise_singleton _ _
  | cons y ns ih =>
    rw [List.pairwise_cons] at h
    rw [nmIns_cons, less_lt, Lib.toList_data, Lib.toList_data]
    by_cases hlt : y.data.toList < nm.data.toList
    · rw [if_pos (by simpa using hlt), List.pairwise_cons]
      refine ⟨fun z hz => ?_, ih h.2⟩
      rcases List.mem_cons.1 ((nmIns_perm ns nm).mem_iff.1 hz) with rfl | hz
      · exact List.le_of_lt hlt
      · exact h.1 z hz
    · rw [if_neg (by simpa using hlt), List.pairwise_cons]
      have h1 := List.not_lt.1 hlt
      refine ⟨fun z hz => ?_, List.pairwise_cons.2 h⟩
      rcases List.mem_cons.1 hz with rfl | hz
      · exact h1
      · exact List.le_trans h1 (h.1 z hz)
theorem nmS_all (S : List End) : ∀ i, i ≤ S.length → Upw (nmS (S.take i)) ∧ (nmS (S.take i)).Perm ((S.take i).map (·.1))
  | 0, _ => ⟨List.Pairwise.nil, List.Perm.refl _⟩
  | i + 1, h => by
    have ih := nmS_all S i (by omega)
    have hi : i < S.length := h
    rw [nmS_next hi]
    refine ⟨nmIns_up ih.1, (nmIns_perm _ _).trans ?_⟩
    rw [List.take_succ_eq_append_getElem hi, List.map_append]
    exact ((List.Perm.cons _ ih.2).trans (List.perm_append_singleton _ _).symm)
theorem nm_same {L S : List End} (h : L.Perm S) : nmS S = bsort (L.map (·.1)) := by
  have ha := nmS_all S S.length (Nat.le_refl _)
  rw [List.take_length] at ha
  have key : (nmS S).map (fun b => b.data.toList) = ((L.map (·.1)).map fun b => b.data.toList).mergeSort (fun x y => decide (x ≤ y)) := by
    have h1 := List.pairwise_mergeSort (le := fun x y : List UInt8 => decide (x ≤ y)) (fun a b c h1 h2 => by
      simp only [decide_eq_true_eq] at *
      exact List.le_trans h1 h2) (fun a b => by
      simp only [Bool.or_eq_true, decide_eq_true_eq]
      exact List.le_total a b) ((L.map (·.1)).map fun b => b.data.toList)
    have h3 : ((nmS S).map (fun b => b.data.toList)).Pairwise (fun x y => decide (x ≤ y) = true) := by
      rw [List.pairwise_map]
      exact ha.1.imp fun {a b} h => by simpa using h
    refine List.Perm.eq_of_pairwise (le := fun x y => decide (x ≤ y) = true) (fun a b _ _ h1 h2 => ?_) h3 h1 ?_
    · simp only [decide_eq_true_eq] at h1 h2
      exact List.le_antisymm h1 h2
    · exact ((ha.2.trans (h.symm.map _)).map _).trans (List.mergeSort_perm _ _).symm
  unfold bsort
  rw [← key, List.map_map]
  exact (List.map_id'' (fun b => rfl) _).symm
end Go.Proofs.Ytmgcigohfccgeaa
