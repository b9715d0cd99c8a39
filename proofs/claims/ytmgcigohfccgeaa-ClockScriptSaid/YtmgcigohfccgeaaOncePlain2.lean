/- ClockOnce's two inner loops, in plain Lean. -/
import Derived.Test.YtmgcigohfccgeaaOncePlain
namespace Go.Proofs.Ytmgcigohfccgeaa

def mixC (s : List UInt8) (ns : List ByteArray) (X R : List Int) (m : Nat) : List Int := clearN s (ns.take m) (X.take m) ++ (X.drop m ++ R)
theorem mixC_zero (s : List UInt8) (ns : List ByteArray) (X R : List Int) : mixC s ns X R 0 = X ++ R := by simp [mixC, clearN]
theorem mixC_end (s : List UInt8) (ns : List ByteArray) (X R : List Int) : mixC s ns X R X.length = clearN s (ns.take X.length) X ++ R := by simp [mixC]
theorem clearN_len (s : List UInt8) (ns : List ByteArray) (X : List Int) (m : Nat) (h1 : m ≤ ns.length) (h2 : m ≤ X.length) : (clearN s (ns.take m) (X.take m)).length = m := by
  rw [length_clearN]; simp; omega
theorem clearN_succ (s : List UInt8) (ns : List ByteArray) (X : List Int) (m : Nat) (h1 : m < ns.length) (h2 : m < X.length) :
    clearN s (ns.take (m + 1)) (X.take (m + 1)) = clearN s (ns.take m) (X.take m) ++ [if ns[m].data.toList == s then 0 else X[m]] := by
  unfold clearN
  rw [List.take_succ_eq_append_getElem h1, List.take_succ_eq_append_getElem h2, List.zipWith_append (by simp; omega)]
  rfl
theorem mixC_get (s : List UInt8) (ns : List ByteArray) (X R : List Int) (m : Nat) (h1 : m < ns.length) (h2 : m < X.length) : (mixC s ns X R m)[m]? = some X[m] := by
  unfold mixC
  rw [List.getElem?_append_right (by rw [clearN_len s ns X m (by omega) (by omega)]; omega), clearN_len s ns X m (by omega) (by omega)]
  rw [List.getElem?_append_left (by simp; omega)]
  simp [h2]
theorem mixC_set (s : List UInt8) (ns : List ByteArray) (X R : List Int) (m : Nat) (h1 : m < ns.length) (h2 : m < X.length) (h : (ns[m].data.toList == s) = true) : (mixC s ns X R m).set m 0 = mixC s ns X R (m + 1) := by
  unfold mixC
  rw [clearN_succ s ns X m h1 h2, if_pos h, List.set_append_right _ _ (by rw [clearN_len s ns X m (by omega) (by omega)]; omega), clearN_len s ns X m (by omega) (by omega), List.drop_eq_getElem_cons h2]
  simp [-List.getElem_cons_drop]
theorem mixC_keep (s : List UInt8) (ns : List ByteArray) (X R : List Int) (m : Nat) (h1 : m < ns.length) (h2 : m < X.length) (h : (ns[m].data.toList == s) = false) : mixC s ns X R m = mixC s ns X R (m + 1) := by
  unfold mixC
  rw [clearN_succ s ns X m h1 h2, h, List.drop_eq_getElem_cons h2]
  simp [-List.getElem_cons_drop]
theorem mem_clearN {s : List UInt8} : ∀ {ns : List ByteArray} {X : List Int} {x : Int}, x ∈ clearN s ns X → x = 0 ∨ x ∈ X
  | [], X, x, h => by simp [clearN] at h
  | a :: ns, [], x, h => by simp [clearN] at h
  | a :: ns, y :: X, x, h => by
    unfold clearN at h
    rw [List.zipWith_cons_cons, List.mem_cons] at h
    rcases h with h | h
    · by_cases h1 : (a.data.toList == s) = true
      · rw [if_pos h1] at h; exact .inl h
      · rw [if_neg h1] at h; exact .inr (by simp [h])
    · rcases mem_clearN (ns := ns) (X := X) h with h | h
      · exact .inl h
      · exact .inr (by simp [h])

theorem length_setL (L : List End) (s : ByteArray) (a : Int) (hn : ND L) : (setL L s a).length ≤ L.length + 1 := by
  rw [(set_perm s a hn).length_eq]
  simp only [List.length_cons]
  have := List.length_filter_le (fun x : End => !(x.1.data.toList == s.data.toList)) L
  unfold others
  omega
theorem set_once {L : List End} {ns : List ByteArray} {X : List Int} {k : Nat} {n : Int} (hk : k < ns.length) (hX : X.length = k) (hn : 0 < n) (hnd : ND L) (hp : L.Perm (act (ns.take k) X)) :
    (setL L ns[k] n).Perm (act (ns.take (k + 1)) (clearN ns[k].data.toList (ns.take k) X ++ [n])) := by
  rw [List.take_succ_eq_append_getElem hk, act_append (by rw [length_clearN]; simp; omega), act_clear, act_cons, if_pos hn, act_nil]
  refine (set_perm ns[k] n hnd).trans ?_
  refine List.Perm.trans (List.Perm.cons _ (hp.filter _)) ?_
  exact (List.perm_append_singleton _ _).symm

/-! ### the due ones -/
def mixD (t : Int) (xs : List Int) (k : Nat) : List Int := due t (xs.take k) ++ xs.drop k
theorem mixD_zero (t : Int) (xs : List Int) : mixD t xs 0 = xs := by simp [mixD, due]
theorem mixD_end (t : Int) (xs : List Int) : mixD t xs xs.length = due t xs := by simp [mixD]
theorem due_len (t : Int) (xs : List Int) : (due t xs).length = xs.length := by simp [due]
theorem due_succ (t : Int) (xs : List Int) (k : Nat) (h : k < xs.length) : due t (xs.take (k + 1)) = due t (xs.take k) ++ [if xs[k] ≤ t then 0 else xs[k]] := by
  unfold due
  rw [List.take_succ_eq_append_getElem h, List.map_append]
  rfl
theorem mixD_get (t : Int) (xs : List Int) (k : Nat) (h : k < xs.length) : (mixD t xs k)[k]? = some xs[k] := by
  unfold mixD
  rw [List.getElem?_append_right (by rw [due_len]; simp; omega), due_len]
  simp [Nat.min_eq_left (Nat.le_of_lt h), h]
theorem mixD_set (t : Int) (xs : List Int) (k : Nat) (h : k < xs.length) (hx : xs[k] ≤ t) : (mixD t xs k).set k 0 = mixD t xs (k + 1) := by
  unfold mixD
  have hl : (due t (xs.take k)).length = k := by rw [due_len]; simp; omega
  rw [due_succ t xs k h, if_pos hx, List.set_append_right _ _ (by omega), hl, List.drop_eq_getElem_cons h]
  simp [-List.getElem_cons_drop]
theorem mixD_keep (t : Int) (xs : List Int) (k : Nat) (h : k < xs.length) (hx : t < xs[k] ∨ xs[k] = 0) : mixD t xs k = mixD t xs (k + 1) := by
  unfold mixD
  rw [due_succ t xs k h, List.drop_eq_getElem_cons h]
  have : (if xs[k] ≤ t then 0 else xs[k]) = xs[k] := by split <;> omega
  rw [this]
  simp
theorem mem_due {t : Int} {xs : List Int} {x : Int} (h : x ∈ due t xs) : x = 0 ∨ x ∈ xs := by
  unfold due at h
  obtain ⟨y, hy, rfl⟩ := List.mem_map.1 h
  split
  · exact .inl rfl
  · exact .inr hy

def dueN (t : Int) (ns : List ByteArray) (xs : List Int) : Nat := ((act ns xs).filter fun x => decide (x.2 ≤ t)).length
theorem dueN_zero (t : Int) (ns : List ByteArray) (xs : List Int) : dueN t (ns.take 0) (xs.take 0) = 0 := by simp [dueN, act]
theorem dueN_le (t : Int) (ns : List ByteArray) (xs : List Int) : dueN t ns xs ≤ ns.length := by
  unfold dueN act
  refine Nat.le_trans (List.length_filter_le _ _) (Nat.le_trans (List.length_filter_le _ _) ?_)
  rw [List.length_zip]; omega
theorem dueN_yes (t : Int) (ns : List ByteArray) (xs : List Int) (k : Nat) (h1 : k < ns.length) (h2 : k < xs.length) (h : 0 < xs[k]) (ht : xs[k] ≤ t) : dueN t (ns.take (k + 1)) (xs.take (k + 1)) = dueN t (ns.take k) (xs.take k) + 1 := by
  unfold dueN
  rw [List.take_succ_eq_append_getElem h1, List.take_succ_eq_append_getElem h2, act_append (by simp; omega), List.filter_append, List.length_append, act_cons, if_pos h, act_nil]
  simp [ht]
theorem dueN_no (t : Int) (ns : List ByteArray) (xs : List Int) (k : Nat) (h1 : k < ns.length) (h2 : k < xs.length) (h : ¬ (0 < xs[k] ∧ xs[k] ≤ t)) : dueN t (ns.take (k + 1)) (xs.take (k + 1)) = dueN t (ns.take k) (xs.take k) := by
  unfold dueN
  rw [List.take_succ_eq_append_getElem h1, List.take_succ_eq_append_getElem h2, act_append (by simp; omega), List.filter_append, List.length_append, act_cons, act_nil]
  split
  · rw [List.filter_cons_of_neg (by simp; omega)]; simp
  · simp
theorem told_len {L : List End} {T : Int} {ns : List ByteArray} {xs : List Int} (hh : Hp.IsH elt L L.length) (hp : L.Perm (act ns xs)) : (tick L T).1.length = dueN T ns xs := by
  rw [(tick_perm T L.length L rfl hh).1.length_eq, (hp.filter _).length_eq]
  rfl
theorem told_has {L : List End} {T : Int} {ns : List ByteArray} {xs : List Int} (hh : Hp.IsH elt L L.length) (hp : L.Perm (act ns xs)) {k : Nat} (h1 : k < ns.length) (h2 : k < xs.length) (h : 0 < xs[k]) (ht : xs[k] ≤ T) :
    hasT ((tick L T).1.map (·.1)) ns[k].data.toList = true := by
  refine hasT_of_mem (x := (ns[k], xs[k])) ?_
  rw [(tick_perm T L.length L rfl hh).1.mem_iff, List.mem_filter]
  refine ⟨?_, by simpa using ht⟩
  rw [hp.mem_iff]
  unfold act
  rw [List.mem_filter]
  refine ⟨?_, by simpa using h⟩
  exact List.mem_iff_getElem.2 ⟨k, by simp; omega, by simp⟩
theorem tick_rest {L : List End} {T : Int} {ns : List ByteArray} {xs : List Int} (hT : 0 ≤ T) (hh : Hp.IsH elt L L.length) (hn : ND L) (hp : L.Perm (act ns xs)) :
    Hp.IsH elt (tick L T).2 (tick L T).2.length ∧ ND (tick L T).2 ∧ (tick L T).2.Perm (act ns (due T xs)) := by
  obtain ⟨h1, h2, h3⟩ := tick_perm T L.length L rfl hh
  refine ⟨h3, tick_nd hh hn, h2.trans ?_⟩
  rw [act_due T hT]
  exact hp.filter _
theorem tick_rest_len {L : List End} {T : Int} (hh : Hp.IsH elt L L.length) : (tick L T).2.length ≤ L.length := by
  rw [(tick_perm T L.length L rfl hh).2.1.length_eq]
  exact List.length_filter_le _ _
end Go.Proofs.Ytmgcigohfccgeaa
