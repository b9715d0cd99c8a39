/- What the document's Set and Drop leave: the sorted list of the same ends, in plain Lean. -/
import Derived.Test.YtmgcigohfccgeaaRW4
import Derived.Test.YtmgcigohfccgeaaDropPlain
namespace Go.Proofs.Ytmgcigohfccgeaa

theorem less_lt (a b : List UInt8) : Op.bytesLess a b = decide (a < b) := by
  have e : ∀ a b : List UInt8, Op.bytesLess a b = bytesBefore a b := by
    intro a
    induction a with
    | nil => intro b; cases b <;> rfl
    | cons x a ih =>
      intro b
      cases b with
      | nil => rfl
      | cons y b =>
        show (x < y || (x == y && Op.bytesLess a b)) = (x < y || (x == y && bytesBefore a b))
        rw [ih b]
  rw [e]
  have h := before_lt a b
  cases hb : bytesBefore a b
  · have : ¬ a < b := fun h2 => by rw [h.2 h2] at hb; cases hb
    simp [this]
  · simp [h.1 hb]
theorem eltB_elt (y x : End) : eltB y x = elt y x := by
  unfold eltB elt
  rw [less_lt, Lib.toList_data, Lib.toList_data]
  congr 1
theorem dropS_others {S : List End} (s : ByteArray) (hn : ND S) : dropS S s = others S s.data.toList := by
  unfold dropS others
  cases hp : pl S s.data.toList with
  | none =>
    have := pl_none_all hp
    rw [List.filter_eq_self.2 (fun x hx => by rw [this x hx]; rfl)]
  | some i =>
    obtain ⟨hi, he⟩ := pl_spec hp
    have key : ∀ (S : List End) (i : Nat) (hi : i < S.length), ND S → S[i].1.data.toList = s.data.toList → S.eraseIdx i = S.filter fun x => !(x.1.data.toList == s.data.toList) := by
      intro S
      induction S with
      | nil => intro i hi; exact absurd hi (Nat.not_lt_zero _)
      | cons y S ih =>
        intro i hi hn he
        unfold ND at hn
        rw [List.map_cons, List.nodup_cons] at hn
        cases i with
        | zero =>
          simp only [List.getElem_cons_zero] at he
          rw [List.filter_cons_of_neg (by simp [he]), List.filter_eq_self.2 (fun x hx => ?_)]
          · rfl
          · simp only [Bool.not_eq_true', beq_eq_false_iff_ne]
            intro e
            exact hn.1 (List.mem_map.2 ⟨x, hx, by rw [e, he]⟩)
        | succ i =>
          have hi' : i < S.length := by simpa using hi
          simp only [List.getElem_cons_succ] at he
          rw [List.filter_cons_of_pos (by
            simp only [Bool.not_eq_true', beq_eq_false_iff_ne]
            intro e
            exact hn.1 (List.mem_map.2 ⟨S[i], List.getElem_mem hi', by rw [he, e]⟩))]
          rw [List.eraseIdx_cons_succ, ih i hi' hn.2 he]
    exact key S i hi hn he
theorem setS_perm {S : List End} (s : ByteArray) (a : Int) (hn : ND S) : (setS S s a).Perm ((s, a) :: others S s.data.toList) := by
  unfold setS
  rw [← dropS_others s hn]
  refine List.perm_middle.trans ?_
  rw [List.take_append_drop]
theorem srt_others {S : List End} (h : Srt S) (s : List UInt8) : Srt (others S s) := List.Pairwise.filter _ h
theorem ins_srt {S : List End} (x : End) (h : Srt S) : Srt (S.take (insJ S x) ++ x :: S.drop (insJ S x)) := by
  have hp := List.pairwise_iff_getElem.1 h
  have hlt : ∀ j (hj : j < S.length), j < insJ S x → elt S[j] x = true := fun j hj hji => by rw [← eltB_elt]; exact insJ_lt hj hji
  have hge : ∀ j (hj : j < S.length), insJ S x ≤ j → elt S[j] x = false := fun j hj hji => by
    have h0 : insJ S x < S.length := by omega
    have h1 : elt S[insJ S x] x = false := by rw [← eltB_elt]; exact insJ_at h0
    by_cases he : insJ S x = j
    · subst he; exact h1
    · have h2 := hp (insJ S x) j h0 hj (by omega)
      exact elt_ok.tr _ _ _ h1 h2
  rw [Srt, List.pairwise_append]
  refine ⟨List.Pairwise.take h, ?_, fun y hy z hz => ?_⟩
  · rw [List.pairwise_cons]
    refine ⟨fun z hz => ?_, List.Pairwise.drop h⟩
    obtain ⟨j, hj, rfl⟩ := List.mem_iff_getElem.1 hz
    rw [List.getElem_drop]
    exact hge _ _ (by omega)
  · obtain ⟨j, hj, rfl⟩ := List.mem_iff_getElem.1 hy
    have hj2 : j < insJ S x ∧ j < S.length := by rw [List.length_take] at hj; omega
    rw [List.getElem_take]
    rcases List.mem_cons.1 hz with rfl | hz
    · exact elt_ok.asym _ _ (hlt j hj2.2 hj2.1)
    · obtain ⟨i, hi, rfl⟩ := List.mem_iff_getElem.1 hz
      rw [List.getElem_drop]
      exact hp _ _ _ _ (by omega)
theorem setS_srt {S : List End} (s : ByteArray) (a : Int) (hn : ND S) (h : Srt S) : Srt (setS S s a) := by
  unfold setS
  refine ins_srt _ ?_
  rw [dropS_others s hn]
  exact srt_others h _
end Go.Proofs.Ytmgcigohfccgeaa
