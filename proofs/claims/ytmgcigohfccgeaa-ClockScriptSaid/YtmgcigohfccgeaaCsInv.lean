/- What holds of the two watches between the acts of a script, in plain Lean. -/
import Derived.Test.YtmgcigohfccgeaaRNmPlain
import Derived.Test.YtmgcigohfccgeaaTickSort
import Derived.Test.YtmgcigohfccgeaaWatch3
namespace Go.Proofs.Ytmgcigohfccgeaa

structure CsI (k : Nat) (L S : List End) : Prop where
  perm : L.Perm S
  heap : Hp.IsH elt L L.length
  nd : ND L
  srt : Srt S
  ats : ∀ x ∈ L, 0 ≤ x.2 ∧ x.2 ≤ 4611686018427387904
  len : L.length ≤ k
theorem CsI.nds {k : Nat} {L S : List End} (h : CsI k L S) : ND S := h.nd.perm h.perm
theorem CsI.lens {k : Nat} {L S : List End} (h : CsI k L S) : S.length ≤ k := by rw [← h.perm.length_eq]; exact h.len
theorem CsI.mono {k : Nat} {L S : List End} (h : CsI k L S) : CsI (k + 1) L S := ⟨h.perm, h.heap, h.nd, h.srt, h.ats, Nat.le_succ_of_le h.len⟩
theorem CsI.tick {k : Nat} {L S : List End} (h : CsI k L S) (T : Int) : (tick L T).1 = S.takeWhile (dueP T) ∧ CsI (k + 1) (tick L T).2 (S.dropWhile (dueP T)) := by
  have h1 := tick_sorted T S L h.perm h.heap h.srt
  have h2 := tick_perm T L.length L rfl h.heap
  refine ⟨h1.1, h1.2, h2.2.2, tick_nd h.heap h.nd, List.Pairwise.sublist (List.dropWhile_sublist _) h.srt, fun x hx => h.ats x ((List.mem_filter.1 (h2.2.1.mem_iff.1 hx)).1), ?_⟩
  rw [h2.2.1.length_eq]
  exact Nat.le_succ_of_le (Nat.le_trans (List.length_filter_le _ _) h.len)
theorem CsI.drop {k : Nat} {L S : List End} (h : CsI k L S) (s : ByteArray) : CsI (k + 1) (dropL L s.data.toList) (dropS S s) := by
  have hp := drop_perm s.data.toList h.nd
  rw [dropS_others s h.nds]
  refine ⟨hp.trans (h.perm.filter _), drop_heap _ h.heap, ?_, srt_others h.srt _, fun x hx => h.ats x ((List.mem_filter.1 (hp.mem_iff.1 hx)).1), Nat.le_succ_of_le (Nat.le_trans (length_dropL _ _) h.len)⟩
  exact ND.perm (List.Nodup.sublist (List.Sublist.map _ List.filter_sublist) h.nd) hp.symm
theorem CsI.set {k : Nat} {L S : List End} (h : CsI k L S) (s : ByteArray) {a : Int} (h0 : 0 ≤ a) (h1 : a ≤ 4611686018427387904) : CsI (k + 1) (setL L s a) (setS S s a) := by
  have hp := set_perm s a h.nd
  refine ⟨(hp.trans ((h.perm.filter _).cons _)).trans (setS_perm s a h.nds).symm, set_heap s a h.heap, set_nd s a h.nd, setS_srt s a h.nds h.srt, fun x hx => ?_, ?_⟩
  · rcases List.mem_cons.1 (hp.mem_iff.1 hx) with rfl | hx
    · exact ⟨h0, h1⟩
    · exact h.ats x ((List.mem_filter.1 hx).1)
  · rw [hp.length_eq, List.length_cons]
    exact Nat.succ_le_succ (Nat.le_trans (List.length_filter_le _ _) h.len)
theorem CsI.isSome {k : Nat} {L S : List End} (h : CsI k L S) (s : List UInt8) : (pl L s).isSome = (pl S s).isSome := by
  unfold pl
  rw [List.findIdx?_isSome, List.findIdx?_isSome]
  exact h.perm.any_eq
theorem nd_inj : ∀ {L : List End}, ND L → ∀ {x y : End}, x ∈ L → y ∈ L → x.1.data.toList = y.1.data.toList → x = y
  | [], _, _, _, hx, _, _ => by cases hx
  | z :: L, hn, x, y, hx, hy, he => by
    unfold ND at hn
    rw [List.map_cons, List.nodup_cons] at hn
    rcases List.mem_cons.1 hx with rfl | hx
    · rcases List.mem_cons.1 hy with rfl | hy
      · rfl
      · exact absurd (List.mem_map.2 ⟨y, hy, he.symm⟩) hn.1
    · rcases List.mem_cons.1 hy with hyz | hy
      · exact absurd (List.mem_map.2 ⟨x, hx, by rw [he, hyz]⟩) hn.1
      · exact nd_inj hn.2 hx hy he
/-- what is left to a name: the same in both -/
theorem CsI.left {k : Nat} {L S : List End} (h : CsI k L S) (s : List UInt8) (T : Int) {i : Nat} (hi : i < S.length) (hp : pl S s = some i) : leftL L T s = (S[i].2 - T, true) := by
  have hs := h.isSome s
  rw [hp] at hs
  obtain ⟨j, hj⟩ := Option.isSome_iff_exists.1 hs
  obtain ⟨hjl, hje⟩ := pl_spec hj
  obtain ⟨_, hie⟩ := pl_spec hp
  have e : L[j] = S[i] := nd_inj h.nd (List.getElem_mem hjl) (h.perm.mem_iff.2 (List.getElem_mem hi)) (by rw [hje, hie])
  unfold leftL
  rw [hj]
  simp [List.getD, List.getElem?_eq_getElem hjl, e]
theorem CsI.leftNone {k : Nat} {L S : List End} (h : CsI k L S) (s : List UInt8) (T : Int) (hp : pl S s = none) : leftL L T s = (0, false) := by
  have hs := h.isSome s
  rw [hp] at hs
  have : pl L s = none := by simpa using hs
  unfold leftL
  rw [this]
theorem CsI.names {k : Nat} {L S : List End} (h : CsI k L S) : nmS S = bsort (L.map (·.1)) := nm_same h.perm
theorem CsI.new : CsI 0 [] [] := ⟨List.Perm.nil, by unfold Hp.IsH; intros; simp_all, List.Pairwise.nil, List.Pairwise.nil, fun x hx => absurd hx List.not_mem_nil, Nat.le_refl _⟩
end Go.Proofs.Ytmgcigohfccgeaa
