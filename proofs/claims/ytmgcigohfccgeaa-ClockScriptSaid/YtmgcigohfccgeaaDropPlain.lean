/- What Set and Drop leave, in plain Lean: all ends but the name's. -/
import Derived.Test.YtmgcigohfccgeaaTickPlain
namespace Go.Proofs.Ytmgcigohfccgeaa

/-- no name has two ends -/
def ND (L : List End) : Prop := (L.map fun x => x.1.data.toList).Nodup
def others (L : List End) (s : List UInt8) : List End := L.filter fun x => !(x.1.data.toList == s)

theorem ND.perm {L M : List End} (h : ND L) (hp : L.Perm M) : ND M := (hp.map _).nodup_iff.1 h

theorem pl_none_all {L : List End} {s : List UInt8} (h : pl L s = none) : ∀ x ∈ L, (x.1.data.toList == s) = false := by
  unfold pl at h
  rw [List.findIdx?_eq_none_iff] at h
  exact fun x hx => h x hx

theorem drop_perm {L : List End} (s : List UInt8) (hn : ND L) : (dropL L s).Perm (others L s) := by
  unfold dropL others
  cases hp : pl L s with
  | none =>
    have := pl_none_all hp
    rw [List.filter_eq_self.2 (fun x hx => by rw [this x hx]; rfl)]
  | some i =>
    obtain ⟨hi, he⟩ := pl_spec hp
    have h1 := Hp.remove_perm elt L i L[i] (List.getElem?_eq_getElem hi)
    have h2 := hn.perm h1
    unfold ND at h2
    rw [List.map_cons, List.nodup_cons] at h2
    refine List.Perm.trans ?_ (h1.filter _).symm
    rw [List.filter_cons_of_neg (by simp [he])]
    rw [List.filter_eq_self.2 (fun x hx => ?_)]
    simp only [Bool.not_eq_true', beq_eq_false_iff_ne]
    intro e
    exact h2.1 (List.mem_map.2 ⟨x, hx, by rw [e, he]⟩)

theorem drop_heap {L : List End} (s : List UInt8) (h : Hp.IsH elt L L.length) : Hp.IsH elt (dropL L s) (dropL L s).length := by
  unfold dropL
  cases hp : pl L s with
  | none => exact h
  | some i =>
    obtain ⟨hi, -⟩ := pl_spec hp
    exact Hp.remove_heap elt_ok h hi

theorem set_perm {L : List End} (s : ByteArray) (a : Int) (hn : ND L) : (setL L s a).Perm ((s, a) :: others L s.data.toList) :=
  (Hp.push_perm elt _ _).trans ((drop_perm _ hn).cons _)
theorem set_heap {L : List End} (s : ByteArray) (a : Int) (h : Hp.IsH elt L L.length) : Hp.IsH elt (setL L s a) (setL L s a).length :=
  Hp.push_heap elt_ok (drop_heap _ h) _
theorem set_nd {L : List End} (s : ByteArray) (a : Int) (hn : ND L) : ND (setL L s a) := by
  refine ND.perm (L := (s, a) :: others L s.data.toList) ?_ (set_perm s a hn).symm
  unfold ND
  rw [List.map_cons, List.nodup_cons]
  constructor
  · intro h
    obtain ⟨x, hx, he⟩ := List.mem_map.1 h
    have := (List.mem_filter.1 hx).2
    simp [he] at this
  · exact List.Nodup.sublist (List.Sublist.map _ List.filter_sublist) hn
theorem tick_nd {L : List End} {T : Int} (h : Hp.IsH elt L L.length) (hn : ND L) : ND (tick L T).2 := by
  refine ND.perm ?_ (tick_perm T L.length L rfl h).2.1.symm
  exact List.Nodup.sublist (List.Sublist.map _ List.filter_sublist) hn
end Go.Proofs.Ytmgcigohfccgeaa
