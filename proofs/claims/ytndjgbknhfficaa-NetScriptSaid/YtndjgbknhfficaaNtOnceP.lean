/- NtOnceP. -/
import Derived.Test.YtndjgbknhfficaaNtNum
namespace Go.Proofs.Ytndjgbknhfficaa.Nt
open Go.RowKit Go.Proofs.Ytndjgbknhfficaa Go.Proofs.Ytndjgbknhfficaa.So

structure OnceP (last : Int) (E Sn : List En) (Ov : List Int) (k : Nat) : Prop where
  ni : NI last E k
  bd : ∀ e ∈ E, e.l.bd.length ≤ 16384
  src : ∀ e ∈ E, ∃ s ∈ Sn, s.l = ⟨e.l.fi, e.l.fi, e.l.sd, e.l.rc, e.l.bd⟩
  rs : Rise Sn
  lo : ∀ s ∈ Sn, s.l.no ≤ last
  ov : ∀ n ∈ Ov, n ≤ last ∧ ∀ e ∈ E, e.l.no ≠ n
  ns : Sn.length ≤ k
  no : Ov.length ≤ k
variable {last : Int} {E Sn : List En} {Ov : List Int} {k : Nat}
theorem OnceP.nil : OnceP 0 [] [] [] 0 := ⟨⟨by unfold Rise nos; simp, by simp, by simp, ⟨by omega, by omega⟩, Nat.le_refl _⟩, by simp, by simp, by unfold Rise nos; simp, by simp, by simp, Nat.le_refl _, Nat.le_refl _⟩
theorem OnceP.more (h : OnceP last E Sn Ov k) : OnceP last E Sn Ov (k + 1) := ⟨h.ni.more (by omega), h.bd, h.src, h.rs, h.lo, h.ov, by have := h.ns; omega, by have := h.no; omega⟩
theorem OnceP.send (h : OnceP last E Sn Ov k) (sd rc : Int) (bd : List UInt8) (v u : Value) (hb : bd.length ≤ 16384) : OnceP (last + 1) (E ++ [⟨⟨last + 1, last + 1, sd, rc, bd⟩, v⟩]) (Sn ++ [⟨⟨last + 1, last + 1, sd, rc, bd⟩, u⟩]) Ov (k + 1) := by
  have hl := h.ni.last
  refine ⟨h.ni.add rfl (by simp; omega), fun e he => ?_, fun e he => ?_, h.rs.add fun x hx => ?_, fun s hs => ?_, fun n hn => ⟨?_, fun e he => ?_⟩, ?_, ?_⟩
  · rcases List.mem_append.1 he with he | he
    · exact h.bd e he
    · simp at he; subst he; exact hb
  · rcases List.mem_append.1 he with he | he
    · obtain ⟨s, hs, h2⟩ := h.src e he
      exact ⟨s, List.mem_append_left _ hs, h2⟩
    · simp at he; subst he
      exact ⟨_, List.mem_append_right _ (List.mem_singleton.2 rfl), rfl⟩
  · have := h.lo x hx
    simp
    omega
  · rcases List.mem_append.1 hs with hs | hs
    · have := h.lo s hs; omega
    · simp at hs; subst hs; simp
  · have := (h.ov n hn).1; omega
  · rcases List.mem_append.1 he with he | he
    · exact (h.ov n hn).2 e he
    · simp at he; subst he
      have := (h.ov n hn).1
      simp
      omega
  · have := h.ns; simp; omega
  · have := h.no; omega
theorem OnceP.double (h : OnceP last E Sn Ov k) {x : En} (hx : x ∈ E) (v : Value) : OnceP (last + 1) (E ++ [⟨⟨last + 1, x.l.fi, x.l.sd, x.l.rc, x.l.bd⟩, v⟩]) Sn Ov (k + 1) := by
  have hl := h.ni.last
  have hf := h.ni.fi x hx
  refine ⟨h.ni.add rfl (by simp; omega), fun e he => ?_, fun e he => ?_, h.rs, fun s hs => ?_, fun n hn => ⟨?_, fun e he => ?_⟩, ?_, ?_⟩
  · rcases List.mem_append.1 he with he | he
    · exact h.bd e he
    · simp at he; subst he; exact h.bd x hx
  · rcases List.mem_append.1 he with he | he
    · exact h.src e he
    · simp at he; subst he; exact h.src x hx
  · have := h.lo s hs; omega
  · have := (h.ov n hn).1; omega
  · rcases List.mem_append.1 he with he | he
    · exact (h.ov n hn).2 e he
    · simp at he; subst he
      have := (h.ov n hn).1
      simp
      omega
  · have := h.ns; omega
  · have := h.no; omega
theorem OnceP.sub (h : OnceP last E Sn Ov k) (P : En → Bool) : OnceP last (E.filter P) Sn Ov (k + 1) :=
  ⟨(h.ni.filter P).more (by omega), fun e he => h.bd e (List.mem_filter.1 he).1, fun e he => h.src e (List.mem_filter.1 he).1, h.rs, h.lo, fun n hn => ⟨(h.ov n hn).1, fun e he => (h.ov n hn).2 e (List.mem_filter.1 he).1⟩, by have := h.ns; omega, by have := h.no; omega⟩
theorem OnceP.fresh (h : OnceP last E Sn Ov k) {n : Int} {x : En} (hg : eget E n = some x) : Ov.contains n = false := by
  apply Bool.eq_false_iff.2
  intro hc
  rw [List.contains_iff_mem] at hc
  exact (h.ov n hc).2 x (eget_mem hg).1 (eget_mem hg).2
theorem OnceP.gone (h : OnceP last E Sn Ov k) {n : Int} {x : En} (hg : eget E n = some x) : OnceP last (edel E n) Sn (Ov ++ [n]) (k + 1) := by
  have h2 : OnceP last (edel E n) Sn Ov (k + 1) := h.sub _
  refine ⟨h2.ni, h2.bd, h2.src, h2.rs, h2.lo, fun m hm => ?_, h2.ns, by have := h.no; simp; omega⟩
  rcases List.mem_append.1 hm with hm | hm
  · exact h2.ov m hm
  · simp at hm
    subst hm
    obtain ⟨h3, h4⟩ := eget_mem hg
    refine ⟨by rw [← h4]; exact (h.ni.no x h3).2, fun e he hn => ?_⟩
    have := (List.mem_filter.1 he).2
    simp [hn] at this
theorem OnceP.was (h : OnceP last E Sn Ov k) {x : En} (hx : x ∈ E) : ∃ (i : Nat) (hi : i < Sn.length), (∀ j (hj : j < i), (Sn[j]'(by omega)).l.no ≠ x.l.fi) ∧ (Sn[i]'hi).l = ⟨x.l.fi, x.l.fi, x.l.sd, x.l.rc, x.l.bd⟩ := by
  obtain ⟨s, hs, h2⟩ := h.src x hx
  obtain ⟨i, hi, rfl⟩ := List.getElem_of_mem hs
  refine ⟨i, hi, fun j hj => ?_, h2⟩
  have h3 : Sn[j].l.no < Sn[i].l.no := by
    have := List.pairwise_iff_getElem.1 h.rs j i (by unfold nos; simp; omega) (by unfold nos; simp; omega) hj
    simpa [nos] using this
  rw [h2] at h3
  simp at h3
  omega
end Go.Proofs.Ytndjgbknhfficaa.Nt
