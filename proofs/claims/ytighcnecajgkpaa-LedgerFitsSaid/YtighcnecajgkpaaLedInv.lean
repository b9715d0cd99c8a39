/- What holds of a ledger between calls: the plain law. -/
import Derived.Test.YtighcnecajgkpaaLedRoom
import Derived.Test.YtighcnecajgkpaaLedPlain3
import Derived.Lib.Strings
namespace Go.Proofs.Ytighcnecajgkpaa
open Go.RowKit

theorem tl_key (e : Ent) : e.n.toList = e.key := Lib.toList_data e.n

/-! sums of a part -/
theorem sum_le {p q : Ent → Bool} {L : List Ent} (ho : Oks L) (h : ∀ e ∈ L, p e = true → q e = true) {k : Nat} (hk : k < 4) : (sumA p L).get k ≤ (sumA q L).get k := by
  rw [sumA_get p L hk, sumA_get q L hk]
  refine tot_le fun e he => ?_
  have h0 := pickF_nonneg (p := q) ho hk e he
  unfold pickF at *
  split
  · next hp => rw [if_pos (h e he hp)]; exact Int.le_refl _
  · exact h0
theorem sum_nonneg {p : Ent → Bool} {L : List Ent} (ho : Oks L) {k : Nat} (hk : k < 4) : 0 ≤ (sumA p L).get k := by
  rw [sumA_get p L hk]
  exact tot_nonneg (pickF_nonneg ho hk)
theorem sum_none {p : Ent → Bool} {L : List Ent} (h : ∀ e ∈ L, p e = false) {k : Nat} (hk : k < 4) : (sumA p L).get k = 0 := by
  rw [sumA_get p L hk, ← tot_zero L]
  refine tot_congr fun e he => ?_
  unfold pickF
  rw [h e he]
  rfl
theorem sum_same {p q : Ent → Bool} {L : List Ent} (h : ∀ e ∈ L, p e = q e) : sumA p L = sumA q L := Am.ext_get fun k hk => by
  rw [sumA_get p L hk, sumA_get q L hk]
  refine tot_congr fun e he => ?_
  unfold pickF
  rw [h e he]
theorem fit_le {p : Ent → Bool} {L : List Ent} (ho : Oks L) {a : Am} (ha : a.okB = true) (h : ∀ k, k < 4 → (sumA p L).get k ≤ a.get k) : Fit p L := by
  unfold Fit
  rw [Am.okB_iff]
  intro k hk
  have h1 := sum_nonneg (p := p) ho hk
  have h2 := h k hk
  have h3 := ok_get ha hk
  omega
theorem tot_filter (f : Ent → Int) (q : Ent → Bool) : ∀ L : List Ent, tot f (L.filter q) = tot (fun e => if q e then f e else 0) L
  | [] => rfl
  | e :: L => by
    rw [tot_cons, ← tot_filter f q L]
    cases h : q e
    · rw [List.filter_cons_of_neg (by simp [h])]; simp
    · rw [List.filter_cons_of_pos h, tot_cons]; simp
theorem inR_same {s t : ByteArray} (h : s.toList = t.toList) : inR s = inR t := by funext e; unfold inR; rw [h]
theorem inB_le (s t : ByteArray) (e : Ent) (h : inB s t e = true) : inR s e = true := by
  unfold inB at h
  unfold inR
  simp only [Bool.and_eq_true] at h
  exact h.1
theorem sum_rem (s : ByteArray) (x : Ent) (L : List Ent) {k : Nat} (hk : k < 4) : (sumA (inR s) (rem L x.key)).get k = (sumA (inB s x.n) L).get k := by
  rw [sumA_get _ _ hk, sumA_get _ _ hk]
  unfold rem
  rw [tot_filter]
  refine tot_congr fun e _ => ?_
  unfold pickF inB inR
  rw [tl_key, tl_key]
  cases e.key == x.key <;> cases e.i.toList == s.toList <;> simp
theorem sum_put (s : ByteArray) (x : Ent) (L : List Ent) {k : Nat} (hk : k < 4) : (sumA (inR s) (putE L x)).get k = (if inR s x then x.a.get k else 0) + (sumA (inB s x.n) L).get k := by
  rw [← sum_rem s x L hk, sumA_get _ _ hk, sumA_get _ _ hk]
  unfold putE
  rw [tot_ins]
  rfl

/-! fits -/
theorem fitsB_le {x y : Am} (h : fitsB x y = true) {k : Nat} (hk : k < 4) : x.get k ≤ y.get k := by
  unfold fitsB at h
  have := any4_false (by simpa using h) hk
  simpa using this
theorem fitsB_of {x y : Am} (h : ∀ k, k < 4 → x.get k ≤ y.get k) : fitsB x y = true := by
  unfold fitsB
  rw [any4_no (fun k hk => by have := h k hk; simp; omega)]
  rfl
theorem subR_le {x y : Am} (hx : x.okB = true) (hy : y.okB = true) (h : ∀ k, k < 4 → y.get k ≤ x.get k) : subR x y = (.of fun k => x.get k - y.get k, 0) :=
  subR_ok (by rw [hx, hy]; rfl) (fitsB_of h) (fun k hk => Am.of_get _ k hk)

/-! the invariant -/
structure Inv (cap : Am) (L : List Ent) : Prop where
  cok : cap.okB = true
  oks : Oks L
  rise : Rise L
  nm : ∀ e ∈ L, 1 ≤ e.n.size ∧ e.n.size ≤ 64
  par : ∀ e ∈ L, e.i.toList ≠ [] → ∃ y ∈ L, y.n.toList = e.i.toList ∧ y.i.toList = []
  capF : ∀ k, k < 4 → (sumA (inR ⟨#[]⟩) L).get k ≤ cap.get k
  parF : ∀ y ∈ L, y.i.toList = [] → ∀ k, k < 4 → (sumA (inR y.n) L).get k ≤ y.a.get k

theorem Inv.nil {cap : Am} (h : cap.okB = true) : Inv cap [] where
  cok := h
  oks := fun e he => nomatch he
  rise := List.Pairwise.nil
  nm := fun e he => nomatch he
  par := fun e he => nomatch he
  capF := fun k hk => by rw [sum_none (L := []) (fun e he => absurd he List.not_mem_nil) hk]; exact (ok_get h hk).1
  parF := fun e he => nomatch he
theorem nil_list : (⟨#[]⟩ : ByteArray).toList = [] := by rw [Lib.toList_data]
theorem size_list {s : ByteArray} (h : 1 ≤ s.size) : s.toList ≠ [] := by
  rw [Lib.toList_data]
  intro h0
  have h1 : s.data.toList.length = 0 := by rw [h0]; rfl
  have h2 : s.data.toList.length = s.size := Array.length_toList
  omega
/-- two entries of one name are one -/
theorem Inv.one {cap : Am} {L : List Ent} (h : Inv cap L) {x y : Ent} (hx : x ∈ L) (hy : y ∈ L) (hk : x.key = y.key) : x = y := by
  have h1 := fnd_of h.rise.apart hx
  have h2 := fnd_of h.rise.apart hy
  rw [hk, h2] at h1
  exact (Option.some.inj h1).symm
theorem Inv.fit {cap : Am} {L : List Ent} (h : Inv cap L) (t : ByteArray) : Fit (inR t) L := by
  by_cases ht : t.toList = []
  · rw [inR_same (ht.trans nil_list.symm)]
    exact fit_le h.oks h.cok h.capF
  · by_cases hp : ∃ y ∈ L, y.n.toList = t.toList ∧ y.i.toList = []
    · obtain ⟨y, hy, hn, hi⟩ := hp
      rw [← inR_same hn]
      exact fit_le h.oks (h.oks y hy) (h.parF y hy hi)
    · refine fit_le h.oks (a := .zero) (by decide) fun k hk => ?_
      rw [sum_none (fun e he => ?_) hk, zero_get k hk]
      · exact Int.le_refl _
      · unfold inR
        cases hq : e.i.toList == t.toList
        · rfl
        · have hq' : e.i.toList = t.toList := by simpa using hq
          obtain ⟨y, hy, hn, hi⟩ := h.par e he (by rw [hq']; exact ht)
          exact absurd ⟨y, hy, hn.trans hq', hi⟩ hp
theorem Inv.fit2 {cap : Am} {L : List Ent} (h : Inv cap L) (s t : ByteArray) : Fit (inB s t) L :=
  fit_le h.oks (h.fit s) fun _ hk => sum_le h.oks (fun e _ hp => inB_le s t e hp) hk

theorem Inv.put {cap : Am} {L : List Ent} (h : Inv cap L) (x : Ent) (ha : x.a.okB = true) (hn : 1 ≤ x.n.size ∧ x.n.size ≤ 64)
    (hpar : x.i.toList ≠ [] → ∃ y ∈ L, y.n.toList = x.i.toList ∧ y.i.toList = [] ∧ ∀ k, k < 4 → x.a.get k + (sumA (inB x.i x.n) L).get k ≤ y.a.get k)
    (htop : x.i.toList = [] → ∀ k, k < 4 → x.a.get k + (sumA (inB x.i x.n) L).get k ≤ cap.get k)
    (hold : ∀ k, k < 4 → (sumA (inR x.n) L).get k ≤ x.a.get k)
    (hsame : ∀ y ∈ L, y.key = x.key → y.i.toList = x.i.toList) : Inv cap (putE L x) where
  cok := h.cok
  oks := fun e he => by
    rcases (putE_mem L x e).1 he with rfl | ⟨h1, -⟩
    · exact ha
    · exact h.oks e h1
  rise := h.rise.put x
  nm := fun e he => by
    rcases (putE_mem L x e).1 he with rfl | ⟨h1, -⟩
    · exact hn
    · exact h.nm e h1
  par := fun e he hi => by
    rcases (putE_mem L x e).1 he with rfl | ⟨h1, -⟩
    · obtain ⟨y, hy, h2, h3, -⟩ := hpar hi
      refine ⟨y, (putE_mem L e y).2 (.inr ⟨hy, fun hk => hi ?_⟩), h2, h3⟩
      rw [← hsame y hy hk, h3]
    · obtain ⟨y, hy, h2, h3⟩ := h.par e h1 hi
      by_cases hk : y.key = x.key
      · refine ⟨x, (putE_mem L x x).2 (.inl rfl), ?_, ?_⟩
        · rw [← h2, tl_key, tl_key, hk]
        · rw [← hsame y hy hk, h3]
      · exact ⟨y, (putE_mem L x y).2 (.inr ⟨hy, hk⟩), h2, h3⟩
  capF := fun k hk => by
    rw [sum_put _ _ _ hk]
    by_cases hi : x.i.toList = []
    · have h1 := htop hi k hk
      have h2 : inR ⟨#[]⟩ x = true := by unfold inR; rw [hi, nil_list]; rfl
      have h3 : inB ⟨#[]⟩ x.n = inB x.i x.n := by funext e; unfold inB; rw [hi, nil_list]
      rw [if_pos h2, h3]
      exact h1
    · have h2 : inR ⟨#[]⟩ x = false := by unfold inR; rw [nil_list]; simpa using hi
      have h3 := sum_le h.oks (fun e _ hp => inB_le ⟨#[]⟩ x.n e hp) hk
      have h4 := h.capF k hk
      rw [h2]
      simp only [Bool.false_eq_true, if_false]
      omega
  parF := fun y hy hyi k hk => by
    rw [sum_put _ _ _ hk]
    have h3 := sum_le h.oks (fun e _ hp => inB_le y.n x.n e hp) hk
    rcases (putE_mem L x y).1 hy with rfl | ⟨h1, hne⟩
    · have h2 : inR y.n y = false := by
        unfold inR
        rw [hyi]
        have := size_list hn.1
        cases hl : y.n.toList with
        | nil => exact absurd hl this
        | cons a l => rfl
      have h4 := hold k hk
      rw [h2]
      simp only [Bool.false_eq_true, if_false]
      omega
    · by_cases hq : x.i.toList = y.n.toList
      · have hi : x.i.toList ≠ [] := by rw [hq]; exact size_list (h.nm y h1).1
        obtain ⟨z, hz, h5, h6, h7⟩ := hpar hi
        have : z = y := h.one hz h1 (by rw [← tl_key, ← tl_key, h5, hq])
        subst this
        have h8 := h7 k hk
        have h2 : inR z.n x = true := by unfold inR; rw [hq]; simp
        have h9 : inB z.n x.n = inB x.i x.n := by funext e; unfold inB; rw [hq]
        rw [if_pos h2, h9]
        exact h8
      · have h2 : inR y.n x = false := by unfold inR; simpa using hq
        have h4 := h.parF y h1 hyi k hk
        rw [h2]
        simp only [Bool.false_eq_true, if_false]
        omega

theorem Inv.rem {cap : Am} {L : List Ent} (h : Inv cap L) (x : Ent) (hx : x ∈ L) (hno : ∀ e ∈ L, inR x.n e = false) : Inv cap (rem L x.key) := by
  have hm : ∀ e, e ∈ Go.Proofs.Ytighcnecajgkpaa.rem L x.key ↔ e ∈ L ∧ e.key ≠ x.key := fun e => by unfold Go.Proofs.Ytighcnecajgkpaa.rem; simp
  have hs : ∀ s k, k < 4 → (sumA (inR s) (Go.Proofs.Ytighcnecajgkpaa.rem L x.key)).get k ≤ (sumA (inR s) L).get k := fun s k hk => by
    rw [sum_rem s x L hk]
    exact sum_le h.oks (fun e _ hp => inB_le s x.n e hp) hk
  exact {
    cok := h.cok
    oks := fun e he => h.oks e ((hm e).1 he).1
    rise := h.rise.rem _
    nm := fun e he => h.nm e ((hm e).1 he).1
    par := fun e he hi => by
      obtain ⟨y, hy, h2, h3⟩ := h.par e ((hm e).1 he).1 hi
      refine ⟨y, (hm y).2 ⟨hy, fun hk => ?_⟩, h2, h3⟩
      have h4 := hno e ((hm e).1 he).1
      unfold inR at h4
      rw [← h2, tl_key, tl_key, hk] at h4
      simp at h4
    capF := fun k hk => Int.le_trans (hs _ k hk) (h.capF k hk)
    parF := fun y hy hi k hk => Int.le_trans (hs _ k hk) (h.parF y ((hm y).1 hy).1 hi k hk) }
end Go.Proofs.Ytighcnecajgkpaa
