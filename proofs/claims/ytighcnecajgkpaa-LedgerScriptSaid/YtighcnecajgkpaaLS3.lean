/- Texts of one proof, laid together: LedInv, LedMore, Iter, LedEnt, LedIn, LedTake, LedGive. No condition of ours. -/
import Derived.Test.YtighcnecajgkpaaLS2
import Derived.Lib.Strings
import Derived.Shelf.SlIter.Nil
import Derived.Shelf.SortM.Plain
import Derived.Shelf.SortM.SortNone
import Derived.Ground.GgzProg
import Derived.Ground.SlgmProg
import Derived.Test.YtighcnecajgkpaaProg
namespace Go.Proofs.Ytighcnecajgkpaa
open Go.RowKit

theorem tl_key (e : Ent) : e.n.toList = e.key := Lib.toList_data e.n

/-! sums of a part -/
theorem sum_le {p q : Ent → Bool} {L : List Ent} (ho : Oks L) (h : ∀ e ∈ L, p e = true → q e = true) {k : Nat} (hk : k < 4) : (sumA p L).get k ≤ (sumA q L).get k := by
  rw [sumA_get p L hk, sumA_get q L hk]
  refine tot_le fun e he => ?_
  have h0 := pickF_nonneg (p := q) ho hk e he
  unfold pickF at *
  split
  · next hp => rw [if_pos (h e he hp)]; exact Int.le_refl _
  · exact h0
theorem sum_nonneg {p : Ent → Bool} {L : List Ent} (ho : Oks L) {k : Nat} (hk : k < 4) : 0 ≤ (sumA p L).get k := by
  rw [sumA_get p L hk]
  exact tot_nonneg (pickF_nonneg ho hk)
theorem sum_none {p : Ent → Bool} {L : List Ent} (h : ∀ e ∈ L, p e = false) {k : Nat} (hk : k < 4) : (sumA p L).get k = 0 := by
  rw [sumA_get p L hk, ← tot_zero L]
  refine tot_congr fun e he => ?_
  unfold pickF
  rw [h e he]
  rfl
theorem sum_same {p q : Ent → Bool} {L : List Ent} (h : ∀ e ∈ L, p e = q e) : sumA p L = sumA q L := Am.ext_get fun k hk => by
  rw [sumA_get p L hk, sumA_get q L hk]
  refine tot_congr fun e he => ?_
  unfold pickF
  rw [h e he]
theorem fit_le {p : Ent → Bool} {L : List Ent} (ho : Oks L) {a : Am} (ha : a.okB = true) (h : ∀ k, k < 4 → (sumA p L).get k ≤ a.get k) : Fit p L := by
  unfold Fit
  rw [Am.okB_iff]
  intro k hk
  have h1 := sum_nonneg (p := p) ho hk
  have h2 := h k hk
  have h3 := ok_get ha hk
  omega
theorem tot_filter (f : Ent → Int) (q : Ent → Bool) : ∀ L : List Ent, tot f (L.filter q) = tot (fun e => if q e then f e else 0) L
  | [] => rfl
  | e :: L => by
    rw [tot_cons, ← tot_filter f q L]
    cases h : q e
    · rw [List.filter_cons_of_neg (by simp [h])]; simp
    · rw [List.filter_cons_of_pos h, tot_cons]; simp
theorem inR_same {s t : ByteArray} (h : s.toList = t.toList) : inR s = inR t := by funext e; unfold inR; rw [h]
theorem inB_le (s t : ByteArray) (e : Ent) (h : inB s t e = true) : inR s e = true := by
  unfold inB at h
  unfold inR
  simp only [Bool.and_eq_true] at h
  exact h.1
theorem sum_rem (s : ByteArray) (x : Ent) (L : List Ent) {k : Nat} (hk : k < 4) : (sumA (inR s) (rem L x.key)).get k = (sumA (inB s x.n) L).get k := by
  rw [sumA_get _ _ hk, sumA_get _ _ hk]
  unfold rem
  rw [tot_filter]
  refine tot_congr fun e _ => ?_
  unfold pickF inB inR
  rw [tl_key, tl_key]
  cases e.key == x.key <;> cases e.i.toList == s.toList <;> simp
theorem sum_put (s : ByteArray) (x : Ent) (L : List Ent) {k : Nat} (hk : k < 4) : (sumA (inR s) (putE L x)).get k = (if inR s x then x.a.get k else 0) + (sumA (inB s x.n) L).get k := by
  rw [← sum_rem s x L hk, sumA_get _ _ hk, sumA_get _ _ hk]
  unfold putE
  rw [tot_ins]
  rfl

/-! fits -/
theorem fitsB_le {x y : Am} (h : fitsB x y = true) {k : Nat} (hk : k < 4) : x.get k ≤ y.get k := by
  unfold fitsB at h
  have := any4_false (by simpa using h) hk
  simpa using this
theorem fitsB_of {x y : Am} (h : ∀ k, k < 4 → x.get k ≤ y.get k) : fitsB x y = true := by
  unfold fitsB
  rw [any4_no (fun k hk => by have := h k hk; simp; omega)]
  rfl
theorem subR_le {x y : Am} (hx : x.okB = true) (hy : y.okB = true) (h : ∀ k, k < 4 → y.get k ≤ x.get k) : subR x y = (.of fun k => x.get k - y.get k, 0) :=
  subR_ok (by rw [hx, hy]; rfl) (fitsB_of h) (fun k hk => Am.of_get _ k hk)

/-! the invariant -/
structure Inv (cap : Am) (L : List Ent) : Prop where
  cok : cap.okB = true
  oks : Oks L
  rise : Rise L
  nm : ∀ e ∈ L, 1 ≤ e.n.size ∧ e.n.size ≤ 64
  par : ∀ e ∈ L, e.i.toList ≠ [] → ∃ y ∈ L, y.n.toList = e.i.toList ∧ y.i.toList = []
  capF : ∀ k, k < 4 → (sumA (inR ⟨#[]⟩) L).get k ≤ cap.get k
  parF : ∀ y ∈ L, y.i.toList = [] → ∀ k, k < 4 → (sumA (inR y.n) L).get k ≤ y.a.get k

theorem Inv.nil {cap : Am} (h : cap.okB = true) : Inv cap [] where
  cok := h
  oks := fun e he => nomatch he
  rise := List.Pairwise.nil
  nm := fun e he => nomatch he
  par := fun e he => nomatch he
  capF := fun k hk => by rw [sum_none (L := []) (fun e he => absurd he List.not_mem_nil) hk]; exact (ok_get h hk).1
  parF := fun e he => nomatch he
theorem nil_list : (⟨#[]⟩ : ByteArray).toList = [] := by rw [Lib.toList_data]
theorem size_list {s : ByteArray} (h : 1 ≤ s.size) : s.toList ≠ [] := by
  rw [Lib.toList_data]
  intro h0
  have h1 : s.data.toList.length = 0 := by rw [h0]; rfl
  have h2 : s.data.toList.length = s.size := Array.length_toList
  omega
/-- two entries of one name are one -/
theorem Inv.one {cap : Am} {L : List Ent} (h : Inv cap L) {x y : Ent} (hx : x ∈ L) (hy : y ∈ L) (hk : x.key = y.key) : x = y := by
  have h1 := fnd_of h.rise.apart hx
  have h2 := fnd_of h.rise.apart hy
  rw [hk, h2] at h1
  exact (Option.some.inj h1).symm
theorem Inv.fit {cap : Am} {L : List Ent} (h : Inv cap L) (t : ByteArray) : Fit (inR t) L := by
  by_cases ht : t.toList = []
  · rw [inR_same (ht.trans nil_list.symm)]
    exact fit_le h.oks h.cok h.capF
  · by_cases hp : ∃ y ∈ L, y.n.toList = t.toList ∧ y.i.toList = []
    · obtain ⟨y, hy, hn, hi⟩ := hp
      rw [← inR_same hn]
      exact fit_le h.oks (h.oks y hy) (h.parF y hy hi)
    · refine fit_le h.oks (a := .zero) (by decide) fun k hk => ?_
      rw [sum_none (fun e he => ?_) hk, zero_get k hk]
      · exact Int.le_refl _
      · unfold inR
        cases hq : e.i.toList == t.toList
        · rfl
        · have hq' : e.i.toList = t.toList := by simpa using hq
          obtain ⟨y, hy, hn, hi⟩ := h.par e he (by rw [hq']; exact ht)
          exact absurd ⟨y, hy, hn.trans hq', hi⟩ hp
theorem Inv.fit2 {cap : Am} {L : List Ent} (h : Inv cap L) (s t : ByteArray) : Fit (inB s t) L :=
  fit_le h.oks (h.fit s) fun _ hk => sum_le h.oks (fun e _ hp => inB_le s t e hp) hk

theorem Inv.put {cap : Am} {L : List Ent} (h : Inv cap L) (x : Ent) (ha : x.a.okB = true) (hn : 1 ≤ x.n.size ∧ x.n.size ≤ 64)
    (hpar : x.i.toList ≠ [] → ∃ y ∈ L, y.n.toList = x.i.toList ∧ y.i.toList = [] ∧ ∀ k, k < 4 → x.a.get k + (sumA (inB x.i x.n) L).get k ≤ y.a.get k)
    (htop : x.i.toList = [] → ∀ k, k < 4 → x.a.get k + (sumA (inB x.i x.n) L).get k ≤ cap.get k)
    (hold : ∀ k, k < 4 → (sumA (inR x.n) L).get k ≤ x.a.get k)
    (hsame : ∀ y ∈ L, y.key = x.key → y.i.toList = x.i.toList) : Inv cap (putE L x) where
  cok := h.cok
  oks := fun e he => by
    rcases (putE_mem L x e).1 he with rfl | ⟨h1, -⟩
    · exact ha
    · exact h.oks e h1
  rise := h.rise.put x
  nm := fun e he => by
    rcases (putE_mem L x e).1 he with rfl | ⟨h1, -⟩
    · exact hn
    · exact h.nm e h1
  par := fun e he hi => by
    rcases (putE_mem L x e).1 he with rfl | ⟨h1, -⟩
    · obtain ⟨y, hy, h2, h3, -⟩ := hpar hi
      refine ⟨y, (putE_mem L e y).2 (.inr ⟨hy, fun hk => hi ?_⟩), h2, h3⟩
      rw [← hsame y hy hk, h3]
    · obtain ⟨y, hy, h2, h3⟩ := h.par e h1 hi
      by_cases hk : y.key = x.key
      · refine ⟨x, (putE_mem L x x).2 (.inl rfl), ?_, ?_⟩
        · rw [← h2, tl_key, tl_key, hk]
        · rw [← hsame y hy hk, h3]
      · exact ⟨y, (putE_mem L x y).2 (.inr ⟨hy, hk⟩), h2, h3⟩
  capF := fun k hk => by
    rw [sum_put _ _ _ hk]
    by_cases hi : x.i.toList = []
    · have h1 := htop hi k hk
      have h2 : inR ⟨#[]⟩ x = true := by unfold inR; rw [hi, nil_list]; rfl
      have h3 : inB ⟨#[]⟩ x.n = inB x.i x.n := by funext e; unfold inB; rw [hi, nil_list]
      rw [if_pos h2, h3]
      exact h1
    · have h2 : inR ⟨#[]⟩ x = false := by unfold inR; rw [nil_list]; simpa using hi
      have h3 := sum_le h.oks (fun e _ hp => inB_le ⟨#[]⟩ x.n e hp) hk
      have h4 := h.capF k hk
      rw [h2]
      simp only [Bool.false_eq_true, if_false]
      omega
  parF := fun y hy hyi k hk => by
    rw [sum_put _ _ _ hk]
    have h3 := sum_le h.oks (fun e _ hp => inB_le y.n x.n e hp) hk
    rcases (putE_mem L x y).1 hy with rfl | ⟨h1, hne⟩
    · have h2 : inR y.n y = false := by
        unfold inR
        rw [hyi]
        have := size_list hn.1
        cases hl : y.n.toList with
        | nil => exact absurd hl this
        | cons a l => rfl
      have h4 := hold k hk
      rw [h2]
      simp only [Bool.false_eq_true, if_false]
      omega
    · by_cases hq : x.i.toList = y.n.toList
      · have hi : x.i.toList ≠ [] := by rw [hq]; exact size_list (h.nm y h1).1
        obtain ⟨z, hz, h5, h6, h7⟩ := hpar hi
        have : z = y := h.one hz h1 (by rw [← tl_key, ← tl_key, h5, hq])
        subst this
        have h8 := h7 k hk
        have h2 : inR z.n x = true := by unfold inR; rw [hq]; simp
        have h9 : inB z.n x.n = inB x.i x.n := by funext e; unfold inB; rw [hq]
        rw [if_pos h2, h9]
        exact h8
      · have h2 : inR y.n x = false := by unfold inR; simpa using hq
        have h4 := h.parF y h1 hyi k hk
        rw [h2]
        simp only [Bool.false_eq_true, if_false]
        omega

theorem Inv.rem {cap : Am} {L : List Ent} (h : Inv cap L) (x : Ent) (hx : x ∈ L) (hno : ∀ e ∈ L, inR x.n e = false) : Inv cap (rem L x.key) := by
  have hm : ∀ e, e ∈ Go.Proofs.Ytighcnecajgkpaa.rem L x.key ↔ e ∈ L ∧ e.key ≠ x.key := fun e => by unfold Go.Proofs.Ytighcnecajgkpaa.rem; simp
  have hs : ∀ s k, k < 4 → (sumA (inR s) (Go.Proofs.Ytighcnecajgkpaa.rem L x.key)).get k ≤ (sumA (inR s) L).get k := fun s k hk => by
    rw [sum_rem s x L hk]
    exact sum_le h.oks (fun e _ hp => inB_le s x.n e hp) hk
  exact {
    cok := h.cok
    oks := fun e he => h.oks e ((hm e).1 he).1
    rise := h.rise.rem _
    nm := fun e he => h.nm e ((hm e).1 he).1
    par := fun e he hi => by
      obtain ⟨y, hy, h2, h3⟩ := h.par e ((hm e).1 he).1 hi
      refine ⟨y, (hm y).2 ⟨hy, fun hk => ?_⟩, h2, h3⟩
      have h4 := hno e ((hm e).1 he).1
      unfold inR at h4
      rw [← h2, tl_key, tl_key, hk] at h4
      simp at h4
    capF := fun k hk => Int.le_trans (hs _ k hk) (h.capF k hk)
    parF := fun y hy hi k hk => Int.le_trans (hs _ k hk) (h.parF y ((hm y).1 hy).1 hi k hk) }
end Go.Proofs.Ytighcnecajgkpaa
namespace Go.Proofs.Ytighcnecajgkpaa
open Go.RowKit

set_option maxRecDepth 100000 in
set_option maxHeartbeats 2000000 in
theorem free_made (b mb : Nat) (cap : Am) (L : List Ent) (w : World) (h : Led w b mb cap L) (hd : Apart L) (ho : Oks L) (hf : Fit (inB ⟨#[]⟩ ⟨#[]⟩) L) (z : Am) (er : Int) (hz : subR cap (sumA (inB ⟨#[]⟩ ⟨#[]⟩) L) = (z, er)) :
    Calls Try.prog 13 #[ptr b] w fun e w' => e = .returned (amV z) ∧ Below w.heap.size w w' := by
  obtain ⟨w3, hw3⟩ : ∃ w3, w3 = w.alloc (.cells #[.int .i64 0, .int .i64 0, .int .i64 0, .int .i64 0] 28) := ⟨_, rfl⟩
  obtain ⟨B, hB⟩ : ∃ B, B = w.heap.size := ⟨_, rfl⟩
  have S0 : Hid (Blk w3 B (amC .zero) 28) := Lib.hid (by rw [hw3, hB]; exact Blk.made w (amC .zero) _)
  have HBL : Hid (Below w.heap.size w w3) := Lib.hid (by rw [hw3]; exact below_alloc w _)
  have HBW : Hid (w.heap.size ≤ B) := Lib.hid (by omega)
  have H3 : Hid (Led w3 b mb cap L) := Lib.hid (h.kept HBL.out)
  have HRM : Hid (Calls Try.prog 31 #[ptr b, .string ⟨#[]⟩, .string ⟨#[]⟩] w3 fun e w' => e = .returned (amV z) ∧ Below w3.heap.size w3 w') := Lib.hid (room_top b mb cap L ⟨#[]⟩ ⟨#[]⟩ w3 H3.out hd ho hf (by rw [Lib.toList_data]) z er hz)
  clear h hd ho hf hz
  go_enter Try.func13, Try.ntmps13
  go_upto_region 1 with fail
  rw [← hw3, ← hB]
  clear hw3 hB
  go_wp2_with (first
    | (go_at_call 29; refine (none_made b mb _ _ _ H3.out).mono ?_; rintro e w' ⟨rfl, rfl⟩)
    | (go_at_call 31; refine HRM.out.mono ?_; rintro e w4 ⟨rfl, hb⟩; have hbr := S0.out.kept hb; have BR := Lib.hid hbr; have HB4 := Lib.hid (below_and HBL.out hb); have r0 := hbr.cell (j := 0) rfl; have r1 := hbr.cell (j := 1) rfl; have r2 := hbr.cell (j := 2) rfl; have r3 := hbr.cell (j := 3) rfl; have f0 := hbr.free 0; have f1 := hbr.free 1; have f2 := hbr.free 2; have f3 := hbr.free 3; clear hb hbr))
  refine bodyPost_ret (results_row rfl _ _ B 28 #[.int .i64 z.c, .int .i64 z.r, .int .i64 z.d, .int .i64 z.p] (0, 0) _ rfl ?_ Try.underlying28 rfl (by kernel_rfl)) rfl ⟨rfl, bel_set4 HB4.out HBW.out⟩
  exact (((BR.out.set 0 (.int .i64 z.c)).set 1 (.int .i64 z.r)).set 2 (.int .i64 z.d)).set 3 (.int .i64 z.p)

set_option maxRecDepth 100000 in
set_option maxHeartbeats 2000000 in
theorem left_no (b mb : Nat) (cap : Am) (L : List Ent) (s : ByteArray) (w : World) (h : Led w b mb cap L) (hs : s.size ≤ maxLen) (hx : fnd L s.data.toList = none) :
    Calls Try.prog 10 #[ptr b, .string s] w fun e w' => e = .returned (.tuple #[amV ⟨0, 0, 0, 0⟩, .int .i64 6]) ∧ Below w.heap.size w w' := by
  obtain ⟨w3, hw3⟩ : ∃ w3, w3 = w.alloc (.cells #[.int .i64 0, .int .i64 0, .int .i64 0, .int .i64 0] 28) := ⟨_, rfl⟩
  obtain ⟨B, hB⟩ : ∃ B, B = w.heap.size := ⟨_, rfl⟩
  have S0 : Hid (Blk w3 B (amC .zero) 28) := Lib.hid (by rw [hw3, hB]; exact Blk.made w (amC .zero) _)
  have HBL : Hid (Below w.heap.size w w3) := Lib.hid (by rw [hw3]; exact below_alloc w _)
  have HBW : Hid (w.heap.size ≤ B) := Lib.hid (by omega)
  have HG := Lib.hid (lget_no b mb cap L s w3 (h.kept HBL.out) hs hx)
  clear h hs hx
  go_enter Try.func10, Try.ntmps10
  go_upto_region 1 with fail
  rw [← hw3, ← hB]
  clear hw3 hB
  go_wp2_with (go_at_call 22; refine HG.out.mono ?_; rintro e w4 ⟨rfl, hb⟩; have hbr : Blk (w4.alloc (.cells #[.string ⟨#[]⟩, .string ⟨#[]⟩, .int .i64 0, .int .i64 0, .int .i64 0, .int .i64 0] 48)) B (amC .zero) 28 := (S0.out.kept hb).alloc _; have BR := Lib.hid hbr; have HB4 := Lib.hid (below_and (below_and HBL.out hb) (below_alloc w4 (.cells #[.string ⟨#[]⟩, .string ⟨#[]⟩, .int .i64 0, .int .i64 0, .int .i64 0, .int .i64 0] 48))); have r0 := hbr.cell (j := 0) rfl; have r1 := hbr.cell (j := 1) rfl; have r2 := hbr.cell (j := 2) rfl; have r3 := hbr.cell (j := 3) rfl; have f0 := hbr.free 0; have f1 := hbr.free 1; have f2 := hbr.free 2; have f3 := hbr.free 3; clear hb hbr)
  refine bodyPost_ret (results_row_tmp rfl _ _ B 28 #[.int .i64 0, .int .i64 0, .int .i64 0, .int .i64 0] (0, 0) _ rfl ?_ Try.underlying28 rfl (by kernel_rfl)) rfl ⟨rfl, bel_set4 HB4.out HBW.out⟩
  exact (((BR.out.set 0 (.int .i64 0)).set 1 (.int .i64 0)).set 2 (.int .i64 0)).set 3 (.int .i64 0)

set_option maxRecDepth 100000 in
set_option maxHeartbeats 2000000 in
theorem left_yes (b mb : Nat) (cap : Am) (L : List Ent) (s : ByteArray) (x : Ent) (w : World) (h : Led w b mb cap L) (hs : s.size ≤ maxLen) (hn : ¬ s.toList = []) (hx : fnd L s.data.toList = some x) (hd : Apart L) (ho : Oks L) (hf : Fit (inB s ⟨#[]⟩) L) (z : Am) (er : Int) (hz : subR x.a (sumA (inB s ⟨#[]⟩) L) = (z, er)) :
    Calls Try.prog 10 #[ptr b, .string s] w fun e w' => e = .returned (.tuple #[amV z, .int .i64 0]) ∧ Below w.heap.size w w' := by
  obtain ⟨w3, hw3⟩ : ∃ w3, w3 = w.alloc (.cells #[.int .i64 0, .int .i64 0, .int .i64 0, .int .i64 0] 28) := ⟨_, rfl⟩
  obtain ⟨B, hB⟩ : ∃ B, B = w.heap.size := ⟨_, rfl⟩
  have S0 : Hid (Blk w3 B (amC .zero) 28) := Lib.hid (by rw [hw3, hB]; exact Blk.made w (amC .zero) _)
  have HBL : Hid (Below w.heap.size w w3) := Lib.hid (by rw [hw3]; exact below_alloc w _)
  have HBW : Hid (w.heap.size ≤ B) := Lib.hid (by omega)
  have H3 := Lib.hid (h.kept HBL.out)
  have HG := Lib.hid (lget_yes b mb cap L s x w3 H3.out hs hx)
  have HRM : Hid (∀ w, Led w b mb cap L → Calls Try.prog 31 #[ptr b, .string s, .string ⟨#[]⟩] w fun e w' => e = .returned (amV z) ∧ Below w.heap.size w w') := Lib.hid (fun w h => room_in b mb cap L s ⟨#[]⟩ x w h hd ho hf hn hs hx z er hz)
  clear h hs hx hd ho hf hz hn
  go_enter Try.func10, Try.ntmps10
  go_upto_region 1 with fail
  rw [← hw3, ← hB]
  clear hw3 hB
  go_wp2_with (first
    | (go_at_call 22; refine HG.out.mono ?_; rintro e w4 ⟨rfl, hb⟩; have H4 := Lib.hid (H3.out.kept hb); have S4 := Lib.hid (S0.out.kept hb); have HB4 := Lib.hid (below_and HBL.out hb); clear hb)
    | (go_at_call 31; refine (HRM.out _ (H4.out.kept (below_alloc _ _))).mono ?_; rintro e w5 ⟨rfl, hb⟩; have hbr := S4.out.kept (below_and (below_alloc _ _) hb); have BR := Lib.hid hbr; have HB5 := Lib.hid (below_and HB4.out (below_and (below_alloc _ _) hb)); have r0 := hbr.cell (j := 0) rfl; have r1 := hbr.cell (j := 1) rfl; have r2 := hbr.cell (j := 2) rfl; have r3 := hbr.cell (j := 3) rfl; have f0 := hbr.free 0; have f1 := hbr.free 1; have f2 := hbr.free 2; have f3 := hbr.free 3; clear hb hbr))
  refine bodyPost_ret (results_row_tmp rfl _ _ B 28 #[.int .i64 z.c, .int .i64 z.r, .int .i64 z.d, .int .i64 z.p] (0, 0) _ rfl ?_ Try.underlying28 rfl (by kernel_rfl)) rfl ⟨rfl, bel_set4 HB5.out HBW.out⟩
  exact (((BR.out.set 0 (.int .i64 z.c)).set 1 (.int .i64 z.r)).set 2 (.int .i64 z.d)).set 3 (.int .i64 z.p)
end Go.Proofs.Ytighcnecajgkpaa
namespace Go.Proofs
open Go.RowKit Go.Maps Go.Sort Go.Shelf
def Try.keys43_ren : Go.Shelf.Ren := ⟨fun | 7 => 43 | 10 => 54 | n => n, fun | 23 => 52 | 26 => 9 | 3 => 48 | 28 => 73 | 0 => 0 | 27 => 72 | 33 => 82 | 4 => 4 | n => n, fun | n => n⟩
theorem Try.keys43 : Go.Proofs.SlLaysZ.n7 Try.prog Try.keys43_ren := {
  mixed := by kernel_rfl
  f7 := ⟨Try.f43.name, by decide, Try.func43.trans (congrArg some (by kernel_rfl))⟩
  f10 := ⟨Try.f54.name, by decide, Try.func54.trans (congrArg some (by kernel_rfl))⟩
  t0 := Try.underlying0
  a0 := Try.isAgg0
  z0 := Try.sizeOf0
  v0 := Try.zeroValue0
  t4 := Try.underlying4
  a4 := Try.isAgg4
  z4 := Try.sizeOf4
  v4 := Try.zeroValue4
  t23 := Try.underlying52
  a23 := Try.isAgg52
  z23 := Try.sizeOf52
  v23 := Try.zeroValue52
  t26 := Try.underlying9
  a26 := Try.isAgg9
  z26 := Try.sizeOf9
  v26 := Try.zeroValue9
  t27 := Try.underlying72
  a27 := Try.isAgg72
  z27 := Try.sizeOf72
  v27 := Try.zeroValue72
  t28 := Try.underlying73
  a28 := Try.isAgg73
  z28 := Try.sizeOf73
  v28 := Try.zeroValue73
  t33 := Try.underlying82
  a33 := Try.isAgg82
  z33 := Try.sizeOf82
  v33 := Try.zeroValue82 }
def Try.sorted42_ren : Go.Shelf.Ren := ⟨fun | 6 => 42 | 8 => 52 | 9 => 53 | 11 => 60 | 13 => 62 | 12 => 61 | 23 => 73 | 24 => 74 | 14 => 64 | 15 => 65 | 16 => 66 | 17 => 67 | 18 => 68 | 19 => 69 | 20 => 70 | 21 => 71 | 22 => 72 | 25 => 75 | 26 => 76 | 27 => 77 | 28 => 78 | 29 => 79 | 30 => 80 | 31 => 81 | n => n, fun | 26 => 9 | 28 => 73 | 24 => 45 | 0 => 0 | 3 => 3 | 37 => 90 | 48 => 101 | 50 => 103 | 4 => 4 | 40 => 93 | 39 => 92 | 45 => 98 | 5 => 5 | 9 => 9 | 51 => 104 | 55 => 108 | 57 => 110 | 58 => 111 | 33 => 82 | n => n, fun | n => n⟩
theorem Try.sorted42 : Go.Proofs.SlLaysZ.n6 Try.prog Try.sorted42_ren := {
  mixed := by kernel_rfl
  f6 := ⟨Try.f42.name, by decide, Try.func42.trans (congrArg some (by kernel_rfl))⟩
  f8 := ⟨Try.f52.name, by decide, Try.func52.trans (congrArg some (by kernel_rfl))⟩
  f11 := ⟨Try.f60.name, by decide, Try.func60.trans (congrArg some (by kernel_rfl))⟩
  t0 := Try.underlying0
  a0 := Try.isAgg0
  z0 := Try.sizeOf0
  v0 := Try.zeroValue0
  t24 := Try.underlying45
  a24 := Try.isAgg45
  z24 := Try.sizeOf45
  v24 := Try.zeroValue45
  t26 := Try.underlying9
  a26 := Try.isAgg9
  z26 := Try.sizeOf9
  v26 := Try.zeroValue9
  t28 := Try.underlying73
  a28 := Try.isAgg73
  z28 := Try.sizeOf73
  v28 := Try.zeroValue73
  i26 := by kernel_rfl }
def Try.sort53_ren : Go.Shelf.Ren := ⟨fun | 6 => 53 | 8 => 62 | 9 => 61 | 19 => 73 | 20 => 74 | 21 => 64 | 22 => 65 | 23 => 66 | 24 => 67 | 25 => 68 | 26 => 69 | 27 => 70 | 28 => 71 | 29 => 72 | 36 => 75 | 31 => 76 | 32 => 77 | 37 => 78 | 38 => 79 | 39 => 80 | 41 => 81 | n => n, fun | 27 => 45 | 29 => 9 | 3 => 3 | 32 => 90 | 26 => 45 | 0 => 0 | 44 => 101 | 46 => 103 | 4 => 4 | 36 => 93 | 35 => 92 | 41 => 98 | 5 => 5 | 9 => 9 | 53 => 104 | 57 => 108 | 63 => 110 | 64 => 111 | n => n, fun | n => n⟩
theorem Try.sort53 : Go.Proofs.SlLaysM.n6 Try.prog Try.sort53_ren := {
  mixed := by kernel_rfl
  f6 := ⟨Try.f53.name, by decide, Try.func53.trans (congrArg some (by kernel_rfl))⟩
  f8 := Try.func62.trans (congrArg some (by kernel_rfl))
  f9 := ⟨Try.f61.name, by decide, Try.func61.trans (congrArg some (by kernel_rfl))⟩
  f19 := Try.func73.trans (congrArg some (by kernel_rfl))
  f20 := Try.func74.trans (congrArg some (by kernel_rfl))
  f21 := ⟨Try.f64.name, by decide, Try.func64.trans (congrArg some (by kernel_rfl))⟩
  f22 := ⟨Try.f65.name, by decide, Try.func65.trans (congrArg some (by kernel_rfl))⟩
  f23 := ⟨Try.f66.name, by decide, Try.func66.trans (congrArg some (by kernel_rfl))⟩
  f24 := ⟨Try.f67.name, by decide, Try.func67.trans (congrArg some (by kernel_rfl))⟩
  f25 := ⟨Try.f68.name, by decide, Try.func68.trans (congrArg some (by kernel_rfl))⟩
  f26 := ⟨Try.f69.name, by decide, Try.func69.trans (congrArg some (by kernel_rfl))⟩
  f27 := ⟨Try.f70.name, by decide, Try.func70.trans (congrArg some (by kernel_rfl))⟩
  f28 := ⟨Try.f71.name, by decide, Try.func71.trans (congrArg some (by kernel_rfl))⟩
  f29 := ⟨Try.f72.name, by decide, Try.func72.trans (congrArg some (by kernel_rfl))⟩
  f31 := Try.func76.trans (congrArg some (by kernel_rfl))
  f32 := Try.func77.trans (congrArg some (by kernel_rfl))
  f36 := ⟨Try.f75.name, by decide, Try.func75.trans (congrArg some (by kernel_rfl))⟩
  f37 := ⟨Try.f78.name, by decide, Try.func78.trans (congrArg some (by kernel_rfl))⟩
  f38 := ⟨Try.f79.name, by decide, Try.func79.trans (congrArg some (by kernel_rfl))⟩
  f39 := ⟨Try.f80.name, by decide, Try.func80.trans (congrArg some (by kernel_rfl))⟩
  f41 := ⟨Try.f81.name, by decide, Try.func81.trans (congrArg some (by kernel_rfl))⟩
  t0 := Try.underlying0
  a0 := Try.isAgg0
  z0 := Try.sizeOf0
  v0 := Try.zeroValue0
  t3 := Try.underlying3
  a3 := Try.isAgg3
  z3 := Try.sizeOf3
  v3 := Try.zeroValue3
  t4 := Try.underlying4
  a4 := Try.isAgg4
  z4 := Try.sizeOf4
  v4 := Try.zeroValue4
  t5 := Try.underlying5
  a5 := Try.isAgg5
  z5 := Try.sizeOf5
  v5 := Try.zeroValue5
  t9 := Try.underlying9
  a9 := Try.isAgg9
  z9 := Try.sizeOf9
  v9 := Try.zeroValue9
  t26 := Try.underlying45
  a26 := Try.isAgg45
  z26 := Try.sizeOf45
  v26 := Try.zeroValue45
  t27 := Try.underlying45
  a27 := Try.isAgg45
  z27 := Try.sizeOf45
  v27 := Try.zeroValue45
  t29 := Try.underlying9
  a29 := Try.isAgg9
  z29 := Try.sizeOf9
  v29 := Try.zeroValue9
  t32 := Try.underlying90
  a32 := Try.isAgg90
  z32 := Try.sizeOf90
  v32 := Try.zeroValue90
  t35 := Try.underlying92
  a35 := Try.isAgg92
  z35 := Try.sizeOf92
  v35 := Try.zeroValue92
  t36 := Try.underlying93
  a36 := Try.isAgg93
  z36 := Try.sizeOf93
  v36 := Try.zeroValue93
  t41 := Try.underlying98
  a41 := Try.isAgg98
  z41 := Try.sizeOf98
  v41 := Try.zeroValue98
  t44 := Try.underlying101
  a44 := Try.isAgg101
  z44 := Try.sizeOf101
  v44 := Try.zeroValue101
  t46 := Try.underlying103
  a46 := Try.isAgg103
  z46 := Try.sizeOf103
  v46 := Try.zeroValue103
  t53 := Try.underlying104
  a53 := Try.isAgg104
  z53 := Try.sizeOf104
  v53 := Try.zeroValue104
  t57 := Try.underlying108
  a57 := Try.isAgg108
  z57 := Try.sizeOf108
  v57 := Try.zeroValue108
  t63 := Try.underlying110
  a63 := Try.isAgg110
  z63 := Try.sizeOf110
  v63 := Try.zeroValue110
  t64 := Try.underlying111
  a64 := Try.isAgg111
  z64 := Try.sizeOf111
  v64 := Try.zeroValue111 }
/-- slices.Sort's two contracts at this dump, at the fence that asks nothing. -/
theorem Try.sorts42 (m : Nat) : AnyZ.SortsIn Try.prog Try.sorted42_ren Fence.wide m :=
  ⟨fun blk off cap ss W hH hblk hsz => callsIn_wide.2 (AnyM.slices_Sort_string Try.sort53 blk off cap ss W hH hblk hsz),
   fun p cap W => callsIn_wide.2 (AnyM.slices_Sort_string_none Try.sort53 p cap W)⟩

/-- **maps.Keys[map[string]berthmaster/api.Entry,string,berthmaster/api.Entry], at whatever map, the nil one too:** a function value over ONE NEW BLOCK, which holds the map. -/
theorem Try.maps_Keys_43 (mb : Option Nat) (W : World) : CallsIn Fence.wide 5 Try.prog 43 #[.map mb] W fun e w' => e = .returned (.func (.func 54) #[] #[.pointer (some ⟨W.heap.size, 0, none⟩)]) ∧ w' = W.alloc (.cells #[.map mb] 52) :=
  AnyZ.keys_in Try.keys43 Fence.wide 5 trivial rfl mb W

set_option maxHeartbeats 1000000 in
/-- **slices.Sorted[string] AT WHAT maps.Keys[map[string]berthmaster/api.Entry,string,berthmaster/api.Entry] HANDED BACK FOR A MAP THAT IS NOT nil** ('w': the world AHEAD of maps.Keys' call): A NEW SLICE THAT HOLDS THE MAP's KEYS, SORTED; nil just where it has none; nothing that lay before has turned. -/
theorem Try.slices_Sorted_keys_42_43 {H : Type} (b nn : Nat) (D0 : DataW H) (R : Value → Option (DataW H × List MemPlace)) (w : World) (hown : w.ownsMap Try.prog 9 R b nn D0) (hmax : Maps.size D0 ≤ maxLen) (hbytes : Maps.size D0 * 16 ≤ 140737488355328) :
    CallsIn Fence.wide 5 Try.prog 42 #[.func (.func 54) #[] #[.pointer (some ⟨w.heap.size, 0, none⟩)]] (w.alloc (.cells #[.map (some b)] 52)) fun e w' => ∃ (v : Value) (ss : List (List UInt8)), e = .returned v ∧ ss.Perm (strKeys D0) ∧
      w'.ownsRow (w.alloc (.cells #[.map (some b)] 52)).heap.size 9 1 v ss.length ((ss.mergeSort (fun x y => decide (x ≤ y))).map encStr) ∧ (v = .slice none 0 0 ↔ ss = []) ∧ Below (w.alloc (.cells #[.map (some b)] 52)).heap.size (w.alloc (.cells #[.map (some b)] 52)) w' := by
  have hbl := hown.lt
  have hseq : SeqGives Fence.wide 2 Try.prog 54 #[.pointer (some ⟨w.heap.size, 0, none⟩)] encStr (fun ss => ss.Perm (strKeys D0)) (Maps.size D0) (w.alloc (.cells #[.map (some b)] 52)) :=
    AnyZ.keys_gives (ρ := Try.keys43_ren) { Try.keys43 with } Fence.wide _ trivial rfl (by omega) w.heap.size b nn D0 _ (by simp) (by simp) (by
      obtain ⟨es, clock, hb, Ft, hs, hD⟩ := hown
      exact ⟨es, clock, (Below.heap_alloc _ _ b hbl).trans hb, Ft, hs, hD⟩)
  exact AnyZ.sorted_in Try.sorted42 Fence.wide 5 trivial trivial trivial trivial rfl (by omega) (Try.sorts42 _) (enters_of Try.func53 (by kernel_rfl) rfl) 54 #[.pointer (some ⟨w.heap.size, 0, none⟩)] trivial (enters_of Try.func54 (by kernel_rfl) rfl) _ _ hmax hbytes _ hseq

set_option maxHeartbeats 1000000 in
/-- **.. AND FOR THE nil MAP: nil.** -/
theorem Try.slices_Sorted_keys_nil_42_43 (w : World) :
    CallsIn Fence.wide 5 Try.prog 42 #[.func (.func 54) #[] #[.pointer (some ⟨w.heap.size, 0, none⟩)]] (w.alloc (.cells #[.map none] 52)) fun e w' => ∃ (v : Value) (ss : List (List UInt8)), e = .returned v ∧ ss = [] ∧
      w'.ownsRow (w.alloc (.cells #[.map none] 52)).heap.size 9 1 v ss.length ((ss.mergeSort (fun x y => decide (x ≤ y))).map encStr) ∧ (v = .slice none 0 0 ↔ ss = []) ∧ Below (w.alloc (.cells #[.map none] 52)).heap.size (w.alloc (.cells #[.map none] 52)) w' := by
  have hseq : SeqGives Fence.wide 2 Try.prog 54 #[.pointer (some ⟨w.heap.size, 0, none⟩)] encStr (fun ss : List (List UInt8) => ss = []) 0 (w.alloc (.cells #[.map none] 52)) :=
    AnyZ.keys_gives_nil (ρ := Try.keys43_ren) { Try.keys43 with } Fence.wide _ trivial rfl w.heap.size _ (by simp) (by simp)
  exact AnyZ.sorted_in Try.sorted42 Fence.wide 5 trivial trivial trivial trivial rfl (by omega) (Try.sorts42 _) (enters_of Try.func53 (by kernel_rfl) rfl) 54 #[.pointer (some ⟨w.heap.size, 0, none⟩)] trivial (enters_of Try.func54 (by kernel_rfl) rfl) _ 0 (Nat.zero_le _) (by omega) _ hseq


end Go.Proofs
namespace Go.Proofs.Ytighcnecajgkpaa
open Go.RowKit

/-- the names, rising -/
theorem names_sorted (b mb : Nat) (cap : Am) (L : List Ent) (w : World) (h : Led w b mb cap L) (hr : Rise L) (hl : L.length ≤ 100000) :
    Calls Try.prog 42 #[.func (.func 54) #[] #[.pointer (some ⟨w.heap.size, 0, none⟩)]] (w.alloc (.cells #[.map (some mb)] 52)) fun e w' => ∃ v, e = .returned v ∧
      w'.ownsRow (w.heap.size + 1) 9 1 v L.length (L.map fun e => .string e.n) ∧ Below (w.heap.size + 1) (w.alloc (.cells #[.map (some mb)] 52)) w' := by
  have hsz := entM_keys L
  refine (callsIn_wide.1 (Try.slices_Sorted_keys_42_43 mb (entM L).length (entM L).dat anyElem w h.map (by rw [hsz]; unfold maxLen; omega) (by rw [hsz]; omega))).mono ?_
  rintro e w' ⟨v, ss, he, hp, hown, -, hb⟩
  rw [strKeys_ent] at hp
  have hlen := hp.length_eq
  simp only [List.length_map] at hlen
  have hso : ss.mergeSort (fun x y => decide (x ≤ y)) = L.map Ent.key := sort_rises hp hr.keys
  have hmap : (L.map Ent.key).map Go.Proofs.encStr = L.map fun e => Value.string e.n := by
    rw [List.map_map]
    rfl
  rw [hso, hlen, hmap] at hown
  exact ⟨v, he, by simpa using hown, by simpa using hb⟩

theorem info_ent : (Try.prog.info? 48).map (fun i => (i.zero, i.size, i.bytes)) = some (some (entV zE), 6, 64) := by kernel_rfl
def entsC (L : List Ent) : List Value := L.flatMap entC
theorem entsC_len (L : List Ent) : (entsC L).length = L.length * 6 := by
  induction L with
  | nil => rfl
  | cons e L ih => simp only [entsC, List.flatMap_cons, List.length_append, List.length_cons, List.length_nil] at *; omega
theorem entsC_one (L : List Ent) : ∀ u ∈ entsC L, u.oneCell' = true := by
  intro u hu
  obtain ⟨x, -, hx⟩ := List.mem_flatMap.1 hu
  simp only [List.mem_cons, List.not_mem_nil, or_false] at hx
  rcases hx with rfl | rfl | rfl | rfl | rfl | rfl <;> rfl
theorem entC_one (e : Ent) : ∀ u ∈ (entC e), u.oneCell' = true := by
  intro u hx
  simp only [List.mem_cons, List.not_mem_nil, or_false] at hx
  rcases hx with rfl | rfl | rfl | rfl | rfl | rfl <;> rfl

theorem entsC_snoc (L : List Ent) (x : Ent) : entsC (L ++ [x]) = entsC L ++ entC x := by
  unfold entsC
  rw [List.flatMap_append, List.flatMap_cons, List.flatMap_nil, List.append_nil]
theorem entsC_take {L : List Ent} {x : Ent} {k : Nat} (hlt : k < L.length) (hx : x = L[k]) : entsC (L.take (k + 1)) = entsC (L.take k) ++ entC x := by
  rw [List.take_succ_eq_append_getElem hlt, ← hx, entsC_snoc]

set_option maxRecDepth 100000 in
set_option maxHeartbeats 2000000 in
theorem entries_made (b mb : Nat) (cap : Am) (L : List Ent) (w : World) (h : Led w b mb cap L) (hr : Rise L) (hk : ∀ e ∈ L, e.n.size ≤ maxLen) (hl : L.length ≤ 100000) :
    Calls Try.prog 24 #[ptr b] w fun e w' => ∃ v, e = .returned v ∧ w'.ownsRow w.heap.size 48 6 v L.length (entsC L) ∧ Below w.heap.size w w' := by
  obtain ⟨i0, hi, hz0, hz1, hz2⟩ := info_parts info_ent
  have H := Lib.hid h
  have HK := Lib.hid hk
  have HAP := Lib.hid hr.apart
  have HL := Lib.hid hl
  have hml : maxLen ≤ 9223372036854775807 := by decide
  have c4 := h.blk.cell (j := 4) rfl
  have HKE := Lib.hid (callsIn_wide.1 (Try.maps_Keys_43 (some mb) w))
  have HSO := Lib.hid (names_sorted b mb cap L w h hr hl)
  clear h hr hk
  go_enter Try.func24, Try.ntmps24
  go_wp2_with (first
    | (go_at_call 29; refine (none_made b mb _ _ _ H.out).mono ?_; rintro e w' ⟨rfl, rfl⟩)
    | (go_at_call 43; refine HKE.out.mono ?_; rintro e w' ⟨rfl, rfl⟩)
    | (go_at_call 42; refine HSO.out.mono ?_; rintro e w3 ⟨v3, rfl, ho3, hb3⟩; obtain ⟨p3, k3, rfl, hk3, hm3⟩ := own_slice ho3; have HO3 := Lib.hid ho3; have HB3 : Hid (Below w.heap.size w w3) := Lib.hid ((below_alloc w _).trans (hb3.mono (by omega))); clear ho3 hb3))
  go_loopw [3, 15] (fun o i wr => ∃ k : Nat, k ≤ L.length ∧ i = .int .i64 (k : Int) ∧ Hid (wr.ownsRow w.heap.size 48 6 o k (entsC (L.take k)) ∧ ∀ x, o.ownBlock = some x → w3.heap.size ≤ x) ∧ Hid (Below w3.heap.size w3 wr)) (fun _ i _ => L.length - (intOf i).toNat)
  case atStart => exact ⟨0, Nat.zero_le _, rfl, Lib.hid ⟨World.ownsRow_nil _ _ _ _, fun x h => by simp [Value.ownBlock] at h⟩, Lib.hid (Below.refl _ _)⟩
  case round =>
    obtain ⟨k, hk, rfl, HO, HB⟩ := hrel
    by_cases hlt : k < L.length
    · obtain ⟨g3, cap3, e3, -, -, -⟩ := own_block HO3.out (by omega)
      simp only [Value.slice.injEq] at e3
      obtain ⟨rfl, -, rfl⟩ := e3
      obtain ⟨x, hx⟩ : ∃ x, x = L[k] := ⟨_, rfl⟩
      have hc := cell_kept (own_cell HO3.out (j := k) (u := .string x.n) (by rw [hx]; simp [hlt])) HB.out
      have hmem : x ∈ L := by rw [hx]; exact List.getElem_mem hlt
      have HG := Lib.hid (get_some (fnd_of HAP.out hmem))
      have HXS := Lib.hid (HK.out x hmem)
      have HHR := Lib.hid (H.out.kept (below_and HB3.out HB.out))
      have c4r := HHR.out.blk.cell (j := 4) rfl
      have hoa := own_fr HO.out.1 (Fr.of_below (below_alloc wr (.cells #[.string x.n, .string x.i, .int .i64 x.a.c, .int .i64 x.a.r, .int .i64 x.a.d, .int .i64 x.a.p] 48)) []) (fun _ _ => by simp)
      have HOA := Lib.hid hoa
      have hwz := (below_and HB3.out HB.out).size
      have HWZ := Lib.hid hwz
      have HT : Hid (entsC (L.take (k + 1)) = entsC (L.take k) ++ entC x) := Lib.hid (entsC_take hlt hx)
      have i1 : (k : Int) < (L.length : Int) := by omega
      clear hx hmem hoa hwz
      go_wp2_with (first
        | (at_lookup; refine wpList_slook _ rfl _ _ _ rfl 9 48 Try.underlying9 Try.underlying52 (ezero _) mb (entM L) rfl HHR.out.map x.n rfl HXS.out ?_; rw [show (entM L).get x.n.data.toList = some (entV x) from HG.out.1]; simp only [Option.getD_some])
        | (at_builtin; go_loud (refine wpList_app5 rfl _ _ 56 56 rfl w.heap.size 48 i0 (entV zE) 6 64 Try.underlying56 hi hz0 hz1 hz2 rfl _ k (entsC (L.take k)) rfl HOA.out _ 1 _ rfl (src_block Try.underlying56 _ _ #[_, _, _, _, _, _] (heap_alloc_new wr _) rfl (entC_one x)) (by have := HL.out; unfold maxLen; omega) (by have := HL.out; omega) (by have := HWZ.out; simp; omega) ?_; intro o4 w4 ho4 hg4 hn4; have HO4 := Lib.hid ho4; have HN4 : Hid (∀ x, o4.ownBlock = some x → w3.heap.size ≤ x) := Lib.hid (fun y hy => by rcases hn4 y hy with h1 | h1; exact HO.out.2 y h1; have := HB.out.size; simp at h1; omega); have HB4 : Hid (Below w3.heap.size w3 w4) := Lib.hid ((below_and HB.out (below_alloc wr _)).trans ((Fr.of_grown hg4).below (by intro y hy; exact HO.out.2 y (Option.mem_toList.1 hy)) (by have := HB.out.size; simp; omega))); clear ho4 hg4 hn4)))
      go_roundw
      case rel => exact ⟨k + 1, hlt, by go_num, Lib.hid ⟨by rw [HT.out]; exact HO4.out, HN4.out⟩, HB4⟩
      case measure => simp [intOf]; omega
    · obtain rfl : k = L.length := by omega
      have HE := HO.out.1
      rw [List.take_length] at HE
      have HEE := Lib.hid HE
      clear HE
      go_wp2
      go_ret
      exact ⟨_, rfl, HEE.out, below_and HB3.out HB.out⟩
end Go.Proofs.Ytighcnecajgkpaa
namespace Go.Proofs.Ytighcnecajgkpaa
open Go.RowKit

theorem entsC_at : ∀ (L : List Ent) (k : Nat) (hk : k < L.length) (j : Nat), j < 6 → (entsC L)[k * 6 + j]? = (entC L[k])[j]?
  | [], k, hk, _, _ => absurd hk (Nat.not_lt_zero _)
  | e :: L, 0, _, j, hj => by
    show (entC e ++ entsC L)[0 * 6 + j]? = _
    rw [Nat.zero_mul, Nat.zero_add, List.getElem?_append_left (by simpa using hj)]
    rfl
  | e :: L, k + 1, hk, j, hj => by
    show (entC e ++ entsC L)[(k + 1) * 6 + j]? = _
    rw [List.getElem?_append_right (by simp; omega), show (k + 1) * 6 + j - (entC e).length = k * 6 + j by simp; omega]
    exact entsC_at L k (by simpa using hk) j hj

def inP (s : ByteArray) (x : Ent) : Bool := (x.i.toList == s.toList) && !s.toList.isEmpty
/-- the names of entries in one -/
def inL (s : ByteArray) (L : List Ent) : List Value := (L.filter fun x => inP s x).map fun x => .string x.n
theorem inL_yes {s : ByteArray} {L : List Ent} {x : Ent} {k : Nat} (hlt : k < L.length) (hx : x = L[k]) (h : inP s x = true) : inL s (L.take (k + 1)) = inL s (L.take k) ++ [.string x.n] := by
  unfold inL
  rw [List.take_succ_eq_append_getElem hlt, ← hx, List.filter_append, List.map_append, List.filter_cons_of_pos h]
  rfl
theorem inL_no {s : ByteArray} {L : List Ent} {x : Ent} {k : Nat} (hlt : k < L.length) (hx : x = L[k]) (h : inP s x = false) : inL s (L.take (k + 1)) = inL s (L.take k) := by
  unfold inL
  rw [List.take_succ_eq_append_getElem hlt, ← hx, List.filter_append, List.map_append, List.filter_cons_of_neg (by simp [h])]
  simp
theorem inL_len (s : ByteArray) (L : List Ent) : (inL s L).length ≤ L.length := by
  unfold inL
  rw [List.length_map]
  exact List.length_filter_le _ _

set_option maxRecDepth 100000 in
set_option maxHeartbeats 2000000 in
theorem in_made (b mb : Nat) (cap : Am) (L : List Ent) (s : ByteArray) (w : World) (h : Led w b mb cap L) (hr : Rise L) (hk : ∀ e ∈ L, e.n.size ≤ maxLen) (hl : L.length ≤ 100000) :
    Calls Try.prog 20 #[ptr b, .string s] w fun e w' => ∃ v, e = .returned v ∧ w'.ownsRow w.heap.size 9 1 v (inL s L).length (inL s L) ∧ Below w.heap.size w w' := by
  obtain ⟨i0, hi, hz0, hz1, hz2⟩ := info_parts (show (Try.prog.info? 9).map (fun i => (i.zero, i.size, i.bytes)) = some (some (.string ⟨#[]⟩), 1, 16) by kernel_rfl)
  have HE := Lib.hid (entries_made b mb cap L w h hr hk hl)
  have HL := Lib.hid hl
  have hml : maxLen ≤ 9223372036854775807 := by decide
  clear h hr hk
  go_enter Try.func20, Try.ntmps20
  go_wp2_with (go_at_call 24; refine HE.out.mono ?_; rintro e w3 ⟨v3, rfl, ho3, hb3⟩; obtain ⟨p3, k3, rfl, hk3, hm3⟩ := own_slice ho3; have HO3 := Lib.hid ho3; have HB3 := Lib.hid hb3; clear ho3 hb3)
  go_loopw [5, 11] (fun o i wr => ∃ k : Nat, k ≤ L.length ∧ i = .int .i64 (k : Int) ∧ Hid (wr.ownsRow w.heap.size 9 1 o (inL s (L.take k)).length (inL s (L.take k)) ∧ ∀ x, o.ownBlock = some x → w3.heap.size ≤ x) ∧ Hid (Below w3.heap.size w3 wr)) (fun _ i _ => L.length - (intOf i).toNat)
  case atStart => exact ⟨0, Nat.zero_le _, rfl, Lib.hid ⟨World.ownsRow_nil _ _ _ _, fun x h => by simp [Value.ownBlock] at h⟩, Lib.hid (Below.refl _ _)⟩
  case round =>
    obtain ⟨k, hk, rfl, HO, HB⟩ := hrel
    by_cases hlt : k < L.length
    · obtain ⟨g3, cap3, e3, -, -, -⟩ := own_block HO3.out (by omega)
      simp only [Value.slice.injEq] at e3
      obtain ⟨rfl, -, rfl⟩ := e3
      obtain ⟨x, hx⟩ : ∃ x, x = L[k] := ⟨_, rfl⟩
      have hcs : ∀ j u, j < 6 → (entC x)[j]? = some u → wr.cell? ⟨g3, k * 6 + j, none⟩ = some u := fun j u hj hu => cell_kept (own_cell HO3.out (by rw [entsC_at L k hlt j hj, ← hx]; exact hu)) HB.out
      have c0 : wr.cell? ⟨g3, k * 6, none⟩ = some (.string x.n) := hcs 0 _ (by omega) rfl
      have c1 := hcs 1 _ (by omega) rfl
      have c2 := hcs 2 _ (by omega) rfl
      have c3 := hcs 3 _ (by omega) rfl
      have c4 := hcs 4 _ (by omega) rfl
      have c5 := hcs 5 _ (by omega) rfl
      have i1 : (k : Int) < (L.length : Int) := by omega
      clear hcs
      have HHX : Hid (x = L[k]) := Lib.hid hx
      clear hx
      have HWZ : Hid (w.heap.size ≤ wr.heap.size) := Lib.hid (by have h1 := HB3.out.size; have h2 := HB.out.size; omega)
      go_upto_region 5 with fail
      obtain ⟨w5, hw5⟩ : ∃ w5, w5 = wr.alloc (.cells #[.string x.n, .string x.i, .int .i64 x.a.c, .int .i64 x.a.r, .int .i64 x.a.d, .int .i64 x.a.p] 48) := ⟨_, rfl⟩
      obtain ⟨X, hX⟩ : ∃ X, X = wr.heap.size := ⟨_, rfl⟩
      have hb5 : Below wr.heap.size wr w5 := by rw [hw5]; exact below_alloc _ _
      have hE5 : Blk w5 X (entC x) 48 := by rw [hw5, hX]; exact Blk.made wr (entC x) _
      have x0 := hE5.cell (j := 0) rfl
      have x1 := hE5.cell (j := 1) rfl
      have HB5 : Hid (Below w3.heap.size w3 w5) := Lib.hid (HB.out.trans (hb5.mono HB.out.size))
      have HO5 : Hid (w5.ownsRow w.heap.size 9 1 u5 (inL s (L.take k)).length (inL s (L.take k))) := Lib.hid (own_fr HO.out.1 (Fr.of_below hb5 []) (fun _ _ => by simp))
      have HW5 : Hid (w.heap.size ≤ w5.heap.size) := Lib.hid (by have h1 := HWZ.out; have h2 := hb5.size; omega)
      rw [← hw5, ← hX]
      clear hw5 hX hb5 hE5
      cases hq : (x.i.toList == s.toList)
      · have HY : Hid (inL s (L.take (k + 1)) = inL s (L.take k)) := Lib.hid (inL_no hlt HHX.out (by unfold inP; simp [hq]))
        go_wp2
        go_roundw
        case rel => exact ⟨k + 1, hlt, by go_num, Lib.hid ⟨by rw [HY.out]; exact HO5.out, HO.out.2⟩, HB5⟩
        case measure => simp [intOf]; omega
      cases he : s.toList.isEmpty
      · have HY : Hid (inL s (L.take (k + 1)) = inL s (L.take k) ++ [.string x.n]) := Lib.hid (inL_yes hlt HHX.out (by unfold inP; rw [hq, he]; rfl))
        have HLE : Hid ((inL s (L.take k)).length ≤ k) := Lib.hid (Nat.le_trans (inL_len _ _) (by simp; omega))
        go_wp2_with (at_builtin; go_loud (refine wpList_app5 rfl _ _ 45 45 rfl w.heap.size 9 i0 (.string ⟨#[]⟩) 1 16 Try.underlying45 hi hz0 hz1 hz2 rfl _ (inL s (L.take k)).length (inL s (L.take k)) rfl (own_fr HO5.out (Fr.of_below (below_alloc w5 (.cells #[.string x.n] 9)) []) (fun _ _ => by simp)) _ 1 _ rfl (src_block Try.underlying45 _ _ #[_] (heap_alloc_new w5 _) rfl (by simp [Value.oneCell'])) (by have := HL.out; have := HLE.out; unfold maxLen; omega) (by have := HL.out; have := HLE.out; omega) (by have := HW5.out; simp; omega) ?_; intro o4 w4 ho4 hg4 hn4; have HO4 := Lib.hid ho4; have HN4 : Hid (∀ x, o4.ownBlock = some x → w3.heap.size ≤ x) := Lib.hid (fun y hy => by rcases hn4 y hy with h1 | h1; exact HO.out.2 y h1; have := HB5.out.size; simp at h1; omega); have HB4 : Hid (Below w3.heap.size w3 w4) := Lib.hid ((below_and HB5.out (below_alloc w5 _)).trans ((Fr.of_grown hg4).below (by intro y hy; exact HO.out.2 y (Option.mem_toList.1 hy)) (by have := HB5.out.size; simp; omega))); clear ho4 hg4 hn4))
        go_roundw
        case rel => exact ⟨k + 1, hlt, by go_num, Lib.hid ⟨by rw [HY.out, List.length_append]; exact HO4.out, HN4.out⟩, HB4⟩
        case measure => simp [intOf]; omega
      · have HY : Hid (inL s (L.take (k + 1)) = inL s (L.take k)) := Lib.hid (inL_no hlt HHX.out (by unfold inP; simp [he]))
        go_wp2
        go_roundw
        case rel => exact ⟨k + 1, hlt, by go_num, Lib.hid ⟨by rw [HY.out]; exact HO5.out, HO.out.2⟩, HB5⟩
        case measure => simp [intOf]; omega
    · obtain rfl : k = L.length := by omega
      have HE := HO.out.1
      rw [List.take_length] at HE
      have HEE := Lib.hid HE
      clear HE
      go_wp2
      go_ret
      exact ⟨_, rfl, HEE.out, below_and HB3.out HB.out⟩
end Go.Proofs.Ytighcnecajgkpaa
namespace Go.Proofs.Ytighcnecajgkpaa
open Go.RowKit

theorem fits_val {x y : Am} {v : Bool} (h : fitsB x y = v) (w : World) : Calls Try.prog 30 #[amV x, amV y] w fun e w' => e = .returned (.bool v) ∧ Below w.heap.size w w' :=
  (fits_any x y w).mono fun e w' ⟨h1, h2⟩ => ⟨by rw [h1, h], h2⟩

set_option maxRecDepth 100000 in
set_option maxHeartbeats 2000000 in
theorem take_len (b mb : Nat) (cap : Am) (L : List Ent) (s t : ByteArray) (a : Am) (w : World) (h : Led w b mb cap L) (hn : s.size = 0 ∨ 64 < s.size) :
    Calls Try.prog 9 #[ptr b, .string s, .string t, amV a] w fun e w' => e = .returned (.int .i64 2) ∧ Below w.heap.size w w' := by
  obtain ⟨w3, hw3⟩ : ∃ w3, w3 = w.alloc (.cells #[.int .i64 a.c, .int .i64 a.r, .int .i64 a.d, .int .i64 a.p] 28) := ⟨_, rfl⟩
  obtain ⟨B, hB⟩ : ∃ B, B = w.heap.size := ⟨_, rfl⟩
  have S0 : Hid (Blk w3 B (amC a) 28) := Lib.hid (by rw [hw3, hB]; exact Blk.made w (amC a) _)
  have HBL : Hid (Below w.heap.size w w3) := Lib.hid (by rw [hw3]; exact below_alloc w _)
  have H := Lib.hid h
  have H3 : Hid (Led w3 b mb cap L) := Lib.hid (h.kept HBL.out)
  have c4 := H3.out.blk.cell (j := 4) rfl
  have a0 := S0.out.cell (j := 0) rfl
  have a1 := S0.out.cell (j := 1) rfl
  have a2 := S0.out.cell (j := 2) rfl
  have a3 := S0.out.cell (j := 3) rfl
  rcases hn with hn | hn
  · have d1 : decide ((s.size : Int) < 1) = true := by simp; omega
    clear h hn
    go_enter Try.func9, Try.ntmps9
    go_upto_region 1 with fail
    rw [← hw3, ← hB]
    clear hw3 hB
    go_wp2_with (first | (go_at_call 29; refine (none_made b mb _ _ _ H3.out).mono ?_; rintro e w' ⟨rfl, rfl⟩))
    go_ret
    exact ⟨rfl, HBL.out⟩
  · have d1 : decide ((s.size : Int) < 1) = false := by simp; omega
    have d2 : decide ((64 : Int) < (s.size : Int)) = true := by simp; omega
    clear h hn
    go_enter Try.func9, Try.ntmps9
    go_upto_region 1 with fail
    rw [← hw3, ← hB]
    clear hw3 hB
    go_wp2_with (first | (go_at_call 29; refine (none_made b mb _ _ _ H3.out).mono ?_; rintro e w' ⟨rfl, rfl⟩))
    go_ret
    exact ⟨rfl, HBL.out⟩

set_option maxRecDepth 100000 in
set_option maxHeartbeats 2000000 in
theorem take_bad (b mb : Nat) (cap : Am) (L : List Ent) (s t : ByteArray) (a : Am) (w : World) (h : Led w b mb cap L) (h1 : 1 ≤ s.size) (h2 : s.size ≤ 64) (ha : a.okB = false) :
    Calls Try.prog 9 #[ptr b, .string s, .string t, amV a] w fun e w' => e = .returned (.int .i64 2) ∧ Below w.heap.size w w' := by
  obtain ⟨w3, hw3⟩ : ∃ w3, w3 = w.alloc (.cells #[.int .i64 a.c, .int .i64 a.r, .int .i64 a.d, .int .i64 a.p] 28) := ⟨_, rfl⟩
  obtain ⟨B, hB⟩ : ∃ B, B = w.heap.size := ⟨_, rfl⟩
  have S0 : Hid (Blk w3 B (amC a) 28) := Lib.hid (by rw [hw3, hB]; exact Blk.made w (amC a) _)
  have HBL : Hid (Below w.heap.size w w3) := Lib.hid (by rw [hw3]; exact below_alloc w _)
  have H := Lib.hid h
  have H3 : Hid (Led w3 b mb cap L) := Lib.hid (h.kept HBL.out)
  have c4 := H3.out.blk.cell (j := 4) rfl
  have a0 := S0.out.cell (j := 0) rfl
  have a1 := S0.out.cell (j := 1) rfl
  have a2 := S0.out.cell (j := 2) rfl
  have a3 := S0.out.cell (j := 3) rfl
  have d1 : decide ((s.size : Int) < 1) = false := by simp; omega
  have d2 : decide ((64 : Int) < (s.size : Int)) = false := by simp; omega
  have HS : Hid (s.size ≤ maxLen) := Lib.hid (by unfold maxLen; omega)
  have HCK := Lib.hid (Am.chk_no ha)
  clear h h1 h2 ha
  go_enter Try.func9, Try.ntmps9
  go_upto_region 1 with fail
  rw [← hw3, ← hB]
  clear hw3 hB
  go_wp2_with (first | (go_at_call 29; refine (none_made b mb _ _ _ H3.out).mono ?_; rintro e w' ⟨rfl, rfl⟩) | (go_at_call 28; refine (check_any a _).mono ?_; rw [HCK.out]; rintro e w4 ⟨rfl, hb⟩; have H4 := Lib.hid (H3.out.kept hb); have HB4 := Lib.hid (below_and HBL.out hb); have S4 := Lib.hid (S0.out.kept hb); clear c4 a0 a1 a2 a3; have c4 : ∀ w', Below w4.heap.size w4 w' → w'.cell? ⟨b, 4, none⟩ = some (.map (some mb)) := fun w' h => (H4.out.kept h).blk.cell (j := 4) rfl; have HC4 := Lib.hid c4; clear c4; have c40 := HC4.out _ (Below.refl _ _); have c41 : ∀ (A : Array Value) (t : TypeId), (w4.alloc (.cells A t)).cell? ⟨b, 4, none⟩ = some (.map (some mb)) := fun A t => HC4.out _ (below_alloc _ _); clear hb))
  go_ret
  exact ⟨rfl, HB4.out⟩

set_option maxRecDepth 100000 in
set_option maxHeartbeats 2000000 in
theorem take_there (b mb : Nat) (cap : Am) (L : List Ent) (s t : ByteArray) (a : Am) (x : Ent) (w : World) (h : Led w b mb cap L) (h1 : 1 ≤ s.size) (h2 : s.size ≤ 64) (ha : a.okB = true) (hx : fnd L s.data.toList = some x) :
    Calls Try.prog 9 #[ptr b, .string s, .string t, amV a] w fun e w' => e = .returned (.int .i64 7) ∧ Below w.heap.size w w' := by
  obtain ⟨w3, hw3⟩ : ∃ w3, w3 = w.alloc (.cells #[.int .i64 a.c, .int .i64 a.r, .int .i64 a.d, .int .i64 a.p] 28) := ⟨_, rfl⟩
  obtain ⟨B, hB⟩ : ∃ B, B = w.heap.size := ⟨_, rfl⟩
  have S0 : Hid (Blk w3 B (amC a) 28) := Lib.hid (by rw [hw3, hB]; exact Blk.made w (amC a) _)
  have HBL : Hid (Below w.heap.size w w3) := Lib.hid (by rw [hw3]; exact below_alloc w _)
  have H := Lib.hid h
  have H3 : Hid (Led w3 b mb cap L) := Lib.hid (h.kept HBL.out)
  have c4 := H3.out.blk.cell (j := 4) rfl
  have a0 := S0.out.cell (j := 0) rfl
  have a1 := S0.out.cell (j := 1) rfl
  have a2 := S0.out.cell (j := 2) rfl
  have a3 := S0.out.cell (j := 3) rfl
  have d1 : decide ((s.size : Int) < 1) = false := by simp; omega
  have d2 : decide ((64 : Int) < (s.size : Int)) = false := by simp; omega
  have HS : Hid (s.size ≤ maxLen) := Lib.hid (by unfold maxLen; omega)
  have HCK := Lib.hid (Am.chk_yes ha)
  have HX := Lib.hid (get_some hx)
  clear h h1 h2 ha hx
  go_enter Try.func9, Try.ntmps9
  go_upto_region 1 with fail
  rw [← hw3, ← hB]
  clear hw3 hB
  go_wp2_with (first | (go_at_call 29; refine (none_made b mb _ _ _ H3.out).mono ?_; rintro e w' ⟨rfl, rfl⟩) | (go_at_call 28; refine (check_any a _).mono ?_; rw [HCK.out]; rintro e w4 ⟨rfl, hb⟩; have H4 := Lib.hid (H3.out.kept hb); have HB4 := Lib.hid (below_and HBL.out hb); have S4 := Lib.hid (S0.out.kept hb); clear c4 a0 a1 a2 a3; have c4 : ∀ w', Below w4.heap.size w4 w' → w'.cell? ⟨b, 4, none⟩ = some (.map (some mb)) := fun w' h => (H4.out.kept h).blk.cell (j := 4) rfl; have HC4 := Lib.hid c4; clear c4; have c40 := HC4.out _ (Below.refl _ _); have c41 : ∀ (A : Array Value) (t : TypeId), (w4.alloc (.cells A t)).cell? ⟨b, 4, none⟩ = some (.map (some mb)) := fun A t => HC4.out _ (below_alloc _ _); clear hb) | (at_lookup; refine wpList_slook_ok _ rfl _ _ _ rfl 9 48 Try.underlying9 Try.underlying52 (ezero _) mb (entM L) rfl (by first | exact H4.out.map | exact (H4.out.kept (below_alloc _ _)).map | exact (H4.out.kept (below_and (below_alloc _ _) (below_alloc _ _))).map) s rfl HS.out ?_; rw [HX.out.1, HX.out.2]; simp only [Option.getD_none, Option.getD_some]))
  go_ret
  exact ⟨rfl, below_and HB4.out (below_alloc _ _)⟩

set_option maxRecDepth 100000 in
set_option maxHeartbeats 2000000 in
theorem take_none (b mb : Nat) (cap : Am) (L : List Ent) (s t : ByteArray) (a : Am) (w : World) (h : Led w b mb cap L) (h1 : 1 ≤ s.size) (h2 : s.size ≤ 64) (ha : a.okB = true) (hx : fnd L s.data.toList = none) (hi : ¬ t.toList = []) (ht : t.size ≤ maxLen) (hy : fnd L t.data.toList = none) :
    Calls Try.prog 9 #[ptr b, .string s, .string t, amV a] w fun e w' => e = .returned (.int .i64 6) ∧ Below w.heap.size w w' := by
  obtain ⟨w3, hw3⟩ : ∃ w3, w3 = w.alloc (.cells #[.int .i64 a.c, .int .i64 a.r, .int .i64 a.d, .int .i64 a.p] 28) := ⟨_, rfl⟩
  obtain ⟨B, hB⟩ : ∃ B, B = w.heap.size := ⟨_, rfl⟩
  have S0 : Hid (Blk w3 B (amC a) 28) := Lib.hid (by rw [hw3, hB]; exact Blk.made w (amC a) _)
  have HBL : Hid (Below w.heap.size w w3) := Lib.hid (by rw [hw3]; exact below_alloc w _)
  have H := Lib.hid h
  have H3 : Hid (Led w3 b mb cap L) := Lib.hid (h.kept HBL.out)
  have c4 := H3.out.blk.cell (j := 4) rfl
  have a0 := S0.out.cell (j := 0) rfl
  have a1 := S0.out.cell (j := 1) rfl
  have a2 := S0.out.cell (j := 2) rfl
  have a3 := S0.out.cell (j := 3) rfl
  have d1 : decide ((s.size : Int) < 1) = false := by simp; omega
  have d2 : decide ((64 : Int) < (s.size : Int)) = false := by simp; omega
  have HS : Hid (s.size ≤ maxLen) := Lib.hid (by unfold maxLen; omega)
  have i0 : t.toList.isEmpty = false := by simpa using hi
  have HT := Lib.hid ht
  have HCK := Lib.hid (Am.chk_yes ha)
  have HX := Lib.hid (get_none hx)
  have HY := Lib.hid (get_none hy)
  clear h h1 h2 ha hx hi hy ht
  go_enter Try.func9, Try.ntmps9
  go_upto_region 1 with fail
  rw [← hw3, ← hB]
  clear hw3 hB
  go_wp2_with (first | (go_at_call 29; refine (none_made b mb _ _ _ H3.out).mono ?_; rintro e w' ⟨rfl, rfl⟩) | (go_at_call 28; refine (check_any a _).mono ?_; rw [HCK.out]; rintro e w4 ⟨rfl, hb⟩; have H4 := Lib.hid (H3.out.kept hb); have HB4 := Lib.hid (below_and HBL.out hb); have S4 := Lib.hid (S0.out.kept hb); clear c4 a0 a1 a2 a3; have c4 : ∀ w', Below w4.heap.size w4 w' → w'.cell? ⟨b, 4, none⟩ = some (.map (some mb)) := fun w' h => (H4.out.kept h).blk.cell (j := 4) rfl; have HC4 := Lib.hid c4; clear c4; have c40 := HC4.out _ (Below.refl _ _); have c41 : ∀ (A : Array Value) (t : TypeId), (w4.alloc (.cells A t)).cell? ⟨b, 4, none⟩ = some (.map (some mb)) := fun A t => HC4.out _ (below_alloc _ _); clear hb) | (at_lookup; refine wpList_slook_ok _ rfl _ _ _ rfl 9 48 Try.underlying9 Try.underlying52 (ezero _) mb (entM L) rfl (by first | exact H4.out.map | exact (H4.out.kept (below_alloc _ _)).map | exact (H4.out.kept (below_and (below_alloc _ _) (below_alloc _ _))).map) s rfl HS.out ?_; rw [HX.out.1, HX.out.2]; simp only [Option.getD_none, Option.getD_some]) | (at_lookup; refine wpList_slook_ok _ rfl _ _ _ rfl 9 48 Try.underlying9 Try.underlying52 (ezero _) mb (entM L) rfl (by first | exact H4.out.map | exact (H4.out.kept (below_alloc _ _)).map | exact (H4.out.kept (below_and (below_alloc _ _) (below_alloc _ _))).map) t rfl HT.out ?_; rw [HY.out.1, HY.out.2]; simp only [Option.getD_none, Option.getD_some]))
  go_ret
  exact ⟨rfl, below_and (below_and HB4.out (below_alloc _ _)) (below_alloc _ _)⟩

set_option maxRecDepth 100000 in
set_option maxHeartbeats 2000000 in
theorem take_state (b mb : Nat) (cap : Am) (L : List Ent) (s t : ByteArray) (a : Am) (y : Ent) (w : World) (h : Led w b mb cap L) (h1 : 1 ≤ s.size) (h2 : s.size ≤ 64) (ha : a.okB = true) (hx : fnd L s.data.toList = none) (hi : ¬ t.toList = []) (ht : t.size ≤ maxLen) (hy : fnd L t.data.toList = some y) (hyi : ¬ y.i.toList = []) :
    Calls Try.prog 9 #[ptr b, .string s, .string t, amV a] w fun e w' => e = .returned (.int .i64 13) ∧ Below w.heap.size w w' := by
  obtain ⟨w3, hw3⟩ : ∃ w3, w3 = w.alloc (.cells #[.int .i64 a.c, .int .i64 a.r, .int .i64 a.d, .int .i64 a.p] 28) := ⟨_, rfl⟩
  obtain ⟨B, hB⟩ : ∃ B, B = w.heap.size := ⟨_, rfl⟩
  have S0 : Hid (Blk w3 B (amC a) 28) := Lib.hid (by rw [hw3, hB]; exact Blk.made w (amC a) _)
  have HBL : Hid (Below w.heap.size w w3) := Lib.hid (by rw [hw3]; exact below_alloc w _)
  have H := Lib.hid h
  have H3 : Hid (Led w3 b mb cap L) := Lib.hid (h.kept HBL.out)
  have c4 := H3.out.blk.cell (j := 4) rfl
  have a0 := S0.out.cell (j := 0) rfl
  have a1 := S0.out.cell (j := 1) rfl
  have a2 := S0.out.cell (j := 2) rfl
  have a3 := S0.out.cell (j := 3) rfl
  have d1 : decide ((s.size : Int) < 1) = false := by simp; omega
  have d2 : decide ((64 : Int) < (s.size : Int)) = false := by simp; omega
  have HS : Hid (s.size ≤ maxLen) := Lib.hid (by unfold maxLen; omega)
  have i0 : t.toList.isEmpty = false := by simpa using hi
  have HT := Lib.hid ht
  have j0 : y.i.toList.isEmpty = false := by simpa using hyi
  have HCK := Lib.hid (Am.chk_yes ha)
  have HX := Lib.hid (get_none hx)
  have HY := Lib.hid (get_some hy)
  clear h h1 h2 ha hx hi hy ht
  go_enter Try.func9, Try.ntmps9
  go_upto_region 1 with fail
  rw [← hw3, ← hB]
  clear hw3 hB
  go_wp2_with (first | (go_at_call 29; refine (none_made b mb _ _ _ H3.out).mono ?_; rintro e w' ⟨rfl, rfl⟩) | (go_at_call 28; refine (check_any a _).mono ?_; rw [HCK.out]; rintro e w4 ⟨rfl, hb⟩; have H4 := Lib.hid (H3.out.kept hb); have HB4 := Lib.hid (below_and HBL.out hb); have S4 := Lib.hid (S0.out.kept hb); clear c4 a0 a1 a2 a3; have c4 : ∀ w', Below w4.heap.size w4 w' → w'.cell? ⟨b, 4, none⟩ = some (.map (some mb)) := fun w' h => (H4.out.kept h).blk.cell (j := 4) rfl; have HC4 := Lib.hid c4; clear c4; have c40 := HC4.out _ (Below.refl _ _); have c41 : ∀ (A : Array Value) (t : TypeId), (w4.alloc (.cells A t)).cell? ⟨b, 4, none⟩ = some (.map (some mb)) := fun A t => HC4.out _ (below_alloc _ _); clear hb) | (at_lookup; refine wpList_slook_ok _ rfl _ _ _ rfl 9 48 Try.underlying9 Try.underlying52 (ezero _) mb (entM L) rfl (by first | exact H4.out.map | exact (H4.out.kept (below_alloc _ _)).map | exact (H4.out.kept (below_and (below_alloc _ _) (below_alloc _ _))).map) s rfl HS.out ?_; rw [HX.out.1, HX.out.2]; simp only [Option.getD_none, Option.getD_some]) | (at_lookup; refine wpList_slook_ok _ rfl _ _ _ rfl 9 48 Try.underlying9 Try.underlying52 (ezero _) mb (entM L) rfl (by first | exact H4.out.map | exact (H4.out.kept (below_alloc _ _)).map | exact (H4.out.kept (below_and (below_alloc _ _) (below_alloc _ _))).map) t rfl HT.out ?_; rw [HY.out.1, HY.out.2]; simp only [Option.getD_none, Option.getD_some]))
  go_ret
  exact ⟨rfl, below_and (below_and HB4.out (below_alloc _ _)) (below_alloc _ _)⟩

theorem led_put {w w' : World} {b mb : Nat} {cap : Am} {L : List Ent} {x : Ent} (h : Led w b mb cap L) (hp : SMap Try.prog 9 w' mb ((entM L).put x.n.data.toList (entV x))) (hg : w.grownBy w' (some mb)) : Led w' b mb cap (putE L x) :=
  ⟨h.blk.grown hg (fun e => h.ne (Option.some.inj e).symm), by rw [← entM_put]; exact hp, h.ne⟩

set_option maxRecDepth 100000 in
set_option maxHeartbeats 2000000 in
theorem take_nofit_top (b mb : Nat) (cap : Am) (L : List Ent) (s t : ByteArray) (a : Am) (w : World) (h : Led w b mb cap L) (h1 : 1 ≤ s.size) (h2 : s.size ≤ 64) (ha : a.okB = true) (hx : fnd L s.data.toList = none) (hi : t.toList = []) (hd : Apart L) (ho : Oks L) (hf : Fit (inB t ⟨#[]⟩) L) (z : Am) (er : Int) (hz : subR cap (sumA (inB t ⟨#[]⟩) L) = (z, er)) (hfit : fitsB a z = false) :
    Calls Try.prog 9 #[ptr b, .string s, .string t, amV a] w fun e w' => e = .returned (.int .i64 14) ∧ Below w.heap.size w w' := by
  obtain ⟨w3, hw3⟩ : ∃ w3, w3 = w.alloc (.cells #[.int .i64 a.c, .int .i64 a.r, .int .i64 a.d, .int .i64 a.p] 28) := ⟨_, rfl⟩
  obtain ⟨B, hB⟩ : ∃ B, B = w.heap.size := ⟨_, rfl⟩
  have S0 : Hid (Blk w3 B (amC a) 28) := Lib.hid (by rw [hw3, hB]; exact Blk.made w (amC a) _)
  have HBL : Hid (Below w.heap.size w w3) := Lib.hid (by rw [hw3]; exact below_alloc w _)
  have H := Lib.hid h
  have H3 : Hid (Led w3 b mb cap L) := Lib.hid (h.kept HBL.out)
  have c4 := H3.out.blk.cell (j := 4) rfl
  have a0 := S0.out.cell (j := 0) rfl
  have a1 := S0.out.cell (j := 1) rfl
  have a2 := S0.out.cell (j := 2) rfl
  have a3 := S0.out.cell (j := 3) rfl
  have d1 : decide ((s.size : Int) < 1) = false := by simp; omega
  have d2 : decide ((64 : Int) < (s.size : Int)) = false := by simp; omega
  have HS : Hid (s.size ≤ maxLen) := Lib.hid (by unfold maxLen; omega)
  have i0 : t.toList.isEmpty = true := by rw [hi]; rfl
  have HCK := Lib.hid (Am.chk_yes ha)
  have HX := Lib.hid (get_none hx)
  have HRM : Hid (∀ w, Led w b mb cap L → Calls Try.prog 31 #[ptr b, .string t, .string ⟨#[]⟩] w fun e w' => e = .returned (amV z) ∧ Below w.heap.size w w') := Lib.hid (fun w h => room_top b mb cap L t ⟨#[]⟩ w h hd ho hf hi z er hz)
  have HFV : Hid (∀ w, Calls Try.prog 30 #[amV a, amV z] w fun e w' => e = .returned (.bool false) ∧ Below w.heap.size w w') := Lib.hid (fun w => fits_val hfit w)
  clear h h1 h2 ha hx hi hd ho hf hz hfit
  go_enter Try.func9, Try.ntmps9
  go_upto_region 1 with fail
  rw [← hw3, ← hB]
  clear hw3 hB
  go_upto_region 14 with (first | (go_at_call 29; refine (none_made b mb _ _ _ H3.out).mono ?_; rintro e w' ⟨rfl, rfl⟩) | (go_at_call 28; refine (check_any a _).mono ?_; rw [HCK.out]; rintro e w4 ⟨rfl, hb⟩; have H4 := Lib.hid (H3.out.kept hb); have HB4 := Lib.hid (below_and HBL.out hb); have S4 := Lib.hid (S0.out.kept hb); clear c4 a0 a1 a2 a3; have c4 : ∀ w', Below w4.heap.size w4 w' → w'.cell? ⟨b, 4, none⟩ = some (.map (some mb)) := fun w' h => (H4.out.kept h).blk.cell (j := 4) rfl; have HC4 := Lib.hid c4; clear c4; have c40 := HC4.out _ (Below.refl _ _); have c41 : ∀ (A : Array Value) (t : TypeId), (w4.alloc (.cells A t)).cell? ⟨b, 4, none⟩ = some (.map (some mb)) := fun A t => HC4.out _ (below_alloc _ _); clear hb) | (at_lookup; refine wpList_slook_ok _ rfl _ _ _ rfl 9 48 Try.underlying9 Try.underlying52 (ezero _) mb (entM L) rfl (by first | exact H4.out.map | exact (H4.out.kept (below_alloc _ _)).map | exact (H4.out.kept (below_and (below_alloc _ _) (below_alloc _ _))).map) s rfl HS.out ?_; rw [HX.out.1, HX.out.2]; simp only [Option.getD_none, Option.getD_some]))
  obtain ⟨w5, hw5⟩ : ∃ w5, w5 = w4.alloc (.cells #[.string ⟨#[]⟩, .string ⟨#[]⟩, .int .i64 0, .int .i64 0, .int .i64 0, .int .i64 0] 48) := ⟨_, rfl⟩
  have hb5 : Below w4.heap.size w4 w5 := by rw [hw5]; exact below_alloc w4 _
  have H5 := Lib.hid (H4.out.kept hb5)
  have S5 := Lib.hid (S4.out.kept hb5)
  have HB5 := Lib.hid (below_and HB4.out hb5)
  rw [← hw5]
  clear hw5 hb5 c40 c41
  have p0 := Past.blk S5.out (j := 0) rfl
  have p1 := Past.blk S5.out (j := 1) rfl
  have p2 := Past.blk S5.out (j := 2) rfl
  have p3 := Past.blk S5.out (j := 3) rfl
  refine wp_region_past (by kernel_rfl) (by kernel_rfl) ?_
  repeat (go_big_quiet_step (first
    | (go_at_call 31; exact past_call (HRM.out _ (H5.out.kept (Past.h _))))
    | (go_at_call 30; exact past_call (HFV.out _))))
  refine wpQuiet_nil ?_
  intro _ hw'
  obtain ⟨s', hw''⟩ := hw'
  subst hw''
  obtain ⟨w6, h6, e6⟩ : ∃ w6, Below w5.heap.size w5 w6 ∧ w6 = s'.val := ⟨_, s'.h, rfl⟩
  rw [← e6]
  have H6 := Lib.hid (H5.out.kept h6)
  have S6 := Lib.hid (S5.out.kept h6)
  have HB6 := Lib.hid (below_and HB5.out h6)
  clear h6 e6 p0 p1 p2 p3
  go_wp2
  go_ret
  exact ⟨rfl, HB6.out⟩

set_option maxRecDepth 100000 in
set_option maxHeartbeats 2000000 in
theorem take_nofit_in (b mb : Nat) (cap : Am) (L : List Ent) (s t : ByteArray) (a : Am) (y : Ent) (w : World) (h : Led w b mb cap L) (h1 : 1 ≤ s.size) (h2 : s.size ≤ 64) (ha : a.okB = true) (hx : fnd L s.data.toList = none) (hi : ¬ t.toList = []) (ht : t.size ≤ maxLen) (hy : fnd L t.data.toList = some y) (hyi : y.i.toList = []) (hd : Apart L) (ho : Oks L) (hf : Fit (inB t ⟨#[]⟩) L) (z : Am) (er : Int) (hz : subR y.a (sumA (inB t ⟨#[]⟩) L) = (z, er)) (hfit : fitsB a z = false) :
    Calls Try.prog 9 #[ptr b, .string s, .string t, amV a] w fun e w' => e = .returned (.int .i64 14) ∧ Below w.heap.size w w' := by
  obtain ⟨w3, hw3⟩ : ∃ w3, w3 = w.alloc (.cells #[.int .i64 a.c, .int .i64 a.r, .int .i64 a.d, .int .i64 a.p] 28) := ⟨_, rfl⟩
  obtain ⟨B, hB⟩ : ∃ B, B = w.heap.size := ⟨_, rfl⟩
  have S0 : Hid (Blk w3 B (amC a) 28) := Lib.hid (by rw [hw3, hB]; exact Blk.made w (amC a) _)
  have HBL : Hid (Below w.heap.size w w3) := Lib.hid (by rw [hw3]; exact below_alloc w _)
  have H := Lib.hid h
  have H3 : Hid (Led w3 b mb cap L) := Lib.hid (h.kept HBL.out)
  have c4 := H3.out.blk.cell (j := 4) rfl
  have a0 := S0.out.cell (j := 0) rfl
  have a1 := S0.out.cell (j := 1) rfl
  have a2 := S0.out.cell (j := 2) rfl
  have a3 := S0.out.cell (j := 3) rfl
  have d1 : decide ((s.size : Int) < 1) = false := by simp; omega
  have d2 : decide ((64 : Int) < (s.size : Int)) = false := by simp; omega
  have HS : Hid (s.size ≤ maxLen) := Lib.hid (by unfold maxLen; omega)
  have i0 : t.toList.isEmpty = false := by simpa using hi
  have HT := Lib.hid ht
  have j0 : y.i.toList.isEmpty = true := by rw [hyi]; rfl
  have HCK := Lib.hid (Am.chk_yes ha)
  have HX := Lib.hid (get_none hx)
  have HY := Lib.hid (get_some hy)
  have HRM : Hid (∀ w, Led w b mb cap L → Calls Try.prog 31 #[ptr b, .string t, .string ⟨#[]⟩] w fun e w' => e = .returned (amV z) ∧ Below w.heap.size w w') := Lib.hid (fun w h => room_in b mb cap L t ⟨#[]⟩ y w h hd ho hf hi ht hy z er hz)
  have HFV : Hid (∀ w, Calls Try.prog 30 #[amV a, amV z] w fun e w' => e = .returned (.bool false) ∧ Below w.heap.size w w') := Lib.hid (fun w => fits_val hfit w)
  clear h h1 h2 ha hx hi hd ho hf hz hfit hy ht hyi
  go_enter Try.func9, Try.ntmps9
  go_upto_region 1 with fail
  rw [← hw3, ← hB]
  clear hw3 hB
  go_upto_region 14 with (first | (go_at_call 29; refine (none_made b mb _ _ _ H3.out).mono ?_; rintro e w' ⟨rfl, rfl⟩) | (go_at_call 28; refine (check_any a _).mono ?_; rw [HCK.out]; rintro e w4 ⟨rfl, hb⟩; have H4 := Lib.hid (H3.out.kept hb); have HB4 := Lib.hid (below_and HBL.out hb); have S4 := Lib.hid (S0.out.kept hb); clear c4 a0 a1 a2 a3; have c4 : ∀ w', Below w4.heap.size w4 w' → w'.cell? ⟨b, 4, none⟩ = some (.map (some mb)) := fun w' h => (H4.out.kept h).blk.cell (j := 4) rfl; have HC4 := Lib.hid c4; clear c4; have c40 := HC4.out _ (Below.refl _ _); have c41 : ∀ (A : Array Value) (t : TypeId), (w4.alloc (.cells A t)).cell? ⟨b, 4, none⟩ = some (.map (some mb)) := fun A t => HC4.out _ (below_alloc _ _); clear hb) | (at_lookup; refine wpList_slook_ok _ rfl _ _ _ rfl 9 48 Try.underlying9 Try.underlying52 (ezero _) mb (entM L) rfl (by first | exact H4.out.map | exact (H4.out.kept (below_alloc _ _)).map | exact (H4.out.kept (below_and (below_alloc _ _) (below_alloc _ _))).map) s rfl HS.out ?_; rw [HX.out.1, HX.out.2]; simp only [Option.getD_none, Option.getD_some]) | (at_lookup; refine wpList_slook_ok _ rfl _ _ _ rfl 9 48 Try.underlying9 Try.underlying52 (ezero _) mb (entM L) rfl (by first | exact H4.out.map | exact (H4.out.kept (below_alloc _ _)).map | exact (H4.out.kept (below_and (below_alloc _ _) (below_alloc _ _))).map) t rfl HT.out ?_; rw [HY.out.1, HY.out.2]; simp only [Option.getD_none, Option.getD_some]))
  obtain ⟨w5, hw5⟩ : ∃ w5, w5 = (w4.alloc (.cells #[.string ⟨#[]⟩, .string ⟨#[]⟩, .int .i64 0, .int .i64 0, .int .i64 0, .int .i64 0] 48)).alloc (.cells #[.string y.n, .string y.i, .int .i64 y.a.c, .int .i64 y.a.r, .int .i64 y.a.d, .int .i64 y.a.p] 48) := ⟨_, rfl⟩
  have hb5 : Below w4.heap.size w4 w5 := by rw [hw5]; exact below_and (below_alloc w4 _) (below_alloc _ _)
  have H5 := Lib.hid (H4.out.kept hb5)
  have S5 := Lib.hid (S4.out.kept hb5)
  have HB5 := Lib.hid (below_and HB4.out hb5)
  rw [← hw5]
  clear hw5 hb5 c40 c41
  have p0 := Past.blk S5.out (j := 0) rfl
  have p1 := Past.blk S5.out (j := 1) rfl
  have p2 := Past.blk S5.out (j := 2) rfl
  have p3 := Past.blk S5.out (j := 3) rfl
  refine wp_region_past (by kernel_rfl) (by kernel_rfl) ?_
  repeat (go_big_quiet_step (first
    | (go_at_call 31; exact past_call (HRM.out _ (H5.out.kept (Past.h _))))
    | (go_at_call 30; exact past_call (HFV.out _))))
  refine wpQuiet_nil ?_
  intro _ hw'
  obtain ⟨s', hw''⟩ := hw'
  subst hw''
  obtain ⟨w6, h6, e6⟩ : ∃ w6, Below w5.heap.size w5 w6 ∧ w6 = s'.val := ⟨_, s'.h, rfl⟩
  rw [← e6]
  have H6 := Lib.hid (H5.out.kept h6)
  have S6 := Lib.hid (S5.out.kept h6)
  have HB6 := Lib.hid (below_and HB5.out h6)
  clear h6 e6 p0 p1 p2 p3
  go_wp2
  go_ret
  exact ⟨rfl, HB6.out⟩

set_option maxRecDepth 100000 in
set_option maxHeartbeats 2000000 in
theorem take_ok_top (b mb : Nat) (cap : Am) (L : List Ent) (s t : ByteArray) (a : Am) (w : World) (h : Led w b mb cap L) (h1 : 1 ≤ s.size) (h2 : s.size ≤ 64) (ha : a.okB = true) (hx : fnd L s.data.toList = none) (hi : t.toList = []) (hd : Apart L) (ho : Oks L) (hf : Fit (inB t ⟨#[]⟩) L) (z : Am) (er : Int) (hz : subR cap (sumA (inB t ⟨#[]⟩) L) = (z, er)) (hln : L.length < maxLen) (hfit : fitsB a z = true) :
    Calls Try.prog 9 #[ptr b, .string s, .string t, amV a] w fun e w' => e = .returned (.int .i64 0) ∧ Led w' b mb cap (putE L ⟨s, t, a⟩) ∧ Fr [mb] w w' := by
  obtain ⟨w3, hw3⟩ : ∃ w3, w3 = w.alloc (.cells #[.int .i64 a.c, .int .i64 a.r, .int .i64 a.d, .int .i64 a.p] 28) := ⟨_, rfl⟩
  obtain ⟨B, hB⟩ : ∃ B, B = w.heap.size := ⟨_, rfl⟩
  have S0 : Hid (Blk w3 B (amC a) 28) := Lib.hid (by rw [hw3, hB]; exact Blk.made w (amC a) _)
  have HBL : Hid (Below w.heap.size w w3) := Lib.hid (by rw [hw3]; exact below_alloc w _)
  have H := Lib.hid h
  have H3 : Hid (Led w3 b mb cap L) := Lib.hid (h.kept HBL.out)
  have c4 := H3.out.blk.cell (j := 4) rfl
  have a0 := S0.out.cell (j := 0) rfl
  have a1 := S0.out.cell (j := 1) rfl
  have a2 := S0.out.cell (j := 2) rfl
  have a3 := S0.out.cell (j := 3) rfl
  have d1 : decide ((s.size : Int) < 1) = false := by simp; omega
  have d2 : decide ((64 : Int) < (s.size : Int)) = false := by simp; omega
  have HS : Hid (s.size ≤ maxLen) := Lib.hid (by unfold maxLen; omega)
  have i0 : t.toList.isEmpty = true := by rw [hi]; rfl
  have HCK := Lib.hid (Am.chk_yes ha)
  have HX := Lib.hid (get_none hx)
  have HRM : Hid (∀ w, Led w b mb cap L → Calls Try.prog 31 #[ptr b, .string t, .string ⟨#[]⟩] w fun e w' => e = .returned (amV z) ∧ Below w.heap.size w w') := Lib.hid (fun w h => room_top b mb cap L t ⟨#[]⟩ w h hd ho hf hi z er hz)
  have HFV : Hid (∀ w, Calls Try.prog 30 #[amV a, amV z] w fun e w' => e = .returned (.bool true) ∧ Below w.heap.size w w') := Lib.hid (fun w => fits_val hfit w)
  have HLN := Lib.hid hln
  clear h h1 h2 ha hx hi hd ho hf hz hfit hln
  go_enter Try.func9, Try.ntmps9
  go_upto_region 1 with fail
  rw [← hw3, ← hB]
  clear hw3 hB
  go_upto_region 14 with (first | (go_at_call 29; refine (none_made b mb _ _ _ H3.out).mono ?_; rintro e w' ⟨rfl, rfl⟩) | (go_at_call 28; refine (check_any a _).mono ?_; rw [HCK.out]; rintro e w4 ⟨rfl, hb⟩; have H4 := Lib.hid (H3.out.kept hb); have HB4 := Lib.hid (below_and HBL.out hb); have S4 := Lib.hid (S0.out.kept hb); clear c4 a0 a1 a2 a3; have c4 : ∀ w', Below w4.heap.size w4 w' → w'.cell? ⟨b, 4, none⟩ = some (.map (some mb)) := fun w' h => (H4.out.kept h).blk.cell (j := 4) rfl; have HC4 := Lib.hid c4; clear c4; have c40 := HC4.out _ (Below.refl _ _); have c41 : ∀ (A : Array Value) (t : TypeId), (w4.alloc (.cells A t)).cell? ⟨b, 4, none⟩ = some (.map (some mb)) := fun A t => HC4.out _ (below_alloc _ _); clear hb) | (at_lookup; refine wpList_slook_ok _ rfl _ _ _ rfl 9 48 Try.underlying9 Try.underlying52 (ezero _) mb (entM L) rfl (by first | exact H4.out.map | exact (H4.out.kept (below_alloc _ _)).map | exact (H4.out.kept (below_and (below_alloc _ _) (below_alloc _ _))).map) s rfl HS.out ?_; rw [HX.out.1, HX.out.2]; simp only [Option.getD_none, Option.getD_some]))
  obtain ⟨w5, hw5⟩ : ∃ w5, w5 = w4.alloc (.cells #[.string ⟨#[]⟩, .string ⟨#[]⟩, .int .i64 0, .int .i64 0, .int .i64 0, .int .i64 0] 48) := ⟨_, rfl⟩
  have hb5 : Below w4.heap.size w4 w5 := by rw [hw5]; exact below_alloc w4 _
  have H5 := Lib.hid (H4.out.kept hb5)
  have S5 := Lib.hid (S4.out.kept hb5)
  have HB5 := Lib.hid (below_and HB4.out hb5)
  rw [← hw5]
  clear hw5 hb5 c40 c41
  have p0 := Past.blk S5.out (j := 0) rfl
  have p1 := Past.blk S5.out (j := 1) rfl
  have p2 := Past.blk S5.out (j := 2) rfl
  have p3 := Past.blk S5.out (j := 3) rfl
  refine wp_region_past (by kernel_rfl) (by kernel_rfl) ?_
  repeat (go_big_quiet_step (first
    | (go_at_call 31; exact past_call (HRM.out _ (H5.out.kept (Past.h _))))
    | (go_at_call 30; exact past_call (HFV.out _))))
  refine wpQuiet_nil ?_
  intro _ hw'
  obtain ⟨s', hw''⟩ := hw'
  subst hw''
  obtain ⟨w6, h6, e6⟩ : ∃ w6, Below w5.heap.size w5 w6 ∧ w6 = s'.val := ⟨_, s'.h, rfl⟩
  rw [← e6]
  have H6 := Lib.hid (H5.out.kept h6)
  have S6 := Lib.hid (S5.out.kept h6)
  have HB6 := Lib.hid (below_and HB5.out h6)
  clear h6 e6 p0 p1 p2 p3
  go_upto_region 16 with fail
  have p0 := Past.blk S6.out (j := 0) rfl
  have p1 := Past.blk S6.out (j := 1) rfl
  have p2 := Past.blk S6.out (j := 2) rfl
  have p3 := Past.blk S6.out (j := 3) rfl
  have p4 := Past.blk H6.out.blk (j := 4) rfl
  refine wp_region_past_last (by rfl) (by kernel_rfl) (by kernel_rfl) (by kernel_rfl) ?_
  simp only [List.dropLast, List.getLast_cons_cons, List.getLast_singleton]
  repeat (go_big_quiet_step (fail))
  refine wpQuiet_nil ?_
  intro _ hw'
  obtain ⟨s2, hw''⟩ := hw'
  subst hw''
  obtain ⟨w7, h7, e7⟩ : ∃ w7, Below w6.heap.size w6 w7 ∧ w7 = s2.val := ⟨_, s2.h, rfl⟩
  rw [← e7]
  have H7 := Lib.hid (H6.out.kept h7)
  have HB7 := Lib.hid (below_and HB6.out h7)
  clear h7 e7 p0 p1 p2 p3 p4
  go_wp2_with (refine wpList_sput _ rfl _ _ _ _ rfl 9 48 Try.underlying9 Try.underlying52 mb (entM L) rfl H7.out.map (by rw [entM_len]; exact HLN.out) s (entV ⟨s, t, a⟩) rfl rfl HS.out ?_; intro w8 hp8 hg8; have HP8 := Lib.hid hp8; have HG8 := Lib.hid hg8; clear hp8 hg8)
  go_ret
  exact ⟨rfl, led_put H7.out HP8.out HG8.out, (Fr.of_below HB7.out [mb]).then (Fr.of_grown HG8.out)⟩

set_option maxRecDepth 100000 in
set_option maxHeartbeats 2000000 in
theorem take_ok_in (b mb : Nat) (cap : Am) (L : List Ent) (s t : ByteArray) (a : Am) (y : Ent) (w : World) (h : Led w b mb cap L) (h1 : 1 ≤ s.size) (h2 : s.size ≤ 64) (ha : a.okB = true) (hx : fnd L s.data.toList = none) (hi : ¬ t.toList = []) (ht : t.size ≤ maxLen) (hy : fnd L t.data.toList = some y) (hyi : y.i.toList = []) (hd : Apart L) (ho : Oks L) (hf : Fit (inB t ⟨#[]⟩) L) (z : Am) (er : Int) (hz : subR y.a (sumA (inB t ⟨#[]⟩) L) = (z, er)) (hln : L.length < maxLen) (hfit : fitsB a z = true) :
    Calls Try.prog 9 #[ptr b, .string s, .string t, amV a] w fun e w' => e = .returned (.int .i64 0) ∧ Led w' b mb cap (putE L ⟨s, t, a⟩) ∧ Fr [mb] w w' := by
  obtain ⟨w3, hw3⟩ : ∃ w3, w3 = w.alloc (.cells #[.int .i64 a.c, .int .i64 a.r, .int .i64 a.d, .int .i64 a.p] 28) := ⟨_, rfl⟩
  obtain ⟨B, hB⟩ : ∃ B, B = w.heap.size := ⟨_, rfl⟩
  have S0 : Hid (Blk w3 B (amC a) 28) := Lib.hid (by rw [hw3, hB]; exact Blk.made w (amC a) _)
  have HBL : Hid (Below w.heap.size w w3) := Lib.hid (by rw [hw3]; exact below_alloc w _)
  have H := Lib.hid h
  have H3 : Hid (Led w3 b mb cap L) := Lib.hid (h.kept HBL.out)
  have c4 := H3.out.blk.cell (j := 4) rfl
  have a0 := S0.out.cell (j := 0) rfl
  have a1 := S0.out.cell (j := 1) rfl
  have a2 := S0.out.cell (j := 2) rfl
  have a3 := S0.out.cell (j := 3) rfl
  have d1 : decide ((s.size : Int) < 1) = false := by simp; omega
  have d2 : decide ((64 : Int) < (s.size : Int)) = false := by simp; omega
  have HS : Hid (s.size ≤ maxLen) := Lib.hid (by unfold maxLen; omega)
  have i0 : t.toList.isEmpty = false := by simpa using hi
  have HT := Lib.hid ht
  have j0 : y.i.toList.isEmpty = true := by rw [hyi]; rfl
  have HCK := Lib.hid (Am.chk_yes ha)
  have HX := Lib.hid (get_none hx)
  have HY := Lib.hid (get_some hy)
  have HRM : Hid (∀ w, Led w b mb cap L → Calls Try.prog 31 #[ptr b, .string t, .string ⟨#[]⟩] w fun e w' => e = .returned (amV z) ∧ Below w.heap.size w w') := Lib.hid (fun w h => room_in b mb cap L t ⟨#[]⟩ y w h hd ho hf hi ht hy z er hz)
  have HFV : Hid (∀ w, Calls Try.prog 30 #[amV a, amV z] w fun e w' => e = .returned (.bool true) ∧ Below w.heap.size w w') := Lib.hid (fun w => fits_val hfit w)
  have HLN := Lib.hid hln
  clear h h1 h2 ha hx hi hd ho hf hz hfit hy ht hyi hln
  go_enter Try.func9, Try.ntmps9
  go_upto_region 1 with fail
  rw [← hw3, ← hB]
  clear hw3 hB
  go_upto_region 14 with (first | (go_at_call 29; refine (none_made b mb _ _ _ H3.out).mono ?_; rintro e w' ⟨rfl, rfl⟩) | (go_at_call 28; refine (check_any a _).mono ?_; rw [HCK.out]; rintro e w4 ⟨rfl, hb⟩; have H4 := Lib.hid (H3.out.kept hb); have HB4 := Lib.hid (below_and HBL.out hb); have S4 := Lib.hid (S0.out.kept hb); clear c4 a0 a1 a2 a3; have c4 : ∀ w', Below w4.heap.size w4 w' → w'.cell? ⟨b, 4, none⟩ = some (.map (some mb)) := fun w' h => (H4.out.kept h).blk.cell (j := 4) rfl; have HC4 := Lib.hid c4; clear c4; have c40 := HC4.out _ (Below.refl _ _); have c41 : ∀ (A : Array Value) (t : TypeId), (w4.alloc (.cells A t)).cell? ⟨b, 4, none⟩ = some (.map (some mb)) := fun A t => HC4.out _ (below_alloc _ _); clear hb) | (at_lookup; refine wpList_slook_ok _ rfl _ _ _ rfl 9 48 Try.underlying9 Try.underlying52 (ezero _) mb (entM L) rfl (by first | exact H4.out.map | exact (H4.out.kept (below_alloc _ _)).map | exact (H4.out.kept (below_and (below_alloc _ _) (below_alloc _ _))).map) s rfl HS.out ?_; rw [HX.out.1, HX.out.2]; simp only [Option.getD_none, Option.getD_some]) | (at_lookup; refine wpList_slook_ok _ rfl _ _ _ rfl 9 48 Try.underlying9 Try.underlying52 (ezero _) mb (entM L) rfl (by first | exact H4.out.map | exact (H4.out.kept (below_alloc _ _)).map | exact (H4.out.kept (below_and (below_alloc _ _) (below_alloc _ _))).map) t rfl HT.out ?_; rw [HY.out.1, HY.out.2]; simp only [Option.getD_none, Option.getD_some]))
  obtain ⟨w5, hw5⟩ : ∃ w5, w5 = (w4.alloc (.cells #[.string ⟨#[]⟩, .string ⟨#[]⟩, .int .i64 0, .int .i64 0, .int .i64 0, .int .i64 0] 48)).alloc (.cells #[.string y.n, .string y.i, .int .i64 y.a.c, .int .i64 y.a.r, .int .i64 y.a.d, .int .i64 y.a.p] 48) := ⟨_, rfl⟩
  have hb5 : Below w4.heap.size w4 w5 := by rw [hw5]; exact below_and (below_alloc w4 _) (below_alloc _ _)
  have H5 := Lib.hid (H4.out.kept hb5)
  have S5 := Lib.hid (S4.out.kept hb5)
  have HB5 := Lib.hid (below_and HB4.out hb5)
  rw [← hw5]
  clear hw5 hb5 c40 c41
  have p0 := Past.blk S5.out (j := 0) rfl
  have p1 := Past.blk S5.out (j := 1) rfl
  have p2 := Past.blk S5.out (j := 2) rfl
  have p3 := Past.blk S5.out (j := 3) rfl
  refine wp_region_past (by kernel_rfl) (by kernel_rfl) ?_
  repeat (go_big_quiet_step (first
    | (go_at_call 31; exact past_call (HRM.out _ (H5.out.kept (Past.h _))))
    | (go_at_call 30; exact past_call (HFV.out _))))
  refine wpQuiet_nil ?_
  intro _ hw'
  obtain ⟨s', hw''⟩ := hw'
  subst hw''
  obtain ⟨w6, h6, e6⟩ : ∃ w6, Below w5.heap.size w5 w6 ∧ w6 = s'.val := ⟨_, s'.h, rfl⟩
  rw [← e6]
  have H6 := Lib.hid (H5.out.kept h6)
  have S6 := Lib.hid (S5.out.kept h6)
  have HB6 := Lib.hid (below_and HB5.out h6)
  clear h6 e6 p0 p1 p2 p3
  go_upto_region 16 with fail
  have p0 := Past.blk S6.out (j := 0) rfl
  have p1 := Past.blk S6.out (j := 1) rfl
  have p2 := Past.blk S6.out (j := 2) rfl
  have p3 := Past.blk S6.out (j := 3) rfl
  have p4 := Past.blk H6.out.blk (j := 4) rfl
  refine wp_region_past_last (by rfl) (by kernel_rfl) (by kernel_rfl) (by kernel_rfl) ?_
  simp only [List.dropLast, List.getLast_cons_cons, List.getLast_singleton]
  repeat (go_big_quiet_step (fail))
  refine wpQuiet_nil ?_
  intro _ hw'
  obtain ⟨s2, hw''⟩ := hw'
  subst hw''
  obtain ⟨w7, h7, e7⟩ : ∃ w7, Below w6.heap.size w6 w7 ∧ w7 = s2.val := ⟨_, s2.h, rfl⟩
  rw [← e7]
  have H7 := Lib.hid (H6.out.kept h7)
  have HB7 := Lib.hid (below_and HB6.out h7)
  clear h7 e7 p0 p1 p2 p3 p4
  go_wp2_with (refine wpList_sput _ rfl _ _ _ _ rfl 9 48 Try.underlying9 Try.underlying52 mb (entM L) rfl H7.out.map (by rw [entM_len]; exact HLN.out) s (entV ⟨s, t, a⟩) rfl rfl HS.out ?_; intro w8 hp8 hg8; have HP8 := Lib.hid hp8; have HG8 := Lib.hid hg8; clear hp8 hg8)
  go_ret
  exact ⟨rfl, led_put H7.out HP8.out HG8.out, (Fr.of_below HB7.out [mb]).then (Fr.of_grown HG8.out)⟩
end Go.Proofs.Ytighcnecajgkpaa
namespace Go.Proofs.Ytighcnecajgkpaa
open Go.RowKit

theorem led_del {w w' : World} {b mb : Nat} {cap : Am} {L : List Ent} {s : ByteArray} (h : Led w b mb cap L) (hp : SMap Try.prog 9 w' mb ((entM L).del s.data.toList)) (hg : w.grownBy w' (some mb)) : Led w' b mb cap (rem L s.data.toList) :=
  ⟨h.blk.grown hg (fun e => h.ne (Option.some.inj e).symm), by rw [← entM_del]; exact hp, h.ne⟩

set_option maxRecDepth 100000 in
set_option maxHeartbeats 2000000 in
theorem give_none (b mb : Nat) (cap : Am) (L : List Ent) (s : ByteArray) (w : World) (h : Led w b mb cap L) (hs : s.size ≤ maxLen) (hx : fnd L s.data.toList = none) :
    Calls Try.prog 11 #[ptr b, .string s] w fun e w' => e = .returned (.int .i64 6) ∧ Below w.heap.size w w' := by
  have HG := Lib.hid (lget_no b mb cap L s w h hs hx)
  clear h hs hx
  go_enter Try.func11, Try.ntmps11
  go_wp2_with (go_at_call 22; refine HG.out.mono ?_; rintro e w4 ⟨rfl, hb⟩; have HB4 := Lib.hid hb; clear hb)
  go_ret
  exact ⟨rfl, below_and HB4.out (below_alloc _ _)⟩

set_option maxRecDepth 100000 in
set_option maxHeartbeats 2000000 in
theorem give_state (b mb : Nat) (cap : Am) (L : List Ent) (s : ByteArray) (x : Ent) (w : World) (h : Led w b mb cap L) (hs : s.size ≤ maxLen) (hx : fnd L s.data.toList = some x) (hr : Rise L) (hk : ∀ e ∈ L, e.n.size ≤ maxLen) (hl : L.length ≤ 100000) (hi : inL s L ≠ []) :
    Calls Try.prog 11 #[ptr b, .string s] w fun e w' => e = .returned (.int .i64 13) ∧ Below w.heap.size w w' := by
  have HG := Lib.hid (lget_yes b mb cap L s x w h hs hx)
  have HI : Hid (∀ w, Led w b mb cap L → _) := Lib.hid (fun w h => in_made b mb cap L s w h hr hk hl)
  have H := Lib.hid h
  have hpos : 0 < (inL s L).length := List.length_pos_iff.2 hi
  have i1 : (0 : Int) < ((inL s L).length : Int) := by omega
  clear h hs hx hr hk hl hi
  go_enter Try.func11, Try.ntmps11
  go_wp2_with (first
    | (go_at_call 22; refine HG.out.mono ?_; rintro e w4 ⟨rfl, hb⟩; have HB4 := Lib.hid hb; clear hb)
    | (go_at_call 20; refine (HI.out _ (H.out.kept (below_and HB4.out (below_alloc _ _)))).mono ?_; rintro e w5 ⟨v5, rfl, ho, hb⟩; obtain ⟨p5, k5, rfl, -, -⟩ := own_slice ho; have HB5 := Lib.hid (below_and (below_and HB4.out (below_alloc _ _)) hb); clear ho hb))
  go_ret
  exact ⟨rfl, HB5.out⟩

set_option maxRecDepth 100000 in
set_option maxHeartbeats 2000000 in
theorem give_ok (b mb : Nat) (cap : Am) (L : List Ent) (s : ByteArray) (x : Ent) (w : World) (h : Led w b mb cap L) (hs : s.size ≤ maxLen) (hx : fnd L s.data.toList = some x) (hr : Rise L) (hk : ∀ e ∈ L, e.n.size ≤ maxLen) (hl : L.length ≤ 100000) (hi : inL s L = []) :
    Calls Try.prog 11 #[ptr b, .string s] w fun e w' => e = .returned (.int .i64 0) ∧ Led w' b mb cap (rem L s.data.toList) ∧ Fr [mb] w w' := by
  have HG := Lib.hid (lget_yes b mb cap L s x w h hs hx)
  have HI : Hid (∀ w, Led w b mb cap L → _) := Lib.hid (fun w h => in_made b mb cap L s w h hr hk hl)
  have H := Lib.hid h
  have HS := Lib.hid hs
  have HN := Lib.hid (show (inL s L).length = 0 by rw [hi]; rfl)
  clear h hs hx hr hk hl hi
  go_enter Try.func11, Try.ntmps11
  go_wp2_with (first
    | (go_at_call 22; refine HG.out.mono ?_; rintro e w4 ⟨rfl, hb⟩; have HB4 := Lib.hid hb; clear hb)
    | (go_at_call 20; refine (HI.out _ (H.out.kept (below_and HB4.out (below_alloc _ _)))).mono ?_; rw [HN.out]; rintro e w5 ⟨v5, rfl, ho, hb⟩; obtain ⟨p5, k5, rfl, -, -⟩ := own_slice ho; have HB5 := Lib.hid (below_and (below_and HB4.out (below_alloc _ _)) hb); have H5 := Lib.hid (H.out.kept HB5.out); have c4 := H5.out.blk.cell (j := 4) rfl; clear ho hb)
    | (refine wpList_sdel _ rfl _ _ _ _ rfl 48 Try.underlying9 Try.underlying52 mb (entM L) rfl H5.out.map s rfl HS.out ?_; intro w8 hp8 hg8; have HP8 := Lib.hid hp8; have HG8 := Lib.hid hg8; clear hp8 hg8))
  go_ret
  exact ⟨rfl, led_del H5.out HP8.out HG8.out, (Fr.of_below HB5.out [mb]).then (Fr.of_grown HG8.out)⟩
end Go.Proofs.Ytighcnecajgkpaa
