/- The queue: none, find, Has. -/
import Derived.Test.YtlemfbgmhjklaaaQOps
import Derived.Lib.Bytes
namespace Go.Proofs.Ytlemfbgmhjklaaa
open Go.RowKit

abbrev Tid := ByteArray × Int
abbrev tval (t : Tid) : Value := .agg #[.string t.1, .int .i64 t.2]
theorem toList_eq (a b : ByteArray) : (a.toList == b.toList) = decide (a = b) := by
  rw [Lib.toList_data, Lib.toList_data]
  rw [Bool.eq_iff_iff]
  simp only [beq_iff_eq, decide_eq_true_eq]
  constructor
  · intro h
    cases a; cases b
    simpa using h
  · intro h; rw [h]

set_option maxRecDepth 100000 in
set_option maxHeartbeats 400000 in
theorem qnone_made (b : Nat) (T : Int) (v : Value) (L : List PRow) (w : World) (h : Qu w b T v L) :
    Calls Try.prog 28 #[ptr b] w fun e w' => e = .returned (.bool false) ∧ w = w' := by
  have c2 := h.blk.cell (j := 2) rfl
  clear h
  go_enter Try.func28, Try.ntmps28
  go_wp2
  go_ret
  exact ⟨rfl, rfl⟩

set_option maxRecDepth 100000 in
set_option maxHeartbeats 400000 in
theorem find1_any (p : Pend) (g : Nat) (t : Tid) (w : World) (h1 : w.cell? ⟨g, 0, none⟩ = some (.string t.1)) (h2 : w.cell? ⟨g, 1, none⟩ = some (.int .i64 t.2)) (r : Bool) (hr : decide (p.task = t) = r) :
    Calls Try.prog 44 #[pval p, .pointer (some ⟨g, 0, none⟩)] w fun e w' => e = .returned (.bool r) ∧ Below w.heap.size w w' := by
  obtain ⟨t1, t2⟩ := t
  obtain ⟨j, i, u, b⟩ := p
  have hq : ((j.toList == t1.toList) && (i == t2)) = r := by
    rw [toList_eq, ← hr]
    unfold Pend.task
    rw [Bool.eq_iff_iff]
    simp
  have hb := below_alloc w (.cells #[.string j, .int .i64 i, .string u, .int .i64 b] 29)
  have c1 := cell_kept h1 hb
  have c2 := cell_kept h2 hb
  simp only at c1 c2
  clear hr h1 h2 hb
  cases hA : (j.toList == t1.toList) <;> cases hB : (i == t2)
  all_goals rw [hA, hB] at hq
  all_goals subst hq
  all_goals go_enter Try.func44, Try.ntmps44
  all_goals go_wp2
  all_goals go_ret
  all_goals exact ⟨ret_bool rfl, below_alloc _ _⟩

/-- where a task stands in a list -/
def idx (ps : List Pend) (t : Tid) : Option Nat := ps.findIdx? fun p => decide (p.task = t)
def idxI (ps : List Pend) (t : Tid) : Int := match idx ps t with | some i => (i : Int) | none => -1
theorem idx_some {L : List Pend} {t : Tid} {i : Nat} (hi : i < L.length) (h1 : L[i].task = t) (h2 : ∀ j (h : j < L.length), j < i → L[j].task ≠ t) : idx L t = some i := by
  unfold idx
  rw [List.findIdx?_eq_some_iff_getElem]
  exact ⟨hi, by simpa using h1, fun j hj => by simpa using h2 j (by omega) hj⟩
theorem idx_none {L : List Pend} {t : Tid} (h : ∀ j (h : j < L.length), L[j].task ≠ t) : idx L t = none := by
  unfold idx
  rw [List.findIdx?_eq_none_iff]
  intro x hx
  obtain ⟨j, hj, rfl⟩ := List.getElem_of_mem hx
  simpa using h j hj

set_option maxRecDepth 100000 in
set_option maxHeartbeats 1000000 in
theorem eindex_any (g o c tg : Nat) (ps : List Pend) (t : Tid) (w : World) (h : OwnO w 29 4 (.slice (some ⟨g, o, none⟩) ps.length c) ps.length (pcells ps)) (h1 : w.cell? ⟨tg, 0, none⟩ = some (.string t.1)) (h2 : w.cell? ⟨tg, 1, none⟩ = some (.int .i64 t.2)) :
    Calls Try.prog 43 #[.slice (some ⟨g, o, none⟩) ps.length c, .func (.func 44) #[] #[.pointer (some ⟨tg, 0, none⟩)]] w fun e w' => e = .returned (.int .i64 (idxI ps t)) ∧ Below w.heap.size w w' := by
  have hml : maxLen ≤ 9223372036854775807 := by decide
  have hlen : ps.length ≤ c ∧ c ≤ maxLen := by
    obtain ⟨g', o', c', e, h3, h4, -⟩ := h.shape
    simp only [Value.slice.injEq] at e
    obtain ⟨-, -, rfl⟩ := e
    exact ⟨h3, h4⟩
  have H := Lib.hid h
  have H1 := Lib.hid h1
  have H2 := Lib.hid h2
  clear h h1 h2
  go_enter Try.func43, Try.ntmps43
  go_wp2
  go_loopw [8] (fun i wc => ∃ k : Nat, k ≤ ps.length ∧ i = .int .i64 (k : Int) ∧ Hid (∀ j (h : j < ps.length), j < k → ps[j].task ≠ t) ∧ Hid (Below w.heap.size w wc)) (fun i _ => ps.length - (intOf i).toNat)
  case atStart => exact ⟨0, Nat.zero_le _, rfl, fun j _ h => by omega, Below.refl _ _⟩
  case round =>
    obtain ⟨k, hk, rfl, hno, HB⟩ := hrel
    by_cases hlt : k < ps.length
    · obtain ⟨x, hxe⟩ : ∃ x, x = ps[k] := ⟨_, rfl⟩
      have hcs : ∀ j u, j < 4 → (pend x)[j]? = some u → wr.cell? ⟨g, o + (k * 4 + j), none⟩ = some u := fun j u hj hu => (H.out.kept HB.out).cell (by unfold pcells; rw [flat_at pend_len ps k hlt j hj, ← hxe]; exact hu)
      have c1 : wr.cell? ⟨g, o + k * 4, none⟩ = some (.string x.job) := hcs 0 _ (by omega) rfl
      have c2 : wr.cell? ⟨g, o + k * 4 + 1, none⟩ = some (.int .i64 x.idx) := by have := hcs 1 _ (by omega) rfl; rwa [← Nat.add_assoc] at this
      have c3 : wr.cell? ⟨g, o + k * 4 + 2, none⟩ = some (.string x.user) := by have := hcs 2 _ (by omega) rfl; rwa [← Nat.add_assoc] at this
      have c4 : wr.cell? ⟨g, o + k * 4 + 3, none⟩ = some (.int .i64 x.band) := by have := hcs 3 _ (by omega) rfl; rwa [← Nat.add_assoc] at this
      have d1 := Lib.hid (cell_kept H1.out HB.out)
      have d2 := Lib.hid (cell_kept H2.out HB.out)
      by_cases hq : x.task = t
      · have HQ : Hid (decide (x.task = t) = true) := Lib.hid (by simpa using hq)
        have HF : Hid (idxI ps t = (k : Int)) := Lib.hid (by unfold idxI; rw [idx_some hlt (by rw [← hxe]; exact hq) hno.out])
        clear hq hxe hcs
        go_wp2_with (go_at_call 44; refine (find1_any x tg t _ d1.out d2.out true HQ.out).mono ?_; rintro e w2 ⟨rfl, hb⟩; have HB2 := Lib.hid (below_and HB.out hb); clear hb)
        go_ret
        exact ⟨ret_int HF.out.symm, HB2.out⟩
      · have HQ : Hid (decide (x.task = t) = false) := Lib.hid (by simpa using hq)
        have HN : Hid (∀ j (h : j < ps.length), j < k + 1 → ps[j].task ≠ t) := Lib.hid fun j hj hjk => by
          by_cases hjk2 : j < k
          · exact hno.out j hj hjk2
          · obtain rfl : j = k := by omega
            rw [← hxe]; exact hq
        clear hq hxe hcs
        go_wp2_with (go_at_call 44; refine (find1_any x tg t _ d1.out d2.out false HQ.out).mono ?_; rintro e w2 ⟨rfl, hb⟩; have HB2 := Lib.hid (below_and HB.out hb); clear hb)
        go_roundw
        case rel => exact ⟨k + 1, hlt, by go_num, HN, HB2⟩
        case measure => simp [intOf]; omega
    · obtain rfl : k = ps.length := by omega
      have HF : Hid (idxI ps t = -1) := Lib.hid (by unfold idxI; rw [idx_none (fun j hj => hno.out j hj hj)])
      go_wp2
      go_ret
      exact ⟨ret_int HF.out.symm, HB.out⟩

/-- where a task stands among the rows -/
def findR (R : List PRow) (t : Tid) : Option Nat := R.findIdx? fun r => (idx r.a.ps t).isSome
/-- what find tells -/
def findV (R : List PRow) (t : Tid) : Value := match findR R t with
  | some i => .tuple #[.int .i64 (i : Int), .int .i64 (match R[i]? with | some r => idxI r.a.ps t | none => 0)]
  | none => .tuple #[.int .i64 (-1), .int .i64 (-1)]
theorem findR_some {R : List PRow} {t : Tid} {i : Nat} (hi : i < R.length) (h1 : (idx R[i].a.ps t).isSome = true) (h2 : ∀ j (h : j < R.length), j < i → (idx R[j].a.ps t).isSome = false) : findR R t = some i := by
  unfold findR
  rw [List.findIdx?_eq_some_iff_getElem]
  exact ⟨hi, h1, fun j hj => by simpa using h2 j (by omega) hj⟩
theorem findR_none {R : List PRow} {t : Tid} (h : ∀ j (h : j < R.length), (idx R[j].a.ps t).isSome = false) : findR R t = none := by
  unfold findR
  rw [List.findIdx?_eq_none_iff]
  intro x hx
  obtain ⟨j, hj, rfl⟩ := List.getElem_of_mem hx
  exact h j hj
theorem ret_val {a b : Value} (h : a = b) : Ending.returned a = Ending.returned b := by rw [h]

set_option maxRecDepth 100000 in
set_option maxHeartbeats 1000000 in
theorem find_any (b : Nat) (T : Int) (v : Value) (R : List PRow) (t : Tid) (w : World) (h : Qu w b T v R) :
    Calls Try.prog 33 #[ptr b, tval t] w fun e w' => e = .returned (findV R t) ∧ Below w.heap.size w w' := by
  have hml : maxLen ≤ 9223372036854775807 := by decide
  obtain ⟨p, c, rfl, hc, hm⟩ := h.shape
  obtain ⟨t1, t2⟩ := t
  have c0 := (h.kept (below_alloc w (.cells #[.string t1, .int .i64 t2] 27))).blk.cell (j := 0) rfl
  have H := Lib.hid h
  clear h
  go_enter Try.func33, Try.ntmps33
  go_wp2
  have HB0 := Lib.hid (below_alloc w (.cells #[.string t1, .int .i64 t2] 27))
  have HT1 : Hid ((w.alloc (.cells #[.string t1, .int .i64 t2] 27)).cell? ⟨w.heap.size, 0, none⟩ = some (.string t1)) := Lib.hid (by simp)
  have HT2 : Hid ((w.alloc (.cells #[.string t1, .int .i64 t2] 27)).cell? ⟨w.heap.size, 1, none⟩ = some (.int .i64 t2)) := Lib.hid (by simp)
  obtain ⟨w0, hw0⟩ : ∃ w0, w0 = w.alloc (.cells #[.string t1, .int .i64 t2] 27) := ⟨_, rfl⟩
  obtain ⟨tg, htg⟩ : ∃ tg, tg = w.heap.size := ⟨_, rfl⟩
  have H0 : Hid (Qu w0 b T (.slice p R.length c) R) := Lib.hid (by rw [hw0]; exact H.out.kept HB0.out)
  rw [← htg] at HT1 HT2 ⊢
  rw [← hw0] at HT1 HT2 HB0 c0 ⊢
  have HTG := Lib.hid htg
  clear hw0 H htg
  go_loopw [14] (fun i wc => ∃ k : Nat, k ≤ R.length ∧ i = .int .i64 (k : Int) ∧ Hid (∀ j (h : j < R.length), j < k → (idx R[j].a.ps (t1, t2)).isSome = false) ∧ Hid (Below w0.heap.size w0 wc)) (fun i _ => R.length - (intOf i).toNat)
  case atStart => exact ⟨0, Nat.zero_le _, rfl, fun j _ h => by omega, Below.refl _ _⟩
  case round =>
    obtain ⟨k, hk, rfl, hno, HB⟩ := hrel
    by_cases hlt : k < R.length
    · obtain ⟨x, hxe⟩ : ∃ x, x = R[k] := ⟨_, rfl⟩
      have hx' : R[k]? = some x := by rw [hxe, List.getElem?_eq_getElem hlt]
      have HQ2 := H0.out.kept HB.out
      obtain ⟨g, cap, e, -⟩ := HQ2.lies (by omega)
      simp only [Value.slice.injEq] at e
      obtain ⟨rfl, -, rfl⟩ := e
      have c1 := own_cell HQ2.own (rptrs_at hx')
      have d1 := (HQ2.row hx').blk.cell (j := 3) rfl
      obtain ⟨xq, xo, xc, hxv, -⟩ := (HQ2.row hx').own.shape
      have HO := (HQ2.row hx').own
      rw [hxv] at d1 HO
      have HO := Lib.hid HO
      have e1 := Lib.hid (cell_kept HT1.out HB.out)
      have e2 := Lib.hid (cell_kept HT2.out HB.out)
      cases hq : idx x.a.ps (t1, t2) with
      | some j =>
        have HQ : Hid (idxI x.a.ps (t1, t2) = (j : Int)) := Lib.hid (by unfold idxI; rw [hq])
        have HF : Hid (findV R (t1, t2) = .tuple #[.int .i64 (k : Int), .int .i64 (j : Int)]) := Lib.hid (by
          unfold findV
          rw [findR_some hlt (by rw [← hxe, hq]; rfl) hno.out]
          simp only [hx']
          rw [HQ.out])
        clear hq hxe hx' HQ2 hxv
        go_wp2_with (go_at_call 43; refine (eindex_any xq xo xc tg x.a.ps (t1, t2) _ HO.out e1.out e2.out).mono ?_; rw [HQ.out]; rintro e w2 ⟨rfl, hb⟩; have HB2 := Lib.hid (below_and HB0.out (below_and HB.out hb)); clear hb)
        go_ret2
        exact ⟨ret_val HF.out.symm, HB2.out⟩
      | none =>
        have HQ : Hid (idxI x.a.ps (t1, t2) = -1) := Lib.hid (by unfold idxI; rw [hq])
        have HN : Hid (∀ j (h : j < R.length), j < k + 1 → (idx R[j].a.ps (t1, t2)).isSome = false) := Lib.hid fun j hj hjk => by
          by_cases hjk2 : j < k
          · exact hno.out j hj hjk2
          · obtain rfl : j = k := by omega
            rw [← hxe, hq]; rfl
        clear hq hxe hx' HQ2 hxv
        go_wp2_with (go_at_call 43; refine (eindex_any xq xo xc tg x.a.ps (t1, t2) _ HO.out e1.out e2.out).mono ?_; rw [HQ.out]; rintro e w2 ⟨rfl, hb⟩; have HB2 := Lib.hid (below_and HB.out hb); clear hb)
        go_roundw
        case rel => exact ⟨k + 1, hlt, by go_num, HN, HB2⟩
        case measure => simp [intOf]; omega
    · obtain rfl : k = R.length := by omega
      have HF : Hid (findV R (t1, t2) = .tuple #[.int .i64 (-1), .int .i64 (-1)]) := Lib.hid (by unfold findV; rw [findR_none (fun j hj => hno.out j hj hj)])
      go_wp2
      go_ret2
      exact ⟨ret_val HF.out.symm, below_and HB0.out HB.out⟩

set_option maxRecDepth 100000 in
set_option maxHeartbeats 400000 in
theorem has_any (b : Nat) (T : Int) (v : Value) (R : List PRow) (t : Tid) (w : World) (h : Qu w b T v R) :
    Calls Try.prog 25 #[ptr b, tval t] w fun e w' => e = .returned (.bool (findR R t).isSome) ∧ Below w.heap.size w w' := by
  have H := Lib.hid h
  clear h
  obtain ⟨t1, t2⟩ := t
  cases hq : findR R (t1, t2) with
  | none =>
    have HF : Hid (findV R (t1, t2) = .tuple #[.int .i64 (-1), .int .i64 (-1)]) := Lib.hid (by unfold findV; rw [hq])
    clear hq
    go_enter Try.func25, Try.ntmps25
    go_wp2_with (first
      | (go_at_call 28; refine (qnone_made b T v R _ (H.out.kept (below_alloc _ _))).mono ?_; rintro e w2 ⟨rfl, rfl⟩)
      | (go_at_call 33; refine (find_any b T v R (t1, t2) _ (H.out.kept (below_alloc _ _))).mono ?_; rw [HF.out]; rintro e w2 ⟨rfl, hb⟩; have HB2 := Lib.hid (below_and (below_alloc _ _) hb); clear hb))
    go_ret
    exact ⟨rfl, HB2.out⟩
  | some i =>
    obtain ⟨x, HF⟩ : ∃ x, Hid (findV R (t1, t2) = .tuple #[.int .i64 (i : Int), .int .i64 x]) := ⟨_, Lib.hid (by unfold findV; rw [hq])⟩
    have hi : i < R.length := by unfold findR at hq; rw [List.findIdx?_eq_some_iff_getElem] at hq; exact hq.1
    have hi2 : Hid ((i : Int) ≥ 0) := Lib.hid (by omega)
    clear hq
    go_enter Try.func25, Try.ntmps25
    go_wp2_with (first
      | (go_at_call 28; refine (qnone_made b T v R _ (H.out.kept (below_alloc _ _))).mono ?_; rintro e w2 ⟨rfl, rfl⟩)
      | (go_at_call 33; refine (find_any b T v R (t1, t2) _ (H.out.kept (below_alloc _ _))).mono ?_; rw [HF.out]; rintro e w2 ⟨rfl, hb⟩; have HB2 := Lib.hid (below_and (below_alloc _ _) hb); clear hb))
    go_ret
    exact ⟨rfl, HB2.out⟩
end Go.Proofs.Ytlemfbgmhjklaaa
