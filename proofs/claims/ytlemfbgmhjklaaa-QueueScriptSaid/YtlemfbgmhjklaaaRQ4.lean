/- The document's queue: Peek and Drop. -/
import Derived.Test.YtlemfbgmhjklaaaRQ3
namespace Go.Proofs.Ytlemfbgmhjklaaa
open Go.RowKit

theorem list_cell {base : Nat} {w : World} {g : Nat} {rv : Nat → Value} {p : Option Addr} {n c : Nat} {rw : Nat → List ByteArray} {L : List Pend} (h : RQ base w g rv (.slice p n c) rw L) {i : Nat} (hi : i < L.length) (hn : n = L.length) :
    ∃ q, p = some ⟨q, 0, none⟩ ∧ ∀ j u, j < 4 → (pend L[i])[j]? = some u → w.cell? ⟨q, i * 4 + j, none⟩ = some u := by
  subst hn
  exact pown_cell h.list hi rfl

def peekV (L : List Pend) : Option Nat → Value
  | some i => .tuple #[pval (L.getD i pend0), .bool true]
  | none => .tuple #[pzv, .bool false]
set_option maxRecDepth 100000 in
set_option maxHeartbeats 1000000 in
theorem rpeek_any (base g : Nat) (rv : Nat → Value) (vL : Value) (rw : Nat → List ByteArray) (L : List Pend) (w : World) (h : RQ base w g rv vL rw L) (o : Option Nat)
    (hr : o = none ∧ (∀ b, b < 4 → rw b = []) ∨ ∃ b0, b0 < 4 ∧ ∃ u us, ∃ i : Nat, rw b0 = u :: us ∧ (∀ b, b < 4 → b0 < b → rw b = []) ∧ firstI L (u, (b0 : Int)) = (i : Int) ∧ i < L.length ∧ o = some i) :
    Calls Try.prog 23 #[ptr g] w fun e w' => e = .returned (peekV L o) ∧ Below w.heap.size w w' := by
  have HA := Lib.hid (h.kept (below_alloc w (.cells #[.string ⟨#[]⟩, .int .i64 0, .string ⟨#[]⟩, .int .i64 0] 29)))
  rcases hr with ⟨rfl, he⟩ | ⟨b0, hb0, u, us, i, h1, h2, h3, hi, rfl⟩
  · have HR : Hid ((∀ b, b < 4 → rw b = []) ∧ (-1 : Int) = -1 ∨ ∃ b0, b0 < 4 ∧ ∃ u us, rw b0 = u :: us ∧ (∀ b, b < 4 → b0 < b → rw b = []) ∧ (-1 : Int) = firstI L (u, (b0 : Int))) := Lib.hid (.inl ⟨he, rfl⟩)
    clear h he
    go_enter Try.func23, Try.ntmps23
    go_wp2_with (go_at_call 38; refine (rnext_any base g rv vL rw L _ HA.out (-1) HR.out).mono ?_; rintro e w2 ⟨rfl, rfl⟩)
    exact ret_cell rfl rfl rfl (Blk.made w [.string ⟨#[]⟩, .int .i64 0, .string ⟨#[]⟩, .int .i64 0] 29) Try.underlying29 rfl info_pend2 ⟨rfl, below_alloc w _⟩
  · have HR : Hid ((∀ b, b < 4 → rw b = []) ∧ (i : Int) = -1 ∨ ∃ b0, b0 < 4 ∧ ∃ u us, rw b0 = u :: us ∧ (∀ b, b < 4 → b0 < b → rw b = []) ∧ (i : Int) = firstI L (u, (b0 : Int))) := Lib.hid (.inr ⟨b0, hb0, u, us, h1, h2, h3.symm⟩)
    obtain ⟨p, c, rfl, -, -⟩ := own_slice h.list
    obtain ⟨q, rfl, hcs⟩ := list_cell HA.out hi rfl
    obtain ⟨y, hy⟩ : ∃ y, y = L[i] := ⟨_, rfl⟩
    have hgd : L.getD i pend0 = y := by rw [List.getD_eq_getElem?_getD, List.getElem?_eq_getElem hi, hy]; rfl
    rw [← hy] at hcs
    have c0 : World.cell? _ ⟨q, i * 4, none⟩ = some (.string y.job) := hcs 0 _ (by omega) rfl
    have c1 : World.cell? _ ⟨q, i * 4 + 1, none⟩ = some (.int .i64 y.idx) := hcs 1 _ (by omega) rfl
    have c2 : World.cell? _ ⟨q, i * 4 + 2, none⟩ = some (.string y.user) := hcs 2 _ (by omega) rfl
    have c3 : World.cell? _ ⟨q, i * 4 + 3, none⟩ = some (.int .i64 y.band) := hcs 3 _ (by omega) rfl
    have e4 := HA.out.cL
    have i1 : ¬ ((i : Int) < 0) := by omega
    have i2 : (i : Int) < (L.length : Int) := by omega
    have hpv : peekV L (some i) = .tuple #[pval y, .bool true] := by show Value.tuple #[pval (L.getD i pend0), .bool true] = _; rw [hgd]
    rw [hpv]
    clear hpv h hcs hy hgd h1 h2 h3
    go_enter Try.func23, Try.ntmps23
    go_wp2_with (go_at_call 38; refine (rnext_any base g rv _ rw L _ HA.out (i : Int) HR.out).mono ?_; rintro e w2 ⟨rfl, rfl⟩)
    exact ret_cell rfl rfl rfl (Blk.made w (pend y) 29) Try.underlying29 rfl info_pend2 ⟨rfl, below_alloc w _⟩

set_option maxRecDepth 100000 in
set_option maxHeartbeats 1000000 in
theorem rdrop_none (base g : Nat) (rv : Nat → Value) (vL : Value) (rw : Nat → List ByteArray) (L : List Pend) (t : Tid) (w : World) (h : RQ base w g rv vL rw L) (ht : idxI L t = -1) :
    Calls Try.prog 24 #[ptr g, tval t] w fun e w' => e = .returned (.int .i64 6) ∧ Below w.heap.size w w' := by
  have H := Lib.hid h
  have HT := Lib.hid ht
  obtain ⟨t1, t2⟩ := t
  clear h ht
  go_enter Try.func24, Try.ntmps24
  go_wp2_with (go_at_call 36; refine (rplace_any base g rv vL rw L (t1, t2) _ (H.out.kept (below_alloc _ _))).mono ?_; rw [HT.out]; rintro e w2 ⟨rfl, hb⟩; have HB2 := Lib.hid (below_and (below_alloc _ _) hb); clear hb)
  go_ret
  exact ⟨rfl, HB2.out⟩

set_option maxRecDepth 100000 in
set_option maxHeartbeats 2000000 in
theorem rdrop_some (base g : Nat) (rv : Nat → Value) (vL : Value) (rw : Nat → List ByteArray) (L : List Pend) (t : Tid) (i b : Nat) (w : World) (h : RQ base w g rv vL rw L) (ht : idxI L t = (i : Int)) (hi : i < L.length) (hl : L.length ≤ 900000) (hb4 : b < 4) (hbb : L[i].band = (b : Int)) (hrl : (rw b).length ≤ 100000) :
    Calls Try.prog 24 #[ptr g, tval t] w fun e w' => e = .returned (.int .i64 0) ∧ ∃ rv' vL', RQ base w' g rv' vL' (leaveW rw (L.eraseIdx i) L[i].user b) (L.eraseIdx i) ∧ RSt w w' g rv vL rv' vL' := by
  obtain ⟨p, c, rfl, -, -⟩ := own_slice h.list
  obtain ⟨y, hy⟩ : ∃ y, y = L[i] := ⟨_, rfl⟩
  rw [← hy] at hbb ⊢
  have H := Lib.hid h
  have HT := Lib.hid ht
  have HY := Lib.hid hy
  obtain ⟨t1, t2⟩ := t
  have i1 : ¬ ((i : Int) < 0) := by omega
  have i2 : (i : Int) < (L.length : Int) := by omega
  have HBB := Lib.hid hbb
  clear h ht hy hbb
  go_enter Try.func24, Try.ntmps24
  go_upto_region 4 with (go_at_call 36; refine (rplace_any base g rv _ rw L (t1, t2) _ (H.out.kept (below_alloc _ _))).mono ?_; rw [HT.out]; rintro e w2 ⟨rfl, hb⟩; have HB2 := Lib.hid (below_and (below_alloc _ _) hb); clear hb)
  have H2 := Lib.hid (H.out.kept HB2.out)
  obtain ⟨q, rfl, hcs⟩ := list_cell H2.out hi rfl
  rw [← HY.out] at hcs
  have c0 : w2.cell? ⟨q, i * 4, none⟩ = some (.string y.job) := hcs 0 _ (by omega) rfl
  have c1 : w2.cell? ⟨q, i * 4 + 1, none⟩ = some (.int .i64 y.idx) := hcs 1 _ (by omega) rfl
  have c2 : w2.cell? ⟨q, i * 4 + 2, none⟩ = some (.string y.user) := hcs 2 _ (by omega) rfl
  have c3 : w2.cell? ⟨q, i * 4 + 3, none⟩ = some (.int .i64 y.band) := hcs 3 _ (by omega) rfl
  have e4 := H2.out.cL
  clear hcs
  go_upto_region 5 with fail
  obtain ⟨gd, hgd⟩ : ∃ gd, gd = w2.heap.size := ⟨_, rfl⟩
  obtain ⟨w3, hw3⟩ : ∃ w3, w3 = w2.alloc (.cells #[.string y.job, .int .i64 y.idx, .string y.user, .int .i64 y.band] 29) := ⟨_, rfl⟩
  have H3 := Lib.hid (H2.out.kept (below_alloc w2 (.cells #[.string y.job, .int .i64 y.idx, .string y.user, .int .i64 y.band] 29)))
  have HD3 : Hid (Blk w3 gd (pend y) 29) := Lib.hid (by rw [hw3, hgd]; exact Blk.made w2 (pend y) _)
  have HB3 : Hid (Below w.heap.size w w3) := Lib.hid (by rw [hw3]; exact below_and HB2.out (below_alloc w2 _))
  have HGD : Hid (w.heap.size ≤ gd) := Lib.hid (by rw [hgd]; exact HB2.out.size)
  have HPN : Hid (¬ Pd g rv (.slice (some ⟨q, 0, none⟩) L.length c) gd) := Lib.hid (fun hp => by
    have hs := HGD.out
    rcases hp with h1 | ⟨b', hb', h1⟩ | h1
    · have := H.out.blk.lt; omega
    · have := own_hi (H.out.rows b' hb') h1; omega
    · have := own_hi H.out.list h1; omega)
  rw [← hw3] at H3
  rw [← hw3, ← hgd]
  clear hw3 hgd c0 c1 c2 c3 e4
  go_wp2_with (first
    | (go_at_call 39; refine (rcut_any base g i rv _ rw L _ H3.out hi hl).mono ?_; rintro e w4 ⟨rfl, vL4, hq, hs⟩; have HQ4 := Lib.hid hq; have HS4 := Lib.hid hs; have hd4 := blk_frp HD3.out hs.fr HPN.out; have s2 := hd4.cell (j := 2) rfl; have s3 : w4.cell? ⟨gd, 3, none⟩ = some (.int .i64 (b : Int)) := (by rw [← HBB.out]; exact hd4.cell (j := 3) rfl); clear hq hs)
    | (go_at_call 40; refine (rleave_any base g b rv vL4 rw (L.eraseIdx i) y.user _ HQ4.out hb4 hrl).mono ?_; rintro e w5 ⟨rfl, rv5, hq, hs⟩; have HQ5 := Lib.hid hq; have HS5 := Lib.hid hs; clear hq hs))
  go_ret
  exact ⟨rfl, rv5, vL4, HQ5.out, ((RSt.of_below HB3.out g rv _).trans HS4.out).trans HS5.out⟩
end Go.Proofs.Ytlemfbgmhjklaaa
