/- Both queues side by side; are two lists the same? -/
import Derived.Test.YtlemfbgmhjklaaaRQ9
namespace Go.Proofs.Ytlemfbgmhjklaaa
open Go.RowKit

/-- boxes that stay -/
def Kp (D : List Nat) (w w' : World) : Prop := w.heap.size ≤ w'.heap.size ∧ ∀ g ∈ D, ∀ cs t, Blk w g cs t → Blk w' g cs t
theorem Kp.of_below {w w' : World} (D : List Nat) (h : Below w.heap.size w w') : Kp D w w' := ⟨h.size, fun _ _ _ _ hb => hb.kept h⟩
/-- both queues, apart from each other and from some boxes -/
def Tw (w0 w : World) (b x : Nat) (D : List Nat) (N : Int) (M1 M2 : List MRow) (L : List Pend) : Prop :=
  ∃ A B, Qm w b A N M1 ∧ RM w x B L M2 ∧ (∀ k, A k → w0.heap.size ≤ k) ∧ (∀ k, B k → w0.heap.size ≤ k) ∧ (∀ k, A k → ¬ B k) ∧ (∀ k ∈ D, ¬ A k ∧ ¬ B k ∧ k < w.heap.size) ∧ Below w0.heap.size w0 w
section
variable {w0 w w' : World} {b x : Nat} {D : List Nat} {N : Int} {M1 M2 : List MRow} {L : List Pend}
theorem Tw.bel (h : Tw w0 w b x D N M1 M2 L) : Below w0.heap.size w0 w := by obtain ⟨A, B, -, -, -, -, -, -, h⟩ := h; exact h
theorem Tw.kept (h : Tw w0 w b x D N M1 M2 L) (hb : Below w.heap.size w w') : Tw w0 w' b x D N M1 M2 L := by
  obtain ⟨A, B, h1, h2, h3, h4, h5, h6, h7⟩ := h
  exact ⟨A, B, h1.kept hb, h2.kept hb, h3, h4, h5, fun k hk => ⟨(h6 k hk).1, (h6 k hk).2.1, Nat.lt_of_lt_of_le (h6 k hk).2.2 hb.size⟩, below_and h7 hb⟩
theorem Tw.less {D' : List Nat} (h : Tw w0 w b x D N M1 M2 L) (hd : ∀ k ∈ D', k ∈ D) : Tw w0 w b x D' N M1 M2 L := by
  obtain ⟨A, B, h1, h2, h3, h4, h5, h6, h7⟩ := h
  exact ⟨A, B, h1, h2, h3, h4, h5, fun k hk => h6 k (hd k hk), h7⟩
theorem Tw.grow {N' : Int} (h : Tw w0 w b x D N M1 M2 L) (hn : N ≤ N') : Tw w0 w b x D N' M1 M2 L := by
  obtain ⟨A, B, h1, h2, h3, h4, h5, h6, h7⟩ := h
  exact ⟨A, B, h1.grow hn, h2, h3, h4, h5, h6, h7⟩
/-- one box more -/
theorem Tw.box (h : Tw w0 w b x D N M1 M2 L) (o : Obj) : Tw w0 (w.alloc o) b x (w.heap.size :: D) N M1 M2 L := by
  obtain ⟨A, B, h1, h2, h3, h4, h5, h6, h7⟩ := h
  have hb := below_alloc w o
  refine ⟨fun k => A k ∧ k < w.heap.size, fun k => B k ∧ k < w.heap.size, (h1.mono (fun k hk hlt => ⟨hk, hlt⟩)).kept hb, (h2.mono (fun k hk hlt => ⟨hk, hlt⟩)).kept hb, fun k hk => h3 k hk.1, fun k hk => h4 k hk.1, fun k hk hk2 => h5 k hk.1 hk2.1, fun k hk => ?_, below_and h7 hb⟩
  rcases List.mem_cons.1 hk with rfl | hk
  · exact ⟨fun h => Nat.lt_irrefl _ h.2, fun h => Nat.lt_irrefl _ h.2, by simp⟩
  · exact ⟨fun h => (h6 k hk).1 h.1, fun h => (h6 k hk).2.1 h.1, Nat.lt_of_lt_of_le (h6 k hk).2.2 hb.size⟩
theorem Tw.mi1 (h : Tw w0 w b x D N M1 M2 L) : MI M1 := by obtain ⟨A, B, h1, -⟩ := h; exact h1.mi
theorem Tw.lenL (h : Tw w0 w b x D N M1 M2 L) : L.length = (flatM M2).length := by obtain ⟨A, B, -, h2, -⟩ := h; exact h2.len
theorem Tw.has (h : Tw w0 w b x D N M1 M2 L) (t : Tid) : (L.any fun p => decide (p.task = t)) = hasM M2 t := by obtain ⟨A, B, -, h2, -⟩ := h; exact h2.has t
theorem Tw.cL (h : Tw w0 w b x D N M1 M2 L) : ∃ p c, w.cell? ⟨x, 4, none⟩ = some (.slice p L.length c) ∧ w.ownsRow 0 29 4 (.slice p L.length c) L.length (pcells L) := by obtain ⟨A, B, -, h2, -⟩ := h; exact h2.cL
/-- the program's queue has turned -/
theorem Tw.one {A B : Nat → Prop} {N' : Int} {M1' : List MRow} (h1 : Qm w' b (fun k => A k ∨ w.heap.size ≤ k) N' M1') (hf : Frp A w w') (h2 : RM w x B L M2) (h3 : ∀ k, A k → w0.heap.size ≤ k) (h4 : ∀ k, B k → w0.heap.size ≤ k) (h5 : ∀ k, A k → ¬ B k) (h6 : ∀ k ∈ D, ¬ A k ∧ ¬ B k ∧ k < w.heap.size) (h7 : Below w0.heap.size w0 w) :
    Tw w0 w' b x D N' M1' M2 L ∧ Kp D w w' := by
  obtain ⟨S, hS, hS2⟩ := hf
  refine ⟨⟨fun k => A k ∨ w.heap.size ≤ k, fun k => B k ∧ k < w.heap.size, h1, (h2.mono (fun k hk hlt => ⟨hk, hlt⟩)).fr hS (fun k hk hB => h5 k (hS2 k hk) hB.1), fun k hk => hk.elim (h3 k) (fun h => Nat.le_trans h7.size h), fun k hk => h4 k hk.1, fun k hk hB => hk.elim (fun h => h5 k h hB.1) (fun h => by omega), fun k hk => ⟨fun h => h.elim (h6 k hk).1 (fun h => by have := (h6 k hk).2.2; omega), fun h => (h6 k hk).2.1 h.1, Nat.lt_of_lt_of_le (h6 k hk).2.2 hS.size⟩, h7.trans (hS.below (fun k hk => h3 k (hS2 k hk)) h7.size)⟩, hS.size, fun g hg cs t hb => hb.fr hS (fun hm => (h6 g hg).1 (hS2 g hm))⟩
/-- the document's queue has turned -/
theorem Tw.two {A B : Nat → Prop} {M2' : List MRow} {L' : List Pend} (h1 : Qm w b A N M1) (h2 : RM w' x (fun k => B k ∨ w.heap.size ≤ k) L' M2') (hf : Frp B w w') (h3 : ∀ k, A k → w0.heap.size ≤ k) (h4 : ∀ k, B k → w0.heap.size ≤ k) (h5 : ∀ k, A k → ¬ B k) (h6 : ∀ k ∈ D, ¬ A k ∧ ¬ B k ∧ k < w.heap.size) (h7 : Below w0.heap.size w0 w) :
    Tw w0 w' b x D N M1 M2' L' ∧ Kp D w w' := by
  obtain ⟨S, hS, hS2⟩ := hf
  refine ⟨⟨fun k => A k ∧ k < w.heap.size, fun k => B k ∨ w.heap.size ≤ k, (h1.mono (fun k hk hlt => ⟨hk, hlt⟩)).fr hS (fun k hk hA => h5 k hA.1 (hS2 k hk)), h2, fun k hk => h3 k hk.1, fun k hk => hk.elim (h4 k) (fun h => Nat.le_trans h7.size h), fun k hk hB => hB.elim (fun h => h5 k hk.1 h) (fun h => by omega), fun k hk => ⟨fun h => (h6 k hk).1 h.1, fun h => h.elim (h6 k hk).2.1 (fun h => by have := (h6 k hk).2.2; omega), Nat.lt_of_lt_of_le (h6 k hk).2.2 hS.size⟩, h7.trans (hS.below (fun k hk => h4 k (hS2 k hk)) h7.size)⟩, hS.size, fun g hg cs t hb => hb.fr hS (fun hm => (h6 g hg).2.1 (hS2 g hm))⟩
end

section
variable (w0 w : World) (b x : Nat) (D : List Nat) (N : Int) (M1 M2 : List MRow) (L : List Pend)
theorem tw_put1 (p : Pend) (h : Tw w0 w b x D N M1 M2 L) (hN : N ≤ 1000) (hl : (flatM M1).length ≤ 1000) :
    Calls Try.prog 10 #[ptr b, pval p] w fun e w' => e = .returned (.int .i64 (putE M1 p)) ∧ Tw w0 w' b x D (N + 1) (putS M1 p) M2 L ∧ Kp D w w' := by
  obtain ⟨A, B, h1, h2, h3, h4, h5, h6, h7⟩ := h
  refine (qput_any b A N M1 p w h1 (by omega) (by omega)).mono ?_
  rintro e w' ⟨rfl, hq, hf⟩
  exact ⟨rfl, Tw.one hq hf h2 h3 h4 h5 h6 h7⟩
theorem tw_put2 (p : Pend) (h : Tw w0 w b x D N M1 M2 L) (hl : (flatM M2).length ≤ 1000) :
    Calls Try.prog 21 #[ptr x, pval p] w fun e w' => e = .returned (.int .i64 (putE M2 p)) ∧ ∃ L', Tw w0 w' b x D N M1 (putS M2 p) L' ∧ Kp D w w' := by
  obtain ⟨A, B, h1, h2, h3, h4, h5, h6, h7⟩ := h
  refine (rmput_any x B L M2 p w h2 (by omega)).mono ?_
  rintro e w' ⟨rfl, L', hq, hf⟩
  exact ⟨rfl, L', Tw.two h1 hq hf h3 h4 h5 h6 h7⟩
theorem tw_take1 (h : Tw w0 w b x D N M1 M2 L) (hN : N ≤ 1000) (hl : (flatM M1).length ≤ 1000) :
    Calls Try.prog 14 #[ptr b] w fun e w' => e = .returned (headV M1) ∧ Tw w0 w' b x D (N + 1) (takeM M1) M2 L ∧ Kp D w w' := by
  obtain ⟨A, B, h1, h2, h3, h4, h5, h6, h7⟩ := h
  refine (qtake_any b A N M1 w h1 (by omega) (by omega)).mono ?_
  rintro e w' ⟨rfl, hq, hf⟩
  exact ⟨rfl, Tw.one hq hf h2 h3 h4 h5 h6 h7⟩
theorem tw_take2 (h : Tw w0 w b x D N M1 M2 L) (hl : (flatM M2).length ≤ 1000) :
    Calls Try.prog 22 #[ptr x] w fun e w' => e = .returned (headV M2) ∧ ∃ L', Tw w0 w' b x D N M1 (takeM M2) L' ∧ Kp D w w' := by
  obtain ⟨A, B, h1, h2, h3, h4, h5, h6, h7⟩ := h
  refine (rmtake_any x B L M2 w h2 (by omega)).mono ?_
  rintro e w' ⟨rfl, L', hq, hf⟩
  exact ⟨rfl, L', Tw.two h1 hq hf h3 h4 h5 h6 h7⟩
theorem tw_peek1 (h : Tw w0 w b x D N M1 M2 L) :
    Calls Try.prog 18 #[ptr b] w fun e w' => e = .returned (headV M1) ∧ Below w.heap.size w w' := by
  obtain ⟨A, B, h1, -⟩ := h
  exact qpeek_any b A N M1 w h1
theorem tw_peek2 (h : Tw w0 w b x D N M1 M2 L) :
    Calls Try.prog 23 #[ptr x] w fun e w' => e = .returned (headV M2) ∧ Below w.heap.size w w' := by
  obtain ⟨A, B, h1, h2, -⟩ := h
  exact rmpeek_any x B L M2 w h2
theorem tw_drop1 (t : Tid) (h : Tw w0 w b x D N M1 M2 L) (hl : (flatM M1).length ≤ 1000) :
    Calls Try.prog 17 #[ptr b, tval t] w fun e w' => e = .returned (.int .i64 (if hasM M1 t = true then 0 else 6)) ∧ Tw w0 w' b x D N (dropM M1 t) M2 L ∧ Kp D w w' := by
  obtain ⟨A, B, h1, h2, h3, h4, h5, h6, h7⟩ := h
  refine (qdrop_any b A N M1 t w h1 (by omega)).mono ?_
  rintro e w' ⟨rfl, hq, hf⟩
  exact ⟨rfl, Tw.one hq hf h2 h3 h4 h5 h6 h7⟩
theorem tw_drop2 (t : Tid) (h : Tw w0 w b x D N M1 M2 L) (hl : (flatM M2).length ≤ 1000) :
    Calls Try.prog 24 #[ptr x, tval t] w fun e w' => e = .returned (.int .i64 (if hasM M2 t = true then 0 else 6)) ∧ ∃ L', Tw w0 w' b x D N M1 (dropM M2 t) L' ∧ Kp D w w' := by
  obtain ⟨A, B, h1, h2, h3, h4, h5, h6, h7⟩ := h
  refine (rmdrop_any x B L M2 t w h2 (by omega)).mono ?_
  rintro e w' ⟨rfl, L', hq, hf⟩
  exact ⟨rfl, L', Tw.two h1 hq hf h3 h4 h5 h6 h7⟩
theorem tw_has (t : Tid) (h : Tw w0 w b x D N M1 M2 L) :
    Calls Try.prog 25 #[ptr b, tval t] w fun e w' => e = .returned (.bool (hasM M1 t)) ∧ Below w.heap.size w w' := by
  obtain ⟨A, B, h1, -⟩ := h
  exact qhas_any b A N M1 t w h1
theorem tw_len (h : Tw w0 w b x D N M1 M2 L) (hl : (flatM M1).length ≤ 1000) :
    Calls Try.prog 19 #[ptr b] w fun e w' => e = .returned (.int .i64 ((flatM M1).length : Nat)) ∧ w = w' := by
  obtain ⟨A, B, h1, -⟩ := h
  exact qlen_any b A N M1 w h1 (by omega)
theorem tw_all1 (h : Tw w0 w b x D N M1 M2 L) (hN : N ≤ 1000) (hl : (flatM M1).length ≤ 1000) :
    Calls Try.prog 11 #[ptr b] w fun e w' => ∃ o, e = .returned o ∧ w'.ownsRow w.heap.size 29 4 o (flatM M1).length (pcells (allM M1)) ∧ Below w.heap.size w w' := by
  obtain ⟨A, B, h1, -⟩ := h
  exact all_any b A N M1 w h1 (by omega) (by omega)
theorem tw_all2 (h : Tw w0 w b x D N M1 M2 L) (hl : (flatM M2).length ≤ 1000) :
    Calls Try.prog 27 #[ptr x] w fun e w' => ∃ o, e = .returned o ∧ w'.ownsRow w.heap.size 29 4 o (flatM M2).length (pcells (allM M2)) ∧ Below w.heap.size w w' := by
  obtain ⟨A, B, h1, h2, -⟩ := h
  exact rmall_any x B L M2 w h2 (by omega)
end

set_option maxRecDepth 100000 in
set_option maxHeartbeats 1000000 in
theorem qsame_any (b1 b2 : Nat) (v1 v2 : Value) (l : List Pend) (w : World) (h1 : w.ownsRow b1 29 4 v1 l.length (pcells l)) (h2 : w.ownsRow b2 29 4 v2 l.length (pcells l)) :
    Calls Try.prog 26 #[v1, v2] w fun e w' => e = .returned (.bool true) ∧ Below w.heap.size w w' := by
  obtain ⟨p1, c1, rfl, hc1, hm1⟩ := own_slice h1
  obtain ⟨p2, c2, rfl, hc2, hm2⟩ := own_slice h2
  have H1 := Lib.hid h1
  have H2 := Lib.hid h2
  have hml : maxLen ≤ 9223372036854775807 := by decide
  have hll : l.length ≤ 9223372036854775807 := by omega
  clear h1 h2 hml hm1 hm2
  go_enter Try.func26, Try.ntmps26
  go_wp2
  go_loopw [5] (fun o wc => ∃ k : Nat, k ≤ l.length ∧ o = .int .i64 (k : Int) ∧ Hid (Below w.heap.size w wc)) (fun o _ => l.length - (intOf o).toNat)
  case atStart => exact ⟨0, Nat.zero_le _, rfl, Lib.hid (Below.refl _ _)⟩
  case round =>
    obtain ⟨k, hk, rfl, HB⟩ := hrel
    by_cases hlt : k < l.length
    · obtain ⟨q1, e1, hcs1⟩ := pown_cell (own_keep H1.out HB.out) hlt rfl
      subst e1
      obtain ⟨q2, e2, hcs2⟩ := pown_cell (own_keep H2.out HB.out) hlt rfl
      subst e2
      obtain ⟨y, hy⟩ : ∃ y, y = l[k] := ⟨_, rfl⟩
      rw [← hy] at hcs1 hcs2
      have x0 : wr.cell? ⟨q1, k * 4, none⟩ = some (.string y.job) := hcs1 0 _ (by omega) rfl
      have x1 : wr.cell? ⟨q1, k * 4 + 1, none⟩ = some (.int .i64 y.idx) := hcs1 1 _ (by omega) rfl
      have x2 : wr.cell? ⟨q1, k * 4 + 2, none⟩ = some (.string y.user) := hcs1 2 _ (by omega) rfl
      have x3 : wr.cell? ⟨q1, k * 4 + 3, none⟩ = some (.int .i64 y.band) := hcs1 3 _ (by omega) rfl
      have y0 : wr.cell? ⟨q2, k * 4, none⟩ = some (.string y.job) := hcs2 0 _ (by omega) rfl
      have y1 : wr.cell? ⟨q2, k * 4 + 1, none⟩ = some (.int .i64 y.idx) := hcs2 1 _ (by omega) rfl
      have y2 : wr.cell? ⟨q2, k * 4 + 2, none⟩ = some (.string y.user) := hcs2 2 _ (by omega) rfl
      have y3 : wr.cell? ⟨q2, k * 4 + 3, none⟩ = some (.int .i64 y.band) := hcs2 3 _ (by omega) rfl
      have i1 : (k : Int) < (l.length : Int) := by omega
      clear hcs1 hcs2 hy
      go_wp2
      go_quiet (fail)
      go_wp2
      go_roundw
      case rel => exact ⟨k + 1, hlt, by go_num, Lib.hid (below_and HB.out (below_drewN _))⟩
      case measure => simp [intOf]; omega
    · obtain rfl : k = l.length := by omega
      go_wp2
      go_ret
      exact ⟨rfl, HB.out⟩
end Go.Proofs.Ytlemfbgmhjklaaa
