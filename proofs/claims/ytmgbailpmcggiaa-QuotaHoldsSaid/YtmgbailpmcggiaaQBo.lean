/- A book of the call's own: its calls, one after another; the chapter's first example (lives). -/
import Derived.Test.YtmgbailpmcggiaaQInv
namespace Go.Proofs.Ytmgbailpmcggiaa
open Go.RowKit

/-- a book that the call at hand made, behind n acts -/
structure Bo (w0 w : World) (b mg mc n : Nat) (G : List Gr) (C : List Ch) : Prop where
  bk : Bk w b mg mc G C
  qi : QI n G C
  lo : w0.heap.size ≤ b ∧ w0.heap.size ≤ mg ∧ w0.heap.size ≤ mc
  hb : Below w0.heap.size w0 w
theorem Bo.kept {w0 w w' : World} {b mg mc n : Nat} {G : List Gr} {C : List Ch} (h : Bo w0 w b mg mc n G C) (hb : Below w.heap.size w w') : Bo w0 w' b mg mc n G C := ⟨h.bk.kept hb, h.qi, h.lo, below_and h.hb hb⟩
theorem Bo.fr {w0 w w' : World} {b mg mc n m : Nat} {G G' : List Gr} {C C' : List Ch} (h : Bo w0 w b mg mc n G C) (hk : Bk w' b mg mc G' C') (hq : QI m G' C') (hf : Fr [mg, mc] w w') : Bo w0 w' b mg mc m G' C' :=
  ⟨hk, hq, h.lo, h.hb.trans (hf.below (by intro x hx; simp only [List.mem_cons, List.not_mem_nil, or_false] at hx; rcases hx with rfl | rfl; exact h.lo.2.1; exact h.lo.2.2) h.hb.size)⟩
theorem bo_new (w : World) : Calls Try.prog 7 #[] w fun e w' => ∃ b mg mc, e = .returned (ptr b) ∧ Bo w w' b mg mc 0 [] [] :=
  (bnew_ok w).mono fun e w' ⟨b, mg, mc, h1, h2, h3, h4, h5, h6⟩ => ⟨b, mg, mc, h1, h5, QI.nil, ⟨h2, h3, h4⟩, h6⟩

section
variable {w0 w : World} {b mg mc n : Nat} {G : List Gr} {C : List Ch}
theorem bo_grant (h : Bo w0 w b mg mc n G C) (hn : n ≤ 1000) (u : ByteArray) (d : Int) (a : Am) (hd1 : -9223372036854775808 ≤ d) (hd2 : d ≤ 9223372036854775807) {r : Int} {G' : List Gr} (hp : grantP G u d a = (r, G')) :
    Calls Try.prog 8 #[ptr b, .string u, .int .i64 d, amV a] w fun e w' => e = .returned (.int .i64 r) ∧ Bo w0 w' b mg mc (n + 1) G' C ∧ Fr [mg, mc] w w' :=
  (bgrant_any b mg mc G C u d a w h.bk hd1 hd2 (by have := h.qi.lenG; unfold maxLen; omega)).mono fun e w' ⟨h1, h2, h3⟩ => by
    have hq := h.qi.grant u d a
    rw [hp] at h1 h2 hq
    exact ⟨h1, h.fr h2 hq h3, h3⟩
theorem bo_charge (h : Bo w0 w b mg mc n G C) (hn : n ≤ 1000) (c : Ch) (hd1 : -9223372036854775808 ≤ c.b) (hd2 : c.b ≤ 9223372036854775807) {r : Int} {C' : List Ch} (hp : chargeP G C c = (r, C')) :
    Calls Try.prog 9 #[ptr b, chV c] w fun e w' => e = .returned (.int .i64 r) ∧ Bo w0 w' b mg mc (n + 1) G C' ∧ Fr [mg, mc] w w' :=
  (bcharge_any b mg mc G C c w h.bk h.qi.ch hd1 hd2 (by have := h.qi.lenC; unfold maxLen; omega)).mono fun e w' ⟨h1, h2, h3⟩ => by
    have hq := h.qi.charge c
    rw [hp] at h1 h2 hq
    exact ⟨h1, h.fr h2 hq h3, h3⟩
theorem bo_refund (h : Bo w0 w b mg mc n G C) (s : ByteArray) {r : Int} {C' : List Ch} (hp : refundP C s = (r, C')) :
    Calls Try.prog 14 #[ptr b, .string s] w fun e w' => e = .returned (.int .i64 r) ∧ Bo w0 w' b mg mc (n + 1) G C' ∧ Fr [mg, mc] w w' :=
  (brefund_any b mg mc G C s w h.bk).mono fun e w' ⟨h1, h2, h3⟩ => by
    have hq := h.qi.refund s
    rw [hp] at h1 h2 hq
    exact ⟨h1, h.fr h2 hq h3, h3⟩
theorem bo_change (h : Bo w0 w b mg mc n G C) (hn : n ≤ 1000) (s : ByteArray) (a : Am) {r : Int} {C' : List Ch} (hp : changeP G C s a = (r, C')) :
    Calls Try.prog 11 #[ptr b, .string s, amV a] w fun e w' => e = .returned (.int .i64 r) ∧ Bo w0 w' b mg mc (n + 1) G C' ∧ Fr [mg, mc] w w' :=
  (bchange_any b mg mc G C s a w h.bk h.qi.ch h.qi.user (by have := h.qi.lenC; unfold maxLen; omega)).mono fun e w' ⟨h1, h2, h3⟩ => by
    have hq := h.qi.change s a
    rw [hp] at h1 h2 hq
    exact ⟨h1, h.fr h2 hq h3, h3⟩
theorem bo_used (h : Bo w0 w b mg mc n G C) (u : ByteArray) (d : Int) (hd1 : -9223372036854775808 ≤ d) (hd2 : d ≤ 9223372036854775807) {a : Am} {r : Int} (hp : usedP C u d = (a, r)) :
    Calls Try.prog 22 #[ptr b, .string u, .int .i64 d] w fun e w' => e = .returned (.tuple #[amV a, .int .i64 r]) ∧ Below w.heap.size w w' := by
  have := bUsed_any b mg mc G C u d w h.bk h.qi.ch h.qi.pos hd1 hd2
  rw [hp] at this
  exact this
theorem bo_granted (h : Bo w0 w b mg mc n G C) (u : ByteArray) (d : Int) (hd1 : -9223372036854775808 ≤ d) (hd2 : d ≤ 9223372036854775807) {a : Am} {r : Int} (hp : grantedP G u d = (a, r)) :
    Calls Try.prog 16 #[ptr b, .string u, .int .i64 d] w fun e w' => e = .returned (.tuple #[amV a, .int .i64 r]) ∧ Below w.heap.size w w' := by
  have := bgranted_any b mg mc G C u d w h.bk hd1 hd2
  rw [hp] at this
  exact this
theorem bo_left (h : Bo w0 w b mg mc n G C) (u : ByteArray) (d : Int) (hd1 : -9223372036854775808 ≤ d) (hd2 : d ≤ 9223372036854775807) {a : Am} {r : Int} (hp : leftP G C u d = (a, r)) :
    Calls Try.prog 12 #[ptr b, .string u, .int .i64 d] w fun e w' => e = .returned (.tuple #[amV a, .int .i64 r]) ∧ Below w.heap.size w w' := by
  have := bleft_any b mg mc G C u d w h.bk h.qi.ch h.qi.pos h.qi.grok hd1 hd2
  rw [hp] at this
  exact this
theorem bo_charges (h : Bo w0 w b mg mc n G C) (hn : n ≤ 1000) :
    Calls Try.prog 13 #[ptr b] w fun e w' => ∃ v, e = .returned v ∧ w'.ownsRow w.heap.size 31 7 v C.length (rwC chC C) ∧ Below w.heap.size w w' :=
  charges_made b mg mc G C w h.bk h.qi.ch.rise (fun e he => nmdB_len (h.qi.nm e he).1) (by have := h.qi.lenC; omega)
theorem bo_over (h : Bo w0 w b mg mc n G C) (hn : n ≤ 1000) :
    Calls Try.prog 10 #[ptr b] w fun e w' => ∃ v, e = .returned v ∧ w'.ownsRow w.heap.size 31 7 v (overP G C).length (rwC chC (overP G C)) ∧ Below w.heap.size w w' :=
  over_made b mg mc G C w h.bk h.qi.ch h.qi.nm (by have := h.qi.lenC; omega)
end

abbrev sAnn : ByteArray := ⟨#[97, 110, 110]⟩
abbrev g1 : List Gr := [⟨⟨#[97, 110, 110]⟩, 2, ⟨10, 0, 0, 0⟩⟩]
abbrev c1 : List Ch := [⟨⟨#[97]⟩, ⟨#[97, 110, 110]⟩, 2, ⟨6, 0, 0, 0⟩⟩]
theorem k_g1 : grantP [] ⟨#[97, 110, 110]⟩ 2 ⟨10, 0, 0, 0⟩ = (0, g1) := by kernel_rfl
theorem k_c1 : chargeP g1 [] ⟨⟨#[97]⟩, ⟨#[97, 110, 110]⟩, 2, ⟨6, 0, 0, 0⟩⟩ = (0, c1) := by kernel_rfl
theorem k_c2 : chargeP g1 c1 ⟨⟨#[98]⟩, ⟨#[97, 110, 110]⟩, 2, ⟨5, 0, 0, 0⟩⟩ = (12, c1) := by kernel_rfl

set_option maxRecDepth 100000 in
set_option maxHeartbeats 2000000 in
theorem qlives (w : World) : Calls Try.prog 6 #[] w fun e w' => e = .returned (.bool true) ∧ Below w.heap.size w w' := by
  go_enter Try.func6, Try.ntmps6
  go_wp2_with fail
  refine (bo_new _).mono ?_
  rintro e w1 ⟨b, mg, mc, rfl, h1⟩
  have H1 := Lib.hid h1
  clear h1
  go_wp2_with fail
  refine (bo_grant H1.out (by omega) ⟨#[97, 110, 110]⟩ 2 ⟨10, 0, 0, 0⟩ (by omega) (by omega) k_g1).mono ?_
  rintro e w2 ⟨rfl, h2, -⟩
  have H2 := Lib.hid h2
  clear h2
  go_wp2_with fail
  refine (bo_charge H2.out (by omega) ⟨⟨#[97]⟩, ⟨#[97, 110, 110]⟩, 2, ⟨6, 0, 0, 0⟩⟩ (by decide) (by decide) k_c1).mono ?_
  rintro e w3 ⟨rfl, h3, -⟩
  have H3 := Lib.hid h3
  clear h3
  go_wp2_with fail
  refine (bo_charge H3.out (by omega) ⟨⟨#[98]⟩, ⟨#[97, 110, 110]⟩, 2, ⟨5, 0, 0, 0⟩⟩ (by decide) (by decide) k_c2).mono ?_
  rintro e w4 ⟨rfl, h4, -⟩
  have H4 := Lib.hid h4
  clear h4
  go_wp2_with fail
  go_ret
  exact ⟨rfl, H4.out.hb⟩
end Go.Proofs.Ytmgbailpmcggiaa
