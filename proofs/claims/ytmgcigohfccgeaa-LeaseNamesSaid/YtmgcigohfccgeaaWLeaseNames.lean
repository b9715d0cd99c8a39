/- the walk of LeaseNames -/
import Derived.Test.YtmgcigohfccgeaaLsOver
import Derived.Test.YtmgcigohfccgeaaLsRef5
import Derived.Test.YtmgcigohfccgeaaLsLaw
import Derived.Test.YtmgcigohfccgeaaLLives
namespace Go.Proofs.Ytmgcigohfccgeaa
open Go.RowKit

abbrev ex : ByteArray := ⟨#[120]⟩
theorem ex_len : ex.size ≤ maxLen := by decide
abbrev ls0 : Ls := ⟨14, 0, []⟩
abbrev ls1 : Ls := ⟨14, 0, [⟨em, 0, 0, 0⟩]⟩
abbrev ls2 : Ls := ⟨14, 14, [⟨em, 0, 0, 0⟩]⟩
abbrev ls3 : Ls := ⟨14, 14, [⟨em, 1, 5, 14⟩]⟩
theorem ls0_I : LsI 0 ls0 := LsI.new 14 (by decide)
theorem ls_a1 : lsAdd ls0 em = (0, ls1) := by
  unfold lsAdd
  rw [em_ne]
  rfl
theorem ls_a2 : lsAdd ls3 em = (7, ls3) := by
  unfold lsAdd
  rw [em_ne]
  rfl
theorem ls_t2 : lsTick ls1 14 = (0, ls2) := rfl
theorem ls_h3 : lsHeard ls2 em 1 5 = (0, ls3) := rfl
theorem ls_h4 : lsHeard ls3 em 1 4 = (11, ls3) := rfl
theorem ls_h5 : lsHeard ls3 em 0 9 = (2, ls3) := rfl
theorem ls_e3 : lsEcho ls3 em = (1, 5, 0) := rfl
theorem ls_e6 : lsEcho ls3 ex = (0, 0, 6) := rfl
theorem ls_s3 : lsSure ls3 em = (false, 0) := rfl
theorem ls_o2 : lsOver ls2 = [em] := rfl
theorem ls1_I : LsI 1 ls1 := by have := ls0_I.add em em_len; rwa [ls_a1] at this
theorem ls2_I : LsI 2 ls2 := by have := ls1_I.tick 14; rwa [ls_t2] at this
theorem ls3_I : LsI 3 ls3 := by have := ls2_I.heard em em_len 1 5; rwa [ls_h3] at this
theorem waits00 : Clk.waits 0 0 = (0, 2) := by decide

/-- what is known of the table -/
structure Ln (w0 : World) (b mb : Nat) (x : Ls) (w : World) : Prop where
  t : LsT w b mb 10 x
  bel : Below w0.heap.size w0 w
  far : w0.heap.size ≤ b ∧ w0.heap.size ≤ mb
theorem Ln.kept {w0 : World} {b mb : Nat} {x : Ls} {w w' : World} (h : Ln w0 b mb x w) (hb : Below w.heap.size w w') : Ln w0 b mb x w' := ⟨h.t.kept hb, below_and h.bel hb, h.far⟩
theorem Ln.go {w0 : World} {b mb : Nat} {x y : Ls} {w w' : World} (h : Ln w0 b mb x w) (ht : LsT w' b mb 10 y) {S : List Nat} (hf : Fr S w w') (hs : ∀ q ∈ S, q = b ∨ q = mb) : Ln w0 b mb y w' :=
  ⟨ht, h.bel.trans (hf.below (fun q hq => by
    rcases hs q hq with rfl | rfl
    · exact h.far.1
    · exact h.far.2) h.bel.size), h.far⟩
theorem ln_add0 (w0 : World) (b mb : Nat) (w : World) (h : Ln w0 b mb ls0 w) : Calls Try.prog 16 #[ptr b, .string em] w fun e w' => e = .returned (.int .i64 0) ∧ Ln w0 b mb ls1 w' := by
  have := lsadd_all 0 b mb 10 ls0 em w h.t ls0_I (by omega) em_len
  rw [ls_a1] at this
  exact this.mono fun e w' ⟨h1, h2, h3⟩ => ⟨h1, h.go h2 h3 (by simp)⟩
theorem ln_add3 (w0 : World) (b mb : Nat) (w : World) (h : Ln w0 b mb ls3 w) : Calls Try.prog 16 #[ptr b, .string em] w fun e w' => e = .returned (.int .i64 7) ∧ Ln w0 b mb ls3 w' := by
  have := lsadd_all 3 b mb 10 ls3 em w h.t ls3_I (by omega) em_len
  rw [ls_a2] at this
  exact this.mono fun e w' ⟨h1, h2, h3⟩ => ⟨h1, h.go h2 h3 (by simp)⟩
theorem ln_tick (w0 : World) (b mb : Nat) (w : World) (h : Ln w0 b mb ls1 w) : Calls Try.prog 19 #[ptr b, .int .i64 14] w fun e w' => e = .returned (.int .i64 0) ∧ Ln w0 b mb ls2 w' := by
  have := lstick_all 1 b mb 10 ls1 14 w h.t ls1_I (by omega)
  rw [ls_t2] at this
  exact this.mono fun e w' ⟨h1, h2, h3⟩ => ⟨h1, h.go h2 h3 (by simp)⟩
theorem ln_over (w0 : World) (b mb : Nat) (w : World) (h : Ln w0 b mb ls2 w) : Calls Try.prog 36 #[ptr b] w fun e w' => ∃ v, e = .returned v ∧ w'.ownsRow w.heap.size 9 1 v 1 (strV [em]) ∧ Ln w0 b mb ls2 w' := by
  have := lsover_all 2 b mb 10 ls2 w h.t ls2_I (by omega)
  rw [ls_o2] at this
  exact this.mono fun e w' ⟨v, h1, h2, h3⟩ => ⟨v, h1, h2, h.kept h3⟩
theorem ln_heard2 (w0 : World) (b mb : Nat) (w : World) (h : Ln w0 b mb ls2 w) : Calls Try.prog 18 #[ptr b, .string em, .int .u64 1, .int .i64 5] w fun e w' => e = .returned (.int .i64 0) ∧ w.heap.size ≤ w'.heap.size ∧ Fr [mb] w w' ∧ Ln w0 b mb ls3 w' := by
  have := lsheard_all 2 b mb 10 ls2 em 1 5 w h.t ls2_I (by omega) em_len
  rw [ls_h3] at this
  exact this.mono fun e w' ⟨h1, h2, h3⟩ => ⟨h1, h3.size, h3, h.go h2 h3 (by simp)⟩
theorem ln_heard3 (w0 : World) (b mb : Nat) (w : World) (h : Ln w0 b mb ls3 w) (bt nw er : Int) (hh : lsHeard ls3 em bt nw = (er, ls3)) : Calls Try.prog 18 #[ptr b, .string em, .int .u64 bt, .int .i64 nw] w fun e w' => e = .returned (.int .i64 er) ∧ Fr [mb] w w' ∧ Ln w0 b mb ls3 w' := by
  have := lsheard_all 3 b mb 10 ls3 em bt nw w h.t ls3_I (by omega) em_len
  rw [hh] at this
  exact this.mono fun e w' ⟨h1, h2, h3⟩ => ⟨h1, h3, h.go h2 h3 (by simp)⟩

set_option maxRecDepth 100000 in
set_option maxHeartbeats 4000000 in
theorem leaseNames_walk (w : World) :
    Calls Try.prog 8 #[] w fun e w' => e = .returned (.bool true) ∧ Below w.heap.size w w' := by
  have HSE : Hid (∀ w b mb, LsT w b mb 10 ls3 → Calls Try.prog 20 #[ptr b, .string em] w fun e w' => e = .returned (.tuple #[.bool false, .int .i64 0]) ∧ Below w.heap.size w w') := Lib.hid (fun w b mb h => by have := lssure_all 3 b mb 10 ls3 em w h ls3_I (by omega) em_len; rw [ls_s3] at this; exact this)
  have HE1 : Hid (∀ w b mb, LsT w b mb 10 ls3 → Calls Try.prog 37 #[ptr b, .string em] w fun e w' => e = .returned (.tuple #[.int .u64 1, .int .i64 5, .int .i64 0]) ∧ Below w.heap.size w w') := Lib.hid (fun w b mb h => by have := lsecho_all 3 b mb 10 ls3 em w h ls3_I em_len; rw [ls_e3] at this; exact this)
  have HE2 : Hid (∀ w b mb, LsT w b mb 10 ls3 → Calls Try.prog 37 #[ptr b, .string ex] w fun e w' => e = .returned (.tuple #[.int .u64 0, .int .i64 0, .int .i64 6]) ∧ Below w.heap.size w w') := Lib.hid (fun w b mb h => by have := lsecho_all 3 b mb 10 ls3 ex w h ls3_I ex_len; rw [ls_e6] at this; exact this)
  go_enter Try.func8, Try.ntmps8
  go_wp2_with (first
    | (go_at_call 15; have hx9 := HD9.out.far; clear hx9; refine (lnew_bad 0 0 2 _ waits00 (by decide)).mono ?_; rintro e w1 ⟨rfl, rfl⟩)
    | (go_at_call 15; refine (lnew_ok 10 0 _ waits10).mono ?_; rw [wait10]; rintro e w1 ⟨b, mb, rfl, hb, hmb, ht, hbl⟩; have HC0 : Hid (Ln w b mb ls0 w1) := Lib.hid ⟨ht, hbl, hb, hmb⟩; clear hb hmb ht hbl)
    | (go_at_call 13; refine (llives _).mono ?_; rintro e w2 ⟨rfl, hb⟩; have HC1 := Lib.hid (HC0.out.kept hb); clear hb)
    | (go_at_call 16; refine (ln_add3 w b mb _ HDA.out).mono ?_; rintro e w20 ⟨rfl, hc⟩; have HDB := Lib.hid hc; clear hc)
    | (go_at_call 16; refine (ln_add0 w b mb _ HC1.out).mono ?_; rintro e w3 ⟨rfl, hc⟩; have HC2 := Lib.hid hc; clear hc)
    | (go_at_call 19; refine (ln_tick w b mb _ HC2.out).mono ?_; rintro e w4 ⟨rfl, hc⟩; have HC3 := Lib.hid hc; clear hc)
    | (go_at_call 36; go_loud (refine (ln_over w b mb _ HC3.out).mono ?_; rintro e w5 ⟨v5, rfl, ho, hc⟩; have HN0 : Hid (w5.ownsRow w4.heap.size 9 1 v5 1 (strV [em]) ∧ mb < w4.heap.size) := Lib.hid ⟨ho, HC3.out.t.mlt⟩; have HC4 := Lib.hid hc; clear ho hc))
    | (go_at_call 18; refine (ln_heard3 w b mb _ HD8.out 0 9 2 ls_h5).mono ?_; rintro e w10 ⟨rfl, hf, hc⟩; have HD9 := Lib.hid hc; have HN4 : Hid (w10.ownsRow w4.heap.size 9 1 v5 1 (strV [em])) := Lib.hid (own_fr HN3.out.1 hf (fun q hq hm => by have h1 := own_lo HN3.out.1 hq; have h2 := HN3.out.2; rw [List.mem_singleton.1 hm] at h1; omega)); clear hf hc)
    | (go_at_call 18; refine (ln_heard3 w b mb _ HD7.out 1 4 11 ls_h4).mono ?_; rintro e w9 ⟨rfl, hf, hc⟩; have HD8 := Lib.hid hc; have HN3 : Hid (w9.ownsRow w4.heap.size 9 1 v5 1 (strV [em]) ∧ mb < w4.heap.size) := Lib.hid ⟨own_fr HN2.out.1 hf (fun q hq hm => by have h1 := own_lo HN2.out.1 hq; have h2 := HN2.out.2; rw [List.mem_singleton.1 hm] at h1; omega), HN2.out.2⟩; clear hf hc)
    | (go_at_call 18; refine (ln_heard2 w b mb _ HC4.out).mono ?_; rintro e w6 ⟨rfl, -, hf, hc⟩; have HC5 := Lib.hid hc; have HN1 : Hid (w6.ownsRow w4.heap.size 9 1 v5 1 (strV [em]) ∧ mb < w4.heap.size) := Lib.hid ⟨own_fr HN0.out.1 hf (fun q hq hm => by have h1 := own_lo HN0.out.1 hq; have h2 := HN0.out.2; rw [List.mem_singleton.1 hm] at h1; omega), HN0.out.2⟩; clear hf hc)
    | (go_at_call 37; refine (HE2.out _ b mb HD9.out.t).mono ?_; rintro e w11 ⟨rfl, hb⟩; have hD0 := HD9.out.kept hb; have hN5 := own_keep HN4.out hb; have HB := Lib.hid (below_alloc w11 (.cells #[.string em] 9)); have HDA0 := Lib.hid (hD0.kept HB.out); have HN6 := Lib.hid (own_keep hN5 HB.out); clear hb hD0 hN5)
    | (go_at_call 37; refine (HE1.out _ b mb HC5.out.t).mono ?_; rintro e w7 ⟨rfl, hb⟩; have HC6 := Lib.hid (HC5.out.kept hb); have HN15 := Lib.hid (And.intro (own_keep HN1.out.1 hb) HN1.out.2); clear hb)
    | (go_at_call 20; refine (HSE.out _ b mb HC6.out.t).mono ?_; rintro e w8 ⟨rfl, hb⟩; have HD7 := Lib.hid (HC6.out.kept hb); have HN2 := Lib.hid (And.intro (own_keep HN15.out.1 hb) HN15.out.2); clear hb)
    | (go_at_call 33; refine (same_strV [em] (b2 := w11.heap.size) (n2 := 1) HN6.out ⟨rfl, .inr ⟨w11.heap.size, 1, #[.string em], rfl, Nat.le_refl _, heap_alloc_new w11 _, Nat.le_refl _, by decide, rfl, rfl⟩⟩).mono ?_; rintro e w12 ⟨rfl, hb⟩; have HDA := Lib.hid (HDA0.out.kept hb); clear hb)
    | (go_at_call 38; refine (lsnow_all b mb 10 ls3 _ HDB.out.t (by decide)).mono ?_; rintro e w21 ⟨rfl, rfl⟩)
    | (go_at_call 39; refine (lslease_all b mb 10 ls3 _ HDB.out.t (by decide)).mono ?_; rintro e w22 ⟨rfl, rfl⟩))
  go_ret
  exact ⟨rfl, HDB.out.bel⟩
end Go.Proofs.Ytmgcigohfccgeaa
