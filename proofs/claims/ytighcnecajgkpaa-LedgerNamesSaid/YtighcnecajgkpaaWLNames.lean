/- The walk of LedgerNames (written by genlnames.py). -/
import Derived.Test.YtighcnecajgkpaaLedLives
namespace Go.Proofs.Ytighcnecajgkpaa
open Go.RowKit

abbrev Lc : List Ent := [⟨⟨#[97]⟩, ⟨#[]⟩, ⟨6, 0, 0, 0⟩⟩, ⟨⟨#[98]⟩, ⟨#[]⟩, ⟨4, 10, 0, 0⟩⟩, ⟨⟨#[99]⟩, ⟨#[97]⟩, ⟨4, 0, 0, 0⟩⟩]
abbrev L2 : List Ent := [⟨⟨#[97]⟩, ⟨#[]⟩, ⟨4, 0, 0, 0⟩⟩, ⟨⟨#[98]⟩, ⟨#[]⟩, ⟨4, 10, 0, 0⟩⟩, ⟨⟨#[99]⟩, ⟨#[97]⟩, ⟨4, 0, 0, 0⟩⟩]
abbrev L3 : List Ent := [⟨⟨#[97]⟩, ⟨#[]⟩, ⟨4, 0, 0, 0⟩⟩, ⟨⟨#[98]⟩, ⟨#[]⟩, ⟨4, 10, 0, 0⟩⟩]
abbrev L4 : List Ent := [⟨⟨#[98]⟩, ⟨#[]⟩, ⟨4, 10, 0, 0⟩⟩]
theorem Inv.gave {cap : Am} {L L' : List Ent} (h : Inv cap L) {s : ByteArray} {r : Int} (e : giveP L s = (r, L')) : Inv cap L' := by have := h.give s; rw [e] at this; exact this
theorem Inv.sized {cap : Am} {L L' : List Ent} (h : Inv cap L) {s : ByteArray} {a : Am} {r : Int} (e : resizeP cap L s a = (r, L')) : Inv cap L' := by have := h.resize s a; rw [e] at this; exact this
theorem gave_all (b mb : Nat) (cap : Am) (L L' : List Ent) (s : ByteArray) (r : Int) (hI : Inv cap L) (hs : s.size ≤ maxLen) (hln : L.length ≤ 100000) (e : giveP L s = (r, L')) (w : World) (h : Led w b mb cap L) :
    Calls Try.prog 11 #[ptr b, .string s] w fun e w' => e = .returned (.int .i64 r) ∧ Led w' b mb cap L' ∧ Fr [mb] w w' := by
  have := give_all b mb cap L s w h hI hs hln
  rw [e] at this
  exact this
theorem sized_all (b mb : Nat) (cap : Am) (L L' : List Ent) (s : ByteArray) (a : Am) (r : Int) (hI : Inv cap L) (hs : s.size ≤ maxLen) (hln : L.length < maxLen) (e : resizeP cap L s a = (r, L')) (w : World) (h : Led w b mb cap L) :
    Calls Try.prog 12 #[ptr b, .string s, amV a] w fun e w' => e = .returned (.int .i64 r) ∧ Led w' b mb cap L' ∧ Fr [mb] w w' := by
  have := resize_all b mb cap L s a w h hI hs hln
  rw [e] at this
  exact this
theorem ln_0 : takeP cap10 [] ⟨#[97]⟩ ⟨#[]⟩ ⟨6, 0, 0, 0⟩ = (0, La) := by kernel_rfl
theorem ln_1 : takeP cap10 La ⟨#[98]⟩ ⟨#[]⟩ ⟨4, 10, 0, 0⟩ = (0, Lab) := by kernel_rfl
theorem ln_2 : takeP cap10 Lab ⟨#[99]⟩ ⟨#[97]⟩ ⟨4, 0, 0, 0⟩ = (0, Lc) := by kernel_rfl
theorem ln_3 : takeP cap10 Lc ⟨#[100]⟩ ⟨#[97]⟩ ⟨3, 0, 0, 0⟩ = (14, Lc) := by kernel_rfl
theorem ln_4 : subR ⟨6, 0, 0, 0⟩ (sumA (inB ⟨#[97]⟩ ⟨#[]⟩) Lc) = (⟨2, 0, 0, 0⟩, 0) := by kernel_rfl
theorem ln_5 : takeP cap10 Lc ⟨#[101]⟩ ⟨#[99]⟩ ⟨0, 0, 0, 0⟩ = (13, Lc) := by kernel_rfl
theorem ln_6 : giveP Lc ⟨#[97]⟩ = (13, Lc) := by kernel_rfl
theorem ln_7 : resizeP cap10 Lc ⟨#[97]⟩ ⟨3, 0, 0, 0⟩ = (13, Lc) := by kernel_rfl
theorem ln_8 : resizeP cap10 Lc ⟨#[97]⟩ ⟨4, 0, 0, 0⟩ = (0, L2) := by kernel_rfl
theorem ln_9 : subR cap10 (sumA (inB ⟨#[]⟩ ⟨#[]⟩) L2) = (⟨2, 0, 0, 0⟩, 0) := by kernel_rfl
theorem ln_10 : giveP L2 ⟨#[99]⟩ = (0, L3) := by kernel_rfl
theorem ln_11 : giveP L3 ⟨#[97]⟩ = (0, L4) := by kernel_rfl
theorem ln_12 : giveP L4 ⟨#[97]⟩ = (6, L4) := by kernel_rfl
theorem ln_13 : takeP cap10 L4 ⟨#[98]⟩ ⟨#[]⟩ ⟨0, 0, 0, 0⟩ = (7, L4) := by kernel_rfl
theorem ln_fnd : fnd Lc (⟨#[97]⟩ : ByteArray).data.toList = some ⟨⟨#[97]⟩, ⟨#[]⟩, ⟨6, 0, 0, 0⟩⟩ := by kernel_rfl
theorem inv_c : Inv cap10 Lc := inv_ab.took ln_2
theorem inv_2 : Inv cap10 L2 := inv_c.sized ln_8
theorem inv_3 : Inv cap10 L3 := inv_2.gave ln_10
theorem inv_4 : Inv cap10 L4 := inv_3.gave ln_11

set_option maxRecDepth 100000 in
set_option maxHeartbeats 2000000 in
theorem ledgerNames_walk (w : World) :
    Calls Try.prog 3 #[] w fun e w' => e = .returned (.bool true) ∧ Below w.heap.size w w' := by
  have T0 := Lib.hid fun b mb => took_all b mb cap10 _ _ _ _ _ _ inv_0 (by decide) (by decide) ln_0
  have T1 := Lib.hid fun b mb => took_all b mb cap10 _ _ _ _ _ _ inv_a (by decide) (by decide) ln_1
  have T2 := Lib.hid fun b mb => took_all b mb cap10 _ _ _ _ _ _ inv_ab (by decide) (by decide) ln_2
  have T3 := Lib.hid fun b mb => took_all b mb cap10 _ _ _ _ _ _ inv_c (by decide) (by decide) ln_3
  have T4 := Lib.hid fun b mb w h => left_yes b mb cap10 Lc ⟨#[97]⟩ ⟨⟨#[97]⟩, ⟨#[]⟩, ⟨6, 0, 0, 0⟩⟩ w h (by decide) (size_list (by decide)) ln_fnd inv_c.rise.apart inv_c.oks (inv_c.fit2 _ _) _ _ ln_4
  have T5 := Lib.hid fun b mb => took_all b mb cap10 _ _ _ _ _ _ inv_c (by decide) (by decide) ln_5
  have T6 := Lib.hid fun b mb => gave_all b mb cap10 _ _ _ _ inv_c (by decide) (by decide) ln_6
  have T7 := Lib.hid fun b mb => sized_all b mb cap10 _ _ _ _ _ inv_c (by decide) (by decide) ln_7
  have T8 := Lib.hid fun b mb => sized_all b mb cap10 _ _ _ _ _ inv_c (by decide) (by decide) ln_8
  have T9 := Lib.hid fun b mb w h => free_made b mb cap10 L2 w h inv_2.rise.apart inv_2.oks (inv_2.fit2 _ _) _ _ ln_9
  have T10 := Lib.hid fun b mb => gave_all b mb cap10 _ _ _ _ inv_2 (by decide) (by decide) ln_10
  have T11 := Lib.hid fun b mb => gave_all b mb cap10 _ _ _ _ inv_3 (by decide) (by decide) ln_11
  have T12 := Lib.hid fun b mb => gave_all b mb cap10 _ _ _ _ inv_4 (by decide) (by decide) ln_12
  have T13 := Lib.hid fun b mb => took_all b mb cap10 _ _ _ _ _ _ inv_4 (by decide) (by decide) ln_13
  have HL := Lib.hid (llives w)
  go_enter Try.func3, Try.ntmps3
  go_upto_region 3 with (go_at_call 7; refine HL.out.mono ?_; rintro e w0 ⟨rfl, hb⟩; have HB0 := Lib.hid hb; clear hb)
  go_upto_region 4 with (go_at_call 8; refine (lnew_ok cap10 _ rfl).mono ?_; rintro e v0 ⟨b, mb, rfl, -, hm0, hl, hb⟩; have H0 := Lib.hid hl; have B0 := Lib.hid (below_and HB0.out hb); have HM : Hid (w.heap.size ≤ mb) := Lib.hid (Nat.le_trans HB0.out.size hm0); clear hb hl hm0)
  go_wp2_with fail
  refine (T0.out b mb _ (by first | exact H0.out | exact H0.out.kept (below_alloc _ _))).mono ?_
  rintro e v1 ⟨rfl, hl, hf⟩
  have H1 := Lib.hid hl
  have B1 : Hid (Below w.heap.size w v1) := Lib.hid (fr_bel (by first | exact B0.out | exact below_and B0.out (below_alloc _ _)) HM.out hf)
  clear hl hf
  go_wp2_with fail
  refine (T1.out b mb _ (by first | exact H1.out | exact H1.out.kept (below_alloc _ _))).mono ?_
  rintro e v2 ⟨rfl, hl, hf⟩
  have H2 := Lib.hid hl
  have B2 : Hid (Below w.heap.size w v2) := Lib.hid (fr_bel (by first | exact B1.out | exact below_and B1.out (below_alloc _ _)) HM.out hf)
  clear hl hf
  go_wp2_with fail
  refine (T2.out b mb _ (by first | exact H2.out | exact H2.out.kept (below_alloc _ _))).mono ?_
  rintro e v3 ⟨rfl, hl, hf⟩
  have H3 := Lib.hid hl
  have B3 : Hid (Below w.heap.size w v3) := Lib.hid (fr_bel (by first | exact B2.out | exact below_and B2.out (below_alloc _ _)) HM.out hf)
  clear hl hf
  go_wp2_with fail
  refine (T3.out b mb _ (by first | exact H3.out | exact H3.out.kept (below_alloc _ _))).mono ?_
  rintro e v4 ⟨rfl, hl, hf⟩
  have H4 := Lib.hid hl
  have B4 : Hid (Below w.heap.size w v4) := Lib.hid (fr_bel (by first | exact B3.out | exact below_and B3.out (below_alloc _ _)) HM.out hf)
  clear hl hf
  go_wp2_with fail
  refine (T4.out b mb _ (by first | exact H4.out | exact H4.out.kept (below_alloc _ _))).mono ?_
  rintro e v5 ⟨rfl, hb⟩
  have H5 : Hid (Led v5 b mb cap10 Lc) := Lib.hid ((show Led _ b mb cap10 Lc by first | exact H4.out | exact H4.out.kept (below_alloc _ _)).kept hb)
  have B5 : Hid (Below w.heap.size w v5) := Lib.hid (below_and (by first | exact B4.out | exact below_and B4.out (below_alloc _ _)) hb)
  clear hb
  go_wp2_with fail
  refine (T5.out b mb _ (by first | exact H5.out | exact H5.out.kept (below_alloc _ _))).mono ?_
  rintro e v6 ⟨rfl, hl, hf⟩
  have H6 := Lib.hid hl
  have B6 : Hid (Below w.heap.size w v6) := Lib.hid (fr_bel (by first | exact B5.out | exact below_and B5.out (below_alloc _ _)) HM.out hf)
  clear hl hf
  go_wp2_with fail
  refine (T6.out b mb _ (by first | exact H6.out | exact H6.out.kept (below_alloc _ _))).mono ?_
  rintro e v7 ⟨rfl, hl, hf⟩
  have H7 := Lib.hid hl
  have B7 : Hid (Below w.heap.size w v7) := Lib.hid (fr_bel (by first | exact B6.out | exact below_and B6.out (below_alloc _ _)) HM.out hf)
  clear hl hf
  go_wp2_with fail
  refine (T7.out b mb _ (by first | exact H7.out | exact H7.out.kept (below_alloc _ _))).mono ?_
  rintro e v8 ⟨rfl, hl, hf⟩
  have H8 := Lib.hid hl
  have B8 : Hid (Below w.heap.size w v8) := Lib.hid (fr_bel (by first | exact B7.out | exact below_and B7.out (below_alloc _ _)) HM.out hf)
  clear hl hf
  go_wp2_with fail
  refine (T8.out b mb _ (by first | exact H8.out | exact H8.out.kept (below_alloc _ _))).mono ?_
  rintro e v9 ⟨rfl, hl, hf⟩
  have H9 := Lib.hid hl
  have B9 : Hid (Below w.heap.size w v9) := Lib.hid (fr_bel (by first | exact B8.out | exact below_and B8.out (below_alloc _ _)) HM.out hf)
  clear hl hf
  go_wp2_with fail
  refine (T9.out b mb _ (by first | exact H9.out | exact H9.out.kept (below_alloc _ _))).mono ?_
  rintro e v10 ⟨rfl, hb⟩
  have H10 : Hid (Led v10 b mb cap10 L2) := Lib.hid ((show Led _ b mb cap10 L2 by first | exact H9.out | exact H9.out.kept (below_alloc _ _)).kept hb)
  have B10 : Hid (Below w.heap.size w v10) := Lib.hid (below_and (by first | exact B9.out | exact below_and B9.out (below_alloc _ _)) hb)
  clear hb
  go_wp2_with fail
  refine (T10.out b mb _ (by first | exact H10.out | exact H10.out.kept (below_alloc _ _))).mono ?_
  rintro e v11 ⟨rfl, hl, hf⟩
  have H11 := Lib.hid hl
  have B11 : Hid (Below w.heap.size w v11) := Lib.hid (fr_bel (by first | exact B10.out | exact below_and B10.out (below_alloc _ _)) HM.out hf)
  clear hl hf
  go_wp2_with fail
  refine (T11.out b mb _ (by first | exact H11.out | exact H11.out.kept (below_alloc _ _))).mono ?_
  rintro e v12 ⟨rfl, hl, hf⟩
  have H12 := Lib.hid hl
  have B12 : Hid (Below w.heap.size w v12) := Lib.hid (fr_bel (by first | exact B11.out | exact below_and B11.out (below_alloc _ _)) HM.out hf)
  clear hl hf
  go_wp2_with fail
  refine (T12.out b mb _ (by first | exact H12.out | exact H12.out.kept (below_alloc _ _))).mono ?_
  rintro e v13 ⟨rfl, hl, hf⟩
  have H13 := Lib.hid hl
  have B13 : Hid (Below w.heap.size w v13) := Lib.hid (fr_bel (by first | exact B12.out | exact below_and B12.out (below_alloc _ _)) HM.out hf)
  clear hl hf
  go_wp2_with fail
  refine (T13.out b mb _ (by first | exact H13.out | exact H13.out.kept (below_alloc _ _))).mono ?_
  rintro e v14 ⟨rfl, hl, hf⟩
  have H14 := Lib.hid hl
  have B14 : Hid (Below w.heap.size w v14) := Lib.hid (fr_bel (by first | exact B13.out | exact below_and B13.out (below_alloc _ _)) HM.out hf)
  clear hl hf
  go_wp2_with fail
  go_ret
  exact ⟨rfl, B14.out⟩
end Go.Proofs.Ytighcnecajgkpaa
