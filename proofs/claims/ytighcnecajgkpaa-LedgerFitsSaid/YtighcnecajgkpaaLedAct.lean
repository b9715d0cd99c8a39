/- The law's step on a ledger that was made. -/
import Derived.Test.YtighcnecajgkpaaLedKeep
import Derived.Test.YtighcnecajgkpaaLedNil
namespace Go.Proofs.Ytighcnecajgkpaa
open Go.RowKit

def getP (L : List Ent) (s : ByteArray) : Int × List Ent := if (fnd L s.data.toList).isSome then (0, L) else (6, L)
def stepP (cap : Am) (L : List Ent) (k : Int) (s t : ByteArray) (a : Am) : Int × List Ent :=
  if k % 4 = 0 then takeP cap L s t a else if k % 4 = 1 then giveP L s else if k % 4 = 2 then resizeP cap L s a else getP L s
theorem Inv.step {cap : Am} {L : List Ent} (h : Inv cap L) (k : Int) (s t : ByteArray) (a : Am) : Inv cap (stepP cap L k s t a).2 := by
  unfold stepP
  split
  · exact h.take s t a
  · split
    · exact h.give s
    · split
      · exact h.resize s a
      · unfold getP; split <;> exact h
theorem step_len (cap : Am) (L : List Ent) (k : Int) (s t : ByteArray) (a : Am) : (stepP cap L k s t a).2.length ≤ L.length + 1 := by
  unfold stepP
  split
  · exact take_len2 cap L s t a
  · split
    · exact give_len2 L s
    · split
      · exact resize_len2 cap L s a
      · unfold getP; split <;> (show L.length ≤ _; omega)
theorem step_err (cap : Am) (L : List Ent) (k : Int) (s t : ByteArray) (a : Am) (h : (stepP cap L k s t a).1 ≠ 0) : (stepP cap L k s t a).2 = L := by
  unfold stepP at *
  split
  · next h0 => rw [if_pos h0] at h; exact take_err cap L s t a h
  · next h0 =>
    rw [if_neg h0] at h
    split
    · next h1 => rw [if_pos h1] at h; exact give_err L s h
    · next h1 =>
      rw [if_neg h1] at h
      split
      · next h2 => rw [if_pos h2] at h; exact resize_err cap L s a h
      · unfold getP; split <;> rfl

theorem lget_all (b mb : Nat) (cap : Am) (L : List Ent) (s : ByteArray) (w : World) (h : Led w b mb cap L) (hs : s.size ≤ maxLen) :
    Calls Try.prog 22 #[ptr b, .string s] w fun e w' => e = .returned (.tuple #[entV ((fnd L s.data.toList).getD zE), .int .i64 (getP L s).1]) ∧ Below w.heap.size w w' := by
  cases hx : fnd L s.data.toList with
  | none =>
    have hg : (getP L s).1 = 6 := by unfold getP; rw [hx]; rfl
    rw [hg]
    exact lget_no b mb cap L s w h hs hx
  | some x =>
    have hg : (getP L s).1 = 0 := by unfold getP; rw [hx]; rfl
    rw [hg]
    exact lget_yes b mb cap L s x w h hs hx

set_option maxRecDepth 100000 in
set_option maxHeartbeats 2000000 in
theorem step_all (b mb : Nat) (cap : Am) (L : List Ent) (k : Int) (s t : ByteArray) (a : Am) (w : World) (h : Led w b mb cap L) (hI : Inv cap L) (hs : s.size ≤ maxLen) (ht : t.size ≤ maxLen) (hl : L.length ≤ 100000) :
    Calls Try.prog 16 #[ptr b, .agg #[.int .i64 k, .string s, .string t, .int .i64 a.c, .int .i64 a.r, .int .i64 a.d, .int .i64 a.p]] w fun e w' => e = .returned (.int .i64 (stepP cap L k s t a).1) ∧ Led w' b mb cap (stepP cap L k s t a).2 ∧ Fr [mb] w w' := by
  obtain ⟨w3, hw3⟩ : ∃ w3, w3 = w.alloc (.cells #[.int .i64 k, .string s, .string t, .int .i64 a.c, .int .i64 a.r, .int .i64 a.d, .int .i64 a.p] 40) := ⟨_, rfl⟩
  obtain ⟨B, hB⟩ : ∃ B, B = w.heap.size := ⟨_, rfl⟩
  have S0 : Hid (Blk w3 B (actC k s t a) 40) := Lib.hid (by rw [hw3, hB]; exact Blk.made w (actC k s t a) _)
  have HBL : Hid (Below w.heap.size w w3) := Lib.hid (by rw [hw3]; exact below_alloc w _)
  have h3 := h.kept HBL.out
  have hml : L.length < maxLen := by unfold maxLen; omega
  have c0 := S0.out.cell (j := 0) rfl
  have c1 := S0.out.cell (j := 1) rfl
  have c2 := S0.out.cell (j := 2) rfl
  have c3 := S0.out.cell (j := 3) rfl
  have c4 := S0.out.cell (j := 4) rfl
  have c5 := S0.out.cell (j := 5) rfl
  have c6 := S0.out.cell (j := 6) rfl
  have hq0 := Int.emod_nonneg k (show (4 : Int) ≠ 0 by omega)
  have hq4 := Int.emod_lt_of_pos k (show (0 : Int) < 4 by omega)
  obtain ⟨r, hr⟩ : ∃ r, r = stepP cap L k s t a := ⟨_, rfl⟩
  have T0 : Hid (k % 4 = 0 → Calls Try.prog 9 #[ptr b, .string s, .string t, amV a] w3 fun e w' => e = .returned (.int .i64 r.1) ∧ Led w' b mb cap r.2 ∧ Fr [mb] w3 w') := Lib.hid (fun hk => by
    rw [hr]; unfold stepP; rw [if_pos hk]; exact take_all b mb cap L s t a w3 h3 hI ht hml)
  have T1 : Hid (k % 4 = 1 → Calls Try.prog 11 #[ptr b, .string s] w3 fun e w' => e = .returned (.int .i64 r.1) ∧ Led w' b mb cap r.2 ∧ Fr [mb] w3 w') := Lib.hid (fun hk => by
    rw [hr]; unfold stepP; rw [if_neg (by omega), if_pos hk]; exact give_all b mb cap L s w3 h3 hI hs hl)
  have T2 : Hid (k % 4 = 2 → Calls Try.prog 12 #[ptr b, .string s, amV a] w3 fun e w' => e = .returned (.int .i64 r.1) ∧ Led w' b mb cap r.2 ∧ Fr [mb] w3 w') := Lib.hid (fun hk => by
    rw [hr]; unfold stepP; rw [if_neg (by omega), if_neg (by omega), if_pos hk]; exact resize_all b mb cap L s a w3 h3 hI hs hml)
  have T3 : Hid (k % 4 = 3 → ∃ x : Ent, Calls Try.prog 22 #[ptr b, .string s] w3 fun e w' => e = .returned (.tuple #[entV x, .int .i64 r.1]) ∧ Led w' b mb cap r.2 ∧ Below w3.heap.size w3 w') := Lib.hid (fun hk => by
    have hr2 : stepP cap L k s t a = getP L s := by unfold stepP; rw [if_neg (by omega), if_neg (by omega), if_neg (by omega)]
    have hr3 : (getP L s).2 = L := by unfold getP; split <;> rfl
    rw [hr, hr2, hr3]
    exact ⟨_, (lget_all b mb cap L s w3 h3 hs).mono fun e w' ⟨h1, h2⟩ => ⟨h1, h3.kept h2, h2⟩⟩)
  have HPK := Lib.hid (pickn_any k 4 w3 (by omega) (by omega))
  rw [← hr]
  generalize k % 4 = q at hq0 hq4 HPK T0 T1 T2 T3
  clear h h3 hI hs ht hl hml hr
  obtain rfl | rfl | rfl | rfl : q = 0 ∨ q = 1 ∨ q = 2 ∨ q = 3 := by omega
  · have TT := Lib.hid (T0.out rfl)
    clear T0 T1 T2 T3
    go_enter Try.func16, Try.ntmps16
    go_upto_region 1 with fail
    rw [← hw3, ← hB]
    clear hw3 hB
    go_wp2_with (first
      | (go_at_call 37; refine HPK.out.mono ?_; rintro e w4 ⟨rfl, rfl⟩)
      | (go_at_call 9; refine TT.out.mono ?_; rintro e w4 ⟨rfl, hl, hf⟩; have H4 := Lib.hid hl; have F4 := Lib.hid hf; clear hl hf))
    go_ret
    exact ⟨rfl, H4.out, (Fr.of_below HBL.out [mb]).then F4.out⟩
  · have TT := Lib.hid (T1.out rfl)
    clear T0 T1 T2 T3
    go_enter Try.func16, Try.ntmps16
    go_upto_region 1 with fail
    rw [← hw3, ← hB]
    clear hw3 hB
    go_wp2_with (first
      | (go_at_call 37; refine HPK.out.mono ?_; rintro e w4 ⟨rfl, rfl⟩)
      | (go_at_call 11; refine TT.out.mono ?_; rintro e w4 ⟨rfl, hl, hf⟩; have H4 := Lib.hid hl; have F4 := Lib.hid hf; clear hl hf))
    go_ret
    exact ⟨rfl, H4.out, (Fr.of_below HBL.out [mb]).then F4.out⟩
  · have TT := Lib.hid (T2.out rfl)
    clear T0 T1 T2 T3
    go_enter Try.func16, Try.ntmps16
    go_upto_region 1 with fail
    rw [← hw3, ← hB]
    clear hw3 hB
    go_wp2_with (first
      | (go_at_call 37; refine HPK.out.mono ?_; rintro e w4 ⟨rfl, rfl⟩)
      | (go_at_call 12; refine TT.out.mono ?_; rintro e w4 ⟨rfl, hl, hf⟩; have H4 := Lib.hid hl; have F4 := Lib.hid hf; clear hl hf))
    go_ret
    exact ⟨rfl, H4.out, (Fr.of_below HBL.out [mb]).then F4.out⟩
  · obtain ⟨x, hT⟩ := T3.out rfl
    have TT := Lib.hid hT
    clear T0 T1 T2 T3 hT
    go_enter Try.func16, Try.ntmps16
    go_upto_region 1 with fail
    rw [← hw3, ← hB]
    clear hw3 hB
    go_wp2_with (first
      | (go_at_call 37; refine HPK.out.mono ?_; rintro e w4 ⟨rfl, rfl⟩)
      | (go_at_call 22; refine TT.out.mono ?_; rintro e w4 ⟨rfl, hl, hb⟩; have H4 := Lib.hid hl; have HB4 := Lib.hid (below_and HBL.out hb); clear hl hb))
    go_ret
    exact ⟨rfl, H4.out.kept (below_alloc _ _), Fr.of_below (below_and HB4.out (below_alloc _ _)) [mb]⟩
end Go.Proofs.Ytighcnecajgkpaa
