/- The ledger's Resize. -/
import Derived.Test.YtighcnecajgkpaaLedTake
namespace Go.Proofs.Ytighcnecajgkpaa
open Go.RowKit

set_option maxRecDepth 100000 in
set_option maxHeartbeats 2000000 in
theorem resize_none (b mb : Nat) (cap : Am) (L : List Ent) (s : ByteArray) (a : Am) (w : World) (h : Led w b mb cap L) (hs : s.size ≤ maxLen) (hx : fnd L s.data.toList = none) :
    Calls Try.prog 12 #[ptr b, .string s, amV a] w fun e w' => e = .returned (.int .i64 6) ∧ Below w.heap.size w w' := by
  obtain ⟨w3, hw3⟩ : ∃ w3, w3 = (w.alloc (.cells #[.string s] 9)).alloc (.cells #[.int .i64 a.c, .int .i64 a.r, .int .i64 a.d, .int .i64 a.p] 28) := ⟨_, rfl⟩
  obtain ⟨B, hB⟩ : ∃ B, B = w.heap.size := ⟨_, rfl⟩
  have N0 : Hid (Blk w3 B [.string s] 9) := Lib.hid (by rw [hw3, hB]; exact (Blk.made w [.string s] 9).alloc _)
  have S0 : Hid (Blk w3 (B + 1) (amC a) 28) := Lib.hid (by
    have := Blk.made (w.alloc (.cells #[.string s] 9)) (amC a) 28
    rw [hw3, hB]; simpa using this)
  have HBL : Hid (Below w.heap.size w w3) := Lib.hid (by rw [hw3]; exact below_and (below_alloc w _) (below_alloc _ _))
  have H3 : Hid (Led w3 b mb cap L) := Lib.hid (h.kept HBL.out)
  have s0 := N0.out.cell (j := 0) rfl
  have HS := Lib.hid hs
  have HX := Lib.hid hx
  clear h hs hx
  go_enter Try.func12, Try.ntmps12
  go_upto_region 1 with fail
  rw [← hw3, ← hB]
  clear hw3 hB
  go_wp2_with (go_at_call 22; refine (lget_no b mb cap L s _ H3.out HS.out HX.out).mono ?_; rintro e w4 ⟨rfl, hb⟩; have HB4 := Lib.hid (below_and HBL.out hb); clear hb)
  go_ret
  exact ⟨rfl, below_and HB4.out (below_alloc _ _)⟩

set_option maxRecDepth 100000 in
set_option maxHeartbeats 2000000 in
theorem resize_bad (b mb : Nat) (cap : Am) (L : List Ent) (s : ByteArray) (a : Am) (x : Ent) (w : World) (h : Led w b mb cap L) (hs : s.size ≤ maxLen) (hx : fnd L s.data.toList = some x) (ha : a.okB = false) :
    Calls Try.prog 12 #[ptr b, .string s, amV a] w fun e w' => e = .returned (.int .i64 2) ∧ Below w.heap.size w w' := by
  obtain ⟨w3, hw3⟩ : ∃ w3, w3 = (w.alloc (.cells #[.string s] 9)).alloc (.cells #[.int .i64 a.c, .int .i64 a.r, .int .i64 a.d, .int .i64 a.p] 28) := ⟨_, rfl⟩
  obtain ⟨B, hB⟩ : ∃ B, B = w.heap.size := ⟨_, rfl⟩
  have N0 : Hid (Blk w3 B [.string s] 9) := Lib.hid (by rw [hw3, hB]; exact (Blk.made w [.string s] 9).alloc _)
  have S0 : Hid (Blk w3 (B + 1) (amC a) 28) := Lib.hid (by
    have := Blk.made (w.alloc (.cells #[.string s] 9)) (amC a) 28
    rw [hw3, hB]; simpa using this)
  have HBL : Hid (Below w.heap.size w w3) := Lib.hid (by rw [hw3]; exact below_and (below_alloc w _) (below_alloc _ _))
  have H3 : Hid (Led w3 b mb cap L) := Lib.hid (h.kept HBL.out)
  have s0 := N0.out.cell (j := 0) rfl
  have HS := Lib.hid hs
  have HX := Lib.hid hx
  have HCK := Lib.hid (Am.chk_no ha)
  clear h hs hx ha
  go_enter Try.func12, Try.ntmps12
  go_upto_region 1 with fail
  rw [← hw3, ← hB]
  clear hw3 hB
  go_upto_region 4 with (go_at_call 22; refine (lget_yes b mb cap L s x _ H3.out HS.out HX.out).mono ?_; rintro e w4 ⟨rfl, hb⟩; have H4 := Lib.hid (H3.out.kept hb); have N4 := Lib.hid (N0.out.kept hb); have S4 := Lib.hid (S0.out.kept hb); have HB4 := Lib.hid (below_and HBL.out hb); clear hb)
  obtain ⟨w5, hw5⟩ : ∃ w5, w5 = w4.alloc (.cells #[.string x.n, .string x.i, .int .i64 x.a.c, .int .i64 x.a.r, .int .i64 x.a.d, .int .i64 x.a.p] 48) := ⟨_, rfl⟩
  obtain ⟨X, hX⟩ : ∃ X, X = w4.heap.size := ⟨_, rfl⟩
  have hb5 : Below w4.heap.size w4 w5 := by rw [hw5]; exact below_alloc _ _
  have E5 : Hid (Blk w5 X (entC x) 48) := Lib.hid (by rw [hw5, hX]; exact Blk.made w4 (entC x) _)
  have H5 := Lib.hid (H4.out.kept hb5)
  have N5 := Lib.hid (N4.out.kept hb5)
  have S5 := Lib.hid (S4.out.kept hb5)
  have HB5 := Lib.hid (below_and HB4.out hb5)
  have HXB : Hid (w.heap.size ≤ X) := Lib.hid (by rw [hX]; exact HB4.out.size)
  rw [← hw5, ← hX]
  clear hw5 hX hb5 s0
  have a0 := S5.out.cell (j := 0) rfl
  have a1 := S5.out.cell (j := 1) rfl
  have a2 := S5.out.cell (j := 2) rfl
  have a3 := S5.out.cell (j := 3) rfl
  go_wp2_with (go_at_call 28; refine (check_any a _).mono ?_; rw [HCK.out]; rintro e w6 ⟨rfl, hb⟩; have H6 := Lib.hid (H5.out.kept hb); have N6 := Lib.hid (N5.out.kept hb); have S6 := Lib.hid (S5.out.kept hb); have E6 := Lib.hid (E5.out.kept hb); have HB6 := Lib.hid (below_and HB5.out hb); clear hb a0 a1 a2 a3)
  go_ret
  exact ⟨rfl, HB6.out⟩

set_option maxRecDepth 100000 in
set_option maxHeartbeats 2000000 in
theorem resize_state (b mb : Nat) (cap : Am) (L : List Ent) (s : ByteArray) (a : Am) (x : Ent) (w : World) (h : Led w b mb cap L) (hs : s.size ≤ maxLen) (hx : fnd L s.data.toList = some x) (ha : a.okB = true) (hd : Apart L) (ho : Oks L) (hf : Fit (inR s) L) (hu : fitsB (sumA (inR s) L) a = false) :
    Calls Try.prog 12 #[ptr b, .string s, amV a] w fun e w' => e = .returned (.int .i64 13) ∧ Below w.heap.size w w' := by
  obtain ⟨w3, hw3⟩ : ∃ w3, w3 = (w.alloc (.cells #[.string s] 9)).alloc (.cells #[.int .i64 a.c, .int .i64 a.r, .int .i64 a.d, .int .i64 a.p] 28) := ⟨_, rfl⟩
  obtain ⟨B, hB⟩ : ∃ B, B = w.heap.size := ⟨_, rfl⟩
  have N0 : Hid (Blk w3 B [.string s] 9) := Lib.hid (by rw [hw3, hB]; exact (Blk.made w [.string s] 9).alloc _)
  have S0 : Hid (Blk w3 (B + 1) (amC a) 28) := Lib.hid (by
    have := Blk.made (w.alloc (.cells #[.string s] 9)) (amC a) 28
    rw [hw3, hB]; simpa using this)
  have HBL : Hid (Below w.heap.size w w3) := Lib.hid (by rw [hw3]; exact below_and (below_alloc w _) (below_alloc _ _))
  have H3 : Hid (Led w3 b mb cap L) := Lib.hid (h.kept HBL.out)
  have s0 := N0.out.cell (j := 0) rfl
  have HS := Lib.hid hs
  have HX := Lib.hid hx
  have HCK := Lib.hid (Am.chk_yes ha)
  have HD := Lib.hid hd
  have HO := Lib.hid ho
  have HF := Lib.hid hf
  have HFU : Hid (∀ w, Calls Try.prog 30 #[amV (sumA (inR s) L), amV a] w fun e w' => e = .returned (.bool false) ∧ Below w.heap.size w w') := Lib.hid (fun w => fits_val hu w)
  clear h hs hx ha hd ho hf hu
  go_enter Try.func12, Try.ntmps12
  go_upto_region 1 with fail
  rw [← hw3, ← hB]
  clear hw3 hB
  go_upto_region 4 with (go_at_call 22; refine (lget_yes b mb cap L s x _ H3.out HS.out HX.out).mono ?_; rintro e w4 ⟨rfl, hb⟩; have H4 := Lib.hid (H3.out.kept hb); have N4 := Lib.hid (N0.out.kept hb); have S4 := Lib.hid (S0.out.kept hb); have HB4 := Lib.hid (below_and HBL.out hb); clear hb)
  obtain ⟨w5, hw5⟩ : ∃ w5, w5 = w4.alloc (.cells #[.string x.n, .string x.i, .int .i64 x.a.c, .int .i64 x.a.r, .int .i64 x.a.d, .int .i64 x.a.p] 48) := ⟨_, rfl⟩
  obtain ⟨X, hX⟩ : ∃ X, X = w4.heap.size := ⟨_, rfl⟩
  have hb5 : Below w4.heap.size w4 w5 := by rw [hw5]; exact below_alloc _ _
  have E5 : Hid (Blk w5 X (entC x) 48) := Lib.hid (by rw [hw5, hX]; exact Blk.made w4 (entC x) _)
  have H5 := Lib.hid (H4.out.kept hb5)
  have N5 := Lib.hid (N4.out.kept hb5)
  have S5 := Lib.hid (S4.out.kept hb5)
  have HB5 := Lib.hid (below_and HB4.out hb5)
  have HXB : Hid (w.heap.size ≤ X) := Lib.hid (by rw [hX]; exact HB4.out.size)
  rw [← hw5, ← hX]
  clear hw5 hX hb5 s0
  have a0 := S5.out.cell (j := 0) rfl
  have a1 := S5.out.cell (j := 1) rfl
  have a2 := S5.out.cell (j := 2) rfl
  have a3 := S5.out.cell (j := 3) rfl
  have HSM : Hid (∀ w', Led w' b mb cap L → w'.cell? ⟨B, 0, none⟩ = some (.string s) → Calls Try.prog 32 #[ptr b, .func (Fn.func 33) #[] #[ptr B]] w' fun e w2 => e = .returned (amV (sumA (inR s) L)) ∧ Below w'.heap.size w' w2) := Lib.hid (fun w' h k => sum2_any b mb cap L s B w' h HD.out HO.out HF.out k)
  go_upto_region 6 with (go_at_call 28; refine (check_any a _).mono ?_; rw [HCK.out]; rintro e w6 ⟨rfl, hb⟩; have H6 := Lib.hid (H5.out.kept hb); have N6 := Lib.hid (N5.out.kept hb); have S6 := Lib.hid (S5.out.kept hb); have E6 := Lib.hid (E5.out.kept hb); have HB6 := Lib.hid (below_and HB5.out hb); clear hb a0 a1 a2 a3)
  have a0 := Past.blk S6.out (j := 0) rfl
  have a1 := Past.blk S6.out (j := 1) rfl
  have a2 := Past.blk S6.out (j := 2) rfl
  have a3 := Past.blk S6.out (j := 3) rfl
  have HN6 := Lib.hid (Past.blk N6.out (j := 0) rfl)
  refine wp_region_past (by kernel_rfl) (by kernel_rfl) ?_
  repeat (go_big_quiet_step (first
    | (go_at_call 32; exact past_call (HSM.out _ (H6.out.kept (Past.h _)) (HN6.out _)))
    | (go_at_call 30; exact past_call (HFU.out _))))
  refine wpQuiet_nil ?_
  intro _ hw'
  obtain ⟨s', hw''⟩ := hw'
  subst hw''
  obtain ⟨w7, h7, e7⟩ : ∃ w7, Below w6.heap.size w6 w7 ∧ w7 = s'.val := ⟨_, s'.h, rfl⟩
  rw [← e7]
  have H7 := Lib.hid (H6.out.kept h7)
  have N7 := Lib.hid (N6.out.kept h7)
  have S7 := Lib.hid (S6.out.kept h7)
  have E7 := Lib.hid (E6.out.kept h7)
  have HB7 := Lib.hid (below_and HB6.out h7)
  clear h7 e7 a0 a1 a2 a3 HN6
  go_wp2
  go_ret
  exact ⟨rfl, HB7.out⟩

set_option maxRecDepth 100000 in
set_option maxHeartbeats 2000000 in
theorem resize_nofit_top (b mb : Nat) (cap : Am) (L : List Ent) (s : ByteArray) (a : Am) (x : Ent) (w : World) (h : Led w b mb cap L) (hs : s.size ≤ maxLen) (hx : fnd L s.data.toList = some x) (ha : a.okB = true) (hd : Apart L) (ho : Oks L) (hf : Fit (inR s) L) (hu : fitsB (sumA (inR s) L) a = true) (hi : x.i.toList = []) (hf2 : Fit (inB x.i s) L) (z : Am) (er : Int) (hz : subR cap (sumA (inB x.i s) L) = (z, er)) (hfit : fitsB a z = false) :
    Calls Try.prog 12 #[ptr b, .string s, amV a] w fun e w' => e = .returned (.int .i64 14) ∧ Below w.heap.size w w' := by
  obtain ⟨w3, hw3⟩ : ∃ w3, w3 = (w.alloc (.cells #[.string s] 9)).alloc (.cells #[.int .i64 a.c, .int .i64 a.r, .int .i64 a.d, .int .i64 a.p] 28) := ⟨_, rfl⟩
  obtain ⟨B, hB⟩ : ∃ B, B = w.heap.size := ⟨_, rfl⟩
  have N0 : Hid (Blk w3 B [.string s] 9) := Lib.hid (by rw [hw3, hB]; exact (Blk.made w [.string s] 9).alloc _)
  have S0 : Hid (Blk w3 (B + 1) (amC a) 28) := Lib.hid (by
    have := Blk.made (w.alloc (.cells #[.string s] 9)) (amC a) 28
    rw [hw3, hB]; simpa using this)
  have HBL : Hid (Below w.heap.size w w3) := Lib.hid (by rw [hw3]; exact below_and (below_alloc w _) (below_alloc _ _))
  have H3 : Hid (Led w3 b mb cap L) := Lib.hid (h.kept HBL.out)
  have s0 := N0.out.cell (j := 0) rfl
  have HS := Lib.hid hs
  have HX := Lib.hid hx
  have HCK := Lib.hid (Am.chk_yes ha)
  have HD := Lib.hid hd
  have HO := Lib.hid ho
  have HF := Lib.hid hf
  have HFU : Hid (∀ w, Calls Try.prog 30 #[amV (sumA (inR s) L), amV a] w fun e w' => e = .returned (.bool true) ∧ Below w.heap.size w w') := Lib.hid (fun w => fits_val hu w)
  have HRM : Hid (∀ w, Led w b mb cap L → Calls Try.prog 31 #[ptr b, .string x.i, .string s] w fun e w' => e = .returned (amV z) ∧ Below w.heap.size w w') := Lib.hid (fun w h => room_top b mb cap L x.i s w h hd ho hf2 hi z er hz)
  have HFV : Hid (∀ w, Calls Try.prog 30 #[amV a, amV z] w fun e w' => e = .returned (.bool false) ∧ Below w.heap.size w w') := Lib.hid (fun w => fits_val hfit w)
  clear h hs hx ha hd ho hf hu hi hf2 hz hfit
  go_enter Try.func12, Try.ntmps12
  go_upto_region 1 with fail
  rw [← hw3, ← hB]
  clear hw3 hB
  go_upto_region 4 with (go_at_call 22; refine (lget_yes b mb cap L s x _ H3.out HS.out HX.out).mono ?_; rintro e w4 ⟨rfl, hb⟩; have H4 := Lib.hid (H3.out.kept hb); have N4 := Lib.hid (N0.out.kept hb); have S4 := Lib.hid (S0.out.kept hb); have HB4 := Lib.hid (below_and HBL.out hb); clear hb)
  obtain ⟨w5, hw5⟩ : ∃ w5, w5 = w4.alloc (.cells #[.string x.n, .string x.i, .int .i64 x.a.c, .int .i64 x.a.r, .int .i64 x.a.d, .int .i64 x.a.p] 48) := ⟨_, rfl⟩
  obtain ⟨X, hX⟩ : ∃ X, X = w4.heap.size := ⟨_, rfl⟩
  have hb5 : Below w4.heap.size w4 w5 := by rw [hw5]; exact below_alloc _ _
  have E5 : Hid (Blk w5 X (entC x) 48) := Lib.hid (by rw [hw5, hX]; exact Blk.made w4 (entC x) _)
  have H5 := Lib.hid (H4.out.kept hb5)
  have N5 := Lib.hid (N4.out.kept hb5)
  have S5 := Lib.hid (S4.out.kept hb5)
  have HB5 := Lib.hid (below_and HB4.out hb5)
  have HXB : Hid (w.heap.size ≤ X) := Lib.hid (by rw [hX]; exact HB4.out.size)
  rw [← hw5, ← hX]
  clear hw5 hX hb5 s0
  have a0 := S5.out.cell (j := 0) rfl
  have a1 := S5.out.cell (j := 1) rfl
  have a2 := S5.out.cell (j := 2) rfl
  have a3 := S5.out.cell (j := 3) rfl
  have HSM : Hid (∀ w', Led w' b mb cap L → w'.cell? ⟨B, 0, none⟩ = some (.string s) → Calls Try.prog 32 #[ptr b, .func (Fn.func 33) #[] #[ptr B]] w' fun e w2 => e = .returned (amV (sumA (inR s) L)) ∧ Below w'.heap.size w' w2) := Lib.hid (fun w' h k => sum2_any b mb cap L s B w' h HD.out HO.out HF.out k)
  go_upto_region 6 with (go_at_call 28; refine (check_any a _).mono ?_; rw [HCK.out]; rintro e w6 ⟨rfl, hb⟩; have H6 := Lib.hid (H5.out.kept hb); have N6 := Lib.hid (N5.out.kept hb); have S6 := Lib.hid (S5.out.kept hb); have E6 := Lib.hid (E5.out.kept hb); have HB6 := Lib.hid (below_and HB5.out hb); clear hb a0 a1 a2 a3)
  have a0 := Past.blk S6.out (j := 0) rfl
  have a1 := Past.blk S6.out (j := 1) rfl
  have a2 := Past.blk S6.out (j := 2) rfl
  have a3 := Past.blk S6.out (j := 3) rfl
  have HN6 := Lib.hid (Past.blk N6.out (j := 0) rfl)
  refine wp_region_past (by kernel_rfl) (by kernel_rfl) ?_
  repeat (go_big_quiet_step (first
    | (go_at_call 32; exact past_call (HSM.out _ (H6.out.kept (Past.h _)) (HN6.out _)))
    | (go_at_call 30; exact past_call (HFU.out _))))
  refine wpQuiet_nil ?_
  intro _ hw'
  obtain ⟨s', hw''⟩ := hw'
  subst hw''
  obtain ⟨w7, h7, e7⟩ : ∃ w7, Below w6.heap.size w6 w7 ∧ w7 = s'.val := ⟨_, s'.h, rfl⟩
  rw [← e7]
  have H7 := Lib.hid (H6.out.kept h7)
  have N7 := Lib.hid (N6.out.kept h7)
  have S7 := Lib.hid (S6.out.kept h7)
  have E7 := Lib.hid (E6.out.kept h7)
  have HB7 := Lib.hid (below_and HB6.out h7)
  clear h7 e7 a0 a1 a2 a3 HN6
  go_upto_region 8 with fail
  have a0 := Past.blk S7.out (j := 0) rfl
  have a1 := Past.blk S7.out (j := 1) rfl
  have a2 := Past.blk S7.out (j := 2) rfl
  have a3 := Past.blk S7.out (j := 3) rfl
  have n0 := Past.blk N7.out (j := 0) rfl
  have e1 := Past.blk E7.out (j := 1) rfl
  refine wp_region_past (by kernel_rfl) (by kernel_rfl) ?_
  repeat (go_big_quiet_step (first
    | (go_at_call 31; exact past_call (HRM.out _ (H7.out.kept (Past.h _))))
    | (go_at_call 30; exact past_call (HFV.out _))))
  refine wpQuiet_nil ?_
  intro _ hw'
  obtain ⟨s', hw''⟩ := hw'
  subst hw''
  obtain ⟨w8, h8, e8⟩ : ∃ w8, Below w7.heap.size w7 w8 ∧ w8 = s'.val := ⟨_, s'.h, rfl⟩
  rw [← e8]
  have H8 := Lib.hid (H7.out.kept h8)
  have N8 := Lib.hid (N7.out.kept h8)
  have S8 := Lib.hid (S7.out.kept h8)
  have E8 := Lib.hid (E7.out.kept h8)
  have HB8 := Lib.hid (below_and HB7.out h8)
  clear h8 e8 a0 a1 a2 a3 n0 e1
  go_wp2
  go_ret
  exact ⟨rfl, HB8.out⟩

set_option maxRecDepth 100000 in
set_option maxHeartbeats 2000000 in
theorem resize_nofit_in (b mb : Nat) (cap : Am) (L : List Ent) (s : ByteArray) (a : Am) (x : Ent) (y : Ent) (w : World) (h : Led w b mb cap L) (hs : s.size ≤ maxLen) (hx : fnd L s.data.toList = some x) (ha : a.okB = true) (hd : Apart L) (ho : Oks L) (hf : Fit (inR s) L) (hu : fitsB (sumA (inR s) L) a = true) (hi : ¬ x.i.toList = []) (ht : x.i.size ≤ maxLen) (hy : fnd L x.i.data.toList = some y) (hf2 : Fit (inB x.i s) L) (z : Am) (er : Int) (hz : subR y.a (sumA (inB x.i s) L) = (z, er)) (hfit : fitsB a z = false) :
    Calls Try.prog 12 #[ptr b, .string s, amV a] w fun e w' => e = .returned (.int .i64 14) ∧ Below w.heap.size w w' := by
  obtain ⟨w3, hw3⟩ : ∃ w3, w3 = (w.alloc (.cells #[.string s] 9)).alloc (.cells #[.int .i64 a.c, .int .i64 a.r, .int .i64 a.d, .int .i64 a.p] 28) := ⟨_, rfl⟩
  obtain ⟨B, hB⟩ : ∃ B, B = w.heap.size := ⟨_, rfl⟩
  have N0 : Hid (Blk w3 B [.string s] 9) := Lib.hid (by rw [hw3, hB]; exact (Blk.made w [.string s] 9).alloc _)
  have S0 : Hid (Blk w3 (B + 1) (amC a) 28) := Lib.hid (by
    have := Blk.made (w.alloc (.cells #[.string s] 9)) (amC a) 28
    rw [hw3, hB]; simpa using this)
  have HBL : Hid (Below w.heap.size w w3) := Lib.hid (by rw [hw3]; exact below_and (below_alloc w _) (below_alloc _ _))
  have H3 : Hid (Led w3 b mb cap L) := Lib.hid (h.kept HBL.out)
  have s0 := N0.out.cell (j := 0) rfl
  have HS := Lib.hid hs
  have HX := Lib.hid hx
  have HCK := Lib.hid (Am.chk_yes ha)
  have HD := Lib.hid hd
  have HO := Lib.hid ho
  have HF := Lib.hid hf
  have HFU : Hid (∀ w, Calls Try.prog 30 #[amV (sumA (inR s) L), amV a] w fun e w' => e = .returned (.bool true) ∧ Below w.heap.size w w') := Lib.hid (fun w => fits_val hu w)
  have HRM : Hid (∀ w, Led w b mb cap L → Calls Try.prog 31 #[ptr b, .string x.i, .string s] w fun e w' => e = .returned (amV z) ∧ Below w.heap.size w w') := Lib.hid (fun w h => room_in b mb cap L x.i s y w h hd ho hf2 hi ht hy z er hz)
  have HFV : Hid (∀ w, Calls Try.prog 30 #[amV a, amV z] w fun e w' => e = .returned (.bool false) ∧ Below w.heap.size w w') := Lib.hid (fun w => fits_val hfit w)
  clear h hs hx ha hd ho hf hu hi hf2 hz hfit ht hy
  go_enter Try.func12, Try.ntmps12
  go_upto_region 1 with fail
  rw [← hw3, ← hB]
  clear hw3 hB
  go_upto_region 4 with (go_at_call 22; refine (lget_yes b mb cap L s x _ H3.out HS.out HX.out).mono ?_; rintro e w4 ⟨rfl, hb⟩; have H4 := Lib.hid (H3.out.kept hb); have N4 := Lib.hid (N0.out.kept hb); have S4 := Lib.hid (S0.out.kept hb); have HB4 := Lib.hid (below_and HBL.out hb); clear hb)
  obtain ⟨w5, hw5⟩ : ∃ w5, w5 = w4.alloc (.cells #[.string x.n, .string x.i, .int .i64 x.a.c, .int .i64 x.a.r, .int .i64 x.a.d, .int .i64 x.a.p] 48) := ⟨_, rfl⟩
  obtain ⟨X, hX⟩ : ∃ X, X = w4.heap.size := ⟨_, rfl⟩
  have hb5 : Below w4.heap.size w4 w5 := by rw [hw5]; exact below_alloc _ _
  have E5 : Hid (Blk w5 X (entC x) 48) := Lib.hid (by rw [hw5, hX]; exact Blk.made w4 (entC x) _)
  have H5 := Lib.hid (H4.out.kept hb5)
  have N5 := Lib.hid (N4.out.kept hb5)
  have S5 := Lib.hid (S4.out.kept hb5)
  have HB5 := Lib.hid (below_and HB4.out hb5)
  have HXB : Hid (w.heap.size ≤ X) := Lib.hid (by rw [hX]; exact HB4.out.size)
  rw [← hw5, ← hX]
  clear hw5 hX hb5 s0
  have a0 := S5.out.cell (j := 0) rfl
  have a1 := S5.out.cell (j := 1) rfl
  have a2 := S5.out.cell (j := 2) rfl
  have a3 := S5.out.cell (j := 3) rfl
  have HSM : Hid (∀ w', Led w' b mb cap L → w'.cell? ⟨B, 0, none⟩ = some (.string s) → Calls Try.prog 32 #[ptr b, .func (Fn.func 33) #[] #[ptr B]] w' fun e w2 => e = .returned (amV (sumA (inR s) L)) ∧ Below w'.heap.size w' w2) := Lib.hid (fun w' h k => sum2_any b mb cap L s B w' h HD.out HO.out HF.out k)
  go_upto_region 6 with (go_at_call 28; refine (check_any a _).mono ?_; rw [HCK.out]; rintro e w6 ⟨rfl, hb⟩; have H6 := Lib.hid (H5.out.kept hb); have N6 := Lib.hid (N5.out.kept hb); have S6 := Lib.hid (S5.out.kept hb); have E6 := Lib.hid (E5.out.kept hb); have HB6 := Lib.hid (below_and HB5.out hb); clear hb a0 a1 a2 a3)
  have a0 := Past.blk S6.out (j := 0) rfl
  have a1 := Past.blk S6.out (j := 1) rfl
  have a2 := Past.blk S6.out (j := 2) rfl
  have a3 := Past.blk S6.out (j := 3) rfl
  have HN6 := Lib.hid (Past.blk N6.out (j := 0) rfl)
  refine wp_region_past (by kernel_rfl) (by kernel_rfl) ?_
  repeat (go_big_quiet_step (first
    | (go_at_call 32; exact past_call (HSM.out _ (H6.out.kept (Past.h _)) (HN6.out _)))
    | (go_at_call 30; exact past_call (HFU.out _))))
  refine wpQuiet_nil ?_
  intro _ hw'
  obtain ⟨s', hw''⟩ := hw'
  subst hw''
  obtain ⟨w7, h7, e7⟩ : ∃ w7, Below w6.heap.size w6 w7 ∧ w7 = s'.val := ⟨_, s'.h, rfl⟩
  rw [← e7]
  have H7 := Lib.hid (H6.out.kept h7)
  have N7 := Lib.hid (N6.out.kept h7)
  have S7 := Lib.hid (S6.out.kept h7)
  have E7 := Lib.hid (E6.out.kept h7)
  have HB7 := Lib.hid (below_and HB6.out h7)
  clear h7 e7 a0 a1 a2 a3 HN6
  go_upto_region 8 with fail
  have a0 := Past.blk S7.out (j := 0) rfl
  have a1 := Past.blk S7.out (j := 1) rfl
  have a2 := Past.blk S7.out (j := 2) rfl
  have a3 := Past.blk S7.out (j := 3) rfl
  have n0 := Past.blk N7.out (j := 0) rfl
  have e1 := Past.blk E7.out (j := 1) rfl
  refine wp_region_past (by kernel_rfl) (by kernel_rfl) ?_
  repeat (go_big_quiet_step (first
    | (go_at_call 31; exact past_call (HRM.out _ (H7.out.kept (Past.h _))))
    | (go_at_call 30; exact past_call (HFV.out _))))
  refine wpQuiet_nil ?_
  intro _ hw'
  obtain ⟨s', hw''⟩ := hw'
  subst hw''
  obtain ⟨w8, h8, e8⟩ : ∃ w8, Below w7.heap.size w7 w8 ∧ w8 = s'.val := ⟨_, s'.h, rfl⟩
  rw [← e8]
  have H8 := Lib.hid (H7.out.kept h8)
  have N8 := Lib.hid (N7.out.kept h8)
  have S8 := Lib.hid (S7.out.kept h8)
  have E8 := Lib.hid (E7.out.kept h8)
  have HB8 := Lib.hid (below_and HB7.out h8)
  clear h8 e8 a0 a1 a2 a3 n0 e1
  go_wp2
  go_ret
  exact ⟨rfl, HB8.out⟩

set_option maxRecDepth 100000 in
set_option maxHeartbeats 2000000 in
theorem resize_ok_top (b mb : Nat) (cap : Am) (L : List Ent) (s : ByteArray) (a : Am) (x : Ent) (w : World) (h : Led w b mb cap L) (hs : s.size ≤ maxLen) (hx : fnd L s.data.toList = some x) (ha : a.okB = true) (hd : Apart L) (ho : Oks L) (hf : Fit (inR s) L) (hu : fitsB (sumA (inR s) L) a = true) (hi : x.i.toList = []) (hf2 : Fit (inB x.i s) L) (z : Am) (er : Int) (hz : subR cap (sumA (inB x.i s) L) = (z, er)) (hln : L.length < maxLen) (hxn : x.n = s) (hfit : fitsB a z = true) :
    Calls Try.prog 12 #[ptr b, .string s, amV a] w fun e w' => e = .returned (.int .i64 0) ∧ Led w' b mb cap (putE L ⟨x.n, x.i, a⟩) ∧ Fr [mb] w w' := by
  obtain ⟨w3, hw3⟩ : ∃ w3, w3 = (w.alloc (.cells #[.string s] 9)).alloc (.cells #[.int .i64 a.c, .int .i64 a.r, .int .i64 a.d, .int .i64 a.p] 28) := ⟨_, rfl⟩
  obtain ⟨B, hB⟩ : ∃ B, B = w.heap.size := ⟨_, rfl⟩
  have N0 : Hid (Blk w3 B [.string s] 9) := Lib.hid (by rw [hw3, hB]; exact (Blk.made w [.string s] 9).alloc _)
  have S0 : Hid (Blk w3 (B + 1) (amC a) 28) := Lib.hid (by
    have := Blk.made (w.alloc (.cells #[.string s] 9)) (amC a) 28
    rw [hw3, hB]; simpa using this)
  have HBL : Hid (Below w.heap.size w w3) := Lib.hid (by rw [hw3]; exact below_and (below_alloc w _) (below_alloc _ _))
  have H3 : Hid (Led w3 b mb cap L) := Lib.hid (h.kept HBL.out)
  have s0 := N0.out.cell (j := 0) rfl
  have HS := Lib.hid hs
  have HX := Lib.hid hx
  have HCK := Lib.hid (Am.chk_yes ha)
  have HD := Lib.hid hd
  have HO := Lib.hid ho
  have HF := Lib.hid hf
  have HFU : Hid (∀ w, Calls Try.prog 30 #[amV (sumA (inR s) L), amV a] w fun e w' => e = .returned (.bool true) ∧ Below w.heap.size w w') := Lib.hid (fun w => fits_val hu w)
  have HRM : Hid (∀ w, Led w b mb cap L → Calls Try.prog 31 #[ptr b, .string x.i, .string s] w fun e w' => e = .returned (amV z) ∧ Below w.heap.size w w') := Lib.hid (fun w h => room_top b mb cap L x.i s w h hd ho hf2 hi z er hz)
  have HFV : Hid (∀ w, Calls Try.prog 30 #[amV a, amV z] w fun e w' => e = .returned (.bool true) ∧ Below w.heap.size w w') := Lib.hid (fun w => fits_val hfit w)
  have HLN := Lib.hid hln
  have HXN := Lib.hid hxn
  have HL0 := Lib.hid h
  clear h hs hx ha hd ho hf hu hi hf2 hz hfit hln hxn
  go_enter Try.func12, Try.ntmps12
  go_upto_region 1 with fail
  rw [← hw3, ← hB]
  clear hw3 hB
  go_upto_region 4 with (go_at_call 22; refine (lget_yes b mb cap L s x _ H3.out HS.out HX.out).mono ?_; rintro e w4 ⟨rfl, hb⟩; have H4 := Lib.hid (H3.out.kept hb); have N4 := Lib.hid (N0.out.kept hb); have S4 := Lib.hid (S0.out.kept hb); have HB4 := Lib.hid (below_and HBL.out hb); clear hb)
  obtain ⟨w5, hw5⟩ : ∃ w5, w5 = w4.alloc (.cells #[.string x.n, .string x.i, .int .i64 x.a.c, .int .i64 x.a.r, .int .i64 x.a.d, .int .i64 x.a.p] 48) := ⟨_, rfl⟩
  obtain ⟨X, hX⟩ : ∃ X, X = w4.heap.size := ⟨_, rfl⟩
  have hb5 : Below w4.heap.size w4 w5 := by rw [hw5]; exact below_alloc _ _
  have E5 : Hid (Blk w5 X (entC x) 48) := Lib.hid (by rw [hw5, hX]; exact Blk.made w4 (entC x) _)
  have H5 := Lib.hid (H4.out.kept hb5)
  have N5 := Lib.hid (N4.out.kept hb5)
  have S5 := Lib.hid (S4.out.kept hb5)
  have HB5 := Lib.hid (below_and HB4.out hb5)
  have HXB : Hid (w.heap.size ≤ X) := Lib.hid (by rw [hX]; exact HB4.out.size)
  have HXNE : Hid (B ≠ X) := Lib.hid (by rw [hX]; have := N4.out.lt; omega)
  rw [← hw5, ← hX]
  clear hw5 hX hb5 s0
  have a0 := S5.out.cell (j := 0) rfl
  have a1 := S5.out.cell (j := 1) rfl
  have a2 := S5.out.cell (j := 2) rfl
  have a3 := S5.out.cell (j := 3) rfl
  have HSM : Hid (∀ w', Led w' b mb cap L → w'.cell? ⟨B, 0, none⟩ = some (.string s) → Calls Try.prog 32 #[ptr b, .func (Fn.func 33) #[] #[ptr B]] w' fun e w2 => e = .returned (amV (sumA (inR s) L)) ∧ Below w'.heap.size w' w2) := Lib.hid (fun w' h k => sum2_any b mb cap L s B w' h HD.out HO.out HF.out k)
  go_upto_region 6 with (go_at_call 28; refine (check_any a _).mono ?_; rw [HCK.out]; rintro e w6 ⟨rfl, hb⟩; have H6 := Lib.hid (H5.out.kept hb); have N6 := Lib.hid (N5.out.kept hb); have S6 := Lib.hid (S5.out.kept hb); have E6 := Lib.hid (E5.out.kept hb); have HB6 := Lib.hid (below_and HB5.out hb); clear hb a0 a1 a2 a3)
  have a0 := Past.blk S6.out (j := 0) rfl
  have a1 := Past.blk S6.out (j := 1) rfl
  have a2 := Past.blk S6.out (j := 2) rfl
  have a3 := Past.blk S6.out (j := 3) rfl
  have HN6 := Lib.hid (Past.blk N6.out (j := 0) rfl)
  refine wp_region_past (by kernel_rfl) (by kernel_rfl) ?_
  repeat (go_big_quiet_step (first
    | (go_at_call 32; exact past_call (HSM.out _ (H6.out.kept (Past.h _)) (HN6.out _)))
    | (go_at_call 30; exact past_call (HFU.out _))))
  refine wpQuiet_nil ?_
  intro _ hw'
  obtain ⟨s', hw''⟩ := hw'
  subst hw''
  obtain ⟨w7, h7, e7⟩ : ∃ w7, Below w6.heap.size w6 w7 ∧ w7 = s'.val := ⟨_, s'.h, rfl⟩
  rw [← e7]
  have H7 := Lib.hid (H6.out.kept h7)
  have N7 := Lib.hid (N6.out.kept h7)
  have S7 := Lib.hid (S6.out.kept h7)
  have E7 := Lib.hid (E6.out.kept h7)
  have HB7 := Lib.hid (below_and HB6.out h7)
  clear h7 e7 a0 a1 a2 a3 HN6
  go_upto_region 8 with fail
  have a0 := Past.blk S7.out (j := 0) rfl
  have a1 := Past.blk S7.out (j := 1) rfl
  have a2 := Past.blk S7.out (j := 2) rfl
  have a3 := Past.blk S7.out (j := 3) rfl
  have n0 := Past.blk N7.out (j := 0) rfl
  have e1 := Past.blk E7.out (j := 1) rfl
  refine wp_region_past (by kernel_rfl) (by kernel_rfl) ?_
  repeat (go_big_quiet_step (first
    | (go_at_call 31; exact past_call (HRM.out _ (H7.out.kept (Past.h _))))
    | (go_at_call 30; exact past_call (HFV.out _))))
  refine wpQuiet_nil ?_
  intro _ hw'
  obtain ⟨s', hw''⟩ := hw'
  subst hw''
  obtain ⟨w8, h8, e8⟩ : ∃ w8, Below w7.heap.size w7 w8 ∧ w8 = s'.val := ⟨_, s'.h, rfl⟩
  rw [← e8]
  have H8 := Lib.hid (H7.out.kept h8)
  have N8 := Lib.hid (N7.out.kept h8)
  have S8 := Lib.hid (S7.out.kept h8)
  have E8 := Lib.hid (E7.out.kept h8)
  have HB8 := Lib.hid (below_and HB7.out h8)
  clear h8 e8 a0 a1 a2 a3 n0 e1
  have a0 := S8.out.cell (j := 0) rfl
  have a1 := S8.out.cell (j := 1) rfl
  have a2 := S8.out.cell (j := 2) rfl
  have a3 := S8.out.cell (j := 3) rfl
  have e2 := E8.out.cell (j := 2) rfl
  have f2 := E8.out.free 2
  have e3 := E8.out.cell (j := 3) rfl
  have f3 := E8.out.free 3
  have e4 := E8.out.cell (j := 4) rfl
  have f4 := E8.out.free 4
  have e5 := E8.out.cell (j := 5) rfl
  have f5 := E8.out.free 5
  go_upto_region 11 with fail
  obtain ⟨w9, hw9⟩ : ∃ w9, w9 = (((w8.setCell ⟨X, 2, none⟩ (.int .i64 a.c)).setCell ⟨X, 3, none⟩ (.int .i64 a.r)).setCell ⟨X, 4, none⟩ (.int .i64 a.d)).setCell ⟨X, 5, none⟩ (.int .i64 a.p) := ⟨_, rfl⟩
  have E9 : Hid (Blk w9 X (entC ⟨x.n, x.i, a⟩) 48) := Lib.hid (by rw [hw9]; exact (((E8.out.set 2 (.int .i64 a.c)).set 3 (.int .i64 a.r)).set 4 (.int .i64 a.d)).set 5 (.int .i64 a.p))
  have hXB := HXB.out
  have HB9 : Hid (Below w.heap.size w w9) := Lib.hid (by rw [hw9]; exact (((HB8.out.setCell (p := ⟨X, 2, none⟩) hXB _).setCell (p := ⟨X, 3, none⟩) hXB _).setCell (p := ⟨X, 4, none⟩) hXB _).setCell (p := ⟨X, 5, none⟩) hXB _)
  have H9 : Hid (Led w9 b mb cap L) := Lib.hid (HL0.out.kept HB9.out)
  have N9 : Hid (Blk w9 B [.string s] 9) := Lib.hid (by
    rw [hw9]
    have hne := HXNE.out
    exact (((N8.out.other (a := ⟨X, 2, none⟩) hne _).other (a := ⟨X, 3, none⟩) hne _).other (a := ⟨X, 4, none⟩) hne _).other (a := ⟨X, 5, none⟩) hne _)
  rw [← hw9]
  clear hw9 hXB a0 a1 a2 a3 e2 e3 e4 e5 f2 f3 f4 f5
  have e0 := Past.blk E9.out (j := 0) rfl
  have e1 := Past.blk E9.out (j := 1) rfl
  have e2 := Past.blk E9.out (j := 2) rfl
  have e3 := Past.blk E9.out (j := 3) rfl
  have e4 := Past.blk E9.out (j := 4) rfl
  have e5 := Past.blk E9.out (j := 5) rfl
  have n0 := Past.blk N9.out (j := 0) rfl
  have p4 := Past.blk H9.out.blk (j := 4) rfl
  refine wp_region_past_last (by rfl) (by kernel_rfl) (by kernel_rfl) (by kernel_rfl) ?_
  simp only [List.dropLast, List.getLast_cons_cons, List.getLast_singleton]
  repeat (go_big_quiet_step (fail))
  refine wpQuiet_nil ?_
  intro _ hw'
  obtain ⟨s2, hw''⟩ := hw'
  subst hw''
  obtain ⟨v7, h7, e7⟩ : ∃ v7, Below w9.heap.size w9 v7 ∧ v7 = s2.val := ⟨_, s2.h, rfl⟩
  rw [← e7]
  have HV := Lib.hid (H9.out.kept h7)
  have HBV := Lib.hid (below_and HB9.out h7)
  clear h7 e7 e0 e1 e2 e3 e4 e5 n0 p4
  go_wp2_with (refine wpList_sput _ rfl _ _ _ _ rfl 9 48 Try.underlying9 Try.underlying52 mb (entM L) rfl HV.out.map (by rw [entM_len]; exact HLN.out) s (entV ⟨x.n, x.i, a⟩) rfl rfl HS.out ?_; intro v8 hp8 hg8; have HP8 := Lib.hid hp8; have HG8 := Lib.hid hg8; clear hp8 hg8)
  go_ret
  exact ⟨rfl, led_put (x := ⟨x.n, x.i, a⟩) HV.out (by have := HP8.out; rw [← HXN.out] at this; exact this) HG8.out, (Fr.of_below HBV.out [mb]).then (Fr.of_grown HG8.out)⟩

set_option maxRecDepth 100000 in
set_option maxHeartbeats 2000000 in
theorem resize_ok_in (b mb : Nat) (cap : Am) (L : List Ent) (s : ByteArray) (a : Am) (x : Ent) (y : Ent) (w : World) (h : Led w b mb cap L) (hs : s.size ≤ maxLen) (hx : fnd L s.data.toList = some x) (ha : a.okB = true) (hd : Apart L) (ho : Oks L) (hf : Fit (inR s) L) (hu : fitsB (sumA (inR s) L) a = true) (hi : ¬ x.i.toList = []) (ht : x.i.size ≤ maxLen) (hy : fnd L x.i.data.toList = some y) (hf2 : Fit (inB x.i s) L) (z : Am) (er : Int) (hz : subR y.a (sumA (inB x.i s) L) = (z, er)) (hln : L.length < maxLen) (hxn : x.n = s) (hfit : fitsB a z = true) :
    Calls Try.prog 12 #[ptr b, .string s, amV a] w fun e w' => e = .returned (.int .i64 0) ∧ Led w' b mb cap (putE L ⟨x.n, x.i, a⟩) ∧ Fr [mb] w w' := by
  obtain ⟨w3, hw3⟩ : ∃ w3, w3 = (w.alloc (.cells #[.string s] 9)).alloc (.cells #[.int .i64 a.c, .int .i64 a.r, .int .i64 a.d, .int .i64 a.p] 28) := ⟨_, rfl⟩
  obtain ⟨B, hB⟩ : ∃ B, B = w.heap.size := ⟨_, rfl⟩
  have N0 : Hid (Blk w3 B [.string s] 9) := Lib.hid (by rw [hw3, hB]; exact (Blk.made w [.string s] 9).alloc _)
  have S0 : Hid (Blk w3 (B + 1) (amC a) 28) := Lib.hid (by
    have := Blk.made (w.alloc (.cells #[.string s] 9)) (amC a) 28
    rw [hw3, hB]; simpa using this)
  have HBL : Hid (Below w.heap.size w w3) := Lib.hid (by rw [hw3]; exact below_and (below_alloc w _) (below_alloc _ _))
  have H3 : Hid (Led w3 b mb cap L) := Lib.hid (h.kept HBL.out)
  have s0 := N0.out.cell (j := 0) rfl
  have HS := Lib.hid hs
  have HX := Lib.hid hx
  have HCK := Lib.hid (Am.chk_yes ha)
  have HD := Lib.hid hd
  have HO := Lib.hid ho
  have HF := Lib.hid hf
  have HFU : Hid (∀ w, Calls Try.prog 30 #[amV (sumA (inR s) L), amV a] w fun e w' => e = .returned (.bool true) ∧ Below w.heap.size w w') := Lib.hid (fun w => fits_val hu w)
  have HRM : Hid (∀ w, Led w b mb cap L → Calls Try.prog 31 #[ptr b, .string x.i, .string s] w fun e w' => e = .returned (amV z) ∧ Below w.heap.size w w') := Lib.hid (fun w h => room_in b mb cap L x.i s y w h hd ho hf2 hi ht hy z er hz)
  have HFV : Hid (∀ w, Calls Try.prog 30 #[amV a, amV z] w fun e w' => e = .returned (.bool true) ∧ Below w.heap.size w w') := Lib.hid (fun w => fits_val hfit w)
  have HLN := Lib.hid hln
  have HXN := Lib.hid hxn
  have HL0 := Lib.hid h
  clear h hs hx ha hd ho hf hu hi hf2 hz hfit ht hy hln hxn
  go_enter Try.func12, Try.ntmps12
  go_upto_region 1 with fail
  rw [← hw3, ← hB]
  clear hw3 hB
  go_upto_region 4 with (go_at_call 22; refine (lget_yes b mb cap L s x _ H3.out HS.out HX.out).mono ?_; rintro e w4 ⟨rfl, hb⟩; have H4 := Lib.hid (H3.out.kept hb); have N4 := Lib.hid (N0.out.kept hb); have S4 := Lib.hid (S0.out.kept hb); have HB4 := Lib.hid (below_and HBL.out hb); clear hb)
  obtain ⟨w5, hw5⟩ : ∃ w5, w5 = w4.alloc (.cells #[.string x.n, .string x.i, .int .i64 x.a.c, .int .i64 x.a.r, .int .i64 x.a.d, .int .i64 x.a.p] 48) := ⟨_, rfl⟩
  obtain ⟨X, hX⟩ : ∃ X, X = w4.heap.size := ⟨_, rfl⟩
  have hb5 : Below w4.heap.size w4 w5 := by rw [hw5]; exact below_alloc _ _
  have E5 : Hid (Blk w5 X (entC x) 48) := Lib.hid (by rw [hw5, hX]; exact Blk.made w4 (entC x) _)
  have H5 := Lib.hid (H4.out.kept hb5)
  have N5 := Lib.hid (N4.out.kept hb5)
  have S5 := Lib.hid (S4.out.kept hb5)
  have HB5 := Lib.hid (below_and HB4.out hb5)
  have HXB : Hid (w.heap.size ≤ X) := Lib.hid (by rw [hX]; exact HB4.out.size)
  have HXNE : Hid (B ≠ X) := Lib.hid (by rw [hX]; have := N4.out.lt; omega)
  rw [← hw5, ← hX]
  clear hw5 hX hb5 s0
  have a0 := S5.out.cell (j := 0) rfl
  have a1 := S5.out.cell (j := 1) rfl
  have a2 := S5.out.cell (j := 2) rfl
  have a3 := S5.out.cell (j := 3) rfl
  have HSM : Hid (∀ w', Led w' b mb cap L → w'.cell? ⟨B, 0, none⟩ = some (.string s) → Calls Try.prog 32 #[ptr b, .func (Fn.func 33) #[] #[ptr B]] w' fun e w2 => e = .returned (amV (sumA (inR s) L)) ∧ Below w'.heap.size w' w2) := Lib.hid (fun w' h k => sum2_any b mb cap L s B w' h HD.out HO.out HF.out k)
  go_upto_region 6 with (go_at_call 28; refine (check_any a _).mono ?_; rw [HCK.out]; rintro e w6 ⟨rfl, hb⟩; have H6 := Lib.hid (H5.out.kept hb); have N6 := Lib.hid (N5.out.kept hb); have S6 := Lib.hid (S5.out.kept hb); have E6 := Lib.hid (E5.out.kept hb); have HB6 := Lib.hid (below_and HB5.out hb); clear hb a0 a1 a2 a3)
  have a0 := Past.blk S6.out (j := 0) rfl
  have a1 := Past.blk S6.out (j := 1) rfl
  have a2 := Past.blk S6.out (j := 2) rfl
  have a3 := Past.blk S6.out (j := 3) rfl
  have HN6 := Lib.hid (Past.blk N6.out (j := 0) rfl)
  refine wp_region_past (by kernel_rfl) (by kernel_rfl) ?_
  repeat (go_big_quiet_step (first
    | (go_at_call 32; exact past_call (HSM.out _ (H6.out.kept (Past.h _)) (HN6.out _)))
    | (go_at_call 30; exact past_call (HFU.out _))))
  refine wpQuiet_nil ?_
  intro _ hw'
  obtain ⟨s', hw''⟩ := hw'
  subst hw''
  obtain ⟨w7, h7, e7⟩ : ∃ w7, Below w6.heap.size w6 w7 ∧ w7 = s'.val := ⟨_, s'.h, rfl⟩
  rw [← e7]
  have H7 := Lib.hid (H6.out.kept h7)
  have N7 := Lib.hid (N6.out.kept h7)
  have S7 := Lib.hid (S6.out.kept h7)
  have E7 := Lib.hid (E6.out.kept h7)
  have HB7 := Lib.hid (below_and HB6.out h7)
  clear h7 e7 a0 a1 a2 a3 HN6
  go_upto_region 8 with fail
  have a0 := Past.blk S7.out (j := 0) rfl
  have a1 := Past.blk S7.out (j := 1) rfl
  have a2 := Past.blk S7.out (j := 2) rfl
  have a3 := Past.blk S7.out (j := 3) rfl
  have n0 := Past.blk N7.out (j := 0) rfl
  have e1 := Past.blk E7.out (j := 1) rfl
  refine wp_region_past (by kernel_rfl) (by kernel_rfl) ?_
  repeat (go_big_quiet_step (first
    | (go_at_call 31; exact past_call (HRM.out _ (H7.out.kept (Past.h _))))
    | (go_at_call 30; exact past_call (HFV.out _))))
  refine wpQuiet_nil ?_
  intro _ hw'
  obtain ⟨s', hw''⟩ := hw'
  subst hw''
  obtain ⟨w8, h8, e8⟩ : ∃ w8, Below w7.heap.size w7 w8 ∧ w8 = s'.val := ⟨_, s'.h, rfl⟩
  rw [← e8]
  have H8 := Lib.hid (H7.out.kept h8)
  have N8 := Lib.hid (N7.out.kept h8)
  have S8 := Lib.hid (S7.out.kept h8)
  have E8 := Lib.hid (E7.out.kept h8)
  have HB8 := Lib.hid (below_and HB7.out h8)
  clear h8 e8 a0 a1 a2 a3 n0 e1
  have a0 := S8.out.cell (j := 0) rfl
  have a1 := S8.out.cell (j := 1) rfl
  have a2 := S8.out.cell (j := 2) rfl
  have a3 := S8.out.cell (j := 3) rfl
  have e2 := E8.out.cell (j := 2) rfl
  have f2 := E8.out.free 2
  have e3 := E8.out.cell (j := 3) rfl
  have f3 := E8.out.free 3
  have e4 := E8.out.cell (j := 4) rfl
  have f4 := E8.out.free 4
  have e5 := E8.out.cell (j := 5) rfl
  have f5 := E8.out.free 5
  go_upto_region 11 with fail
  obtain ⟨w9, hw9⟩ : ∃ w9, w9 = (((w8.setCell ⟨X, 2, none⟩ (.int .i64 a.c)).setCell ⟨X, 3, none⟩ (.int .i64 a.r)).setCell ⟨X, 4, none⟩ (.int .i64 a.d)).setCell ⟨X, 5, none⟩ (.int .i64 a.p) := ⟨_, rfl⟩
  have E9 : Hid (Blk w9 X (entC ⟨x.n, x.i, a⟩) 48) := Lib.hid (by rw [hw9]; exact (((E8.out.set 2 (.int .i64 a.c)).set 3 (.int .i64 a.r)).set 4 (.int .i64 a.d)).set 5 (.int .i64 a.p))
  have hXB := HXB.out
  have HB9 : Hid (Below w.heap.size w w9) := Lib.hid (by rw [hw9]; exact (((HB8.out.setCell (p := ⟨X, 2, none⟩) hXB _).setCell (p := ⟨X, 3, none⟩) hXB _).setCell (p := ⟨X, 4, none⟩) hXB _).setCell (p := ⟨X, 5, none⟩) hXB _)
  have H9 : Hid (Led w9 b mb cap L) := Lib.hid (HL0.out.kept HB9.out)
  have N9 : Hid (Blk w9 B [.string s] 9) := Lib.hid (by
    rw [hw9]
    have hne := HXNE.out
    exact (((N8.out.other (a := ⟨X, 2, none⟩) hne _).other (a := ⟨X, 3, none⟩) hne _).other (a := ⟨X, 4, none⟩) hne _).other (a := ⟨X, 5, none⟩) hne _)
  rw [← hw9]
  clear hw9 hXB a0 a1 a2 a3 e2 e3 e4 e5 f2 f3 f4 f5
  have e0 := Past.blk E9.out (j := 0) rfl
  have e1 := Past.blk E9.out (j := 1) rfl
  have e2 := Past.blk E9.out (j := 2) rfl
  have e3 := Past.blk E9.out (j := 3) rfl
  have e4 := Past.blk E9.out (j := 4) rfl
  have e5 := Past.blk E9.out (j := 5) rfl
  have n0 := Past.blk N9.out (j := 0) rfl
  have p4 := Past.blk H9.out.blk (j := 4) rfl
  refine wp_region_past_last (by rfl) (by kernel_rfl) (by kernel_rfl) (by kernel_rfl) ?_
  simp only [List.dropLast, List.getLast_cons_cons, List.getLast_singleton]
  repeat (go_big_quiet_step (fail))
  refine wpQuiet_nil ?_
  intro _ hw'
  obtain ⟨s2, hw''⟩ := hw'
  subst hw''
  obtain ⟨v7, h7, e7⟩ : ∃ v7, Below w9.heap.size w9 v7 ∧ v7 = s2.val := ⟨_, s2.h, rfl⟩
  rw [← e7]
  have HV := Lib.hid (H9.out.kept h7)
  have HBV := Lib.hid (below_and HB9.out h7)
  clear h7 e7 e0 e1 e2 e3 e4 e5 n0 p4
  go_wp2_with (refine wpList_sput _ rfl _ _ _ _ rfl 9 48 Try.underlying9 Try.underlying52 mb (entM L) rfl HV.out.map (by rw [entM_len]; exact HLN.out) s (entV ⟨x.n, x.i, a⟩) rfl rfl HS.out ?_; intro v8 hp8 hg8; have HP8 := Lib.hid hp8; have HG8 := Lib.hid hg8; clear hp8 hg8)
  go_ret
  exact ⟨rfl, led_put (x := ⟨x.n, x.i, a⟩) HV.out (by have := HP8.out; rw [← HXN.out] at this; exact this) HG8.out, (Fr.of_below HBV.out [mb]).then (Fr.of_grown HG8.out)⟩
end Go.Proofs.Ytighcnecajgkpaa
