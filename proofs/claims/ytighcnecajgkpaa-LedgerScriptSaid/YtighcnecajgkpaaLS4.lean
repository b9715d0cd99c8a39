/- Texts of one proof, laid together: LedResize, LedStep, LedKeep, LedOff, LedLives, Pick, IRows, Open2, Open3, Open4. No condition of ours. -/
import Derived.Test.YtighcnecajgkpaaLS3
import Derived.Deep.Matrix
import Derived.Deep.Fields
namespace Go.Proofs.Ytighcnecajgkpaa
open Go.RowKit

set_option maxRecDepth 100000 in
set_option maxHeartbeats 2000000 in
theorem resize_none (b mb : Nat) (cap : Am) (L : List Ent) (s : ByteArray) (a : Am) (w : World) (h : Led w b mb cap L) (hs : s.size ≤ maxLen) (hx : fnd L s.data.toList = none) :
    Calls Try.prog 12 #[ptr b, .string s, amV a] w fun e w' => e = .returned (.int .i64 6) ∧ Below w.heap.size w w' := by
  obtain ⟨w3, hw3⟩ : ∃ w3, w3 = (w.alloc (.cells #[.string s] 9)).alloc (.cells #[.int .i64 a.c, .int .i64 a.r, .int .i64 a.d, .int .i64 a.p] 28) := ⟨_, rfl⟩
  obtain ⟨B, hB⟩ : ∃ B, B = w.heap.size := ⟨_, rfl⟩
  have N0 : Hid (Blk w3 B [.string s] 9) := Lib.hid (by rw [hw3, hB]; exact (Blk.made w [.string s] 9).alloc _)
  have S0 : Hid (Blk w3 (B + 1) (amC a) 28) := Lib.hid (by
    have := Blk.made (w.alloc (.cells #[.string s] 9)) (amC a) 28
    rw [hw3, hB]; simpa using this)
  have HBL : Hid (Below w.heap.size w w3) := Lib.hid (by rw [hw3]; exact below_and (below_alloc w _) (below_alloc _ _))
  have H3 : Hid (Led w3 b mb cap L) := Lib.hid (h.kept HBL.out)
  have s0 := N0.out.cell (j := 0) rfl
  have HS := Lib.hid hs
  have HX := Lib.hid hx
  clear h hs hx
  go_enter Try.func12, Try.ntmps12
  go_upto_region 1 with fail
  rw [← hw3, ← hB]
  clear hw3 hB
  go_wp2_with (go_at_call 22; refine (lget_no b mb cap L s _ H3.out HS.out HX.out).mono ?_; rintro e w4 ⟨rfl, hb⟩; have HB4 := Lib.hid (below_and HBL.out hb); clear hb)
  go_ret
  exact ⟨rfl, below_and HB4.out (below_alloc _ _)⟩

set_option maxRecDepth 100000 in
set_option maxHeartbeats 2000000 in
theorem resize_bad (b mb : Nat) (cap : Am) (L : List Ent) (s : ByteArray) (a : Am) (x : Ent) (w : World) (h : Led w b mb cap L) (hs : s.size ≤ maxLen) (hx : fnd L s.data.toList = some x) (ha : a.okB = false) :
    Calls Try.prog 12 #[ptr b, .string s, amV a] w fun e w' => e = .returned (.int .i64 2) ∧ Below w.heap.size w w' := by
  obtain ⟨w3, hw3⟩ : ∃ w3, w3 = (w.alloc (.cells #[.string s] 9)).alloc (.cells #[.int .i64 a.c, .int .i64 a.r, .int .i64 a.d, .int .i64 a.p] 28) := ⟨_, rfl⟩
  obtain ⟨B, hB⟩ : ∃ B, B = w.heap.size := ⟨_, rfl⟩
  have N0 : Hid (Blk w3 B [.string s] 9) := Lib.hid (by rw [hw3, hB]; exact (Blk.made w [.string s] 9).alloc _)
  have S0 : Hid (Blk w3 (B + 1) (amC a) 28) := Lib.hid (by
    have := Blk.made (w.alloc (.cells #[.string s] 9)) (amC a) 28
    rw [hw3, hB]; simpa using this)
  have HBL : Hid (Below w.heap.size w w3) := Lib.hid (by rw [hw3]; exact below_and (below_alloc w _) (below_alloc _ _))
  have H3 : Hid (Led w3 b mb cap L) := Lib.hid (h.kept HBL.out)
  have s0 := N0.out.cell (j := 0) rfl
  have HS := Lib.hid hs
  have HX := Lib.hid hx
  have HCK := Lib.hid (Am.chk_no ha)
  clear h hs hx ha
  go_enter Try.func12, Try.ntmps12
  go_upto_region 1 with fail
  rw [← hw3, ← hB]
  clear hw3 hB
  go_upto_region 4 with (go_at_call 22; refine (lget_yes b mb cap L s x _ H3.out HS.out HX.out).mono ?_; rintro e w4 ⟨rfl, hb⟩; have H4 := Lib.hid (H3.out.kept hb); have N4 := Lib.hid (N0.out.kept hb); have S4 := Lib.hid (S0.out.kept hb); have HB4 := Lib.hid (below_and HBL.out hb); clear hb)
  obtain ⟨w5, hw5⟩ : ∃ w5, w5 = w4.alloc (.cells #[.string x.n, .string x.i, .int .i64 x.a.c, .int .i64 x.a.r, .int .i64 x.a.d, .int .i64 x.a.p] 48) := ⟨_, rfl⟩
  obtain ⟨X, hX⟩ : ∃ X, X = w4.heap.size := ⟨_, rfl⟩
  have hb5 : Below w4.heap.size w4 w5 := by rw [hw5]; exact below_alloc _ _
  have E5 : Hid (Blk w5 X (entC x) 48) := Lib.hid (by rw [hw5, hX]; exact Blk.made w4 (entC x) _)
  have H5 := Lib.hid (H4.out.kept hb5)
  have N5 := Lib.hid (N4.out.kept hb5)
  have S5 := Lib.hid (S4.out.kept hb5)
  have HB5 := Lib.hid (below_and HB4.out hb5)
  have HXB : Hid (w.heap.size ≤ X) := Lib.hid (by rw [hX]; exact HB4.out.size)
  rw [← hw5, ← hX]
  clear hw5 hX hb5 s0
  have a0 := S5.out.cell (j := 0) rfl
  have a1 := S5.out.cell (j := 1) rfl
  have a2 := S5.out.cell (j := 2) rfl
  have a3 := S5.out.cell (j := 3) rfl
  go_wp2_with (go_at_call 28; refine (check_any a _).mono ?_; rw [HCK.out]; rintro e w6 ⟨rfl, hb⟩; have H6 := Lib.hid (H5.out.kept hb); have N6 := Lib.hid (N5.out.kept hb); have S6 := Lib.hid (S5.out.kept hb); have E6 := Lib.hid (E5.out.kept hb); have HB6 := Lib.hid (below_and HB5.out hb); clear hb a0 a1 a2 a3)
  go_ret
  exact ⟨rfl, HB6.out⟩

set_option maxRecDepth 100000 in
set_option maxHeartbeats 2000000 in
theorem resize_state (b mb : Nat) (cap : Am) (L : List Ent) (s : ByteArray) (a : Am) (x : Ent) (w : World) (h : Led w b mb cap L) (hs : s.size ≤ maxLen) (hx : fnd L s.data.toList = some x) (ha : a.okB = true) (hd : Apart L) (ho : Oks L) (hf : Fit (inR s) L) (hu : fitsB (sumA (inR s) L) a = false) :
    Calls Try.prog 12 #[ptr b, .string s, amV a] w fun e w' => e = .returned (.int .i64 13) ∧ Below w.heap.size w w' := by
  obtain ⟨w3, hw3⟩ : ∃ w3, w3 = (w.alloc (.cells #[.string s] 9)).alloc (.cells #[.int .i64 a.c, .int .i64 a.r, .int .i64 a.d, .int .i64 a.p] 28) := ⟨_, rfl⟩
  obtain ⟨B, hB⟩ : ∃ B, B = w.heap.size := ⟨_, rfl⟩
  have N0 : Hid (Blk w3 B [.string s] 9) := Lib.hid (by rw [hw3, hB]; exact (Blk.made w [.string s] 9).alloc _)
  have S0 : Hid (Blk w3 (B + 1) (amC a) 28) := Lib.hid (by
    have := Blk.made (w.alloc (.cells #[.string s] 9)) (amC a) 28
    rw [hw3, hB]; simpa using this)
  have HBL : Hid (Below w.heap.size w w3) := Lib.hid (by rw [hw3]; exact below_and (below_alloc w _) (below_alloc _ _))
  have H3 : Hid (Led w3 b mb cap L) := Lib.hid (h.kept HBL.out)
  have s0 := N0.out.cell (j := 0) rfl
  have HS := Lib.hid hs
  have HX := Lib.hid hx
  have HCK := Lib.hid (Am.chk_yes ha)
  have HD := Lib.hid hd
  have HO := Lib.hid ho
  have HF := Lib.hid hf
  have HFU : Hid (∀ w, Calls Try.prog 30 #[amV (sumA (inR s) L), amV a] w fun e w' => e = .returned (.bool false) ∧ Below w.heap.size w w') := Lib.hid (fun w => fits_val hu w)
  clear h hs hx ha hd ho hf hu
  go_enter Try.func12, Try.ntmps12
  go_upto_region 1 with fail
  rw [← hw3, ← hB]
  clear hw3 hB
  go_upto_region 4 with (go_at_call 22; refine (lget_yes b mb cap L s x _ H3.out HS.out HX.out).mono ?_; rintro e w4 ⟨rfl, hb⟩; have H4 := Lib.hid (H3.out.kept hb); have N4 := Lib.hid (N0.out.kept hb); have S4 := Lib.hid (S0.out.kept hb); have HB4 := Lib.hid (below_and HBL.out hb); clear hb)
  obtain ⟨w5, hw5⟩ : ∃ w5, w5 = w4.alloc (.cells #[.string x.n, .string x.i, .int .i64 x.a.c, .int .i64 x.a.r, .int .i64 x.a.d, .int .i64 x.a.p] 48) := ⟨_, rfl⟩
  obtain ⟨X, hX⟩ : ∃ X, X = w4.heap.size := ⟨_, rfl⟩
  have hb5 : Below w4.heap.size w4 w5 := by rw [hw5]; exact below_alloc _ _
  have E5 : Hid (Blk w5 X (entC x) 48) := Lib.hid (by rw [hw5, hX]; exact Blk.made w4 (entC x) _)
  have H5 := Lib.hid (H4.out.kept hb5)
  have N5 := Lib.hid (N4.out.kept hb5)
  have S5 := Lib.hid (S4.out.kept hb5)
  have HB5 := Lib.hid (below_and HB4.out hb5)
  have HXB : Hid (w.heap.size ≤ X) := Lib.hid (by rw [hX]; exact HB4.out.size)
  rw [← hw5, ← hX]
  clear hw5 hX hb5 s0
  have a0 := S5.out.cell (j := 0) rfl
  have a1 := S5.out.cell (j := 1) rfl
  have a2 := S5.out.cell (j := 2) rfl
  have a3 := S5.out.cell (j := 3) rfl
  have HSM : Hid (∀ w', Led w' b mb cap L → w'.cell? ⟨B, 0, none⟩ = some (.string s) → Calls Try.prog 32 #[ptr b, .func (Fn.func 33) #[] #[ptr B]] w' fun e w2 => e = .returned (amV (sumA (inR s) L)) ∧ Below w'.heap.size w' w2) := Lib.hid (fun w' h k => sum2_any b mb cap L s B w' h HD.out HO.out HF.out k)
  go_upto_region 6 with (go_at_call 28; refine (check_any a _).mono ?_; rw [HCK.out]; rintro e w6 ⟨rfl, hb⟩; have H6 := Lib.hid (H5.out.kept hb); have N6 := Lib.hid (N5.out.kept hb); have S6 := Lib.hid (S5.out.kept hb); have E6 := Lib.hid (E5.out.kept hb); have HB6 := Lib.hid (below_and HB5.out hb); clear hb a0 a1 a2 a3)
  have a0 := Past.blk S6.out (j := 0) rfl
  have a1 := Past.blk S6.out (j := 1) rfl
  have a2 := Past.blk S6.out (j := 2) rfl
  have a3 := Past.blk S6.out (j := 3) rfl
  have HN6 := Lib.hid (Past.blk N6.out (j := 0) rfl)
  refine wp_region_past (by kernel_rfl) (by kernel_rfl) ?_
  repeat (go_big_quiet_step (first
    | (go_at_call 32; exact past_call (HSM.out _ (H6.out.kept (Past.h _)) (HN6.out _)))
    | (go_at_call 30; exact past_call (HFU.out _))))
  refine wpQuiet_nil ?_
  intro _ hw'
  obtain ⟨s', hw''⟩ := hw'
  subst hw''
  obtain ⟨w7, h7, e7⟩ : ∃ w7, Below w6.heap.size w6 w7 ∧ w7 = s'.val := ⟨_, s'.h, rfl⟩
  rw [← e7]
  have H7 := Lib.hid (H6.out.kept h7)
  have N7 := Lib.hid (N6.out.kept h7)
  have S7 := Lib.hid (S6.out.kept h7)
  have E7 := Lib.hid (E6.out.kept h7)
  have HB7 := Lib.hid (below_and HB6.out h7)
  clear h7 e7 a0 a1 a2 a3 HN6
  go_wp2
  go_ret
  exact ⟨rfl, HB7.out⟩

set_option maxRecDepth 100000 in
set_option maxHeartbeats 2000000 in
theorem resize_nofit_top (b mb : Nat) (cap : Am) (L : List Ent) (s : ByteArray) (a : Am) (x : Ent) (w : World) (h : Led w b mb cap L) (hs : s.size ≤ maxLen) (hx : fnd L s.data.toList = some x) (ha : a.okB = true) (hd : Apart L) (ho : Oks L) (hf : Fit (inR s) L) (hu : fitsB (sumA (inR s) L) a = true) (hi : x.i.toList = []) (hf2 : Fit (inB x.i s) L) (z : Am) (er : Int) (hz : subR cap (sumA (inB x.i s) L) = (z, er)) (hfit : fitsB a z = false) :
    Calls Try.prog 12 #[ptr b, .string s, amV a] w fun e w' => e = .returned (.int .i64 14) ∧ Below w.heap.size w w' := by
  obtain ⟨w3, hw3⟩ : ∃ w3, w3 = (w.alloc (.cells #[.string s] 9)).alloc (.cells #[.int .i64 a.c, .int .i64 a.r, .int .i64 a.d, .int .i64 a.p] 28) := ⟨_, rfl⟩
  obtain ⟨B, hB⟩ : ∃ B, B = w.heap.size := ⟨_, rfl⟩
  have N0 : Hid (Blk w3 B [.string s] 9) := Lib.hid (by rw [hw3, hB]; exact (Blk.made w [.string s] 9).alloc _)
  have S0 : Hid (Blk w3 (B + 1) (amC a) 28) := Lib.hid (by
    have := Blk.made (w.alloc (.cells #[.string s] 9)) (amC a) 28
    rw [hw3, hB]; simpa using this)
  have HBL : Hid (Below w.heap.size w w3) := Lib.hid (by rw [hw3]; exact below_and (below_alloc w _) (below_alloc _ _))
  have H3 : Hid (Led w3 b mb cap L) := Lib.hid (h.kept HBL.out)
  have s0 := N0.out.cell (j := 0) rfl
  have HS := Lib.hid hs
  have HX := Lib.hid hx
  have HCK := Lib.hid (Am.chk_yes ha)
  have HD := Lib.hid hd
  have HO := Lib.hid ho
  have HF := Lib.hid hf
  have HFU : Hid (∀ w, Calls Try.prog 30 #[amV (sumA (inR s) L), amV a] w fun e w' => e = .returned (.bool true) ∧ Below w.heap.size w w') := Lib.hid (fun w => fits_val hu w)
  have HRM : Hid (∀ w, Led w b mb cap L → Calls Try.prog 31 #[ptr b, .string x.i, .string s] w fun e w' => e = .returned (amV z) ∧ Below w.heap.size w w') := Lib.hid (fun w h => room_top b mb cap L x.i s w h hd ho hf2 hi z er hz)
  have HFV : Hid (∀ w, Calls Try.prog 30 #[amV a, amV z] w fun e w' => e = .returned (.bool false) ∧ Below w.heap.size w w') := Lib.hid (fun w => fits_val hfit w)
  clear h hs hx ha hd ho hf hu hi hf2 hz hfit
  go_enter Try.func12, Try.ntmps12
  go_upto_region 1 with fail
  rw [← hw3, ← hB]
  clear hw3 hB
  go_upto_region 4 with (go_at_call 22; refine (lget_yes b mb cap L s x _ H3.out HS.out HX.out).mono ?_; rintro e w4 ⟨rfl, hb⟩; have H4 := Lib.hid (H3.out.kept hb); have N4 := Lib.hid (N0.out.kept hb); have S4 := Lib.hid (S0.out.kept hb); have HB4 := Lib.hid (below_and HBL.out hb); clear hb)
  obtain ⟨w5, hw5⟩ : ∃ w5, w5 = w4.alloc (.cells #[.string x.n, .string x.i, .int .i64 x.a.c, .int .i64 x.a.r, .int .i64 x.a.d, .int .i64 x.a.p] 48) := ⟨_, rfl⟩
  obtain ⟨X, hX⟩ : ∃ X, X = w4.heap.size := ⟨_, rfl⟩
  have hb5 : Below w4.heap.size w4 w5 := by rw [hw5]; exact below_alloc _ _
  have E5 : Hid (Blk w5 X (entC x) 48) := Lib.hid (by rw [hw5, hX]; exact Blk.made w4 (entC x) _)
  have H5 := Lib.hid (H4.out.kept hb5)
  have N5 := Lib.hid (N4.out.kept hb5)
  have S5 := Lib.hid (S4.out.kept hb5)
  have HB5 := Lib.hid (below_and HB4.out hb5)
  have HXB : Hid (w.heap.size ≤ X) := Lib.hid (by rw [hX]; exact HB4.out.size)
  rw [← hw5, ← hX]
  clear hw5 hX hb5 s0
  have a0 := S5.out.cell (j := 0) rfl
  have a1 := S5.out.cell (j := 1) rfl
  have a2 := S5.out.cell (j := 2) rfl
  have a3 := S5.out.cell (j := 3) rfl
  have HSM : Hid (∀ w', Led w' b mb cap L → w'.cell? ⟨B, 0, none⟩ = some (.string s) → Calls Try.prog 32 #[ptr b, .func (Fn.func 33) #[] #[ptr B]] w' fun e w2 => e = .returned (amV (sumA (inR s) L)) ∧ Below w'.heap.size w' w2) := Lib.hid (fun w' h k => sum2_any b mb cap L s B w' h HD.out HO.out HF.out k)
  go_upto_region 6 with (go_at_call 28; refine (check_any a _).mono ?_; rw [HCK.out]; rintro e w6 ⟨rfl, hb⟩; have H6 := Lib.hid (H5.out.kept hb); have N6 := Lib.hid (N5.out.kept hb); have S6 := Lib.hid (S5.out.kept hb); have E6 := Lib.hid (E5.out.kept hb); have HB6 := Lib.hid (below_and HB5.out hb); clear hb a0 a1 a2 a3)
  have a0 := Past.blk S6.out (j := 0) rfl
  have a1 := Past.blk S6.out (j := 1) rfl
  have a2 := Past.blk S6.out (j := 2) rfl
  have a3 := Past.blk S6.out (j := 3) rfl
  have HN6 := Lib.hid (Past.blk N6.out (j := 0) rfl)
  refine wp_region_past (by kernel_rfl) (by kernel_rfl) ?_
  repeat (go_big_quiet_step (first
    | (go_at_call 32; exact past_call (HSM.out _ (H6.out.kept (Past.h _)) (HN6.out _)))
    | (go_at_call 30; exact past_call (HFU.out _))))
  refine wpQuiet_nil ?_
  intro _ hw'
  obtain ⟨s', hw''⟩ := hw'
  subst hw''
  obtain ⟨w7, h7, e7⟩ : ∃ w7, Below w6.heap.size w6 w7 ∧ w7 = s'.val := ⟨_, s'.h, rfl⟩
  rw [← e7]
  have H7 := Lib.hid (H6.out.kept h7)
  have N7 := Lib.hid (N6.out.kept h7)
  have S7 := Lib.hid (S6.out.kept h7)
  have E7 := Lib.hid (E6.out.kept h7)
  have HB7 := Lib.hid (below_and HB6.out h7)
  clear h7 e7 a0 a1 a2 a3 HN6
  go_upto_region 8 with fail
  have a0 := Past.blk S7.out (j := 0) rfl
  have a1 := Past.blk S7.out (j := 1) rfl
  have a2 := Past.blk S7.out (j := 2) rfl
  have a3 := Past.blk S7.out (j := 3) rfl
  have n0 := Past.blk N7.out (j := 0) rfl
  have e1 := Past.blk E7.out (j := 1) rfl
  refine wp_region_past (by kernel_rfl) (by kernel_rfl) ?_
  repeat (go_big_quiet_step (first
    | (go_at_call 31; exact past_call (HRM.out _ (H7.out.kept (Past.h _))))
    | (go_at_call 30; exact past_call (HFV.out _))))
  refine wpQuiet_nil ?_
  intro _ hw'
  obtain ⟨s', hw''⟩ := hw'
  subst hw''
  obtain ⟨w8, h8, e8⟩ : ∃ w8, Below w7.heap.size w7 w8 ∧ w8 = s'.val := ⟨_, s'.h, rfl⟩
  rw [← e8]
  have H8 := Lib.hid (H7.out.kept h8)
  have N8 := Lib.hid (N7.out.kept h8)
  have S8 := Lib.hid (S7.out.kept h8)
  have E8 := Lib.hid (E7.out.kept h8)
  have HB8 := Lib.hid (below_and HB7.out h8)
  clear h8 e8 a0 a1 a2 a3 n0 e1
  go_wp2
  go_ret
  exact ⟨rfl, HB8.out⟩

set_option maxRecDepth 100000 in
set_option maxHeartbeats 2000000 in
theorem resize_nofit_in (b mb : Nat) (cap : Am) (L : List Ent) (s : ByteArray) (a : Am) (x : Ent) (y : Ent) (w : World) (h : Led w b mb cap L) (hs : s.size ≤ maxLen) (hx : fnd L s.data.toList = some x) (ha : a.okB = true) (hd : Apart L) (ho : Oks L) (hf : Fit (inR s) L) (hu : fitsB (sumA (inR s) L) a = true) (hi : ¬ x.i.toList = []) (ht : x.i.size ≤ maxLen) (hy : fnd L x.i.data.toList = some y) (hf2 : Fit (inB x.i s) L) (z : Am) (er : Int) (hz : subR y.a (sumA (inB x.i s) L) = (z, er)) (hfit : fitsB a z = false) :
    Calls Try.prog 12 #[ptr b, .string s, amV a] w fun e w' => e = .returned (.int .i64 14) ∧ Below w.heap.size w w' := by
  obtain ⟨w3, hw3⟩ : ∃ w3, w3 = (w.alloc (.cells #[.string s] 9)).alloc (.cells #[.int .i64 a.c, .int .i64 a.r, .int .i64 a.d, .int .i64 a.p] 28) := ⟨_, rfl⟩
  obtain ⟨B, hB⟩ : ∃ B, B = w.heap.size := ⟨_, rfl⟩
  have N0 : Hid (Blk w3 B [.string s] 9) := Lib.hid (by rw [hw3, hB]; exact (Blk.made w [.string s] 9).alloc _)
  have S0 : Hid (Blk w3 (B + 1) (amC a) 28) := Lib.hid (by
    have := Blk.made (w.alloc (.cells #[.string s] 9)) (amC a) 28
    rw [hw3, hB]; simpa using this)
  have HBL : Hid (Below w.heap.size w w3) := Lib.hid (by rw [hw3]; exact below_and (below_alloc w _) (below_alloc _ _))
  have H3 : Hid (Led w3 b mb cap L) := Lib.hid (h.kept HBL.out)
  have s0 := N0.out.cell (j := 0) rfl
  have HS := Lib.hid hs
  have HX := Lib.hid hx
  have HCK := Lib.hid (Am.chk_yes ha)
  have HD := Lib.hid hd
  have HO := Lib.hid ho
  have HF := Lib.hid hf
  have HFU : Hid (∀ w, Calls Try.prog 30 #[amV (sumA (inR s) L), amV a] w fun e w' => e = .returned (.bool true) ∧ Below w.heap.size w w') := Lib.hid (fun w => fits_val hu w)
  have HRM : Hid (∀ w, Led w b mb cap L → Calls Try.prog 31 #[ptr b, .string x.i, .string s] w fun e w' => e = .returned (amV z) ∧ Below w.heap.size w w') := Lib.hid (fun w h => room_in b mb cap L x.i s y w h hd ho hf2 hi ht hy z er hz)
  have HFV : Hid (∀ w, Calls Try.prog 30 #[amV a, amV z] w fun e w' => e = .returned (.bool false) ∧ Below w.heap.size w w') := Lib.hid (fun w => fits_val hfit w)
  clear h hs hx ha hd ho hf hu hi hf2 hz hfit ht hy
  go_enter Try.func12, Try.ntmps12
  go_upto_region 1 with fail
  rw [← hw3, ← hB]
  clear hw3 hB
  go_upto_region 4 with (go_at_call 22; refine (lget_yes b mb cap L s x _ H3.out HS.out HX.out).mono ?_; rintro e w4 ⟨rfl, hb⟩; have H4 := Lib.hid (H3.out.kept hb); have N4 := Lib.hid (N0.out.kept hb); have S4 := Lib.hid (S0.out.kept hb); have HB4 := Lib.hid (below_and HBL.out hb); clear hb)
  obtain ⟨w5, hw5⟩ : ∃ w5, w5 = w4.alloc (.cells #[.string x.n, .string x.i, .int .i64 x.a.c, .int .i64 x.a.r, .int .i64 x.a.d, .int .i64 x.a.p] 48) := ⟨_, rfl⟩
  obtain ⟨X, hX⟩ : ∃ X, X = w4.heap.size := ⟨_, rfl⟩
  have hb5 : Below w4.heap.size w4 w5 := by rw [hw5]; exact below_alloc _ _
  have E5 : Hid (Blk w5 X (entC x) 48) := Lib.hid (by rw [hw5, hX]; exact Blk.made w4 (entC x) _)
  have H5 := Lib.hid (H4.out.kept hb5)
  have N5 := Lib.hid (N4.out.kept hb5)
  have S5 := Lib.hid (S4.out.kept hb5)
  have HB5 := Lib.hid (below_and HB4.out hb5)
  have HXB : Hid (w.heap.size ≤ X) := Lib.hid (by rw [hX]; exact HB4.out.size)
  rw [← hw5, ← hX]
  clear hw5 hX hb5 s0
  have a0 := S5.out.cell (j := 0) rfl
  have a1 := S5.out.cell (j := 1) rfl
  have a2 := S5.out.cell (j := 2) rfl
  have a3 := S5.out.cell (j := 3) rfl
  have HSM : Hid (∀ w', Led w' b mb cap L → w'.cell? ⟨B, 0, none⟩ = some (.string s) → Calls Try.prog 32 #[ptr b, .func (Fn.func 33) #[] #[ptr B]] w' fun e w2 => e = .returned (amV (sumA (inR s) L)) ∧ Below w'.heap.size w' w2) := Lib.hid (fun w' h k => sum2_any b mb cap L s B w' h HD.out HO.out HF.out k)
  go_upto_region 6 with (go_at_call 28; refine (check_any a _).mono ?_; rw [HCK.out]; rintro e w6 ⟨rfl, hb⟩; have H6 := Lib.hid (H5.out.kept hb); have N6 := Lib.hid (N5.out.kept hb); have S6 := Lib.hid (S5.out.kept hb); have E6 := Lib.hid (E5.out.kept hb); have HB6 := Lib.hid (below_and HB5.out hb); clear hb a0 a1 a2 a3)
  have a0 := Past.blk S6.out (j := 0) rfl
  have a1 := Past.blk S6.out (j := 1) rfl
  have a2 := Past.blk S6.out (j := 2) rfl
  have a3 := Past.blk S6.out (j := 3) rfl
  have HN6 := Lib.hid (Past.blk N6.out (j := 0) rfl)
  refine wp_region_past (by kernel_rfl) (by kernel_rfl) ?_
  repeat (go_big_quiet_step (first
    | (go_at_call 32; exact past_call (HSM.out _ (H6.out.kept (Past.h _)) (HN6.out _)))
    | (go_at_call 30; exact past_call (HFU.out _))))
  refine wpQuiet_nil ?_
  intro _ hw'
  obtain ⟨s', hw''⟩ := hw'
  subst hw''
  obtain ⟨w7, h7, e7⟩ : ∃ w7, Below w6.heap.size w6 w7 ∧ w7 = s'.val := ⟨_, s'.h, rfl⟩
  rw [← e7]
  have H7 := Lib.hid (H6.out.kept h7)
  have N7 := Lib.hid (N6.out.kept h7)
  have S7 := Lib.hid (S6.out.kept h7)
  have E7 := Lib.hid (E6.out.kept h7)
  have HB7 := Lib.hid (below_and HB6.out h7)
  clear h7 e7 a0 a1 a2 a3 HN6
  go_upto_region 8 with fail
  have a0 := Past.blk S7.out (j := 0) rfl
  have a1 := Past.blk S7.out (j := 1) rfl
  have a2 := Past.blk S7.out (j := 2) rfl
  have a3 := Past.blk S7.out (j := 3) rfl
  have n0 := Past.blk N7.out (j := 0) rfl
  have e1 := Past.blk E7.out (j := 1) rfl
  refine wp_region_past (by kernel_rfl) (by kernel_rfl) ?_
  repeat (go_big_quiet_step (first
    | (go_at_call 31; exact past_call (HRM.out _ (H7.out.kept (Past.h _))))
    | (go_at_call 30; exact past_call (HFV.out _))))
  refine wpQuiet_nil ?_
  intro _ hw'
  obtain ⟨s', hw''⟩ := hw'
  subst hw''
  obtain ⟨w8, h8, e8⟩ : ∃ w8, Below w7.heap.size w7 w8 ∧ w8 = s'.val := ⟨_, s'.h, rfl⟩
  rw [← e8]
  have H8 := Lib.hid (H7.out.kept h8)
  have N8 := Lib.hid (N7.out.kept h8)
  have S8 := Lib.hid (S7.out.kept h8)
  have E8 := Lib.hid (E7.out.kept h8)
  have HB8 := Lib.hid (below_and HB7.out h8)
  clear h8 e8 a0 a1 a2 a3 n0 e1
  go_wp2
  go_ret
  exact ⟨rfl, HB8.out⟩

set_option maxRecDepth 100000 in
set_option maxHeartbeats 2000000 in
theorem resize_ok_top (b mb : Nat) (cap : Am) (L : List Ent) (s : ByteArray) (a : Am) (x : Ent) (w : World) (h : Led w b mb cap L) (hs : s.size ≤ maxLen) (hx : fnd L s.data.toList = some x) (ha : a.okB = true) (hd : Apart L) (ho : Oks L) (hf : Fit (inR s) L) (hu : fitsB (sumA (inR s) L) a = true) (hi : x.i.toList = []) (hf2 : Fit (inB x.i s) L) (z : Am) (er : Int) (hz : subR cap (sumA (inB x.i s) L) = (z, er)) (hln : L.length < maxLen) (hxn : x.n = s) (hfit : fitsB a z = true) :
    Calls Try.prog 12 #[ptr b, .string s, amV a] w fun e w' => e = .returned (.int .i64 0) ∧ Led w' b mb cap (putE L ⟨x.n, x.i, a⟩) ∧ Fr [mb] w w' := by
  obtain ⟨w3, hw3⟩ : ∃ w3, w3 = (w.alloc (.cells #[.string s] 9)).alloc (.cells #[.int .i64 a.c, .int .i64 a.r, .int .i64 a.d, .int .i64 a.p] 28) := ⟨_, rfl⟩
  obtain ⟨B, hB⟩ : ∃ B, B = w.heap.size := ⟨_, rfl⟩
  have N0 : Hid (Blk w3 B [.string s] 9) := Lib.hid (by rw [hw3, hB]; exact (Blk.made w [.string s] 9).alloc _)
  have S0 : Hid (Blk w3 (B + 1) (amC a) 28) := Lib.hid (by
    have := Blk.made (w.alloc (.cells #[.string s] 9)) (amC a) 28
    rw [hw3, hB]; simpa using this)
  have HBL : Hid (Below w.heap.size w w3) := Lib.hid (by rw [hw3]; exact below_and (below_alloc w _) (below_alloc _ _))
  have H3 : Hid (Led w3 b mb cap L) := Lib.hid (h.kept HBL.out)
  have s0 := N0.out.cell (j := 0) rfl
  have HS := Lib.hid hs
  have HX := Lib.hid hx
  have HCK := Lib.hid (Am.chk_yes ha)
  have HD := Lib.hid hd
  have HO := Lib.hid ho
  have HF := Lib.hid hf
  have HFU : Hid (∀ w, Calls Try.prog 30 #[amV (sumA (inR s) L), amV a] w fun e w' => e = .returned (.bool true) ∧ Below w.heap.size w w') := Lib.hid (fun w => fits_val hu w)
  have HRM : Hid (∀ w, Led w b mb cap L → Calls Try.prog 31 #[ptr b, .string x.i, .string s] w fun e w' => e = .returned (amV z) ∧ Below w.heap.size w w') := Lib.hid (fun w h => room_top b mb cap L x.i s w h hd ho hf2 hi z er hz)
  have HFV : Hid (∀ w, Calls Try.prog 30 #[amV a, amV z] w fun e w' => e = .returned (.bool true) ∧ Below w.heap.size w w') := Lib.hid (fun w => fits_val hfit w)
  have HLN := Lib.hid hln
  have HXN := Lib.hid hxn
  have HL0 := Lib.hid h
  clear h hs hx ha hd ho hf hu hi hf2 hz hfit hln hxn
  go_enter Try.func12, Try.ntmps12
  go_upto_region 1 with fail
  rw [← hw3, ← hB]
  clear hw3 hB
  go_upto_region 4 with (go_at_call 22; refine (lget_yes b mb cap L s x _ H3.out HS.out HX.out).mono ?_; rintro e w4 ⟨rfl, hb⟩; have H4 := Lib.hid (H3.out.kept hb); have N4 := Lib.hid (N0.out.kept hb); have S4 := Lib.hid (S0.out.kept hb); have HB4 := Lib.hid (below_and HBL.out hb); clear hb)
  obtain ⟨w5, hw5⟩ : ∃ w5, w5 = w4.alloc (.cells #[.string x.n, .string x.i, .int .i64 x.a.c, .int .i64 x.a.r, .int .i64 x.a.d, .int .i64 x.a.p] 48) := ⟨_, rfl⟩
  obtain ⟨X, hX⟩ : ∃ X, X = w4.heap.size := ⟨_, rfl⟩
  have hb5 : Below w4.heap.size w4 w5 := by rw [hw5]; exact below_alloc _ _
  have E5 : Hid (Blk w5 X (entC x) 48) := Lib.hid (by rw [hw5, hX]; exact Blk.made w4 (entC x) _)
  have H5 := Lib.hid (H4.out.kept hb5)
  have N5 := Lib.hid (N4.out.kept hb5)
  have S5 := Lib.hid (S4.out.kept hb5)
  have HB5 := Lib.hid (below_and HB4.out hb5)
  have HXB : Hid (w.heap.size ≤ X) := Lib.hid (by rw [hX]; exact HB4.out.size)
  have HXNE : Hid (B ≠ X) := Lib.hid (by rw [hX]; have := N4.out.lt; omega)
  rw [← hw5, ← hX]
  clear hw5 hX hb5 s0
  have a0 := S5.out.cell (j := 0) rfl
  have a1 := S5.out.cell (j := 1) rfl
  have a2 := S5.out.cell (j := 2) rfl
  have a3 := S5.out.cell (j := 3) rfl
  have HSM : Hid (∀ w', Led w' b mb cap L → w'.cell? ⟨B, 0, none⟩ = some (.string s) → Calls Try.prog 32 #[ptr b, .func (Fn.func 33) #[] #[ptr B]] w' fun e w2 => e = .returned (amV (sumA (inR s) L)) ∧ Below w'.heap.size w' w2) := Lib.hid (fun w' h k => sum2_any b mb cap L s B w' h HD.out HO.out HF.out k)
  go_upto_region 6 with (go_at_call 28; refine (check_any a _).mono ?_; rw [HCK.out]; rintro e w6 ⟨rfl, hb⟩; have H6 := Lib.hid (H5.out.kept hb); have N6 := Lib.hid (N5.out.kept hb); have S6 := Lib.hid (S5.out.kept hb); have E6 := Lib.hid (E5.out.kept hb); have HB6 := Lib.hid (below_and HB5.out hb); clear hb a0 a1 a2 a3)
  have a0 := Past.blk S6.out (j := 0) rfl
  have a1 := Past.blk S6.out (j := 1) rfl
  have a2 := Past.blk S6.out (j := 2) rfl
  have a3 := Past.blk S6.out (j := 3) rfl
  have HN6 := Lib.hid (Past.blk N6.out (j := 0) rfl)
  refine wp_region_past (by kernel_rfl) (by kernel_rfl) ?_
  repeat (go_big_quiet_step (first
    | (go_at_call 32; exact past_call (HSM.out _ (H6.out.kept (Past.h _)) (HN6.out _)))
    | (go_at_call 30; exact past_call (HFU.out _))))
  refine wpQuiet_nil ?_
  intro _ hw'
  obtain ⟨s', hw''⟩ := hw'
  subst hw''
  obtain ⟨w7, h7, e7⟩ : ∃ w7, Below w6.heap.size w6 w7 ∧ w7 = s'.val := ⟨_, s'.h, rfl⟩
  rw [← e7]
  have H7 := Lib.hid (H6.out.kept h7)
  have N7 := Lib.hid (N6.out.kept h7)
  have S7 := Lib.hid (S6.out.kept h7)
  have E7 := Lib.hid (E6.out.kept h7)
  have HB7 := Lib.hid (below_and HB6.out h7)
  clear h7 e7 a0 a1 a2 a3 HN6
  go_upto_region 8 with fail
  have a0 := Past.blk S7.out (j := 0) rfl
  have a1 := Past.blk S7.out (j := 1) rfl
  have a2 := Past.blk S7.out (j := 2) rfl
  have a3 := Past.blk S7.out (j := 3) rfl
  have n0 := Past.blk N7.out (j := 0) rfl
  have e1 := Past.blk E7.out (j := 1) rfl
  refine wp_region_past (by kernel_rfl) (by kernel_rfl) ?_
  repeat (go_big_quiet_step (first
    | (go_at_call 31; exact past_call (HRM.out _ (H7.out.kept (Past.h _))))
    | (go_at_call 30; exact past_call (HFV.out _))))
  refine wpQuiet_nil ?_
  intro _ hw'
  obtain ⟨s', hw''⟩ := hw'
  subst hw''
  obtain ⟨w8, h8, e8⟩ : ∃ w8, Below w7.heap.size w7 w8 ∧ w8 = s'.val := ⟨_, s'.h, rfl⟩
  rw [← e8]
  have H8 := Lib.hid (H7.out.kept h8)
  have N8 := Lib.hid (N7.out.kept h8)
  have S8 := Lib.hid (S7.out.kept h8)
  have E8 := Lib.hid (E7.out.kept h8)
  have HB8 := Lib.hid (below_and HB7.out h8)
  clear h8 e8 a0 a1 a2 a3 n0 e1
  have a0 := S8.out.cell (j := 0) rfl
  have a1 := S8.out.cell (j := 1) rfl
  have a2 := S8.out.cell (j := 2) rfl
  have a3 := S8.out.cell (j := 3) rfl
  have e2 := E8.out.cell (j := 2) rfl
  have f2 := E8.out.free 2
  have e3 := E8.out.cell (j := 3) rfl
  have f3 := E8.out.free 3
  have e4 := E8.out.cell (j := 4) rfl
  have f4 := E8.out.free 4
  have e5 := E8.out.cell (j := 5) rfl
  have f5 := E8.out.free 5
  go_upto_region 11 with fail
  obtain ⟨w9, hw9⟩ : ∃ w9, w9 = (((w8.setCell ⟨X, 2, none⟩ (.int .i64 a.c)).setCell ⟨X, 3, none⟩ (.int .i64 a.r)).setCell ⟨X, 4, none⟩ (.int .i64 a.d)).setCell ⟨X, 5, none⟩ (.int .i64 a.p) := ⟨_, rfl⟩
  have E9 : Hid (Blk w9 X (entC ⟨x.n, x.i, a⟩) 48) := Lib.hid (by rw [hw9]; exact (((E8.out.set 2 (.int .i64 a.c)).set 3 (.int .i64 a.r)).set 4 (.int .i64 a.d)).set 5 (.int .i64 a.p))
  have hXB := HXB.out
  have HB9 : Hid (Below w.heap.size w w9) := Lib.hid (by rw [hw9]; exact (((HB8.out.setCell (p := ⟨X, 2, none⟩) hXB _).setCell (p := ⟨X, 3, none⟩) hXB _).setCell (p := ⟨X, 4, none⟩) hXB _).setCell (p := ⟨X, 5, none⟩) hXB _)
  have H9 : Hid (Led w9 b mb cap L) := Lib.hid (HL0.out.kept HB9.out)
  have N9 : Hid (Blk w9 B [.string s] 9) := Lib.hid (by
    rw [hw9]
    have hne := HXNE.out
    exact (((N8.out.other (a := ⟨X, 2, none⟩) hne _).other (a := ⟨X, 3, none⟩) hne _).other (a := ⟨X, 4, none⟩) hne _).other (a := ⟨X, 5, none⟩) hne _)
  rw [← hw9]
  clear hw9 hXB a0 a1 a2 a3 e2 e3 e4 e5 f2 f3 f4 f5
  have e0 := Past.blk E9.out (j := 0) rfl
  have e1 := Past.blk E9.out (j := 1) rfl
  have e2 := Past.blk E9.out (j := 2) rfl
  have e3 := Past.blk E9.out (j := 3) rfl
  have e4 := Past.blk E9.out (j := 4) rfl
  have e5 := Past.blk E9.out (j := 5) rfl
  have n0 := Past.blk N9.out (j := 0) rfl
  have p4 := Past.blk H9.out.blk (j := 4) rfl
  refine wp_region_past_last (by rfl) (by kernel_rfl) (by kernel_rfl) (by kernel_rfl) ?_
  simp only [List.dropLast, List.getLast_cons_cons, List.getLast_singleton]
  repeat (go_big_quiet_step (fail))
  refine wpQuiet_nil ?_
  intro _ hw'
  obtain ⟨s2, hw''⟩ := hw'
  subst hw''
  obtain ⟨v7, h7, e7⟩ : ∃ v7, Below w9.heap.size w9 v7 ∧ v7 = s2.val := ⟨_, s2.h, rfl⟩
  rw [← e7]
  have HV := Lib.hid (H9.out.kept h7)
  have HBV := Lib.hid (below_and HB9.out h7)
  clear h7 e7 e0 e1 e2 e3 e4 e5 n0 p4
  go_wp2_with (refine wpList_sput _ rfl _ _ _ _ rfl 9 48 Try.underlying9 Try.underlying52 mb (entM L) rfl HV.out.map (by rw [entM_len]; exact HLN.out) s (entV ⟨x.n, x.i, a⟩) rfl rfl HS.out ?_; intro v8 hp8 hg8; have HP8 := Lib.hid hp8; have HG8 := Lib.hid hg8; clear hp8 hg8)
  go_ret
  exact ⟨rfl, led_put (x := ⟨x.n, x.i, a⟩) HV.out (by have := HP8.out; rw [← HXN.out] at this; exact this) HG8.out, (Fr.of_below HBV.out [mb]).then (Fr.of_grown HG8.out)⟩

set_option maxRecDepth 100000 in
set_option maxHeartbeats 2000000 in
theorem resize_ok_in (b mb : Nat) (cap : Am) (L : List Ent) (s : ByteArray) (a : Am) (x : Ent) (y : Ent) (w : World) (h : Led w b mb cap L) (hs : s.size ≤ maxLen) (hx : fnd L s.data.toList = some x) (ha : a.okB = true) (hd : Apart L) (ho : Oks L) (hf : Fit (inR s) L) (hu : fitsB (sumA (inR s) L) a = true) (hi : ¬ x.i.toList = []) (ht : x.i.size ≤ maxLen) (hy : fnd L x.i.data.toList = some y) (hf2 : Fit (inB x.i s) L) (z : Am) (er : Int) (hz : subR y.a (sumA (inB x.i s) L) = (z, er)) (hln : L.length < maxLen) (hxn : x.n = s) (hfit : fitsB a z = true) :
    Calls Try.prog 12 #[ptr b, .string s, amV a] w fun e w' => e = .returned (.int .i64 0) ∧ Led w' b mb cap (putE L ⟨x.n, x.i, a⟩) ∧ Fr [mb] w w' := by
  obtain ⟨w3, hw3⟩ : ∃ w3, w3 = (w.alloc (.cells #[.string s] 9)).alloc (.cells #[.int .i64 a.c, .int .i64 a.r, .int .i64 a.d, .int .i64 a.p] 28) := ⟨_, rfl⟩
  obtain ⟨B, hB⟩ : ∃ B, B = w.heap.size := ⟨_, rfl⟩
  have N0 : Hid (Blk w3 B [.string s] 9) := Lib.hid (by rw [hw3, hB]; exact (Blk.made w [.string s] 9).alloc _)
  have S0 : Hid (Blk w3 (B + 1) (amC a) 28) := Lib.hid (by
    have := Blk.made (w.alloc (.cells #[.string s] 9)) (amC a) 28
    rw [hw3, hB]; simpa using this)
  have HBL : Hid (Below w.heap.size w w3) := Lib.hid (by rw [hw3]; exact below_and (below_alloc w _) (below_alloc _ _))
  have H3 : Hid (Led w3 b mb cap L) := Lib.hid (h.kept HBL.out)
  have s0 := N0.out.cell (j := 0) rfl
  have HS := Lib.hid hs
  have HX := Lib.hid hx
  have HCK := Lib.hid (Am.chk_yes ha)
  have HD := Lib.hid hd
  have HO := Lib.hid ho
  have HF := Lib.hid hf
  have HFU : Hid (∀ w, Calls Try.prog 30 #[amV (sumA (inR s) L), amV a] w fun e w' => e = .returned (.bool true) ∧ Below w.heap.size w w') := Lib.hid (fun w => fits_val hu w)
  have HRM : Hid (∀ w, Led w b mb cap L → Calls Try.prog 31 #[ptr b, .string x.i, .string s] w fun e w' => e = .returned (amV z) ∧ Below w.heap.size w w') := Lib.hid (fun w h => room_in b mb cap L x.i s y w h hd ho hf2 hi ht hy z er hz)
  have HFV : Hid (∀ w, Calls Try.prog 30 #[amV a, amV z] w fun e w' => e = .returned (.bool true) ∧ Below w.heap.size w w') := Lib.hid (fun w => fits_val hfit w)
  have HLN := Lib.hid hln
  have HXN := Lib.hid hxn
  have HL0 := Lib.hid h
  clear h hs hx ha hd ho hf hu hi hf2 hz hfit ht hy hln hxn
  go_enter Try.func12, Try.ntmps12
  go_upto_region 1 with fail
  rw [← hw3, ← hB]
  clear hw3 hB
  go_upto_region 4 with (go_at_call 22; refine (lget_yes b mb cap L s x _ H3.out HS.out HX.out).mono ?_; rintro e w4 ⟨rfl, hb⟩; have H4 := Lib.hid (H3.out.kept hb); have N4 := Lib.hid (N0.out.kept hb); have S4 := Lib.hid (S0.out.kept hb); have HB4 := Lib.hid (below_and HBL.out hb); clear hb)
  obtain ⟨w5, hw5⟩ : ∃ w5, w5 = w4.alloc (.cells #[.string x.n, .string x.i, .int .i64 x.a.c, .int .i64 x.a.r, .int .i64 x.a.d, .int .i64 x.a.p] 48) := ⟨_, rfl⟩
  obtain ⟨X, hX⟩ : ∃ X, X = w4.heap.size := ⟨_, rfl⟩
  have hb5 : Below w4.heap.size w4 w5 := by rw [hw5]; exact below_alloc _ _
  have E5 : Hid (Blk w5 X (entC x) 48) := Lib.hid (by rw [hw5, hX]; exact Blk.made w4 (entC x) _)
  have H5 := Lib.hid (H4.out.kept hb5)
  have N5 := Lib.hid (N4.out.kept hb5)
  have S5 := Lib.hid (S4.out.kept hb5)
  have HB5 := Lib.hid (below_and HB4.out hb5)
  have HXB : Hid (w.heap.size ≤ X) := Lib.hid (by rw [hX]; exact HB4.out.size)
  have HXNE : Hid (B ≠ X) := Lib.hid (by rw [hX]; have := N4.out.lt; omega)
  rw [← hw5, ← hX]
  clear hw5 hX hb5 s0
  have a0 := S5.out.cell (j := 0) rfl
  have a1 := S5.out.cell (j := 1) rfl
  have a2 := S5.out.cell (j := 2) rfl
  have a3 := S5.out.cell (j := 3) rfl
  have HSM : Hid (∀ w', Led w' b mb cap L → w'.cell? ⟨B, 0, none⟩ = some (.string s) → Calls Try.prog 32 #[ptr b, .func (Fn.func 33) #[] #[ptr B]] w' fun e w2 => e = .returned (amV (sumA (inR s) L)) ∧ Below w'.heap.size w' w2) := Lib.hid (fun w' h k => sum2_any b mb cap L s B w' h HD.out HO.out HF.out k)
  go_upto_region 6 with (go_at_call 28; refine (check_any a _).mono ?_; rw [HCK.out]; rintro e w6 ⟨rfl, hb⟩; have H6 := Lib.hid (H5.out.kept hb); have N6 := Lib.hid (N5.out.kept hb); have S6 := Lib.hid (S5.out.kept hb); have E6 := Lib.hid (E5.out.kept hb); have HB6 := Lib.hid (below_and HB5.out hb); clear hb a0 a1 a2 a3)
  have a0 := Past.blk S6.out (j := 0) rfl
  have a1 := Past.blk S6.out (j := 1) rfl
  have a2 := Past.blk S6.out (j := 2) rfl
  have a3 := Past.blk S6.out (j := 3) rfl
  have HN6 := Lib.hid (Past.blk N6.out (j := 0) rfl)
  refine wp_region_past (by kernel_rfl) (by kernel_rfl) ?_
  repeat (go_big_quiet_step (first
    | (go_at_call 32; exact past_call (HSM.out _ (H6.out.kept (Past.h _)) (HN6.out _)))
    | (go_at_call 30; exact past_call (HFU.out _))))
  refine wpQuiet_nil ?_
  intro _ hw'
  obtain ⟨s', hw''⟩ := hw'
  subst hw''
  obtain ⟨w7, h7, e7⟩ : ∃ w7, Below w6.heap.size w6 w7 ∧ w7 = s'.val := ⟨_, s'.h, rfl⟩
  rw [← e7]
  have H7 := Lib.hid (H6.out.kept h7)
  have N7 := Lib.hid (N6.out.kept h7)
  have S7 := Lib.hid (S6.out.kept h7)
  have E7 := Lib.hid (E6.out.kept h7)
  have HB7 := Lib.hid (below_and HB6.out h7)
  clear h7 e7 a0 a1 a2 a3 HN6
  go_upto_region 8 with fail
  have a0 := Past.blk S7.out (j := 0) rfl
  have a1 := Past.blk S7.out (j := 1) rfl
  have a2 := Past.blk S7.out (j := 2) rfl
  have a3 := Past.blk S7.out (j := 3) rfl
  have n0 := Past.blk N7.out (j := 0) rfl
  have e1 := Past.blk E7.out (j := 1) rfl
  refine wp_region_past (by kernel_rfl) (by kernel_rfl) ?_
  repeat (go_big_quiet_step (first
    | (go_at_call 31; exact past_call (HRM.out _ (H7.out.kept (Past.h _))))
    | (go_at_call 30; exact past_call (HFV.out _))))
  refine wpQuiet_nil ?_
  intro _ hw'
  obtain ⟨s', hw''⟩ := hw'
  subst hw''
  obtain ⟨w8, h8, e8⟩ : ∃ w8, Below w7.heap.size w7 w8 ∧ w8 = s'.val := ⟨_, s'.h, rfl⟩
  rw [← e8]
  have H8 := Lib.hid (H7.out.kept h8)
  have N8 := Lib.hid (N7.out.kept h8)
  have S8 := Lib.hid (S7.out.kept h8)
  have E8 := Lib.hid (E7.out.kept h8)
  have HB8 := Lib.hid (below_and HB7.out h8)
  clear h8 e8 a0 a1 a2 a3 n0 e1
  have a0 := S8.out.cell (j := 0) rfl
  have a1 := S8.out.cell (j := 1) rfl
  have a2 := S8.out.cell (j := 2) rfl
  have a3 := S8.out.cell (j := 3) rfl
  have e2 := E8.out.cell (j := 2) rfl
  have f2 := E8.out.free 2
  have e3 := E8.out.cell (j := 3) rfl
  have f3 := E8.out.free 3
  have e4 := E8.out.cell (j := 4) rfl
  have f4 := E8.out.free 4
  have e5 := E8.out.cell (j := 5) rfl
  have f5 := E8.out.free 5
  go_upto_region 11 with fail
  obtain ⟨w9, hw9⟩ : ∃ w9, w9 = (((w8.setCell ⟨X, 2, none⟩ (.int .i64 a.c)).setCell ⟨X, 3, none⟩ (.int .i64 a.r)).setCell ⟨X, 4, none⟩ (.int .i64 a.d)).setCell ⟨X, 5, none⟩ (.int .i64 a.p) := ⟨_, rfl⟩
  have E9 : Hid (Blk w9 X (entC ⟨x.n, x.i, a⟩) 48) := Lib.hid (by rw [hw9]; exact (((E8.out.set 2 (.int .i64 a.c)).set 3 (.int .i64 a.r)).set 4 (.int .i64 a.d)).set 5 (.int .i64 a.p))
  have hXB := HXB.out
  have HB9 : Hid (Below w.heap.size w w9) := Lib.hid (by rw [hw9]; exact (((HB8.out.setCell (p := ⟨X, 2, none⟩) hXB _).setCell (p := ⟨X, 3, none⟩) hXB _).setCell (p := ⟨X, 4, none⟩) hXB _).setCell (p := ⟨X, 5, none⟩) hXB _)
  have H9 : Hid (Led w9 b mb cap L) := Lib.hid (HL0.out.kept HB9.out)
  have N9 : Hid (Blk w9 B [.string s] 9) := Lib.hid (by
    rw [hw9]
    have hne := HXNE.out
    exact (((N8.out.other (a := ⟨X, 2, none⟩) hne _).other (a := ⟨X, 3, none⟩) hne _).other (a := ⟨X, 4, none⟩) hne _).other (a := ⟨X, 5, none⟩) hne _)
  rw [← hw9]
  clear hw9 hXB a0 a1 a2 a3 e2 e3 e4 e5 f2 f3 f4 f5
  have e0 := Past.blk E9.out (j := 0) rfl
  have e1 := Past.blk E9.out (j := 1) rfl
  have e2 := Past.blk E9.out (j := 2) rfl
  have e3 := Past.blk E9.out (j := 3) rfl
  have e4 := Past.blk E9.out (j := 4) rfl
  have e5 := Past.blk E9.out (j := 5) rfl
  have n0 := Past.blk N9.out (j := 0) rfl
  have p4 := Past.blk H9.out.blk (j := 4) rfl
  refine wp_region_past_last (by rfl) (by kernel_rfl) (by kernel_rfl) (by kernel_rfl) ?_
  simp only [List.dropLast, List.getLast_cons_cons, List.getLast_singleton]
  repeat (go_big_quiet_step (fail))
  refine wpQuiet_nil ?_
  intro _ hw'
  obtain ⟨s2, hw''⟩ := hw'
  subst hw''
  obtain ⟨v7, h7, e7⟩ : ∃ v7, Below w9.heap.size w9 v7 ∧ v7 = s2.val := ⟨_, s2.h, rfl⟩
  rw [← e7]
  have HV := Lib.hid (H9.out.kept h7)
  have HBV := Lib.hid (below_and HB9.out h7)
  clear h7 e7 e0 e1 e2 e3 e4 e5 n0 p4
  go_wp2_with (refine wpList_sput _ rfl _ _ _ _ rfl 9 48 Try.underlying9 Try.underlying52 mb (entM L) rfl HV.out.map (by rw [entM_len]; exact HLN.out) s (entV ⟨x.n, x.i, a⟩) rfl rfl HS.out ?_; intro v8 hp8 hg8; have HP8 := Lib.hid hp8; have HG8 := Lib.hid hg8; clear hp8 hg8)
  go_ret
  exact ⟨rfl, led_put (x := ⟨x.n, x.i, a⟩) HV.out (by have := HP8.out; rw [← HXN.out] at this; exact this) HG8.out, (Fr.of_below HBV.out [mb]).then (Fr.of_grown HG8.out)⟩
end Go.Proofs.Ytighcnecajgkpaa
namespace Go.Proofs.Ytighcnecajgkpaa
open Go.RowKit

/-- what is left in a place, one aside -/
def roomP (whole : Am) (L : List Ent) (t aside : ByteArray) : Am := (subR whole (sumA (inB t aside) L)).1
def takeP (cap : Am) (L : List Ent) (s t : ByteArray) (a : Am) : Int × List Ent :=
  if s.size < 1 ∨ 64 < s.size ∨ a.okB = false then (2, L) else
  match fnd L s.data.toList with
  | some _ => (7, L)
  | none => if t.toList = [] then (if fitsB a (roomP cap L t ⟨#[]⟩) then (0, putE L ⟨s, t, a⟩) else (14, L)) else
    match fnd L t.data.toList with
    | none => (6, L)
    | some y => if y.i.toList = [] then (if fitsB a (roomP y.a L t ⟨#[]⟩) then (0, putE L ⟨s, t, a⟩) else (14, L)) else (13, L)
def giveP (L : List Ent) (s : ByteArray) : Int × List Ent :=
  match fnd L s.data.toList with
  | none => (6, L)
  | some _ => if inL s L = [] then (0, rem L s.data.toList) else (13, L)
def resizeP (cap : Am) (L : List Ent) (s : ByteArray) (a : Am) : Int × List Ent :=
  match fnd L s.data.toList with
  | none => (6, L)
  | some x => if a.okB = false then (2, L) else if fitsB (sumA (inR s) L) a = false then (13, L) else
    if x.i.toList = [] then (if fitsB a (roomP cap L x.i s) then (0, putE L ⟨x.n, x.i, a⟩) else (14, L)) else
    match fnd L x.i.data.toList with
    | none => (14, L)
    | some y => if fitsB a (roomP y.a L x.i s) then (0, putE L ⟨x.n, x.i, a⟩) else (14, L)

theorem sub_pair (x y : Am) : subR x y = ((subR x y).1, (subR x y).2) := rfl
theorem stay {w w' : World} {b mb : Nat} {cap : Am} {L : List Ent} (h : Led w b mb cap L) (hb : Below w.heap.size w w') : Led w' b mb cap L ∧ Fr [mb] w w' := ⟨h.kept hb, Fr.of_below hb [mb]⟩

theorem take_all (b mb : Nat) (cap : Am) (L : List Ent) (s t : ByteArray) (a : Am) (w : World) (h : Led w b mb cap L) (hI : Inv cap L) (ht : t.size ≤ maxLen) (hln : L.length < maxLen) :
    Calls Try.prog 9 #[ptr b, .string s, .string t, amV a] w fun e w' => e = .returned (.int .i64 (takeP cap L s t a).1) ∧ Led w' b mb cap (takeP cap L s t a).2 ∧ Fr [mb] w w' := by
  have up : ∀ r, takeP cap L s t a = (r, L) → (Calls Try.prog 9 #[ptr b, .string s, .string t, amV a] w fun e w' => e = .returned (.int .i64 r) ∧ Below w.heap.size w w') → Calls Try.prog 9 #[ptr b, .string s, .string t, amV a] w fun e w' => e = .returned (.int .i64 (takeP cap L s t a).1) ∧ Led w' b mb cap (takeP cap L s t a).2 ∧ Fr [mb] w w' := by
    intro r hr hc
    rw [hr]
    exact hc.mono fun e w' ⟨h1, h2⟩ => ⟨h1, stay h h2⟩
  by_cases h1 : s.size < 1
  · exact up 2 (by unfold takeP; rw [if_pos (.inl h1)]) (take_len b mb cap L s t a w h (.inl (by omega)))
  by_cases h2 : 64 < s.size
  · exact up 2 (by unfold takeP; rw [if_pos (.inr (.inl h2))]) (take_len b mb cap L s t a w h (.inr h2))
  cases ha : a.okB
  · exact up 2 (by unfold takeP; rw [if_pos (.inr (.inr ha))]) (take_bad b mb cap L s t a w h (by omega) (by omega) ha)
  have hc : ¬ (s.size < 1 ∨ 64 < s.size ∨ a.okB = false) := by
    rintro (h3 | h3 | h3)
    · exact h1 h3
    · exact h2 h3
    · rw [ha] at h3; cases h3
  cases hx : fnd L s.data.toList with
  | some x => exact up 7 (by unfold takeP; rw [if_neg hc, hx]) (take_there b mb cap L s t a x w h (by omega) (by omega) ha hx)
  | none =>
    by_cases hi : t.toList = []
    · cases hf : fitsB a (roomP cap L t ⟨#[]⟩)
      · exact up 14 (by unfold takeP; rw [if_neg hc, hx]; simp only [if_pos hi, hf]; rfl) (take_nofit_top b mb cap L s t a w h (by omega) (by omega) ha hx hi hI.rise.apart hI.oks (hI.fit2 _ _) _ _ (sub_pair _ _) hf)
      · have hr : takeP cap L s t a = (0, putE L ⟨s, t, a⟩) := by unfold takeP; rw [if_neg hc, hx]; simp only [if_pos hi, hf]; rfl
        rw [hr]
        exact take_ok_top b mb cap L s t a w h (by omega) (by omega) ha hx hi hI.rise.apart hI.oks (hI.fit2 _ _) _ _ (sub_pair _ _) hln hf
    · cases hy : fnd L t.data.toList with
      | none => exact up 6 (by unfold takeP; rw [if_neg hc, hx]; simp only [if_neg hi, hy]) (take_none b mb cap L s t a w h (by omega) (by omega) ha hx hi ht hy)
      | some y =>
        by_cases hyi : y.i.toList = []
        · cases hf : fitsB a (roomP y.a L t ⟨#[]⟩)
          · exact up 14 (by unfold takeP; rw [if_neg hc, hx]; simp only [if_neg hi, hy, if_pos hyi, hf]; rfl) (take_nofit_in b mb cap L s t a y w h (by omega) (by omega) ha hx hi ht hy hyi hI.rise.apart hI.oks (hI.fit2 _ _) _ _ (sub_pair _ _) hf)
          · have hr : takeP cap L s t a = (0, putE L ⟨s, t, a⟩) := by unfold takeP; rw [if_neg hc, hx]; simp only [if_neg hi, hy, if_pos hyi, hf]; rfl
            rw [hr]
            exact take_ok_in b mb cap L s t a y w h (by omega) (by omega) ha hx hi ht hy hyi hI.rise.apart hI.oks (hI.fit2 _ _) _ _ (sub_pair _ _) hln hf
        · exact up 13 (by unfold takeP; rw [if_neg hc, hx]; simp only [if_neg hi, hy, if_neg hyi]) (take_state b mb cap L s t a y w h (by omega) (by omega) ha hx hi ht hy hyi)

theorem Inv.size {cap : Am} {L : List Ent} (h : Inv cap L) : ∀ e ∈ L, e.n.size ≤ maxLen := fun e he => by have := (h.nm e he).2; unfold maxLen; omega

theorem give_all (b mb : Nat) (cap : Am) (L : List Ent) (s : ByteArray) (w : World) (h : Led w b mb cap L) (hI : Inv cap L) (hs : s.size ≤ maxLen) (hl : L.length ≤ 100000) :
    Calls Try.prog 11 #[ptr b, .string s] w fun e w' => e = .returned (.int .i64 (giveP L s).1) ∧ Led w' b mb cap (giveP L s).2 ∧ Fr [mb] w w' := by
  cases hx : fnd L s.data.toList with
  | none =>
    have hr : giveP L s = (6, L) := by unfold giveP; rw [hx]
    rw [hr]
    exact (give_none b mb cap L s w h hs hx).mono fun e w' ⟨h1, h2⟩ => ⟨h1, stay h h2⟩
  | some x =>
    by_cases hi : inL s L = []
    · have hr : giveP L s = (0, rem L s.data.toList) := by unfold giveP; rw [hx]; exact if_pos hi
      rw [hr]
      exact give_ok b mb cap L s x w h hs hx hI.rise hI.size hl hi
    · have hr : giveP L s = (13, L) := by unfold giveP; rw [hx]; exact if_neg hi
      rw [hr]
      exact (give_state b mb cap L s x w h hs hx hI.rise hI.size hl hi).mono fun e w' ⟨h1, h2⟩ => ⟨h1, stay h h2⟩

theorem data_ext {s t : ByteArray} (h : s.data.toList = t.data.toList) : s = t := by
  cases s; cases t
  congr 1
  exact Array.toList_inj.1 h

theorem resize_all (b mb : Nat) (cap : Am) (L : List Ent) (s : ByteArray) (a : Am) (w : World) (h : Led w b mb cap L) (hI : Inv cap L) (hs : s.size ≤ maxLen) (hln : L.length < maxLen) :
    Calls Try.prog 12 #[ptr b, .string s, amV a] w fun e w' => e = .returned (.int .i64 (resizeP cap L s a).1) ∧ Led w' b mb cap (resizeP cap L s a).2 ∧ Fr [mb] w w' := by
  have up : ∀ r, resizeP cap L s a = (r, L) → (Calls Try.prog 12 #[ptr b, .string s, amV a] w fun e w' => e = .returned (.int .i64 r) ∧ Below w.heap.size w w') → Calls Try.prog 12 #[ptr b, .string s, amV a] w fun e w' => e = .returned (.int .i64 (resizeP cap L s a).1) ∧ Led w' b mb cap (resizeP cap L s a).2 ∧ Fr [mb] w w' := by
    intro r hr hc
    rw [hr]
    exact hc.mono fun e w' ⟨h1, h2⟩ => ⟨h1, stay h h2⟩
  cases hx : fnd L s.data.toList with
  | none => exact up 6 (by unfold resizeP; rw [hx]) (resize_none b mb cap L s a w h hs hx)
  | some x =>
    obtain ⟨hxm, hxk⟩ := fnd_mem hx
    have hxn : x.n = s := data_ext hxk
    cases ha : a.okB
    · exact up 2 (by unfold resizeP; rw [hx]; simp only [ha]; rfl) (resize_bad b mb cap L s a x w h hs hx ha)
    cases hu : fitsB (sumA (inR s) L) a
    · exact up 13 (by unfold resizeP; rw [hx]; simp only [ha, hu]; rfl) (resize_state b mb cap L s a x w h hs hx ha hI.rise.apart hI.oks (hI.fit s) hu)
    by_cases hi : x.i.toList = []
    · cases hf : fitsB a (roomP cap L x.i s)
      · exact up 14 (by unfold resizeP; rw [hx]; simp only [ha, hu, hi, hf]; rfl) (resize_nofit_top b mb cap L s a x w h hs hx ha hI.rise.apart hI.oks (hI.fit s) hu hi (hI.fit2 _ _) _ _ (sub_pair _ _) hf)
      · have hr : resizeP cap L s a = (0, putE L ⟨x.n, x.i, a⟩) := by unfold resizeP; rw [hx]; simp only [ha, hu, hi, hf]; rfl
        rw [hr]
        exact resize_ok_top b mb cap L s a x w h hs hx ha hI.rise.apart hI.oks (hI.fit s) hu hi (hI.fit2 _ _) _ _ (sub_pair _ _) hln hxn hf
    · obtain ⟨y, hy, hyn, hyi⟩ := hI.par x hxm hi
      have hyk : fnd L x.i.data.toList = some y := by
        rw [← Lib.toList_data x.i, ← hyn, tl_key]
        exact fnd_of hI.rise.apart hy
      have hxi : x.i.size ≤ maxLen := by
        have h1 := hI.size y hy
        have h2 : y.n = x.i := data_ext (by rw [← Lib.toList_data, ← Lib.toList_data, hyn])
        rw [← h2]; exact h1
      cases hf : fitsB a (roomP y.a L x.i s)
      · exact up 14 (by unfold resizeP; rw [hx]; simp only [ha, hu, if_neg hi, hyk, hf]; rfl) (resize_nofit_in b mb cap L s a x y w h hs hx ha hI.rise.apart hI.oks (hI.fit s) hu hi hxi hyk (hI.fit2 _ _) _ _ (sub_pair _ _) hf)
      · have hr : resizeP cap L s a = (0, putE L ⟨x.n, x.i, a⟩) := by unfold resizeP; rw [hx]; simp only [ha, hu, if_neg hi, hyk, hf]; rfl
        rw [hr]
        exact resize_ok_in b mb cap L s a x y w h hs hx ha hI.rise.apart hI.oks (hI.fit s) hu hi hxi hyk (hI.fit2 _ _) _ _ (sub_pair _ _) hln hxn hf
end Go.Proofs.Ytighcnecajgkpaa
namespace Go.Proofs.Ytighcnecajgkpaa
open Go.RowKit

theorem inB_nil {cap : Am} {L : List Ent} (h : Inv cap L) (t : ByteArray) : sumA (inB t ⟨#[]⟩) L = sumA (inR t) L := sum_same fun e he => by
  unfold inB inR
  rw [nil_list]
  have := size_list (h.nm e he).1
  cases hl : e.n.toList with
  | nil => exact absurd hl this
  | cons x l => simp
theorem room_fit {cap w a : Am} {L : List Ent} (h : Inv cap L) (hw : w.okB = true) (t s : ByteArray) (hle : ∀ k, k < 4 → (sumA (inB t s) L).get k ≤ w.get k) (hf : fitsB a (roomP w L t s) = true) :
    ∀ k, k < 4 → a.get k + (sumA (inB t s) L).get k ≤ w.get k := fun k hk => by
  have h1 := fitsB_le hf hk
  unfold roomP at h1
  rw [subR_le hw (h.fit2 t s) hle, Am.of_get _ k hk] at h1
  omega
theorem Inv.room {cap : Am} {L : List Ent} (h : Inv cap L) {y : Ent} (hy : y ∈ L) (hi : y.i.toList = []) {t s : ByteArray} (ht : y.n.toList = t.toList) {k : Nat} (hk : k < 4) : (sumA (inB t s) L).get k ≤ y.a.get k := by
  have h1 := h.parF y hy hi k hk
  have h2 := sum_le h.oks (fun e _ hp => inB_le t s e hp) hk
  rw [inR_same ht] at h1
  omega
theorem Inv.roomC {cap : Am} {L : List Ent} (h : Inv cap L) {t s : ByteArray} (ht : t.toList = []) {k : Nat} (hk : k < 4) : (sumA (inB t s) L).get k ≤ cap.get k := by
  have h1 := h.capF k hk
  have h2 := sum_le h.oks (fun e _ hp => inB_le t s e hp) hk
  rw [inR_same (nil_list.trans ht.symm)] at h1
  omega
theorem fresh_room {L : List Ent} {s : ByteArray} (hx : fnd L s.data.toList = none) (t : ByteArray) : sumA (inB t s) L = sumA (inR t) L := sum_same fun e he => by
  have h1 := fnd_none hx e he
  unfold inB inR
  rw [tl_key, Lib.toList_data s]
  have h2 : (e.key == s.data.toList) = false := by simpa using h1
  rw [h2]
  simp

theorem Inv.take {cap : Am} {L : List Ent} (h : Inv cap L) (s t : ByteArray) (a : Am) : Inv cap (takeP cap L s t a).2 := by
  unfold takeP
  split
  · exact h
  · next hc =>
    have h1 : 1 ≤ s.size := by omega
    have h2 : s.size ≤ 64 := by omega
    have ha : a.okB = true := by
      cases h3 : a.okB
      · exact absurd (.inr (.inr h3)) hc
      · rfl
    split
    · exact h
    · next hx =>
      have hch : ∀ k, k < 4 → (sumA (inR s) L).get k ≤ a.get k := fun k hk => by
        rw [sum_none (fun e he => ?_) hk]
        · exact (ok_get ha hk).1
        · unfold inR
          cases hq : e.i.toList == s.toList
          · rfl
          · have hq' : e.i.toList = s.toList := by simpa using hq
            obtain ⟨y, hy, hn, -⟩ := h.par e he (by rw [hq']; exact size_list h1)
            exact absurd (by rw [← tl_key, hn, hq', Lib.toList_data]) (fnd_none hx y hy)
      have hvac : ∀ y ∈ L, y.key = (⟨s, t, a⟩ : Ent).key → y.i.toList = (⟨s, t, a⟩ : Ent).i.toList := fun y hy hk => absurd hk (fnd_none hx y hy)
      split
      · next hi =>
        split
        · next hf =>
          refine h.put ⟨s, t, a⟩ ha ⟨h1, h2⟩ (fun hn => absurd hi hn) (fun _ k hk => ?_) hch hvac
          have := room_fit h h.cok t ⟨#[]⟩ (fun k hk => h.roomC hi hk) hf k hk
          rw [inB_nil h] at this
          show a.get k + (sumA (inB t s) L).get k ≤ _
          rw [fresh_room hx]
          exact this
        · exact h
      · next hi =>
        split
        · exact h
        · next y hy =>
          obtain ⟨hym, hyk⟩ := fnd_mem hy
          have hyn : y.n.toList = t.toList := by rw [tl_key, hyk, Lib.toList_data]
          split
          · next hyi =>
            split
            · next hf =>
              refine h.put ⟨s, t, a⟩ ha ⟨h1, h2⟩ (fun _ => ⟨y, hym, hyn, hyi, fun k hk => ?_⟩) (fun h0 => absurd h0 hi) hch hvac
              have := room_fit h (h.oks y hym) t ⟨#[]⟩ (fun k hk => h.room hym hyi hyn hk) hf k hk
              rw [inB_nil h] at this
              show a.get k + (sumA (inB t s) L).get k ≤ _
              rw [fresh_room hx]
              exact this
            · exact h
          · exact h

theorem inL_none {s : ByteArray} {L : List Ent} (hs : s.toList ≠ []) (h : inL s L = []) : ∀ e ∈ L, inR s e = false := fun e he => by
  unfold inL at h
  rw [List.map_eq_nil_iff, List.filter_eq_nil_iff] at h
  have h1 := h e he
  have h2 : s.toList.isEmpty = false := by simpa using hs
  unfold inP at h1
  rw [h2] at h1
  unfold inR
  simpa using h1
theorem Inv.give {cap : Am} {L : List Ent} (h : Inv cap L) (s : ByteArray) : Inv cap (giveP L s).2 := by
  unfold giveP
  split
  · exact h
  · next x hx =>
    split
    · next hi =>
      obtain ⟨hxm, hxk⟩ := fnd_mem hx
      have hxn : x.n = s := data_ext hxk
      have := h.rem x hxm (fun e he => by rw [hxn]; exact inL_none (by rw [← hxn]; exact size_list (h.nm x hxm).1) hi e he)
      rw [hxk] at this
      exact this
    · exact h
theorem Inv.resize {cap : Am} {L : List Ent} (h : Inv cap L) (s : ByteArray) (a : Am) : Inv cap (resizeP cap L s a).2 := by
  unfold resizeP
  split
  · exact h
  · next x hx =>
    obtain ⟨hxm, hxk⟩ := fnd_mem hx
    have hxn : x.n = s := data_ext hxk
    split
    · exact h
    · next ha =>
      have ha' : a.okB = true := by simpa using ha
      split
      · exact h
      · next hu =>
        have hu' : fitsB (sumA (inR s) L) a = true := by simpa using hu
        have hch : ∀ k, k < 4 → (sumA (inR x.n) L).get k ≤ a.get k := fun k hk => by rw [hxn]; exact fitsB_le hu' hk
        have hsame : ∀ y ∈ L, y.key = (⟨x.n, x.i, a⟩ : Ent).key → y.i.toList = x.i.toList := fun y hy hk => by rw [h.one hy hxm hk]
        split
        · next hi =>
          split
          · next hf =>
            refine h.put ⟨x.n, x.i, a⟩ ha' (h.nm x hxm) (fun hn => absurd hi hn) (fun _ k hk => ?_) hch hsame
            have := room_fit h h.cok x.i s (fun k hk => h.roomC hi hk) hf k hk
            show a.get k + (sumA (inB x.i x.n) L).get k ≤ _
            rw [hxn]
            exact this
          · exact h
        · next hi =>
          split
          · exact h
          · next y hy =>
            obtain ⟨hym, hyk⟩ := fnd_mem hy
            have hyn : y.n.toList = x.i.toList := by rw [tl_key, hyk, Lib.toList_data]
            have hyi : y.i.toList = [] := by
              obtain ⟨z, hz, h1, h2⟩ := h.par x hxm hi
              have : z = y := h.one hz hym (by rw [← tl_key, ← tl_key, h1, hyn])
              rw [← this]; exact h2
            split
            · next hf =>
              refine h.put ⟨x.n, x.i, a⟩ ha' (h.nm x hxm) (fun _ => ⟨y, hym, hyn, hyi, fun k hk => ?_⟩) (fun h0 => absurd h0 hi) hch hsame
              have := room_fit h (h.oks y hym) x.i s (fun k hk => h.room hym hyi hyn hk) hf k hk
              show a.get k + (sumA (inB x.i x.n) L).get k ≤ _
              rw [hxn]
              exact this
            · exact h

theorem insE_len (x : Ent) : ∀ L : List Ent, (insE x L).length = L.length + 1
  | [] => rfl
  | y :: L => by unfold insE; split <;> simp [insE_len x L]
theorem putE_len (L : List Ent) (x : Ent) : (putE L x).length ≤ L.length + 1 := by
  unfold putE
  rw [insE_len]
  have : (rem L x.key).length ≤ L.length := List.length_filter_le _ _
  omega
theorem take_len2 (cap : Am) (L : List Ent) (s t : ByteArray) (a : Am) : (takeP cap L s t a).2.length ≤ L.length + 1 := by
  unfold takeP
  repeat' split
  all_goals first | exact putE_len _ _ | (show L.length ≤ _; omega)
theorem give_len2 (L : List Ent) (s : ByteArray) : (giveP L s).2.length ≤ L.length + 1 := by
  unfold giveP
  repeat' split
  all_goals first | (show L.length ≤ _; omega) | (have : (rem L s.data.toList).length ≤ L.length := List.length_filter_le _ _; show (rem L s.data.toList).length ≤ _; omega)
theorem resize_len2 (cap : Am) (L : List Ent) (s : ByteArray) (a : Am) : (resizeP cap L s a).2.length ≤ L.length + 1 := by
  unfold resizeP
  repeat' split
  all_goals first | exact putE_len _ _ | (show L.length ≤ _; omega)
theorem take_err (cap : Am) (L : List Ent) (s t : ByteArray) (a : Am) (h : (takeP cap L s t a).1 ≠ 0) : (takeP cap L s t a).2 = L := by
  have : ∀ p, takeP cap L s t a = p → p.1 ≠ 0 → p.2 = L := by
    intro p hp
    unfold takeP at hp
    repeat' split at hp
    all_goals
      subst hp
      first
        | exact fun _ => rfl
        | exact fun h => absurd rfl h
  exact this _ rfl h
theorem give_err (L : List Ent) (s : ByteArray) (h : (giveP L s).1 ≠ 0) : (giveP L s).2 = L := by
  have : ∀ p, giveP L s = p → p.1 ≠ 0 → p.2 = L := by
    intro p hp
    unfold giveP at hp
    repeat' split at hp
    all_goals
      subst hp
      first
        | exact fun _ => rfl
        | exact fun h => absurd rfl h
  exact this _ rfl h
theorem resize_err (cap : Am) (L : List Ent) (s : ByteArray) (a : Am) (h : (resizeP cap L s a).1 ≠ 0) : (resizeP cap L s a).2 = L := by
  have : ∀ p, resizeP cap L s a = p → p.1 ≠ 0 → p.2 = L := by
    intro p hp
    unfold resizeP at hp
    repeat' split at hp
    all_goals
      subst hp
      first
        | exact fun _ => rfl
        | exact fun h => absurd rfl h
  exact this _ rfl h
end Go.Proofs.Ytighcnecajgkpaa
namespace Go.Proofs.Ytighcnecajgkpaa
open Go.RowKit

/-- v is no ledger -/
def Off (v : Value) (w : World) : Prop := ∀ w', Below w.heap.size w w' → Calls Try.prog 29 #[v] w' fun e w'' => e = .returned (.bool true) ∧ w' = w''
theorem Off.kept {v : Value} {w w' : World} (h : Off v w) (hb : Below w.heap.size w w') : Off v w' := fun w'' hb' => h w'' (below_and hb hb')
theorem off_nil (w : World) : Off (.pointer none) w := fun w' _ => none_nil w'
theorem off_unmade (b : Nat) (t : TypeId) (vs : List Value) (w : World) (h : Blk w b vs t) (h4 : vs[4]? = some (.map none)) : Off (ptr b) w := fun w' hb => none_unmade b w' ((h.kept hb).cell (j := 4) h4)

set_option maxRecDepth 100000 in
set_option maxHeartbeats 1000000 in
theorem off_take (v : Value) (s t : ByteArray) (a : Am) (w : World) (h : Off v w) :
    Calls Try.prog 9 #[v, .string s, .string t, amV a] w fun e w' => e = .returned (.int .i64 1) ∧ Below w.heap.size w w' := by
  have H := Lib.hid h
  clear h
  go_enter Try.func9, Try.ntmps9
  go_wp2_with (go_at_call 29; refine (H.out _ (below_alloc _ _)).mono ?_; rintro e w' ⟨rfl, rfl⟩)
  go_ret
  exact ⟨rfl, below_alloc _ _⟩
set_option maxRecDepth 100000 in
set_option maxHeartbeats 1000000 in
theorem off_get (v : Value) (s : ByteArray) (w : World) (h : Off v w) :
    Calls Try.prog 22 #[v, .string s] w fun e w' => e = .returned (.tuple #[entV zE, .int .i64 1]) ∧ Below w.heap.size w w' := by
  have H := Lib.hid h
  clear h
  go_enter Try.func22, Try.ntmps22
  go_wp2_with (go_at_call 29; refine (H.out _ (below_alloc _ _)).mono ?_; rintro e w' ⟨rfl, rfl⟩)
  refine bodyPost_ret (results_row_tmp rfl _ _ w.heap.size 48 #[.string ⟨#[]⟩, .string ⟨#[]⟩, .int .i64 0, .int .i64 0, .int .i64 0, .int .i64 0] (0, 0) _ rfl (Blk.made w (entC zE) 48) Try.underlying48 rfl (by kernel_rfl)) rfl ?_
  exact ⟨rfl, below_alloc w _⟩
set_option maxRecDepth 100000 in
set_option maxHeartbeats 1000000 in
theorem off_give (v : Value) (s : ByteArray) (w : World) (h : Off v w) :
    Calls Try.prog 11 #[v, .string s] w fun e w' => e = .returned (.int .i64 1) ∧ Below w.heap.size w w' := by
  have HG := Lib.hid (off_get v s w h)
  clear h
  go_enter Try.func11, Try.ntmps11
  go_wp2_with (go_at_call 22; refine HG.out.mono ?_; rintro e w4 ⟨rfl, hb⟩; have HB4 := Lib.hid hb; clear hb)
  go_ret
  exact ⟨rfl, below_and HB4.out (below_alloc _ _)⟩
set_option maxRecDepth 100000 in
set_option maxHeartbeats 1000000 in
theorem off_resize (v : Value) (s : ByteArray) (a : Am) (w : World) (h : Off v w) :
    Calls Try.prog 12 #[v, .string s, amV a] w fun e w' => e = .returned (.int .i64 1) ∧ Below w.heap.size w w' := by
  obtain ⟨w3, hw3⟩ : ∃ w3, w3 = (w.alloc (.cells #[.string s] 9)).alloc (.cells #[.int .i64 a.c, .int .i64 a.r, .int .i64 a.d, .int .i64 a.p] 28) := ⟨_, rfl⟩
  obtain ⟨B, hB⟩ : ∃ B, B = w.heap.size := ⟨_, rfl⟩
  have N0 : Hid (Blk w3 B [.string s] 9) := Lib.hid (by rw [hw3, hB]; exact (Blk.made w [.string s] 9).alloc _)
  have HBL : Hid (Below w.heap.size w w3) := Lib.hid (by rw [hw3]; exact below_and (below_alloc w _) (below_alloc _ _))
  have HG := Lib.hid (off_get v s w3 (h.kept HBL.out))
  have s0 := N0.out.cell (j := 0) rfl
  clear h
  go_enter Try.func12, Try.ntmps12
  go_upto_region 1 with fail
  rw [← hw3, ← hB]
  clear hw3 hB
  go_wp2_with (go_at_call 22; refine HG.out.mono ?_; rintro e w4 ⟨rfl, hb⟩; have HB4 := Lib.hid (below_and HBL.out hb); clear hb)
  go_ret
  exact ⟨rfl, below_and HB4.out (below_alloc _ _)⟩
set_option maxRecDepth 100000 in
set_option maxHeartbeats 1000000 in
theorem off_entries (v : Value) (w : World) (h : Off v w) :
    Calls Try.prog 24 #[v] w fun e w' => e = .returned (.slice none 0 0) ∧ Below w.heap.size w w' := by
  have H := Lib.hid h
  clear h
  go_enter Try.func24, Try.ntmps24
  go_wp2_with (go_at_call 29; refine (H.out _ (Below.refl _ _)).mono ?_; rintro e w' ⟨rfl, rfl⟩)
  go_ret
  exact ⟨rfl, Below.refl _ _⟩
set_option maxRecDepth 100000 in
set_option maxHeartbeats 1000000 in
theorem off_in (v : Value) (s : ByteArray) (w : World) (h : Off v w) :
    Calls Try.prog 20 #[v, .string s] w fun e w' => e = .returned (.slice none 0 0) ∧ Below w.heap.size w w' := by
  have HE := Lib.hid (off_entries v w h)
  clear h
  go_enter Try.func20, Try.ntmps20
  go_wp2_with (go_at_call 24; refine HE.out.mono ?_; rintro e w3 ⟨rfl, hb⟩; have HB3 := Lib.hid hb; clear hb)
  go_loopw [5, 11] (fun o i wr => o = .slice none 0 0 ∧ i = .int .i64 0 ∧ Hid (Below w.heap.size w wr)) (fun _ _ _ => 0)
  case atStart => exact ⟨rfl, rfl, HB3⟩
  case round =>
    obtain ⟨rfl, rfl, HB⟩ := hrel
    go_wp2
    go_ret
    exact ⟨rfl, HB.out⟩
set_option maxRecDepth 100000 in
set_option maxHeartbeats 1000000 in
theorem off_capacity (v : Value) (w : World) (h : Off v w) :
    Calls Try.prog 25 #[v] w fun e w' => e = .returned (amV .zero) ∧ Below w.heap.size w w' := by
  have H := Lib.hid h
  clear h
  go_enter Try.func25, Try.ntmps25
  go_wp2_with (go_at_call 29; refine (H.out _ (by first | exact Below.refl _ _ | exact below_alloc _ _)).mono ?_; rintro e w' ⟨rfl, rfl⟩)
  refine bodyPost_ret (results_row rfl _ _ w.heap.size 28 #[.int .i64 0, .int .i64 0, .int .i64 0, .int .i64 0] (0, 0) _ rfl (Blk.made w (amC .zero) 28) Try.underlying28 rfl (by kernel_rfl)) rfl ?_
  exact ⟨rfl, below_alloc w _⟩
set_option maxRecDepth 100000 in
set_option maxHeartbeats 1000000 in
theorem off_free (v : Value) (w : World) (h : Off v w) :
    Calls Try.prog 13 #[v] w fun e w' => e = .returned (amV .zero) ∧ Below w.heap.size w w' := by
  have H := Lib.hid h
  clear h
  go_enter Try.func13, Try.ntmps13
  go_wp2_with (go_at_call 29; refine (H.out _ (by first | exact Below.refl _ _ | exact below_alloc _ _)).mono ?_; rintro e w' ⟨rfl, rfl⟩)
  refine bodyPost_ret (results_row rfl _ _ w.heap.size 28 #[.int .i64 0, .int .i64 0, .int .i64 0, .int .i64 0] (0, 0) _ rfl (Blk.made w (amC .zero) 28) Try.underlying28 rfl (by kernel_rfl)) rfl ?_
  exact ⟨rfl, below_alloc w _⟩
set_option maxRecDepth 100000 in
set_option maxHeartbeats 1000000 in
theorem off_left (v : Value) (s : ByteArray) (w : World) (h : Off v w) :
    Calls Try.prog 10 #[v, .string s] w fun e w' => e = .returned (.tuple #[amV .zero, .int .i64 1]) ∧ Below w.heap.size w w' := by
  have HG := Lib.hid (off_get v s _ (h.kept (below_alloc w (.cells #[.int .i64 0, .int .i64 0, .int .i64 0, .int .i64 0] 28))))
  clear h
  obtain ⟨w3, hw3⟩ : ∃ w3, w3 = w.alloc (.cells #[.int .i64 0, .int .i64 0, .int .i64 0, .int .i64 0] 28) := ⟨_, rfl⟩
  obtain ⟨B, hB⟩ : ∃ B, B = w.heap.size := ⟨_, rfl⟩
  have S0 : Hid (Blk w3 B (amC .zero) 28) := Lib.hid (by rw [hw3, hB]; exact Blk.made w (amC .zero) _)
  have HBL : Hid (Below w.heap.size w w3) := Lib.hid (by rw [hw3]; exact below_alloc w _)
  have HBW : Hid (w.heap.size ≤ B) := Lib.hid (by omega)
  rw [← hw3] at HG
  go_enter Try.func10, Try.ntmps10
  go_upto_region 1 with fail
  rw [← hw3, ← hB]
  clear hw3 hB
  go_wp2_with (go_at_call 22; refine HG.out.mono ?_; rintro e w4 ⟨rfl, hb⟩; have hbr : Blk (w4.alloc (.cells #[.string ⟨#[]⟩, .string ⟨#[]⟩, .int .i64 0, .int .i64 0, .int .i64 0, .int .i64 0] 48)) B (amC .zero) 28 := (S0.out.kept hb).alloc _; have BR := Lib.hid hbr; have HB4 := Lib.hid (below_and (below_and HBL.out hb) (below_alloc w4 (.cells #[.string ⟨#[]⟩, .string ⟨#[]⟩, .int .i64 0, .int .i64 0, .int .i64 0, .int .i64 0] 48))); have r0 := hbr.cell (j := 0) rfl; have r1 := hbr.cell (j := 1) rfl; have r2 := hbr.cell (j := 2) rfl; have r3 := hbr.cell (j := 3) rfl; have f0 := hbr.free 0; have f1 := hbr.free 1; have f2 := hbr.free 2; have f3 := hbr.free 3; clear hb hbr)
  refine bodyPost_ret (results_row_tmp rfl _ _ B 28 #[.int .i64 0, .int .i64 0, .int .i64 0, .int .i64 0] (0, 0) _ rfl ?_ Try.underlying28 rfl (by kernel_rfl)) rfl ⟨rfl, bel_set4 HB4.out HBW.out⟩
  exact (((BR.out.set 0 (.int .i64 0)).set 1 (.int .i64 0)).set 2 (.int .i64 0)).set 3 (.int .i64 0)
end Go.Proofs.Ytighcnecajgkpaa
namespace Go.Proofs.Ytighcnecajgkpaa
open Go.RowKit

abbrev cap10 : Am := ⟨10, 10, 0, 0⟩
abbrev La : List Ent := [⟨⟨#[97]⟩, ⟨#[]⟩, ⟨6, 0, 0, 0⟩⟩]
abbrev Lab : List Ent := [⟨⟨#[97]⟩, ⟨#[]⟩, ⟨6, 0, 0, 0⟩⟩, ⟨⟨#[98]⟩, ⟨#[]⟩, ⟨4, 10, 0, 0⟩⟩]
theorem step_a : takeP cap10 [] ⟨#[97]⟩ ⟨#[]⟩ ⟨6, 0, 0, 0⟩ = (0, La) := by kernel_rfl
theorem step_b : takeP cap10 La ⟨#[98]⟩ ⟨#[]⟩ ⟨5, 0, 0, 0⟩ = (14, La) := by kernel_rfl
theorem step_b2 : takeP cap10 La ⟨#[98]⟩ ⟨#[]⟩ ⟨4, 10, 0, 0⟩ = (0, Lab) := by kernel_rfl
theorem free_ab : subR cap10 (sumA (inB ⟨#[]⟩ ⟨#[]⟩) Lab) = (.zero, 0) := by kernel_rfl
theorem Inv.took {cap : Am} {L L' : List Ent} (h : Inv cap L) {s t : ByteArray} {a : Am} {r : Int} (e : takeP cap L s t a = (r, L')) : Inv cap L' := by have := h.take s t a; rw [e] at this; exact this
theorem inv_0 : Inv cap10 [] := Inv.nil (by decide)
theorem inv_a : Inv cap10 La := inv_0.took step_a
theorem inv_ab : Inv cap10 Lab := inv_a.took step_b2

theorem fr_bel {n mb : Nat} {a w w' : World} (h : Below n a w) (hm : n ≤ mb) (hf : Fr [mb] w w') (hn : a.heap.size = n := by rfl) : Below n a w' :=
  h.trans (hf.below (fun y hy => by rw [List.mem_singleton.1 hy]; exact hm) (by rw [← hn]; exact h.size))
theorem took_all (b mb : Nat) (cap : Am) (L L' : List Ent) (s t : ByteArray) (a : Am) (r : Int) (hI : Inv cap L) (ht : t.size ≤ maxLen) (hln : L.length < maxLen) (e : takeP cap L s t a = (r, L')) (w : World) (h : Led w b mb cap L) :
    Calls Try.prog 9 #[ptr b, .string s, .string t, amV a] w fun e w' => e = .returned (.int .i64 r) ∧ Led w' b mb cap L' ∧ Fr [mb] w w' := by
  have := take_all b mb cap L s t a w h hI ht hln
  rw [e] at this
  exact this

set_option maxRecDepth 100000 in
set_option maxHeartbeats 400000 in
theorem llives (w : World) :
    Calls Try.prog 7 #[] w fun e w' => e = .returned (.bool true) ∧ Below w.heap.size w w' := by
  have T1 := Lib.hid fun b mb => took_all b mb cap10 [] La _ _ _ _ inv_0 (by decide) (by decide) step_a
  have T2 := Lib.hid fun b mb => took_all b mb cap10 La La _ _ _ _ inv_a (by decide) (by decide) step_b
  have T3 := Lib.hid fun b mb => took_all b mb cap10 La Lab _ _ _ _ inv_a (by decide) (by decide) step_b2
  have T4 := Lib.hid fun b mb w h => free_made b mb cap10 Lab w h inv_ab.rise.apart inv_ab.oks (inv_ab.fit2 _ _) _ _ free_ab
  go_enter Try.func7, Try.ntmps7
  go_upto_region 2 with (go_at_call 8; refine (lnew_ok cap10 _ rfl).mono ?_; rintro e w1 ⟨b, mb, rfl, hb0, hm0, hl, hb⟩; have H1 := Lib.hid hl; have HB1 := Lib.hid hb; have HB0 := Lib.hid hb0; have HM0 := Lib.hid hm0; clear hb hl hb0 hm0)
  go_wp2_with fail
  refine (T1.out b mb _ H1.out).mono ?_
  rintro e w2 ⟨rfl, hl, hf⟩
  have H2 := Lib.hid hl
  have F2 := Lib.hid hf
  clear hl hf
  go_wp2_with fail
  refine (T2.out b mb _ H2.out).mono ?_
  rintro e w3 ⟨rfl, hl, hf⟩
  have H3 := Lib.hid hl
  have F3 := Lib.hid hf
  clear hl hf
  go_wp2_with fail
  refine (T3.out b mb _ H3.out).mono ?_
  rintro e w4 ⟨rfl, hl, hf⟩
  have H4 := Lib.hid hl
  have F4 := Lib.hid hf
  clear hl hf
  go_wp2_with fail
  refine (T4.out b mb _ H4.out).mono ?_
  rintro e w5 ⟨rfl, hb⟩
  have HB5 := Lib.hid hb
  clear hb
  go_wp2_with fail
  go_ret
  refine ⟨rfl, ?_⟩
  have h1 := fr_bel HB1.out HM0.out F2.out
  have h2 := fr_bel h1 HM0.out F3.out
  have h3 := fr_bel h2 HM0.out F4.out
  exact below_and h3 HB5.out
end Go.Proofs.Ytighcnecajgkpaa
namespace Go.Proofs.Ytighcnecajgkpaa
open Go.RowKit

theorem tmod_band (x n : Int) (hn : 0 < n) : -n < x.tmod n ∧ x.tmod n < n := by
  have h1 := Int.tmod_lt_of_pos x hn
  refine ⟨?_, h1⟩
  rcases Int.le_total 0 x with h | h
  · have := Int.tmod_nonneg n h; omega
  · have h3 := Int.tmod_nonneg n (show 0 ≤ -x by omega)
    have h4 := Int.tmod_lt_of_pos (-x) hn
    rw [Int.neg_tmod] at h3 h4; omega

theorem pick_fix (x n : Int) (hn : 0 < n) : (x.tmod n + n).tmod n = x % n := by
  obtain ⟨h1, h2⟩ := tmod_band x n hn
  rw [Int.tmod_eq_emod_of_nonneg (by omega), Int.add_emod_right]
  rw [Int.tmod_def, Int.sub_mul_emod_self_left]

set_option maxHeartbeats 1000000 in
theorem pickn_any (x n : Int) (w : World) (hn : 0 < n) (hm : n ≤ 4611686018427387904) :
    Calls Try.prog 37 #[.int .i64 x, .int .i64 n] w fun e w' => e = .returned (.int .i64 (x % n)) ∧ w = w' := by
  obtain ⟨h1, h2⟩ := tmod_band x n hn
  have h3 := Int.emod_nonneg x (show n ≠ 0 by omega)
  have h4 := Int.emod_lt_of_pos x hn
  have s1 : wrap64 (x.tmod n) = x.tmod n := by unfold wrap64; omega
  have s2 : wrap64 (x.tmod n + n) = x.tmod n + n := by unfold wrap64; omega
  have s3 : wrap64 ((x.tmod n + n).tmod n) = x % n := by rw [pick_fix x n hn]; unfold wrap64; omega
  have s4 := pick_fix x n hn
  have s5 : wrap64 (x % n) = x % n := by unfold wrap64; omega
  have n0 : (n == 0) = false := by simp; omega
  go_enter Try.func37, Try.ntmps37
  go_wp2
  go_ret
  exact ⟨rfl, rfl⟩
end Go.Proofs.Ytighcnecajgkpaa
namespace Go.Proofs.Ytighcnecajgkpaa
open Go.RowKit

/-- a slice of slices of numbers reads as these lists -/
def Rows2 (w : World) (v : Value) (zss : List (List Int)) : Prop :=
  ∃ vs : List Value, vs.length = zss.length ∧ Row w v 1 zss.length vs ∧ ∀ i (h : i < zss.length) u, vs[i]? = some u → Row w u 1 zss[i].length (zss[i].map (Value.int .i64))

theorem Rows2.below {w w' : World} {v : Value} {zss : List (List Int)} (h : Rows2 w v zss) (hb : Below w.heap.size w w') : Rows2 w' v zss := by
  obtain ⟨vs, h1, h2, h3⟩ := h
  exact ⟨vs, h1, h2.below hb, fun i hi u hu => (h3 i hi u hu).below hb⟩

theorem Row.num {w : World} {p : Option Addr} {n c : Nat} {k : IntKind} {zs : List Int} (h : Row w (.slice p n c) 1 zs.length (zs.map (Value.int k))) {i : Nat} (hi : i < zs.length) : ∃ b o, p = some ⟨b, o, none⟩ ∧ w.cell? ⟨b, o + i, none⟩ = some (.int k zs[i]) := by
  obtain ⟨p', c', hv, h1, h2, h3, h4, h5, h6⟩ := h
  simp only [Value.slice.injEq] at hv
  obtain ⟨rfl, -, rfl⟩ := hv
  rcases h6 with h6 | ⟨b, o, rfl, ha⟩
  · have : zs = [] := by simpa using h6
    subst this; simp at hi
  · exact ⟨b, o, rfl, ha i _ (by simp [hi])⟩

/-- the outer slice, and where its rows lie -/
theorem Rows2.parts {w : World} {v : Value} {zss : List (List Int)} (h : Rows2 w v zss) :
    ∃ p c, v = .slice p zss.length c ∧ zss.length ≤ c ∧ c ≤ maxLen ∧ ∀ i (hi : i < zss.length), ∃ b o p' c', p = some ⟨b, o, none⟩ ∧ w.cell? ⟨b, o + i, none⟩ = some (.slice p' zss[i].length c') ∧ Row w (.slice p' zss[i].length c') 1 zss[i].length (zss[i].map (Value.int .i64)) := by
  obtain ⟨vs, h1, ⟨p, c, hv, h2, h3, h4, h5, h6, h7⟩, h8⟩ := h
  refine ⟨p, c, hv, h2, h3, fun i hi => ?_⟩
  have hi' : i < vs.length := by omega
  have hr := h8 i hi vs[i] (by simp [hi'])
  rcases h7 with h7 | ⟨b, o, hp, ha⟩
  · rw [h7] at hi'; simp at hi'
  · have hc := ha i vs[i] (by simp [hi'])
    obtain ⟨p', c', hu, hr2⟩ := hr
    rw [hu] at hc
    exact ⟨b, o, p', c', hp, hc, ⟨p', c', rfl, hr2⟩⟩

/-- the same, of a slice value in parts -/
theorem Rows2.rowAt {w : World} {p : Option Addr} {n c : Nat} {zss : List (List Int)} (h : Rows2 w (.slice p n c) zss) {i : Nat} (hi : i < zss.length) :
    ∃ b o p' c', p = some ⟨b, o, none⟩ ∧ w.cell? ⟨b, o + i, none⟩ = some (.slice p' zss[i].length c') ∧ Row w (.slice p' zss[i].length c') 1 zss[i].length (zss[i].map (Value.int .i64)) := by
  obtain ⟨p2, c2, e, -, -, hat⟩ := h.parts
  simp only [Value.slice.injEq] at e
  obtain ⟨rfl, -, rfl⟩ := e
  exact hat i hi


/-- a block whole, as a row -/
theorem row_block {w : World} {g : Nat} {us : List Value} {e : TypeId} {fr : Nat × Nat} (hg : w.heap[g]? = some (.cells us.toArray e fr)) (hm : us.length ≤ maxLen) (h1 : ∀ u ∈ us, u.oneCell' = true) : Row w (.slice (some ⟨g, 0, none⟩) us.length us.length) 1 us.length us := by
  refine ⟨some ⟨g, 0, none⟩, us.length, rfl, Nat.le_refl _, hm, by simp, h1, by simp, .inr ⟨g, 0, rfl, fun j u hj => ?_⟩⟩
  rw [cell_of_row w g (0 + j) us.toArray e fr hg]
  simpa using hj
theorem rows2_lit {w : World} {g : Nat} {vs : List Value} {zss : List (List Int)} {e : TypeId} {fr : Nat × Nat} (hg : w.heap[g]? = some (.cells vs.toArray e fr)) (hl : vs.length = zss.length) (hm : zss.length ≤ maxLen) (h1 : ∀ u ∈ vs, u.oneCell' = true)
    (hr : ∀ i (h : i < zss.length) u, vs[i]? = some u → Row w u 1 zss[i].length (zss[i].map (Value.int .i64))) : Rows2 w (.slice (some ⟨g, 0, none⟩) zss.length zss.length) zss := by
  refine ⟨vs, hl, ?_, hr⟩
  have := row_block hg (by omega) h1
  rw [hl] at this
  exact this
end Go.Proofs.Ytighcnecajgkpaa
namespace Go.Proofs.Ytighcnecajgkpaa
open Go.ChangeShapes Go.WideShapes Go.ChangeAt Go.RowKit

theorem spot_none {W : World} {x : Addr} {u : Value} (h : W.cell? x = some u) : x.spot = none := by
  unfold World.cell? at h
  split at h
  · split at h
    · simp at h
    · rename_i hh; simpa using hh
  · simp at h

theorem row_of_cells {W : World} {k : IntKind} {a : Option Addr} {l c : Nat} {zs : List Int} (hl : l ≤ c) (hm : c ≤ maxLen) (hz : zs.length = c) (hn : a = none → c = 0)
    (hc : ∀ x, a = some x → ∀ i, i < c → W.cell? (x.add i) = some (.int k (zs.getD i 0))) : Row W (.slice a l c) 1 (zs.take l).length ((zs.take l).map (Value.int k)) := by
  have htl : (zs.take l).length = l := by simp; omega
  refine ⟨a, c, by rw [htl], by rw [htl]; exact hl, hm, by simp, ?_, fun h0 => ?_, ?_⟩
  · intro u hu
    obtain ⟨n, _, rfl⟩ := List.mem_map.1 hu
    rfl
  · have := hn h0
    obtain rfl : l = 0 := by omega
    exact ⟨by simp, this⟩
  · by_cases h0 : l = 0
    · left; subst h0; simp
    · right
      cases a with
      | none => have := hn rfl; omega
      | some x =>
        have hc0 := hc x rfl 0 (by omega)
        have hsp : x.spot = none := by
          have e0 : x.add 0 = x := by simp [Addr.add]
          rw [e0] at hc0
          exact spot_none hc0
        obtain ⟨b, o, sp⟩ := x
        simp only at hsp
        subst hsp
        refine ⟨b, o, rfl, fun i u hi => ?_⟩
        have hi1 : i < l := by
          have := (List.getElem?_eq_some_iff.1 hi).1
          simp at this; omega
        have hi2 : i < zs.length := by omega
        rw [← add_off, hc _ rfl i (by omega)]
        rw [List.getElem?_map, List.getElem?_take, if_pos hi1, List.getElem?_eq_getElem hi2] at hi
        simp at hi
        rw [← hi]
        simp [List.getD, hi2]

theorem open_rows2 {H : Type} {enc : TypeId × Value → H} {P : Program} {W : World} {t e q : TypeId} {v : Value} {d : DataW H} {ps : List MemPlace} {r : Reach} {b0 : Nat}
    (ht : P.underlying t = some (.slice e)) (he : P.underlying e = some (.slice q)) (hq : P.underlying q = some (.int .i64)) (ce : P.cellsOf e = 1) (cq : P.cellsOf q = 1) (hval : Value.okWide P W r b0 t v) (h : DataW.Trod enc P W 0 (fun _ => true) true t v d ps) :
    ∃ zss : List (List Int), Rows2 W v zss ∧ ∀ l ∈ zss, ∀ n ∈ l, (Lit.int .i64 n).wf = true := by
  obtain ⟨a0, len0, cap0, rfl⟩ := okWide_slice ht hval
  obtain ⟨fuel, hf⟩ := h
  rcases Deep.open_int_rows ht he hq ce cq hf with ⟨hcs, hx⟩ | ⟨x, l, c, A, L, C, Z, hcs, _, hl, hm, hx, hr⟩
  · simp [Value.cells] at hcs
    obtain ⟨rfl, rfl, rfl⟩ := hcs
    exact ⟨[], ⟨[], rfl, row_nil W 1, by simp⟩, by simp⟩
  · simp [Value.cells] at hcs
    obtain ⟨rfl, rfl, rfl⟩ := hcs
    have htl : ((List.range len0).map fun i => (Z i).take (L i)).length = len0 := by simp
    refine ⟨(List.range len0).map fun i => (Z i).take (L i), ⟨(List.range len0).map fun i => .slice (A i) (L i) (C i), by simp, ⟨some x, cap0, by rw [htl], by rw [htl]; exact hl, hm, by simp, ?_, by simp, ?_⟩, ?_⟩, ?_⟩
    · intro u hu
      obtain ⟨n, _, rfl⟩ := List.mem_map.1 hu
      rfl
    · by_cases h0 : len0 = 0
      · left; subst h0; simp
      · right
        have hc0 := (hr 0 (by omega)).1
        have hsp : x.spot = none := by
          have e0 : x.add 0 = x := by simp [Addr.add]
          rw [e0] at hc0
          exact spot_none hc0
        obtain ⟨b, o, sp⟩ := x
        simp only at hsp
        subst hsp
        refine ⟨b, o, rfl, fun i u hi => ?_⟩
        have hi1 : i < len0 := by
          have := (List.getElem?_eq_some_iff.1 hi).1
          simpa using this
        rw [← add_off, (hr i (by omega)).1]
        simpa [hi1] using hi
    · intro i hi u hu
      simp at hi
      obtain rfl : Value.slice (A i) (L i) (C i) = u := by simpa [hi] using hu
      obtain ⟨-, r1, r2, r3, -, r5, r6⟩ := hr i (by omega)
      have := row_of_cells (k := .i64) r1 r2 r3 r5 (fun x hx => (r6 x hx).2)
      have e : (L i) = ((Z i).take (L i)).length := by simp; omega
      simpa using this
    · intro z hz n hn
      obtain ⟨i, hi, rfl⟩ := List.mem_map.1 hz
      exact (hr i (by have := List.mem_range.1 hi; omega)).2.2.2.2.1 n (List.mem_of_mem_take hn)
end Go.Proofs.Ytighcnecajgkpaa
namespace Go.Proofs.Ytighcnecajgkpaa
open Go.ChangeShapes Go.WideShapes Go.ChangeAt Go.RowKit

/-- what a field of a plain type holds: a number, a text, a truth -/
def fieldOk (P : Program) (t : TypeId) (v : Value) : Prop :=
  (∃ k, P.underlying t = some (.int k) ∧ ∃ n, v = .int k n ∧ (Lit.int k n).wf = true) ∨ (P.underlying t = some .string ∧ ∃ s, v = .string s ∧ s.size ≤ maxLen) ∨ (P.underlying t = some .bool ∧ ∃ b, v = .bool b)

theorem fieldOk.int {P : Program} {t : TypeId} {v : Value} {k : IntKind} (h : fieldOk P t v) (ht : P.underlying t = some (.int k)) : ∃ n, v = .int k n ∧ (Lit.int k n).wf = true := by
  rcases h with ⟨k', h1, h2⟩ | ⟨h1, -⟩ | ⟨h1, -⟩
  · rw [ht] at h1; cases h1; exact h2
  · rw [ht] at h1; cases h1
  · rw [ht] at h1; cases h1
theorem fieldOk.str {P : Program} {t : TypeId} {v : Value} (h : fieldOk P t v) (ht : P.underlying t = some .string) : ∃ s, v = .string s ∧ s.size ≤ maxLen := by
  rcases h with ⟨k', h1, h2⟩ | ⟨h1, h2⟩ | ⟨h1, -⟩
  · rw [ht] at h1; cases h1
  · exact h2
  · rw [ht] at h1; cases h1
theorem fieldOk.bool {P : Program} {t : TypeId} {v : Value} (h : fieldOk P t v) (ht : P.underlying t = some .bool) : ∃ b, v = .bool b := by
  rcases h with ⟨k', h1, h2⟩ | ⟨h1, h2⟩ | ⟨h1, h2⟩
  · rw [ht] at h1; cases h1
  · rw [ht] at h1; cases h1
  · exact h2
theorem fieldOk.one {P : Program} {t : TypeId} {v : Value} (h : fieldOk P t v) : v.oneCell' = true := by
  rcases h with ⟨k', h1, n, rfl, -⟩ | ⟨h1, s, rfl, -⟩ | ⟨h1, b, rfl⟩ <;> rfl

def plainType (P : Program) (t : TypeId) : Bool := match P.underlying t with
  | some (.int _) => true
  | some .string => true
  | some .bool => true
  | _ => false
/-- each field lies at its index, is one cell, and plain: for the kernel -/
def plainFields (P : Program) (fs : Array Field) : Bool := (List.range fs.size).all fun i => match fs[i]? with
  | some f => f.offset == i && P.cellsOf f.type == 1 && plainType P f.type
  | none => false

theorem plain_of {P : Program} {fs : Array Field} (h : plainFields P fs = true) {i : Nat} {f : Field} (hi : fs[i]? = some f) : f.offset = i ∧ P.cellsOf f.type = 1 ∧ plainType P f.type = true := by
  have hlt : i < fs.size := (Array.getElem?_eq_some_iff.1 hi).1
  have := List.all_eq_true.1 h i (List.mem_range.2 hlt)
  simp only [hi, Bool.and_eq_true, beq_iff_eq] at this
  exact ⟨this.1.1, this.1.2, this.2⟩

section
variable {H : Type} {enc : TypeId × Value → H} {P : Program} {W : World} {base : Nat} {sp : Nat → Bool} {held : Bool}

theorem field_of_trod {t : TypeId} {n : Nat} {v : Value} {y : DataW H × List MemPlace} (hp : plainType P t = true) (h : DataW.trod enc P W base sp held n t [v] = some y) : fieldOk P t v := by
  unfold plainType at hp
  split at hp
  · rename_i k hk
    obtain ⟨m, h1, -, h2⟩ := DataW.trod_int hk h
    simp only [List.cons.injEq, and_true] at h1
    exact .inl ⟨k, hk, m, h1, h2⟩
  · rename_i hk
    obtain ⟨s, h1, -, h2⟩ := DataW.trod_string hk h
    simp only [List.cons.injEq, and_true] at h1
    exact .inr (.inl ⟨hk, s, h1, h2⟩)
  · rename_i hk
    obtain ⟨b, h1, -⟩ := DataW.trod_bool hk h
    simp only [List.cons.injEq, and_true] at h1
    exact .inr (.inr ⟨hk, b, h1⟩)
  · cases hp

/-- the cells of a struct of plain fields -/
theorem cells_of_struct {ts : TypeId} {fs : Array Field} {n : Nat} {cs : List Value} {x : DataW H × List MemPlace} (hs : P.underlying ts = some (.struct fs)) (hp : plainFields P fs = true) (hC : P.cellsOf ts = fs.size)
    (h : DataW.trod enc P W base sp held n ts cs = some x) : cs.length = fs.size ∧ ∀ i f, fs[i]? = some f → fieldOk P f.type (cs.getD i undef) := by
  obtain ⟨xs, m, -, -, hl, hxl, hf⟩ := DataW.trod_struct hs h
  rw [hC] at hl
  refine ⟨hl, fun i f hi => ?_⟩
  obtain ⟨h1, h2, h3⟩ := plain_of hp hi
  have hlt : i < fs.size := (Array.getElem?_eq_some_iff.1 hi).1
  have := hf i f hi
  rw [h1, h2, Deep.take1_drop cs i undef (by omega), List.getElem?_eq_getElem (by omega)] at this
  exact field_of_trod h3 this
end

/-- a struct by value -/
theorem open_struct {H : Type} {enc : TypeId × Value → H} {P : Program} {W : World} {t : TypeId} {fs : Array Field} {v : Value} {d : DataW H} {ps : List MemPlace} {r : Reach} {b0 : Nat}
    (hs : P.underlying t = some (.struct fs)) (hp : plainFields P fs = true) (hC : P.cellsOf t = fs.size) (hval : Value.okWide P W r b0 t v) (h : DataW.Trod enc P W 0 (fun _ => true) true t v d ps) :
    ∃ cs : List Value, v = .agg cs.toArray ∧ cs.length = fs.size ∧ ∀ i f, fs[i]? = some f → fieldOk P f.type (cs.getD i undef) := by
  obtain ⟨cs, rfl, -⟩ := okWide_struct hs hval
  obtain ⟨fuel, hf⟩ := h
  have := cells_of_struct hs hp hC hf
  exact ⟨cs.toList, rfl, by simpa [Value.cells] using this.1, fun i f hi => by simpa [Value.cells] using this.2 i f hi⟩

theorem flatten_get {α : Type} {s : Nat} (hs : 0 < s) : ∀ (l : List (List α)), (∀ x ∈ l, x.length = s) → ∀ j, l.flatten[j]? = (l[j / s]?).bind fun x => x[j % s]?
  | [], _, j => by simp
  | x :: l, h, j => by
    have hx := h x (by simp)
    rw [List.flatten_cons]
    by_cases hj : j < s
    · rw [List.getElem?_append_left (by omega), Nat.div_eq_of_lt hj, Nat.mod_eq_of_lt hj]
      simp
    · obtain ⟨k, rfl⟩ : ∃ k, j = s + k := ⟨j - s, by omega⟩
      rw [List.getElem?_append_right (by omega), hx, Nat.add_sub_cancel_left, flatten_get hs l (fun y hy => h y (by simp [hy])) k]
      rw [Nat.add_div_left k hs, Nat.add_mod_left]
      simp
theorem flatten_len {α : Type} {s : Nat} : ∀ (l : List (List α)), (∀ x ∈ l, x.length = s) → l.flatten.length = l.length * s
  | [], _ => by simp
  | x :: l, h => by
    rw [List.flatten_cons, List.length_append, h x (by simp), flatten_len l (fun y hy => h y (by simp [hy])), List.length_cons, Nat.add_mul]
    omega

/-- a slice of structs -/
theorem open_structs {H : Type} {enc : TypeId × Value → H} {P : Program} {W : World} {t e : TypeId} {fs : Array Field} {v : Value} {d : DataW H} {ps : List MemPlace} {r : Reach} {b0 : Nat}
    (ht : P.underlying t = some (.slice e)) (he : P.underlying e = some (.struct fs)) (hp : plainFields P fs = true) (hC : P.cellsOf e = fs.size) (hpos : 0 < fs.size) (hval : Value.okWide P W r b0 t v) (h : DataW.Trod enc P W 0 (fun _ => true) true t v d ps) :
    ∃ es : List (List Value), Row W v fs.size es.length es.flatten ∧ ∀ x ∈ es, x.length = fs.size ∧ ∀ i f, fs[i]? = some f → fieldOk P f.type (x.getD i undef) := by
  obtain ⟨a0, len0, cap0, rfl⟩ := okWide_slice ht hval
  obtain ⟨fuel, hf⟩ := h
  rcases Deep.open_slice ht hf with ⟨hcs, -⟩ | ⟨a, len, cap, m, n, D, Pl, hcs, hb, hl, hm, hmm, -, hr⟩
  · simp [Value.cells] at hcs
    obtain ⟨rfl, rfl, rfl⟩ := hcs
    exact ⟨[], row_nil W _, by simp⟩
  · simp [Value.cells] at hcs
    obtain ⟨rfl, rfl, rfl⟩ := hcs
    simp only [if_true] at hmm
    subst hmm
    rw [hC] at hr
    obtain ⟨C, hCC⟩ := Deep.choose_lt (α := List Value) (p := fun i cs => W.cells? 0 (a.add (i * fs.size)) fs.size = some cs ∧ DataW.trod enc P W 0 (fun _ => true) true n e cs = some (D i, Pl i)) (fun i (hi : i < len0) => by
      obtain ⟨cs, h1, h2⟩ := hr i (by omega)
      exact ⟨cs, h1, h2⟩)
    have hok : ∀ i, i < len0 → (C i).length = fs.size ∧ ∀ j f, fs[j]? = some f → fieldOk P f.type ((C i).getD j undef) := fun i hi => cells_of_struct he hp hC (hCC i hi).2
    have hcell : ∀ i, i < len0 → ∀ j, j < fs.size → W.cell? ((a.add (i * fs.size)).add j) = (C i)[j]? := fun i hi => (World.cells?_some (hCC i hi).1).2.2
    have hmem : ∀ x ∈ (List.range len0).map C, x.length = fs.size ∧ ∀ j f, fs[j]? = some f → fieldOk P f.type (x.getD j undef) := fun x hx => by
      obtain ⟨i, hi, rfl⟩ := List.mem_map.1 hx
      exact hok i (List.mem_range.1 hi)
    have hfl := flatten_len ((List.range len0).map C) (fun x hx => (hmem x hx).1)
    have hln : ((List.range len0).map C).length = len0 := by simp
    refine ⟨(List.range len0).map C, ⟨some a, m, by rw [hln], by rw [hln]; exact hl, hm, by rw [hfl], ?_, by simp, ?_⟩, hmem⟩
    · intro u hu
      obtain ⟨x, hx, hux⟩ := List.mem_flatten.1 hu
      obtain ⟨h1, h2⟩ := hmem x hx
      obtain ⟨j, hj, rfl⟩ := List.getElem_of_mem hux
      have := (h2 j fs[j] (Array.getElem?_eq_getElem (by omega))).one
      simpa [List.getD, hj] using this
    · by_cases h0 : len0 = 0
      · left; subst h0; simp
      · right
        have hc0 := hcell 0 (by omega) 0 hpos
        rw [List.getElem?_eq_getElem (by rw [(hok 0 (by omega)).1]; exact hpos)] at hc0
        have hsp : a.spot = none := by
          have e0 : (a.add (0 * fs.size)).add 0 = a := by simp [Addr.add]
          rw [e0] at hc0
          exact spot_none hc0
        obtain ⟨b, o, spt⟩ := a
        simp only at hsp
        subst hsp
        refine ⟨b, o, rfl, fun j u hj => ?_⟩
        rw [flatten_get hpos _ (fun x hx => (hmem x hx).1)] at hj
        obtain ⟨x, hx, hjx⟩ := Option.bind_eq_some_iff.1 hj
        have hq : j / fs.size < len0 := by
          have := (List.getElem?_eq_some_iff.1 hx).1
          simpa using this
        have hx' : C (j / fs.size) = x := by simpa [hq] using hx
        have := hcell (j / fs.size) hq (j % fs.size) (Nat.mod_lt _ hpos)
        rw [add_off, add_off, hx', hjx] at this
        have e := Nat.div_add_mod j fs.size
        rw [Nat.mul_comm] at e
        rw [Nat.add_assoc, e] at this
        exact this

/-- a slice of plain things: numbers, texts, truths -/
theorem open_plains {H : Type} {enc : TypeId × Value → H} {P : Program} {W : World} {t e : TypeId} {v : Value} {d : DataW H} {ps : List MemPlace} {r : Reach} {b0 : Nat}
    (ht : P.underlying t = some (.slice e)) (hp : plainType P e = true) (hC : P.cellsOf e = 1) (hval : Value.okWide P W r b0 t v) (h : DataW.Trod enc P W 0 (fun _ => true) true t v d ps) :
    ∃ cs : List Value, Row W v 1 cs.length cs ∧ ∀ x ∈ cs, fieldOk P e x := by
  obtain ⟨a0, len0, cap0, rfl⟩ := okWide_slice ht hval
  obtain ⟨fuel, hf⟩ := h
  rcases Deep.open_slice1 ht hC hf with ⟨hcs, -⟩ | ⟨a, len, cap, m, n, V, D, Pl, hcs, hb, hl, hm, hmm, -, hr⟩
  · simp [Value.cells] at hcs
    obtain ⟨rfl, rfl, rfl⟩ := hcs
    exact ⟨[], row_nil W _, by simp⟩
  · simp [Value.cells] at hcs
    obtain ⟨rfl, rfl, rfl⟩ := hcs
    simp only [if_true] at hmm
    subst hmm
    have hmem : ∀ x ∈ (List.range len0).map V, fieldOk P e x := fun x hx => by
      obtain ⟨i, hi, rfl⟩ := List.mem_map.1 hx
      exact field_of_trod hp (hr i (by have := List.mem_range.1 hi; omega)).2
    have hln : ((List.range len0).map V).length = len0 := by simp
    refine ⟨(List.range len0).map V, ⟨some a, m, by rw [hln], by rw [hln]; exact hl, hm, by simp, fun u hu => (hmem u hu).one, by simp, ?_⟩, hmem⟩
    by_cases h0 : len0 = 0
    · left; subst h0; simp
    · right
      have hc0 := (hr 0 (by omega)).1
      have hsp : a.spot = none := by
        have e0 : a.add 0 = a := by simp [Addr.add]
        rw [e0] at hc0
        exact spot_none hc0
      obtain ⟨b, o, spt⟩ := a
      simp only at hsp
      subst hsp
      refine ⟨b, o, rfl, fun j u hj => ?_⟩
      have hjl : j < len0 := by
        have := (List.getElem?_eq_some_iff.1 hj).1
        simpa using this
      rw [← add_off, (hr j (by omega)).1]
      simpa [hjl] using hj

/-- texts, as the walks hold them -/
def Texts (w : World) (v : Value) (ss : List ByteArray) : Prop := Row w v 1 ss.length (ss.map Value.string)
theorem Texts.below {w w' : World} {v : Value} {ss : List ByteArray} (h : Texts w v ss) (hb : Below w.heap.size w w') : Texts w' v ss := Row.below h hb
theorem Texts.parts {w : World} {v : Value} {ss : List ByteArray} (h : Texts w v ss) :
    ∃ p c, v = .slice p ss.length c ∧ ss.length ≤ c ∧ c ≤ maxLen ∧ ∀ i (hi : i < ss.length), ∃ b o, p = some ⟨b, o, none⟩ ∧ w.cell? ⟨b, o + i, none⟩ = some (.string ss[i]) := by
  obtain ⟨p, c, hv, h1, h2, h3, h4, h5, h6⟩ := h
  refine ⟨p, c, hv, h1, h2, fun i hi => ?_⟩
  rcases h6 with h6 | ⟨b, o, hp, ha⟩
  · have : ss = [] := by simpa using h6
    subst this; simp at hi
  · exact ⟨b, o, hp, ha i _ (by simp [hi])⟩
theorem Texts.textAt {w : World} {p : Option Addr} {n c : Nat} {ss : List ByteArray} (h : Texts w (.slice p n c) ss) {i : Nat} (hi : i < ss.length) : ∃ b o, p = some ⟨b, o, none⟩ ∧ w.cell? ⟨b, o + i, none⟩ = some (.string ss[i]) := by
  obtain ⟨p2, c2, e, -, -, hat⟩ := h.parts
  simp only [Value.slice.injEq] at e
  obtain ⟨rfl, -, rfl⟩ := e
  exact hat i hi
theorem map_of_all {α β : Type} {f : α → β} {p : α → Prop} : ∀ (l : List β), (∀ x ∈ l, ∃ a, x = f a ∧ p a) → ∃ la : List α, l = la.map f ∧ ∀ a ∈ la, p a
  | [], _ => ⟨[], rfl, by simp⟩
  | x :: l, h => by
    obtain ⟨a, rfl, ha⟩ := h x (by simp)
    obtain ⟨la, rfl, has⟩ := map_of_all l (fun y hy => h y (by simp [hy]))
    exact ⟨a :: la, rfl, by simpa using ⟨ha, has⟩⟩
theorem open_texts {H : Type} {enc : TypeId × Value → H} {P : Program} {W : World} {t e : TypeId} {v : Value} {d : DataW H} {ps : List MemPlace} {r : Reach} {b0 : Nat}
    (ht : P.underlying t = some (.slice e)) (he : P.underlying e = some .string) (hC : P.cellsOf e = 1) (hval : Value.okWide P W r b0 t v) (h : DataW.Trod enc P W 0 (fun _ => true) true t v d ps) :
    ∃ ss : List ByteArray, Texts W v ss ∧ ∀ s ∈ ss, s.size ≤ maxLen := by
  obtain ⟨cs, h1, h2⟩ := open_plains ht (by unfold plainType; rw [he]) hC hval h
  obtain ⟨ss, rfl, h3⟩ := map_of_all (f := Value.string) (p := fun s => s.size ≤ maxLen) cs (fun x hx => (h2 x hx).str he)
  refine ⟨ss, ?_, h3⟩
  unfold Texts
  simpa using h1
end Go.Proofs.Ytighcnecajgkpaa
namespace Go.Proofs.Ytighcnecajgkpaa
open Go.ChangeShapes Go.WideShapes Go.ChangeAt Go.RowKit

theorem slice_reach {H : Type} {enc : TypeId × Value → H} {P : Program} {W : World} {t e : TypeId} {v : Value} {d : DataW H} {ps : List MemPlace} {r : Reach} {b0 : Nat} {ts : List TypeId} {ds : List (DataW H)} {j : Nat}
    (ht : P.underlying t = some (.slice e)) (hval : Value.okWide P W r b0 t v) (h : DataW.Trod enc P W 0 (fun _ => true) true t v d ps)
    (hsz : (DataW.weightsEach P ts ds).all (· ≤ reachBytes) = true) (hj : ts[j]? = some t) (hd : ds[j]? = some d) (bytes : Nat) (hb : P.bytesOf e = bytes) :
    ∃ a n c, v = .slice a n c ∧ n * bytes ≤ 140737488351232 := by
  obtain ⟨a0, len0, cap0, rfl⟩ := okWide_slice ht hval
  obtain ⟨fuel, hf⟩ := h
  rcases Deep.open_slice ht hf with ⟨hcs, -⟩ | ⟨a, len, cap, m, n, D, Pl, hcs, -, hl, -, hmm, hx, -⟩
  · simp [Value.cells] at hcs
    obtain ⟨rfl, rfl, rfl⟩ := hcs
    exact ⟨_, _, _, rfl, by simp⟩
  · simp [Value.cells] at hcs
    obtain ⟨rfl, rfl, rfl⟩ := hcs
    simp only [Prod.mk.injEq] at hx
    have hd' := hx.1
    subst hd'
    have := sized_slice hsz hj hd ht
    simp only [List.length_map, List.length_range] at this
    rw [hb] at this
    have h3 : len0 * bytes ≤ (len0 + (m - len0)) * bytes := Nat.mul_le_mul_right _ (by omega)
    have h4 : reachBytes = 140737488351232 := by decide
    exact ⟨_, _, _, rfl, by omega⟩
theorem row_len {w : World} {v : Value} {size n : Nat} {cs : List Value} (h : Row w v size n cs) {a : Option Addr} {m c : Nat} (e : v = .slice a m c) : m = n := by
  obtain ⟨p, c', hv, -⟩ := h
  rw [e] at hv
  simp only [Value.slice.injEq] at hv
  exact hv.2.1
end Go.Proofs.Ytighcnecajgkpaa
