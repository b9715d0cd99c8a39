/- The ledger's Take. -/
import Derived.Test.YtighcnecajgkpaaLedRoom
namespace Go.Proofs.Ytighcnecajgkpaa
open Go.RowKit

theorem fits_val {x y : Am} {v : Bool} (h : fitsB x y = v) (w : World) : Calls Try.prog 30 #[amV x, amV y] w fun e w' => e = .returned (.bool v) ∧ Below w.heap.size w w' :=
  (fits_any x y w).mono fun e w' ⟨h1, h2⟩ => ⟨by rw [h1, h], h2⟩

set_option maxRecDepth 100000 in
set_option maxHeartbeats 2000000 in
theorem take_len (b mb : Nat) (cap : Am) (L : List Ent) (s t : ByteArray) (a : Am) (w : World) (h : Led w b mb cap L) (hn : s.size = 0 ∨ 64 < s.size) :
    Calls Try.prog 9 #[ptr b, .string s, .string t, amV a] w fun e w' => e = .returned (.int .i64 2) ∧ Below w.heap.size w w' := by
  obtain ⟨w3, hw3⟩ : ∃ w3, w3 = w.alloc (.cells #[.int .i64 a.c, .int .i64 a.r, .int .i64 a.d, .int .i64 a.p] 28) := ⟨_, rfl⟩
  obtain ⟨B, hB⟩ : ∃ B, B = w.heap.size := ⟨_, rfl⟩
  have S0 : Hid (Blk w3 B (amC a) 28) := Lib.hid (by rw [hw3, hB]; exact Blk.made w (amC a) _)
  have HBL : Hid (Below w.heap.size w w3) := Lib.hid (by rw [hw3]; exact below_alloc w _)
  have H := Lib.hid h
  have H3 : Hid (Led w3 b mb cap L) := Lib.hid (h.kept HBL.out)
  have c4 := H3.out.blk.cell (j := 4) rfl
  have a0 := S0.out.cell (j := 0) rfl
  have a1 := S0.out.cell (j := 1) rfl
  have a2 := S0.out.cell (j := 2) rfl
  have a3 := S0.out.cell (j := 3) rfl
  rcases hn with hn | hn
  · have d1 : decide ((s.size : Int) < 1) = true := by simp; omega
    clear h hn
    go_enter Try.func9, Try.ntmps9
    go_upto_region 1 with fail
    rw [← hw3, ← hB]
    clear hw3 hB
    go_wp2_with (first | (go_at_call 29; refine (none_made b mb _ _ _ H3.out).mono ?_; rintro e w' ⟨rfl, rfl⟩))
    go_ret
    exact ⟨rfl, HBL.out⟩
  · have d1 : decide ((s.size : Int) < 1) = false := by simp; omega
    have d2 : decide ((64 : Int) < (s.size : Int)) = true := by simp; omega
    clear h hn
    go_enter Try.func9, Try.ntmps9
    go_upto_region 1 with fail
    rw [← hw3, ← hB]
    clear hw3 hB
    go_wp2_with (first | (go_at_call 29; refine (none_made b mb _ _ _ H3.out).mono ?_; rintro e w' ⟨rfl, rfl⟩))
    go_ret
    exact ⟨rfl, HBL.out⟩

set_option maxRecDepth 100000 in
set_option maxHeartbeats 2000000 in
theorem take_bad (b mb : Nat) (cap : Am) (L : List Ent) (s t : ByteArray) (a : Am) (w : World) (h : Led w b mb cap L) (h1 : 1 ≤ s.size) (h2 : s.size ≤ 64) (ha : a.okB = false) :
    Calls Try.prog 9 #[ptr b, .string s, .string t, amV a] w fun e w' => e = .returned (.int .i64 2) ∧ Below w.heap.size w w' := by
  obtain ⟨w3, hw3⟩ : ∃ w3, w3 = w.alloc (.cells #[.int .i64 a.c, .int .i64 a.r, .int .i64 a.d, .int .i64 a.p] 28) := ⟨_, rfl⟩
  obtain ⟨B, hB⟩ : ∃ B, B = w.heap.size := ⟨_, rfl⟩
  have S0 : Hid (Blk w3 B (amC a) 28) := Lib.hid (by rw [hw3, hB]; exact Blk.made w (amC a) _)
  have HBL : Hid (Below w.heap.size w w3) := Lib.hid (by rw [hw3]; exact below_alloc w _)
  have H := Lib.hid h
  have H3 : Hid (Led w3 b mb cap L) := Lib.hid (h.kept HBL.out)
  have c4 := H3.out.blk.cell (j := 4) rfl
  have a0 := S0.out.cell (j := 0) rfl
  have a1 := S0.out.cell (j := 1) rfl
  have a2 := S0.out.cell (j := 2) rfl
  have a3 := S0.out.cell (j := 3) rfl
  have d1 : decide ((s.size : Int) < 1) = false := by simp; omega
  have d2 : decide ((64 : Int) < (s.size : Int)) = false := by simp; omega
  have HS : Hid (s.size ≤ maxLen) := Lib.hid (by unfold maxLen; omega)
  have HCK := Lib.hid (Am.chk_no ha)
  clear h h1 h2 ha
  go_enter Try.func9, Try.ntmps9
  go_upto_region 1 with fail
  rw [← hw3, ← hB]
  clear hw3 hB
  go_wp2_with (first | (go_at_call 29; refine (none_made b mb _ _ _ H3.out).mono ?_; rintro e w' ⟨rfl, rfl⟩) | (go_at_call 28; refine (check_any a _).mono ?_; rw [HCK.out]; rintro e w4 ⟨rfl, hb⟩; have H4 := Lib.hid (H3.out.kept hb); have HB4 := Lib.hid (below_and HBL.out hb); have S4 := Lib.hid (S0.out.kept hb); clear c4 a0 a1 a2 a3; have c4 : ∀ w', Below w4.heap.size w4 w' → w'.cell? ⟨b, 4, none⟩ = some (.map (some mb)) := fun w' h => (H4.out.kept h).blk.cell (j := 4) rfl; have HC4 := Lib.hid c4; clear c4; have c40 := HC4.out _ (Below.refl _ _); have c41 : ∀ (A : Array Value) (t : TypeId), (w4.alloc (.cells A t)).cell? ⟨b, 4, none⟩ = some (.map (some mb)) := fun A t => HC4.out _ (below_alloc _ _); clear hb))
  go_ret
  exact ⟨rfl, HB4.out⟩

set_option maxRecDepth 100000 in
set_option maxHeartbeats 2000000 in
theorem take_there (b mb : Nat) (cap : Am) (L : List Ent) (s t : ByteArray) (a : Am) (x : Ent) (w : World) (h : Led w b mb cap L) (h1 : 1 ≤ s.size) (h2 : s.size ≤ 64) (ha : a.okB = true) (hx : fnd L s.data.toList = some x) :
    Calls Try.prog 9 #[ptr b, .string s, .string t, amV a] w fun e w' => e = .returned (.int .i64 7) ∧ Below w.heap.size w w' := by
  obtain ⟨w3, hw3⟩ : ∃ w3, w3 = w.alloc (.cells #[.int .i64 a.c, .int .i64 a.r, .int .i64 a.d, .int .i64 a.p] 28) := ⟨_, rfl⟩
  obtain ⟨B, hB⟩ : ∃ B, B = w.heap.size := ⟨_, rfl⟩
  have S0 : Hid (Blk w3 B (amC a) 28) := Lib.hid (by rw [hw3, hB]; exact Blk.made w (amC a) _)
  have HBL : Hid (Below w.heap.size w w3) := Lib.hid (by rw [hw3]; exact below_alloc w _)
  have H := Lib.hid h
  have H3 : Hid (Led w3 b mb cap L) := Lib.hid (h.kept HBL.out)
  have c4 := H3.out.blk.cell (j := 4) rfl
  have a0 := S0.out.cell (j := 0) rfl
  have a1 := S0.out.cell (j := 1) rfl
  have a2 := S0.out.cell (j := 2) rfl
  have a3 := S0.out.cell (j := 3) rfl
  have d1 : decide ((s.size : Int) < 1) = false := by simp; omega
  have d2 : decide ((64 : Int) < (s.size : Int)) = false := by simp; omega
  have HS : Hid (s.size ≤ maxLen) := Lib.hid (by unfold maxLen; omega)
  have HCK := Lib.hid (Am.chk_yes ha)
  have HX := Lib.hid (get_some hx)
  clear h h1 h2 ha hx
  go_enter Try.func9, Try.ntmps9
  go_upto_region 1 with fail
  rw [← hw3, ← hB]
  clear hw3 hB
  go_wp2_with (first | (go_at_call 29; refine (none_made b mb _ _ _ H3.out).mono ?_; rintro e w' ⟨rfl, rfl⟩) | (go_at_call 28; refine (check_any a _).mono ?_; rw [HCK.out]; rintro e w4 ⟨rfl, hb⟩; have H4 := Lib.hid (H3.out.kept hb); have HB4 := Lib.hid (below_and HBL.out hb); have S4 := Lib.hid (S0.out.kept hb); clear c4 a0 a1 a2 a3; have c4 : ∀ w', Below w4.heap.size w4 w' → w'.cell? ⟨b, 4, none⟩ = some (.map (some mb)) := fun w' h => (H4.out.kept h).blk.cell (j := 4) rfl; have HC4 := Lib.hid c4; clear c4; have c40 := HC4.out _ (Below.refl _ _); have c41 : ∀ (A : Array Value) (t : TypeId), (w4.alloc (.cells A t)).cell? ⟨b, 4, none⟩ = some (.map (some mb)) := fun A t => HC4.out _ (below_alloc _ _); clear hb) | (at_lookup; refine wpList_slook_ok _ rfl _ _ _ rfl 9 48 Try.underlying9 Try.underlying52 (ezero _) mb (entM L) rfl (by first | exact H4.out.map | exact (H4.out.kept (below_alloc _ _)).map | exact (H4.out.kept (below_and (below_alloc _ _) (below_alloc _ _))).map) s rfl HS.out ?_; rw [HX.out.1, HX.out.2]; simp only [Option.getD_none, Option.getD_some]))
  go_ret
  exact ⟨rfl, below_and HB4.out (below_alloc _ _)⟩

set_option maxRecDepth 100000 in
set_option maxHeartbeats 2000000 in
theorem take_none (b mb : Nat) (cap : Am) (L : List Ent) (s t : ByteArray) (a : Am) (w : World) (h : Led w b mb cap L) (h1 : 1 ≤ s.size) (h2 : s.size ≤ 64) (ha : a.okB = true) (hx : fnd L s.data.toList = none) (hi : ¬ t.toList = []) (ht : t.size ≤ maxLen) (hy : fnd L t.data.toList = none) :
    Calls Try.prog 9 #[ptr b, .string s, .string t, amV a] w fun e w' => e = .returned (.int .i64 6) ∧ Below w.heap.size w w' := by
  obtain ⟨w3, hw3⟩ : ∃ w3, w3 = w.alloc (.cells #[.int .i64 a.c, .int .i64 a.r, .int .i64 a.d, .int .i64 a.p] 28) := ⟨_, rfl⟩
  obtain ⟨B, hB⟩ : ∃ B, B = w.heap.size := ⟨_, rfl⟩
  have S0 : Hid (Blk w3 B (amC a) 28) := Lib.hid (by rw [hw3, hB]; exact Blk.made w (amC a) _)
  have HBL : Hid (Below w.heap.size w w3) := Lib.hid (by rw [hw3]; exact below_alloc w _)
  have H := Lib.hid h
  have H3 : Hid (Led w3 b mb cap L) := Lib.hid (h.kept HBL.out)
  have c4 := H3.out.blk.cell (j := 4) rfl
  have a0 := S0.out.cell (j := 0) rfl
  have a1 := S0.out.cell (j := 1) rfl
  have a2 := S0.out.cell (j := 2) rfl
  have a3 := S0.out.cell (j := 3) rfl
  have d1 : decide ((s.size : Int) < 1) = false := by simp; omega
  have d2 : decide ((64 : Int) < (s.size : Int)) = false := by simp; omega
  have HS : Hid (s.size ≤ maxLen) := Lib.hid (by unfold maxLen; omega)
  have i0 : t.toList.isEmpty = false := by simpa using hi
  have HT := Lib.hid ht
  have HCK := Lib.hid (Am.chk_yes ha)
  have HX := Lib.hid (get_none hx)
  have HY := Lib.hid (get_none hy)
  clear h h1 h2 ha hx hi hy ht
  go_enter Try.func9, Try.ntmps9
  go_upto_region 1 with fail
  rw [← hw3, ← hB]
  clear hw3 hB
  go_wp2_with (first | (go_at_call 29; refine (none_made b mb _ _ _ H3.out).mono ?_; rintro e w' ⟨rfl, rfl⟩) | (go_at_call 28; refine (check_any a _).mono ?_; rw [HCK.out]; rintro e w4 ⟨rfl, hb⟩; have H4 := Lib.hid (H3.out.kept hb); have HB4 := Lib.hid (below_and HBL.out hb); have S4 := Lib.hid (S0.out.kept hb); clear c4 a0 a1 a2 a3; have c4 : ∀ w', Below w4.heap.size w4 w' → w'.cell? ⟨b, 4, none⟩ = some (.map (some mb)) := fun w' h => (H4.out.kept h).blk.cell (j := 4) rfl; have HC4 := Lib.hid c4; clear c4; have c40 := HC4.out _ (Below.refl _ _); have c41 : ∀ (A : Array Value) (t : TypeId), (w4.alloc (.cells A t)).cell? ⟨b, 4, none⟩ = some (.map (some mb)) := fun A t => HC4.out _ (below_alloc _ _); clear hb) | (at_lookup; refine wpList_slook_ok _ rfl _ _ _ rfl 9 48 Try.underlying9 Try.underlying52 (ezero _) mb (entM L) rfl (by first | exact H4.out.map | exact (H4.out.kept (below_alloc _ _)).map | exact (H4.out.kept (below_and (below_alloc _ _) (below_alloc _ _))).map) s rfl HS.out ?_; rw [HX.out.1, HX.out.2]; simp only [Option.getD_none, Option.getD_some]) | (at_lookup; refine wpList_slook_ok _ rfl _ _ _ rfl 9 48 Try.underlying9 Try.underlying52 (ezero _) mb (entM L) rfl (by first | exact H4.out.map | exact (H4.out.kept (below_alloc _ _)).map | exact (H4.out.kept (below_and (below_alloc _ _) (below_alloc _ _))).map) t rfl HT.out ?_; rw [HY.out.1, HY.out.2]; simp only [Option.getD_none, Option.getD_some]))
  go_ret
  exact ⟨rfl, below_and (below_and HB4.out (below_alloc _ _)) (below_alloc _ _)⟩

set_option maxRecDepth 100000 in
set_option maxHeartbeats 2000000 in
theorem take_state (b mb : Nat) (cap : Am) (L : List Ent) (s t : ByteArray) (a : Am) (y : Ent) (w : World) (h : Led w b mb cap L) (h1 : 1 ≤ s.size) (h2 : s.size ≤ 64) (ha : a.okB = true) (hx : fnd L s.data.toList = none) (hi : ¬ t.toList = []) (ht : t.size ≤ maxLen) (hy : fnd L t.data.toList = some y) (hyi : ¬ y.i.toList = []) :
    Calls Try.prog 9 #[ptr b, .string s, .string t, amV a] w fun e w' => e = .returned (.int .i64 13) ∧ Below w.heap.size w w' := by
  obtain ⟨w3, hw3⟩ : ∃ w3, w3 = w.alloc (.cells #[.int .i64 a.c, .int .i64 a.r, .int .i64 a.d, .int .i64 a.p] 28) := ⟨_, rfl⟩
  obtain ⟨B, hB⟩ : ∃ B, B = w.heap.size := ⟨_, rfl⟩
  have S0 : Hid (Blk w3 B (amC a) 28) := Lib.hid (by rw [hw3, hB]; exact Blk.made w (amC a) _)
  have HBL : Hid (Below w.heap.size w w3) := Lib.hid (by rw [hw3]; exact below_alloc w _)
  have H := Lib.hid h
  have H3 : Hid (Led w3 b mb cap L) := Lib.hid (h.kept HBL.out)
  have c4 := H3.out.blk.cell (j := 4) rfl
  have a0 := S0.out.cell (j := 0) rfl
  have a1 := S0.out.cell (j := 1) rfl
  have a2 := S0.out.cell (j := 2) rfl
  have a3 := S0.out.cell (j := 3) rfl
  have d1 : decide ((s.size : Int) < 1) = false := by simp; omega
  have d2 : decide ((64 : Int) < (s.size : Int)) = false := by simp; omega
  have HS : Hid (s.size ≤ maxLen) := Lib.hid (by unfold maxLen; omega)
  have i0 : t.toList.isEmpty = false := by simpa using hi
  have HT := Lib.hid ht
  have j0 : y.i.toList.isEmpty = false := by simpa using hyi
  have HCK := Lib.hid (Am.chk_yes ha)
  have HX := Lib.hid (get_none hx)
  have HY := Lib.hid (get_some hy)
  clear h h1 h2 ha hx hi hy ht
  go_enter Try.func9, Try.ntmps9
  go_upto_region 1 with fail
  rw [← hw3, ← hB]
  clear hw3 hB
  go_wp2_with (first | (go_at_call 29; refine (none_made b mb _ _ _ H3.out).mono ?_; rintro e w' ⟨rfl, rfl⟩) | (go_at_call 28; refine (check_any a _).mono ?_; rw [HCK.out]; rintro e w4 ⟨rfl, hb⟩; have H4 := Lib.hid (H3.out.kept hb); have HB4 := Lib.hid (below_and HBL.out hb); have S4 := Lib.hid (S0.out.kept hb); clear c4 a0 a1 a2 a3; have c4 : ∀ w', Below w4.heap.size w4 w' → w'.cell? ⟨b, 4, none⟩ = some (.map (some mb)) := fun w' h => (H4.out.kept h).blk.cell (j := 4) rfl; have HC4 := Lib.hid c4; clear c4; have c40 := HC4.out _ (Below.refl _ _); have c41 : ∀ (A : Array Value) (t : TypeId), (w4.alloc (.cells A t)).cell? ⟨b, 4, none⟩ = some (.map (some mb)) := fun A t => HC4.out _ (below_alloc _ _); clear hb) | (at_lookup; refine wpList_slook_ok _ rfl _ _ _ rfl 9 48 Try.underlying9 Try.underlying52 (ezero _) mb (entM L) rfl (by first | exact H4.out.map | exact (H4.out.kept (below_alloc _ _)).map | exact (H4.out.kept (below_and (below_alloc _ _) (below_alloc _ _))).map) s rfl HS.out ?_; rw [HX.out.1, HX.out.2]; simp only [Option.getD_none, Option.getD_some]) | (at_lookup; refine wpList_slook_ok _ rfl _ _ _ rfl 9 48 Try.underlying9 Try.underlying52 (ezero _) mb (entM L) rfl (by first | exact H4.out.map | exact (H4.out.kept (below_alloc _ _)).map | exact (H4.out.kept (below_and (below_alloc _ _) (below_alloc _ _))).map) t rfl HT.out ?_; rw [HY.out.1, HY.out.2]; simp only [Option.getD_none, Option.getD_some]))
  go_ret
  exact ⟨rfl, below_and (below_and HB4.out (below_alloc _ _)) (below_alloc _ _)⟩

theorem led_put {w w' : World} {b mb : Nat} {cap : Am} {L : List Ent} {x : Ent} (h : Led w b mb cap L) (hp : SMap Try.prog 9 w' mb ((entM L).put x.n.data.toList (entV x))) (hg : w.grownBy w' (some mb)) : Led w' b mb cap (putE L x) :=
  ⟨h.blk.grown hg (fun e => h.ne (Option.some.inj e).symm), by rw [← entM_put]; exact hp, h.ne⟩

set_option maxRecDepth 100000 in
set_option maxHeartbeats 2000000 in
theorem take_nofit_top (b mb : Nat) (cap : Am) (L : List Ent) (s t : ByteArray) (a : Am) (w : World) (h : Led w b mb cap L) (h1 : 1 ≤ s.size) (h2 : s.size ≤ 64) (ha : a.okB = true) (hx : fnd L s.data.toList = none) (hi : t.toList = []) (hd : Apart L) (ho : Oks L) (hf : Fit (inB t ⟨#[]⟩) L) (z : Am) (er : Int) (hz : subR cap (sumA (inB t ⟨#[]⟩) L) = (z, er)) (hfit : fitsB a z = false) :
    Calls Try.prog 9 #[ptr b, .string s, .string t, amV a] w fun e w' => e = .returned (.int .i64 14) ∧ Below w.heap.size w w' := by
  obtain ⟨w3, hw3⟩ : ∃ w3, w3 = w.alloc (.cells #[.int .i64 a.c, .int .i64 a.r, .int .i64 a.d, .int .i64 a.p] 28) := ⟨_, rfl⟩
  obtain ⟨B, hB⟩ : ∃ B, B = w.heap.size := ⟨_, rfl⟩
  have S0 : Hid (Blk w3 B (amC a) 28) := Lib.hid (by rw [hw3, hB]; exact Blk.made w (amC a) _)
  have HBL : Hid (Below w.heap.size w w3) := Lib.hid (by rw [hw3]; exact below_alloc w _)
  have H := Lib.hid h
  have H3 : Hid (Led w3 b mb cap L) := Lib.hid (h.kept HBL.out)
  have c4 := H3.out.blk.cell (j := 4) rfl
  have a0 := S0.out.cell (j := 0) rfl
  have a1 := S0.out.cell (j := 1) rfl
  have a2 := S0.out.cell (j := 2) rfl
  have a3 := S0.out.cell (j := 3) rfl
  have d1 : decide ((s.size : Int) < 1) = false := by simp; omega
  have d2 : decide ((64 : Int) < (s.size : Int)) = false := by simp; omega
  have HS : Hid (s.size ≤ maxLen) := Lib.hid (by unfold maxLen; omega)
  have i0 : t.toList.isEmpty = true := by rw [hi]; rfl
  have HCK := Lib.hid (Am.chk_yes ha)
  have HX := Lib.hid (get_none hx)
  have HRM : Hid (∀ w, Led w b mb cap L → Calls Try.prog 31 #[ptr b, .string t, .string ⟨#[]⟩] w fun e w' => e = .returned (amV z) ∧ Below w.heap.size w w') := Lib.hid (fun w h => room_top b mb cap L t ⟨#[]⟩ w h hd ho hf hi z er hz)
  have HFV : Hid (∀ w, Calls Try.prog 30 #[amV a, amV z] w fun e w' => e = .returned (.bool false) ∧ Below w.heap.size w w') := Lib.hid (fun w => fits_val hfit w)
  clear h h1 h2 ha hx hi hd ho hf hz hfit
  go_enter Try.func9, Try.ntmps9
  go_upto_region 1 with fail
  rw [← hw3, ← hB]
  clear hw3 hB
  go_upto_region 14 with (first | (go_at_call 29; refine (none_made b mb _ _ _ H3.out).mono ?_; rintro e w' ⟨rfl, rfl⟩) | (go_at_call 28; refine (check_any a _).mono ?_; rw [HCK.out]; rintro e w4 ⟨rfl, hb⟩; have H4 := Lib.hid (H3.out.kept hb); have HB4 := Lib.hid (below_and HBL.out hb); have S4 := Lib.hid (S0.out.kept hb); clear c4 a0 a1 a2 a3; have c4 : ∀ w', Below w4.heap.size w4 w' → w'.cell? ⟨b, 4, none⟩ = some (.map (some mb)) := fun w' h => (H4.out.kept h).blk.cell (j := 4) rfl; have HC4 := Lib.hid c4; clear c4; have c40 := HC4.out _ (Below.refl _ _); have c41 : ∀ (A : Array Value) (t : TypeId), (w4.alloc (.cells A t)).cell? ⟨b, 4, none⟩ = some (.map (some mb)) := fun A t => HC4.out _ (below_alloc _ _); clear hb) | (at_lookup; refine wpList_slook_ok _ rfl _ _ _ rfl 9 48 Try.underlying9 Try.underlying52 (ezero _) mb (entM L) rfl (by first | exact H4.out.map | exact (H4.out.kept (below_alloc _ _)).map | exact (H4.out.kept (below_and (below_alloc _ _) (below_alloc _ _))).map) s rfl HS.out ?_; rw [HX.out.1, HX.out.2]; simp only [Option.getD_none, Option.getD_some]))
  obtain ⟨w5, hw5⟩ : ∃ w5, w5 = w4.alloc (.cells #[.string ⟨#[]⟩, .string ⟨#[]⟩, .int .i64 0, .int .i64 0, .int .i64 0, .int .i64 0] 48) := ⟨_, rfl⟩
  have hb5 : Below w4.heap.size w4 w5 := by rw [hw5]; exact below_alloc w4 _
  have H5 := Lib.hid (H4.out.kept hb5)
  have S5 := Lib.hid (S4.out.kept hb5)
  have HB5 := Lib.hid (below_and HB4.out hb5)
  rw [← hw5]
  clear hw5 hb5 c40 c41
  have p0 := Past.blk S5.out (j := 0) rfl
  have p1 := Past.blk S5.out (j := 1) rfl
  have p2 := Past.blk S5.out (j := 2) rfl
  have p3 := Past.blk S5.out (j := 3) rfl
  refine wp_region_past (by kernel_rfl) (by kernel_rfl) ?_
  repeat (go_big_quiet_step (first
    | (go_at_call 31; exact past_call (HRM.out _ (H5.out.kept (Past.h _))))
    | (go_at_call 30; exact past_call (HFV.out _))))
  refine wpQuiet_nil ?_
  intro _ hw'
  obtain ⟨s', hw''⟩ := hw'
  subst hw''
  obtain ⟨w6, h6, e6⟩ : ∃ w6, Below w5.heap.size w5 w6 ∧ w6 = s'.val := ⟨_, s'.h, rfl⟩
  rw [← e6]
  have H6 := Lib.hid (H5.out.kept h6)
  have S6 := Lib.hid (S5.out.kept h6)
  have HB6 := Lib.hid (below_and HB5.out h6)
  clear h6 e6 p0 p1 p2 p3
  go_wp2
  go_ret
  exact ⟨rfl, HB6.out⟩

set_option maxRecDepth 100000 in
set_option maxHeartbeats 2000000 in
theorem take_nofit_in (b mb : Nat) (cap : Am) (L : List Ent) (s t : ByteArray) (a : Am) (y : Ent) (w : World) (h : Led w b mb cap L) (h1 : 1 ≤ s.size) (h2 : s.size ≤ 64) (ha : a.okB = true) (hx : fnd L s.data.toList = none) (hi : ¬ t.toList = []) (ht : t.size ≤ maxLen) (hy : fnd L t.data.toList = some y) (hyi : y.i.toList = []) (hd : Apart L) (ho : Oks L) (hf : Fit (inB t ⟨#[]⟩) L) (z : Am) (er : Int) (hz : subR y.a (sumA (inB t ⟨#[]⟩) L) = (z, er)) (hfit : fitsB a z = false) :
    Calls Try.prog 9 #[ptr b, .string s, .string t, amV a] w fun e w' => e = .returned (.int .i64 14) ∧ Below w.heap.size w w' := by
  obtain ⟨w3, hw3⟩ : ∃ w3, w3 = w.alloc (.cells #[.int .i64 a.c, .int .i64 a.r, .int .i64 a.d, .int .i64 a.p] 28) := ⟨_, rfl⟩
  obtain ⟨B, hB⟩ : ∃ B, B = w.heap.size := ⟨_, rfl⟩
  have S0 : Hid (Blk w3 B (amC a) 28) := Lib.hid (by rw [hw3, hB]; exact Blk.made w (amC a) _)
  have HBL : Hid (Below w.heap.size w w3) := Lib.hid (by rw [hw3]; exact below_alloc w _)
  have H := Lib.hid h
  have H3 : Hid (Led w3 b mb cap L) := Lib.hid (h.kept HBL.out)
  have c4 := H3.out.blk.cell (j := 4) rfl
  have a0 := S0.out.cell (j := 0) rfl
  have a1 := S0.out.cell (j := 1) rfl
  have a2 := S0.out.cell (j := 2) rfl
  have a3 := S0.out.cell (j := 3) rfl
  have d1 : decide ((s.size : Int) < 1) = false := by simp; omega
  have d2 : decide ((64 : Int) < (s.size : Int)) = false := by simp; omega
  have HS : Hid (s.size ≤ maxLen) := Lib.hid (by unfold maxLen; omega)
  have i0 : t.toList.isEmpty = false := by simpa using hi
  have HT := Lib.hid ht
  have j0 : y.i.toList.isEmpty = true := by rw [hyi]; rfl
  have HCK := Lib.hid (Am.chk_yes ha)
  have HX := Lib.hid (get_none hx)
  have HY := Lib.hid (get_some hy)
  have HRM : Hid (∀ w, Led w b mb cap L → Calls Try.prog 31 #[ptr b, .string t, .string ⟨#[]⟩] w fun e w' => e = .returned (amV z) ∧ Below w.heap.size w w') := Lib.hid (fun w h => room_in b mb cap L t ⟨#[]⟩ y w h hd ho hf hi ht hy z er hz)
  have HFV : Hid (∀ w, Calls Try.prog 30 #[amV a, amV z] w fun e w' => e = .returned (.bool false) ∧ Below w.heap.size w w') := Lib.hid (fun w => fits_val hfit w)
  clear h h1 h2 ha hx hi hd ho hf hz hfit hy ht hyi
  go_enter Try.func9, Try.ntmps9
  go_upto_region 1 with fail
  rw [← hw3, ← hB]
  clear hw3 hB
  go_upto_region 14 with (first | (go_at_call 29; refine (none_made b mb _ _ _ H3.out).mono ?_; rintro e w' ⟨rfl, rfl⟩) | (go_at_call 28; refine (check_any a _).mono ?_; rw [HCK.out]; rintro e w4 ⟨rfl, hb⟩; have H4 := Lib.hid (H3.out.kept hb); have HB4 := Lib.hid (below_and HBL.out hb); have S4 := Lib.hid (S0.out.kept hb); clear c4 a0 a1 a2 a3; have c4 : ∀ w', Below w4.heap.size w4 w' → w'.cell? ⟨b, 4, none⟩ = some (.map (some mb)) := fun w' h => (H4.out.kept h).blk.cell (j := 4) rfl; have HC4 := Lib.hid c4; clear c4; have c40 := HC4.out _ (Below.refl _ _); have c41 : ∀ (A : Array Value) (t : TypeId), (w4.alloc (.cells A t)).cell? ⟨b, 4, none⟩ = some (.map (some mb)) := fun A t => HC4.out _ (below_alloc _ _); clear hb) | (at_lookup; refine wpList_slook_ok _ rfl _ _ _ rfl 9 48 Try.underlying9 Try.underlying52 (ezero _) mb (entM L) rfl (by first | exact H4.out.map | exact (H4.out.kept (below_alloc _ _)).map | exact (H4.out.kept (below_and (below_alloc _ _) (below_alloc _ _))).map) s rfl HS.out ?_; rw [HX.out.1, HX.out.2]; simp only [Option.getD_none, Option.getD_some]) | (at_lookup; refine wpList_slook_ok _ rfl _ _ _ rfl 9 48 Try.underlying9 Try.underlying52 (ezero _) mb (entM L) rfl (by first | exact H4.out.map | exact (H4.out.kept (below_alloc _ _)).map | exact (H4.out.kept (below_and (below_alloc _ _) (below_alloc _ _))).map) t rfl HT.out ?_; rw [HY.out.1, HY.out.2]; simp only [Option.getD_none, Option.getD_some]))
  obtain ⟨w5, hw5⟩ : ∃ w5, w5 = (w4.alloc (.cells #[.string ⟨#[]⟩, .string ⟨#[]⟩, .int .i64 0, .int .i64 0, .int .i64 0, .int .i64 0] 48)).alloc (.cells #[.string y.n, .string y.i, .int .i64 y.a.c, .int .i64 y.a.r, .int .i64 y.a.d, .int .i64 y.a.p] 48) := ⟨_, rfl⟩
  have hb5 : Below w4.heap.size w4 w5 := by rw [hw5]; exact below_and (below_alloc w4 _) (below_alloc _ _)
  have H5 := Lib.hid (H4.out.kept hb5)
  have S5 := Lib.hid (S4.out.kept hb5)
  have HB5 := Lib.hid (below_and HB4.out hb5)
  rw [← hw5]
  clear hw5 hb5 c40 c41
  have p0 := Past.blk S5.out (j := 0) rfl
  have p1 := Past.blk S5.out (j := 1) rfl
  have p2 := Past.blk S5.out (j := 2) rfl
  have p3 := Past.blk S5.out (j := 3) rfl
  refine wp_region_past (by kernel_rfl) (by kernel_rfl) ?_
  repeat (go_big_quiet_step (first
    | (go_at_call 31; exact past_call (HRM.out _ (H5.out.kept (Past.h _))))
    | (go_at_call 30; exact past_call (HFV.out _))))
  refine wpQuiet_nil ?_
  intro _ hw'
  obtain ⟨s', hw''⟩ := hw'
  subst hw''
  obtain ⟨w6, h6, e6⟩ : ∃ w6, Below w5.heap.size w5 w6 ∧ w6 = s'.val := ⟨_, s'.h, rfl⟩
  rw [← e6]
  have H6 := Lib.hid (H5.out.kept h6)
  have S6 := Lib.hid (S5.out.kept h6)
  have HB6 := Lib.hid (below_and HB5.out h6)
  clear h6 e6 p0 p1 p2 p3
  go_wp2
  go_ret
  exact ⟨rfl, HB6.out⟩

set_option maxRecDepth 100000 in
set_option maxHeartbeats 2000000 in
theorem take_ok_top (b mb : Nat) (cap : Am) (L : List Ent) (s t : ByteArray) (a : Am) (w : World) (h : Led w b mb cap L) (h1 : 1 ≤ s.size) (h2 : s.size ≤ 64) (ha : a.okB = true) (hx : fnd L s.data.toList = none) (hi : t.toList = []) (hd : Apart L) (ho : Oks L) (hf : Fit (inB t ⟨#[]⟩) L) (z : Am) (er : Int) (hz : subR cap (sumA (inB t ⟨#[]⟩) L) = (z, er)) (hln : L.length < maxLen) (hfit : fitsB a z = true) :
    Calls Try.prog 9 #[ptr b, .string s, .string t, amV a] w fun e w' => e = .returned (.int .i64 0) ∧ Led w' b mb cap (putE L ⟨s, t, a⟩) ∧ Fr [mb] w w' := by
  obtain ⟨w3, hw3⟩ : ∃ w3, w3 = w.alloc (.cells #[.int .i64 a.c, .int .i64 a.r, .int .i64 a.d, .int .i64 a.p] 28) := ⟨_, rfl⟩
  obtain ⟨B, hB⟩ : ∃ B, B = w.heap.size := ⟨_, rfl⟩
  have S0 : Hid (Blk w3 B (amC a) 28) := Lib.hid (by rw [hw3, hB]; exact Blk.made w (amC a) _)
  have HBL : Hid (Below w.heap.size w w3) := Lib.hid (by rw [hw3]; exact below_alloc w _)
  have H := Lib.hid h
  have H3 : Hid (Led w3 b mb cap L) := Lib.hid (h.kept HBL.out)
  have c4 := H3.out.blk.cell (j := 4) rfl
  have a0 := S0.out.cell (j := 0) rfl
  have a1 := S0.out.cell (j := 1) rfl
  have a2 := S0.out.cell (j := 2) rfl
  have a3 := S0.out.cell (j := 3) rfl
  have d1 : decide ((s.size : Int) < 1) = false := by simp; omega
  have d2 : decide ((64 : Int) < (s.size : Int)) = false := by simp; omega
  have HS : Hid (s.size ≤ maxLen) := Lib.hid (by unfold maxLen; omega)
  have i0 : t.toList.isEmpty = true := by rw [hi]; rfl
  have HCK := Lib.hid (Am.chk_yes ha)
  have HX := Lib.hid (get_none hx)
  have HRM : Hid (∀ w, Led w b mb cap L → Calls Try.prog 31 #[ptr b, .string t, .string ⟨#[]⟩] w fun e w' => e = .returned (amV z) ∧ Below w.heap.size w w') := Lib.hid (fun w h => room_top b mb cap L t ⟨#[]⟩ w h hd ho hf hi z er hz)
  have HFV : Hid (∀ w, Calls Try.prog 30 #[amV a, amV z] w fun e w' => e = .returned (.bool true) ∧ Below w.heap.size w w') := Lib.hid (fun w => fits_val hfit w)
  have HLN := Lib.hid hln
  clear h h1 h2 ha hx hi hd ho hf hz hfit hln
  go_enter Try.func9, Try.ntmps9
  go_upto_region 1 with fail
  rw [← hw3, ← hB]
  clear hw3 hB
  go_upto_region 14 with (first | (go_at_call 29; refine (none_made b mb _ _ _ H3.out).mono ?_; rintro e w' ⟨rfl, rfl⟩) | (go_at_call 28; refine (check_any a _).mono ?_; rw [HCK.out]; rintro e w4 ⟨rfl, hb⟩; have H4 := Lib.hid (H3.out.kept hb); have HB4 := Lib.hid (below_and HBL.out hb); have S4 := Lib.hid (S0.out.kept hb); clear c4 a0 a1 a2 a3; have c4 : ∀ w', Below w4.heap.size w4 w' → w'.cell? ⟨b, 4, none⟩ = some (.map (some mb)) := fun w' h => (H4.out.kept h).blk.cell (j := 4) rfl; have HC4 := Lib.hid c4; clear c4; have c40 := HC4.out _ (Below.refl _ _); have c41 : ∀ (A : Array Value) (t : TypeId), (w4.alloc (.cells A t)).cell? ⟨b, 4, none⟩ = some (.map (some mb)) := fun A t => HC4.out _ (below_alloc _ _); clear hb) | (at_lookup; refine wpList_slook_ok _ rfl _ _ _ rfl 9 48 Try.underlying9 Try.underlying52 (ezero _) mb (entM L) rfl (by first | exact H4.out.map | exact (H4.out.kept (below_alloc _ _)).map | exact (H4.out.kept (below_and (below_alloc _ _) (below_alloc _ _))).map) s rfl HS.out ?_; rw [HX.out.1, HX.out.2]; simp only [Option.getD_none, Option.getD_some]))
  obtain ⟨w5, hw5⟩ : ∃ w5, w5 = w4.alloc (.cells #[.string ⟨#[]⟩, .string ⟨#[]⟩, .int .i64 0, .int .i64 0, .int .i64 0, .int .i64 0] 48) := ⟨_, rfl⟩
  have hb5 : Below w4.heap.size w4 w5 := by rw [hw5]; exact below_alloc w4 _
  have H5 := Lib.hid (H4.out.kept hb5)
  have S5 := Lib.hid (S4.out.kept hb5)
  have HB5 := Lib.hid (below_and HB4.out hb5)
  rw [← hw5]
  clear hw5 hb5 c40 c41
  have p0 := Past.blk S5.out (j := 0) rfl
  have p1 := Past.blk S5.out (j := 1) rfl
  have p2 := Past.blk S5.out (j := 2) rfl
  have p3 := Past.blk S5.out (j := 3) rfl
  refine wp_region_past (by kernel_rfl) (by kernel_rfl) ?_
  repeat (go_big_quiet_step (first
    | (go_at_call 31; exact past_call (HRM.out _ (H5.out.kept (Past.h _))))
    | (go_at_call 30; exact past_call (HFV.out _))))
  refine wpQuiet_nil ?_
  intro _ hw'
  obtain ⟨s', hw''⟩ := hw'
  subst hw''
  obtain ⟨w6, h6, e6⟩ : ∃ w6, Below w5.heap.size w5 w6 ∧ w6 = s'.val := ⟨_, s'.h, rfl⟩
  rw [← e6]
  have H6 := Lib.hid (H5.out.kept h6)
  have S6 := Lib.hid (S5.out.kept h6)
  have HB6 := Lib.hid (below_and HB5.out h6)
  clear h6 e6 p0 p1 p2 p3
  go_upto_region 16 with fail
  have p0 := Past.blk S6.out (j := 0) rfl
  have p1 := Past.blk S6.out (j := 1) rfl
  have p2 := Past.blk S6.out (j := 2) rfl
  have p3 := Past.blk S6.out (j := 3) rfl
  have p4 := Past.blk H6.out.blk (j := 4) rfl
  refine wp_region_past_last (by rfl) (by kernel_rfl) (by kernel_rfl) (by kernel_rfl) ?_
  simp only [List.dropLast, List.getLast_cons_cons, List.getLast_singleton]
  repeat (go_big_quiet_step (fail))
  refine wpQuiet_nil ?_
  intro _ hw'
  obtain ⟨s2, hw''⟩ := hw'
  subst hw''
  obtain ⟨w7, h7, e7⟩ : ∃ w7, Below w6.heap.size w6 w7 ∧ w7 = s2.val := ⟨_, s2.h, rfl⟩
  rw [← e7]
  have H7 := Lib.hid (H6.out.kept h7)
  have HB7 := Lib.hid (below_and HB6.out h7)
  clear h7 e7 p0 p1 p2 p3 p4
  go_wp2_with (refine wpList_sput _ rfl _ _ _ _ rfl 9 48 Try.underlying9 Try.underlying52 mb (entM L) rfl H7.out.map (by rw [entM_len]; exact HLN.out) s (entV ⟨s, t, a⟩) rfl rfl HS.out ?_; intro w8 hp8 hg8; have HP8 := Lib.hid hp8; have HG8 := Lib.hid hg8; clear hp8 hg8)
  go_ret
  exact ⟨rfl, led_put H7.out HP8.out HG8.out, (Fr.of_below HB7.out [mb]).then (Fr.of_grown HG8.out)⟩

set_option maxRecDepth 100000 in
set_option maxHeartbeats 2000000 in
theorem take_ok_in (b mb : Nat) (cap : Am) (L : List Ent) (s t : ByteArray) (a : Am) (y : Ent) (w : World) (h : Led w b mb cap L) (h1 : 1 ≤ s.size) (h2 : s.size ≤ 64) (ha : a.okB = true) (hx : fnd L s.data.toList = none) (hi : ¬ t.toList = []) (ht : t.size ≤ maxLen) (hy : fnd L t.data.toList = some y) (hyi : y.i.toList = []) (hd : Apart L) (ho : Oks L) (hf : Fit (inB t ⟨#[]⟩) L) (z : Am) (er : Int) (hz : subR y.a (sumA (inB t ⟨#[]⟩) L) = (z, er)) (hln : L.length < maxLen) (hfit : fitsB a z = true) :
    Calls Try.prog 9 #[ptr b, .string s, .string t, amV a] w fun e w' => e = .returned (.int .i64 0) ∧ Led w' b mb cap (putE L ⟨s, t, a⟩) ∧ Fr [mb] w w' := by
  obtain ⟨w3, hw3⟩ : ∃ w3, w3 = w.alloc (.cells #[.int .i64 a.c, .int .i64 a.r, .int .i64 a.d, .int .i64 a.p] 28) := ⟨_, rfl⟩
  obtain ⟨B, hB⟩ : ∃ B, B = w.heap.size := ⟨_, rfl⟩
  have S0 : Hid (Blk w3 B (amC a) 28) := Lib.hid (by rw [hw3, hB]; exact Blk.made w (amC a) _)
  have HBL : Hid (Below w.heap.size w w3) := Lib.hid (by rw [hw3]; exact below_alloc w _)
  have H := Lib.hid h
  have H3 : Hid (Led w3 b mb cap L) := Lib.hid (h.kept HBL.out)
  have c4 := H3.out.blk.cell (j := 4) rfl
  have a0 := S0.out.cell (j := 0) rfl
  have a1 := S0.out.cell (j := 1) rfl
  have a2 := S0.out.cell (j := 2) rfl
  have a3 := S0.out.cell (j := 3) rfl
  have d1 : decide ((s.size : Int) < 1) = false := by simp; omega
  have d2 : decide ((64 : Int) < (s.size : Int)) = false := by simp; omega
  have HS : Hid (s.size ≤ maxLen) := Lib.hid (by unfold maxLen; omega)
  have i0 : t.toList.isEmpty = false := by simpa using hi
  have HT := Lib.hid ht
  have j0 : y.i.toList.isEmpty = true := by rw [hyi]; rfl
  have HCK := Lib.hid (Am.chk_yes ha)
  have HX := Lib.hid (get_none hx)
  have HY := Lib.hid (get_some hy)
  have HRM : Hid (∀ w, Led w b mb cap L → Calls Try.prog 31 #[ptr b, .string t, .string ⟨#[]⟩] w fun e w' => e = .returned (amV z) ∧ Below w.heap.size w w') := Lib.hid (fun w h => room_in b mb cap L t ⟨#[]⟩ y w h hd ho hf hi ht hy z er hz)
  have HFV : Hid (∀ w, Calls Try.prog 30 #[amV a, amV z] w fun e w' => e = .returned (.bool true) ∧ Below w.heap.size w w') := Lib.hid (fun w => fits_val hfit w)
  have HLN := Lib.hid hln
  clear h h1 h2 ha hx hi hd ho hf hz hfit hy ht hyi hln
  go_enter Try.func9, Try.ntmps9
  go_upto_region 1 with fail
  rw [← hw3, ← hB]
  clear hw3 hB
  go_upto_region 14 with (first | (go_at_call 29; refine (none_made b mb _ _ _ H3.out).mono ?_; rintro e w' ⟨rfl, rfl⟩) | (go_at_call 28; refine (check_any a _).mono ?_; rw [HCK.out]; rintro e w4 ⟨rfl, hb⟩; have H4 := Lib.hid (H3.out.kept hb); have HB4 := Lib.hid (below_and HBL.out hb); have S4 := Lib.hid (S0.out.kept hb); clear c4 a0 a1 a2 a3; have c4 : ∀ w', Below w4.heap.size w4 w' → w'.cell? ⟨b, 4, none⟩ = some (.map (some mb)) := fun w' h => (H4.out.kept h).blk.cell (j := 4) rfl; have HC4 := Lib.hid c4; clear c4; have c40 := HC4.out _ (Below.refl _ _); have c41 : ∀ (A : Array Value) (t : TypeId), (w4.alloc (.cells A t)).cell? ⟨b, 4, none⟩ = some (.map (some mb)) := fun A t => HC4.out _ (below_alloc _ _); clear hb) | (at_lookup; refine wpList_slook_ok _ rfl _ _ _ rfl 9 48 Try.underlying9 Try.underlying52 (ezero _) mb (entM L) rfl (by first | exact H4.out.map | exact (H4.out.kept (below_alloc _ _)).map | exact (H4.out.kept (below_and (below_alloc _ _) (below_alloc _ _))).map) s rfl HS.out ?_; rw [HX.out.1, HX.out.2]; simp only [Option.getD_none, Option.getD_some]) | (at_lookup; refine wpList_slook_ok _ rfl _ _ _ rfl 9 48 Try.underlying9 Try.underlying52 (ezero _) mb (entM L) rfl (by first | exact H4.out.map | exact (H4.out.kept (below_alloc _ _)).map | exact (H4.out.kept (below_and (below_alloc _ _) (below_alloc _ _))).map) t rfl HT.out ?_; rw [HY.out.1, HY.out.2]; simp only [Option.getD_none, Option.getD_some]))
  obtain ⟨w5, hw5⟩ : ∃ w5, w5 = (w4.alloc (.cells #[.string ⟨#[]⟩, .string ⟨#[]⟩, .int .i64 0, .int .i64 0, .int .i64 0, .int .i64 0] 48)).alloc (.cells #[.string y.n, .string y.i, .int .i64 y.a.c, .int .i64 y.a.r, .int .i64 y.a.d, .int .i64 y.a.p] 48) := ⟨_, rfl⟩
  have hb5 : Below w4.heap.size w4 w5 := by rw [hw5]; exact below_and (below_alloc w4 _) (below_alloc _ _)
  have H5 := Lib.hid (H4.out.kept hb5)
  have S5 := Lib.hid (S4.out.kept hb5)
  have HB5 := Lib.hid (below_and HB4.out hb5)
  rw [← hw5]
  clear hw5 hb5 c40 c41
  have p0 := Past.blk S5.out (j := 0) rfl
  have p1 := Past.blk S5.out (j := 1) rfl
  have p2 := Past.blk S5.out (j := 2) rfl
  have p3 := Past.blk S5.out (j := 3) rfl
  refine wp_region_past (by kernel_rfl) (by kernel_rfl) ?_
  repeat (go_big_quiet_step (first
    | (go_at_call 31; exact past_call (HRM.out _ (H5.out.kept (Past.h _))))
    | (go_at_call 30; exact past_call (HFV.out _))))
  refine wpQuiet_nil ?_
  intro _ hw'
  obtain ⟨s', hw''⟩ := hw'
  subst hw''
  obtain ⟨w6, h6, e6⟩ : ∃ w6, Below w5.heap.size w5 w6 ∧ w6 = s'.val := ⟨_, s'.h, rfl⟩
  rw [← e6]
  have H6 := Lib.hid (H5.out.kept h6)
  have S6 := Lib.hid (S5.out.kept h6)
  have HB6 := Lib.hid (below_and HB5.out h6)
  clear h6 e6 p0 p1 p2 p3
  go_upto_region 16 with fail
  have p0 := Past.blk S6.out (j := 0) rfl
  have p1 := Past.blk S6.out (j := 1) rfl
  have p2 := Past.blk S6.out (j := 2) rfl
  have p3 := Past.blk S6.out (j := 3) rfl
  have p4 := Past.blk H6.out.blk (j := 4) rfl
  refine wp_region_past_last (by rfl) (by kernel_rfl) (by kernel_rfl) (by kernel_rfl) ?_
  simp only [List.dropLast, List.getLast_cons_cons, List.getLast_singleton]
  repeat (go_big_quiet_step (fail))
  refine wpQuiet_nil ?_
  intro _ hw'
  obtain ⟨s2, hw''⟩ := hw'
  subst hw''
  obtain ⟨w7, h7, e7⟩ : ∃ w7, Below w6.heap.size w6 w7 ∧ w7 = s2.val := ⟨_, s2.h, rfl⟩
  rw [← e7]
  have H7 := Lib.hid (H6.out.kept h7)
  have HB7 := Lib.hid (below_and HB6.out h7)
  clear h7 e7 p0 p1 p2 p3 p4
  go_wp2_with (refine wpList_sput _ rfl _ _ _ _ rfl 9 48 Try.underlying9 Try.underlying52 mb (entM L) rfl H7.out.map (by rw [entM_len]; exact HLN.out) s (entV ⟨s, t, a⟩) rfl rfl HS.out ?_; intro w8 hp8 hg8; have HP8 := Lib.hid hp8; have HG8 := Lib.hid hg8; clear hp8 hg8)
  go_ret
  exact ⟨rfl, led_put H7.out HP8.out HG8.out, (Fr.of_below HB7.out [mb]).then (Fr.of_grown HG8.out)⟩
end Go.Proofs.Ytighcnecajgkpaa
