/- The book's Change. -/
import Derived.Test.YtmgbailpmcggiaaQLeft
namespace Go.Proofs.Ytmgbailpmcggiaa
open Go.RowKit


set_option maxRecDepth 100000 in
set_option maxHeartbeats 2000000 in
theorem bchange_b1 (b mg mc : Nat) (G : List Gr) (C : List Ch) (n : ByteArray) (a : Am) (w : World) (h : Bk w b mg mc G C) (hn : nmdB n = false) :
    Calls Try.prog 11 #[ptr b, .string n, amV a] w fun e w' => e = .returned (.int .i64 2) ∧ Below w.heap.size w w' := by
  obtain ⟨w3, hw3⟩ : ∃ w3, w3 = w.alloc (.cells #[.int .i64 a.c, .int .i64 a.r, .int .i64 a.d, .int .i64 a.p] 28) := ⟨_, rfl⟩
  obtain ⟨B, hB⟩ : ∃ B, B = w.heap.size := ⟨_, rfl⟩
  have B0 : Hid (Blk w3 B (amC a) 28) := Lib.hid (by rw [hw3, hB]; exact Blk.made w (amC a) _)
  have HBL : Hid (Below w.heap.size w w3) := Lib.hid (by rw [hw3]; exact below_alloc w _)
  have H3 := Lib.hid (h.kept HBL.out)
  have c0 := B0.out.cell (j := 0) rfl
  have c1 := B0.out.cell (j := 1) rfl
  have c2 := B0.out.cell (j := 2) rfl
  have c3 := B0.out.cell (j := 3) rfl
  have HNE : Hid (nmdE n = 2) := Lib.hid (by unfold nmdE; rw [hn]; rfl)
  clear h hn
  go_enter Try.func11, Try.ntmps11
  go_upto_region 1 with fail
  rw [← hw3, ← hB]
  clear hw3 hB
  go_wp2_with (go_at_call 26; refine (named_made b mg mc G C n _ H3.out).mono ?_; rw [HNE.out]; rintro e w4 ⟨rfl, rfl⟩)
  go_ret
  exact ⟨rfl, HBL.out⟩

set_option maxRecDepth 100000 in
set_option maxHeartbeats 2000000 in
theorem bchange_b2 (b mg mc : Nat) (G : List Gr) (C : List Ch) (n : ByteArray) (a : Am) (w : World) (h : Bk w b mg mc G C) (hn : nmdB n = true) (ha : a.okB = false) :
    Calls Try.prog 11 #[ptr b, .string n, amV a] w fun e w' => e = .returned (.int .i64 2) ∧ Below w.heap.size w w' := by
  obtain ⟨w3, hw3⟩ : ∃ w3, w3 = w.alloc (.cells #[.int .i64 a.c, .int .i64 a.r, .int .i64 a.d, .int .i64 a.p] 28) := ⟨_, rfl⟩
  obtain ⟨B, hB⟩ : ∃ B, B = w.heap.size := ⟨_, rfl⟩
  have B0 : Hid (Blk w3 B (amC a) 28) := Lib.hid (by rw [hw3, hB]; exact Blk.made w (amC a) _)
  have HBL : Hid (Below w.heap.size w w3) := Lib.hid (by rw [hw3]; exact below_alloc w _)
  have H3 := Lib.hid (h.kept HBL.out)
  have c0 := B0.out.cell (j := 0) rfl
  have c1 := B0.out.cell (j := 1) rfl
  have c2 := B0.out.cell (j := 2) rfl
  have c3 := B0.out.cell (j := 3) rfl
  have HNE : Hid (nmdE n = 0) := Lib.hid (by unfold nmdE; rw [hn]; rfl)
  have HA : Hid (a.chk = 2) := Lib.hid (Am.chk_no ha)
  clear h hn ha
  go_enter Try.func11, Try.ntmps11
  go_upto_region 1 with fail
  rw [← hw3, ← hB]
  clear hw3 hB
  go_wp2_with (first | (go_at_call 26; refine (named_made b mg mc G C n _ H3.out).mono ?_; rw [HNE.out]; rintro e w4 ⟨rfl, rfl⟩) | (go_at_call 25; refine (check_any a _).mono ?_; rw [HA.out]; rintro e w4 ⟨rfl, hb⟩; have HB4 := Lib.hid (below_and HBL.out hb); have H4 := Lib.hid (H3.out.kept hb); have C4 := Lib.hid (B0.out.kept hb); clear hb c0 c1 c2 c3))
  go_ret
  exact ⟨rfl, HB4.out⟩

set_option maxRecDepth 100000 in
set_option maxHeartbeats 2000000 in
theorem bchange_b3 (b mg mc : Nat) (G : List Gr) (C : List Ch) (n : ByteArray) (a : Am) (w : World) (h : Bk w b mg mc G C) (hn : nmdB n = true) (ha : a.okB = true) (hx : kfnd Ch.key C n.data.toList = none) :
    Calls Try.prog 11 #[ptr b, .string n, amV a] w fun e w' => e = .returned (.int .i64 6) ∧ Below w.heap.size w w' := by
  obtain ⟨w3, hw3⟩ : ∃ w3, w3 = w.alloc (.cells #[.int .i64 a.c, .int .i64 a.r, .int .i64 a.d, .int .i64 a.p] 28) := ⟨_, rfl⟩
  obtain ⟨B, hB⟩ : ∃ B, B = w.heap.size := ⟨_, rfl⟩
  have B0 : Hid (Blk w3 B (amC a) 28) := Lib.hid (by rw [hw3, hB]; exact Blk.made w (amC a) _)
  have HBL : Hid (Below w.heap.size w w3) := Lib.hid (by rw [hw3]; exact below_alloc w _)
  have H3 := Lib.hid (h.kept HBL.out)
  have c0 := B0.out.cell (j := 0) rfl
  have c1 := B0.out.cell (j := 1) rfl
  have c2 := B0.out.cell (j := 2) rfl
  have c3 := B0.out.cell (j := 3) rfl
  have HNE : Hid (nmdE n = 0) := Lib.hid (by unfold nmdE; rw [hn]; rfl)
  have HA : Hid (a.chk = 0) := Lib.hid (Am.chk_yes ha)
  have HLK : Hid (∀ w', SMap Try.prog 9 w' mc (chM C) → (Instr.lookup 52 (.map (some mc)) (.string n) true).run Try.prog w' = .ok (.tuple #[chV zC, .bool false]) w') := Lib.hid (fun w' h' => by rw [charge_look h' (nmdB_len hn), hx]; rfl)
  clear h hn ha hx
  go_enter Try.func11, Try.ntmps11
  go_upto_region 1 with fail
  rw [← hw3, ← hB]
  clear hw3 hB
  go_upto_region 7 with (first | (go_at_call 26; refine (named_made b mg mc G C n _ H3.out).mono ?_; rw [HNE.out]; rintro e w4 ⟨rfl, rfl⟩) | (go_at_call 25; refine (check_any a _).mono ?_; rw [HA.out]; rintro e w4 ⟨rfl, hb⟩; have HB4 := Lib.hid (below_and HBL.out hb); have H4 := Lib.hid (H3.out.kept hb); have C4 := Lib.hid (B0.out.kept hb); clear hb c0 c1 c2 c3))
  have g1 := H4.out.blk.cell (j := 1) rfl
  have hlk := HLK.out _ H4.out.cm
  go_wp2_with fail
  go_ret
  exact ⟨rfl, below_and HB4.out (below_alloc _ _)⟩

theorem Bk.set {w : World} {b mg mc : Nat} {G : List Gr} {C : List Ch} (h : Bk w b mg mc G C) {X : Nat} (h1 : X ≠ b) (h2 : X ≠ mg) (h3 : X ≠ mc) (k : Nat) (v : Value) : Bk (w.setCell ⟨X, k, none⟩ v) b mg mc G C := by
  have hg : w.grownBy (w.setCell ⟨X, k, none⟩ v) (some X) := grown_set (grown_refl w (some X)) k v
  exact ⟨h.blk.other (a := ⟨X, k, none⟩) (by simpa using Ne.symm h1) v, h.gm.grown hg (by simpa using Ne.symm h2), h.cm.grown hg (by simpa using Ne.symm h3), h.n1, h.n2, h.n3⟩


set_option maxRecDepth 100000 in
set_option maxHeartbeats 2000000 in
theorem bchange_b4 (b mg mc : Nat) (G : List Gr) (C : List Ch) (n : ByteArray) (a : Am) (w : World) (h : Bk w b mg mc G C) (x : Ch) (hi : ChI C) (hn : nmdB n = true) (ha : a.okB = true) (hx : kfnd Ch.key C n.data.toList = some x) (hk : askB x.u x.b = true) (m : Int) (hm : mayP G C ⟨x.n, x.u, x.b, a⟩ (fitsB a x.a) = m) (hm0 : m ≠ 0) :
    Calls Try.prog 11 #[ptr b, .string n, amV a] w fun e w' => e = .returned (.int .i64 m) ∧ Below w.heap.size w w' := by
  obtain ⟨w3, hw3⟩ : ∃ w3, w3 = w.alloc (.cells #[.int .i64 a.c, .int .i64 a.r, .int .i64 a.d, .int .i64 a.p] 28) := ⟨_, rfl⟩
  obtain ⟨B, hB⟩ : ∃ B, B = w.heap.size := ⟨_, rfl⟩
  have B0 : Hid (Blk w3 B (amC a) 28) := Lib.hid (by rw [hw3, hB]; exact Blk.made w (amC a) _)
  have HBL : Hid (Below w.heap.size w w3) := Lib.hid (by rw [hw3]; exact below_alloc w _)
  have H3 := Lib.hid (h.kept HBL.out)
  have c0 := B0.out.cell (j := 0) rfl
  have c1 := B0.out.cell (j := 1) rfl
  have c2 := B0.out.cell (j := 2) rfl
  have c3 := B0.out.cell (j := 3) rfl
  have HNE : Hid (nmdE n = 0) := Lib.hid (by unfold nmdE; rw [hn]; rfl)
  have HA : Hid (a.chk = 0) := Lib.hid (Am.chk_yes ha)
  have HLK : Hid (∀ w', SMap Try.prog 9 w' mc (chM C) → (Instr.lookup 52 (.map (some mc)) (.string n) true).run Try.prog w' = .ok (.tuple #[chV x, .bool true]) w') := Lib.hid (fun w' h' => by rw [charge_look h' (nmdB_len hn), hx]; rfl)
  obtain ⟨ls, hls⟩ : ∃ ls, ls = fitsB a x.a := ⟨_, rfl⟩
  have HFT : Hid (∀ w', Calls Try.prog 17 #[amV a, amV x.a] w' fun e w2 => e = .returned (.bool ls) ∧ Below w'.heap.size w' w2) := Lib.hid (fun w' => by rw [hls]; exact fits_any a x.a w')
  have HMY : Hid (∀ w', Bk w' b mg mc G C → Calls Try.prog 27 #[ptr b, chV ⟨x.n, x.u, x.b, a⟩, .bool ls] w' fun e w2 => e = .returned (.int .i64 m) ∧ Below w'.heap.size w' w2) := Lib.hid (fun w' h' => by have h9 := bmay_any b mg mc G C ⟨x.n, x.u, x.b, a⟩ ls w' h' hi hk; rw [hls, hm] at h9; rw [hls]; exact h9)
  have m0 : (m != 0) = true := by simpa using hm0
  clear h hi hn ha hx hk hm hm0 hls
  go_enter Try.func11, Try.ntmps11
  go_upto_region 1 with fail
  rw [← hw3, ← hB]
  clear hw3 hB
  go_upto_region 7 with (first | (go_at_call 26; refine (named_made b mg mc G C n _ H3.out).mono ?_; rw [HNE.out]; rintro e w4 ⟨rfl, rfl⟩) | (go_at_call 25; refine (check_any a _).mono ?_; rw [HA.out]; rintro e w4 ⟨rfl, hb⟩; have HB4 := Lib.hid (below_and HBL.out hb); have H4 := Lib.hid (H3.out.kept hb); have C4 := Lib.hid (B0.out.kept hb); clear hb c0 c1 c2 c3))
  have g1 := H4.out.blk.cell (j := 1) rfl
  have hlk := HLK.out _ H4.out.cm
  go_upto_region 10 with fail
  obtain ⟨w5, hw5⟩ : ∃ w5, w5 = w4.alloc (.cells #[.string x.n, .string x.u, .int .i64 x.b, .int .i64 x.a.c, .int .i64 x.a.r, .int .i64 x.a.d, .int .i64 x.a.p] 31) := ⟨_, rfl⟩
  obtain ⟨X, hX⟩ : ∃ X, X = w4.heap.size := ⟨_, rfl⟩
  have hb5 : Below w4.heap.size w4 w5 := by rw [hw5]; exact below_alloc _ _
  have HB5 := Lib.hid (below_and HB4.out hb5)
  have H5 := Lib.hid (H4.out.kept hb5)
  have C5 := Lib.hid (C4.out.kept hb5)
  have X5 : Hid (Blk w5 X (chC x) 31) := Lib.hid (by rw [hw5, hX]; exact Blk.made w4 (chC x) _)
  have HXW : Hid (w.heap.size ≤ X ∧ w4.heap.size ≤ X) := Lib.hid (by have := HB4.out.size; omega)
  have HXN : Hid (X ≠ b ∧ X ≠ mg ∧ X ≠ mc ∧ X ≠ B) := Lib.hid (by have h1 := H4.out.blk.lt; have h2 := H4.out.gm.lt; have h3 := H4.out.cm.lt; have h4 := C4.out.lt; omega)
  rw [← hw5, ← hX]
  clear hw5 hX hb5 g1 hlk
  have c0 := C5.out.cell (j := 0) rfl
  have c1 := C5.out.cell (j := 1) rfl
  have c2 := C5.out.cell (j := 2) rfl
  have c3 := C5.out.cell (j := 3) rfl
  have x0 := X5.out.cell (j := 0) rfl
  have x1 := X5.out.cell (j := 1) rfl
  have x2 := X5.out.cell (j := 2) rfl
  have x3 := X5.out.cell (j := 3) rfl
  have x4 := X5.out.cell (j := 4) rfl
  have x5 := X5.out.cell (j := 5) rfl
  have x6 := X5.out.cell (j := 6) rfl
  go_upto_region 11 with (go_at_call 17; refine (HFT.out _).mono ?_; rintro e w6 ⟨rfl, hb⟩; have HB6 := Lib.hid (below_and HB5.out hb); have H6 := Lib.hid (H5.out.kept hb); have C6 := Lib.hid (C5.out.kept hb); have X6 := Lib.hid (X5.out.kept hb); clear hb c0 c1 c2 c3 x0 x1 x2 x3 x4 x5 x6)
  have c0 := C6.out.cell (j := 0) rfl
  have c1 := C6.out.cell (j := 1) rfl
  have c2 := C6.out.cell (j := 2) rfl
  have c3 := C6.out.cell (j := 3) rfl
  have x3 := X6.out.cell (j := 3) rfl
  have f3 := X6.out.free 3
  have x4 := X6.out.cell (j := 4) rfl
  have f4 := X6.out.free 4
  have x5 := X6.out.cell (j := 5) rfl
  have f5 := X6.out.free 5
  have x6 := X6.out.cell (j := 6) rfl
  have f6 := X6.out.free 6
  go_upto_region 12 with fail
  refine at_hide (F := fun w' => Blk w' X (chC ⟨x.n, x.u, x.b, a⟩) 31 ∧ Bk w' b mg mc G C ∧ Below w.heap.size w w') ?_ ?_
  · refine ⟨(((X6.out.set 3 (.int .i64 a.c)).set 4 (.int .i64 a.r)).set 5 (.int .i64 a.d)).set 6 (.int .i64 a.p), ?_, ?_⟩
    · exact (((H6.out.set HXN.out.1 HXN.out.2.1 HXN.out.2.2.1 3 _).set HXN.out.1 HXN.out.2.1 HXN.out.2.2.1 4 _).set HXN.out.1 HXN.out.2.1 HXN.out.2.2.1 5 _).set HXN.out.1 HXN.out.2.1 HXN.out.2.2.1 6 _
    · exact (((HB6.out.setCell (p := ⟨X, 3, none⟩) HXW.out.1 _).setCell (p := ⟨X, 4, none⟩) HXW.out.1 _).setCell (p := ⟨X, 5, none⟩) HXW.out.1 _).setCell (p := ⟨X, 6, none⟩) HXW.out.1 _
  intro w7 hF
  have X7 := Lib.hid hF.1
  have H7 := Lib.hid hF.2.1
  have HB7 := Lib.hid hF.2.2
  clear hF c0 c1 c2 c3 x3 x4 x5 x6 f3 f4 f5 f6
  have x0 := X7.out.cell (j := 0) rfl
  have x1 := X7.out.cell (j := 1) rfl
  have x2 := X7.out.cell (j := 2) rfl
  have x3 := X7.out.cell (j := 3) rfl
  have x4 := X7.out.cell (j := 4) rfl
  have x5 := X7.out.cell (j := 5) rfl
  have x6 := X7.out.cell (j := 6) rfl
  go_wp2_with (go_at_call 27; refine (HMY.out _ H7.out).mono ?_; rintro e w8 ⟨rfl, hb⟩; have HB8 := Lib.hid (below_and HB7.out hb); have H8 := Lib.hid (H7.out.kept hb); have X8 := Lib.hid (X7.out.kept hb); clear hb)
  go_ret
  exact ⟨rfl, HB8.out⟩

set_option maxRecDepth 100000 in
set_option maxHeartbeats 2000000 in
theorem bchange_ok (b mg mc : Nat) (G : List Gr) (C : List Ch) (n : ByteArray) (a : Am) (w : World) (h : Bk w b mg mc G C) (x : Ch) (hi : ChI C) (hn : nmdB n = true) (ha : a.okB = true) (hx : kfnd Ch.key C n.data.toList = some x) (hk : askB x.u x.b = true) (hm : mayP G C ⟨x.n, x.u, x.b, a⟩ (fitsB a x.a) = 0) (hl : C.length < maxLen) :
    Calls Try.prog 11 #[ptr b, .string n, amV a] w fun e w' => e = .returned (.int .i64 0) ∧ Bk w' b mg mc G (kput Ch.key C ⟨x.n, x.u, x.b, a⟩) ∧ Fr [mg, mc] w w' := by
  obtain ⟨w3, hw3⟩ : ∃ w3, w3 = w.alloc (.cells #[.int .i64 a.c, .int .i64 a.r, .int .i64 a.d, .int .i64 a.p] 28) := ⟨_, rfl⟩
  obtain ⟨B, hB⟩ : ∃ B, B = w.heap.size := ⟨_, rfl⟩
  have B0 : Hid (Blk w3 B (amC a) 28) := Lib.hid (by rw [hw3, hB]; exact Blk.made w (amC a) _)
  have HBL : Hid (Below w.heap.size w w3) := Lib.hid (by rw [hw3]; exact below_alloc w _)
  have H3 := Lib.hid (h.kept HBL.out)
  have c0 := B0.out.cell (j := 0) rfl
  have c1 := B0.out.cell (j := 1) rfl
  have c2 := B0.out.cell (j := 2) rfl
  have c3 := B0.out.cell (j := 3) rfl
  have HNE : Hid (nmdE n = 0) := Lib.hid (by unfold nmdE; rw [hn]; rfl)
  have HA : Hid (a.chk = 0) := Lib.hid (Am.chk_yes ha)
  have HLK : Hid (∀ w', SMap Try.prog 9 w' mc (chM C) → (Instr.lookup 52 (.map (some mc)) (.string n) true).run Try.prog w' = .ok (.tuple #[chV x, .bool true]) w') := Lib.hid (fun w' h' => by rw [charge_look h' (nmdB_len hn), hx]; rfl)
  obtain ⟨ls, hls⟩ : ∃ ls, ls = fitsB a x.a := ⟨_, rfl⟩
  have HFT : Hid (∀ w', Calls Try.prog 17 #[amV a, amV x.a] w' fun e w2 => e = .returned (.bool ls) ∧ Below w'.heap.size w' w2) := Lib.hid (fun w' => by rw [hls]; exact fits_any a x.a w')
  have HMY : Hid (∀ w', Bk w' b mg mc G C → Calls Try.prog 27 #[ptr b, chV ⟨x.n, x.u, x.b, a⟩, .bool ls] w' fun e w2 => e = .returned (.int .i64 0) ∧ Below w'.heap.size w' w2) := Lib.hid (fun w' h' => by have h9 := bmay_any b mg mc G C ⟨x.n, x.u, x.b, a⟩ ls w' h' hi hk; rw [hls, hm] at h9; rw [hls]; exact h9)
  have HL : Hid ((chM C).length < maxLen) := Lib.hid (by unfold chM; rw [kM_len]; exact hl)
  have HPT : Hid ((chM C).put n.data.toList (chV ⟨x.n, x.u, x.b, a⟩) = chM (kput Ch.key C ⟨x.n, x.u, x.b, a⟩)) := Lib.hid (by rw [← (kfnd_mem hx).2]; exact kM_put (key := Ch.key) (val := chV) C ⟨x.n, x.u, x.b, a⟩)
  have HNL : Hid (n.size ≤ maxLen) := Lib.hid (nmdB_len hn)
  clear h hi hn ha hx hk hm hl hls
  go_enter Try.func11, Try.ntmps11
  go_upto_region 1 with fail
  rw [← hw3, ← hB]
  clear hw3 hB
  go_upto_region 7 with (first | (go_at_call 26; refine (named_made b mg mc G C n _ H3.out).mono ?_; rw [HNE.out]; rintro e w4 ⟨rfl, rfl⟩) | (go_at_call 25; refine (check_any a _).mono ?_; rw [HA.out]; rintro e w4 ⟨rfl, hb⟩; have HB4 := Lib.hid (below_and HBL.out hb); have H4 := Lib.hid (H3.out.kept hb); have C4 := Lib.hid (B0.out.kept hb); clear hb c0 c1 c2 c3))
  have g1 := H4.out.blk.cell (j := 1) rfl
  have hlk := HLK.out _ H4.out.cm
  go_upto_region 10 with fail
  obtain ⟨w5, hw5⟩ : ∃ w5, w5 = w4.alloc (.cells #[.string x.n, .string x.u, .int .i64 x.b, .int .i64 x.a.c, .int .i64 x.a.r, .int .i64 x.a.d, .int .i64 x.a.p] 31) := ⟨_, rfl⟩
  obtain ⟨X, hX⟩ : ∃ X, X = w4.heap.size := ⟨_, rfl⟩
  have hb5 : Below w4.heap.size w4 w5 := by rw [hw5]; exact below_alloc _ _
  have HB5 := Lib.hid (below_and HB4.out hb5)
  have H5 := Lib.hid (H4.out.kept hb5)
  have C5 := Lib.hid (C4.out.kept hb5)
  have X5 : Hid (Blk w5 X (chC x) 31) := Lib.hid (by rw [hw5, hX]; exact Blk.made w4 (chC x) _)
  have HXW : Hid (w.heap.size ≤ X ∧ w4.heap.size ≤ X) := Lib.hid (by have := HB4.out.size; omega)
  have HXN : Hid (X ≠ b ∧ X ≠ mg ∧ X ≠ mc ∧ X ≠ B) := Lib.hid (by have h1 := H4.out.blk.lt; have h2 := H4.out.gm.lt; have h3 := H4.out.cm.lt; have h4 := C4.out.lt; omega)
  rw [← hw5, ← hX]
  clear hw5 hX hb5 g1 hlk
  have c0 := C5.out.cell (j := 0) rfl
  have c1 := C5.out.cell (j := 1) rfl
  have c2 := C5.out.cell (j := 2) rfl
  have c3 := C5.out.cell (j := 3) rfl
  have x0 := X5.out.cell (j := 0) rfl
  have x1 := X5.out.cell (j := 1) rfl
  have x2 := X5.out.cell (j := 2) rfl
  have x3 := X5.out.cell (j := 3) rfl
  have x4 := X5.out.cell (j := 4) rfl
  have x5 := X5.out.cell (j := 5) rfl
  have x6 := X5.out.cell (j := 6) rfl
  go_upto_region 11 with (go_at_call 17; refine (HFT.out _).mono ?_; rintro e w6 ⟨rfl, hb⟩; have HB6 := Lib.hid (below_and HB5.out hb); have H6 := Lib.hid (H5.out.kept hb); have C6 := Lib.hid (C5.out.kept hb); have X6 := Lib.hid (X5.out.kept hb); clear hb c0 c1 c2 c3 x0 x1 x2 x3 x4 x5 x6)
  have c0 := C6.out.cell (j := 0) rfl
  have c1 := C6.out.cell (j := 1) rfl
  have c2 := C6.out.cell (j := 2) rfl
  have c3 := C6.out.cell (j := 3) rfl
  have x3 := X6.out.cell (j := 3) rfl
  have f3 := X6.out.free 3
  have x4 := X6.out.cell (j := 4) rfl
  have f4 := X6.out.free 4
  have x5 := X6.out.cell (j := 5) rfl
  have f5 := X6.out.free 5
  have x6 := X6.out.cell (j := 6) rfl
  have f6 := X6.out.free 6
  go_upto_region 12 with fail
  refine at_hide (F := fun w' => Blk w' X (chC ⟨x.n, x.u, x.b, a⟩) 31 ∧ Bk w' b mg mc G C ∧ Below w.heap.size w w') ?_ ?_
  · refine ⟨(((X6.out.set 3 (.int .i64 a.c)).set 4 (.int .i64 a.r)).set 5 (.int .i64 a.d)).set 6 (.int .i64 a.p), ?_, ?_⟩
    · exact (((H6.out.set HXN.out.1 HXN.out.2.1 HXN.out.2.2.1 3 _).set HXN.out.1 HXN.out.2.1 HXN.out.2.2.1 4 _).set HXN.out.1 HXN.out.2.1 HXN.out.2.2.1 5 _).set HXN.out.1 HXN.out.2.1 HXN.out.2.2.1 6 _
    · exact (((HB6.out.setCell (p := ⟨X, 3, none⟩) HXW.out.1 _).setCell (p := ⟨X, 4, none⟩) HXW.out.1 _).setCell (p := ⟨X, 5, none⟩) HXW.out.1 _).setCell (p := ⟨X, 6, none⟩) HXW.out.1 _
  intro w7 hF
  have X7 := Lib.hid hF.1
  have H7 := Lib.hid hF.2.1
  have HB7 := Lib.hid hF.2.2
  clear hF c0 c1 c2 c3 x3 x4 x5 x6 f3 f4 f5 f6
  have x0 := X7.out.cell (j := 0) rfl
  have x1 := X7.out.cell (j := 1) rfl
  have x2 := X7.out.cell (j := 2) rfl
  have x3 := X7.out.cell (j := 3) rfl
  have x4 := X7.out.cell (j := 4) rfl
  have x5 := X7.out.cell (j := 5) rfl
  have x6 := X7.out.cell (j := 6) rfl
  go_upto_region 15 with (go_at_call 27; refine (HMY.out _ H7.out).mono ?_; rintro e w8 ⟨rfl, hb⟩; have HB8 := Lib.hid (below_and HB7.out hb); have H8 := Lib.hid (H7.out.kept hb); have X8 := Lib.hid (X7.out.kept hb); clear hb)
  clear x0 x1 x2 x3 x4 x5 x6
  have x0 := Past.blk X8.out (j := 0) rfl
  have x1 := Past.blk X8.out (j := 1) rfl
  have x2 := Past.blk X8.out (j := 2) rfl
  have x3 := Past.blk X8.out (j := 3) rfl
  have x4 := Past.blk X8.out (j := 4) rfl
  have x5 := Past.blk X8.out (j := 5) rfl
  have x6 := Past.blk X8.out (j := 6) rfl
  have g1 := Past.blk H8.out.blk (j := 1) rfl
  refine wp_region_past_one rfl (by kernel_rfl) (by kernel_rfl) (by kernel_rfl) ?_
  repeat (go_big_quiet_step (fail))
  refine wpQuiet_nil ?_
  intro _ hw'
  obtain ⟨s9, hw''⟩ := hw'
  subst hw''
  obtain ⟨w9, h9, e9⟩ : ∃ w9, Below w8.heap.size w8 w9 ∧ w9 = s9.val := ⟨_, s9.h, rfl⟩
  rw [← e9]
  have HB9 := Lib.hid (below_and HB8.out h9)
  have H9 := Lib.hid (H8.out.kept h9)
  clear h9 e9 x0 x1 x2 x3 x4 x5 x6 g1
  go_wp2_with (refine wpList_sput _ rfl _ _ _ _ rfl 9 31 Try.underlying9 Try.underlying52 mc (chM C) rfl H9.out.cm HL.out n (chV ⟨x.n, x.u, x.b, a⟩) rfl rfl HNL.out ?_; intro v8 hp8 hg8; rw [HPT.out] at hp8; have HP8 := Lib.hid hp8; have HG8 := Lib.hid hg8; clear hp8 hg8)
  go_ret
  exact ⟨rfl, bk_c H9.out HP8.out HG8.out, fr_c HB9.out HG8.out⟩

theorem bchange_any (b mg mc : Nat) (G : List Gr) (C : List Ch) (n : ByteArray) (a : Am) (w : World) (h : Bk w b mg mc G C) (hi : ChI C) (hu : ∀ e ∈ C, askB e.u e.b = true) (hl : C.length < maxLen) :
    Calls Try.prog 11 #[ptr b, .string n, amV a] w fun e w' => e = .returned (.int .i64 (changeP G C n a).1) ∧ Bk w' b mg mc G (changeP G C n a).2 ∧ Fr [mg, mc] w w' := by
  have up : ∀ r, changeP G C n a = (r, C) → (Calls Try.prog 11 #[ptr b, .string n, amV a] w fun e w' => e = .returned (.int .i64 r) ∧ Below w.heap.size w w') → Calls Try.prog 11 #[ptr b, .string n, amV a] w fun e w' => e = .returned (.int .i64 (changeP G C n a).1) ∧ Bk w' b mg mc G (changeP G C n a).2 ∧ Fr [mg, mc] w w' := by
    intro r hr hc
    rw [hr]
    exact hc.mono fun e w' ⟨h1, h2⟩ => ⟨h1, bk_stay h h2⟩
  cases hn : nmdB n
  · exact up 2 (by unfold changeP; rw [hn]; rfl) (bchange_b1 b mg mc G C n a w h hn)
  cases ha : a.okB
  · exact up 2 (by unfold changeP; rw [hn, ha]; rfl) (bchange_b2 b mg mc G C n a w h hn ha)
  have h0 : ¬ (nmdB n && a.okB) = false := by rw [hn, ha]; simp
  cases hx : kfnd Ch.key C n.data.toList with
  | none => exact up 6 (by unfold changeP; rw [if_neg h0, hx]) (bchange_b3 b mg mc G C n a w h hn ha hx)
  | some x =>
    have hk := hu x (kfnd_mem hx).1
    by_cases hm : mayP G C ⟨x.n, x.u, x.b, a⟩ (fitsB a x.a) = 0
    · have hr : changeP G C n a = (0, kput Ch.key C ⟨x.n, x.u, x.b, a⟩) := by
        unfold changeP
        rw [if_neg h0, hx]
        show (if _ then _ else _) = _
        rw [if_neg (by simpa using hm)]
      rw [hr]
      exact bchange_ok b mg mc G C n a w h x hi hn ha hx hk hm hl
    · refine up (mayP G C ⟨x.n, x.u, x.b, a⟩ (fitsB a x.a)) ?_ (bchange_b4 b mg mc G C n a w h x hi hn ha hx hk _ rfl hm)
      unfold changeP
      rw [if_neg h0, hx]
      show (if _ then _ else _) = _
      rw [if_pos hm]
end Go.Proofs.Ytmgbailpmcggiaa
