/- , laid together: MsOne, MsGets. -/
import Derived.Test.YtopkfomlppnpeaaGreatDoorMGw
import Derived.Test.YtopkfomlppnpeaaGreatDoorMTk
import Derived.Test.YtopkfomlppnpeaaGreatDoorMCmp
import Derived.Deep.RegionHeld3
import Derived.Test.YtopkfomlppnpeaaGreatDoorMEl
namespace Go.Proofs.YtopkfomlppnpeaaGreatDoor.Ms
open Go.RowKit Go.Proofs.YtopkfomlppnpeaaGreatDoor

theorem cI {w : World} {b : Nat} {l : List UInt8} {s s1 : S} {c : Int} (h : Rdr w b l s.1 s.2) (hl : l.length ≤ 9223372036854775807) (e : rI l s = (c, s1)) : Calls Tryz.prog 44 #[ptr b] w (RF w b l (.int .i64 c) s1) :=
  (int_any b l s.1 s.2 w h hl).mono fun _ _ hm => rf_of (congrArg (fun z : Int × S => Value.int .i64 z.1) e) (congrArg Prod.snd e) hm
theorem cU {w : World} {b : Nat} {l : List UInt8} {s s1 : S} {c : Int} (h : Rdr w b l s.1 s.2) (hl : l.length ≤ 9223372036854775807) (e : rU l s = (c, s1)) : Calls Tryz.prog 43 #[ptr b] w (RF w b l (.int .u64 c) s1) :=
  (uint_any b l s.1 s.2 w h hl).mono fun _ _ hm => rf_of (congrArg (fun z : Int × S => Value.int .u64 z.1) e) (congrArg Prod.snd e) hm
theorem cT {w : World} {b : Nat} {l : List UInt8} {s s1 : S} {c : List UInt8} (h : Rdr w b l s.1 s.2) (hl : l.length ≤ 9223372036854775807) (e : rT l s = (c, s1)) : Calls Tryz.prog 91 #[ptr b] w (RF w b l (.string (bs c)) s1) :=
  (text_any b l s.1 s.2 w h hl).mono fun _ _ hm => rf_of (congrArg (fun z : List UInt8 × S => Value.string (bs z.1)) e) (congrArg Prod.snd e) hm
theorem cC {w : World} {b : Nat} {l : List UInt8} {s s1 : S} {c m : Int} (h : Rdr w b l s.1 s.2) (hl : l.length ≤ 9223372036854775807) (hm : m ≤ 9223372036854775807) (e : rC m l s = (c, s1)) : Calls Tryz.prog 115 #[ptr b, .int .i64 m] w (RF w b l (.int .i64 c) s1) :=
  (count_any b l s.1 m s.2 w h hl hm).mono fun _ _ hm => rf_of (congrArg (fun z : Int × S => Value.int .i64 z.1) e) (congrArg Prod.snd e) hm
set_option maxRecDepth 100000 in
set_option maxHeartbeats 2000000 in
theorem small_any {w : World} {b : Nat} {l : List UInt8} {s s1 : S} {c : Int} (h : Rdr w b l s.1 s.2) (hl : l.length ≤ 9223372036854775807) (e : rC 1073741824 l s = (c, s1)) : Calls Tryz.prog 48 #[ptr b] w (RF w b l (.int .i64 c) s1) := by
  have H := Lib.hid (cC h hl (by omega) e)
  clear h e
  go_enter Tryz.func48, Tryz.ntmps48
  go_wp2_with (go_at_call 115; refine H.out.mono ?_; rintro e w2 ⟨rfl, hr, hf⟩; have HR := Lib.hid hr; have HF := Lib.hid hf; clear hr hf)
  go_ret
  exact ⟨rfl, HR.out, HF.out⟩
set_option maxRecDepth 100000 in
set_option maxHeartbeats 2000000 in
theorem get_any {w : World} {b : Nat} {l : List UInt8} {s s1 : S} {a : Am} (h : Rdr w b l s.1 s.2) (hl : l.length ≤ 9223372036854775807) (e : rA l s = (a, s1)) : Calls Tryz.prog 92 #[ptr b] w (RF w b l (amV a) s1) := by
  obtain ⟨a1, t1, e1⟩ : ∃ c t, rI l s = (c, t) := ⟨_, _, rfl⟩
  obtain ⟨a2, t2, e2⟩ : ∃ c t, rI l t1 = (c, t) := ⟨_, _, rfl⟩
  obtain ⟨a3, t3, e3⟩ : ∃ c t, rI l t2 = (c, t) := ⟨_, _, rfl⟩
  obtain ⟨a4, t4, e4⟩ : ∃ c t, rI l t3 = (c, t) := ⟨_, _, rfl⟩
  have hA : rA l s = (⟨a1, a2, a3, a4⟩, t4) := by unfold rA; simp only [e1, e2, e3, e4]
  rw [hA] at e
  obtain ⟨rfl, rfl⟩ := Prod.mk.inj e
  clear e hA
  have H1 := Lib.hid (fun w' (h : Rdr w' b l s.1 s.2) => cI h hl e1)
  have H2 := Lib.hid (fun w' (h : Rdr w' b l t1.1 t1.2) => cI h hl e2)
  have H3 := Lib.hid (fun w' (h : Rdr w' b l t2.1 t2.2) => cI h hl e3)
  have H4 := Lib.hid (fun w' (h : Rdr w' b l t3.1 t3.2) => cI h hl e4)
  clear e1 e2 e3 e4
  obtain ⟨R, hR⟩ : ∃ R, R = w.heap.size := ⟨_, rfl⟩
  obtain ⟨w1, hw1⟩ : ∃ w1, w1 = w.alloc (.cells #[.int .i64 0, .int .i64 0, .int .i64 0, .int .i64 0] 37) := ⟨_, rfl⟩
  have HS1 : Hid (Rdr w1 b l s.1 s.2 ∧ Blk w1 R [.int .i64 0, .int .i64 0, .int .i64 0, .int .i64 0] 37 ∧ Frp (fun k => k = b) w w1 ∧ b < R ∧ w.heap.size ≤ R) := Lib.hid (by rw [hw1, hR]; have h9 := gw_start (C := [.int .i64 0, .int .i64 0, .int .i64 0, .int .i64 0]) (t := 37) h; exact ⟨h9.1, h9.2.1, h9.2.2.1, h9.2.2.2, Nat.le_refl _⟩)
  go_enter Tryz.func92, Tryz.ntmps92
  go_upto_region 1 with fail
  rw [← hw1, ← hR]
  clear hw1 hR h
  go_upto_region 2 with (go_at_call 44; refine (H1.out _ HS1.out.1).mono ?_; rintro e w2 ⟨rfl, hr, hf⟩; have HS2 : Hid (Rdr w2 b l t1.1 t1.2 ∧ Blk w2 R [.int .i64 0, .int .i64 0, .int .i64 0, .int .i64 0] 37 ∧ Frp (fun k => k = b) w w2 ∧ b < R ∧ w.heap.size ≤ R) := Lib.hid ⟨hr, HS1.out.2.1.frp hf (fun e => by have := HS1.out.2.2.2.1; omega), HS1.out.2.2.1.then hf, HS1.out.2.2.2⟩; clear hr hf)
  obtain ⟨X, hX⟩ : ∃ X, X = w2.heap.size := ⟨_, rfl⟩
  obtain ⟨w3, hw3⟩ : ∃ w3, w3 = w2.alloc (.cells #[.int .i64 a1, .int .i64 0, .int .i64 0, .int .i64 0] 37) := ⟨_, rfl⟩
  have HG3 : Hid (Gw w b l w3 t1 R [.int .i64 0, .int .i64 0, .int .i64 0, .int .i64 0] 37 X [.int .i64 a1, .int .i64 0, .int .i64 0, .int .i64 0] 37) := Lib.hid (by rw [hw3, hX]; exact gw_box HS2.out.1 HS2.out.2.1 HS2.out.2.2.1 HS2.out.2.2.2.1 HS2.out.2.2.2.2)
  rw [← hw3, ← hX]
  clear hw3 hX HS2 HS1
  go_upto_region 3 with (go_at_call 44; refine (H2.out _ HG3.out.rd).mono ?_; rintro e w4 ⟨rfl, hr, hf⟩; have HG4 := Lib.hid (HG3.out.call hr hf); have f4_1 := HG4.out.x.free 1; have y4_1 := HG4.out.x.cell (j := 1) rfl; clear hr hf)
  refine at_hide (F := fun w' => Gw w b l w' t2 R [.int .i64 0, .int .i64 0, .int .i64 0, .int .i64 0] 37 X [.int .i64 a1, .int .i64 a2, .int .i64 0, .int .i64 0] 37) (HG4.out.setX 1 (.int .i64 a2)) ?_
  intro w5 hF
  have HG5 := Lib.hid hF
  clear hF
  go_upto_region 4 with (go_at_call 44; refine (H3.out _ HG5.out.rd).mono ?_; rintro e w6 ⟨rfl, hr, hf⟩; have HG6 := Lib.hid (HG5.out.call hr hf); have f6_2 := HG6.out.x.free 2; have y6_2 := HG6.out.x.cell (j := 2) rfl; clear hr hf)
  refine at_hide (F := fun w' => Gw w b l w' t3 R [.int .i64 0, .int .i64 0, .int .i64 0, .int .i64 0] 37 X [.int .i64 a1, .int .i64 a2, .int .i64 a3, .int .i64 0] 37) (HG6.out.setX 2 (.int .i64 a3)) ?_
  intro w7 hF
  have HG7 := Lib.hid hF
  clear hF
  go_upto_region 5 with (go_at_call 44; refine (H4.out _ HG7.out.rd).mono ?_; rintro e w8 ⟨rfl, hr, hf⟩; have HG8 := Lib.hid (HG7.out.call hr hf); have f8_3 := HG8.out.x.free 3; have y8_3 := HG8.out.x.cell (j := 3) rfl; clear hr hf)
  refine at_hide (F := fun w' => Gw w b l w' t4 R [.int .i64 0, .int .i64 0, .int .i64 0, .int .i64 0] 37 X [.int .i64 a1, .int .i64 a2, .int .i64 a3, .int .i64 a4] 37) (HG8.out.setX 3 (.int .i64 a4)) ?_
  intro w9 hF
  have HG9 := Lib.hid hF
  clear hF
  have f9_0 := HG9.out.x.free 0; have f9_1 := HG9.out.x.free 1; have f9_2 := HG9.out.x.free 2; have f9_3 := HG9.out.x.free 3; have y9_0 := HG9.out.x.cell (j := 0) rfl; have y9_1 := HG9.out.x.cell (j := 1) rfl; have y9_2 := HG9.out.x.cell (j := 2) rfl; have y9_3 := HG9.out.x.cell (j := 3) rfl
  have g9_0 := HG9.out.r.free 0; have g9_1 := HG9.out.r.free 1; have g9_2 := HG9.out.r.free 2; have g9_3 := HG9.out.r.free 3; have z9_0 := HG9.out.r.cell (j := 0) rfl; have z9_1 := HG9.out.r.cell (j := 1) rfl; have z9_2 := HG9.out.r.cell (j := 2) rfl; have z9_3 := HG9.out.r.cell (j := 3) rfl
  have HFI := Lib.hid (Gw.setR (Gw.setR (Gw.setR (Gw.setR HG9.out 0 (.int .i64 a1)) 1 (.int .i64 a2)) 2 (.int .i64 a3)) 3 (.int .i64 a4))
  go_wp2
  refine ret_cell1 rfl rfl rfl HFI.out.r Tryz.underlying37 rfl (by kernel_rfl) ?_
  exact ⟨rfl, HFI.out.rd, HFI.out.fr⟩
set_option maxRecDepth 100000 in
set_option maxHeartbeats 2000000 in
theorem getTask_any {w : World} {b : Nat} {l : List UInt8} {s s1 : S} {x : El} (h : Rdr w b l s.1 s.2) (hl : l.length ≤ 9223372036854775807) (e : rK l s = (x, s1)) : Calls Tryz.prog 47 #[ptr b] w (RF w b l (.tuple #[.agg #[.string (bs x.j), .int .i64 x.i], .int .u64 x.n]) s1) := by
  obtain ⟨j, t1, e1⟩ : ∃ c t, rT l s = (c, t) := ⟨_, _, rfl⟩
  obtain ⟨i, t2, e2⟩ : ∃ c t, rC 1073741824 l t1 = (c, t) := ⟨_, _, rfl⟩
  obtain ⟨n, t3, e3⟩ : ∃ c t, rU l t2 = (c, t) := ⟨_, _, rfl⟩
  have hA : rK l s = (⟨j, i, n, Am.zero, [], 0, 0⟩, t3) := by unfold rK; simp only [e1, e2, e3]
  rw [hA] at e
  obtain ⟨rfl, rfl⟩ := Prod.mk.inj e
  clear e hA
  have H1 := Lib.hid (fun w' (h : Rdr w' b l s.1 s.2) => cT h hl e1)
  have H2 := Lib.hid (fun w' (h : Rdr w' b l t1.1 t1.2) => small_any h hl e2)
  have H3 := Lib.hid (fun w' (h : Rdr w' b l t2.1 t2.2) => cU h hl e3)
  clear e1 e2 e3
  obtain ⟨R, hR⟩ : ∃ R, R = w.heap.size := ⟨_, rfl⟩
  obtain ⟨w1, hw1⟩ : ∃ w1, w1 = w.alloc (.cells #[.string ⟨#[]⟩, .int .i64 0] 35) := ⟨_, rfl⟩
  have HS1 : Hid (Rdr w1 b l s.1 s.2 ∧ Blk w1 R [.string ⟨#[]⟩, .int .i64 0] 35 ∧ Frp (fun k => k = b) w w1 ∧ b < R ∧ w.heap.size ≤ R) := Lib.hid (by rw [hw1, hR]; have h9 := gw_start (C := [.string ⟨#[]⟩, .int .i64 0]) (t := 35) h; exact ⟨h9.1, h9.2.1, h9.2.2.1, h9.2.2.2, Nat.le_refl _⟩)
  go_enter Tryz.func47, Tryz.ntmps47
  go_upto_region 1 with fail
  rw [← hw1, ← hR]
  clear hw1 hR h
  go_upto_region 2 with (go_at_call 91; refine (H1.out _ HS1.out.1).mono ?_; rintro e w2 ⟨rfl, hr, hf⟩; have HS2 : Hid (Rdr w2 b l t1.1 t1.2 ∧ Blk w2 R [.string ⟨#[]⟩, .int .i64 0] 35 ∧ Frp (fun k => k = b) w w2 ∧ b < R ∧ w.heap.size ≤ R) := Lib.hid ⟨hr, HS1.out.2.1.frp hf (fun e => by have := HS1.out.2.2.2.1; omega), HS1.out.2.2.1.then hf, HS1.out.2.2.2⟩; clear hr hf)
  obtain ⟨X, hX⟩ : ∃ X, X = w2.heap.size := ⟨_, rfl⟩
  obtain ⟨w3, hw3⟩ : ∃ w3, w3 = w2.alloc (.cells #[.string (bs j), .int .i64 0] 35) := ⟨_, rfl⟩
  have HG3 : Hid (Gw w b l w3 t1 R [.string ⟨#[]⟩, .int .i64 0] 35 X [.string (bs j), .int .i64 0] 35) := Lib.hid (by rw [hw3, hX]; exact gw_box HS2.out.1 HS2.out.2.1 HS2.out.2.2.1 HS2.out.2.2.2.1 HS2.out.2.2.2.2)
  rw [← hw3, ← hX]
  clear hw3 hX HS2 HS1
  go_upto_region 3 with (go_at_call 48; refine (H2.out _ HG3.out.rd).mono ?_; rintro e w4 ⟨rfl, hr, hf⟩; have HG4 := Lib.hid (HG3.out.call hr hf); have f4_1 := HG4.out.x.free 1; have y4_1 := HG4.out.x.cell (j := 1) rfl; clear hr hf)
  refine at_hide (F := fun w' => Gw w b l w' t2 R [.string ⟨#[]⟩, .int .i64 0] 35 X [.string (bs j), .int .i64 i] 35) (HG4.out.setX 1 (.int .i64 i)) ?_
  intro w5 hF
  have HG5 := Lib.hid hF
  clear hF
  have HSS : Hid (∀ w', Blk w' X [.string (bs j), .int .i64 i] 35 → w'.cell? ⟨X, 0, none⟩ = some (.string (bs j)) ∧ w'.cell? ⟨X, 1, none⟩ = some (.int .i64 i)) := Lib.hid (fun w' h => ⟨h.cell (j := 0) rfl, h.cell (j := 1) rfl⟩)
  have HNE : Hid (X ≠ R) := Lib.hid (fun e => HG5.out.hb.2.2 e.symm)
  have r0 := (gw_drew HG5.out).r.cell (j := 0) rfl
  have r1 := (gw_drew HG5.out).r.cell (j := 1) rfl
  have q0 := (gw_drew HG5.out).r.free 0
  have q1 := (gw_drew HG5.out).r.free 1
  go_region_held3 (fun w' => w'.cell? ⟨X, 0, none⟩ = some (.string (bs j)) ∧ w'.cell? ⟨X, 1, none⟩ = some (.int .i64 i))
    ((refine HSS.out _ ?_ <;> (repeat (first | with_reducible exact HG6.out.x | with_reducible exact HG5.out.x | with_reducible apply blk_dr | with_reducible refine Blk.other ?_ HNE.out _))))
    (first
      | (go_at_call 43; refine (H3.out _ (Gw.rd (w0 := w) (R := R) (RT := 35) (X := X) (XC := [.string (bs j), .int .i64 i]) (XT := 35) (by repeat (first | with_reducible exact HG5.out | with_reducible apply gw_drew | with_reducible apply Gw.setR)))).mono ?_; rintro e w6 ⟨rfl, hr, hf⟩; have HG6 := Lib.hid (Gw.call (w0 := w) (R := R) (RT := 35) (X := X) (XC := [.string (bs j), .int .i64 i]) (XT := 35) (by repeat (first | with_reducible exact HG5.out | with_reducible apply gw_drew | with_reducible apply Gw.setR)) hr hf); have r6 := HG6.out.r.cell (j := 0) rfl; have r7 := HG6.out.r.cell (j := 1) rfl; have q6 := HG6.out.r.free 0; have q7 := HG6.out.r.free 1; clear hr hf))
  have HFI := Lib.hid ((HG6.out.setR 0 (.string (bs j))).setR 1 (.int .i64 i))
  go_wp2
  refine ret_cell rfl rfl rfl HFI.out.r Tryz.underlying35 rfl (by kernel_rfl) ?_
  exact ⟨rfl, HFI.out.rd, HFI.out.fr⟩
set_option maxRecDepth 100000 in
set_option maxHeartbeats 2000000 in
theorem envG_any {w : World} {b : Nat} {l : List UInt8} {s s1 : S} {x : El} (h : Rdr w b l s.1 s.2) (hl : l.length ≤ 9223372036854775807) (e : envRd l s = (x, s1)) : Calls Tryz.prog 90 #[ptr b] w (RF w b l (envV x) s1) := by
  obtain ⟨j, t1, e1⟩ : ∃ c t, rT l s = (c, t) := ⟨_, _, rfl⟩
  obtain ⟨a, t2, e2⟩ : ∃ c t, rA l t1 = (c, t) := ⟨_, _, rfl⟩
  have hA : envRd l s = (⟨j, 0, 0, a, [], 0, 0⟩, t2) := by unfold envRd; simp only [e1, e2]
  rw [hA] at e
  obtain ⟨rfl, rfl⟩ := Prod.mk.inj e
  clear e hA
  have H1 := Lib.hid (fun w' (h : Rdr w' b l s.1 s.2) => cT h hl e1)
  have H2 := Lib.hid (fun w' (h : Rdr w' b l t1.1 t1.2) => get_any h hl e2)
  clear e1 e2
  have HI4 : Hid ((Tryz.prog.info? 37).map (·.size) = some 4) := Lib.hid (by kernel_rfl)
  have HI2 : Hid ((Tryz.prog.info? 35).map (·.size) = some 2) := Lib.hid (by kernel_rfl)
  obtain ⟨R, hR⟩ : ∃ R, R = w.heap.size := ⟨_, rfl⟩
  obtain ⟨w1, hw1⟩ : ∃ w1, w1 = w.alloc (.cells #[.string ⟨#[]⟩, .int .i64 0, .int .i64 0, .int .i64 0, .int .i64 0] 66) := ⟨_, rfl⟩
  have HS1 : Hid (Rdr w1 b l s.1 s.2 ∧ Blk w1 R [.string ⟨#[]⟩, .int .i64 0, .int .i64 0, .int .i64 0, .int .i64 0] 66 ∧ Frp (fun k => k = b) w w1 ∧ b < R ∧ w.heap.size ≤ R) := Lib.hid (by rw [hw1, hR]; have h9 := gw_start (C := [.string ⟨#[]⟩, .int .i64 0, .int .i64 0, .int .i64 0, .int .i64 0]) (t := 66) h; exact ⟨h9.1, h9.2.1, h9.2.2.1, h9.2.2.2, Nat.le_refl _⟩)
  go_enter Tryz.func90, Tryz.ntmps90
  go_upto_region 1 with fail
  rw [← hw1, ← hR]
  clear hw1 hR h
  go_upto_region 2 with (go_at_call 91; refine (H1.out _ HS1.out.1).mono ?_; rintro e w2 ⟨rfl, hr, hf⟩; have HS2 : Hid (Rdr w2 b l t1.1 t1.2 ∧ Blk w2 R [.string ⟨#[]⟩, .int .i64 0, .int .i64 0, .int .i64 0, .int .i64 0] 66 ∧ Frp (fun k => k = b) w w2 ∧ b < R ∧ w.heap.size ≤ R) := Lib.hid ⟨hr, HS1.out.2.1.frp hf (fun e => by have := HS1.out.2.2.2.1; omega), HS1.out.2.2.1.then hf, HS1.out.2.2.2⟩; clear hr hf)
  obtain ⟨X, hX⟩ : ∃ X, X = w2.heap.size := ⟨_, rfl⟩
  obtain ⟨w3, hw3⟩ : ∃ w3, w3 = w2.alloc (.cells #[.string (bs j), .int .i64 0, .int .i64 0, .int .i64 0, .int .i64 0] 66) := ⟨_, rfl⟩
  have HG3 : Hid (Gw w b l w3 t1 R [.string ⟨#[]⟩, .int .i64 0, .int .i64 0, .int .i64 0, .int .i64 0] 66 X [.string (bs j), .int .i64 0, .int .i64 0, .int .i64 0, .int .i64 0] 66) := Lib.hid (by rw [hw3, hX]; exact gw_box HS2.out.1 HS2.out.2.1 HS2.out.2.2.1 HS2.out.2.2.2.1 HS2.out.2.2.2.2)
  rw [← hw3, ← hX]
  clear hw3 hX HS2 HS1
  go_upto_region 3 with (first | (go_at_call 92; refine (H2.out _ HG3.out.rd).mono ?_; rintro e w4 ⟨rfl, hr, hf⟩; have HG4 := Lib.hid (HG3.out.call hr hf); skip; clear hr hf) | (refine wpList_store_mid rfl 37 _ _ rfl X 1 #[.int .i64 a.c, .int .i64 a.r, .int .i64 a.d, .int .i64 a.p] rfl rfl (HG4.out.x.there (by simp)) HI4.out (by simp [Value.oneCell']) ?_; refine at_hide (F := fun w' => Gw w b l w' t2 R [.string ⟨#[]⟩, .int .i64 0, .int .i64 0, .int .i64 0, .int .i64 0] 66 X [.string (bs j), .int .i64 a.c, .int .i64 a.r, .int .i64 a.d, .int .i64 a.p] 66) ((Gw.setX (Gw.setX (Gw.setX (Gw.setX HG4.out 1 (.int .i64 a.c)) 2 (.int .i64 a.r)) 3 (.int .i64 a.d)) 4 (.int .i64 a.p))) ?_; intro w5 hF; have HG5 := Lib.hid hF; have f5 := HG5.out.x.free; clear hF))
  have f5_0 := HG5.out.x.free 0; have f5_1 := HG5.out.x.free 1; have f5_2 := HG5.out.x.free 2; have f5_3 := HG5.out.x.free 3; have f5_4 := HG5.out.x.free 4; have y5_0 := HG5.out.x.cell (j := 0) rfl; have y5_1 := HG5.out.x.cell (j := 1) rfl; have y5_2 := HG5.out.x.cell (j := 2) rfl; have y5_3 := HG5.out.x.cell (j := 3) rfl; have y5_4 := HG5.out.x.cell (j := 4) rfl
  have g5_0 := HG5.out.r.free 0; have g5_1 := HG5.out.r.free 1; have g5_2 := HG5.out.r.free 2; have g5_3 := HG5.out.r.free 3; have g5_4 := HG5.out.r.free 4; have z5_0 := HG5.out.r.cell (j := 0) rfl; have z5_1 := HG5.out.r.cell (j := 1) rfl; have z5_2 := HG5.out.r.cell (j := 2) rfl; have z5_3 := HG5.out.r.cell (j := 3) rfl; have z5_4 := HG5.out.r.cell (j := 4) rfl
  have HFI := Lib.hid (Gw.setR (Gw.setR (Gw.setR (Gw.setR (Gw.setR HG5.out 0 (.string (bs j))) 1 (.int .i64 a.c)) 2 (.int .i64 a.r)) 3 (.int .i64 a.d)) 4 (.int .i64 a.p))
  go_wp2
  refine ret_cell1 rfl rfl rfl HFI.out.r Tryz.underlying66 rfl (by kernel_rfl) ?_
  exact ⟨rfl, HFI.out.rd, HFI.out.fr⟩
set_option maxRecDepth 100000 in
set_option maxHeartbeats 2000000 in
theorem staG_any {w : World} {b : Nat} {l : List UInt8} {s s1 : S} {x : El} (h : Rdr w b l s.1 s.2) (hl : l.length ≤ 9223372036854775807) (e : staRd l s = (x, s1)) : Calls Tryz.prog 94 #[ptr b] w (RF w b l (staV x) s1) := by
  obtain ⟨x, t1, e1⟩ : ∃ c t, rK l s = (c, t) := ⟨_, _, rfl⟩
  obtain ⟨a, t2, e2⟩ : ∃ c t, rA l t1 = (c, t) := ⟨_, _, rfl⟩
  obtain ⟨q, t3, e3⟩ : ∃ c t, rT l t2 = (c, t) := ⟨_, _, rfl⟩
  have hA : staRd l s = (⟨x.j, x.i, x.n, a, q, 0, 0⟩, t3) := by unfold staRd; simp only [e1, e2, e3]
  rw [hA] at e
  obtain ⟨rfl, rfl⟩ := Prod.mk.inj e
  clear e hA
  have H1 := Lib.hid (fun w' (h : Rdr w' b l s.1 s.2) => getTask_any h hl e1)
  have H2 := Lib.hid (fun w' (h : Rdr w' b l t1.1 t1.2) => get_any h hl e2)
  have H3 := Lib.hid (fun w' (h : Rdr w' b l t2.1 t2.2) => cT h hl e3)
  clear e1 e2 e3
  have HI4 : Hid ((Tryz.prog.info? 37).map (·.size) = some 4) := Lib.hid (by kernel_rfl)
  have HI2 : Hid ((Tryz.prog.info? 35).map (·.size) = some 2) := Lib.hid (by kernel_rfl)
  obtain ⟨R, hR⟩ : ∃ R, R = w.heap.size := ⟨_, rfl⟩
  obtain ⟨w1, hw1⟩ : ∃ w1, w1 = w.alloc (.cells #[.string ⟨#[]⟩, .int .i64 0, .int .u64 0, .int .i64 0, .int .i64 0, .int .i64 0, .int .i64 0, .string ⟨#[]⟩] 39) := ⟨_, rfl⟩
  have HS1 : Hid (Rdr w1 b l s.1 s.2 ∧ Blk w1 R [.string ⟨#[]⟩, .int .i64 0, .int .u64 0, .int .i64 0, .int .i64 0, .int .i64 0, .int .i64 0, .string ⟨#[]⟩] 39 ∧ Frp (fun k => k = b) w w1 ∧ b < R ∧ w.heap.size ≤ R) := Lib.hid (by rw [hw1, hR]; have h9 := gw_start (C := [.string ⟨#[]⟩, .int .i64 0, .int .u64 0, .int .i64 0, .int .i64 0, .int .i64 0, .int .i64 0, .string ⟨#[]⟩]) (t := 39) h; exact ⟨h9.1, h9.2.1, h9.2.2.1, h9.2.2.2, Nat.le_refl _⟩)
  go_enter Tryz.func94, Tryz.ntmps94
  go_upto_region 1 with fail
  rw [← hw1, ← hR]
  clear hw1 hR h
  go_upto_region 2 with fail
  obtain ⟨X, hX⟩ : ∃ X, X = w1.heap.size := ⟨_, rfl⟩
  obtain ⟨w3, hw3⟩ : ∃ w3, w3 = w1.alloc (.cells #[.string ⟨#[]⟩, .int .i64 0, .int .u64 0, .int .i64 0, .int .i64 0, .int .i64 0, .int .i64 0, .string ⟨#[]⟩] 39) := ⟨_, rfl⟩
  have HG3 : Hid (Gw w b l w3 s R [.string ⟨#[]⟩, .int .i64 0, .int .u64 0, .int .i64 0, .int .i64 0, .int .i64 0, .int .i64 0, .string ⟨#[]⟩] 39 X [.string ⟨#[]⟩, .int .i64 0, .int .u64 0, .int .i64 0, .int .i64 0, .int .i64 0, .int .i64 0, .string ⟨#[]⟩] 39) := Lib.hid (by rw [hw3, hX]; exact gw_box HS1.out.1 HS1.out.2.1 HS1.out.2.2.1 HS1.out.2.2.2.1 HS1.out.2.2.2.2)
  rw [← hw3, ← hX]
  clear hw3 hX HS1
  go_upto_region 3 with (first | (go_at_call 47; refine (H1.out _ HG3.out.rd).mono ?_; rintro e w4 ⟨rfl, hr, hf⟩; have HG4 := Lib.hid (HG3.out.call hr hf); skip; clear hr hf) | (refine wpList_store_mid rfl 35 _ _ rfl X 0 #[.string (bs x.j), .int .i64 x.i] rfl rfl (HG4.out.x.there (by simp)) HI2.out (by simp [Value.oneCell']) ?_; refine at_hide (F := fun w' => Gw w b l w' t1 R [.string ⟨#[]⟩, .int .i64 0, .int .u64 0, .int .i64 0, .int .i64 0, .int .i64 0, .int .i64 0, .string ⟨#[]⟩] 39 X [.string (bs x.j), .int .i64 x.i, .int .u64 0, .int .i64 0, .int .i64 0, .int .i64 0, .int .i64 0, .string ⟨#[]⟩] 39) ((Gw.setX (Gw.setX HG4.out 0 (.string (bs x.j))) 1 (.int .i64 x.i))) ?_; intro w5 hF; have HG5 := Lib.hid hF; have f5 := HG5.out.x.free 2; have y5 := HG5.out.x.cell (j := 2) rfl; clear hF))
  refine at_hide (F := fun w' => Gw w b l w' t1 R [.string ⟨#[]⟩, .int .i64 0, .int .u64 0, .int .i64 0, .int .i64 0, .int .i64 0, .int .i64 0, .string ⟨#[]⟩] 39 X [.string (bs x.j), .int .i64 x.i, .int .u64 x.n, .int .i64 0, .int .i64 0, .int .i64 0, .int .i64 0, .string ⟨#[]⟩] 39) (HG5.out.setX 2 (.int .u64 x.n)) ?_
  intro w6 hF
  have HG6 := Lib.hid hF
  clear hF
  go_upto_region 4 with (first | (go_at_call 92; refine (H2.out _ HG6.out.rd).mono ?_; rintro e w7 ⟨rfl, hr, hf⟩; have HG7 := Lib.hid (HG6.out.call hr hf); skip; clear hr hf) | (refine wpList_store_mid rfl 37 _ _ rfl X 3 #[.int .i64 a.c, .int .i64 a.r, .int .i64 a.d, .int .i64 a.p] rfl rfl (HG7.out.x.there (by simp)) HI4.out (by simp [Value.oneCell']) ?_; refine at_hide (F := fun w' => Gw w b l w' t2 R [.string ⟨#[]⟩, .int .i64 0, .int .u64 0, .int .i64 0, .int .i64 0, .int .i64 0, .int .i64 0, .string ⟨#[]⟩] 39 X [.string (bs x.j), .int .i64 x.i, .int .u64 x.n, .int .i64 a.c, .int .i64 a.r, .int .i64 a.d, .int .i64 a.p, .string ⟨#[]⟩] 39) ((Gw.setX (Gw.setX (Gw.setX (Gw.setX HG7.out 3 (.int .i64 a.c)) 4 (.int .i64 a.r)) 5 (.int .i64 a.d)) 6 (.int .i64 a.p))) ?_; intro w8 hF; have HG8 := Lib.hid hF; have f8 := HG8.out.x.free; clear hF))
  go_upto_region 5 with (go_at_call 91; refine (H3.out _ HG8.out.rd).mono ?_; rintro e w9 ⟨rfl, hr, hf⟩; have HG9 := Lib.hid (HG8.out.call hr hf); have f9_7 := HG9.out.x.free 7; have y9_7 := HG9.out.x.cell (j := 7) rfl; clear hr hf)
  refine at_hide (F := fun w' => Gw w b l w' t3 R [.string ⟨#[]⟩, .int .i64 0, .int .u64 0, .int .i64 0, .int .i64 0, .int .i64 0, .int .i64 0, .string ⟨#[]⟩] 39 X [.string (bs x.j), .int .i64 x.i, .int .u64 x.n, .int .i64 a.c, .int .i64 a.r, .int .i64 a.d, .int .i64 a.p, .string (bs q)] 39) (HG9.out.setX 7 (.string (bs q))) ?_
  intro w10 hF
  have HG10 := Lib.hid hF
  clear hF
  have f10_0 := HG10.out.x.free 0; have f10_1 := HG10.out.x.free 1; have f10_2 := HG10.out.x.free 2; have f10_3 := HG10.out.x.free 3; have f10_4 := HG10.out.x.free 4; have f10_5 := HG10.out.x.free 5; have f10_6 := HG10.out.x.free 6; have f10_7 := HG10.out.x.free 7; have y10_0 := HG10.out.x.cell (j := 0) rfl; have y10_1 := HG10.out.x.cell (j := 1) rfl; have y10_2 := HG10.out.x.cell (j := 2) rfl; have y10_3 := HG10.out.x.cell (j := 3) rfl; have y10_4 := HG10.out.x.cell (j := 4) rfl; have y10_5 := HG10.out.x.cell (j := 5) rfl; have y10_6 := HG10.out.x.cell (j := 6) rfl; have y10_7 := HG10.out.x.cell (j := 7) rfl
  have g10_0 := HG10.out.r.free 0; have g10_1 := HG10.out.r.free 1; have g10_2 := HG10.out.r.free 2; have g10_3 := HG10.out.r.free 3; have g10_4 := HG10.out.r.free 4; have g10_5 := HG10.out.r.free 5; have g10_6 := HG10.out.r.free 6; have g10_7 := HG10.out.r.free 7; have z10_0 := HG10.out.r.cell (j := 0) rfl; have z10_1 := HG10.out.r.cell (j := 1) rfl; have z10_2 := HG10.out.r.cell (j := 2) rfl; have z10_3 := HG10.out.r.cell (j := 3) rfl; have z10_4 := HG10.out.r.cell (j := 4) rfl; have z10_5 := HG10.out.r.cell (j := 5) rfl; have z10_6 := HG10.out.r.cell (j := 6) rfl; have z10_7 := HG10.out.r.cell (j := 7) rfl
  have HFI := Lib.hid (Gw.setR (Gw.setR (Gw.setR (Gw.setR (Gw.setR (Gw.setR (Gw.setR (Gw.setR HG10.out 0 (.string (bs x.j))) 1 (.int .i64 x.i)) 2 (.int .u64 x.n)) 3 (.int .i64 a.c)) 4 (.int .i64 a.r)) 5 (.int .i64 a.d)) 6 (.int .i64 a.p)) 7 (.string (bs q)))
  go_wp2
  refine ret_cell1 rfl rfl rfl HFI.out.r Tryz.underlying39 rfl (by kernel_rfl) ?_
  exact ⟨rfl, HFI.out.rd, HFI.out.fr⟩
set_option maxRecDepth 100000 in
set_option maxHeartbeats 2000000 in
theorem stoG_any {w : World} {b : Nat} {l : List UInt8} {s s1 : S} {x : El} (h : Rdr w b l s.1 s.2) (hl : l.length ≤ 9223372036854775807) (e : stoRd l s = (x, s1)) : Calls Tryz.prog 96 #[ptr b] w (RF w b l (stoV x) s1) := by
  have H1 := Lib.hid (fun w' (h : Rdr w' b l s.1 s.2) => getTask_any h hl e)
  clear e
  obtain ⟨R, hR⟩ : ∃ R, R = w.heap.size := ⟨_, rfl⟩
  obtain ⟨w1, hw1⟩ : ∃ w1, w1 = w.alloc (.cells #[.string ⟨#[]⟩, .int .i64 0, .int .u64 0] 75) := ⟨_, rfl⟩
  have HS1 : Hid (Rdr w1 b l s.1 s.2 ∧ Blk w1 R [.string ⟨#[]⟩, .int .i64 0, .int .u64 0] 75 ∧ Frp (fun k => k = b) w w1 ∧ b < R ∧ w.heap.size ≤ R) := Lib.hid (by rw [hw1, hR]; have h9 := gw_start (C := [.string ⟨#[]⟩, .int .i64 0, .int .u64 0]) (t := 75) h; exact ⟨h9.1, h9.2.1, h9.2.2.1, h9.2.2.2, Nat.le_refl _⟩)
  go_enter Tryz.func96, Tryz.ntmps96
  go_upto_region 1 with fail
  rw [← hw1, ← hR]
  clear hw1 hR h
  go_upto_region 2 with (go_at_call 47; refine (H1.out _ HS1.out.1).mono ?_; rintro e w2 ⟨rfl, hr, hf⟩; have HS2 : Hid (Rdr w2 b l s1.1 s1.2 ∧ Blk w2 R [.string ⟨#[]⟩, .int .i64 0, .int .u64 0] 75 ∧ Frp (fun k => k = b) w w2 ∧ b < R ∧ w.heap.size ≤ R) := Lib.hid ⟨hr, HS1.out.2.1.frp hf (fun e => by have := HS1.out.2.2.2.1; omega), HS1.out.2.2.1.then hf, HS1.out.2.2.2⟩; clear hr hf)
  obtain ⟨X, hX⟩ : ∃ X, X = w2.heap.size := ⟨_, rfl⟩
  obtain ⟨w3, hw3⟩ : ∃ w3, w3 = w2.alloc (.cells #[.string (bs x.j), .int .i64 x.i] 35) := ⟨_, rfl⟩
  have HG3 : Hid (Gw w b l w3 s1 R [.string ⟨#[]⟩, .int .i64 0, .int .u64 0] 75 X [.string (bs x.j), .int .i64 x.i] 35) := Lib.hid (by rw [hw3, hX]; exact gw_box HS2.out.1 HS2.out.2.1 HS2.out.2.2.1 HS2.out.2.2.2.1 HS2.out.2.2.2.2)
  rw [← hw3, ← hX]
  clear hw3 hX HS2 HS1
  have f3_0 := HG3.out.x.free 0; have f3_1 := HG3.out.x.free 1; have y3_0 := HG3.out.x.cell (j := 0) rfl; have y3_1 := HG3.out.x.cell (j := 1) rfl
  have g3_0 := HG3.out.r.free 0; have g3_1 := HG3.out.r.free 1; have g3_2 := HG3.out.r.free 2; have z3_0 := HG3.out.r.cell (j := 0) rfl; have z3_1 := HG3.out.r.cell (j := 1) rfl; have z3_2 := HG3.out.r.cell (j := 2) rfl
  have HFI := Lib.hid (Gw.setR (Gw.setR (Gw.setR HG3.out 0 (.string (bs x.j))) 1 (.int .i64 x.i)) 2 (.int .u64 x.n))
  go_wp2
  refine ret_cell1 rfl rfl rfl HFI.out.r Tryz.underlying75 rfl (by kernel_rfl) ?_
  exact ⟨rfl, HFI.out.rd, HFI.out.fr⟩
set_option maxRecDepth 100000 in
set_option maxHeartbeats 2000000 in
theorem helG_any {w : World} {b : Nat} {l : List UInt8} {s s1 : S} {x : El} (h : Rdr w b l s.1 s.2) (hl : l.length ≤ 9223372036854775807) (e : helRd l s = (x, s1)) : Calls Tryz.prog 46 #[ptr b] w (RF w b l (helV x) s1) := by
  obtain ⟨x, t1, e1⟩ : ∃ c t, rK l s = (c, t) := ⟨_, _, rfl⟩
  obtain ⟨q, t2, e2⟩ : ∃ c t, rC 1073741824 l t1 = (c, t) := ⟨_, _, rfl⟩
  have hA : helRd l s = (⟨x.j, x.i, x.n, Am.zero, [], q, 0⟩, t2) := by unfold helRd; simp only [e1, e2]
  rw [hA] at e
  obtain ⟨rfl, rfl⟩ := Prod.mk.inj e
  clear e hA
  have H1 := Lib.hid (fun w' (h : Rdr w' b l s.1 s.2) => getTask_any h hl e1)
  have H2 := Lib.hid (fun w' (h : Rdr w' b l t1.1 t1.2) => small_any h hl e2)
  clear e1 e2
  obtain ⟨R, hR⟩ : ∃ R, R = w.heap.size := ⟨_, rfl⟩
  obtain ⟨w1, hw1⟩ : ∃ w1, w1 = w.alloc (.cells #[.string ⟨#[]⟩, .int .i64 0, .int .u64 0, .int .i64 0] 88) := ⟨_, rfl⟩
  have HS1 : Hid (Rdr w1 b l s.1 s.2 ∧ Blk w1 R [.string ⟨#[]⟩, .int .i64 0, .int .u64 0, .int .i64 0] 88 ∧ Frp (fun k => k = b) w w1 ∧ b < R ∧ w.heap.size ≤ R) := Lib.hid (by rw [hw1, hR]; have h9 := gw_start (C := [.string ⟨#[]⟩, .int .i64 0, .int .u64 0, .int .i64 0]) (t := 88) h; exact ⟨h9.1, h9.2.1, h9.2.2.1, h9.2.2.2, Nat.le_refl _⟩)
  go_enter Tryz.func46, Tryz.ntmps46
  go_upto_region 1 with fail
  rw [← hw1, ← hR]
  clear hw1 hR h
  go_upto_region 2 with (go_at_call 47; refine (H1.out _ HS1.out.1).mono ?_; rintro e w2 ⟨rfl, hr, hf⟩; have HS2 : Hid (Rdr w2 b l t1.1 t1.2 ∧ Blk w2 R [.string ⟨#[]⟩, .int .i64 0, .int .u64 0, .int .i64 0] 88 ∧ Frp (fun k => k = b) w w2 ∧ b < R ∧ w.heap.size ≤ R) := Lib.hid ⟨hr, HS1.out.2.1.frp hf (fun e => by have := HS1.out.2.2.2.1; omega), HS1.out.2.2.1.then hf, HS1.out.2.2.2⟩; clear hr hf)
  obtain ⟨X, hX⟩ : ∃ X, X = w2.heap.size := ⟨_, rfl⟩
  obtain ⟨w3, hw3⟩ : ∃ w3, w3 = w2.alloc (.cells #[.string (bs x.j), .int .i64 x.i] 35) := ⟨_, rfl⟩
  have HG3 : Hid (Gw w b l w3 t1 R [.string ⟨#[]⟩, .int .i64 0, .int .u64 0, .int .i64 0] 88 X [.string (bs x.j), .int .i64 x.i] 35) := Lib.hid (by rw [hw3, hX]; exact gw_box HS2.out.1 HS2.out.2.1 HS2.out.2.2.1 HS2.out.2.2.2.1 HS2.out.2.2.2.2)
  rw [← hw3, ← hX]
  clear hw3 hX HS2 HS1
  have HSS : Hid (∀ w', Blk w' X [.string (bs x.j), .int .i64 x.i] 35 → w'.cell? ⟨X, 0, none⟩ = some (.string (bs x.j)) ∧ w'.cell? ⟨X, 1, none⟩ = some (.int .i64 x.i)) := Lib.hid (fun w' h => ⟨h.cell (j := 0) rfl, h.cell (j := 1) rfl⟩)
  have HNE : Hid (X ≠ R) := Lib.hid (fun e => HG3.out.hb.2.2 e.symm)
  have z0 := (gw_drew HG3.out).r.cell (j := 0) rfl
  have z1 := (gw_drew HG3.out).r.cell (j := 1) rfl
  have z2 := (gw_drew HG3.out).r.cell (j := 2) rfl
  have z3 := (gw_drew HG3.out).r.cell (j := 3) rfl
  have g0 := (gw_drew HG3.out).r.free 0
  have g1 := (gw_drew HG3.out).r.free 1
  have g2 := (gw_drew HG3.out).r.free 2
  have g3 := (gw_drew HG3.out).r.free 3
  go_region_held3 (fun w' => w'.cell? ⟨X, 0, none⟩ = some (.string (bs x.j)) ∧ w'.cell? ⟨X, 1, none⟩ = some (.int .i64 x.i))
    ((refine HSS.out _ ?_ <;> (repeat (first | with_reducible exact HG6.out.x | with_reducible exact HG3.out.x | with_reducible apply blk_dr | with_reducible refine Blk.other ?_ HNE.out _))))
    (first
      | (go_at_call 48; refine (H2.out _ (Gw.rd (w0 := w) (R := R) (RC := [.string ⟨#[]⟩, .int .i64 0, .int .u64 0, .int .i64 0]) (RT := 88) (X := X) (XC := [.string (bs x.j), .int .i64 x.i]) (XT := 35) (by repeat (first | with_reducible exact HG3.out | with_reducible apply gw_drew)))).mono ?_; rintro e w6 ⟨rfl, hr, hf⟩; have HG6 := Lib.hid (Gw.call (w0 := w) (R := R) (RC := [.string ⟨#[]⟩, .int .i64 0, .int .u64 0, .int .i64 0]) (RT := 88) (X := X) (XC := [.string (bs x.j), .int .i64 x.i]) (XT := 35) (by repeat (first | with_reducible exact HG3.out | with_reducible apply gw_drew)) hr hf); have f6_0 := HG6.out.r.free 0; have f6_1 := HG6.out.r.free 1; have f6_2 := HG6.out.r.free 2; have f6_3 := HG6.out.r.free 3; have y6_0 := HG6.out.r.cell (j := 0) rfl; have y6_1 := HG6.out.r.cell (j := 1) rfl; have y6_2 := HG6.out.r.cell (j := 2) rfl; have y6_3 := HG6.out.r.cell (j := 3) rfl; clear hr hf))
  have HFI := Lib.hid (Gw.setR (Gw.setR (Gw.setR (Gw.setR HG6.out 0 (.string (bs x.j))) 1 (.int .i64 x.i)) 2 (.int .u64 x.n)) 3 (.int .i64 q))
  go_wp2
  refine ret_cell1 rfl rfl rfl HFI.out.r Tryz.underlying88 rfl (by kernel_rfl) ?_
  exact ⟨rfl, HFI.out.rd, HFI.out.fr⟩
set_option maxRecDepth 100000 in
set_option maxHeartbeats 2000000 in
theorem refG_any {w : World} {b : Nat} {l : List UInt8} {s s1 : S} {x : El} (h : Rdr w b l s.1 s.2) (hl : l.length ≤ 9223372036854775807) (e : refRd l s = (x, s1)) : Calls Tryz.prog 52 #[ptr b] w (RF w b l (refV x) s1) := by
  unfold refRd at e
  obtain ⟨x, t1, e1⟩ : ∃ c t, rK l s = (c, t) := ⟨_, _, rfl⟩
  obtain ⟨q, t2, e2⟩ : ∃ c t, rC 1073741824 l t1 = (c, t) := ⟨_, _, rfl⟩
  have hA : helRd l s = (⟨x.j, x.i, x.n, Am.zero, [], q, 0⟩, t2) := by unfold helRd; simp only [e1, e2]
  rw [hA] at e
  obtain ⟨rfl, rfl⟩ := Prod.mk.inj e
  clear e hA
  have H1 := Lib.hid (fun w' (h : Rdr w' b l s.1 s.2) => getTask_any h hl e1)
  have H2 := Lib.hid (fun w' (h : Rdr w' b l t1.1 t1.2) => small_any h hl e2)
  clear e1 e2
  obtain ⟨R, hR⟩ : ∃ R, R = w.heap.size := ⟨_, rfl⟩
  obtain ⟨w1, hw1⟩ : ∃ w1, w1 = w.alloc (.cells #[.string ⟨#[]⟩, .int .i64 0, .int .u64 0, .int .i64 0] 99) := ⟨_, rfl⟩
  have HS1 : Hid (Rdr w1 b l s.1 s.2 ∧ Blk w1 R [.string ⟨#[]⟩, .int .i64 0, .int .u64 0, .int .i64 0] 99 ∧ Frp (fun k => k = b) w w1 ∧ b < R ∧ w.heap.size ≤ R) := Lib.hid (by rw [hw1, hR]; have h9 := gw_start (C := [.string ⟨#[]⟩, .int .i64 0, .int .u64 0, .int .i64 0]) (t := 99) h; exact ⟨h9.1, h9.2.1, h9.2.2.1, h9.2.2.2, Nat.le_refl _⟩)
  go_enter Tryz.func52, Tryz.ntmps52
  go_upto_region 1 with fail
  rw [← hw1, ← hR]
  clear hw1 hR h
  go_upto_region 2 with (go_at_call 47; refine (H1.out _ HS1.out.1).mono ?_; rintro e w2 ⟨rfl, hr, hf⟩; have HS2 : Hid (Rdr w2 b l t1.1 t1.2 ∧ Blk w2 R [.string ⟨#[]⟩, .int .i64 0, .int .u64 0, .int .i64 0] 99 ∧ Frp (fun k => k = b) w w2 ∧ b < R ∧ w.heap.size ≤ R) := Lib.hid ⟨hr, HS1.out.2.1.frp hf (fun e => by have := HS1.out.2.2.2.1; omega), HS1.out.2.2.1.then hf, HS1.out.2.2.2⟩; clear hr hf)
  obtain ⟨X, hX⟩ : ∃ X, X = w2.heap.size := ⟨_, rfl⟩
  obtain ⟨w3, hw3⟩ : ∃ w3, w3 = w2.alloc (.cells #[.string (bs x.j), .int .i64 x.i] 35) := ⟨_, rfl⟩
  have HG3 : Hid (Gw w b l w3 t1 R [.string ⟨#[]⟩, .int .i64 0, .int .u64 0, .int .i64 0] 99 X [.string (bs x.j), .int .i64 x.i] 35) := Lib.hid (by rw [hw3, hX]; exact gw_box HS2.out.1 HS2.out.2.1 HS2.out.2.2.1 HS2.out.2.2.2.1 HS2.out.2.2.2.2)
  rw [← hw3, ← hX]
  clear hw3 hX HS2 HS1
  have HSS : Hid (∀ w', Blk w' X [.string (bs x.j), .int .i64 x.i] 35 → w'.cell? ⟨X, 0, none⟩ = some (.string (bs x.j)) ∧ w'.cell? ⟨X, 1, none⟩ = some (.int .i64 x.i)) := Lib.hid (fun w' h => ⟨h.cell (j := 0) rfl, h.cell (j := 1) rfl⟩)
  have HNE : Hid (X ≠ R) := Lib.hid (fun e => HG3.out.hb.2.2 e.symm)
  have z0 := (gw_drew HG3.out).r.cell (j := 0) rfl
  have z1 := (gw_drew HG3.out).r.cell (j := 1) rfl
  have z2 := (gw_drew HG3.out).r.cell (j := 2) rfl
  have z3 := (gw_drew HG3.out).r.cell (j := 3) rfl
  have g0 := (gw_drew HG3.out).r.free 0
  have g1 := (gw_drew HG3.out).r.free 1
  have g2 := (gw_drew HG3.out).r.free 2
  have g3 := (gw_drew HG3.out).r.free 3
  go_region_held3 (fun w' => w'.cell? ⟨X, 0, none⟩ = some (.string (bs x.j)) ∧ w'.cell? ⟨X, 1, none⟩ = some (.int .i64 x.i))
    ((refine HSS.out _ ?_ <;> (repeat (first | with_reducible exact HG6.out.x | with_reducible exact HG3.out.x | with_reducible apply blk_dr | with_reducible refine Blk.other ?_ HNE.out _))))
    (first
      | (go_at_call 48; refine (H2.out _ (Gw.rd (w0 := w) (R := R) (RC := [.string ⟨#[]⟩, .int .i64 0, .int .u64 0, .int .i64 0]) (RT := 99) (X := X) (XC := [.string (bs x.j), .int .i64 x.i]) (XT := 35) (by repeat (first | with_reducible exact HG3.out | with_reducible apply gw_drew)))).mono ?_; rintro e w6 ⟨rfl, hr, hf⟩; have HG6 := Lib.hid (Gw.call (w0 := w) (R := R) (RC := [.string ⟨#[]⟩, .int .i64 0, .int .u64 0, .int .i64 0]) (RT := 99) (X := X) (XC := [.string (bs x.j), .int .i64 x.i]) (XT := 35) (by repeat (first | with_reducible exact HG3.out | with_reducible apply gw_drew)) hr hf); have f6_0 := HG6.out.r.free 0; have f6_1 := HG6.out.r.free 1; have f6_2 := HG6.out.r.free 2; have f6_3 := HG6.out.r.free 3; have y6_0 := HG6.out.r.cell (j := 0) rfl; have y6_1 := HG6.out.r.cell (j := 1) rfl; have y6_2 := HG6.out.r.cell (j := 2) rfl; have y6_3 := HG6.out.r.cell (j := 3) rfl; clear hr hf))
  have HFI := Lib.hid (Gw.setR (Gw.setR (Gw.setR (Gw.setR HG6.out 0 (.string (bs x.j))) 1 (.int .i64 x.i)) 2 (.int .u64 x.n)) 3 (.int .i64 q))
  go_wp2
  refine ret_cell1 rfl rfl rfl HFI.out.r Tryz.underlying99 rfl (by kernel_rfl) ?_
  exact ⟨rfl, HFI.out.rd, HFI.out.fr⟩
set_option maxRecDepth 100000 in
set_option maxHeartbeats 2000000 in
theorem finG_any {w : World} {b : Nat} {l : List UInt8} {s s1 : S} {x : El} (h : Rdr w b l s.1 s.2) (hl : l.length ≤ 9223372036854775807) (e : finRd l s = (x, s1)) : Calls Tryz.prog 50 #[ptr b] w (RF w b l (finV x) s1) := by
  obtain ⟨u, t1, e1⟩ : ∃ c t, rU l s = (c, t) := ⟨_, _, rfl⟩
  obtain ⟨x, t2, e2⟩ : ∃ c t, rK l t1 = (c, t) := ⟨_, _, rfl⟩
  obtain ⟨q, t3, e3⟩ : ∃ c t, rC 1073741824 l t2 = (c, t) := ⟨_, _, rfl⟩
  have hA : finRd l s = (⟨x.j, x.i, x.n, Am.zero, [], q, u⟩, t3) := by unfold finRd; simp only [e1, e2, e3]
  rw [hA] at e
  obtain ⟨rfl, rfl⟩ := Prod.mk.inj e
  clear e hA
  have H1 := Lib.hid (fun w' (h : Rdr w' b l s.1 s.2) => cU h hl e1)
  have H2 := Lib.hid (fun w' (h : Rdr w' b l t1.1 t1.2) => getTask_any h hl e2)
  have H3 := Lib.hid (fun w' (h : Rdr w' b l t2.1 t2.2) => small_any h hl e3)
  clear e1 e2 e3
  have HI4 : Hid ((Tryz.prog.info? 37).map (·.size) = some 4) := Lib.hid (by kernel_rfl)
  have HI2 : Hid ((Tryz.prog.info? 35).map (·.size) = some 2) := Lib.hid (by kernel_rfl)
  obtain ⟨R, hR⟩ : ∃ R, R = w.heap.size := ⟨_, rfl⟩
  obtain ⟨w1, hw1⟩ : ∃ w1, w1 = w.alloc (.cells #[.int .u64 0, .string ⟨#[]⟩, .int .i64 0, .int .u64 0, .int .i64 0] 95) := ⟨_, rfl⟩
  have HS1 : Hid (Rdr w1 b l s.1 s.2 ∧ Blk w1 R [.int .u64 0, .string ⟨#[]⟩, .int .i64 0, .int .u64 0, .int .i64 0] 95 ∧ Frp (fun k => k = b) w w1 ∧ b < R ∧ w.heap.size ≤ R) := Lib.hid (by rw [hw1, hR]; have h9 := gw_start (C := [.int .u64 0, .string ⟨#[]⟩, .int .i64 0, .int .u64 0, .int .i64 0]) (t := 95) h; exact ⟨h9.1, h9.2.1, h9.2.2.1, h9.2.2.2, Nat.le_refl _⟩)
  go_enter Tryz.func50, Tryz.ntmps50
  go_upto_region 1 with fail
  rw [← hw1, ← hR]
  clear hw1 hR h
  go_upto_region 2 with (go_at_call 43; refine (H1.out _ HS1.out.1).mono ?_; rintro e w2 ⟨rfl, hr, hf⟩; have HS2 : Hid (Rdr w2 b l t1.1 t1.2 ∧ Blk w2 R [.int .u64 0, .string ⟨#[]⟩, .int .i64 0, .int .u64 0, .int .i64 0] 95 ∧ Frp (fun k => k = b) w w2 ∧ b < R ∧ w.heap.size ≤ R) := Lib.hid ⟨hr, HS1.out.2.1.frp hf (fun e => by have := HS1.out.2.2.2.1; omega), HS1.out.2.2.1.then hf, HS1.out.2.2.2⟩; clear hr hf)
  obtain ⟨X, hX⟩ : ∃ X, X = w2.heap.size := ⟨_, rfl⟩
  obtain ⟨w3, hw3⟩ : ∃ w3, w3 = w2.alloc (.cells #[.int .u64 u, .string ⟨#[]⟩, .int .i64 0, .int .u64 0, .int .i64 0] 95) := ⟨_, rfl⟩
  have HG3 : Hid (Gw w b l w3 t1 R [.int .u64 0, .string ⟨#[]⟩, .int .i64 0, .int .u64 0, .int .i64 0] 95 X [.int .u64 u, .string ⟨#[]⟩, .int .i64 0, .int .u64 0, .int .i64 0] 95) := Lib.hid (by rw [hw3, hX]; exact gw_box HS2.out.1 HS2.out.2.1 HS2.out.2.2.1 HS2.out.2.2.2.1 HS2.out.2.2.2.2)
  rw [← hw3, ← hX]
  clear hw3 hX HS2 HS1
  go_upto_region 3 with (first | (go_at_call 47; refine (H2.out _ HG3.out.rd).mono ?_; rintro e w4 ⟨rfl, hr, hf⟩; have HG4 := Lib.hid (HG3.out.call hr hf); skip; clear hr hf) | (refine wpList_store_mid rfl 35 _ _ rfl X 1 #[.string (bs x.j), .int .i64 x.i] rfl rfl (HG4.out.x.there (by simp)) HI2.out (by simp [Value.oneCell']) ?_; refine at_hide (F := fun w' => Gw w b l w' t2 R [.int .u64 0, .string ⟨#[]⟩, .int .i64 0, .int .u64 0, .int .i64 0] 95 X [.int .u64 u, .string (bs x.j), .int .i64 x.i, .int .u64 0, .int .i64 0] 95) ((Gw.setX (Gw.setX HG4.out 1 (.string (bs x.j))) 2 (.int .i64 x.i))) ?_; intro w5 hF; have HG5 := Lib.hid hF; have f5 := HG5.out.x.free 3; have y5 := HG5.out.x.cell (j := 3) rfl; clear hF))
  refine at_hide (F := fun w' => Gw w b l w' t2 R [.int .u64 0, .string ⟨#[]⟩, .int .i64 0, .int .u64 0, .int .i64 0] 95 X [.int .u64 u, .string (bs x.j), .int .i64 x.i, .int .u64 x.n, .int .i64 0] 95) (HG5.out.setX 3 (.int .u64 x.n)) ?_
  intro w6 hF
  have HG6 := Lib.hid hF
  clear hF
  go_upto_region 4 with (go_at_call 48; refine (H3.out _ HG6.out.rd).mono ?_; rintro e w7 ⟨rfl, hr, hf⟩; have HG7 := Lib.hid (HG6.out.call hr hf); have f7_4 := HG7.out.x.free 4; have y7_4 := HG7.out.x.cell (j := 4) rfl; clear hr hf)
  refine at_hide (F := fun w' => Gw w b l w' t3 R [.int .u64 0, .string ⟨#[]⟩, .int .i64 0, .int .u64 0, .int .i64 0] 95 X [.int .u64 u, .string (bs x.j), .int .i64 x.i, .int .u64 x.n, .int .i64 q] 95) (HG7.out.setX 4 (.int .i64 q)) ?_
  intro w8 hF
  have HG8 := Lib.hid hF
  clear hF
  have f8_0 := HG8.out.x.free 0; have f8_1 := HG8.out.x.free 1; have f8_2 := HG8.out.x.free 2; have f8_3 := HG8.out.x.free 3; have f8_4 := HG8.out.x.free 4; have y8_0 := HG8.out.x.cell (j := 0) rfl; have y8_1 := HG8.out.x.cell (j := 1) rfl; have y8_2 := HG8.out.x.cell (j := 2) rfl; have y8_3 := HG8.out.x.cell (j := 3) rfl; have y8_4 := HG8.out.x.cell (j := 4) rfl
  have g8_0 := HG8.out.r.free 0; have g8_1 := HG8.out.r.free 1; have g8_2 := HG8.out.r.free 2; have g8_3 := HG8.out.r.free 3; have g8_4 := HG8.out.r.free 4; have z8_0 := HG8.out.r.cell (j := 0) rfl; have z8_1 := HG8.out.r.cell (j := 1) rfl; have z8_2 := HG8.out.r.cell (j := 2) rfl; have z8_3 := HG8.out.r.cell (j := 3) rfl; have z8_4 := HG8.out.r.cell (j := 4) rfl
  have HFI := Lib.hid (Gw.setR (Gw.setR (Gw.setR (Gw.setR (Gw.setR HG8.out 0 (.int .u64 u)) 1 (.string (bs x.j))) 2 (.int .i64 x.i)) 3 (.int .u64 x.n)) 4 (.int .i64 q))
  go_wp2
  refine ret_cell1 rfl rfl rfl HFI.out.r Tryz.underlying95 rfl (by kernel_rfl) ?_
  exact ⟨rfl, HFI.out.rd, HFI.out.fr⟩
end Go.Proofs.YtopkfomlppnpeaaGreatDoor.Ms

namespace Go.Proofs.YtopkfomlppnpeaaGreatDoor.Ms
open Go.RowKit Go.Proofs.YtopkfomlppnpeaaGreatDoor

theorem rC_le {l : List UInt8} {s s1 : S} {c : Int} (e : rC 256 l s = (c, s1)) : c.toNat ≤ 256 ∧ (c.toNat : Int) = c := by
  unfold rC Wire.count at e
  split at e
  · cases e; omega
  · split at e
    · cases e; omega
    · split at e
      · cases e; omega
      · split at e
        · cases e; omega
        · cases e; omega
theorem rdN_go {one : List UInt8 → S → El × S} {l : List UInt8} {n : Nat} {s s1 : S} {x : El} (h : s.2 = 0) (e : one l s = (x, s1)) : rdN one l (n + 1) s = (x :: (rdN one l n s1).1, (rdN one l n s1).2) := by
  conv => lhs; unfold rdN
  rw [if_pos h, e]
theorem rdN_no {one : List UInt8 → S → El × S} {l : List UInt8} {n : Nat} {s : S} (h : s.2 ≠ 0) : rdN one l n s = ([], s) := by
  cases n with
  | zero => rfl
  | succ n => unfold rdN; rw [if_neg h]
set_option maxRecDepth 100000 in
set_option maxHeartbeats 4000000 in
theorem envS_any {w : World} {b : Nat} {l : List UInt8} {s s1 : S} {L : List El} (h : Rdr w b l s.1 s.2) (hl : l.length ≤ 9223372036854775807) (e : rL envRd l s = (L, s1)) : Calls Tryz.prog 89 #[ptr b, .func (.func 90) #[] #[]] w fun e w' => ∃ v, e = .returned v ∧ w'.ownsRow w.heap.size 66 5 v L.length (rwC envC L) ∧ Rdr w' b l s1.1 s1.2 ∧ Frp (fun k => k = b) w w' := by
  obtain ⟨ix, hi, hz0, hz1, hz2⟩ := info_parts (show (Tryz.prog.info? 66).map (fun i => (i.zero, i.size, i.bytes)) = some (some (.agg #[.string ⟨#[]⟩, .int .i64 0, .int .i64 0, .int .i64 0, .int .i64 0]), 5, 48) from by kernel_rfl)
  have HLT := Lib.hid (Rdr.lt h)
  have HL := Lib.hid hl
  obtain ⟨c, t, hc⟩ : ∃ c t, rC 256 l s = (c, t) := ⟨_, _, rfl⟩
  obtain ⟨hm, hcm⟩ := rC_le hc
  obtain ⟨m, hm0⟩ : ∃ m, m = c.toNat := ⟨_, rfl⟩
  rw [← hm0] at hm hcm
  subst hcm
  have HT : Hid (rdN envRd l m t = (L, s1)) := Lib.hid (by unfold rL at e; rw [hc] at e; rw [hm0]; exact e)
  have HC := Lib.hid (cC h hl (by omega) hc)
  have HM := Lib.hid hm
  clear h hl e hc hm hm0
  obtain ⟨ta, te⟩ := t
  go_enter Tryz.func89, Tryz.ntmps89
  go_upto_region 3 with (go_at_call 115; refine HC.out.mono ?_; rintro e w1 ⟨rfl, hr, hf⟩; have HR1 := Lib.hid hr; have HF1 := Lib.hid hf; clear hr hf)
  go_loopw [5, 6] (fun vo vn wr => ∃ (D : List El) (a : Nat) (er : Int) (q : Nat), vn = .int .i64 q ∧ Hid (D ++ (rdN envRd l q (a, er)).1 = L ∧ (rdN envRd l q (a, er)).2 = s1) ∧ Hid (D.length + q ≤ 256) ∧ Hid (wr.ownsRow w.heap.size 66 5 vo D.length (rwC envC D) ∧ Rdr wr b l a er ∧ Frp (fun k => k = b) w wr)) (fun _ vn _ => (intOf vn).toNat)
  case atStart => exact ⟨[], ta, te, m, rfl, Lib.hid ⟨by rw [HT.out]; rfl, by rw [HT.out]⟩, Lib.hid (by simpa using HM.out), Lib.hid ⟨World.ownsRow_nil _ _ _ _, HR1.out, HF1.out⟩⟩
  case round =>
    obtain ⟨D, a, er, q, rfl, HS, HQ, HR⟩ := hrel
    have END : ∀ (L' : List El) (t' : S), rdN envRd l q (a, er) = ([], (a, er)) → D = L ∧ (a, er) = s1 := fun _ _ h9 => by have h8 := HS.out; rw [h9, List.append_nil] at h8; exact h8
    have HEND := Lib.hid (END [] (0, 0))
    clear END
    rcases Nat.eq_zero_or_pos q with hq | hq
    · subst hq
      have h9 := HEND.out rfl
      have i1 : decide ((0 : Int) < ((0 : Nat) : Int)) = false := rfl
      go_wp2
      go_ret
      obtain ⟨rfl, rfl⟩ := h9
      exact ⟨_, rfl, HR.out⟩
    obtain ⟨r, rfl⟩ : ∃ r, q = r + 1 := ⟨q - 1, by omega⟩
    have i1 : decide ((0 : Int) < ((r + 1 : Nat) : Int)) = true := decide_eq_true (by omega)
    have i3 : r ≤ 256 := by have := HQ.out; omega
    have i2 : decide (0 < r + 1) = true := by simp
    by_cases he : er = 0
    rotate_left
    · have h9 := Lib.hid (HEND.out (rdN_no he))
      have t0 : (er == 0) = false := by simpa using he
      go_wp2_with (go_at_call 116; refine (err_any b l a er _ HR.out.2.1).mono ?_; rintro e w1 ⟨rfl, hw⟩; subst hw)
      go_ret
      obtain ⟨rfl, rfl⟩ := h9.out
      exact ⟨_, rfl, HR.out⟩
    subst he
    clear HEND
    obtain ⟨x, s', hx⟩ : ∃ x s', envRd l (a, 0) = (x, s') := ⟨_, _, rfl⟩
    have HE := Lib.hid hx
    have HN := Lib.hid (rdN_go (n := r) (s := (a, 0)) rfl hx)
    clear hx
    go_wp2_with (first | (at_builtin; refine wpList_app _ rfl _ _ 28 28 rfl w.heap.size 66 ix (.agg #[.string ⟨#[]⟩, .int .i64 0, .int .i64 0, .int .i64 0, .int .i64 0]) 5 48 Tryz.underlying28 hi hz0 hz1 hz2 rfl _ D.length (rwC envC D) rfl (HO2.out.alloc _) _ 1 (envC x) rfl (src_block Tryz.underlying28 _ _ (envC x).toArray (Blk.made w2 (envC x) _) rfl (by intro u hu; simp at hu; rcases hu with rfl | rfl | rfl | rfl | rfl <;> rfl)) (by have := HQ.out; unfold maxLen; omega) (by have := HQ.out; omega) (by have := HF2.out.size; simp; omega) ?_; intro v6 w6 ho hg hnil; have HO6 : Hid (w6.ownsRow w.heap.size 66 5 v6 (D ++ [x]).length (rwC envC (D ++ [x]))) := Lib.hid (by rw [rwC_snoc, List.length_append]; exact ho); have HF6 : Hid (Frp (fun k => k = b) w w6) := Lib.hid ((HF2.out.next (below_alloc w2 _)).grown hg (fun k hk => .inr (own_lo HO2.out hk))); have HR6 : Hid (Rdr w6 b l s'.1 s'.2) := Lib.hid (Rdr.frp (Rdr.kept HR2.out (below_alloc w2 _)) ((Frp.refl (fun k => w.heap.size ≤ k) _).grown hg (fun k hk => .inl (own_lo HO2.out hk))) (fun k hk h9 => by have := HLT.out; omega)); clear ho hg hnil) | (go_at_call 90; refine (envG_any (l := l) (s := (a, 0)) (s1 := s') (x := x) HR.out.2.1 HL.out HE.out).mono ?_; rintro e w2 ⟨rfl, hr, hf⟩; have HR2 := Lib.hid hr; have HF2 := Lib.hid (HR.out.2.2.then hf); have HO2 := Lib.hid (own_frp HR.out.1 hf (fun g hg h9 => by have h8 := own_lo HR.out.1 hg; have := HLT.out; omega)); clear hr hf) | (go_at_call 116; refine (err_any b l a 0 _ HR.out.2.1).mono ?_; rintro e w1 ⟨rfl, hw⟩; subst hw))
    go_roundw
    case rel => exact ⟨D ++ [x], s'.1, s'.2, r, by go_num, Lib.hid (by have h8 := HS.out; rw [HN.out] at h8; simpa using h8), Lib.hid (by have := HQ.out; simp; omega), Lib.hid ⟨HO6.out, HR6.out, HF6.out⟩⟩
    case measure => simp [intOf]
set_option maxRecDepth 100000 in
set_option maxHeartbeats 4000000 in
theorem staS_any {w : World} {b : Nat} {l : List UInt8} {s s1 : S} {L : List El} (h : Rdr w b l s.1 s.2) (hl : l.length ≤ 9223372036854775807) (e : rL staRd l s = (L, s1)) : Calls Tryz.prog 93 #[ptr b, .func (.func 94) #[] #[]] w fun e w' => ∃ v, e = .returned v ∧ w'.ownsRow w.heap.size 39 8 v L.length (rwC staC L) ∧ Rdr w' b l s1.1 s1.2 ∧ Frp (fun k => k = b) w w' := by
  obtain ⟨ix, hi, hz0, hz1, hz2⟩ := info_parts (show (Tryz.prog.info? 39).map (fun i => (i.zero, i.size, i.bytes)) = some (some (.agg #[.string ⟨#[]⟩, .int .i64 0, .int .u64 0, .int .i64 0, .int .i64 0, .int .i64 0, .int .i64 0, .string ⟨#[]⟩]), 8, 80) from by kernel_rfl)
  have HLT := Lib.hid (Rdr.lt h)
  have HL := Lib.hid hl
  obtain ⟨c, t, hc⟩ : ∃ c t, rC 256 l s = (c, t) := ⟨_, _, rfl⟩
  obtain ⟨hm, hcm⟩ := rC_le hc
  obtain ⟨m, hm0⟩ : ∃ m, m = c.toNat := ⟨_, rfl⟩
  rw [← hm0] at hm hcm
  subst hcm
  have HT : Hid (rdN staRd l m t = (L, s1)) := Lib.hid (by unfold rL at e; rw [hc] at e; rw [hm0]; exact e)
  have HC := Lib.hid (cC h hl (by omega) hc)
  have HM := Lib.hid hm
  clear h hl e hc hm hm0
  obtain ⟨ta, te⟩ := t
  go_enter Tryz.func93, Tryz.ntmps93
  go_upto_region 3 with (go_at_call 115; refine HC.out.mono ?_; rintro e w1 ⟨rfl, hr, hf⟩; have HR1 := Lib.hid hr; have HF1 := Lib.hid hf; clear hr hf)
  go_loopw [5, 6] (fun vo vn wr => ∃ (D : List El) (a : Nat) (er : Int) (q : Nat), vn = .int .i64 q ∧ Hid (D ++ (rdN staRd l q (a, er)).1 = L ∧ (rdN staRd l q (a, er)).2 = s1) ∧ Hid (D.length + q ≤ 256) ∧ Hid (wr.ownsRow w.heap.size 39 8 vo D.length (rwC staC D) ∧ Rdr wr b l a er ∧ Frp (fun k => k = b) w wr)) (fun _ vn _ => (intOf vn).toNat)
  case atStart => exact ⟨[], ta, te, m, rfl, Lib.hid ⟨by rw [HT.out]; rfl, by rw [HT.out]⟩, Lib.hid (by simpa using HM.out), Lib.hid ⟨World.ownsRow_nil _ _ _ _, HR1.out, HF1.out⟩⟩
  case round =>
    obtain ⟨D, a, er, q, rfl, HS, HQ, HR⟩ := hrel
    have END : ∀ (L' : List El) (t' : S), rdN staRd l q (a, er) = ([], (a, er)) → D = L ∧ (a, er) = s1 := fun _ _ h9 => by have h8 := HS.out; rw [h9, List.append_nil] at h8; exact h8
    have HEND := Lib.hid (END [] (0, 0))
    clear END
    rcases Nat.eq_zero_or_pos q with hq | hq
    · subst hq
      have h9 := HEND.out rfl
      have i1 : decide ((0 : Int) < ((0 : Nat) : Int)) = false := rfl
      go_wp2
      go_ret
      obtain ⟨rfl, rfl⟩ := h9
      exact ⟨_, rfl, HR.out⟩
    obtain ⟨r, rfl⟩ : ∃ r, q = r + 1 := ⟨q - 1, by omega⟩
    have i1 : decide ((0 : Int) < ((r + 1 : Nat) : Int)) = true := decide_eq_true (by omega)
    have i3 : r ≤ 256 := by have := HQ.out; omega
    have i2 : decide (0 < r + 1) = true := by simp
    by_cases he : er = 0
    rotate_left
    · have h9 := Lib.hid (HEND.out (rdN_no he))
      have t0 : (er == 0) = false := by simpa using he
      go_wp2_with (go_at_call 116; refine (err_any b l a er _ HR.out.2.1).mono ?_; rintro e w1 ⟨rfl, hw⟩; subst hw)
      go_ret
      obtain ⟨rfl, rfl⟩ := h9.out
      exact ⟨_, rfl, HR.out⟩
    subst he
    clear HEND
    obtain ⟨x, s', hx⟩ : ∃ x s', staRd l (a, 0) = (x, s') := ⟨_, _, rfl⟩
    have HE := Lib.hid hx
    have HN := Lib.hid (rdN_go (n := r) (s := (a, 0)) rfl hx)
    clear hx
    go_wp2_with (first | (at_builtin; refine wpList_app _ rfl _ _ 29 29 rfl w.heap.size 39 ix (.agg #[.string ⟨#[]⟩, .int .i64 0, .int .u64 0, .int .i64 0, .int .i64 0, .int .i64 0, .int .i64 0, .string ⟨#[]⟩]) 8 80 Tryz.underlying29 hi hz0 hz1 hz2 rfl _ D.length (rwC staC D) rfl (HO2.out.alloc _) _ 1 (staC x) rfl (src_block Tryz.underlying29 _ _ (staC x).toArray (Blk.made w2 (staC x) _) rfl (by intro u hu; simp at hu; rcases hu with rfl | rfl | rfl | rfl | rfl | rfl | rfl | rfl <;> rfl)) (by have := HQ.out; unfold maxLen; omega) (by have := HQ.out; omega) (by have := HF2.out.size; simp; omega) ?_; intro v6 w6 ho hg hnil; have HO6 : Hid (w6.ownsRow w.heap.size 39 8 v6 (D ++ [x]).length (rwC staC (D ++ [x]))) := Lib.hid (by rw [rwC_snoc, List.length_append]; exact ho); have HF6 : Hid (Frp (fun k => k = b) w w6) := Lib.hid ((HF2.out.next (below_alloc w2 _)).grown hg (fun k hk => .inr (own_lo HO2.out hk))); have HR6 : Hid (Rdr w6 b l s'.1 s'.2) := Lib.hid (Rdr.frp (Rdr.kept HR2.out (below_alloc w2 _)) ((Frp.refl (fun k => w.heap.size ≤ k) _).grown hg (fun k hk => .inl (own_lo HO2.out hk))) (fun k hk h9 => by have := HLT.out; omega)); clear ho hg hnil) | (go_at_call 94; refine (staG_any (l := l) (s := (a, 0)) (s1 := s') (x := x) HR.out.2.1 HL.out HE.out).mono ?_; rintro e w2 ⟨rfl, hr, hf⟩; have HR2 := Lib.hid hr; have HF2 := Lib.hid (HR.out.2.2.then hf); have HO2 := Lib.hid (own_frp HR.out.1 hf (fun g hg h9 => by have h8 := own_lo HR.out.1 hg; have := HLT.out; omega)); clear hr hf) | (go_at_call 116; refine (err_any b l a 0 _ HR.out.2.1).mono ?_; rintro e w1 ⟨rfl, hw⟩; subst hw))
    go_roundw
    case rel => exact ⟨D ++ [x], s'.1, s'.2, r, by go_num, Lib.hid (by have h8 := HS.out; rw [HN.out] at h8; simpa using h8), Lib.hid (by have := HQ.out; simp; omega), Lib.hid ⟨HO6.out, HR6.out, HF6.out⟩⟩
    case measure => simp [intOf]
set_option maxRecDepth 100000 in
set_option maxHeartbeats 4000000 in
theorem stoS_any {w : World} {b : Nat} {l : List UInt8} {s s1 : S} {L : List El} (h : Rdr w b l s.1 s.2) (hl : l.length ≤ 9223372036854775807) (e : rL stoRd l s = (L, s1)) : Calls Tryz.prog 95 #[ptr b, .func (.func 96) #[] #[]] w fun e w' => ∃ v, e = .returned v ∧ w'.ownsRow w.heap.size 75 3 v L.length (rwC stoC L) ∧ Rdr w' b l s1.1 s1.2 ∧ Frp (fun k => k = b) w w' := by
  obtain ⟨ix, hi, hz0, hz1, hz2⟩ := info_parts (show (Tryz.prog.info? 75).map (fun i => (i.zero, i.size, i.bytes)) = some (some (.agg #[.string ⟨#[]⟩, .int .i64 0, .int .u64 0]), 3, 32) from by kernel_rfl)
  have HLT := Lib.hid (Rdr.lt h)
  have HL := Lib.hid hl
  obtain ⟨c, t, hc⟩ : ∃ c t, rC 256 l s = (c, t) := ⟨_, _, rfl⟩
  obtain ⟨hm, hcm⟩ := rC_le hc
  obtain ⟨m, hm0⟩ : ∃ m, m = c.toNat := ⟨_, rfl⟩
  rw [← hm0] at hm hcm
  subst hcm
  have HT : Hid (rdN stoRd l m t = (L, s1)) := Lib.hid (by unfold rL at e; rw [hc] at e; rw [hm0]; exact e)
  have HC := Lib.hid (cC h hl (by omega) hc)
  have HM := Lib.hid hm
  clear h hl e hc hm hm0
  obtain ⟨ta, te⟩ := t
  go_enter Tryz.func95, Tryz.ntmps95
  go_upto_region 3 with (go_at_call 115; refine HC.out.mono ?_; rintro e w1 ⟨rfl, hr, hf⟩; have HR1 := Lib.hid hr; have HF1 := Lib.hid hf; clear hr hf)
  go_loopw [5, 6] (fun vo vn wr => ∃ (D : List El) (a : Nat) (er : Int) (q : Nat), vn = .int .i64 q ∧ Hid (D ++ (rdN stoRd l q (a, er)).1 = L ∧ (rdN stoRd l q (a, er)).2 = s1) ∧ Hid (D.length + q ≤ 256) ∧ Hid (wr.ownsRow w.heap.size 75 3 vo D.length (rwC stoC D) ∧ Rdr wr b l a er ∧ Frp (fun k => k = b) w wr)) (fun _ vn _ => (intOf vn).toNat)
  case atStart => exact ⟨[], ta, te, m, rfl, Lib.hid ⟨by rw [HT.out]; rfl, by rw [HT.out]⟩, Lib.hid (by simpa using HM.out), Lib.hid ⟨World.ownsRow_nil _ _ _ _, HR1.out, HF1.out⟩⟩
  case round =>
    obtain ⟨D, a, er, q, rfl, HS, HQ, HR⟩ := hrel
    have END : ∀ (L' : List El) (t' : S), rdN stoRd l q (a, er) = ([], (a, er)) → D = L ∧ (a, er) = s1 := fun _ _ h9 => by have h8 := HS.out; rw [h9, List.append_nil] at h8; exact h8
    have HEND := Lib.hid (END [] (0, 0))
    clear END
    rcases Nat.eq_zero_or_pos q with hq | hq
    · subst hq
      have h9 := HEND.out rfl
      have i1 : decide ((0 : Int) < ((0 : Nat) : Int)) = false := rfl
      go_wp2
      go_ret
      obtain ⟨rfl, rfl⟩ := h9
      exact ⟨_, rfl, HR.out⟩
    obtain ⟨r, rfl⟩ : ∃ r, q = r + 1 := ⟨q - 1, by omega⟩
    have i1 : decide ((0 : Int) < ((r + 1 : Nat) : Int)) = true := decide_eq_true (by omega)
    have i3 : r ≤ 256 := by have := HQ.out; omega
    have i2 : decide (0 < r + 1) = true := by simp
    by_cases he : er = 0
    rotate_left
    · have h9 := Lib.hid (HEND.out (rdN_no he))
      have t0 : (er == 0) = false := by simpa using he
      go_wp2_with (go_at_call 116; refine (err_any b l a er _ HR.out.2.1).mono ?_; rintro e w1 ⟨rfl, hw⟩; subst hw)
      go_ret
      obtain ⟨rfl, rfl⟩ := h9.out
      exact ⟨_, rfl, HR.out⟩
    subst he
    clear HEND
    obtain ⟨x, s', hx⟩ : ∃ x s', stoRd l (a, 0) = (x, s') := ⟨_, _, rfl⟩
    have HE := Lib.hid hx
    have HN := Lib.hid (rdN_go (n := r) (s := (a, 0)) rfl hx)
    clear hx
    go_wp2_with (first | (at_builtin; refine wpList_app _ rfl _ _ 30 30 rfl w.heap.size 75 ix (.agg #[.string ⟨#[]⟩, .int .i64 0, .int .u64 0]) 3 32 Tryz.underlying30 hi hz0 hz1 hz2 rfl _ D.length (rwC stoC D) rfl (HO2.out.alloc _) _ 1 (stoC x) rfl (src_block Tryz.underlying30 _ _ (stoC x).toArray (Blk.made w2 (stoC x) _) rfl (by intro u hu; simp at hu; rcases hu with rfl | rfl | rfl <;> rfl)) (by have := HQ.out; unfold maxLen; omega) (by have := HQ.out; omega) (by have := HF2.out.size; simp; omega) ?_; intro v6 w6 ho hg hnil; have HO6 : Hid (w6.ownsRow w.heap.size 75 3 v6 (D ++ [x]).length (rwC stoC (D ++ [x]))) := Lib.hid (by rw [rwC_snoc, List.length_append]; exact ho); have HF6 : Hid (Frp (fun k => k = b) w w6) := Lib.hid ((HF2.out.next (below_alloc w2 _)).grown hg (fun k hk => .inr (own_lo HO2.out hk))); have HR6 : Hid (Rdr w6 b l s'.1 s'.2) := Lib.hid (Rdr.frp (Rdr.kept HR2.out (below_alloc w2 _)) ((Frp.refl (fun k => w.heap.size ≤ k) _).grown hg (fun k hk => .inl (own_lo HO2.out hk))) (fun k hk h9 => by have := HLT.out; omega)); clear ho hg hnil) | (go_at_call 96; refine (stoG_any (l := l) (s := (a, 0)) (s1 := s') (x := x) HR.out.2.1 HL.out HE.out).mono ?_; rintro e w2 ⟨rfl, hr, hf⟩; have HR2 := Lib.hid hr; have HF2 := Lib.hid (HR.out.2.2.then hf); have HO2 := Lib.hid (own_frp HR.out.1 hf (fun g hg h9 => by have h8 := own_lo HR.out.1 hg; have := HLT.out; omega)); clear hr hf) | (go_at_call 116; refine (err_any b l a 0 _ HR.out.2.1).mono ?_; rintro e w1 ⟨rfl, hw⟩; subst hw))
    go_roundw
    case rel => exact ⟨D ++ [x], s'.1, s'.2, r, by go_num, Lib.hid (by have h8 := HS.out; rw [HN.out] at h8; simpa using h8), Lib.hid (by have := HQ.out; simp; omega), Lib.hid ⟨HO6.out, HR6.out, HF6.out⟩⟩
    case measure => simp [intOf]
set_option maxRecDepth 100000 in
set_option maxHeartbeats 4000000 in
theorem helS_any {w : World} {b : Nat} {l : List UInt8} {s s1 : S} {L : List El} (h : Rdr w b l s.1 s.2) (hl : l.length ≤ 9223372036854775807) (e : rL helRd l s = (L, s1)) : Calls Tryz.prog 45 #[ptr b, .func (.func 46) #[] #[]] w fun e w' => ∃ v, e = .returned v ∧ w'.ownsRow w.heap.size 88 4 v L.length (rwC helC L) ∧ Rdr w' b l s1.1 s1.2 ∧ Frp (fun k => k = b) w w' := by
  obtain ⟨ix, hi, hz0, hz1, hz2⟩ := info_parts (show (Tryz.prog.info? 88).map (fun i => (i.zero, i.size, i.bytes)) = some (some (.agg #[.string ⟨#[]⟩, .int .i64 0, .int .u64 0, .int .i64 0]), 4, 40) from by kernel_rfl)
  have HLT := Lib.hid (Rdr.lt h)
  have HL := Lib.hid hl
  obtain ⟨c, t, hc⟩ : ∃ c t, rC 256 l s = (c, t) := ⟨_, _, rfl⟩
  obtain ⟨hm, hcm⟩ := rC_le hc
  obtain ⟨m, hm0⟩ : ∃ m, m = c.toNat := ⟨_, rfl⟩
  rw [← hm0] at hm hcm
  subst hcm
  have HT : Hid (rdN helRd l m t = (L, s1)) := Lib.hid (by unfold rL at e; rw [hc] at e; rw [hm0]; exact e)
  have HC := Lib.hid (cC h hl (by omega) hc)
  have HM := Lib.hid hm
  clear h hl e hc hm hm0
  obtain ⟨ta, te⟩ := t
  go_enter Tryz.func45, Tryz.ntmps45
  go_upto_region 3 with (go_at_call 115; refine HC.out.mono ?_; rintro e w1 ⟨rfl, hr, hf⟩; have HR1 := Lib.hid hr; have HF1 := Lib.hid hf; clear hr hf)
  go_loopw [5, 6] (fun vo vn wr => ∃ (D : List El) (a : Nat) (er : Int) (q : Nat), vn = .int .i64 q ∧ Hid (D ++ (rdN helRd l q (a, er)).1 = L ∧ (rdN helRd l q (a, er)).2 = s1) ∧ Hid (D.length + q ≤ 256) ∧ Hid (wr.ownsRow w.heap.size 88 4 vo D.length (rwC helC D) ∧ Rdr wr b l a er ∧ Frp (fun k => k = b) w wr)) (fun _ vn _ => (intOf vn).toNat)
  case atStart => exact ⟨[], ta, te, m, rfl, Lib.hid ⟨by rw [HT.out]; rfl, by rw [HT.out]⟩, Lib.hid (by simpa using HM.out), Lib.hid ⟨World.ownsRow_nil _ _ _ _, HR1.out, HF1.out⟩⟩
  case round =>
    obtain ⟨D, a, er, q, rfl, HS, HQ, HR⟩ := hrel
    have END : ∀ (L' : List El) (t' : S), rdN helRd l q (a, er) = ([], (a, er)) → D = L ∧ (a, er) = s1 := fun _ _ h9 => by have h8 := HS.out; rw [h9, List.append_nil] at h8; exact h8
    have HEND := Lib.hid (END [] (0, 0))
    clear END
    rcases Nat.eq_zero_or_pos q with hq | hq
    · subst hq
      have h9 := HEND.out rfl
      have i1 : decide ((0 : Int) < ((0 : Nat) : Int)) = false := rfl
      go_wp2
      go_ret
      obtain ⟨rfl, rfl⟩ := h9
      exact ⟨_, rfl, HR.out⟩
    obtain ⟨r, rfl⟩ : ∃ r, q = r + 1 := ⟨q - 1, by omega⟩
    have i1 : decide ((0 : Int) < ((r + 1 : Nat) : Int)) = true := decide_eq_true (by omega)
    have i3 : r ≤ 256 := by have := HQ.out; omega
    have i2 : decide (0 < r + 1) = true := by simp
    by_cases he : er = 0
    rotate_left
    · have h9 := Lib.hid (HEND.out (rdN_no he))
      have t0 : (er == 0) = false := by simpa using he
      go_wp2_with (go_at_call 116; refine (err_any b l a er _ HR.out.2.1).mono ?_; rintro e w1 ⟨rfl, hw⟩; subst hw)
      go_ret
      obtain ⟨rfl, rfl⟩ := h9.out
      exact ⟨_, rfl, HR.out⟩
    subst he
    clear HEND
    obtain ⟨x, s', hx⟩ : ∃ x s', helRd l (a, 0) = (x, s') := ⟨_, _, rfl⟩
    have HE := Lib.hid hx
    have HN := Lib.hid (rdN_go (n := r) (s := (a, 0)) rfl hx)
    clear hx
    go_wp2_with (first | (at_builtin; refine wpList_app _ rfl _ _ 40 40 rfl w.heap.size 88 ix (.agg #[.string ⟨#[]⟩, .int .i64 0, .int .u64 0, .int .i64 0]) 4 40 Tryz.underlying40 hi hz0 hz1 hz2 rfl _ D.length (rwC helC D) rfl (HO2.out.alloc _) _ 1 (helC x) rfl (src_block Tryz.underlying40 _ _ (helC x).toArray (Blk.made w2 (helC x) _) rfl (by intro u hu; simp at hu; rcases hu with rfl | rfl | rfl | rfl <;> rfl)) (by have := HQ.out; unfold maxLen; omega) (by have := HQ.out; omega) (by have := HF2.out.size; simp; omega) ?_; intro v6 w6 ho hg hnil; have HO6 : Hid (w6.ownsRow w.heap.size 88 4 v6 (D ++ [x]).length (rwC helC (D ++ [x]))) := Lib.hid (by rw [rwC_snoc, List.length_append]; exact ho); have HF6 : Hid (Frp (fun k => k = b) w w6) := Lib.hid ((HF2.out.next (below_alloc w2 _)).grown hg (fun k hk => .inr (own_lo HO2.out hk))); have HR6 : Hid (Rdr w6 b l s'.1 s'.2) := Lib.hid (Rdr.frp (Rdr.kept HR2.out (below_alloc w2 _)) ((Frp.refl (fun k => w.heap.size ≤ k) _).grown hg (fun k hk => .inl (own_lo HO2.out hk))) (fun k hk h9 => by have := HLT.out; omega)); clear ho hg hnil) | (go_at_call 46; refine (helG_any (l := l) (s := (a, 0)) (s1 := s') (x := x) HR.out.2.1 HL.out HE.out).mono ?_; rintro e w2 ⟨rfl, hr, hf⟩; have HR2 := Lib.hid hr; have HF2 := Lib.hid (HR.out.2.2.then hf); have HO2 := Lib.hid (own_frp HR.out.1 hf (fun g hg h9 => by have h8 := own_lo HR.out.1 hg; have := HLT.out; omega)); clear hr hf) | (go_at_call 116; refine (err_any b l a 0 _ HR.out.2.1).mono ?_; rintro e w1 ⟨rfl, hw⟩; subst hw))
    go_roundw
    case rel => exact ⟨D ++ [x], s'.1, s'.2, r, by go_num, Lib.hid (by have h8 := HS.out; rw [HN.out] at h8; simpa using h8), Lib.hid (by have := HQ.out; simp; omega), Lib.hid ⟨HO6.out, HR6.out, HF6.out⟩⟩
    case measure => simp [intOf]
set_option maxRecDepth 100000 in
set_option maxHeartbeats 4000000 in
theorem finS_any {w : World} {b : Nat} {l : List UInt8} {s s1 : S} {L : List El} (h : Rdr w b l s.1 s.2) (hl : l.length ≤ 9223372036854775807) (e : rL finRd l s = (L, s1)) : Calls Tryz.prog 49 #[ptr b, .func (.func 50) #[] #[]] w fun e w' => ∃ v, e = .returned v ∧ w'.ownsRow w.heap.size 95 5 v L.length (rwC finC L) ∧ Rdr w' b l s1.1 s1.2 ∧ Frp (fun k => k = b) w w' := by
  obtain ⟨ix, hi, hz0, hz1, hz2⟩ := info_parts (show (Tryz.prog.info? 95).map (fun i => (i.zero, i.size, i.bytes)) = some (some (.agg #[.int .u64 0, .string ⟨#[]⟩, .int .i64 0, .int .u64 0, .int .i64 0]), 5, 48) from by kernel_rfl)
  have HLT := Lib.hid (Rdr.lt h)
  have HL := Lib.hid hl
  obtain ⟨c, t, hc⟩ : ∃ c t, rC 256 l s = (c, t) := ⟨_, _, rfl⟩
  obtain ⟨hm, hcm⟩ := rC_le hc
  obtain ⟨m, hm0⟩ : ∃ m, m = c.toNat := ⟨_, rfl⟩
  rw [← hm0] at hm hcm
  subst hcm
  have HT : Hid (rdN finRd l m t = (L, s1)) := Lib.hid (by unfold rL at e; rw [hc] at e; rw [hm0]; exact e)
  have HC := Lib.hid (cC h hl (by omega) hc)
  have HM := Lib.hid hm
  clear h hl e hc hm hm0
  obtain ⟨ta, te⟩ := t
  go_enter Tryz.func49, Tryz.ntmps49
  go_upto_region 3 with (go_at_call 115; refine HC.out.mono ?_; rintro e w1 ⟨rfl, hr, hf⟩; have HR1 := Lib.hid hr; have HF1 := Lib.hid hf; clear hr hf)
  go_loopw [5, 6] (fun vo vn wr => ∃ (D : List El) (a : Nat) (er : Int) (q : Nat), vn = .int .i64 q ∧ Hid (D ++ (rdN finRd l q (a, er)).1 = L ∧ (rdN finRd l q (a, er)).2 = s1) ∧ Hid (D.length + q ≤ 256) ∧ Hid (wr.ownsRow w.heap.size 95 5 vo D.length (rwC finC D) ∧ Rdr wr b l a er ∧ Frp (fun k => k = b) w wr)) (fun _ vn _ => (intOf vn).toNat)
  case atStart => exact ⟨[], ta, te, m, rfl, Lib.hid ⟨by rw [HT.out]; rfl, by rw [HT.out]⟩, Lib.hid (by simpa using HM.out), Lib.hid ⟨World.ownsRow_nil _ _ _ _, HR1.out, HF1.out⟩⟩
  case round =>
    obtain ⟨D, a, er, q, rfl, HS, HQ, HR⟩ := hrel
    have END : ∀ (L' : List El) (t' : S), rdN finRd l q (a, er) = ([], (a, er)) → D = L ∧ (a, er) = s1 := fun _ _ h9 => by have h8 := HS.out; rw [h9, List.append_nil] at h8; exact h8
    have HEND := Lib.hid (END [] (0, 0))
    clear END
    rcases Nat.eq_zero_or_pos q with hq | hq
    · subst hq
      have h9 := HEND.out rfl
      have i1 : decide ((0 : Int) < ((0 : Nat) : Int)) = false := rfl
      go_wp2
      go_ret
      obtain ⟨rfl, rfl⟩ := h9
      exact ⟨_, rfl, HR.out⟩
    obtain ⟨r, rfl⟩ : ∃ r, q = r + 1 := ⟨q - 1, by omega⟩
    have i1 : decide ((0 : Int) < ((r + 1 : Nat) : Int)) = true := decide_eq_true (by omega)
    have i3 : r ≤ 256 := by have := HQ.out; omega
    have i2 : decide (0 < r + 1) = true := by simp
    by_cases he : er = 0
    rotate_left
    · have h9 := Lib.hid (HEND.out (rdN_no he))
      have t0 : (er == 0) = false := by simpa using he
      go_wp2_with (go_at_call 116; refine (err_any b l a er _ HR.out.2.1).mono ?_; rintro e w1 ⟨rfl, hw⟩; subst hw)
      go_ret
      obtain ⟨rfl, rfl⟩ := h9.out
      exact ⟨_, rfl, HR.out⟩
    subst he
    clear HEND
    obtain ⟨x, s', hx⟩ : ∃ x s', finRd l (a, 0) = (x, s') := ⟨_, _, rfl⟩
    have HE := Lib.hid hx
    have HN := Lib.hid (rdN_go (n := r) (s := (a, 0)) rfl hx)
    clear hx
    go_wp2_with (first | (at_builtin; refine wpList_app _ rfl _ _ 41 41 rfl w.heap.size 95 ix (.agg #[.int .u64 0, .string ⟨#[]⟩, .int .i64 0, .int .u64 0, .int .i64 0]) 5 48 Tryz.underlying41 hi hz0 hz1 hz2 rfl _ D.length (rwC finC D) rfl (HO2.out.alloc _) _ 1 (finC x) rfl (src_block Tryz.underlying41 _ _ (finC x).toArray (Blk.made w2 (finC x) _) rfl (by intro u hu; simp at hu; rcases hu with rfl | rfl | rfl | rfl | rfl <;> rfl)) (by have := HQ.out; unfold maxLen; omega) (by have := HQ.out; omega) (by have := HF2.out.size; simp; omega) ?_; intro v6 w6 ho hg hnil; have HO6 : Hid (w6.ownsRow w.heap.size 95 5 v6 (D ++ [x]).length (rwC finC (D ++ [x]))) := Lib.hid (by rw [rwC_snoc, List.length_append]; exact ho); have HF6 : Hid (Frp (fun k => k = b) w w6) := Lib.hid ((HF2.out.next (below_alloc w2 _)).grown hg (fun k hk => .inr (own_lo HO2.out hk))); have HR6 : Hid (Rdr w6 b l s'.1 s'.2) := Lib.hid (Rdr.frp (Rdr.kept HR2.out (below_alloc w2 _)) ((Frp.refl (fun k => w.heap.size ≤ k) _).grown hg (fun k hk => .inl (own_lo HO2.out hk))) (fun k hk h9 => by have := HLT.out; omega)); clear ho hg hnil) | (go_at_call 50; refine (finG_any (l := l) (s := (a, 0)) (s1 := s') (x := x) HR.out.2.1 HL.out HE.out).mono ?_; rintro e w2 ⟨rfl, hr, hf⟩; have HR2 := Lib.hid hr; have HF2 := Lib.hid (HR.out.2.2.then hf); have HO2 := Lib.hid (own_frp HR.out.1 hf (fun g hg h9 => by have h8 := own_lo HR.out.1 hg; have := HLT.out; omega)); clear hr hf) | (go_at_call 116; refine (err_any b l a 0 _ HR.out.2.1).mono ?_; rintro e w1 ⟨rfl, hw⟩; subst hw))
    go_roundw
    case rel => exact ⟨D ++ [x], s'.1, s'.2, r, by go_num, Lib.hid (by have h8 := HS.out; rw [HN.out] at h8; simpa using h8), Lib.hid (by have := HQ.out; simp; omega), Lib.hid ⟨HO6.out, HR6.out, HF6.out⟩⟩
    case measure => simp [intOf]
set_option maxRecDepth 100000 in
set_option maxHeartbeats 4000000 in
theorem refS_any {w : World} {b : Nat} {l : List UInt8} {s s1 : S} {L : List El} (h : Rdr w b l s.1 s.2) (hl : l.length ≤ 9223372036854775807) (e : rL refRd l s = (L, s1)) : Calls Tryz.prog 51 #[ptr b, .func (.func 52) #[] #[]] w fun e w' => ∃ v, e = .returned v ∧ w'.ownsRow w.heap.size 99 4 v L.length (rwC refC L) ∧ Rdr w' b l s1.1 s1.2 ∧ Frp (fun k => k = b) w w' := by
  obtain ⟨ix, hi, hz0, hz1, hz2⟩ := info_parts (show (Tryz.prog.info? 99).map (fun i => (i.zero, i.size, i.bytes)) = some (some (.agg #[.string ⟨#[]⟩, .int .i64 0, .int .u64 0, .int .i64 0]), 4, 40) from by kernel_rfl)
  have HLT := Lib.hid (Rdr.lt h)
  have HL := Lib.hid hl
  obtain ⟨c, t, hc⟩ : ∃ c t, rC 256 l s = (c, t) := ⟨_, _, rfl⟩
  obtain ⟨hm, hcm⟩ := rC_le hc
  obtain ⟨m, hm0⟩ : ∃ m, m = c.toNat := ⟨_, rfl⟩
  rw [← hm0] at hm hcm
  subst hcm
  have HT : Hid (rdN refRd l m t = (L, s1)) := Lib.hid (by unfold rL at e; rw [hc] at e; rw [hm0]; exact e)
  have HC := Lib.hid (cC h hl (by omega) hc)
  have HM := Lib.hid hm
  clear h hl e hc hm hm0
  obtain ⟨ta, te⟩ := t
  go_enter Tryz.func51, Tryz.ntmps51
  go_upto_region 3 with (go_at_call 115; refine HC.out.mono ?_; rintro e w1 ⟨rfl, hr, hf⟩; have HR1 := Lib.hid hr; have HF1 := Lib.hid hf; clear hr hf)
  go_loopw [5, 6] (fun vo vn wr => ∃ (D : List El) (a : Nat) (er : Int) (q : Nat), vn = .int .i64 q ∧ Hid (D ++ (rdN refRd l q (a, er)).1 = L ∧ (rdN refRd l q (a, er)).2 = s1) ∧ Hid (D.length + q ≤ 256) ∧ Hid (wr.ownsRow w.heap.size 99 4 vo D.length (rwC refC D) ∧ Rdr wr b l a er ∧ Frp (fun k => k = b) w wr)) (fun _ vn _ => (intOf vn).toNat)
  case atStart => exact ⟨[], ta, te, m, rfl, Lib.hid ⟨by rw [HT.out]; rfl, by rw [HT.out]⟩, Lib.hid (by simpa using HM.out), Lib.hid ⟨World.ownsRow_nil _ _ _ _, HR1.out, HF1.out⟩⟩
  case round =>
    obtain ⟨D, a, er, q, rfl, HS, HQ, HR⟩ := hrel
    have END : ∀ (L' : List El) (t' : S), rdN refRd l q (a, er) = ([], (a, er)) → D = L ∧ (a, er) = s1 := fun _ _ h9 => by have h8 := HS.out; rw [h9, List.append_nil] at h8; exact h8
    have HEND := Lib.hid (END [] (0, 0))
    clear END
    rcases Nat.eq_zero_or_pos q with hq | hq
    · subst hq
      have h9 := HEND.out rfl
      have i1 : decide ((0 : Int) < ((0 : Nat) : Int)) = false := rfl
      go_wp2
      go_ret
      obtain ⟨rfl, rfl⟩ := h9
      exact ⟨_, rfl, HR.out⟩
    obtain ⟨r, rfl⟩ : ∃ r, q = r + 1 := ⟨q - 1, by omega⟩
    have i1 : decide ((0 : Int) < ((r + 1 : Nat) : Int)) = true := decide_eq_true (by omega)
    have i3 : r ≤ 256 := by have := HQ.out; omega
    have i2 : decide (0 < r + 1) = true := by simp
    by_cases he : er = 0
    rotate_left
    · have h9 := Lib.hid (HEND.out (rdN_no he))
      have t0 : (er == 0) = false := by simpa using he
      go_wp2_with (go_at_call 116; refine (err_any b l a er _ HR.out.2.1).mono ?_; rintro e w1 ⟨rfl, hw⟩; subst hw)
      go_ret
      obtain ⟨rfl, rfl⟩ := h9.out
      exact ⟨_, rfl, HR.out⟩
    subst he
    clear HEND
    obtain ⟨x, s', hx⟩ : ∃ x s', refRd l (a, 0) = (x, s') := ⟨_, _, rfl⟩
    have HE := Lib.hid hx
    have HN := Lib.hid (rdN_go (n := r) (s := (a, 0)) rfl hx)
    clear hx
    go_wp2_with (first | (at_builtin; refine wpList_app _ rfl _ _ 42 42 rfl w.heap.size 99 ix (.agg #[.string ⟨#[]⟩, .int .i64 0, .int .u64 0, .int .i64 0]) 4 40 Tryz.underlying42 hi hz0 hz1 hz2 rfl _ D.length (rwC refC D) rfl (HO2.out.alloc _) _ 1 (refC x) rfl (src_block Tryz.underlying42 _ _ (refC x).toArray (Blk.made w2 (refC x) _) rfl (by intro u hu; simp at hu; rcases hu with rfl | rfl | rfl | rfl <;> rfl)) (by have := HQ.out; unfold maxLen; omega) (by have := HQ.out; omega) (by have := HF2.out.size; simp; omega) ?_; intro v6 w6 ho hg hnil; have HO6 : Hid (w6.ownsRow w.heap.size 99 4 v6 (D ++ [x]).length (rwC refC (D ++ [x]))) := Lib.hid (by rw [rwC_snoc, List.length_append]; exact ho); have HF6 : Hid (Frp (fun k => k = b) w w6) := Lib.hid ((HF2.out.next (below_alloc w2 _)).grown hg (fun k hk => .inr (own_lo HO2.out hk))); have HR6 : Hid (Rdr w6 b l s'.1 s'.2) := Lib.hid (Rdr.frp (Rdr.kept HR2.out (below_alloc w2 _)) ((Frp.refl (fun k => w.heap.size ≤ k) _).grown hg (fun k hk => .inl (own_lo HO2.out hk))) (fun k hk h9 => by have := HLT.out; omega)); clear ho hg hnil) | (go_at_call 52; refine (refG_any (l := l) (s := (a, 0)) (s1 := s') (x := x) HR.out.2.1 HL.out HE.out).mono ?_; rintro e w2 ⟨rfl, hr, hf⟩; have HR2 := Lib.hid hr; have HF2 := Lib.hid (HR.out.2.2.then hf); have HO2 := Lib.hid (own_frp HR.out.1 hf (fun g hg h9 => by have h8 := own_lo HR.out.1 hg; have := HLT.out; omega)); clear hr hf) | (go_at_call 116; refine (err_any b l a 0 _ HR.out.2.1).mono ?_; rintro e w1 ⟨rfl, hw⟩; subst hw))
    go_roundw
    case rel => exact ⟨D ++ [x], s'.1, s'.2, r, by go_num, Lib.hid (by have h8 := HS.out; rw [HN.out] at h8; simpa using h8), Lib.hid (by have := HQ.out; simp; omega), Lib.hid ⟨HO6.out, HR6.out, HF6.out⟩⟩
    case measure => simp [intOf]
end Go.Proofs.YtopkfomlppnpeaaGreatDoor.Ms
