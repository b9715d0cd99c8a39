/- , laid together: MsDRo, MsDRr. -/
import Derived.Test.YtopkfomlppnpeaaGreatDoorMDs
import Derived.Test.YtopkfomlppnpeaaGreatDoorMDw
import Derived.Test.YtopkfomlppnpeaaGreatDoorMLin
import Derived.Deep.RegionHeld3
namespace Go.Proofs.YtopkfomlppnpeaaGreatDoor.Ms
open Go.RowKit Go.Proofs.YtopkfomlppnpeaaGreatDoor

set_option maxRecDepth 100000 in
set_option maxHeartbeats 8000000 in
theorem rreadP_any (v : Value) (b : List UInt8) (w : World) (h : Rd w v b) (hl : b.length ≤ 1000000000) : Calls Tryz.prog 20 #[v] w (readPF b w) := by
  obtain ⟨ixenv, hienv, hz0env, hz1env, hz2env⟩ := info_parts (show (Tryz.prog.info? 66).map (fun i => (i.zero, i.size, i.bytes)) = some (some (.agg #[.string ⟨#[]⟩, .int .i64 0, .int .i64 0, .int .i64 0, .int .i64 0]), 5, 48) from by kernel_rfl)
  obtain ⟨ixsta, hista, hz0sta, hz1sta, hz2sta⟩ := info_parts (show (Tryz.prog.info? 39).map (fun i => (i.zero, i.size, i.bytes)) = some (some (.agg #[.string ⟨#[]⟩, .int .i64 0, .int .u64 0, .int .i64 0, .int .i64 0, .int .i64 0, .int .i64 0, .string ⟨#[]⟩]), 8, 80) from by kernel_rfl)
  obtain ⟨ixsto, histo, hz0sto, hz1sto, hz2sto⟩ := info_parts (show (Tryz.prog.info? 75).map (fun i => (i.zero, i.size, i.bytes)) = some (some (.agg #[.string ⟨#[]⟩, .int .i64 0, .int .u64 0]), 3, 32) from by kernel_rfl)
  obtain ⟨p, c, rfl⟩ := rd_slice h
  obtain ⟨n, hn⟩ : ∃ n, n = b.length := ⟨_, rfl⟩
  obtain ⟨R, hR⟩ : ∃ R, R = w.heap.size := ⟨_, rfl⟩
  obtain ⟨w1, hw1⟩ : ∃ w1, w1 = w.alloc (.cells #[.int .u64 0, .int .u64 0, .int .u64 0, .int .i64 0, .int .i64 0, .slice none 0 0, .slice none 0 0, .slice none 0 0, .int .u64 0] 32) := ⟨_, rfl⟩
  have HR1 : Hid (Blk w1 R [.int .u64 0, .int .u64 0, .int .u64 0, .int .i64 0, .int .i64 0, .slice none 0 0, .slice none 0 0, .slice none 0 0, .int .u64 0] 32) := Lib.hid (by rw [hw1, hR]; exact Blk.made w [.int .u64 0, .int .u64 0, .int .u64 0, .int .i64 0, .int .i64 0, .slice none 0 0, .slice none 0 0, .slice none 0 0, .int .u64 0] _)
  have HB1 : Hid (Below w.heap.size w w1) := Lib.hid (by rw [hw1]; exact below_alloc _ _)
  have HOP : Hid (Calls Tryz.prog 97 #[.slice p n c, .int .u8 3] w1 (OnF b 3 w1)) := Lib.hid (rone_any (.slice p n c) b 3 w1 (by rw [hw1, hn]; exact h.below (below_alloc _ _)) hl)
  have HRR := Lib.hid hR
  rw [← hn] at hl ⊢
  have HNL : Hid (n ≤ 1000000000 ∧ n = b.length) := Lib.hid ⟨hl, hn⟩
  clear h hn
  have HOL : Hid ((opn b [3]).2.1.length ≤ 1000000000) := Lib.hid (by have h9 := opn_len b [3]; have := HNL.out; omega)
  have HDE : Hid (readP b = dreadP b) := Lib.hid (dreadP_eq b (by have := HOL.out; omega)).symm
  go_enter Tryz.func20, Tryz.ntmps20
  go_upto_region 1 with fail
  rw [← hw1, ← hR]
  clear hw1 hR
  obtain ⟨kd, l, er, hop⟩ : ∃ kd l er, opn b [3] = (kd, l, er) := ⟨_, _, _, rfl⟩
  have HOE := Lib.hid hop
  by_cases he : er = 0
  rotate_left
  · have HE0 : Hid (er ≠ 0) := Lib.hid he
    have HQ : Hid (readP b = (zeP, er)) := Lib.hid (by unfold readP; rw [HOE.out, if_pos he])
    have t0 : ((er : Int) != 0) = true := by simp; omega
    have t1 : (er != 0) = true := by simp; omega
    have HC2 := Lib.hid (HOP.out.mono (R' := fun e w' => e = .returned (.tuple #[.slice none 0 0, .int .i64 er]) ∧ Below w1.heap.size w1 w') fun e w' h9 => by unfold OnF at h9; rw [HOE.out] at h9; exact ⟨h9.2.1 he, h9.1⟩)
    clear hop HOE HOP he
    go_upto_region 2 with (go_at_call 97; refine HC2.out.mono ?_; rintro e w3 ⟨rfl, hb⟩; have HB13 := Lib.hid hb; clear hb)
    have HX3 := Lib.hid (HR1.out.kept HB13.out)
    have HF3 : Hid (Frp (fun k => k = R) w w3) := Lib.hid ((Frp.of_below HB1.out _).next HB13.out)
    have fx0 := HX3.out.free 0
    have fx1 := HX3.out.free 1
    have fx2 := HX3.out.free 2
    have fx3 := HX3.out.free 3
    have fx4 := HX3.out.free 4
    have fx5 := HX3.out.free 5
    have fx6 := HX3.out.free 6
    have fx7 := HX3.out.free 7
    have fx8 := HX3.out.free 8
    have yx0 := HX3.out.cell (j := 0) rfl
    have yx1 := HX3.out.cell (j := 1) rfl
    have yx2 := HX3.out.cell (j := 2) rfl
    have yx3 := HX3.out.cell (j := 3) rfl
    have yx4 := HX3.out.cell (j := 4) rfl
    have yx5 := HX3.out.cell (j := 5) rfl
    have yx6 := HX3.out.cell (j := 6) rfl
    have yx7 := HX3.out.cell (j := 7) rfl
    have yx8 := HX3.out.cell (j := 8) rfl
    go_wp2
    refine ret_cell rfl rfl rfl (Blk.set (Blk.set (Blk.set (Blk.set (Blk.set (Blk.set (Blk.set (Blk.set (Blk.set HX3.out 0 (.int .u64 0)) 1 (.int .u64 0)) 2 (.int .u64 0)) 3 (.int .i64 0)) 4 (.int .i64 0)) 5 (.slice none 0 0)) 6 (.slice none 0 0)) 7 (.slice none 0 0)) 8 (.int .u64 0)) Tryz.underlying32 rfl (by kernel_rfl) ?_
    unfold readPF
    rw [HQ.out]
    exact ⟨(frp_setX (frp_setX (frp_setX (frp_setX (frp_setX (frp_setX (frp_setX (frp_setX (frp_setX HF3.out 0 (.int .u64 0)) 1 (.int .u64 0)) 2 (.int .u64 0)) 3 (.int .i64 0)) 4 (.int .i64 0)) 5 (.slice none 0 0)) 6 (.slice none 0 0)) 7 (.slice none 0 0)) 8 (.int .u64 0)).below (fun k hk => by rw [hk, HRR.out]; exact Nat.le_refl _) (Nat.le_refl _), fun _ => rfl, fun h9 => absurd h9 HE0.out⟩
  subst he
  obtain ⟨bn, hbn⟩ : ∃ bn, bn = l.length := ⟨_, rfl⟩
  have HBN := Lib.hid hbn
  have HLL : Hid (l.length ≤ 1000000000) := Lib.hid (by have h9 := HOL.out; rw [HOE.out] at h9; exact h9)
  have HC2 := Lib.hid (HOP.out.mono (R' := fun e w' => ∃ pz qz, e = .returned (.tuple #[.slice pz bn qz, .int .i64 0]) ∧ Fresh w1.heap.size w' (.slice pz bn qz) l ∧ (∀ g, (Value.slice pz bn qz).ownBlock = some g → g + 1 < w'.heap.size) ∧ Below w1.heap.size w1 w') fun e w' h9 => by
    unfold OnF at h9
    rw [HOE.out] at h9
    obtain ⟨h1, -, h3⟩ := h9
    obtain ⟨vb, h4, h5, h6⟩ := h3 rfl
    obtain ⟨pz, qz, rfl⟩ := fresh_slice h5
    rw [← hbn] at h4 h5 h6
    exact ⟨pz, qz, h4, h5, h6, h1⟩)
  clear hbn HOP hop
  obtain ⟨c1, t1, e1⟩ : ∃ c t, rU l (0, 0) = (c, t) := ⟨_, _, rfl⟩
  obtain ⟨c2, t2, e2⟩ : ∃ c t, rU l t1 = (c, t) := ⟨_, _, rfl⟩
  obtain ⟨c3, t3, e3⟩ : ∃ c t, rU l t2 = (c, t) := ⟨_, _, rfl⟩
  obtain ⟨c4, t4, e4⟩ : ∃ c t, rI l t3 = (c, t) := ⟨_, _, rfl⟩
  obtain ⟨c5, t5, e5⟩ : ∃ c t, dS l t4 = (c, t) := ⟨_, _, rfl⟩
  obtain ⟨k6, s6, f6⟩ : ∃ c t, rC 256 l t5 = (c, t) := ⟨_, _, rfl⟩
  obtain ⟨hm6, hc6⟩ := rC_le f6
  obtain ⟨m6, hk6⟩ : ∃ m, m = k6.toNat := ⟨_, rfl⟩
  rw [← hk6] at hm6 hc6
  subst hc6
  obtain ⟨c6, t6, g6⟩ : ∃ c t, drN envRd l m6 s6 = (c, t) := ⟨_, _, rfl⟩
  have e6 : drL envRd l t5 = (c6, t6) := by unfold drL; rw [f6]; simpa using g6
  have HM6 : Hid (m6 ≤ 256 ∧ m6 = c6.length) := Lib.hid ⟨hm6, by have h9 := drN_len envRd l m6 s6; rw [g6] at h9; exact h9.symm⟩
  have HT6 := Lib.hid (fun w' b' (h : RRdr w' b' l t5.1 t5.2) => dC (s := t5) h (by have := HLL.out; omega) (by omega) (by omega) f6)
  have HN6 := Lib.hid g6
  clear f6 g6 hm6 hk6
  obtain ⟨k7, s7, f7⟩ : ∃ c t, rC 256 l t6 = (c, t) := ⟨_, _, rfl⟩
  obtain ⟨hm7, hc7⟩ := rC_le f7
  obtain ⟨m7, hk7⟩ : ∃ m, m = k7.toNat := ⟨_, rfl⟩
  rw [← hk7] at hm7 hc7
  subst hc7
  obtain ⟨c7, t7, g7⟩ : ∃ c t, drN staDd l m7 s7 = (c, t) := ⟨_, _, rfl⟩
  have e7 : drL staDd l t6 = (c7, t7) := by unfold drL; rw [f7]; simpa using g7
  have HM7 : Hid (m7 ≤ 256 ∧ m7 = c7.length) := Lib.hid ⟨hm7, by have h9 := drN_len staDd l m7 s7; rw [g7] at h9; exact h9.symm⟩
  have HT7 := Lib.hid (fun w' b' (h : RRdr w' b' l t6.1 t6.2) => dC (s := t6) h (by have := HLL.out; omega) (by omega) (by omega) f7)
  have HN7 := Lib.hid g7
  clear f7 g7 hm7 hk7
  obtain ⟨k8, s8, f8⟩ : ∃ c t, rC 256 l t7 = (c, t) := ⟨_, _, rfl⟩
  obtain ⟨hm8, hc8⟩ := rC_le f8
  obtain ⟨m8, hk8⟩ : ∃ m, m = k8.toNat := ⟨_, rfl⟩
  rw [← hk8] at hm8 hc8
  subst hc8
  obtain ⟨c8, t8, g8⟩ : ∃ c t, drN dRK l m8 s8 = (c, t) := ⟨_, _, rfl⟩
  have e8 : drL dRK l t7 = (c8, t8) := by unfold drL; rw [f8]; simpa using g8
  have HM8 : Hid (m8 ≤ 256 ∧ m8 = c8.length) := Lib.hid ⟨hm8, by have h9 := drN_len dRK l m8 s8; rw [g8] at h9; exact h9.symm⟩
  have HT8 := Lib.hid (fun w' b' (h : RRdr w' b' l t7.1 t7.2) => dC (s := t7) h (by have := HLL.out; omega) (by omega) (by omega) f8)
  have HN8 := Lib.hid g8
  clear f8 g8 hm8 hk8
  obtain ⟨c9, t9, e9⟩ : ∃ c t, rU l t8 = (c, t) := ⟨_, _, rfl⟩
  have HA : Hid (drdP l = (⟨c1, c2, c3, c4, c5, c6, c7, c8, c9⟩, t9)) := Lib.hid (by unfold drdP; simp only [e1, e2, e3, e4, e5, e6, e7, e8, e9])
  have H1 := Lib.hid (fun w' b' (h : RRdr w' b' l 0 0) => dU (s := (0, 0)) h (by have := HLL.out; omega) e1)
  have H2 := Lib.hid (fun w' b' (h : RRdr w' b' l t1.1 t1.2) => dU (s := t1) h (by have := HLL.out; omega) e2)
  have H3 := Lib.hid (fun w' b' (h : RRdr w' b' l t2.1 t2.2) => dU (s := t2) h (by have := HLL.out; omega) e3)
  have H4 := Lib.hid (fun w' b' (h : RRdr w' b' l t3.1 t3.2) => dI (s := t3) h (by have := HLL.out; omega) e4)
  have H5 := Lib.hid (fun w' b' (h : RRdr w' b' l t4.1 t4.2) => dsmall_any (s := t4) h (by have := HLL.out; omega) e5)
  have H9 := Lib.hid (fun w' b' (h : RRdr w' b' l t8.1 t8.2) => dU (s := t8) h (by have := HLL.out; omega) e9)
  clear e1 e2 e3 e4 e5 e6 e7 e8 e9
  go_upto_region 5 with (go_at_call 97; refine HC2.out.mono ?_; rintro e w2 ⟨pz, qz, rfl, hfs, hoh, hb⟩; have HB12 := Lib.hid hb; have HO2 := Lib.hid hfs; have HOH := Lib.hid hoh; clear hb hfs hoh)
  obtain ⟨B, hB⟩ : ∃ B, B = w2.heap.size := ⟨_, rfl⟩
  obtain ⟨w3, hw3⟩ : ∃ w3, w3 = w2.alloc (.cells #[.slice pz bn qz, .int .i64 0, .int .i64 0] 146) := ⟨_, rfl⟩
  have HR3 : Hid (RRdr w3 B l 0 0) := Lib.hid (by rw [hw3, hB]; exact drdr_new (by have h9 := HO2.out.rd; exact h9) HOH.out)
  have HB13 : Hid (Below w1.heap.size w1 w3) := Lib.hid (by rw [hw3]; exact below_and HB12.out (below_alloc _ _))
  have HBE : Hid (B = w2.heap.size) := Lib.hid hB
  rw [← hw3, ← hB]
  clear hw3 hB
  go_upto_region 6 with (go_at_call 98; refine (H1.out _ _ HR3.out).mono ?_; rintro e w4 ⟨rfl, hr, hf⟩; have HR4 := Lib.hid hr; have HF4 := Lib.hid hf; clear hr hf)
  obtain ⟨Y, hY⟩ : ∃ Y, Y = w4.heap.size := ⟨_, rfl⟩
  obtain ⟨v6, hv6⟩ : ∃ v6, v6 = w4.alloc (.cells #[.int .u64 c1, .int .u64 0, .int .u64 0, .int .i64 0, .int .i64 0, .slice none 0 0, .slice none 0 0, .slice none 0 0, .int .u64 0] 32) := ⟨_, rfl⟩
  obtain ⟨A, hA⟩ : ∃ A, A = v6.heap.size := ⟨_, rfl⟩
  have HG : Hid (Dw w B l v6 t1 R [.int .u64 0, .int .u64 0, .int .u64 0, .int .i64 0, .int .i64 0, .slice none 0 0, .slice none 0 0, .slice none 0 0, .int .u64 0] 32 Y [.int .u64 c1, .int .u64 0, .int .u64 0, .int .i64 0, .int .i64 0, .slice none 0 0, .slice none 0 0, .slice none 0 0, .int .u64 0] 32 [] A) := Lib.hid (by
    have h1 := HB1.out.size
    have h3 := RRdr.lt HR4.out
    have h4 := HF4.out.size
    have h5 := HR1.out.lt
    have h6 := HB12.out.size
    have h7 := HBE.out
    have h8 := HRR.out
    have h9 : A = Y + 1 := by rw [hA, hv6, hY]; simp
    have h10 : v6.heap.size = w4.heap.size + 1 := by rw [hv6]; simp
    refine ⟨?_, ?_, ?_, ?_, ⟨by omega, by omega, by omega, by omega⟩, by omega, fun r hr => by cases hr⟩
    · rw [hv6]; exact RRdr.kept HR4.out (below_alloc _ _)
    · rw [hv6]; exact ((HR1.out.kept HB13.out).frp HF4.out (fun e => by omega)).alloc _
    · rw [hv6, hY]; exact Blk.made w4 [.int .u64 c1, .int .u64 0, .int .u64 0, .int .i64 0, .int .i64 0, .slice none 0 0, .slice none 0 0, .slice none 0 0, .int .u64 0] _
    · rw [hv6]; exact ((below_and HB1.out HB13.out).trans (HF4.out.below (fun k hk => by omega) (by have := HB13.out.size; omega))).trans ((below_alloc w4 _).mono (by have := HB13.out.size; omega)))
  rw [← hv6, ← hY]
  clear hv6 hY hA HR3 HR4 HF4 HB12 HC2 HO2 HOH HBE HB13
  go_upto_region 7 with (go_at_call 98; refine (H2.out _ _ HG.out.rd).mono ?_; rintro e wa1 ⟨rfl, hr, hf⟩; have HZ := Lib.hid (HG.out.call hr hf); have fx1 := HZ.out.x.free 1; have yx1 := HZ.out.x.cell (j := 1) rfl; clear hr hf)
  clear HG
  refine at_hide (F := fun w' => Dw w B l w' t2 R [.int .u64 0, .int .u64 0, .int .u64 0, .int .i64 0, .int .i64 0, .slice none 0 0, .slice none 0 0, .slice none 0 0, .int .u64 0] 32 Y [.int .u64 c1, .int .u64 c2, .int .u64 0, .int .i64 0, .int .i64 0, .slice none 0 0, .slice none 0 0, .slice none 0 0, .int .u64 0] 32 [] A) (HZ.out.setY 1 (.int .u64 c2)) ?_
  intro wb1 hF
  have HG := Lib.hid hF
  clear hF HZ fx1 yx1
  go_upto_region 8 with (go_at_call 98; refine (H3.out _ _ HG.out.rd).mono ?_; rintro e wa2 ⟨rfl, hr, hf⟩; have HZ := Lib.hid (HG.out.call hr hf); have fx2 := HZ.out.x.free 2; have yx2 := HZ.out.x.cell (j := 2) rfl; clear hr hf)
  clear HG
  refine at_hide (F := fun w' => Dw w B l w' t3 R [.int .u64 0, .int .u64 0, .int .u64 0, .int .i64 0, .int .i64 0, .slice none 0 0, .slice none 0 0, .slice none 0 0, .int .u64 0] 32 Y [.int .u64 c1, .int .u64 c2, .int .u64 c3, .int .i64 0, .int .i64 0, .slice none 0 0, .slice none 0 0, .slice none 0 0, .int .u64 0] 32 [] A) (HZ.out.setY 2 (.int .u64 c3)) ?_
  intro wb2 hF
  have HG := Lib.hid hF
  clear hF HZ fx2 yx2
  go_upto_region 9 with (go_at_call 99; refine (H4.out _ _ HG.out.rd).mono ?_; rintro e wa3 ⟨rfl, hr, hf⟩; have HZ := Lib.hid (HG.out.call hr hf); have fx3 := HZ.out.x.free 3; have yx3 := HZ.out.x.cell (j := 3) rfl; clear hr hf)
  clear HG
  refine at_hide (F := fun w' => Dw w B l w' t4 R [.int .u64 0, .int .u64 0, .int .u64 0, .int .i64 0, .int .i64 0, .slice none 0 0, .slice none 0 0, .slice none 0 0, .int .u64 0] 32 Y [.int .u64 c1, .int .u64 c2, .int .u64 c3, .int .i64 c4, .int .i64 0, .slice none 0 0, .slice none 0 0, .slice none 0 0, .int .u64 0] 32 [] A) (HZ.out.setY 3 (.int .i64 c4)) ?_
  intro wb3 hF
  have HG := Lib.hid hF
  clear hF HZ fx3 yx3
  go_upto_region 10 with (go_at_call 100; refine (H5.out _ _ HG.out.rd).mono ?_; rintro e wa4 ⟨rfl, hr, hf⟩; have HZ := Lib.hid (HG.out.call hr hf); have fx4 := HZ.out.x.free 4; have yx4 := HZ.out.x.cell (j := 4) rfl; clear hr hf)
  clear HG
  refine at_hide (F := fun w' => Dw w B l w' t5 R [.int .u64 0, .int .u64 0, .int .u64 0, .int .i64 0, .int .i64 0, .slice none 0 0, .slice none 0 0, .slice none 0 0, .int .u64 0] 32 Y [.int .u64 c1, .int .u64 c2, .int .u64 c3, .int .i64 c4, .int .i64 c5, .slice none 0 0, .slice none 0 0, .slice none 0 0, .int .u64 0] 32 [] A) (HZ.out.setY 4 (.int .i64 c5)) ?_
  intro wb4 hF
  have HG := Lib.hid hF
  clear hF HZ fx4 yx4
  go_upto_region 12 with (go_at_call 101; refine (HT6.out _ _ HG.out.rd).mono ?_; rintro e wc6 ⟨rfl, hr, hf⟩; have HS := Lib.hid (HG.out.call hr hf); clear hr hf)
  clear HG HT6
  go_loopw [9] (fun vi wr => ∃ (i : Nat) (D : List El) (st : S) (q : Option Addr) (cc : Nat), vi = .int .i64 i ∧ i ≤ m6 ∧ Hid (drN envRd l i s6 = (D, st)) ∧ Hid (Dw w B l wr st R [.int .u64 0, .int .u64 0, .int .u64 0, .int .i64 0, .int .i64 0, .slice none 0 0, .slice none 0 0, .slice none 0 0, .int .u64 0] 32 Y [.int .u64 c1, .int .u64 c2, .int .u64 c3, .int .i64 c4, .int .i64 c5, .slice q i cc, .slice none 0 0, .slice none 0 0, .int .u64 0] 32 [] A ∧ wr.ownsRow A 66 5 (.slice q i cc) i (rwC envC D))) (fun vi _ => m6 - (intOf vi).toNat)
  case atStart => exact ⟨0, [], s6, none, 0, by go_num, Nat.zero_le _, Lib.hid rfl, Lib.hid ⟨HS.out, World.ownsRow_nil _ _ _ _⟩⟩
  case round =>
    clear HS
    obtain ⟨i, D, st, q, cc, rfl, him, HDN, HQ6⟩ := hrel
    by_cases hlt : i < m6
    rotate_left
    · obtain rfl : m6 = i := by omega
      obtain ⟨q6, hq6⟩ : ∃ x, x = q := ⟨_, rfl⟩
      obtain ⟨cc6, hcc6⟩ : ∃ x, x = cc := ⟨_, rfl⟩
      subst hq6 hcc6
      have hdn := HDN.out
      rw [HN6.out] at hdn
      obtain ⟨rfl, rfl⟩ := Prod.mk.inj hdn
      clear hdn HDN hlt him
      obtain ⟨A6, hA2⟩ : ∃ A, A = wr.heap.size := ⟨_, rfl⟩
      have HG : Hid (Dw w B l wr t6 R [.int .u64 0, .int .u64 0, .int .u64 0, .int .i64 0, .int .i64 0, .slice none 0 0, .slice none 0 0, .slice none 0 0, .int .u64 0] 32 Y [.int .u64 c1, .int .u64 c2, .int .u64 c3, .int .i64 c4, .int .i64 c5, .slice q6 m6 cc6, .slice none 0 0, .slice none 0 0, .int .u64 0] 32 [⟨66, 5, .slice q6 m6 cc6, m6, rwC envC c6⟩] A6) := Lib.hid (by rw [hA2]; exact HQ6.out.1.add HQ6.out.2)
      clear hA2 HQ6
      go_upto_region 18 with (go_at_call 101; refine (HT7.out _ _ HG.out.rd).mono ?_; rintro e wc8 ⟨rfl, hr, hf⟩; have HS := Lib.hid (HG.out.call hr hf); clear hr hf)
      clear HG HT7
      go_loopw [11] (fun vi wr => ∃ (i : Nat) (D : List El) (st : S) (q : Option Addr) (cc : Nat), vi = .int .i64 i ∧ i ≤ m7 ∧ Hid (drN staDd l i s7 = (D, st)) ∧ Hid (Dw w B l wr st R [.int .u64 0, .int .u64 0, .int .u64 0, .int .i64 0, .int .i64 0, .slice none 0 0, .slice none 0 0, .slice none 0 0, .int .u64 0] 32 Y [.int .u64 c1, .int .u64 c2, .int .u64 c3, .int .i64 c4, .int .i64 c5, .slice q6 m6 cc6, .slice q i cc, .slice none 0 0, .int .u64 0] 32 [⟨66, 5, .slice q6 m6 cc6, m6, rwC envC c6⟩] A6 ∧ wr.ownsRow A6 39 8 (.slice q i cc) i (rwC staC D))) (fun vi _ => m7 - (intOf vi).toNat)
      case atStart => exact ⟨0, [], s7, none, 0, by go_num, Nat.zero_le _, Lib.hid rfl, Lib.hid ⟨HS.out, World.ownsRow_nil _ _ _ _⟩⟩
      case round =>
        clear HS
        obtain ⟨i, D, st, q, cc, rfl, him, HDN, HQ7⟩ := hrel
        by_cases hlt : i < m7
        rotate_left
        · obtain rfl : m7 = i := by omega
          obtain ⟨q7, hq7⟩ : ∃ x, x = q := ⟨_, rfl⟩
          obtain ⟨cc7, hcc7⟩ : ∃ x, x = cc := ⟨_, rfl⟩
          subst hq7 hcc7
          have hdn := HDN.out
          rw [HN7.out] at hdn
          obtain ⟨rfl, rfl⟩ := Prod.mk.inj hdn
          clear hdn HDN hlt him
          obtain ⟨A7, hA2⟩ : ∃ A, A = wr.heap.size := ⟨_, rfl⟩
          have HG : Hid (Dw w B l wr t7 R [.int .u64 0, .int .u64 0, .int .u64 0, .int .i64 0, .int .i64 0, .slice none 0 0, .slice none 0 0, .slice none 0 0, .int .u64 0] 32 Y [.int .u64 c1, .int .u64 c2, .int .u64 c3, .int .i64 c4, .int .i64 c5, .slice q6 m6 cc6, .slice q7 m7 cc7, .slice none 0 0, .int .u64 0] 32 [⟨66, 5, .slice q6 m6 cc6, m6, rwC envC c6⟩, ⟨39, 8, .slice q7 m7 cc7, m7, rwC staC c7⟩] A7) := Lib.hid (by rw [hA2]; exact HQ7.out.1.add HQ7.out.2)
          clear hA2 HQ7
          go_upto_region 27 with (go_at_call 101; refine (HT8.out _ _ HG.out.rd).mono ?_; rintro e wc10 ⟨rfl, hr, hf⟩; have HS := Lib.hid (HG.out.call hr hf); clear hr hf)
          clear HG HT8
          go_loopw [13] (fun vi wr => ∃ (i : Nat) (D : List El) (st : S) (q : Option Addr) (cc : Nat), vi = .int .i64 i ∧ i ≤ m8 ∧ Hid (drN dRK l i s8 = (D, st)) ∧ Hid (Dw w B l wr st R [.int .u64 0, .int .u64 0, .int .u64 0, .int .i64 0, .int .i64 0, .slice none 0 0, .slice none 0 0, .slice none 0 0, .int .u64 0] 32 Y [.int .u64 c1, .int .u64 c2, .int .u64 c3, .int .i64 c4, .int .i64 c5, .slice q6 m6 cc6, .slice q7 m7 cc7, .slice q i cc, .int .u64 0] 32 [⟨66, 5, .slice q6 m6 cc6, m6, rwC envC c6⟩, ⟨39, 8, .slice q7 m7 cc7, m7, rwC staC c7⟩] A7 ∧ wr.ownsRow A7 75 3 (.slice q i cc) i (rwC stoC D))) (fun vi _ => m8 - (intOf vi).toNat)
          case atStart => exact ⟨0, [], s8, none, 0, by go_num, Nat.zero_le _, Lib.hid rfl, Lib.hid ⟨HS.out, World.ownsRow_nil _ _ _ _⟩⟩
          case round =>
            clear HS
            obtain ⟨i, D, st, q, cc, rfl, him, HDN, HQ8⟩ := hrel
            by_cases hlt : i < m8
            rotate_left
            · obtain rfl : m8 = i := by omega
              obtain ⟨q8, hq8⟩ : ∃ x, x = q := ⟨_, rfl⟩
              obtain ⟨cc8, hcc8⟩ : ∃ x, x = cc := ⟨_, rfl⟩
              subst hq8 hcc8
              have hdn := HDN.out
              rw [HN8.out] at hdn
              obtain ⟨rfl, rfl⟩ := Prod.mk.inj hdn
              clear hdn HDN hlt him
              obtain ⟨A8, hA2⟩ : ∃ A, A = wr.heap.size := ⟨_, rfl⟩
              have HG : Hid (Dw w B l wr t8 R [.int .u64 0, .int .u64 0, .int .u64 0, .int .i64 0, .int .i64 0, .slice none 0 0, .slice none 0 0, .slice none 0 0, .int .u64 0] 32 Y [.int .u64 c1, .int .u64 c2, .int .u64 c3, .int .i64 c4, .int .i64 c5, .slice q6 m6 cc6, .slice q7 m7 cc7, .slice q8 m8 cc8, .int .u64 0] 32 [⟨66, 5, .slice q6 m6 cc6, m6, rwC envC c6⟩, ⟨39, 8, .slice q7 m7 cc7, m7, rwC staC c7⟩, ⟨75, 3, .slice q8 m8 cc8, m8, rwC stoC c8⟩] A8) := Lib.hid (by rw [hA2]; exact HQ8.out.1.add HQ8.out.2)
              clear hA2 HQ8
              go_upto_region 33 with (go_at_call 98; refine (H9.out _ _ HG.out.rd).mono ?_; rintro e wa11 ⟨rfl, hr, hf⟩; have HZ := Lib.hid (HG.out.call hr hf); have fx8 := HZ.out.x.free 8; have yx8 := HZ.out.x.cell (j := 8) rfl; clear hr hf)
              clear HG
              refine at_hide (F := fun w' => Dw w B l w' t9 R [.int .u64 0, .int .u64 0, .int .u64 0, .int .i64 0, .int .i64 0, .slice none 0 0, .slice none 0 0, .slice none 0 0, .int .u64 0] 32 Y [.int .u64 c1, .int .u64 c2, .int .u64 c3, .int .i64 c4, .int .i64 c5, .slice q6 m6 cc6, .slice q7 m7 cc7, .slice q8 m8 cc8, .int .u64 c9] 32 [⟨66, 5, .slice q6 m6 cc6, m6, rwC envC c6⟩, ⟨39, 8, .slice q7 m7 cc7, m7, rwC staC c7⟩, ⟨75, 3, .slice q8 m8 cc8, m8, rwC stoC c8⟩] A8) (HZ.out.setY 8 (.int .u64 c9)) ?_
              intro wb11 hF
              have HG := Lib.hid hF
              clear hF HZ fx8 yx8
              obtain ⟨dn, hdn⟩ : ∃ dn, dn = Wire.done l t9.1 t9.2 := ⟨_, rfl⟩
              have HD := Lib.hid (fun w' (h : RRdr w' B l t9.1 t9.2) => ((rdone_any B l t9.1 t9.2 w' h).mono fun _ _ hm => rrf_of (v' := .int .i64 dn) (s' := (t9.1, dn)) (by rw [hdn]) (by rw [hdn]) hm))
              have HDNE := Lib.hid hdn
              clear hdn
              have HRD : Hid (readP b = if dn ≠ 0 ∨ checkP ⟨c1, c2, c3, c4, c5, c6, c7, c8, c9⟩ = false then (zeP, 5) else (⟨c1, c2, c3, c4, c5, c6, c7, c8, c9⟩, 0)) := Lib.hid (by rw [HDE.out]; unfold dreadP; rw [HOE.out, if_neg (by simp), HA.out, ← HDNE.out])
              have HE0 : Hid (5 ≠ 0) := Lib.hid (by decide)
              by_cases hd0 : dn = 0
              rotate_left
              · have HQ : Hid (readP b = (zeP, 5)) := Lib.hid (by rw [HRD.out, if_pos (.inl hd0)])
                have t0 : (dn != 0) = true := by simpa using hd0
                go_wp2_with (go_at_call 105; refine (HD.out _ HG.out.rd).mono ?_; rintro e w9 ⟨rfl, hr, hf⟩; have HG9 := Lib.hid (HG.out.call hr hf); have fr0 := HG9.out.r.free 0; have fr1 := HG9.out.r.free 1; have fr2 := HG9.out.r.free 2; have fr3 := HG9.out.r.free 3; have fr4 := HG9.out.r.free 4; have fr5 := HG9.out.r.free 5; have fr6 := HG9.out.r.free 6; have fr7 := HG9.out.r.free 7; have fr8 := HG9.out.r.free 8; have yr0 := HG9.out.r.cell (j := 0) rfl; have yr1 := HG9.out.r.cell (j := 1) rfl; have yr2 := HG9.out.r.cell (j := 2) rfl; have yr3 := HG9.out.r.cell (j := 3) rfl; have yr4 := HG9.out.r.cell (j := 4) rfl; have yr5 := HG9.out.r.cell (j := 5) rfl; have yr6 := HG9.out.r.cell (j := 6) rfl; have yr7 := HG9.out.r.cell (j := 7) rfl; have yr8 := HG9.out.r.cell (j := 8) rfl; clear hr hf)
                refine ret_cell rfl rfl rfl (Blk.set (Blk.set (Blk.set (Blk.set (Blk.set (Blk.set (Blk.set (Blk.set (Blk.set HG9.out.r 0 (.int .u64 0)) 1 (.int .u64 0)) 2 (.int .u64 0)) 3 (.int .i64 0)) 4 (.int .i64 0)) 5 (.slice none 0 0)) 6 (.slice none 0 0)) 7 (.slice none 0 0)) 8 (.int .u64 0)) Tryz.underlying32 rfl (by kernel_rfl) ?_
                unfold readPF
                rw [HQ.out]
                exact ⟨HG9.out.fr.trans ((frp_setX (frp_setX (frp_setX (frp_setX (frp_setX (frp_setX (frp_setX (frp_setX (frp_setX (Frp.refl (fun k => k = R) w9) 0 (.int .u64 0)) 1 (.int .u64 0)) 2 (.int .u64 0)) 3 (.int .i64 0)) 4 (.int .i64 0)) 5 (.slice none 0 0)) 6 (.slice none 0 0)) 7 (.slice none 0 0)) 8 (.int .u64 0)).below (fun k hk => by have := HG9.out.hb; omega) HG9.out.fr.size), fun _ => rfl, fun h9 => absurd h9 HE0.out⟩
              subst hd0
              cases hck : checkP ⟨c1, c2, c3, c4, c5, c6, c7, c8, c9⟩
              · have HC := Lib.hid (fun w' (h : PoW w' ⟨c1, c2, c3, c4, c5, c6, c7, c8, c9⟩ (.slice q6 m6 cc6) (.slice q7 m7 cc7) (.slice q8 m8 cc8)) => rcheckP_any ⟨c1, c2, c3, c4, c5, c6, c7, c8, c9⟩ (.slice q6 m6 cc6) (.slice q7 m7 cc7) (.slice q8 m8 cc8) w' h)
                rw [hck] at HC
                have HPWF : Hid (∀ w9, Dw w B l w9 (t9.1, 0) R [.int .u64 0, .int .u64 0, .int .u64 0, .int .i64 0, .int .i64 0, .slice none 0 0, .slice none 0 0, .slice none 0 0, .int .u64 0] 32 Y [.int .u64 c1, .int .u64 c2, .int .u64 c3, .int .i64 c4, .int .i64 c5, .slice q6 m6 cc6, .slice q7 m7 cc7, .slice q8 m8 cc8, .int .u64 c9] 32 [⟨66, 5, .slice q6 m6 cc6, m6, rwC envC c6⟩, ⟨39, 8, .slice q7 m7 cc7, m7, rwC staC c7⟩, ⟨75, 3, .slice q8 m8 cc8, m8, rwC stoC c8⟩] A8 → PoW w9 ⟨c1, c2, c3, c4, c5, c6, c7, c8, c9⟩ (.slice q6 m6 cc6) (.slice q7 m7 cc7) (.slice q8 m8 cc8)) := Lib.hid (fun w9 hG => (by
                  have h9 := drdP_w (w := w9) (l := l) (k := .slice q6 m6 cc6) (t := .slice q7 m7 cc7) (s := .slice q8 m8 cc8) (by have := HLL.out; omega) (by rw [HA.out]; show Row _ _ _ c6.length _; rw [← HM6.out.2]; exact hG.row (rows := [⟨66, 5, .slice q6 m6 cc6, m6, rwC envC c6⟩, ⟨39, 8, .slice q7 m7 cc7, m7, rwC staC c7⟩, ⟨75, 3, .slice q8 m8 cc8, m8, rwC stoC c8⟩]) (T := 66) (by simp) (rwC_one (fun u => by intro v hv; simp at hv; rcases hv with rfl | rfl | rfl | rfl | rfl <;> rfl) _)) (by rw [HA.out]; show Row _ _ _ c7.length _; rw [← HM7.out.2]; exact hG.row (rows := [⟨66, 5, .slice q6 m6 cc6, m6, rwC envC c6⟩, ⟨39, 8, .slice q7 m7 cc7, m7, rwC staC c7⟩, ⟨75, 3, .slice q8 m8 cc8, m8, rwC stoC c8⟩]) (T := 39) (by simp) (rwC_one (fun u => by intro v hv; simp at hv; rcases hv with rfl | rfl | rfl | rfl | rfl | rfl | rfl | rfl <;> rfl) _)) (by rw [HA.out]; show Row _ _ _ c8.length _; rw [← HM8.out.2]; exact hG.row (rows := [⟨66, 5, .slice q6 m6 cc6, m6, rwC envC c6⟩, ⟨39, 8, .slice q7 m7 cc7, m7, rwC staC c7⟩, ⟨75, 3, .slice q8 m8 cc8, m8, rwC stoC c8⟩]) (T := 75) (by simp) (rwC_one (fun u => by intro v hv; simp at hv; rcases hv with rfl | rfl | rfl <;> rfl) _))
                  rw [HA.out] at h9
                  exact h9))
                have HQ : Hid (readP b = (zeP, 5)) := Lib.hid (by rw [HRD.out, hck]; simp)
                clear hck HRD
                have t2 : ((2 : Int) != 0) = true := rfl
                go_wp2_with (first | (go_at_call 12; refine (HC.out w9 (HPWF.out _ HG9.out)).mono ?_; rintro e wz ⟨rfl, hb⟩; have HGZ := Lib.hid (HG9.out.kept hb); have fr0 := HGZ.out.r.free 0; have fr1 := HGZ.out.r.free 1; have fr2 := HGZ.out.r.free 2; have fr3 := HGZ.out.r.free 3; have fr4 := HGZ.out.r.free 4; have fr5 := HGZ.out.r.free 5; have fr6 := HGZ.out.r.free 6; have fr7 := HGZ.out.r.free 7; have fr8 := HGZ.out.r.free 8; have yr0 := HGZ.out.r.cell (j := 0) rfl; have yr1 := HGZ.out.r.cell (j := 1) rfl; have yr2 := HGZ.out.r.cell (j := 2) rfl; have yr3 := HGZ.out.r.cell (j := 3) rfl; have yr4 := HGZ.out.r.cell (j := 4) rfl; have yr5 := HGZ.out.r.cell (j := 5) rfl; have yr6 := HGZ.out.r.cell (j := 6) rfl; have yr7 := HGZ.out.r.cell (j := 7) rfl; have yr8 := HGZ.out.r.cell (j := 8) rfl; have fz0 := HGZ.out.x.free 0; have fz1 := HGZ.out.x.free 1; have fz2 := HGZ.out.x.free 2; have fz3 := HGZ.out.x.free 3; have fz4 := HGZ.out.x.free 4; have fz5 := HGZ.out.x.free 5; have fz6 := HGZ.out.x.free 6; have fz7 := HGZ.out.x.free 7; have fz8 := HGZ.out.x.free 8; have yz0 := HGZ.out.x.cell (j := 0) rfl; have yz1 := HGZ.out.x.cell (j := 1) rfl; have yz2 := HGZ.out.x.cell (j := 2) rfl; have yz3 := HGZ.out.x.cell (j := 3) rfl; have yz4 := HGZ.out.x.cell (j := 4) rfl; have yz5 := HGZ.out.x.cell (j := 5) rfl; have yz6 := HGZ.out.x.cell (j := 6) rfl; have yz7 := HGZ.out.x.cell (j := 7) rfl; have yz8 := HGZ.out.x.cell (j := 8) rfl; clear hb) | (go_at_call 105; refine (HD.out _ HG.out.rd).mono ?_; rintro e w9 ⟨rfl, hr, hf⟩; have HG9 := Lib.hid (HG.out.call hr hf); have fx0 := HG9.out.x.free 0; have fx1 := HG9.out.x.free 1; have fx2 := HG9.out.x.free 2; have fx3 := HG9.out.x.free 3; have fx4 := HG9.out.x.free 4; have fx5 := HG9.out.x.free 5; have fx6 := HG9.out.x.free 6; have fx7 := HG9.out.x.free 7; have fx8 := HG9.out.x.free 8; have yx0 := HG9.out.x.cell (j := 0) rfl; have yx1 := HG9.out.x.cell (j := 1) rfl; have yx2 := HG9.out.x.cell (j := 2) rfl; have yx3 := HG9.out.x.cell (j := 3) rfl; have yx4 := HG9.out.x.cell (j := 4) rfl; have yx5 := HG9.out.x.cell (j := 5) rfl; have yx6 := HG9.out.x.cell (j := 6) rfl; have yx7 := HG9.out.x.cell (j := 7) rfl; have yx8 := HG9.out.x.cell (j := 8) rfl; clear hr hf))
                refine ret_cell rfl rfl rfl (Blk.set (Blk.set (Blk.set (Blk.set (Blk.set (Blk.set (Blk.set (Blk.set (Blk.set HGZ.out.r 0 (.int .u64 0)) 1 (.int .u64 0)) 2 (.int .u64 0)) 3 (.int .i64 0)) 4 (.int .i64 0)) 5 (.slice none 0 0)) 6 (.slice none 0 0)) 7 (.slice none 0 0)) 8 (.int .u64 0)) Tryz.underlying32 rfl (by kernel_rfl) ?_
                unfold readPF
                rw [HQ.out]
                exact ⟨HGZ.out.fr.trans ((frp_setX (frp_setX (frp_setX (frp_setX (frp_setX (frp_setX (frp_setX (frp_setX (frp_setX (Frp.refl (fun k => k = R) wz) 0 (.int .u64 0)) 1 (.int .u64 0)) 2 (.int .u64 0)) 3 (.int .i64 0)) 4 (.int .i64 0)) 5 (.slice none 0 0)) 6 (.slice none 0 0)) 7 (.slice none 0 0)) 8 (.int .u64 0)).below (fun k hk => by have := HGZ.out.hb; omega) HGZ.out.fr.size), fun _ => rfl, fun h9 => absurd h9 HE0.out⟩
              · have HC := Lib.hid (fun w' (h : PoW w' ⟨c1, c2, c3, c4, c5, c6, c7, c8, c9⟩ (.slice q6 m6 cc6) (.slice q7 m7 cc7) (.slice q8 m8 cc8)) => rcheckP_any ⟨c1, c2, c3, c4, c5, c6, c7, c8, c9⟩ (.slice q6 m6 cc6) (.slice q7 m7 cc7) (.slice q8 m8 cc8) w' h)
                rw [hck] at HC
                have HPWF : Hid (∀ w9, Dw w B l w9 (t9.1, 0) R [.int .u64 0, .int .u64 0, .int .u64 0, .int .i64 0, .int .i64 0, .slice none 0 0, .slice none 0 0, .slice none 0 0, .int .u64 0] 32 Y [.int .u64 c1, .int .u64 c2, .int .u64 c3, .int .i64 c4, .int .i64 c5, .slice q6 m6 cc6, .slice q7 m7 cc7, .slice q8 m8 cc8, .int .u64 c9] 32 [⟨66, 5, .slice q6 m6 cc6, m6, rwC envC c6⟩, ⟨39, 8, .slice q7 m7 cc7, m7, rwC staC c7⟩, ⟨75, 3, .slice q8 m8 cc8, m8, rwC stoC c8⟩] A8 → PoW w9 ⟨c1, c2, c3, c4, c5, c6, c7, c8, c9⟩ (.slice q6 m6 cc6) (.slice q7 m7 cc7) (.slice q8 m8 cc8)) := Lib.hid (fun w9 hG => (by
                  have h9 := drdP_w (w := w9) (l := l) (k := .slice q6 m6 cc6) (t := .slice q7 m7 cc7) (s := .slice q8 m8 cc8) (by have := HLL.out; omega) (by rw [HA.out]; show Row _ _ _ c6.length _; rw [← HM6.out.2]; exact hG.row (rows := [⟨66, 5, .slice q6 m6 cc6, m6, rwC envC c6⟩, ⟨39, 8, .slice q7 m7 cc7, m7, rwC staC c7⟩, ⟨75, 3, .slice q8 m8 cc8, m8, rwC stoC c8⟩]) (T := 66) (by simp) (rwC_one (fun u => by intro v hv; simp at hv; rcases hv with rfl | rfl | rfl | rfl | rfl <;> rfl) _)) (by rw [HA.out]; show Row _ _ _ c7.length _; rw [← HM7.out.2]; exact hG.row (rows := [⟨66, 5, .slice q6 m6 cc6, m6, rwC envC c6⟩, ⟨39, 8, .slice q7 m7 cc7, m7, rwC staC c7⟩, ⟨75, 3, .slice q8 m8 cc8, m8, rwC stoC c8⟩]) (T := 39) (by simp) (rwC_one (fun u => by intro v hv; simp at hv; rcases hv with rfl | rfl | rfl | rfl | rfl | rfl | rfl | rfl <;> rfl) _)) (by rw [HA.out]; show Row _ _ _ c8.length _; rw [← HM8.out.2]; exact hG.row (rows := [⟨66, 5, .slice q6 m6 cc6, m6, rwC envC c6⟩, ⟨39, 8, .slice q7 m7 cc7, m7, rwC staC c7⟩, ⟨75, 3, .slice q8 m8 cc8, m8, rwC stoC c8⟩]) (T := 75) (by simp) (rwC_one (fun u => by intro v hv; simp at hv; rcases hv with rfl | rfl | rfl <;> rfl) _))
                  rw [HA.out] at h9
                  exact h9))
                have HQ : Hid (readP b = (⟨c1, c2, c3, c4, c5, c6, c7, c8, c9⟩, 0)) := Lib.hid (by rw [HRD.out, hck]; simp)
                clear hck HRD
                go_wp2_with (first | (go_at_call 12; refine (HC.out w9 (HPWF.out _ HG9.out)).mono ?_; rintro e wz ⟨rfl, hb⟩; have HGZ := Lib.hid (HG9.out.kept hb); have fr0 := HGZ.out.r.free 0; have fr1 := HGZ.out.r.free 1; have fr2 := HGZ.out.r.free 2; have fr3 := HGZ.out.r.free 3; have fr4 := HGZ.out.r.free 4; have fr5 := HGZ.out.r.free 5; have fr6 := HGZ.out.r.free 6; have fr7 := HGZ.out.r.free 7; have fr8 := HGZ.out.r.free 8; have yr0 := HGZ.out.r.cell (j := 0) rfl; have yr1 := HGZ.out.r.cell (j := 1) rfl; have yr2 := HGZ.out.r.cell (j := 2) rfl; have yr3 := HGZ.out.r.cell (j := 3) rfl; have yr4 := HGZ.out.r.cell (j := 4) rfl; have yr5 := HGZ.out.r.cell (j := 5) rfl; have yr6 := HGZ.out.r.cell (j := 6) rfl; have yr7 := HGZ.out.r.cell (j := 7) rfl; have yr8 := HGZ.out.r.cell (j := 8) rfl; have fz0 := HGZ.out.x.free 0; have fz1 := HGZ.out.x.free 1; have fz2 := HGZ.out.x.free 2; have fz3 := HGZ.out.x.free 3; have fz4 := HGZ.out.x.free 4; have fz5 := HGZ.out.x.free 5; have fz6 := HGZ.out.x.free 6; have fz7 := HGZ.out.x.free 7; have fz8 := HGZ.out.x.free 8; have yz0 := HGZ.out.x.cell (j := 0) rfl; have yz1 := HGZ.out.x.cell (j := 1) rfl; have yz2 := HGZ.out.x.cell (j := 2) rfl; have yz3 := HGZ.out.x.cell (j := 3) rfl; have yz4 := HGZ.out.x.cell (j := 4) rfl; have yz5 := HGZ.out.x.cell (j := 5) rfl; have yz6 := HGZ.out.x.cell (j := 6) rfl; have yz7 := HGZ.out.x.cell (j := 7) rfl; have yz8 := HGZ.out.x.cell (j := 8) rfl; clear hb) | (go_at_call 105; refine (HD.out _ HG.out.rd).mono ?_; rintro e w9 ⟨rfl, hr, hf⟩; have HG9 := Lib.hid (HG.out.call hr hf); have fx0 := HG9.out.x.free 0; have fx1 := HG9.out.x.free 1; have fx2 := HG9.out.x.free 2; have fx3 := HG9.out.x.free 3; have fx4 := HG9.out.x.free 4; have fx5 := HG9.out.x.free 5; have fx6 := HG9.out.x.free 6; have fx7 := HG9.out.x.free 7; have fx8 := HG9.out.x.free 8; have yx0 := HG9.out.x.cell (j := 0) rfl; have yx1 := HG9.out.x.cell (j := 1) rfl; have yx2 := HG9.out.x.cell (j := 2) rfl; have yx3 := HG9.out.x.cell (j := 3) rfl; have yx4 := HG9.out.x.cell (j := 4) rfl; have yx5 := HG9.out.x.cell (j := 5) rfl; have yx6 := HG9.out.x.cell (j := 6) rfl; have yx7 := HG9.out.x.cell (j := 7) rfl; have yx8 := HG9.out.x.cell (j := 8) rfl; clear hr hf))
                refine ret_cell rfl rfl rfl (Blk.set (Blk.set (Blk.set (Blk.set (Blk.set (Blk.set (Blk.set (Blk.set (Blk.set HGZ.out.r 0 (.int .u64 c1)) 1 (.int .u64 c2)) 2 (.int .u64 c3)) 3 (.int .i64 c4)) 4 (.int .i64 c5)) 5 (.slice q6 m6 cc6)) 6 (.slice q7 m7 cc7)) 7 (.slice q8 m8 cc8)) 8 (.int .u64 c9)) Tryz.underlying32 rfl (by kernel_rfl) ?_
                unfold readPF
                rw [HQ.out]
                refine ⟨HGZ.out.fr.trans ((frp_setX (frp_setX (frp_setX (frp_setX (frp_setX (frp_setX (frp_setX (frp_setX (frp_setX (Frp.refl (fun k => k = R) wz) 0 (.int .u64 c1)) 1 (.int .u64 c2)) 2 (.int .u64 c3)) 3 (.int .i64 c4)) 4 (.int .i64 c5)) 5 (.slice q6 m6 cc6)) 6 (.slice q7 m7 cc7)) 7 (.slice q8 m8 cc8)) 8 (.int .u64 c9)).below (fun k hk => by have := HGZ.out.hb; omega) HGZ.out.fr.size), fun h9 => absurd rfl h9, fun _ => ⟨_, _, _, rfl, ?_⟩⟩
                exact (by
                  have h9 := drdP_w (w := _) (l := l) (k := .slice q6 m6 cc6) (t := .slice q7 m7 cc7) (s := .slice q8 m8 cc8) (by have := HLL.out; omega) (by rw [HA.out]; show Row _ _ _ c6.length _; rw [← HM6.out.2]; exact HGZ.out.rowR (rows := [⟨66, 5, .slice q6 m6 cc6, m6, rwC envC c6⟩, ⟨39, 8, .slice q7 m7 cc7, m7, rwC staC c7⟩, ⟨75, 3, .slice q8 m8 cc8, m8, rwC stoC c8⟩]) (T := 66) (by simp) (rwC_one (fun u => by intro v hv; simp at hv; rcases hv with rfl | rfl | rfl | rfl | rfl <;> rfl) _) (frp_setX (frp_setX (frp_setX (frp_setX (frp_setX (frp_setX (frp_setX (frp_setX (frp_setX (Frp.refl (fun k => k = R) wz) 0 (.int .u64 c1)) 1 (.int .u64 c2)) 2 (.int .u64 c3)) 3 (.int .i64 c4)) 4 (.int .i64 c5)) 5 (.slice q6 m6 cc6)) 6 (.slice q7 m7 cc7)) 7 (.slice q8 m8 cc8)) 8 (.int .u64 c9))) (by rw [HA.out]; show Row _ _ _ c7.length _; rw [← HM7.out.2]; exact HGZ.out.rowR (rows := [⟨66, 5, .slice q6 m6 cc6, m6, rwC envC c6⟩, ⟨39, 8, .slice q7 m7 cc7, m7, rwC staC c7⟩, ⟨75, 3, .slice q8 m8 cc8, m8, rwC stoC c8⟩]) (T := 39) (by simp) (rwC_one (fun u => by intro v hv; simp at hv; rcases hv with rfl | rfl | rfl | rfl | rfl | rfl | rfl | rfl <;> rfl) _) (frp_setX (frp_setX (frp_setX (frp_setX (frp_setX (frp_setX (frp_setX (frp_setX (frp_setX (Frp.refl (fun k => k = R) wz) 0 (.int .u64 c1)) 1 (.int .u64 c2)) 2 (.int .u64 c3)) 3 (.int .i64 c4)) 4 (.int .i64 c5)) 5 (.slice q6 m6 cc6)) 6 (.slice q7 m7 cc7)) 7 (.slice q8 m8 cc8)) 8 (.int .u64 c9))) (by rw [HA.out]; show Row _ _ _ c8.length _; rw [← HM8.out.2]; exact HGZ.out.rowR (rows := [⟨66, 5, .slice q6 m6 cc6, m6, rwC envC c6⟩, ⟨39, 8, .slice q7 m7 cc7, m7, rwC staC c7⟩, ⟨75, 3, .slice q8 m8 cc8, m8, rwC stoC c8⟩]) (T := 75) (by simp) (rwC_one (fun u => by intro v hv; simp at hv; rcases hv with rfl | rfl | rfl <;> rfl) _) (frp_setX (frp_setX (frp_setX (frp_setX (frp_setX (frp_setX (frp_setX (frp_setX (frp_setX (Frp.refl (fun k => k = R) wz) 0 (.int .u64 c1)) 1 (.int .u64 c2)) 2 (.int .u64 c3)) 3 (.int .i64 c4)) 4 (.int .i64 c5)) 5 (.slice q6 m6 cc6)) 6 (.slice q7 m7 cc7)) 7 (.slice q8 m8 cc8)) 8 (.int .u64 c9)))
                  rw [HA.out] at h9
                  exact h9)
            have i3 : i ≤ 256 := by have := HM8.out.1; omega
            have i0 : (0 : Int) ≤ (i : Int) := by omega
            have i1 : (i : Int) < (m8 : Int) := by omega
            have HD0 := Lib.hid HQ8.out.1
            have HO0 := Lib.hid HQ8.out.2
            clear HQ8
            obtain ⟨ej, ei, e1_, g1⟩ : ∃ j i t, dK l st = ((j, i), t) := ⟨_, _, _, rfl⟩
            obtain ⟨en, e2_, g2⟩ : ∃ c t, rU l e1_ = (c, t) := ⟨_, _, rfl⟩
            have HXE : Hid (dRK l st = ((⟨ej, ei, en, Am.zero, [], 0, 0⟩ : El), e2_)) := Lib.hid (by unfold dRK; simp only [g1, g2])
            have HG1 := Lib.hid g1
            have HG2 := Lib.hid g2
            clear g1 g2
            go_upto_region 30 with (go_at_call 104; refine (dtask_any (s := st) HD0.out.rd (by have := HLL.out; omega) HG1.out).mono ?_; rintro e wt10 ⟨rfl, hr, hf⟩; have HD1 := Lib.hid (HD0.out.call hr hf); have HO1 := Lib.hid (own_frp HO0.out hf (fun g hg e => by have := own_lo HO0.out hg; have := HD0.out.hb; omega)); clear hr hf)
            clear HD0 HO0
            obtain ⟨Z, hZ⟩ : ∃ Z, Z = wt10.heap.size := ⟨_, rfl⟩
            obtain ⟨wz10, hwz⟩ : ∃ x, x = wt10.alloc (.cells #[.string (bs ej), .int .i64 ei, .int .u64 0] 75) := ⟨_, rfl⟩
            have HE : Hid (De w B l wz10 e1_ R [.int .u64 0, .int .u64 0, .int .u64 0, .int .i64 0, .int .i64 0, .slice none 0 0, .slice none 0 0, .slice none 0 0, .int .u64 0] 32 Y [.int .u64 c1, .int .u64 c2, .int .u64 c3, .int .i64 c4, .int .i64 c5, .slice q6 m6 cc6, .slice q7 m7 cc7, .slice q i cc, .int .u64 0] 32 [⟨66, 5, .slice q6 m6 cc6, m6, rwC envC c6⟩, ⟨39, 8, .slice q7 m7 cc7, m7, rwC staC c7⟩] A7 75 3 (.slice q i cc) i (rwC stoC D) Z [.string (bs ej), .int .i64 ei, .int .u64 0] 75) := Lib.hid (by rw [hwz, hZ]; exact de_new (ZC := [.string (bs ej), .int .i64 ei, .int .u64 0]) HD1.out HO1.out)
            rw [← hwz, ← hZ]
            clear hwz hZ HD1 HO1
            go_upto_region 31 with (go_at_call 98; refine (dU (s := e1_) HE.out.1.rd (by have := HLL.out; omega) HG2.out).mono ?_; rintro e wt10_1 ⟨rfl, hr, hf⟩; have HEc := Lib.hid (HE.out.call hr hf); have fz2 := HEc.out.2.z.free 2; have yz2 := HEc.out.2.z.cell (j := 2) rfl; clear hr hf)
            clear HE
            refine at_hide (F := fun w' => De w B l w' e2_ R [.int .u64 0, .int .u64 0, .int .u64 0, .int .i64 0, .int .i64 0, .slice none 0 0, .slice none 0 0, .slice none 0 0, .int .u64 0] 32 Y [.int .u64 c1, .int .u64 c2, .int .u64 c3, .int .i64 c4, .int .i64 c5, .slice q6 m6 cc6, .slice q7 m7 cc7, .slice q i cc, .int .u64 0] 32 [⟨66, 5, .slice q6 m6 cc6, m6, rwC envC c6⟩, ⟨39, 8, .slice q7 m7 cc7, m7, rwC staC c7⟩] A7 75 3 (.slice q i cc) i (rwC stoC D) Z [.string (bs ej), .int .i64 ei, .int .u64 en] 75) (De.set HEc.out 2 (.int .u64 en)) ?_
            intro wz10_1 hF
            have HE := Lib.hid hF
            clear hF HEc fz2 yz2
            have yz0 := HE.out.2.z.cell (j := 0) rfl
            have yz1 := HE.out.2.z.cell (j := 1) rfl
            have yz2 := HE.out.2.z.cell (j := 2) rfl
            have yY := HE.out.1.x.cell (j := 7) rfl
            go_wp2_with (at_builtin; refine wpList_app _ rfl _ _ 30 30 rfl A7 75 ixsto (.agg #[.string ⟨#[]⟩, .int .i64 0, .int .u64 0]) 3 32 Tryz.underlying30 histo hz0sto hz1sto hz2sto rfl _ i (rwC stoC D) rfl (HE.out.2.own.alloc _) _ 1 [.string (bs ej), .int .i64 ei, .int .u64 en] rfl (src_block Tryz.underlying30 _ _ ([.string (bs ej), .int .i64 ei, .int .u64 en] : List Value).toArray (Blk.made _ ([.string (bs ej), .int .i64 ei, .int .u64 en] : List Value) _) rfl (by intro u hu; simp at hu; rcases hu with rfl | rfl | rfl <;> rfl)) (by unfold maxLen; omega) (by omega) (by have := HE.out.1.sz; simp; omega) ?_; intro v6_ w6_ ho hg hnil; have HDa := Lib.hid (HE.out.1.append HE.out.2.own hg); obtain ⟨q6, c6_, rfl, -, -⟩ := own_slice ho; have HOa := Lib.hid ho; have fY := HDa.out.x.free 7; have yY2 := HDa.out.x.cell (j := 7) rfl; clear ho hg hnil)
            go_roundw
            case rel => exact ⟨i + 1, D ++ [⟨ej, ei, en, Am.zero, [], 0, 0⟩], e2_, q6, c6_, by go_num, hlt, Lib.hid (by rw [drN_snoc, HDN.out]; simp only [HXE.out]), Lib.hid ⟨HDa.out.setY 7 _, (by have h9 := own_setY HDa.out HOa.out 7 (.slice q6 (i + 1) c6_); rw [rwC_snoc]; exact h9)⟩⟩
            case measure => simp [intOf]; omega
        have i3 : i ≤ 256 := by have := HM7.out.1; omega
        have i0 : (0 : Int) ≤ (i : Int) := by omega
        have i1 : (i : Int) < (m7 : Int) := by omega
        have HD0 := Lib.hid HQ7.out.1
        have HO0 := Lib.hid HQ7.out.2
        clear HQ7
        obtain ⟨ej, ei, e1_, g1⟩ : ∃ j i t, dK l st = ((j, i), t) := ⟨_, _, _, rfl⟩
        obtain ⟨en, e2_, g2⟩ : ∃ c t, rU l e1_ = (c, t) := ⟨_, _, rfl⟩
        obtain ⟨ea, e3_, g3⟩ : ∃ c t, rA l e2_ = (c, t) := ⟨_, _, rfl⟩
        obtain ⟨et, e4_, g4⟩ : ∃ c t, rT l e3_ = (c, t) := ⟨_, _, rfl⟩
        have HXE : Hid (staDd l st = ((⟨ej, ei, en, ea, et, 0, 0⟩ : El), e4_)) := Lib.hid (by unfold staDd; unfold dRK; simp only [g1, g2, g3, g4])
        have HG1 := Lib.hid g1
        have HG2 := Lib.hid g2
        have HG3 := Lib.hid g3
        have HG4 := Lib.hid g4
        clear g1 g2 g3 g4
        go_upto_region 21 with (go_at_call 104; refine (dtask_any (s := st) HD0.out.rd (by have := HLL.out; omega) HG1.out).mono ?_; rintro e wt8 ⟨rfl, hr, hf⟩; have HD1 := Lib.hid (HD0.out.call hr hf); have HO1 := Lib.hid (own_frp HO0.out hf (fun g hg e => by have := own_lo HO0.out hg; have := HD0.out.hb; omega)); clear hr hf)
        clear HD0 HO0
        obtain ⟨Z, hZ⟩ : ∃ Z, Z = wt8.heap.size := ⟨_, rfl⟩
        obtain ⟨wz8, hwz⟩ : ∃ x, x = wt8.alloc (.cells #[.string (bs ej), .int .i64 ei, .int .u64 0, .int .i64 0, .int .i64 0, .int .i64 0, .int .i64 0, .string ⟨#[]⟩] 39) := ⟨_, rfl⟩
        have HE : Hid (De w B l wz8 e1_ R [.int .u64 0, .int .u64 0, .int .u64 0, .int .i64 0, .int .i64 0, .slice none 0 0, .slice none 0 0, .slice none 0 0, .int .u64 0] 32 Y [.int .u64 c1, .int .u64 c2, .int .u64 c3, .int .i64 c4, .int .i64 c5, .slice q6 m6 cc6, .slice q i cc, .slice none 0 0, .int .u64 0] 32 [⟨66, 5, .slice q6 m6 cc6, m6, rwC envC c6⟩] A6 39 8 (.slice q i cc) i (rwC staC D) Z [.string (bs ej), .int .i64 ei, .int .u64 0, .int .i64 0, .int .i64 0, .int .i64 0, .int .i64 0, .string ⟨#[]⟩] 39) := Lib.hid (by rw [hwz, hZ]; exact de_new (ZC := [.string (bs ej), .int .i64 ei, .int .u64 0, .int .i64 0, .int .i64 0, .int .i64 0, .int .i64 0, .string ⟨#[]⟩]) HD1.out HO1.out)
        rw [← hwz, ← hZ]
        clear hwz hZ HD1 HO1
        go_upto_region 22 with (go_at_call 98; refine (dU (s := e1_) HE.out.1.rd (by have := HLL.out; omega) HG2.out).mono ?_; rintro e wt8_1 ⟨rfl, hr, hf⟩; have HEc := Lib.hid (HE.out.call hr hf); have fz2 := HEc.out.2.z.free 2; have yz2 := HEc.out.2.z.cell (j := 2) rfl; clear hr hf)
        clear HE
        refine at_hide (F := fun w' => De w B l w' e2_ R [.int .u64 0, .int .u64 0, .int .u64 0, .int .i64 0, .int .i64 0, .slice none 0 0, .slice none 0 0, .slice none 0 0, .int .u64 0] 32 Y [.int .u64 c1, .int .u64 c2, .int .u64 c3, .int .i64 c4, .int .i64 c5, .slice q6 m6 cc6, .slice q i cc, .slice none 0 0, .int .u64 0] 32 [⟨66, 5, .slice q6 m6 cc6, m6, rwC envC c6⟩] A6 39 8 (.slice q i cc) i (rwC staC D) Z [.string (bs ej), .int .i64 ei, .int .u64 en, .int .i64 0, .int .i64 0, .int .i64 0, .int .i64 0, .string ⟨#[]⟩] 39) (De.set HEc.out 2 (.int .u64 en)) ?_
        intro wz8_1 hF
        have HE := Lib.hid hF
        clear hF HEc fz2 yz2
        go_upto_region 23 with (go_at_call 103; refine (damounts_any (s := e2_) HE.out.1.rd (by have := HLL.out; omega) HG3.out).mono ?_; rintro e wt8_2 ⟨rfl, hr, hf⟩; have HEc := Lib.hid (HE.out.call hr hf); have fz3 := HEc.out.2.z.free 3; have yz3 := HEc.out.2.z.cell (j := 3) rfl; have fz4 := HEc.out.2.z.free 4; have yz4 := HEc.out.2.z.cell (j := 4) rfl; have fz5 := HEc.out.2.z.free 5; have yz5 := HEc.out.2.z.cell (j := 5) rfl; have fz6 := HEc.out.2.z.free 6; have yz6 := HEc.out.2.z.cell (j := 6) rfl; clear hr hf)
        clear HE
        refine at_hide (F := fun w' => De w B l w' e3_ R [.int .u64 0, .int .u64 0, .int .u64 0, .int .i64 0, .int .i64 0, .slice none 0 0, .slice none 0 0, .slice none 0 0, .int .u64 0] 32 Y [.int .u64 c1, .int .u64 c2, .int .u64 c3, .int .i64 c4, .int .i64 c5, .slice q6 m6 cc6, .slice q i cc, .slice none 0 0, .int .u64 0] 32 [⟨66, 5, .slice q6 m6 cc6, m6, rwC envC c6⟩] A6 39 8 (.slice q i cc) i (rwC staC D) Z [.string (bs ej), .int .i64 ei, .int .u64 en, .int .i64 ea.c, .int .i64 ea.r, .int .i64 ea.d, .int .i64 ea.p, .string ⟨#[]⟩] 39) (De.set (De.set (De.set (De.set HEc.out 3 (.int .i64 ea.c)) 4 (.int .i64 ea.r)) 5 (.int .i64 ea.d)) 6 (.int .i64 ea.p)) ?_
        intro wz8_2 hF
        have HE := Lib.hid hF
        clear hF HEc fz3 yz3 fz4 yz4 fz5 yz5 fz6 yz6
        go_upto_region 24 with (go_at_call 102; refine (dT (s := e3_) HE.out.1.rd (by have := HLL.out; omega) HG4.out).mono ?_; rintro e wt8_3 ⟨rfl, hr, hf⟩; have HEc := Lib.hid (HE.out.call hr hf); have fz7 := HEc.out.2.z.free 7; have yz7 := HEc.out.2.z.cell (j := 7) rfl; clear hr hf)
        clear HE
        refine at_hide (F := fun w' => De w B l w' e4_ R [.int .u64 0, .int .u64 0, .int .u64 0, .int .i64 0, .int .i64 0, .slice none 0 0, .slice none 0 0, .slice none 0 0, .int .u64 0] 32 Y [.int .u64 c1, .int .u64 c2, .int .u64 c3, .int .i64 c4, .int .i64 c5, .slice q6 m6 cc6, .slice q i cc, .slice none 0 0, .int .u64 0] 32 [⟨66, 5, .slice q6 m6 cc6, m6, rwC envC c6⟩] A6 39 8 (.slice q i cc) i (rwC staC D) Z [.string (bs ej), .int .i64 ei, .int .u64 en, .int .i64 ea.c, .int .i64 ea.r, .int .i64 ea.d, .int .i64 ea.p, .string (bs et)] 39) (De.set HEc.out 7 (.string (bs et))) ?_
        intro wz8_3 hF
        have HE := Lib.hid hF
        clear hF HEc fz7 yz7
        have yz0 := HE.out.2.z.cell (j := 0) rfl
        have yz1 := HE.out.2.z.cell (j := 1) rfl
        have yz2 := HE.out.2.z.cell (j := 2) rfl
        have yz3 := HE.out.2.z.cell (j := 3) rfl
        have yz4 := HE.out.2.z.cell (j := 4) rfl
        have yz5 := HE.out.2.z.cell (j := 5) rfl
        have yz6 := HE.out.2.z.cell (j := 6) rfl
        have yz7 := HE.out.2.z.cell (j := 7) rfl
        have yY := HE.out.1.x.cell (j := 6) rfl
        go_wp2_with (at_builtin; refine wpList_app _ rfl _ _ 29 29 rfl A6 39 ixsta (.agg #[.string ⟨#[]⟩, .int .i64 0, .int .u64 0, .int .i64 0, .int .i64 0, .int .i64 0, .int .i64 0, .string ⟨#[]⟩]) 8 80 Tryz.underlying29 hista hz0sta hz1sta hz2sta rfl _ i (rwC staC D) rfl (HE.out.2.own.alloc _) _ 1 [.string (bs ej), .int .i64 ei, .int .u64 en, .int .i64 ea.c, .int .i64 ea.r, .int .i64 ea.d, .int .i64 ea.p, .string (bs et)] rfl (src_block Tryz.underlying29 _ _ ([.string (bs ej), .int .i64 ei, .int .u64 en, .int .i64 ea.c, .int .i64 ea.r, .int .i64 ea.d, .int .i64 ea.p, .string (bs et)] : List Value).toArray (Blk.made _ ([.string (bs ej), .int .i64 ei, .int .u64 en, .int .i64 ea.c, .int .i64 ea.r, .int .i64 ea.d, .int .i64 ea.p, .string (bs et)] : List Value) _) rfl (by intro u hu; simp at hu; rcases hu with rfl | rfl | rfl | rfl | rfl | rfl | rfl | rfl <;> rfl)) (by unfold maxLen; omega) (by omega) (by have := HE.out.1.sz; simp; omega) ?_; intro v6_ w6_ ho hg hnil; have HDa := Lib.hid (HE.out.1.append HE.out.2.own hg); obtain ⟨q6, c6_, rfl, -, -⟩ := own_slice ho; have HOa := Lib.hid ho; have fY := HDa.out.x.free 6; have yY2 := HDa.out.x.cell (j := 6) rfl; clear ho hg hnil)
        go_roundw
        case rel => exact ⟨i + 1, D ++ [⟨ej, ei, en, ea, et, 0, 0⟩], e4_, q6, c6_, by go_num, hlt, Lib.hid (by rw [drN_snoc, HDN.out]; simp only [HXE.out]), Lib.hid ⟨HDa.out.setY 6 _, (by have h9 := own_setY HDa.out HOa.out 6 (.slice q6 (i + 1) c6_); rw [rwC_snoc]; exact h9)⟩⟩
        case measure => simp [intOf]; omega
    have i3 : i ≤ 256 := by have := HM6.out.1; omega
    have i0 : (0 : Int) ≤ (i : Int) := by omega
    have i1 : (i : Int) < (m6 : Int) := by omega
    have HD0 := Lib.hid HQ6.out.1
    have HO0 := Lib.hid HQ6.out.2
    clear HQ6
    obtain ⟨ej, e1_, g1⟩ : ∃ c t, rT l st = (c, t) := ⟨_, _, rfl⟩
    obtain ⟨ea, e2_, g2⟩ : ∃ c t, rA l e1_ = (c, t) := ⟨_, _, rfl⟩
    have HXE : Hid (envRd l st = ((⟨ej, 0, 0, ea, [], 0, 0⟩ : El), e2_)) := Lib.hid (by unfold envRd; simp only [g1, g2])
    have HG1 := Lib.hid g1
    have HG2 := Lib.hid g2
    clear g1 g2
    go_upto_region 15 with (go_at_call 102; refine (dT (s := st) HD0.out.rd (by have := HLL.out; omega) HG1.out).mono ?_; rintro e wt6 ⟨rfl, hr, hf⟩; have HD1 := Lib.hid (HD0.out.call hr hf); have HO1 := Lib.hid (own_frp HO0.out hf (fun g hg e => by have := own_lo HO0.out hg; have := HD0.out.hb; omega)); clear hr hf)
    clear HD0 HO0
    refine wp_region_noPanic ?_
    refine wp_region_lastH (fun w' => w'.cell? ⟨Y, 5, none⟩ = some (.slice q i cc)) 9 rfl rfl (by kernel_rfl) (by kernel_rfl) ((HD1.out.kept (below_drewN 1)).x.cell (j := 5) rfl) (fun hHeld => ?_)
    obtain ⟨wd, hwd⟩ : ∃ x, x = wt6.drew := ⟨_, rfl⟩
    have HD2 := Lib.hid (show Dw w B l wd _ R _ _ Y _ _ _ _ from by rw [hwd]; exact HD1.out.kept (below_drewN 1))
    have HO2 := Lib.hid (show wd.ownsRow A 66 5 _ i _ from by rw [hwd]; exact own_keep HO1.out (below_drewN 1))
    rw [← hwd] at hHeld ⊢
    clear hwd HD1 HO1
    refine wpAnyH_take (i := 0) (v := ?v1) rfl (by kernel_rfl) (by kernel_rfl) (by kernel_rfl) (fun _ _ _ h => h) (Or.inl ⟨by rfl, ?hy1⟩) (by assumption) ?rest1
    case hy1 => (intro _ hSw; (try dsimp only at hSw); go_simp; (try with_reducible rfl))
    (try simp only [Act.put]); (try simp only [List.setIfInBounds_toArray]); (try simp only [List.set_cons_succ]); (try simp only [List.set_cons_zero])
    refine wpAnyH_take (i := 1) (v := ?v2) rfl (by kernel_rfl) (by kernel_rfl) (by kernel_rfl) (fun _ _ _ h => h) (Or.inl ⟨by rfl, ?hy2⟩) (by assumption) ?rest2
    case hy2 => (intro _ hSw; (try dsimp only at hSw); go_simp; (try with_reducible rfl))
    (try simp only [Act.put]); (try simp only [List.setIfInBounds_toArray]); (try simp only [List.set_cons_succ]); (try simp only [List.set_cons_zero])
    refine wpAnyH_take (i := 2) (v := ?v3) rfl (by kernel_rfl) (by kernel_rfl) (by kernel_rfl) (fun _ _ _ h => h) (Or.inl ⟨by rfl, ?hy3⟩) (by assumption) ?rest3
    case hy3 => (intro _ hSw; (try dsimp only at hSw); go_simp; (try with_reducible rfl))
    (try simp only [Act.put]); (try simp only [List.setIfInBounds_toArray]); (try simp only [List.set_cons_succ]); (try simp only [List.set_cons_zero])
    refine wpAnyH_take (i := 3) (v := ?v4) rfl (by kernel_rfl) (by kernel_rfl) (by kernel_rfl) (fun _ _ _ h => h) (Or.inl ⟨by rfl, ?hy4⟩) (by assumption) ?rest4
    case hy4 => (intro _ hSw; (try dsimp only at hSw); go_simp; (try with_reducible rfl))
    (try simp only [Act.put]); (try simp only [List.setIfInBounds_toArray]); (try simp only [List.set_cons_succ]); (try simp only [List.set_cons_zero])
    (try simp only [List.getElem_toArray]); (try simp only [List.getElem_cons_succ]); (try simp only [List.getElem_cons_zero]); (try simp only [List.setIfInBounds_toArray]); (try simp only [List.set_cons_succ, List.set_cons_zero])
    refine wpAnyH_ready (rs := [4]) (by kernel_rfl) (by simp) ?_
    refine (AllReadyH.cons rfl (fun K hK => ?_) AllReadyH.nil)
    (try simp only [List.getElem_toArray]); (try simp only [List.getElem_cons_succ]); (try simp only [List.getElem_cons_zero])
    go_simp
    go_at_call 103
    refine (damounts_any (s := e1_) HD2.out.rd (by have := HLL.out; omega) HG2.out).mono ?_
    rintro e we ⟨rfl, hr, hf⟩
    have HD3 := Lib.hid (HD2.out.call hr hf)
    have HO3 := Lib.hid (own_frp HO2.out hf (fun g hg e => by have := own_lo HO2.out hg; have := HD2.out.hb; omega))
    clear hr hf
    (try go_wp2_with fail)
    refine hK.out _ _ (HD3.out.x.cell (j := 5) rfl) (fun hS1 => ?_)
    clear hK K hHeld HD2 HO2
    (try simp only [Act.put]); (try simp only [List.setIfInBounds_toArray]); (try simp only [List.set_cons_succ]); (try simp only [List.set_cons_zero])
    refine wpAnyH_take (i := 5) (v := ?v5) rfl (by kernel_rfl) (by kernel_rfl) (by kernel_rfl) (fun _ _ _ h => h) (Or.inl ⟨by rfl, ?hy5⟩) (by assumption) ?rest5
    case hy5 => (intro _ hSw; (try dsimp only at hSw); go_simp; (try with_reducible rfl))
    (try simp only [Act.put]); (try simp only [List.setIfInBounds_toArray]); (try simp only [List.set_cons_succ]); (try simp only [List.set_cons_zero])
    (try simp only [List.getElem_toArray]); (try simp only [List.getElem_cons_succ]); (try simp only [List.getElem_cons_zero]); (try simp only [List.setIfInBounds_toArray]); (try simp only [List.set_cons_succ, List.set_cons_zero])
    refine wpAnyH_ready (rs := [6]) (by kernel_rfl) (by simp) ?_
    refine (AllReadyH.cons rfl (fun K hK => ?_) AllReadyH.nil)
    (try simp only [List.getElem_toArray]); (try simp only [List.getElem_cons_succ]); (try simp only [List.getElem_cons_zero])
    go_simp
    obtain ⟨wf, hwf⟩ : ∃ xq, xq = we.alloc (.cells #[.string (bs ej), .int .i64 ea.c, .int .i64 ea.r, .int .i64 ea.d, .int .i64 ea.p] 66) := ⟨_, rfl⟩
    obtain ⟨zf, hzf⟩ : ∃ xq, xq = we.heap.size := ⟨_, rfl⟩
    have HYF : Hid (Blk wf zf [.string (bs ej), .int .i64 ea.c, .int .i64 ea.r, .int .i64 ea.d, .int .i64 ea.p] 66) := Lib.hid (by rw [hwf, hzf]; exact Blk.made we [.string (bs ej), .int .i64 ea.c, .int .i64 ea.r, .int .i64 ea.d, .int .i64 ea.p] _)
    have HD4 := Lib.hid (show Dw w B l wf _ R _ _ Y _ _ _ _ from by rw [hwf]; exact HD3.out.kept (below_alloc _ _))
    have HO4 := Lib.hid (show wf.ownsRow A 66 5 _ i _ from by rw [hwf]; exact own_keep HO3.out (below_alloc _ _))
    rw [← hwf, ← hzf]
    refine hK.out _ _ (HD4.out.x.cell (j := 5) rfl) (fun hS2 => ?_)
    clear hwf hzf hK K hS1 HD3 HO3
    (try simp only [Act.put]); (try simp only [List.setIfInBounds_toArray]); (try simp only [List.set_cons_succ]); (try simp only [List.set_cons_zero])
    (try simp only [List.getElem_toArray]); (try simp only [List.getElem_cons_succ]); (try simp only [List.getElem_cons_zero]); (try simp only [List.setIfInBounds_toArray]); (try simp only [List.set_cons_succ, List.set_cons_zero])
    refine wpAnyH_ready (rs := [7]) (by kernel_rfl) (by simp) ?_
    refine (AllReadyH.cons rfl (fun K hK => ?_) AllReadyH.nil)
    refine step_app rfl (.tmp 52) (.tmp 57) 28 28 rfl A 66 ixenv (.agg #[.string ⟨#[]⟩, .int .i64 0, .int .i64 0, .int .i64 0, .int .i64 0]) 5 48 Tryz.underlying28 hienv hz0env hz1env hz2env rfl (.slice q i cc) i (rwC envC D) (by rfl) HO4.out (.slice (some ⟨zf, 0, none⟩) 1 1) 1 [.string (bs ej), .int .i64 ea.c, .int .i64 ea.r, .int .i64 ea.d, .int .i64 ea.p] (by rfl) (src_block Tryz.underlying28 _ zf ([.string (bs ej), .int .i64 ea.c, .int .i64 ea.r, .int .i64 ea.d, .int .i64 ea.p] : List Value).toArray HYF.out rfl (by intro u hu; simp at hu; rcases hu with rfl | rfl | rfl | rfl | rfl <;> rfl)) (by unfold maxLen; omega) (by omega) (by have := HD4.out.sz; omega) ?_
    intro v6_ w6_ ho hg hnil hk
    have HDa : Hid (Dw w B l w6_ _ R _ _ Y _ _ _ _) := Lib.hid (HD4.out.up ((Frp.refl (fun k => A ≤ k) wf).grown hg (fun k hk => .inl (own_lo HO4.out hk))))
    obtain ⟨q6, c6_, rfl, -, -⟩ := own_slice ho
    have HOa := Lib.hid ho
    refine hK.out _ _ (HDa.out.x.cell (j := 5) rfl) (fun hS3 => ?_)
    clear hK K hS2 ho hg hnil hk HD4 HO4 HYF
    (try simp only [Act.put]); (try simp only [List.setIfInBounds_toArray]); (try simp only [List.set_cons_succ]); (try simp only [List.set_cons_zero])
    refine wpAnyH_take (i := 8) (v := ?v6) rfl (by kernel_rfl) (by kernel_rfl) (by kernel_rfl) (fun _ _ _ h => h) (Or.inl ⟨by rfl, ?hy6⟩) (by assumption) ?rest6
    case hy6 => (intro _ hSw; (try dsimp only at hSw); go_simp; (try with_reducible rfl))
    (try simp only [Act.put]); (try simp only [List.setIfInBounds_toArray]); (try simp only [List.set_cons_succ]); (try simp only [List.set_cons_zero])
    refine wpAnyH_done (by kernel_rfl) ?_ _
    refine LastQ.start rfl ?_
    have fY := HDa.out.x.free 5
    go_wp2
    refine NoPanic.normal ?_
    go_wp2
    go_roundw
    case rel => exact ⟨i + 1, D ++ [⟨ej, 0, 0, ea, [], 0, 0⟩], e2_, q6, c6_, by go_num, hlt, Lib.hid (by rw [drN_snoc, HDN.out]; simp only [HXE.out]), Lib.hid ⟨HDa.out.setY 5 _, (by have h9 := own_setY HDa.out HOa.out 5 (.slice q6 (i + 1) c6_); rw [rwC_snoc]; exact h9)⟩⟩
    case measure => simp [intOf]; omega
end Go.Proofs.YtopkfomlppnpeaaGreatDoor.Ms

namespace Go.Proofs.YtopkfomlppnpeaaGreatDoor.Ms
open Go.RowKit Go.Proofs.YtopkfomlppnpeaaGreatDoor

set_option maxRecDepth 100000 in
set_option maxHeartbeats 8000000 in
theorem rreadR_any (v : Value) (b : List UInt8) (w : World) (h : Rd w v b) (hl : b.length ≤ 1000000000) : Calls Tryz.prog 22 #[v] w (readRF b w) := by
  obtain ⟨ixhel, hihel, hz0hel, hz1hel, hz2hel⟩ := info_parts (show (Tryz.prog.info? 88).map (fun i => (i.zero, i.size, i.bytes)) = some (some (.agg #[.string ⟨#[]⟩, .int .i64 0, .int .u64 0, .int .i64 0]), 4, 40) from by kernel_rfl)
  obtain ⟨ixfin, hifin, hz0fin, hz1fin, hz2fin⟩ := info_parts (show (Tryz.prog.info? 95).map (fun i => (i.zero, i.size, i.bytes)) = some (some (.agg #[.int .u64 0, .string ⟨#[]⟩, .int .i64 0, .int .u64 0, .int .i64 0]), 5, 48) from by kernel_rfl)
  obtain ⟨ixref, hiref, hz0ref, hz1ref, hz2ref⟩ := info_parts (show (Tryz.prog.info? 99).map (fun i => (i.zero, i.size, i.bytes)) = some (some (.agg #[.string ⟨#[]⟩, .int .i64 0, .int .u64 0, .int .i64 0]), 4, 40) from by kernel_rfl)
  obtain ⟨p, c, rfl⟩ := rd_slice h
  obtain ⟨n, hn⟩ : ∃ n, n = b.length := ⟨_, rfl⟩
  obtain ⟨R, hR⟩ : ∃ R, R = w.heap.size := ⟨_, rfl⟩
  obtain ⟨w1, hw1⟩ : ∃ w1, w1 = w.alloc (.cells #[.int .u64 0, .int .u64 0, .int .u64 0, .int .i64 0, .slice none 0 0, .slice none 0 0, .slice none 0 0] 44) := ⟨_, rfl⟩
  have HR1 : Hid (Blk w1 R [.int .u64 0, .int .u64 0, .int .u64 0, .int .i64 0, .slice none 0 0, .slice none 0 0, .slice none 0 0] 44) := Lib.hid (by rw [hw1, hR]; exact Blk.made w [.int .u64 0, .int .u64 0, .int .u64 0, .int .i64 0, .slice none 0 0, .slice none 0 0, .slice none 0 0] _)
  have HB1 : Hid (Below w.heap.size w w1) := Lib.hid (by rw [hw1]; exact below_alloc _ _)
  have HOP : Hid (Calls Tryz.prog 97 #[.slice p n c, .int .u8 4] w1 (OnF b 4 w1)) := Lib.hid (rone_any (.slice p n c) b 4 w1 (by rw [hw1, hn]; exact h.below (below_alloc _ _)) hl)
  have HRR := Lib.hid hR
  rw [← hn] at hl ⊢
  have HNL : Hid (n ≤ 1000000000 ∧ n = b.length) := Lib.hid ⟨hl, hn⟩
  clear h hn
  have HOL : Hid ((opn b [4]).2.1.length ≤ 1000000000) := Lib.hid (by have h9 := opn_len b [4]; have := HNL.out; omega)
  have HDE : Hid (readR b = dreadR b) := Lib.hid (dreadR_eq b).symm
  go_enter Tryz.func22, Tryz.ntmps22
  go_upto_region 1 with fail
  rw [← hw1, ← hR]
  clear hw1 hR
  obtain ⟨kd, l, er, hop⟩ : ∃ kd l er, opn b [4] = (kd, l, er) := ⟨_, _, _, rfl⟩
  have HOE := Lib.hid hop
  by_cases he : er = 0
  rotate_left
  · have HE0 : Hid (er ≠ 0) := Lib.hid he
    have HQ : Hid (readR b = (zeR, er)) := Lib.hid (by unfold readR; rw [HOE.out, if_pos he])
    have t0 : ((er : Int) != 0) = true := by simp; omega
    have t1 : (er != 0) = true := by simp; omega
    have HC2 := Lib.hid (HOP.out.mono (R' := fun e w' => e = .returned (.tuple #[.slice none 0 0, .int .i64 er]) ∧ Below w1.heap.size w1 w') fun e w' h9 => by unfold OnF at h9; rw [HOE.out] at h9; exact ⟨h9.2.1 he, h9.1⟩)
    clear hop HOE HOP he
    go_upto_region 2 with (go_at_call 97; refine HC2.out.mono ?_; rintro e w3 ⟨rfl, hb⟩; have HB13 := Lib.hid hb; clear hb)
    have HX3 := Lib.hid (HR1.out.kept HB13.out)
    have HF3 : Hid (Frp (fun k => k = R) w w3) := Lib.hid ((Frp.of_below HB1.out _).next HB13.out)
    have fx0 := HX3.out.free 0
    have fx1 := HX3.out.free 1
    have fx2 := HX3.out.free 2
    have fx3 := HX3.out.free 3
    have fx4 := HX3.out.free 4
    have fx5 := HX3.out.free 5
    have fx6 := HX3.out.free 6
    have yx0 := HX3.out.cell (j := 0) rfl
    have yx1 := HX3.out.cell (j := 1) rfl
    have yx2 := HX3.out.cell (j := 2) rfl
    have yx3 := HX3.out.cell (j := 3) rfl
    have yx4 := HX3.out.cell (j := 4) rfl
    have yx5 := HX3.out.cell (j := 5) rfl
    have yx6 := HX3.out.cell (j := 6) rfl
    go_wp2
    refine ret_cell rfl rfl rfl (Blk.set (Blk.set (Blk.set (Blk.set (Blk.set (Blk.set (Blk.set HX3.out 0 (.int .u64 0)) 1 (.int .u64 0)) 2 (.int .u64 0)) 3 (.int .i64 0)) 4 (.slice none 0 0)) 5 (.slice none 0 0)) 6 (.slice none 0 0)) Tryz.underlying44 rfl (by kernel_rfl) ?_
    unfold readRF
    rw [HQ.out]
    exact ⟨(frp_setX (frp_setX (frp_setX (frp_setX (frp_setX (frp_setX (frp_setX HF3.out 0 (.int .u64 0)) 1 (.int .u64 0)) 2 (.int .u64 0)) 3 (.int .i64 0)) 4 (.slice none 0 0)) 5 (.slice none 0 0)) 6 (.slice none 0 0)).below (fun k hk => by rw [hk, HRR.out]; exact Nat.le_refl _) (Nat.le_refl _), fun _ => rfl, fun h9 => absurd h9 HE0.out⟩
  subst he
  obtain ⟨bn, hbn⟩ : ∃ bn, bn = l.length := ⟨_, rfl⟩
  have HBN := Lib.hid hbn
  have HLL : Hid (l.length ≤ 1000000000) := Lib.hid (by have h9 := HOL.out; rw [HOE.out] at h9; exact h9)
  have HC2 := Lib.hid (HOP.out.mono (R' := fun e w' => ∃ pz qz, e = .returned (.tuple #[.slice pz bn qz, .int .i64 0]) ∧ Fresh w1.heap.size w' (.slice pz bn qz) l ∧ (∀ g, (Value.slice pz bn qz).ownBlock = some g → g + 1 < w'.heap.size) ∧ Below w1.heap.size w1 w') fun e w' h9 => by
    unfold OnF at h9
    rw [HOE.out] at h9
    obtain ⟨h1, -, h3⟩ := h9
    obtain ⟨vb, h4, h5, h6⟩ := h3 rfl
    obtain ⟨pz, qz, rfl⟩ := fresh_slice h5
    rw [← hbn] at h4 h5 h6
    exact ⟨pz, qz, h4, h5, h6, h1⟩)
  clear hbn HOP hop
  obtain ⟨c1, t1, e1⟩ : ∃ c t, rU l (0, 0) = (c, t) := ⟨_, _, rfl⟩
  obtain ⟨c2, t2, e2⟩ : ∃ c t, rU l t1 = (c, t) := ⟨_, _, rfl⟩
  obtain ⟨c3, t3, e3⟩ : ∃ c t, rU l t2 = (c, t) := ⟨_, _, rfl⟩
  obtain ⟨c4, t4, e4⟩ : ∃ c t, rI l t3 = (c, t) := ⟨_, _, rfl⟩
  obtain ⟨k5, s5, f5⟩ : ∃ c t, rC 256 l t4 = (c, t) := ⟨_, _, rfl⟩
  obtain ⟨hm5, hc5⟩ := rC_le f5
  obtain ⟨m5, hk5⟩ : ∃ m, m = k5.toNat := ⟨_, rfl⟩
  rw [← hk5] at hm5 hc5
  subst hc5
  obtain ⟨c5, t5, g5⟩ : ∃ c t, drN helDd l m5 s5 = (c, t) := ⟨_, _, rfl⟩
  have e5 : drL helDd l t4 = (c5, t5) := by unfold drL; rw [f5]; simpa using g5
  have HM5 : Hid (m5 ≤ 256 ∧ m5 = c5.length) := Lib.hid ⟨hm5, by have h9 := drN_len helDd l m5 s5; rw [g5] at h9; exact h9.symm⟩
  have HT5 := Lib.hid (fun w' b' (h : RRdr w' b' l t4.1 t4.2) => dC (s := t4) h (by have := HLL.out; omega) (by omega) (by omega) f5)
  have HN5 := Lib.hid g5
  clear f5 g5 hm5 hk5
  obtain ⟨k6, s6, f6⟩ : ∃ c t, rC 256 l t5 = (c, t) := ⟨_, _, rfl⟩
  obtain ⟨hm6, hc6⟩ := rC_le f6
  obtain ⟨m6, hk6⟩ : ∃ m, m = k6.toNat := ⟨_, rfl⟩
  rw [← hk6] at hm6 hc6
  subst hc6
  obtain ⟨c6, t6, g6⟩ : ∃ c t, drN finDd l m6 s6 = (c, t) := ⟨_, _, rfl⟩
  have e6 : drL finDd l t5 = (c6, t6) := by unfold drL; rw [f6]; simpa using g6
  have HM6 : Hid (m6 ≤ 256 ∧ m6 = c6.length) := Lib.hid ⟨hm6, by have h9 := drN_len finDd l m6 s6; rw [g6] at h9; exact h9.symm⟩
  have HT6 := Lib.hid (fun w' b' (h : RRdr w' b' l t5.1 t5.2) => dC (s := t5) h (by have := HLL.out; omega) (by omega) (by omega) f6)
  have HN6 := Lib.hid g6
  clear f6 g6 hm6 hk6
  obtain ⟨k7, s7, f7⟩ : ∃ c t, rC 256 l t6 = (c, t) := ⟨_, _, rfl⟩
  obtain ⟨hm7, hc7⟩ := rC_le f7
  obtain ⟨m7, hk7⟩ : ∃ m, m = k7.toNat := ⟨_, rfl⟩
  rw [← hk7] at hm7 hc7
  subst hc7
  obtain ⟨c7, t7, g7⟩ : ∃ c t, drN helDd l m7 s7 = (c, t) := ⟨_, _, rfl⟩
  have e7 : drL helDd l t6 = (c7, t7) := by unfold drL; rw [f7]; simpa using g7
  have HM7 : Hid (m7 ≤ 256 ∧ m7 = c7.length) := Lib.hid ⟨hm7, by have h9 := drN_len helDd l m7 s7; rw [g7] at h9; exact h9.symm⟩
  have HT7 := Lib.hid (fun w' b' (h : RRdr w' b' l t6.1 t6.2) => dC (s := t6) h (by have := HLL.out; omega) (by omega) (by omega) f7)
  have HN7 := Lib.hid g7
  clear f7 g7 hm7 hk7
  have HA : Hid (drdR l = (⟨c1, c2, c3, c4, c5, c6, c7⟩, t7)) := Lib.hid (by unfold drdR; simp only [e1, e2, e3, e4, e5, e6, e7])
  have H1 := Lib.hid (fun w' b' (h : RRdr w' b' l 0 0) => dU (s := (0, 0)) h (by have := HLL.out; omega) e1)
  have H2 := Lib.hid (fun w' b' (h : RRdr w' b' l t1.1 t1.2) => dU (s := t1) h (by have := HLL.out; omega) e2)
  have H3 := Lib.hid (fun w' b' (h : RRdr w' b' l t2.1 t2.2) => dU (s := t2) h (by have := HLL.out; omega) e3)
  have H4 := Lib.hid (fun w' b' (h : RRdr w' b' l t3.1 t3.2) => dI (s := t3) h (by have := HLL.out; omega) e4)
  clear e1 e2 e3 e4 e5 e6 e7
  go_upto_region 5 with (go_at_call 97; refine HC2.out.mono ?_; rintro e w2 ⟨pz, qz, rfl, hfs, hoh, hb⟩; have HB12 := Lib.hid hb; have HO2 := Lib.hid hfs; have HOH := Lib.hid hoh; clear hb hfs hoh)
  obtain ⟨B, hB⟩ : ∃ B, B = w2.heap.size := ⟨_, rfl⟩
  obtain ⟨w3, hw3⟩ : ∃ w3, w3 = w2.alloc (.cells #[.slice pz bn qz, .int .i64 0, .int .i64 0] 146) := ⟨_, rfl⟩
  have HR3 : Hid (RRdr w3 B l 0 0) := Lib.hid (by rw [hw3, hB]; exact drdr_new (by have h9 := HO2.out.rd; exact h9) HOH.out)
  have HB13 : Hid (Below w1.heap.size w1 w3) := Lib.hid (by rw [hw3]; exact below_and HB12.out (below_alloc _ _))
  have HBE : Hid (B = w2.heap.size) := Lib.hid hB
  rw [← hw3, ← hB]
  clear hw3 hB
  go_upto_region 6 with (go_at_call 98; refine (H1.out _ _ HR3.out).mono ?_; rintro e w4 ⟨rfl, hr, hf⟩; have HR4 := Lib.hid hr; have HF4 := Lib.hid hf; clear hr hf)
  obtain ⟨Y, hY⟩ : ∃ Y, Y = w4.heap.size := ⟨_, rfl⟩
  obtain ⟨v6, hv6⟩ : ∃ v6, v6 = w4.alloc (.cells #[.int .u64 c1, .int .u64 0, .int .u64 0, .int .i64 0, .slice none 0 0, .slice none 0 0, .slice none 0 0] 44) := ⟨_, rfl⟩
  obtain ⟨A, hA⟩ : ∃ A, A = v6.heap.size := ⟨_, rfl⟩
  have HG : Hid (Dw w B l v6 t1 R [.int .u64 0, .int .u64 0, .int .u64 0, .int .i64 0, .slice none 0 0, .slice none 0 0, .slice none 0 0] 44 Y [.int .u64 c1, .int .u64 0, .int .u64 0, .int .i64 0, .slice none 0 0, .slice none 0 0, .slice none 0 0] 44 [] A) := Lib.hid (by
    have h1 := HB1.out.size
    have h3 := RRdr.lt HR4.out
    have h4 := HF4.out.size
    have h5 := HR1.out.lt
    have h6 := HB12.out.size
    have h7 := HBE.out
    have h8 := HRR.out
    have h9 : A = Y + 1 := by rw [hA, hv6, hY]; simp
    have h10 : v6.heap.size = w4.heap.size + 1 := by rw [hv6]; simp
    refine ⟨?_, ?_, ?_, ?_, ⟨by omega, by omega, by omega, by omega⟩, by omega, fun r hr => by cases hr⟩
    · rw [hv6]; exact RRdr.kept HR4.out (below_alloc _ _)
    · rw [hv6]; exact ((HR1.out.kept HB13.out).frp HF4.out (fun e => by omega)).alloc _
    · rw [hv6, hY]; exact Blk.made w4 [.int .u64 c1, .int .u64 0, .int .u64 0, .int .i64 0, .slice none 0 0, .slice none 0 0, .slice none 0 0] _
    · rw [hv6]; exact ((below_and HB1.out HB13.out).trans (HF4.out.below (fun k hk => by omega) (by have := HB13.out.size; omega))).trans ((below_alloc w4 _).mono (by have := HB13.out.size; omega)))
  rw [← hv6, ← hY]
  clear hv6 hY hA HR3 HR4 HF4 HB12 HC2 HO2 HOH HBE HB13
  go_upto_region 7 with (go_at_call 98; refine (H2.out _ _ HG.out.rd).mono ?_; rintro e wa1 ⟨rfl, hr, hf⟩; have HZ := Lib.hid (HG.out.call hr hf); have fx1 := HZ.out.x.free 1; have yx1 := HZ.out.x.cell (j := 1) rfl; clear hr hf)
  clear HG
  refine at_hide (F := fun w' => Dw w B l w' t2 R [.int .u64 0, .int .u64 0, .int .u64 0, .int .i64 0, .slice none 0 0, .slice none 0 0, .slice none 0 0] 44 Y [.int .u64 c1, .int .u64 c2, .int .u64 0, .int .i64 0, .slice none 0 0, .slice none 0 0, .slice none 0 0] 44 [] A) (HZ.out.setY 1 (.int .u64 c2)) ?_
  intro wb1 hF
  have HG := Lib.hid hF
  clear hF HZ fx1 yx1
  go_upto_region 8 with (go_at_call 98; refine (H3.out _ _ HG.out.rd).mono ?_; rintro e wa2 ⟨rfl, hr, hf⟩; have HZ := Lib.hid (HG.out.call hr hf); have fx2 := HZ.out.x.free 2; have yx2 := HZ.out.x.cell (j := 2) rfl; clear hr hf)
  clear HG
  refine at_hide (F := fun w' => Dw w B l w' t3 R [.int .u64 0, .int .u64 0, .int .u64 0, .int .i64 0, .slice none 0 0, .slice none 0 0, .slice none 0 0] 44 Y [.int .u64 c1, .int .u64 c2, .int .u64 c3, .int .i64 0, .slice none 0 0, .slice none 0 0, .slice none 0 0] 44 [] A) (HZ.out.setY 2 (.int .u64 c3)) ?_
  intro wb2 hF
  have HG := Lib.hid hF
  clear hF HZ fx2 yx2
  go_upto_region 9 with (go_at_call 99; refine (H4.out _ _ HG.out.rd).mono ?_; rintro e wa3 ⟨rfl, hr, hf⟩; have HZ := Lib.hid (HG.out.call hr hf); have fx3 := HZ.out.x.free 3; have yx3 := HZ.out.x.cell (j := 3) rfl; clear hr hf)
  clear HG
  refine at_hide (F := fun w' => Dw w B l w' t4 R [.int .u64 0, .int .u64 0, .int .u64 0, .int .i64 0, .slice none 0 0, .slice none 0 0, .slice none 0 0] 44 Y [.int .u64 c1, .int .u64 c2, .int .u64 c3, .int .i64 c4, .slice none 0 0, .slice none 0 0, .slice none 0 0] 44 [] A) (HZ.out.setY 3 (.int .i64 c4)) ?_
  intro wb3 hF
  have HG := Lib.hid hF
  clear hF HZ fx3 yx3
  go_upto_region 11 with (go_at_call 101; refine (HT5.out _ _ HG.out.rd).mono ?_; rintro e wc5 ⟨rfl, hr, hf⟩; have HS := Lib.hid (HG.out.call hr hf); clear hr hf)
  clear HG HT5
  go_loopw [9] (fun vi wr => ∃ (i : Nat) (D : List El) (st : S) (q : Option Addr) (cc : Nat), vi = .int .i64 i ∧ i ≤ m5 ∧ Hid (drN helDd l i s5 = (D, st)) ∧ Hid (Dw w B l wr st R [.int .u64 0, .int .u64 0, .int .u64 0, .int .i64 0, .slice none 0 0, .slice none 0 0, .slice none 0 0] 44 Y [.int .u64 c1, .int .u64 c2, .int .u64 c3, .int .i64 c4, .slice q i cc, .slice none 0 0, .slice none 0 0] 44 [] A ∧ wr.ownsRow A 88 4 (.slice q i cc) i (rwC helC D))) (fun vi _ => m5 - (intOf vi).toNat)
  case atStart => exact ⟨0, [], s5, none, 0, by go_num, Nat.zero_le _, Lib.hid rfl, Lib.hid ⟨HS.out, World.ownsRow_nil _ _ _ _⟩⟩
  case round =>
    clear HS
    obtain ⟨i, D, st, q, cc, rfl, him, HDN, HQ5⟩ := hrel
    by_cases hlt : i < m5
    rotate_left
    · obtain rfl : m5 = i := by omega
      obtain ⟨q5, hq5⟩ : ∃ x, x = q := ⟨_, rfl⟩
      obtain ⟨cc5, hcc5⟩ : ∃ x, x = cc := ⟨_, rfl⟩
      subst hq5 hcc5
      have hdn := HDN.out
      rw [HN5.out] at hdn
      obtain ⟨rfl, rfl⟩ := Prod.mk.inj hdn
      clear hdn HDN hlt him
      obtain ⟨A5, hA2⟩ : ∃ A, A = wr.heap.size := ⟨_, rfl⟩
      have HG : Hid (Dw w B l wr t5 R [.int .u64 0, .int .u64 0, .int .u64 0, .int .i64 0, .slice none 0 0, .slice none 0 0, .slice none 0 0] 44 Y [.int .u64 c1, .int .u64 c2, .int .u64 c3, .int .i64 c4, .slice q5 m5 cc5, .slice none 0 0, .slice none 0 0] 44 [⟨88, 4, .slice q5 m5 cc5, m5, rwC helC c5⟩] A5) := Lib.hid (by rw [hA2]; exact HQ5.out.1.add HQ5.out.2)
      clear hA2 HQ5
      go_upto_region 19 with (go_at_call 101; refine (HT6.out _ _ HG.out.rd).mono ?_; rintro e wc7 ⟨rfl, hr, hf⟩; have HS := Lib.hid (HG.out.call hr hf); clear hr hf)
      clear HG HT6
      go_loopw [11] (fun vi wr => ∃ (i : Nat) (D : List El) (st : S) (q : Option Addr) (cc : Nat), vi = .int .i64 i ∧ i ≤ m6 ∧ Hid (drN finDd l i s6 = (D, st)) ∧ Hid (Dw w B l wr st R [.int .u64 0, .int .u64 0, .int .u64 0, .int .i64 0, .slice none 0 0, .slice none 0 0, .slice none 0 0] 44 Y [.int .u64 c1, .int .u64 c2, .int .u64 c3, .int .i64 c4, .slice q5 m5 cc5, .slice q i cc, .slice none 0 0] 44 [⟨88, 4, .slice q5 m5 cc5, m5, rwC helC c5⟩] A5 ∧ wr.ownsRow A5 95 5 (.slice q i cc) i (rwC finC D))) (fun vi _ => m6 - (intOf vi).toNat)
      case atStart => exact ⟨0, [], s6, none, 0, by go_num, Nat.zero_le _, Lib.hid rfl, Lib.hid ⟨HS.out, World.ownsRow_nil _ _ _ _⟩⟩
      case round =>
        clear HS
        obtain ⟨i, D, st, q, cc, rfl, him, HDN, HQ6⟩ := hrel
        by_cases hlt : i < m6
        rotate_left
        · obtain rfl : m6 = i := by omega
          obtain ⟨q6, hq6⟩ : ∃ x, x = q := ⟨_, rfl⟩
          obtain ⟨cc6, hcc6⟩ : ∃ x, x = cc := ⟨_, rfl⟩
          subst hq6 hcc6
          have hdn := HDN.out
          rw [HN6.out] at hdn
          obtain ⟨rfl, rfl⟩ := Prod.mk.inj hdn
          clear hdn HDN hlt him
          obtain ⟨A6, hA2⟩ : ∃ A, A = wr.heap.size := ⟨_, rfl⟩
          have HG : Hid (Dw w B l wr t6 R [.int .u64 0, .int .u64 0, .int .u64 0, .int .i64 0, .slice none 0 0, .slice none 0 0, .slice none 0 0] 44 Y [.int .u64 c1, .int .u64 c2, .int .u64 c3, .int .i64 c4, .slice q5 m5 cc5, .slice q6 m6 cc6, .slice none 0 0] 44 [⟨88, 4, .slice q5 m5 cc5, m5, rwC helC c5⟩, ⟨95, 5, .slice q6 m6 cc6, m6, rwC finC c6⟩] A6) := Lib.hid (by rw [hA2]; exact HQ6.out.1.add HQ6.out.2)
          clear hA2 HQ6
          go_upto_region 28 with (go_at_call 101; refine (HT7.out _ _ HG.out.rd).mono ?_; rintro e wc9 ⟨rfl, hr, hf⟩; have HS := Lib.hid (HG.out.call hr hf); clear hr hf)
          clear HG HT7
          go_loopw [13] (fun vi wr => ∃ (i : Nat) (D : List El) (st : S) (q : Option Addr) (cc : Nat), vi = .int .i64 i ∧ i ≤ m7 ∧ Hid (drN helDd l i s7 = (D, st)) ∧ Hid (Dw w B l wr st R [.int .u64 0, .int .u64 0, .int .u64 0, .int .i64 0, .slice none 0 0, .slice none 0 0, .slice none 0 0] 44 Y [.int .u64 c1, .int .u64 c2, .int .u64 c3, .int .i64 c4, .slice q5 m5 cc5, .slice q6 m6 cc6, .slice q i cc] 44 [⟨88, 4, .slice q5 m5 cc5, m5, rwC helC c5⟩, ⟨95, 5, .slice q6 m6 cc6, m6, rwC finC c6⟩] A6 ∧ wr.ownsRow A6 99 4 (.slice q i cc) i (rwC refC D))) (fun vi _ => m7 - (intOf vi).toNat)
          case atStart => exact ⟨0, [], s7, none, 0, by go_num, Nat.zero_le _, Lib.hid rfl, Lib.hid ⟨HS.out, World.ownsRow_nil _ _ _ _⟩⟩
          case round =>
            clear HS
            obtain ⟨i, D, st, q, cc, rfl, him, HDN, HQ7⟩ := hrel
            by_cases hlt : i < m7
            rotate_left
            · obtain rfl : m7 = i := by omega
              obtain ⟨q7, hq7⟩ : ∃ x, x = q := ⟨_, rfl⟩
              obtain ⟨cc7, hcc7⟩ : ∃ x, x = cc := ⟨_, rfl⟩
              subst hq7 hcc7
              have hdn := HDN.out
              rw [HN7.out] at hdn
              obtain ⟨rfl, rfl⟩ := Prod.mk.inj hdn
              clear hdn HDN hlt him
              obtain ⟨A7, hA2⟩ : ∃ A, A = wr.heap.size := ⟨_, rfl⟩
              have HG : Hid (Dw w B l wr t7 R [.int .u64 0, .int .u64 0, .int .u64 0, .int .i64 0, .slice none 0 0, .slice none 0 0, .slice none 0 0] 44 Y [.int .u64 c1, .int .u64 c2, .int .u64 c3, .int .i64 c4, .slice q5 m5 cc5, .slice q6 m6 cc6, .slice q7 m7 cc7] 44 [⟨88, 4, .slice q5 m5 cc5, m5, rwC helC c5⟩, ⟨95, 5, .slice q6 m6 cc6, m6, rwC finC c6⟩, ⟨99, 4, .slice q7 m7 cc7, m7, rwC refC c7⟩] A7) := Lib.hid (by rw [hA2]; exact HQ7.out.1.add HQ7.out.2)
              clear hA2 HQ7
              obtain ⟨dn, hdn⟩ : ∃ dn, dn = Wire.done l t7.1 t7.2 := ⟨_, rfl⟩
              have HD := Lib.hid (fun w' (h : RRdr w' B l t7.1 t7.2) => ((rdone_any B l t7.1 t7.2 w' h).mono fun _ _ hm => rrf_of (v' := .int .i64 dn) (s' := (t7.1, dn)) (by rw [hdn]) (by rw [hdn]) hm))
              have HDNE := Lib.hid hdn
              clear hdn
              have HRD : Hid (readR b = if dn ≠ 0 ∨ checkR ⟨c1, c2, c3, c4, c5, c6, c7⟩ = false then (zeR, 5) else (⟨c1, c2, c3, c4, c5, c6, c7⟩, 0)) := Lib.hid (by rw [HDE.out]; unfold dreadR; rw [HOE.out, if_neg (by simp), HA.out, ← HDNE.out])
              have HE0 : Hid (5 ≠ 0) := Lib.hid (by decide)
              by_cases hd0 : dn = 0
              rotate_left
              · have HQ : Hid (readR b = (zeR, 5)) := Lib.hid (by rw [HRD.out, if_pos (.inl hd0)])
                have t0 : (dn != 0) = true := by simpa using hd0
                go_wp2_with (go_at_call 105; refine (HD.out _ HG.out.rd).mono ?_; rintro e w9 ⟨rfl, hr, hf⟩; have HG9 := Lib.hid (HG.out.call hr hf); have fr0 := HG9.out.r.free 0; have fr1 := HG9.out.r.free 1; have fr2 := HG9.out.r.free 2; have fr3 := HG9.out.r.free 3; have fr4 := HG9.out.r.free 4; have fr5 := HG9.out.r.free 5; have fr6 := HG9.out.r.free 6; have yr0 := HG9.out.r.cell (j := 0) rfl; have yr1 := HG9.out.r.cell (j := 1) rfl; have yr2 := HG9.out.r.cell (j := 2) rfl; have yr3 := HG9.out.r.cell (j := 3) rfl; have yr4 := HG9.out.r.cell (j := 4) rfl; have yr5 := HG9.out.r.cell (j := 5) rfl; have yr6 := HG9.out.r.cell (j := 6) rfl; clear hr hf)
                refine ret_cell rfl rfl rfl (Blk.set (Blk.set (Blk.set (Blk.set (Blk.set (Blk.set (Blk.set HG9.out.r 0 (.int .u64 0)) 1 (.int .u64 0)) 2 (.int .u64 0)) 3 (.int .i64 0)) 4 (.slice none 0 0)) 5 (.slice none 0 0)) 6 (.slice none 0 0)) Tryz.underlying44 rfl (by kernel_rfl) ?_
                unfold readRF
                rw [HQ.out]
                exact ⟨HG9.out.fr.trans ((frp_setX (frp_setX (frp_setX (frp_setX (frp_setX (frp_setX (frp_setX (Frp.refl (fun k => k = R) w9) 0 (.int .u64 0)) 1 (.int .u64 0)) 2 (.int .u64 0)) 3 (.int .i64 0)) 4 (.slice none 0 0)) 5 (.slice none 0 0)) 6 (.slice none 0 0)).below (fun k hk => by have := HG9.out.hb; omega) HG9.out.fr.size), fun _ => rfl, fun h9 => absurd h9 HE0.out⟩
              subst hd0
              cases hck : checkR ⟨c1, c2, c3, c4, c5, c6, c7⟩
              · have HC := Lib.hid (fun w' (h : RpW w' ⟨c1, c2, c3, c4, c5, c6, c7⟩ (.slice q5 m5 cc5) (.slice q6 m6 cc6) (.slice q7 m7 cc7)) => rcheckR_any ⟨c1, c2, c3, c4, c5, c6, c7⟩ (.slice q5 m5 cc5) (.slice q6 m6 cc6) (.slice q7 m7 cc7) w' h)
                rw [hck] at HC
                have HPWF : Hid (∀ w9, Dw w B l w9 (t7.1, 0) R [.int .u64 0, .int .u64 0, .int .u64 0, .int .i64 0, .slice none 0 0, .slice none 0 0, .slice none 0 0] 44 Y [.int .u64 c1, .int .u64 c2, .int .u64 c3, .int .i64 c4, .slice q5 m5 cc5, .slice q6 m6 cc6, .slice q7 m7 cc7] 44 [⟨88, 4, .slice q5 m5 cc5, m5, rwC helC c5⟩, ⟨95, 5, .slice q6 m6 cc6, m6, rwC finC c6⟩, ⟨99, 4, .slice q7 m7 cc7, m7, rwC refC c7⟩] A7 → RpW w9 ⟨c1, c2, c3, c4, c5, c6, c7⟩ (.slice q5 m5 cc5) (.slice q6 m6 cc6) (.slice q7 m7 cc7)) := Lib.hid (fun w9 hG => (by
                  have h9 := drdR_w (w := w9) (l := l) (k := .slice q5 m5 cc5) (t := .slice q6 m6 cc6) (s := .slice q7 m7 cc7) (by have := HLL.out; omega) (by rw [HA.out]; show Row _ _ _ c5.length _; rw [← HM5.out.2]; exact hG.row (rows := [⟨88, 4, .slice q5 m5 cc5, m5, rwC helC c5⟩, ⟨95, 5, .slice q6 m6 cc6, m6, rwC finC c6⟩, ⟨99, 4, .slice q7 m7 cc7, m7, rwC refC c7⟩]) (T := 88) (by simp) (rwC_one (fun u => by intro v hv; simp at hv; rcases hv with rfl | rfl | rfl | rfl <;> rfl) _)) (by rw [HA.out]; show Row _ _ _ c6.length _; rw [← HM6.out.2]; exact hG.row (rows := [⟨88, 4, .slice q5 m5 cc5, m5, rwC helC c5⟩, ⟨95, 5, .slice q6 m6 cc6, m6, rwC finC c6⟩, ⟨99, 4, .slice q7 m7 cc7, m7, rwC refC c7⟩]) (T := 95) (by simp) (rwC_one (fun u => by intro v hv; simp at hv; rcases hv with rfl | rfl | rfl | rfl | rfl <;> rfl) _)) (by rw [HA.out]; show Row _ _ _ c7.length _; rw [← HM7.out.2]; exact hG.row (rows := [⟨88, 4, .slice q5 m5 cc5, m5, rwC helC c5⟩, ⟨95, 5, .slice q6 m6 cc6, m6, rwC finC c6⟩, ⟨99, 4, .slice q7 m7 cc7, m7, rwC refC c7⟩]) (T := 99) (by simp) (rwC_one (fun u => by intro v hv; simp at hv; rcases hv with rfl | rfl | rfl | rfl <;> rfl) _))
                  rw [HA.out] at h9
                  exact h9))
                have HQ : Hid (readR b = (zeR, 5)) := Lib.hid (by rw [HRD.out, hck]; simp)
                clear hck HRD
                have t2 : ((2 : Int) != 0) = true := rfl
                go_wp2_with (first | (go_at_call 14; refine (HC.out w9 (HPWF.out _ HG9.out)).mono ?_; rintro e wz ⟨rfl, hb⟩; have HGZ := Lib.hid (HG9.out.kept hb); have fr0 := HGZ.out.r.free 0; have fr1 := HGZ.out.r.free 1; have fr2 := HGZ.out.r.free 2; have fr3 := HGZ.out.r.free 3; have fr4 := HGZ.out.r.free 4; have fr5 := HGZ.out.r.free 5; have fr6 := HGZ.out.r.free 6; have yr0 := HGZ.out.r.cell (j := 0) rfl; have yr1 := HGZ.out.r.cell (j := 1) rfl; have yr2 := HGZ.out.r.cell (j := 2) rfl; have yr3 := HGZ.out.r.cell (j := 3) rfl; have yr4 := HGZ.out.r.cell (j := 4) rfl; have yr5 := HGZ.out.r.cell (j := 5) rfl; have yr6 := HGZ.out.r.cell (j := 6) rfl; have fz0 := HGZ.out.x.free 0; have fz1 := HGZ.out.x.free 1; have fz2 := HGZ.out.x.free 2; have fz3 := HGZ.out.x.free 3; have fz4 := HGZ.out.x.free 4; have fz5 := HGZ.out.x.free 5; have fz6 := HGZ.out.x.free 6; have yz0 := HGZ.out.x.cell (j := 0) rfl; have yz1 := HGZ.out.x.cell (j := 1) rfl; have yz2 := HGZ.out.x.cell (j := 2) rfl; have yz3 := HGZ.out.x.cell (j := 3) rfl; have yz4 := HGZ.out.x.cell (j := 4) rfl; have yz5 := HGZ.out.x.cell (j := 5) rfl; have yz6 := HGZ.out.x.cell (j := 6) rfl; clear hb) | (go_at_call 105; refine (HD.out _ HG.out.rd).mono ?_; rintro e w9 ⟨rfl, hr, hf⟩; have HG9 := Lib.hid (HG.out.call hr hf); have fx0 := HG9.out.x.free 0; have fx1 := HG9.out.x.free 1; have fx2 := HG9.out.x.free 2; have fx3 := HG9.out.x.free 3; have fx4 := HG9.out.x.free 4; have fx5 := HG9.out.x.free 5; have fx6 := HG9.out.x.free 6; have yx0 := HG9.out.x.cell (j := 0) rfl; have yx1 := HG9.out.x.cell (j := 1) rfl; have yx2 := HG9.out.x.cell (j := 2) rfl; have yx3 := HG9.out.x.cell (j := 3) rfl; have yx4 := HG9.out.x.cell (j := 4) rfl; have yx5 := HG9.out.x.cell (j := 5) rfl; have yx6 := HG9.out.x.cell (j := 6) rfl; clear hr hf))
                refine ret_cell rfl rfl rfl (Blk.set (Blk.set (Blk.set (Blk.set (Blk.set (Blk.set (Blk.set HGZ.out.r 0 (.int .u64 0)) 1 (.int .u64 0)) 2 (.int .u64 0)) 3 (.int .i64 0)) 4 (.slice none 0 0)) 5 (.slice none 0 0)) 6 (.slice none 0 0)) Tryz.underlying44 rfl (by kernel_rfl) ?_
                unfold readRF
                rw [HQ.out]
                exact ⟨HGZ.out.fr.trans ((frp_setX (frp_setX (frp_setX (frp_setX (frp_setX (frp_setX (frp_setX (Frp.refl (fun k => k = R) wz) 0 (.int .u64 0)) 1 (.int .u64 0)) 2 (.int .u64 0)) 3 (.int .i64 0)) 4 (.slice none 0 0)) 5 (.slice none 0 0)) 6 (.slice none 0 0)).below (fun k hk => by have := HGZ.out.hb; omega) HGZ.out.fr.size), fun _ => rfl, fun h9 => absurd h9 HE0.out⟩
              · have HC := Lib.hid (fun w' (h : RpW w' ⟨c1, c2, c3, c4, c5, c6, c7⟩ (.slice q5 m5 cc5) (.slice q6 m6 cc6) (.slice q7 m7 cc7)) => rcheckR_any ⟨c1, c2, c3, c4, c5, c6, c7⟩ (.slice q5 m5 cc5) (.slice q6 m6 cc6) (.slice q7 m7 cc7) w' h)
                rw [hck] at HC
                have HPWF : Hid (∀ w9, Dw w B l w9 (t7.1, 0) R [.int .u64 0, .int .u64 0, .int .u64 0, .int .i64 0, .slice none 0 0, .slice none 0 0, .slice none 0 0] 44 Y [.int .u64 c1, .int .u64 c2, .int .u64 c3, .int .i64 c4, .slice q5 m5 cc5, .slice q6 m6 cc6, .slice q7 m7 cc7] 44 [⟨88, 4, .slice q5 m5 cc5, m5, rwC helC c5⟩, ⟨95, 5, .slice q6 m6 cc6, m6, rwC finC c6⟩, ⟨99, 4, .slice q7 m7 cc7, m7, rwC refC c7⟩] A7 → RpW w9 ⟨c1, c2, c3, c4, c5, c6, c7⟩ (.slice q5 m5 cc5) (.slice q6 m6 cc6) (.slice q7 m7 cc7)) := Lib.hid (fun w9 hG => (by
                  have h9 := drdR_w (w := w9) (l := l) (k := .slice q5 m5 cc5) (t := .slice q6 m6 cc6) (s := .slice q7 m7 cc7) (by have := HLL.out; omega) (by rw [HA.out]; show Row _ _ _ c5.length _; rw [← HM5.out.2]; exact hG.row (rows := [⟨88, 4, .slice q5 m5 cc5, m5, rwC helC c5⟩, ⟨95, 5, .slice q6 m6 cc6, m6, rwC finC c6⟩, ⟨99, 4, .slice q7 m7 cc7, m7, rwC refC c7⟩]) (T := 88) (by simp) (rwC_one (fun u => by intro v hv; simp at hv; rcases hv with rfl | rfl | rfl | rfl <;> rfl) _)) (by rw [HA.out]; show Row _ _ _ c6.length _; rw [← HM6.out.2]; exact hG.row (rows := [⟨88, 4, .slice q5 m5 cc5, m5, rwC helC c5⟩, ⟨95, 5, .slice q6 m6 cc6, m6, rwC finC c6⟩, ⟨99, 4, .slice q7 m7 cc7, m7, rwC refC c7⟩]) (T := 95) (by simp) (rwC_one (fun u => by intro v hv; simp at hv; rcases hv with rfl | rfl | rfl | rfl | rfl <;> rfl) _)) (by rw [HA.out]; show Row _ _ _ c7.length _; rw [← HM7.out.2]; exact hG.row (rows := [⟨88, 4, .slice q5 m5 cc5, m5, rwC helC c5⟩, ⟨95, 5, .slice q6 m6 cc6, m6, rwC finC c6⟩, ⟨99, 4, .slice q7 m7 cc7, m7, rwC refC c7⟩]) (T := 99) (by simp) (rwC_one (fun u => by intro v hv; simp at hv; rcases hv with rfl | rfl | rfl | rfl <;> rfl) _))
                  rw [HA.out] at h9
                  exact h9))
                have HQ : Hid (readR b = (⟨c1, c2, c3, c4, c5, c6, c7⟩, 0)) := Lib.hid (by rw [HRD.out, hck]; simp)
                clear hck HRD
                go_wp2_with (first | (go_at_call 14; refine (HC.out w9 (HPWF.out _ HG9.out)).mono ?_; rintro e wz ⟨rfl, hb⟩; have HGZ := Lib.hid (HG9.out.kept hb); have fr0 := HGZ.out.r.free 0; have fr1 := HGZ.out.r.free 1; have fr2 := HGZ.out.r.free 2; have fr3 := HGZ.out.r.free 3; have fr4 := HGZ.out.r.free 4; have fr5 := HGZ.out.r.free 5; have fr6 := HGZ.out.r.free 6; have yr0 := HGZ.out.r.cell (j := 0) rfl; have yr1 := HGZ.out.r.cell (j := 1) rfl; have yr2 := HGZ.out.r.cell (j := 2) rfl; have yr3 := HGZ.out.r.cell (j := 3) rfl; have yr4 := HGZ.out.r.cell (j := 4) rfl; have yr5 := HGZ.out.r.cell (j := 5) rfl; have yr6 := HGZ.out.r.cell (j := 6) rfl; have fz0 := HGZ.out.x.free 0; have fz1 := HGZ.out.x.free 1; have fz2 := HGZ.out.x.free 2; have fz3 := HGZ.out.x.free 3; have fz4 := HGZ.out.x.free 4; have fz5 := HGZ.out.x.free 5; have fz6 := HGZ.out.x.free 6; have yz0 := HGZ.out.x.cell (j := 0) rfl; have yz1 := HGZ.out.x.cell (j := 1) rfl; have yz2 := HGZ.out.x.cell (j := 2) rfl; have yz3 := HGZ.out.x.cell (j := 3) rfl; have yz4 := HGZ.out.x.cell (j := 4) rfl; have yz5 := HGZ.out.x.cell (j := 5) rfl; have yz6 := HGZ.out.x.cell (j := 6) rfl; clear hb) | (go_at_call 105; refine (HD.out _ HG.out.rd).mono ?_; rintro e w9 ⟨rfl, hr, hf⟩; have HG9 := Lib.hid (HG.out.call hr hf); have fx0 := HG9.out.x.free 0; have fx1 := HG9.out.x.free 1; have fx2 := HG9.out.x.free 2; have fx3 := HG9.out.x.free 3; have fx4 := HG9.out.x.free 4; have fx5 := HG9.out.x.free 5; have fx6 := HG9.out.x.free 6; have yx0 := HG9.out.x.cell (j := 0) rfl; have yx1 := HG9.out.x.cell (j := 1) rfl; have yx2 := HG9.out.x.cell (j := 2) rfl; have yx3 := HG9.out.x.cell (j := 3) rfl; have yx4 := HG9.out.x.cell (j := 4) rfl; have yx5 := HG9.out.x.cell (j := 5) rfl; have yx6 := HG9.out.x.cell (j := 6) rfl; clear hr hf))
                refine ret_cell rfl rfl rfl (Blk.set (Blk.set (Blk.set (Blk.set (Blk.set (Blk.set (Blk.set HGZ.out.r 0 (.int .u64 c1)) 1 (.int .u64 c2)) 2 (.int .u64 c3)) 3 (.int .i64 c4)) 4 (.slice q5 m5 cc5)) 5 (.slice q6 m6 cc6)) 6 (.slice q7 m7 cc7)) Tryz.underlying44 rfl (by kernel_rfl) ?_
                unfold readRF
                rw [HQ.out]
                refine ⟨HGZ.out.fr.trans ((frp_setX (frp_setX (frp_setX (frp_setX (frp_setX (frp_setX (frp_setX (Frp.refl (fun k => k = R) wz) 0 (.int .u64 c1)) 1 (.int .u64 c2)) 2 (.int .u64 c3)) 3 (.int .i64 c4)) 4 (.slice q5 m5 cc5)) 5 (.slice q6 m6 cc6)) 6 (.slice q7 m7 cc7)).below (fun k hk => by have := HGZ.out.hb; omega) HGZ.out.fr.size), fun h9 => absurd rfl h9, fun _ => ⟨_, _, _, rfl, ?_⟩⟩
                exact (by
                  have h9 := drdR_w (w := _) (l := l) (k := .slice q5 m5 cc5) (t := .slice q6 m6 cc6) (s := .slice q7 m7 cc7) (by have := HLL.out; omega) (by rw [HA.out]; show Row _ _ _ c5.length _; rw [← HM5.out.2]; exact HGZ.out.rowR (rows := [⟨88, 4, .slice q5 m5 cc5, m5, rwC helC c5⟩, ⟨95, 5, .slice q6 m6 cc6, m6, rwC finC c6⟩, ⟨99, 4, .slice q7 m7 cc7, m7, rwC refC c7⟩]) (T := 88) (by simp) (rwC_one (fun u => by intro v hv; simp at hv; rcases hv with rfl | rfl | rfl | rfl <;> rfl) _) (frp_setX (frp_setX (frp_setX (frp_setX (frp_setX (frp_setX (frp_setX (Frp.refl (fun k => k = R) wz) 0 (.int .u64 c1)) 1 (.int .u64 c2)) 2 (.int .u64 c3)) 3 (.int .i64 c4)) 4 (.slice q5 m5 cc5)) 5 (.slice q6 m6 cc6)) 6 (.slice q7 m7 cc7))) (by rw [HA.out]; show Row _ _ _ c6.length _; rw [← HM6.out.2]; exact HGZ.out.rowR (rows := [⟨88, 4, .slice q5 m5 cc5, m5, rwC helC c5⟩, ⟨95, 5, .slice q6 m6 cc6, m6, rwC finC c6⟩, ⟨99, 4, .slice q7 m7 cc7, m7, rwC refC c7⟩]) (T := 95) (by simp) (rwC_one (fun u => by intro v hv; simp at hv; rcases hv with rfl | rfl | rfl | rfl | rfl <;> rfl) _) (frp_setX (frp_setX (frp_setX (frp_setX (frp_setX (frp_setX (frp_setX (Frp.refl (fun k => k = R) wz) 0 (.int .u64 c1)) 1 (.int .u64 c2)) 2 (.int .u64 c3)) 3 (.int .i64 c4)) 4 (.slice q5 m5 cc5)) 5 (.slice q6 m6 cc6)) 6 (.slice q7 m7 cc7))) (by rw [HA.out]; show Row _ _ _ c7.length _; rw [← HM7.out.2]; exact HGZ.out.rowR (rows := [⟨88, 4, .slice q5 m5 cc5, m5, rwC helC c5⟩, ⟨95, 5, .slice q6 m6 cc6, m6, rwC finC c6⟩, ⟨99, 4, .slice q7 m7 cc7, m7, rwC refC c7⟩]) (T := 99) (by simp) (rwC_one (fun u => by intro v hv; simp at hv; rcases hv with rfl | rfl | rfl | rfl <;> rfl) _) (frp_setX (frp_setX (frp_setX (frp_setX (frp_setX (frp_setX (frp_setX (Frp.refl (fun k => k = R) wz) 0 (.int .u64 c1)) 1 (.int .u64 c2)) 2 (.int .u64 c3)) 3 (.int .i64 c4)) 4 (.slice q5 m5 cc5)) 5 (.slice q6 m6 cc6)) 6 (.slice q7 m7 cc7)))
                  rw [HA.out] at h9
                  exact h9)
            have i3 : i ≤ 256 := by have := HM7.out.1; omega
            have i0 : (0 : Int) ≤ (i : Int) := by omega
            have i1 : (i : Int) < (m7 : Int) := by omega
            have HD0 := Lib.hid HQ7.out.1
            have HO0 := Lib.hid HQ7.out.2
            clear HQ7
            obtain ⟨ej, ei, e1_, g1⟩ : ∃ j i t, dK l st = ((j, i), t) := ⟨_, _, _, rfl⟩
            obtain ⟨en, e2_, g2⟩ : ∃ c t, rU l e1_ = (c, t) := ⟨_, _, rfl⟩
            obtain ⟨eq, e3_, g3⟩ : ∃ c t, dS l e2_ = (c, t) := ⟨_, _, rfl⟩
            have HXE : Hid (helDd l st = ((⟨ej, ei, en, Am.zero, [], eq, 0⟩ : El), e3_)) := Lib.hid (by unfold helDd; unfold dRK; simp only [g1, g2, g3])
            have HG1 := Lib.hid g1
            have HG2 := Lib.hid g2
            have HG3 := Lib.hid g3
            clear g1 g2 g3
            go_upto_region 31 with (go_at_call 104; refine (dtask_any (s := st) HD0.out.rd (by have := HLL.out; omega) HG1.out).mono ?_; rintro e wt9 ⟨rfl, hr, hf⟩; have HD1 := Lib.hid (HD0.out.call hr hf); have HO1 := Lib.hid (own_frp HO0.out hf (fun g hg e => by have := own_lo HO0.out hg; have := HD0.out.hb; omega)); clear hr hf)
            clear HD0 HO0
            obtain ⟨Z, hZ⟩ : ∃ Z, Z = wt9.heap.size := ⟨_, rfl⟩
            obtain ⟨wz9, hwz⟩ : ∃ x, x = wt9.alloc (.cells #[.string (bs ej), .int .i64 ei, .int .u64 0, .int .i64 0] 99) := ⟨_, rfl⟩
            have HE : Hid (De w B l wz9 e1_ R [.int .u64 0, .int .u64 0, .int .u64 0, .int .i64 0, .slice none 0 0, .slice none 0 0, .slice none 0 0] 44 Y [.int .u64 c1, .int .u64 c2, .int .u64 c3, .int .i64 c4, .slice q5 m5 cc5, .slice q6 m6 cc6, .slice q i cc] 44 [⟨88, 4, .slice q5 m5 cc5, m5, rwC helC c5⟩, ⟨95, 5, .slice q6 m6 cc6, m6, rwC finC c6⟩] A6 99 4 (.slice q i cc) i (rwC refC D) Z [.string (bs ej), .int .i64 ei, .int .u64 0, .int .i64 0] 99) := Lib.hid (by rw [hwz, hZ]; exact de_new (ZC := [.string (bs ej), .int .i64 ei, .int .u64 0, .int .i64 0]) HD1.out HO1.out)
            rw [← hwz, ← hZ]
            clear hwz hZ HD1 HO1
            go_upto_region 32 with (go_at_call 98; refine (dU (s := e1_) HE.out.1.rd (by have := HLL.out; omega) HG2.out).mono ?_; rintro e wt9_1 ⟨rfl, hr, hf⟩; have HEc := Lib.hid (HE.out.call hr hf); have fz2 := HEc.out.2.z.free 2; have yz2 := HEc.out.2.z.cell (j := 2) rfl; clear hr hf)
            clear HE
            refine at_hide (F := fun w' => De w B l w' e2_ R [.int .u64 0, .int .u64 0, .int .u64 0, .int .i64 0, .slice none 0 0, .slice none 0 0, .slice none 0 0] 44 Y [.int .u64 c1, .int .u64 c2, .int .u64 c3, .int .i64 c4, .slice q5 m5 cc5, .slice q6 m6 cc6, .slice q i cc] 44 [⟨88, 4, .slice q5 m5 cc5, m5, rwC helC c5⟩, ⟨95, 5, .slice q6 m6 cc6, m6, rwC finC c6⟩] A6 99 4 (.slice q i cc) i (rwC refC D) Z [.string (bs ej), .int .i64 ei, .int .u64 en, .int .i64 0] 99) (De.set HEc.out 2 (.int .u64 en)) ?_
            intro wz9_1 hF
            have HE := Lib.hid hF
            clear hF HEc fz2 yz2
            go_upto_region 33 with (go_at_call 100; refine (dsmall_any (s := e2_) HE.out.1.rd (by have := HLL.out; omega) HG3.out).mono ?_; rintro e wt9_2 ⟨rfl, hr, hf⟩; have HEc := Lib.hid (HE.out.call hr hf); have fz3 := HEc.out.2.z.free 3; have yz3 := HEc.out.2.z.cell (j := 3) rfl; clear hr hf)
            clear HE
            refine at_hide (F := fun w' => De w B l w' e3_ R [.int .u64 0, .int .u64 0, .int .u64 0, .int .i64 0, .slice none 0 0, .slice none 0 0, .slice none 0 0] 44 Y [.int .u64 c1, .int .u64 c2, .int .u64 c3, .int .i64 c4, .slice q5 m5 cc5, .slice q6 m6 cc6, .slice q i cc] 44 [⟨88, 4, .slice q5 m5 cc5, m5, rwC helC c5⟩, ⟨95, 5, .slice q6 m6 cc6, m6, rwC finC c6⟩] A6 99 4 (.slice q i cc) i (rwC refC D) Z [.string (bs ej), .int .i64 ei, .int .u64 en, .int .i64 eq] 99) (De.set HEc.out 3 (.int .i64 eq)) ?_
            intro wz9_2 hF
            have HE := Lib.hid hF
            clear hF HEc fz3 yz3
            have yz0 := HE.out.2.z.cell (j := 0) rfl
            have yz1 := HE.out.2.z.cell (j := 1) rfl
            have yz2 := HE.out.2.z.cell (j := 2) rfl
            have yz3 := HE.out.2.z.cell (j := 3) rfl
            have yY := HE.out.1.x.cell (j := 6) rfl
            go_wp2_with (at_builtin; refine wpList_app _ rfl _ _ 42 42 rfl A6 99 ixref (.agg #[.string ⟨#[]⟩, .int .i64 0, .int .u64 0, .int .i64 0]) 4 40 Tryz.underlying42 hiref hz0ref hz1ref hz2ref rfl _ i (rwC refC D) rfl (HE.out.2.own.alloc _) _ 1 [.string (bs ej), .int .i64 ei, .int .u64 en, .int .i64 eq] rfl (src_block Tryz.underlying42 _ _ ([.string (bs ej), .int .i64 ei, .int .u64 en, .int .i64 eq] : List Value).toArray (Blk.made _ ([.string (bs ej), .int .i64 ei, .int .u64 en, .int .i64 eq] : List Value) _) rfl (by intro u hu; simp at hu; rcases hu with rfl | rfl | rfl | rfl <;> rfl)) (by unfold maxLen; omega) (by omega) (by have := HE.out.1.sz; simp; omega) ?_; intro v6_ w6_ ho hg hnil; have HDa := Lib.hid (HE.out.1.append HE.out.2.own hg); obtain ⟨q6, c6_, rfl, -, -⟩ := own_slice ho; have HOa := Lib.hid ho; have fY := HDa.out.x.free 6; have yY2 := HDa.out.x.cell (j := 6) rfl; clear ho hg hnil)
            go_roundw
            case rel => exact ⟨i + 1, D ++ [⟨ej, ei, en, Am.zero, [], eq, 0⟩], e3_, q6, c6_, by go_num, hlt, Lib.hid (by rw [drN_snoc, HDN.out]; simp only [HXE.out]), Lib.hid ⟨HDa.out.setY 6 _, (by have h9 := own_setY HDa.out HOa.out 6 (.slice q6 (i + 1) c6_); rw [rwC_snoc]; exact h9)⟩⟩
            case measure => simp [intOf]; omega
        have i3 : i ≤ 256 := by have := HM6.out.1; omega
        have i0 : (0 : Int) ≤ (i : Int) := by omega
        have i1 : (i : Int) < (m6 : Int) := by omega
        have HD0 := Lib.hid HQ6.out.1
        have HO0 := Lib.hid HQ6.out.2
        clear HQ6
        obtain ⟨ev, e1_, g1⟩ : ∃ c t, rU l st = (c, t) := ⟨_, _, rfl⟩
        obtain ⟨ej, ei, e2_, g2⟩ : ∃ j i t, dK l e1_ = ((j, i), t) := ⟨_, _, _, rfl⟩
        obtain ⟨en, e3_, g3⟩ : ∃ c t, rU l e2_ = (c, t) := ⟨_, _, rfl⟩
        obtain ⟨eq, e4_, g4⟩ : ∃ c t, dS l e3_ = (c, t) := ⟨_, _, rfl⟩
        have HXE : Hid (finDd l st = ((⟨ej, ei, en, Am.zero, [], eq, ev⟩ : El), e4_)) := Lib.hid (by unfold finDd; unfold dRK; simp only [g1, g2, g3, g4])
        have HG1 := Lib.hid g1
        have HG2 := Lib.hid g2
        have HG3 := Lib.hid g3
        have HG4 := Lib.hid g4
        clear g1 g2 g3 g4
        go_upto_region 22 with (go_at_call 98; refine (dU (s := st) HD0.out.rd (by have := HLL.out; omega) HG1.out).mono ?_; rintro e wt7 ⟨rfl, hr, hf⟩; have HD1 := Lib.hid (HD0.out.call hr hf); have HO1 := Lib.hid (own_frp HO0.out hf (fun g hg e => by have := own_lo HO0.out hg; have := HD0.out.hb; omega)); clear hr hf)
        clear HD0 HO0
        obtain ⟨Z, hZ⟩ : ∃ Z, Z = wt7.heap.size := ⟨_, rfl⟩
        obtain ⟨wz7, hwz⟩ : ∃ x, x = wt7.alloc (.cells #[.int .u64 ev, .string ⟨#[]⟩, .int .i64 0, .int .u64 0, .int .i64 0] 95) := ⟨_, rfl⟩
        have HE : Hid (De w B l wz7 e1_ R [.int .u64 0, .int .u64 0, .int .u64 0, .int .i64 0, .slice none 0 0, .slice none 0 0, .slice none 0 0] 44 Y [.int .u64 c1, .int .u64 c2, .int .u64 c3, .int .i64 c4, .slice q5 m5 cc5, .slice q i cc, .slice none 0 0] 44 [⟨88, 4, .slice q5 m5 cc5, m5, rwC helC c5⟩] A5 95 5 (.slice q i cc) i (rwC finC D) Z [.int .u64 ev, .string ⟨#[]⟩, .int .i64 0, .int .u64 0, .int .i64 0] 95) := Lib.hid (by rw [hwz, hZ]; exact de_new (ZC := [.int .u64 ev, .string ⟨#[]⟩, .int .i64 0, .int .u64 0, .int .i64 0]) HD1.out HO1.out)
        rw [← hwz, ← hZ]
        clear hwz hZ HD1 HO1
        go_upto_region 23 with (go_at_call 104; refine (dtask_any (s := e1_) HE.out.1.rd (by have := HLL.out; omega) HG2.out).mono ?_; rintro e wt7_1 ⟨rfl, hr, hf⟩; have HEc := Lib.hid (HE.out.call hr hf); have fz1 := HEc.out.2.z.free 1; have yz1 := HEc.out.2.z.cell (j := 1) rfl; have fz2 := HEc.out.2.z.free 2; have yz2 := HEc.out.2.z.cell (j := 2) rfl; clear hr hf)
        clear HE
        refine at_hide (F := fun w' => De w B l w' e2_ R [.int .u64 0, .int .u64 0, .int .u64 0, .int .i64 0, .slice none 0 0, .slice none 0 0, .slice none 0 0] 44 Y [.int .u64 c1, .int .u64 c2, .int .u64 c3, .int .i64 c4, .slice q5 m5 cc5, .slice q i cc, .slice none 0 0] 44 [⟨88, 4, .slice q5 m5 cc5, m5, rwC helC c5⟩] A5 95 5 (.slice q i cc) i (rwC finC D) Z [.int .u64 ev, .string (bs ej), .int .i64 ei, .int .u64 0, .int .i64 0] 95) (De.set (De.set HEc.out 1 (.string (bs ej))) 2 (.int .i64 ei)) ?_
        intro wz7_1 hF
        have HE := Lib.hid hF
        clear hF HEc fz1 yz1 fz2 yz2
        go_upto_region 24 with (go_at_call 98; refine (dU (s := e2_) HE.out.1.rd (by have := HLL.out; omega) HG3.out).mono ?_; rintro e wt7_2 ⟨rfl, hr, hf⟩; have HEc := Lib.hid (HE.out.call hr hf); have fz3 := HEc.out.2.z.free 3; have yz3 := HEc.out.2.z.cell (j := 3) rfl; clear hr hf)
        clear HE
        refine at_hide (F := fun w' => De w B l w' e3_ R [.int .u64 0, .int .u64 0, .int .u64 0, .int .i64 0, .slice none 0 0, .slice none 0 0, .slice none 0 0] 44 Y [.int .u64 c1, .int .u64 c2, .int .u64 c3, .int .i64 c4, .slice q5 m5 cc5, .slice q i cc, .slice none 0 0] 44 [⟨88, 4, .slice q5 m5 cc5, m5, rwC helC c5⟩] A5 95 5 (.slice q i cc) i (rwC finC D) Z [.int .u64 ev, .string (bs ej), .int .i64 ei, .int .u64 en, .int .i64 0] 95) (De.set HEc.out 3 (.int .u64 en)) ?_
        intro wz7_2 hF
        have HE := Lib.hid hF
        clear hF HEc fz3 yz3
        go_upto_region 25 with (go_at_call 100; refine (dsmall_any (s := e3_) HE.out.1.rd (by have := HLL.out; omega) HG4.out).mono ?_; rintro e wt7_3 ⟨rfl, hr, hf⟩; have HEc := Lib.hid (HE.out.call hr hf); have fz4 := HEc.out.2.z.free 4; have yz4 := HEc.out.2.z.cell (j := 4) rfl; clear hr hf)
        clear HE
        refine at_hide (F := fun w' => De w B l w' e4_ R [.int .u64 0, .int .u64 0, .int .u64 0, .int .i64 0, .slice none 0 0, .slice none 0 0, .slice none 0 0] 44 Y [.int .u64 c1, .int .u64 c2, .int .u64 c3, .int .i64 c4, .slice q5 m5 cc5, .slice q i cc, .slice none 0 0] 44 [⟨88, 4, .slice q5 m5 cc5, m5, rwC helC c5⟩] A5 95 5 (.slice q i cc) i (rwC finC D) Z [.int .u64 ev, .string (bs ej), .int .i64 ei, .int .u64 en, .int .i64 eq] 95) (De.set HEc.out 4 (.int .i64 eq)) ?_
        intro wz7_3 hF
        have HE := Lib.hid hF
        clear hF HEc fz4 yz4
        have yz0 := HE.out.2.z.cell (j := 0) rfl
        have yz1 := HE.out.2.z.cell (j := 1) rfl
        have yz2 := HE.out.2.z.cell (j := 2) rfl
        have yz3 := HE.out.2.z.cell (j := 3) rfl
        have yz4 := HE.out.2.z.cell (j := 4) rfl
        have yY := HE.out.1.x.cell (j := 5) rfl
        go_wp2_with (at_builtin; refine wpList_app _ rfl _ _ 41 41 rfl A5 95 ixfin (.agg #[.int .u64 0, .string ⟨#[]⟩, .int .i64 0, .int .u64 0, .int .i64 0]) 5 48 Tryz.underlying41 hifin hz0fin hz1fin hz2fin rfl _ i (rwC finC D) rfl (HE.out.2.own.alloc _) _ 1 [.int .u64 ev, .string (bs ej), .int .i64 ei, .int .u64 en, .int .i64 eq] rfl (src_block Tryz.underlying41 _ _ ([.int .u64 ev, .string (bs ej), .int .i64 ei, .int .u64 en, .int .i64 eq] : List Value).toArray (Blk.made _ ([.int .u64 ev, .string (bs ej), .int .i64 ei, .int .u64 en, .int .i64 eq] : List Value) _) rfl (by intro u hu; simp at hu; rcases hu with rfl | rfl | rfl | rfl | rfl <;> rfl)) (by unfold maxLen; omega) (by omega) (by have := HE.out.1.sz; simp; omega) ?_; intro v6_ w6_ ho hg hnil; have HDa := Lib.hid (HE.out.1.append HE.out.2.own hg); obtain ⟨q6, c6_, rfl, -, -⟩ := own_slice ho; have HOa := Lib.hid ho; have fY := HDa.out.x.free 5; have yY2 := HDa.out.x.cell (j := 5) rfl; clear ho hg hnil)
        go_roundw
        case rel => exact ⟨i + 1, D ++ [⟨ej, ei, en, Am.zero, [], eq, ev⟩], e4_, q6, c6_, by go_num, hlt, Lib.hid (by rw [drN_snoc, HDN.out]; simp only [HXE.out]), Lib.hid ⟨HDa.out.setY 5 _, (by have h9 := own_setY HDa.out HOa.out 5 (.slice q6 (i + 1) c6_); rw [rwC_snoc]; exact h9)⟩⟩
        case measure => simp [intOf]; omega
    have i3 : i ≤ 256 := by have := HM5.out.1; omega
    have i0 : (0 : Int) ≤ (i : Int) := by omega
    have i1 : (i : Int) < (m5 : Int) := by omega
    have HD0 := Lib.hid HQ5.out.1
    have HO0 := Lib.hid HQ5.out.2
    clear HQ5
    obtain ⟨ej, ei, e1_, g1⟩ : ∃ j i t, dK l st = ((j, i), t) := ⟨_, _, _, rfl⟩
    obtain ⟨en, e2_, g2⟩ : ∃ c t, rU l e1_ = (c, t) := ⟨_, _, rfl⟩
    obtain ⟨eq, e3_, g3⟩ : ∃ c t, dS l e2_ = (c, t) := ⟨_, _, rfl⟩
    have HXE : Hid (helDd l st = ((⟨ej, ei, en, Am.zero, [], eq, 0⟩ : El), e3_)) := Lib.hid (by unfold helDd; unfold dRK; simp only [g1, g2, g3])
    have HG1 := Lib.hid g1
    have HG2 := Lib.hid g2
    have HG3 := Lib.hid g3
    clear g1 g2 g3
    go_upto_region 14 with (go_at_call 104; refine (dtask_any (s := st) HD0.out.rd (by have := HLL.out; omega) HG1.out).mono ?_; rintro e wt5 ⟨rfl, hr, hf⟩; have HD1 := Lib.hid (HD0.out.call hr hf); have HO1 := Lib.hid (own_frp HO0.out hf (fun g hg e => by have := own_lo HO0.out hg; have := HD0.out.hb; omega)); clear hr hf)
    clear HD0 HO0
    obtain ⟨Z, hZ⟩ : ∃ Z, Z = wt5.heap.size := ⟨_, rfl⟩
    obtain ⟨wz5, hwz⟩ : ∃ x, x = wt5.alloc (.cells #[.string (bs ej), .int .i64 ei, .int .u64 0, .int .i64 0] 88) := ⟨_, rfl⟩
    have HE : Hid (De w B l wz5 e1_ R [.int .u64 0, .int .u64 0, .int .u64 0, .int .i64 0, .slice none 0 0, .slice none 0 0, .slice none 0 0] 44 Y [.int .u64 c1, .int .u64 c2, .int .u64 c3, .int .i64 c4, .slice q i cc, .slice none 0 0, .slice none 0 0] 44 [] A 88 4 (.slice q i cc) i (rwC helC D) Z [.string (bs ej), .int .i64 ei, .int .u64 0, .int .i64 0] 88) := Lib.hid (by rw [hwz, hZ]; exact de_new (ZC := [.string (bs ej), .int .i64 ei, .int .u64 0, .int .i64 0]) HD1.out HO1.out)
    rw [← hwz, ← hZ]
    clear hwz hZ HD1 HO1
    go_upto_region 15 with (go_at_call 98; refine (dU (s := e1_) HE.out.1.rd (by have := HLL.out; omega) HG2.out).mono ?_; rintro e wt5_1 ⟨rfl, hr, hf⟩; have HEc := Lib.hid (HE.out.call hr hf); have fz2 := HEc.out.2.z.free 2; have yz2 := HEc.out.2.z.cell (j := 2) rfl; clear hr hf)
    clear HE
    refine at_hide (F := fun w' => De w B l w' e2_ R [.int .u64 0, .int .u64 0, .int .u64 0, .int .i64 0, .slice none 0 0, .slice none 0 0, .slice none 0 0] 44 Y [.int .u64 c1, .int .u64 c2, .int .u64 c3, .int .i64 c4, .slice q i cc, .slice none 0 0, .slice none 0 0] 44 [] A 88 4 (.slice q i cc) i (rwC helC D) Z [.string (bs ej), .int .i64 ei, .int .u64 en, .int .i64 0] 88) (De.set HEc.out 2 (.int .u64 en)) ?_
    intro wz5_1 hF
    have HE := Lib.hid hF
    clear hF HEc fz2 yz2
    go_upto_region 16 with (go_at_call 100; refine (dsmall_any (s := e2_) HE.out.1.rd (by have := HLL.out; omega) HG3.out).mono ?_; rintro e wt5_2 ⟨rfl, hr, hf⟩; have HEc := Lib.hid (HE.out.call hr hf); have fz3 := HEc.out.2.z.free 3; have yz3 := HEc.out.2.z.cell (j := 3) rfl; clear hr hf)
    clear HE
    refine at_hide (F := fun w' => De w B l w' e3_ R [.int .u64 0, .int .u64 0, .int .u64 0, .int .i64 0, .slice none 0 0, .slice none 0 0, .slice none 0 0] 44 Y [.int .u64 c1, .int .u64 c2, .int .u64 c3, .int .i64 c4, .slice q i cc, .slice none 0 0, .slice none 0 0] 44 [] A 88 4 (.slice q i cc) i (rwC helC D) Z [.string (bs ej), .int .i64 ei, .int .u64 en, .int .i64 eq] 88) (De.set HEc.out 3 (.int .i64 eq)) ?_
    intro wz5_2 hF
    have HE := Lib.hid hF
    clear hF HEc fz3 yz3
    have yz0 := HE.out.2.z.cell (j := 0) rfl
    have yz1 := HE.out.2.z.cell (j := 1) rfl
    have yz2 := HE.out.2.z.cell (j := 2) rfl
    have yz3 := HE.out.2.z.cell (j := 3) rfl
    have yY := HE.out.1.x.cell (j := 4) rfl
    go_wp2_with (at_builtin; refine wpList_app _ rfl _ _ 40 40 rfl A 88 ixhel (.agg #[.string ⟨#[]⟩, .int .i64 0, .int .u64 0, .int .i64 0]) 4 40 Tryz.underlying40 hihel hz0hel hz1hel hz2hel rfl _ i (rwC helC D) rfl (HE.out.2.own.alloc _) _ 1 [.string (bs ej), .int .i64 ei, .int .u64 en, .int .i64 eq] rfl (src_block Tryz.underlying40 _ _ ([.string (bs ej), .int .i64 ei, .int .u64 en, .int .i64 eq] : List Value).toArray (Blk.made _ ([.string (bs ej), .int .i64 ei, .int .u64 en, .int .i64 eq] : List Value) _) rfl (by intro u hu; simp at hu; rcases hu with rfl | rfl | rfl | rfl <;> rfl)) (by unfold maxLen; omega) (by omega) (by have := HE.out.1.sz; simp; omega) ?_; intro v6_ w6_ ho hg hnil; have HDa := Lib.hid (HE.out.1.append HE.out.2.own hg); obtain ⟨q6, c6_, rfl, -, -⟩ := own_slice ho; have HOa := Lib.hid ho; have fY := HDa.out.x.free 4; have yY2 := HDa.out.x.cell (j := 4) rfl; clear ho hg hnil)
    go_roundw
    case rel => exact ⟨i + 1, D ++ [⟨ej, ei, en, Am.zero, [], eq, 0⟩], e3_, q6, c6_, by go_num, hlt, Lib.hid (by rw [drN_snoc, HDN.out]; simp only [HXE.out]), Lib.hid ⟨HDa.out.setY 4 _, (by have h9 := own_setY HDa.out HOa.out 4 (.slice q6 (i + 1) c6_); rw [rwC_snoc]; exact h9)⟩⟩
    case measure => simp [intOf]; omega
end Go.Proofs.YtopkfomlppnpeaaGreatDoor.Ms
