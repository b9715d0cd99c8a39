/- MsRead. -/
import Derived.Test.YtopkfomlppnpeaaGreatDoorMsRdB
import Derived.Test.YtopkfomlppnpeaaGreatDoorMsChk
namespace Go.Proofs.YtopkfomlppnpeaaGreatDoor.Ms
open Go.RowKit Go.Proofs.YtopkfomlppnpeaaGreatDoor

theorem opn_len (b ks : List UInt8) : (opn b ks).2.1.length ≤ b.length := by
  unfold opn
  split
  · simp
  · split
    · simp
    · unfold frd
      split
      · simp
      · split
        · simp
        · split
          · simp
          · split
            · simp
            · simp only [List.length_take, List.length_drop]; omega
theorem ow_frp {w w' : World} {b X R n m : Nat} {T t : TypeId} {v : Value} {C cs : List Value} (h : Ow w b X T n v m C) (hR : Blk w R cs t) (ht : t ≠ T) (hf : Frp (fun k => k = R) w w') : Ow w' b X T n v m C := by
  obtain ⟨a, h1, h2, h3⟩ := h
  exact ⟨a, h1, h2, own_frp h3 hf (fun g hg e => own_ty h3 hR ht (by rw [← e]; exact hg))⟩
def readPF (b : List UInt8) (w : World) (e : Ending) (w' : World) : Prop := Below w.heap.size w w' ∧ ((readP b).2 ≠ 0 → e = .returned (.tuple #[poV zeP (.slice none 0 0) (.slice none 0 0) (.slice none 0 0), .int .i64 ((readP b).2 : Nat)])) ∧ ((readP b).2 = 0 → ∃ vk vt vs, e = .returned (.tuple #[poV (readP b).1 vk vt vs, .int .i64 0]) ∧ PoW w' (readP b).1 vk vt vs)
set_option maxRecDepth 100000 in
set_option maxHeartbeats 4000000 in
theorem readP_any (v : Value) (b : List UInt8) (w : World) (h : Rd w v b) (hl : b.length ≤ 1000000000) (hE : ErrV w) : Calls Tryz.prog 19 #[v] w (readPF b w) := by
  obtain ⟨p, c, rfl⟩ := rd_slice h
  obtain ⟨n, hn⟩ : ∃ n, n = b.length := ⟨_, rfl⟩
  obtain ⟨R, hR⟩ : ∃ R, R = w.heap.size := ⟨_, rfl⟩
  obtain ⟨w1, hw1⟩ : ∃ w1, w1 = w.alloc (.cells #[.int .u64 0, .int .u64 0, .int .u64 0, .int .i64 0, .int .i64 0, .slice none 0 0, .slice none 0 0, .slice none 0 0, .int .u64 0] 32) := ⟨_, rfl⟩
  have HR1 : Hid (Blk w1 R [.int .u64 0, .int .u64 0, .int .u64 0, .int .i64 0, .int .i64 0, .slice none 0 0, .slice none 0 0, .slice none 0 0, .int .u64 0] 32) := Lib.hid (by rw [hw1, hR]; exact Blk.made w [.int .u64 0, .int .u64 0, .int .u64 0, .int .i64 0, .int .i64 0, .slice none 0 0, .slice none 0 0, .slice none 0 0, .int .u64 0] _)
  have HB1 : Hid (Below w.heap.size w w1) := Lib.hid (by rw [hw1]; exact below_alloc _ _)
  have HOP : Hid (Calls Tryz.prog 41 #[.slice p n c, .slice (some ⟨w1.heap.size, 0, none⟩) 1 1] (w1.alloc (.cells #[.int .u8 3] 5)) (OpF b [3] (w1.alloc (.cells #[.int .u8 3] 5)))) := Lib.hid (open_any _ _ b [3] _ (by rw [hw1, hn]; exact (h.below (below_alloc _ _)).below (below_alloc _ _)) (rd_blk (l := [3]) (Blk.made w1 [.int .u8 3] _) (by simp)) hl (by simp))
  have HRR := Lib.hid hR
  have HEV := Lib.hid hE
  rw [← hn] at hl ⊢
  have HNL : Hid (n ≤ 1000000000 ∧ n = b.length) := Lib.hid ⟨hl, hn⟩
  clear h hn hE
  go_enter Tryz.func19, Tryz.ntmps19
  go_upto_region 1 with fail
  rw [← hw1, ← hR]
  clear hw1 hR
  obtain ⟨kd, l, er, hop⟩ : ∃ kd l er, opn b [3] = (kd, l, er) := ⟨_, _, _, rfl⟩
  have HOE := Lib.hid hop
  by_cases he : er = 0
  rotate_left
  · have HE0 : Hid (er ≠ 0) := Lib.hid he
    have HQ : Hid (readP b = (zeP, er)) := Lib.hid (by unfold readP; rw [HOE.out, if_pos he])
    have t0 : ((er : Int) != 0) = true := by simp; omega
    have t1 : (er != 0) = true := by simp; omega
    have HC2 := Lib.hid (HOP.out.mono (R' := fun e w' => e = .returned (.tuple #[.agg #[.int .u8 0, .slice none 0 0], .int .i64 er]) ∧ Below w1.heap.size w1 w') fun e w' h9 => by unfold OpF at h9; rw [HOE.out] at h9; exact ⟨h9.2.1 he, below_and (below_alloc _ _) h9.1⟩)
    clear hop HOE HOP he
    go_upto_region 2 with (go_at_call 41; refine HC2.out.mono ?_; rintro e w2 ⟨rfl, hb⟩; have HB12 := Lib.hid hb; clear hb)
    obtain ⟨w3, hw3⟩ : ∃ w3, w3 = w2.alloc (.cells #[.int .u8 0, .slice none 0 0] 79) := ⟨_, rfl⟩
    have HB13 : Hid (Below w1.heap.size w1 w3) := Lib.hid (by rw [hw3]; exact below_and HB12.out (below_alloc _ _))
    rw [← hw3]
    clear hw3
    have HX3 := Lib.hid (HR1.out.kept HB13.out)
    have HF3 : Hid (Frp (fun k => k = R) w w3) := Lib.hid ((Frp.of_below HB1.out _).next HB13.out)
    have fx0 := HX3.out.free 0
    have fx1 := HX3.out.free 1
    have fx2 := HX3.out.free 2
    have fx3 := HX3.out.free 3
    have fx4 := HX3.out.free 4
    have fx5 := HX3.out.free 5
    have fx6 := HX3.out.free 6
    have fx7 := HX3.out.free 7
    have fx8 := HX3.out.free 8
    have yx0 := HX3.out.cell (j := 0) rfl
    have yx1 := HX3.out.cell (j := 1) rfl
    have yx2 := HX3.out.cell (j := 2) rfl
    have yx3 := HX3.out.cell (j := 3) rfl
    have yx4 := HX3.out.cell (j := 4) rfl
    have yx5 := HX3.out.cell (j := 5) rfl
    have yx6 := HX3.out.cell (j := 6) rfl
    have yx7 := HX3.out.cell (j := 7) rfl
    have yx8 := HX3.out.cell (j := 8) rfl
    go_wp2
    refine ret_cell rfl rfl rfl (Blk.set (Blk.set (Blk.set (Blk.set (Blk.set (Blk.set (Blk.set (Blk.set (Blk.set HX3.out 0 (.int .u64 0)) 1 (.int .u64 0)) 2 (.int .u64 0)) 3 (.int .i64 0)) 4 (.int .i64 0)) 5 (.slice none 0 0)) 6 (.slice none 0 0)) 7 (.slice none 0 0)) 8 (.int .u64 0)) Tryz.underlying32 rfl (by kernel_rfl) ?_
    unfold readPF
    rw [HQ.out]
    exact ⟨(frp_setX (frp_setX (frp_setX (frp_setX (frp_setX (frp_setX (frp_setX (frp_setX (frp_setX HF3.out 0 (.int .u64 0)) 1 (.int .u64 0)) 2 (.int .u64 0)) 3 (.int .i64 0)) 4 (.int .i64 0)) 5 (.slice none 0 0)) 6 (.slice none 0 0)) 7 (.slice none 0 0)) 8 (.int .u64 0)).below (fun k hk => by rw [hk, HRR.out]; exact Nat.le_refl _) (Nat.le_refl _), fun _ => rfl, fun h9 => absurd h9 HE0.out⟩
  subst he
  obtain ⟨bn, hbn⟩ : ∃ bn, bn = l.length := ⟨_, rfl⟩
  have HBN := Lib.hid hbn
  have HLL : Hid (l.length ≤ 1000000000) := Lib.hid (by have h9 := opn_len b [3]; rw [HOE.out] at h9; have := HNL.out; simp only at h9; omega)
  have HC2 := Lib.hid (HOP.out.mono (R' := fun e w' => ∃ pz qz, e = .returned (.tuple #[.agg #[.int .u8 (kd.toNat : Int), .slice pz bn qz], .int .i64 0]) ∧ Fresh w1.heap.size w' (.slice pz bn qz) l ∧ Below w1.heap.size w1 w') fun e w' h9 => by
    unfold OpF at h9
    rw [HOE.out] at h9
    obtain ⟨h1, -, h3⟩ := h9
    obtain ⟨vb, h4, h5⟩ := h3 rfl
    obtain ⟨pz, qz, rfl⟩ := fresh_slice h5
    rw [← hbn] at h4 h5
    exact ⟨pz, qz, h4, Fresh.mono h5 (below_alloc w1 _).size, below_and (below_alloc _ _) h1⟩)
  clear hbn HOP hop
  obtain ⟨c1, t1, e1⟩ : ∃ c t, rU l (0, 0) = (c, t) := ⟨_, _, rfl⟩
  obtain ⟨c2, t2, e2⟩ : ∃ c t, rU l t1 = (c, t) := ⟨_, _, rfl⟩
  obtain ⟨c3, t3, e3⟩ : ∃ c t, rU l t2 = (c, t) := ⟨_, _, rfl⟩
  obtain ⟨c4, t4, e4⟩ : ∃ c t, rI l t3 = (c, t) := ⟨_, _, rfl⟩
  obtain ⟨c5, t5, e5⟩ : ∃ c t, rC 1073741824 l t4 = (c, t) := ⟨_, _, rfl⟩
  obtain ⟨c6, t6, e6⟩ : ∃ c t, rL envRd l t5 = (c, t) := ⟨_, _, rfl⟩
  obtain ⟨c7, t7, e7⟩ : ∃ c t, rL staRd l t6 = (c, t) := ⟨_, _, rfl⟩
  obtain ⟨c8, t8, e8⟩ : ∃ c t, rL stoRd l t7 = (c, t) := ⟨_, _, rfl⟩
  obtain ⟨c9, t9, e9⟩ : ∃ c t, rU l t8 = (c, t) := ⟨_, _, rfl⟩
  have HA : Hid (rdP l = (⟨c1, c2, c3, c4, c5, c6, c7, c8, c9⟩, t9)) := Lib.hid (by unfold rdP; simp only [e1, e2, e3, e4, e5, e6, e7, e8, e9])
  have H1 := Lib.hid (fun w' b' (h : Rdr w' b' l 0 0) => cU (s := (0, 0)) h (by have := HLL.out; omega) e1)
  have H2 := Lib.hid (fun w' b' (h : Rdr w' b' l t1.1 t1.2) => cU (s := t1) h (by have := HLL.out; omega) e2)
  have H3 := Lib.hid (fun w' b' (h : Rdr w' b' l t2.1 t2.2) => cU (s := t2) h (by have := HLL.out; omega) e3)
  have H4 := Lib.hid (fun w' b' (h : Rdr w' b' l t3.1 t3.2) => cI (s := t3) h (by have := HLL.out; omega) e4)
  have H5 := Lib.hid (fun w' b' (h : Rdr w' b' l t4.1 t4.2) => small_any (s := t4) h (by have := HLL.out; omega) e5)
  have H6 := Lib.hid (fun w' b' (h : Rdr w' b' l t5.1 t5.2) => envS_any (s := t5) h (by have := HLL.out; omega) e6)
  have H7 := Lib.hid (fun w' b' (h : Rdr w' b' l t6.1 t6.2) => staS_any (s := t6) h (by have := HLL.out; omega) e7)
  have H8 := Lib.hid (fun w' b' (h : Rdr w' b' l t7.1 t7.2) => stoS_any (s := t7) h (by have := HLL.out; omega) e8)
  have H9 := Lib.hid (fun w' b' (h : Rdr w' b' l t8.1 t8.2) => cU (s := t8) h (by have := HLL.out; omega) e9)
  clear e1 e2 e3 e4 e5 e6 e7 e8 e9
  go_upto_region 2 with (go_at_call 41; refine HC2.out.mono ?_; rintro e w2 ⟨pz, qz, rfl, hfs, hb⟩; have HB12 := Lib.hid hb; have HO2 := Lib.hid hfs; clear hb hfs)
  obtain ⟨FB, hFB⟩ : ∃ FB, FB = w2.heap.size := ⟨_, rfl⟩
  obtain ⟨w3, hw3⟩ : ∃ w3, w3 = w2.alloc (.cells #[.int .u8 (kd.toNat : Int), .slice pz bn qz] 79) := ⟨_, rfl⟩
  have HF3 : Hid (Blk w3 FB [.int .u8 (kd.toNat : Int), .slice pz bn qz] 79) := Lib.hid (by rw [hw3, hFB]; exact Blk.made w2 [_, _] _)
  have HB13 : Hid (Below w1.heap.size w1 w3) := Lib.hid (by rw [hw3]; exact below_and HB12.out (below_alloc _ _))
  have HO3 : Hid (Fresh w1.heap.size w3 (.slice pz bn qz) l) := Lib.hid (by rw [hw3]; exact own_keep HO2.out (below_alloc _ _))
  rw [← hw3, ← hFB]
  clear hw3 hFB
  have fF0 := HF3.out.free 0
  have fF1 := HF3.out.free 1
  have yF0 := HF3.out.cell (j := 0) rfl
  have yF1 := HF3.out.cell (j := 1) rfl
  have HNW : Hid (Calls Tryz.prog 42 #[.slice pz bn qz] w3 fun e w' => e = .returned (ptr w3.heap.size) ∧ Rdr w' w3.heap.size l 0 0 ∧ Below w3.heap.size w3 w') := Lib.hid (new_any _ l w3 (by have h9 := HO3.out.rd; exact h9) (fun k hk _ => own_hi HO3.out hk))
  obtain ⟨B, hB⟩ : ∃ B, B = w3.heap.size := ⟨_, rfl⟩
  rw [← hB] at HNW
  have HBE := Lib.hid hB
  clear hB
  go_upto_region 5 with (go_at_call 42; refine HNW.out.mono ?_; rintro e w4 ⟨rfl, hr, hb⟩; have HR4 := Lib.hid hr; have HB14 : Hid (Below w1.heap.size w1 w4) := Lib.hid (HB13.out.trans (hb.mono (by have := HB13.out.size; have := HBE.out; omega))); have HBB := Lib.hid hb; clear hr hb)
  clear fF0 yF0 fF1 yF1
  go_upto_region 6 with (go_at_call 43; refine (H1.out _ _ HR4.out).mono ?_; rintro e w5 ⟨rfl, hr, hf⟩; have HR5 := Lib.hid hr; have HF5 := Lib.hid hf; clear hr hf)
  obtain ⟨Y, hY⟩ : ∃ Y, Y = w5.heap.size := ⟨_, rfl⟩
  obtain ⟨v6, hv6⟩ : ∃ v6, v6 = w5.alloc (.cells #[.int .u64 c1, .int .u64 0, .int .u64 0, .int .i64 0, .int .i64 0, .slice none 0 0, .slice none 0 0, .slice none 0 0, .int .u64 0] 32) := ⟨_, rfl⟩
  have HG0 : Hid (Gp w B l v6 t1 R [.int .u64 0, .int .u64 0, .int .u64 0, .int .i64 0, .int .i64 0, .slice none 0 0, .slice none 0 0, .slice none 0 0, .int .u64 0] 32 Y [.int .u64 c1, .int .u64 0, .int .u64 0, .int .i64 0, .int .i64 0, .slice none 0 0, .slice none 0 0, .slice none 0 0, .int .u64 0] 32) := Lib.hid (by
    have h1 := HB1.out.size
    have h2 := HB14.out.size
    have h3 := Rdr.lt HR5.out
    have h4 := HF5.out.size
    have h5 := HR1.out.lt
    have h6 := HB13.out.size
    have h7 := HBE.out
    have h8 := HRR.out
    rw [hv6, hY]
    exact ⟨Rdr.kept HR5.out (below_alloc _ _), ((HR1.out.kept HB14.out).frp HF5.out (fun e => by omega)).alloc _, Blk.made w5 [.int .u64 c1, .int .u64 0, .int .u64 0, .int .i64 0, .int .i64 0, .slice none 0 0, .slice none 0 0, .slice none 0 0, .int .u64 0] _, ((below_and HB1.out HB14.out).trans (HF5.out.below (fun k hk => by omega) (by omega))).trans ((below_alloc w5 _).mono (by omega)), ⟨by omega, h3, by omega, by omega⟩, by omega, by omega⟩)
  rw [← hv6, ← hY]
  clear hv6 hY HR4 HR5 HF5 HBB HNW HO3 HF3 HB12 HC2 HB14
  go_upto_region 7 with (go_at_call 43; refine (H2.out _ _ HG0.out.rd).mono ?_; rintro e s2 ⟨rfl, hr, hf⟩; have HZ := Lib.hid (HG0.out.call hr hf); have fx1 := HZ.out.x.free 1; have yx1 := HZ.out.x.cell (j := 1) rfl; clear hr hf)
  refine at_hide (F := fun w' => Gp w B l w' t2 R [.int .u64 0, .int .u64 0, .int .u64 0, .int .i64 0, .int .i64 0, .slice none 0 0, .slice none 0 0, .slice none 0 0, .int .u64 0] 32 Y [.int .u64 c1, .int .u64 c2, .int .u64 0, .int .i64 0, .int .i64 0, .slice none 0 0, .slice none 0 0, .slice none 0 0, .int .u64 0] 32) (HZ.out.setX 1 (.int .u64 c2)) ?_
  intro u2 hF
  have HG2 := Lib.hid hF
  clear hF HZ fx1 yx1
  go_upto_region 8 with (go_at_call 43; refine (H3.out _ _ HG2.out.rd).mono ?_; rintro e s3 ⟨rfl, hr, hf⟩; have HZ := Lib.hid (HG2.out.call hr hf); have fx2 := HZ.out.x.free 2; have yx2 := HZ.out.x.cell (j := 2) rfl; clear hr hf)
  refine at_hide (F := fun w' => Gp w B l w' t3 R [.int .u64 0, .int .u64 0, .int .u64 0, .int .i64 0, .int .i64 0, .slice none 0 0, .slice none 0 0, .slice none 0 0, .int .u64 0] 32 Y [.int .u64 c1, .int .u64 c2, .int .u64 c3, .int .i64 0, .int .i64 0, .slice none 0 0, .slice none 0 0, .slice none 0 0, .int .u64 0] 32) (HZ.out.setX 2 (.int .u64 c3)) ?_
  intro u3 hF
  have HG3 := Lib.hid hF
  clear hF HZ fx2 yx2
  go_upto_region 9 with (go_at_call 44; refine (H4.out _ _ HG3.out.rd).mono ?_; rintro e s4 ⟨rfl, hr, hf⟩; have HZ := Lib.hid (HG3.out.call hr hf); have fx3 := HZ.out.x.free 3; have yx3 := HZ.out.x.cell (j := 3) rfl; clear hr hf)
  refine at_hide (F := fun w' => Gp w B l w' t4 R [.int .u64 0, .int .u64 0, .int .u64 0, .int .i64 0, .int .i64 0, .slice none 0 0, .slice none 0 0, .slice none 0 0, .int .u64 0] 32 Y [.int .u64 c1, .int .u64 c2, .int .u64 c3, .int .i64 c4, .int .i64 0, .slice none 0 0, .slice none 0 0, .slice none 0 0, .int .u64 0] 32) (HZ.out.setX 3 (.int .i64 c4)) ?_
  intro u4 hF
  have HG4 := Lib.hid hF
  clear hF HZ fx3 yx3
  go_upto_region 10 with (go_at_call 48; refine (H5.out _ _ HG4.out.rd).mono ?_; rintro e s5 ⟨rfl, hr, hf⟩; have HZ := Lib.hid (HG4.out.call hr hf); have fx4 := HZ.out.x.free 4; have yx4 := HZ.out.x.cell (j := 4) rfl; clear hr hf)
  refine at_hide (F := fun w' => Gp w B l w' t5 R [.int .u64 0, .int .u64 0, .int .u64 0, .int .i64 0, .int .i64 0, .slice none 0 0, .slice none 0 0, .slice none 0 0, .int .u64 0] 32 Y [.int .u64 c1, .int .u64 c2, .int .u64 c3, .int .i64 c4, .int .i64 c5, .slice none 0 0, .slice none 0 0, .slice none 0 0, .int .u64 0] 32) (HZ.out.setX 4 (.int .i64 c5)) ?_
  intro u5 hF
  have HG5 := Lib.hid hF
  clear hF HZ fx4 yx4
  go_upto_region 11 with (go_at_call 89; refine (H6.out _ _ HG5.out.rd).mono ?_; rintro e s6 ⟨vv, rfl, ho, hr, hf⟩; obtain ⟨p15, q15, rfl, -, -⟩ := own_slice ho; have HW5 : Hid (Ow s6 B Y 66 5 (.slice p15 c6.length q15) c6.length (rwC envC c6)) := Lib.hid ⟨_, (gp_lt HG5.out).1, (gp_lt HG5.out).2, ho⟩; have HZ := Lib.hid (HG5.out.call hr hf); have fx5 := HZ.out.x.free 5; have yx5 := HZ.out.x.cell (j := 5) rfl; clear hr hf ho)
  refine at_hide (F := fun w' => Gp w B l w' t6 R [.int .u64 0, .int .u64 0, .int .u64 0, .int .i64 0, .int .i64 0, .slice none 0 0, .slice none 0 0, .slice none 0 0, .int .u64 0] 32 Y [.int .u64 c1, .int .u64 c2, .int .u64 c3, .int .i64 c4, .int .i64 c5, .slice p15 c6.length q15, .slice none 0 0, .slice none 0 0, .int .u64 0] 32 ∧ Ow w' B Y 66 5 (.slice p15 c6.length q15) c6.length (rwC envC c6)) ⟨HZ.out.setX 5 (.slice p15 c6.length q15), HW5.out.setX 5 _⟩ ?_
  intro u6 hF
  obtain ⟨hF, hW5⟩ := hF
  have HG6 := Lib.hid hF
  have HW5 := Lib.hid hW5
  clear hF HZ fx5 yx5 hW5
  go_upto_region 12 with (go_at_call 93; refine (H7.out _ _ HG6.out.rd).mono ?_; rintro e s7 ⟨vv, rfl, ho, hr, hf⟩; obtain ⟨p16, q16, rfl, -, -⟩ := own_slice ho; have HW6 : Hid (Ow s7 B Y 39 8 (.slice p16 c7.length q16) c7.length (rwC staC c7)) := Lib.hid ⟨_, (gp_lt HG6.out).1, (gp_lt HG6.out).2, ho⟩; have HZ := Lib.hid (HG6.out.call hr hf); have HW5 := Lib.hid (HW5.out.call hf); have fx6 := HZ.out.x.free 6; have yx6 := HZ.out.x.cell (j := 6) rfl; clear hr hf ho)
  refine at_hide (F := fun w' => Gp w B l w' t7 R [.int .u64 0, .int .u64 0, .int .u64 0, .int .i64 0, .int .i64 0, .slice none 0 0, .slice none 0 0, .slice none 0 0, .int .u64 0] 32 Y [.int .u64 c1, .int .u64 c2, .int .u64 c3, .int .i64 c4, .int .i64 c5, .slice p15 c6.length q15, .slice p16 c7.length q16, .slice none 0 0, .int .u64 0] 32 ∧ Ow w' B Y 66 5 (.slice p15 c6.length q15) c6.length (rwC envC c6) ∧ Ow w' B Y 39 8 (.slice p16 c7.length q16) c7.length (rwC staC c7)) ⟨HZ.out.setX 6 (.slice p16 c7.length q16), HW5.out.setX 6 _, HW6.out.setX 6 _⟩ ?_
  intro u7 hF
  obtain ⟨hF, hW5, hW6⟩ := hF
  have HG7 := Lib.hid hF
  have HW5 := Lib.hid hW5
  have HW6 := Lib.hid hW6
  clear hF HZ fx6 yx6 hW5 hW6
  go_upto_region 13 with (go_at_call 95; refine (H8.out _ _ HG7.out.rd).mono ?_; rintro e s8 ⟨vv, rfl, ho, hr, hf⟩; obtain ⟨p17, q17, rfl, -, -⟩ := own_slice ho; have HW7 : Hid (Ow s8 B Y 75 3 (.slice p17 c8.length q17) c8.length (rwC stoC c8)) := Lib.hid ⟨_, (gp_lt HG7.out).1, (gp_lt HG7.out).2, ho⟩; have HZ := Lib.hid (HG7.out.call hr hf); have HW5 := Lib.hid (HW5.out.call hf); have HW6 := Lib.hid (HW6.out.call hf); have fx7 := HZ.out.x.free 7; have yx7 := HZ.out.x.cell (j := 7) rfl; clear hr hf ho)
  refine at_hide (F := fun w' => Gp w B l w' t8 R [.int .u64 0, .int .u64 0, .int .u64 0, .int .i64 0, .int .i64 0, .slice none 0 0, .slice none 0 0, .slice none 0 0, .int .u64 0] 32 Y [.int .u64 c1, .int .u64 c2, .int .u64 c3, .int .i64 c4, .int .i64 c5, .slice p15 c6.length q15, .slice p16 c7.length q16, .slice p17 c8.length q17, .int .u64 0] 32 ∧ Ow w' B Y 66 5 (.slice p15 c6.length q15) c6.length (rwC envC c6) ∧ Ow w' B Y 39 8 (.slice p16 c7.length q16) c7.length (rwC staC c7) ∧ Ow w' B Y 75 3 (.slice p17 c8.length q17) c8.length (rwC stoC c8)) ⟨HZ.out.setX 7 (.slice p17 c8.length q17), HW5.out.setX 7 _, HW6.out.setX 7 _, HW7.out.setX 7 _⟩ ?_
  intro u8 hF
  obtain ⟨hF, hW5, hW6, hW7⟩ := hF
  have HG8 := Lib.hid hF
  have HW5 := Lib.hid hW5
  have HW6 := Lib.hid hW6
  have HW7 := Lib.hid hW7
  clear hF HZ fx7 yx7 hW5 hW6 hW7
  go_upto_region 14 with (go_at_call 43; refine (H9.out _ _ HG8.out.rd).mono ?_; rintro e s9 ⟨rfl, hr, hf⟩; have HZ := Lib.hid (HG8.out.call hr hf); have HW5 := Lib.hid (HW5.out.call hf); have HW6 := Lib.hid (HW6.out.call hf); have HW7 := Lib.hid (HW7.out.call hf); have fx8 := HZ.out.x.free 8; have yx8 := HZ.out.x.cell (j := 8) rfl; clear hr hf)
  refine at_hide (F := fun w' => Gp w B l w' t9 R [.int .u64 0, .int .u64 0, .int .u64 0, .int .i64 0, .int .i64 0, .slice none 0 0, .slice none 0 0, .slice none 0 0, .int .u64 0] 32 Y [.int .u64 c1, .int .u64 c2, .int .u64 c3, .int .i64 c4, .int .i64 c5, .slice p15 c6.length q15, .slice p16 c7.length q16, .slice p17 c8.length q17, .int .u64 c9] 32 ∧ Ow w' B Y 66 5 (.slice p15 c6.length q15) c6.length (rwC envC c6) ∧ Ow w' B Y 39 8 (.slice p16 c7.length q16) c7.length (rwC staC c7) ∧ Ow w' B Y 75 3 (.slice p17 c8.length q17) c8.length (rwC stoC c8)) ⟨HZ.out.setX 8 (.int .u64 c9), HW5.out.setX 8 _, HW6.out.setX 8 _, HW7.out.setX 8 _⟩ ?_
  intro u9 hF
  obtain ⟨hF, hW5, hW6, hW7⟩ := hF
  have HG9 := Lib.hid hF
  have HW5 := Lib.hid hW5
  have HW6 := Lib.hid hW6
  have HW7 := Lib.hid hW7
  clear hF HZ fx8 yx8 hW5 hW6 hW7
  obtain ⟨dn, hdn⟩ : ∃ dn, dn = Wire.done l t9.1 t9.2 := ⟨_, rfl⟩
  have HD := Lib.hid (fun w' (h : Rdr w' B l t9.1 t9.2) => ((done_any B l t9.1 t9.2 w' h).mono fun _ _ hm => rf_of (v' := .int .i64 dn) (s' := (t9.1, dn)) (by rw [hdn]) (by rw [hdn]) hm))
  have HDE := Lib.hid hdn
  clear hdn H1 H2 H3 H4 H5 H6 H7 H8 H9
  have HRD : Hid (readP b = if dn ≠ 0 ∨ checkP ⟨c1, c2, c3, c4, c5, c6, c7, c8, c9⟩ = false then (zeP, 5) else (⟨c1, c2, c3, c4, c5, c6, c7, c8, c9⟩, 0)) := Lib.hid (by unfold readP; rw [HOE.out, if_neg (by simp), HA.out, ← HDE.out])
  have HE0 : Hid (5 ≠ 0) := Lib.hid (by decide)
  by_cases hd0 : dn = 0
  rotate_left
  · have HQ : Hid (readP b = (zeP, 5)) := Lib.hid (by rw [HRD.out, if_pos (.inl hd0)])
    have t0 : (dn != 0) = true := by simpa using hd0
    go_wp2_with (go_at_call 53; refine (HD.out _ HG9.out.rd).mono ?_; rintro e w9 ⟨rfl, hr, hf⟩; have HG9 := Lib.hid (HG9.out.call hr hf); have fr0 := HG9.out.r.free 0; have fr1 := HG9.out.r.free 1; have fr2 := HG9.out.r.free 2; have fr3 := HG9.out.r.free 3; have fr4 := HG9.out.r.free 4; have fr5 := HG9.out.r.free 5; have fr6 := HG9.out.r.free 6; have fr7 := HG9.out.r.free 7; have fr8 := HG9.out.r.free 8; have yr0 := HG9.out.r.cell (j := 0) rfl; have yr1 := HG9.out.r.cell (j := 1) rfl; have yr2 := HG9.out.r.cell (j := 2) rfl; have yr3 := HG9.out.r.cell (j := 3) rfl; have yr4 := HG9.out.r.cell (j := 4) rfl; have yr5 := HG9.out.r.cell (j := 5) rfl; have yr6 := HG9.out.r.cell (j := 6) rfl; have yr7 := HG9.out.r.cell (j := 7) rfl; have yr8 := HG9.out.r.cell (j := 8) rfl; clear hr hf)
    refine ret_cell rfl rfl rfl (Blk.set (Blk.set (Blk.set (Blk.set (Blk.set (Blk.set (Blk.set (Blk.set (Blk.set HG9.out.r 0 (.int .u64 0)) 1 (.int .u64 0)) 2 (.int .u64 0)) 3 (.int .i64 0)) 4 (.int .i64 0)) 5 (.slice none 0 0)) 6 (.slice none 0 0)) 7 (.slice none 0 0)) 8 (.int .u64 0)) Tryz.underlying32 rfl (by kernel_rfl) ?_
    unfold readPF
    rw [HQ.out]
    exact ⟨HG9.out.fr.trans ((frp_setX (frp_setX (frp_setX (frp_setX (frp_setX (frp_setX (frp_setX (frp_setX (frp_setX (Frp.refl (fun k => k = R) w9) 0 (.int .u64 0)) 1 (.int .u64 0)) 2 (.int .u64 0)) 3 (.int .i64 0)) 4 (.int .i64 0)) 5 (.slice none 0 0)) 6 (.slice none 0 0)) 7 (.slice none 0 0)) 8 (.int .u64 0)).below (fun k hk => by have := HG9.out.lo; omega) HG9.out.fr.size), fun _ => rfl, fun h9 => absurd h9 HE0.out⟩
  subst hd0
  cases hck : checkP ⟨c1, c2, c3, c4, c5, c6, c7, c8, c9⟩
  · have HC := Lib.hid (fun w' (h : PoW w' ⟨c1, c2, c3, c4, c5, c6, c7, c8, c9⟩ (.slice p15 c6.length q15) (.slice p16 c7.length q16) (.slice p17 c8.length q17)) (hE : ErrV w') => checkP_any ⟨c1, c2, c3, c4, c5, c6, c7, c8, c9⟩ (.slice p15 c6.length q15) (.slice p16 c7.length q16) (.slice p17 c8.length q17) w' h hE)
    rw [hck] at HC
    have HQ : Hid (readP b = (zeP, 5)) := Lib.hid (by rw [HRD.out, hck]; simp)
    clear hck HRD
    have t2 : ((2 : Int) != 0) = true := rfl
    go_wp2_with (first | (go_at_call 11; refine (HC.out w9 (by
      have h9 := rdP_w (w := w9) (l := l) (k := .slice p15 c6.length q15) (t := .slice p16 c7.length q16) (s := .slice p17 c8.length q17) (by have := HLL.out; omega) (by rw [HA.out]; exact HW5.out.row (rwC_one (fun u => by intro v hv; simp at hv; rcases hv with rfl | rfl | rfl | rfl | rfl <;> rfl) _)) (by rw [HA.out]; exact HW6.out.row (rwC_one (fun u => by intro v hv; simp at hv; rcases hv with rfl | rfl | rfl | rfl | rfl | rfl | rfl | rfl <;> rfl) _)) (by rw [HA.out]; exact HW7.out.row (rwC_one (fun u => by intro v hv; simp at hv; rcases hv with rfl | rfl | rfl <;> rfl) _))
      rw [HA.out] at h9
      exact h9) (HEV.out.below HG9.out.fr)).mono ?_; rintro e wz ⟨rfl, hb⟩; have HGZ := Lib.hid (HG9.out.kept hb); have HV5 := Lib.hid (HW5.out.below hb); have HV6 := Lib.hid (HW6.out.below hb); have HV7 := Lib.hid (HW7.out.below hb); have fr0 := HGZ.out.r.free 0; have fr1 := HGZ.out.r.free 1; have fr2 := HGZ.out.r.free 2; have fr3 := HGZ.out.r.free 3; have fr4 := HGZ.out.r.free 4; have fr5 := HGZ.out.r.free 5; have fr6 := HGZ.out.r.free 6; have fr7 := HGZ.out.r.free 7; have fr8 := HGZ.out.r.free 8; have yr0 := HGZ.out.r.cell (j := 0) rfl; have yr1 := HGZ.out.r.cell (j := 1) rfl; have yr2 := HGZ.out.r.cell (j := 2) rfl; have yr3 := HGZ.out.r.cell (j := 3) rfl; have yr4 := HGZ.out.r.cell (j := 4) rfl; have yr5 := HGZ.out.r.cell (j := 5) rfl; have yr6 := HGZ.out.r.cell (j := 6) rfl; have yr7 := HGZ.out.r.cell (j := 7) rfl; have yr8 := HGZ.out.r.cell (j := 8) rfl; have fz0 := HGZ.out.x.free 0; have fz1 := HGZ.out.x.free 1; have fz2 := HGZ.out.x.free 2; have fz3 := HGZ.out.x.free 3; have fz4 := HGZ.out.x.free 4; have fz5 := HGZ.out.x.free 5; have fz6 := HGZ.out.x.free 6; have fz7 := HGZ.out.x.free 7; have fz8 := HGZ.out.x.free 8; have yz0 := HGZ.out.x.cell (j := 0) rfl; have yz1 := HGZ.out.x.cell (j := 1) rfl; have yz2 := HGZ.out.x.cell (j := 2) rfl; have yz3 := HGZ.out.x.cell (j := 3) rfl; have yz4 := HGZ.out.x.cell (j := 4) rfl; have yz5 := HGZ.out.x.cell (j := 5) rfl; have yz6 := HGZ.out.x.cell (j := 6) rfl; have yz7 := HGZ.out.x.cell (j := 7) rfl; have yz8 := HGZ.out.x.cell (j := 8) rfl; clear hb) | (go_at_call 53; refine (HD.out _ HG9.out.rd).mono ?_; rintro e w9 ⟨rfl, hr, hf⟩; have HG9 := Lib.hid (HG9.out.call hr hf); have HW5 := Lib.hid (HW5.out.call hf); have HW6 := Lib.hid (HW6.out.call hf); have HW7 := Lib.hid (HW7.out.call hf); have fx0 := HG9.out.x.free 0; have fx1 := HG9.out.x.free 1; have fx2 := HG9.out.x.free 2; have fx3 := HG9.out.x.free 3; have fx4 := HG9.out.x.free 4; have fx5 := HG9.out.x.free 5; have fx6 := HG9.out.x.free 6; have fx7 := HG9.out.x.free 7; have fx8 := HG9.out.x.free 8; have yx0 := HG9.out.x.cell (j := 0) rfl; have yx1 := HG9.out.x.cell (j := 1) rfl; have yx2 := HG9.out.x.cell (j := 2) rfl; have yx3 := HG9.out.x.cell (j := 3) rfl; have yx4 := HG9.out.x.cell (j := 4) rfl; have yx5 := HG9.out.x.cell (j := 5) rfl; have yx6 := HG9.out.x.cell (j := 6) rfl; have yx7 := HG9.out.x.cell (j := 7) rfl; have yx8 := HG9.out.x.cell (j := 8) rfl; clear hr hf))
    refine ret_cell rfl rfl rfl (Blk.set (Blk.set (Blk.set (Blk.set (Blk.set (Blk.set (Blk.set (Blk.set (Blk.set HGZ.out.r 0 (.int .u64 0)) 1 (.int .u64 0)) 2 (.int .u64 0)) 3 (.int .i64 0)) 4 (.int .i64 0)) 5 (.slice none 0 0)) 6 (.slice none 0 0)) 7 (.slice none 0 0)) 8 (.int .u64 0)) Tryz.underlying32 rfl (by kernel_rfl) ?_
    unfold readPF
    rw [HQ.out]
    exact ⟨HGZ.out.fr.trans ((frp_setX (frp_setX (frp_setX (frp_setX (frp_setX (frp_setX (frp_setX (frp_setX (frp_setX (Frp.refl (fun k => k = R) wz) 0 (.int .u64 0)) 1 (.int .u64 0)) 2 (.int .u64 0)) 3 (.int .i64 0)) 4 (.int .i64 0)) 5 (.slice none 0 0)) 6 (.slice none 0 0)) 7 (.slice none 0 0)) 8 (.int .u64 0)).below (fun k hk => by have := HGZ.out.lo; omega) HGZ.out.fr.size), fun _ => rfl, fun h9 => absurd h9 HE0.out⟩
  · have HC := Lib.hid (fun w' (h : PoW w' ⟨c1, c2, c3, c4, c5, c6, c7, c8, c9⟩ (.slice p15 c6.length q15) (.slice p16 c7.length q16) (.slice p17 c8.length q17)) (hE : ErrV w') => checkP_any ⟨c1, c2, c3, c4, c5, c6, c7, c8, c9⟩ (.slice p15 c6.length q15) (.slice p16 c7.length q16) (.slice p17 c8.length q17) w' h hE)
    rw [hck] at HC
    have HQ : Hid (readP b = (⟨c1, c2, c3, c4, c5, c6, c7, c8, c9⟩, 0)) := Lib.hid (by rw [HRD.out, hck]; simp)
    clear hck HRD
    go_wp2_with (first | (go_at_call 11; refine (HC.out w9 (by
      have h9 := rdP_w (w := w9) (l := l) (k := .slice p15 c6.length q15) (t := .slice p16 c7.length q16) (s := .slice p17 c8.length q17) (by have := HLL.out; omega) (by rw [HA.out]; exact HW5.out.row (rwC_one (fun u => by intro v hv; simp at hv; rcases hv with rfl | rfl | rfl | rfl | rfl <;> rfl) _)) (by rw [HA.out]; exact HW6.out.row (rwC_one (fun u => by intro v hv; simp at hv; rcases hv with rfl | rfl | rfl | rfl | rfl | rfl | rfl | rfl <;> rfl) _)) (by rw [HA.out]; exact HW7.out.row (rwC_one (fun u => by intro v hv; simp at hv; rcases hv with rfl | rfl | rfl <;> rfl) _))
      rw [HA.out] at h9
      exact h9) (HEV.out.below HG9.out.fr)).mono ?_; rintro e wz ⟨rfl, hb⟩; have HGZ := Lib.hid (HG9.out.kept hb); have HV5 := Lib.hid (HW5.out.below hb); have HV6 := Lib.hid (HW6.out.below hb); have HV7 := Lib.hid (HW7.out.below hb); have fr0 := HGZ.out.r.free 0; have fr1 := HGZ.out.r.free 1; have fr2 := HGZ.out.r.free 2; have fr3 := HGZ.out.r.free 3; have fr4 := HGZ.out.r.free 4; have fr5 := HGZ.out.r.free 5; have fr6 := HGZ.out.r.free 6; have fr7 := HGZ.out.r.free 7; have fr8 := HGZ.out.r.free 8; have yr0 := HGZ.out.r.cell (j := 0) rfl; have yr1 := HGZ.out.r.cell (j := 1) rfl; have yr2 := HGZ.out.r.cell (j := 2) rfl; have yr3 := HGZ.out.r.cell (j := 3) rfl; have yr4 := HGZ.out.r.cell (j := 4) rfl; have yr5 := HGZ.out.r.cell (j := 5) rfl; have yr6 := HGZ.out.r.cell (j := 6) rfl; have yr7 := HGZ.out.r.cell (j := 7) rfl; have yr8 := HGZ.out.r.cell (j := 8) rfl; have fz0 := HGZ.out.x.free 0; have fz1 := HGZ.out.x.free 1; have fz2 := HGZ.out.x.free 2; have fz3 := HGZ.out.x.free 3; have fz4 := HGZ.out.x.free 4; have fz5 := HGZ.out.x.free 5; have fz6 := HGZ.out.x.free 6; have fz7 := HGZ.out.x.free 7; have fz8 := HGZ.out.x.free 8; have yz0 := HGZ.out.x.cell (j := 0) rfl; have yz1 := HGZ.out.x.cell (j := 1) rfl; have yz2 := HGZ.out.x.cell (j := 2) rfl; have yz3 := HGZ.out.x.cell (j := 3) rfl; have yz4 := HGZ.out.x.cell (j := 4) rfl; have yz5 := HGZ.out.x.cell (j := 5) rfl; have yz6 := HGZ.out.x.cell (j := 6) rfl; have yz7 := HGZ.out.x.cell (j := 7) rfl; have yz8 := HGZ.out.x.cell (j := 8) rfl; clear hb) | (go_at_call 53; refine (HD.out _ HG9.out.rd).mono ?_; rintro e w9 ⟨rfl, hr, hf⟩; have HG9 := Lib.hid (HG9.out.call hr hf); have HW5 := Lib.hid (HW5.out.call hf); have HW6 := Lib.hid (HW6.out.call hf); have HW7 := Lib.hid (HW7.out.call hf); have fx0 := HG9.out.x.free 0; have fx1 := HG9.out.x.free 1; have fx2 := HG9.out.x.free 2; have fx3 := HG9.out.x.free 3; have fx4 := HG9.out.x.free 4; have fx5 := HG9.out.x.free 5; have fx6 := HG9.out.x.free 6; have fx7 := HG9.out.x.free 7; have fx8 := HG9.out.x.free 8; have yx0 := HG9.out.x.cell (j := 0) rfl; have yx1 := HG9.out.x.cell (j := 1) rfl; have yx2 := HG9.out.x.cell (j := 2) rfl; have yx3 := HG9.out.x.cell (j := 3) rfl; have yx4 := HG9.out.x.cell (j := 4) rfl; have yx5 := HG9.out.x.cell (j := 5) rfl; have yx6 := HG9.out.x.cell (j := 6) rfl; have yx7 := HG9.out.x.cell (j := 7) rfl; have yx8 := HG9.out.x.cell (j := 8) rfl; clear hr hf))
    refine ret_cell rfl rfl rfl (Blk.set (Blk.set (Blk.set (Blk.set (Blk.set (Blk.set (Blk.set (Blk.set (Blk.set HGZ.out.r 0 (.int .u64 c1)) 1 (.int .u64 c2)) 2 (.int .u64 c3)) 3 (.int .i64 c4)) 4 (.int .i64 c5)) 5 (.slice p15 c6.length q15)) 6 (.slice p16 c7.length q16)) 7 (.slice p17 c8.length q17)) 8 (.int .u64 c9)) Tryz.underlying32 rfl (by kernel_rfl) ?_
    unfold readPF
    rw [HQ.out]
    refine ⟨HGZ.out.fr.trans ((frp_setX (frp_setX (frp_setX (frp_setX (frp_setX (frp_setX (frp_setX (frp_setX (frp_setX (Frp.refl (fun k => k = R) wz) 0 (.int .u64 c1)) 1 (.int .u64 c2)) 2 (.int .u64 c3)) 3 (.int .i64 c4)) 4 (.int .i64 c5)) 5 (.slice p15 c6.length q15)) 6 (.slice p16 c7.length q16)) 7 (.slice p17 c8.length q17)) 8 (.int .u64 c9)).below (fun k hk => by have := HGZ.out.lo; omega) HGZ.out.fr.size), fun h9 => absurd rfl h9, fun _ => ⟨_, _, _, rfl, ?_⟩⟩
    exact (by
      have h9 := rdP_w (w := _) (l := l) (k := .slice p15 c6.length q15) (t := .slice p16 c7.length q16) (s := .slice p17 c8.length q17) (by have := HLL.out; omega) (by rw [HA.out]; exact (ow_frp HV5.out HGZ.out.r (by decide) (frp_setX (frp_setX (frp_setX (frp_setX (frp_setX (frp_setX (frp_setX (frp_setX (frp_setX (Frp.refl (fun k => k = R) wz) 0 (.int .u64 c1)) 1 (.int .u64 c2)) 2 (.int .u64 c3)) 3 (.int .i64 c4)) 4 (.int .i64 c5)) 5 (.slice p15 c6.length q15)) 6 (.slice p16 c7.length q16)) 7 (.slice p17 c8.length q17)) 8 (.int .u64 c9))).row (rwC_one (fun u => by intro v hv; simp at hv; rcases hv with rfl | rfl | rfl | rfl | rfl <;> rfl) _)) (by rw [HA.out]; exact (ow_frp HV6.out HGZ.out.r (by decide) (frp_setX (frp_setX (frp_setX (frp_setX (frp_setX (frp_setX (frp_setX (frp_setX (frp_setX (Frp.refl (fun k => k = R) wz) 0 (.int .u64 c1)) 1 (.int .u64 c2)) 2 (.int .u64 c3)) 3 (.int .i64 c4)) 4 (.int .i64 c5)) 5 (.slice p15 c6.length q15)) 6 (.slice p16 c7.length q16)) 7 (.slice p17 c8.length q17)) 8 (.int .u64 c9))).row (rwC_one (fun u => by intro v hv; simp at hv; rcases hv with rfl | rfl | rfl | rfl | rfl | rfl | rfl | rfl <;> rfl) _)) (by rw [HA.out]; exact (ow_frp HV7.out HGZ.out.r (by decide) (frp_setX (frp_setX (frp_setX (frp_setX (frp_setX (frp_setX (frp_setX (frp_setX (frp_setX (Frp.refl (fun k => k = R) wz) 0 (.int .u64 c1)) 1 (.int .u64 c2)) 2 (.int .u64 c3)) 3 (.int .i64 c4)) 4 (.int .i64 c5)) 5 (.slice p15 c6.length q15)) 6 (.slice p16 c7.length q16)) 7 (.slice p17 c8.length q17)) 8 (.int .u64 c9))).row (rwC_one (fun u => by intro v hv; simp at hv; rcases hv with rfl | rfl | rfl <;> rfl) _))
      rw [HA.out] at h9
      exact h9)
def readRF (b : List UInt8) (w : World) (e : Ending) (w' : World) : Prop := Below w.heap.size w w' ∧ ((readR b).2 ≠ 0 → e = .returned (.tuple #[rpV zeR (.slice none 0 0) (.slice none 0 0) (.slice none 0 0), .int .i64 ((readR b).2 : Nat)])) ∧ ((readR b).2 = 0 → ∃ vk vt vs, e = .returned (.tuple #[rpV (readR b).1 vk vt vs, .int .i64 0]) ∧ RpW w' (readR b).1 vk vt vs)
set_option maxRecDepth 100000 in
set_option maxHeartbeats 4000000 in
theorem readR_any (v : Value) (b : List UInt8) (w : World) (h : Rd w v b) (hl : b.length ≤ 1000000000) (hE : ErrV w) : Calls Tryz.prog 9 #[v] w (readRF b w) := by
  obtain ⟨p, c, rfl⟩ := rd_slice h
  obtain ⟨n, hn⟩ : ∃ n, n = b.length := ⟨_, rfl⟩
  obtain ⟨R, hR⟩ : ∃ R, R = w.heap.size := ⟨_, rfl⟩
  obtain ⟨w1, hw1⟩ : ∃ w1, w1 = w.alloc (.cells #[.int .u64 0, .int .u64 0, .int .u64 0, .int .i64 0, .slice none 0 0, .slice none 0 0, .slice none 0 0] 44) := ⟨_, rfl⟩
  have HR1 : Hid (Blk w1 R [.int .u64 0, .int .u64 0, .int .u64 0, .int .i64 0, .slice none 0 0, .slice none 0 0, .slice none 0 0] 44) := Lib.hid (by rw [hw1, hR]; exact Blk.made w [.int .u64 0, .int .u64 0, .int .u64 0, .int .i64 0, .slice none 0 0, .slice none 0 0, .slice none 0 0] _)
  have HB1 : Hid (Below w.heap.size w w1) := Lib.hid (by rw [hw1]; exact below_alloc _ _)
  have HOP : Hid (Calls Tryz.prog 41 #[.slice p n c, .slice (some ⟨w1.heap.size, 0, none⟩) 1 1] (w1.alloc (.cells #[.int .u8 4] 5)) (OpF b [4] (w1.alloc (.cells #[.int .u8 4] 5)))) := Lib.hid (open_any _ _ b [4] _ (by rw [hw1, hn]; exact (h.below (below_alloc _ _)).below (below_alloc _ _)) (rd_blk (l := [4]) (Blk.made w1 [.int .u8 4] _) (by simp)) hl (by simp))
  have HRR := Lib.hid hR
  have HEV := Lib.hid hE
  rw [← hn] at hl ⊢
  have HNL : Hid (n ≤ 1000000000 ∧ n = b.length) := Lib.hid ⟨hl, hn⟩
  clear h hn hE
  go_enter Tryz.func9, Tryz.ntmps9
  go_upto_region 1 with fail
  rw [← hw1, ← hR]
  clear hw1 hR
  obtain ⟨kd, l, er, hop⟩ : ∃ kd l er, opn b [4] = (kd, l, er) := ⟨_, _, _, rfl⟩
  have HOE := Lib.hid hop
  by_cases he : er = 0
  rotate_left
  · have HE0 : Hid (er ≠ 0) := Lib.hid he
    have HQ : Hid (readR b = (zeR, er)) := Lib.hid (by unfold readR; rw [HOE.out, if_pos he])
    have t0 : ((er : Int) != 0) = true := by simp; omega
    have t1 : (er != 0) = true := by simp; omega
    have HC2 := Lib.hid (HOP.out.mono (R' := fun e w' => e = .returned (.tuple #[.agg #[.int .u8 0, .slice none 0 0], .int .i64 er]) ∧ Below w1.heap.size w1 w') fun e w' h9 => by unfold OpF at h9; rw [HOE.out] at h9; exact ⟨h9.2.1 he, below_and (below_alloc _ _) h9.1⟩)
    clear hop HOE HOP he
    go_upto_region 2 with (go_at_call 41; refine HC2.out.mono ?_; rintro e w2 ⟨rfl, hb⟩; have HB12 := Lib.hid hb; clear hb)
    obtain ⟨w3, hw3⟩ : ∃ w3, w3 = w2.alloc (.cells #[.int .u8 0, .slice none 0 0] 79) := ⟨_, rfl⟩
    have HB13 : Hid (Below w1.heap.size w1 w3) := Lib.hid (by rw [hw3]; exact below_and HB12.out (below_alloc _ _))
    rw [← hw3]
    clear hw3
    have HX3 := Lib.hid (HR1.out.kept HB13.out)
    have HF3 : Hid (Frp (fun k => k = R) w w3) := Lib.hid ((Frp.of_below HB1.out _).next HB13.out)
    have fx0 := HX3.out.free 0
    have fx1 := HX3.out.free 1
    have fx2 := HX3.out.free 2
    have fx3 := HX3.out.free 3
    have fx4 := HX3.out.free 4
    have fx5 := HX3.out.free 5
    have fx6 := HX3.out.free 6
    have yx0 := HX3.out.cell (j := 0) rfl
    have yx1 := HX3.out.cell (j := 1) rfl
    have yx2 := HX3.out.cell (j := 2) rfl
    have yx3 := HX3.out.cell (j := 3) rfl
    have yx4 := HX3.out.cell (j := 4) rfl
    have yx5 := HX3.out.cell (j := 5) rfl
    have yx6 := HX3.out.cell (j := 6) rfl
    go_wp2
    refine ret_cell rfl rfl rfl (Blk.set (Blk.set (Blk.set (Blk.set (Blk.set (Blk.set (Blk.set HX3.out 0 (.int .u64 0)) 1 (.int .u64 0)) 2 (.int .u64 0)) 3 (.int .i64 0)) 4 (.slice none 0 0)) 5 (.slice none 0 0)) 6 (.slice none 0 0)) Tryz.underlying44 rfl (by kernel_rfl) ?_
    unfold readRF
    rw [HQ.out]
    exact ⟨(frp_setX (frp_setX (frp_setX (frp_setX (frp_setX (frp_setX (frp_setX HF3.out 0 (.int .u64 0)) 1 (.int .u64 0)) 2 (.int .u64 0)) 3 (.int .i64 0)) 4 (.slice none 0 0)) 5 (.slice none 0 0)) 6 (.slice none 0 0)).below (fun k hk => by rw [hk, HRR.out]; exact Nat.le_refl _) (Nat.le_refl _), fun _ => rfl, fun h9 => absurd h9 HE0.out⟩
  subst he
  obtain ⟨bn, hbn⟩ : ∃ bn, bn = l.length := ⟨_, rfl⟩
  have HBN := Lib.hid hbn
  have HLL : Hid (l.length ≤ 1000000000) := Lib.hid (by have h9 := opn_len b [4]; rw [HOE.out] at h9; have := HNL.out; simp only at h9; omega)
  have HC2 := Lib.hid (HOP.out.mono (R' := fun e w' => ∃ pz qz, e = .returned (.tuple #[.agg #[.int .u8 (kd.toNat : Int), .slice pz bn qz], .int .i64 0]) ∧ Fresh w1.heap.size w' (.slice pz bn qz) l ∧ Below w1.heap.size w1 w') fun e w' h9 => by
    unfold OpF at h9
    rw [HOE.out] at h9
    obtain ⟨h1, -, h3⟩ := h9
    obtain ⟨vb, h4, h5⟩ := h3 rfl
    obtain ⟨pz, qz, rfl⟩ := fresh_slice h5
    rw [← hbn] at h4 h5
    exact ⟨pz, qz, h4, Fresh.mono h5 (below_alloc w1 _).size, below_and (below_alloc _ _) h1⟩)
  clear hbn HOP hop
  obtain ⟨c1, t1, e1⟩ : ∃ c t, rU l (0, 0) = (c, t) := ⟨_, _, rfl⟩
  obtain ⟨c2, t2, e2⟩ : ∃ c t, rU l t1 = (c, t) := ⟨_, _, rfl⟩
  obtain ⟨c3, t3, e3⟩ : ∃ c t, rU l t2 = (c, t) := ⟨_, _, rfl⟩
  obtain ⟨c4, t4, e4⟩ : ∃ c t, rI l t3 = (c, t) := ⟨_, _, rfl⟩
  obtain ⟨c5, t5, e5⟩ : ∃ c t, rL helRd l t4 = (c, t) := ⟨_, _, rfl⟩
  obtain ⟨c6, t6, e6⟩ : ∃ c t, rL finRd l t5 = (c, t) := ⟨_, _, rfl⟩
  obtain ⟨c7, t7, e7⟩ : ∃ c t, rL refRd l t6 = (c, t) := ⟨_, _, rfl⟩
  have HA : Hid (rdR l = (⟨c1, c2, c3, c4, c5, c6, c7⟩, t7)) := Lib.hid (by unfold rdR; simp only [e1, e2, e3, e4, e5, e6, e7])
  have H1 := Lib.hid (fun w' b' (h : Rdr w' b' l 0 0) => cU (s := (0, 0)) h (by have := HLL.out; omega) e1)
  have H2 := Lib.hid (fun w' b' (h : Rdr w' b' l t1.1 t1.2) => cU (s := t1) h (by have := HLL.out; omega) e2)
  have H3 := Lib.hid (fun w' b' (h : Rdr w' b' l t2.1 t2.2) => cU (s := t2) h (by have := HLL.out; omega) e3)
  have H4 := Lib.hid (fun w' b' (h : Rdr w' b' l t3.1 t3.2) => cI (s := t3) h (by have := HLL.out; omega) e4)
  have H5 := Lib.hid (fun w' b' (h : Rdr w' b' l t4.1 t4.2) => helS_any (s := t4) h (by have := HLL.out; omega) e5)
  have H6 := Lib.hid (fun w' b' (h : Rdr w' b' l t5.1 t5.2) => finS_any (s := t5) h (by have := HLL.out; omega) e6)
  have H7 := Lib.hid (fun w' b' (h : Rdr w' b' l t6.1 t6.2) => refS_any (s := t6) h (by have := HLL.out; omega) e7)
  clear e1 e2 e3 e4 e5 e6 e7
  go_upto_region 2 with (go_at_call 41; refine HC2.out.mono ?_; rintro e w2 ⟨pz, qz, rfl, hfs, hb⟩; have HB12 := Lib.hid hb; have HO2 := Lib.hid hfs; clear hb hfs)
  obtain ⟨FB, hFB⟩ : ∃ FB, FB = w2.heap.size := ⟨_, rfl⟩
  obtain ⟨w3, hw3⟩ : ∃ w3, w3 = w2.alloc (.cells #[.int .u8 (kd.toNat : Int), .slice pz bn qz] 79) := ⟨_, rfl⟩
  have HF3 : Hid (Blk w3 FB [.int .u8 (kd.toNat : Int), .slice pz bn qz] 79) := Lib.hid (by rw [hw3, hFB]; exact Blk.made w2 [_, _] _)
  have HB13 : Hid (Below w1.heap.size w1 w3) := Lib.hid (by rw [hw3]; exact below_and HB12.out (below_alloc _ _))
  have HO3 : Hid (Fresh w1.heap.size w3 (.slice pz bn qz) l) := Lib.hid (by rw [hw3]; exact own_keep HO2.out (below_alloc _ _))
  rw [← hw3, ← hFB]
  clear hw3 hFB
  have fF0 := HF3.out.free 0
  have fF1 := HF3.out.free 1
  have yF0 := HF3.out.cell (j := 0) rfl
  have yF1 := HF3.out.cell (j := 1) rfl
  have HNW : Hid (Calls Tryz.prog 42 #[.slice pz bn qz] w3 fun e w' => e = .returned (ptr w3.heap.size) ∧ Rdr w' w3.heap.size l 0 0 ∧ Below w3.heap.size w3 w') := Lib.hid (new_any _ l w3 (by have h9 := HO3.out.rd; exact h9) (fun k hk _ => own_hi HO3.out hk))
  obtain ⟨B, hB⟩ : ∃ B, B = w3.heap.size := ⟨_, rfl⟩
  rw [← hB] at HNW
  have HBE := Lib.hid hB
  clear hB
  go_upto_region 5 with (go_at_call 42; refine HNW.out.mono ?_; rintro e w4 ⟨rfl, hr, hb⟩; have HR4 := Lib.hid hr; have HB14 : Hid (Below w1.heap.size w1 w4) := Lib.hid (HB13.out.trans (hb.mono (by have := HB13.out.size; have := HBE.out; omega))); have HBB := Lib.hid hb; clear hr hb)
  clear fF0 yF0 fF1 yF1
  go_upto_region 6 with (go_at_call 43; refine (H1.out _ _ HR4.out).mono ?_; rintro e w5 ⟨rfl, hr, hf⟩; have HR5 := Lib.hid hr; have HF5 := Lib.hid hf; clear hr hf)
  obtain ⟨Y, hY⟩ : ∃ Y, Y = w5.heap.size := ⟨_, rfl⟩
  obtain ⟨v6, hv6⟩ : ∃ v6, v6 = w5.alloc (.cells #[.int .u64 c1, .int .u64 0, .int .u64 0, .int .i64 0, .slice none 0 0, .slice none 0 0, .slice none 0 0] 44) := ⟨_, rfl⟩
  have HG0 : Hid (Gp w B l v6 t1 R [.int .u64 0, .int .u64 0, .int .u64 0, .int .i64 0, .slice none 0 0, .slice none 0 0, .slice none 0 0] 44 Y [.int .u64 c1, .int .u64 0, .int .u64 0, .int .i64 0, .slice none 0 0, .slice none 0 0, .slice none 0 0] 44) := Lib.hid (by
    have h1 := HB1.out.size
    have h2 := HB14.out.size
    have h3 := Rdr.lt HR5.out
    have h4 := HF5.out.size
    have h5 := HR1.out.lt
    have h6 := HB13.out.size
    have h7 := HBE.out
    have h8 := HRR.out
    rw [hv6, hY]
    exact ⟨Rdr.kept HR5.out (below_alloc _ _), ((HR1.out.kept HB14.out).frp HF5.out (fun e => by omega)).alloc _, Blk.made w5 [.int .u64 c1, .int .u64 0, .int .u64 0, .int .i64 0, .slice none 0 0, .slice none 0 0, .slice none 0 0] _, ((below_and HB1.out HB14.out).trans (HF5.out.below (fun k hk => by omega) (by omega))).trans ((below_alloc w5 _).mono (by omega)), ⟨by omega, h3, by omega, by omega⟩, by omega, by omega⟩)
  rw [← hv6, ← hY]
  clear hv6 hY HR4 HR5 HF5 HBB HNW HO3 HF3 HB12 HC2 HB14
  go_upto_region 7 with (go_at_call 43; refine (H2.out _ _ HG0.out.rd).mono ?_; rintro e s2 ⟨rfl, hr, hf⟩; have HZ := Lib.hid (HG0.out.call hr hf); have fx1 := HZ.out.x.free 1; have yx1 := HZ.out.x.cell (j := 1) rfl; clear hr hf)
  refine at_hide (F := fun w' => Gp w B l w' t2 R [.int .u64 0, .int .u64 0, .int .u64 0, .int .i64 0, .slice none 0 0, .slice none 0 0, .slice none 0 0] 44 Y [.int .u64 c1, .int .u64 c2, .int .u64 0, .int .i64 0, .slice none 0 0, .slice none 0 0, .slice none 0 0] 44) (HZ.out.setX 1 (.int .u64 c2)) ?_
  intro u2 hF
  have HG2 := Lib.hid hF
  clear hF HZ fx1 yx1
  go_upto_region 8 with (go_at_call 43; refine (H3.out _ _ HG2.out.rd).mono ?_; rintro e s3 ⟨rfl, hr, hf⟩; have HZ := Lib.hid (HG2.out.call hr hf); have fx2 := HZ.out.x.free 2; have yx2 := HZ.out.x.cell (j := 2) rfl; clear hr hf)
  refine at_hide (F := fun w' => Gp w B l w' t3 R [.int .u64 0, .int .u64 0, .int .u64 0, .int .i64 0, .slice none 0 0, .slice none 0 0, .slice none 0 0] 44 Y [.int .u64 c1, .int .u64 c2, .int .u64 c3, .int .i64 0, .slice none 0 0, .slice none 0 0, .slice none 0 0] 44) (HZ.out.setX 2 (.int .u64 c3)) ?_
  intro u3 hF
  have HG3 := Lib.hid hF
  clear hF HZ fx2 yx2
  go_upto_region 9 with (go_at_call 44; refine (H4.out _ _ HG3.out.rd).mono ?_; rintro e s4 ⟨rfl, hr, hf⟩; have HZ := Lib.hid (HG3.out.call hr hf); have fx3 := HZ.out.x.free 3; have yx3 := HZ.out.x.cell (j := 3) rfl; clear hr hf)
  refine at_hide (F := fun w' => Gp w B l w' t4 R [.int .u64 0, .int .u64 0, .int .u64 0, .int .i64 0, .slice none 0 0, .slice none 0 0, .slice none 0 0] 44 Y [.int .u64 c1, .int .u64 c2, .int .u64 c3, .int .i64 c4, .slice none 0 0, .slice none 0 0, .slice none 0 0] 44) (HZ.out.setX 3 (.int .i64 c4)) ?_
  intro u4 hF
  have HG4 := Lib.hid hF
  clear hF HZ fx3 yx3
  go_upto_region 10 with (go_at_call 45; refine (H5.out _ _ HG4.out.rd).mono ?_; rintro e s5 ⟨vv, rfl, ho, hr, hf⟩; obtain ⟨p14, q14, rfl, -, -⟩ := own_slice ho; have HW4 : Hid (Ow s5 B Y 88 4 (.slice p14 c5.length q14) c5.length (rwC helC c5)) := Lib.hid ⟨_, (gp_lt HG4.out).1, (gp_lt HG4.out).2, ho⟩; have HZ := Lib.hid (HG4.out.call hr hf); have fx4 := HZ.out.x.free 4; have yx4 := HZ.out.x.cell (j := 4) rfl; clear hr hf ho)
  refine at_hide (F := fun w' => Gp w B l w' t5 R [.int .u64 0, .int .u64 0, .int .u64 0, .int .i64 0, .slice none 0 0, .slice none 0 0, .slice none 0 0] 44 Y [.int .u64 c1, .int .u64 c2, .int .u64 c3, .int .i64 c4, .slice p14 c5.length q14, .slice none 0 0, .slice none 0 0] 44 ∧ Ow w' B Y 88 4 (.slice p14 c5.length q14) c5.length (rwC helC c5)) ⟨HZ.out.setX 4 (.slice p14 c5.length q14), HW4.out.setX 4 _⟩ ?_
  intro u5 hF
  obtain ⟨hF, hW4⟩ := hF
  have HG5 := Lib.hid hF
  have HW4 := Lib.hid hW4
  clear hF HZ fx4 yx4 hW4
  go_upto_region 11 with (go_at_call 49; refine (H6.out _ _ HG5.out.rd).mono ?_; rintro e s6 ⟨vv, rfl, ho, hr, hf⟩; obtain ⟨p15, q15, rfl, -, -⟩ := own_slice ho; have HW5 : Hid (Ow s6 B Y 95 5 (.slice p15 c6.length q15) c6.length (rwC finC c6)) := Lib.hid ⟨_, (gp_lt HG5.out).1, (gp_lt HG5.out).2, ho⟩; have HZ := Lib.hid (HG5.out.call hr hf); have HW4 := Lib.hid (HW4.out.call hf); have fx5 := HZ.out.x.free 5; have yx5 := HZ.out.x.cell (j := 5) rfl; clear hr hf ho)
  refine at_hide (F := fun w' => Gp w B l w' t6 R [.int .u64 0, .int .u64 0, .int .u64 0, .int .i64 0, .slice none 0 0, .slice none 0 0, .slice none 0 0] 44 Y [.int .u64 c1, .int .u64 c2, .int .u64 c3, .int .i64 c4, .slice p14 c5.length q14, .slice p15 c6.length q15, .slice none 0 0] 44 ∧ Ow w' B Y 88 4 (.slice p14 c5.length q14) c5.length (rwC helC c5) ∧ Ow w' B Y 95 5 (.slice p15 c6.length q15) c6.length (rwC finC c6)) ⟨HZ.out.setX 5 (.slice p15 c6.length q15), HW4.out.setX 5 _, HW5.out.setX 5 _⟩ ?_
  intro u6 hF
  obtain ⟨hF, hW4, hW5⟩ := hF
  have HG6 := Lib.hid hF
  have HW4 := Lib.hid hW4
  have HW5 := Lib.hid hW5
  clear hF HZ fx5 yx5 hW4 hW5
  go_upto_region 12 with (go_at_call 51; refine (H7.out _ _ HG6.out.rd).mono ?_; rintro e s7 ⟨vv, rfl, ho, hr, hf⟩; obtain ⟨p16, q16, rfl, -, -⟩ := own_slice ho; have HW6 : Hid (Ow s7 B Y 99 4 (.slice p16 c7.length q16) c7.length (rwC refC c7)) := Lib.hid ⟨_, (gp_lt HG6.out).1, (gp_lt HG6.out).2, ho⟩; have HZ := Lib.hid (HG6.out.call hr hf); have HW4 := Lib.hid (HW4.out.call hf); have HW5 := Lib.hid (HW5.out.call hf); have fx6 := HZ.out.x.free 6; have yx6 := HZ.out.x.cell (j := 6) rfl; clear hr hf ho)
  refine at_hide (F := fun w' => Gp w B l w' t7 R [.int .u64 0, .int .u64 0, .int .u64 0, .int .i64 0, .slice none 0 0, .slice none 0 0, .slice none 0 0] 44 Y [.int .u64 c1, .int .u64 c2, .int .u64 c3, .int .i64 c4, .slice p14 c5.length q14, .slice p15 c6.length q15, .slice p16 c7.length q16] 44 ∧ Ow w' B Y 88 4 (.slice p14 c5.length q14) c5.length (rwC helC c5) ∧ Ow w' B Y 95 5 (.slice p15 c6.length q15) c6.length (rwC finC c6) ∧ Ow w' B Y 99 4 (.slice p16 c7.length q16) c7.length (rwC refC c7)) ⟨HZ.out.setX 6 (.slice p16 c7.length q16), HW4.out.setX 6 _, HW5.out.setX 6 _, HW6.out.setX 6 _⟩ ?_
  intro u7 hF
  obtain ⟨hF, hW4, hW5, hW6⟩ := hF
  have HG7 := Lib.hid hF
  have HW4 := Lib.hid hW4
  have HW5 := Lib.hid hW5
  have HW6 := Lib.hid hW6
  clear hF HZ fx6 yx6 hW4 hW5 hW6
  obtain ⟨dn, hdn⟩ : ∃ dn, dn = Wire.done l t7.1 t7.2 := ⟨_, rfl⟩
  have HD := Lib.hid (fun w' (h : Rdr w' B l t7.1 t7.2) => ((done_any B l t7.1 t7.2 w' h).mono fun _ _ hm => rf_of (v' := .int .i64 dn) (s' := (t7.1, dn)) (by rw [hdn]) (by rw [hdn]) hm))
  have HDE := Lib.hid hdn
  clear hdn H1 H2 H3 H4 H5 H6 H7
  have HRD : Hid (readR b = if dn ≠ 0 ∨ checkR ⟨c1, c2, c3, c4, c5, c6, c7⟩ = false then (zeR, 5) else (⟨c1, c2, c3, c4, c5, c6, c7⟩, 0)) := Lib.hid (by unfold readR; rw [HOE.out, if_neg (by simp), HA.out, ← HDE.out])
  have HE0 : Hid (5 ≠ 0) := Lib.hid (by decide)
  by_cases hd0 : dn = 0
  rotate_left
  · have HQ : Hid (readR b = (zeR, 5)) := Lib.hid (by rw [HRD.out, if_pos (.inl hd0)])
    have t0 : (dn != 0) = true := by simpa using hd0
    go_wp2_with (go_at_call 53; refine (HD.out _ HG7.out.rd).mono ?_; rintro e w9 ⟨rfl, hr, hf⟩; have HG9 := Lib.hid (HG7.out.call hr hf); have fr0 := HG9.out.r.free 0; have fr1 := HG9.out.r.free 1; have fr2 := HG9.out.r.free 2; have fr3 := HG9.out.r.free 3; have fr4 := HG9.out.r.free 4; have fr5 := HG9.out.r.free 5; have fr6 := HG9.out.r.free 6; have yr0 := HG9.out.r.cell (j := 0) rfl; have yr1 := HG9.out.r.cell (j := 1) rfl; have yr2 := HG9.out.r.cell (j := 2) rfl; have yr3 := HG9.out.r.cell (j := 3) rfl; have yr4 := HG9.out.r.cell (j := 4) rfl; have yr5 := HG9.out.r.cell (j := 5) rfl; have yr6 := HG9.out.r.cell (j := 6) rfl; clear hr hf)
    refine ret_cell rfl rfl rfl (Blk.set (Blk.set (Blk.set (Blk.set (Blk.set (Blk.set (Blk.set HG9.out.r 0 (.int .u64 0)) 1 (.int .u64 0)) 2 (.int .u64 0)) 3 (.int .i64 0)) 4 (.slice none 0 0)) 5 (.slice none 0 0)) 6 (.slice none 0 0)) Tryz.underlying44 rfl (by kernel_rfl) ?_
    unfold readRF
    rw [HQ.out]
    exact ⟨HG9.out.fr.trans ((frp_setX (frp_setX (frp_setX (frp_setX (frp_setX (frp_setX (frp_setX (Frp.refl (fun k => k = R) w9) 0 (.int .u64 0)) 1 (.int .u64 0)) 2 (.int .u64 0)) 3 (.int .i64 0)) 4 (.slice none 0 0)) 5 (.slice none 0 0)) 6 (.slice none 0 0)).below (fun k hk => by have := HG9.out.lo; omega) HG9.out.fr.size), fun _ => rfl, fun h9 => absurd h9 HE0.out⟩
  subst hd0
  cases hck : checkR ⟨c1, c2, c3, c4, c5, c6, c7⟩
  · have HC := Lib.hid (fun w' (h : RpW w' ⟨c1, c2, c3, c4, c5, c6, c7⟩ (.slice p14 c5.length q14) (.slice p15 c6.length q15) (.slice p16 c7.length q16)) (hE : ErrV w') => checkR_any ⟨c1, c2, c3, c4, c5, c6, c7⟩ (.slice p14 c5.length q14) (.slice p15 c6.length q15) (.slice p16 c7.length q16) w' h hE)
    rw [hck] at HC
    have HQ : Hid (readR b = (zeR, 5)) := Lib.hid (by rw [HRD.out, hck]; simp)
    clear hck HRD
    have t2 : ((2 : Int) != 0) = true := rfl
    go_wp2_with (first | (go_at_call 13; refine (HC.out w9 (by
      have h9 := rdR_w (w := w9) (l := l) (k := .slice p14 c5.length q14) (t := .slice p15 c6.length q15) (s := .slice p16 c7.length q16) (by have := HLL.out; omega) (by rw [HA.out]; exact HW4.out.row (rwC_one (fun u => by intro v hv; simp at hv; rcases hv with rfl | rfl | rfl | rfl <;> rfl) _)) (by rw [HA.out]; exact HW5.out.row (rwC_one (fun u => by intro v hv; simp at hv; rcases hv with rfl | rfl | rfl | rfl | rfl <;> rfl) _)) (by rw [HA.out]; exact HW6.out.row (rwC_one (fun u => by intro v hv; simp at hv; rcases hv with rfl | rfl | rfl | rfl <;> rfl) _))
      rw [HA.out] at h9
      exact h9) (HEV.out.below HG9.out.fr)).mono ?_; rintro e wz ⟨rfl, hb⟩; have HGZ := Lib.hid (HG9.out.kept hb); have HV4 := Lib.hid (HW4.out.below hb); have HV5 := Lib.hid (HW5.out.below hb); have HV6 := Lib.hid (HW6.out.below hb); have fr0 := HGZ.out.r.free 0; have fr1 := HGZ.out.r.free 1; have fr2 := HGZ.out.r.free 2; have fr3 := HGZ.out.r.free 3; have fr4 := HGZ.out.r.free 4; have fr5 := HGZ.out.r.free 5; have fr6 := HGZ.out.r.free 6; have yr0 := HGZ.out.r.cell (j := 0) rfl; have yr1 := HGZ.out.r.cell (j := 1) rfl; have yr2 := HGZ.out.r.cell (j := 2) rfl; have yr3 := HGZ.out.r.cell (j := 3) rfl; have yr4 := HGZ.out.r.cell (j := 4) rfl; have yr5 := HGZ.out.r.cell (j := 5) rfl; have yr6 := HGZ.out.r.cell (j := 6) rfl; have fz0 := HGZ.out.x.free 0; have fz1 := HGZ.out.x.free 1; have fz2 := HGZ.out.x.free 2; have fz3 := HGZ.out.x.free 3; have fz4 := HGZ.out.x.free 4; have fz5 := HGZ.out.x.free 5; have fz6 := HGZ.out.x.free 6; have yz0 := HGZ.out.x.cell (j := 0) rfl; have yz1 := HGZ.out.x.cell (j := 1) rfl; have yz2 := HGZ.out.x.cell (j := 2) rfl; have yz3 := HGZ.out.x.cell (j := 3) rfl; have yz4 := HGZ.out.x.cell (j := 4) rfl; have yz5 := HGZ.out.x.cell (j := 5) rfl; have yz6 := HGZ.out.x.cell (j := 6) rfl; clear hb) | (go_at_call 53; refine (HD.out _ HG7.out.rd).mono ?_; rintro e w9 ⟨rfl, hr, hf⟩; have HG9 := Lib.hid (HG7.out.call hr hf); have HW4 := Lib.hid (HW4.out.call hf); have HW5 := Lib.hid (HW5.out.call hf); have HW6 := Lib.hid (HW6.out.call hf); have fx0 := HG9.out.x.free 0; have fx1 := HG9.out.x.free 1; have fx2 := HG9.out.x.free 2; have fx3 := HG9.out.x.free 3; have fx4 := HG9.out.x.free 4; have fx5 := HG9.out.x.free 5; have fx6 := HG9.out.x.free 6; have yx0 := HG9.out.x.cell (j := 0) rfl; have yx1 := HG9.out.x.cell (j := 1) rfl; have yx2 := HG9.out.x.cell (j := 2) rfl; have yx3 := HG9.out.x.cell (j := 3) rfl; have yx4 := HG9.out.x.cell (j := 4) rfl; have yx5 := HG9.out.x.cell (j := 5) rfl; have yx6 := HG9.out.x.cell (j := 6) rfl; clear hr hf))
    refine ret_cell rfl rfl rfl (Blk.set (Blk.set (Blk.set (Blk.set (Blk.set (Blk.set (Blk.set HGZ.out.r 0 (.int .u64 0)) 1 (.int .u64 0)) 2 (.int .u64 0)) 3 (.int .i64 0)) 4 (.slice none 0 0)) 5 (.slice none 0 0)) 6 (.slice none 0 0)) Tryz.underlying44 rfl (by kernel_rfl) ?_
    unfold readRF
    rw [HQ.out]
    exact ⟨HGZ.out.fr.trans ((frp_setX (frp_setX (frp_setX (frp_setX (frp_setX (frp_setX (frp_setX (Frp.refl (fun k => k = R) wz) 0 (.int .u64 0)) 1 (.int .u64 0)) 2 (.int .u64 0)) 3 (.int .i64 0)) 4 (.slice none 0 0)) 5 (.slice none 0 0)) 6 (.slice none 0 0)).below (fun k hk => by have := HGZ.out.lo; omega) HGZ.out.fr.size), fun _ => rfl, fun h9 => absurd h9 HE0.out⟩
  · have HC := Lib.hid (fun w' (h : RpW w' ⟨c1, c2, c3, c4, c5, c6, c7⟩ (.slice p14 c5.length q14) (.slice p15 c6.length q15) (.slice p16 c7.length q16)) (hE : ErrV w') => checkR_any ⟨c1, c2, c3, c4, c5, c6, c7⟩ (.slice p14 c5.length q14) (.slice p15 c6.length q15) (.slice p16 c7.length q16) w' h hE)
    rw [hck] at HC
    have HQ : Hid (readR b = (⟨c1, c2, c3, c4, c5, c6, c7⟩, 0)) := Lib.hid (by rw [HRD.out, hck]; simp)
    clear hck HRD
    go_wp2_with (first | (go_at_call 13; refine (HC.out w9 (by
      have h9 := rdR_w (w := w9) (l := l) (k := .slice p14 c5.length q14) (t := .slice p15 c6.length q15) (s := .slice p16 c7.length q16) (by have := HLL.out; omega) (by rw [HA.out]; exact HW4.out.row (rwC_one (fun u => by intro v hv; simp at hv; rcases hv with rfl | rfl | rfl | rfl <;> rfl) _)) (by rw [HA.out]; exact HW5.out.row (rwC_one (fun u => by intro v hv; simp at hv; rcases hv with rfl | rfl | rfl | rfl | rfl <;> rfl) _)) (by rw [HA.out]; exact HW6.out.row (rwC_one (fun u => by intro v hv; simp at hv; rcases hv with rfl | rfl | rfl | rfl <;> rfl) _))
      rw [HA.out] at h9
      exact h9) (HEV.out.below HG9.out.fr)).mono ?_; rintro e wz ⟨rfl, hb⟩; have HGZ := Lib.hid (HG9.out.kept hb); have HV4 := Lib.hid (HW4.out.below hb); have HV5 := Lib.hid (HW5.out.below hb); have HV6 := Lib.hid (HW6.out.below hb); have fr0 := HGZ.out.r.free 0; have fr1 := HGZ.out.r.free 1; have fr2 := HGZ.out.r.free 2; have fr3 := HGZ.out.r.free 3; have fr4 := HGZ.out.r.free 4; have fr5 := HGZ.out.r.free 5; have fr6 := HGZ.out.r.free 6; have yr0 := HGZ.out.r.cell (j := 0) rfl; have yr1 := HGZ.out.r.cell (j := 1) rfl; have yr2 := HGZ.out.r.cell (j := 2) rfl; have yr3 := HGZ.out.r.cell (j := 3) rfl; have yr4 := HGZ.out.r.cell (j := 4) rfl; have yr5 := HGZ.out.r.cell (j := 5) rfl; have yr6 := HGZ.out.r.cell (j := 6) rfl; have fz0 := HGZ.out.x.free 0; have fz1 := HGZ.out.x.free 1; have fz2 := HGZ.out.x.free 2; have fz3 := HGZ.out.x.free 3; have fz4 := HGZ.out.x.free 4; have fz5 := HGZ.out.x.free 5; have fz6 := HGZ.out.x.free 6; have yz0 := HGZ.out.x.cell (j := 0) rfl; have yz1 := HGZ.out.x.cell (j := 1) rfl; have yz2 := HGZ.out.x.cell (j := 2) rfl; have yz3 := HGZ.out.x.cell (j := 3) rfl; have yz4 := HGZ.out.x.cell (j := 4) rfl; have yz5 := HGZ.out.x.cell (j := 5) rfl; have yz6 := HGZ.out.x.cell (j := 6) rfl; clear hb) | (go_at_call 53; refine (HD.out _ HG7.out.rd).mono ?_; rintro e w9 ⟨rfl, hr, hf⟩; have HG9 := Lib.hid (HG7.out.call hr hf); have HW4 := Lib.hid (HW4.out.call hf); have HW5 := Lib.hid (HW5.out.call hf); have HW6 := Lib.hid (HW6.out.call hf); have fx0 := HG9.out.x.free 0; have fx1 := HG9.out.x.free 1; have fx2 := HG9.out.x.free 2; have fx3 := HG9.out.x.free 3; have fx4 := HG9.out.x.free 4; have fx5 := HG9.out.x.free 5; have fx6 := HG9.out.x.free 6; have yx0 := HG9.out.x.cell (j := 0) rfl; have yx1 := HG9.out.x.cell (j := 1) rfl; have yx2 := HG9.out.x.cell (j := 2) rfl; have yx3 := HG9.out.x.cell (j := 3) rfl; have yx4 := HG9.out.x.cell (j := 4) rfl; have yx5 := HG9.out.x.cell (j := 5) rfl; have yx6 := HG9.out.x.cell (j := 6) rfl; clear hr hf))
    refine ret_cell rfl rfl rfl (Blk.set (Blk.set (Blk.set (Blk.set (Blk.set (Blk.set (Blk.set HGZ.out.r 0 (.int .u64 c1)) 1 (.int .u64 c2)) 2 (.int .u64 c3)) 3 (.int .i64 c4)) 4 (.slice p14 c5.length q14)) 5 (.slice p15 c6.length q15)) 6 (.slice p16 c7.length q16)) Tryz.underlying44 rfl (by kernel_rfl) ?_
    unfold readRF
    rw [HQ.out]
    refine ⟨HGZ.out.fr.trans ((frp_setX (frp_setX (frp_setX (frp_setX (frp_setX (frp_setX (frp_setX (Frp.refl (fun k => k = R) wz) 0 (.int .u64 c1)) 1 (.int .u64 c2)) 2 (.int .u64 c3)) 3 (.int .i64 c4)) 4 (.slice p14 c5.length q14)) 5 (.slice p15 c6.length q15)) 6 (.slice p16 c7.length q16)).below (fun k hk => by have := HGZ.out.lo; omega) HGZ.out.fr.size), fun h9 => absurd rfl h9, fun _ => ⟨_, _, _, rfl, ?_⟩⟩
    exact (by
      have h9 := rdR_w (w := _) (l := l) (k := .slice p14 c5.length q14) (t := .slice p15 c6.length q15) (s := .slice p16 c7.length q16) (by have := HLL.out; omega) (by rw [HA.out]; exact (ow_frp HV4.out HGZ.out.r (by decide) (frp_setX (frp_setX (frp_setX (frp_setX (frp_setX (frp_setX (frp_setX (Frp.refl (fun k => k = R) wz) 0 (.int .u64 c1)) 1 (.int .u64 c2)) 2 (.int .u64 c3)) 3 (.int .i64 c4)) 4 (.slice p14 c5.length q14)) 5 (.slice p15 c6.length q15)) 6 (.slice p16 c7.length q16))).row (rwC_one (fun u => by intro v hv; simp at hv; rcases hv with rfl | rfl | rfl | rfl <;> rfl) _)) (by rw [HA.out]; exact (ow_frp HV5.out HGZ.out.r (by decide) (frp_setX (frp_setX (frp_setX (frp_setX (frp_setX (frp_setX (frp_setX (Frp.refl (fun k => k = R) wz) 0 (.int .u64 c1)) 1 (.int .u64 c2)) 2 (.int .u64 c3)) 3 (.int .i64 c4)) 4 (.slice p14 c5.length q14)) 5 (.slice p15 c6.length q15)) 6 (.slice p16 c7.length q16))).row (rwC_one (fun u => by intro v hv; simp at hv; rcases hv with rfl | rfl | rfl | rfl | rfl <;> rfl) _)) (by rw [HA.out]; exact (ow_frp HV6.out HGZ.out.r (by decide) (frp_setX (frp_setX (frp_setX (frp_setX (frp_setX (frp_setX (frp_setX (Frp.refl (fun k => k = R) wz) 0 (.int .u64 c1)) 1 (.int .u64 c2)) 2 (.int .u64 c3)) 3 (.int .i64 c4)) 4 (.slice p14 c5.length q14)) 5 (.slice p15 c6.length q15)) 6 (.slice p16 c7.length q16))).row (rwC_one (fun u => by intro v hv; simp at hv; rcases hv with rfl | rfl | rfl | rfl <;> rfl) _))
      rw [HA.out] at h9
      exact h9)
end Go.Proofs.YtopkfomlppnpeaaGreatDoor.Ms
