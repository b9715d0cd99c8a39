/- MsOpen. -/
import Derived.Test.YtopkfomlppnpeaaGreatDoorMsRdF
namespace Go.Proofs.YtopkfomlppnpeaaGreatDoor.Ms
open Go.RowKit Go.Proofs.YtopkfomlppnpeaaGreatDoor

/-- what a letter's frame tells: its kind, its body, an error -/
def opn (b : List UInt8) (ks : List UInt8) : UInt8 × List UInt8 × Nat :=
  if (frd b).2.2.2 ≠ 0 then (0, [], (frd b).2.2.2) else if (frd b).2.2.1 ≠ b.length ∨ ks.any (fun k => k == (frd b).1) = false then (0, [], 5) else ((frd b).1, (frd b).2.1, 0)
def OpF (b ks : List UInt8) (w : World) (e : Ending) (w' : World) : Prop := Below w.heap.size w w' ∧ ((opn b ks).2.2 ≠ 0 → e = .returned (.tuple #[.agg #[.int .u8 0, .slice none 0 0], .int .i64 ((opn b ks).2.2 : Nat)])) ∧ ((opn b ks).2.2 = 0 → ∃ vb, e = .returned (.tuple #[.agg #[.int .u8 ((opn b ks).1.toNat : Nat), vb], .int .i64 0]) ∧ Fresh w.heap.size w' vb (opn b ks).2.1)
theorem byte_beq' (x k : UInt8) : (x.toNat == k.toNat) = (x == k) := by
  by_cases h : x = k
  · subst h; simp
  · rw [beq_eq_false_iff_ne.2 h, beq_eq_false_iff_ne.2 (fun e => h (UInt8.toNat_inj.1 e))]
theorem byte_beq (x k : UInt8) : ((x.toNat : Int) == (k.toNat : Int)) = (x == k) := by
  rw [← byte_beq']
  by_cases h : x.toNat = k.toNat
  · rw [h]; simp
  · rw [beq_eq_false_iff_ne.2 h, beq_eq_false_iff_ne.2 (fun e => h (by omega))]
set_option maxRecDepth 100000 in
set_option maxHeartbeats 2000000 in
theorem open_any (v vk : Value) (b ks : List UInt8) (w : World) (h : Rd w v b) (hk : Rd w vk ks) (hl : b.length ≤ 1000000000) (hkl : ks.length ≤ 1000) : Calls Tryz.prog 41 #[v, vk] w (OpF b ks w) := by
  obtain ⟨p, c, rfl⟩ := rd_slice h
  obtain ⟨q, d, rfl⟩ := rd_slice hk
  obtain ⟨n, hn⟩ : ∃ n, n = b.length := ⟨_, rfl⟩
  obtain ⟨m, hm⟩ : ∃ m, m = ks.length := ⟨_, rfl⟩
  have HN := Lib.hid hn
  have HM := Lib.hid hm
  obtain ⟨X, hX⟩ : ∃ X, X = w.heap.size := ⟨_, rfl⟩
  obtain ⟨w1, hw1⟩ : ∃ w1, w1 = w.alloc (.cells #[.int .u8 0, .slice none 0 0] 79) := ⟨_, rfl⟩
  have HX1 : Hid (Blk w1 X [.int .u8 0, .slice none 0 0] 79) := Lib.hid (by rw [hw1, hX]; exact Blk.made w [.int .u8 0, .slice none 0 0] _)
  have HF1 : Hid (Frp (fun k => k = X) w w1) := Lib.hid (by rw [hw1]; exact Frp.of_below (below_alloc _ _) _)
  have HK1 : Hid (Rd w1 (.slice q m d) ks) := Lib.hid (by rw [hw1, hm]; exact hk.below (below_alloc _ _))
  have HCR : Hid (Calls Tryz.prog 112 #[.slice p n c] w1 (RdF b w1)) := Lib.hid (fread_any _ b w1 (by rw [hw1, hn]; exact h.below (below_alloc _ _)) hl)
  have HXX := Lib.hid hX
  rw [← hn] at hl ⊢
  rw [← hm] at hkl ⊢
  clear h hk hn hm
  have HFM : Hid (m ≤ 1000) := Lib.hid hkl
  go_enter Tryz.func41, Tryz.ntmps41
  go_upto_region 1 with fail
  rw [← hw1, ← hX]
  clear hw1 hX
  obtain ⟨kd, bd, len, er, hfr⟩ : ∃ kd bd len er, frd b = (kd, bd, len, er) := ⟨_, _, _, _, rfl⟩
  have HFR := Lib.hid hfr
  by_cases he : er = 0
  rotate_left
  · have HE0 : Hid (er ≠ 0) := Lib.hid he
    have HQ : Hid (opn b ks = (0, [], er)) := Lib.hid (by unfold opn; rw [HFR.out, if_pos he])
    have t0 : ((er : Int) != 0) = true := by simp; omega
    have t1 : (er != 0) = true := by simp; omega
    have HC2 : Hid (Calls Tryz.prog 112 #[.slice p n c] w1 fun e w' => e = .returned (.tuple #[.agg #[.int .u8 0, .slice none 0 0], .int .i64 0, .int .i64 er]) ∧ Below w1.heap.size w1 w') := Lib.hid (HCR.out.mono fun e w' h9 => by unfold RdF at h9; rw [HFR.out] at h9; exact ⟨h9.2.1 he, h9.1⟩)
    clear hfr HFR HCR he
    go_upto_region 2 with (go_at_call 112; refine HC2.out.mono ?_; rintro e w2 ⟨rfl, hb⟩; have HB12 := Lib.hid hb; clear hb)
    obtain ⟨w3, hw3⟩ : ∃ w3, w3 = w2.alloc (.cells #[.int .u8 0, .slice none 0 0] 79) := ⟨_, rfl⟩
    have HB13 : Hid (Below w1.heap.size w1 w3) := Lib.hid (by rw [hw3]; exact below_and HB12.out (below_alloc _ _))
    rw [← hw3]
    clear hw3
    have HX3 := Lib.hid (HX1.out.kept HB13.out)
    have HF3 := Lib.hid (HF1.out.next HB13.out)
    have fx3_0 := HX3.out.free 0
    have fx3_1 := HX3.out.free 1
    have yx3_0 := HX3.out.cell (j := 0) rfl
    have yx3_1 := HX3.out.cell (j := 1) rfl
    go_wp2
    refine ret_cell rfl rfl rfl ((HX3.out.set 0 (.int .u8 0)).set 1 (.slice none 0 0)) Tryz.underlying79 rfl (by kernel_rfl) ?_
    unfold OpF
    rw [HQ.out]
    exact ⟨(frp_setX (frp_setX HF3.out 0 _) 1 _).below (fun k hk => by rw [hk, HXX.out]; exact Nat.le_refl _) (Nat.le_refl _), fun _ => rfl, fun h9 => absurd h9 HE0.out⟩
  subst he
  obtain ⟨bn, hbn⟩ : ∃ bn, bn = bd.length := ⟨_, rfl⟩
  have HBN := Lib.hid hbn
  have HC2 : Hid (Calls Tryz.prog 112 #[.slice p n c] w1 fun e w' => ∃ p2 c2, e = .returned (.tuple #[.agg #[.int .u8 (kd.toNat : Int), .slice p2 bn c2], .int .i64 len, .int .i64 0]) ∧ Fresh w1.heap.size w' (.slice p2 bn c2) bd ∧ Below w1.heap.size w1 w') := Lib.hid (HCR.out.mono fun e w' h9 => by
    unfold RdF at h9
    rw [HFR.out] at h9
    obtain ⟨h1, -, h3⟩ := h9
    obtain ⟨vb, h4, h5⟩ := h3 rfl
    obtain ⟨p2, c2, rfl⟩ := fresh_slice h5
    rw [← hbn] at h4 h5
    exact ⟨p2, c2, h4, h5, h1⟩)
  clear hbn HCR hfr
  go_upto_region 2 with (go_at_call 112; refine HC2.out.mono ?_; rintro e w2 ⟨p2, c2, rfl, hfs, hb⟩; have HB12 := Lib.hid hb; have HO2 := Lib.hid hfs; clear hb hfs)
  obtain ⟨Y, hY⟩ : ∃ Y, Y = w2.heap.size := ⟨_, rfl⟩
  obtain ⟨w3, hw3⟩ : ∃ w3, w3 = w2.alloc (.cells #[.int .u8 (kd.toNat : Int), .slice p2 bn c2] 79) := ⟨_, rfl⟩
  have HY3 : Hid (Blk w3 Y [.int .u8 (kd.toNat : Int), .slice p2 bn c2] 79) := Lib.hid (by rw [hw3, hY]; exact Blk.made w2 [_, _] _)
  have HB13 : Hid (Below w1.heap.size w1 w3) := Lib.hid (by rw [hw3]; exact below_and HB12.out (below_alloc _ _))
  have HO3 : Hid (Fresh w1.heap.size w3 (.slice p2 bn c2) bd) := Lib.hid (by rw [hw3]; exact own_keep HO2.out (below_alloc _ _))
  rw [← hw3, ← hY]
  clear hw3 hY
  have HX3 := Lib.hid (HX1.out.kept HB13.out)
  have HF3 := Lib.hid (HF1.out.next HB13.out)
  have HK3 := Lib.hid (HK1.out.below HB13.out)
  have fx3_0 := HX3.out.free 0
  have fx3_1 := HX3.out.free 1
  have yx3_0 := HX3.out.cell (j := 0) rfl
  have yx3_1 := HX3.out.cell (j := 1) rfl
  have fy3_0 := HY3.out.free 0
  have fy3_1 := HY3.out.free 1
  have yy3_0 := HY3.out.cell (j := 0) rfl
  have yy3_1 := HY3.out.cell (j := 1) rfl
  have HAT : Hid (∀ j, j < m → ∃ g o, q = some ⟨g, o, none⟩ ∧ w3.cell? ⟨g, o + j, none⟩ = some (.int .u8 ((ks.getD j 0).toNat : Int))) := Lib.hid (fun j hj => by
    obtain ⟨g, o, h1, h2⟩ := rd_at (n := m) (c := d) HK3.out (fun e => by have h9 := HM.out; rw [e] at h9; simp at h9; omega)
    exact ⟨g, o, h1, h2 j (by rw [← HM.out]; exact hj)⟩)
  go_upto_region 6 with fail
  go_loopw [9, 24] (fun vk vi wr => wr = w3 ∧ ∃ i : Nat, i ≤ m ∧ vi = .int .i64 i ∧ ∃ r : Bool, vk = .bool r ∧ Hid (r = (ks.take i).any (fun k => k == kd))) (fun _ vi _ => m - (intOf vi).toNat)
  case atStart => exact ⟨rfl, 0, Nat.zero_le _, by go_num, false, rfl, Lib.hid (by simp)⟩
  case round =>
    obtain ⟨rfl, i, hi, rfl, r, rfl, HR⟩ := hrel
    by_cases him : i < m
    rotate_left
    · obtain rfl : i = m := by omega
      have HR2 : Hid (r = ks.any (fun k => k == kd)) := Lib.hid (by have h9 := HR.out; rw [HM.out, List.take_length] at h9; exact h9)
      clear HR
      by_cases hnl : len = n
      · subst hnl
        have t3 : ((len : Int) != (len : Int)) = false := by simp
        have t4 : (len != len) = false := by simp
        cases r
        · have HE0 : Hid (5 ≠ 0) := Lib.hid (by decide)
          have HQ : Hid (opn b ks = (0, [], 5)) := Lib.hid (by unfold opn; rw [HFR.out, if_neg (by simp), if_pos (.inr HR2.out.symm)])
          go_wp2
          refine ret_cell rfl rfl rfl ((HX3.out.set 0 (.int .u8 0)).set 1 (.slice none 0 0)) Tryz.underlying79 rfl (by kernel_rfl) ?_
          unfold OpF
          rw [HQ.out]
          exact ⟨(frp_setX (frp_setX HF3.out 0 _) 1 _).below (fun k hk => by rw [hk, HXX.out]; exact Nat.le_refl _) (Nat.le_refl _), fun _ => rfl, fun h9 => absurd h9 HE0.out⟩
        · have HQ : Hid (opn b ks = (kd, bd, 0)) := Lib.hid (by unfold opn; rw [HFR.out, if_neg (by simp), if_neg (by rw [← HR2.out, HN.out]; simp)])
          go_wp2
          refine ret_cell rfl rfl rfl ((HX3.out.set 0 (.int .u8 (kd.toNat : Int))).set 1 (.slice p2 bn c2)) Tryz.underlying79 rfl (by kernel_rfl) ?_
          unfold OpF
          rw [HQ.out]
          exact ⟨(frp_setX (frp_setX HF3.out 0 _) 1 _).below (fun k hk => by rw [hk, HXX.out]; exact Nat.le_refl _) (Nat.le_refl _), fun h9 => absurd rfl h9, fun _ => ⟨_, rfl, own_mono (own_frp HO3.out (frp_setX (frp_setX (Frp.refl _ wr) 0 _) 1 _) (fun g hg hX => own_ty HO3.out HX3.out (by decide) (by rw [← hX]; exact hg))) HF1.out.size⟩⟩
      · have HE0 : Hid (5 ≠ 0) := Lib.hid (by decide)
        have HQ : Hid (opn b ks = (0, [], 5)) := Lib.hid (by unfold opn; rw [HFR.out, if_neg (by simp), if_pos (.inl (by rw [← HN.out]; exact hnl))])
        have t3 : ((len : Int) != (n : Int)) = true := by simp; omega
        have t4 : (len != n) = true := by simp; omega
        go_wp2
        refine ret_cell rfl rfl rfl ((HX3.out.set 0 (.int .u8 0)).set 1 (.slice none 0 0)) Tryz.underlying79 rfl (by kernel_rfl) ?_
        unfold OpF
        rw [HQ.out]
        exact ⟨(frp_setX (frp_setX HF3.out 0 _) 1 _).below (fun k hk => by rw [hk, HXX.out]; exact Nat.le_refl _) (Nat.le_refl _), fun _ => rfl, fun h9 => absurd h9 HE0.out⟩
    have i1 : (i : Int) < (m : Int) := by omega
    obtain ⟨g, o, rfl, hx⟩ := HAT.out i him
    obtain ⟨x, hxx⟩ : ∃ x, x = ks.getD i 0 := ⟨_, rfl⟩
    rw [← hxx] at hx
    have HRN : Hid ((ks.take (i + 1)).any (fun k => k == kd) = (r || x == kd)) := Lib.hid (by rw [List.take_succ_eq_append_getElem (by rw [← HM.out]; exact him), List.any_append, ← HR.out, hxx, List.getD_eq_getElem?_getD, List.getElem?_eq_getElem (by rw [← HM.out]; exact him)]; simp)
    have i3 : i ≤ 1000 := by have := HFM.out; omega
    clear hxx HR
    cases r
    · have t5 := byte_beq x kd
      have t6 := byte_beq' x kd
      generalize hz : (x == kd) = z at t5 t6 HRN
      clear hz
      go_wp2
      go_roundw
      case rel => exact ⟨(by first | rfl | trivial), i + 1, him, by go_num, z, (by first | rfl | simp), Lib.hid (by rw [HRN.out]; rfl)⟩
      case measure => simp [intOf]; omega
    · go_wp2
      go_roundw
      case rel => exact ⟨(by first | rfl | trivial), i + 1, him, by go_num, true, rfl, Lib.hid (by rw [HRN.out]; rfl)⟩
      case measure => simp [intOf]; omega
end Go.Proofs.YtopkfomlppnpeaaGreatDoor.Ms
