/- , laid together: MsDSum, MsDFr. -/
import Derived.Test.YtopkfomlppnpeaaGreatDoorMFm
import Derived.Test.YtopkfomlppnpeaaGreatDoorMDl
import Derived.Test.YtopkfomlppnpeaaGreatDoorMFr
import Derived.Deep.RegionHeld3
namespace Go.Proofs.YtopkfomlppnpeaaGreatDoor.Ms
open Go.RowKit Go.Proofs.YtopkfomlppnpeaaGreatDoor

set_option maxRecDepth 100000 in
set_option maxHeartbeats 1000000 in
theorem times_any (y : Nat) (w : World) (hy : y < 4294967296) : Calls Tryz.prog 156 #[.int .u32 y] w fun e w' => e = .returned (.int .u32 (stp y)) ∧ w = w' := by
  have e2 := a32 y hy
  have HYL := Lib.hid hy
  by_cases h2 : y % 2 = 1
  · have t0 : (bits BinOp.and IntKind.u32 (y : Int) 1 == 1) = true := by rw [e2, h2]; rfl
    have e3 : bits BinOp.xor IntKind.u32 ((y : Int) / 2) 3988292384 = ((stp y : Nat) : Int) := by
      have := x32 (y / 2) poly (by have := HYL.out; omega) (by decide)
      unfold stp
      rw [if_pos h2]
      exact this
    have H2 := Lib.hid h2
    clear h2 e2 hy
    go_enter Tryz.func156, Tryz.ntmps156
    go_wp2
    go_ret
    exact ⟨by first | rfl | (rw [← e3]; rfl), rfl⟩
  · have t0 : (bits BinOp.and IntKind.u32 (y : Int) 1 == 1) = false := by rw [e2]; simp; omega
    have e3 : (y : Int) / 2 = ((stp y : Nat) : Int) := by
      unfold stp
      rw [if_neg h2]
      omega
    have H2 := Lib.hid h2
    clear h2 e2 hy
    go_enter Tryz.func156, Tryz.ntmps156
    go_wp2
    go_ret
    exact ⟨by first | rfl | (rw [← e3]; rfl), rfl⟩
set_option maxRecDepth 100000 in
set_option maxHeartbeats 2000000 in
theorem rmore_any (s : Nat) (v : Value) (l : List UInt8) (w : World) (hs : s < 4294967296) (h : Rd w v l) : Calls Tryz.prog 136 #[.int .u32 s, v] w fun e w' => e = .returned (.int .u32 (more s l)) ∧ w = w' := by
  have HRD := Lib.hid h
  obtain ⟨p, c, rfl, hc, hm, -⟩ := h.parts
  unfold maxLen at hm
  have e1 := inv32 s hs
  have HI : Hid (inv s < 4294967296) := Lib.hid (inv_lt hs)
  obtain ⟨x, hx⟩ : ∃ x, x = inv s := ⟨_, rfl⟩
  have HM : Hid (more s l = inv (l.foldl byB x)) := Lib.hid (by rw [hx]; rfl)
  rw [← hx] at e1 HI
  obtain ⟨m, hmm⟩ : ∃ m, m = l.length := ⟨_, rfl⟩
  have HMM := Lib.hid hmm
  rw [← hmm] at HRD hc ⊢
  clear h hs hx hmm
  go_enter Tryz.func136, Tryz.ntmps136
  go_upto_region 3 with fail
  (try rw [e1])
  clear e1
  go_loopw [5, 6] (fun vs vi wr => wr = w ∧ ∃ k : Nat, k ≤ m ∧ vi = .int .i64 k ∧ ∃ y : Nat, vs = .int .u32 y ∧ Hid (y = (l.take k).foldl byB x)) (fun _ vi _ => m - (intOf vi).toNat)
  case atStart => exact ⟨rfl, 0, Nat.zero_le _, by go_num, x, rfl, Lib.hid rfl⟩
  case round =>
    obtain ⟨rfl, k, hk, rfl, y, rfl, HY⟩ := hrel
    have HYL : Hid (y < 4294967296) := Lib.hid (by rw [HY.out]; exact fold_lt _ HI.out)
    by_cases hlt : k < m
    · have HK : Hid (k < l.length) := Lib.hid (by rw [← HMM.out]; exact hlt)
      obtain ⟨b, o, rfl, hcell⟩ := Ms.Rd.byteA HRD.out HMM.out HK.out
      obtain ⟨z, hz⟩ : ∃ z, z = l[k]'HK.out := ⟨_, rfl⟩
      rw [← hz] at hcell
      have HN : Hid ((l.take (k + 1)).foldl byB x = byB y z) := Lib.hid (by rw [List.take_succ_eq_append_getElem HK.out, List.foldl_append, ← HY.out, ← hz]; rfl)
      clear hz
      have hzl := z.toNat_lt
      have e4 : bits BinOp.xor IntKind.u32 (y : Int) ((z.toNat : Int) % 4294967296) = ((y ^^^ z.toNat : Nat) : Int) := by
        rw [show ((z.toNat : Int) % 4294967296) = (z.toNat : Int) by omega]
        exact x32 y z.toNat HYL.out (by omega)
      have e5 : bits BinOp.xor IntKind.u32 (y : Int) (z.toNat : Int) = ((y ^^^ z.toNat : Nat) : Int) := x32 y z.toNat HYL.out (by omega)
      obtain ⟨q, hq⟩ : ∃ q, q = y ^^^ z.toNat := ⟨_, rfl⟩
      have HQL : Hid (q < 4294967296) := Lib.hid (by rw [hq]; exact xor_lt HYL.out (by omega))
      have HQ8 : Hid (byB y z = itr 8 q) := Lib.hid (by rw [hq]; exact byB_itr y z)
      rw [← hq] at e4 e5
      clear hq
      have i1 : (k : Int) < (m : Int) := by omega
      go_upto_region 7 with fail
      (try rw [e4])
      (try rw [e5])
      clear e4 e5
      go_loopw [5, 7] (fun vs vi wr2 => wr2 = wr ∧ ∃ j : Nat, j ≤ 8 ∧ vi = .int .i64 j ∧ ∃ y2 : Nat, vs = .int .u32 y2 ∧ Hid (y2 = itr j q)) (fun _ vi _ => 8 - (intOf vi).toNat)
      case atStart => exact ⟨rfl, 0, by omega, by go_num, q, rfl, Lib.hid rfl⟩
      case round =>
        obtain ⟨rfl, j, hj, rfl, y2, rfl, HY2⟩ := hrel
        by_cases hj8 : j = 8
        · subst hj8
          have HR8 : Hid (y2 = byB y z) := Lib.hid (by rw [HQ8.out, HY2.out])
          go_wp2
          go_roundw
          case rel => exact ⟨(by first | rfl | trivial), k + 1, hlt, by go_num, y2, rfl, Lib.hid (by rw [HN.out, HR8.out])⟩
          case measure => simp [intOf]; omega
        · have i2 : (j : Int) < 8 := by omega
          have HTM := Lib.hid (fun w9 => times_any y2 w9 (by rw [HY2.out]; exact itr_lt j HQL.out))
          go_wp2_with (go_at_call 156; refine (HTM.out _).mono ?_; rintro e w2 ⟨rfl, rfl⟩)
          go_roundw
          case rel => exact ⟨(by first | rfl | trivial), j + 1, by omega, by go_num, stp y2, rfl, Lib.hid (by rw [HY2.out]; rfl)⟩
          case measure => simp [intOf]; omega
    · obtain rfl : k = m := by omega
      have HQ : Hid (more s l = inv y) := Lib.hid (by rw [HM.out, HY.out, HMM.out, List.take_length])
      have e2 := inv32 y HYL.out
      go_wp2
      go_ret
      exact ⟨congrArg (fun z : Nat => Ending.returned (.int .u32 (z : Int))) HQ.out.symm, rfl⟩
set_option maxRecDepth 100000 in
set_option maxHeartbeats 1000000 in
theorem rsum_any (v : Value) (l : List UInt8) (w : World) (h : Rd w v l) : Calls Tryz.prog 134 #[v] w fun e w' => e = .returned (.int .u32 (more 0 l)) ∧ w = w' := by
  have h9 := rmore_any 0 v l w (by omega) h
  obtain ⟨r, hr⟩ : ∃ r, r = more 0 l := ⟨_, rfl⟩
  rw [← hr] at h9 ⊢
  clear hr
  have H : Hid (Calls Tryz.prog 136 #[.int .u32 0, v] w fun e w' => e = .returned (.int .u32 r) ∧ w = w') := h9
  clear h9
  obtain ⟨p, c, rfl, hc, hm, -⟩ := h.parts
  obtain ⟨m, hmm⟩ : ∃ m, m = l.length := ⟨_, rfl⟩
  rw [← hmm] at H ⊢
  clear h hc hm hmm
  go_enter Tryz.func134, Tryz.ntmps134
  go_wp2_with (go_at_call 136; refine H.out.mono ?_; rintro e w2 ⟨rfl, rfl⟩)
  go_ret
  exact ⟨rfl, rfl⟩
end Go.Proofs.YtopkfomlppnpeaaGreatDoor.Ms

namespace Go.Proofs.YtopkfomlppnpeaaGreatDoor.Ms
open Go.RowKit Go.Proofs.YtopkfomlppnpeaaGreatDoor

set_option maxRecDepth 100000 in
set_option maxHeartbeats 2000000 in
theorem rless_any (j : List UInt8) (i : Int) (j' : List UInt8) (i' : Int) (w : World) : Calls Tryz.prog 70 #[.agg #[.string (bs j), .int .i64 i], .agg #[.string (bs j'), .int .i64 i']] w fun e w' => e = .returned (.bool (bl j j' || (j == j' && decide (i < i')))) ∧ Below w.heap.size w w' := by
  obtain ⟨r, hr⟩ : ∃ r, r = bl j j' := ⟨_, rfl⟩
  have l0 : Op.bytesLess (bs j).toList (bs j').toList = r := by rw [hr]; rfl
  obtain ⟨q, hq⟩ : ∃ q, q = (j == j') := ⟨_, rfl⟩
  have q0 : ((bs j).toList == (bs j').toList) = q := by rw [beq_bs, hq]
  obtain ⟨z, hz⟩ : ∃ z, z = decide (i < i') := ⟨_, rfl⟩
  have z0 : decide (i < i') = z := hz.symm
  rw [← hr, ← hq, ← hz]
  clear hr hq hz
  obtain ⟨X, hX⟩ : ∃ X, X = w.heap.size := ⟨_, rfl⟩
  obtain ⟨w2, hw2⟩ : ∃ w2, w2 = (w.alloc (.cells #[.string (bs j), .int .i64 i] 35)).alloc (.cells #[.string (bs j'), .int .i64 i'] 35) := ⟨_, rfl⟩
  have HX : Hid (Blk w2 X [.string (bs j), .int .i64 i] 35) := Lib.hid (by rw [hw2, hX]; exact (Blk.made w [.string (bs j), .int .i64 i] _).alloc _)
  have HY : Hid (Blk w2 (X + 1) [.string (bs j'), .int .i64 i'] 35) := Lib.hid (by rw [hw2, hX]; have := Blk.made (w.alloc (.cells #[.string (bs j), .int .i64 i] 35)) [.string (bs j'), .int .i64 i'] 35; simpa using this)
  have HB : Hid (Below w.heap.size w w2) := Lib.hid (by rw [hw2]; exact below_and (below_alloc _ _) (below_alloc _ _))
  have hs1 : (w.alloc (.cells #[.string (bs j), .int .i64 i] 35)).heap.size = X + 1 := by rw [hX]; simp
  go_enter Tryz.func70, Tryz.ntmps70
  go_upto_region 1 with fail
  (try rw [hs1])
  rw [← hw2, ← hX]
  clear hw2 hX hs1
  have x0 := HX.out.cell (j := 0) rfl
  have x1 := HX.out.cell (j := 1) rfl
  have y0 := HY.out.cell (j := 0) rfl
  have y1 := HY.out.cell (j := 1) rfl
  cases r <;> cases q <;> cases z <;> (go_wp2; go_ret; exact ⟨rfl, HB.out⟩)
set_option maxRecDepth 100000 in
set_option maxHeartbeats 2000000 in
theorem rfour_any (s : Nat) (w : World) : Calls Tryz.prog 153 #[.int .u32 s] w fun e w' => e = .returned (.slice (some ⟨w.heap.size, 0, none⟩) 4 4) ∧ Blk w' w.heap.size ((le4 s).map B) 5 ∧ Below w.heap.size w w' := by
  have HC : Hid ((le4 s).map B = [.int .u8 ((s : Int) % 256), .int .u8 ((s : Int) / 256 % 256), .int .u8 ((s : Int) / 65536 % 256), .int .u8 ((s : Int) / 16777216 % 256)]) := Lib.hid (le4_cells s)
  rw [HC.out]
  go_enter Tryz.func153, Tryz.ntmps153
  go_wp2
  go_ret
  exact ⟨rfl, Blk.made w [_, _, _, _] _, below_alloc _ _⟩
set_option maxRecDepth 100000 in
set_option maxHeartbeats 2000000 in
theorem rnumber4_any (v : Value) (l : List UInt8) (w : World) (h : Rd w v l) (hl : 4 ≤ l.length) (hm : l.length ≤ 9223372036854775807) : Calls Tryz.prog 135 #[v] w fun e w' => e = .returned (.int .u32 (num4 l)) ∧ Below w.heap.size w w' := by
  obtain ⟨p, c, rfl⟩ := rd_slice h
  obtain ⟨n, hn⟩ : ∃ n, n = l.length := ⟨_, rfl⟩
  obtain ⟨b, o, rfl, hat⟩ := rd_at h (fun e => by rw [e] at hl; simp at hl)
  have h0 := fun (s : Past w) => cell_kept (hat 0 (by omega)) s.h
  have h1 := fun (s : Past w) => cell_kept (hat 1 (by omega)) s.h
  have h2 := fun (s : Past w) => cell_kept (hat 2 (by omega)) s.h
  have h3 := fun (s : Past w) => cell_kept (hat 3 (by omega)) s.h
  obtain ⟨c0, hc0⟩ : ∃ x : Nat, x = (l.getD 0 0).toNat := ⟨_, rfl⟩
  obtain ⟨c1, hc1⟩ : ∃ x : Nat, x = (l.getD 1 0).toNat := ⟨_, rfl⟩
  obtain ⟨c2, hc2⟩ : ∃ x : Nat, x = (l.getD 2 0).toNat := ⟨_, rfl⟩
  obtain ⟨c3, hc3⟩ : ∃ x : Nat, x = (l.getD 3 0).toNat := ⟨_, rfl⟩
  have l0 : c0 < 256 := by rw [hc0]; exact UInt8.toNat_lt _
  have l1 : c1 < 256 := by rw [hc1]; exact UInt8.toNat_lt _
  have l2 : c2 < 256 := by rw [hc2]; exact UInt8.toNat_lt _
  have l3 : c3 < 256 := by rw [hc3]; exact UInt8.toNat_lt _
  have HR : Hid (num4 l = c0 + c1 * 256 + c2 * 65536 + c3 * 16777216) := Lib.hid (by rw [hc0, hc1, hc2, hc3]; rfl)
  simp only [← hc0, Nat.add_zero] at h0
  simp only [← hc1] at h1
  simp only [← hc2] at h2
  simp only [← hc3] at h3
  rw [← hn] at hl hm ⊢
  clear hc0 hc1 hc2 hc3 hat h hn
  have HBV : Hid (bits .or .u32 (bits .or .u32 (bits .or .u32 (c0 : Int) ((c1 : Int) * 256)) ((c2 : Int) * 65536)) ((c3 : Int) * 16777216) = ((num4 l : Nat) : Int)) := Lib.hid (by
    have b1 := o32s (a := c0) (b := c1) (k := 8) (by omega) (by omega)
    have b2 := o32s (a := c0 + c1 * 256) (b := c2) (k := 16) (by omega) (by omega)
    have b3 := o32s (a := c0 + c1 * 256 + c2 * 65536) (b := c3) (k := 24) (by omega) (by omega)
    simp only [show (2 : Int) ^ 8 = 256 from by decide, show (2 : Nat) ^ 8 = 256 from by decide, show (2 : Int) ^ 16 = 65536 from by decide, show (2 : Nat) ^ 16 = 65536 from by decide, show (2 : Int) ^ 24 = 16777216 from by decide, show (2 : Nat) ^ 24 = 16777216 from by decide] at b1 b2 b3
    rw [b1, b2, b3, HR.out])
  go_enter Tryz.func135, Tryz.ntmps135
  go_upto_region 1 with fail
  refine wp_region_past (by kernel_rfl) (by kernel_rfl) ?_
  repeat (go_big_quiet_step (fail))
  refine wpQuiet_nil ?_
  intro _ hw'
  obtain ⟨s9, hw''⟩ := hw'
  subst hw''
  obtain ⟨w9, h9, e9⟩ : ∃ w9, Below w.heap.size w w9 ∧ w9 = s9.val := ⟨_, s9.h, rfl⟩
  rw [← e9]
  have HB9 : Hid (Below w.heap.size w w9) := Lib.hid h9
  clear h9 e9 h0 h1 h2 h3
  go_wp2
  go_ret
  exact ⟨by rw [← HBV.out]; rfl, HB9.out⟩
end Go.Proofs.YtopkfomlppnpeaaGreatDoor.Ms
