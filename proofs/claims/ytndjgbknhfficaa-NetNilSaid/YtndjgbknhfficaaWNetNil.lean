/- NetNil (written by gennet.py). -/
import Derived.Test.YtndjgbknhfficaaNtLives
import Derived.Test.YtndjgbknhfficaaNtOff
import Derived.Test.YtndjgbknhfficaaNtSame
import Derived.Test.YtndjgbknhfficaaNtAct
namespace Go.Proofs.Ytndjgbknhfficaa.Nt
open Go.RowKit Go.Proofs.Ytndjgbknhfficaa Go.Proofs.Ytndjgbknhfficaa.So

theorem rd_none (w : World) : Go.Proofs.Ytndjgbknhfficaa.Rd w (.slice none 0 0) [] := row_nil w 1
theorem samez_any (w : World) : Calls Try.prog 23 #[zeV, zeV] w fun e w' => e = .returned (.bool true) ∧ Below w.heap.size w w' := by
  have h := samelt_any zL zL _ _ w (rd_none w) (rd_none w)
  rw [sameL_self] at h
  exact h
set_option maxRecDepth 100000 in
set_option maxHeartbeats 8000000 in
theorem netNil_any (a : Na) (w : World) : Calls Try.prog 6 #[.agg #[.int .i64 a.k, .int .i64 a.f, .int .i64 a.t, a.v, .int .u64 a.n]] w fun e w' => e = .returned (.bool true) ∧ Below w.heap.size w w' := by
  obtain ⟨k, f, t, v, bd, n⟩ := a
  dsimp only
  go_enter Try.func6, Try.ntmps6
  go_upto_region 3 with fail
  obtain ⟨A, hA⟩ : ∃ A, A = w.heap.size := ⟨_, rfl⟩
  obtain ⟨w1, hw1⟩ : ∃ w1, w1 = w.alloc (.cells #[.int .i64 k, .int .i64 f, .int .i64 t, v, .int .u64 n] 42) := ⟨_, rfl⟩
  have HA1 : Hid (Blk w1 A [.int .i64 k, .int .i64 f, .int .i64 t, v, .int .u64 n] 42) := Lib.hid (by rw [hw1, hA]; exact Blk.made w [.int .i64 k, .int .i64 f, .int .i64 t, v, .int .u64 n] _)
  have HB1 : Hid (Below w.heap.size w w1) := Lib.hid (by rw [hw1]; exact below_alloc _ _)
  have hs1 : w1.heap.size = A + 1 := by rw [hw1, hA]; simp
  rw [← hw1, ← hA]
  clear hw1 hA
  obtain ⟨M, hM⟩ : ∃ M, M = A + 1 := ⟨_, rfl⟩
  obtain ⟨w2, hw2⟩ : ∃ w2, w2 = w1.alloc (.cells #[.map none, .int .u64 0] 59) := ⟨_, rfl⟩
  have HM2 : Hid (Blk w2 M [.map none, .int .u64 0] 59) := Lib.hid (by rw [hw2, hM, ← hs1]; exact Blk.made w1 [.map none, .int .u64 0] _)
  have HA2 : Hid (Blk w2 A [.int .i64 k, .int .i64 f, .int .i64 t, v, .int .u64 n] 42) := Lib.hid (by rw [hw2]; exact HA1.out.kept (below_alloc _ _))
  have HB2 : Hid (Below w.heap.size w w2) := Lib.hid (by rw [hw2]; exact below_and HB1.out (below_alloc _ _))
  have hs2 : w2.heap.size = M + 1 := by rw [hw2, hM, ← hs1]; simp
  rw [← hw2, ← hM]
  clear hw2 hM HA1 HB1 hs1
  obtain ⟨S, hS⟩ : ∃ S, S = M + 1 := ⟨_, rfl⟩
  obtain ⟨w3, hw3⟩ : ∃ w3, w3 = w2.alloc (.cells #[.pointer none, ptr M] 23) := ⟨_, rfl⟩
  have HS3 : Hid (Blk w3 S [.pointer none, ptr M] 23) := Lib.hid (by rw [hw3, hS, ← hs2]; exact Blk.made w2 [.pointer none, ptr M] _)
  have HM3 : Hid (Blk w3 M [.map none, .int .u64 0] 59) := Lib.hid (by rw [hw3]; exact HM2.out.kept (below_alloc _ _))
  have HA3 : Hid (Blk w3 A [.int .i64 k, .int .i64 f, .int .i64 t, v, .int .u64 n] 42) := Lib.hid (by rw [hw3]; exact HA2.out.kept (below_alloc _ _))
  have HB3 : Hid (Below w.heap.size w w3) := Lib.hid (by rw [hw3]; exact below_and HB2.out (below_alloc _ _))
  rw [← hw3, ← hS]
  clear hw3 hS hs2 HA2 HB2 HM2
  go_loopw [4] (fun vi wr => ∃ i : Nat, vi = .int .i64 i ∧ i ≤ 2 ∧ Hid (Below w3.heap.size w3 wr)) (fun vi _ => 2 - (So.intOf vi).toNat)
  case atStart => exact ⟨0, by go_num, by omega, Lib.hid (Below.refl _ _)⟩
  case round =>
    obtain ⟨i, rfl, hi, HW⟩ := hrel
    by_cases hlt : i < 2
    rotate_left
    · obtain rfl : i = 2 := by omega
      go_wp2_with (go_at_call 7; refine (nlives _).mono ?_; rintro e we ⟨rfl, hb⟩; have HE := Lib.hid (below_and (below_and HB3.out HW.out) hb); clear hb)
      go_ret
      exact ⟨rfl, HE.out⟩
    obtain ⟨v5, c5, hn⟩ : ∃ v5, wr.cell? ⟨S, i, none⟩ = some v5 ∧ NoNet wr v5 := by
      have h1 := HS3.out.kept HW.out
      have h2 := HM3.out.kept HW.out
      rcases (show i = 0 ∨ i = 1 by omega) with rfl | rfl
      · exact ⟨.pointer none, h1.cell (j := 0) rfl, .inl rfl⟩
      · exact ⟨ptr M, h1.cell (j := 1) rfl, .inr ⟨M, _, rfl, h2⟩⟩
    have HN0 := Lib.hid hn
    have HA0 := Lib.hid (HA3.out.kept HW.out)
    have HW0 := Lib.hid HW.out
    have y01 := HA0.out.cell (j := 1) rfl
    have y02 := HA0.out.cell (j := 2) rfl
    have y03 := HA0.out.cell (j := 3) rfl
    have y04 := HA0.out.cell (j := 4) rfl
    clear hn HW
    go_upto_region 8 with (first | (go_at_call 9; refine (send_off v5 _ _ _ HN0.out).mono ?_; rintro e wq1 ⟨rfl, hb⟩; have HN1 := Lib.hid (HN0.out.kept hb); have HA1 := Lib.hid (HA0.out.kept hb); have HW1 := Lib.hid (below_and HW0.out hb); have y11 := HA1.out.cell (j := 1) rfl; have y12 := HA1.out.cell (j := 2) rfl; have y14 := HA1.out.cell (j := 4) rfl; clear hb HN0 HA0 HW0) | (go_at_call 11; refine (deliver_off v5 _ HN1.out).mono ?_; rintro e wq2 ⟨rfl, hb⟩; have HN2 := Lib.hid (HN1.out.kept hb); have HA2 := Lib.hid (HA1.out.kept hb); have HW2 := Lib.hid (below_and HW1.out hb); have y21 := HA2.out.cell (j := 1) rfl; have y22 := HA2.out.cell (j := 2) rfl; have y24 := HA2.out.cell (j := 4) rfl; clear hb HN1 HA1 HW1))
    obtain ⟨K, hK⟩ : ∃ K, K = wq2.heap.size := ⟨_, rfl⟩
    obtain ⟨w8, hw8⟩ : ∃ w8, w8 = wq2.alloc (.cells #[.int .u64 0, .int .u64 0, .int .i64 0, .int .i64 0, .slice none 0 0] 32) := ⟨_, rfl⟩
    have HK3 : Hid (Blk w8 K [.int .u64 0, .int .u64 0, .int .i64 0, .int .i64 0, .slice none 0 0] 32) := Lib.hid (by rw [hw8, hK]; exact Blk.made wq2 [.int .u64 0, .int .u64 0, .int .i64 0, .int .i64 0, .slice none 0 0] _)
    have HN3 : Hid (NoNet w8 v5) := Lib.hid (by rw [hw8]; exact HN2.out.kept (below_alloc _ _))
    have HA3' : Hid (Blk w8 A [.int .i64 k, .int .i64 f, .int .i64 t, v, .int .u64 n] 42) := Lib.hid (by rw [hw8]; exact HA2.out.kept (below_alloc _ _))
    have HW3 : Hid (Below w3.heap.size w3 w8) := Lib.hid (by rw [hw8]; exact below_and HW2.out (below_alloc _ _))
    rw [← hw8, ← hK]
    clear hw8 hK HN2 HA2 HW2 y21 y22 y24
    have HA9 := HA3'
    have z1 := HA9.out.cell (j := 1) rfl
    have z2 := HA9.out.cell (j := 2) rfl
    have z4 := HA9.out.cell (j := 4) rfl
    go_upto_region 10 with (first | (go_at_call 10; refine (double_off v5 _ HN3.out).mono ?_; rintro e wq4 ⟨rfl, hb⟩; have HK4 := Lib.hid (HK3.out.kept hb); have HN4 := Lib.hid (HN3.out.kept hb); have HA4 := Lib.hid (HA9.out.kept hb); have HW4 := Lib.hid (below_and HW3.out hb); have y41 := HA4.out.cell (j := 1) rfl; have y42 := HA4.out.cell (j := 2) rfl; have y44 := HA4.out.cell (j := 4) rfl; clear hb HN3 HA9 HW3) | (go_at_call 18; refine (clear_off v5 _ HN4.out).mono ?_; rintro e wq5 ⟨rfl, hb⟩; have HK5 := Lib.hid (HK4.out.kept hb); have HN5 := Lib.hid (HN4.out.kept hb); have HA5 := Lib.hid (HA4.out.kept hb); have HW5 := Lib.hid (below_and HW4.out hb); have y51 := HA5.out.cell (j := 1) rfl; have y52 := HA5.out.cell (j := 2) rfl; have y54 := HA5.out.cell (j := 4) rfl; clear hb HN4 HA4 HW4))
    have k0 := HK5.out.cell (j := 0) rfl
    have k1 := HK5.out.cell (j := 1) rfl
    have k2 := HK5.out.cell (j := 2) rfl
    have k3 := HK5.out.cell (j := 3) rfl
    have k4 := HK5.out.cell (j := 4) rfl
    go_wp2_with (first | (go_at_call 23; refine (samez_any _).mono ?_; rintro e wq6 ⟨rfl, hb⟩; have HN6 := Lib.hid (HN5.out.kept hb); have HA6 := Lib.hid (HA5.out.kept hb); have HW6 := Lib.hid (below_and HW5.out hb); have y61 := HA6.out.cell (j := 1) rfl; have y62 := HA6.out.cell (j := 2) rfl; have y64 := HA6.out.cell (j := 4) rfl; clear hb HN5 HA5 HW5) | (go_at_call 14; refine (lose_off v5 _ HN6.out).mono ?_; rintro e wq7 ⟨rfl, hb⟩; have HN7 := Lib.hid (HN6.out.kept hb); have HA7 := Lib.hid (HA6.out.kept hb); have HW7 := Lib.hid (below_and HW6.out hb); have y71 := HA7.out.cell (j := 1) rfl; have y72 := HA7.out.cell (j := 2) rfl; have y74 := HA7.out.cell (j := 4) rfl; clear hb HN6 HA6 HW6) | (go_at_call 30; refine (flight_off v5 HN7.out).mono ?_; rintro e wq8 ⟨rfl, hb⟩; have HN8 := Lib.hid (HN7.out.kept hb); have HA8 := Lib.hid (HA7.out.kept hb); have HW8 := Lib.hid (below_and HW7.out hb); have y81 := HA8.out.cell (j := 1) rfl; have y82 := HA8.out.cell (j := 2) rfl; have y84 := HA8.out.cell (j := 4) rfl; clear hb HN7 HA7 HW7) | (go_at_call 13; refine (to_off v5 _ HN8.out).mono ?_; rintro e wq9 ⟨rfl, hb⟩; have HN9 := Lib.hid (HN8.out.kept hb); have HA9 := Lib.hid (HA8.out.kept hb); have HW9 := Lib.hid (below_and HW8.out hb); have y91 := HA9.out.cell (j := 1) rfl; have y92 := HA9.out.cell (j := 2) rfl; have y94 := HA9.out.cell (j := 4) rfl; clear hb HN8 HA8 HW8) | (go_at_call 27; refine (sent_off v5 HN9.out).mono ?_; rintro e wq10 ⟨rfl, hb⟩; have HN10 := Lib.hid (HN9.out.kept hb); have HA10 := Lib.hid (HA9.out.kept hb); have HW10 := Lib.hid (below_and HW9.out hb); have y101 := HA10.out.cell (j := 1) rfl; have y102 := HA10.out.cell (j := 2) rfl; have y104 := HA10.out.cell (j := 4) rfl; clear hb HN9 HA9 HW9))
    go_roundw
    case rel => exact ⟨i + 1, by go_num, by omega, Lib.hid HW10.out⟩
    case measure => first | (simp [So.intOf]; done) | (simp [So.intOf]; omega)
theorem netNil_walk (cs : List Value) (w : World) (h : Go.Proofs.Ytndjgbknhfficaa.Leavz Try.prog w naLs cs) : Calls Try.prog 6 #[.agg cs.toArray] w fun e w' => e = .returned (.bool true) ∧ Below w.heap.size w w' := by
  obtain ⟨y, rfl, -⟩ := na_of h (by kernel_rfl)
  exact netNil_any y w
end Go.Proofs.Ytndjgbknhfficaa.Nt
