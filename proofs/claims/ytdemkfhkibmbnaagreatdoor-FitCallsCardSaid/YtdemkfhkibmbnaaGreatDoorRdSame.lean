/- RdSame. -/
import Derived.Test.YtdemkfhkibmbnaaGreatDoorM22
set_option maxRecDepth 100000
set_option maxHeartbeats 8000000
namespace Go.Proofs.YtdemkfhkibmbnaaGreatDoor.Ru
open Go.RowKit Go.Proofs.YtdemkfhkibmbnaaGreatDoor
theorem dsame_any (v u : Value) (L M : List Nd) (w : World) (hv : Row w v 6 L.length (rwC ndC L)) (hu : Row w u 6 M.length (rwC ndC M)) :
  Calls Tryz.prog 37 #[.agg #[v], .agg #[u]] w fun r w' => r = .returned (.bool (decide (L = M))) ∧ Below w.heap.size w w' := by
 obtain ⟨p, c, rfl, hc, hm, -⟩ := id hv; obtain ⟨p2, c2, rfl, hc2, hm2, -⟩ := id hu; have HV := zz hv; have HU := zz hu; have hml : maxLen ≤ 9223372036854775807 := by decide
 have hn63 : (L.length : Int) ≤ 9223372036854775807 := by omega
 have hm63 : (M.length : Int) ≤ 9223372036854775807 := by omega
 clear hv hu hc hm hc2 hm2 hml
 by_cases hl : L.length = M.length
 ·have HL := zz hl
  obtain ⟨n, hn⟩ : ∃ n, n = L.length := ⟨_, rfl⟩; have HN := zz hn; rw [← hl]; rw [← hn] at hn63 ⊢; clear hl hn hm63; obtain ⟨w0, hw0⟩ : ∃ w0, w0 = (w.alloc (.cells #[.slice p n c] 26)).alloc (.cells #[.slice p2 n c2] 26) := ⟨_, rfl⟩; go_enter Tryz.func37, Tryz.ntmps37; go_upto_region 1 with fail; rw [← hw0]; have HB0 : Hid (Below w.heap.size w w0) := zz (by rw [hw0]; exact below_and (below_alloc _ _) (below_alloc _ _))
  have b0 : w0.cell? ⟨w.heap.size, 0, none⟩ = some (.slice p n c) := by
   rw [hw0]; exact (Blk.alloc (Blk.made w [_] _) _).cell (j := 0) rfl
  have b1 : w0.cell? ⟨w.heap.size + 1, 0, none⟩ = some (.slice p2 n c2) := by
   rw [hw0]; have := (Blk.made (w.alloc (.cells #[.slice p n c] 26)) [.slice p2 n c2] 26).cell (j := 0) rfl; rw [show (w.alloc (.cells #[.slice p n c] 26)).heap.size = w.heap.size + 1 from by simp] at this; exact this
  clear hw0; obtain ⟨R, hR⟩ : ∃ R, R = w.heap.size := ⟨_, rfl⟩; rw [← hR] at b0 b1 ⊢; have HBB0 : Hid (w0.cell? ⟨R, 0, none⟩ = some (.slice p n c) ∧ w0.cell? ⟨R + 1, 0, none⟩ = some (.slice p2 n c2)) := zz ⟨b0, b1⟩; clear hR; go_wp2
  go_loopw [5] (fun i wr => ∃ k : Nat, k ≤ n ∧ i = .int .i64 (k : Int) ∧ Hid (∀ i (h1 : i < L.length) (h2 : i < M.length), i < k → L[i] = M[i]) ∧ Hid (Below w0.heap.size w0 wr)) (fun i _ => n - (intOf i).toNat)
  case atStart => exact ⟨0, Nat.zero_le _, rfl, zz (fun _ _ _ h => by omega), zz (Below.refl _ _)⟩
  case round =>
   obtain ⟨k, hk, rfl, HE, HB⟩ := hrel
   by_cases hlt : k < n
   ·have HKL : Hid (k < L.length) := zz (by have := HN.o; omega)
    have HKM : Hid (k < M.length) := zz (by have := HN.o; have := HL.o; omega)
    have HLC : Hid (∃ b o, p = some ⟨b, o, none⟩ ∧ ∀ j u, (ndC (L[k]'HKL.o))[j]? = some u → wr.cell? ⟨b, o + k * 6 + j, none⟩ = some u) := zz (by
     have hr := HV.o.below (below_and HB0.o HB.o)
     exact node_at hr HKL.o)
    have HMC : Hid (∃ b o, p2 = some ⟨b, o, none⟩ ∧ ∀ j u, (ndC (M[k]'HKM.o))[j]? = some u → wr.cell? ⟨b, o + k * 6 + j, none⟩ = some u) := zz (by
     have hr := HU.o.below (below_and HB0.o HB.o)
     exact node_at hr HKM.o)
    obtain ⟨x, hx⟩ : ∃ x, x = L[k]'HKL.o := ⟨_, rfl⟩; obtain ⟨y, hy⟩ : ∃ y, y = M[k]'HKM.o := ⟨_, rfl⟩; rw [← hx] at HLC; rw [← hy] at HMC; have HX := zz hx; have HY := zz hy; clear hx hy; obtain ⟨b, o, rfl, hcell⟩ := HLC.o; obtain ⟨b', o', rfl, hcell'⟩ := HMC.o; have q0 := hcell 0 _ rfl; rw [Nat.add_zero] at q0; have q1 := hcell 1 _ rfl; have q2 := hcell 2 _ rfl; have q3 := hcell 3 _ rfl; have q4 := hcell 4 _ rfl; have q5 := hcell 5 _ rfl; have r0 := hcell' 0 _ rfl; rw [Nat.add_zero] at r0; have r1 := hcell' 1 _ rfl; have r2 := hcell' 2 _ rfl; have r3 := hcell' 3 _ rfl; have r4 := hcell' 4 _ rfl; have r5 := hcell' 5 _ rfl; have b0 := cell_kept HBB0.o.1 HB.o; have b1 := cell_kept HBB0.o.2 HB.o; clear hcell hcell' HLC HMC
    by_cases he : x = y
    ·have hne : ∀ w, (binOp .neq 69 (.agg #[.int .i64 x.k, .string (bs x.nm), .string (bs x.vl), .int .i64 x.x, .int .i64 x.a, .int .i64 x.b]) (.agg #[.int .i64 y.k, .string (bs y.nm), .string (bs y.vl), .int .i64 y.x, .int .i64 y.a, .int .i64 y.b])).run Tryz.prog w = .ok (.bool false) w := fun w => by have := nd_neq x y w; rw [decide_eq_true he] at this; exact this
     have HE2 : Hid (∀ i (h1 : i < L.length) (h2 : i < M.length), i < k + 1 → L[i] = M[i]) := zz (fun i h1 h2 hi => by
      by_cases e : i = k
      ·subst e
       have e1 := HX.o; have e2 := HY.o; rw [← e1, ← e2, he]
      ·exact HE.o i h1 h2 (by omega))
     clear he; go_wp2
     go_quiet (fail)
     have HB2 : Hid (Below w0.heap.size w0 (wr.drewN nq)) := zz (Below.drewN' HB.o nq); go_wp2; go_roundw
     case rel => exact ⟨k + 1, by omega, by go_num, HE2, HB2⟩
     case measure => simp [intOf]; omega
    ·have hne : ∀ w, (binOp .neq 69 (.agg #[.int .i64 x.k, .string (bs x.nm), .string (bs x.vl), .int .i64 x.x, .int .i64 x.a, .int .i64 x.b]) (.agg #[.int .i64 y.k, .string (bs y.nm), .string (bs y.vl), .int .i64 y.x, .int .i64 y.a, .int .i64 y.b])).run Tryz.prog w = .ok (.bool true) w := fun w => by have := nd_neq x y w; rw [decide_eq_false he] at this; exact this
     have HN2 : Hid (decide (L = M) = false) := zz (list_ne HKL.o HKM.o (by rw [← HX.o, ← HY.o]; exact he)); clear he; go_wp2
     go_quiet (fail)
     have HB2 : Hid (Below w.heap.size w (wr.drewN nq)) := zz (Below.drewN' (below_and HB0.o HB.o) nq); go_wp2; go_ret; exact ⟨ret_bool HN2.o.symm, HB2.o⟩
   ·obtain rfl : k = n := by omega
    have HN2 : Hid (decide (L = M) = true) := zz (list_all HL.o (fun i h1 h2 => HE.o i h1 h2 (by have := HN.o; omega))); have b0 := cell_kept HBB0.o.1 HB.o; have b1 := cell_kept HBB0.o.2 HB.o; go_wp2; go_ret; exact ⟨ret_bool HN2.o.symm, below_and HB0.o HB.o⟩
 ·have HN2 : Hid (decide (L = M) = false) := zz (by rw [decide_eq_false_iff_not]; intro e; rw [e] at hl; exact hl rfl)
  have t1 : ((L.length : Int) != (M.length : Int)) = true := by simp; omega
  have t2 : (L.length != M.length) = true := by simpa using hl
  have t3 : (L.length == M.length) = false := by simpa using hl
  go_enter Tryz.func37, Tryz.ntmps37; go_wp2; go_ret; exact ⟨ret_bool HN2.o.symm, below_and (below_alloc _ _) (below_alloc _ _)⟩
