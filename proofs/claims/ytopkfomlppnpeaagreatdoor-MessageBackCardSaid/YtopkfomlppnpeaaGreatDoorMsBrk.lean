/- MsBrk. -/
import Derived.Test.YtopkfomlppnpeaaGreatDoorMBk
import Derived.Test.YtopkfomlppnpeaaGreatDoorMsLives
import Derived.Test.YtopkfomlppnpeaaGreatDoorPick
import Derived.Deep.RegionHeld3
namespace Go.Proofs.YtopkfomlppnpeaaGreatDoor.Ms
open Go.RowKit Go.Proofs.YtopkfomlppnpeaaGreatDoor

theorem readP_num (v : Value) (b : List UInt8) (w : World) (h : Rd w v b) (hl : b.length ≤ 1000000000) (hE : ErrV w) : Calls Tryz.prog 19 #[v] w fun e w' => ∃ (m0 m1 m2 m3 m4 m9 : Int) (pk : Option Addr) (nk ck : Nat) (pt : Option Addr) (nt ct : Nat) (ps : Option Addr) (ns cs : Nat), e = .returned (.tuple #[.agg #[.int .u64 m0, .int .u64 m1, .int .u64 m2, .int .i64 m3, .int .i64 m4, .slice pk nk ck, .slice pt nt ct, .slice ps ns cs, .int .u64 m9], .int .i64 ((readP b).2 : Nat)]) ∧ Below w.heap.size w w' := by
  refine (readP_any v b w h hl hE).mono fun e w' h9 => ?_
  unfold readPF at h9
  obtain ⟨h1, h2, h3⟩ := h9
  by_cases h0 : (readP b).2 = 0
  · obtain ⟨vk, vt, vs, h4, h5⟩ := h3 h0
    obtain ⟨pk, ck, rfl, -⟩ := row_el h5.k
    obtain ⟨pt, ct, rfl, -⟩ := row_el h5.t
    obtain ⟨ps, cs, rfl, -⟩ := row_el h5.s
    rw [h0]
    exact ⟨_, _, _, _, _, _, pk, _, ck, pt, _, ct, ps, _, cs, h4, h1⟩
  · exact ⟨0, 0, 0, 0, 0, 0, none, 0, 0, none, 0, 0, none, 0, 0, h2 h0, h1⟩
set_option maxRecDepth 100000 in
set_option maxHeartbeats 2000000 in
theorem bkP_any (v : Value) (b : List UInt8) (w : World) (h : Rd w v b) (hl : b.length ≤ 1000000000) (hE : ErrV w) : Calls Tryz.prog 27 #[v] w fun e w' => e = .returned (.int .i64 ((readP b).2 : Nat)) ∧ Below w.heap.size w w' := by
  have HRN := Lib.hid (readP_num v b w h hl hE)
  obtain ⟨n, hn⟩ : ∃ n, n = (readP b).2 := ⟨_, rfl⟩
  rw [← hn] at HRN ⊢
  clear h hl hE hn
  go_enter Tryz.func27, Tryz.ntmps27
  go_upto_region 2 with (go_at_call 19; refine HRN.out.mono ?_; rintro e w2 ⟨m0, m1, m2, m3, m4, m9, pk, nk, ck, pt, nt, ct, ps, ns, cs, rfl, hb⟩; have HB2 := Lib.hid hb; clear hb)
  obtain ⟨w3, hw3⟩ : ∃ w3, w3 = w2.alloc (.cells #[.int .u64 m0, .int .u64 m1, .int .u64 m2, .int .i64 m3, .int .i64 m4, .slice pk nk ck, .slice pt nt ct, .slice ps ns cs, .int .u64 m9] 32) := ⟨_, rfl⟩
  have HB3 : Hid (Below w.heap.size w w3) := Lib.hid (by rw [hw3]; exact below_and HB2.out (below_alloc _ _))
  rw [← hw3]
  clear hw3
  go_wp2
  go_ret
  exact ⟨rfl, HB3.out⟩
theorem readR_num (v : Value) (b : List UInt8) (w : World) (h : Rd w v b) (hl : b.length ≤ 1000000000) (hE : ErrV w) : Calls Tryz.prog 9 #[v] w fun e w' => ∃ (m0 m1 m2 m3 : Int) (pk : Option Addr) (nk ck : Nat) (pt : Option Addr) (nt ct : Nat) (ps : Option Addr) (ns cs : Nat), e = .returned (.tuple #[.agg #[.int .u64 m0, .int .u64 m1, .int .u64 m2, .int .i64 m3, .slice pk nk ck, .slice pt nt ct, .slice ps ns cs], .int .i64 ((readR b).2 : Nat)]) ∧ Below w.heap.size w w' := by
  refine (readR_any v b w h hl hE).mono fun e w' h9 => ?_
  unfold readRF at h9
  obtain ⟨h1, h2, h3⟩ := h9
  by_cases h0 : (readR b).2 = 0
  · obtain ⟨vk, vt, vs, h4, h5⟩ := h3 h0
    obtain ⟨pk, ck, rfl, -⟩ := row_el h5.k
    obtain ⟨pt, ct, rfl, -⟩ := row_el h5.t
    obtain ⟨ps, cs, rfl, -⟩ := row_el h5.s
    rw [h0]
    exact ⟨_, _, _, _, pk, _, ck, pt, _, ct, ps, _, cs, h4, h1⟩
  · exact ⟨0, 0, 0, 0, none, 0, 0, none, 0, 0, none, 0, 0, h2 h0, h1⟩
set_option maxRecDepth 100000 in
set_option maxHeartbeats 2000000 in
theorem bkR_any (v : Value) (b : List UInt8) (w : World) (h : Rd w v b) (hl : b.length ≤ 1000000000) (hE : ErrV w) : Calls Tryz.prog 28 #[v] w fun e w' => e = .returned (.int .i64 ((readR b).2 : Nat)) ∧ Below w.heap.size w w' := by
  have HRN := Lib.hid (readR_num v b w h hl hE)
  obtain ⟨n, hn⟩ : ∃ n, n = (readR b).2 := ⟨_, rfl⟩
  rw [← hn] at HRN ⊢
  clear h hl hE hn
  go_enter Tryz.func28, Tryz.ntmps28
  go_upto_region 2 with (go_at_call 9; refine HRN.out.mono ?_; rintro e w2 ⟨m0, m1, m2, m3, pk, nk, ck, pt, nt, ct, ps, ns, cs, rfl, hb⟩; have HB2 := Lib.hid hb; clear hb)
  obtain ⟨w3, hw3⟩ : ∃ w3, w3 = w2.alloc (.cells #[.int .u64 m0, .int .u64 m1, .int .u64 m2, .int .i64 m3, .slice pk nk ck, .slice pt nt ct, .slice ps ns cs] 44) := ⟨_, rfl⟩
  have HB3 : Hid (Below w.heap.size w w3) := Lib.hid (by rw [hw3]; exact below_and HB2.out (below_alloc _ _))
  rw [← hw3]
  clear hw3
  go_wp2
  go_ret
  exact ⟨rfl, HB3.out⟩
set_option maxRecDepth 100000 in
set_option maxHeartbeats 4000000 in
theorem brokenP_any (v : Value) (l : List UInt8) (x : Int) (y : UInt8) (w : World) (h : Rd w v l) (hb : Brk (fun l => (readP l).2) l) (hE : ErrV w) : Calls Tryz.prog 26 #[v, .int .i64 x, .int .u8 (y.toNat : Int), .func (.func 27) #[] #[]] w fun e w' => e = .returned (.bool true) ∧ Below w.heap.size w w' := by
  obtain ⟨i0, hi, hz0, hz1, hz2⟩ := info_parts Tryz.uinfo
  obtain ⟨p, c, rfl⟩ := rd_slice h
  have H := Lib.hid h
  have HE := Lib.hid hE
  have HBK := Lib.hid hb
  obtain ⟨n, hn⟩ : ∃ n, n = l.length := ⟨_, rfl⟩
  have hlo := hb.lo
  have hhi := hb.hi
  have hcc : n ≤ c := by obtain ⟨_, _, h1, h2, -⟩ := h; simp at h1; omega
  have HN := Lib.hid hn
  have HPA := Lib.hid (rd_at (p := p) (n := n) (c := c) (l := l) (by rw [hn]; exact h))
  rw [← hn] at hlo hhi H ⊢
  clear h hE hb hn
  have hnp : (0 : Int) < (n : Int) := by omega
  obtain ⟨k, hk⟩ : ∃ k : Nat, (k : Int) = x % (n : Int) := ⟨(x % (n : Int)).toNat, Int.toNat_of_nonneg (Int.emod_nonneg _ (by omega))⟩
  have hkn : k < n := by have := Int.emod_lt_of_pos x hnp; omega
  have HPK : Hid (Calls Tryz.prog 108 #[.int .i64 x, .int .i64 (n : Int)] w fun e w' => e = .returned (.int .i64 (k : Int)) ∧ w = w') := Lib.hid (by rw [hk]; exact pickn_any x n w hnp (by omega))
  have HCU : Hid (Calls Tryz.prog 27 #[.slice p k c] w fun e w' => e = .returned (.int .i64 4) ∧ Below w.heap.size w w') := Lib.hid (by
    have h9 := row_first (show Row w (.slice p n c) 1 n (l.map B) from by have h8 := H.out; unfold Rd at h8; rw [← HN.out] at h8; exact h8) (m := k) (by omega)
    have h7 : Rd w (.slice p k c) (l.take k) := by unfold Rd; rw [List.length_take, List.map_take, show min k l.length = k from by have := HN.out; omega]; rw [Nat.mul_one] at h9; exact h9
    have h6 := bkP_any _ _ w h7 (by rw [List.length_take]; have := HN.out; omega) HE.out
    rw [show (readP (l.take k)).2 = 4 from HBK.out.cut k (by rw [← HN.out]; exact hkn)] at h6
    exact h6)
  clear hk
  have c1 : (k : Int) ≤ (c : Int) := by omega
  have c2 : (k : Int) < (n : Int) := by omega
  have c3 : k ≤ c := by omega
  go_enter Tryz.func26, Tryz.ntmps26
  go_upto_region 4 with (first | (go_at_call 27; refine HCU.out.mono ?_; rintro e w2 ⟨rfl, hb⟩; have HB2 := Lib.hid hb; clear hb) | (go_at_call 108; refine HPK.out.mono ?_; rintro e w1 ⟨rfl, rfl⟩))
  by_cases hy : y = 0
  · subst hy
    have t0 : ((UInt8.toNat 0 : Nat) : Int) = 0 := rfl
    go_wp2
    go_ret
    exact ⟨rfl, HB2.out⟩
  have HY := Lib.hid hy
  have t0 : ((y.toNat : Int) == 0) = false := by
    rw [beq_eq_false_iff_ne]
    intro h9
    exact hy (UInt8.toNat_inj.1 (by rw [show ((0 : UInt8).toNat) = 0 from rfl]; omega))
  have t1 : (y.toNat == 0) = false := by
    rw [beq_eq_false_iff_ne]
    intro h9
    exact hy (UInt8.toNat_inj.1 (by rw [show ((0 : UInt8).toNat) = 0 from rfl]; omega))
  clear hy HCU HPK
  have HSR : Hid (∀ w', Below w2.heap.size w2 w' → Src Tryz.prog 1 23 (.slice p n c) n (l.map B) w') := Lib.hid (fun w' hw => by have h9 := ((H.out.below HB2.out).below hw).src Tryz.underlying23; rw [← HN.out] at h9; exact h9)
  go_upto_region 7 with (at_builtin; refine wpList_app _ rfl _ _ 23 23 rfl w2.heap.size 5 i0 (.int .u8 0) 1 1 Tryz.underlying23 hi hz0 hz1 hz2 rfl (.slice (some ⟨w2.heap.size, 0, none⟩) 0 0) 0 [] rfl (own_none w2) _ n (l.map B) rfl (HSR.out _ (below_alloc _ _)) (by unfold maxLen; omega) (by omega) (by simp) ?_; intro v3 w3 ho hg _; rw [Nat.zero_add, List.nil_append] at ho; have HG3 : Hid (Below w2.heap.size w2 w3) := Lib.hid ((Frp.grown (P := fun _ => False) (Frp.of_below (below_alloc w2 _) _) hg (by intro k hk; right; cases hk; exact Nat.le_refl _)).below (fun k hk => hk.elim) (Nat.le_refl _)); obtain ⟨g, d, rfl, hd, -⟩ := own_block ho (by omega); have HO3 := Lib.hid ho; have HD := Lib.hid hd; clear ho hg hd)
  have HKL : Hid (k < l.length) := Lib.hid (by rw [← HN.out]; exact hkn)
  obtain ⟨z, hz⟩ : ∃ z, z = l[k]'HKL.out := ⟨_, rfl⟩
  have y0 : w3.cell? ⟨g, k, none⟩ = some (.int .u8 (z.toNat : Int)) := own_cell HO3.out (j := k) (by rw [List.getElem?_map, List.getElem?_eq_getElem HKL.out, ← hz]; rfl)
  have f0 := own_free HO3.out k
  have HX8 := Lib.hid (x8 z y)
  have HRT : Hid ((readP (l.set k (z ^^^ y))).2 = 5) := Lib.hid (HBK.out.turn k HKL.out _ (by rw [hz]; exact xor_ne _ _ HY.out))
  clear hz
  go_upto_region 8 with fail
  obtain ⟨wA, hwA⟩ : ∃ wA, wA = w3.setCell ⟨g, k, none⟩ (.int .u8 (bits .xor .u8 (z.toNat : Int) (y.toNat : Int))) := ⟨_, rfl⟩
  have HB3 := Lib.hid (below_and HB2.out HG3.out)
  have HBA : Hid (Below w.heap.size w wA) := Lib.hid (by rw [hwA]; exact HB3.out.trans ((Frp.set (P := fun k => k = g) (Frp.refl _ w3) (p := ⟨g, k, none⟩) rfl _).below (fun j hj => by have h9 := own_lo HO3.out (g := g) rfl; have := HB2.out.size; omega) HB3.out.size))
  have HRA : Hid (Rd wA (.slice (some ⟨g, 0, none⟩) n d) (l.set k (z ^^^ y))) := Lib.hid (by
    have h9 := own_set HO3.out (k := k) (by omega) (.int .u8 (bits .xor .u8 (z.toNat : Int) (y.toNat : Int)))
    rw [← hwA, HX8.out, ← List.map_set] at h9
    have h8 := row_of_owns h9 (bytes_one _)
    unfold Rd
    rw [List.length_set, ← HN.out]
    exact h8)
  rw [← hwA]
  clear hwA y0 f0
  have HC5 : Hid (Calls Tryz.prog 27 #[.slice (some ⟨g, 0, none⟩) n d] wA fun e w' => e = .returned (.int .i64 5) ∧ Below wA.heap.size wA w') := Lib.hid (by
    have h6 := bkP_any _ _ wA HRA.out (by rw [List.length_set]; have := HN.out; omega) (HE.out.below HBA.out)
    rw [HRT.out] at h6
    exact h6)
  go_wp2_with (go_at_call 27; refine HC5.out.mono ?_; rintro e wB ⟨rfl, hb⟩; have HBB := Lib.hid (below_and HBA.out hb); clear hb)
  go_ret
  exact ⟨rfl, HBB.out⟩
set_option maxRecDepth 100000 in
set_option maxHeartbeats 4000000 in
theorem brokenR_any (v : Value) (l : List UInt8) (x : Int) (y : UInt8) (w : World) (h : Rd w v l) (hb : Brk (fun l => (readR l).2) l) (hE : ErrV w) : Calls Tryz.prog 26 #[v, .int .i64 x, .int .u8 (y.toNat : Int), .func (.func 28) #[] #[]] w fun e w' => e = .returned (.bool true) ∧ Below w.heap.size w w' := by
  obtain ⟨i0, hi, hz0, hz1, hz2⟩ := info_parts Tryz.uinfo
  obtain ⟨p, c, rfl⟩ := rd_slice h
  have H := Lib.hid h
  have HE := Lib.hid hE
  have HBK := Lib.hid hb
  obtain ⟨n, hn⟩ : ∃ n, n = l.length := ⟨_, rfl⟩
  have hlo := hb.lo
  have hhi := hb.hi
  have hcc : n ≤ c := by obtain ⟨_, _, h1, h2, -⟩ := h; simp at h1; omega
  have HN := Lib.hid hn
  have HPA := Lib.hid (rd_at (p := p) (n := n) (c := c) (l := l) (by rw [hn]; exact h))
  rw [← hn] at hlo hhi H ⊢
  clear h hE hb hn
  have hnp : (0 : Int) < (n : Int) := by omega
  obtain ⟨k, hk⟩ : ∃ k : Nat, (k : Int) = x % (n : Int) := ⟨(x % (n : Int)).toNat, Int.toNat_of_nonneg (Int.emod_nonneg _ (by omega))⟩
  have hkn : k < n := by have := Int.emod_lt_of_pos x hnp; omega
  have HPK : Hid (Calls Tryz.prog 108 #[.int .i64 x, .int .i64 (n : Int)] w fun e w' => e = .returned (.int .i64 (k : Int)) ∧ w = w') := Lib.hid (by rw [hk]; exact pickn_any x n w hnp (by omega))
  have HCU : Hid (Calls Tryz.prog 28 #[.slice p k c] w fun e w' => e = .returned (.int .i64 4) ∧ Below w.heap.size w w') := Lib.hid (by
    have h9 := row_first (show Row w (.slice p n c) 1 n (l.map B) from by have h8 := H.out; unfold Rd at h8; rw [← HN.out] at h8; exact h8) (m := k) (by omega)
    have h7 : Rd w (.slice p k c) (l.take k) := by unfold Rd; rw [List.length_take, List.map_take, show min k l.length = k from by have := HN.out; omega]; rw [Nat.mul_one] at h9; exact h9
    have h6 := bkR_any _ _ w h7 (by rw [List.length_take]; have := HN.out; omega) HE.out
    rw [show (readR (l.take k)).2 = 4 from HBK.out.cut k (by rw [← HN.out]; exact hkn)] at h6
    exact h6)
  clear hk
  have c1 : (k : Int) ≤ (c : Int) := by omega
  have c2 : (k : Int) < (n : Int) := by omega
  have c3 : k ≤ c := by omega
  go_enter Tryz.func26, Tryz.ntmps26
  go_upto_region 4 with (first | (go_at_call 28; refine HCU.out.mono ?_; rintro e w2 ⟨rfl, hb⟩; have HB2 := Lib.hid hb; clear hb) | (go_at_call 108; refine HPK.out.mono ?_; rintro e w1 ⟨rfl, rfl⟩))
  by_cases hy : y = 0
  · subst hy
    have t0 : ((UInt8.toNat 0 : Nat) : Int) = 0 := rfl
    go_wp2
    go_ret
    exact ⟨rfl, HB2.out⟩
  have HY := Lib.hid hy
  have t0 : ((y.toNat : Int) == 0) = false := by
    rw [beq_eq_false_iff_ne]
    intro h9
    exact hy (UInt8.toNat_inj.1 (by rw [show ((0 : UInt8).toNat) = 0 from rfl]; omega))
  have t1 : (y.toNat == 0) = false := by
    rw [beq_eq_false_iff_ne]
    intro h9
    exact hy (UInt8.toNat_inj.1 (by rw [show ((0 : UInt8).toNat) = 0 from rfl]; omega))
  clear hy HCU HPK
  have HSR : Hid (∀ w', Below w2.heap.size w2 w' → Src Tryz.prog 1 23 (.slice p n c) n (l.map B) w') := Lib.hid (fun w' hw => by have h9 := ((H.out.below HB2.out).below hw).src Tryz.underlying23; rw [← HN.out] at h9; exact h9)
  go_upto_region 7 with (at_builtin; refine wpList_app _ rfl _ _ 23 23 rfl w2.heap.size 5 i0 (.int .u8 0) 1 1 Tryz.underlying23 hi hz0 hz1 hz2 rfl (.slice (some ⟨w2.heap.size, 0, none⟩) 0 0) 0 [] rfl (own_none w2) _ n (l.map B) rfl (HSR.out _ (below_alloc _ _)) (by unfold maxLen; omega) (by omega) (by simp) ?_; intro v3 w3 ho hg _; rw [Nat.zero_add, List.nil_append] at ho; have HG3 : Hid (Below w2.heap.size w2 w3) := Lib.hid ((Frp.grown (P := fun _ => False) (Frp.of_below (below_alloc w2 _) _) hg (by intro k hk; right; cases hk; exact Nat.le_refl _)).below (fun k hk => hk.elim) (Nat.le_refl _)); obtain ⟨g, d, rfl, hd, -⟩ := own_block ho (by omega); have HO3 := Lib.hid ho; have HD := Lib.hid hd; clear ho hg hd)
  have HKL : Hid (k < l.length) := Lib.hid (by rw [← HN.out]; exact hkn)
  obtain ⟨z, hz⟩ : ∃ z, z = l[k]'HKL.out := ⟨_, rfl⟩
  have y0 : w3.cell? ⟨g, k, none⟩ = some (.int .u8 (z.toNat : Int)) := own_cell HO3.out (j := k) (by rw [List.getElem?_map, List.getElem?_eq_getElem HKL.out, ← hz]; rfl)
  have f0 := own_free HO3.out k
  have HX8 := Lib.hid (x8 z y)
  have HRT : Hid ((readR (l.set k (z ^^^ y))).2 = 5) := Lib.hid (HBK.out.turn k HKL.out _ (by rw [hz]; exact xor_ne _ _ HY.out))
  clear hz
  go_upto_region 8 with fail
  obtain ⟨wA, hwA⟩ : ∃ wA, wA = w3.setCell ⟨g, k, none⟩ (.int .u8 (bits .xor .u8 (z.toNat : Int) (y.toNat : Int))) := ⟨_, rfl⟩
  have HB3 := Lib.hid (below_and HB2.out HG3.out)
  have HBA : Hid (Below w.heap.size w wA) := Lib.hid (by rw [hwA]; exact HB3.out.trans ((Frp.set (P := fun k => k = g) (Frp.refl _ w3) (p := ⟨g, k, none⟩) rfl _).below (fun j hj => by have h9 := own_lo HO3.out (g := g) rfl; have := HB2.out.size; omega) HB3.out.size))
  have HRA : Hid (Rd wA (.slice (some ⟨g, 0, none⟩) n d) (l.set k (z ^^^ y))) := Lib.hid (by
    have h9 := own_set HO3.out (k := k) (by omega) (.int .u8 (bits .xor .u8 (z.toNat : Int) (y.toNat : Int)))
    rw [← hwA, HX8.out, ← List.map_set] at h9
    have h8 := row_of_owns h9 (bytes_one _)
    unfold Rd
    rw [List.length_set, ← HN.out]
    exact h8)
  rw [← hwA]
  clear hwA y0 f0
  have HC5 : Hid (Calls Tryz.prog 28 #[.slice (some ⟨g, 0, none⟩) n d] wA fun e w' => e = .returned (.int .i64 5) ∧ Below wA.heap.size wA w') := Lib.hid (by
    have h6 := bkR_any _ _ wA HRA.out (by rw [List.length_set]; have := HN.out; omega) (HE.out.below HBA.out)
    rw [HRT.out] at h6
    exact h6)
  go_wp2_with (go_at_call 28; refine HC5.out.mono ?_; rintro e wB ⟨rfl, hb⟩; have HBB := Lib.hid (below_and HBA.out hb); clear hb)
  go_ret
  exact ⟨rfl, HBB.out⟩
set_option maxRecDepth 100000 in
set_option maxHeartbeats 4000000 in
theorem smallPR_any (p : Po) (r : Rp) (q0 q1 q2 q3 q4 q5 : Option Addr) (n0 c0 n1 c1 n2 c2 n3 c3 n4 c4 n5 c5 : Nat) (w : World) (z : Bool) (hz : z = decide (n0 ≤ 300 ∧ n1 ≤ 300 ∧ n2 ≤ 300 ∧ n3 ≤ 300 ∧ n4 ≤ 300 ∧ n5 ≤ 300)) : Calls Tryz.prog 10 #[.agg #[.int .u64 p.ep, .int .u64 p.sq, .int .u64 p.bo, .int .i64 p.at_, .int .i64 p.le, .slice q0 n0 c0, .slice q1 n1 c1, .slice q2 n2 c2, .int .u64 p.se], .agg #[.int .u64 r.ep, .int .u64 r.sq, .int .u64 r.bo, .int .i64 r.at_, .slice q3 n3 c3, .slice q4 n4 c4, .slice q5 n5 c5]] w fun e w' => e = .returned (.bool z) ∧ Below w.heap.size w w' := by
  obtain ⟨X, hX⟩ : ∃ X, X = w.heap.size := ⟨_, rfl⟩
  obtain ⟨w2, hw2⟩ : ∃ w2, w2 = (w.alloc (.cells #[.int .u64 p.ep, .int .u64 p.sq, .int .u64 p.bo, .int .i64 p.at_, .int .i64 p.le, .slice q0 n0 c0, .slice q1 n1 c1, .slice q2 n2 c2, .int .u64 p.se] 32)).alloc (.cells #[.int .u64 r.ep, .int .u64 r.sq, .int .u64 r.bo, .int .i64 r.at_, .slice q3 n3 c3, .slice q4 n4 c4, .slice q5 n5 c5] 44) := ⟨_, rfl⟩
  have HX : Hid (Blk w2 X [.int .u64 p.ep, .int .u64 p.sq, .int .u64 p.bo, .int .i64 p.at_, .int .i64 p.le, .slice q0 n0 c0, .slice q1 n1 c1, .slice q2 n2 c2, .int .u64 p.se] 32) := Lib.hid (by rw [hw2, hX]; exact (Blk.made w [.int .u64 p.ep, .int .u64 p.sq, .int .u64 p.bo, .int .i64 p.at_, .int .i64 p.le, .slice q0 n0 c0, .slice q1 n1 c1, .slice q2 n2 c2, .int .u64 p.se] _).alloc _)
  have HY : Hid (Blk w2 (X + 1) [.int .u64 r.ep, .int .u64 r.sq, .int .u64 r.bo, .int .i64 r.at_, .slice q3 n3 c3, .slice q4 n4 c4, .slice q5 n5 c5] 44) := Lib.hid (by rw [hw2, hX]; have := Blk.made (w.alloc (.cells #[.int .u64 p.ep, .int .u64 p.sq, .int .u64 p.bo, .int .i64 p.at_, .int .i64 p.le, .slice q0 n0 c0, .slice q1 n1 c1, .slice q2 n2 c2, .int .u64 p.se] 32)) [.int .u64 r.ep, .int .u64 r.sq, .int .u64 r.bo, .int .i64 r.at_, .slice q3 n3 c3, .slice q4 n4 c4, .slice q5 n5 c5] 44; simpa using this)
  have HB : Hid (Below w.heap.size w w2) := Lib.hid (by rw [hw2]; exact below_and (below_alloc _ _) (below_alloc _ _))
  have hs1 : (w.alloc (.cells #[.int .u64 p.ep, .int .u64 p.sq, .int .u64 p.bo, .int .i64 p.at_, .int .i64 p.le, .slice q0 n0 c0, .slice q1 n1 c1, .slice q2 n2 c2, .int .u64 p.se] 32)).heap.size = X + 1 := by rw [hX]; simp
  go_enter Tryz.func10, Tryz.ntmps10
  go_upto_region 1 with fail
  (try rw [hs1])
  rw [← hw2, ← hX]
  clear hw2 hX hs1
  have x5 := HX.out.cell (j := 5) rfl
  have x6 := HX.out.cell (j := 6) rfl
  have x7 := HX.out.cell (j := 7) rfl
  have y4 := HY.out.cell (j := 4) rfl
  have y5 := HY.out.cell (j := 5) rfl
  have y6 := HY.out.cell (j := 6) rfl
  by_cases g0 : n0 ≤ 300
  rotate_left
  · have d0 : ¬ (n0 : Int) ≤ 300 := by omega
    obtain rfl : z = false := by rw [hz]; simp; omega
    clear hz
    go_wp2
    go_ret
    exact ⟨rfl, HB.out⟩
  have d0 : (n0 : Int) ≤ 300 := by omega
  by_cases g1 : n1 ≤ 300
  rotate_left
  · have d1 : ¬ (n1 : Int) ≤ 300 := by omega
    obtain rfl : z = false := by rw [hz]; simp; omega
    clear hz
    go_wp2
    go_ret
    exact ⟨rfl, HB.out⟩
  have d1 : (n1 : Int) ≤ 300 := by omega
  by_cases g2 : n2 ≤ 300
  rotate_left
  · have d2 : ¬ (n2 : Int) ≤ 300 := by omega
    obtain rfl : z = false := by rw [hz]; simp; omega
    clear hz
    go_wp2
    go_ret
    exact ⟨rfl, HB.out⟩
  have d2 : (n2 : Int) ≤ 300 := by omega
  by_cases g3 : n3 ≤ 300
  rotate_left
  · have d3 : ¬ (n3 : Int) ≤ 300 := by omega
    obtain rfl : z = false := by rw [hz]; simp; omega
    clear hz
    go_wp2
    go_ret
    exact ⟨rfl, HB.out⟩
  have d3 : (n3 : Int) ≤ 300 := by omega
  by_cases g4 : n4 ≤ 300
  rotate_left
  · have d4 : ¬ (n4 : Int) ≤ 300 := by omega
    obtain rfl : z = false := by rw [hz]; simp; omega
    clear hz
    go_wp2
    go_ret
    exact ⟨rfl, HB.out⟩
  have d4 : (n4 : Int) ≤ 300 := by omega
  by_cases g5 : n5 ≤ 300
  rotate_left
  · have d5 : ¬ (n5 : Int) ≤ 300 := by omega
    obtain rfl : z = false := by rw [hz]; simp; omega
    clear hz
    go_wp2
    go_ret
    exact ⟨rfl, HB.out⟩
  have d5 : (n5 : Int) ≤ 300 := by omega
  obtain rfl : z = true := by rw [hz]; simp; omega
  clear hz
  go_wp2
  go_ret
  exact ⟨rfl, HB.out⟩
end Go.Proofs.YtopkfomlppnpeaaGreatDoor.Ms
