/- the walk of ResourceScale -/
import Derived.Test.YtmgecehdicpjnaaDoorRLives
import Derived.Test.YtmgecehdicpjnaaDoorScalePlain
import Derived.Test.YtmgecehdicpjnaaDoorWRSums
import Derived.Outline
import Derived.Test.YtmgecehdicpjnaaDoorMid
namespace Go.Proofs.YtmgecehdicpjnaaDoor
open Go.RowKit

theorem info_am : (Tryd.prog.info? 23).map (fun i => (i.zero, i.size, i.bytes)) = some (some (.agg #[.int .i64 0, .int .i64 0, .int .i64 0, .int .i64 0]), 4, 32) := by kernel_rfl
theorem make_ams (m : Nat) (hm : m ≤ 100) (w : World) : (Instr.makeSlice 37 (.int .i64 (m : Int)) (.int .i64 (m : Int))).run Tryd.prog w = .ok (.slice (some ⟨w.heap.size, 0, none⟩) m m) (w.alloc (.cells (amsC (List.replicate m .zero)).toArray 23)) := by
  obtain ⟨i, hi, hz0, hz1, hz2⟩ := info_parts info_am
  have h := run_make (P := Tryd.prog) w 37 23 i _ Tryd.underlying37 hi hz0 .i64 .i64 (m : Int) (m : Int) (by omega) (Int.le_refl _) (by rw [hz2]; omega) (by omega)
  rw [Int.toNat_natCast, hz1, amsC_rep m] at h
  exact h

theorem scale_val (x z : Am) (n e : Int) (w : World) (hn : 0 ≤ n) (hn2 : n ≤ 9223372036854775807) (h : scaleR x n = (z, e)) :
    Calls Tryd.prog 15 #[amV x, .int .i64 n] w fun e' w' => e' = .returned (.tuple #[amV z, .int .i64 e]) ∧ Below w.heap.size w w' := by
  cases hx : x.okB
  · exact (scale_bad x n w (.inl hx)).mono fun e' w' ⟨h1, h2⟩ => ⟨by rw [h1, h], h2⟩
  · exact (scale_good x n w hx hn hn2).mono fun e' w' ⟨h1, h2⟩ => ⟨by rw [h1, h], h2⟩
theorem sum_val (v : Value) (xs : List Am) (z : Am) (e : Int) (w : World) (h : Ams w v xs) (hr : sumR xs = (z, e)) :
    Calls Tryd.prog 16 #[v] w fun e' w' => e' = .returned (.tuple #[amV z, .int .i64 e]) ∧ Below w.heap.size w w' :=
  (sum_any v xs w h).mono fun e' w' ⟨h1, h2⟩ => ⟨by rw [h1, hr], h2⟩

set_option maxRecDepth 100000 in
set_option maxHeartbeats 2000000 in
theorem rscale_out (a : Am) (n : Int) (w : World) (ht : Tab w) (hn : n < 0 ∨ 100 < n) :
    Calls Tryd.prog 5 #[amV a, .int .i64 n] w fun e w' => e = .returned (.bool true) ∧ Below w.heap.size w w' := by
  have HT : Hid (Tab (w.alloc (.cells #[.int .i64 a.c, .int .i64 a.r, .int .i64 a.d, .int .i64 a.p] 23))) := Lib.hid (ht.below (below_alloc w _))
  clear ht
  by_cases h1 : n < 0
  · clear hn
    go_enter Tryd.func5, Tryd.ntmps5
    go_wp2_with (go_at_call 9; refine (rlives _ HT.out).mono ?_; rintro e w1 ⟨rfl, hb⟩; have HB := Lib.hid (below_and (below_alloc w _) hb); clear hb)
    go_ret
    exact ⟨rfl, HB.out⟩
  · have h2 : 100 < n := by omega
    have d1 : decide (n < 0) = false := by simpa using h1
    clear hn h1
    go_enter Tryd.func5, Tryd.ntmps5
    go_wp2_with (go_at_call 9; refine (rlives _ HT.out).mono ?_; rintro e w1 ⟨rfl, hb⟩; have HB := Lib.hid (below_and (below_alloc w _) hb); clear hb)
    go_ret
    exact ⟨rfl, HB.out⟩

set_option maxRecDepth 100000 in
set_option maxHeartbeats 4000000 in
theorem rscale_in (a : Am) (m : Nat) (w : World) (ht : Tab w) (hm : m ≤ 100) :
    Calls Tryd.prog 5 #[amV a, .int .i64 (m : Int)] w fun e w' => e = .returned (.bool true) ∧ Below w.heap.size w w' := by
  obtain ⟨w3, hw3⟩ : ∃ w3, w3 = w.alloc (.cells #[.int .i64 a.c, .int .i64 a.r, .int .i64 a.d, .int .i64 a.p] 23) := ⟨_, rfl⟩
  obtain ⟨B, hB⟩ : ∃ B, B = w.heap.size := ⟨_, rfl⟩
  have B0 : Hid (Blk w3 B (amC a) 23) := Lib.hid (by rw [hw3, hB]; exact Blk.made w (amC a) _)
  have HBL : Hid (Below w.heap.size w w3) := Lib.hid (by rw [hw3]; exact below_alloc w _)
  have HT : Hid (Tab w3) := Lib.hid (ht.below HBL.out)
  obtain ⟨x, e, hxe⟩ : ∃ x e, scaleR a (m : Int) = (x, e) := ⟨_, _, rfl⟩
  have HX := Lib.hid hxe
  have HMK := Lib.hid (make_ams m hm)
  have HI4 : Hid ((Tryd.prog.info? 23).map (·.size) = some (#[.int .i64 a.c, .int .i64 a.r, .int .i64 a.d, .int .i64 a.p] : Array Value).size) := Lib.hid (by kernel_rfl)
  have HA1 : Hid ((#[.int .i64 a.c, .int .i64 a.r, .int .i64 a.d, .int .i64 a.p] : Array Value).all (·.oneCell') = true) := Lib.hid (all_oneCell_toArray (cs := amC a) (fun v hv => by simp at hv; rcases hv with rfl | rfl | rfl | rfl <;> rfl))
  have d1 : decide ((m : Int) < 0) = false := by simp
  have d2 : decide ((100 : Int) < (m : Int)) = false := by simp; omega
  clear ht hxe
  go_enter Tryd.func5, Tryd.ntmps5
  go_upto_region 1 with fail
  rw [← hw3, ← hB]
  clear hw3 hB
  go_upto_region 7 with (first
    | (go_at_call 9; refine (rlives _ HT.out).mono ?_; rintro e' w4 ⟨rfl, hb⟩; have hb0 := B0.out.kept hb; have C0 := Lib.hid hb0; have c0 := hb0.cell (j := 0) rfl; have c1 := hb0.cell (j := 1) rfl; have c2 := hb0.cell (j := 2) rfl; have c3 := hb0.cell (j := 3) rfl; have HB4 := Lib.hid (below_and HBL.out hb); clear hb hb0)
    | (go_at_call 15; refine (scale_val a x (m : Int) e _ (by omega) (by omega) HX.out).mono ?_; rintro e' w5 ⟨rfl, hb⟩; have D0 := Lib.hid (C0.out.kept hb); have HB5 := Lib.hid (below_and HB4.out hb); have hmk := HMK.out (w5.alloc (.cells #[.int .i64 x.c, .int .i64 x.r, .int .i64 x.d, .int .i64 x.p] 23)); clear hb c0 c1 c2 c3))
  obtain ⟨w6, hw6⟩ : ∃ w6, w6 = (w5.alloc (.cells #[.int .i64 x.c, .int .i64 x.r, .int .i64 x.d, .int .i64 x.p] 23)).alloc (.cells (amsC (List.replicate m .zero)).toArray 23) := ⟨_, rfl⟩
  obtain ⟨g, hg⟩ : ∃ g, g = w5.heap.size + 1 := ⟨_, rfl⟩
  have HGX : Hid (Blk w6 w5.heap.size (amC x) 23) := Lib.hid (by rw [hw6]; exact (Blk.made w5 (amC x) _).alloc _)
  have HGL : Hid (Blk w6 g (amsC (List.replicate m .zero)) 23) := Lib.hid (by
    have := Blk.made (w5.alloc (.cells #[.int .i64 x.c, .int .i64 x.r, .int .i64 x.d, .int .i64 x.p] 23)) (amsC (List.replicate m .zero)) 23
    rw [hw6, hg]; simpa using this)
  have D6 : Hid (Blk w6 B (amC a) 23) := Lib.hid (by rw [hw6]; exact (D0.out.alloc _).alloc _)
  have HB6 : Hid (Below w.heap.size w w6) := Lib.hid (by rw [hw6]; exact below_and (below_and HB5.out (below_alloc _ _)) (below_alloc _ _))
  have HGB : Hid (B < w5.heap.size ∧ w.heap.size ≤ g ∧ g = w5.heap.size + 1) := Lib.hid ⟨D0.out.lt, by have := HB5.out.size; omega, hg⟩
  rw [← hw6, ← hg]
  clear hw6 hg hmk
  go_wp2
  go_loopw [8] (fun i wc => ∃ k : Nat, k ≤ m ∧ i = .int .i64 (k : Int) ∧ Hid (Blk wc g (amsC (List.replicate k a ++ List.replicate (m - k) .zero)) 23) ∧ Hid (Blk wc w5.heap.size (amC x) 23) ∧ Hid (Blk wc B (amC a) 23) ∧ Hid (Below w.heap.size w wc)) (fun i _ => m - (intOf i).toNat)
  case atStart => exact ⟨0, Nat.zero_le _, rfl, by simpa using HGL, HGX, D6, HB6⟩
  case round =>
    obtain ⟨k, hk, rfl, HL, HXr, HA, HBx⟩ := hrel
    by_cases hlt : k < m
    · have hlen : (List.replicate k a ++ List.replicate (m - k) Am.zero).length = m := by simp; omega
      have hkl : k < (List.replicate k a ++ List.replicate (m - k) Am.zero).length := by rw [hlen]; exact hlt
      have a0 := HA.out.cell (j := 0) rfl
      have a1 := HA.out.cell (j := 1) rfl
      have a2 := HA.out.cell (j := 2) rfl
      have a3 := HA.out.cell (j := 3) rfl
      have q0 := HL.out.cell ((amsC_get hkl (j := 0) (by omega)).trans (amC_get _ (by omega)))
      have q1 := HL.out.cell ((amsC_get hkl (j := 1) (by omega)).trans (amC_get _ (by omega)))
      have q2 := HL.out.cell ((amsC_get hkl (j := 2) (by omega)).trans (amC_get _ (by omega)))
      have q3 := HL.out.cell ((amsC_get hkl (j := 3) (by omega)).trans (amC_get _ (by omega)))
      have f0 := HL.out.free (k * 4)
      have f1 := HL.out.free (k * 4 + 1)
      have f2 := HL.out.free (k * 4 + 2)
      have f3 := HL.out.free (k * 4 + 3)
      have HTH : Hid (wr.there g (k * 4) 4) := Lib.hid (fun j hj => by
        match j, hj with
        | 0, _ => exact ⟨by rw [q0]; rfl, f0⟩
        | 1, _ => exact ⟨by rw [q1]; rfl, f1⟩
        | 2, _ => exact ⟨by rw [q2]; rfl, f2⟩
        | 3, _ => exact ⟨by rw [q3]; rfl, f3⟩)
      clear q0 q1 q2 q3 f0 f1 f2 f3
      have HST : Hid ((List.replicate k a ++ List.replicate (m - k) Am.zero).set k a = List.replicate (k + 1) a ++ List.replicate (m - (k + 1)) .zero) := Lib.hid (by
        rw [List.set_append_right _ _ (by simp), List.length_replicate, Nat.sub_self, show m - k = (m - (k + 1)) + 1 from by omega, List.replicate_succ, List.set_cons_zero, List.replicate_succ', List.append_assoc]
        rfl)
      have HKL := Lib.hid hkl
      have ik : (0 : Int) ≤ (k : Int) := by omega
      have ik2 : (k : Int) < (m : Int) := by omega
      have HN : Hid (∃ wS, wS = wr.setCells g (k * 4) (#[.int .i64 a.c, .int .i64 a.r, .int .i64 a.d, .int .i64 a.p] : Array Value).toList ∧ Blk wS g (amsC (List.replicate (k + 1) a ++ List.replicate (m - (k + 1)) .zero)) 23 ∧ Blk wS w5.heap.size (amC x) 23 ∧ Blk wS B (amC a) 23 ∧ Below w.heap.size w wS) := Lib.hid ⟨_, rfl, by
          have h9 := HL.out.cells4 (k * 4) (.int .i64 a.c) (.int .i64 a.r) (.int .i64 a.d) (.int .i64 a.p)
          rw [amsC_set _ _ HKL.out, HST.out] at h9
          exact h9, Blk.cellsO (by have := HGB.out; omega) _ _ _ HXr.out, Blk.cellsO (by have := HGB.out; omega) _ _ _ HA.out, bel_cells HGB.out.2.1 _ _ _ HBx.out⟩
      go_wp2_with (refine wpList_store_mid rfl 23 _ _ rfl g (k * 4) #[.int .i64 a.c, .int .i64 a.r, .int .i64 a.d, .int .i64 a.p] rfl rfl HTH.out HI4.out HA1.out ?_; obtain ⟨wS, hwS, hs1, hs2, hs3, hs4⟩ := HN.out; rw [← hwS]; have N1 := Lib.hid hs1; have N2 := Lib.hid hs2; have N3 := Lib.hid hs3; have N4 := Lib.hid hs4; clear hwS hs1 hs2 hs3 hs4)
      go_roundw
      case rel => exact ⟨k + 1, hlt, by go_num, N1, N2, N3, N4⟩
      case measure => simp [intOf]; omega
    · obtain rfl : k = m := by omega
      have HAM : Hid (Ams wr (.slice (some ⟨g, 0, none⟩) k k) (List.replicate k a)) := Lib.hid (by
        have h9 := HL.out
        simp only [Nat.sub_self, List.replicate_zero, List.append_nil] at h9
        have := ams_block (xs := List.replicate k a) h9 (by simp [maxLen]; omega)
        simpa using this)
      by_cases h0 : k = 0
      · subst h0
        have hs := scale_none a
        obtain ⟨s1, s2, s3⟩ := hs
        rw [show ((0 : Nat) : Int) = 0 from rfl] at HX
        rw [HX.out] at s1 s2
        simp only at s1 s2
        subst s1
        have HSU : Hid (sumR (List.replicate 0 a) = (.zero, 0)) := Lib.hid s3
        have y0 : ∀ (w8 : World) (hb : Below wr.heap.size wr w8) (A : Array Value) (t : TypeId), (w8.alloc (.cells A t)).cell? ⟨B, 0, none⟩ = some (.int .i64 a.c) := fun w8 hb A t => ((HA.out.kept hb).alloc _).cell (j := 0) rfl
        have y1 : ∀ (w8 : World) (hb : Below wr.heap.size wr w8) (A : Array Value) (t : TypeId), (w8.alloc (.cells A t)).cell? ⟨B, 1, none⟩ = some (.int .i64 a.r) := fun w8 hb A t => ((HA.out.kept hb).alloc _).cell (j := 1) rfl
        have y2 : ∀ (w8 : World) (hb : Below wr.heap.size wr w8) (A : Array Value) (t : TypeId), (w8.alloc (.cells A t)).cell? ⟨B, 2, none⟩ = some (.int .i64 a.d) := fun w8 hb A t => ((HA.out.kept hb).alloc _).cell (j := 2) rfl
        have y3 : ∀ (w8 : World) (hb : Below wr.heap.size wr w8) (A : Array Value) (t : TypeId), (w8.alloc (.cells A t)).cell? ⟨B, 3, none⟩ = some (.int .i64 a.p) := fun w8 hb A t => ((HA.out.kept hb).alloc _).cell (j := 3) rfl
        have HY0 := Lib.hid y0
        have HY1 := Lib.hid y1
        have HY2 := Lib.hid y2
        have HY3 := Lib.hid y3
        clear y0 y1 y2 y3
        by_cases he : e = 0
        · subst he
          have HCH := Lib.hid (Am.chk_yes (s2.1 rfl))
          clear s2 s3
          go_wp2_with (first
            | (go_at_call 16; refine (sum_val _ (List.replicate 0 a) .zero 0 _ HAM.out HSU.out).mono ?_; rintro e' w8 ⟨rfl, hb⟩; have hx8 := HXr.out.kept hb; have x0 : ∀ (A : Array Value) (t : TypeId), (w8.alloc (.cells A t)).cell? ⟨w5.heap.size, 0, none⟩ = some (.int .i64 Am.zero.c) := fun A t => (hx8.alloc _).cell (j := 0) rfl; have x1 : ∀ (A : Array Value) (t : TypeId), (w8.alloc (.cells A t)).cell? ⟨w5.heap.size, 1, none⟩ = some (.int .i64 Am.zero.r) := fun A t => (hx8.alloc _).cell (j := 1) rfl; have x2 : ∀ (A : Array Value) (t : TypeId), (w8.alloc (.cells A t)).cell? ⟨w5.heap.size, 2, none⟩ = some (.int .i64 Am.zero.d) := fun A t => (hx8.alloc _).cell (j := 2) rfl; have x3 : ∀ (A : Array Value) (t : TypeId), (w8.alloc (.cells A t)).cell? ⟨w5.heap.size, 3, none⟩ = some (.int .i64 Am.zero.p) := fun A t => (hx8.alloc _).cell (j := 3) rfl; have y0 := HY0.out w8 hb; have y1 := HY1.out w8 hb; have y2 := HY2.out w8 hb; have y3 := HY3.out w8 hb; have HB8 := Lib.hid (below_and HBx.out hb); clear hb hx8)
            | (go_at_call 14; refine (check_any a _).mono ?_; rw [HCH.out]; rintro e' w9 ⟨rfl, hb⟩; have HB9 := Lib.hid (below_and (below_and HB8.out (below_alloc _ _)) hb); clear hb))
          go_ret
          exact ⟨rfl, HB9.out⟩
        · have hok : a.okB = false := by
            cases h : a.okB
            · rfl
            · exact absurd (s2.2 h) he
          have HCH := Lib.hid (Am.chk_no hok)
          have t0 : (e == 0) = false := by simpa using he
          clear s2 s3 he hok
          go_wp2_with (first
            | (go_at_call 16; refine (sum_val _ (List.replicate 0 a) .zero 0 _ HAM.out HSU.out).mono ?_; rintro e' w8 ⟨rfl, hb⟩; have hx8 := HXr.out.kept hb; have x0 : ∀ (A : Array Value) (t : TypeId), (w8.alloc (.cells A t)).cell? ⟨w5.heap.size, 0, none⟩ = some (.int .i64 Am.zero.c) := fun A t => (hx8.alloc _).cell (j := 0) rfl; have x1 : ∀ (A : Array Value) (t : TypeId), (w8.alloc (.cells A t)).cell? ⟨w5.heap.size, 1, none⟩ = some (.int .i64 Am.zero.r) := fun A t => (hx8.alloc _).cell (j := 1) rfl; have x2 : ∀ (A : Array Value) (t : TypeId), (w8.alloc (.cells A t)).cell? ⟨w5.heap.size, 2, none⟩ = some (.int .i64 Am.zero.d) := fun A t => (hx8.alloc _).cell (j := 2) rfl; have x3 : ∀ (A : Array Value) (t : TypeId), (w8.alloc (.cells A t)).cell? ⟨w5.heap.size, 3, none⟩ = some (.int .i64 Am.zero.p) := fun A t => (hx8.alloc _).cell (j := 3) rfl; have y0 := HY0.out w8 hb; have y1 := HY1.out w8 hb; have y2 := HY2.out w8 hb; have y3 := HY3.out w8 hb; have HB8 := Lib.hid (below_and HBx.out hb); clear hb hx8)
            | (go_at_call 14; refine (check_any a _).mono ?_; rw [HCH.out]; rintro e' w9 ⟨rfl, hb⟩; have HB9 := Lib.hid (below_and (below_and HB8.out (below_alloc _ _)) hb); clear hb))
          go_ret
          exact ⟨rfl, HB9.out⟩
      · have HSU : Hid (sumR (List.replicate k a) = (x, e)) := Lib.hid (by rw [← scale_sum a k (by omega)]; exact HX.out)
        have t0 : (((k : Nat) : Int) == 0) = false := by simp; omega
        clear h0
        go_wp2_with (go_at_call 16; refine (sum_val _ (List.replicate k a) x e _ HAM.out HSU.out).mono ?_; rintro e' w8 ⟨rfl, hb⟩; have hx8 := HXr.out.kept hb; have x0 : ∀ (A : Array Value) (t : TypeId), (w8.alloc (.cells A t)).cell? ⟨w5.heap.size, 0, none⟩ = some (.int .i64 x.c) := fun A t => (hx8.alloc _).cell (j := 0) rfl; have x1 : ∀ (A : Array Value) (t : TypeId), (w8.alloc (.cells A t)).cell? ⟨w5.heap.size, 1, none⟩ = some (.int .i64 x.r) := fun A t => (hx8.alloc _).cell (j := 1) rfl; have x2 : ∀ (A : Array Value) (t : TypeId), (w8.alloc (.cells A t)).cell? ⟨w5.heap.size, 2, none⟩ = some (.int .i64 x.d) := fun A t => (hx8.alloc _).cell (j := 2) rfl; have x3 : ∀ (A : Array Value) (t : TypeId), (w8.alloc (.cells A t)).cell? ⟨w5.heap.size, 3, none⟩ = some (.int .i64 x.p) := fun A t => (hx8.alloc _).cell (j := 3) rfl; have HB8 := Lib.hid (below_and HBx.out hb); clear hb hx8)
        go_ret
        exact ⟨rfl, below_and HB8.out (below_alloc _ _)⟩
theorem resourceScale_walk (xs : List Value) (n : Int) (w : World) (hl : xs.length = 4) (h0 : fieldOk Tryd.prog 2 (xs.getD 0 undef)) (h1 : fieldOk Tryd.prog 2 (xs.getD 1 undef)) (h2 : fieldOk Tryd.prog 2 (xs.getD 2 undef)) (h3 : fieldOk Tryd.prog 2 (xs.getD 3 undef)) (hn : (Lit.int .i64 n).wf = true) (ht : Tab w) :
    Calls Tryd.prog 5 #[.agg xs.toArray, .int .i64 n] w fun e w' => e = .returned (.bool true) ∧ Below w.heap.size w w' := by
  obtain ⟨a, ha⟩ := am_of xs hl h0 h1 h2 h3
  rw [ha]
  by_cases h : n < 0 ∨ 100 < n
  · exact rscale_out a n w ht h
  · obtain ⟨m, rfl⟩ : ∃ m : Nat, n = (m : Int) := ⟨n.toNat, by omega⟩
    exact rscale_in a m w ht (by omega)
end Go.Proofs.YtmgecehdicpjnaaDoor
