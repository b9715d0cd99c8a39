/- , laid together: RuEqual, RdSame, RuCheck, RuText, RuSame. -/
import Derived.Test.YtdnoceancoclmaaGreatDoorRuShap
import Derived.Test.YtdnoceancoclmaaGreatDoorM31
namespace Go.Proofs.YtdnoceancoclmaaGreatDoor.Ru
open Go.RowKit Go.Proofs.YtdnoceancoclmaaGreatDoor

theorem bs_list {a b : List UInt8} : ((bs a).toList = (bs b).toList) = (a = b) := by
  rw [Lib.toList_data, Lib.toList_data]
  simp [bs]
theorem nd_neq (x y : Nd) (w : World) : (binOp .neq 52 (ndV x) (ndV y)).run Tryz.prog w = .ok (.bool (!(decide (x = y)))) w := by
  go_simp
  simp only [bs_list]
  obtain ⟨k, nm, vl, xx, a, b⟩ := x
  obtain ⟨k', nm', vl', xx', a', b'⟩ := y
  simp only [Nd.mk.injEq]
  by_cases h1 : k = k'
  · rw [if_pos h1]
    by_cases h2 : nm = nm'
    · rw [if_pos h2]
      by_cases h3 : vl = vl'
      · rw [if_pos h3]
        by_cases h4 : xx = xx'
        · rw [if_pos h4]
          by_cases h5 : a = a'
          · rw [if_pos h5]
            by_cases h6 : b = b'
            · rw [if_pos h6, decide_eq_true ⟨h1, h2, h3, h4, h5, h6⟩]; rfl
            · rw [if_neg h6, decide_eq_false (fun h => h6 h.2.2.2.2.2)]; rfl
          · rw [if_neg h5, decide_eq_false (fun h => h5 h.2.2.2.2.1)]; rfl
        · rw [if_neg h4, decide_eq_false (fun h => h4 h.2.2.2.1)]; rfl
      · rw [if_neg h3, decide_eq_false (fun h => h3 h.2.2.1)]; rfl
    · rw [if_neg h2, decide_eq_false (fun h => h2 h.2.1)]; rfl
  · rw [if_neg h1, decide_eq_false (fun h => h1 h.1)]; rfl
theorem list_ne {L M : List Nd} {i : Nat} (hi : i < L.length) (hj : i < M.length) (h : L[i] ≠ M[i]) : decide (L = M) = false := by
  rw [decide_eq_false_iff_not]
  intro e
  subst e
  exact h rfl
theorem list_all {L M : List Nd} (hl : L.length = M.length) (h : ∀ i (h1 : i < L.length) (h2 : i < M.length), L[i] = M[i]) : decide (L = M) = true := by
  rw [decide_eq_true_iff]
  exact List.ext_getElem hl (fun i h1 h2 => h i h1 h2)

set_option maxRecDepth 100000 in
set_option maxHeartbeats 1000000 in
theorem equal_any (v u : Value) (L M : List Nd) (w : World) (hv : Row w v 6 L.length (rwC ndC L)) (hu : Row w u 6 M.length (rwC ndC M)) :
    Calls Tryz.prog 22 #[v, u] w fun r w' => r = .returned (.bool (decide (L = M))) ∧ Below w.heap.size w w' := by
  obtain ⟨p, c, rfl, hc, hm, -⟩ := id hv
  obtain ⟨p2, c2, rfl, hc2, hm2, -⟩ := id hu
  have HV := Lib.hid hv
  have HU := Lib.hid hu
  have hml : maxLen ≤ 9223372036854775807 := by decide
  have hn63 : (L.length : Int) ≤ 9223372036854775807 := by omega
  have hm63 : (M.length : Int) ≤ 9223372036854775807 := by omega
  clear hv hu hc hm hc2 hm2 hml
  by_cases hl : L.length = M.length
  · have HL := Lib.hid hl
    obtain ⟨n, hn⟩ : ∃ n, n = L.length := ⟨_, rfl⟩
    have HN := Lib.hid hn
    rw [← hl]
    rw [← hn] at hn63 ⊢
    clear hl hn hm63
    go_enter Tryz.func22, Tryz.ntmps22
    have HB0 : Hid (Below w.heap.size w w) := Lib.hid (Below.refl _ _)
    go_wp2
    go_loopw [13] (fun i wr => ∃ k : Nat, k ≤ n ∧ i = .int .i64 (k : Int) ∧ Hid (∀ i (h1 : i < L.length) (h2 : i < M.length), i < k → L[i] = M[i]) ∧ Hid (Below w.heap.size w wr)) (fun i _ => n - (intOf i).toNat)
    case atStart => exact ⟨0, Nat.zero_le _, rfl, Lib.hid (fun _ _ _ h => by omega), Lib.hid (Below.refl _ _)⟩
    case round =>
      obtain ⟨k, hk, rfl, HE, HB⟩ := hrel
      by_cases hlt : k < n
      · have HKL : Hid (k < L.length) := Lib.hid (by have := HN.out; omega)
        have HKM : Hid (k < M.length) := Lib.hid (by have := HN.out; have := HL.out; omega)
        have HLC : Hid (∃ b o, p = some ⟨b, o, none⟩ ∧ ∀ j u, (ndC (L[k]'HKL.out))[j]? = some u → wr.cell? ⟨b, o + k * 6 + j, none⟩ = some u) := Lib.hid (by
          have hr := HV.out.below (below_and HB0.out HB.out)
          exact node_at hr HKL.out)
        have HMC : Hid (∃ b o, p2 = some ⟨b, o, none⟩ ∧ ∀ j u, (ndC (M[k]'HKM.out))[j]? = some u → wr.cell? ⟨b, o + k * 6 + j, none⟩ = some u) := Lib.hid (by
          have hr := HU.out.below (below_and HB0.out HB.out)
          exact node_at hr HKM.out)
        obtain ⟨x, hx⟩ : ∃ x, x = L[k]'HKL.out := ⟨_, rfl⟩
        obtain ⟨y, hy⟩ : ∃ y, y = M[k]'HKM.out := ⟨_, rfl⟩
        rw [← hx] at HLC
        rw [← hy] at HMC
        have HX := Lib.hid hx
        have HY := Lib.hid hy
        clear hx hy
        obtain ⟨b, o, rfl, hcell⟩ := HLC.out
        obtain ⟨b', o', rfl, hcell'⟩ := HMC.out
        have q0 := hcell 0 _ rfl
        rw [Nat.add_zero] at q0
        have q1 := hcell 1 _ rfl
        have q2 := hcell 2 _ rfl
        have q3 := hcell 3 _ rfl
        have q4 := hcell 4 _ rfl
        have q5 := hcell 5 _ rfl
        have r0 := hcell' 0 _ rfl
        rw [Nat.add_zero] at r0
        have r1 := hcell' 1 _ rfl
        have r2 := hcell' 2 _ rfl
        have r3 := hcell' 3 _ rfl
        have r4 := hcell' 4 _ rfl
        have r5 := hcell' 5 _ rfl
        clear hcell hcell' HLC HMC
        by_cases he : x = y
        · have hne : ∀ w, (binOp .neq 52 (.agg #[.int .i64 x.k, .string (bs x.nm), .string (bs x.vl), .int .i64 x.x, .int .i64 x.a, .int .i64 x.b]) (.agg #[.int .i64 y.k, .string (bs y.nm), .string (bs y.vl), .int .i64 y.x, .int .i64 y.a, .int .i64 y.b])).run Tryz.prog w = .ok (.bool false) w := fun w => by have := nd_neq x y w; rw [decide_eq_true he] at this; exact this
          have HE2 : Hid (∀ i (h1 : i < L.length) (h2 : i < M.length), i < k + 1 → L[i] = M[i]) := Lib.hid (fun i h1 h2 hi => by
            by_cases e : i = k
            · subst e
              have e1 := HX.out
              have e2 := HY.out
              rw [← e1, ← e2, he]
            · exact HE.out i h1 h2 (by omega))
          clear he
          go_wp2
          go_quiet (fail)
          have HB2 : Hid (Below w.heap.size w (wr.drewN nq)) := Lib.hid (Below.drewN' HB.out nq)
          go_wp2
          go_roundw
          case rel => exact ⟨k + 1, by omega, by go_num, HE2, HB2⟩
          case measure => simp [intOf]; omega
        · have hne : ∀ w, (binOp .neq 52 (.agg #[.int .i64 x.k, .string (bs x.nm), .string (bs x.vl), .int .i64 x.x, .int .i64 x.a, .int .i64 x.b]) (.agg #[.int .i64 y.k, .string (bs y.nm), .string (bs y.vl), .int .i64 y.x, .int .i64 y.a, .int .i64 y.b])).run Tryz.prog w = .ok (.bool true) w := fun w => by have := nd_neq x y w; rw [decide_eq_false he] at this; exact this
          have HN2 : Hid (decide (L = M) = false) := Lib.hid (list_ne HKL.out HKM.out (by rw [← HX.out, ← HY.out]; exact he))
          clear he
          go_wp2
          go_quiet (fail)
          have HB2 : Hid (Below w.heap.size w (wr.drewN nq)) := Lib.hid (Below.drewN' (below_and HB0.out HB.out) nq)
          go_wp2
          go_ret
          exact ⟨ret_bool HN2.out.symm, HB2.out⟩
      · obtain rfl : k = n := by omega
        have HN2 : Hid (decide (L = M) = true) := Lib.hid (list_all HL.out (fun i h1 h2 => HE.out i h1 h2 (by have := HN.out; omega)))
        go_wp2
        go_ret
        exact ⟨ret_bool HN2.out.symm, below_and HB0.out HB.out⟩
  · have HN2 : Hid (decide (L = M) = false) := Lib.hid (by rw [decide_eq_false_iff_not]; intro e; rw [e] at hl; exact hl rfl)
    have t1 : ((L.length : Int) != (M.length : Int)) = true := by simp; omega
    have t2 : (L.length != M.length) = true := by simpa using hl
    have t3 : (L.length == M.length) = false := by simpa using hl
    go_enter Tryz.func22, Tryz.ntmps22
    go_wp2
    go_ret
    exact ⟨ret_bool HN2.out.symm, Below.refl _ _⟩
end Go.Proofs.YtdnoceancoclmaaGreatDoor.Ru

namespace Go.Proofs.YtdnoceancoclmaaGreatDoor.Ru
open Go.RowKit Go.Proofs.YtdnoceancoclmaaGreatDoor

set_option maxRecDepth 100000 in
set_option maxHeartbeats 1000000 in
theorem dsame_any (v u : Value) (L M : List Nd) (w : World) (hv : Row w v 6 L.length (rwC ndC L)) (hu : Row w u 6 M.length (rwC ndC M)) :
    Calls Tryz.prog 27 #[.agg #[v], .agg #[u]] w fun r w' => r = .returned (.bool (decide (L = M))) ∧ Below w.heap.size w w' := by
  obtain ⟨p, c, rfl, hc, hm, -⟩ := id hv
  obtain ⟨p2, c2, rfl, hc2, hm2, -⟩ := id hu
  have HV := Lib.hid hv
  have HU := Lib.hid hu
  have hml : maxLen ≤ 9223372036854775807 := by decide
  have hn63 : (L.length : Int) ≤ 9223372036854775807 := by omega
  have hm63 : (M.length : Int) ≤ 9223372036854775807 := by omega
  clear hv hu hc hm hc2 hm2 hml
  by_cases hl : L.length = M.length
  · have HL := Lib.hid hl
    obtain ⟨n, hn⟩ : ∃ n, n = L.length := ⟨_, rfl⟩
    have HN := Lib.hid hn
    rw [← hl]
    rw [← hn] at hn63 ⊢
    clear hl hn hm63
    obtain ⟨w0, hw0⟩ : ∃ w0, w0 = (w.alloc (.cells #[.slice p n c] 24)).alloc (.cells #[.slice p2 n c2] 24) := ⟨_, rfl⟩
    go_enter Tryz.func27, Tryz.ntmps27
    go_upto_region 1 with fail
    rw [← hw0]
    have HB0 : Hid (Below w.heap.size w w0) := Lib.hid (by rw [hw0]; exact below_and (below_alloc _ _) (below_alloc _ _))
    have b0 : w0.cell? ⟨w.heap.size, 0, none⟩ = some (.slice p n c) := by
      rw [hw0]; exact (Blk.alloc (Blk.made w [_] _) _).cell (j := 0) rfl
    have b1 : w0.cell? ⟨w.heap.size + 1, 0, none⟩ = some (.slice p2 n c2) := by
      rw [hw0]; have := (Blk.made (w.alloc (.cells #[.slice p n c] 24)) [.slice p2 n c2] 24).cell (j := 0) rfl; rw [show (w.alloc (.cells #[.slice p n c] 24)).heap.size = w.heap.size + 1 from by simp] at this; exact this
    clear hw0
    obtain ⟨R, hR⟩ : ∃ R, R = w.heap.size := ⟨_, rfl⟩
    rw [← hR] at b0 b1 ⊢
    have HBB0 : Hid (w0.cell? ⟨R, 0, none⟩ = some (.slice p n c) ∧ w0.cell? ⟨R + 1, 0, none⟩ = some (.slice p2 n c2)) := Lib.hid ⟨b0, b1⟩
    clear hR
    go_wp2
    go_loopw [5] (fun i wr => ∃ k : Nat, k ≤ n ∧ i = .int .i64 (k : Int) ∧ Hid (∀ i (h1 : i < L.length) (h2 : i < M.length), i < k → L[i] = M[i]) ∧ Hid (Below w0.heap.size w0 wr)) (fun i _ => n - (intOf i).toNat)
    case atStart => exact ⟨0, Nat.zero_le _, rfl, Lib.hid (fun _ _ _ h => by omega), Lib.hid (Below.refl _ _)⟩
    case round =>
      obtain ⟨k, hk, rfl, HE, HB⟩ := hrel
      by_cases hlt : k < n
      · have HKL : Hid (k < L.length) := Lib.hid (by have := HN.out; omega)
        have HKM : Hid (k < M.length) := Lib.hid (by have := HN.out; have := HL.out; omega)
        have HLC : Hid (∃ b o, p = some ⟨b, o, none⟩ ∧ ∀ j u, (ndC (L[k]'HKL.out))[j]? = some u → wr.cell? ⟨b, o + k * 6 + j, none⟩ = some u) := Lib.hid (by
          have hr := HV.out.below (below_and HB0.out HB.out)
          exact node_at hr HKL.out)
        have HMC : Hid (∃ b o, p2 = some ⟨b, o, none⟩ ∧ ∀ j u, (ndC (M[k]'HKM.out))[j]? = some u → wr.cell? ⟨b, o + k * 6 + j, none⟩ = some u) := Lib.hid (by
          have hr := HU.out.below (below_and HB0.out HB.out)
          exact node_at hr HKM.out)
        obtain ⟨x, hx⟩ : ∃ x, x = L[k]'HKL.out := ⟨_, rfl⟩
        obtain ⟨y, hy⟩ : ∃ y, y = M[k]'HKM.out := ⟨_, rfl⟩
        rw [← hx] at HLC
        rw [← hy] at HMC
        have HX := Lib.hid hx
        have HY := Lib.hid hy
        clear hx hy
        obtain ⟨b, o, rfl, hcell⟩ := HLC.out
        obtain ⟨b', o', rfl, hcell'⟩ := HMC.out
        have q0 := hcell 0 _ rfl
        rw [Nat.add_zero] at q0
        have q1 := hcell 1 _ rfl
        have q2 := hcell 2 _ rfl
        have q3 := hcell 3 _ rfl
        have q4 := hcell 4 _ rfl
        have q5 := hcell 5 _ rfl
        have r0 := hcell' 0 _ rfl
        rw [Nat.add_zero] at r0
        have r1 := hcell' 1 _ rfl
        have r2 := hcell' 2 _ rfl
        have r3 := hcell' 3 _ rfl
        have r4 := hcell' 4 _ rfl
        have r5 := hcell' 5 _ rfl
        have b0 := cell_kept HBB0.out.1 HB.out
        have b1 := cell_kept HBB0.out.2 HB.out
        clear hcell hcell' HLC HMC
        by_cases he : x = y
        · have hne : ∀ w, (binOp .neq 52 (.agg #[.int .i64 x.k, .string (bs x.nm), .string (bs x.vl), .int .i64 x.x, .int .i64 x.a, .int .i64 x.b]) (.agg #[.int .i64 y.k, .string (bs y.nm), .string (bs y.vl), .int .i64 y.x, .int .i64 y.a, .int .i64 y.b])).run Tryz.prog w = .ok (.bool false) w := fun w => by have := nd_neq x y w; rw [decide_eq_true he] at this; exact this
          have HE2 : Hid (∀ i (h1 : i < L.length) (h2 : i < M.length), i < k + 1 → L[i] = M[i]) := Lib.hid (fun i h1 h2 hi => by
            by_cases e : i = k
            · subst e
              have e1 := HX.out
              have e2 := HY.out
              rw [← e1, ← e2, he]
            · exact HE.out i h1 h2 (by omega))
          clear he
          go_wp2
          go_quiet (fail)
          have HB2 : Hid (Below w0.heap.size w0 (wr.drewN nq)) := Lib.hid (Below.drewN' HB.out nq)
          go_wp2
          go_roundw
          case rel => exact ⟨k + 1, by omega, by go_num, HE2, HB2⟩
          case measure => simp [intOf]; omega
        · have hne : ∀ w, (binOp .neq 52 (.agg #[.int .i64 x.k, .string (bs x.nm), .string (bs x.vl), .int .i64 x.x, .int .i64 x.a, .int .i64 x.b]) (.agg #[.int .i64 y.k, .string (bs y.nm), .string (bs y.vl), .int .i64 y.x, .int .i64 y.a, .int .i64 y.b])).run Tryz.prog w = .ok (.bool true) w := fun w => by have := nd_neq x y w; rw [decide_eq_false he] at this; exact this
          have HN2 : Hid (decide (L = M) = false) := Lib.hid (list_ne HKL.out HKM.out (by rw [← HX.out, ← HY.out]; exact he))
          clear he
          go_wp2
          go_quiet (fail)
          have HB2 : Hid (Below w.heap.size w (wr.drewN nq)) := Lib.hid (Below.drewN' (below_and HB0.out HB.out) nq)
          go_wp2
          go_ret
          exact ⟨ret_bool HN2.out.symm, HB2.out⟩
      · obtain rfl : k = n := by omega
        have HN2 : Hid (decide (L = M) = true) := Lib.hid (list_all HL.out (fun i h1 h2 => HE.out i h1 h2 (by have := HN.out; omega)))
        have b0 := cell_kept HBB0.out.1 HB.out
        have b1 := cell_kept HBB0.out.2 HB.out
        go_wp2
        go_ret
        exact ⟨ret_bool HN2.out.symm, below_and HB0.out HB.out⟩
  · have HN2 : Hid (decide (L = M) = false) := Lib.hid (by rw [decide_eq_false_iff_not]; intro e; rw [e] at hl; exact hl rfl)
    have t1 : ((L.length : Int) != (M.length : Int)) = true := by simp; omega
    have t2 : (L.length != M.length) = true := by simpa using hl
    have t3 : (L.length == M.length) = false := by simpa using hl
    go_enter Tryz.func27, Tryz.ntmps27
    go_wp2
    go_ret
    exact ⟨ret_bool HN2.out.symm, below_and (below_alloc _ _) (below_alloc _ _)⟩
end Go.Proofs.YtdnoceancoclmaaGreatDoor.Ru

namespace Go.Proofs.YtdnoceancoclmaaGreatDoor.Ru
open Go.RowKit Go.Proofs.YtdnoceancoclmaaGreatDoor

/-- what a rule's nodes must be for a walk -/
theorem bs_data (l : List UInt8) : (bs l).data.toList = l := by simp [bs]

set_option maxRecDepth 100000 in
set_option maxHeartbeats 1000000 in
theorem check_any (v : Value) (L : List Nd) (w : World) (hv : Row w v 6 L.length (rwC ndC L)) (hc : ∀ n ∈ L, Fit1 n) (hE : ErrV w) (hT : Tab w) :
    Calls Tryz.prog 7 #[.agg #[v]] w fun r w' => r = .returned (.int .i64 (checkP L)) ∧ Below w.heap.size w w' := by
  obtain ⟨p, c, rfl, hcc, hm, -⟩ := id hv
  have HV := Lib.hid hv
  have HC := Lib.hid hc
  have HE := Lib.hid hE
  have HT := Lib.hid hT
  have hml : maxLen ≤ 9223372036854775807 := by decide
  obtain ⟨n, hn⟩ : ∃ n, n = L.length := ⟨_, rfl⟩
  have HN := Lib.hid hn
  rw [← hn] at hcc HV ⊢
  have hn63 : (n : Int) ≤ 9223372036854775807 := by omega
  clear hv hc hE hT hcc hm hml hn
  obtain ⟨w1, hw1⟩ : ∃ w1, w1 = w.alloc (.cells #[.slice p n c] 24) := ⟨_, rfl⟩
  have HB1 : Hid (Below w.heap.size w w1) := Lib.hid (by rw [hw1]; exact below_alloc _ _)
  have HX1 : Hid (Blk w1 w.heap.size [.slice p n c] 24) := Lib.hid (by rw [hw1]; exact Blk.made w [_] _)
  have HS : Hid (Calls Tryz.prog 20 #[.slice p n c] w1 fun r w' => r = .returned (.bool (shapedB L)) ∧ Below w1.heap.size w1 w') := Lib.hid (shaped_any _ L w1 (by have := HV.out.below HB1.out; rw [HN.out] at this ⊢; exact this))
  cases hsh : shapedB L with
  | false =>
    have HCK : Hid (checkP L = 2) := Lib.hid (by unfold checkP; rw [hsh]; rfl)
    rw [hsh] at HS
    have b0 := HX1.out.cell (j := 0) rfl
    clear hsh
    go_enter Tryz.func7, Tryz.ntmps7
    go_upto_region 1 with fail
    rw [← hw1]
    clear hw1
    go_wp2_with (go_at_call 20; refine HS.out.mono ?_; rintro r w2 ⟨rfl, hb⟩; have HB2 := Lib.hid (below_and HB1.out hb); clear hb)
    go_ret
    exact ⟨ret_int HCK.out.symm, HB2.out⟩
  | true =>
    obtain ⟨hf, h1, h2, h3⟩ := shaped_fine hsh
    rw [hsh] at HS
    obtain ⟨m, hm⟩ : ∃ m, n = m + 1 := ⟨n - 1, by have := HN.out; omega⟩
    have HM := Lib.hid hm
    have HTO := Lib.hid (told_any hf h1 h3 HC.out L.length m (by have := HN.out; omega) (by have := HN.out; omega))
    have HTA : Hid (toldA L = tl L m) := Lib.hid (by rw [toldA_tl hf h2]; congr 1; have := HN.out; omega)
    have HTL := Lib.hid (told_long hf h1 h3 HC.out (i := m) (by have := HN.out; omega))
    have HCK : Hid (checkP L = match parseP (toldA L) with | .ok M => if M = L then 0 else 2 | .error _ => 2) := Lib.hid (by unfold checkP; rw [if_pos hsh]; cases parseP (toldA L) <;> rfl)
    have u1 : IntKind.i64.wrap ((n : Int) - 1) = (m : Int) := by rw [IntKind.wrap_i64]; have := HN.out; omega
    obtain ⟨S, hS⟩ : ∃ S, S = bs (tl L m) := ⟨_, rfl⟩
    have HSD : Hid (parseP (toldA L) = parseP S.data.toList) := Lib.hid (by rw [hS, bs_data, HTA.out])
    have HSZ : Hid (S.size ≤ maxLen) := Lib.hid (by rw [hS, bs_size]; have := HTL.out; unfold maxLen; omega)
    have HTS : Hid (∀ w2, Below w1.heap.size w1 w2 → Calls Tryz.prog 21 #[.slice p n c, .int .i64 (m : Int)] w2 fun r w' => r = .returned (.string S) ∧ Below w2.heap.size w2 w') := Lib.hid (fun w2 hb => by
      rw [hS]
      exact HTO.out _ w2 (by have := HV.out.below (below_and HB1.out hb); rw [HN.out] at this ⊢; exact this) (HT.out.below (below_and HB1.out hb)))
    rw [HSD.out] at HCK
    clear hsh hf h1 h2 h3 hm hS HTO HTA HTL HSD
    have b0 := HX1.out.cell (j := 0) rfl
    go_enter Tryz.func7, Tryz.ntmps7
    go_upto_region 1 with fail
    rw [← hw1]
    obtain ⟨R, hR⟩ : ∃ R, R = w.heap.size := ⟨_, rfl⟩
    have HR := Lib.hid hR
    rw [← hR] at b0 HX1 ⊢
    clear hw1 hR
    go_upto_region 3 with (go_at_call 20; refine HS.out.mono ?_; rintro r w2 ⟨rfl, hb⟩; have HB2 := Lib.hid hb; have b2 := (HX1.out.kept hb).cell (j := 0) rfl; clear hb)
    cases hpp : parseP S.data.toList with
    | error e =>
      have HCK2 : Hid (checkP L = 2) := Lib.hid (by rw [HCK.out, hpp])
      have HPA : Hid (∀ w3, Below w1.heap.size w1 w3 → Calls Tryz.prog 19 #[.string S] w3 fun r w' => r = .returned (.tuple #[.agg #[.slice none 0 0], .agg #[.int .i64 e.1, .int .i64 e.2]]) ∧ Below w3.heap.size w3 w') := Lib.hid (fun w3 hb => by
        have := parse_any S w3 (HE.out.below (below_and HB1.out hb)) (HT.out.below (below_and HB1.out hb)) HSZ.out
        rw [hpp] at this
        exact this)
      have HE0 : Hid (e.1 ≠ 0) := Lib.hid (by have := parseP_fault hpp; omega)
      clear hpp
      obtain ⟨e1, e2⟩ := e
      simp only at HPA HE0
      have t1 : (e1 == 0) = false := by simpa using HE0.out
      go_wp2_with (first
        | (go_at_call 21; refine (HTS.out _ HB2.out).mono ?_; rintro r w3 ⟨rfl, hb⟩; have HB3 := Lib.hid (below_and HB2.out hb); clear hb)
        | (go_at_call 19; refine (HPA.out _ HB3.out).mono ?_; rintro r w4 ⟨rfl, hb⟩; have HB4 := Lib.hid (below_and HB3.out hb); clear hb))
      go_ret
      exact ⟨ret_int HCK2.out.symm, below_and HB1.out (below_and HB4.out (below_and (below_alloc _ _) (below_alloc _ _)))⟩
    | ok M =>
      have HPA : Hid (∀ w3, Below w1.heap.size w1 w3 → Calls Tryz.prog 19 #[.string S] w3 fun r w' => ∃ q d, r = .returned (.tuple #[.agg #[.slice q M.length d], .agg #[.int .i64 0, .int .i64 0]]) ∧ Row w' (.slice q M.length d) 6 M.length (rwC ndC M) ∧ Below w3.heap.size w3 w') := Lib.hid (fun w3 hb => by
        have := parse_any S w3 (HE.out.below (below_and HB1.out hb)) (HT.out.below (below_and HB1.out hb)) HSZ.out
        rw [hpp] at this
        refine this.mono fun r w' h => ?_
        obtain ⟨⟨v, h1, h2⟩, h3⟩ := h
        obtain ⟨q, d, rfl, -, -, h4⟩ := row_own h2 (rwC_one ndC_one M)
        exact ⟨q, d, h1, h4, h3⟩)
      have HCK2 : Hid (checkP L = if M = L then 0 else 2) := Lib.hid (by rw [HCK.out, hpp])
      clear hpp HCK
      have HEQ : Hid (∀ q d w3, Row w3 (.slice q M.length d) 6 M.length (rwC ndC M) → Below w1.heap.size w1 w3 → Calls Tryz.prog 22 #[.slice q M.length d, .slice p n c] w3 fun r w' => r = .returned (.bool (decide (M = L))) ∧ Below w3.heap.size w3 w') := Lib.hid (fun q d w3 h1 hb => by
        have := HV.out.below (below_and HB1.out hb)
        rw [HN.out] at this ⊢
        exact equal_any _ _ M L w3 h1 this)
      obtain ⟨ml, hml⟩ : ∃ ml, ml = M.length := ⟨_, rfl⟩
      rw [← hml] at HPA HEQ
      clear hml
      by_cases hML : M = L
      · skip
        rw [decide_eq_true hML] at HEQ
        rw [if_pos hML] at HCK2
        clear hML
        go_upto_region 4 with (first
          | (go_at_call 21; refine (HTS.out _ HB2.out).mono ?_; rintro r w3 ⟨rfl, hb⟩; have HB3 := Lib.hid (below_and HB2.out hb); clear hb)
          | (go_at_call 19; refine (HPA.out _ HB3.out).mono ?_; rintro r w4 ⟨q, d, rfl, hrow, hb⟩; have HB4 := Lib.hid (below_and HB3.out hb); have HR4 := Lib.hid hrow; clear hb hrow))
        obtain ⟨X, hX⟩ : ∃ X, X = w4.heap.size := ⟨_, rfl⟩
        refine at_hide (F := fun w' => Blk w' X [.slice q ml d] 24 ∧ Blk w' (X + 1) [.int .i64 0, .int .i64 0] 45 ∧ Below w4.heap.size w4 w') ⟨by
          rw [hX]; exact Blk.alloc (Blk.made w4 [.slice q ml d] _) _, by
          rw [hX]; have := Blk.made (w4.alloc (.cells [.slice q ml d].toArray 24)) [.int .i64 0, .int .i64 0] 45; rw [show (w4.alloc (.cells [.slice q ml d].toArray 24)).heap.size = w4.heap.size + 1 from by simp] at this; exact this, below_and (below_alloc _ _) (below_alloc _ _)⟩ ?_
        rw [← hX]
        intro w5 hF
        have hb5 : Below w4.heap.size w4 w5 := by have := hF.2.2; rw [hX] at this; exact this
        have HB5 : Hid (Below w1.heap.size w1 w5) := Lib.hid (below_and HB4.out hb5)
        have HR5 := Lib.hid (HR4.out.below hb5)
        have c0 := hF.1.cell (j := 0) rfl
        have c1 := hF.2.1.cell (j := 0) rfl
        have c2 := hF.2.1.cell (j := 1) rfl
        have c3 := (HX1.out.kept HB5.out).cell (j := 0) rfl
        clear hF hX b2 hb5
        go_wp2_with (go_at_call 22; refine (HEQ.out _ _ _ HR5.out HB5.out).mono ?_; rintro r w6 ⟨rfl, hb⟩; have HB6 := Lib.hid (below_and HB5.out hb); clear hb)
        go_ret
        exact ⟨ret_int HCK2.out.symm, below_and HB1.out HB6.out⟩
      · skip
        rw [decide_eq_false hML] at HEQ
        rw [if_neg hML] at HCK2
        clear hML
        go_upto_region 4 with (first
          | (go_at_call 21; refine (HTS.out _ HB2.out).mono ?_; rintro r w3 ⟨rfl, hb⟩; have HB3 := Lib.hid (below_and HB2.out hb); clear hb)
          | (go_at_call 19; refine (HPA.out _ HB3.out).mono ?_; rintro r w4 ⟨q, d, rfl, hrow, hb⟩; have HB4 := Lib.hid (below_and HB3.out hb); have HR4 := Lib.hid hrow; clear hb hrow))
        obtain ⟨X, hX⟩ : ∃ X, X = w4.heap.size := ⟨_, rfl⟩
        refine at_hide (F := fun w' => Blk w' X [.slice q ml d] 24 ∧ Blk w' (X + 1) [.int .i64 0, .int .i64 0] 45 ∧ Below w4.heap.size w4 w') ⟨by
          rw [hX]; exact Blk.alloc (Blk.made w4 [.slice q ml d] _) _, by
          rw [hX]; have := Blk.made (w4.alloc (.cells [.slice q ml d].toArray 24)) [.int .i64 0, .int .i64 0] 45; rw [show (w4.alloc (.cells [.slice q ml d].toArray 24)).heap.size = w4.heap.size + 1 from by simp] at this; exact this, below_and (below_alloc _ _) (below_alloc _ _)⟩ ?_
        rw [← hX]
        intro w5 hF
        have hb5 : Below w4.heap.size w4 w5 := by have := hF.2.2; rw [hX] at this; exact this
        have HB5 : Hid (Below w1.heap.size w1 w5) := Lib.hid (below_and HB4.out hb5)
        have HR5 := Lib.hid (HR4.out.below hb5)
        have c0 := hF.1.cell (j := 0) rfl
        have c1 := hF.2.1.cell (j := 0) rfl
        have c2 := hF.2.1.cell (j := 1) rfl
        have c3 := (HX1.out.kept HB5.out).cell (j := 0) rfl
        clear hF hX b2 hb5
        go_wp2_with (go_at_call 22; refine (HEQ.out _ _ _ HR5.out HB5.out).mono ?_; rintro r w6 ⟨rfl, hb⟩; have HB6 := Lib.hid (below_and HB5.out hb); clear hb)
        go_ret
        exact ⟨ret_int HCK2.out.symm, below_and HB1.out HB6.out⟩

end Go.Proofs.YtdnoceancoclmaaGreatDoor.Ru

namespace Go.Proofs.YtdnoceancoclmaaGreatDoor.Ru
open Go.RowKit Go.Proofs.YtdnoceancoclmaaGreatDoor

/-- what Text answers -/
def TextS (w w' : World) (L : List Nd) (r : Ending) : Prop :=
  (if checkP L = 0 then r = .returned (.tuple #[.string (bs (toldA L)), .int .i64 0]) else r = .returned (.tuple #[.string ⟨#[]⟩, .int .i64 (checkP L)])) ∧ Below w.heap.size w w'
theorem check_yes {L : List Nd} (h : checkP L = 0) : shapedB L = true := by
  unfold checkP at h
  split at h
  · assumption
  · cases h
set_option maxRecDepth 100000 in
set_option maxHeartbeats 1000000 in
theorem text_any (v : Value) (L : List Nd) (w : World) (hv : Row w v 6 L.length (rwC ndC L)) (hc : ∀ n ∈ L, Fit1 n) (hE : ErrV w) (hT : Tab w) :
    Calls Tryz.prog 11 #[.agg #[v]] w fun r w' => TextS w w' L r := by
  obtain ⟨p, c, rfl, hcc, hm, -⟩ := id hv
  have HV := Lib.hid hv
  have hml : maxLen ≤ 9223372036854775807 := by decide
  obtain ⟨n, hn⟩ : ∃ n, n = L.length := ⟨_, rfl⟩
  have HN := Lib.hid hn
  obtain ⟨w1, hw1⟩ : ∃ w1, w1 = w.alloc (.cells #[.slice p n c] 24) := ⟨_, rfl⟩
  have HB1 : Hid (Below w.heap.size w w1) := Lib.hid (by rw [hw1]; exact below_alloc _ _)
  have HX1 : Hid (Blk w1 w.heap.size [.slice p n c] 24) := Lib.hid (by rw [hw1]; exact Blk.made w [_] _)
  have HK : Hid (Calls Tryz.prog 7 #[.agg #[.slice p n c]] w1 fun r w' => r = .returned (.int .i64 (checkP L)) ∧ Below w1.heap.size w1 w') := Lib.hid (by
    have := check_any (.slice p L.length c) L w1 (hv.below HB1.out) hc (hE.below HB1.out) (hT.below HB1.out)
    rw [← hn] at this
    exact this)
  have HC := Lib.hid hc
  have HT := Lib.hid hT
  rw [← hn] at hcc HV ⊢
  have hn63 : (n : Int) ≤ 9223372036854775807 := by omega
  have b0 := HX1.out.cell (j := 0) rfl
  obtain ⟨R, hR⟩ : ∃ R, R = w.heap.size := ⟨_, rfl⟩
  have HR := Lib.hid hR
  clear hv hc hE hT hcc hm hml hn
  by_cases hck : checkP L = 0
  · rw [hck] at HK
    obtain ⟨hf, h1, h2, h3⟩ := shaped_fine (check_yes hck)
    obtain ⟨m, hm⟩ : ∃ m, n = m + 1 := ⟨n - 1, by have := HN.out; omega⟩
    have HM := Lib.hid hm
    have HTO := Lib.hid (told_any hf h1 h3 HC.out L.length m (by have := HN.out; omega) (by have := HN.out; omega))
    have HTA : Hid (toldA L = tl L m) := Lib.hid (by rw [toldA_tl hf h2]; congr 1; have := HN.out; omega)
    have u1 : IntKind.i64.wrap ((n : Int) - 1) = (m : Int) := by rw [IntKind.wrap_i64]; have := HN.out; omega
    have HTS : Hid (∀ w2, Below w1.heap.size w1 w2 → Calls Tryz.prog 21 #[.slice p n c, .int .i64 (m : Int)] w2 fun r w' => r = .returned (.string (bs (tl L m))) ∧ Below w2.heap.size w2 w') := Lib.hid (fun w2 hb => by
      exact HTO.out _ w2 (by have := HV.out.below (below_and HB1.out hb); rw [HN.out] at this ⊢; exact this) (HT.out.below (below_and HB1.out hb)))
    obtain ⟨S, hS⟩ : ∃ S, S = bs (tl L m) := ⟨_, rfl⟩
    have HSS : Hid (bs (toldA L) = S) := Lib.hid (by rw [HTA.out, hS])
    rw [← hS] at HTS
    have HCK := Lib.hid hck
    clear hf h1 h2 h3 hm hS HTO hck
    go_enter Tryz.func11, Tryz.ntmps11
    go_upto_region 1 with fail
    rw [← hw1, ← hR]
    rw [← hR] at b0
    clear hw1 hR
    go_upto_if 9 with (go_at_call 7; refine HK.out.mono ?_; rintro r w2 ⟨rfl, hb⟩; have HB2 := Lib.hid hb; have b2 := (HX1.out.kept hb).cell (j := 0) rfl; rw [← HR.out] at b2; clear hb b0)
    go_wp2_with (go_at_call 21; refine (HTS.out _ HB2.out).mono ?_; rintro r w3 ⟨rfl, hb⟩; have HB3 := Lib.hid (below_and HB2.out hb); clear hb)
    go_ret2
    refine ⟨?_, below_and HB1.out HB3.out⟩
    rw [if_pos HCK.out, HSS.out]
    rfl
  · have HCK := Lib.hid hck
    obtain ⟨q, hq⟩ : ∃ q, q = checkP L := ⟨_, rfl⟩
    have HQ := Lib.hid hq
    rw [← hq] at hck HK
    have t1 : (q != 0) = true := by simpa using hck
    clear hq hck
    go_enter Tryz.func11, Tryz.ntmps11
    go_upto_region 1 with fail
    rw [← hw1, ← hR]
    rw [← hR] at b0
    clear hw1 hR
    go_wp2_with (go_at_call 7; refine HK.out.mono ?_; rintro r w2 ⟨rfl, hb⟩; have HB2 := Lib.hid hb; clear hb b0)
    go_ret2
    refine ⟨?_, below_and HB1.out HB2.out⟩
    rw [if_neg HCK.out, ← HQ.out]
    rfl
end Go.Proofs.YtdnoceancoclmaaGreatDoor.Ru

namespace Go.Proofs.YtdnoceancoclmaaGreatDoor.Ru
open Go.RowKit Go.Proofs.YtdnoceancoclmaaGreatDoor

set_option maxRecDepth 100000 in
set_option maxHeartbeats 1000000 in
theorem same_rule (v u : Value) (L M : List Nd) (w : World) (hv : Row w v 6 L.length (rwC ndC L)) (hu : Row w u 6 M.length (rwC ndC M)) :
    Calls Tryz.prog 18 #[.agg #[v], .agg #[u]] w fun r w' => r = .returned (.bool (decide (L = M))) ∧ Below w.heap.size w w' := by
  obtain ⟨p, c, rfl, hc, hm, -⟩ := id hv
  obtain ⟨p2, c2, rfl, hc2, hm2, -⟩ := id hu
  have HV := Lib.hid hv
  have HU := Lib.hid hu
  have hml : maxLen ≤ 9223372036854775807 := by decide
  have hn63 : (L.length : Int) ≤ 9223372036854775807 := by omega
  have hm63 : (M.length : Int) ≤ 9223372036854775807 := by omega
  clear hv hu hc hm hc2 hm2 hml
  by_cases hl : L.length = M.length
  · have HL := Lib.hid hl
    obtain ⟨n, hn⟩ : ∃ n, n = L.length := ⟨_, rfl⟩
    have HN := Lib.hid hn
    rw [← hl]
    rw [← hn] at hn63 ⊢
    clear hl hn hm63
    obtain ⟨w0, hw0⟩ : ∃ w0, w0 = (w.alloc (.cells #[.slice p n c] 24)).alloc (.cells #[.slice p2 n c2] 24) := ⟨_, rfl⟩
    go_enter Tryz.func18, Tryz.ntmps18
    go_upto_region 1 with fail
    rw [← hw0]
    have HB0 : Hid (Below w.heap.size w w0) := Lib.hid (by rw [hw0]; exact below_and (below_alloc _ _) (below_alloc _ _))
    have b0 : w0.cell? ⟨w.heap.size, 0, none⟩ = some (.slice p n c) := by
      rw [hw0]; exact (Blk.alloc (Blk.made w [_] _) _).cell (j := 0) rfl
    have b1 : w0.cell? ⟨w.heap.size + 1, 0, none⟩ = some (.slice p2 n c2) := by
      rw [hw0]; have := (Blk.made (w.alloc (.cells #[.slice p n c] 24)) [.slice p2 n c2] 24).cell (j := 0) rfl; rw [show (w.alloc (.cells #[.slice p n c] 24)).heap.size = w.heap.size + 1 from by simp] at this; exact this
    clear hw0
    obtain ⟨R, hR⟩ : ∃ R, R = w.heap.size := ⟨_, rfl⟩
    rw [← hR] at b0 b1 ⊢
    have HBB0 : Hid (w0.cell? ⟨R, 0, none⟩ = some (.slice p n c) ∧ w0.cell? ⟨R + 1, 0, none⟩ = some (.slice p2 n c2)) := Lib.hid ⟨b0, b1⟩
    clear hR
    go_wp2
    go_loopw [5] (fun i wr => ∃ k : Nat, k ≤ n ∧ i = .int .i64 (k : Int) ∧ Hid (∀ i (h1 : i < L.length) (h2 : i < M.length), i < k → L[i] = M[i]) ∧ Hid (Below w0.heap.size w0 wr)) (fun i _ => n - (intOf i).toNat)
    case atStart => exact ⟨0, Nat.zero_le _, rfl, Lib.hid (fun _ _ _ h => by omega), Lib.hid (Below.refl _ _)⟩
    case round =>
      obtain ⟨k, hk, rfl, HE, HB⟩ := hrel
      by_cases hlt : k < n
      · have HKL : Hid (k < L.length) := Lib.hid (by have := HN.out; omega)
        have HKM : Hid (k < M.length) := Lib.hid (by have := HN.out; have := HL.out; omega)
        have HLC : Hid (∃ b o, p = some ⟨b, o, none⟩ ∧ ∀ j u, (ndC (L[k]'HKL.out))[j]? = some u → wr.cell? ⟨b, o + k * 6 + j, none⟩ = some u) := Lib.hid (by
          have hr := HV.out.below (below_and HB0.out HB.out)
          exact node_at hr HKL.out)
        have HMC : Hid (∃ b o, p2 = some ⟨b, o, none⟩ ∧ ∀ j u, (ndC (M[k]'HKM.out))[j]? = some u → wr.cell? ⟨b, o + k * 6 + j, none⟩ = some u) := Lib.hid (by
          have hr := HU.out.below (below_and HB0.out HB.out)
          exact node_at hr HKM.out)
        obtain ⟨x, hx⟩ : ∃ x, x = L[k]'HKL.out := ⟨_, rfl⟩
        obtain ⟨y, hy⟩ : ∃ y, y = M[k]'HKM.out := ⟨_, rfl⟩
        rw [← hx] at HLC
        rw [← hy] at HMC
        have HX := Lib.hid hx
        have HY := Lib.hid hy
        clear hx hy
        obtain ⟨b, o, rfl, hcell⟩ := HLC.out
        obtain ⟨b', o', rfl, hcell'⟩ := HMC.out
        have q0 := hcell 0 _ rfl
        rw [Nat.add_zero] at q0
        have q1 := hcell 1 _ rfl
        have q2 := hcell 2 _ rfl
        have q3 := hcell 3 _ rfl
        have q4 := hcell 4 _ rfl
        have q5 := hcell 5 _ rfl
        have r0 := hcell' 0 _ rfl
        rw [Nat.add_zero] at r0
        have r1 := hcell' 1 _ rfl
        have r2 := hcell' 2 _ rfl
        have r3 := hcell' 3 _ rfl
        have r4 := hcell' 4 _ rfl
        have r5 := hcell' 5 _ rfl
        have b0 := cell_kept HBB0.out.1 HB.out
        have b1 := cell_kept HBB0.out.2 HB.out
        clear hcell hcell' HLC HMC
        by_cases he : x = y
        · have hne : ∀ w, (binOp .neq 52 (.agg #[.int .i64 x.k, .string (bs x.nm), .string (bs x.vl), .int .i64 x.x, .int .i64 x.a, .int .i64 x.b]) (.agg #[.int .i64 y.k, .string (bs y.nm), .string (bs y.vl), .int .i64 y.x, .int .i64 y.a, .int .i64 y.b])).run Tryz.prog w = .ok (.bool false) w := fun w => by have := nd_neq x y w; rw [decide_eq_true he] at this; exact this
          have HE2 : Hid (∀ i (h1 : i < L.length) (h2 : i < M.length), i < k + 1 → L[i] = M[i]) := Lib.hid (fun i h1 h2 hi => by
            by_cases e : i = k
            · subst e
              have e1 := HX.out
              have e2 := HY.out
              rw [← e1, ← e2, he]
            · exact HE.out i h1 h2 (by omega))
          clear he
          go_wp2
          go_quiet (fail)
          have HB2 : Hid (Below w0.heap.size w0 (wr.drewN nq)) := Lib.hid (Below.drewN' HB.out nq)
          go_wp2
          go_roundw
          case rel => exact ⟨k + 1, by omega, by go_num, HE2, HB2⟩
          case measure => simp [intOf]; omega
        · have hne : ∀ w, (binOp .neq 52 (.agg #[.int .i64 x.k, .string (bs x.nm), .string (bs x.vl), .int .i64 x.x, .int .i64 x.a, .int .i64 x.b]) (.agg #[.int .i64 y.k, .string (bs y.nm), .string (bs y.vl), .int .i64 y.x, .int .i64 y.a, .int .i64 y.b])).run Tryz.prog w = .ok (.bool true) w := fun w => by have := nd_neq x y w; rw [decide_eq_false he] at this; exact this
          have HN2 : Hid (decide (L = M) = false) := Lib.hid (list_ne HKL.out HKM.out (by rw [← HX.out, ← HY.out]; exact he))
          clear he
          go_wp2
          go_quiet (fail)
          have HB2 : Hid (Below w.heap.size w (wr.drewN nq)) := Lib.hid (Below.drewN' (below_and HB0.out HB.out) nq)
          go_wp2
          go_ret
          exact ⟨ret_bool HN2.out.symm, HB2.out⟩
      · obtain rfl : k = n := by omega
        have HN2 : Hid (decide (L = M) = true) := Lib.hid (list_all HL.out (fun i h1 h2 => HE.out i h1 h2 (by have := HN.out; omega)))
        have b0 := cell_kept HBB0.out.1 HB.out
        have b1 := cell_kept HBB0.out.2 HB.out
        go_wp2
        go_ret
        exact ⟨ret_bool HN2.out.symm, below_and HB0.out HB.out⟩
  · have HN2 : Hid (decide (L = M) = false) := Lib.hid (by rw [decide_eq_false_iff_not]; intro e; rw [e] at hl; exact hl rfl)
    have t1 : ((L.length : Int) != (M.length : Int)) = true := by simp; omega
    have t2 : (L.length != M.length) = true := by simpa using hl
    have t3 : (L.length == M.length) = false := by simpa using hl
    go_enter Tryz.func18, Tryz.ntmps18
    go_wp2
    go_ret
    exact ⟨ret_bool HN2.out.symm, below_and (below_alloc _ _) (below_alloc _ _)⟩
end Go.Proofs.YtdnoceancoclmaaGreatDoor.Ru
