/- slices.Equal at nodes (written by genequal.py). -/
import Derived.Test.YtjjaaooiajmclaaDoorRuShap
import Derived.Test.YtjjaaooiajmclaaDoorRuParse
namespace Go.Proofs.YtjjaaooiajmclaaDoor.Ru
open Go.RowKit Go.Proofs.YtjjaaooiajmclaaDoor

theorem bs_list {a b : List UInt8} : ((bs a).toList = (bs b).toList) = (a = b) := by
  rw [Lib.toList_data, Lib.toList_data]
  simp [bs]
theorem nd_neq (x y : Nd) (w : World) : (binOp .neq 50 (ndV x) (ndV y)).run Tryd.prog w = .ok (.bool (!(decide (x = y)))) w := by
  go_simp
  simp only [bs_list]
  obtain ⟨k, nm, vl, xx, a, b⟩ := x
  obtain ⟨k', nm', vl', xx', a', b'⟩ := y
  simp only [Nd.mk.injEq]
  by_cases h1 : k = k'
  · rw [if_pos h1]
    by_cases h2 : nm = nm'
    · rw [if_pos h2]
      by_cases h3 : vl = vl'
      · rw [if_pos h3]
        by_cases h4 : xx = xx'
        · rw [if_pos h4]
          by_cases h5 : a = a'
          · rw [if_pos h5]
            by_cases h6 : b = b'
            · rw [if_pos h6, decide_eq_true ⟨h1, h2, h3, h4, h5, h6⟩]; rfl
            · rw [if_neg h6, decide_eq_false (fun h => h6 h.2.2.2.2.2)]; rfl
          · rw [if_neg h5, decide_eq_false (fun h => h5 h.2.2.2.2.1)]; rfl
        · rw [if_neg h4, decide_eq_false (fun h => h4 h.2.2.2.1)]; rfl
      · rw [if_neg h3, decide_eq_false (fun h => h3 h.2.2.1)]; rfl
    · rw [if_neg h2, decide_eq_false (fun h => h2 h.2.1)]; rfl
  · rw [if_neg h1, decide_eq_false (fun h => h1 h.1)]; rfl
theorem list_ne {L M : List Nd} {i : Nat} (hi : i < L.length) (hj : i < M.length) (h : L[i] ≠ M[i]) : decide (L = M) = false := by
  rw [decide_eq_false_iff_not]
  intro e
  subst e
  exact h rfl
theorem list_all {L M : List Nd} (hl : L.length = M.length) (h : ∀ i (h1 : i < L.length) (h2 : i < M.length), L[i] = M[i]) : decide (L = M) = true := by
  rw [decide_eq_true_iff]
  exact List.ext_getElem hl (fun i h1 h2 => h i h1 h2)

set_option maxRecDepth 100000 in
set_option maxHeartbeats 1000000 in
theorem equal_any (v u : Value) (L M : List Nd) (w : World) (hv : Row w v 6 L.length (rwC ndC L)) (hu : Row w u 6 M.length (rwC ndC M)) :
    Calls Tryd.prog 18 #[v, u] w fun r w' => r = .returned (.bool (decide (L = M))) ∧ Below w.heap.size w w' := by
  obtain ⟨p, c, rfl, hc, hm, -⟩ := id hv
  obtain ⟨p2, c2, rfl, hc2, hm2, -⟩ := id hu
  have HV := Lib.hid hv
  have HU := Lib.hid hu
  have hml : maxLen ≤ 9223372036854775807 := by decide
  have hn63 : (L.length : Int) ≤ 9223372036854775807 := by omega
  have hm63 : (M.length : Int) ≤ 9223372036854775807 := by omega
  clear hv hu hc hm hc2 hm2 hml
  by_cases hl : L.length = M.length
  · have HL := Lib.hid hl
    obtain ⟨n, hn⟩ : ∃ n, n = L.length := ⟨_, rfl⟩
    have HN := Lib.hid hn
    rw [← hl]
    rw [← hn] at hn63 ⊢
    clear hl hn hm63
    go_enter Tryd.func18, Tryd.ntmps18
    have HB0 : Hid (Below w.heap.size w w) := Lib.hid (Below.refl _ _)
    go_wp2
    go_loopw [13] (fun i wr => ∃ k : Nat, k ≤ n ∧ i = .int .i64 (k : Int) ∧ Hid (∀ i (h1 : i < L.length) (h2 : i < M.length), i < k → L[i] = M[i]) ∧ Hid (Below w.heap.size w wr)) (fun i _ => n - (intOf i).toNat)
    case atStart => exact ⟨0, Nat.zero_le _, rfl, Lib.hid (fun _ _ _ h => by omega), Lib.hid (Below.refl _ _)⟩
    case round =>
      obtain ⟨k, hk, rfl, HE, HB⟩ := hrel
      by_cases hlt : k < n
      · have HKL : Hid (k < L.length) := Lib.hid (by have := HN.out; omega)
        have HKM : Hid (k < M.length) := Lib.hid (by have := HN.out; have := HL.out; omega)
        have HLC : Hid (∃ b o, p = some ⟨b, o, none⟩ ∧ ∀ j u, (ndC (L[k]'HKL.out))[j]? = some u → wr.cell? ⟨b, o + k * 6 + j, none⟩ = some u) := Lib.hid (by
          have hr := HV.out.below (below_and HB0.out HB.out)
          exact node_at hr HKL.out)
        have HMC : Hid (∃ b o, p2 = some ⟨b, o, none⟩ ∧ ∀ j u, (ndC (M[k]'HKM.out))[j]? = some u → wr.cell? ⟨b, o + k * 6 + j, none⟩ = some u) := Lib.hid (by
          have hr := HU.out.below (below_and HB0.out HB.out)
          exact node_at hr HKM.out)
        obtain ⟨x, hx⟩ : ∃ x, x = L[k]'HKL.out := ⟨_, rfl⟩
        obtain ⟨y, hy⟩ : ∃ y, y = M[k]'HKM.out := ⟨_, rfl⟩
        rw [← hx] at HLC
        rw [← hy] at HMC
        have HX := Lib.hid hx
        have HY := Lib.hid hy
        clear hx hy
        obtain ⟨b, o, rfl, hcell⟩ := HLC.out
        obtain ⟨b', o', rfl, hcell'⟩ := HMC.out
        have q0 := hcell 0 _ rfl
        rw [Nat.add_zero] at q0
        have q1 := hcell 1 _ rfl
        have q2 := hcell 2 _ rfl
        have q3 := hcell 3 _ rfl
        have q4 := hcell 4 _ rfl
        have q5 := hcell 5 _ rfl
        have r0 := hcell' 0 _ rfl
        rw [Nat.add_zero] at r0
        have r1 := hcell' 1 _ rfl
        have r2 := hcell' 2 _ rfl
        have r3 := hcell' 3 _ rfl
        have r4 := hcell' 4 _ rfl
        have r5 := hcell' 5 _ rfl
        clear hcell hcell' HLC HMC
        by_cases he : x = y
        · have hne : ∀ w, (binOp .neq 50 (.agg #[.int .i64 x.k, .string (bs x.nm), .string (bs x.vl), .int .i64 x.x, .int .i64 x.a, .int .i64 x.b]) (.agg #[.int .i64 y.k, .string (bs y.nm), .string (bs y.vl), .int .i64 y.x, .int .i64 y.a, .int .i64 y.b])).run Tryd.prog w = .ok (.bool false) w := fun w => by have := nd_neq x y w; rw [decide_eq_true he] at this; exact this
          have HE2 : Hid (∀ i (h1 : i < L.length) (h2 : i < M.length), i < k + 1 → L[i] = M[i]) := Lib.hid (fun i h1 h2 hi => by
            by_cases e : i = k
            · subst e
              have e1 := HX.out
              have e2 := HY.out
              rw [← e1, ← e2, he]
            · exact HE.out i h1 h2 (by omega))
          clear he
          go_wp2
          go_quiet (fail)
          have HB2 : Hid (Below w.heap.size w (wr.drewN nq)) := Lib.hid (Below.drewN' HB.out nq)
          go_wp2
          go_roundw
          case rel => exact ⟨k + 1, by omega, by go_num, HE2, HB2⟩
          case measure => simp [intOf]; omega
        · have hne : ∀ w, (binOp .neq 50 (.agg #[.int .i64 x.k, .string (bs x.nm), .string (bs x.vl), .int .i64 x.x, .int .i64 x.a, .int .i64 x.b]) (.agg #[.int .i64 y.k, .string (bs y.nm), .string (bs y.vl), .int .i64 y.x, .int .i64 y.a, .int .i64 y.b])).run Tryd.prog w = .ok (.bool true) w := fun w => by have := nd_neq x y w; rw [decide_eq_false he] at this; exact this
          have HN2 : Hid (decide (L = M) = false) := Lib.hid (list_ne HKL.out HKM.out (by rw [← HX.out, ← HY.out]; exact he))
          clear he
          go_wp2
          go_quiet (fail)
          have HB2 : Hid (Below w.heap.size w (wr.drewN nq)) := Lib.hid (Below.drewN' (below_and HB0.out HB.out) nq)
          go_wp2
          go_ret
          exact ⟨ret_bool HN2.out.symm, HB2.out⟩
      · obtain rfl : k = n := by omega
        have HN2 : Hid (decide (L = M) = true) := Lib.hid (list_all HL.out (fun i h1 h2 => HE.out i h1 h2 (by have := HN.out; omega)))
        go_wp2
        go_ret
        exact ⟨ret_bool HN2.out.symm, below_and HB0.out HB.out⟩
  · have HN2 : Hid (decide (L = M) = false) := Lib.hid (by rw [decide_eq_false_iff_not]; intro e; rw [e] at hl; exact hl rfl)
    have t1 : ((L.length : Int) != (M.length : Int)) = true := by simp; omega
    have t2 : (L.length != M.length) = true := by simpa using hl
    have t3 : (L.length == M.length) = false := by simpa using hl
    go_enter Tryd.func18, Tryd.ntmps18
    go_wp2
    go_ret
    exact ⟨ret_bool HN2.out.symm, Below.refl _ _⟩
end Go.Proofs.YtjjaaooiajmclaaDoor.Ru
