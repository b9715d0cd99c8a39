/- Same. -/
import Derived.Test.YtndjgbknhfficaaLib
namespace Go.Proofs.Ytndjgbknhfficaa
open Go.RowKit

theorem take_ext {l1 l2 : List UInt8} (h : l1.length = l2.length) (hk : ∀ i (h1 : i < l1.length) (h2 : i < l2.length), l1[i] = l2[i]) : l1 = l2 :=
  List.ext_getElem h hk

set_option maxHeartbeats 400000 in
theorem same_any (v1 v2 : Value) (l1 l2 : List UInt8) (w : World) (h1 : Rd w v1 l1) (h2 : Rd w v2 l2) :
    Calls Try.prog 38 #[v1, v2] w fun e w' => e = .returned (.bool (l1 == l2)) ∧ ∃ n, w' = w.drewN n := by
  obtain ⟨p1, c1, rfl, hc1, hm1, ha1⟩ := h1.parts
  obtain ⟨p2, c2, rfl, hc2, hm2, ha2⟩ := h2.parts
  unfold maxLen at hm1 hm2
  by_cases hl : l1.length = l2.length
  case neg =>
    have hf : (l1 == l2) = false := by
      rw [beq_eq_false_iff_ne]; intro e; exact hl (by rw [e])
    have hl' : ((l1.length : Int) != (l2.length : Int)) = true := by rw [bne_iff_ne]; omega
    go_enter Try.func38, Try.ntmps38
    go_wp2
    go_ret
    exact ⟨ret_bool hf.symm, 0, rfl⟩
  case pos =>
    have hl' : ((l1.length : Int) != (l2.length : Int)) = false := by rw [bne_eq_false_iff_eq]; omega
    have HL := Lib.hid hl
    clear hl
    go_enter Try.func38, Try.ntmps38
    go_wp2
    go_loopw [5] (fun i w' => ∃ k q : Nat, k ≤ l1.length ∧ i = .int .i64 k ∧ w' = w.drewN q ∧ Hid (∀ j (h1 : j < l1.length) (h2 : j < l2.length), j < k → l1[j] = l2[j])) (fun i _ => l1.length - (intOf i).toNat)
    case atStart => exact ⟨0, 0, Nat.zero_le _, rfl, rfl, fun j _ _ h => by omega⟩
    case round =>
      obtain ⟨k, q, hk, rfl, rfl, he⟩ := hrel
      by_cases hlt : k < l1.length
      · have hlt2 : k < l2.length := by have := HL.out; omega
        obtain ⟨b1, o1, rfl, a1⟩ := ha1.resolve_left (by rintro rfl; simp at hlt)
        obtain ⟨b2, o2, rfl, a2⟩ := ha2.resolve_left (by rintro rfl; simp at hlt2)
        have e1 := a1 k hlt
        have e2 := a2 k hlt2
        clear a1 a2 ha1 ha2
        generalize hx : l1[k] = x at e1
        generalize hy : l2[k] = y at e2
        have HX := Lib.hid hx
        have HY := Lib.hid hy
        clear hx hy
        go_wp2
        go_quiet (fail)
        by_cases hxy : x = y
        · have hd : ((x.toNat : Int) != (y.toNat : Int)) = false := by rw [hxy]; simp
          have HE := Lib.hid hxy
          clear hxy
          go_wp2
          go_roundw
          case rel =>
            refine ⟨k + 1, q + nq, by omega, by go_num, rfl, fun j g1 g2 hj => ?_⟩
            by_cases hjk : j < k
            · exact he.out j g1 g2 hjk
            · obtain rfl : j = k := by omega
              rw [HX.out, HY.out, HE.out]
          case measure => simp [intOf]; omega
        · have hd : ((x.toNat : Int) != (y.toNat : Int)) = true := by
            rw [bne_iff_ne]; intro e; exact hxy (UInt8.toNat_inj.1 (by omega))
          have hf : (l1 == l2) = false := by
            rw [beq_eq_false_iff_ne]
            intro e
            apply hxy
            rw [← HX.out, ← HY.out]
            subst e
            rfl
          have HF := Lib.hid hf
          clear hxy hf
          go_wp2
          go_ret
          exact ⟨ret_bool HF.out.symm, q + nq, by rw [World.drewN_drewN]⟩
      · have hf : (l1 == l2) = true := by
          rw [beq_iff_eq]
          exact List.ext_getElem HL.out fun i g1 g2 => he.out i g1 g2 (by omega)
        have HF := Lib.hid hf
        clear hf
        go_wp2
        go_ret
        exact ⟨ret_bool HF.out.symm, q, rfl⟩
end Go.Proofs.Ytndjgbknhfficaa
