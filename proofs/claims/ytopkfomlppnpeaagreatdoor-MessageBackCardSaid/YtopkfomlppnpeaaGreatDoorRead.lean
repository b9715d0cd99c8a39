/- Read. -/
import Derived.Test.YtopkfomlppnpeaaGreatDoorLib
import Derived.Test.YtopkfomlppnpeaaGreatDoorMPl
namespace Go.Proofs.YtopkfomlppnpeaaGreatDoor
open Go.RowKit

theorem read3 {a b : Nat × Nat × Nat} (h : a = b) : Ending.returned (.tuple #[.int .u64 (a.1 : Int), .int .i64 (a.2.1 : Int), .int .i64 (a.2.2 : Int)]) = Ending.returned (.tuple #[.int .u64 (b.1 : Int), .int .i64 (b.2.1 : Int), .int .i64 (b.2.2 : Int)]) := by rw [h]

set_option maxRecDepth 100000 in
set_option maxHeartbeats 1000000 in
theorem read_any (v : Value) (l : List UInt8) (w : World) (h1 : Rd w v l) :
    Calls Tryz.prog 142 #[v] w fun e w' => e = .returned (.tuple #[.int .u64 ((Wire.read l).1 : Int), .int .i64 ((Wire.read l).2.1 : Int), .int .i64 ((Wire.read l).2.2 : Int)]) ∧ ∃ n, w' = w.drewN n := by
  obtain ⟨p1, c1, rfl, hc1, hm1, ha1⟩ := h1.parts
  unfold maxLen at hm1
  go_enter Tryz.func142, Tryz.ntmps142
  go_wp2
  go_loopw [2, 3] (fun x i w' => ∃ k q z : Nat, k ≤ l.length ∧ k ≤ 9 ∧ i = .int .i64 k ∧ x = .int .u64 z ∧ Hid (z < 2 ^ (7 * k)) ∧ w' = w.drewN q ∧ Hid (Wire.read l = Wire.dec (l.drop k) k z)) (fun _ i _ => l.length - (intOf i).toNat)
  case atStart => exact ⟨0, 0, 0, Nat.zero_le _, by omega, rfl, rfl, (by decide : 0 < 2 ^ (7 * 0)), rfl, rfl⟩
  case round =>
    obtain ⟨k, q, z, hk, hk9, rfl, rfl, hz, rfl, he⟩ := hrel
    by_cases hlt : k < l.length
    · obtain ⟨b1, o1, rfl, a1⟩ := ha1.resolve_left (by rintro rfl; simp at hlt)
      have e1 := a1 k hlt
      clear a1 ha1
      generalize hx : l[k] = x at e1
      have HX := Lib.hid hx
      have hm := x.toNat_lt
      generalize hxm : x.toNat = m at e1 hm
      have HM := Lib.hid hxm
      clear hx hxm
      by_cases c9 : k = 9
      · have t1 : ((k : Int) + 1 == 10) = true := by rw [beq_iff_eq]; omega
        by_cases cx : m = 1
        · have t2 : ((m : Int) != 1) = false := by rw [bne_eq_false_iff_eq]; omega
          have t3 : ¬ (128 ≤ (m : Int)) := by omega
          have t4 : ((m : Int) == 0) = false := by rw [beq_eq_false_iff_ne]; omega
          have H1 := Lib.hid c9
          have H2 := Lib.hid cx
          clear c9 cx
          go_wp2
          go_ret3
          refine ⟨?_, q, rfl⟩
          rw [Wire.or_step hm hz.out hk9 (fun _ => H2.out)]
          have h3 := he.out.trans (Wire.dec_end hlt HX.out (by rw [HM.out, H2.out]; omega) (by rw [HM.out, H2.out]; omega) (by rw [HM.out, H2.out]; omega))
          rw [HM.out] at h3
          exact (read3 h3).symm
        · have t2 : ((m : Int) != 1) = true := by rw [bne_iff_ne]; omega
          have H1 := Lib.hid c9
          have H2 := Lib.hid cx
          clear c9 cx
          go_wp2
          go_ret3
          exact ⟨(read3 (he.out.trans (Wire.dec_bad hlt HX.out (.inl ⟨H1.out, by rw [HM.out]; exact H2.out⟩)))).symm, q, rfl⟩
      · have t1 : ((k : Int) + 1 == 10) = false := by rw [beq_eq_false_iff_ne]; omega
        have H1 := Lib.hid c9
        by_cases c1 : 128 ≤ m
        · have t3 : (128 ≤ (m : Int)) := by omega
          have H3 := Lib.hid c1
          have hk8 : k ≤ 8 := by omega
          clear c9 c1
          go_wp2
          go_roundw
          case rel =>
            refine ⟨k + 1, q, z + m % 128 * 2 ^ (7 * k), by omega, by omega, by go_num, ?_, Wire.step_lt hz.out, rfl, ?_⟩
            · rw [Wire.or_step hm hz.out hk9 (fun h => absurd h H1.out)]
            · have h3 := he.out.trans (Wire.dec_more hlt HX.out H1.out (by rw [HM.out]; exact H3.out))
              rw [HM.out] at h3
              exact h3
          case measure => simp [intOf]; omega
        · have t3 : ¬ (128 ≤ (m : Int)) := by omega
          have H3 := Lib.hid c1
          clear c9 c1
          by_cases c0 : m = 0
          · have t4 : ((m : Int) == 0) = true := by rw [beq_iff_eq]; omega
            by_cases ck : 0 < k
            · have t5 : decide (1 < (k : Int) + 1) = true := by simp; omega
              have H4 := Lib.hid c0
              clear c0
              go_wp2
              go_ret3
              exact ⟨(read3 (he.out.trans (Wire.dec_bad hlt HX.out (.inr ⟨by rw [HM.out]; exact H4.out, ck⟩)))).symm, q, rfl⟩
            · have t5 : decide (1 < (k : Int) + 1) = false := by simp; omega
              have H4 := Lib.hid c0
              have H5 := Lib.hid ck
              clear c0 ck
              go_wp2
              go_ret3
              refine ⟨?_, q, rfl⟩
              rw [Wire.or_step hm hz.out hk9 (fun h => absurd h H1.out)]
              have h3 := he.out.trans (Wire.dec_end hlt HX.out (fun h => H1.out h.1) (by rw [HM.out]; have := H3.out; omega) (fun h => H5.out h.2))
              rw [HM.out] at h3
              exact (read3 h3).symm
          · have t4 : ((m : Int) == 0) = false := by rw [beq_eq_false_iff_ne]; omega
            have H4 := Lib.hid c0
            clear c0
            go_wp2
            go_ret3
            refine ⟨?_, q, rfl⟩
            rw [Wire.or_step hm hz.out hk9 (fun h => absurd h H1.out)]
            have h3 := he.out.trans (Wire.dec_end hlt HX.out (fun h => H1.out h.1) (by rw [HM.out]; have := H3.out; omega) (fun h => H4.out (HM.out ▸ h.1)))
            rw [HM.out] at h3
            exact (read3 h3).symm
    · have he' : Wire.read l = (0, 0, 4) := by
        rw [he.out, List.drop_eq_nil_of_le (by omega)]; rfl
      have HE := Lib.hid he'
      clear he'
      go_wp2
      go_ret3
      exact ⟨(read3 HE.out).symm, q, rfl⟩
end Go.Proofs.YtopkfomlppnpeaaGreatDoor
