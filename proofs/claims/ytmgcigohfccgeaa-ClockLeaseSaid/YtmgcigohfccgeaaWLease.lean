/- the walk of ClockLease -/
import Derived.Test.YtmgcigohfccgeaaCLend
import Derived.Test.YtmgcigohfccgeaaCPart
namespace Go.Proofs.Ytmgcigohfccgeaa
open Go.RowKit

set_option maxRecDepth 100000 in
set_option maxHeartbeats 600000 in
theorem clockLease_big (v : Value) (zss : List (List Int)) (a b d lease : Int) (w : World) (h : Rows2 w v zss) (hs : Clk.small zss = false) :
    Calls Try.prog 5 #[v, .int .i64 a, .int .i64 b, .int .i64 d, .int .i64 lease] w fun e w' => e = .returned (.bool true) ∧ Below w.heap.size w w' := by
  have HZ := Lib.hid h
  have HS := Lib.hid hs
  clear h hs
  go_enter Try.func5, Try.ntmps5
  go_wp2_with (first
    | (go_at_call 21; refine (clives _).mono ?_; rintro e w1 ⟨rfl, hb⟩; have HB := Lib.hid hb; have HZ1 := Lib.hid (HZ.out.below hb); clear hb)
    | (go_at_call 22; refine (small_any _ zss _ HZ1.out).mono ?_; rw [HS.out]; rintro e w2 ⟨rfl, rfl⟩))
  go_ret
  exact ⟨rfl, HB.out⟩

set_option maxRecDepth 100000 in
set_option maxHeartbeats 2000000 in
theorem clockLease_in (v : Value) (zss : List (List Int)) (a b d lease : Int) (w : World) (h : Rows2 w v zss) (hs : Clk.small zss = true) :
    Calls Try.prog 5 #[v, .int .i64 a, .int .i64 b, .int .i64 d, .int .i64 lease] w fun e w' => e = .returned (.bool true) ∧ Below w.heap.size w w' := by
  have HZ := Lib.hid h
  have HS := Lib.hid hs
  have hl : zss.length ≤ 200 := by unfold Clk.small at hs; simp at hs; exact hs.2
  rcases hK0 : Clk.keeps zss a d with ⟨a0, e0⟩
  rcases hK1 : Clk.keeps zss b d with ⟨a1, e1⟩
  rcases hW : Clk.waits lease d with ⟨W, e2⟩
  have HK0 := Lib.hid hK0
  have HK1 := Lib.hid hK1
  have HW := Lib.hid hW
  clear h hs hK0 hK1 hW
  obtain ⟨p, c, rfl, hc, hm, -⟩ := HZ.out.parts
  have hml : maxLen ≤ 9223372036854775807 := by decide
  by_cases hok : e0 = 0 ∧ e1 = 0 ∧ e2 = 0 ∧ a0 = true ∧ a1 = true
  · obtain ⟨rfl, rfl, rfl, rfl, rfl⟩ := hok
    obtain ⟨d1, d2, n1, n2, hbad, k0⟩ := Clk.keeps_good (zss := zss) (node := a) (d := d) (by rw [HK0.out])
    obtain ⟨-, -, m1, m2, -, k1⟩ := Clk.keeps_good (zss := zss) (node := b) (d := d) (by rw [HK1.out])
    have hwg := Clk.waits_good (n := lease) (d := d) (by rw [HW.out])
    rw [HW.out] at hwg
    obtain ⟨hw1, l1, l2⟩ := hwg
    obtain ⟨na, rfl⟩ : ∃ na : Nat, a = (na : Int) := ⟨a.toNat, by omega⟩
    obtain ⟨nb, rfl⟩ : ∃ nb : Nat, b = (nb : Int) := ⟨b.toNat, by omega⟩
    rw [Int.toNat_natCast] at k0 k1
    have HBAD := Lib.hid hbad
    have KA := Lib.hid k0
    have KB := Lib.hid k1
    have HW1 : Hid (W = Clk.wait lease d) := Lib.hid hw1
    clear hbad k0 k1 hw1
    go_enter Try.func5, Try.ntmps5
    go_wp2_with (first
      | (go_at_call 21; refine (clives _).mono ?_; rintro e w1 ⟨rfl, hb⟩; have HB := Lib.hid hb; have HZ1 := Lib.hid (HZ.out.below hb); clear hb)
      | (go_at_call 22; refine (small_any _ zss _ HZ1.out).mono ?_; rw [HS.out]; rintro e w2 ⟨rfl, rfl⟩)
      | (go_at_call 23; refine (lend_any _ zss _ HZ2.out HS.out).mono ?_; rintro e w3 ⟨v3, rfl, hr, hb⟩; have HR3 := Lib.hid hr; have HB3 := Lib.hid (below_and HB2.out hb); have HZ3 := Lib.hid (HZ2.out.below hb); clear hr hb)
      | (go_at_call 23; refine (lend_any _ zss _ HZ1.out HS.out).mono ?_; rintro e w2 ⟨v2, rfl, hr, hb⟩; have HR2 := Lib.hid hr; have HB2 := Lib.hid (below_and HB.out hb); have HZ2 := Lib.hid (HZ1.out.below hb); clear hr hb)
      | (go_at_call 14; refine (keeps_any _ zss _ d _ HR3.out).mono ?_; rw [HK1.out]; rintro e w4 ⟨rfl, rfl⟩)
      | (go_at_call 14; refine (keeps_any _ zss _ d _ HR2.out).mono ?_; rw [HK0.out]; rintro e w4 ⟨rfl, rfl⟩)
      | (go_at_call 25; refine (wait_any _ _ _).mono ?_; rw [HW.out]; rintro e w5 ⟨rfl, rfl⟩))
    go_loop [17] (fun i => ∃ i0 : Nat, i0 ≤ zss.length ∧ i = .int .i64 (i0 : Int)) (fun i => zss.length - (intOf i).toNat)
    case atStart => exact ⟨0, Nat.zero_le _, rfl⟩
    case round =>
      obtain ⟨i0, hi0, rfl⟩ := hrel
      by_cases hilt : i0 < zss.length
      · go_wp2
        go_loop [18, 19, 20] (fun x y kv => ∃ k : Nat, i0 ≤ k ∧ k ≤ zss.length ∧ x = .int .i64 (Clk.part (Clk.own zss na) i0 k) ∧ y = .int .i64 (Clk.part (Clk.own zss nb) i0 k) ∧ kv = .int .i64 (k : Int)) (fun _ _ kv => zss.length - (intOf kv).toNat)
        case atStart => exact ⟨i0, Nat.le_refl _, hi0, by rw [Clk.part_self _ _ _ (Nat.le_refl _)], by rw [Clk.part_self _ _ _ (Nat.le_refl _)], rfl⟩
        case round =>
          obtain ⟨k, hik, hk, rfl, rfl, rfl⟩ := hrel
          by_cases hlt : k < zss.length
          · obtain ⟨po, oo, p', c', rfl, e1, hrk⟩ := HZ3.out.rowAt hlt
            have HK := Lib.hid hrk
            have hll : (zss[k]).length ≤ 9223372036854775807 := by
              obtain ⟨p2, c2, e, h1, h2, -⟩ := hrk
              simp only [Value.slice.injEq] at e
              omega
            clear hrk
            obtain ⟨O0, hO0⟩ : ∃ z, z = Clk.part (Clk.own zss na) i0 k := ⟨_, rfl⟩
            obtain ⟨O1, hO1⟩ : ∃ z, z = Clk.part (Clk.own zss na) i0 (k + 1) := ⟨_, rfl⟩
            obtain ⟨P0, hP0⟩ : ∃ z, z = Clk.part (Clk.own zss nb) i0 k := ⟨_, rfl⟩
            obtain ⟨P1, hP1⟩ : ∃ z, z = Clk.part (Clk.own zss nb) i0 (k + 1) := ⟨_, rfl⟩
            have bO1 := Clk.part_in HBAD.out hl na i0 (k + 1)
            have bP1 := Clk.part_in HBAD.out hl nb i0 (k + 1)
            have sO := Clk.part_step (zss := zss) na hik hlt
            have sP := Clk.part_step (zss := zss) nb hik hlt
            have hov : W ≤ O1 → lease ≤ P1 := fun h6 => by
              rw [hP1]
              refine Clk.sure_over d1 d2 KA.out KB.out (by simp [Clk.own]) (fun x hx => (Clk.own_all HBAD.out nb x hx).1) (Nat.le_refl i0) hik (by simpa [Clk.own] using hlt) ?_
              rw [← hO1, ← HW1.out]
              exact h6
            rw [← hO0, ← hO1] at sO
            rw [← hP0, ← hP1] at sP
            rw [← hO1] at bO1
            rw [← hP1] at bP1
            rw [← hO0, ← hP0]
            have HO1 := Lib.hid hO1
            have HP1 := Lib.hid hP1
            clear hO0 hO1 hP0 hP1
            by_cases hna : na < zss[k].length
            · obtain ⟨b2, o2, rfl, e2⟩ := HK.out.num hna
              have gx : (zss[k]).getD na 0 = zss[k][na] := by simp [List.getD, hna]
              rw [gx] at sO
              have w1 : wrap64 (O0 + zss[k][na]) = O1 := by rw [← sO]; unfold wrap64; omega
              by_cases hnb : nb < zss[k].length
              · obtain ⟨b3, o3, e3, e4⟩ := HK.out.num hnb
                simp only [Option.some.injEq, Addr.mk.injEq] at e3
                obtain ⟨rfl, rfl, -⟩ := e3
                have gy : (zss[k]).getD nb 0 = zss[k][nb] := by simp [List.getD, hnb]
                rw [gy] at sP
                have w2 : wrap64 (P0 + zss[k][nb]) = P1 := by rw [← sP]; unfold wrap64; omega
                by_cases h9 : W ≤ O1
                · have h8 := hov h9
                  clear hov HK sO sP gx gy
                  go_wp2
                  go_round
                  case rel => exact ⟨k + 1, by omega, hlt, by first | rw [HO1.out] | rw [← HO1.out, w1], by first | rw [HP1.out] | rw [← HP1.out, w2], by go_num⟩
                  case measure => simp [intOf]; omega
                · clear hov HK sO sP gx gy
                  go_wp2
                  go_round
                  case rel => exact ⟨k + 1, by omega, hlt, by first | rw [HO1.out] | rw [← HO1.out, w1], by first | rw [HP1.out] | rw [← HP1.out, w2], by go_num⟩
                  case measure => simp [intOf]; omega
              · have gy : (zss[k]).getD nb 0 = 0 := by simp [List.getD, Nat.not_lt.1 hnb]
                rw [gy, Int.add_zero] at sP
                subst sP
                by_cases h9 : W ≤ O1
                · have h8 := hov h9
                  clear hov HK sO gx gy
                  go_wp2
                  go_round
                  case rel => exact ⟨k + 1, by omega, hlt, by first | rw [HO1.out] | rw [← HO1.out, w1], by first | rw [HP1.out] | rw [← HP1.out, w2], by go_num⟩
                  case measure => simp [intOf]; omega
                · clear hov HK sO gx gy
                  go_wp2
                  go_round
                  case rel => exact ⟨k + 1, by omega, hlt, by first | rw [HO1.out] | rw [← HO1.out, w1], by first | rw [HP1.out] | rw [← HP1.out, w2], by go_num⟩
                  case measure => simp [intOf]; omega
            · have gx : (zss[k]).getD na 0 = 0 := by simp [List.getD, Nat.not_lt.1 hna]
              rw [gx, Int.add_zero] at sO
              subst sO
              by_cases hnb : nb < zss[k].length
              · obtain ⟨b3, o3, rfl, e4⟩ := HK.out.num hnb
                have gy : (zss[k]).getD nb 0 = zss[k][nb] := by simp [List.getD, hnb]
                rw [gy] at sP
                have w2 : wrap64 (P0 + zss[k][nb]) = P1 := by rw [← sP]; unfold wrap64; omega
                by_cases h9 : W ≤ O1
                · have h8 := hov h9
                  clear hov HK sP gx gy
                  go_wp2
                  go_round
                  case rel => exact ⟨k + 1, by omega, hlt, by first | rw [HO1.out] | rw [← HO1.out, w1], by first | rw [HP1.out] | rw [← HP1.out, w2], by go_num⟩
                  case measure => simp [intOf]; omega
                · clear hov HK sP gx gy
                  go_wp2
                  go_round
                  case rel => exact ⟨k + 1, by omega, hlt, by first | rw [HO1.out] | rw [← HO1.out, w1], by first | rw [HP1.out] | rw [← HP1.out, w2], by go_num⟩
                  case measure => simp [intOf]; omega
              · have gy : (zss[k]).getD nb 0 = 0 := by simp [List.getD, Nat.not_lt.1 hnb]
                rw [gy, Int.add_zero] at sP
                subst sP
                by_cases h9 : W ≤ O1
                · have h8 := hov h9
                  clear hov HK gx gy
                  go_wp2
                  go_round
                  case rel => exact ⟨k + 1, by omega, hlt, by first | rw [HO1.out] | rw [← HO1.out, w1], by first | rw [HP1.out] | rw [← HP1.out, w2], by go_num⟩
                  case measure => simp [intOf]; omega
                · clear hov HK gx gy
                  go_wp2
                  go_round
                  case rel => exact ⟨k + 1, by omega, hlt, by first | rw [HO1.out] | rw [← HO1.out, w1], by first | rw [HP1.out] | rw [← HP1.out, w2], by go_num⟩
                  case measure => simp [intOf]; omega
          · obtain rfl : k = zss.length := by omega
            go_wp2
            go_round
            case rel => exact ⟨i0 + 1, hilt, by go_num⟩
            case measure => simp [intOf]; omega
      · obtain rfl : i0 = zss.length := by omega
        go_wp2
        go_ret
        exact ⟨rfl, HB3.out⟩
  · by_cases he0 : e0 = 0
    · subst he0
      by_cases he1 : e1 = 0
      · subst he1
        by_cases he2 : e2 = 0
        · subst he2
          cases a0
          · clear hok
            go_enter Try.func5, Try.ntmps5
            go_wp2_with (first
              | (go_at_call 21; refine (clives _).mono ?_; rintro e w1 ⟨rfl, hb⟩; have HB := Lib.hid hb; have HZ1 := Lib.hid (HZ.out.below hb); clear hb)
              | (go_at_call 22; refine (small_any _ zss _ HZ1.out).mono ?_; rw [HS.out]; rintro e w2 ⟨rfl, rfl⟩)
              | (go_at_call 23; refine (lend_any _ zss _ HZ2.out HS.out).mono ?_; rintro e w3 ⟨v3, rfl, hr, hb⟩; have HR3 := Lib.hid hr; have HB3 := Lib.hid (below_and HB2.out hb); have HZ3 := Lib.hid (HZ2.out.below hb); clear hr hb)
              | (go_at_call 23; refine (lend_any _ zss _ HZ1.out HS.out).mono ?_; rintro e w2 ⟨v2, rfl, hr, hb⟩; have HR2 := Lib.hid hr; have HB2 := Lib.hid (below_and HB.out hb); have HZ2 := Lib.hid (HZ1.out.below hb); clear hr hb)
              | (go_at_call 14; refine (keeps_any _ zss _ d _ HR3.out).mono ?_; rw [HK1.out]; rintro e w4 ⟨rfl, rfl⟩)
              | (go_at_call 14; refine (keeps_any _ zss _ d _ HR2.out).mono ?_; rw [HK0.out]; rintro e w4 ⟨rfl, rfl⟩)
              | (go_at_call 25; refine (wait_any _ _ _).mono ?_; rw [HW.out]; rintro e w5 ⟨rfl, rfl⟩))
            go_ret
            exact ⟨rfl, HB3.out⟩
          · cases a1
            · clear hok
              go_enter Try.func5, Try.ntmps5
              go_wp2_with (first
                | (go_at_call 21; refine (clives _).mono ?_; rintro e w1 ⟨rfl, hb⟩; have HB := Lib.hid hb; have HZ1 := Lib.hid (HZ.out.below hb); clear hb)
                | (go_at_call 22; refine (small_any _ zss _ HZ1.out).mono ?_; rw [HS.out]; rintro e w2 ⟨rfl, rfl⟩)
                | (go_at_call 23; refine (lend_any _ zss _ HZ2.out HS.out).mono ?_; rintro e w3 ⟨v3, rfl, hr, hb⟩; have HR3 := Lib.hid hr; have HB3 := Lib.hid (below_and HB2.out hb); have HZ3 := Lib.hid (HZ2.out.below hb); clear hr hb)
                | (go_at_call 23; refine (lend_any _ zss _ HZ1.out HS.out).mono ?_; rintro e w2 ⟨v2, rfl, hr, hb⟩; have HR2 := Lib.hid hr; have HB2 := Lib.hid (below_and HB.out hb); have HZ2 := Lib.hid (HZ1.out.below hb); clear hr hb)
                | (go_at_call 14; refine (keeps_any _ zss _ d _ HR3.out).mono ?_; rw [HK1.out]; rintro e w4 ⟨rfl, rfl⟩)
                | (go_at_call 14; refine (keeps_any _ zss _ d _ HR2.out).mono ?_; rw [HK0.out]; rintro e w4 ⟨rfl, rfl⟩)
                | (go_at_call 25; refine (wait_any _ _ _).mono ?_; rw [HW.out]; rintro e w5 ⟨rfl, rfl⟩))
              go_ret
              exact ⟨rfl, HB3.out⟩
            · exact absurd ⟨rfl, rfl, rfl, rfl, rfl⟩ hok
        · have t2 : (e2 == 0) = false := by simpa using he2
          clear hok
          go_enter Try.func5, Try.ntmps5
          go_wp2_with (first
            | (go_at_call 21; refine (clives _).mono ?_; rintro e w1 ⟨rfl, hb⟩; have HB := Lib.hid hb; have HZ1 := Lib.hid (HZ.out.below hb); clear hb)
            | (go_at_call 22; refine (small_any _ zss _ HZ1.out).mono ?_; rw [HS.out]; rintro e w2 ⟨rfl, rfl⟩)
            | (go_at_call 23; refine (lend_any _ zss _ HZ2.out HS.out).mono ?_; rintro e w3 ⟨v3, rfl, hr, hb⟩; have HR3 := Lib.hid hr; have HB3 := Lib.hid (below_and HB2.out hb); have HZ3 := Lib.hid (HZ2.out.below hb); clear hr hb)
            | (go_at_call 23; refine (lend_any _ zss _ HZ1.out HS.out).mono ?_; rintro e w2 ⟨v2, rfl, hr, hb⟩; have HR2 := Lib.hid hr; have HB2 := Lib.hid (below_and HB.out hb); have HZ2 := Lib.hid (HZ1.out.below hb); clear hr hb)
            | (go_at_call 14; refine (keeps_any _ zss _ d _ HR3.out).mono ?_; rw [HK1.out]; rintro e w4 ⟨rfl, rfl⟩)
            | (go_at_call 14; refine (keeps_any _ zss _ d _ HR2.out).mono ?_; rw [HK0.out]; rintro e w4 ⟨rfl, rfl⟩)
            | (go_at_call 25; refine (wait_any _ _ _).mono ?_; rw [HW.out]; rintro e w5 ⟨rfl, rfl⟩))
          go_ret
          exact ⟨rfl, HB3.out⟩
      · have t1 : (e1 == 0) = false := by simpa using he1
        clear hok
        go_enter Try.func5, Try.ntmps5
        go_wp2_with (first
          | (go_at_call 21; refine (clives _).mono ?_; rintro e w1 ⟨rfl, hb⟩; have HB := Lib.hid hb; have HZ1 := Lib.hid (HZ.out.below hb); clear hb)
          | (go_at_call 22; refine (small_any _ zss _ HZ1.out).mono ?_; rw [HS.out]; rintro e w2 ⟨rfl, rfl⟩)
          | (go_at_call 23; refine (lend_any _ zss _ HZ2.out HS.out).mono ?_; rintro e w3 ⟨v3, rfl, hr, hb⟩; have HR3 := Lib.hid hr; have HB3 := Lib.hid (below_and HB2.out hb); have HZ3 := Lib.hid (HZ2.out.below hb); clear hr hb)
          | (go_at_call 23; refine (lend_any _ zss _ HZ1.out HS.out).mono ?_; rintro e w2 ⟨v2, rfl, hr, hb⟩; have HR2 := Lib.hid hr; have HB2 := Lib.hid (below_and HB.out hb); have HZ2 := Lib.hid (HZ1.out.below hb); clear hr hb)
          | (go_at_call 14; refine (keeps_any _ zss _ d _ HR3.out).mono ?_; rw [HK1.out]; rintro e w4 ⟨rfl, rfl⟩)
          | (go_at_call 14; refine (keeps_any _ zss _ d _ HR2.out).mono ?_; rw [HK0.out]; rintro e w4 ⟨rfl, rfl⟩)
          | (go_at_call 25; refine (wait_any _ _ _).mono ?_; rw [HW.out]; rintro e w5 ⟨rfl, rfl⟩))
        go_ret
        exact ⟨rfl, HB3.out⟩
    · have t0 : (e0 == 0) = false := by simpa using he0
      clear hok
      go_enter Try.func5, Try.ntmps5
      go_wp2_with (first
        | (go_at_call 21; refine (clives _).mono ?_; rintro e w1 ⟨rfl, hb⟩; have HB := Lib.hid hb; have HZ1 := Lib.hid (HZ.out.below hb); clear hb)
        | (go_at_call 22; refine (small_any _ zss _ HZ1.out).mono ?_; rw [HS.out]; rintro e w2 ⟨rfl, rfl⟩)
        | (go_at_call 23; refine (lend_any _ zss _ HZ2.out HS.out).mono ?_; rintro e w3 ⟨v3, rfl, hr, hb⟩; have HR3 := Lib.hid hr; have HB3 := Lib.hid (below_and HB2.out hb); have HZ3 := Lib.hid (HZ2.out.below hb); clear hr hb)
        | (go_at_call 23; refine (lend_any _ zss _ HZ1.out HS.out).mono ?_; rintro e w2 ⟨v2, rfl, hr, hb⟩; have HR2 := Lib.hid hr; have HB2 := Lib.hid (below_and HB.out hb); have HZ2 := Lib.hid (HZ1.out.below hb); clear hr hb)
        | (go_at_call 14; refine (keeps_any _ zss _ d _ HR3.out).mono ?_; rw [HK1.out]; rintro e w4 ⟨rfl, rfl⟩)
        | (go_at_call 14; refine (keeps_any _ zss _ d _ HR2.out).mono ?_; rw [HK0.out]; rintro e w4 ⟨rfl, rfl⟩)
        | (go_at_call 25; refine (wait_any _ _ _).mono ?_; rw [HW.out]; rintro e w5 ⟨rfl, rfl⟩))
      go_ret
      exact ⟨rfl, HB3.out⟩

theorem clockLease_walk (v : Value) (zss : List (List Int)) (a b d lease : Int) (w : World) (h : Rows2 w v zss) (_ : ∀ l ∈ zss, ∀ n ∈ l, (Lit.int .i64 n).wf = true) (_ : (Lit.int .i64 a).wf = true) (_ : (Lit.int .i64 b).wf = true) (_ : (Lit.int .i64 d).wf = true) (_ : (Lit.int .i64 lease).wf = true) :
    Calls Try.prog 5 #[v, .int .i64 a, .int .i64 b, .int .i64 d, .int .i64 lease] w fun e w' => e = .returned (.bool true) ∧ Below w.heap.size w w' := by
  cases hs : Clk.small zss
  · exact clockLease_big v zss a b d lease w h hs
  · exact clockLease_in v zss a b d lease w h hs
end Go.Proofs.Ytmgcigohfccgeaa
