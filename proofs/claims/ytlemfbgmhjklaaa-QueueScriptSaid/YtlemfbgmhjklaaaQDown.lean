/- container/heap's down. -/
import Derived.Test.YtlemfbgmhjklaaaQFacts
namespace Go.Proofs.Ytlemfbgmhjklaaa
open Go.RowKit

theorem down_end {lt : PRow → PRow → Bool} {L : List PRow} {n k : Nat} (h : n ≤ 2 * k + 1) : Hp.down lt L n k = (L, k) := by
  rw [Hp.down, dif_neg (by omega)]
theorem down_stop {lt : PRow → PRow → Bool} {L : List PRow} {n k J : Nat} (h : 2 * k + 1 < n) (hJ : Hp.pickJ lt L n k = J) (hl : Hp.ltAt lt L J k = false) : Hp.down lt L n k = (L, k) := by
  rw [Hp.down, dif_pos h, hJ, if_neg (by simp [hl])]
theorem down_go {lt : PRow → PRow → Bool} {L : List PRow} {n k J : Nat} (h : 2 * k + 1 < n) (hJ : Hp.pickJ lt L n k = J) (hl : Hp.ltAt lt L J k = true) : Hp.down lt L n k = Hp.down lt (Hp.swap L k J) n J := by
  rw [Hp.down, dif_pos h, hJ, if_pos hl]

set_option maxRecDepth 100000 in
set_option maxHeartbeats 2000000 in
theorem down_any (b i0 n : Nat) (T : Int) (v : Value) (L : List PRow) (w : World) (h : Qu w b T v L) (hn : n ≤ L.length) (hi : i0 ≤ n) (hl : L.length ≤ 1000000) :
    Calls Try.prog 42 #[hp b, .int .i64 (i0 : Int), .int .i64 (n : Int)] w fun e w' => e = .returned (.bool (decide (i0 < (Hp.down rlt L n i0).2))) ∧ Qu w' b T v (Hp.down rlt L n i0).1 ∧ Stp w w' b v v := by
  have H := Lib.hid h
  clear h
  go_enter Try.func42, Try.ntmps42
  go_wp2
  go_loopw [7] (fun jv wc => ∃ (k : Nat) (M : List PRow), jv = .int .i64 (k : Int) ∧ k ≤ n ∧ M.length = L.length ∧ Hid (Qu wc b T v M) ∧ Hid (Hp.down rlt L n i0 = Hp.down rlt M n k) ∧ Hid (Stp w wc b v v)) (fun jv _ => n - (intOf jv).toNat)
  case atStart => exact ⟨i0, L, rfl, hi, rfl, H, rfl, Stp.refl _ _ _⟩
  case round =>
    obtain ⟨k, M, rfl, hk, hM, HW, HU, HS⟩ := hrel
    by_cases h0 : n ≤ 2 * k + 1
    · have HD := Lib.hid (down_end (lt := rlt) (L := M) h0)
      go_wp2
      go_ret
      refine ⟨ret_bool ?_, ?_, HS.out⟩
      · rw [HU.out, HD.out]
      · rw [HU.out, HD.out]; exact HW.out
    · obtain ⟨j1, hj1⟩ : ∃ j1, j1 = 2 * k + 1 := ⟨_, rfl⟩
      obtain ⟨j2, hj2⟩ : ∃ j2, j2 = 2 * k + 2 := ⟨_, rfl⟩
      have r1 : 2 * (k : Int) + 1 = (j1 : Int) := by omega
      have r2 : (j1 : Int) + 1 = (j2 : Int) := by omega
      have hp0 : Hp.pickJ rlt M n k = if j2 < n ∧ Hp.ltAt rlt M j2 j1 = true then j2 else j1 := by subst hj1 hj2; rfl
      have c1 := HW.out.blk.cell (j := 0) rfl
      have ml := m_less c1
      have g1 : j1 < n := by omega
      have g2 : k < j1 := by omega
      have g3 : j1 < j2 := by omega
      have g4 : Hid (2 * k + 1 < n) := Lib.hid (by omega)
      clear hj1 hj2 h0
      by_cases hc : j2 < n
      · cases hl1 : Hp.ltAt rlt M j2 j1
        · have hJ : Hp.pickJ rlt M n k = j1 := by rw [hp0, if_neg (by simp [hl1])]
          have HL1 := Lib.hid hl1
          clear hl1 hp0
          cases hl2 : Hp.ltAt rlt M j1 k
          · have HD := Lib.hid (down_stop g4.out hJ hl2)
            have HL2 := Lib.hid hl2
            clear hl2 hJ
            go_wp2_with (first
              | (go_at_call 62; refine (eless_wt b j1 k T v M _ HW2.out (by omega) (by omega)).mono ?_; rw [HL2.out]; rintro e w3 ⟨rfl, hb⟩; have HB3 := Lib.hid hb; have HW3 := Lib.hid (HW2.out.kept hb); have ms3 := m_swap (HW3.out.blk.cell (j := 0) rfl); clear hb)
              | (go_at_call 62; refine (eless_wt b j2 j1 T v M _ HW.out (by omega) (by omega)).mono ?_; rw [HL1.out]; rintro e w2 ⟨rfl, hb⟩; have HB := Lib.hid hb; have HW2 := Lib.hid (HW.out.kept hb); have ml2 := m_less (HW2.out.blk.cell (j := 0) rfl); clear hb))
            go_ret
            refine ⟨ret_bool ?_, ?_, (HS.out.trans (Stp.of_below HB.out _ _)).trans (Stp.of_below HB3.out _ _)⟩
            · rw [HU.out, HD.out]
            · rw [HU.out, HD.out]; exact HW3.out
          · have HD := Lib.hid (down_go g4.out hJ hl2)
            have HL2 := Lib.hid hl2
            clear hl2 hJ
            go_wp2_with (first
              | (go_at_call 63; refine (eswap_any b k j1 T v M _ HW3.out (by omega) (by omega)).mono ?_; rintro e w4 ⟨rfl, hw, hs⟩; have HW4 := Lib.hid hw; have HS4 := Lib.hid hs; clear hw hs)
              | (go_at_call 62; refine (eless_wt b j1 k T v M _ HW2.out (by omega) (by omega)).mono ?_; rw [HL2.out]; rintro e w3 ⟨rfl, hb⟩; have HB3 := Lib.hid hb; have HW3 := Lib.hid (HW2.out.kept hb); have ms3 := m_swap (HW3.out.blk.cell (j := 0) rfl); clear hb)
              | (go_at_call 62; refine (eless_wt b j2 j1 T v M _ HW.out (by omega) (by omega)).mono ?_; rw [HL1.out]; rintro e w2 ⟨rfl, hb⟩; have HB := Lib.hid hb; have HW2 := Lib.hid (HW.out.kept hb); have ml2 := m_less (HW2.out.blk.cell (j := 0) rfl); clear hb))
            go_roundw
            case rel => exact ⟨j1, Hp.swap M k j1, rfl, by omega, by rw [Hp.length_swap]; exact hM, HW4, by rw [HU.out, HD.out]; rfl, ((HS.out.trans (Stp.of_below HB.out _ _)).trans (Stp.of_below HB3.out _ _)).trans HS4.out⟩
            case measure => simp [intOf]; omega
        · have hJ : Hp.pickJ rlt M n k = j2 := by rw [hp0, if_pos ⟨hc, hl1⟩]
          have HL1 := Lib.hid hl1
          clear hl1 hp0
          cases hl2 : Hp.ltAt rlt M j2 k
          · have HD := Lib.hid (down_stop g4.out hJ hl2)
            have HL2 := Lib.hid hl2
            clear hl2 hJ
            go_wp2_with (first
              | (go_at_call 62; refine (eless_wt b j2 k T v M _ HW2.out (by omega) (by omega)).mono ?_; rw [HL2.out]; rintro e w3 ⟨rfl, hb⟩; have HB3 := Lib.hid hb; have HW3 := Lib.hid (HW2.out.kept hb); have ms3 := m_swap (HW3.out.blk.cell (j := 0) rfl); clear hb)
              | (go_at_call 62; refine (eless_wt b j2 j1 T v M _ HW.out (by omega) (by omega)).mono ?_; rw [HL1.out]; rintro e w2 ⟨rfl, hb⟩; have HB := Lib.hid hb; have HW2 := Lib.hid (HW.out.kept hb); have ml2 := m_less (HW2.out.blk.cell (j := 0) rfl); clear hb))
            go_ret
            refine ⟨ret_bool ?_, ?_, (HS.out.trans (Stp.of_below HB.out _ _)).trans (Stp.of_below HB3.out _ _)⟩
            · rw [HU.out, HD.out]
            · rw [HU.out, HD.out]; exact HW3.out
          · have HD := Lib.hid (down_go g4.out hJ hl2)
            have HL2 := Lib.hid hl2
            clear hl2 hJ
            go_wp2_with (first
              | (go_at_call 63; refine (eswap_any b k j2 T v M _ HW3.out (by omega) (by omega)).mono ?_; rintro e w4 ⟨rfl, hw, hs⟩; have HW4 := Lib.hid hw; have HS4 := Lib.hid hs; clear hw hs)
              | (go_at_call 62; refine (eless_wt b j2 k T v M _ HW2.out (by omega) (by omega)).mono ?_; rw [HL2.out]; rintro e w3 ⟨rfl, hb⟩; have HB3 := Lib.hid hb; have HW3 := Lib.hid (HW2.out.kept hb); have ms3 := m_swap (HW3.out.blk.cell (j := 0) rfl); clear hb)
              | (go_at_call 62; refine (eless_wt b j2 j1 T v M _ HW.out (by omega) (by omega)).mono ?_; rw [HL1.out]; rintro e w2 ⟨rfl, hb⟩; have HB := Lib.hid hb; have HW2 := Lib.hid (HW.out.kept hb); have ml2 := m_less (HW2.out.blk.cell (j := 0) rfl); clear hb))
            go_roundw
            case rel => exact ⟨j2, Hp.swap M k j2, rfl, by omega, by rw [Hp.length_swap]; exact hM, HW4, by rw [HU.out, HD.out]; rfl, ((HS.out.trans (Stp.of_below HB.out _ _)).trans (Stp.of_below HB3.out _ _)).trans HS4.out⟩
            case measure => simp [intOf]; omega
      · have hJ : Hp.pickJ rlt M n k = j1 := by rw [hp0, if_neg (by omega)]
        clear hp0
        cases hl2 : Hp.ltAt rlt M j1 k
        · have HD := Lib.hid (down_stop g4.out hJ hl2)
          have HL2 := Lib.hid hl2
          clear hl2 hJ
          go_wp2_with (first
            | (go_at_call 62; refine (eless_wt b j1 k T v M _ HW.out (by omega) (by omega)).mono ?_; rw [HL2.out]; rintro e w3 ⟨rfl, hb⟩; have HB3 := Lib.hid hb; have HW3 := Lib.hid (HW.out.kept hb); have ms3 := m_swap (HW3.out.blk.cell (j := 0) rfl); clear hb))
          go_ret
          refine ⟨ret_bool ?_, ?_, (HS.out).trans (Stp.of_below HB3.out _ _)⟩
          · rw [HU.out, HD.out]
          · rw [HU.out, HD.out]; exact HW3.out
        · have HD := Lib.hid (down_go g4.out hJ hl2)
          have HL2 := Lib.hid hl2
          clear hl2 hJ
          go_wp2_with (first
            | (go_at_call 63; refine (eswap_any b k j1 T v M _ HW3.out (by omega) (by omega)).mono ?_; rintro e w4 ⟨rfl, hw, hs⟩; have HW4 := Lib.hid hw; have HS4 := Lib.hid hs; clear hw hs)
            | (go_at_call 62; refine (eless_wt b j1 k T v M _ HW.out (by omega) (by omega)).mono ?_; rw [HL2.out]; rintro e w3 ⟨rfl, hb⟩; have HB3 := Lib.hid hb; have HW3 := Lib.hid (HW.out.kept hb); have ms3 := m_swap (HW3.out.blk.cell (j := 0) rfl); clear hb))
          go_roundw
          case rel => exact ⟨j1, Hp.swap M k j1, rfl, by omega, by rw [Hp.length_swap]; exact hM, HW4, by rw [HU.out, HD.out]; rfl, ((HS.out).trans (Stp.of_below HB3.out _ _)).trans HS4.out⟩
          case measure => simp [intOf]; omega
end Go.Proofs.Ytlemfbgmhjklaaa
