/- the walk of QuotaNames -/
import Derived.Test.YtmgbailpmcggiaaQBo
namespace Go.Proofs.Ytmgbailpmcggiaa
open Go.RowKit

abbrev g2 : List Gr := [⟨⟨#[97, 110, 110]⟩, 2, ⟨3, 0, 0, 0⟩⟩]
theorem k_n1 : chargeP g1 c1 ⟨⟨#[98]⟩, ⟨#[97, 110, 110]⟩, 0, ⟨5, 0, 0, 0⟩⟩ = (0, [⟨⟨#[97]⟩, ⟨#[97, 110, 110]⟩, 2, ⟨6, 0, 0, 0⟩⟩, ⟨⟨#[98]⟩, ⟨#[97, 110, 110]⟩, 0, ⟨5, 0, 0, 0⟩⟩]) := by kernel_rfl
theorem k_n2 : chargeP g1 [⟨⟨#[97]⟩, ⟨#[97, 110, 110]⟩, 2, ⟨6, 0, 0, 0⟩⟩, ⟨⟨#[98]⟩, ⟨#[97, 110, 110]⟩, 0, ⟨5, 0, 0, 0⟩⟩] ⟨⟨#[99]⟩, ⟨#[98, 111, 98]⟩, 1, ⟨0, 0, 0, 0⟩⟩ = (0, [⟨⟨#[97]⟩, ⟨#[97, 110, 110]⟩, 2, ⟨6, 0, 0, 0⟩⟩, ⟨⟨#[98]⟩, ⟨#[97, 110, 110]⟩, 0, ⟨5, 0, 0, 0⟩⟩, ⟨⟨#[99]⟩, ⟨#[98, 111, 98]⟩, 1, ⟨0, 0, 0, 0⟩⟩]) := by kernel_rfl
theorem k_n3 : grantP g1 ⟨#[97, 110, 110]⟩ 2 ⟨3, 0, 0, 0⟩ = (0, g2) := by kernel_rfl
theorem k_n4 : overP g2 [⟨⟨#[97]⟩, ⟨#[97, 110, 110]⟩, 2, ⟨6, 0, 0, 0⟩⟩, ⟨⟨#[98]⟩, ⟨#[97, 110, 110]⟩, 0, ⟨5, 0, 0, 0⟩⟩, ⟨⟨#[99]⟩, ⟨#[98, 111, 98]⟩, 1, ⟨0, 0, 0, 0⟩⟩] = [⟨⟨#[97]⟩, ⟨#[97, 110, 110]⟩, 2, ⟨6, 0, 0, 0⟩⟩] := by kernel_rfl
theorem k_n5 : changeP g2 [⟨⟨#[97]⟩, ⟨#[97, 110, 110]⟩, 2, ⟨6, 0, 0, 0⟩⟩, ⟨⟨#[98]⟩, ⟨#[97, 110, 110]⟩, 0, ⟨5, 0, 0, 0⟩⟩, ⟨⟨#[99]⟩, ⟨#[98, 111, 98]⟩, 1, ⟨0, 0, 0, 0⟩⟩] ⟨#[97]⟩ ⟨5, 0, 0, 0⟩ = (0, [⟨⟨#[97]⟩, ⟨#[97, 110, 110]⟩, 2, ⟨5, 0, 0, 0⟩⟩, ⟨⟨#[98]⟩, ⟨#[97, 110, 110]⟩, 0, ⟨5, 0, 0, 0⟩⟩, ⟨⟨#[99]⟩, ⟨#[98, 111, 98]⟩, 1, ⟨0, 0, 0, 0⟩⟩]) := by kernel_rfl
theorem k_n6 : leftP g2 [⟨⟨#[97]⟩, ⟨#[97, 110, 110]⟩, 2, ⟨5, 0, 0, 0⟩⟩, ⟨⟨#[98]⟩, ⟨#[97, 110, 110]⟩, 0, ⟨5, 0, 0, 0⟩⟩, ⟨⟨#[99]⟩, ⟨#[98, 111, 98]⟩, 1, ⟨0, 0, 0, 0⟩⟩] ⟨#[97, 110, 110]⟩ 2 = (.zero, 0) := by kernel_rfl
theorem k_n7 : refundP [⟨⟨#[97]⟩, ⟨#[97, 110, 110]⟩, 2, ⟨5, 0, 0, 0⟩⟩, ⟨⟨#[98]⟩, ⟨#[97, 110, 110]⟩, 0, ⟨5, 0, 0, 0⟩⟩, ⟨⟨#[99]⟩, ⟨#[98, 111, 98]⟩, 1, ⟨0, 0, 0, 0⟩⟩] ⟨#[97]⟩ = (0, [⟨⟨#[98]⟩, ⟨#[97, 110, 110]⟩, 0, ⟨5, 0, 0, 0⟩⟩, ⟨⟨#[99]⟩, ⟨#[98, 111, 98]⟩, 1, ⟨0, 0, 0, 0⟩⟩]) := by kernel_rfl
theorem k_n8 : refundP [⟨⟨#[98]⟩, ⟨#[97, 110, 110]⟩, 0, ⟨5, 0, 0, 0⟩⟩, ⟨⟨#[99]⟩, ⟨#[98, 111, 98]⟩, 1, ⟨0, 0, 0, 0⟩⟩] ⟨#[97]⟩ = (6, [⟨⟨#[98]⟩, ⟨#[97, 110, 110]⟩, 0, ⟨5, 0, 0, 0⟩⟩, ⟨⟨#[99]⟩, ⟨#[98, 111, 98]⟩, 1, ⟨0, 0, 0, 0⟩⟩]) := by kernel_rfl

set_option maxRecDepth 100000 in
set_option maxHeartbeats 4000000 in
theorem quotaNames_walk (w : World) : Calls Try.prog 3 #[] w fun e w' => e = .returned (.bool true) ∧ Below w.heap.size w w' := by
  go_enter Try.func3, Try.ntmps3
  go_wp2_with fail
  refine (qlives _).mono ?_
  rintro e w0 ⟨rfl, hb⟩
  have HB0 := Lib.hid hb
  clear hb
  go_wp2_with fail
  refine (bo_new _).mono ?_
  rintro e w1 ⟨b, mg, mc, rfl, h1⟩
  have H1 := Lib.hid h1
  clear h1
  go_wp2_with fail
  refine (bo_grant H1.out (by omega) ⟨#[97, 110, 110]⟩ 2 ⟨10, 0, 0, 0⟩ (by omega) (by omega) k_g1).mono ?_
  rintro e w2 ⟨rfl, h2, -⟩
  have H2 := Lib.hid h2
  clear h2
  go_wp2_with fail
  refine (bo_charge H2.out (by omega) ⟨⟨#[97]⟩, ⟨#[97, 110, 110]⟩, 2, ⟨6, 0, 0, 0⟩⟩ (by decide) (by decide) k_c1).mono ?_
  rintro e w3 ⟨rfl, h3, -⟩
  have H3 := Lib.hid h3
  clear h3
  go_wp2_with fail
  refine (bo_charge H3.out (by omega) ⟨⟨#[98]⟩, ⟨#[97, 110, 110]⟩, 0, ⟨5, 0, 0, 0⟩⟩ (by decide) (by decide) k_n1).mono ?_
  rintro e w4 ⟨rfl, h4, -⟩
  have H4 := Lib.hid h4
  clear h4
  go_wp2_with fail
  refine (bo_charge H4.out (by omega) ⟨⟨#[99]⟩, ⟨#[98, 111, 98]⟩, 1, ⟨0, 0, 0, 0⟩⟩ (by decide) (by decide) k_n2).mono ?_
  rintro e w5 ⟨rfl, h5, -⟩
  have H5 := Lib.hid h5
  clear h5
  go_wp2_with fail
  refine (bo_grant H5.out (by omega) ⟨#[97, 110, 110]⟩ 2 ⟨3, 0, 0, 0⟩ (by omega) (by omega) k_n3).mono ?_
  rintro e w6 ⟨rfl, h6, -⟩
  have H6 := Lib.hid h6
  clear h6
  go_wp2_with fail
  refine (bo_over H6.out (by omega)).mono ?_
  rintro e w7 ⟨v7, rfl, ho, hb⟩
  rw [k_n4] at ho
  obtain ⟨q7, cap7, rfl, -, -, -⟩ := own_block ho (by decide)
  have H7 := Lib.hid (H6.out.kept hb)
  have o0 : w7.cell? ⟨q7, 0, none⟩ = some (.string ⟨#[97]⟩) := own_cell ho (j := 0) rfl
  clear ho hb
  go_wp2_with fail
  refine (bo_change H7.out (by omega) ⟨#[97]⟩ ⟨5, 0, 0, 0⟩ k_n5).mono ?_
  rintro e w8 ⟨rfl, h8, -⟩
  have H8 := Lib.hid h8
  clear h8
  clear o0
  go_wp2_with fail
  refine (bo_left H8.out ⟨#[97, 110, 110]⟩ 2 (by omega) (by omega) k_n6).mono ?_
  rintro e w9 ⟨rfl, hb⟩
  have hb2 := below_and hb (below_alloc w9 (.cells #[.int .i64 0, .int .i64 0, .int .i64 0, .int .i64 0] 28))
  have HL := Lib.hid (Blk.made w9 (amC .zero) 28)
  have H9 := Lib.hid (H8.out.kept hb2)
  clear hb hb2
  go_wp2_with fail
  refine (bo_charges H9.out (by omega)).mono ?_
  rintro e w10 ⟨v10, rfl, ho, hb⟩
  obtain ⟨q10, cap10, rfl, -, -, -⟩ := own_block ho (by decide)
  have H10 := Lib.hid (H9.out.kept hb)
  have hl10 := HL.out.kept hb
  have l0 := hl10.cell (j := 0) rfl
  have l1 := hl10.cell (j := 1) rfl
  have l2 := hl10.cell (j := 2) rfl
  have l3 := hl10.cell (j := 3) rfl
  clear ho hb hl10
  go_wp2_with fail
  refine (bo_refund H10.out ⟨#[97]⟩ k_n7).mono ?_
  rintro e w11 ⟨rfl, h11, -⟩
  have H11 := Lib.hid h11
  clear h11
  clear l0 l1 l2 l3
  go_wp2_with fail
  refine (bo_refund H11.out ⟨#[97]⟩ k_n8).mono ?_
  rintro e w12 ⟨rfl, h12, -⟩
  have H12 := Lib.hid h12
  clear h12
  go_wp2_with fail
  refine (bo_charges H12.out (by omega)).mono ?_
  rintro e w13 ⟨v13, rfl, ho, hb⟩
  obtain ⟨q13, cap13, rfl, -, -, -⟩ := own_block ho (by decide)
  have H13 := Lib.hid (H12.out.kept hb)
  have o0 : w13.cell? ⟨q13, 0, none⟩ = some (.string ⟨#[98]⟩) := own_cell ho (j := 0) rfl
  have o7 : w13.cell? ⟨q13, 7, none⟩ = some (.string ⟨#[99]⟩) := own_cell ho (j := 7) rfl
  clear ho hb
  go_wp2_with fail
  go_ret
  exact ⟨rfl, below_and HB0.out H13.out.hb⟩
end Go.Proofs.Ytmgbailpmcggiaa
