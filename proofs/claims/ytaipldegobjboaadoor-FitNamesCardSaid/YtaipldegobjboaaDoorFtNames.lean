/- FtNames. -/
import Derived.Test.YtaipldegobjboaaDoorMFt3
import Derived.Test.YtaipldegobjboaaDoorMFt2
namespace Go.Proofs.YtaipldegobjboaaDoor.Ft
open Go.RowKit Go.Proofs.YtaipldegobjboaaDoor Go.Proofs.YtaipldegobjboaaDoor.Ru

def armL : List Nd := [⟨2, [97, 114, 99, 104], [97, 114, 109], 0, -1, -1⟩]
def armP : Ne := { needP 2 1 with L := armL }
theorem fit_13 : fitP (needP 1 3) machP = (0, [], 0) := by kernel_rfl
theorem fit_29 : fitP (needP 2 9) machP = (0, [], 0) := by kernel_rfl
theorem fit_arm : fitP armP machP = (0, [], 0) := by kernel_rfl
theorem goers_31 : goersR (needP 3 1) machP [] = ([⟨[97], 0, 1, ⟨6, 0, 0, 0⟩, [], false⟩], 0) := by kernel_rfl
theorem arm_fit1 : ∀ n ∈ armL, Fit1 n := by
  intro n hn
  simp only [armL, List.mem_cons, List.not_mem_nil, or_false] at hn
  subst hn
  exact ⟨by decide, by decide, by decide, by decide⟩
theorem arm_ok : NeOk armP := ⟨arm_fit1⟩

set_option maxRecDepth 100000 in
set_option maxHeartbeats 2000000 in
theorem names_any (w : World) (hE : ErrV w) (hT : Tab w) :
    Calls Tryd.prog 3 #[] w fun r w' => r = .returned (.bool true) ∧ Below w.heap.size w w' := by
  have HLV := Lib.hid (lives_any w hE hT)
  have HND := Lib.hid need_any
  have HMA := Lib.hid machine_any
  have HK1 : Hid (∀ q k w', Below w.heap.size w w' → Nds w' (needP 1 3) (.slice q 1 k) → Calls Tryd.prog 5 #[neV (needP 1 3) (.slice q 1 k)] w' fun r w2 => r = .returned (.int .i64 0) ∧ Below w'.heap.size w' w2) := Lib.hid (fun q k w' hb hn => kind_any _ _ 0 fit_13 w' hn (need_ok 1 3) (hE.below hb) (hT.below hb))
  have HK2 : Hid (∀ q k w', Below w.heap.size w w' → Nds w' (needP 2 9) (.slice q 1 k) → Calls Tryd.prog 5 #[neV (needP 2 9) (.slice q 1 k)] w' fun r w2 => r = .returned (.int .i64 0) ∧ Below w'.heap.size w' w2) := Lib.hid (fun q k w' hb hn => kind_any _ _ 0 fit_29 w' hn (need_ok 2 9) (hE.below hb) (hT.below hb))
  have HK3 : Hid (∀ q k w', Below w.heap.size w w' → Nds w' armP (.slice q 1 k) → Calls Tryd.prog 5 #[neV armP (.slice q 1 k)] w' fun r w2 => r = .returned (.int .i64 0) ∧ Below w'.heap.size w' w2) := Lib.hid (fun q k w' hb hn => kind_any _ _ 0 fit_arm w' hn arm_ok (hE.below hb) (hT.below hb))
  have HGO : Hid (∀ q k va vu w', Below w.heap.size w w' → Nds w' (needP 3 1) (.slice q 1 k) → Vws w' machP va vu → Calls Tryd.prog 7 #[neV (needP 3 1) (.slice q 1 k), vwV machP va vu, .string ⟨#[]⟩] w' fun r w2 => ∃ p c, r = .returned (.tuple #[.slice p 1 c, .int .i64 0]) ∧ Usw w2 (.slice p 1 c) [⟨[97], 0, 1, ⟨6, 0, 0, 0⟩, [], false⟩] ∧ Below w'.heap.size w' w2) := Lib.hid (fun q k va vu w' hb hn hv => (goersG_any (needP 3 1) machP _ va vu [] w' hn (need_ok 3 1) hv mach_ok (hE.below hb) (hT.below hb)).mono fun r w2 h => by
    rw [goers_31] at h
    obtain ⟨v', h1, h2, h3⟩ := h
    obtain ⟨p, c, rfl⟩ := h2.slice
    exact ⟨p, c, h1, h2, h3⟩)
  clear hE hT
  go_enter Tryd.func3, Tryd.ntmps3
  go_upto_region 3 with (first
    | (go_at_call 4; refine HLV.out.mono ?_; rintro r w1 ⟨rfl, hb⟩; have HB1 := Lib.hid hb; clear hb)
    | (go_at_call 6; have hx := HB3; clear hx; refine (HND.out _ _ _).mono ?_; rintro r w4 ⟨q4, k4, rfl, hn, hb⟩; have HN4 := Lib.hid hn; have HB4 := Lib.hid (below_and HB3.out hb); clear hn hb)
    | (go_at_call 6; refine (HND.out _ _ _).mono ?_; rintro r w2 ⟨q2, k2, rfl, hn, hb⟩; have HN2 := Lib.hid hn; have HB2 : Hid (Below w.heap.size w w2) := Lib.hid (below_and HB1.out hb); clear hn hb)
    | (go_at_call 5; refine (HK2.out q4 k4 _ HB4.out HN4.out).mono ?_; rintro r w5 ⟨rfl, hb⟩; have HB5 := Lib.hid (below_and HB4.out hb); clear hb)
    | (go_at_call 5; refine (HK1.out q2 k2 _ HB2.out HN2.out).mono ?_; rintro r w3 ⟨rfl, hb⟩; have HB3 := Lib.hid (below_and HB2.out hb); clear hb))
  clear HB1 HB2 HB3 HB4 HN2 HN4
  go_upto_region 4 with (go_at_call 6; refine (HND.out _ _ _).mono ?_; rintro r w6 ⟨q6, k6, rfl, hn, hb⟩; have HN6 := Lib.hid hn; have HB6 := Lib.hid (below_and HB5.out hb); clear hn hb)
  obtain ⟨X, hX⟩ : ∃ X, X = w6.heap.size := ⟨_, rfl⟩
  refine at_hide (F := fun w' => Blk w' X (neC (needP 2 1) (.slice q6 1 k6)) 30 ∧ Below w.heap.size w w' ∧ w'.heap.size = X + 1) ⟨by rw [hX]; exact Blk.made w6 (neC (needP 2 1) (.slice q6 1 k6)) _, below_and HB6.out (below_alloc _ _), by rw [hX]; simp⟩ ?_
  rw [← hX]
  intro w7 hF
  have HX7 := Lib.hid hF.1
  have HB7 := Lib.hid hF.2.1
  have HZ7 := Lib.hid hF.2.2
  have HXW : Hid (w.heap.size ≤ X) := Lib.hid (by rw [hX]; exact HB6.out.size)
  clear hF hX HB5 HN6 HB6
  have c6 := (HX7.out.alloc (.cells #[.int .i64 2, .string ⟨#[97, 114, 99, 104]⟩, .string ⟨#[97, 114, 109]⟩, .int .i64 0, .int .i64 (-1), .int .i64 (-1)] 33)).cell (j := 6) rfl
  have f6 := (HX7.out.alloc (.cells #[.int .i64 2, .string ⟨#[97, 114, 99, 104]⟩, .string ⟨#[97, 114, 109]⟩, .int .i64 0, .int .i64 (-1), .int .i64 (-1)] 33)).free 6
  have HO8 : Hid (OwnN (w7.alloc (.cells #[.int .i64 2, .string ⟨#[97, 114, 99, 104]⟩, .string ⟨#[97, 114, 109]⟩, .int .i64 0, .int .i64 (-1), .int .i64 (-1)] 33)) w7.heap.size (.slice (some ⟨w7.heap.size, 0, none⟩) 1 1) armL) := Lib.hid (World.ownsRow_lit w7 #[.int .i64 2, .string ⟨#[97, 114, 99, 104]⟩, .string ⟨#[97, 114, 109]⟩, .int .i64 0, .int .i64 (-1), .int .i64 (-1)] 1 (Nat.le_refl _) (by simp [maxLen]) rfl)
  have HX8 := Lib.hid (HX7.out.alloc (.cells #[.int .i64 2, .string ⟨#[97, 114, 99, 104]⟩, .string ⟨#[97, 114, 109]⟩, .int .i64 0, .int .i64 (-1), .int .i64 (-1)] 33))
  have HB8 := Lib.hid (below_and HB7.out (below_alloc w7 (.cells #[.int .i64 2, .string ⟨#[97, 114, 99, 104]⟩, .string ⟨#[97, 114, 109]⟩, .int .i64 0, .int .i64 (-1), .int .i64 (-1)] 33)))
  go_upto_region 5 with fail
  obtain ⟨Y, hY⟩ : ∃ Y, Y = w7.heap.size := ⟨_, rfl⟩
  refine at_hide (F := fun w' => Blk w' X (neC armP (.slice (some ⟨Y, 0, none⟩) 1 1)) 30 ∧ Nds w' armP (.slice (some ⟨Y, 0, none⟩) 1 1) ∧ Below w.heap.size w w') ⟨by rw [hY]; exact HX8.out.set 6 (.slice (some ⟨w7.heap.size, 0, none⟩) 1 1), by rw [hY]; exact (HO8.out.set (a := ⟨X, 6, none⟩) (by have := HZ7.out; simp; omega) _).row, HB8.out.setCell (by have := HXW.out; simp; omega) _⟩ ?_
  intro w9 hF
  have HX9 := Lib.hid hF.1
  have HN9 := Lib.hid hF.2.1
  have HB9 := Lib.hid hF.2.2
  clear hF hY c6 f6 HX8 HO8 HB8 HX7 HB7 HZ7
  go_upto_region 6 with (first
    | (go_at_call 6; refine (HND.out _ _ _).mono ?_; rintro r wa ⟨qa, ka, rfl, hn, hb⟩; have HNa := Lib.hid hn; have HBa := Lib.hid (below_and HB9.out hb); have HXa := Lib.hid (HX9.out.kept hb); have HAa := Lib.hid (HN9.out.below hb); clear hn hb)
    | (go_at_call 8; refine (HMA.out _).mono ?_; rintro r wb ⟨va, vu, rfl, hv, hb⟩; have HVb := Lib.hid hv; have HBb := Lib.hid (below_and HBa.out hb); have HXb := Lib.hid (HXa.out.kept hb); have HAb := Lib.hid (HAa.out.below hb); have HNb := Lib.hid (HNa.out.below hb); clear hv hb)
    | (go_at_call 7; refine (HGO.out qa ka va vu _ HBb.out HNb.out HVb.out).mono ?_; rintro r wc ⟨p, c, rfl, hu, hb⟩; have HUc := Lib.hid hu; have HBc := Lib.hid (below_and HBb.out hb); have HXc := Lib.hid (HXb.out.kept hb); have HAc := Lib.hid (HAb.out.below hb); clear hu hb))
  have c0 := HXc.out.cell (j := 0) rfl
  have c1 := HXc.out.cell (j := 1) rfl
  have c2 := HXc.out.cell (j := 2) rfl
  have c3 := HXc.out.cell (j := 3) rfl
  have c4 := HXc.out.cell (j := 4) rfl
  have c5 := HXc.out.cell (j := 5) rfl
  have c6 := HXc.out.cell (j := 6) rfl
  have c7 := HXc.out.cell (j := 7) rfl
  have HK := Lib.hid (HK3.out _ _ _ HBc.out HAc.out)
  go_wp2_with (go_at_call 5; refine HK.out.mono ?_; rintro r wd ⟨rfl, hb⟩; have HBd := Lib.hid (below_and HBc.out hb); have HUd := Lib.hid (HUc.out.below hb); obtain ⟨bq, oq, rfl, hce⟩ := HUd.out.at (i := 0) (by simp); have e0 : wd.cell? ⟨bq, oq, none⟩ = some (.string ⟨#[97]⟩) := (by have h9 := hce 0 (.string ⟨#[97]⟩) rfl; simpa using h9); clear hb hce)
  go_ret
  exact ⟨rfl, HBd.out⟩
end Go.Proofs.YtaipldegobjboaaDoor.Ft
