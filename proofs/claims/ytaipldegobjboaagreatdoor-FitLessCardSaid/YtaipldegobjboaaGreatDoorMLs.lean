/- , laid together: FtLendV, Pick. -/
import Derived.Test.YtaipldegobjboaaGreatDoorMFt3
import Derived.Test.YtaipldegobjboaaGreatDoorLib2
namespace Go.Proofs.YtaipldegobjboaaGreatDoor.Ft
open Go.RowKit Go.Proofs.YtaipldegobjboaaGreatDoor Go.Proofs.YtaipldegobjboaaGreatDoor.Ru

theorem info_at : (Tryz.prog.info? 90).map (fun i => (i.zero, i.size, i.bytes)) = some (some (.agg #[.string ⟨#[]⟩, .string ⟨#[]⟩]), 2, 32) := by kernel_rfl
def OwnA (w : World) (base : Nat) (v : Value) (l : List Ru.At) : Prop := w.ownsRow base 90 2 v l.length (rwC atC l)
theorem OwnA.row {w : World} {base : Nat} {v : Value} {l : List Ru.At} (h : OwnA w base v l) : Row w v 2 l.length (rwC atC l) := row_of_owns h (rwC_one atC_one l)
theorem OwnA.set {w : World} {base : Nat} {v : Value} {l : List Ru.At} (h : OwnA w base v l) {a : Addr} (ha : a.block < base) (u : Value) : OwnA (w.setCell a u) base v l := ownsRow_setCell_below h ha u
theorem OwnA.kept {w w' : World} {base : Nat} {v : Value} {l : List Ru.At} (h : OwnA w base v l) (hb : Below w.heap.size w w') : OwnA w' base v l := own_fr h (Fr.of_below hb []) (fun _ _ => by simp)
theorem OwnU.set {w : World} {base : Nat} {v : Value} {l : List Us} (h : OwnU w base v l) {a : Addr} (ha : a.block < base) (u : Value) : OwnU (w.setCell a u) base v l := ownsRow_setCell_below h ha u
theorem ownA_fill8 {w : World} {base g : Nat} {v : Value} {l : List Ru.At} (h : OwnA w base v l) (hg : g < base) (x0 x1 x2 x3 x4 x5 x6 x7 : Value) : OwnA ((((((((w.setCell ⟨g, 0, none⟩ x0).setCell ⟨g, 1, none⟩ x1).setCell ⟨g, 2, none⟩ x2).setCell ⟨g, 3, none⟩ x3).setCell ⟨g, 4, none⟩ x4).setCell ⟨g, 5, none⟩ x5).setCell ⟨g, 6, none⟩ x6).setCell ⟨g, 7, none⟩ x7) base v l :=
  OwnA.set (OwnA.set (OwnA.set (OwnA.set (OwnA.set (OwnA.set (OwnA.set (OwnA.set h (a := ⟨g, 0, none⟩) hg _) (a := ⟨g, 1, none⟩) hg _) (a := ⟨g, 2, none⟩) hg _) (a := ⟨g, 3, none⟩) hg _) (a := ⟨g, 4, none⟩) hg _) (a := ⟨g, 5, none⟩) hg _) (a := ⟨g, 6, none⟩) hg _) (a := ⟨g, 7, none⟩) hg _
theorem ownU_fill8 {w : World} {base g : Nat} {v : Value} {l : List Us} (h : OwnU w base v l) (hg : g < base) (x0 x1 x2 x3 x4 x5 x6 x7 : Value) : OwnU ((((((((w.setCell ⟨g, 0, none⟩ x0).setCell ⟨g, 1, none⟩ x1).setCell ⟨g, 2, none⟩ x2).setCell ⟨g, 3, none⟩ x3).setCell ⟨g, 4, none⟩ x4).setCell ⟨g, 5, none⟩ x5).setCell ⟨g, 6, none⟩ x6).setCell ⟨g, 7, none⟩ x7) base v l :=
  OwnU.set (OwnU.set (OwnU.set (OwnU.set (OwnU.set (OwnU.set (OwnU.set (OwnU.set h (a := ⟨g, 0, none⟩) hg _) (a := ⟨g, 1, none⟩) hg _) (a := ⟨g, 2, none⟩) hg _) (a := ⟨g, 3, none⟩) hg _) (a := ⟨g, 4, none⟩) hg _) (a := ⟨g, 5, none⟩) hg _) (a := ⟨g, 6, none⟩) hg _) (a := ⟨g, 7, none⟩) hg _

set_option maxRecDepth 100000 in
set_option maxHeartbeats 2000000 in
theorem lendView_any (V : Vw) (va vu : Value) (w : World) (hv : Vws w V va vu) (hal : V.at'.length ≤ 16) (hul : V.us.length ≤ 60) :
    Calls Tryz.prog 9 #[vwV V va vu] w fun r w' => ∃ q c q2 c2, r = .returned (vwV V (.slice q V.at'.length c) (.slice q2 V.us.length c2)) ∧ Vws w' V (.slice q V.at'.length c) (.slice q2 V.us.length c2) ∧ Below w.heap.size w w' := by
  obtain ⟨ia, ha0, ha1, ha2, ha3⟩ := info_parts info_at
  obtain ⟨iu, hu0, hu1, hu2, hu3⟩ := info_parts info_us
  obtain ⟨⟨pa, ca, rfl⟩, pu, cu, rfl⟩ := hv.slices
  obtain ⟨la, hla⟩ : ∃ la, la = V.at'.length := ⟨_, rfl⟩
  obtain ⟨lu, hlu⟩ : ∃ lu, lu = V.us.length := ⟨_, rfl⟩
  have HV : Hid (∀ w', Below w.heap.size w w' → Src Tryz.prog 2 29 (.slice pa la ca) la (rwC atC V.at') w' ∧ Src Tryz.prog 9 30 (.slice pu lu cu) lu (rwC usC V.us) w') := Lib.hid (fun w' hb => by
    rw [hla, hlu]
    exact ⟨(hv.at'.below hb).src Tryz.underlying29, (Row.below hv.us hb).src Tryz.underlying30⟩)
  rw [← hla] at hal ⊢
  rw [← hlu] at hul ⊢
  have HLA := Lib.hid hla
  have HLU := Lib.hid hlu
  clear hv hla hlu
  obtain ⟨X, hX⟩ : ∃ X, X = w.heap.size := ⟨_, rfl⟩
  go_enter Tryz.func9, Tryz.ntmps9
  go_upto_region 1 with fail
  refine at_hide (F := fun w' => Blk w' X (vwC V (.slice pa la ca) (.slice pu lu cu)) 32 ∧ Blk w' (X + 1) ([.string ⟨#[]⟩, .slice none 0 0, .int .i64 0, .int .i64 0, .int .i64 0, .int .i64 0, .bool false, .slice none 0 0] : List Value) 32 ∧ Below w.heap.size w w' ∧ w'.heap.size = X + 2) ⟨by
    rw [hX]; exact (Blk.made w (vwC V (.slice pa la ca) (.slice pu lu cu)) _).alloc _, by
    rw [hX]
    have := Blk.made (w.alloc (.cells (vwC V (.slice pa la ca) (.slice pu lu cu)).toArray 32)) ([.string ⟨#[]⟩, .slice none 0 0, .int .i64 0, .int .i64 0, .int .i64 0, .int .i64 0, .bool false, .slice none 0 0] : List Value) 32
    rw [show (w.alloc (.cells (vwC V (.slice pa la ca) (.slice pu lu cu)).toArray 32)).heap.size = w.heap.size + 1 from by simp] at this
    exact this, below_and (below_alloc _ _) (below_alloc _ _), by rw [hX]; simp⟩ ?_
  intro w1 hF
  rw [← hX]
  have HX1 := Lib.hid hF.1
  have HR1 := Lib.hid hF.2.1
  have HB1 : Hid (Below w.heap.size w w1) := Lib.hid hF.2.2.1
  have HZ1 : Hid (X + 2 ≤ w1.heap.size) := Lib.hid (by rw [hF.2.2.2]; exact Nat.le_refl _)
  have HXW : Hid (w.heap.size ≤ X) := Lib.hid (by omega)
  have c1 := (HX1.out.alloc (.cells #[] 90)).cell (j := 1) rfl
  have HO1 : Hid ((w1.alloc (.cells #[] 90)).ownsRow w1.heap.size 90 2 (.slice (some ⟨w1.heap.size, 0, none⟩) 0 0) 0 []) := Lib.hid (World.ownsRow_lit w1 #[] 0 (Nat.le_refl _) (by simp [maxLen]) rfl)
  have HS1 := Lib.hid (HV.out (w1.alloc (.cells #[] 90)) (below_and HB1.out (below_alloc _ _))).1
  clear hF hX
  go_upto_region 2 with (at_builtin; refine wpList_app _ rfl _ _ 29 29 rfl w1.heap.size 90 ia (.agg #[.string ⟨#[]⟩, .string ⟨#[]⟩]) 2 32 Tryz.underlying29 ha0 ha1 ha2 ha3 rfl _ 0 [] rfl HO1.out _ la (rwC atC V.at') rfl HS1.out (by unfold maxLen; omega) (by omega) (by simp) ?_; intro v' w2 hown' hgrow hnil; rw [Nat.zero_add] at hown'; obtain ⟨q2, c2, rfl⟩ : ∃ q c, v' = .slice q la c := (by obtain ⟨q, c, h, -⟩ := own_slice hown'; exact ⟨q, c, h⟩); have HO2 : Hid (OwnA w2 w1.heap.size (.slice q2 la c2) V.at') := Lib.hid (by unfold OwnA; rw [← HLA.out]; exact hown'); have HB2 : Hid (Below w1.heap.size w1 w2) := Lib.hid (below_grown (below_alloc w1 _) (by simp) HO1.out hgrow); have s1 := (HX1.out.kept HB2.out).cell (j := 1) rfl; have f1 := (HX1.out.kept HB2.out).free 1; clear hown' hgrow hnil)
  have HX3 := Lib.hid ((HX1.out.kept HB2.out).set 1 (.slice q2 la c2))
  have HR3 := Lib.hid ((HR1.out.kept HB2.out).other (a := ⟨X, 1, none⟩) (by simp) (.slice q2 la c2))
  have HO3 := Lib.hid (HO2.out.set (a := ⟨X, 1, none⟩) (by have := HZ1.out; simp; omega) (.slice q2 la c2))
  have HB3 : Hid (Below w.heap.size w (w2.setCell ⟨X, 1, none⟩ (.slice q2 la c2))) := Lib.hid ((below_and HB1.out HB2.out).setCell (by have := HXW.out; simp; omega) _)
  have HZ3 : Hid (X + 2 ≤ (w2.setCell ⟨X, 1, none⟩ (.slice q2 la c2)).heap.size) := Lib.hid (by have := HB2.out.size; have := HZ1.out; simp; omega)
  obtain ⟨bb, hbb⟩ : ∃ bb, bb = w1.heap.size := ⟨_, rfl⟩
  rw [← hbb] at HO3 HZ1
  refine at_hide (F := fun w' => Blk w' X (vwC V (.slice q2 la c2) (.slice pu lu cu)) 32 ∧ Blk w' (X + 1) ([.string ⟨#[]⟩, .slice none 0 0, .int .i64 0, .int .i64 0, .int .i64 0, .int .i64 0, .bool false, .slice none 0 0] : List Value) 32 ∧ OwnA w' bb (.slice q2 la c2) V.at' ∧ Below w.heap.size w w' ∧ X + 2 ≤ w'.heap.size) ⟨HX3.out, HR3.out, HO3.out, HB3.out, HZ3.out⟩ ?_
  intro w4 hF
  have HX4 := Lib.hid hF.1
  have HR4 := Lib.hid hF.2.1
  have HA4 := Lib.hid hF.2.2.1
  have HB4 := Lib.hid hF.2.2.2.1
  have HZ4 := Lib.hid hF.2.2.2.2
  clear hF c1 s1 f1 HX1 HR1 HB1 HX3 HR3 HO3 HB3 HO2 HB2 HZ3 HO1 HS1 hbb
  have c7 := (HX4.out.alloc (.cells #[] 42)).cell (j := 7) rfl
  have HO4 : Hid ((w4.alloc (.cells #[] 42)).ownsRow w4.heap.size 42 9 (.slice (some ⟨w4.heap.size, 0, none⟩) 0 0) 0 []) := Lib.hid (World.ownsRow_lit w4 #[] 0 (Nat.le_refl _) (by simp [maxLen]) rfl)
  have HS4 := Lib.hid (HV.out (w4.alloc (.cells #[] 42)) (below_and HB4.out (below_alloc _ _))).2
  go_upto_region 3 with (at_builtin; refine wpList_app _ rfl _ _ 30 30 rfl w4.heap.size 42 iu (.agg #[.string ⟨#[]⟩, .int .i64 0, .int .i64 0, .int .i64 0, .int .i64 0, .int .i64 0, .int .i64 0, .string ⟨#[]⟩, .bool false]) 9 88 Tryz.underlying30 hu0 hu1 hu2 hu3 rfl _ 0 [] rfl HO4.out _ lu (rwC usC V.us) rfl HS4.out (by unfold maxLen; omega) (by omega) (by simp) ?_; intro v' w5 hown' hgrow hnil; rw [Nat.zero_add] at hown'; obtain ⟨q5, c5, rfl⟩ : ∃ q c, v' = .slice q lu c := (by obtain ⟨q, c, h, -⟩ := own_slice hown'; exact ⟨q, c, h⟩); have HO5 : Hid (OwnU w5 w4.heap.size (.slice q5 lu c5) V.us) := Lib.hid (by unfold OwnU; rw [← HLU.out]; exact hown'); have HB5 : Hid (Below w4.heap.size w4 w5) := Lib.hid (below_grown (below_alloc w4 _) (by simp) HO4.out hgrow); have s7 := (HX4.out.kept HB5.out).cell (j := 7) rfl; have f7 := (HX4.out.kept HB5.out).free 7; clear hown' hgrow hnil)
  have HX6 := Lib.hid ((HX4.out.kept HB5.out).set 7 (.slice q5 lu c5))
  have HR6 := Lib.hid ((HR4.out.kept HB5.out).other (a := ⟨X, 7, none⟩) (by simp) (.slice q5 lu c5))
  have HA6 := Lib.hid ((HA4.out.kept HB5.out).set (a := ⟨X, 7, none⟩) (by have := HZ1.out; simp; omega) (.slice q5 lu c5))
  have HO6 := Lib.hid (HO5.out.set (a := ⟨X, 7, none⟩) (by have := HZ4.out; simp; omega) (.slice q5 lu c5))
  have HB6 : Hid (Below w.heap.size w (w5.setCell ⟨X, 7, none⟩ (.slice q5 lu c5))) := Lib.hid ((below_and HB4.out HB5.out).setCell (by have := HXW.out; simp; omega) _)
  obtain ⟨b2, hb2⟩ : ∃ b2, b2 = w4.heap.size := ⟨_, rfl⟩
  rw [← hb2] at HO6 HZ4
  refine at_hide (F := fun w' => Blk w' X (vwC V (.slice q2 la c2) (.slice q5 lu c5)) 32 ∧ Blk w' (X + 1) ([.string ⟨#[]⟩, .slice none 0 0, .int .i64 0, .int .i64 0, .int .i64 0, .int .i64 0, .bool false, .slice none 0 0] : List Value) 32 ∧ OwnA w' bb (.slice q2 la c2) V.at' ∧ OwnU w' b2 (.slice q5 lu c5) V.us ∧ Below w.heap.size w w') ⟨HX6.out, HR6.out, HA6.out, HO6.out, HB6.out⟩ ?_
  intro w7 hF
  have HX7 := Lib.hid hF.1
  have HR7 := Lib.hid hF.2.1
  have HA7 := Lib.hid hF.2.2.1
  have HU7 := Lib.hid hF.2.2.2.1
  have HB7 := Lib.hid hF.2.2.2.2
  clear hF c7 s7 f7 HX4 HR4 HA4 HB4 HO4 HS4 HO5 HB5 HX6 HR6 HA6 HO6 HB6 hb2 HV
  have e0 := HX7.out.cell (j := 0) (rfl)
  have e1 := HX7.out.cell (j := 1) (rfl)
  have e2 := HX7.out.cell (j := 2) (rfl)
  have e3 := HX7.out.cell (j := 3) (rfl)
  have e4 := HX7.out.cell (j := 4) (rfl)
  have e5 := HX7.out.cell (j := 5) (rfl)
  have e6 := HX7.out.cell (j := 6) (rfl)
  have e7 := HX7.out.cell (j := 7) (rfl)
  have r0 := HR7.out.cell (j := 0) (rfl)
  have r1 := HR7.out.cell (j := 1) (rfl)
  have r2 := HR7.out.cell (j := 2) (rfl)
  have r3 := HR7.out.cell (j := 3) (rfl)
  have r4 := HR7.out.cell (j := 4) (rfl)
  have r5 := HR7.out.cell (j := 5) (rfl)
  have r6 := HR7.out.cell (j := 6) (rfl)
  have r7 := HR7.out.cell (j := 7) (rfl)
  have f0 := HR7.out.free 0
  have f1 := HR7.out.free 1
  have f2 := HR7.out.free 2
  have f3 := HR7.out.free 3
  have f4 := HR7.out.free 4
  have f5 := HR7.out.free 5
  have f6 := HR7.out.free 6
  have f7 := HR7.out.free 7
  go_wp2
  refine ret_cell1 rfl rfl rfl (blk_fill8 HR7.out rfl _ _ _ _ _ _ _ _) Tryz.underlying32 rfl size_vw ?_
  exact ⟨q2, c2, q5, c5, rfl, ⟨(ownA_fill8 HA7.out (by have := HZ1.out; omega) _ _ _ _ _ _ _ _).row, (ownU_fill8 HU7.out (by have := HZ4.out; omega) _ _ _ _ _ _ _ _).usw⟩, below_fill8 HB7.out (by have := HXW.out; omega) _ _ _ _ _ _ _ _⟩
end Go.Proofs.YtaipldegobjboaaGreatDoor.Ft

namespace Go.Proofs.YtaipldegobjboaaGreatDoor
open Go.RowKit

theorem tmod_band (x n : Int) (hn : 0 < n) : -n < x.tmod n ∧ x.tmod n < n := by
  have h1 := Int.tmod_lt_of_pos x hn
  refine ⟨?_, h1⟩
  rcases Int.le_total 0 x with h | h
  · have := Int.tmod_nonneg n h; omega
  · have h3 := Int.tmod_nonneg n (show 0 ≤ -x by omega)
    have h4 := Int.tmod_lt_of_pos (-x) hn
    rw [Int.neg_tmod] at h3 h4; omega

theorem pick_fix (x n : Int) (hn : 0 < n) : (x.tmod n + n).tmod n = x % n := by
  obtain ⟨h1, h2⟩ := tmod_band x n hn
  rw [Int.tmod_eq_emod_of_nonneg (by omega), Int.add_emod_right]
  rw [Int.tmod_def, Int.sub_mul_emod_self_left]

set_option maxHeartbeats 1000000 in
theorem pickn_any (x n : Int) (w : World) (hn : 0 < n) (hm : n ≤ 4611686018427387904) :
    Calls Tryz.prog 8 #[.int .i64 x, .int .i64 n] w fun e w' => e = .returned (.int .i64 (x % n)) ∧ w = w' := by
  obtain ⟨h1, h2⟩ := tmod_band x n hn
  have h3 := Int.emod_nonneg x (show n ≠ 0 by omega)
  have h4 := Int.emod_lt_of_pos x hn
  have s1 : wrap64 (x.tmod n) = x.tmod n := by unfold wrap64; omega
  have s2 : wrap64 (x.tmod n + n) = x.tmod n + n := by unfold wrap64; omega
  have s3 : wrap64 ((x.tmod n + n).tmod n) = x % n := by rw [pick_fix x n hn]; unfold wrap64; omega
  have s4 := pick_fix x n hn
  have s5 : wrap64 (x % n) = x % n := by unfold wrap64; omega
  have n0 : (n == 0) = false := by simp; omega
  go_enter Tryz.func8, Tryz.ntmps8
  go_wp2
  go_ret
  exact ⟨rfl, rfl⟩
end Go.Proofs.YtaipldegobjboaaGreatDoor
