/- Texts of one proof, laid together: Dst, Dst2, Dst3, Dst4, Open4. No condition of ours. -/
import Derived.Test.YtgcemddobcjpnaaDK7
namespace Go.Proofs.Ytgcemddobcjpnaa
open Go.RowKit

set_option maxRecDepth 100000 in
set_option maxHeartbeats 4000000 in
theorem step_make (a : Ac) (vb vk : Value) (w0 w : World) (X : Nat → Prop) (wx : World) (b g : Nat) (D E : Dk) (M : Nat) (N : Int) (h : Tw X wx w0 w b g D E) (gd : Good D M N) (ge : Good E M N) (ha : AcOk w0 a vb vk) (hbl : a.bs.length ≤ 2000) (h4 : a.kd % 11 = 0) : Calls Try.prog 24 #[ptr b, ptr g, .agg #[.int .i64 a.kd, .string a.nm, .string a.nt, vb, .int .i64 a.n, vk]] w fun e w' => ∃ bb, e = .returned (.bool bb) ∧ (D = E → bb = true) ∧ Tw X wx w0 w' b g ((D.make a.nm).2) ((E.make a.nm).2) := by
  have HPK : Hid (∀ w, Calls Try.prog 32 #[.int .i64 a.kd, .int .i64 11] w fun e w' => e = .returned (.int .i64 0) ∧ w = w') := Lib.hid (fun w => by have := pickn_any a.kd 11 w (by omega) (by omega); rwa [h4] at this)
  have GD := Lib.hid gd
  have GE := Lib.hid ge
  have HA := Lib.hid ha
  have HT := Lib.hid h
  have HBL := Lib.hid hbl
  obtain ⟨p, c, rfl, -⟩ := ha.rd.parts
  obtain ⟨ix, hix, hz0, hz1, hz2⟩ := info_parts Try.uinfo
  obtain ⟨wa, hwa⟩ : ∃ wa, wa = w.alloc (.cells #[.int .i64 a.kd, .string a.nm, .string a.nt, .slice p a.bs.length c, .int .i64 a.n, vk] 48) := ⟨_, rfl⟩
  obtain ⟨bx, hbx⟩ : ∃ bx, bx = w.heap.size := ⟨_, rfl⟩
  have hba : Below w.heap.size w wa := by rw [hwa]; exact below_alloc w _
  have HBXA : Hid (Blk wa bx (acC a (.slice p a.bs.length c) vk) 48) := Lib.hid (by rw [hwa, hbx]; exact Blk.made w (acC a (.slice p a.bs.length c) vk) _)
  have HBX : Hid (w.heap.size ≤ bx) := Lib.hid (by omega)
  have HBA := Lib.hid hba
  obtain ⟨wz, hwz⟩ : ∃ wz, wz = wa.alloc (.cells #[] 5) := ⟨_, rfl⟩
  obtain ⟨bz, hbz⟩ : ∃ bz, bz = wa.heap.size := ⟨_, rfl⟩
  have hbza : Below wa.heap.size wa wz := by rw [hwz]; exact below_alloc wa _
  have HBZ := Lib.hid hbza
  have HOW : Hid (wz.ownsRow wa.heap.size 5 1 (.slice (some ⟨bz, 0, none⟩) 0 0) 0 []) := Lib.hid (by rw [hwz, hbz]; exact World.ownsRow_lit (e := 5) (size := 1) wa #[] 0 (Nat.le_refl _) (by simp [maxLen]) rfl)
  have HSR : Hid (Src Try.prog 1 29 (.slice p a.bs.length c) a.bs.length (a.bs.map B) wz) := Lib.hid (Row.src Try.underlying29 (ha.rd.below (below_and h.bel (below_and hba hbza))))
  have y3 := (HBXA.out.kept (below_alloc wa (.cells #[] 5))).cell (j := 3) rfl
  clear h gd ge ha hbl hba hbza h4
  go_enter Try.func24, Try.ntmps24
  go_upto_region 1 with fail
  rw [← hwa, ← hbx]
  clear hwa hbx
  go_upto_region 2 with (at_builtin; rw [← hwz, ← hbz]; refine wpList_app5 rfl _ _ 29 29 rfl wa.heap.size 5 ix (.int .u8 0) 1 1 Try.underlying29 hix hz0 hz1 hz2 rfl _ 0 [] rfl HOW.out _ a.bs.length (a.bs.map B) rfl HSR.out (by have := HBL.out; unfold maxLen; omega) (by have := HBL.out; omega) HBZ.out.size ?_; intro v6 w6 hown6 hgrow6 hn6; have HO6 : Hid (w6.ownsRow wa.heap.size 5 1 v6 a.bs.length (a.bs.map B)) := Lib.hid (by simpa using hown6); have HB6 := Lib.hid (below_grown HBZ.out HBZ.out.size HOW.out hgrow6); clear hown6 hgrow6 hn6)
  have HS : Hid (Sp X wx w0 b g bx a (.slice p a.bs.length c) vk v6 D E w6) := Lib.hid (Sp.make HT.out (below_and HBA.out HB6.out) HBX.out (HBXA.out.kept HB6.out) HO6.out HBA.out.size)
  obtain ⟨p6, c6, rfl, -, -⟩ := own_slice HO6.out
  clear HT y3 HOW HSR HBXA HBX HBA HBZ HO6 HB6 hz0 hz1 hz2 hix
  have y0 := HS.out.blk.cell (j := 0) rfl
  go_wp2_with (go_at_call 32; refine (HPK.out _).mono ?_; rintro e w8 ⟨rfl, rfl⟩)
  go_region_held3 (fun w' => w'.cell? ⟨bx, 1, none⟩ = some (.string a.nm))
    ((apply Sp.c1; (repeat (first | with_reducible exact HS8.out | with_reducible exact HS7.out | with_reducible exact HS.out | apply Sp.drew))))
    (first
      | (go_at_call 10; refine (Sp.run (X := X) (wx := wx) (w0 := w0) (b := b) (g := g) (bx := bx) (a := a) (vb := .slice p a.bs.length c) (vk := vk) (vl := .slice p6 a.bs.length c6) (D := D) (E := E) (by (repeat (first | with_reducible exact HS.out | apply Sp.drew))) (fun wl ht => td_make ht GD.out a.nm HA.out.nm)).mono ?_; rintro e w7 ⟨rfl, hs⟩; have HS7 : Hid (Sp X wx w0 b g bx a (.slice p a.bs.length c) vk (.slice p6 a.bs.length c6) ((D.make a.nm).2) (E) w7) := Lib.hid hs; clear hs)
      | (go_at_call 46; refine (Sp.run (X := X) (wx := wx) (w0 := w0) (b := b) (g := g) (bx := bx) (a := a) (vb := .slice p a.bs.length c) (vk := vk) (vl := .slice p6 a.bs.length c6) (D := (D.make a.nm).2) (E := E) (by (repeat (first | with_reducible exact HS7.out | apply Sp.drew))) (fun wl ht => tr_make ht GE.out a.nm HA.out.nm)).mono ?_; rintro e w9 ⟨rfl, hs⟩; have HS8 : Hid (Sp X wx w0 b g bx a (.slice p a.bs.length c) vk (.slice p6 a.bs.length c6) ((D.make a.nm).2) ((E.make a.nm).2) w9) := Lib.hid hs; clear hs))
  go_wp2
  go_ret
  exact ⟨_, rfl, fun e => by subst e; simp, HS8.out.back⟩

set_option maxRecDepth 100000 in
set_option maxHeartbeats 4000000 in
theorem step_sync (a : Ac) (vb vk : Value) (w0 w : World) (X : Nat → Prop) (wx : World) (b g : Nat) (D E : Dk) (M : Nat) (N : Int) (h : Tw X wx w0 w b g D E) (gd : Good D M N) (ge : Good E M N) (ha : AcOk w0 a vb vk) (hbl : a.bs.length ≤ 2000) (h4 : a.kd % 11 = 2) : Calls Try.prog 24 #[ptr b, ptr g, .agg #[.int .i64 a.kd, .string a.nm, .string a.nt, vb, .int .i64 a.n, vk]] w fun e w' => ∃ bb, e = .returned (.bool bb) ∧ (D = E → bb = true) ∧ Tw X wx w0 w' b g ((D.sync a.nm).2) ((E.sync a.nm).2) := by
  have HPK : Hid (∀ w, Calls Try.prog 32 #[.int .i64 a.kd, .int .i64 11] w fun e w' => e = .returned (.int .i64 2) ∧ w = w') := Lib.hid (fun w => by have := pickn_any a.kd 11 w (by omega) (by omega); rwa [h4] at this)
  have GD := Lib.hid gd
  have GE := Lib.hid ge
  have HA := Lib.hid ha
  have HT := Lib.hid h
  have HBL := Lib.hid hbl
  obtain ⟨p, c, rfl, -⟩ := ha.rd.parts
  obtain ⟨ix, hix, hz0, hz1, hz2⟩ := info_parts Try.uinfo
  obtain ⟨wa, hwa⟩ : ∃ wa, wa = w.alloc (.cells #[.int .i64 a.kd, .string a.nm, .string a.nt, .slice p a.bs.length c, .int .i64 a.n, vk] 48) := ⟨_, rfl⟩
  obtain ⟨bx, hbx⟩ : ∃ bx, bx = w.heap.size := ⟨_, rfl⟩
  have hba : Below w.heap.size w wa := by rw [hwa]; exact below_alloc w _
  have HBXA : Hid (Blk wa bx (acC a (.slice p a.bs.length c) vk) 48) := Lib.hid (by rw [hwa, hbx]; exact Blk.made w (acC a (.slice p a.bs.length c) vk) _)
  have HBX : Hid (w.heap.size ≤ bx) := Lib.hid (by omega)
  have HBA := Lib.hid hba
  obtain ⟨wz, hwz⟩ : ∃ wz, wz = wa.alloc (.cells #[] 5) := ⟨_, rfl⟩
  obtain ⟨bz, hbz⟩ : ∃ bz, bz = wa.heap.size := ⟨_, rfl⟩
  have hbza : Below wa.heap.size wa wz := by rw [hwz]; exact below_alloc wa _
  have HBZ := Lib.hid hbza
  have HOW : Hid (wz.ownsRow wa.heap.size 5 1 (.slice (some ⟨bz, 0, none⟩) 0 0) 0 []) := Lib.hid (by rw [hwz, hbz]; exact World.ownsRow_lit (e := 5) (size := 1) wa #[] 0 (Nat.le_refl _) (by simp [maxLen]) rfl)
  have HSR : Hid (Src Try.prog 1 29 (.slice p a.bs.length c) a.bs.length (a.bs.map B) wz) := Lib.hid (Row.src Try.underlying29 (ha.rd.below (below_and h.bel (below_and hba hbza))))
  have y3 := (HBXA.out.kept (below_alloc wa (.cells #[] 5))).cell (j := 3) rfl
  clear h gd ge ha hbl hba hbza h4
  go_enter Try.func24, Try.ntmps24
  go_upto_region 1 with fail
  rw [← hwa, ← hbx]
  clear hwa hbx
  go_upto_region 2 with (at_builtin; rw [← hwz, ← hbz]; refine wpList_app5 rfl _ _ 29 29 rfl wa.heap.size 5 ix (.int .u8 0) 1 1 Try.underlying29 hix hz0 hz1 hz2 rfl _ 0 [] rfl HOW.out _ a.bs.length (a.bs.map B) rfl HSR.out (by have := HBL.out; unfold maxLen; omega) (by have := HBL.out; omega) HBZ.out.size ?_; intro v6 w6 hown6 hgrow6 hn6; have HO6 : Hid (w6.ownsRow wa.heap.size 5 1 v6 a.bs.length (a.bs.map B)) := Lib.hid (by simpa using hown6); have HB6 := Lib.hid (below_grown HBZ.out HBZ.out.size HOW.out hgrow6); clear hown6 hgrow6 hn6)
  have HS : Hid (Sp X wx w0 b g bx a (.slice p a.bs.length c) vk v6 D E w6) := Lib.hid (Sp.make HT.out (below_and HBA.out HB6.out) HBX.out (HBXA.out.kept HB6.out) HO6.out HBA.out.size)
  obtain ⟨p6, c6, rfl, -, -⟩ := own_slice HO6.out
  clear HT y3 HOW HSR HBXA HBX HBA HBZ HO6 HB6 hz0 hz1 hz2 hix
  have y0 := HS.out.blk.cell (j := 0) rfl
  go_wp2_with (go_at_call 32; refine (HPK.out _).mono ?_; rintro e w8 ⟨rfl, rfl⟩)
  go_region_held3 (fun w' => w'.cell? ⟨bx, 1, none⟩ = some (.string a.nm))
    ((apply Sp.c1; (repeat (first | with_reducible exact HS8.out | with_reducible exact HS7.out | with_reducible exact HS.out | apply Sp.drew))))
    (first
      | (go_at_call 12; refine (Sp.run (X := X) (wx := wx) (w0 := w0) (b := b) (g := g) (bx := bx) (a := a) (vb := .slice p a.bs.length c) (vk := vk) (vl := .slice p6 a.bs.length c6) (D := D) (E := E) (by (repeat (first | with_reducible exact HS.out | apply Sp.drew))) (fun wl ht => td_sync ht GD.out a.nm HA.out.nm)).mono ?_; rintro e w7 ⟨rfl, hs⟩; have HS7 : Hid (Sp X wx w0 b g bx a (.slice p a.bs.length c) vk (.slice p6 a.bs.length c6) ((D.sync a.nm).2) (E) w7) := Lib.hid hs; clear hs)
      | (go_at_call 48; refine (Sp.run (X := X) (wx := wx) (w0 := w0) (b := b) (g := g) (bx := bx) (a := a) (vb := .slice p a.bs.length c) (vk := vk) (vl := .slice p6 a.bs.length c6) (D := (D.sync a.nm).2) (E := E) (by (repeat (first | with_reducible exact HS7.out | apply Sp.drew))) (fun wl ht => tr_sync ht GE.out a.nm HA.out.nm)).mono ?_; rintro e w9 ⟨rfl, hs⟩; have HS8 : Hid (Sp X wx w0 b g bx a (.slice p a.bs.length c) vk (.slice p6 a.bs.length c6) ((D.sync a.nm).2) ((E.sync a.nm).2) w9) := Lib.hid hs; clear hs))
  go_wp2
  go_ret
  exact ⟨_, rfl, fun e => by subst e; simp, HS8.out.back⟩

set_option maxRecDepth 100000 in
set_option maxHeartbeats 4000000 in
theorem step_rename (a : Ac) (vb vk : Value) (w0 w : World) (X : Nat → Prop) (wx : World) (b g : Nat) (D E : Dk) (M : Nat) (N : Int) (h : Tw X wx w0 w b g D E) (gd : Good D M N) (ge : Good E M N) (ha : AcOk w0 a vb vk) (hbl : a.bs.length ≤ 2000) (h4 : a.kd % 11 = 3) : Calls Try.prog 24 #[ptr b, ptr g, .agg #[.int .i64 a.kd, .string a.nm, .string a.nt, vb, .int .i64 a.n, vk]] w fun e w' => ∃ bb, e = .returned (.bool bb) ∧ (D = E → bb = true) ∧ Tw X wx w0 w' b g ((D.rename a.nm a.nt).2) ((E.rename a.nm a.nt).2) := by
  have HPK : Hid (∀ w, Calls Try.prog 32 #[.int .i64 a.kd, .int .i64 11] w fun e w' => e = .returned (.int .i64 3) ∧ w = w') := Lib.hid (fun w => by have := pickn_any a.kd 11 w (by omega) (by omega); rwa [h4] at this)
  have GD := Lib.hid gd
  have GE := Lib.hid ge
  have HA := Lib.hid ha
  have HT := Lib.hid h
  have HBL := Lib.hid hbl
  obtain ⟨p, c, rfl, -⟩ := ha.rd.parts
  obtain ⟨ix, hix, hz0, hz1, hz2⟩ := info_parts Try.uinfo
  obtain ⟨wa, hwa⟩ : ∃ wa, wa = w.alloc (.cells #[.int .i64 a.kd, .string a.nm, .string a.nt, .slice p a.bs.length c, .int .i64 a.n, vk] 48) := ⟨_, rfl⟩
  obtain ⟨bx, hbx⟩ : ∃ bx, bx = w.heap.size := ⟨_, rfl⟩
  have hba : Below w.heap.size w wa := by rw [hwa]; exact below_alloc w _
  have HBXA : Hid (Blk wa bx (acC a (.slice p a.bs.length c) vk) 48) := Lib.hid (by rw [hwa, hbx]; exact Blk.made w (acC a (.slice p a.bs.length c) vk) _)
  have HBX : Hid (w.heap.size ≤ bx) := Lib.hid (by omega)
  have HBA := Lib.hid hba
  obtain ⟨wz, hwz⟩ : ∃ wz, wz = wa.alloc (.cells #[] 5) := ⟨_, rfl⟩
  obtain ⟨bz, hbz⟩ : ∃ bz, bz = wa.heap.size := ⟨_, rfl⟩
  have hbza : Below wa.heap.size wa wz := by rw [hwz]; exact below_alloc wa _
  have HBZ := Lib.hid hbza
  have HOW : Hid (wz.ownsRow wa.heap.size 5 1 (.slice (some ⟨bz, 0, none⟩) 0 0) 0 []) := Lib.hid (by rw [hwz, hbz]; exact World.ownsRow_lit (e := 5) (size := 1) wa #[] 0 (Nat.le_refl _) (by simp [maxLen]) rfl)
  have HSR : Hid (Src Try.prog 1 29 (.slice p a.bs.length c) a.bs.length (a.bs.map B) wz) := Lib.hid (Row.src Try.underlying29 (ha.rd.below (below_and h.bel (below_and hba hbza))))
  have y3 := (HBXA.out.kept (below_alloc wa (.cells #[] 5))).cell (j := 3) rfl
  clear h gd ge ha hbl hba hbza h4
  go_enter Try.func24, Try.ntmps24
  go_upto_region 1 with fail
  rw [← hwa, ← hbx]
  clear hwa hbx
  go_upto_region 2 with (at_builtin; rw [← hwz, ← hbz]; refine wpList_app5 rfl _ _ 29 29 rfl wa.heap.size 5 ix (.int .u8 0) 1 1 Try.underlying29 hix hz0 hz1 hz2 rfl _ 0 [] rfl HOW.out _ a.bs.length (a.bs.map B) rfl HSR.out (by have := HBL.out; unfold maxLen; omega) (by have := HBL.out; omega) HBZ.out.size ?_; intro v6 w6 hown6 hgrow6 hn6; have HO6 : Hid (w6.ownsRow wa.heap.size 5 1 v6 a.bs.length (a.bs.map B)) := Lib.hid (by simpa using hown6); have HB6 := Lib.hid (below_grown HBZ.out HBZ.out.size HOW.out hgrow6); clear hown6 hgrow6 hn6)
  have HS : Hid (Sp X wx w0 b g bx a (.slice p a.bs.length c) vk v6 D E w6) := Lib.hid (Sp.make HT.out (below_and HBA.out HB6.out) HBX.out (HBXA.out.kept HB6.out) HO6.out HBA.out.size)
  obtain ⟨p6, c6, rfl, -, -⟩ := own_slice HO6.out
  clear HT y3 HOW HSR HBXA HBX HBA HBZ HO6 HB6 hz0 hz1 hz2 hix
  have y0 := HS.out.blk.cell (j := 0) rfl
  go_wp2_with (go_at_call 32; refine (HPK.out _).mono ?_; rintro e w8 ⟨rfl, rfl⟩)
  go_region_held3 (fun w' => w'.cell? ⟨bx, 1, none⟩ = some (.string a.nm) ∧ w'.cell? ⟨bx, 2, none⟩ = some (.string a.nt))
    ((apply Sp.c12; (repeat (first | with_reducible exact HS8.out | with_reducible exact HS7.out | with_reducible exact HS.out | apply Sp.drew))))
    (first
      | (go_at_call 19; refine (Sp.run (X := X) (wx := wx) (w0 := w0) (b := b) (g := g) (bx := bx) (a := a) (vb := .slice p a.bs.length c) (vk := vk) (vl := .slice p6 a.bs.length c6) (D := D) (E := E) (by (repeat (first | with_reducible exact HS.out | apply Sp.drew))) (fun wl ht => td_rename ht GD.out a.nm HA.out.nm a.nt HA.out.nt)).mono ?_; rintro e w7 ⟨rfl, hs⟩; have HS7 : Hid (Sp X wx w0 b g bx a (.slice p a.bs.length c) vk (.slice p6 a.bs.length c6) ((D.rename a.nm a.nt).2) (E) w7) := Lib.hid hs; clear hs)
      | (go_at_call 49; refine (Sp.run (X := X) (wx := wx) (w0 := w0) (b := b) (g := g) (bx := bx) (a := a) (vb := .slice p a.bs.length c) (vk := vk) (vl := .slice p6 a.bs.length c6) (D := (D.rename a.nm a.nt).2) (E := E) (by (repeat (first | with_reducible exact HS7.out | apply Sp.drew))) (fun wl ht => tr_rename ht GE.out a.nm HA.out.nm a.nt HA.out.nt)).mono ?_; rintro e w9 ⟨rfl, hs⟩; have HS8 : Hid (Sp X wx w0 b g bx a (.slice p a.bs.length c) vk (.slice p6 a.bs.length c6) ((D.rename a.nm a.nt).2) ((E.rename a.nm a.nt).2) w9) := Lib.hid hs; clear hs))
  go_wp2
  go_ret
  exact ⟨_, rfl, fun e => by subst e; simp, HS8.out.back⟩

set_option maxRecDepth 100000 in
set_option maxHeartbeats 4000000 in
theorem step_remove (a : Ac) (vb vk : Value) (w0 w : World) (X : Nat → Prop) (wx : World) (b g : Nat) (D E : Dk) (M : Nat) (N : Int) (h : Tw X wx w0 w b g D E) (gd : Good D M N) (ge : Good E M N) (ha : AcOk w0 a vb vk) (hbl : a.bs.length ≤ 2000) (h4 : a.kd % 11 = 4) : Calls Try.prog 24 #[ptr b, ptr g, .agg #[.int .i64 a.kd, .string a.nm, .string a.nt, vb, .int .i64 a.n, vk]] w fun e w' => ∃ bb, e = .returned (.bool bb) ∧ (D = E → bb = true) ∧ Tw X wx w0 w' b g ((D.remove a.nm).2) ((E.remove a.nm).2) := by
  have HPK : Hid (∀ w, Calls Try.prog 32 #[.int .i64 a.kd, .int .i64 11] w fun e w' => e = .returned (.int .i64 4) ∧ w = w') := Lib.hid (fun w => by have := pickn_any a.kd 11 w (by omega) (by omega); rwa [h4] at this)
  have GD := Lib.hid gd
  have GE := Lib.hid ge
  have HA := Lib.hid ha
  have HT := Lib.hid h
  have HBL := Lib.hid hbl
  obtain ⟨p, c, rfl, -⟩ := ha.rd.parts
  obtain ⟨ix, hix, hz0, hz1, hz2⟩ := info_parts Try.uinfo
  obtain ⟨wa, hwa⟩ : ∃ wa, wa = w.alloc (.cells #[.int .i64 a.kd, .string a.nm, .string a.nt, .slice p a.bs.length c, .int .i64 a.n, vk] 48) := ⟨_, rfl⟩
  obtain ⟨bx, hbx⟩ : ∃ bx, bx = w.heap.size := ⟨_, rfl⟩
  have hba : Below w.heap.size w wa := by rw [hwa]; exact below_alloc w _
  have HBXA : Hid (Blk wa bx (acC a (.slice p a.bs.length c) vk) 48) := Lib.hid (by rw [hwa, hbx]; exact Blk.made w (acC a (.slice p a.bs.length c) vk) _)
  have HBX : Hid (w.heap.size ≤ bx) := Lib.hid (by omega)
  have HBA := Lib.hid hba
  obtain ⟨wz, hwz⟩ : ∃ wz, wz = wa.alloc (.cells #[] 5) := ⟨_, rfl⟩
  obtain ⟨bz, hbz⟩ : ∃ bz, bz = wa.heap.size := ⟨_, rfl⟩
  have hbza : Below wa.heap.size wa wz := by rw [hwz]; exact below_alloc wa _
  have HBZ := Lib.hid hbza
  have HOW : Hid (wz.ownsRow wa.heap.size 5 1 (.slice (some ⟨bz, 0, none⟩) 0 0) 0 []) := Lib.hid (by rw [hwz, hbz]; exact World.ownsRow_lit (e := 5) (size := 1) wa #[] 0 (Nat.le_refl _) (by simp [maxLen]) rfl)
  have HSR : Hid (Src Try.prog 1 29 (.slice p a.bs.length c) a.bs.length (a.bs.map B) wz) := Lib.hid (Row.src Try.underlying29 (ha.rd.below (below_and h.bel (below_and hba hbza))))
  have y3 := (HBXA.out.kept (below_alloc wa (.cells #[] 5))).cell (j := 3) rfl
  clear h gd ge ha hbl hba hbza h4
  go_enter Try.func24, Try.ntmps24
  go_upto_region 1 with fail
  rw [← hwa, ← hbx]
  clear hwa hbx
  go_upto_region 2 with (at_builtin; rw [← hwz, ← hbz]; refine wpList_app5 rfl _ _ 29 29 rfl wa.heap.size 5 ix (.int .u8 0) 1 1 Try.underlying29 hix hz0 hz1 hz2 rfl _ 0 [] rfl HOW.out _ a.bs.length (a.bs.map B) rfl HSR.out (by have := HBL.out; unfold maxLen; omega) (by have := HBL.out; omega) HBZ.out.size ?_; intro v6 w6 hown6 hgrow6 hn6; have HO6 : Hid (w6.ownsRow wa.heap.size 5 1 v6 a.bs.length (a.bs.map B)) := Lib.hid (by simpa using hown6); have HB6 := Lib.hid (below_grown HBZ.out HBZ.out.size HOW.out hgrow6); clear hown6 hgrow6 hn6)
  have HS : Hid (Sp X wx w0 b g bx a (.slice p a.bs.length c) vk v6 D E w6) := Lib.hid (Sp.make HT.out (below_and HBA.out HB6.out) HBX.out (HBXA.out.kept HB6.out) HO6.out HBA.out.size)
  obtain ⟨p6, c6, rfl, -, -⟩ := own_slice HO6.out
  clear HT y3 HOW HSR HBXA HBX HBA HBZ HO6 HB6 hz0 hz1 hz2 hix
  have y0 := HS.out.blk.cell (j := 0) rfl
  go_wp2_with (go_at_call 32; refine (HPK.out _).mono ?_; rintro e w8 ⟨rfl, rfl⟩)
  go_region_held3 (fun w' => w'.cell? ⟨bx, 1, none⟩ = some (.string a.nm))
    ((apply Sp.c1; (repeat (first | with_reducible exact HS8.out | with_reducible exact HS7.out | with_reducible exact HS.out | apply Sp.drew))))
    (first
      | (go_at_call 26; refine (Sp.run (X := X) (wx := wx) (w0 := w0) (b := b) (g := g) (bx := bx) (a := a) (vb := .slice p a.bs.length c) (vk := vk) (vl := .slice p6 a.bs.length c6) (D := D) (E := E) (by (repeat (first | with_reducible exact HS.out | apply Sp.drew))) (fun wl ht => td_remove ht GD.out a.nm HA.out.nm)).mono ?_; rintro e w7 ⟨rfl, hs⟩; have HS7 : Hid (Sp X wx w0 b g bx a (.slice p a.bs.length c) vk (.slice p6 a.bs.length c6) ((D.remove a.nm).2) (E) w7) := Lib.hid hs; clear hs)
      | (go_at_call 50; refine (Sp.run (X := X) (wx := wx) (w0 := w0) (b := b) (g := g) (bx := bx) (a := a) (vb := .slice p a.bs.length c) (vk := vk) (vl := .slice p6 a.bs.length c6) (D := (D.remove a.nm).2) (E := E) (by (repeat (first | with_reducible exact HS7.out | apply Sp.drew))) (fun wl ht => tr_remove ht GE.out a.nm HA.out.nm)).mono ?_; rintro e w9 ⟨rfl, hs⟩; have HS8 : Hid (Sp X wx w0 b g bx a (.slice p a.bs.length c) vk (.slice p6 a.bs.length c6) ((D.remove a.nm).2) ((E.remove a.nm).2) w9) := Lib.hid hs; clear hs))
  go_wp2
  go_ret
  exact ⟨_, rfl, fun e => by subst e; simp, HS8.out.back⟩

set_option maxRecDepth 100000 in
set_option maxHeartbeats 4000000 in
theorem step_fuse (a : Ac) (vb vk : Value) (w0 w : World) (X : Nat → Prop) (wx : World) (b g : Nat) (D E : Dk) (M : Nat) (N : Int) (h : Tw X wx w0 w b g D E) (gd : Good D M N) (ge : Good E M N) (ha : AcOk w0 a vb vk) (hbl : a.bs.length ≤ 2000) (h4 : a.kd % 11 = 5) : Calls Try.prog 24 #[ptr b, ptr g, .agg #[.int .i64 a.kd, .string a.nm, .string a.nt, vb, .int .i64 a.n, vk]] w fun e w' => ∃ bb, e = .returned (.bool bb) ∧ (D = E → bb = true) ∧ Tw X wx w0 w' b g ((D.setFuse a.n).2) ((E.setFuse a.n).2) := by
  have HPK : Hid (∀ w, Calls Try.prog 32 #[.int .i64 a.kd, .int .i64 11] w fun e w' => e = .returned (.int .i64 5) ∧ w = w') := Lib.hid (fun w => by have := pickn_any a.kd 11 w (by omega) (by omega); rwa [h4] at this)
  have GD := Lib.hid gd
  have GE := Lib.hid ge
  have HA := Lib.hid ha
  have HT := Lib.hid h
  have HBL := Lib.hid hbl
  obtain ⟨p, c, rfl, -⟩ := ha.rd.parts
  obtain ⟨ix, hix, hz0, hz1, hz2⟩ := info_parts Try.uinfo
  obtain ⟨wa, hwa⟩ : ∃ wa, wa = w.alloc (.cells #[.int .i64 a.kd, .string a.nm, .string a.nt, .slice p a.bs.length c, .int .i64 a.n, vk] 48) := ⟨_, rfl⟩
  obtain ⟨bx, hbx⟩ : ∃ bx, bx = w.heap.size := ⟨_, rfl⟩
  have hba : Below w.heap.size w wa := by rw [hwa]; exact below_alloc w _
  have HBXA : Hid (Blk wa bx (acC a (.slice p a.bs.length c) vk) 48) := Lib.hid (by rw [hwa, hbx]; exact Blk.made w (acC a (.slice p a.bs.length c) vk) _)
  have HBX : Hid (w.heap.size ≤ bx) := Lib.hid (by omega)
  have HBA := Lib.hid hba
  obtain ⟨wz, hwz⟩ : ∃ wz, wz = wa.alloc (.cells #[] 5) := ⟨_, rfl⟩
  obtain ⟨bz, hbz⟩ : ∃ bz, bz = wa.heap.size := ⟨_, rfl⟩
  have hbza : Below wa.heap.size wa wz := by rw [hwz]; exact below_alloc wa _
  have HBZ := Lib.hid hbza
  have HOW : Hid (wz.ownsRow wa.heap.size 5 1 (.slice (some ⟨bz, 0, none⟩) 0 0) 0 []) := Lib.hid (by rw [hwz, hbz]; exact World.ownsRow_lit (e := 5) (size := 1) wa #[] 0 (Nat.le_refl _) (by simp [maxLen]) rfl)
  have HSR : Hid (Src Try.prog 1 29 (.slice p a.bs.length c) a.bs.length (a.bs.map B) wz) := Lib.hid (Row.src Try.underlying29 (ha.rd.below (below_and h.bel (below_and hba hbza))))
  have y3 := (HBXA.out.kept (below_alloc wa (.cells #[] 5))).cell (j := 3) rfl
  clear h gd ge ha hbl hba hbza h4
  go_enter Try.func24, Try.ntmps24
  go_upto_region 1 with fail
  rw [← hwa, ← hbx]
  clear hwa hbx
  go_upto_region 2 with (at_builtin; rw [← hwz, ← hbz]; refine wpList_app5 rfl _ _ 29 29 rfl wa.heap.size 5 ix (.int .u8 0) 1 1 Try.underlying29 hix hz0 hz1 hz2 rfl _ 0 [] rfl HOW.out _ a.bs.length (a.bs.map B) rfl HSR.out (by have := HBL.out; unfold maxLen; omega) (by have := HBL.out; omega) HBZ.out.size ?_; intro v6 w6 hown6 hgrow6 hn6; have HO6 : Hid (w6.ownsRow wa.heap.size 5 1 v6 a.bs.length (a.bs.map B)) := Lib.hid (by simpa using hown6); have HB6 := Lib.hid (below_grown HBZ.out HBZ.out.size HOW.out hgrow6); clear hown6 hgrow6 hn6)
  have HS : Hid (Sp X wx w0 b g bx a (.slice p a.bs.length c) vk v6 D E w6) := Lib.hid (Sp.make HT.out (below_and HBA.out HB6.out) HBX.out (HBXA.out.kept HB6.out) HO6.out HBA.out.size)
  obtain ⟨p6, c6, rfl, -, -⟩ := own_slice HO6.out
  clear HT y3 HOW HSR HBXA HBX HBA HBZ HO6 HB6 hz0 hz1 hz2 hix
  have y0 := HS.out.blk.cell (j := 0) rfl
  go_wp2_with (go_at_call 32; refine (HPK.out _).mono ?_; rintro e w8 ⟨rfl, rfl⟩)
  go_region_held3 (fun w' => w'.cell? ⟨bx, 4, none⟩ = some (.int .i64 a.n))
    ((apply Sp.c4; (repeat (first | with_reducible exact HS8.out | with_reducible exact HS7.out | with_reducible exact HS.out | apply Sp.drew))))
    (first
      | (go_at_call 16; refine (Sp.run (X := X) (wx := wx) (w0 := w0) (b := b) (g := g) (bx := bx) (a := a) (vb := .slice p a.bs.length c) (vk := vk) (vl := .slice p6 a.bs.length c6) (D := D) (E := E) (by (repeat (first | with_reducible exact HS.out | apply Sp.drew))) (fun wl ht => td_fuse ht a.n)).mono ?_; rintro e w7 ⟨rfl, hs⟩; have HS7 : Hid (Sp X wx w0 b g bx a (.slice p a.bs.length c) vk (.slice p6 a.bs.length c6) ((D.setFuse a.n).2) (E) w7) := Lib.hid hs; clear hs)
      | (go_at_call 51; refine (Sp.run (X := X) (wx := wx) (w0 := w0) (b := b) (g := g) (bx := bx) (a := a) (vb := .slice p a.bs.length c) (vk := vk) (vl := .slice p6 a.bs.length c6) (D := (D.setFuse a.n).2) (E := E) (by (repeat (first | with_reducible exact HS7.out | apply Sp.drew))) (fun wl ht => tr_fuse ht a.n)).mono ?_; rintro e w9 ⟨rfl, hs⟩; have HS8 : Hid (Sp X wx w0 b g bx a (.slice p a.bs.length c) vk (.slice p6 a.bs.length c6) ((D.setFuse a.n).2) ((E.setFuse a.n).2) w9) := Lib.hid hs; clear hs))
  go_wp2
  go_ret
  exact ⟨_, rfl, fun e => by subst e; simp, HS8.out.back⟩

set_option maxRecDepth 100000 in
set_option maxHeartbeats 4000000 in
theorem step_append_eq (a : Ac) (vb vk : Value) (w0 w : World) (X : Nat → Prop) (wx : World) (b g : Nat) (D E : Dk) (M : Nat) (N : Int) (h : Tw X wx w0 w b g D E) (gd : Good D M N) (ge : Good E M N) (ha : AcOk w0 a vb vk) (hbl : a.bs.length ≤ 2000) (h4 : a.kd % 11 = 1) (hq : ((D.append a.nm a.bs).1 == (E.append a.nm a.bs).1) = true) : Calls Try.prog 24 #[ptr b, ptr g, .agg #[.int .i64 a.kd, .string a.nm, .string a.nt, vb, .int .i64 a.n, vk]] w fun e w' => ∃ bb, e = .returned (.bool bb) ∧ (D = E → bb = true) ∧ Tw X wx w0 w' b g ((D.append a.nm a.bs).2) ((E.append a.nm a.bs).2) := by
  have HPK : Hid (∀ w, Calls Try.prog 32 #[.int .i64 a.kd, .int .i64 11] w fun e w' => e = .returned (.int .i64 1) ∧ w = w') := Lib.hid (fun w => by have := pickn_any a.kd 11 w (by omega) (by omega); rwa [h4] at this)
  have GD := Lib.hid gd
  have GE := Lib.hid ge
  have HA := Lib.hid ha
  have HT := Lib.hid h
  have HBL := Lib.hid hbl
  obtain ⟨p, c, rfl, -⟩ := ha.rd.parts
  obtain ⟨ix, hix, hz0, hz1, hz2⟩ := info_parts Try.uinfo
  obtain ⟨wa, hwa⟩ : ∃ wa, wa = w.alloc (.cells #[.int .i64 a.kd, .string a.nm, .string a.nt, .slice p a.bs.length c, .int .i64 a.n, vk] 48) := ⟨_, rfl⟩
  obtain ⟨bx, hbx⟩ : ∃ bx, bx = w.heap.size := ⟨_, rfl⟩
  have hba : Below w.heap.size w wa := by rw [hwa]; exact below_alloc w _
  have HBXA : Hid (Blk wa bx (acC a (.slice p a.bs.length c) vk) 48) := Lib.hid (by rw [hwa, hbx]; exact Blk.made w (acC a (.slice p a.bs.length c) vk) _)
  have HBX : Hid (w.heap.size ≤ bx) := Lib.hid (by omega)
  have HBA := Lib.hid hba
  obtain ⟨wz, hwz⟩ : ∃ wz, wz = wa.alloc (.cells #[] 5) := ⟨_, rfl⟩
  obtain ⟨bz, hbz⟩ : ∃ bz, bz = wa.heap.size := ⟨_, rfl⟩
  have hbza : Below wa.heap.size wa wz := by rw [hwz]; exact below_alloc wa _
  have HBZ := Lib.hid hbza
  have HOW : Hid (wz.ownsRow wa.heap.size 5 1 (.slice (some ⟨bz, 0, none⟩) 0 0) 0 []) := Lib.hid (by rw [hwz, hbz]; exact World.ownsRow_lit (e := 5) (size := 1) wa #[] 0 (Nat.le_refl _) (by simp [maxLen]) rfl)
  have HSR : Hid (Src Try.prog 1 29 (.slice p a.bs.length c) a.bs.length (a.bs.map B) wz) := Lib.hid (Row.src Try.underlying29 (ha.rd.below (below_and h.bel (below_and hba hbza))))
  have y3 := (HBXA.out.kept (below_alloc wa (.cells #[] 5))).cell (j := 3) rfl
  clear h gd ge ha hbl hba hbza h4
  go_enter Try.func24, Try.ntmps24
  go_upto_region 1 with fail
  rw [← hwa, ← hbx]
  clear hwa hbx
  go_upto_region 2 with (at_builtin; rw [← hwz, ← hbz]; refine wpList_app5 rfl _ _ 29 29 rfl wa.heap.size 5 ix (.int .u8 0) 1 1 Try.underlying29 hix hz0 hz1 hz2 rfl _ 0 [] rfl HOW.out _ a.bs.length (a.bs.map B) rfl HSR.out (by have := HBL.out; unfold maxLen; omega) (by have := HBL.out; omega) HBZ.out.size ?_; intro v6 w6 hown6 hgrow6 hn6; have HO6 : Hid (w6.ownsRow wa.heap.size 5 1 v6 a.bs.length (a.bs.map B)) := Lib.hid (by simpa using hown6); have HB6 := Lib.hid (below_grown HBZ.out HBZ.out.size HOW.out hgrow6); clear hown6 hgrow6 hn6)
  have HS : Hid (Sp X wx w0 b g bx a (.slice p a.bs.length c) vk v6 D E w6) := Lib.hid (Sp.make HT.out (below_and HBA.out HB6.out) HBX.out (HBXA.out.kept HB6.out) HO6.out HBA.out.size)
  obtain ⟨p6, c6, rfl, -, -⟩ := own_slice HO6.out
  clear HT y3 HOW HSR HBXA HBX HBA HBZ HO6 HB6 hz0 hz1 hz2 hix
  have y0 := HS.out.blk.cell (j := 0) rfl
  have qb : (a.bs == a.bs) = true := by simp
  go_wp2_with (go_at_call 32; refine (HPK.out _).mono ?_; rintro e w8 ⟨rfl, rfl⟩)
  go_region_held3 (fun w' => w'.cell? ⟨bx, 1, none⟩ = some (.string a.nm) ∧ w'.cell? ⟨bx, 3, none⟩ = some (.slice p a.bs.length c))
    ((apply Sp.c13; (repeat (first | with_reducible exact HS9.out | with_reducible exact HS8.out | with_reducible exact HS7.out | with_reducible exact HS.out | apply Sp.drew))))
    (first
      | (go_at_call 11; refine (Sp.run (X := X) (wx := wx) (w0 := w0) (b := b) (g := g) (bx := bx) (a := a) (vb := .slice p a.bs.length c) (vk := vk) (vl := .slice p6 a.bs.length c6) (D := D) (E := E) (by (repeat (first | with_reducible exact HS.out | apply Sp.drew))) (fun wl ht => td_append ht GD.out a.nm HA.out.nm _ a.bs (Sp.lent (X := X) (wx := wx) (w0 := w0) (b := b) (g := g) (bx := bx) (a := a) (vb := .slice p a.bs.length c) (vk := vk) (vl := .slice p6 a.bs.length c6) (D := D) (E := E) (by (repeat (first | with_reducible exact HS.out | apply Sp.drew)))).rd HBL.out (fun _ k hk => .inl (.inr (.inr hk))))).mono ?_; rintro e w7 ⟨rfl, hs⟩; have HS7 : Hid (Sp X wx w0 b g bx a (.slice p a.bs.length c) vk (.slice p6 a.bs.length c6) ((D.append a.nm a.bs).2) (E) w7) := Lib.hid hs; clear hs)
      | (go_at_call 47; refine (Sp.run (X := X) (wx := wx) (w0 := w0) (b := b) (g := g) (bx := bx) (a := a) (vb := .slice p a.bs.length c) (vk := vk) (vl := .slice p6 a.bs.length c6) (D := (D.append a.nm a.bs).2) (E := E) (by (repeat (first | with_reducible exact HS7.out | apply Sp.drew))) (fun wl ht => tr_append ht GE.out a.nm HA.out.nm _ a.bs (HA.out.rd.below ht.bel) HBL.out (fun hne k hk => .inr (row_blk HA.out.rd (by simpa using List.length_pos_iff.2 hne) hk)))).mono ?_; rintro e w9 ⟨rfl, hs⟩; have HS8 : Hid (Sp X wx w0 b g bx a (.slice p a.bs.length c) vk (.slice p6 a.bs.length c6) ((D.append a.nm a.bs).2) ((E.append a.nm a.bs).2) w9) := Lib.hid hs; clear hs)
      | (go_at_call 31; refine (opq2 (same_any _ _ a.bs a.bs _ (Sp.lent (X := X) (wx := wx) (w0 := w0) (b := b) (g := g) (bx := bx) (a := a) (vb := .slice p a.bs.length c) (vk := vk) (vl := .slice p6 a.bs.length c6) (D := (D.append a.nm a.bs).2) (E := (E.append a.nm a.bs).2) (by (repeat (first | with_reducible exact HS8.out | apply Sp.drew)))).rd (HA.out.rd.below (Sp.bel (X := X) (wx := wx) (w0 := w0) (b := b) (g := g) (bx := bx) (a := a) (vb := .slice p a.bs.length c) (vk := vk) (vl := .slice p6 a.bs.length c6) (D := (D.append a.nm a.bs).2) (E := (E.append a.nm a.bs).2) (by (repeat (first | with_reducible exact HS8.out | apply Sp.drew))))))).mono ?_; rw [qb]; rintro e w10 ⟨rfl, hb⟩; have HS9 : Hid (Sp X wx w0 b g bx a (.slice p a.bs.length c) vk (.slice p6 a.bs.length c6) ((D.append a.nm a.bs).2) ((E.append a.nm a.bs).2) w10) := Lib.hid (Sp.kept (by (repeat (first | with_reducible exact HS8.out | apply Sp.drew))) hb); clear hb))
  go_wp2
  go_ret
  exact ⟨_, rfl, fun _ => rfl, HS9.out.back⟩

set_option maxRecDepth 100000 in
set_option maxHeartbeats 4000000 in
theorem step_append_ne (a : Ac) (vb vk : Value) (w0 w : World) (X : Nat → Prop) (wx : World) (b g : Nat) (D E : Dk) (M : Nat) (N : Int) (h : Tw X wx w0 w b g D E) (gd : Good D M N) (ge : Good E M N) (ha : AcOk w0 a vb vk) (hbl : a.bs.length ≤ 2000) (h4 : a.kd % 11 = 1) (hq : ((D.append a.nm a.bs).1 == (E.append a.nm a.bs).1) = false) : Calls Try.prog 24 #[ptr b, ptr g, .agg #[.int .i64 a.kd, .string a.nm, .string a.nt, vb, .int .i64 a.n, vk]] w fun e w' => ∃ bb, e = .returned (.bool bb) ∧ (D = E → bb = true) ∧ Tw X wx w0 w' b g ((D.append a.nm a.bs).2) ((E.append a.nm a.bs).2) := by
  have HPK : Hid (∀ w, Calls Try.prog 32 #[.int .i64 a.kd, .int .i64 11] w fun e w' => e = .returned (.int .i64 1) ∧ w = w') := Lib.hid (fun w => by have := pickn_any a.kd 11 w (by omega) (by omega); rwa [h4] at this)
  have GD := Lib.hid gd
  have GE := Lib.hid ge
  have HA := Lib.hid ha
  have HT := Lib.hid h
  have HBL := Lib.hid hbl
  obtain ⟨p, c, rfl, -⟩ := ha.rd.parts
  obtain ⟨ix, hix, hz0, hz1, hz2⟩ := info_parts Try.uinfo
  obtain ⟨wa, hwa⟩ : ∃ wa, wa = w.alloc (.cells #[.int .i64 a.kd, .string a.nm, .string a.nt, .slice p a.bs.length c, .int .i64 a.n, vk] 48) := ⟨_, rfl⟩
  obtain ⟨bx, hbx⟩ : ∃ bx, bx = w.heap.size := ⟨_, rfl⟩
  have hba : Below w.heap.size w wa := by rw [hwa]; exact below_alloc w _
  have HBXA : Hid (Blk wa bx (acC a (.slice p a.bs.length c) vk) 48) := Lib.hid (by rw [hwa, hbx]; exact Blk.made w (acC a (.slice p a.bs.length c) vk) _)
  have HBX : Hid (w.heap.size ≤ bx) := Lib.hid (by omega)
  have HBA := Lib.hid hba
  obtain ⟨wz, hwz⟩ : ∃ wz, wz = wa.alloc (.cells #[] 5) := ⟨_, rfl⟩
  obtain ⟨bz, hbz⟩ : ∃ bz, bz = wa.heap.size := ⟨_, rfl⟩
  have hbza : Below wa.heap.size wa wz := by rw [hwz]; exact below_alloc wa _
  have HBZ := Lib.hid hbza
  have HOW : Hid (wz.ownsRow wa.heap.size 5 1 (.slice (some ⟨bz, 0, none⟩) 0 0) 0 []) := Lib.hid (by rw [hwz, hbz]; exact World.ownsRow_lit (e := 5) (size := 1) wa #[] 0 (Nat.le_refl _) (by simp [maxLen]) rfl)
  have HSR : Hid (Src Try.prog 1 29 (.slice p a.bs.length c) a.bs.length (a.bs.map B) wz) := Lib.hid (Row.src Try.underlying29 (ha.rd.below (below_and h.bel (below_and hba hbza))))
  have y3 := (HBXA.out.kept (below_alloc wa (.cells #[] 5))).cell (j := 3) rfl
  clear h gd ge ha hbl hba hbza h4
  go_enter Try.func24, Try.ntmps24
  go_upto_region 1 with fail
  rw [← hwa, ← hbx]
  clear hwa hbx
  go_upto_region 2 with (at_builtin; rw [← hwz, ← hbz]; refine wpList_app5 rfl _ _ 29 29 rfl wa.heap.size 5 ix (.int .u8 0) 1 1 Try.underlying29 hix hz0 hz1 hz2 rfl _ 0 [] rfl HOW.out _ a.bs.length (a.bs.map B) rfl HSR.out (by have := HBL.out; unfold maxLen; omega) (by have := HBL.out; omega) HBZ.out.size ?_; intro v6 w6 hown6 hgrow6 hn6; have HO6 : Hid (w6.ownsRow wa.heap.size 5 1 v6 a.bs.length (a.bs.map B)) := Lib.hid (by simpa using hown6); have HB6 := Lib.hid (below_grown HBZ.out HBZ.out.size HOW.out hgrow6); clear hown6 hgrow6 hn6)
  have HS : Hid (Sp X wx w0 b g bx a (.slice p a.bs.length c) vk v6 D E w6) := Lib.hid (Sp.make HT.out (below_and HBA.out HB6.out) HBX.out (HBXA.out.kept HB6.out) HO6.out HBA.out.size)
  obtain ⟨p6, c6, rfl, -, -⟩ := own_slice HO6.out
  clear HT y3 HOW HSR HBXA HBX HBA HBZ HO6 HB6 hz0 hz1 hz2 hix
  have y0 := HS.out.blk.cell (j := 0) rfl
  have HSD := Lib.hid HS.out.drew
  go_wp2_with (go_at_call 32; refine (HPK.out _).mono ?_; rintro e w8 ⟨rfl, rfl⟩)
  refine wp_region_held_drew (S := fun w' => w'.cell? ⟨bx, 1, none⟩ = some (.string a.nm) ∧ w'.cell? ⟨bx, 3, none⟩ = some (.slice p a.bs.length c)) rfl ⟨HSD.out.c13.1, HSD.out.c13.2⟩ (fun hHeld => ?_)
  refine wpAnyH_take (i := 0) (v := ?v1) rfl (by kernel_rfl) (by kernel_rfl) (by kernel_rfl) (fun _ _ _ h => h) (Or.inl ⟨by rfl, ?hy1⟩) (by assumption) ?rest1
  case hy1 => (intro _ hSw; (try dsimp only at hSw); go_simp; (try with_reducible rfl))
  (try simp only [Act.put]); (try simp only [List.setIfInBounds_toArray]); (try simp only [List.set_cons_succ]); (try simp only [List.set_cons_zero])
  refine wpAnyH_take (i := 1) (v := ?v2) rfl (by kernel_rfl) (by kernel_rfl) (by kernel_rfl) (fun _ _ _ h => h) (Or.inl ⟨by rfl, ?hy2⟩) (by assumption) ?rest2
  case hy2 => (intro _ hSw; (try dsimp only at hSw); go_simp; (try with_reducible rfl))
  (try simp only [Act.put]); (try simp only [List.setIfInBounds_toArray]); (try simp only [List.set_cons_succ]); (try simp only [List.set_cons_zero])
  refine wpAnyH_take (i := 2) (v := ?v3) rfl (by kernel_rfl) (by kernel_rfl) (by kernel_rfl) (fun _ _ _ h => h) (Or.inl ⟨by rfl, ?hy3⟩) (by assumption) ?rest3
  case hy3 => (intro _ hSw; (try dsimp only at hSw); go_simp; (try with_reducible rfl))
  (try simp only [Act.put]); (try simp only [List.setIfInBounds_toArray]); (try simp only [List.set_cons_succ]); (try simp only [List.set_cons_zero])
  refine wpAnyH_take (i := 3) (v := ?v4) rfl (by kernel_rfl) (by kernel_rfl) (by kernel_rfl) (fun _ _ _ h => h) (Or.inl ⟨by rfl, ?hy4⟩) (by assumption) ?rest4
  case hy4 => (intro _ hSw; (try dsimp only at hSw); go_simp; (try with_reducible rfl))
  (try simp only [Act.put]); (try simp only [List.setIfInBounds_toArray]); (try simp only [List.set_cons_succ]); (try simp only [List.set_cons_zero])
  refine wpAnyH_take (i := 5) (v := ?v5) rfl (by kernel_rfl) (by kernel_rfl) (by kernel_rfl) (fun _ _ _ h => h) (Or.inl ⟨by rfl, ?hy5⟩) (by assumption) ?rest5
  case hy5 => (intro _ hSw; (try dsimp only at hSw); go_simp; (try with_reducible rfl))
  (try simp only [Act.put]); (try simp only [List.setIfInBounds_toArray]); (try simp only [List.set_cons_succ]); (try simp only [List.set_cons_zero])
  refine wpAnyH_take (i := 6) (v := ?v6) rfl (by kernel_rfl) (by kernel_rfl) (by kernel_rfl) (fun _ _ _ h => h) (Or.inl ⟨by rfl, ?hy6⟩) (by assumption) ?rest6
  case hy6 => (intro _ hSw; (try dsimp only at hSw); go_simp; (try with_reducible rfl))
  (try simp only [Act.put]); (try simp only [List.setIfInBounds_toArray]); (try simp only [List.set_cons_succ]); (try simp only [List.set_cons_zero])
  refine wpAnyH_take (i := 7) (v := ?v7) rfl (by kernel_rfl) (by kernel_rfl) (by kernel_rfl) (fun _ _ _ h => h) (Or.inl ⟨by rfl, ?hy7⟩) (by assumption) ?rest7
  case hy7 => (intro _ hSw; (try dsimp only at hSw); go_simp; (try with_reducible rfl))
  (try simp only [Act.put]); (try simp only [List.setIfInBounds_toArray]); (try simp only [List.set_cons_succ]); (try simp only [List.set_cons_zero])
  refine wpAnyH_take (i := 8) (v := ?v8) rfl (by kernel_rfl) (by kernel_rfl) (by kernel_rfl) (fun _ _ _ h => h) (Or.inl ⟨by rfl, ?hy8⟩) (by assumption) ?rest8
  case hy8 => (intro _ hSw; (try dsimp only at hSw); go_simp; (try with_reducible rfl))
  (try simp only [Act.put]); (try simp only [List.setIfInBounds_toArray]); (try simp only [List.set_cons_succ]); (try simp only [List.set_cons_zero])
  refine wpAnyH_take (i := 9) (v := ?v9) rfl (by kernel_rfl) (by kernel_rfl) (by kernel_rfl) (fun _ _ _ h => h) (Or.inl ⟨by rfl, ?hy9⟩) (by assumption) ?rest9
  case hy9 => (intro _ hSw; (try dsimp only at hSw); go_simp; (try with_reducible rfl))
  (try simp only [Act.put]); (try simp only [List.setIfInBounds_toArray]); (try simp only [List.set_cons_succ]); (try simp only [List.set_cons_zero])
  refine wpAnyH_ready (rs := [4]) (by kernel_rfl) (by simp) ?_
  refine (AllReadyH.cons rfl (fun K hK => ?_) AllReadyH.nil)
  (try simp only [List.getElem_toArray]); (try simp only [List.getElem_cons_succ]); (try simp only [List.getElem_cons_zero])
  go_simp
  go_at_call 11; refine (Sp.run (X := X) (wx := wx) (w0 := w0) (b := b) (g := g) (bx := bx) (a := a) (vb := .slice p a.bs.length c) (vk := vk) (vl := .slice p6 a.bs.length c6) (D := D) (E := E) (by (repeat (first | with_reducible exact HSD.out | apply Sp.drew))) (fun wl ht => td_append ht GD.out a.nm HA.out.nm _ a.bs (Sp.lent (X := X) (wx := wx) (w0 := w0) (b := b) (g := g) (bx := bx) (a := a) (vb := .slice p a.bs.length c) (vk := vk) (vl := .slice p6 a.bs.length c6) (D := D) (E := E) (by (repeat (first | with_reducible exact HSD.out | apply Sp.drew)))).rd HBL.out (fun _ k hk => .inl (.inr (.inr hk))))).mono ?_; rintro e w7 ⟨rfl, hs⟩; have HS7 : Hid (Sp X wx w0 b g bx a (.slice p a.bs.length c) vk (.slice p6 a.bs.length c6) ((D.append a.nm a.bs).2) (E) w7) := Lib.hid hs; clear hs
  refine hK.out _ _ ⟨HS7.out.c13.1, HS7.out.c13.2⟩ (fun hS1 => ?_)
  clear hK K hHeld
  (try simp only [Act.put]); (try simp only [List.setIfInBounds_toArray]); (try simp only [List.set_cons_succ]); (try simp only [List.set_cons_zero])
  refine wpAnyH_ready (rs := [10]) (by kernel_rfl) (by simp) ?_
  refine (AllReadyH.cons rfl (fun K hK => ?_) AllReadyH.nil)
  (try simp only [List.getElem_toArray]); (try simp only [List.getElem_cons_succ]); (try simp only [List.getElem_cons_zero])
  go_simp
  go_at_call 47; refine (Sp.run (X := X) (wx := wx) (w0 := w0) (b := b) (g := g) (bx := bx) (a := a) (vb := .slice p a.bs.length c) (vk := vk) (vl := .slice p6 a.bs.length c6) (D := (D.append a.nm a.bs).2) (E := E) (by (repeat (first | with_reducible exact HS7.out | apply Sp.drew))) (fun wl ht => tr_append ht GE.out a.nm HA.out.nm _ a.bs (HA.out.rd.below ht.bel) HBL.out (fun hne k hk => .inr (row_blk HA.out.rd (by simpa using List.length_pos_iff.2 hne) hk)))).mono ?_; rintro e w9 ⟨rfl, hs⟩; have HS8 : Hid (Sp X wx w0 b g bx a (.slice p a.bs.length c) vk (.slice p6 a.bs.length c6) ((D.append a.nm a.bs).2) ((E.append a.nm a.bs).2) w9) := Lib.hid hs; clear hs
  refine hK.out _ _ ⟨HS8.out.c13.1, HS8.out.c13.2⟩ (fun hS2 => ?_)
  clear hK K hS1
  (try simp only [Act.put]); (try simp only [List.setIfInBounds_toArray]); (try simp only [List.set_cons_succ]); (try simp only [List.set_cons_zero])
  refine wpAnyH_take (i := 11) (v := ?v10) rfl (by kernel_rfl) (by kernel_rfl) (by kernel_rfl) (fun _ _ _ h => h) (Or.inl ⟨by rfl, ?hy10⟩) (by assumption) ?rest10
  case hy10 => (intro _ hSw; (try dsimp only at hSw); go_simp; (try with_reducible rfl))
  (try simp only [Act.put]); (try simp only [List.setIfInBounds_toArray]); (try simp only [List.set_cons_succ]); (try simp only [List.set_cons_zero])
  refine wpAnyH_take (i := 12) (v := ?v11) rfl (by kernel_rfl) (by kernel_rfl) (by kernel_rfl) (fun _ _ _ h => h) (Or.inl ⟨by rfl, ?hy11⟩) (by assumption) ?rest11
  case hy11 => (intro _ hSw; (try dsimp only at hSw); go_simp; (try with_reducible rfl))
  (try simp only [Act.put]); (try simp only [List.setIfInBounds_toArray]); (try simp only [List.set_cons_succ]); (try simp only [List.set_cons_zero])
  refine wpAnyH_take (i := 13) (v := undef) rfl (by kernel_rfl) (by kernel_rfl) (by kernel_rfl) (fun _ _ _ h => h) (Or.inr ⟨by rfl, rfl⟩) (by assumption) ?_
  (try simp only [Act.put]); (try simp only [List.setIfInBounds_toArray]); (try simp only [List.set_cons_succ]); (try simp only [List.set_cons_zero])
  refine wpAnyH_take (i := 14) (v := undef) rfl (by kernel_rfl) (by kernel_rfl) (by kernel_rfl) (fun _ _ _ h => h) (Or.inr ⟨by rfl, rfl⟩) (by assumption) ?_
  (try simp only [Act.put]); (try simp only [List.setIfInBounds_toArray]); (try simp only [List.set_cons_succ]); (try simp only [List.set_cons_zero])
  refine wpAnyH_take (i := 15) (v := undef) rfl (by kernel_rfl) (by kernel_rfl) (by kernel_rfl) (fun _ _ _ h => h) (Or.inr ⟨by rfl, rfl⟩) (by assumption) ?_
  (try simp only [Act.put]); (try simp only [List.setIfInBounds_toArray]); (try simp only [List.set_cons_succ]); (try simp only [List.set_cons_zero])
  refine wpAnyH_take (i := 16) (v := undef) rfl (by kernel_rfl) (by kernel_rfl) (by kernel_rfl) (fun _ _ _ h => h) (Or.inr ⟨by rfl, rfl⟩) (by assumption) ?_
  (try simp only [Act.put]); (try simp only [List.setIfInBounds_toArray]); (try simp only [List.set_cons_succ]); (try simp only [List.set_cons_zero])
  refine wpAnyH_take (i := 17) (v := ?v12) rfl (by kernel_rfl) (by kernel_rfl) (by kernel_rfl) (fun _ _ _ h => h) (Or.inl ⟨by rfl, ?hy12⟩) (by assumption) ?rest12
  case hy12 => (intro _ hSw; (try dsimp only at hSw); go_simp; (try with_reducible rfl))
  (try simp only [Act.put]); (try simp only [List.setIfInBounds_toArray]); (try simp only [List.set_cons_succ]); (try simp only [List.set_cons_zero])
  refine wpAnyH_take (i := 18) (v := ?v13) rfl (by kernel_rfl) (by kernel_rfl) (by kernel_rfl) (fun _ _ _ h => h) (Or.inl ⟨by rfl, ?hy13⟩) (by assumption) ?rest13
  case hy13 => (intro _ hSw; (try dsimp only at hSw); go_simp; (try with_reducible rfl))
  (try simp only [Act.put]); (try simp only [List.setIfInBounds_toArray]); (try simp only [List.set_cons_succ]); (try simp only [List.set_cons_zero])
  refine wpAnyH_done (by kernel_rfl) ?_ _
  (try simp only [List.getElem_toArray]); (try simp only [List.getElem_cons_succ]); (try simp only [List.getElem_cons_zero]); (try simp only [List.setIfInBounds_toArray]); (try simp only [List.set_cons_succ, List.set_cons_zero])
  (try simp only [Act.put]); (try simp only [List.setIfInBounds_toArray]); (try simp only [List.set_cons_succ]); (try simp only [List.set_cons_zero])
  go_wp2
  go_ret
  exact ⟨_, rfl, fun e => by subst e; simp at hq, HS8.out.back⟩

set_option maxRecDepth 100000 in
set_option maxHeartbeats 4000000 in
theorem step_free (a : Ac) (vb vk : Value) (w0 w : World) (X : Nat → Prop) (wx : World) (b g : Nat) (D E : Dk) (M : Nat) (N : Int) (h : Tw X wx w0 w b g D E) (gd : Good D M N) (ge : Good E M N) (ha : AcOk w0 a vb vk) (hbl : a.bs.length ≤ 2000) (h4 : a.kd % 11 = 6) : Calls Try.prog 24 #[ptr b, ptr g, .agg #[.int .i64 a.kd, .string a.nm, .string a.nt, vb, .int .i64 a.n, vk]] w fun e w' => ∃ bb, e = .returned (.bool bb) ∧ (D = E → bb = true) ∧ Tw X wx w0 w' b g (D.free) (E.free) := by
  have HPK : Hid (∀ w, Calls Try.prog 32 #[.int .i64 a.kd, .int .i64 11] w fun e w' => e = .returned (.int .i64 6) ∧ w = w') := Lib.hid (fun w => by have := pickn_any a.kd 11 w (by omega) (by omega); rwa [h4] at this)
  have GD := Lib.hid gd
  have GE := Lib.hid ge
  have HA := Lib.hid ha
  have HT := Lib.hid h
  have HBL := Lib.hid hbl
  obtain ⟨p, c, rfl, -⟩ := ha.rd.parts
  obtain ⟨ix, hix, hz0, hz1, hz2⟩ := info_parts Try.uinfo
  obtain ⟨wa, hwa⟩ : ∃ wa, wa = w.alloc (.cells #[.int .i64 a.kd, .string a.nm, .string a.nt, .slice p a.bs.length c, .int .i64 a.n, vk] 48) := ⟨_, rfl⟩
  obtain ⟨bx, hbx⟩ : ∃ bx, bx = w.heap.size := ⟨_, rfl⟩
  have hba : Below w.heap.size w wa := by rw [hwa]; exact below_alloc w _
  have HBXA : Hid (Blk wa bx (acC a (.slice p a.bs.length c) vk) 48) := Lib.hid (by rw [hwa, hbx]; exact Blk.made w (acC a (.slice p a.bs.length c) vk) _)
  have HBX : Hid (w.heap.size ≤ bx) := Lib.hid (by omega)
  have HBA := Lib.hid hba
  obtain ⟨wz, hwz⟩ : ∃ wz, wz = wa.alloc (.cells #[] 5) := ⟨_, rfl⟩
  obtain ⟨bz, hbz⟩ : ∃ bz, bz = wa.heap.size := ⟨_, rfl⟩
  have hbza : Below wa.heap.size wa wz := by rw [hwz]; exact below_alloc wa _
  have HBZ := Lib.hid hbza
  have HOW : Hid (wz.ownsRow wa.heap.size 5 1 (.slice (some ⟨bz, 0, none⟩) 0 0) 0 []) := Lib.hid (by rw [hwz, hbz]; exact World.ownsRow_lit (e := 5) (size := 1) wa #[] 0 (Nat.le_refl _) (by simp [maxLen]) rfl)
  have HSR : Hid (Src Try.prog 1 29 (.slice p a.bs.length c) a.bs.length (a.bs.map B) wz) := Lib.hid (Row.src Try.underlying29 (ha.rd.below (below_and h.bel (below_and hba hbza))))
  have y3 := (HBXA.out.kept (below_alloc wa (.cells #[] 5))).cell (j := 3) rfl
  clear h gd ge ha hbl hba hbza h4
  go_enter Try.func24, Try.ntmps24
  go_upto_region 1 with fail
  rw [← hwa, ← hbx]
  clear hwa hbx
  go_upto_region 2 with (at_builtin; rw [← hwz, ← hbz]; refine wpList_app5 rfl _ _ 29 29 rfl wa.heap.size 5 ix (.int .u8 0) 1 1 Try.underlying29 hix hz0 hz1 hz2 rfl _ 0 [] rfl HOW.out _ a.bs.length (a.bs.map B) rfl HSR.out (by have := HBL.out; unfold maxLen; omega) (by have := HBL.out; omega) HBZ.out.size ?_; intro v6 w6 hown6 hgrow6 hn6; have HO6 : Hid (w6.ownsRow wa.heap.size 5 1 v6 a.bs.length (a.bs.map B)) := Lib.hid (by simpa using hown6); have HB6 := Lib.hid (below_grown HBZ.out HBZ.out.size HOW.out hgrow6); clear hown6 hgrow6 hn6)
  have HS : Hid (Sp X wx w0 b g bx a (.slice p a.bs.length c) vk v6 D E w6) := Lib.hid (Sp.make HT.out (below_and HBA.out HB6.out) HBX.out (HBXA.out.kept HB6.out) HO6.out HBA.out.size)
  obtain ⟨p6, c6, rfl, -, -⟩ := own_slice HO6.out
  clear HT y3 HOW HSR HBXA HBX HBA HBZ HO6 HB6 hz0 hz1 hz2 hix
  have y0 := HS.out.blk.cell (j := 0) rfl
  go_wp2_with (first
    | (go_at_call 32; refine (HPK.out _).mono ?_; rintro e w8 ⟨rfl, rfl⟩)
    | (go_at_call 27; refine (Sp.run (X := X) (wx := wx) (w0 := w0) (b := b) (g := g) (bx := bx) (a := a) (vb := .slice p a.bs.length c) (vk := vk) (vl := .slice p6 a.bs.length c6) (D := D) (E := E) (by (repeat (first | with_reducible exact HS.out | apply Sp.drew))) (fun wl ht => td_free ht)).mono ?_; rintro e w7 ⟨rfl, hs⟩; have HS7 : Hid (Sp X wx w0 b g bx a (.slice p a.bs.length c) vk (.slice p6 a.bs.length c6) (D.free) (E) w7) := Lib.hid hs; clear hs)
    | (go_at_call 52; refine (Sp.run (X := X) (wx := wx) (w0 := w0) (b := b) (g := g) (bx := bx) (a := a) (vb := .slice p a.bs.length c) (vk := vk) (vl := .slice p6 a.bs.length c6) (D := D.free) (E := E) (by (repeat (first | with_reducible exact HS7.out | apply Sp.drew))) (fun wl ht => tr_free ht)).mono ?_; rintro e w9 ⟨rfl, hs⟩; have HS8 : Hid (Sp X wx w0 b g bx a (.slice p a.bs.length c) vk (.slice p6 a.bs.length c6) (D.free) (E.free) w9) := Lib.hid hs; clear hs))
  go_ret
  exact ⟨_, rfl, fun _ => rfl, HS8.out.back⟩

set_option maxRecDepth 100000 in
set_option maxHeartbeats 4000000 in
theorem step_turn_nil (a : Ac) (vb vk : Value) (w0 w : World) (X : Nat → Prop) (wx : World) (b g : Nat) (D E : Dk) (M : Nat) (N : Int) (h : Tw X wx w0 w b g D E) (gd : Good D M N) (ge : Good E M N) (ha : AcOk w0 a vb vk) (hbl : a.bs.length ≤ 2000) (h4 : a.kd % 11 = 8) (hbs : a.bs = []) : Calls Try.prog 24 #[ptr b, ptr g, .agg #[.int .i64 a.kd, .string a.nm, .string a.nt, vb, .int .i64 a.n, vk]] w fun e w' => ∃ bb, e = .returned (.bool bb) ∧ (D = E → bb = true) ∧ Tw X wx w0 w' b g ((D.turn a.nm a.n a.c).2) ((E.turn a.nm a.n a.c).2) := by
  have HBS := Lib.hid hbs
  clear hbs
  have HPK : Hid (∀ w, Calls Try.prog 32 #[.int .i64 a.kd, .int .i64 11] w fun e w' => e = .returned (.int .i64 8) ∧ w = w') := Lib.hid (fun w => by have := pickn_any a.kd 11 w (by omega) (by omega); rwa [h4] at this)
  have GD := Lib.hid gd
  have GE := Lib.hid ge
  have HA := Lib.hid ha
  have HT := Lib.hid h
  have HBL := Lib.hid hbl
  obtain ⟨p, c, rfl, -⟩ := ha.rd.parts
  obtain ⟨ix, hix, hz0, hz1, hz2⟩ := info_parts Try.uinfo
  obtain ⟨wa, hwa⟩ : ∃ wa, wa = w.alloc (.cells #[.int .i64 a.kd, .string a.nm, .string a.nt, .slice p a.bs.length c, .int .i64 a.n, vk] 48) := ⟨_, rfl⟩
  obtain ⟨bx, hbx⟩ : ∃ bx, bx = w.heap.size := ⟨_, rfl⟩
  have hba : Below w.heap.size w wa := by rw [hwa]; exact below_alloc w _
  have HBXA : Hid (Blk wa bx (acC a (.slice p a.bs.length c) vk) 48) := Lib.hid (by rw [hwa, hbx]; exact Blk.made w (acC a (.slice p a.bs.length c) vk) _)
  have HBX : Hid (w.heap.size ≤ bx) := Lib.hid (by omega)
  have HBA := Lib.hid hba
  obtain ⟨wz, hwz⟩ : ∃ wz, wz = wa.alloc (.cells #[] 5) := ⟨_, rfl⟩
  obtain ⟨bz, hbz⟩ : ∃ bz, bz = wa.heap.size := ⟨_, rfl⟩
  have hbza : Below wa.heap.size wa wz := by rw [hwz]; exact below_alloc wa _
  have HBZ := Lib.hid hbza
  have HOW : Hid (wz.ownsRow wa.heap.size 5 1 (.slice (some ⟨bz, 0, none⟩) 0 0) 0 []) := Lib.hid (by rw [hwz, hbz]; exact World.ownsRow_lit (e := 5) (size := 1) wa #[] 0 (Nat.le_refl _) (by simp [maxLen]) rfl)
  have HSR : Hid (Src Try.prog 1 29 (.slice p a.bs.length c) a.bs.length (a.bs.map B) wz) := Lib.hid (Row.src Try.underlying29 (ha.rd.below (below_and h.bel (below_and hba hbza))))
  have y3 := (HBXA.out.kept (below_alloc wa (.cells #[] 5))).cell (j := 3) rfl
  clear h gd ge ha hbl hba hbza h4
  go_enter Try.func24, Try.ntmps24
  go_upto_region 1 with fail
  rw [← hwa, ← hbx]
  clear hwa hbx
  go_upto_region 2 with (at_builtin; rw [← hwz, ← hbz]; refine wpList_app5 rfl _ _ 29 29 rfl wa.heap.size 5 ix (.int .u8 0) 1 1 Try.underlying29 hix hz0 hz1 hz2 rfl _ 0 [] rfl HOW.out _ a.bs.length (a.bs.map B) rfl HSR.out (by have := HBL.out; unfold maxLen; omega) (by have := HBL.out; omega) HBZ.out.size ?_; intro v6 w6 hown6 hgrow6 hn6; have HO6 : Hid (w6.ownsRow wa.heap.size 5 1 v6 a.bs.length (a.bs.map B)) := Lib.hid (by simpa using hown6); have HB6 := Lib.hid (below_grown HBZ.out HBZ.out.size HOW.out hgrow6); clear hown6 hgrow6 hn6)
  have HS : Hid (Sp X wx w0 b g bx a (.slice p a.bs.length c) vk v6 D E w6) := Lib.hid (Sp.make HT.out (below_and HBA.out HB6.out) HBX.out (HBXA.out.kept HB6.out) HO6.out HBA.out.size)
  obtain ⟨p6, c6, rfl, -, -⟩ := own_slice HO6.out
  clear HT y3 HOW HSR HBXA HBX HBA HBZ HO6 HB6 hz0 hz1 hz2 hix
  have y0 := HS.out.blk.cell (j := 0) rfl
  have hbs := HBS.out
  have y3 := HS.out.blk.cell (j := 3) rfl
  have i1 : ¬ (0 : Int) < (a.bs.length : Int) := by simp [hbs]
  have i3 : ¬ 0 < a.bs.length := by simp [hbs]
  have i4 : decide (0 < a.bs.length) = false := by simp [hbs]
  have HC : Hid (a.c = 1) := Lib.hid (by unfold Ac.c; rw [hbs])
  clear hbs
  go_wp2_with (go_at_call 32; refine (HPK.out _).mono ?_; rintro e w8 ⟨rfl, rfl⟩)
  go_region_held3 (fun w' => w'.cell? ⟨bx, 1, none⟩ = some (.string a.nm) ∧ w'.cell? ⟨bx, 4, none⟩ = some (.int .i64 a.n))
    ((apply Sp.c14; (repeat (first | with_reducible exact HS8.out | with_reducible exact HS7.out | with_reducible exact HS.out | apply Sp.drew))))
    (first
      | (go_at_call 22; refine (Sp.run (X := X) (wx := wx) (w0 := w0) (b := b) (g := g) (bx := bx) (a := a) (vb := .slice p a.bs.length c) (vk := vk) (vl := .slice p6 a.bs.length c6) (D := D) (E := E) (by (repeat (first | with_reducible exact HS.out | apply Sp.drew))) (fun wl ht => td_turn ht GD.out a.nm HA.out.nm a.n 1)).mono ?_; rintro e w7 ⟨rfl, hs⟩; have HS7 : Hid (Sp X wx w0 b g bx a (.slice p a.bs.length c) vk (.slice p6 a.bs.length c6) ((D.turn a.nm a.n 1).2) (E) w7) := Lib.hid hs; clear hs)
      | (go_at_call 54; refine (Sp.run (X := X) (wx := wx) (w0 := w0) (b := b) (g := g) (bx := bx) (a := a) (vb := .slice p a.bs.length c) (vk := vk) (vl := .slice p6 a.bs.length c6) (D := (D.turn a.nm a.n 1).2) (E := E) (by (repeat (first | with_reducible exact HS7.out | apply Sp.drew))) (fun wl ht => tr_turn ht GE.out a.nm HA.out.nm a.n 1)).mono ?_; rintro e w9 ⟨rfl, hs⟩; have HS8 : Hid (Sp X wx w0 b g bx a (.slice p a.bs.length c) vk (.slice p6 a.bs.length c6) ((D.turn a.nm a.n 1).2) ((E.turn a.nm a.n 1).2) w9) := Lib.hid hs; clear hs))
  go_wp2
  go_ret
  rw [HC.out]
  exact ⟨_, rfl, fun e => by subst e; simp, HS8.out.back⟩

set_option maxRecDepth 100000 in
set_option maxHeartbeats 4000000 in
theorem step_turn_cons (a : Ac) (vb vk : Value) (w0 w : World) (X : Nat → Prop) (wx : World) (b g : Nat) (D E : Dk) (M : Nat) (N : Int) (h : Tw X wx w0 w b g D E) (gd : Good D M N) (ge : Good E M N) (ha : AcOk w0 a vb vk) (hbl : a.bs.length ≤ 2000) (h4 : a.kd % 11 = 8) (c0 : UInt8) (bt : List UInt8) (hbs : a.bs = c0 :: bt) : Calls Try.prog 24 #[ptr b, ptr g, .agg #[.int .i64 a.kd, .string a.nm, .string a.nt, vb, .int .i64 a.n, vk]] w fun e w' => ∃ bb, e = .returned (.bool bb) ∧ (D = E → bb = true) ∧ Tw X wx w0 w' b g ((D.turn a.nm a.n a.c).2) ((E.turn a.nm a.n a.c).2) := by
  have HBS := Lib.hid hbs
  clear hbs
  have HPK : Hid (∀ w, Calls Try.prog 32 #[.int .i64 a.kd, .int .i64 11] w fun e w' => e = .returned (.int .i64 8) ∧ w = w') := Lib.hid (fun w => by have := pickn_any a.kd 11 w (by omega) (by omega); rwa [h4] at this)
  have GD := Lib.hid gd
  have GE := Lib.hid ge
  have HA := Lib.hid ha
  have HT := Lib.hid h
  have HBL := Lib.hid hbl
  obtain ⟨p, c, rfl, -⟩ := ha.rd.parts
  obtain ⟨ix, hix, hz0, hz1, hz2⟩ := info_parts Try.uinfo
  obtain ⟨wa, hwa⟩ : ∃ wa, wa = w.alloc (.cells #[.int .i64 a.kd, .string a.nm, .string a.nt, .slice p a.bs.length c, .int .i64 a.n, vk] 48) := ⟨_, rfl⟩
  obtain ⟨bx, hbx⟩ : ∃ bx, bx = w.heap.size := ⟨_, rfl⟩
  have hba : Below w.heap.size w wa := by rw [hwa]; exact below_alloc w _
  have HBXA : Hid (Blk wa bx (acC a (.slice p a.bs.length c) vk) 48) := Lib.hid (by rw [hwa, hbx]; exact Blk.made w (acC a (.slice p a.bs.length c) vk) _)
  have HBX : Hid (w.heap.size ≤ bx) := Lib.hid (by omega)
  have HBA := Lib.hid hba
  obtain ⟨wz, hwz⟩ : ∃ wz, wz = wa.alloc (.cells #[] 5) := ⟨_, rfl⟩
  obtain ⟨bz, hbz⟩ : ∃ bz, bz = wa.heap.size := ⟨_, rfl⟩
  have hbza : Below wa.heap.size wa wz := by rw [hwz]; exact below_alloc wa _
  have HBZ := Lib.hid hbza
  have HOW : Hid (wz.ownsRow wa.heap.size 5 1 (.slice (some ⟨bz, 0, none⟩) 0 0) 0 []) := Lib.hid (by rw [hwz, hbz]; exact World.ownsRow_lit (e := 5) (size := 1) wa #[] 0 (Nat.le_refl _) (by simp [maxLen]) rfl)
  have HSR : Hid (Src Try.prog 1 29 (.slice p a.bs.length c) a.bs.length (a.bs.map B) wz) := Lib.hid (Row.src Try.underlying29 (ha.rd.below (below_and h.bel (below_and hba hbza))))
  have y3 := (HBXA.out.kept (below_alloc wa (.cells #[] 5))).cell (j := 3) rfl
  clear h gd ge ha hbl hba hbza h4
  go_enter Try.func24, Try.ntmps24
  go_upto_region 1 with fail
  rw [← hwa, ← hbx]
  clear hwa hbx
  go_upto_region 2 with (at_builtin; rw [← hwz, ← hbz]; refine wpList_app5 rfl _ _ 29 29 rfl wa.heap.size 5 ix (.int .u8 0) 1 1 Try.underlying29 hix hz0 hz1 hz2 rfl _ 0 [] rfl HOW.out _ a.bs.length (a.bs.map B) rfl HSR.out (by have := HBL.out; unfold maxLen; omega) (by have := HBL.out; omega) HBZ.out.size ?_; intro v6 w6 hown6 hgrow6 hn6; have HO6 : Hid (w6.ownsRow wa.heap.size 5 1 v6 a.bs.length (a.bs.map B)) := Lib.hid (by simpa using hown6); have HB6 := Lib.hid (below_grown HBZ.out HBZ.out.size HOW.out hgrow6); clear hown6 hgrow6 hn6)
  have HS : Hid (Sp X wx w0 b g bx a (.slice p a.bs.length c) vk v6 D E w6) := Lib.hid (Sp.make HT.out (below_and HBA.out HB6.out) HBX.out (HBXA.out.kept HB6.out) HO6.out HBA.out.size)
  obtain ⟨p6, c6, rfl, -, -⟩ := own_slice HO6.out
  clear HT y3 HOW HSR HBXA HBX HBA HBZ HO6 HB6 hz0 hz1 hz2 hix
  have y0 := HS.out.blk.cell (j := 0) rfl
  have hbs := HBS.out
  have y3 := HS.out.blk.cell (j := 3) rfl
  have i1 : decide ((0 : Int) < (a.bs.length : Int)) = true := by simp [hbs]
  have i2 : (0 : Int) < (a.bs.length : Int) := by simp [hbs]
  have HC : Hid (a.c = c0) := Lib.hid (by unfold Ac.c; rw [hbs])
  obtain ⟨p9, c9, e9, -, -, h9⟩ := (HA.out.rd.below HS.out.bel).parts
  simp only [Value.slice.injEq] at e9
  obtain ⟨rfl, -, rfl⟩ := e9
  rcases h9 with h9 | ⟨qb, qo, rfl, h9⟩
  · rw [hbs] at h9; cases h9
  have z0 := h9 0 (by rw [hbs]; simp)
  have e0 : a.bs[0]'(by rw [hbs]; simp) = c0 := by simp [hbs]
  rw [e0, Nat.add_zero] at z0
  clear hbs h9 e0
  go_wp2_with (go_at_call 32; refine (HPK.out _).mono ?_; rintro e w8 ⟨rfl, rfl⟩)
  go_region_held3 (fun w' => w'.cell? ⟨bx, 1, none⟩ = some (.string a.nm) ∧ w'.cell? ⟨bx, 4, none⟩ = some (.int .i64 a.n))
    ((apply Sp.c14; (repeat (first | with_reducible exact HS8.out | with_reducible exact HS7.out | with_reducible exact HS.out | apply Sp.drew))))
    (first
      | (go_at_call 22; refine (Sp.run (X := X) (wx := wx) (w0 := w0) (b := b) (g := g) (bx := bx) (a := a) (vb := .slice (some ⟨qb, qo, none⟩) a.bs.length c) (vk := vk) (vl := .slice p6 a.bs.length c6) (D := D) (E := E) (by (repeat (first | with_reducible exact HS.out | apply Sp.drew))) (fun wl ht => td_turn ht GD.out a.nm HA.out.nm a.n c0)).mono ?_; rintro e w7 ⟨rfl, hs⟩; have HS7 : Hid (Sp X wx w0 b g bx a (.slice (some ⟨qb, qo, none⟩) a.bs.length c) vk (.slice p6 a.bs.length c6) ((D.turn a.nm a.n c0).2) (E) w7) := Lib.hid hs; clear hs)
      | (go_at_call 54; refine (Sp.run (X := X) (wx := wx) (w0 := w0) (b := b) (g := g) (bx := bx) (a := a) (vb := .slice (some ⟨qb, qo, none⟩) a.bs.length c) (vk := vk) (vl := .slice p6 a.bs.length c6) (D := (D.turn a.nm a.n c0).2) (E := E) (by (repeat (first | with_reducible exact HS7.out | apply Sp.drew))) (fun wl ht => tr_turn ht GE.out a.nm HA.out.nm a.n c0)).mono ?_; rintro e w9 ⟨rfl, hs⟩; have HS8 : Hid (Sp X wx w0 b g bx a (.slice (some ⟨qb, qo, none⟩) a.bs.length c) vk (.slice p6 a.bs.length c6) ((D.turn a.nm a.n c0).2) ((E.turn a.nm a.n c0).2) w9) := Lib.hid hs; clear hs))
  go_wp2
  go_ret
  rw [HC.out]
  exact ⟨_, rfl, fun e => by subst e; simp, HS8.out.back⟩

set_option maxRecDepth 100000 in
set_option maxHeartbeats 4000000 in
theorem step_synced_true_true (a : Ac) (vb vk : Value) (w0 w : World) (X : Nat → Prop) (wx : World) (b g : Nat) (D E : Dk) (M : Nat) (N : Int) (h : Tw X wx w0 w b g D E) (gd : Good D M N) (ge : Good E M N) (ha : AcOk w0 a vb vk) (hbl : a.bs.length ≤ 2000) (h4 : a.kd % 11 = 9) (hq : ((D.synced a.nm).2 == (E.synced a.nm).2) = true) (hq2 : ((D.synced a.nm).1 == (E.synced a.nm).1) = true) : Calls Try.prog 24 #[ptr b, ptr g, .agg #[.int .i64 a.kd, .string a.nm, .string a.nt, vb, .int .i64 a.n, vk]] w fun e w' => ∃ bb, e = .returned (.bool bb) ∧ (D = E → bb = true) ∧ Tw X wx w0 w' b g (D) (E) := by
  have HPK : Hid (∀ w, Calls Try.prog 32 #[.int .i64 a.kd, .int .i64 11] w fun e w' => e = .returned (.int .i64 9) ∧ w = w') := Lib.hid (fun w => by have := pickn_any a.kd 11 w (by omega) (by omega); rwa [h4] at this)
  have GD := Lib.hid gd
  have GE := Lib.hid ge
  have HA := Lib.hid ha
  have HT := Lib.hid h
  have HBL := Lib.hid hbl
  obtain ⟨p, c, rfl, -⟩ := ha.rd.parts
  obtain ⟨ix, hix, hz0, hz1, hz2⟩ := info_parts Try.uinfo
  obtain ⟨wa, hwa⟩ : ∃ wa, wa = w.alloc (.cells #[.int .i64 a.kd, .string a.nm, .string a.nt, .slice p a.bs.length c, .int .i64 a.n, vk] 48) := ⟨_, rfl⟩
  obtain ⟨bx, hbx⟩ : ∃ bx, bx = w.heap.size := ⟨_, rfl⟩
  have hba : Below w.heap.size w wa := by rw [hwa]; exact below_alloc w _
  have HBXA : Hid (Blk wa bx (acC a (.slice p a.bs.length c) vk) 48) := Lib.hid (by rw [hwa, hbx]; exact Blk.made w (acC a (.slice p a.bs.length c) vk) _)
  have HBX : Hid (w.heap.size ≤ bx) := Lib.hid (by omega)
  have HBA := Lib.hid hba
  obtain ⟨wz, hwz⟩ : ∃ wz, wz = wa.alloc (.cells #[] 5) := ⟨_, rfl⟩
  obtain ⟨bz, hbz⟩ : ∃ bz, bz = wa.heap.size := ⟨_, rfl⟩
  have hbza : Below wa.heap.size wa wz := by rw [hwz]; exact below_alloc wa _
  have HBZ := Lib.hid hbza
  have HOW : Hid (wz.ownsRow wa.heap.size 5 1 (.slice (some ⟨bz, 0, none⟩) 0 0) 0 []) := Lib.hid (by rw [hwz, hbz]; exact World.ownsRow_lit (e := 5) (size := 1) wa #[] 0 (Nat.le_refl _) (by simp [maxLen]) rfl)
  have HSR : Hid (Src Try.prog 1 29 (.slice p a.bs.length c) a.bs.length (a.bs.map B) wz) := Lib.hid (Row.src Try.underlying29 (ha.rd.below (below_and h.bel (below_and hba hbza))))
  have y3 := (HBXA.out.kept (below_alloc wa (.cells #[] 5))).cell (j := 3) rfl
  clear h gd ge ha hbl hba hbza h4
  go_enter Try.func24, Try.ntmps24
  go_upto_region 1 with fail
  rw [← hwa, ← hbx]
  clear hwa hbx
  go_upto_region 2 with (at_builtin; rw [← hwz, ← hbz]; refine wpList_app5 rfl _ _ 29 29 rfl wa.heap.size 5 ix (.int .u8 0) 1 1 Try.underlying29 hix hz0 hz1 hz2 rfl _ 0 [] rfl HOW.out _ a.bs.length (a.bs.map B) rfl HSR.out (by have := HBL.out; unfold maxLen; omega) (by have := HBL.out; omega) HBZ.out.size ?_; intro v6 w6 hown6 hgrow6 hn6; have HO6 : Hid (w6.ownsRow wa.heap.size 5 1 v6 a.bs.length (a.bs.map B)) := Lib.hid (by simpa using hown6); have HB6 := Lib.hid (below_grown HBZ.out HBZ.out.size HOW.out hgrow6); clear hown6 hgrow6 hn6)
  have HS : Hid (Sp X wx w0 b g bx a (.slice p a.bs.length c) vk v6 D E w6) := Lib.hid (Sp.make HT.out (below_and HBA.out HB6.out) HBX.out (HBXA.out.kept HB6.out) HO6.out HBA.out.size)
  obtain ⟨p6, c6, rfl, -, -⟩ := own_slice HO6.out
  clear HT y3 HOW HSR HBXA HBX HBA HBZ HO6 HB6 hz0 hz1 hz2 hix
  have y0 := HS.out.blk.cell (j := 0) rfl
  have y1 := HS.out.c1
  go_wp2_with (first
    | (go_at_call 32; refine (HPK.out _).mono ?_; rintro e w8 ⟨rfl, rfl⟩)
    | (go_at_call 15; refine (od_synced (HS.out.back).od a.nm HA.out.nm).mono ?_; rintro e w7 ⟨rfl, hb⟩; have HS7 := Lib.hid (HS.out.kept hb); have y7 := HS7.out.c1; clear hb)
    | (go_at_call 55; refine (tr_synced HS7.out.back GE.out a.nm HA.out.nm).mono ?_; rintro e w9 ⟨rfl, hb⟩; have HS8 := Lib.hid (HS7.out.kept hb); clear hb))
  go_ret
  exact ⟨_, rfl, fun e => by first | rfl | (subst e; exact absurd hq2 (by simp)) | (subst e; exact absurd hq (by simp)), HS8.out.back⟩

set_option maxRecDepth 100000 in
set_option maxHeartbeats 4000000 in
theorem step_synced_true_false (a : Ac) (vb vk : Value) (w0 w : World) (X : Nat → Prop) (wx : World) (b g : Nat) (D E : Dk) (M : Nat) (N : Int) (h : Tw X wx w0 w b g D E) (gd : Good D M N) (ge : Good E M N) (ha : AcOk w0 a vb vk) (hbl : a.bs.length ≤ 2000) (h4 : a.kd % 11 = 9) (hq : ((D.synced a.nm).2 == (E.synced a.nm).2) = true) (hq2 : ((D.synced a.nm).1 == (E.synced a.nm).1) = false) : Calls Try.prog 24 #[ptr b, ptr g, .agg #[.int .i64 a.kd, .string a.nm, .string a.nt, vb, .int .i64 a.n, vk]] w fun e w' => ∃ bb, e = .returned (.bool bb) ∧ (D = E → bb = true) ∧ Tw X wx w0 w' b g (D) (E) := by
  have HPK : Hid (∀ w, Calls Try.prog 32 #[.int .i64 a.kd, .int .i64 11] w fun e w' => e = .returned (.int .i64 9) ∧ w = w') := Lib.hid (fun w => by have := pickn_any a.kd 11 w (by omega) (by omega); rwa [h4] at this)
  have GD := Lib.hid gd
  have GE := Lib.hid ge
  have HA := Lib.hid ha
  have HT := Lib.hid h
  have HBL := Lib.hid hbl
  obtain ⟨p, c, rfl, -⟩ := ha.rd.parts
  obtain ⟨ix, hix, hz0, hz1, hz2⟩ := info_parts Try.uinfo
  obtain ⟨wa, hwa⟩ : ∃ wa, wa = w.alloc (.cells #[.int .i64 a.kd, .string a.nm, .string a.nt, .slice p a.bs.length c, .int .i64 a.n, vk] 48) := ⟨_, rfl⟩
  obtain ⟨bx, hbx⟩ : ∃ bx, bx = w.heap.size := ⟨_, rfl⟩
  have hba : Below w.heap.size w wa := by rw [hwa]; exact below_alloc w _
  have HBXA : Hid (Blk wa bx (acC a (.slice p a.bs.length c) vk) 48) := Lib.hid (by rw [hwa, hbx]; exact Blk.made w (acC a (.slice p a.bs.length c) vk) _)
  have HBX : Hid (w.heap.size ≤ bx) := Lib.hid (by omega)
  have HBA := Lib.hid hba
  obtain ⟨wz, hwz⟩ : ∃ wz, wz = wa.alloc (.cells #[] 5) := ⟨_, rfl⟩
  obtain ⟨bz, hbz⟩ : ∃ bz, bz = wa.heap.size := ⟨_, rfl⟩
  have hbza : Below wa.heap.size wa wz := by rw [hwz]; exact below_alloc wa _
  have HBZ := Lib.hid hbza
  have HOW : Hid (wz.ownsRow wa.heap.size 5 1 (.slice (some ⟨bz, 0, none⟩) 0 0) 0 []) := Lib.hid (by rw [hwz, hbz]; exact World.ownsRow_lit (e := 5) (size := 1) wa #[] 0 (Nat.le_refl _) (by simp [maxLen]) rfl)
  have HSR : Hid (Src Try.prog 1 29 (.slice p a.bs.length c) a.bs.length (a.bs.map B) wz) := Lib.hid (Row.src Try.underlying29 (ha.rd.below (below_and h.bel (below_and hba hbza))))
  have y3 := (HBXA.out.kept (below_alloc wa (.cells #[] 5))).cell (j := 3) rfl
  clear h gd ge ha hbl hba hbza h4
  go_enter Try.func24, Try.ntmps24
  go_upto_region 1 with fail
  rw [← hwa, ← hbx]
  clear hwa hbx
  go_upto_region 2 with (at_builtin; rw [← hwz, ← hbz]; refine wpList_app5 rfl _ _ 29 29 rfl wa.heap.size 5 ix (.int .u8 0) 1 1 Try.underlying29 hix hz0 hz1 hz2 rfl _ 0 [] rfl HOW.out _ a.bs.length (a.bs.map B) rfl HSR.out (by have := HBL.out; unfold maxLen; omega) (by have := HBL.out; omega) HBZ.out.size ?_; intro v6 w6 hown6 hgrow6 hn6; have HO6 : Hid (w6.ownsRow wa.heap.size 5 1 v6 a.bs.length (a.bs.map B)) := Lib.hid (by simpa using hown6); have HB6 := Lib.hid (below_grown HBZ.out HBZ.out.size HOW.out hgrow6); clear hown6 hgrow6 hn6)
  have HS : Hid (Sp X wx w0 b g bx a (.slice p a.bs.length c) vk v6 D E w6) := Lib.hid (Sp.make HT.out (below_and HBA.out HB6.out) HBX.out (HBXA.out.kept HB6.out) HO6.out HBA.out.size)
  obtain ⟨p6, c6, rfl, -, -⟩ := own_slice HO6.out
  clear HT y3 HOW HSR HBXA HBX HBA HBZ HO6 HB6 hz0 hz1 hz2 hix
  have y0 := HS.out.blk.cell (j := 0) rfl
  have y1 := HS.out.c1
  go_wp2_with (first
    | (go_at_call 32; refine (HPK.out _).mono ?_; rintro e w8 ⟨rfl, rfl⟩)
    | (go_at_call 15; refine (od_synced (HS.out.back).od a.nm HA.out.nm).mono ?_; rintro e w7 ⟨rfl, hb⟩; have HS7 := Lib.hid (HS.out.kept hb); have y7 := HS7.out.c1; clear hb)
    | (go_at_call 55; refine (tr_synced HS7.out.back GE.out a.nm HA.out.nm).mono ?_; rintro e w9 ⟨rfl, hb⟩; have HS8 := Lib.hid (HS7.out.kept hb); clear hb))
  go_ret
  exact ⟨_, rfl, fun e => by first | rfl | (subst e; exact absurd hq2 (by simp)) | (subst e; exact absurd hq (by simp)), HS8.out.back⟩

set_option maxRecDepth 100000 in
set_option maxHeartbeats 4000000 in
theorem step_synced_false_any (a : Ac) (vb vk : Value) (w0 w : World) (X : Nat → Prop) (wx : World) (b g : Nat) (D E : Dk) (M : Nat) (N : Int) (h : Tw X wx w0 w b g D E) (gd : Good D M N) (ge : Good E M N) (ha : AcOk w0 a vb vk) (hbl : a.bs.length ≤ 2000) (h4 : a.kd % 11 = 9) (hq : ((D.synced a.nm).2 == (E.synced a.nm).2) = false) : Calls Try.prog 24 #[ptr b, ptr g, .agg #[.int .i64 a.kd, .string a.nm, .string a.nt, vb, .int .i64 a.n, vk]] w fun e w' => ∃ bb, e = .returned (.bool bb) ∧ (D = E → bb = true) ∧ Tw X wx w0 w' b g (D) (E) := by
  have HPK : Hid (∀ w, Calls Try.prog 32 #[.int .i64 a.kd, .int .i64 11] w fun e w' => e = .returned (.int .i64 9) ∧ w = w') := Lib.hid (fun w => by have := pickn_any a.kd 11 w (by omega) (by omega); rwa [h4] at this)
  have GD := Lib.hid gd
  have GE := Lib.hid ge
  have HA := Lib.hid ha
  have HT := Lib.hid h
  have HBL := Lib.hid hbl
  obtain ⟨p, c, rfl, -⟩ := ha.rd.parts
  obtain ⟨ix, hix, hz0, hz1, hz2⟩ := info_parts Try.uinfo
  obtain ⟨wa, hwa⟩ : ∃ wa, wa = w.alloc (.cells #[.int .i64 a.kd, .string a.nm, .string a.nt, .slice p a.bs.length c, .int .i64 a.n, vk] 48) := ⟨_, rfl⟩
  obtain ⟨bx, hbx⟩ : ∃ bx, bx = w.heap.size := ⟨_, rfl⟩
  have hba : Below w.heap.size w wa := by rw [hwa]; exact below_alloc w _
  have HBXA : Hid (Blk wa bx (acC a (.slice p a.bs.length c) vk) 48) := Lib.hid (by rw [hwa, hbx]; exact Blk.made w (acC a (.slice p a.bs.length c) vk) _)
  have HBX : Hid (w.heap.size ≤ bx) := Lib.hid (by omega)
  have HBA := Lib.hid hba
  obtain ⟨wz, hwz⟩ : ∃ wz, wz = wa.alloc (.cells #[] 5) := ⟨_, rfl⟩
  obtain ⟨bz, hbz⟩ : ∃ bz, bz = wa.heap.size := ⟨_, rfl⟩
  have hbza : Below wa.heap.size wa wz := by rw [hwz]; exact below_alloc wa _
  have HBZ := Lib.hid hbza
  have HOW : Hid (wz.ownsRow wa.heap.size 5 1 (.slice (some ⟨bz, 0, none⟩) 0 0) 0 []) := Lib.hid (by rw [hwz, hbz]; exact World.ownsRow_lit (e := 5) (size := 1) wa #[] 0 (Nat.le_refl _) (by simp [maxLen]) rfl)
  have HSR : Hid (Src Try.prog 1 29 (.slice p a.bs.length c) a.bs.length (a.bs.map B) wz) := Lib.hid (Row.src Try.underlying29 (ha.rd.below (below_and h.bel (below_and hba hbza))))
  have y3 := (HBXA.out.kept (below_alloc wa (.cells #[] 5))).cell (j := 3) rfl
  clear h gd ge ha hbl hba hbza h4
  go_enter Try.func24, Try.ntmps24
  go_upto_region 1 with fail
  rw [← hwa, ← hbx]
  clear hwa hbx
  go_upto_region 2 with (at_builtin; rw [← hwz, ← hbz]; refine wpList_app5 rfl _ _ 29 29 rfl wa.heap.size 5 ix (.int .u8 0) 1 1 Try.underlying29 hix hz0 hz1 hz2 rfl _ 0 [] rfl HOW.out _ a.bs.length (a.bs.map B) rfl HSR.out (by have := HBL.out; unfold maxLen; omega) (by have := HBL.out; omega) HBZ.out.size ?_; intro v6 w6 hown6 hgrow6 hn6; have HO6 : Hid (w6.ownsRow wa.heap.size 5 1 v6 a.bs.length (a.bs.map B)) := Lib.hid (by simpa using hown6); have HB6 := Lib.hid (below_grown HBZ.out HBZ.out.size HOW.out hgrow6); clear hown6 hgrow6 hn6)
  have HS : Hid (Sp X wx w0 b g bx a (.slice p a.bs.length c) vk v6 D E w6) := Lib.hid (Sp.make HT.out (below_and HBA.out HB6.out) HBX.out (HBXA.out.kept HB6.out) HO6.out HBA.out.size)
  obtain ⟨p6, c6, rfl, -, -⟩ := own_slice HO6.out
  clear HT y3 HOW HSR HBXA HBX HBA HBZ HO6 HB6 hz0 hz1 hz2 hix
  have y0 := HS.out.blk.cell (j := 0) rfl
  have y1 := HS.out.c1
  go_wp2_with (first
    | (go_at_call 32; refine (HPK.out _).mono ?_; rintro e w8 ⟨rfl, rfl⟩)
    | (go_at_call 15; refine (od_synced (HS.out.back).od a.nm HA.out.nm).mono ?_; rintro e w7 ⟨rfl, hb⟩; have HS7 := Lib.hid (HS.out.kept hb); have y7 := HS7.out.c1; clear hb)
    | (go_at_call 55; refine (tr_synced HS7.out.back GE.out a.nm HA.out.nm).mono ?_; rintro e w9 ⟨rfl, hb⟩; have HS8 := Lib.hid (HS7.out.kept hb); clear hb))
  go_ret
  exact ⟨_, rfl, fun e => by first | rfl | (subst e; exact absurd hq2 (by simp)) | (subst e; exact absurd hq (by simp)), HS8.out.back⟩
end Go.Proofs.Ytgcemddobcjpnaa
namespace Go.Proofs.Ytgcemddobcjpnaa
open Go.RowKit

theorem info_int : (Try.prog.info? 3).map (fun i => (i.zero, i.size, i.bytes)) = some (some (.int .i64 0), 1, 8) := by kernel_rfl
theorem row_kept {w w' : World} {v : Value} {n : Nat} {cs : List Value} (h : Row w v 1 n cs) (hb : Below w.heap.size w w') : Row w' v 1 n cs := row_frp h (Frp.of_below hb (fun _ => False)) (fun _ _ hx => hx)

set_option maxRecDepth 100000 in
set_option maxHeartbeats 4000000 in
theorem step_crash (a : Ac) (vb vk : Value) (w0 w : World) (X : Nat → Prop) (wx : World) (b g : Nat) (D E : Dk) (M : Nat) (N : Int) (h : Tw X wx w0 w b g D E) (gd : Good D M N) (ge : Good E M N) (ha : AcOk w0 a vb vk) (hbl : a.bs.length ≤ 2000) (h4 : a.kd % 11 = 7) : Calls Try.prog 24 #[ptr b, ptr g, .agg #[.int .i64 a.kd, .string a.nm, .string a.nt, vb, .int .i64 a.n, vk]] w fun e w' => ∃ bb, e = .returned (.bool bb) ∧ (D = E → bb = true) ∧ Tw X wx w0 w' b g ((D.crash a.keep).2) ((E.crash a.keep).2) := by
  obtain ⟨pk, ck, rfl, -⟩ := ha.row
  have HPK : Hid (∀ w, Calls Try.prog 32 #[.int .i64 a.kd, .int .i64 11] w fun e w' => e = .returned (.int .i64 7) ∧ w = w') := Lib.hid (fun w => by have := pickn_any a.kd 11 w (by omega) (by omega); rwa [h4] at this)
  have GD := Lib.hid gd
  have GE := Lib.hid ge
  have HA := Lib.hid ha
  have HT := Lib.hid h
  have HBL := Lib.hid hbl
  obtain ⟨p, c, rfl, -⟩ := ha.rd.parts
  obtain ⟨ix, hix, hz0, hz1, hz2⟩ := info_parts Try.uinfo
  obtain ⟨wa, hwa⟩ : ∃ wa, wa = w.alloc (.cells #[.int .i64 a.kd, .string a.nm, .string a.nt, .slice p a.bs.length c, .int .i64 a.n, (.slice pk a.keep.length ck)] 48) := ⟨_, rfl⟩
  obtain ⟨bx, hbx⟩ : ∃ bx, bx = w.heap.size := ⟨_, rfl⟩
  have hba : Below w.heap.size w wa := by rw [hwa]; exact below_alloc w _
  have HBXA : Hid (Blk wa bx (acC a (.slice p a.bs.length c) (.slice pk a.keep.length ck)) 48) := Lib.hid (by rw [hwa, hbx]; exact Blk.made w (acC a (.slice p a.bs.length c) (.slice pk a.keep.length ck)) _)
  have HBX : Hid (w.heap.size ≤ bx) := Lib.hid (by omega)
  have HBA := Lib.hid hba
  obtain ⟨wz, hwz⟩ : ∃ wz, wz = wa.alloc (.cells #[] 5) := ⟨_, rfl⟩
  obtain ⟨bz, hbz⟩ : ∃ bz, bz = wa.heap.size := ⟨_, rfl⟩
  have hbza : Below wa.heap.size wa wz := by rw [hwz]; exact below_alloc wa _
  have HBZ := Lib.hid hbza
  have HOW : Hid (wz.ownsRow wa.heap.size 5 1 (.slice (some ⟨bz, 0, none⟩) 0 0) 0 []) := Lib.hid (by rw [hwz, hbz]; exact World.ownsRow_lit (e := 5) (size := 1) wa #[] 0 (Nat.le_refl _) (by simp [maxLen]) rfl)
  have HSR : Hid (Src Try.prog 1 29 (.slice p a.bs.length c) a.bs.length (a.bs.map B) wz) := Lib.hid (Row.src Try.underlying29 (ha.rd.below (below_and h.bel (below_and hba hbza))))
  have y3 := (HBXA.out.kept (below_alloc wa (.cells #[] 5))).cell (j := 3) rfl
  clear h gd ge ha hbl hba hbza h4
  go_enter Try.func24, Try.ntmps24
  go_upto_region 1 with fail
  rw [← hwa, ← hbx]
  clear hwa hbx
  go_upto_region 2 with (at_builtin; rw [← hwz, ← hbz]; refine wpList_app5 rfl _ _ 29 29 rfl wa.heap.size 5 ix (.int .u8 0) 1 1 Try.underlying29 hix hz0 hz1 hz2 rfl _ 0 [] rfl HOW.out _ a.bs.length (a.bs.map B) rfl HSR.out (by have := HBL.out; unfold maxLen; omega) (by have := HBL.out; omega) HBZ.out.size ?_; intro v6 w6 hown6 hgrow6 hn6; have HO6 : Hid (w6.ownsRow wa.heap.size 5 1 v6 a.bs.length (a.bs.map B)) := Lib.hid (by simpa using hown6); have HB6 := Lib.hid (below_grown HBZ.out HBZ.out.size HOW.out hgrow6); clear hown6 hgrow6 hn6)
  have HS : Hid (Sp X wx w0 b g bx a (.slice p a.bs.length c) (.slice pk a.keep.length ck) v6 D E w6) := Lib.hid (Sp.make HT.out (below_and HBA.out HB6.out) HBX.out (HBXA.out.kept HB6.out) HO6.out HBA.out.size)
  obtain ⟨p6, c6, rfl, -, -⟩ := own_slice HO6.out
  clear HT y3 HOW HSR HBXA HBX HBA HBZ HO6 HB6 hz0 hz1 hz2 hix
  have y0 := HS.out.blk.cell (j := 0) rfl
  obtain ⟨iy, hiy, hy0, hy1, hy2⟩ := info_parts info_int
  have HSD := Lib.hid HS.out.drew
  clear HS
  go_wp2_with (go_at_call 32; refine (HPK.out _).mono ?_; rintro e w8 ⟨rfl, rfl⟩)
  refine wp_region_held_drew (S := fun w' => w'.cell? ⟨bx, 5, none⟩ = some (.slice pk a.keep.length ck)) rfl HSD.out.c5 (fun hHeld => ?_)
  obtain ⟨wd, hwd⟩ : ∃ wd, wd = w6.drew := ⟨_, rfl⟩
  rw [← hwd] at hHeld HSD ⊢
  clear hwd y0
  refine wpAnyH_take (i := 0) (v := ?v1) rfl (by kernel_rfl) (by kernel_rfl) (by kernel_rfl) (fun _ _ _ h => h) (Or.inl ⟨by rfl, ?hy1⟩) (by assumption) ?rest1
  case hy1 => (intro _ hSw; (try dsimp only at hSw); go_simp; (try with_reducible rfl))
  (try simp only [Act.put]); (try simp only [List.setIfInBounds_toArray]); (try simp only [List.set_cons_succ]); (try simp only [List.set_cons_zero])
  refine wpAnyH_take (i := 2) (v := ?v2) rfl (by kernel_rfl) (by kernel_rfl) (by kernel_rfl) (fun _ _ _ h => h) (Or.inl ⟨by rfl, ?hy2⟩) (by assumption) ?rest2
  case hy2 => (intro _ hSw; (try dsimp only at hSw); go_simp; (try with_reducible rfl))
  (try simp only [Act.put]); (try simp only [List.setIfInBounds_toArray]); (try simp only [List.set_cons_succ]); (try simp only [List.set_cons_zero])
  refine wpAnyH_take (i := 3) (v := ?v3) rfl (by kernel_rfl) (by kernel_rfl) (by kernel_rfl) (fun _ _ _ h => h) (Or.inl ⟨by rfl, ?hy3⟩) (by assumption) ?rest3
  case hy3 => (intro _ hSw; (try dsimp only at hSw); go_simp; (try with_reducible rfl))
  (try simp only [Act.put]); (try simp only [List.setIfInBounds_toArray]); (try simp only [List.set_cons_succ]); (try simp only [List.set_cons_zero])
  refine wpAnyH_take (i := 6) (v := ?v4) rfl (by kernel_rfl) (by kernel_rfl) (by kernel_rfl) (fun _ _ _ h => h) (Or.inl ⟨by rfl, ?hy4⟩) (by assumption) ?rest4
  case hy4 => (intro _ hSw; (try dsimp only at hSw); go_simp; (try with_reducible rfl))
  (try simp only [Act.put]); (try simp only [List.setIfInBounds_toArray]); (try simp only [List.set_cons_succ]); (try simp only [List.set_cons_zero])
  refine wpAnyH_take (i := 7) (v := ?v5) rfl (by kernel_rfl) (by kernel_rfl) (by kernel_rfl) (fun _ _ _ h => h) (Or.inl ⟨by rfl, ?hy5⟩) (by assumption) ?rest5
  case hy5 => (intro _ hSw; (try dsimp only at hSw); go_simp; (try with_reducible rfl))
  (try simp only [Act.put]); (try simp only [List.setIfInBounds_toArray]); (try simp only [List.set_cons_succ]); (try simp only [List.set_cons_zero])
  refine wpAnyH_take (i := 8) (v := ?v6) rfl (by kernel_rfl) (by kernel_rfl) (by kernel_rfl) (fun _ _ _ h => h) (Or.inl ⟨by rfl, ?hy6⟩) (by assumption) ?rest6
  case hy6 => (intro _ hSw; (try dsimp only at hSw); go_simp; (try with_reducible rfl))
  (try simp only [Act.put]); (try simp only [List.setIfInBounds_toArray]); (try simp only [List.set_cons_succ]); (try simp only [List.set_cons_zero])
  refine wpAnyH_ready (rs := [1]) (by kernel_rfl) (by simp) ?_
  refine (AllReadyH.cons rfl (fun K hK => ?_) AllReadyH.nil)
  (try simp only [List.getElem_toArray]); (try simp only [List.getElem_cons_succ]); (try simp only [List.getElem_cons_zero])
  go_simp
  obtain ⟨w7, hw7⟩ : ∃ w7, w7 = wd.alloc (.cells #[] 3) := ⟨_, rfl⟩
  obtain ⟨z7, hz7⟩ : ∃ z7, z7 = wd.heap.size := ⟨_, rfl⟩
  have hb7 : Below wd.heap.size wd w7 := by rw [hw7]; exact below_alloc wd _
  have HB7 := Lib.hid hb7
  have HO7 : Hid (w7.ownsRow wd.heap.size 3 1 (.slice (some ⟨z7, 0, none⟩) 0 0) 0 []) := Lib.hid (by rw [hw7, hz7]; exact World.ownsRow_made wd #[] 0 (Nat.le_refl _) (by decide) rfl)
  have HS7 := Lib.hid (HSD.out.kept hb7)
  have HSR : Hid (Src Try.prog 1 31 (.slice pk a.keep.length ck) a.keep.length (a.keep.map (Value.int .i64)) w7) := Lib.hid (Row.src Try.underlying31 (row_kept HA.out.row HS7.out.bel))
  rw [← hw7, ← hz7]
  refine hK.out _ _ HS7.out.c5 (fun hS7 => ?_)
  clear hK K hw7 hz7 hb7 hHeld
  (try simp only [Act.put]); (try simp only [List.setIfInBounds_toArray]); (try simp only [List.set_cons_succ]); (try simp only [List.set_cons_zero])
  refine wpAnyH_ready (rs := [4]) (by kernel_rfl) (by simp) ?_
  refine (AllReadyH.cons rfl (fun K hK => ?_) AllReadyH.nil)
  refine step_app rfl (.tmp 115) (.tmp 117) 31 31 rfl wd.heap.size 3 iy (.int .i64 0) 1 8 Try.underlying31 hiy hy0 hy1 hy2 rfl (.slice (some ⟨z7, 0, none⟩) 0 0) 0 [] (by rfl) HO7.out (.slice pk a.keep.length ck) a.keep.length (a.keep.map (Value.int .i64)) (by rfl) HSR.out (by have := HA.out.kl; unfold maxLen; omega) (by have := HA.out.kl; omega) HB7.out.size ?_
  intro v8 w8 ho8 hg8 hn8 hk8
  have HO8 : Hid (w8.ownsRow wd.heap.size 3 1 v8 a.keep.length (a.keep.map (Value.int .i64))) := Lib.hid (by simpa using ho8)
  have hb8 : Below wd.heap.size wd w8 := HB7.out.trans ((Fr.of_grown hg8).below (by intro y hy; exact own_lo HO7.out (Option.mem_toList.1 hy)) HB7.out.size)
  have HB8 := Lib.hid hb8
  have HS8 := Lib.hid (HSD.out.kept hb8)
  refine hK.out _ _ HS8.out.c5 (fun hS8 => ?_)
  clear hK K ho8 hg8 hn8 hk8 hb8 hS7
  (try simp only [Act.put]); (try simp only [List.setIfInBounds_toArray]); (try simp only [List.set_cons_succ]); (try simp only [List.set_cons_zero])
  refine wpAnyH_ready (rs := [5]) (by kernel_rfl) (by simp) ?_
  refine (AllReadyH.cons rfl (fun K hK => ?_) AllReadyH.nil)
  (try simp only [List.getElem_toArray]); (try simp only [List.getElem_cons_succ]); (try simp only [List.getElem_cons_zero])
  go_simp
  go_at_call 13
  refine (Sp.crash1 HSD.out HB8.out GD.out HO8.out HA.out.kw).mono ?_
  rintro e w9 ⟨rfl, hs⟩
  have HS9 := Lib.hid hs
  clear hs
  refine hK.out _ _ HS9.out.c5 (fun hS9 => ?_)
  clear hK K hS8
  (try simp only [Act.put]); (try simp only [List.setIfInBounds_toArray]); (try simp only [List.set_cons_succ]); (try simp only [List.set_cons_zero])
  refine wpAnyH_ready (rs := [9]) (by kernel_rfl) (by simp) ?_
  refine (AllReadyH.cons rfl (fun K hK => ?_) AllReadyH.nil)
  (try simp only [List.getElem_toArray]); (try simp only [List.getElem_cons_succ]); (try simp only [List.getElem_cons_zero])
  go_simp
  go_at_call 53; refine (Sp.run (X := X) (wx := wx) (w0 := w0) (b := b) (g := g) (bx := bx) (a := a) (vb := .slice p a.bs.length c) (vk := .slice pk a.keep.length ck) (vl := .slice p6 a.bs.length c6) (D := (D.crash a.keep).2) (E := E) (by (repeat (first | with_reducible exact HS9.out | apply Sp.drew))) (fun wl ht => tr_crash ht GE.out a.keep _ (row_kept HA.out.row ht.bel) HA.out.kw (fun hne k hk => .inr (row_blk HA.out.row (List.length_pos_iff.2 hne) hk)))).mono ?_; rintro e w10 ⟨rfl, hs⟩; have HS10 : Hid (Sp X wx w0 b g bx a (.slice p a.bs.length c) (.slice pk a.keep.length ck) (.slice p6 a.bs.length c6) ((D.crash a.keep).2) ((E.crash a.keep).2) w10) := Lib.hid hs; clear hs
  refine hK.out _ _ HS10.out.c5 (fun hS10 => ?_)
  clear hK K hS9
  (try simp only [Act.put]); (try simp only [List.setIfInBounds_toArray]); (try simp only [List.set_cons_succ]); (try simp only [List.set_cons_zero])
  refine wpAnyH_take (i := 10) (v := ?v7) rfl (by kernel_rfl) (by kernel_rfl) (by kernel_rfl) (fun _ _ _ h => h) (Or.inl ⟨by rfl, ?hy7⟩) (by assumption) ?rest7
  case hy7 => (intro _ hSw; (try dsimp only at hSw); go_simp; (try with_reducible rfl))
  (try simp only [Act.put]); (try simp only [List.setIfInBounds_toArray]); (try simp only [List.set_cons_succ]); (try simp only [List.set_cons_zero])
  refine wpAnyH_take (i := 11) (v := ?v8) rfl (by kernel_rfl) (by kernel_rfl) (by kernel_rfl) (fun _ _ _ h => h) (Or.inl ⟨by rfl, ?hy8⟩) (by assumption) ?rest8
  case hy8 => (intro _ hSw; (try dsimp only at hSw); go_simp; (try with_reducible rfl))
  (try simp only [Act.put]); (try simp only [List.setIfInBounds_toArray]); (try simp only [List.set_cons_succ]); (try simp only [List.set_cons_zero])
  refine wpAnyH_done (by kernel_rfl) ?_ _
  (try simp only [List.getElem_toArray]); (try simp only [List.getElem_cons_succ]); (try simp only [List.getElem_cons_zero]); (try simp only [List.setIfInBounds_toArray]); (try simp only [List.set_cons_succ, List.set_cons_zero])
  (try simp only [Act.put]); (try simp only [List.setIfInBounds_toArray]); (try simp only [List.set_cons_succ]); (try simp only [List.set_cons_zero])
  go_wp2
  go_ret
  exact ⟨_, rfl, fun e => by subst e; simp, HS10.out.back⟩
end Go.Proofs.Ytgcemddobcjpnaa
namespace Go.Proofs.Ytgcemddobcjpnaa
open Go.RowKit

theorem read_len {D : Dk} {M : Nat} {N : Int} (h : DkI D M N) (s : ByteArray) : (D.read s).2.length ≤ 1073741824 := by
  unfold Dk.read
  split
  · simp
  · split
    · simp
    · rename_i f hf
      have h1 := (get_of hf).1
      have h2 : (f.b.length : Int) ≤ D.room := h.one_le h1
      have := h.room
      show f.b.length ≤ _
      omega

set_option maxRecDepth 100000 in
set_option maxHeartbeats 4000000 in
theorem step_read_true_true (a : Ac) (vb vk : Value) (w0 w : World) (X : Nat → Prop) (wx : World) (b g : Nat) (D E : Dk) (M : Nat) (N : Int) (h : Tw X wx w0 w b g D E) (gd : Good D M N) (ge : Good E M N) (ha : AcOk w0 a vb vk) (hbl : a.bs.length ≤ 2000) (h4 : a.kd % 11 = 10) (hq : ((D.read a.nm).2 == (E.read a.nm).2) = true) (hq2 : ((D.read a.nm).1 == (E.read a.nm).1) = true) : Calls Try.prog 24 #[ptr b, ptr g, .agg #[.int .i64 a.kd, .string a.nm, .string a.nt, vb, .int .i64 a.n, vk]] w fun e w' => ∃ bb, e = .returned (.bool bb) ∧ (D = E → bb = true) ∧ Tw X wx w0 w' b g (D) (E) := by
  have HLL : Hid ((D.read a.nm).2.length ≤ 1073741824) := Lib.hid (read_len gd.i a.nm)
  have HPK : Hid (∀ w, Calls Try.prog 32 #[.int .i64 a.kd, .int .i64 11] w fun e w' => e = .returned (.int .i64 10) ∧ w = w') := Lib.hid (fun w => by have := pickn_any a.kd 11 w (by omega) (by omega); rwa [h4] at this)
  have GD := Lib.hid gd
  have GE := Lib.hid ge
  have HA := Lib.hid ha
  have HT := Lib.hid h
  have HBL := Lib.hid hbl
  obtain ⟨p, c, rfl, -⟩ := ha.rd.parts
  obtain ⟨ix, hix, hz0, hz1, hz2⟩ := info_parts Try.uinfo
  obtain ⟨wa, hwa⟩ : ∃ wa, wa = w.alloc (.cells #[.int .i64 a.kd, .string a.nm, .string a.nt, .slice p a.bs.length c, .int .i64 a.n, vk] 48) := ⟨_, rfl⟩
  obtain ⟨bx, hbx⟩ : ∃ bx, bx = w.heap.size := ⟨_, rfl⟩
  have hba : Below w.heap.size w wa := by rw [hwa]; exact below_alloc w _
  have HBXA : Hid (Blk wa bx (acC a (.slice p a.bs.length c) vk) 48) := Lib.hid (by rw [hwa, hbx]; exact Blk.made w (acC a (.slice p a.bs.length c) vk) _)
  have HBX : Hid (w.heap.size ≤ bx) := Lib.hid (by omega)
  have HBA := Lib.hid hba
  obtain ⟨wz, hwz⟩ : ∃ wz, wz = wa.alloc (.cells #[] 5) := ⟨_, rfl⟩
  obtain ⟨bz, hbz⟩ : ∃ bz, bz = wa.heap.size := ⟨_, rfl⟩
  have hbza : Below wa.heap.size wa wz := by rw [hwz]; exact below_alloc wa _
  have HBZ := Lib.hid hbza
  have HOW : Hid (wz.ownsRow wa.heap.size 5 1 (.slice (some ⟨bz, 0, none⟩) 0 0) 0 []) := Lib.hid (by rw [hwz, hbz]; exact World.ownsRow_lit (e := 5) (size := 1) wa #[] 0 (Nat.le_refl _) (by simp [maxLen]) rfl)
  have HSR : Hid (Src Try.prog 1 29 (.slice p a.bs.length c) a.bs.length (a.bs.map B) wz) := Lib.hid (Row.src Try.underlying29 (ha.rd.below (below_and h.bel (below_and hba hbza))))
  have y3 := (HBXA.out.kept (below_alloc wa (.cells #[] 5))).cell (j := 3) rfl
  clear h gd ge ha hbl hba hbza h4
  go_enter Try.func24, Try.ntmps24
  go_upto_region 1 with fail
  rw [← hwa, ← hbx]
  clear hwa hbx
  go_upto_region 2 with (at_builtin; rw [← hwz, ← hbz]; refine wpList_app5 rfl _ _ 29 29 rfl wa.heap.size 5 ix (.int .u8 0) 1 1 Try.underlying29 hix hz0 hz1 hz2 rfl _ 0 [] rfl HOW.out _ a.bs.length (a.bs.map B) rfl HSR.out (by have := HBL.out; unfold maxLen; omega) (by have := HBL.out; omega) HBZ.out.size ?_; intro v6 w6 hown6 hgrow6 hn6; have HO6 : Hid (w6.ownsRow wa.heap.size 5 1 v6 a.bs.length (a.bs.map B)) := Lib.hid (by simpa using hown6); have HB6 := Lib.hid (below_grown HBZ.out HBZ.out.size HOW.out hgrow6); clear hown6 hgrow6 hn6)
  have HS : Hid (Sp X wx w0 b g bx a (.slice p a.bs.length c) vk v6 D E w6) := Lib.hid (Sp.make HT.out (below_and HBA.out HB6.out) HBX.out (HBXA.out.kept HB6.out) HO6.out HBA.out.size)
  obtain ⟨p6, c6, rfl, -, -⟩ := own_slice HO6.out
  clear HT y3 HOW HSR HBXA HBX HBA HBZ HO6 HB6 hz0 hz1 hz2 hix
  have y0 := HS.out.blk.cell (j := 0) rfl
  have y1 := HS.out.c1
  go_wp2_with (first
    | (go_at_call 32; refine (HPK.out _).mono ?_; rintro e w8 ⟨rfl, rfl⟩)
    | (go_at_call 14; refine (od_read (HS.out.back).od GD.out a.nm HA.out.nm).mono ?_; rintro e w7 ⟨v7, rfl, hf, hb⟩; obtain ⟨p7, c7, rfl, -, -⟩ := own_slice hf; have HF7 := Lib.hid hf; have HS7 := Lib.hid (HS.out.kept hb); have HB7 := Lib.hid hb; have y7 := HS7.out.c1; clear hf hb)
    | (go_at_call 56; refine (tr_read HS7.out.back GE.out a.nm HA.out.nm).mono ?_; rintro e w9 ⟨v9, rfl, hf, hb⟩; have HF9 := Lib.hid hf; have HF7b : Hid (Fresh w6.heap.size w9 (.slice p7 (D.read a.nm).2.length c7) (D.read a.nm).2) := Lib.hid (own_keep HF7.out hb); have HB9 := Lib.hid (below_and HB7.out hb); clear hf hb)
    | (go_at_call 31; refine (opq2 (same_any _ _ _ _ _ (Fresh.rd HF7b.out) (Fresh.rd HF9.out))).mono ?_; rw [hq]; rintro e w10 ⟨rfl, hb⟩; have HO0 : Hid (w10.ownsRow w6.heap.size 5 1 (.slice p7 (D.read a.nm).2.length c7) (D.read a.nm).2.length ((D.read a.nm).2.map B)) := Lib.hid (own_keep HF7b.out hb); have HB10 := Lib.hid (below_and HB9.out hb); clear hb))
  obtain ⟨n, hn⟩ : ∃ n, n = (D.read a.nm).2.length := ⟨_, rfl⟩
  have HLN : Hid (n ≤ 1073741824) := Lib.hid (by rw [hn]; exact HLL.out)
  have hll := HLN.out
  have HO1 : Hid (∃ xs : List UInt8, xs.length = n ∧ w10.ownsRow w6.heap.size 5 1 (.slice p7 n c7) n (xs.map B)) := Lib.hid ⟨(D.read a.nm).2, hn.symm, by rw [hn]; exact HO0.out⟩
  try rw [← hn]
  clear HO0
  go_loopw [18] (fun i wr => ∃ k : Nat, k ≤ n ∧ i = .int .i64 (k : Int) ∧ Hid (∃ xs : List UInt8, xs.length = n ∧ wr.ownsRow w6.heap.size 5 1 (.slice p7 n c7) n (xs.map B)) ∧ Hid (Below w6.heap.size w6 wr)) (fun i _ => n - (intOf i).toNat)
  case atStart => exact ⟨0, Nat.zero_le _, rfl, HO1, HB10⟩
  case round =>
    obtain ⟨k, hk, rfl, HX, HB⟩ := hrel
    by_cases hlt : k < n
    · obtain ⟨xs, hxl, hxo⟩ := HX.out
      obtain ⟨g7, cc, e7, -, -, -⟩ := own_block hxo (by omega)
      simp only [Value.slice.injEq] at e7
      obtain ⟨rfl, -, rfl⟩ := e7
      obtain ⟨y, hy⟩ : ∃ y, y = xs[k]'(by omega) := ⟨_, rfl⟩
      have z1 := own_cell hxo (j := k) (u := B y) (by rw [hy, List.getElem?_map, List.getElem?_eq_getElem (by omega)]; rfl)
      have f1 := own_free hxo k
      have HXO := Lib.hid hxo
      have HXL := Lib.hid hxl
      have hbx := xor_u8 y 255
      have e255 : ((255 : UInt8).toNat : Int) = 255 := by decide
      rw [e255] at hbx
      have i1 : (k : Int) < (n : Int) := by omega
      have b0 : (0 : Int) ≤ (k : Int) := by omega
      have HLO : Hid (w6.heap.size ≤ g7) := Lib.hid (own_lo hxo rfl)
      clear hxo hxl hy e255
      go_wp2
      go_roundw
      case rel =>
        refine ⟨k + 1, hlt, by go_num, Lib.hid ⟨xs.set k (y ^^^ 255), by rw [List.length_set]; exact HXL.out, ?_⟩, Lib.hid (HB.out.setCell HLO.out _)⟩
        have := own_set HXO.out (k := k) (by omega) (B (y ^^^ 255))
        rw [List.map_set]
        exact this
      case measure => simp [intOf]; omega
    · obtain rfl : k = n := by omega
      go_wp2
      go_ret
      exact ⟨_, rfl, fun e => by first | rfl | (subst e; exact absurd hq2 (by simp)) | (subst e; exact absurd hq (by simp)), (HS.out.kept HB.out).back⟩

set_option maxRecDepth 100000 in
set_option maxHeartbeats 4000000 in
theorem step_read_true_false (a : Ac) (vb vk : Value) (w0 w : World) (X : Nat → Prop) (wx : World) (b g : Nat) (D E : Dk) (M : Nat) (N : Int) (h : Tw X wx w0 w b g D E) (gd : Good D M N) (ge : Good E M N) (ha : AcOk w0 a vb vk) (hbl : a.bs.length ≤ 2000) (h4 : a.kd % 11 = 10) (hq : ((D.read a.nm).2 == (E.read a.nm).2) = true) (hq2 : ((D.read a.nm).1 == (E.read a.nm).1) = false) : Calls Try.prog 24 #[ptr b, ptr g, .agg #[.int .i64 a.kd, .string a.nm, .string a.nt, vb, .int .i64 a.n, vk]] w fun e w' => ∃ bb, e = .returned (.bool bb) ∧ (D = E → bb = true) ∧ Tw X wx w0 w' b g (D) (E) := by
  have HLL : Hid ((D.read a.nm).2.length ≤ 1073741824) := Lib.hid (read_len gd.i a.nm)
  have HPK : Hid (∀ w, Calls Try.prog 32 #[.int .i64 a.kd, .int .i64 11] w fun e w' => e = .returned (.int .i64 10) ∧ w = w') := Lib.hid (fun w => by have := pickn_any a.kd 11 w (by omega) (by omega); rwa [h4] at this)
  have GD := Lib.hid gd
  have GE := Lib.hid ge
  have HA := Lib.hid ha
  have HT := Lib.hid h
  have HBL := Lib.hid hbl
  obtain ⟨p, c, rfl, -⟩ := ha.rd.parts
  obtain ⟨ix, hix, hz0, hz1, hz2⟩ := info_parts Try.uinfo
  obtain ⟨wa, hwa⟩ : ∃ wa, wa = w.alloc (.cells #[.int .i64 a.kd, .string a.nm, .string a.nt, .slice p a.bs.length c, .int .i64 a.n, vk] 48) := ⟨_, rfl⟩
  obtain ⟨bx, hbx⟩ : ∃ bx, bx = w.heap.size := ⟨_, rfl⟩
  have hba : Below w.heap.size w wa := by rw [hwa]; exact below_alloc w _
  have HBXA : Hid (Blk wa bx (acC a (.slice p a.bs.length c) vk) 48) := Lib.hid (by rw [hwa, hbx]; exact Blk.made w (acC a (.slice p a.bs.length c) vk) _)
  have HBX : Hid (w.heap.size ≤ bx) := Lib.hid (by omega)
  have HBA := Lib.hid hba
  obtain ⟨wz, hwz⟩ : ∃ wz, wz = wa.alloc (.cells #[] 5) := ⟨_, rfl⟩
  obtain ⟨bz, hbz⟩ : ∃ bz, bz = wa.heap.size := ⟨_, rfl⟩
  have hbza : Below wa.heap.size wa wz := by rw [hwz]; exact below_alloc wa _
  have HBZ := Lib.hid hbza
  have HOW : Hid (wz.ownsRow wa.heap.size 5 1 (.slice (some ⟨bz, 0, none⟩) 0 0) 0 []) := Lib.hid (by rw [hwz, hbz]; exact World.ownsRow_lit (e := 5) (size := 1) wa #[] 0 (Nat.le_refl _) (by simp [maxLen]) rfl)
  have HSR : Hid (Src Try.prog 1 29 (.slice p a.bs.length c) a.bs.length (a.bs.map B) wz) := Lib.hid (Row.src Try.underlying29 (ha.rd.below (below_and h.bel (below_and hba hbza))))
  have y3 := (HBXA.out.kept (below_alloc wa (.cells #[] 5))).cell (j := 3) rfl
  clear h gd ge ha hbl hba hbza h4
  go_enter Try.func24, Try.ntmps24
  go_upto_region 1 with fail
  rw [← hwa, ← hbx]
  clear hwa hbx
  go_upto_region 2 with (at_builtin; rw [← hwz, ← hbz]; refine wpList_app5 rfl _ _ 29 29 rfl wa.heap.size 5 ix (.int .u8 0) 1 1 Try.underlying29 hix hz0 hz1 hz2 rfl _ 0 [] rfl HOW.out _ a.bs.length (a.bs.map B) rfl HSR.out (by have := HBL.out; unfold maxLen; omega) (by have := HBL.out; omega) HBZ.out.size ?_; intro v6 w6 hown6 hgrow6 hn6; have HO6 : Hid (w6.ownsRow wa.heap.size 5 1 v6 a.bs.length (a.bs.map B)) := Lib.hid (by simpa using hown6); have HB6 := Lib.hid (below_grown HBZ.out HBZ.out.size HOW.out hgrow6); clear hown6 hgrow6 hn6)
  have HS : Hid (Sp X wx w0 b g bx a (.slice p a.bs.length c) vk v6 D E w6) := Lib.hid (Sp.make HT.out (below_and HBA.out HB6.out) HBX.out (HBXA.out.kept HB6.out) HO6.out HBA.out.size)
  obtain ⟨p6, c6, rfl, -, -⟩ := own_slice HO6.out
  clear HT y3 HOW HSR HBXA HBX HBA HBZ HO6 HB6 hz0 hz1 hz2 hix
  have y0 := HS.out.blk.cell (j := 0) rfl
  have y1 := HS.out.c1
  go_wp2_with (first
    | (go_at_call 32; refine (HPK.out _).mono ?_; rintro e w8 ⟨rfl, rfl⟩)
    | (go_at_call 14; refine (od_read (HS.out.back).od GD.out a.nm HA.out.nm).mono ?_; rintro e w7 ⟨v7, rfl, hf, hb⟩; obtain ⟨p7, c7, rfl, -, -⟩ := own_slice hf; have HF7 := Lib.hid hf; have HS7 := Lib.hid (HS.out.kept hb); have HB7 := Lib.hid hb; have y7 := HS7.out.c1; clear hf hb)
    | (go_at_call 56; refine (tr_read HS7.out.back GE.out a.nm HA.out.nm).mono ?_; rintro e w9 ⟨v9, rfl, hf, hb⟩; have HF9 := Lib.hid hf; have HF7b : Hid (Fresh w6.heap.size w9 (.slice p7 (D.read a.nm).2.length c7) (D.read a.nm).2) := Lib.hid (own_keep HF7.out hb); have HB9 := Lib.hid (below_and HB7.out hb); clear hf hb)
    | (go_at_call 31; refine (opq2 (same_any _ _ _ _ _ (Fresh.rd HF7b.out) (Fresh.rd HF9.out))).mono ?_; rw [hq]; rintro e w10 ⟨rfl, hb⟩; have HO0 : Hid (w10.ownsRow w6.heap.size 5 1 (.slice p7 (D.read a.nm).2.length c7) (D.read a.nm).2.length ((D.read a.nm).2.map B)) := Lib.hid (own_keep HF7b.out hb); have HB10 := Lib.hid (below_and HB9.out hb); clear hb))
  obtain ⟨n, hn⟩ : ∃ n, n = (D.read a.nm).2.length := ⟨_, rfl⟩
  have HLN : Hid (n ≤ 1073741824) := Lib.hid (by rw [hn]; exact HLL.out)
  have hll := HLN.out
  have HO1 : Hid (∃ xs : List UInt8, xs.length = n ∧ w10.ownsRow w6.heap.size 5 1 (.slice p7 n c7) n (xs.map B)) := Lib.hid ⟨(D.read a.nm).2, hn.symm, by rw [hn]; exact HO0.out⟩
  try rw [← hn]
  clear HO0
  go_loopw [18] (fun i wr => ∃ k : Nat, k ≤ n ∧ i = .int .i64 (k : Int) ∧ Hid (∃ xs : List UInt8, xs.length = n ∧ wr.ownsRow w6.heap.size 5 1 (.slice p7 n c7) n (xs.map B)) ∧ Hid (Below w6.heap.size w6 wr)) (fun i _ => n - (intOf i).toNat)
  case atStart => exact ⟨0, Nat.zero_le _, rfl, HO1, HB10⟩
  case round =>
    obtain ⟨k, hk, rfl, HX, HB⟩ := hrel
    by_cases hlt : k < n
    · obtain ⟨xs, hxl, hxo⟩ := HX.out
      obtain ⟨g7, cc, e7, -, -, -⟩ := own_block hxo (by omega)
      simp only [Value.slice.injEq] at e7
      obtain ⟨rfl, -, rfl⟩ := e7
      obtain ⟨y, hy⟩ : ∃ y, y = xs[k]'(by omega) := ⟨_, rfl⟩
      have z1 := own_cell hxo (j := k) (u := B y) (by rw [hy, List.getElem?_map, List.getElem?_eq_getElem (by omega)]; rfl)
      have f1 := own_free hxo k
      have HXO := Lib.hid hxo
      have HXL := Lib.hid hxl
      have hbx := xor_u8 y 255
      have e255 : ((255 : UInt8).toNat : Int) = 255 := by decide
      rw [e255] at hbx
      have i1 : (k : Int) < (n : Int) := by omega
      have b0 : (0 : Int) ≤ (k : Int) := by omega
      have HLO : Hid (w6.heap.size ≤ g7) := Lib.hid (own_lo hxo rfl)
      clear hxo hxl hy e255
      go_wp2
      go_roundw
      case rel =>
        refine ⟨k + 1, hlt, by go_num, Lib.hid ⟨xs.set k (y ^^^ 255), by rw [List.length_set]; exact HXL.out, ?_⟩, Lib.hid (HB.out.setCell HLO.out _)⟩
        have := own_set HXO.out (k := k) (by omega) (B (y ^^^ 255))
        rw [List.map_set]
        exact this
      case measure => simp [intOf]; omega
    · obtain rfl : k = n := by omega
      go_wp2
      go_ret
      exact ⟨_, rfl, fun e => by first | rfl | (subst e; exact absurd hq2 (by simp)) | (subst e; exact absurd hq (by simp)), (HS.out.kept HB.out).back⟩

set_option maxRecDepth 100000 in
set_option maxHeartbeats 4000000 in
theorem step_read_false_any (a : Ac) (vb vk : Value) (w0 w : World) (X : Nat → Prop) (wx : World) (b g : Nat) (D E : Dk) (M : Nat) (N : Int) (h : Tw X wx w0 w b g D E) (gd : Good D M N) (ge : Good E M N) (ha : AcOk w0 a vb vk) (hbl : a.bs.length ≤ 2000) (h4 : a.kd % 11 = 10) (hq : ((D.read a.nm).2 == (E.read a.nm).2) = false) : Calls Try.prog 24 #[ptr b, ptr g, .agg #[.int .i64 a.kd, .string a.nm, .string a.nt, vb, .int .i64 a.n, vk]] w fun e w' => ∃ bb, e = .returned (.bool bb) ∧ (D = E → bb = true) ∧ Tw X wx w0 w' b g (D) (E) := by
  have HLL : Hid ((D.read a.nm).2.length ≤ 1073741824) := Lib.hid (read_len gd.i a.nm)
  have HPK : Hid (∀ w, Calls Try.prog 32 #[.int .i64 a.kd, .int .i64 11] w fun e w' => e = .returned (.int .i64 10) ∧ w = w') := Lib.hid (fun w => by have := pickn_any a.kd 11 w (by omega) (by omega); rwa [h4] at this)
  have GD := Lib.hid gd
  have GE := Lib.hid ge
  have HA := Lib.hid ha
  have HT := Lib.hid h
  have HBL := Lib.hid hbl
  obtain ⟨p, c, rfl, -⟩ := ha.rd.parts
  obtain ⟨ix, hix, hz0, hz1, hz2⟩ := info_parts Try.uinfo
  obtain ⟨wa, hwa⟩ : ∃ wa, wa = w.alloc (.cells #[.int .i64 a.kd, .string a.nm, .string a.nt, .slice p a.bs.length c, .int .i64 a.n, vk] 48) := ⟨_, rfl⟩
  obtain ⟨bx, hbx⟩ : ∃ bx, bx = w.heap.size := ⟨_, rfl⟩
  have hba : Below w.heap.size w wa := by rw [hwa]; exact below_alloc w _
  have HBXA : Hid (Blk wa bx (acC a (.slice p a.bs.length c) vk) 48) := Lib.hid (by rw [hwa, hbx]; exact Blk.made w (acC a (.slice p a.bs.length c) vk) _)
  have HBX : Hid (w.heap.size ≤ bx) := Lib.hid (by omega)
  have HBA := Lib.hid hba
  obtain ⟨wz, hwz⟩ : ∃ wz, wz = wa.alloc (.cells #[] 5) := ⟨_, rfl⟩
  obtain ⟨bz, hbz⟩ : ∃ bz, bz = wa.heap.size := ⟨_, rfl⟩
  have hbza : Below wa.heap.size wa wz := by rw [hwz]; exact below_alloc wa _
  have HBZ := Lib.hid hbza
  have HOW : Hid (wz.ownsRow wa.heap.size 5 1 (.slice (some ⟨bz, 0, none⟩) 0 0) 0 []) := Lib.hid (by rw [hwz, hbz]; exact World.ownsRow_lit (e := 5) (size := 1) wa #[] 0 (Nat.le_refl _) (by simp [maxLen]) rfl)
  have HSR : Hid (Src Try.prog 1 29 (.slice p a.bs.length c) a.bs.length (a.bs.map B) wz) := Lib.hid (Row.src Try.underlying29 (ha.rd.below (below_and h.bel (below_and hba hbza))))
  have y3 := (HBXA.out.kept (below_alloc wa (.cells #[] 5))).cell (j := 3) rfl
  clear h gd ge ha hbl hba hbza h4
  go_enter Try.func24, Try.ntmps24
  go_upto_region 1 with fail
  rw [← hwa, ← hbx]
  clear hwa hbx
  go_upto_region 2 with (at_builtin; rw [← hwz, ← hbz]; refine wpList_app5 rfl _ _ 29 29 rfl wa.heap.size 5 ix (.int .u8 0) 1 1 Try.underlying29 hix hz0 hz1 hz2 rfl _ 0 [] rfl HOW.out _ a.bs.length (a.bs.map B) rfl HSR.out (by have := HBL.out; unfold maxLen; omega) (by have := HBL.out; omega) HBZ.out.size ?_; intro v6 w6 hown6 hgrow6 hn6; have HO6 : Hid (w6.ownsRow wa.heap.size 5 1 v6 a.bs.length (a.bs.map B)) := Lib.hid (by simpa using hown6); have HB6 := Lib.hid (below_grown HBZ.out HBZ.out.size HOW.out hgrow6); clear hown6 hgrow6 hn6)
  have HS : Hid (Sp X wx w0 b g bx a (.slice p a.bs.length c) vk v6 D E w6) := Lib.hid (Sp.make HT.out (below_and HBA.out HB6.out) HBX.out (HBXA.out.kept HB6.out) HO6.out HBA.out.size)
  obtain ⟨p6, c6, rfl, -, -⟩ := own_slice HO6.out
  clear HT y3 HOW HSR HBXA HBX HBA HBZ HO6 HB6 hz0 hz1 hz2 hix
  have y0 := HS.out.blk.cell (j := 0) rfl
  have y1 := HS.out.c1
  go_wp2_with (first
    | (go_at_call 32; refine (HPK.out _).mono ?_; rintro e w8 ⟨rfl, rfl⟩)
    | (go_at_call 14; refine (od_read (HS.out.back).od GD.out a.nm HA.out.nm).mono ?_; rintro e w7 ⟨v7, rfl, hf, hb⟩; obtain ⟨p7, c7, rfl, -, -⟩ := own_slice hf; have HF7 := Lib.hid hf; have HS7 := Lib.hid (HS.out.kept hb); have HB7 := Lib.hid hb; have y7 := HS7.out.c1; clear hf hb)
    | (go_at_call 56; refine (tr_read HS7.out.back GE.out a.nm HA.out.nm).mono ?_; rintro e w9 ⟨v9, rfl, hf, hb⟩; have HF9 := Lib.hid hf; have HF7b : Hid (Fresh w6.heap.size w9 (.slice p7 (D.read a.nm).2.length c7) (D.read a.nm).2) := Lib.hid (own_keep HF7.out hb); have HB9 := Lib.hid (below_and HB7.out hb); clear hf hb)
    | (go_at_call 31; refine (opq2 (same_any _ _ _ _ _ (Fresh.rd HF7b.out) (Fresh.rd HF9.out))).mono ?_; rw [hq]; rintro e w10 ⟨rfl, hb⟩; have HO0 : Hid (w10.ownsRow w6.heap.size 5 1 (.slice p7 (D.read a.nm).2.length c7) (D.read a.nm).2.length ((D.read a.nm).2.map B)) := Lib.hid (own_keep HF7b.out hb); have HB10 := Lib.hid (below_and HB9.out hb); clear hb))
  obtain ⟨n, hn⟩ : ∃ n, n = (D.read a.nm).2.length := ⟨_, rfl⟩
  have HLN : Hid (n ≤ 1073741824) := Lib.hid (by rw [hn]; exact HLL.out)
  have hll := HLN.out
  have HO1 : Hid (∃ xs : List UInt8, xs.length = n ∧ w10.ownsRow w6.heap.size 5 1 (.slice p7 n c7) n (xs.map B)) := Lib.hid ⟨(D.read a.nm).2, hn.symm, by rw [hn]; exact HO0.out⟩
  try rw [← hn]
  clear HO0
  go_loopw [18] (fun i wr => ∃ k : Nat, k ≤ n ∧ i = .int .i64 (k : Int) ∧ Hid (∃ xs : List UInt8, xs.length = n ∧ wr.ownsRow w6.heap.size 5 1 (.slice p7 n c7) n (xs.map B)) ∧ Hid (Below w6.heap.size w6 wr)) (fun i _ => n - (intOf i).toNat)
  case atStart => exact ⟨0, Nat.zero_le _, rfl, HO1, HB10⟩
  case round =>
    obtain ⟨k, hk, rfl, HX, HB⟩ := hrel
    by_cases hlt : k < n
    · obtain ⟨xs, hxl, hxo⟩ := HX.out
      obtain ⟨g7, cc, e7, -, -, -⟩ := own_block hxo (by omega)
      simp only [Value.slice.injEq] at e7
      obtain ⟨rfl, -, rfl⟩ := e7
      obtain ⟨y, hy⟩ : ∃ y, y = xs[k]'(by omega) := ⟨_, rfl⟩
      have z1 := own_cell hxo (j := k) (u := B y) (by rw [hy, List.getElem?_map, List.getElem?_eq_getElem (by omega)]; rfl)
      have f1 := own_free hxo k
      have HXO := Lib.hid hxo
      have HXL := Lib.hid hxl
      have hbx := xor_u8 y 255
      have e255 : ((255 : UInt8).toNat : Int) = 255 := by decide
      rw [e255] at hbx
      have i1 : (k : Int) < (n : Int) := by omega
      have b0 : (0 : Int) ≤ (k : Int) := by omega
      have HLO : Hid (w6.heap.size ≤ g7) := Lib.hid (own_lo hxo rfl)
      clear hxo hxl hy e255
      go_wp2
      go_roundw
      case rel =>
        refine ⟨k + 1, hlt, by go_num, Lib.hid ⟨xs.set k (y ^^^ 255), by rw [List.length_set]; exact HXL.out, ?_⟩, Lib.hid (HB.out.setCell HLO.out _)⟩
        have := own_set HXO.out (k := k) (by omega) (B (y ^^^ 255))
        rw [List.map_set]
        exact this
      case measure => simp [intOf]; omega
    · obtain rfl : k = n := by omega
      go_wp2
      go_ret
      exact ⟨_, rfl, fun e => by first | rfl | (subst e; exact absurd hq2 (by simp)) | (subst e; exact absurd hq (by simp)), (HS.out.kept HB.out).back⟩
end Go.Proofs.Ytgcemddobcjpnaa
namespace Go.Proofs.Ytgcemddobcjpnaa
open Go.RowKit

theorem DkI.act {D : Dk} {M : Nat} {N : Int} (h : DkI D M N) (k : Int) (a : Ac) (hb : a.bs.length ≤ 2000) (hn : a.n ≤ 9223372036854775807) : DkI (D.act k a) (M + 1) (N + 2001) := by
  unfold Dk.act
  repeat' split
  · exact (h.make a.nm).mono (by omega) (by omega)
  · exact (h.append a.nm a.bs).mono (by omega) (by omega)
  · exact (h.sync a.nm).mono (by omega) (by omega)
  · exact (h.rename a.nm a.nt).mono (by omega) (by omega)
  · exact (h.remove a.nm).mono (by omega) (by omega)
  · exact (h.setFuse a.n hn).mono (by omega) (by omega)
  · exact h.free.mono (by omega) (by omega)
  · exact (h.crash a.keep).mono (by omega) (by omega)
  · exact (h.turn a.nm a.n a.c).mono (by omega) (by omega)
  · exact h.mono (by omega) (by omega)

theorem dstep_any (a : Ac) (vb vk : Value) (w0 w : World) (X : Nat → Prop) (wx : World) (b g : Nat) (D E : Dk) (M : Nat) (N : Int) (h : Tw X wx w0 w b g D E) (gd : Good D M N) (ge : Good E M N) (ha : AcOk w0 a vb vk) (hbl : a.bs.length ≤ 2000) : Calls Try.prog 24 #[ptr b, ptr g, .agg #[.int .i64 a.kd, .string a.nm, .string a.nt, vb, .int .i64 a.n, vk]] w fun e w' => ∃ bb, e = .returned (.bool bb) ∧ (D = E → bb = true) ∧ Tw X wx w0 w' b g (D.act (a.kd % 11) a) (E.act (a.kd % 11) a) := by
  have h0 : 0 ≤ a.kd % 11 := Int.emod_nonneg _ (by omega)
  have h1 : a.kd % 11 < 11 := Int.emod_lt_of_pos _ (by omega)
  obtain ⟨k, hk⟩ : ∃ k, k = a.kd % 11 := ⟨_, rfl⟩
  rw [← hk] at h0 h1 ⊢
  have h2 : k = 0 ∨ k = 1 ∨ k = 2 ∨ k = 3 ∨ k = 4 ∨ k = 5 ∨ k = 6 ∨ k = 7 ∨ k = 8 ∨ k = 9 ∨ k = 10 := by omega
  rcases h2 with h2 | h2 | h2 | h2 | h2 | h2 | h2 | h2 | h2 | h2 | h2
  · subst h2
    exact step_make a vb vk w0 w X wx b g D E M N h gd ge ha hbl hk.symm
  · subst h2
    cases hq : ((D.append a.nm a.bs).1 == (E.append a.nm a.bs).1)
    · exact step_append_ne a vb vk w0 w X wx b g D E M N h gd ge ha hbl hk.symm hq
    · exact step_append_eq a vb vk w0 w X wx b g D E M N h gd ge ha hbl hk.symm hq
  · subst h2
    exact step_sync a vb vk w0 w X wx b g D E M N h gd ge ha hbl hk.symm
  · subst h2
    exact step_rename a vb vk w0 w X wx b g D E M N h gd ge ha hbl hk.symm
  · subst h2
    exact step_remove a vb vk w0 w X wx b g D E M N h gd ge ha hbl hk.symm
  · subst h2
    exact step_fuse a vb vk w0 w X wx b g D E M N h gd ge ha hbl hk.symm
  · subst h2
    exact step_free a vb vk w0 w X wx b g D E M N h gd ge ha hbl hk.symm
  · subst h2
    exact step_crash a vb vk w0 w X wx b g D E M N h gd ge ha hbl hk.symm
  · subst h2
    cases hb : a.bs with
    | nil => exact step_turn_nil a vb vk w0 w X wx b g D E M N h gd ge ha hbl hk.symm hb
    | cons c0 bt => exact step_turn_cons a vb vk w0 w X wx b g D E M N h gd ge ha hbl hk.symm c0 bt hb
  · subst h2
    cases hq : ((D.synced a.nm).2 == (E.synced a.nm).2)
    · exact step_synced_false_any a vb vk w0 w X wx b g D E M N h gd ge ha hbl hk.symm hq
    · cases hq2 : ((D.synced a.nm).1 == (E.synced a.nm).1)
      · exact step_synced_true_false a vb vk w0 w X wx b g D E M N h gd ge ha hbl hk.symm hq hq2
      · exact step_synced_true_true a vb vk w0 w X wx b g D E M N h gd ge ha hbl hk.symm hq hq2
  · subst h2
    cases hq : ((D.read a.nm).2 == (E.read a.nm).2)
    · exact step_read_false_any a vb vk w0 w X wx b g D E M N h gd ge ha hbl hk.symm hq
    · cases hq2 : ((D.read a.nm).1 == (E.read a.nm).1)
      · exact step_read_true_false a vb vk w0 w X wx b g D E M N h gd ge ha hbl hk.symm hq hq2
      · exact step_read_true_true a vb vk w0 w X wx b g D E M N h gd ge ha hbl hk.symm hq hq2
end Go.Proofs.Ytgcemddobcjpnaa
namespace Go.Proofs.Ytgcemddobcjpnaa
open Go.ChangeShapes Go.WideShapes Go.ChangeAt Go.RowKit

theorem slice_reach {H : Type} {enc : TypeId × Value → H} {P : Program} {W : World} {t e : TypeId} {v : Value} {d : DataW H} {ps : List MemPlace} {r : Reach} {b0 : Nat} {ts : List TypeId} {ds : List (DataW H)} {j : Nat}
    (ht : P.underlying t = some (.slice e)) (hval : Value.okWide P W r b0 t v) (h : DataW.Trod enc P W 0 (fun _ => true) true t v d ps)
    (hsz : (DataW.weightsEach P ts ds).all (· ≤ reachBytes) = true) (hj : ts[j]? = some t) (hd : ds[j]? = some d) (bytes : Nat) (hb : P.bytesOf e = bytes) :
    ∃ a n c, v = .slice a n c ∧ n * bytes ≤ 140737488351232 := by
  obtain ⟨a0, len0, cap0, rfl⟩ := okWide_slice ht hval
  obtain ⟨fuel, hf⟩ := h
  rcases Deep.open_slice ht hf with ⟨hcs, -⟩ | ⟨a, len, cap, m, n, D, Pl, hcs, -, hl, -, hmm, hx, -⟩
  · simp [Value.cells] at hcs
    obtain ⟨rfl, rfl, rfl⟩ := hcs
    exact ⟨_, _, _, rfl, by simp⟩
  · simp [Value.cells] at hcs
    obtain ⟨rfl, rfl, rfl⟩ := hcs
    simp only [Prod.mk.injEq] at hx
    have hd' := hx.1
    subst hd'
    have := sized_slice hsz hj hd ht
    simp only [List.length_map, List.length_range] at this
    rw [hb] at this
    have h3 : len0 * bytes ≤ (len0 + (m - len0)) * bytes := Nat.mul_le_mul_right _ (by omega)
    have h4 : reachBytes = 140737488351232 := by decide
    exact ⟨_, _, _, rfl, by omega⟩
theorem row_len {w : World} {v : Value} {size n : Nat} {cs : List Value} (h : Row w v size n cs) {a : Option Addr} {m c : Nat} (e : v = .slice a m c) : m = n := by
  obtain ⟨p, c', hv, -⟩ := h
  rw [e] at hv
  simp only [Value.slice.injEq] at hv
  exact hv.2.1
end Go.Proofs.Ytgcemddobcjpnaa
