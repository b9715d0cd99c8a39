/- Texts of one proof, laid together: QCharge. No condition of ours. -/
import Derived.Test.YtmgbailpmcggiaaGreatQZ11
namespace Go.Proofs.YtmgbailpmcggiaaGreat
open Go.RowKit

theorem nmdB_len {n : ByteArray} (h : nmdB n = true) : n.size ≤ maxLen := by
  unfold nmdB at h
  simp only [decide_eq_true_eq] at h
  unfold maxLen; omega
theorem charge_look {w : World} {mc : Nat} {C : List Ch} {n : ByteArray} (h : SMap Tryz.prog 9 w mc (chM C)) (hn : n.size ≤ maxLen) :
    (Instr.lookup 45 (.map (some mc)) (.string n) true).run Tryz.prog w = .ok (.tuple #[chV ((kfnd Ch.key C n.data.toList).getD zC), .bool (kfnd Ch.key C n.data.toList).isSome]) w := by
  rw [SMap.look_ok (e := 43) h Tryz.underlying9 Tryz.underlying45 (czero w) hn]
  unfold chM
  rw [kM_get, kM_has]
  cases kfnd Ch.key C n.data.toList <;> rfl
/-- a world is hidden: what came is behind an elder one -/
theorem wp_hide {P : Program} {c : Code} {Q : Exit → Act → World → Prop} {a : Act} {w0 w : World} (hb : Below w0.heap.size w0 w) (h : ∀ w', Below w0.heap.size w0 w' → c.wp P Q a w') : c.wp P Q a w := h w hb
theorem named_of {n : ByteArray} : nmdE n = if nmdB n then 0 else 2 := rfl


set_option maxRecDepth 100000 in
set_option maxHeartbeats 2000000 in
theorem bcharge_b1 (b mg mc : Nat) (G : List Gr) (C : List Ch) (c : Ch) (w : World) (h : Bk w b mg mc G C) (hd1 : -9223372036854775808 ≤ c.b) (hd2 : c.b ≤ 9223372036854775807) (hn : nmdB c.n = false) :
    Calls Tryz.prog 10 #[ptr b, chV c] w fun e w' => e = .returned (.int .i64 2) ∧ Below w.heap.size w w' := by
  obtain ⟨w3, hw3⟩ : ∃ w3, w3 = w.alloc (.cells #[.string c.n, .string c.u, .int .i64 c.b, .int .i64 c.a.c, .int .i64 c.a.r, .int .i64 c.a.d, .int .i64 c.a.p] 43) := ⟨_, rfl⟩
  obtain ⟨B, hB⟩ : ∃ B, B = w.heap.size := ⟨_, rfl⟩
  have B0 : Hid (Blk w3 B (chC c) 43) := Lib.hid (by rw [hw3, hB]; exact Blk.made w (chC c) _)
  have HBL : Hid (Below w.heap.size w w3) := Lib.hid (by rw [hw3]; exact below_alloc w _)
  have H3 := Lib.hid (h.kept HBL.out)
  have c0 := B0.out.cell (j := 0) rfl
  have HNE : Hid (nmdE c.n = 2) := Lib.hid (by unfold nmdE; rw [hn]; rfl)
  clear h hn
  go_enter Tryz.func10, Tryz.ntmps10
  go_upto_region 1 with fail
  rw [← hw3, ← hB]
  clear hw3 hB
  go_wp2_with (go_at_call 32; refine (named_made b mg mc G C c.n _ H3.out).mono ?_; rw [HNE.out]; rintro e w4 ⟨rfl, rfl⟩)
  go_ret
  exact ⟨rfl, HBL.out⟩

set_option maxRecDepth 100000 in
set_option maxHeartbeats 2000000 in
theorem bcharge_b2 (b mg mc : Nat) (G : List Gr) (C : List Ch) (c : Ch) (w : World) (h : Bk w b mg mc G C) (hd1 : -9223372036854775808 ≤ c.b) (hd2 : c.b ≤ 9223372036854775807) (hn : nmdB c.n = true) (hk : askB c.u c.b = false) :
    Calls Tryz.prog 10 #[ptr b, chV c] w fun e w' => e = .returned (.int .i64 2) ∧ Below w.heap.size w w' := by
  obtain ⟨w3, hw3⟩ : ∃ w3, w3 = w.alloc (.cells #[.string c.n, .string c.u, .int .i64 c.b, .int .i64 c.a.c, .int .i64 c.a.r, .int .i64 c.a.d, .int .i64 c.a.p] 43) := ⟨_, rfl⟩
  obtain ⟨B, hB⟩ : ∃ B, B = w.heap.size := ⟨_, rfl⟩
  have B0 : Hid (Blk w3 B (chC c) 43) := Lib.hid (by rw [hw3, hB]; exact Blk.made w (chC c) _)
  have HBL : Hid (Below w.heap.size w w3) := Lib.hid (by rw [hw3]; exact below_alloc w _)
  have H3 := Lib.hid (h.kept HBL.out)
  have c0 := B0.out.cell (j := 0) rfl
  have HNE : Hid (nmdE c.n = 0) := Lib.hid (by unfold nmdE; rw [hn]; rfl)
  have HKE : Hid (askE c.u c.b = 2) := Lib.hid (by unfold askE; rw [hk]; rfl)
  clear h hn hk
  go_enter Tryz.func10, Tryz.ntmps10
  go_upto_region 1 with fail
  rw [← hw3, ← hB]
  clear hw3 hB
  go_upto_region 4 with (go_at_call 32; refine (named_made b mg mc G C c.n _ H3.out).mono ?_; rw [HNE.out]; rintro e w4 ⟨rfl, rfl⟩)
  clear c0
  have c1 := B0.out.cell (j := 1) rfl
  have c2 := B0.out.cell (j := 2) rfl
  go_wp2_with (go_at_call 30; refine (asked_made b mg mc G C c.u c.b _ H3.out hd1 hd2).mono ?_; rw [HKE.out]; rintro e w5 ⟨rfl, hb⟩; have HB5 := Lib.hid (below_and HBL.out hb); have H5 := Lib.hid (H3.out.kept hb); have C5 := Lib.hid (B0.out.kept hb); clear hb)
  go_ret
  exact ⟨rfl, HB5.out⟩

set_option maxRecDepth 100000 in
set_option maxHeartbeats 2000000 in
theorem bcharge_b3 (b mg mc : Nat) (G : List Gr) (C : List Ch) (c : Ch) (w : World) (h : Bk w b mg mc G C) (hd1 : -9223372036854775808 ≤ c.b) (hd2 : c.b ≤ 9223372036854775807) (hn : nmdB c.n = true) (hk : askB c.u c.b = true) (ha : c.a.okB = false) :
    Calls Tryz.prog 10 #[ptr b, chV c] w fun e w' => e = .returned (.int .i64 2) ∧ Below w.heap.size w w' := by
  obtain ⟨w3, hw3⟩ : ∃ w3, w3 = w.alloc (.cells #[.string c.n, .string c.u, .int .i64 c.b, .int .i64 c.a.c, .int .i64 c.a.r, .int .i64 c.a.d, .int .i64 c.a.p] 43) := ⟨_, rfl⟩
  obtain ⟨B, hB⟩ : ∃ B, B = w.heap.size := ⟨_, rfl⟩
  have B0 : Hid (Blk w3 B (chC c) 43) := Lib.hid (by rw [hw3, hB]; exact Blk.made w (chC c) _)
  have HBL : Hid (Below w.heap.size w w3) := Lib.hid (by rw [hw3]; exact below_alloc w _)
  have H3 := Lib.hid (h.kept HBL.out)
  have c0 := B0.out.cell (j := 0) rfl
  have HNE : Hid (nmdE c.n = 0) := Lib.hid (by unfold nmdE; rw [hn]; rfl)
  have HKE : Hid (askE c.u c.b = 0) := Lib.hid (by unfold askE; rw [hk]; rfl)
  have HA : Hid (c.a.chk = 2) := Lib.hid (Am.chk_no ha)
  clear h hn hk ha
  go_enter Tryz.func10, Tryz.ntmps10
  go_upto_region 1 with fail
  rw [← hw3, ← hB]
  clear hw3 hB
  go_upto_region 4 with (go_at_call 32; refine (named_made b mg mc G C c.n _ H3.out).mono ?_; rw [HNE.out]; rintro e w4 ⟨rfl, rfl⟩)
  clear c0
  have c1 := B0.out.cell (j := 1) rfl
  have c2 := B0.out.cell (j := 2) rfl
  go_upto_region 7 with (go_at_call 30; refine (asked_made b mg mc G C c.u c.b _ H3.out hd1 hd2).mono ?_; rw [HKE.out]; rintro e w5 ⟨rfl, hb⟩; have HB5 := Lib.hid (below_and HBL.out hb); have H5 := Lib.hid (H3.out.kept hb); have C5 := Lib.hid (B0.out.kept hb); clear hb)
  clear c1 c2
  have c3 := C5.out.cell (j := 3) rfl
  have c4 := C5.out.cell (j := 4) rfl
  have c5 := C5.out.cell (j := 5) rfl
  have c6 := C5.out.cell (j := 6) rfl
  go_wp2_with (go_at_call 31; refine (check_any c.a _).mono ?_; rw [HA.out]; rintro e w6 ⟨rfl, hb⟩; have HB6 := Lib.hid (below_and HB5.out hb); have H6 := Lib.hid (H5.out.kept hb); have C6 := Lib.hid (C5.out.kept hb); clear hb)
  go_ret
  exact ⟨rfl, HB6.out⟩

set_option maxRecDepth 100000 in
set_option maxHeartbeats 2000000 in
theorem bcharge_b4 (b mg mc : Nat) (G : List Gr) (C : List Ch) (c x : Ch) (w : World) (h : Bk w b mg mc G C) (hd1 : -9223372036854775808 ≤ c.b) (hd2 : c.b ≤ 9223372036854775807) (hn : nmdB c.n = true) (hk : askB c.u c.b = true) (ha : c.a.okB = true) (hx : kfnd Ch.key C c.key = some x) :
    Calls Tryz.prog 10 #[ptr b, chV c] w fun e w' => e = .returned (.int .i64 7) ∧ Below w.heap.size w w' := by
  obtain ⟨w3, hw3⟩ : ∃ w3, w3 = w.alloc (.cells #[.string c.n, .string c.u, .int .i64 c.b, .int .i64 c.a.c, .int .i64 c.a.r, .int .i64 c.a.d, .int .i64 c.a.p] 43) := ⟨_, rfl⟩
  obtain ⟨B, hB⟩ : ∃ B, B = w.heap.size := ⟨_, rfl⟩
  have B0 : Hid (Blk w3 B (chC c) 43) := Lib.hid (by rw [hw3, hB]; exact Blk.made w (chC c) _)
  have HBL : Hid (Below w.heap.size w w3) := Lib.hid (by rw [hw3]; exact below_alloc w _)
  have H3 := Lib.hid (h.kept HBL.out)
  have c0 := B0.out.cell (j := 0) rfl
  have HNE : Hid (nmdE c.n = 0) := Lib.hid (by unfold nmdE; rw [hn]; rfl)
  have HKE : Hid (askE c.u c.b = 0) := Lib.hid (by unfold askE; rw [hk]; rfl)
  have HA : Hid (c.a.chk = 0) := Lib.hid (Am.chk_yes ha)
  have HLK : Hid (∀ w', SMap Tryz.prog 9 w' mc (chM C) → (Instr.lookup 45 (.map (some mc)) (.string c.n) true).run Tryz.prog w' = .ok (.tuple #[chV x, .bool true]) w') := Lib.hid (fun w' h' => by rw [charge_look h' (nmdB_len hn)]; have hx' : kfnd Ch.key C c.n.data.toList = some x := hx; rw [hx']; rfl)
  clear h hn hk ha hx
  go_enter Tryz.func10, Tryz.ntmps10
  go_upto_region 1 with fail
  rw [← hw3, ← hB]
  clear hw3 hB
  go_upto_region 4 with (go_at_call 32; refine (named_made b mg mc G C c.n _ H3.out).mono ?_; rw [HNE.out]; rintro e w4 ⟨rfl, rfl⟩)
  clear c0
  have c1 := B0.out.cell (j := 1) rfl
  have c2 := B0.out.cell (j := 2) rfl
  go_upto_region 7 with (go_at_call 30; refine (asked_made b mg mc G C c.u c.b _ H3.out hd1 hd2).mono ?_; rw [HKE.out]; rintro e w5 ⟨rfl, hb⟩; have HB5 := Lib.hid (below_and HBL.out hb); have H5 := Lib.hid (H3.out.kept hb); have C5 := Lib.hid (B0.out.kept hb); clear hb)
  clear c1 c2
  have c3 := C5.out.cell (j := 3) rfl
  have c4 := C5.out.cell (j := 4) rfl
  have c5 := C5.out.cell (j := 5) rfl
  have c6 := C5.out.cell (j := 6) rfl
  go_upto_region 10 with (go_at_call 31; refine (check_any c.a _).mono ?_; rw [HA.out]; rintro e w6 ⟨rfl, hb⟩; have HB6 := Lib.hid (below_and HB5.out hb); have H6 := Lib.hid (H5.out.kept hb); have C6 := Lib.hid (C5.out.kept hb); clear hb)
  clear c3 c4 c5 c6
  have HS6 : Hid (∀ w', Below w6.heap.size w6 w' → w'.cell? ⟨b, 1, none⟩ = some (.map (some mc)) ∧ w'.cell? ⟨B, 0, none⟩ = some (.string c.n) ∧ (Instr.lookup 45 (.map (some mc)) (.string c.n) true).run Tryz.prog w' = .ok (.tuple #[chV x, .bool true]) w') := Lib.hid (fun w' hb => ⟨(H6.out.blk.kept hb).cell (j := 1) rfl, (C6.out.kept hb).cell (j := 0) rfl, HLK.out _ (H6.out.cm.kept hb)⟩)
  go_region_held3 (fun w' => w'.cell? ⟨b, 1, none⟩ = some (.map (some mc)) ∧ w'.cell? ⟨B, 0, none⟩ = some (.string c.n) ∧ (Instr.lookup 45 (.map (some mc)) (.string c.n) true).run Tryz.prog w' = .ok (.tuple #[chV x, .bool true]) w')
    (refine HS6.out _ ?_ <;> (repeat (first | with_reducible exact Below.refl _ _ | apply bl_drew | (refine below_and ?_ (below_alloc _ _))))) (fail)
  all_goals go_wp2
  all_goals go_ret
  all_goals exact ⟨rfl, below_and HB6.out (by (repeat (first | with_reducible exact Below.refl _ _ | apply bl_drew | (refine below_and ?_ (below_alloc _ _)))))⟩

set_option maxRecDepth 100000 in
set_option maxHeartbeats 2000000 in
theorem bcharge_b5 (b mg mc : Nat) (G : List Gr) (C : List Ch) (c : Ch) (w : World) (h : Bk w b mg mc G C) (hd1 : -9223372036854775808 ≤ c.b) (hd2 : c.b ≤ 9223372036854775807) (hi : ChI C) (hn : nmdB c.n = true) (hk : askB c.u c.b = true) (ha : c.a.okB = true) (hx : kfnd Ch.key C c.key = none) (m : Int) (hm : mayP G C c false = m) (hm0 : m ≠ 0) :
    Calls Tryz.prog 10 #[ptr b, chV c] w fun e w' => e = .returned (.int .i64 m) ∧ Below w.heap.size w w' := by
  obtain ⟨w3, hw3⟩ : ∃ w3, w3 = w.alloc (.cells #[.string c.n, .string c.u, .int .i64 c.b, .int .i64 c.a.c, .int .i64 c.a.r, .int .i64 c.a.d, .int .i64 c.a.p] 43) := ⟨_, rfl⟩
  obtain ⟨B, hB⟩ : ∃ B, B = w.heap.size := ⟨_, rfl⟩
  have B0 : Hid (Blk w3 B (chC c) 43) := Lib.hid (by rw [hw3, hB]; exact Blk.made w (chC c) _)
  have HBL : Hid (Below w.heap.size w w3) := Lib.hid (by rw [hw3]; exact below_alloc w _)
  have H3 := Lib.hid (h.kept HBL.out)
  have c0 := B0.out.cell (j := 0) rfl
  have HNE : Hid (nmdE c.n = 0) := Lib.hid (by unfold nmdE; rw [hn]; rfl)
  have HKE : Hid (askE c.u c.b = 0) := Lib.hid (by unfold askE; rw [hk]; rfl)
  have HA : Hid (c.a.chk = 0) := Lib.hid (Am.chk_yes ha)
  have HLK : Hid (∀ w', SMap Tryz.prog 9 w' mc (chM C) → (Instr.lookup 45 (.map (some mc)) (.string c.n) true).run Tryz.prog w' = .ok (.tuple #[chV zC, .bool false]) w') := Lib.hid (fun w' h' => by rw [charge_look h' (nmdB_len hn)]; have hx' : kfnd Ch.key C c.n.data.toList = none := hx; rw [hx']; rfl)
  have HMY : Hid (∀ w', Bk w' b mg mc G C → Calls Tryz.prog 33 #[ptr b, chV c, .bool false] w' fun e w2 => e = .returned (.int .i64 m) ∧ Below w'.heap.size w' w2) := Lib.hid (fun w' h' => by have h9 := bmay_any b mg mc G C c false w' h' hi hk; rw [hm] at h9; exact h9)
  have m0 : (m != 0) = true := by simpa using hm0
  clear h hi hn hk ha hx hm hm0
  go_enter Tryz.func10, Tryz.ntmps10
  go_upto_region 1 with fail
  rw [← hw3, ← hB]
  clear hw3 hB
  go_upto_region 4 with (go_at_call 32; refine (named_made b mg mc G C c.n _ H3.out).mono ?_; rw [HNE.out]; rintro e w4 ⟨rfl, rfl⟩)
  clear c0
  have c1 := B0.out.cell (j := 1) rfl
  have c2 := B0.out.cell (j := 2) rfl
  go_upto_region 7 with (go_at_call 30; refine (asked_made b mg mc G C c.u c.b _ H3.out hd1 hd2).mono ?_; rw [HKE.out]; rintro e w5 ⟨rfl, hb⟩; have HB5 := Lib.hid (below_and HBL.out hb); have H5 := Lib.hid (H3.out.kept hb); have C5 := Lib.hid (B0.out.kept hb); clear hb)
  clear c1 c2
  have c3 := C5.out.cell (j := 3) rfl
  have c4 := C5.out.cell (j := 4) rfl
  have c5 := C5.out.cell (j := 5) rfl
  have c6 := C5.out.cell (j := 6) rfl
  go_upto_region 10 with (go_at_call 31; refine (check_any c.a _).mono ?_; rw [HA.out]; rintro e w6 ⟨rfl, hb⟩; have HB6 := Lib.hid (below_and HB5.out hb); have H6 := Lib.hid (H5.out.kept hb); have C6 := Lib.hid (C5.out.kept hb); clear hb)
  clear c3 c4 c5 c6
  have HS6 : Hid (∀ w', Below w6.heap.size w6 w' → w'.cell? ⟨b, 1, none⟩ = some (.map (some mc)) ∧ w'.cell? ⟨B, 0, none⟩ = some (.string c.n) ∧ (Instr.lookup 45 (.map (some mc)) (.string c.n) true).run Tryz.prog w' = .ok (.tuple #[chV zC, .bool false]) w') := Lib.hid (fun w' hb => ⟨(H6.out.blk.kept hb).cell (j := 1) rfl, (C6.out.kept hb).cell (j := 0) rfl, HLK.out _ (H6.out.cm.kept hb)⟩)
  go_region_held3 (fun w' => w'.cell? ⟨b, 1, none⟩ = some (.map (some mc)) ∧ w'.cell? ⟨B, 0, none⟩ = some (.string c.n) ∧ (Instr.lookup 45 (.map (some mc)) (.string c.n) true).run Tryz.prog w' = .ok (.tuple #[chV zC, .bool false]) w')
    (refine HS6.out _ ?_ <;> (repeat (first | with_reducible exact Below.refl _ _ | apply bl_drew | (refine below_and ?_ (below_alloc _ _))))) (fail)
  all_goals go_upto_region 13 with fail
  all_goals refine wp_hide (w0 := w6) (by (repeat (first | with_reducible exact Below.refl _ _ | apply bl_drew | (refine below_and ?_ (below_alloc _ _))))) ?_
  all_goals intro w7 hb7
  all_goals have H7 := Lib.hid (H6.out.kept hb7)
  all_goals have C7 := Lib.hid (C6.out.kept hb7)
  all_goals have HB7 := Lib.hid (below_and HB6.out hb7)
  all_goals clear hb7 HS6
  all_goals have c0 := C7.out.cell (j := 0) rfl
  all_goals have c1 := C7.out.cell (j := 1) rfl
  all_goals have c2 := C7.out.cell (j := 2) rfl
  all_goals have c3 := C7.out.cell (j := 3) rfl
  all_goals have c4 := C7.out.cell (j := 4) rfl
  all_goals have c5 := C7.out.cell (j := 5) rfl
  all_goals have c6 := C7.out.cell (j := 6) rfl
  all_goals go_wp2_with (go_at_call 33; refine (HMY.out _ H7.out).mono ?_; rintro e w8 ⟨rfl, hb⟩; have HB8 := Lib.hid (below_and HB7.out hb); have H8 := Lib.hid (H7.out.kept hb); have C8 := Lib.hid (C7.out.kept hb); clear hb)
  all_goals go_ret
  all_goals exact ⟨rfl, HB8.out⟩

set_option maxRecDepth 100000 in
set_option maxHeartbeats 2000000 in
theorem bcharge_ok (b mg mc : Nat) (G : List Gr) (C : List Ch) (c : Ch) (w : World) (h : Bk w b mg mc G C) (hd1 : -9223372036854775808 ≤ c.b) (hd2 : c.b ≤ 9223372036854775807) (hi : ChI C) (hn : nmdB c.n = true) (hk : askB c.u c.b = true) (ha : c.a.okB = true) (hx : kfnd Ch.key C c.key = none) (hm : mayP G C c false = 0) (hl : C.length < maxLen) :
    Calls Tryz.prog 10 #[ptr b, chV c] w fun e w' => e = .returned (.int .i64 0) ∧ Bk w' b mg mc G (kput Ch.key C c) ∧ Fr [mg, mc] w w' := by
  obtain ⟨w3, hw3⟩ : ∃ w3, w3 = w.alloc (.cells #[.string c.n, .string c.u, .int .i64 c.b, .int .i64 c.a.c, .int .i64 c.a.r, .int .i64 c.a.d, .int .i64 c.a.p] 43) := ⟨_, rfl⟩
  obtain ⟨B, hB⟩ : ∃ B, B = w.heap.size := ⟨_, rfl⟩
  have B0 : Hid (Blk w3 B (chC c) 43) := Lib.hid (by rw [hw3, hB]; exact Blk.made w (chC c) _)
  have HBL : Hid (Below w.heap.size w w3) := Lib.hid (by rw [hw3]; exact below_alloc w _)
  have H3 := Lib.hid (h.kept HBL.out)
  have c0 := B0.out.cell (j := 0) rfl
  have HNE : Hid (nmdE c.n = 0) := Lib.hid (by unfold nmdE; rw [hn]; rfl)
  have HKE : Hid (askE c.u c.b = 0) := Lib.hid (by unfold askE; rw [hk]; rfl)
  have HA : Hid (c.a.chk = 0) := Lib.hid (Am.chk_yes ha)
  have HLK : Hid (∀ w', SMap Tryz.prog 9 w' mc (chM C) → (Instr.lookup 45 (.map (some mc)) (.string c.n) true).run Tryz.prog w' = .ok (.tuple #[chV zC, .bool false]) w') := Lib.hid (fun w' h' => by rw [charge_look h' (nmdB_len hn)]; have hx' : kfnd Ch.key C c.n.data.toList = none := hx; rw [hx']; rfl)
  have HMY : Hid (∀ w', Bk w' b mg mc G C → Calls Tryz.prog 33 #[ptr b, chV c, .bool false] w' fun e w2 => e = .returned (.int .i64 0) ∧ Below w'.heap.size w' w2) := Lib.hid (fun w' h' => by have h9 := bmay_any b mg mc G C c false w' h' hi hk; rw [hm] at h9; exact h9)
  have HL : Hid ((chM C).length < maxLen) := Lib.hid (by unfold chM; rw [kM_len]; exact hl)
  have HPT : Hid ((chM C).put c.n.data.toList (chV c) = chM (kput Ch.key C c)) := Lib.hid (kM_put (key := Ch.key) (val := chV) C c)
  have HNL : Hid (c.n.size ≤ maxLen) := Lib.hid (nmdB_len hn)
  clear h hi hn hk ha hx hm hl
  go_enter Tryz.func10, Tryz.ntmps10
  go_upto_region 1 with fail
  rw [← hw3, ← hB]
  clear hw3 hB
  go_upto_region 4 with (go_at_call 32; refine (named_made b mg mc G C c.n _ H3.out).mono ?_; rw [HNE.out]; rintro e w4 ⟨rfl, rfl⟩)
  clear c0
  have c1 := B0.out.cell (j := 1) rfl
  have c2 := B0.out.cell (j := 2) rfl
  go_upto_region 7 with (go_at_call 30; refine (asked_made b mg mc G C c.u c.b _ H3.out hd1 hd2).mono ?_; rw [HKE.out]; rintro e w5 ⟨rfl, hb⟩; have HB5 := Lib.hid (below_and HBL.out hb); have H5 := Lib.hid (H3.out.kept hb); have C5 := Lib.hid (B0.out.kept hb); clear hb)
  clear c1 c2
  have c3 := C5.out.cell (j := 3) rfl
  have c4 := C5.out.cell (j := 4) rfl
  have c5 := C5.out.cell (j := 5) rfl
  have c6 := C5.out.cell (j := 6) rfl
  go_upto_region 10 with (go_at_call 31; refine (check_any c.a _).mono ?_; rw [HA.out]; rintro e w6 ⟨rfl, hb⟩; have HB6 := Lib.hid (below_and HB5.out hb); have H6 := Lib.hid (H5.out.kept hb); have C6 := Lib.hid (C5.out.kept hb); clear hb)
  clear c3 c4 c5 c6
  have HS6 : Hid (∀ w', Below w6.heap.size w6 w' → w'.cell? ⟨b, 1, none⟩ = some (.map (some mc)) ∧ w'.cell? ⟨B, 0, none⟩ = some (.string c.n) ∧ (Instr.lookup 45 (.map (some mc)) (.string c.n) true).run Tryz.prog w' = .ok (.tuple #[chV zC, .bool false]) w') := Lib.hid (fun w' hb => ⟨(H6.out.blk.kept hb).cell (j := 1) rfl, (C6.out.kept hb).cell (j := 0) rfl, HLK.out _ (H6.out.cm.kept hb)⟩)
  go_region_held3 (fun w' => w'.cell? ⟨b, 1, none⟩ = some (.map (some mc)) ∧ w'.cell? ⟨B, 0, none⟩ = some (.string c.n) ∧ (Instr.lookup 45 (.map (some mc)) (.string c.n) true).run Tryz.prog w' = .ok (.tuple #[chV zC, .bool false]) w')
    (refine HS6.out _ ?_ <;> (repeat (first | with_reducible exact Below.refl _ _ | apply bl_drew | (refine below_and ?_ (below_alloc _ _))))) (fail)
  all_goals go_upto_region 13 with fail
  all_goals refine wp_hide (w0 := w6) (by (repeat (first | with_reducible exact Below.refl _ _ | apply bl_drew | (refine below_and ?_ (below_alloc _ _))))) ?_
  all_goals intro w7 hb7
  all_goals have H7 := Lib.hid (H6.out.kept hb7)
  all_goals have C7 := Lib.hid (C6.out.kept hb7)
  all_goals have HB7 := Lib.hid (below_and HB6.out hb7)
  all_goals clear hb7 HS6
  all_goals have c0 := C7.out.cell (j := 0) rfl
  all_goals have c1 := C7.out.cell (j := 1) rfl
  all_goals have c2 := C7.out.cell (j := 2) rfl
  all_goals have c3 := C7.out.cell (j := 3) rfl
  all_goals have c4 := C7.out.cell (j := 4) rfl
  all_goals have c5 := C7.out.cell (j := 5) rfl
  all_goals have c6 := C7.out.cell (j := 6) rfl
  all_goals go_upto_region 16 with (go_at_call 33; refine (HMY.out _ H7.out).mono ?_; rintro e w8 ⟨rfl, hb⟩; have HB8 := Lib.hid (below_and HB7.out hb); have H8 := Lib.hid (H7.out.kept hb); have C8 := Lib.hid (C7.out.kept hb); clear hb)
  all_goals clear c0 c1 c2 c3 c4 c5 c6
  all_goals have c0 := Past.blk C8.out (j := 0) rfl
  all_goals have c1 := Past.blk C8.out (j := 1) rfl
  all_goals have c2 := Past.blk C8.out (j := 2) rfl
  all_goals have c3 := Past.blk C8.out (j := 3) rfl
  all_goals have c4 := Past.blk C8.out (j := 4) rfl
  all_goals have c5 := Past.blk C8.out (j := 5) rfl
  all_goals have c6 := Past.blk C8.out (j := 6) rfl
  all_goals have g1 := Past.blk H8.out.blk (j := 1) rfl
  all_goals refine wp_region_past_one rfl (by kernel_rfl) (by kernel_rfl) (by kernel_rfl) ?_
  all_goals repeat (go_big_quiet_step (fail))
  all_goals refine wpQuiet_nil ?_
  all_goals intro _ hw'
  all_goals obtain ⟨s9, hw''⟩ := hw'
  all_goals subst hw''
  all_goals obtain ⟨w9, h9, e9⟩ : ∃ w9, Below w8.heap.size w8 w9 ∧ w9 = s9.val := ⟨_, s9.h, rfl⟩
  all_goals rw [← e9]
  all_goals have HB9 := Lib.hid (below_and HB8.out h9)
  all_goals have H9 := Lib.hid (H8.out.kept h9)
  all_goals clear h9 e9 c0 c1 c2 c3 c4 c5 c6 g1
  all_goals go_wp2_with (refine wpList_sput _ rfl _ _ _ _ rfl 9 43 Tryz.underlying9 Tryz.underlying45 mc (chM C) rfl H9.out.cm HL.out c.n (chV c) rfl rfl HNL.out ?_; intro v8 hp8 hg8; rw [HPT.out] at hp8; have HP8 := Lib.hid hp8; have HG8 := Lib.hid hg8; clear hp8 hg8)
  all_goals go_ret
  all_goals exact ⟨rfl, bk_c H9.out HP8.out HG8.out, (Fr.of_below HB9.out [mg, mc]).then ((Fr.of_grown HG8.out).mono (by simp))⟩

theorem bcharge_any (b mg mc : Nat) (G : List Gr) (C : List Ch) (c : Ch) (w : World) (h : Bk w b mg mc G C) (hi : ChI C) (hd1 : -9223372036854775808 ≤ c.b) (hd2 : c.b ≤ 9223372036854775807) (hl : C.length < maxLen) :
    Calls Tryz.prog 10 #[ptr b, chV c] w fun e w' => e = .returned (.int .i64 (chargeP G C c).1) ∧ Bk w' b mg mc G (chargeP G C c).2 ∧ Fr [mg, mc] w w' := by
  have up : ∀ r, chargeP G C c = (r, C) → (Calls Tryz.prog 10 #[ptr b, chV c] w fun e w' => e = .returned (.int .i64 r) ∧ Below w.heap.size w w') → Calls Tryz.prog 10 #[ptr b, chV c] w fun e w' => e = .returned (.int .i64 (chargeP G C c).1) ∧ Bk w' b mg mc G (chargeP G C c).2 ∧ Fr [mg, mc] w w' := by
    intro r hr hc
    rw [hr]
    exact hc.mono fun e w' ⟨h1, h2⟩ => ⟨h1, bk_stay h h2⟩
  cases hn : nmdB c.n
  · exact up 2 (by unfold chargeP; rw [hn]; rfl) (bcharge_b1 b mg mc G C c w h hd1 hd2 hn)
  cases hk : askB c.u c.b
  · exact up 2 (by unfold chargeP; rw [hn, hk]; rfl) (bcharge_b2 b mg mc G C c w h hd1 hd2 hn hk)
  cases ha : c.a.okB
  · exact up 2 (by unfold chargeP; rw [hn, hk, ha]; rfl) (bcharge_b3 b mg mc G C c w h hd1 hd2 hn hk ha)
  have h0 : (nmdB c.n && askB c.u c.b && c.a.okB) = true := by rw [hn, hk, ha]; rfl
  cases hx : kfnd Ch.key C c.key with
  | some x => exact up 7 (by unfold chargeP; rw [h0, if_neg (by simp), if_pos (by rw [hx]; rfl)]) (bcharge_b4 b mg mc G C c x w h hd1 hd2 hn hk ha hx)
  | none =>
    by_cases hm : mayP G C c false = 0
    · have hr : chargeP G C c = (0, kput Ch.key C c) := by unfold chargeP; rw [h0, if_neg (by simp), if_neg (by rw [hx]; simp), if_neg (by simpa using hm)]
      rw [hr]
      exact bcharge_ok b mg mc G C c w h hd1 hd2 hi hn hk ha hx hm hl
    · exact up _ (by unfold chargeP; rw [h0, if_neg (by simp), if_neg (by rw [hx]; simp), if_pos hm]) (bcharge_b5 b mg mc G C c w h hd1 hd2 hi hn hk ha hx _ rfl hm)
end Go.Proofs.YtmgbailpmcggiaaGreat
