/- The book's Left. -/
import Derived.Test.YtmgbailpmcggiaaQRef
namespace Go.Proofs.Ytmgbailpmcggiaa
open Go.RowKit

theorem bel_set4 {n g : Nat} {w v : World} {a b c d : Value} (h : Below n w v) (hg : n ≤ g) : Below n w ((((v.setCell ⟨g, 0, none⟩ a).setCell ⟨g, 1, none⟩ b).setCell ⟨g, 2, none⟩ c).setCell ⟨g, 3, none⟩ d) :=
  (((h.setCell (p := ⟨g, 0, none⟩) hg _).setCell (p := ⟨g, 1, none⟩) hg _).setCell (p := ⟨g, 2, none⟩) hg _).setCell (p := ⟨g, 3, none⟩) hg _
theorem at_hide {Q F : World → Prop} {w : World} (hf : F w) (h : ∀ w', F w' → Q w') : Q w := h w hf
theorem blk4 {w : World} {g : Nat} {p q r s : Value} {t : TypeId} {a b c d : Value} (h : Blk w g [p, q, r, s] t) : Blk ((((w.setCell ⟨g, 0, none⟩ a).setCell ⟨g, 1, none⟩ b).setCell ⟨g, 2, none⟩ c).setCell ⟨g, 3, none⟩ d) g [a, b, c, d] t :=
  (((h.set 0 a).set 1 b).set 2 c).set 3 d
theorem blk4_other {w : World} {g k : Nat} {cs : List Value} {t : TypeId} {a b c d : Value} (h : Blk w k cs t) (hk : k ≠ g) : Blk ((((w.setCell ⟨g, 0, none⟩ a).setCell ⟨g, 1, none⟩ b).setCell ⟨g, 2, none⟩ c).setCell ⟨g, 3, none⟩ d) k cs t :=
  (((h.other (a := ⟨g, 0, none⟩) (by simpa using hk) _).other (a := ⟨g, 1, none⟩) (by simpa using hk) _).other (a := ⟨g, 2, none⟩) (by simpa using hk) _).other (a := ⟨g, 3, none⟩) (by simpa using hk) _
theorem left_sub {G : List Gr} {C : List Ch} {u : ByteArray} {d : Int} (hg : (grantA G u d).okB = true) (hs : (psum (onB u d) C).okB = true) (z : Am) (hz : ∀ k, k < 4 → z.get k = if (grantA G u d).get k < (psum (onB u d) C).get k then (grantA G u d).get k else (psum (onB u d) C).get k) :
    subR (grantA G u d) z = (leftA G C u d, 0) := by
  have hzk : ∀ k, k < 4 → 0 ≤ z.get k ∧ z.get k ≤ 1099511627776 ∧ z.get k ≤ (grantA G u d).get k := fun k hk => by
    have h1 := ok_get hg hk
    have h2 := ok_get hs hk
    rw [hz k hk]
    split <;> omega
  refine subR_ok ?_ ?_ (fun k hk => ?_)
  · rw [hg, (Am.okB_iff z).2 (fun k hk => ⟨(hzk k hk).1, (hzk k hk).2.1⟩)]; rfl
  · unfold fitsB
    rw [any4_no (fun k hk => by have := (hzk k hk).2.2; simpa using this)]
    rfl
  · unfold leftA
    rw [Am.of_get _ k hk, hz k hk]
    split <;> omega

set_option maxRecDepth 100000 in
set_option maxHeartbeats 2000000 in
theorem bleft_bad (b mg mc : Nat) (G : List Gr) (C : List Ch) (u : ByteArray) (d : Int) (w : World) (h : Bk w b mg mc G C) (hi : ChI C) (hnm : ∀ e ∈ C, 0 < e.n.size) (hd1 : -9223372036854775808 ≤ d) (hd2 : d ≤ 9223372036854775807) (hk : askB u d = false) :
    Calls Try.prog 12 #[ptr b, .string u, .int .i64 d] w fun e w' => e = .returned (.tuple #[amV .zero, .int .i64 2]) ∧ Below w.heap.size w w' := by
  obtain ⟨w3, hw3⟩ : ∃ w3, w3 = w.alloc (.cells #[.int .i64 0, .int .i64 0, .int .i64 0, .int .i64 0] 28) := ⟨_, rfl⟩
  obtain ⟨B, hB⟩ : ∃ B, B = w.heap.size := ⟨_, rfl⟩
  have B0 : Hid (Blk w3 B (amC .zero) 28) := Lib.hid (by rw [hw3, hB]; exact Blk.made w (amC .zero) _)
  have HBL : Hid (Below w.heap.size w w3) := Lib.hid (by rw [hw3]; exact below_alloc w _)
  have HBW : Hid (w.heap.size ≤ B) := Lib.hid (by omega)
  have H3 := Lib.hid (h.kept HBL.out)
  have HU : Hid (∀ w', Bk w' b mg mc G C → Calls Try.prog 22 #[ptr b, .string u, .int .i64 d] w' fun e w2 => e = .returned (.tuple #[amV .zero, .int .i64 2]) ∧ Below w'.heap.size w' w2) := Lib.hid (fun w' h' => by
    have h9 := bUsed_any b mg mc G C u d w' h' hi hnm hd1 hd2
    unfold usedP at h9
    rw [hk] at h9
    exact h9)
  clear h hi hk hnm
  go_enter Try.func12, Try.ntmps12
  go_upto_region 1 with fail
  rw [← hw3, ← hB]
  clear hw3 hB
  go_wp2_with (go_at_call 22; refine (HU.out _ H3.out).mono ?_; rintro e w4 ⟨rfl, hb⟩; have hbz := below_and hb (below_alloc w4 (.cells #[.int .i64 Am.zero.c, .int .i64 Am.zero.r, .int .i64 Am.zero.d, .int .i64 Am.zero.p] 28)); have HB4 := Lib.hid (below_and HBL.out hbz); have hb0 := B0.out.kept hbz; have C0 := Lib.hid hb0; have r0 := hb0.cell (j := 0) rfl; have r1 := hb0.cell (j := 1) rfl; have r2 := hb0.cell (j := 2) rfl; have r3 := hb0.cell (j := 3) rfl; have f0 := hb0.free 0; have f1 := hb0.free 1; have f2 := hb0.free 2; have f3 := hb0.free 3; clear hb hb0 hbz)
  refine bodyPost_ret (results_row_tmp rfl _ _ B 28 #[.int .i64 0, .int .i64 0, .int .i64 0, .int .i64 0] (0, 0) _ rfl ?_ Try.underlying28 rfl (by kernel_rfl)) rfl ⟨rfl, ?_⟩
  · exact (((C0.out.set 0 (.int .i64 0)).set 1 (.int .i64 0)).set 2 (.int .i64 0)).set 3 (.int .i64 0)
  · exact bel_set4 HB4.out HBW.out

set_option maxRecDepth 100000 in
set_option maxHeartbeats 4000000 in
theorem bleft_ok (b mg mc : Nat) (G : List Gr) (C : List Ch) (u : ByteArray) (d : Int) (w : World) (h : Bk w b mg mc G C) (hi : ChI C) (hnm : ∀ e ∈ C, 0 < e.n.size) (hg : (grantA G u d).okB = true) (hk : askB u d = true) :
    Calls Try.prog 12 #[ptr b, .string u, .int .i64 d] w fun e w' => e = .returned (.tuple #[amV (leftA G C u d), .int .i64 0]) ∧ Below w.heap.size w w' := by
  obtain ⟨w3, hw3⟩ : ∃ w3, w3 = w.alloc (.cells #[.int .i64 0, .int .i64 0, .int .i64 0, .int .i64 0] 28) := ⟨_, rfl⟩
  obtain ⟨B, hB⟩ : ∃ B, B = w.heap.size := ⟨_, rfl⟩
  have B0 : Hid (Blk w3 B (amC .zero) 28) := Lib.hid (by rw [hw3, hB]; exact Blk.made w (amC .zero) _)
  have HBL : Hid (Below w.heap.size w w3) := Lib.hid (by rw [hw3]; exact below_alloc w _)
  have HBW : Hid (w.heap.size ≤ B) := Lib.hid (by omega)
  have H3 := Lib.hid (h.kept HBL.out)
  have hn := askB_name hk
  have HKO : Hid (keyOf Try.prog 60 (kV u d) = some (.string (kT u d))) := Lib.hid (keyOf_k (by unfold maxLen; omega) (band_wf hn.2))
  obtain ⟨gr, hgr⟩ : ∃ gr, gr = grantA G u d := ⟨_, rfl⟩
  obtain ⟨y, hy⟩ : ∃ y, y = psum (onB u d) C := ⟨_, rfl⟩
  obtain ⟨lf, hlf⟩ : ∃ lf, lf = leftA G C u d := ⟨_, rfl⟩
  obtain ⟨z, hz⟩ : ∃ z : Am, ∀ k, k < 4 → z.get k = if gr.get k < y.get k then gr.get k else y.get k := ⟨.of fun k => if gr.get k < y.get k then gr.get k else y.get k, fun k hk => Am.of_get _ k hk⟩
  have HU : Hid (∀ w', Bk w' b mg mc G C → Calls Try.prog 22 #[ptr b, .string u, .int .i64 d] w' fun e w2 => e = .returned (.tuple #[amV y, .int .i64 0]) ∧ Below w'.heap.size w' w2) := Lib.hid (fun w' h' => by
    have h9 := bUsed_any b mg mc G C u d w' h' hi hnm (by omega) (by omega)
    unfold usedP at h9
    rw [hk] at h9
    rw [hy]
    exact h9)
  have HLK : Hid (∀ w', SMap Try.prog 60 w' mg (grM G) → (Instr.lookup 51 (.map (some mg)) (kV u d) false).run Try.prog w' = .ok (amV gr) w') := Lib.hid (fun w' h' => by rw [hgr]; exact grant_look h' HKO.out)
  have HLE : Hid (∀ w', Calls Try.prog 30 #[amV y, amV gr] w' fun e w2 => e = .returned (amV z) ∧ Below w'.heap.size w' w2) := Lib.hid (fun w' => least_any y gr z w' hz)
  have HSU : Hid (∀ w', Calls Try.prog 29 #[amV gr, amV z] w' fun e w2 => e = .returned (.tuple #[amV lf, .int .i64 0]) ∧ Below w'.heap.size w' w2) := Lib.hid (fun w' => by
    have h9 := sub_any gr z w'
    subst hgr hy
    rw [left_sub hg (hi.fit u d) z hz, ← hlf] at h9
    exact h9)
  rw [← hlf]
  clear h hi hk hnm hn hgr hy hlf hz hg
  go_enter Try.func12, Try.ntmps12
  go_upto_region 1 with fail
  rw [← hw3, ← hB]
  clear hw3 hB
  go_upto_region 5 with (go_at_call 22; refine (HU.out _ H3.out).mono ?_; rintro e w5 ⟨rfl, hb⟩; have hbz := below_alloc w5 (.cells #[.int .i64 y.c, .int .i64 y.r, .int .i64 y.d, .int .i64 y.p] 28); have H4 := (H3.out.kept hb).kept hbz; have g0 := H4.blk.cell (j := 0) rfl; have hlk := HLK.out _ H4.gm; obtain ⟨wq, hwq⟩ : ∃ wq, wq = (w5.alloc (.cells #[.int .i64 y.c, .int .i64 y.r, .int .i64 y.d, .int .i64 y.p] 28)).alloc (.cells #[.int .i64 gr.c, .int .i64 gr.r, .int .i64 gr.d, .int .i64 gr.p] 28) := ⟨_, rfl⟩; have hb5 : Below w5.heap.size w5 wq := (by rw [hwq]; exact below_and hbz (below_alloc _ _)); have HB5 := Lib.hid (below_and (below_and HBL.out hb) hb5); have C5 := Lib.hid ((B0.out.kept hb).kept hb5); obtain ⟨Y, hY⟩ : ∃ Y, Y = w5.heap.size := ⟨_, rfl⟩; have CY : Hid (Blk wq Y (amC y) 28) := Lib.hid (by rw [hwq, hY]; exact (Blk.made w5 (amC y) _).alloc _); have CG : Hid (Blk wq (Y + 1) (amC gr) 28) := Lib.hid (by rw [hwq, hY]; simpa using Blk.made (w5.alloc (.cells #[.int .i64 y.c, .int .i64 y.r, .int .i64 y.d, .int .i64 y.p] 28)) (amC gr) 28); clear hb hbz H4 hb5)
  rw [← hwq, ← hY]
  clear hwq hY g0 hlk
  have HE8 : Hid (∀ w', Below wq.heap.size wq w' → w'.cell? ⟨Y, 0, none⟩ = some (.int .i64 y.c) ∧ w'.cell? ⟨Y, 1, none⟩ = some (.int .i64 y.r) ∧ w'.cell? ⟨Y, 2, none⟩ = some (.int .i64 y.d) ∧ w'.cell? ⟨Y, 3, none⟩ = some (.int .i64 y.p) ∧ w'.cell? ⟨Y + 1, 0, none⟩ = some (.int .i64 gr.c) ∧ w'.cell? ⟨Y + 1, 1, none⟩ = some (.int .i64 gr.r) ∧ w'.cell? ⟨Y + 1, 2, none⟩ = some (.int .i64 gr.d) ∧ w'.cell? ⟨Y + 1, 3, none⟩ = some (.int .i64 gr.p)) := Lib.hid (fun w' hb => eight (CY.out.kept hb) (CG.out.kept hb))
  have HBB : Hid (∀ w', Below wq.heap.size wq w' → Blk w' B (amC .zero) 28) := Lib.hid (fun w' hb => C5.out.kept hb)
  go_region_held3 (fun w' => w'.cell? ⟨Y, 0, none⟩ = some (.int .i64 y.c) ∧ w'.cell? ⟨Y, 1, none⟩ = some (.int .i64 y.r) ∧ w'.cell? ⟨Y, 2, none⟩ = some (.int .i64 y.d) ∧ w'.cell? ⟨Y, 3, none⟩ = some (.int .i64 y.p) ∧ w'.cell? ⟨Y + 1, 0, none⟩ = some (.int .i64 gr.c) ∧ w'.cell? ⟨Y + 1, 1, none⟩ = some (.int .i64 gr.r) ∧ w'.cell? ⟨Y + 1, 2, none⟩ = some (.int .i64 gr.d) ∧ w'.cell? ⟨Y + 1, 3, none⟩ = some (.int .i64 gr.p))
    (refine HE8.out _ ?_ <;> (repeat (first | with_reducible exact HB7.out | with_reducible exact HB6.out | with_reducible exact Below.refl _ _ | with_reducible (refine bel_set4 ?_ (Nat.le_refl _)) | with_reducible (refine bel_set4 ?_ HB6.out.size) | with_reducible (refine bel_set4 ?_ HB7.out.size) | with_reducible (apply bl_drew) | with_reducible (refine below_and ?_ (below_alloc _ _)))))
    (first
      | (go_at_call 30; refine (HLE.out _).mono ?_; rintro e w6 ⟨rfl, hb⟩; have HB6 : Hid (Below wq.heap.size wq w6) := Lib.hid (by refine below_and ?_ hb; (repeat (first | with_reducible exact HB7.out | with_reducible exact HB6.out | with_reducible exact Below.refl _ _ | apply bl_drew | (refine below_and ?_ (below_alloc _ _))))); (first | (have hq : Blk w6 wq.heap.size [.int .i64 0, .int .i64 0, .int .i64 0, .int .i64 0] 28 := (Blk.made wq.drew [.int .i64 0, .int .i64 0, .int .i64 0, .int .i64 0] 28).kept hb; have HQ6 := Lib.hid hq; clear hq) | skip); clear hb)
      | (go_at_call 29; refine (HSU.out _).mono ?_; rintro e w7 ⟨rfl, hb⟩; have HB7 : Hid (Below wq.heap.size wq w7) := Lib.hid (by refine below_and ?_ hb; (repeat (first | with_reducible exact HB7.out | with_reducible exact HB6.out | with_reducible exact Below.refl _ _ | apply bl_drew | (refine below_and ?_ (below_alloc _ _))))); (first | (have hq : Blk w7 wq.heap.size [.int .i64 0, .int .i64 0, .int .i64 0, .int .i64 0] 28 := HQ6.out.kept hb; have HQ7 := Lib.hid hq; have q0 := hq.cell (j := 0) rfl; have q1 := hq.cell (j := 1) rfl; have q2 := hq.cell (j := 2) rfl; have q3 := hq.cell (j := 3) rfl; have p0 := hq.free 0; have p1 := hq.free 1; have p2 := hq.free 2; have p3 := hq.free 3; clear hq) | (have hq : Blk w7 w6.heap.size [.int .i64 0, .int .i64 0, .int .i64 0, .int .i64 0] 28 := (Blk.made w6 [.int .i64 0, .int .i64 0, .int .i64 0, .int .i64 0] 28).kept hb; have HQ7 := Lib.hid hq; have q0 := hq.cell (j := 0) rfl; have q1 := hq.cell (j := 1) rfl; have q2 := hq.cell (j := 2) rfl; have q3 := hq.cell (j := 3) rfl; have p0 := hq.free 0; have p1 := hq.free 1; have p2 := hq.free 2; have p3 := hq.free 3; clear hq) | skip); clear hb))
  · refine at_hide (F := fun w' => Blk w' w7.heap.size (amC lf) 28 ∧ Blk w' B (amC .zero) 28 ∧ Below wq.heap.size wq w') ?_ ?_
    · exact ⟨Blk.made w7 (amC lf) _, (HBB.out _ HB7.out).alloc _, below_and HB7.out (below_alloc _ _)⟩
    intro w8 hF
    have HL8 := Lib.hid hF.1
    have HZ8 := Lib.hid hF.2.1
    have HB8 := Lib.hid (below_and HB5.out hF.2.2)
    have l0 := HL8.out.cell (j := 0) rfl
    have l1 := HL8.out.cell (j := 1) rfl
    have l2 := HL8.out.cell (j := 2) rfl
    have l3 := HL8.out.cell (j := 3) rfl
    have r0 := HZ8.out.cell (j := 0) rfl
    have r1 := HZ8.out.cell (j := 1) rfl
    have r2 := HZ8.out.cell (j := 2) rfl
    have r3 := HZ8.out.cell (j := 3) rfl
    have f0 := HZ8.out.free 0
    have f1 := HZ8.out.free 1
    have f2 := HZ8.out.free 2
    have f3 := HZ8.out.free 3
    clear hF
    skip
    go_wp2_with fail
    refine bodyPost_ret (results_row_tmp rfl _ _ B 28 #[.int .i64 lf.c, .int .i64 lf.r, .int .i64 lf.d, .int .i64 lf.p] (0, 0) _ rfl ?_ Try.underlying28 rfl (by kernel_rfl)) rfl ⟨rfl, ?_⟩
    · exact (((HZ8.out.set 0 (.int .i64 lf.c)).set 1 (.int .i64 lf.r)).set 2 (.int .i64 lf.d)).set 3 (.int .i64 lf.p)
    · exact bel_set4 HB8.out HBW.out
  · refine at_hide (F := fun w' => Blk w' w6.heap.size (amC lf) 28 ∧ Blk w' B (amC .zero) 28 ∧ Below wq.heap.size wq w') ?_ ?_
    · exact ⟨blk4 HQ7.out, blk4_other (HBB.out _ HB7.out) (by have h1 := HB6.out.size; have h2 := C5.out.lt; omega), bel_set4 HB7.out HB6.out.size⟩
    intro w8 hF
    have HL8 := Lib.hid hF.1
    have HZ8 := Lib.hid hF.2.1
    have HB8 := Lib.hid (below_and HB5.out hF.2.2)
    have l0 := HL8.out.cell (j := 0) rfl
    have l1 := HL8.out.cell (j := 1) rfl
    have l2 := HL8.out.cell (j := 2) rfl
    have l3 := HL8.out.cell (j := 3) rfl
    have r0 := HZ8.out.cell (j := 0) rfl
    have r1 := HZ8.out.cell (j := 1) rfl
    have r2 := HZ8.out.cell (j := 2) rfl
    have r3 := HZ8.out.cell (j := 3) rfl
    have f0 := HZ8.out.free 0
    have f1 := HZ8.out.free 1
    have f2 := HZ8.out.free 2
    have f3 := HZ8.out.free 3
    clear hF
    clear q0 q1 q2 q3 p0 p1 p2 p3
    go_wp2_with fail
    refine bodyPost_ret (results_row_tmp rfl _ _ B 28 #[.int .i64 lf.c, .int .i64 lf.r, .int .i64 lf.d, .int .i64 lf.p] (0, 0) _ rfl ?_ Try.underlying28 rfl (by kernel_rfl)) rfl ⟨rfl, ?_⟩
    · exact (((HZ8.out.set 0 (.int .i64 lf.c)).set 1 (.int .i64 lf.r)).set 2 (.int .i64 lf.d)).set 3 (.int .i64 lf.p)
    · exact bel_set4 HB8.out HBW.out
  · refine at_hide (F := fun w' => Blk w' wq.heap.size (amC lf) 28 ∧ Blk w' B (amC .zero) 28 ∧ Below wq.heap.size wq w') ?_ ?_
    · exact ⟨blk4 HQ7.out, blk4_other (HBB.out _ HB7.out) (by have h1 := (Nat.le_refl wq.heap.size); have h2 := C5.out.lt; omega), bel_set4 HB7.out (Nat.le_refl wq.heap.size)⟩
    intro w8 hF
    have HL8 := Lib.hid hF.1
    have HZ8 := Lib.hid hF.2.1
    have HB8 := Lib.hid (below_and HB5.out hF.2.2)
    have l0 := HL8.out.cell (j := 0) rfl
    have l1 := HL8.out.cell (j := 1) rfl
    have l2 := HL8.out.cell (j := 2) rfl
    have l3 := HL8.out.cell (j := 3) rfl
    have r0 := HZ8.out.cell (j := 0) rfl
    have r1 := HZ8.out.cell (j := 1) rfl
    have r2 := HZ8.out.cell (j := 2) rfl
    have r3 := HZ8.out.cell (j := 3) rfl
    have f0 := HZ8.out.free 0
    have f1 := HZ8.out.free 1
    have f2 := HZ8.out.free 2
    have f3 := HZ8.out.free 3
    clear hF
    clear q0 q1 q2 q3 p0 p1 p2 p3
    go_wp2_with fail
    refine bodyPost_ret (results_row_tmp rfl _ _ B 28 #[.int .i64 lf.c, .int .i64 lf.r, .int .i64 lf.d, .int .i64 lf.p] (0, 0) _ rfl ?_ Try.underlying28 rfl (by kernel_rfl)) rfl ⟨rfl, ?_⟩
    · exact (((HZ8.out.set 0 (.int .i64 lf.c)).set 1 (.int .i64 lf.r)).set 2 (.int .i64 lf.d)).set 3 (.int .i64 lf.p)
    · exact bel_set4 HB8.out HBW.out
/-- what Left answers -/
theorem bleft_any (b mg mc : Nat) (G : List Gr) (C : List Ch) (u : ByteArray) (d : Int) (w : World) (h : Bk w b mg mc G C) (hi : ChI C) (hnm : ∀ e ∈ C, 0 < e.n.size) (hg : ∀ u d, (grantA G u d).okB = true) (hd1 : -9223372036854775808 ≤ d) (hd2 : d ≤ 9223372036854775807) :
    Calls Try.prog 12 #[ptr b, .string u, .int .i64 d] w fun e w' => e = .returned (.tuple #[amV (leftP G C u d).1, .int .i64 (leftP G C u d).2]) ∧ Below w.heap.size w w' := by
  unfold leftP
  cases hk : askB u d
  · exact bleft_bad b mg mc G C u d w h hi hnm hd1 hd2 hk
  · exact bleft_ok b mg mc G C u d w h hi hnm (hg u d) hk
end Go.Proofs.Ytmgbailpmcggiaa
