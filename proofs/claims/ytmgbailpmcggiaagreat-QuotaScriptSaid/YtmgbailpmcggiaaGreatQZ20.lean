/- Texts of one proof, laid together: RQTold, RQOver, RQTwo. No condition of ours. -/
import Derived.Test.YtmgbailpmcggiaaGreatQZ19
namespace Go.Proofs.YtmgbailpmcggiaaGreat
open Go.RowKit

set_option maxRecDepth 100000 in
set_option maxHeartbeats 2000000 in
theorem rUsed_any (base g n : Nat) (vG vC : Value) (S G : List Gr) (C : List Ch) (u : ByteArray) (d : Int) (w : World) (h : RBk base w g vG vC S C) (hq : QI n G C) (hs : Sg S G) (hl : C.length ≤ 100000) :
    Calls Tryz.prog 19 #[ptr g, .string u, .int .i64 d] w fun e w' => e = .returned (.tuple #[amV (usedP C u d).1, .int .i64 (usedP C u d).2]) ∧ Below w.heap.size w w' := by
  obtain ⟨w3, hw3⟩ : ∃ w3, w3 = w.alloc (.cells #[.int .i64 0, .int .i64 0, .int .i64 0, .int .i64 0] 34) := ⟨_, rfl⟩
  obtain ⟨B, hB⟩ : ∃ B, B = w.heap.size := ⟨_, rfl⟩
  have B0 : Hid (Blk w3 B (amC .zero) 34) := Lib.hid (by rw [hw3, hB]; exact Blk.made w (amC .zero) _)
  have HBL : Hid (Below w.heap.size w w3) := Lib.hid (by rw [hw3]; exact below_alloc w _)
  have HBW : Hid (w.heap.size ≤ B) := Lib.hid (by omega)
  have H3 := Lib.hid (h.kept HBL.out)
  obtain ⟨y, hy⟩ : ∃ y, y = psum (onB u d) C := ⟨_, rfl⟩
  have HUS : Hid (∀ w', RBk base w' g vG vC S C → Calls Tryz.prog 37 #[ptr g, .string u, .int .i64 d, .string ⟨#[]⟩, .agg #[.int .i64 0, .int .i64 0, .int .i64 0, .int .i64 0]] w' fun e w2 => e = .returned (.tuple #[.agg #[.int .i64 y.c, .int .i64 y.r, .int .i64 y.d, .int .i64 y.p], .bool true]) ∧ Below w'.heap.size w' w2) := Lib.hid (fun w' h' => rused_any base g vG _ S C u ⟨#[]⟩ d .zero w' h' hl y 0 (by rw [used_zero hq, hy]))
  obtain ⟨ak, hak⟩ : ∃ ak, ak = askB u d := ⟨_, rfl⟩
  have HWR : Hid (∀ w, Calls Tryz.prog 35 #[.string u, .int .i64 d, .agg #[.int .i64 0, .int .i64 0, .int .i64 0, .int .i64 0]] w fun e w' => e = .returned (.bool (!ak)) ∧ Below w.heap.size w w') := Lib.hid (fun w => by rw [hak]; exact rwrong_zero u d w)
  have HP : usedP C u d = if ak = true then (y, 0) else (.zero, 2) := by unfold usedP; rw [hy, hak]
  rw [HP]
  clear h hq hs hl hy hak HP
  go_enter Tryz.func19, Tryz.ntmps19
  go_upto_region 1 with fail
  rw [← hw3, ← hB]
  clear hw3 hB
  cases ak
  · go_wp2_with (go_at_call 35; refine (HWR.out _).mono ?_; rintro e w4 ⟨rfl, hb⟩; have hz4 := B0.out.kept hb; have HZ := Lib.hid hz4; have HBX := Lib.hid (below_and HBL.out hb); have r0 := hz4.cell (j := 0) rfl; have f0 := hz4.free 0; have r1 := hz4.cell (j := 1) rfl; have f1 := hz4.free 1; have r2 := hz4.cell (j := 2) rfl; have f2 := hz4.free 2; have r3 := hz4.cell (j := 3) rfl; have f3 := hz4.free 3; clear hz4 hb)
    refine bodyPost_ret (results_row_tmp rfl _ _ B 34 #[.int .i64 0, .int .i64 0, .int .i64 0, .int .i64 0] (0, 0) _ rfl ?_ Tryz.underlying34 rfl (by kernel_rfl)) rfl ⟨rfl, ?_⟩
    · exact (((HZ.out.set 0 _).set 1 _).set 2 _).set 3 _
    · exact bel_set4 HBX.out HBW.out
  · go_wp2_with (first
      | (go_at_call 35; refine (HWR.out _).mono ?_; rintro e w4 ⟨rfl, hb⟩; have H4 := Lib.hid (H3.out.kept hb); have HZ4 := Lib.hid (B0.out.kept hb); have HB4 := Lib.hid (below_and HBL.out hb); clear hb)
      | (go_at_call 37; refine (HUS.out _ H4.out).mono ?_; rintro e w5 ⟨rfl, hb⟩; have hb2 := below_and hb (below_alloc w5 (.cells #[.int .i64 y.c, .int .i64 y.r, .int .i64 y.d, .int .i64 y.p] 34)); have hz4 := HZ4.out.kept hb2; have HZ := Lib.hid hz4; have HBX := Lib.hid (below_and HB4.out hb2); have r0 := hz4.cell (j := 0) rfl; have f0 := hz4.free 0; have r1 := hz4.cell (j := 1) rfl; have f1 := hz4.free 1; have r2 := hz4.cell (j := 2) rfl; have f2 := hz4.free 2; have r3 := hz4.cell (j := 3) rfl; have f3 := hz4.free 3; clear hz4 hb hb2))
    refine bodyPost_ret (results_row_tmp rfl _ _ B 34 #[.int .i64 y.c, .int .i64 y.r, .int .i64 y.d, .int .i64 y.p] (0, 0) _ rfl ?_ Tryz.underlying34 rfl (by kernel_rfl)) rfl ⟨rfl, ?_⟩
    · exact (((HZ.out.set 0 _).set 1 _).set 2 _).set 3 _
    · exact bel_set4 HBX.out HBW.out

set_option maxRecDepth 100000 in
set_option maxHeartbeats 2000000 in
theorem rleft_bad (base g n : Nat) (vG vC : Value) (S G : List Gr) (C : List Ch) (u : ByteArray) (d : Int) (w : World) (h : RBk base w g vG vC S C) (hq : QI n G C) (hs : Sg S G) (hl : C.length ≤ 100000) (hk : askB u d = false) :
    Calls Tryz.prog 23 #[ptr g, .string u, .int .i64 d] w fun e w' => e = .returned (.tuple #[amV .zero, .int .i64 2]) ∧ Below w.heap.size w w' := by
  obtain ⟨w3, hw3⟩ : ∃ w3, w3 = w.alloc (.cells #[.int .i64 0, .int .i64 0, .int .i64 0, .int .i64 0] 34) := ⟨_, rfl⟩
  obtain ⟨B, hB⟩ : ∃ B, B = w.heap.size := ⟨_, rfl⟩
  have B0 : Hid (Blk w3 B (amC .zero) 34) := Lib.hid (by rw [hw3, hB]; exact Blk.made w (amC .zero) _)
  have HBL : Hid (Below w.heap.size w w3) := Lib.hid (by rw [hw3]; exact below_alloc w _)
  have HBW : Hid (w.heap.size ≤ B) := Lib.hid (by omega)
  have H3 := Lib.hid (h.kept HBL.out)
  have HU : Hid (∀ w', RBk base w' g vG vC S C → Calls Tryz.prog 19 #[ptr g, .string u, .int .i64 d] w' fun e w2 => e = .returned (.tuple #[.agg #[.int .i64 0, .int .i64 0, .int .i64 0, .int .i64 0], .int .i64 2]) ∧ Below w'.heap.size w' w2) := Lib.hid (fun w' h' => by
    have h9 := rUsed_any base g n vG vC S G C u d w' h' hq hs hl
    unfold usedP at h9
    rw [hk] at h9
    exact h9)
  clear h hq hs hl hk
  go_enter Tryz.func23, Tryz.ntmps23
  go_upto_region 1 with fail
  rw [← hw3, ← hB]
  clear hw3 hB
  go_wp2_with (go_at_call 19; refine (HU.out _ H3.out).mono ?_; rintro e w4 ⟨rfl, hb⟩; have hb2 := below_and hb (below_alloc w4 (.cells #[.int .i64 0, .int .i64 0, .int .i64 0, .int .i64 0] 34)); have hz4 := B0.out.kept hb2; have HZ := Lib.hid hz4; have HBX := Lib.hid (below_and HBL.out hb2); have r0 := hz4.cell (j := 0) rfl; have f0 := hz4.free 0; have r1 := hz4.cell (j := 1) rfl; have f1 := hz4.free 1; have r2 := hz4.cell (j := 2) rfl; have f2 := hz4.free 2; have r3 := hz4.cell (j := 3) rfl; have f3 := hz4.free 3; clear hz4 hb hb2)
  refine bodyPost_ret (results_row_tmp rfl _ _ B 34 #[.int .i64 0, .int .i64 0, .int .i64 0, .int .i64 0] (0, 0) _ rfl ?_ Tryz.underlying34 rfl (by kernel_rfl)) rfl ⟨rfl, ?_⟩
  · exact (((HZ.out.set 0 _).set 1 _).set 2 _).set 3 _
  · exact bel_set4 HBX.out HBW.out

set_option maxRecDepth 100000 in
set_option maxHeartbeats 4000000 in
theorem rleft_ok (base g n : Nat) (vG vC : Value) (S G : List Gr) (C : List Ch) (u : ByteArray) (d : Int) (w : World) (h : RBk base w g vG vC S C) (hq : QI n G C) (hs : Sg S G) (hl : C.length ≤ 100000) (hk : askB u d = true) :
    Calls Tryz.prog 23 #[ptr g, .string u, .int .i64 d] w fun e w' => e = .returned (.tuple #[amV (leftA G C u d), .int .i64 0]) ∧ Below w.heap.size w w' := by
  obtain ⟨w3, hw3⟩ : ∃ w3, w3 = w.alloc (.cells #[.int .i64 0, .int .i64 0, .int .i64 0, .int .i64 0] 34) := ⟨_, rfl⟩
  obtain ⟨B, hB⟩ : ∃ B, B = w.heap.size := ⟨_, rfl⟩
  have B0 : Hid (Blk w3 B (amC .zero) 34) := Lib.hid (by rw [hw3, hB]; exact Blk.made w (amC .zero) _)
  have HBL : Hid (Below w.heap.size w w3) := Lib.hid (by rw [hw3]; exact below_alloc w _)
  have HBW : Hid (w.heap.size ≤ B) := Lib.hid (by omega)
  have H3 := Lib.hid (h.kept HBL.out)
  obtain ⟨gr, hgr⟩ : ∃ gr, gr = grantA G u d := ⟨_, rfl⟩
  obtain ⟨y, hy⟩ : ∃ y, y = psum (onB u d) C := ⟨_, rfl⟩
  obtain ⟨lf, hlf⟩ : ∃ lf, lf = leftA G C u d := ⟨_, rfl⟩
  obtain ⟨z, hz⟩ : ∃ z : Am, ∀ k, k < 4 → z.get k = if gr.get k < y.get k then gr.get k else y.get k := ⟨.of fun k => if gr.get k < y.get k then gr.get k else y.get k, fun k hk => Am.of_get _ k hk⟩
  have HU : Hid (∀ w', RBk base w' g vG vC S C → Calls Tryz.prog 19 #[ptr g, .string u, .int .i64 d] w' fun e w2 => e = .returned (.tuple #[.agg #[.int .i64 y.c, .int .i64 y.r, .int .i64 y.d, .int .i64 y.p], .int .i64 0]) ∧ Below w'.heap.size w' w2) := Lib.hid (fun w' h' => by
    have h9 := rUsed_any base g n vG vC S G C u d w' h' hq hs hl
    unfold usedP at h9
    rw [hk, ← hy] at h9
    exact h9)
  have HGR : Hid (∀ w', RBk base w' g vG vC S C → Calls Tryz.prog 39 #[ptr g, .string u, .int .i64 d] w' fun e w2 => e = .returned (.agg #[.int .i64 gr.c, .int .i64 gr.r, .int .i64 gr.d, .int .i64 gr.p]) ∧ Below w'.heap.size w' w2) := Lib.hid (fun w' h' => by rw [hgr, ← ask_gfind hq hs hk]; exact rgr_any base g vG _ S C u d w' h')
  have HLE : Hid (∀ w', Calls Tryz.prog 45 #[amV y, amV gr] w' fun e w2 => e = .returned (amV z) ∧ Below w'.heap.size w' w2) := Lib.hid (fun w' => rleast_any y gr w' z hz)
  have HSU : Hid (∀ w', Calls Tryz.prog 44 #[amV gr, amV z] w' fun e w2 => e = .returned (.tuple #[amV lf, .int .i64 0]) ∧ Below w'.heap.size w' w2) := Lib.hid (fun w' => by
    have h9 := rsub_any gr z w'
    subst hgr hy
    rw [left_sub (hq.grok u d) (hq.ch.fit u d) z hz, ← hlf] at h9
    exact h9)
  rw [← hlf]
  clear h hq hs hl hk hgr hy hlf hz
  go_enter Tryz.func23, Tryz.ntmps23
  go_upto_region 1 with fail
  rw [← hw3, ← hB]
  clear hw3 hB
  go_upto_region 4 with (go_at_call 19; refine (HU.out _ H3.out).mono ?_; rintro e w5 ⟨rfl, hb⟩; have H5 := Lib.hid (H3.out.kept hb); have B5 := Lib.hid (B0.out.kept hb); have HB5 := Lib.hid (below_and HBL.out hb); clear hb)
  refine at_hide (F := fun w' => Blk w' w5.heap.size (amC y) 34 ∧ Blk w' B (amC .zero) 34 ∧ RBk base w' g vG vC S C ∧ Below w.heap.size w w') ⟨Blk.made w5 (amC y) _, B5.out.kept (below_alloc _ _), H5.out.kept (below_alloc _ _), below_and HB5.out (below_alloc _ _)⟩ ?_
  intro w6 hF
  obtain ⟨f1, f2, f3, f4⟩ := hF
  obtain ⟨Y, hY⟩ : ∃ Y, Y = w5.heap.size := ⟨_, rfl⟩
  rw [← hY] at f1 ⊢
  have Y6 := Lib.hid f1
  have B6 := Lib.hid f2
  have H6 := Lib.hid f3
  have HB6 := Lib.hid f4
  clear f1 f2 f3 f4 hY
  go_upto_region 5 with (go_at_call 39; refine (HGR.out _ H6.out).mono ?_; rintro e w7 ⟨rfl, hb⟩; have Y7 := Lib.hid (Y6.out.kept hb); have B7 := Lib.hid (B6.out.kept hb); have HB7 := Lib.hid (below_and HB6.out hb); clear hb)
  refine at_hide (F := fun w' => Blk w' w7.heap.size (amC gr) 34 ∧ Blk w' Y (amC y) 34 ∧ Blk w' B (amC .zero) 34 ∧ Below w.heap.size w w') ⟨Blk.made w7 (amC gr) _, Y7.out.kept (below_alloc _ _), B7.out.kept (below_alloc _ _), below_and HB7.out (below_alloc _ _)⟩ ?_
  intro wq hF
  obtain ⟨f1, f2, f3, f4⟩ := hF
  obtain ⟨Gk, hGk⟩ : ∃ Gk, Gk = w7.heap.size := ⟨_, rfl⟩
  rw [← hGk] at f1 ⊢
  have CG := Lib.hid f1
  have CY := Lib.hid f2
  have C5 := Lib.hid f3
  clear HB5 B5 H5 HB6 B6 H6 HB7 B7
  have HB5 := Lib.hid f4
  clear f1 f2 f3 f4 hGk
  clear Y7 Y6 w7 w6 w5
  have HE8 : Hid (∀ w', Below wq.heap.size wq w' → w'.cell? ⟨Y, 0, none⟩ = some (.int .i64 y.c) ∧ w'.cell? ⟨Y, 1, none⟩ = some (.int .i64 y.r) ∧ w'.cell? ⟨Y, 2, none⟩ = some (.int .i64 y.d) ∧ w'.cell? ⟨Y, 3, none⟩ = some (.int .i64 y.p) ∧ w'.cell? ⟨Gk, 0, none⟩ = some (.int .i64 gr.c) ∧ w'.cell? ⟨Gk, 1, none⟩ = some (.int .i64 gr.r) ∧ w'.cell? ⟨Gk, 2, none⟩ = some (.int .i64 gr.d) ∧ w'.cell? ⟨Gk, 3, none⟩ = some (.int .i64 gr.p)) := Lib.hid (fun w' hb => eight (CY.out.kept hb) (CG.out.kept hb))
  have HBB : Hid (∀ w', Below wq.heap.size wq w' → Blk w' B (amC .zero) 34) := Lib.hid (fun w' hb => C5.out.kept hb)
  go_region_held3 (fun w' => w'.cell? ⟨Y, 0, none⟩ = some (.int .i64 y.c) ∧ w'.cell? ⟨Y, 1, none⟩ = some (.int .i64 y.r) ∧ w'.cell? ⟨Y, 2, none⟩ = some (.int .i64 y.d) ∧ w'.cell? ⟨Y, 3, none⟩ = some (.int .i64 y.p) ∧ w'.cell? ⟨Gk, 0, none⟩ = some (.int .i64 gr.c) ∧ w'.cell? ⟨Gk, 1, none⟩ = some (.int .i64 gr.r) ∧ w'.cell? ⟨Gk, 2, none⟩ = some (.int .i64 gr.d) ∧ w'.cell? ⟨Gk, 3, none⟩ = some (.int .i64 gr.p))
    (refine HE8.out _ ?_ <;> (repeat (first | with_reducible exact HB7.out | with_reducible exact HB6.out | with_reducible exact Below.refl _ _ | with_reducible (refine bel_set4 ?_ (Nat.le_refl _)) | with_reducible (refine bel_set4 ?_ HB6.out.size) | with_reducible (refine bel_set4 ?_ HB7.out.size) | with_reducible (apply bl_drew) | with_reducible (refine below_and ?_ (below_alloc _ _)))))
    (first
      | (go_at_call 45; refine (HLE.out _).mono ?_; rintro e w6 ⟨rfl, hb⟩; have HB6 : Hid (Below wq.heap.size wq w6) := Lib.hid (by refine below_and ?_ hb; (repeat (first | with_reducible exact HB7.out | with_reducible exact HB6.out | with_reducible exact Below.refl _ _ | apply bl_drew | (refine below_and ?_ (below_alloc _ _))))); (first | (have hq : Blk w6 wq.heap.size [.int .i64 0, .int .i64 0, .int .i64 0, .int .i64 0] 34 := (Blk.made wq.drew [.int .i64 0, .int .i64 0, .int .i64 0, .int .i64 0] 34).kept hb; have HQ6 := Lib.hid hq; clear hq) | skip); clear hb)
      | (go_at_call 44; refine (HSU.out _).mono ?_; rintro e w7 ⟨rfl, hb⟩; have HB7 : Hid (Below wq.heap.size wq w7) := Lib.hid (by refine below_and ?_ hb; (repeat (first | with_reducible exact HB7.out | with_reducible exact HB6.out | with_reducible exact Below.refl _ _ | apply bl_drew | (refine below_and ?_ (below_alloc _ _))))); (first | (have hq : Blk w7 wq.heap.size [.int .i64 0, .int .i64 0, .int .i64 0, .int .i64 0] 34 := HQ6.out.kept hb; have HQ7 := Lib.hid hq; have q0 := hq.cell (j := 0) rfl; have q1 := hq.cell (j := 1) rfl; have q2 := hq.cell (j := 2) rfl; have q3 := hq.cell (j := 3) rfl; have p0 := hq.free 0; have p1 := hq.free 1; have p2 := hq.free 2; have p3 := hq.free 3; clear hq) | (have hq : Blk w7 w6.heap.size [.int .i64 0, .int .i64 0, .int .i64 0, .int .i64 0] 34 := (Blk.made w6 [.int .i64 0, .int .i64 0, .int .i64 0, .int .i64 0] 34).kept hb; have HQ7 := Lib.hid hq; have q0 := hq.cell (j := 0) rfl; have q1 := hq.cell (j := 1) rfl; have q2 := hq.cell (j := 2) rfl; have q3 := hq.cell (j := 3) rfl; have p0 := hq.free 0; have p1 := hq.free 1; have p2 := hq.free 2; have p3 := hq.free 3; clear hq) | skip); clear hb))
  · refine at_hide (F := fun w' => Blk w' w7.heap.size (amC lf) 34 ∧ Blk w' B (amC .zero) 34 ∧ Below wq.heap.size wq w') ?_ ?_
    · exact ⟨Blk.made w7 (amC lf) _, (HBB.out _ HB7.out).alloc _, below_and HB7.out (below_alloc _ _)⟩
    intro w8 hF
    have HL8 := Lib.hid hF.1
    have HZ8 := Lib.hid hF.2.1
    have HB8 := Lib.hid (below_and HB5.out hF.2.2)
    have l0 := HL8.out.cell (j := 0) rfl
    have l1 := HL8.out.cell (j := 1) rfl
    have l2 := HL8.out.cell (j := 2) rfl
    have l3 := HL8.out.cell (j := 3) rfl
    have r0 := HZ8.out.cell (j := 0) rfl
    have r1 := HZ8.out.cell (j := 1) rfl
    have r2 := HZ8.out.cell (j := 2) rfl
    have r3 := HZ8.out.cell (j := 3) rfl
    have f0 := HZ8.out.free 0
    have f1 := HZ8.out.free 1
    have f2 := HZ8.out.free 2
    have f3 := HZ8.out.free 3
    clear hF
    skip
    go_wp2_with fail
    refine bodyPost_ret (results_row_tmp rfl _ _ B 34 #[.int .i64 lf.c, .int .i64 lf.r, .int .i64 lf.d, .int .i64 lf.p] (0, 0) _ rfl ?_ Tryz.underlying34 rfl (by kernel_rfl)) rfl ⟨rfl, ?_⟩
    · exact (((HZ8.out.set 0 (.int .i64 lf.c)).set 1 (.int .i64 lf.r)).set 2 (.int .i64 lf.d)).set 3 (.int .i64 lf.p)
    · exact bel_set4 HB8.out HBW.out
  · refine at_hide (F := fun w' => Blk w' w6.heap.size (amC lf) 34 ∧ Blk w' B (amC .zero) 34 ∧ Below wq.heap.size wq w') ?_ ?_
    · exact ⟨blk4 HQ7.out, blk4_other (HBB.out _ HB7.out) (by have h1 := HB6.out.size; have h2 := C5.out.lt; omega), bel_set4 HB7.out HB6.out.size⟩
    intro w8 hF
    have HL8 := Lib.hid hF.1
    have HZ8 := Lib.hid hF.2.1
    have HB8 := Lib.hid (below_and HB5.out hF.2.2)
    have l0 := HL8.out.cell (j := 0) rfl
    have l1 := HL8.out.cell (j := 1) rfl
    have l2 := HL8.out.cell (j := 2) rfl
    have l3 := HL8.out.cell (j := 3) rfl
    have r0 := HZ8.out.cell (j := 0) rfl
    have r1 := HZ8.out.cell (j := 1) rfl
    have r2 := HZ8.out.cell (j := 2) rfl
    have r3 := HZ8.out.cell (j := 3) rfl
    have f0 := HZ8.out.free 0
    have f1 := HZ8.out.free 1
    have f2 := HZ8.out.free 2
    have f3 := HZ8.out.free 3
    clear hF
    clear q0 q1 q2 q3 p0 p1 p2 p3
    go_wp2_with fail
    refine bodyPost_ret (results_row_tmp rfl _ _ B 34 #[.int .i64 lf.c, .int .i64 lf.r, .int .i64 lf.d, .int .i64 lf.p] (0, 0) _ rfl ?_ Tryz.underlying34 rfl (by kernel_rfl)) rfl ⟨rfl, ?_⟩
    · exact (((HZ8.out.set 0 (.int .i64 lf.c)).set 1 (.int .i64 lf.r)).set 2 (.int .i64 lf.d)).set 3 (.int .i64 lf.p)
    · exact bel_set4 HB8.out HBW.out
  · refine at_hide (F := fun w' => Blk w' wq.heap.size (amC lf) 34 ∧ Blk w' B (amC .zero) 34 ∧ Below wq.heap.size wq w') ?_ ?_
    · exact ⟨blk4 HQ7.out, blk4_other (HBB.out _ HB7.out) (by have h1 := (Nat.le_refl wq.heap.size); have h2 := C5.out.lt; omega), bel_set4 HB7.out (Nat.le_refl wq.heap.size)⟩
    intro w8 hF
    have HL8 := Lib.hid hF.1
    have HZ8 := Lib.hid hF.2.1
    have HB8 := Lib.hid (below_and HB5.out hF.2.2)
    have l0 := HL8.out.cell (j := 0) rfl
    have l1 := HL8.out.cell (j := 1) rfl
    have l2 := HL8.out.cell (j := 2) rfl
    have l3 := HL8.out.cell (j := 3) rfl
    have r0 := HZ8.out.cell (j := 0) rfl
    have r1 := HZ8.out.cell (j := 1) rfl
    have r2 := HZ8.out.cell (j := 2) rfl
    have r3 := HZ8.out.cell (j := 3) rfl
    have f0 := HZ8.out.free 0
    have f1 := HZ8.out.free 1
    have f2 := HZ8.out.free 2
    have f3 := HZ8.out.free 3
    clear hF
    clear q0 q1 q2 q3 p0 p1 p2 p3
    go_wp2_with fail
    refine bodyPost_ret (results_row_tmp rfl _ _ B 34 #[.int .i64 lf.c, .int .i64 lf.r, .int .i64 lf.d, .int .i64 lf.p] (0, 0) _ rfl ?_ Tryz.underlying34 rfl (by kernel_rfl)) rfl ⟨rfl, ?_⟩
    · exact (((HZ8.out.set 0 (.int .i64 lf.c)).set 1 (.int .i64 lf.r)).set 2 (.int .i64 lf.d)).set 3 (.int .i64 lf.p)
    · exact bel_set4 HB8.out HBW.out
theorem rLeft_any (base g n : Nat) (vG vC : Value) (S G : List Gr) (C : List Ch) (u : ByteArray) (d : Int) (w : World) (h : RBk base w g vG vC S C) (hq : QI n G C) (hs : Sg S G) (hl : C.length ≤ 100000) :
    Calls Tryz.prog 23 #[ptr g, .string u, .int .i64 d] w fun e w' => e = .returned (.tuple #[amV (leftP G C u d).1, .int .i64 (leftP G C u d).2]) ∧ Below w.heap.size w w' := by
  unfold leftP
  cases hk : askB u d
  · exact rleft_bad base g n vG vC S G C u d w h hq hs hl hk
  · exact rleft_ok base g n vG vC S G C u d w h hq hs hl hk
end Go.Proofs.YtmgbailpmcggiaaGreat
namespace Go.Proofs.YtmgbailpmcggiaaGreat
open Go.RowKit

set_option maxRecDepth 100000 in
set_option maxHeartbeats 3000000 in
theorem rOver_any (base g n : Nat) (vG vC : Value) (S G : List Gr) (C : List Ch) (w : World) (h : RBk base w g vG vC S C) (hq : QI n G C) (hs : Sg S G) (hl : C.length ≤ 100000) :
    Calls Tryz.prog 29 #[ptr g] w fun e w' => ∃ v, e = .returned v ∧ w'.ownsRow w.heap.size 43 7 v (overP G C).length (rwC chC (overP G C)) ∧ Below w.heap.size w w' := by
  obtain ⟨i0, hi0, hz0, hz1, hz2⟩ := info_parts info_ch
  obtain ⟨p, cc, rfl, hcc, hm⟩ := own_slice h.ch
  have H := Lib.hid h
  have HQI := Lib.hid hq
  have HSG := Lib.hid hs
  have HL := Lib.hid hl
  have hml : maxLen ≤ 9223372036854775807 := by decide
  clear h hq hs hl
  go_enter Tryz.func29, Tryz.ntmps29
  go_wp2
  go_loopw [3, 4] (fun o i wr => ∃ k : Nat, k ≤ C.length ∧ i = .int .i64 (k : Int) ∧ Hid (wr.ownsRow w.heap.size 43 7 o ((C.take k).filter (overB G C)).length (rwC chC ((C.take k).filter (overB G C)))) ∧ Hid (Below w.heap.size w wr)) (fun _ i _ => C.length - (intOf i).toNat)
  case atStart => exact ⟨0, Nat.zero_le _, rfl, Lib.hid (World.ownsRow_nil _ _ _ _), Lib.hid (Below.refl _ _)⟩
  case round =>
    obtain ⟨k, hk, rfl, HO, HB⟩ := hrel
    have HR := Lib.hid (H.out.kept HB.out)
    have b1 := HR.out.blk.cell (j := 1) rfl
    by_cases hlt : k < C.length
    · obtain ⟨q, rfl, hcs⟩ := HR.out.chAt hlt
      obtain ⟨x, hx⟩ : ∃ x, x = C[k] := ⟨_, rfl⟩
      rw [← hx] at hcs
      have hxm : x ∈ C := by rw [hx]; exact List.getElem_mem hlt
      have hxk := HQI.out.user x hxm
      have e0 : wr.cell? ⟨q, k * 7, none⟩ = some (.string x.n) := hcs 0 _ (by omega) rfl
      have e1 := hcs 1 _ (by omega) rfl
      have e2 := hcs 2 _ (by omega) rfl
      have e3 := hcs 3 _ (by omega) rfl
      have e4 := hcs 4 _ (by omega) rfl
      have e5 := hcs 5 _ (by omega) rfl
      have e6 := hcs 6 _ (by omega) rfl
      obtain ⟨y, hy⟩ : ∃ y, y = psum (onB x.u x.b) C := ⟨_, rfl⟩
      obtain ⟨ga, hga⟩ : ∃ ga, ga = grantA G x.u x.b := ⟨_, rfl⟩
      have HUS : Hid (∀ w', RBk base w' g vG (.slice (some ⟨q, 0, none⟩) C.length cc) S C → Calls Tryz.prog 37 #[ptr g, .string x.u, .int .i64 x.b, .string ⟨#[]⟩, .agg #[.int .i64 0, .int .i64 0, .int .i64 0, .int .i64 0]] w' fun e w2 => e = .returned (.tuple #[.agg #[.int .i64 y.c, .int .i64 y.r, .int .i64 y.d, .int .i64 y.p], .bool true]) ∧ Below w'.heap.size w' w2) := Lib.hid (fun w' h' => rused_any base g vG _ S C x.u ⟨#[]⟩ x.b .zero w' h' HL.out y 0 (by rw [used_zero HQI.out, hy]))
      have HGR : Hid (∀ w', RBk base w' g vG (.slice (some ⟨q, 0, none⟩) C.length cc) S C → Calls Tryz.prog 39 #[ptr g, .string x.u, .int .i64 x.b] w' fun e w2 => e = .returned (.agg #[.int .i64 ga.c, .int .i64 ga.r, .int .i64 ga.d, .int .i64 ga.p]) ∧ Below w'.heap.size w' w2) := Lib.hid (fun w' h' => by rw [hga, ← ask_gfind HQI.out HSG.out hxk]; exact rgr_any base g vG _ S C x.u x.b w' h')
      have HOV : Hid (overB G C x = (!(x.b == 0) && !fitsB y ga)) := Lib.hid (by rw [overB_eq, hy, hga])
      have HT := Lib.hid (filter_take (p := overB G C) hlt)
      rw [← hx] at HT
      have i1 : (k : Int) < (C.length : Int) := by omega
      have i0' : (0 : Int) ≤ (k : Int) := by omega
      clear hx hxk hxm hcs hy hga
      go_upto_region 6 with fail
      refine at_hide (F := fun w' => Blk w' wr.heap.size (chC x) 43 ∧ RBk base w' g vG (.slice (some ⟨q, 0, none⟩) C.length cc) S C ∧ Below wr.heap.size wr w') ⟨Blk.made wr (chC x) _, HR.out.kept (below_alloc _ _), below_alloc _ _⟩ ?_
      intro w5 hF
      obtain ⟨f1, f2, f3⟩ := hF
      obtain ⟨X, hX⟩ : ∃ X, X = wr.heap.size := ⟨_, rfl⟩
      rw [← hX] at f1 ⊢
      have X5 := Lib.hid f1
      have H5 := Lib.hid f2
      have HR5 := Lib.hid f3
      clear f1 f2 f3 hX e0 e1 e2 e3 e4 e5 e6 b1
      have x1 := X5.out.cell (j := 1) rfl
      have x2 := X5.out.cell (j := 2) rfl
      go_upto_region 7 with (go_at_call 37; refine (HUS.out _ H5.out).mono ?_; rintro e w6 ⟨rfl, hb⟩; have X6 := Lib.hid (X5.out.kept hb); have H6 := Lib.hid (H5.out.kept hb); have HR6 := Lib.hid (below_and HR5.out hb); clear hb x1 x2)
      refine at_hide (F := fun w' => Blk w' w6.heap.size (amC y) 34 ∧ Blk w' X (chC x) 43 ∧ RBk base w' g vG (.slice (some ⟨q, 0, none⟩) C.length cc) S C ∧ Below wr.heap.size wr w') ⟨Blk.made w6 (amC y) _, X6.out.kept (below_alloc _ _), H6.out.kept (below_alloc _ _), below_and HR6.out (below_alloc _ _)⟩ ?_
      intro w7 hF
      obtain ⟨f1, f2, f3, f4⟩ := hF
      obtain ⟨Z, hZ⟩ : ∃ Z, Z = w6.heap.size := ⟨_, rfl⟩
      rw [← hZ] at f1 ⊢
      have Z7 := Lib.hid f1
      have X7 := Lib.hid f2
      have H7 := Lib.hid f3
      have HR7 := Lib.hid f4
      clear f1 f2 f3 f4 hZ
      have x1 := Past.blk X7.out (j := 1) rfl
      have x2 := Past.blk X7.out (j := 2) rfl
      have z0 := Past.blk Z7.out (j := 0) rfl
      have z1 := Past.blk Z7.out (j := 1) rfl
      have z2 := Past.blk Z7.out (j := 2) rfl
      have z3 := Past.blk Z7.out (j := 3) rfl
      cases hbz : (x.b == 0)
      · have t1 : (x.b != 0) = true := by rw [bne, hbz]; rfl
        cases hfz : fitsB y ga
        · have HP : Hid (overB G C x = true) := Lib.hid (by rw [HOV.out, hbz, hfz]; rfl)
          refine wp_region_past (by kernel_rfl) (by kernel_rfl) ?_
          repeat (go_big_quiet_step (first | (go_at_call 39; exact past_call (HGR.out _ (H7.out.kept (Past.h _)))) | (go_at_call 38; exact past_call (rfits_any _ _ _))))
          refine wpQuiet_nil ?_
          intro _ hw'
          obtain ⟨s9, hw''⟩ := hw'
          subst hw''
          obtain ⟨w9, h9, e9⟩ : ∃ w9, Below w7.heap.size w7 w9 ∧ w9 = s9.val := ⟨_, s9.h, rfl⟩
          rw [← e9]
          have HBW9 := Lib.hid (below_and HR7.out h9)
          have HB9 := Lib.hid (below_and HB.out HBW9.out)
          have X9 := Lib.hid (X7.out.kept h9)
          clear h9 e9 x1 x2 z0 z1 z2 z3
          have y0 := X9.out.cell (j := 0) rfl
          have y1 := X9.out.cell (j := 1) rfl
          have y2 := X9.out.cell (j := 2) rfl
          have y3 := X9.out.cell (j := 3) rfl
          have y4 := X9.out.cell (j := 4) rfl
          have y5 := X9.out.cell (j := 5) rfl
          have y6 := X9.out.cell (j := 6) rfl
          have HOA : Hid ((w9.alloc (.cells #[.string x.n, .string x.u, .int .i64 x.b, .int .i64 x.a.c, .int .i64 x.a.r, .int .i64 x.a.d, .int .i64 x.a.p] 43)).ownsRow w.heap.size 43 7 u3 ((C.take k).filter (overB G C)).length (rwC chC ((C.take k).filter (overB G C)))) := Lib.hid (own_fr HO.out (Fr.of_below (below_and HBW9.out (below_alloc w9 _)) []) (fun _ _ => by simp))
          have HWZ : Hid (w.heap.size ≤ w9.heap.size) := Lib.hid HB9.out.size
          have HFL : Hid (((C.take k).filter (overB G C)).length ≤ 100000) := Lib.hid (by have h1 := List.length_filter_le (overB G C) (C.take k); have h2 := HL.out; rw [List.length_take] at h1; omega)
          go_wp2_with (at_builtin; go_loud (refine wpList_app5 rfl _ _ 28 28 rfl w.heap.size 43 i0 (chV zC) 7 72 Tryz.underlying28 hi0 hz0 hz1 hz2 rfl _ _ (rwC chC ((C.take k).filter (overB G C))) rfl HOA.out _ 1 _ rfl (src_block Tryz.underlying28 _ _ #[_, _, _, _, _, _, _] (heap_alloc_new w9 _) rfl (chC_one x)) (by have := HFL.out; unfold maxLen; omega) (by have := HFL.out; omega) (by have := HWZ.out; simp; omega) ?_; intro o4 w4 ho4 hg4 hn4; have HO4 := Lib.hid ho4; have HB4 : Hid (Below w.heap.size w w4) := Lib.hid ((below_and HB9.out (below_alloc w9 _)).trans ((Fr.of_grown hg4).below (by intro y hy; exact own_base HO.out (Option.mem_toList.1 hy)) (by have := HWZ.out; simp; omega))); clear ho4 hg4 hn4))
          go_roundw
          case rel => exact ⟨k + 1, hlt, by go_num, Lib.hid (by rw [HT.out, HP.out]; simpa [rwC_append, rwC_cons, rwC_nil] using HO4.out), HB4⟩
          case measure => simp [intOf]; omega
        · have HP : Hid (overB G C x = false) := Lib.hid (by rw [HOV.out, hbz, hfz]; rfl)
          refine wp_region_past (by kernel_rfl) (by kernel_rfl) ?_
          repeat (go_big_quiet_step (first | (go_at_call 39; exact past_call (HGR.out _ (H7.out.kept (Past.h _)))) | (go_at_call 38; exact past_call (rfits_any _ _ _))))
          refine wpQuiet_nil ?_
          intro _ hw'
          obtain ⟨s9, hw''⟩ := hw'
          subst hw''
          obtain ⟨w9, h9, e9⟩ : ∃ w9, Below w7.heap.size w7 w9 ∧ w9 = s9.val := ⟨_, s9.h, rfl⟩
          rw [← e9]
          have HBW9 := Lib.hid (below_and HR7.out h9)
          have HB9 := Lib.hid (below_and HB.out HBW9.out)
          have X9 := Lib.hid (X7.out.kept h9)
          clear h9 e9 x1 x2 z0 z1 z2 z3
          go_wp2
          go_roundw
          case rel => exact ⟨k + 1, hlt, by go_num, Lib.hid (by
              have hh := own_fr HO.out (Fr.of_below HBW9.out []) (fun _ _ => by simp)
              rw [HT.out, HP.out]; simpa using hh), HB9⟩
          case measure => simp [intOf]; omega
      · have t1 : (x.b != 0) = false := by rw [bne, hbz]; rfl
        have HP : Hid (overB G C x = false) := Lib.hid (by rw [HOV.out, hbz]; rfl)
        clear hbz
        refine wp_region_past (by kernel_rfl) (by kernel_rfl) ?_
        repeat (go_big_quiet_step (first | (go_at_call 39; exact past_call (HGR.out _ (H7.out.kept (Past.h _)))) | (go_at_call 38; exact past_call (rfits_any _ _ _))))
        refine wpQuiet_nil ?_
        intro _ hw'
        obtain ⟨s9, hw''⟩ := hw'
        subst hw''
        obtain ⟨w9, h9, e9⟩ : ∃ w9, Below w7.heap.size w7 w9 ∧ w9 = s9.val := ⟨_, s9.h, rfl⟩
        rw [← e9]
        have HBW9 := Lib.hid (below_and HR7.out h9)
        have HB9 := Lib.hid (below_and HB.out HBW9.out)
        have X9 := Lib.hid (X7.out.kept h9)
        clear h9 e9 x1 x2 z0 z1 z2 z3
        go_wp2
        go_roundw
        case rel => exact ⟨k + 1, hlt, by go_num, Lib.hid (by
            have hh := own_fr HO.out (Fr.of_below HBW9.out []) (fun _ _ => by simp)
            rw [HT.out, HP.out]; simpa using hh), HB9⟩
        case measure => simp [intOf]; omega
    · obtain rfl : k = C.length := by omega
      have HE := HO.out
      rw [List.take_length] at HE
      have HEE := Lib.hid HE
      clear HE
      go_wp2
      go_ret
      exact ⟨_, rfl, HEE.out, HB.out⟩
end Go.Proofs.YtmgbailpmcggiaaGreat
namespace Go.Proofs.YtmgbailpmcggiaaGreat
open Go.RowKit

/-- the book and the document's, each of the call's own -/
structure Tq (w0 w : World) (b mg mc g n : Nat) (G S : List Gr) (C C2 : List Ch) : Prop where
  bo : Bo w0 w b mg mc n G C
  rb : ∃ vG vC, RBk w0.heap.size w g vG vC S C2
  gl : w0.heap.size ≤ g
section
variable {w0 w w' : World} {b mg mc g n : Nat} {G S : List Gr} {C C2 : List Ch}
theorem Tq.kept (h : Tq w0 w b mg mc g n G S C C2) (hb : Below w.heap.size w w') : Tq w0 w' b mg mc g n G S C C2 := by
  obtain ⟨vG, vC, hr⟩ := h.rb
  exact ⟨h.bo.kept hb, ⟨vG, vC, hr.kept hb⟩, h.gl⟩
theorem Tq.hb (h : Tq w0 w b mg mc g n G S C C2) : Below w0.heap.size w0 w := h.bo.hb
theorem Tq.other (h : Tq w0 w b mg mc g n G S C C2) {vG vC : Value} (hr : RBk w0.heap.size w g vG vC S C2) {q : Nat} (hq : q = g ∨ vG.ownBlock = some q ∨ vC.ownBlock = some q) : q ≠ b ∧ q ≠ mg ∧ q ≠ mc ∧ w0.heap.size ≤ q := by
  have hk := h.bo.bk
  rcases hq with rfl | hq | hq
  · refine ⟨fun e => ?_, fun e => ?_, fun e => ?_, h.gl⟩
    · subst e
      have := blk_ty hr.blk hk.blk
      exact absurd this (by decide)
    · subst e; exact blk_map hr.blk hk.gm
    · subst e; exact blk_map hr.blk hk.cm
  · refine ⟨fun e => ?_, fun e => ?_, fun e => ?_, own_base hr.gr hq⟩
    · subst e; exact own_ty hr.gr hk.blk (by decide) hq
    · subst e; exact own_map hr.gr hk.gm hq
    · subst e; exact own_map hr.gr hk.cm hq
  · refine ⟨fun e => ?_, fun e => ?_, fun e => ?_, own_base hr.ch hq⟩
    · subst e; exact own_ty hr.ch hk.blk (by decide) hq
    · subst e; exact own_map hr.ch hk.gm hq
    · subst e; exact own_map hr.ch hk.cm hq
theorem Tq.book (h : Tq w0 w b mg mc g n G S C C2) {m : Nat} {G' : List Gr} {C' : List Ch} (hk : Bo w0 w' b mg mc m G' C') (hf : Fr [mg, mc] w w') : Tq w0 w' b mg mc g m G' S C' C2 := by
  obtain ⟨vG, vC, hr⟩ := h.rb
  have hn : ∀ q, (q = g ∨ vG.ownBlock = some q ∨ vC.ownBlock = some q) → q ∉ [mg, mc] := fun q hq hm => by
    have := h.other hr hq
    simp only [List.mem_cons, List.not_mem_nil, or_false] at hm
    rcases hm with hm | hm
    · exact this.2.1 hm
    · exact this.2.2.1 hm
  exact ⟨hk, ⟨vG, vC, hr.blk.fr hf (hn g (.inl rfl)), own_fr hr.gr hf (fun q hq => hn q (.inr (.inl hq))), own_fr hr.ch hf (fun q hq => hn q (.inr (.inr hq))), hr.n1, hr.n2⟩, h.gl⟩
theorem Tq.doc (h : Tq w0 w b mg mc g n G S C C2) {vG vC vG' vC' : Value} (hr : RBk w0.heap.size w g vG vC S C2) {S' : List Gr} {C' : List Ch} (hr' : RBk w0.heap.size w' g vG' vC' S' C') {P : Nat → Prop} (hf : Frp P w w') (hP : ∀ q, P q → q = g ∨ vG.ownBlock = some q ∨ vC.ownBlock = some q) : Tq w0 w' b mg mc g n G S' C C' := by
  have hk := h.bo.bk
  have hn : ∀ q, P q → q ≠ b ∧ q ≠ mg ∧ q ≠ mc ∧ w0.heap.size ≤ q := fun q hq => h.other hr (hP q hq)
  refine ⟨⟨⟨hk.blk.frp hf (fun e => (hn _ e).1 rfl), hk.gm.frp hf (fun e => (hn _ e).2.1 rfl), hk.cm.frp hf (fun e => (hn _ e).2.2.1 rfl), hk.n1, hk.n2, hk.n3⟩, h.bo.qi, h.bo.lo, ?_⟩, ⟨vG', vC', hr'⟩, h.gl⟩
  exact h.bo.hb.trans (hf.below (fun q hq => (hn q hq).2.2.2) h.bo.hb.size)
theorem tq_step (h : Tq w0 w b mg mc g n G S C C2) (hn : n ≤ 1000) (x : Ac) (hx : x.ok) :
    Calls Tryz.prog 6 #[ptr b, x.v] w fun e w' => e = .returned (.int .i64 (stepQ G C x).1) ∧ Tq w0 w' b mg mc g (n + 1) (stepQ G C x).2.1 S (stepQ G C x).2.2 C2 :=
  (bo_step h.bo hn x hx).mono fun e w' ⟨h1, h2, h3⟩ => ⟨h1, h.book h2 h3⟩

/-- the document's grants behind an act -/
def stepS (S : List Gr) (x : Ac) : List Gr := if x.k % 4 = 0 ∧ (askB x.u x.d && x.a.okB) = true then gins ⟨x.u, x.d, x.a⟩ S else S
theorem stepS_sg {n : Nat} {G S : List Gr} {C : List Ch} (h : Sg S G) (hq : QI n G C) (x : Ac) (hx : x.ok) : Sg (stepS S x) (stepQ G C x).2.1 := by
  unfold stepS stepQ
  by_cases h0 : x.k % 4 = 0
  · rw [if_pos h0]
    show Sg _ (grantP G x.u x.d x.a).2
    unfold grantP
    cases ho : (askB x.u x.d && x.a.okB)
    · rw [if_neg (by simp)]; exact h
    · rw [if_pos ⟨h0, rfl⟩, if_pos rfl]
      have h1 := ho
      rw [Bool.and_eq_true] at h1
      obtain ⟨h2, h3, h4⟩ := ask_parts h1.1
      exact h.put hq.gok (x := ⟨x.u, x.d, x.a⟩) ⟨by unfold maxLen; simp only; omega, wf64 (by simp only; omega) (by simp only; omega)⟩
  · rw [if_neg (fun h => h0 h.1), if_neg h0]
    split
    · exact h
    split
    · exact h
    · exact h
end

set_option maxRecDepth 100000 in
set_option maxHeartbeats 2000000 in
theorem tq_should {w0 w : World} {b mg mc g m n : Nat} {G' G S : List Gr} {C' C : List Ch} (h : Tq w0 w b mg mc g m G' S C' C) (hq : QI n G C) (hsg : Sg S G) (hn : n ≤ 1000) (x : Ac) (hx : x.ok) :
    Calls Tryz.prog 7 #[ptr g, x.v] w fun e w' => e = .returned (.int .i64 (stepQ G C x).1) ∧ Tq w0 w' b mg mc g m G' (stepS S x) C' (stepQ G C x).2.2 := by
  obtain ⟨vG, vC, hr⟩ := h.rb
  have hlC : C.length ≤ 100000 := by have := hq.lenC; omega
  have hlS : S.length ≤ 100000 := by have := hq.lenG; have := hsg.len; omega
  have hgo : ∀ e ∈ S, gok e := fun e he => hq.gok e (hsg.perm.mem_iff.1 he)
  obtain ⟨k, s, u, d, a⟩ := x
  obtain ⟨hd1, hd2⟩ := hx
  simp only at hd1 hd2
  obtain ⟨w3, hw3⟩ : ∃ w3, w3 = w.alloc (.cells #[.int .i64 k, .string s, .string u, .int .i64 d, .int .i64 a.c, .int .i64 a.r, .int .i64 a.d, .int .i64 a.p] 36) := ⟨_, rfl⟩
  obtain ⟨B, hB⟩ : ∃ B, B = w.heap.size := ⟨_, rfl⟩
  have S0 : Hid (Blk w3 B (actC k s u d a) 36) := Lib.hid (by rw [hw3, hB]; exact Blk.made w (actC k s u d a) _)
  have hbl : Below w.heap.size w w3 := by rw [hw3]; exact below_alloc w _
  have h3 := h.kept hbl
  have H3 := Lib.hid h3
  have HR3 := Lib.hid (hr.kept hbl)
  have HB3 : Hid (w0.heap.size ≤ w3.heap.size) := Lib.hid h3.hb.size
  have c0 := S0.out.cell (j := 0) rfl
  have c1 := S0.out.cell (j := 1) rfl
  have c2 := S0.out.cell (j := 2) rfl
  have c3 := S0.out.cell (j := 3) rfl
  have c4 := S0.out.cell (j := 4) rfl
  have c5 := S0.out.cell (j := 5) rfl
  have c6 := S0.out.cell (j := 6) rfl
  have c7 := S0.out.cell (j := 7) rfl
  have hq0 := Int.emod_nonneg k (show (4 : Int) ≠ 0 by omega)
  have hq4 := Int.emod_lt_of_pos k (show (0 : Int) < 4 by omega)
  have HPK := Lib.hid (pickn_any k 4 w3 (by omega) (by omega))
  obtain ⟨q, hqk⟩ : ∃ q, q = k % 4 := ⟨_, rfl⟩
  rw [← hqk] at hq0 hq4 HPK
  have HQ := Lib.hid hqk
  clear h hqk hr hbl h3
  obtain rfl | rfl | rfl | rfl : q = 0 ∨ q = 1 ∨ q = 2 ∨ q = 3 := by omega
  · have HS : Hid (stepQ G C ⟨k, s, u, d, a⟩ = ((grantP G u d a).1, (grantP G u d a).2, C) ∧ stepS S ⟨k, s, u, d, a⟩ = if (askB u d && a.okB) = true then gins ⟨u, d, a⟩ S else S) := Lib.hid (by refine ⟨by unfold stepQ; simp only; rw [if_pos HQ.out.symm], ?_⟩; unfold stepS; simp only; by_cases ho : (askB u d && a.okB) = true; rw [if_pos ⟨HQ.out.symm, ho⟩, if_pos ho]; rw [if_neg (fun h => ho h.2), if_neg ho])
    obtain ⟨r, hrr⟩ : ∃ r, r = (grantP G u d a).1 := ⟨_, rfl⟩
    have HGT : Hid (∀ w', RBk w0.heap.size w' g vG vC S C → w0.heap.size ≤ w'.heap.size → Calls Tryz.prog 14 #[ptr g, .string u, .int .i64 d, amV a] w' fun e w2 => e = .returned (.int .i64 r) ∧ RqG w0.heap.size w' w2 g vG vC (stepS S ⟨k, s, u, d, a⟩) C) := Lib.hid (fun w' h' hb' => by
      have := rgrant_any w0.heap.size g vG vC S C u d a w' h' hlS hgo hd1 hd2 hb'
      rw [HS.out.2, hrr]
      unfold grantP
      by_cases ho : (askB u d && a.okB) = true
      · simp only [if_pos ho] at this ⊢; exact this
      · simp only [if_neg ho] at this ⊢; exact this)
    have HRR := Lib.hid hrr
    clear hrr
    go_enter Tryz.func7, Tryz.ntmps7
    go_upto_region 1 with fail
    rw [← hw3, ← hB]
    clear hw3 hB
    go_wp2_with (first
      | (go_at_call 11; refine HPK.out.mono ?_; rintro e w4 ⟨rfl, rfl⟩)
      | (go_at_call 14; refine (HGT.out _ HR3.out HB3.out).mono ?_; rintro e w4 ⟨rfl, h4⟩; have H4 := Lib.hid h4; clear h4))
    go_ret
    obtain ⟨vG', h5, h6⟩ := H4.out
    refine ⟨ret_int (by rw [HS.out.1, HRR.out]), ?_⟩
    · rw [HS.out.1]
      exact H3.out.doc HR3.out h5 h6 (fun q hq => by rcases hq with h | h; exact .inl h; exact .inr (.inl h))
  · have HS : Hid (stepQ G C ⟨k, s, u, d, a⟩ = ((chargeP G C ⟨s, u, d, a⟩).1, G, (chargeP G C ⟨s, u, d, a⟩).2) ∧ stepS S ⟨k, s, u, d, a⟩ = S) := Lib.hid (by refine ⟨by unfold stepQ; simp only; rw [if_neg (by rw [← HQ.out]; decide)]; rw [if_pos HQ.out.symm], ?_⟩; unfold stepS; simp only; rw [if_neg (fun h => by have h1 := h.1; rw [← HQ.out] at h1; exact absurd h1 (by decide))])
    go_enter Tryz.func7, Tryz.ntmps7
    go_upto_region 1 with fail
    rw [← hw3, ← hB]
    clear hw3 hB
    go_wp2_with (first
      | (go_at_call 11; refine HPK.out.mono ?_; rintro e w4 ⟨rfl, rfl⟩)
      | (go_at_call 15; refine (rcharge_any w0.heap.size g n vG vC S G C ⟨s, u, d, a⟩ _ HR3.out hq hsg hlC HB3.out).mono ?_; rintro e w4 ⟨rfl, h4⟩; have H4 := Lib.hid h4; clear h4))
    go_ret
    obtain ⟨vC', h5, h6⟩ := H4.out
    refine ⟨ret_int (by rw [HS.out.1]), ?_⟩
    rw [HS.out.1, HS.out.2]
    exact H3.out.doc HR3.out h5 h6 (fun q hq => .inl hq)
  · have HS : Hid (stepQ G C ⟨k, s, u, d, a⟩ = ((refundP C s).1, G, (refundP C s).2) ∧ stepS S ⟨k, s, u, d, a⟩ = S) := Lib.hid (by refine ⟨by unfold stepQ; simp only; rw [if_neg (by rw [← HQ.out]; decide)]; rw [if_neg (by rw [← HQ.out]; decide)]; rw [if_pos HQ.out.symm], ?_⟩; unfold stepS; simp only; rw [if_neg (fun h => by have h1 := h.1; rw [← HQ.out] at h1; exact absurd h1 (by decide))])
    go_enter Tryz.func7, Tryz.ntmps7
    go_upto_region 1 with fail
    rw [← hw3, ← hB]
    clear hw3 hB
    go_wp2_with (first
      | (go_at_call 11; refine HPK.out.mono ?_; rintro e w4 ⟨rfl, rfl⟩)
      | (go_at_call 16; refine (rrefund_any w0.heap.size g vG vC S C s _ HR3.out hq.ch.rise hlC HB3.out).mono ?_; rintro e w4 ⟨rfl, h4⟩; have H4 := Lib.hid h4; clear h4))
    go_ret
    obtain ⟨vC', h5, h6⟩ := H4.out
    refine ⟨ret_int (by rw [HS.out.1]), ?_⟩
    rw [HS.out.1, HS.out.2]
    exact H3.out.doc HR3.out h5 h6 (fun q hq => .inl hq)
  · have HS : Hid (stepQ G C ⟨k, s, u, d, a⟩ = ((changeP G C s a).1, G, (changeP G C s a).2) ∧ stepS S ⟨k, s, u, d, a⟩ = S) := Lib.hid (by refine ⟨by unfold stepQ; simp only; rw [if_neg (by rw [← HQ.out]; decide)]; rw [if_neg (by rw [← HQ.out]; decide)]; rw [if_neg (by rw [← HQ.out]; decide)], ?_⟩; unfold stepS; simp only; rw [if_neg (fun h => by have h1 := h.1; rw [← HQ.out] at h1; exact absurd h1 (by decide))])
    go_enter Tryz.func7, Tryz.ntmps7
    go_upto_region 1 with fail
    rw [← hw3, ← hB]
    clear hw3 hB
    go_wp2_with (first
      | (go_at_call 11; refine HPK.out.mono ?_; rintro e w4 ⟨rfl, rfl⟩)
      | (go_at_call 17; refine (rchange_any w0.heap.size g n vG vC S G C s a _ HR3.out hq hsg hlC).mono ?_; rintro e w4 ⟨rfl, h4, h5⟩; have H4 := Lib.hid h4; have H5 := Lib.hid h5; clear h4 h5))
    go_ret
    refine ⟨ret_int (by rw [HS.out.1]), ?_⟩
    rw [HS.out.1, HS.out.2]
    exact H3.out.doc HR3.out H4.out H5.out (fun q hq => .inr (.inr hq))
end Go.Proofs.YtmgbailpmcggiaaGreat
