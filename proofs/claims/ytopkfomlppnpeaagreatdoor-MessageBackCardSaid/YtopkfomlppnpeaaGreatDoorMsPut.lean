/- MsPut. -/
import Derived.Test.YtopkfomlppnpeaaGreatDoorMsNums
import Derived.Deep.RegionHeld3
namespace Go.Proofs.YtopkfomlppnpeaaGreatDoor.Ms
open Go.RowKit Go.Proofs.YtopkfomlppnpeaaGreatDoor

theorem blk_made' {w : World} {g : Nat} {t : TypeId} (cs : List Value) (hg : g = w.heap.size) : Blk (w.alloc (.cells cs.toArray t)) g cs t := by
  subst hg
  exact Blk.made w cs t
theorem eN_one (x : Int) : eN [x] = eU x := by unfold eN; simp
theorem ft_lens {x : El} (h : Ft x) : (eT x.j).length ≤ 110 ∧ (eT x.s).length ≤ 110 ∧ (eA x.a).length ≤ 40 ∧ (eK x).length ≤ 130 ∧ (eN [x.q]).length ≤ 10 ∧ (eN [x.k]).length ≤ 10 := by
  have h1 := eT_len x.j
  have h2 := eT_len x.s
  have h3 := eA_len x.a
  have h4 := eK_len x
  have h5 := eU_len x.q
  have h6 := eU_len x.k
  have h7 := h.j
  have h8 := h.s
  rw [eN_one, eN_one]
  omega
set_option maxRecDepth 100000 in
set_option maxHeartbeats 4000000 in
theorem envE_any (v : Value) (l : List UInt8) (x : El) (w : World) (h : Rd w v l) (hl : l.length ≤ 10000000000) (hx : Ft x) : Calls Tryz.prog 32 #[v, envV x] w fun e w' => ∃ v', e = .returned v' ∧ Fresh w.heap.size w' v' (l ++ envE x) ∧ Below w.heap.size w w' := by
  have HRD := Lib.hid h
  have HX := Lib.hid hx
  have HL := Lib.hid hl
  have HLS := Lib.hid (ft_lens hx)
  clear h hx hl
  obtain ⟨X, hX⟩ : ∃ X, X = w.heap.size := ⟨_, rfl⟩
  obtain ⟨w1, hw1⟩ : ∃ w1, w1 = w.alloc (.cells #[.string (bs x.j), .int .i64 x.a.c, .int .i64 x.a.r, .int .i64 x.a.d, .int .i64 x.a.p] 66) := ⟨_, rfl⟩
  have HX1 : Hid (Blk w1 X [.string (bs x.j), .int .i64 x.a.c, .int .i64 x.a.r, .int .i64 x.a.d, .int .i64 x.a.p] 66) := Lib.hid (by rw [hw1, hX]; exact Blk.made w [.string (bs x.j), .int .i64 x.a.c, .int .i64 x.a.r, .int .i64 x.a.d, .int .i64 x.a.p] _)
  have HB1 : Hid (Below w.heap.size w w1) := Lib.hid (by rw [hw1]; exact below_alloc _ _)
  have HSS : Hid (∀ w', Below w1.heap.size w1 w' → w'.cell? ⟨X, 0, none⟩ = some (.string (bs x.j)) ∧ w'.cell? ⟨X, 1, none⟩ = some (.int .i64 x.a.c) ∧ w'.cell? ⟨X, 2, none⟩ = some (.int .i64 x.a.r) ∧ w'.cell? ⟨X, 3, none⟩ = some (.int .i64 x.a.d) ∧ w'.cell? ⟨X, 4, none⟩ = some (.int .i64 x.a.p)) := Lib.hid (fun w' hb => ⟨(HX1.out.kept hb).cell (j := 0) rfl, (HX1.out.kept hb).cell (j := 1) rfl, (HX1.out.kept hb).cell (j := 2) rfl, (HX1.out.kept hb).cell (j := 3) rfl, (HX1.out.kept hb).cell (j := 4) rfl⟩)
  have HLN0 : Hid (l.length ≤ 100000000000) := Lib.hid (by (try simp only [List.length_append]); have h1 := HL.out; have h2 := HLS.out; omega)
  have HLN1 : Hid ((l ++ eT x.j).length ≤ 100000000000) := Lib.hid (by (try simp only [List.length_append]); have h1 := HL.out; have h2 := HLS.out; omega)
  have HLN2 : Hid (((l ++ eT x.j) ++ eA x.a).length ≤ 100000000000) := Lib.hid (by (try simp only [List.length_append]); have h1 := HL.out; have h2 := HLS.out; omega)
  go_enter Tryz.func32, Tryz.ntmps32
  go_upto_region 1 with fail
  rw [← hw1, ← hX]
  clear hw1 hX
  go_region_held3 (fun w' => w'.cell? ⟨X, 0, none⟩ = some (.string (bs x.j)) ∧ w'.cell? ⟨X, 1, none⟩ = some (.int .i64 x.a.c) ∧ w'.cell? ⟨X, 2, none⟩ = some (.int .i64 x.a.r) ∧ w'.cell? ⟨X, 3, none⟩ = some (.int .i64 x.a.d) ∧ w'.cell? ⟨X, 4, none⟩ = some (.int .i64 x.a.p))
    ((refine HSS.out _ ?_ <;> (repeat (first | with_reducible exact Below.refl _ _ | with_reducible exact HB29.out | with_reducible exact HB19.out | with_reducible apply below_dr | with_reducible apply below_as))))
    (first
      | (go_at_call 33; refine (put_any v2 (l ++ eT x.j) x.a _ (HF1.out.rd.below (by repeat (first | with_reducible exact Below.refl _ _ | with_reducible apply below_dr | with_reducible apply below_as))) (by have := HLN1.out; omega) HX.out.a).mono ?_; rintro e w3 ⟨v3, rfl, hf, hb⟩; have HBT2 := Lib.hid hb; have HB29 : Hid (Below w1.heap.size w1 w3) := Lib.hid (below_and (by repeat (first | with_reducible exact Below.refl _ _ | with_reducible exact HB29.out | with_reducible exact HB19.out | with_reducible apply below_dr | with_reducible apply below_as)) hb); have HF2 : Hid (Fresh w.heap.size w3 v3 ((l ++ eT x.j) ++ eA x.a)) := Lib.hid (hf.mono (Below.size (below_and HB1.out (by repeat (first | with_reducible exact Below.refl _ _ | with_reducible exact HB29.out | with_reducible exact HB19.out | with_reducible apply below_dr | with_reducible apply below_as))))); clear hf hb)
      | (go_at_call 34; refine (text_any' v l x.j _ (HRD.out.below (below_and HB1.out (by repeat (first | with_reducible exact Below.refl _ _ | with_reducible exact HB29.out | with_reducible exact HB19.out | with_reducible apply below_dr | with_reducible apply below_as)))) (by have := HLN0.out; omega) (by have := HX.out.j; omega)).mono ?_; rintro e w2 ⟨v2, rfl, hf, hb⟩; have HBT1 := Lib.hid hb; have HB19 : Hid (Below w1.heap.size w1 w2) := Lib.hid (below_and (by repeat (first | with_reducible exact Below.refl _ _ | with_reducible exact HB29.out | with_reducible exact HB19.out | with_reducible apply below_dr | with_reducible apply below_as)) hb); have HF1 : Hid (Fresh w.heap.size w2 v2 (l ++ eT x.j)) := Lib.hid (hf.mono (Below.size (below_and HB1.out (by repeat (first | with_reducible exact Below.refl _ _ | with_reducible exact HB29.out | with_reducible exact HB19.out | with_reducible apply below_dr | with_reducible apply below_as))))); clear hf hb))
  all_goals (go_wp2; go_ret; have h9 := HF2.out; rw [show ((l ++ eT x.j) ++ eA x.a) = l ++ envE x from by unfold envE; simp [eN_one]] at h9; exact ⟨v3, rfl, h9, below_and HB1.out HB29.out⟩)
set_option maxRecDepth 100000 in
set_option maxHeartbeats 4000000 in
theorem staE_any (v : Value) (l : List UInt8) (x : El) (w : World) (h : Rd w v l) (hl : l.length ≤ 10000000000) (hx : Ft x) : Calls Tryz.prog 36 #[v, staV x] w fun e w' => ∃ v', e = .returned v' ∧ Fresh w.heap.size w' v' (l ++ staE x) ∧ Below w.heap.size w w' := by
  have HRD := Lib.hid h
  have HX := Lib.hid hx
  have HL := Lib.hid hl
  have HLS := Lib.hid (ft_lens hx)
  clear h hx hl
  obtain ⟨X, hX⟩ : ∃ X, X = w.heap.size := ⟨_, rfl⟩
  obtain ⟨w1, hw1⟩ : ∃ w1, w1 = w.alloc (.cells #[.string (bs x.j), .int .i64 x.i, .int .u64 x.n, .int .i64 x.a.c, .int .i64 x.a.r, .int .i64 x.a.d, .int .i64 x.a.p, .string (bs x.s)] 39) := ⟨_, rfl⟩
  have HX1 : Hid (Blk w1 X [.string (bs x.j), .int .i64 x.i, .int .u64 x.n, .int .i64 x.a.c, .int .i64 x.a.r, .int .i64 x.a.d, .int .i64 x.a.p, .string (bs x.s)] 39) := Lib.hid (by rw [hw1, hX]; exact Blk.made w [.string (bs x.j), .int .i64 x.i, .int .u64 x.n, .int .i64 x.a.c, .int .i64 x.a.r, .int .i64 x.a.d, .int .i64 x.a.p, .string (bs x.s)] _)
  have HB1 : Hid (Below w.heap.size w w1) := Lib.hid (by rw [hw1]; exact below_alloc _ _)
  have HSS : Hid (∀ w', Below w1.heap.size w1 w' → w'.cell? ⟨X, 0, none⟩ = some (.string (bs x.j)) ∧ w'.cell? ⟨X, 1, none⟩ = some (.int .i64 x.i) ∧ w'.cell? ⟨X, 2, none⟩ = some (.int .u64 x.n) ∧ w'.cell? ⟨X, 3, none⟩ = some (.int .i64 x.a.c) ∧ w'.cell? ⟨X, 4, none⟩ = some (.int .i64 x.a.r) ∧ w'.cell? ⟨X, 5, none⟩ = some (.int .i64 x.a.d) ∧ w'.cell? ⟨X, 6, none⟩ = some (.int .i64 x.a.p) ∧ w'.cell? ⟨X, 7, none⟩ = some (.string (bs x.s))) := Lib.hid (fun w' hb => ⟨(HX1.out.kept hb).cell (j := 0) rfl, (HX1.out.kept hb).cell (j := 1) rfl, (HX1.out.kept hb).cell (j := 2) rfl, (HX1.out.kept hb).cell (j := 3) rfl, (HX1.out.kept hb).cell (j := 4) rfl, (HX1.out.kept hb).cell (j := 5) rfl, (HX1.out.kept hb).cell (j := 6) rfl, (HX1.out.kept hb).cell (j := 7) rfl⟩)
  have HLN0 : Hid (l.length ≤ 100000000000) := Lib.hid (by (try simp only [List.length_append]); have h1 := HL.out; have h2 := HLS.out; omega)
  have HLN1 : Hid ((l ++ eK x).length ≤ 100000000000) := Lib.hid (by (try simp only [List.length_append]); have h1 := HL.out; have h2 := HLS.out; omega)
  have HLN2 : Hid (((l ++ eK x) ++ eA x.a).length ≤ 100000000000) := Lib.hid (by (try simp only [List.length_append]); have h1 := HL.out; have h2 := HLS.out; omega)
  have HLN3 : Hid ((((l ++ eK x) ++ eA x.a) ++ eT x.s).length ≤ 100000000000) := Lib.hid (by (try simp only [List.length_append]); have h1 := HL.out; have h2 := HLS.out; omega)
  go_enter Tryz.func36, Tryz.ntmps36
  go_upto_region 1 with fail
  rw [← hw1, ← hX]
  clear hw1 hX
  go_region_held3 (fun w' => w'.cell? ⟨X, 0, none⟩ = some (.string (bs x.j)) ∧ w'.cell? ⟨X, 1, none⟩ = some (.int .i64 x.i) ∧ w'.cell? ⟨X, 2, none⟩ = some (.int .u64 x.n) ∧ w'.cell? ⟨X, 3, none⟩ = some (.int .i64 x.a.c) ∧ w'.cell? ⟨X, 4, none⟩ = some (.int .i64 x.a.r) ∧ w'.cell? ⟨X, 5, none⟩ = some (.int .i64 x.a.d) ∧ w'.cell? ⟨X, 6, none⟩ = some (.int .i64 x.a.p) ∧ w'.cell? ⟨X, 7, none⟩ = some (.string (bs x.s)))
    ((refine HSS.out _ ?_ <;> (repeat (first | with_reducible exact Below.refl _ _ | with_reducible exact HB39.out | with_reducible exact HB29.out | with_reducible exact HB19.out | with_reducible apply below_dr | with_reducible apply below_as))))
    (first
      | (go_at_call 34; refine (text_any' v3 ((l ++ eK x) ++ eA x.a) x.s _ (HF2.out.rd.below (by repeat (first | with_reducible exact Below.refl _ _ | with_reducible apply below_dr | with_reducible apply below_as))) (by have := HLN2.out; omega) (by have := HX.out.s; omega)).mono ?_; rintro e w4 ⟨v4, rfl, hf, hb⟩; have HBT3 := Lib.hid hb; have HB39 : Hid (Below w1.heap.size w1 w4) := Lib.hid (below_and (by repeat (first | with_reducible exact Below.refl _ _ | with_reducible exact HB39.out | with_reducible exact HB29.out | with_reducible exact HB19.out | with_reducible apply below_dr | with_reducible apply below_as)) hb); have HF3 : Hid (Fresh w.heap.size w4 v4 (((l ++ eK x) ++ eA x.a) ++ eT x.s)) := Lib.hid (hf.mono (Below.size (below_and HB1.out (by repeat (first | with_reducible exact Below.refl _ _ | with_reducible exact HB39.out | with_reducible exact HB29.out | with_reducible exact HB19.out | with_reducible apply below_dr | with_reducible apply below_as))))); clear hf hb)
      | (go_at_call 33; refine (put_any v2 (l ++ eK x) x.a _ (HF1.out.rd.below (by repeat (first | with_reducible exact Below.refl _ _ | with_reducible apply below_dr | with_reducible apply below_as))) (by have := HLN1.out; omega) HX.out.a).mono ?_; rintro e w3 ⟨v3, rfl, hf, hb⟩; have HBT2 := Lib.hid hb; have HB29 : Hid (Below w1.heap.size w1 w3) := Lib.hid (below_and (by repeat (first | with_reducible exact Below.refl _ _ | with_reducible exact HB39.out | with_reducible exact HB29.out | with_reducible exact HB19.out | with_reducible apply below_dr | with_reducible apply below_as)) hb); have HF2 : Hid (Fresh w.heap.size w3 v3 ((l ++ eK x) ++ eA x.a)) := Lib.hid (hf.mono (Below.size (below_and HB1.out (by repeat (first | with_reducible exact Below.refl _ _ | with_reducible exact HB39.out | with_reducible exact HB29.out | with_reducible exact HB19.out | with_reducible apply below_dr | with_reducible apply below_as))))); clear hf hb)
      | (go_at_call 37; refine (task_any' v l x _ (HRD.out.below (below_and HB1.out (by repeat (first | with_reducible exact Below.refl _ _ | with_reducible exact HB39.out | with_reducible exact HB29.out | with_reducible exact HB19.out | with_reducible apply below_dr | with_reducible apply below_as)))) (by have := HLN0.out; omega) HX.out).mono ?_; rintro e w2 ⟨v2, rfl, hf, hb⟩; have HBT1 := Lib.hid hb; have HB19 : Hid (Below w1.heap.size w1 w2) := Lib.hid (below_and (by repeat (first | with_reducible exact Below.refl _ _ | with_reducible exact HB39.out | with_reducible exact HB29.out | with_reducible exact HB19.out | with_reducible apply below_dr | with_reducible apply below_as)) hb); have HF1 : Hid (Fresh w.heap.size w2 v2 (l ++ eK x)) := Lib.hid (hf.mono (Below.size (below_and HB1.out (by repeat (first | with_reducible exact Below.refl _ _ | with_reducible exact HB39.out | with_reducible exact HB29.out | with_reducible exact HB19.out | with_reducible apply below_dr | with_reducible apply below_as))))); clear hf hb))
  all_goals (go_wp2; go_ret; have h9 := HF3.out; rw [show (((l ++ eK x) ++ eA x.a) ++ eT x.s) = l ++ staE x from by unfold staE; simp [eN_one]] at h9; exact ⟨v4, rfl, h9, below_and HB1.out HB39.out⟩)
set_option maxRecDepth 100000 in
set_option maxHeartbeats 4000000 in
theorem stoE_any (v : Value) (l : List UInt8) (x : El) (w : World) (h : Rd w v l) (hl : l.length ≤ 10000000000) (hx : Ft x) : Calls Tryz.prog 39 #[v, stoV x] w fun e w' => ∃ v', e = .returned v' ∧ Fresh w.heap.size w' v' (l ++ stoE x) ∧ Below w.heap.size w w' := by
  have HRD := Lib.hid h
  have HX := Lib.hid hx
  have HL := Lib.hid hl
  have HLS := Lib.hid (ft_lens hx)
  clear h hx hl
  obtain ⟨X, hX⟩ : ∃ X, X = w.heap.size := ⟨_, rfl⟩
  obtain ⟨w1, hw1⟩ : ∃ w1, w1 = w.alloc (.cells #[.string (bs x.j), .int .i64 x.i, .int .u64 x.n] 75) := ⟨_, rfl⟩
  have HX1 : Hid (Blk w1 X [.string (bs x.j), .int .i64 x.i, .int .u64 x.n] 75) := Lib.hid (by rw [hw1, hX]; exact Blk.made w [.string (bs x.j), .int .i64 x.i, .int .u64 x.n] _)
  have HB1 : Hid (Below w.heap.size w w1) := Lib.hid (by rw [hw1]; exact below_alloc _ _)
  have HSS : Hid (∀ w', Below w1.heap.size w1 w' → w'.cell? ⟨X, 0, none⟩ = some (.string (bs x.j)) ∧ w'.cell? ⟨X, 1, none⟩ = some (.int .i64 x.i) ∧ w'.cell? ⟨X, 2, none⟩ = some (.int .u64 x.n)) := Lib.hid (fun w' hb => ⟨(HX1.out.kept hb).cell (j := 0) rfl, (HX1.out.kept hb).cell (j := 1) rfl, (HX1.out.kept hb).cell (j := 2) rfl⟩)
  have HLN0 : Hid (l.length ≤ 100000000000) := Lib.hid (by (try simp only [List.length_append]); have h1 := HL.out; have h2 := HLS.out; omega)
  have HLN1 : Hid ((l ++ eK x).length ≤ 100000000000) := Lib.hid (by (try simp only [List.length_append]); have h1 := HL.out; have h2 := HLS.out; omega)
  go_enter Tryz.func39, Tryz.ntmps39
  go_upto_region 1 with fail
  rw [← hw1, ← hX]
  clear hw1 hX
  have x0 := HX1.out.cell (j := 0) rfl
  have x1 := HX1.out.cell (j := 1) rfl
  have x2 := HX1.out.cell (j := 2) rfl
  go_wp2_with (go_at_call 37; refine (task_any' v l x _ (HRD.out.below (below_and HB1.out (by repeat (first | with_reducible exact Below.refl _ _ | with_reducible exact HB19.out | with_reducible apply below_dr | with_reducible apply below_as)))) (by have := HLN0.out; omega) HX.out).mono ?_; rintro e w2 ⟨v2, rfl, hf, hb⟩; have HBT1 := Lib.hid hb; have HB19 : Hid (Below w1.heap.size w1 w2) := Lib.hid (below_and (by repeat (first | with_reducible exact Below.refl _ _ | with_reducible exact HB19.out | with_reducible apply below_dr | with_reducible apply below_as)) hb); have HF1 : Hid (Fresh w.heap.size w2 v2 (l ++ eK x)) := Lib.hid (hf.mono (Below.size (below_and HB1.out (by repeat (first | with_reducible exact Below.refl _ _ | with_reducible exact HB19.out | with_reducible apply below_dr | with_reducible apply below_as))))); clear hf hb)
  go_ret
  exact ⟨v2, rfl, HF1.out, below_and HB1.out HB19.out⟩
set_option maxRecDepth 100000 in
set_option maxHeartbeats 4000000 in
theorem helE_any (v : Value) (l : List UInt8) (x : El) (w : World) (h : Rd w v l) (hl : l.length ≤ 10000000000) (hx : Ft x) : Calls Tryz.prog 83 #[v, helV x] w fun e w' => ∃ v', e = .returned v' ∧ Fresh w.heap.size w' v' (l ++ helE x) ∧ Below w.heap.size w w' := by
  have HRD := Lib.hid h
  have HX := Lib.hid hx
  have HL := Lib.hid hl
  have HLS := Lib.hid (ft_lens hx)
  clear h hx hl
  obtain ⟨X, hX⟩ : ∃ X, X = w.heap.size := ⟨_, rfl⟩
  obtain ⟨w1, hw1⟩ : ∃ w1, w1 = w.alloc (.cells #[.string (bs x.j), .int .i64 x.i, .int .u64 x.n, .int .i64 x.q] 88) := ⟨_, rfl⟩
  have HX1 : Hid (Blk w1 X [.string (bs x.j), .int .i64 x.i, .int .u64 x.n, .int .i64 x.q] 88) := Lib.hid (by rw [hw1, hX]; exact Blk.made w [.string (bs x.j), .int .i64 x.i, .int .u64 x.n, .int .i64 x.q] _)
  have HB1 : Hid (Below w.heap.size w w1) := Lib.hid (by rw [hw1]; exact below_alloc _ _)
  have HSS : Hid (∀ w', Below w1.heap.size w1 w' → w'.cell? ⟨X, 0, none⟩ = some (.string (bs x.j)) ∧ w'.cell? ⟨X, 1, none⟩ = some (.int .i64 x.i) ∧ w'.cell? ⟨X, 2, none⟩ = some (.int .u64 x.n) ∧ w'.cell? ⟨X, 3, none⟩ = some (.int .i64 x.q)) := Lib.hid (fun w' hb => ⟨(HX1.out.kept hb).cell (j := 0) rfl, (HX1.out.kept hb).cell (j := 1) rfl, (HX1.out.kept hb).cell (j := 2) rfl, (HX1.out.kept hb).cell (j := 3) rfl⟩)
  have HLN0 : Hid (l.length ≤ 100000000000) := Lib.hid (by (try simp only [List.length_append]); have h1 := HL.out; have h2 := HLS.out; omega)
  have HLN1 : Hid ((l ++ eK x).length ≤ 100000000000) := Lib.hid (by (try simp only [List.length_append]); have h1 := HL.out; have h2 := HLS.out; omega)
  have HLN2 : Hid (((l ++ eK x) ++ eN [x.q]).length ≤ 100000000000) := Lib.hid (by (try simp only [List.length_append]); have h1 := HL.out; have h2 := HLS.out; omega)
  have HIq : Hid (∀ z ∈ [x.q], 0 ≤ z ∧ z < 18446744073709551616) := Lib.hid (fun z hz => by (simp at hz; subst hz; have := HX.out.q; omega))
  have e6 : x.q % 18446744073709551616 = x.q := by have := HX.out.q; omega
  have e7 : IntKind.u64.wrap x.q = x.q := by have := HX.out.q; rw [IntKind.wrap_u64]; omega
  go_enter Tryz.func83, Tryz.ntmps83
  go_upto_region 1 with fail
  rw [← hw1, ← hX]
  clear hw1 hX
  go_region_held3 (fun w' => w'.cell? ⟨X, 0, none⟩ = some (.string (bs x.j)) ∧ w'.cell? ⟨X, 1, none⟩ = some (.int .i64 x.i) ∧ w'.cell? ⟨X, 2, none⟩ = some (.int .u64 x.n) ∧ w'.cell? ⟨X, 3, none⟩ = some (.int .i64 x.q))
    ((refine HSS.out _ ?_ <;> (repeat (first | with_reducible exact Below.refl _ _ | with_reducible exact HB29.out | with_reducible exact HB19.out | with_reducible apply below_dr | with_reducible apply below_as))))
    (first
      | (go_at_call 29; refine (nums_any v2 (l ++ eK x) [x.q] 1 _ _ (HF1.out.rd.below (by repeat (first | with_reducible exact Below.refl _ _ | with_reducible apply below_dr | with_reducible apply below_as))) (by have := HLN1.out; omega) (show Blk _ _ [.int .u64 x.q] _ from by repeat (first | with_reducible exact Blk.made _ [.int .u64 x.q] _ | (with_reducible refine blk_made' [.int .u64 x.q] ?_; simp; done) | with_reducible apply blk_dr | with_reducible refine Blk.alloc ?_ _ | with_reducible refine Blk.kept ?_ HBT2.out | with_reducible refine Blk.kept ?_ HBT1.out)) rfl (by omega) (by omega) HIq.out).mono ?_; rintro e w3 ⟨v3, rfl, hf, hb⟩; have HBT2 := Lib.hid hb; have HB29 : Hid (Below w1.heap.size w1 w3) := Lib.hid (below_and (by repeat (first | with_reducible exact Below.refl _ _ | with_reducible exact HB29.out | with_reducible exact HB19.out | with_reducible apply below_dr | with_reducible apply below_as)) hb); have HF2 : Hid (Fresh w.heap.size w3 v3 ((l ++ eK x) ++ eN [x.q])) := Lib.hid (hf.mono (Below.size (below_and HB1.out (by repeat (first | with_reducible exact Below.refl _ _ | with_reducible exact HB29.out | with_reducible exact HB19.out | with_reducible apply below_dr | with_reducible apply below_as))))); clear hf hb)
      | (go_at_call 37; refine (task_any' v l x _ (HRD.out.below (below_and HB1.out (by repeat (first | with_reducible exact Below.refl _ _ | with_reducible exact HB29.out | with_reducible exact HB19.out | with_reducible apply below_dr | with_reducible apply below_as)))) (by have := HLN0.out; omega) HX.out).mono ?_; rintro e w2 ⟨v2, rfl, hf, hb⟩; have HBT1 := Lib.hid hb; have HB19 : Hid (Below w1.heap.size w1 w2) := Lib.hid (below_and (by repeat (first | with_reducible exact Below.refl _ _ | with_reducible exact HB29.out | with_reducible exact HB19.out | with_reducible apply below_dr | with_reducible apply below_as)) hb); have HF1 : Hid (Fresh w.heap.size w2 v2 (l ++ eK x)) := Lib.hid (hf.mono (Below.size (below_and HB1.out (by repeat (first | with_reducible exact Below.refl _ _ | with_reducible exact HB29.out | with_reducible exact HB19.out | with_reducible apply below_dr | with_reducible apply below_as))))); clear hf hb))
  all_goals (go_wp2; go_ret; have h9 := HF2.out; rw [show ((l ++ eK x) ++ eN [x.q]) = l ++ helE x from by unfold helE; simp [eN_one]] at h9; exact ⟨v3, rfl, h9, below_and HB1.out HB29.out⟩)
set_option maxRecDepth 100000 in
set_option maxHeartbeats 4000000 in
theorem finE_any (v : Value) (l : List UInt8) (x : El) (w : World) (h : Rd w v l) (hl : l.length ≤ 10000000000) (hx : Ft x) : Calls Tryz.prog 85 #[v, finV x] w fun e w' => ∃ v', e = .returned v' ∧ Fresh w.heap.size w' v' (l ++ finE x) ∧ Below w.heap.size w w' := by
  have HRD := Lib.hid h
  have HX := Lib.hid hx
  have HL := Lib.hid hl
  have HLS := Lib.hid (ft_lens hx)
  clear h hx hl
  obtain ⟨X, hX⟩ : ∃ X, X = w.heap.size := ⟨_, rfl⟩
  obtain ⟨w1, hw1⟩ : ∃ w1, w1 = w.alloc (.cells #[.int .u64 x.k, .string (bs x.j), .int .i64 x.i, .int .u64 x.n, .int .i64 x.q] 95) := ⟨_, rfl⟩
  have HX1 : Hid (Blk w1 X [.int .u64 x.k, .string (bs x.j), .int .i64 x.i, .int .u64 x.n, .int .i64 x.q] 95) := Lib.hid (by rw [hw1, hX]; exact Blk.made w [.int .u64 x.k, .string (bs x.j), .int .i64 x.i, .int .u64 x.n, .int .i64 x.q] _)
  have HB1 : Hid (Below w.heap.size w w1) := Lib.hid (by rw [hw1]; exact below_alloc _ _)
  have HSS : Hid (∀ w', Below w1.heap.size w1 w' → w'.cell? ⟨X, 0, none⟩ = some (.int .u64 x.k) ∧ w'.cell? ⟨X, 1, none⟩ = some (.string (bs x.j)) ∧ w'.cell? ⟨X, 2, none⟩ = some (.int .i64 x.i) ∧ w'.cell? ⟨X, 3, none⟩ = some (.int .u64 x.n) ∧ w'.cell? ⟨X, 4, none⟩ = some (.int .i64 x.q)) := Lib.hid (fun w' hb => ⟨(HX1.out.kept hb).cell (j := 0) rfl, (HX1.out.kept hb).cell (j := 1) rfl, (HX1.out.kept hb).cell (j := 2) rfl, (HX1.out.kept hb).cell (j := 3) rfl, (HX1.out.kept hb).cell (j := 4) rfl⟩)
  have HLN0 : Hid (l.length ≤ 100000000000) := Lib.hid (by (try simp only [List.length_append]); have h1 := HL.out; have h2 := HLS.out; omega)
  have HLN1 : Hid ((l ++ eN [x.k]).length ≤ 100000000000) := Lib.hid (by (try simp only [List.length_append]); have h1 := HL.out; have h2 := HLS.out; omega)
  have HLN2 : Hid (((l ++ eN [x.k]) ++ eK x).length ≤ 100000000000) := Lib.hid (by (try simp only [List.length_append]); have h1 := HL.out; have h2 := HLS.out; omega)
  have HLN3 : Hid ((((l ++ eN [x.k]) ++ eK x) ++ eN [x.q]).length ≤ 100000000000) := Lib.hid (by (try simp only [List.length_append]); have h1 := HL.out; have h2 := HLS.out; omega)
  have HIq : Hid (∀ z ∈ [x.q], 0 ≤ z ∧ z < 18446744073709551616) := Lib.hid (fun z hz => by (simp at hz; subst hz; have := HX.out.q; omega))
  have e6 : x.q % 18446744073709551616 = x.q := by have := HX.out.q; omega
  have e7 : IntKind.u64.wrap x.q = x.q := by have := HX.out.q; rw [IntKind.wrap_u64]; omega
  have HIk : Hid (∀ z ∈ [x.k], 0 ≤ z ∧ z < 18446744073709551616) := Lib.hid (fun z hz => by (simp at hz; subst hz; exact HX.out.k))
  go_enter Tryz.func85, Tryz.ntmps85
  go_upto_region 1 with fail
  rw [← hw1, ← hX]
  clear hw1 hX
  go_region_held3 (fun w' => w'.cell? ⟨X, 0, none⟩ = some (.int .u64 x.k) ∧ w'.cell? ⟨X, 1, none⟩ = some (.string (bs x.j)) ∧ w'.cell? ⟨X, 2, none⟩ = some (.int .i64 x.i) ∧ w'.cell? ⟨X, 3, none⟩ = some (.int .u64 x.n) ∧ w'.cell? ⟨X, 4, none⟩ = some (.int .i64 x.q))
    ((refine HSS.out _ ?_ <;> (repeat (first | with_reducible exact Below.refl _ _ | with_reducible exact HB39.out | with_reducible exact HB29.out | with_reducible exact HB19.out | with_reducible apply below_dr | with_reducible apply below_as))))
    (first
      | (go_at_call 29; refine (nums_any v3 ((l ++ eN [x.k]) ++ eK x) [x.q] 1 _ _ (HF2.out.rd.below (by repeat (first | with_reducible exact Below.refl _ _ | with_reducible apply below_dr | with_reducible apply below_as))) (by have := HLN2.out; omega) (show Blk _ _ [.int .u64 x.q] _ from by repeat (first | with_reducible exact Blk.made _ [.int .u64 x.q] _ | (with_reducible refine blk_made' [.int .u64 x.q] ?_; simp; done) | with_reducible apply blk_dr | with_reducible refine Blk.alloc ?_ _ | with_reducible refine Blk.kept ?_ HBT3.out | with_reducible refine Blk.kept ?_ HBT2.out | with_reducible refine Blk.kept ?_ HBT1.out)) rfl (by omega) (by omega) HIq.out).mono ?_; rintro e w4 ⟨v4, rfl, hf, hb⟩; have HBT3 := Lib.hid hb; have HB39 : Hid (Below w1.heap.size w1 w4) := Lib.hid (below_and (by repeat (first | with_reducible exact Below.refl _ _ | with_reducible exact HB39.out | with_reducible exact HB29.out | with_reducible exact HB19.out | with_reducible apply below_dr | with_reducible apply below_as)) hb); have HF3 : Hid (Fresh w.heap.size w4 v4 (((l ++ eN [x.k]) ++ eK x) ++ eN [x.q])) := Lib.hid (hf.mono (Below.size (below_and HB1.out (by repeat (first | with_reducible exact Below.refl _ _ | with_reducible exact HB39.out | with_reducible exact HB29.out | with_reducible exact HB19.out | with_reducible apply below_dr | with_reducible apply below_as))))); clear hf hb)
      | (go_at_call 37; refine (task_any' v2 (l ++ eN [x.k]) x _ (HF1.out.rd.below (by repeat (first | with_reducible exact Below.refl _ _ | with_reducible apply below_dr | with_reducible apply below_as))) (by have := HLN1.out; omega) HX.out).mono ?_; rintro e w3 ⟨v3, rfl, hf, hb⟩; have HBT2 := Lib.hid hb; have HB29 : Hid (Below w1.heap.size w1 w3) := Lib.hid (below_and (by repeat (first | with_reducible exact Below.refl _ _ | with_reducible exact HB39.out | with_reducible exact HB29.out | with_reducible exact HB19.out | with_reducible apply below_dr | with_reducible apply below_as)) hb); have HF2 : Hid (Fresh w.heap.size w3 v3 ((l ++ eN [x.k]) ++ eK x)) := Lib.hid (hf.mono (Below.size (below_and HB1.out (by repeat (first | with_reducible exact Below.refl _ _ | with_reducible exact HB39.out | with_reducible exact HB29.out | with_reducible exact HB19.out | with_reducible apply below_dr | with_reducible apply below_as))))); clear hf hb)
      | (go_at_call 29; refine (nums_any v l [x.k] 1 _ _ (HRD.out.below (below_and HB1.out (by repeat (first | with_reducible exact Below.refl _ _ | with_reducible exact HB39.out | with_reducible exact HB29.out | with_reducible exact HB19.out | with_reducible apply below_dr | with_reducible apply below_as)))) (by have := HLN0.out; omega) (show Blk _ _ [.int .u64 x.k] _ from by repeat (first | with_reducible exact Blk.made _ [.int .u64 x.k] _ | (with_reducible refine blk_made' [.int .u64 x.k] ?_; simp; done) | with_reducible apply blk_dr | with_reducible refine Blk.alloc ?_ _ | with_reducible refine Blk.kept ?_ HBT3.out | with_reducible refine Blk.kept ?_ HBT2.out | with_reducible refine Blk.kept ?_ HBT1.out)) rfl (by omega) (by omega) HIk.out).mono ?_; rintro e w2 ⟨v2, rfl, hf, hb⟩; have HBT1 := Lib.hid hb; have HB19 : Hid (Below w1.heap.size w1 w2) := Lib.hid (below_and (by repeat (first | with_reducible exact Below.refl _ _ | with_reducible exact HB39.out | with_reducible exact HB29.out | with_reducible exact HB19.out | with_reducible apply below_dr | with_reducible apply below_as)) hb); have HF1 : Hid (Fresh w.heap.size w2 v2 (l ++ eN [x.k])) := Lib.hid (hf.mono (Below.size (below_and HB1.out (by repeat (first | with_reducible exact Below.refl _ _ | with_reducible exact HB39.out | with_reducible exact HB29.out | with_reducible exact HB19.out | with_reducible apply below_dr | with_reducible apply below_as))))); clear hf hb))
  all_goals (go_wp2; go_ret; have h9 := HF3.out; rw [show (((l ++ eN [x.k]) ++ eK x) ++ eN [x.q]) = l ++ finE x from by unfold finE; simp [eN_one]] at h9; exact ⟨v4, rfl, h9, below_and HB1.out HB39.out⟩)
set_option maxRecDepth 100000 in
set_option maxHeartbeats 4000000 in
theorem refE_any (v : Value) (l : List UInt8) (x : El) (w : World) (h : Rd w v l) (hl : l.length ≤ 10000000000) (hx : Ft x) : Calls Tryz.prog 87 #[v, refV x] w fun e w' => ∃ v', e = .returned v' ∧ Fresh w.heap.size w' v' (l ++ refE x) ∧ Below w.heap.size w w' := by
  have HRD := Lib.hid h
  have HX := Lib.hid hx
  have HL := Lib.hid hl
  have HLS := Lib.hid (ft_lens hx)
  clear h hx hl
  obtain ⟨X, hX⟩ : ∃ X, X = w.heap.size := ⟨_, rfl⟩
  obtain ⟨w1, hw1⟩ : ∃ w1, w1 = w.alloc (.cells #[.string (bs x.j), .int .i64 x.i, .int .u64 x.n, .int .i64 x.q] 99) := ⟨_, rfl⟩
  have HX1 : Hid (Blk w1 X [.string (bs x.j), .int .i64 x.i, .int .u64 x.n, .int .i64 x.q] 99) := Lib.hid (by rw [hw1, hX]; exact Blk.made w [.string (bs x.j), .int .i64 x.i, .int .u64 x.n, .int .i64 x.q] _)
  have HB1 : Hid (Below w.heap.size w w1) := Lib.hid (by rw [hw1]; exact below_alloc _ _)
  have HSS : Hid (∀ w', Below w1.heap.size w1 w' → w'.cell? ⟨X, 0, none⟩ = some (.string (bs x.j)) ∧ w'.cell? ⟨X, 1, none⟩ = some (.int .i64 x.i) ∧ w'.cell? ⟨X, 2, none⟩ = some (.int .u64 x.n) ∧ w'.cell? ⟨X, 3, none⟩ = some (.int .i64 x.q)) := Lib.hid (fun w' hb => ⟨(HX1.out.kept hb).cell (j := 0) rfl, (HX1.out.kept hb).cell (j := 1) rfl, (HX1.out.kept hb).cell (j := 2) rfl, (HX1.out.kept hb).cell (j := 3) rfl⟩)
  have HLN0 : Hid (l.length ≤ 100000000000) := Lib.hid (by (try simp only [List.length_append]); have h1 := HL.out; have h2 := HLS.out; omega)
  have HLN1 : Hid ((l ++ eK x).length ≤ 100000000000) := Lib.hid (by (try simp only [List.length_append]); have h1 := HL.out; have h2 := HLS.out; omega)
  have HLN2 : Hid (((l ++ eK x) ++ eN [x.q]).length ≤ 100000000000) := Lib.hid (by (try simp only [List.length_append]); have h1 := HL.out; have h2 := HLS.out; omega)
  have HIq : Hid (∀ z ∈ [x.q], 0 ≤ z ∧ z < 18446744073709551616) := Lib.hid (fun z hz => by (simp at hz; subst hz; have := HX.out.q; omega))
  have e6 : x.q % 18446744073709551616 = x.q := by have := HX.out.q; omega
  have e7 : IntKind.u64.wrap x.q = x.q := by have := HX.out.q; rw [IntKind.wrap_u64]; omega
  go_enter Tryz.func87, Tryz.ntmps87
  go_upto_region 1 with fail
  rw [← hw1, ← hX]
  clear hw1 hX
  go_region_held3 (fun w' => w'.cell? ⟨X, 0, none⟩ = some (.string (bs x.j)) ∧ w'.cell? ⟨X, 1, none⟩ = some (.int .i64 x.i) ∧ w'.cell? ⟨X, 2, none⟩ = some (.int .u64 x.n) ∧ w'.cell? ⟨X, 3, none⟩ = some (.int .i64 x.q))
    ((refine HSS.out _ ?_ <;> (repeat (first | with_reducible exact Below.refl _ _ | with_reducible exact HB29.out | with_reducible exact HB19.out | with_reducible apply below_dr | with_reducible apply below_as))))
    (first
      | (go_at_call 29; refine (nums_any v2 (l ++ eK x) [x.q] 1 _ _ (HF1.out.rd.below (by repeat (first | with_reducible exact Below.refl _ _ | with_reducible apply below_dr | with_reducible apply below_as))) (by have := HLN1.out; omega) (show Blk _ _ [.int .u64 x.q] _ from by repeat (first | with_reducible exact Blk.made _ [.int .u64 x.q] _ | (with_reducible refine blk_made' [.int .u64 x.q] ?_; simp; done) | with_reducible apply blk_dr | with_reducible refine Blk.alloc ?_ _ | with_reducible refine Blk.kept ?_ HBT2.out | with_reducible refine Blk.kept ?_ HBT1.out)) rfl (by omega) (by omega) HIq.out).mono ?_; rintro e w3 ⟨v3, rfl, hf, hb⟩; have HBT2 := Lib.hid hb; have HB29 : Hid (Below w1.heap.size w1 w3) := Lib.hid (below_and (by repeat (first | with_reducible exact Below.refl _ _ | with_reducible exact HB29.out | with_reducible exact HB19.out | with_reducible apply below_dr | with_reducible apply below_as)) hb); have HF2 : Hid (Fresh w.heap.size w3 v3 ((l ++ eK x) ++ eN [x.q])) := Lib.hid (hf.mono (Below.size (below_and HB1.out (by repeat (first | with_reducible exact Below.refl _ _ | with_reducible exact HB29.out | with_reducible exact HB19.out | with_reducible apply below_dr | with_reducible apply below_as))))); clear hf hb)
      | (go_at_call 37; refine (task_any' v l x _ (HRD.out.below (below_and HB1.out (by repeat (first | with_reducible exact Below.refl _ _ | with_reducible exact HB29.out | with_reducible exact HB19.out | with_reducible apply below_dr | with_reducible apply below_as)))) (by have := HLN0.out; omega) HX.out).mono ?_; rintro e w2 ⟨v2, rfl, hf, hb⟩; have HBT1 := Lib.hid hb; have HB19 : Hid (Below w1.heap.size w1 w2) := Lib.hid (below_and (by repeat (first | with_reducible exact Below.refl _ _ | with_reducible exact HB29.out | with_reducible exact HB19.out | with_reducible apply below_dr | with_reducible apply below_as)) hb); have HF1 : Hid (Fresh w.heap.size w2 v2 (l ++ eK x)) := Lib.hid (hf.mono (Below.size (below_and HB1.out (by repeat (first | with_reducible exact Below.refl _ _ | with_reducible exact HB29.out | with_reducible exact HB19.out | with_reducible apply below_dr | with_reducible apply below_as))))); clear hf hb))
  all_goals (go_wp2; go_ret; have h9 := HF2.out; rw [show ((l ++ eK x) ++ eN [x.q]) = l ++ refE x from by unfold refE; simp [eN_one]] at h9; exact ⟨v3, rfl, h9, below_and HB1.out HB29.out⟩)
end Go.Proofs.YtopkfomlppnpeaaGreatDoor.Ms
