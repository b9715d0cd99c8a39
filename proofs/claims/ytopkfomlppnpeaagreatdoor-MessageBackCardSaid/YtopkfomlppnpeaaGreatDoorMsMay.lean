/- MsMay. -/
import Derived.Test.YtopkfomlppnpeaaGreatDoorMsCmp
namespace Go.Proofs.YtopkfomlppnpeaaGreatDoor.Ms
open Go.RowKit Go.Proofs.YtopkfomlppnpeaaGreatDoor

theorem chk_eq (a : Am) : (a.chk == 0) = a.okB := by unfold Am.chk; cases a.okB <;> rfl
theorem am_neq (x y : Am) (w : World) : (binOp .neq 37 (amV x) (amV y)).run Tryz.prog w = .ok (.bool (!(decide (x = y)))) w := by
  go_simp
  obtain ⟨a, b, c, d⟩ := x
  obtain ⟨a', b', c', d'⟩ := y
  simp only [Am.mk.injEq]
  by_cases h1 : a = a'
  · rw [if_pos h1]
    by_cases h2 : b = b'
    · rw [if_pos h2]
      by_cases h3 : c = c'
      · rw [if_pos h3]
        by_cases h4 : d = d'
        · rw [if_pos h4, decide_eq_true ⟨h1, h2, h3, h4⟩]; rfl
        · rw [if_neg h4, decide_eq_false (fun h => h4 h.2.2.2)]; rfl
      · rw [if_neg h3, decide_eq_false (fun h => h3 h.2.2.1)]; rfl
    · rw [if_neg h2, decide_eq_false (fun h => h2 h.2.1)]; rfl
  · rw [if_neg h1, decide_eq_false (fun h => h1 h.1)]; rfl
theorem nil_bs (l : List UInt8) : ((bs l).toList == (⟨#[]⟩ : ByteArray).toList) = (l == []) := by
  have := beq_bs l []
  exact this
set_option maxRecDepth 100000 in
set_option maxHeartbeats 2000000 in
theorem envM_any (x : El) (w : World) (ht : TxOk x) (hE : ErrV w) : Calls Tryz.prog 56 #[envV x] w fun e w' => e = .returned (.bool (envM x)) ∧ Below w.heap.size w w' := by
  obtain ⟨r, hr⟩ : ∃ r, r = envM x := ⟨_, rfl⟩
  rw [← hr]
  have HR := Lib.hid hr
  clear hr
  obtain ⟨X, hX⟩ : ∃ X, X = w.heap.size := ⟨_, rfl⟩
  obtain ⟨w1, hw1⟩ : ∃ w1, w1 = w.alloc (.cells #[.string (bs x.j), .int .i64 x.a.c, .int .i64 x.a.r, .int .i64 x.a.d, .int .i64 x.a.p] 66) := ⟨_, rfl⟩
  have HX1 : Hid (Blk w1 X [.string (bs x.j), .int .i64 x.a.c, .int .i64 x.a.r, .int .i64 x.a.d, .int .i64 x.a.p] 66) := Lib.hid (by rw [hw1, hX]; exact Blk.made w [.string (bs x.j), .int .i64 x.a.c, .int .i64 x.a.r, .int .i64 x.a.d, .int .i64 x.a.p] _)
  have HB1 : Hid (Below w.heap.size w w1) := Lib.hid (by rw [hw1]; exact below_alloc _ _)
  have HJ := Lib.hid ht.j
  have HS := Lib.hid ht.s
  clear ht
  have HE := Lib.hid hE
  clear hE
  obtain ⟨tn, htn⟩ : ∃ tn, tn = (tnB x.j) := ⟨_, rfl⟩
  have CTN : Hid (∀ w', Below w.heap.size w w' → Calls Tryz.prog 57 #[.string (bs x.j)] w' fun e w2 => e = .returned (.bool tn) ∧ Below w'.heap.size w' w2) := Lib.hid (fun w' hb => by rw [htn]; exact isName_any _ _ HJ.out (HE.out.below hb))
  have Etn := Lib.hid htn
  clear htn
  obtain ⟨ok, hok⟩ : ∃ ok, ok = (x.a.okB) := ⟨_, rfl⟩
  obtain ⟨er, her⟩ : ∃ er, er = x.a.chk := ⟨_, rfl⟩
  have CCK : Hid (∀ w', Calls Tryz.prog 58 #[amV x.a] w' fun e w2 => e = .returned (.int .i64 er) ∧ Below w'.heap.size w' w2) := Lib.hid (fun w' => by rw [her]; exact check_any _ _)
  have tok : (er == 0) = ok := by rw [her, hok]; exact chk_eq _
  clear her
  have Eok := Lib.hid hok
  clear hok
  go_enter Tryz.func56, Tryz.ntmps56
  go_upto_region 1 with fail
  rw [← hw1, ← hX]
  clear hw1 hX
  have c0 := HX1.out.cell (j := 0) rfl
  have c1 := HX1.out.cell (j := 1) rfl
  have c2 := HX1.out.cell (j := 2) rfl
  have c3 := HX1.out.cell (j := 3) rfl
  have c4 := HX1.out.cell (j := 4) rfl
  cases tn
  · have HQ : Hid (r = false) := Lib.hid (by rw [HR.out]; unfold envM; have etn := Etn.out; rw [← etn]; first | rfl | simp)
    go_wp2_with (first | (go_at_call 57; refine (CTN.out _ HB1.out).mono ?_; rintro e w2 ⟨rfl, hb⟩; have HX2 := Lib.hid (HX1.out.kept hb); have HB2 := Lib.hid (below_and HB1.out hb); have d2_0 := HX2.out.cell (j := 0) rfl; have d2_1 := HX2.out.cell (j := 1) rfl; have d2_2 := HX2.out.cell (j := 2) rfl; have d2_3 := HX2.out.cell (j := 3) rfl; have d2_4 := HX2.out.cell (j := 4) rfl; clear hb) | (go_at_call 58; refine (CCK.out _).mono ?_; rintro e w3 ⟨rfl, hb⟩; have HX3 := Lib.hid (HX2.out.kept hb); have HB3 := Lib.hid (below_and HB2.out hb); have d3_0 := HX3.out.cell (j := 0) rfl; have d3_1 := HX3.out.cell (j := 1) rfl; have d3_2 := HX3.out.cell (j := 2) rfl; have d3_3 := HX3.out.cell (j := 3) rfl; have d3_4 := HX3.out.cell (j := 4) rfl; clear hb))
    go_ret
    exact ⟨ret_bool HQ.out.symm, by first | exact HB4.out | exact HB3.out | exact HB2.out | exact HB1.out⟩
  · cases ok
    · have HQ : Hid (r = false) := Lib.hid (by rw [HR.out]; unfold envM; have etn := Etn.out; have eok := Eok.out; rw [← etn, ← eok]; first | rfl | simp)
      go_wp2_with (first | (go_at_call 57; refine (CTN.out _ HB1.out).mono ?_; rintro e w2 ⟨rfl, hb⟩; have HX2 := Lib.hid (HX1.out.kept hb); have HB2 := Lib.hid (below_and HB1.out hb); have d2_0 := HX2.out.cell (j := 0) rfl; have d2_1 := HX2.out.cell (j := 1) rfl; have d2_2 := HX2.out.cell (j := 2) rfl; have d2_3 := HX2.out.cell (j := 3) rfl; have d2_4 := HX2.out.cell (j := 4) rfl; clear hb) | (go_at_call 58; refine (CCK.out _).mono ?_; rintro e w3 ⟨rfl, hb⟩; have HX3 := Lib.hid (HX2.out.kept hb); have HB3 := Lib.hid (below_and HB2.out hb); have d3_0 := HX3.out.cell (j := 0) rfl; have d3_1 := HX3.out.cell (j := 1) rfl; have d3_2 := HX3.out.cell (j := 2) rfl; have d3_3 := HX3.out.cell (j := 3) rfl; have d3_4 := HX3.out.cell (j := 4) rfl; clear hb))
      go_ret
      exact ⟨ret_bool HQ.out.symm, by first | exact HB4.out | exact HB3.out | exact HB2.out | exact HB1.out⟩
    · have HQ : Hid (r = true) := Lib.hid (by rw [HR.out]; unfold envM; have etn := Etn.out; have eok := Eok.out; rw [← etn, ← eok]; first | rfl | simp)
      go_wp2_with (first | (go_at_call 57; refine (CTN.out _ HB1.out).mono ?_; rintro e w2 ⟨rfl, hb⟩; have HX2 := Lib.hid (HX1.out.kept hb); have HB2 := Lib.hid (below_and HB1.out hb); have d2_0 := HX2.out.cell (j := 0) rfl; have d2_1 := HX2.out.cell (j := 1) rfl; have d2_2 := HX2.out.cell (j := 2) rfl; have d2_3 := HX2.out.cell (j := 3) rfl; have d2_4 := HX2.out.cell (j := 4) rfl; clear hb) | (go_at_call 58; refine (CCK.out _).mono ?_; rintro e w3 ⟨rfl, hb⟩; have HX3 := Lib.hid (HX2.out.kept hb); have HB3 := Lib.hid (below_and HB2.out hb); have d3_0 := HX3.out.cell (j := 0) rfl; have d3_1 := HX3.out.cell (j := 1) rfl; have d3_2 := HX3.out.cell (j := 2) rfl; have d3_3 := HX3.out.cell (j := 3) rfl; have d3_4 := HX3.out.cell (j := 4) rfl; clear hb))
      go_ret
      exact ⟨ret_bool HQ.out.symm, by first | exact HB4.out | exact HB3.out | exact HB2.out | exact HB1.out⟩
set_option maxRecDepth 100000 in
set_option maxHeartbeats 2000000 in
theorem staM_any (x : El) (w : World) (ht : TxOk x) (hE : ErrV w) : Calls Tryz.prog 62 #[staV x] w fun e w' => e = .returned (.bool (staM x)) ∧ Below w.heap.size w w' := by
  obtain ⟨r, hr⟩ : ∃ r, r = staM x := ⟨_, rfl⟩
  rw [← hr]
  have HR := Lib.hid hr
  clear hr
  obtain ⟨X, hX⟩ : ∃ X, X = w.heap.size := ⟨_, rfl⟩
  obtain ⟨w1, hw1⟩ : ∃ w1, w1 = w.alloc (.cells #[.string (bs x.j), .int .i64 x.i, .int .u64 x.n, .int .i64 x.a.c, .int .i64 x.a.r, .int .i64 x.a.d, .int .i64 x.a.p, .string (bs x.s)] 39) := ⟨_, rfl⟩
  have HX1 : Hid (Blk w1 X [.string (bs x.j), .int .i64 x.i, .int .u64 x.n, .int .i64 x.a.c, .int .i64 x.a.r, .int .i64 x.a.d, .int .i64 x.a.p, .string (bs x.s)] 39) := Lib.hid (by rw [hw1, hX]; exact Blk.made w [.string (bs x.j), .int .i64 x.i, .int .u64 x.n, .int .i64 x.a.c, .int .i64 x.a.r, .int .i64 x.a.d, .int .i64 x.a.p, .string (bs x.s)] _)
  have HB1 : Hid (Below w.heap.size w w1) := Lib.hid (by rw [hw1]; exact below_alloc _ _)
  have HJ := Lib.hid ht.j
  have HS := Lib.hid ht.s
  clear ht
  have HE := Lib.hid hE
  clear hE
  obtain ⟨tk, htk⟩ : ∃ tk, tk = (tkB x.j x.i) := ⟨_, rfl⟩
  have CTK : Hid (∀ w', Calls Tryz.prog 63 #[.agg #[.string (bs x.j), .int .i64 x.i]] w' fun e w2 => e = .returned (.bool tk) ∧ Below w'.heap.size w' w2) := Lib.hid (fun w' => by rw [htk]; exact isTask_any _ _ _ HJ.out)
  have Etk := Lib.hid htk
  clear htk
  obtain ⟨n1, hn1⟩ : ∃ n1, n1 = (decide (1 ≤ x.n)) := ⟨_, rfl⟩
  have tn1 : decide (1 ≤ x.n) = n1 := hn1.symm
  have En1 := Lib.hid hn1
  clear hn1
  obtain ⟨ok, hok⟩ : ∃ ok, ok = (x.a.okB) := ⟨_, rfl⟩
  obtain ⟨er, her⟩ : ∃ er, er = x.a.chk := ⟨_, rfl⟩
  have CCK : Hid (∀ w', Calls Tryz.prog 58 #[amV x.a] w' fun e w2 => e = .returned (.int .i64 er) ∧ Below w'.heap.size w' w2) := Lib.hid (fun w' => by rw [her]; exact check_any _ _)
  have tok : (er == 0) = ok := by rw [her, hok]; exact chk_eq _
  clear her
  have Eok := Lib.hid hok
  clear hok
  obtain ⟨nz, hnz⟩ : ∃ nz, nz = (!(decide (x.a = Am.zero))) := ⟨_, rfl⟩
  have tnz : ∀ w, (binOp .neq 37 (.agg #[.int .i64 x.a.c, .int .i64 x.a.r, .int .i64 x.a.d, .int .i64 x.a.p]) (.agg #[.int .i64 0, .int .i64 0, .int .i64 0, .int .i64 0])).run Tryz.prog w = .ok (.bool nz) w := fun w => by rw [hnz]; exact am_neq x.a Am.zero w
  have Enz := Lib.hid hnz
  clear hnz
  obtain ⟨s0, hs0⟩ : ∃ s0, s0 = (x.s == []) := ⟨_, rfl⟩
  have ts0 : ((bs x.s).toList == (⟨#[]⟩ : ByteArray).toList) = s0 := by rw [hs0]; exact nil_bs x.s
  have ts1 : ((bs x.s).toList == ([] : List UInt8)) = s0 := by rw [hs0, Lib.toList_data, bs_data]
  have Es0 := Lib.hid hs0
  clear hs0
  obtain ⟨sn, hsn⟩ : ∃ sn, sn = (tnB x.s) := ⟨_, rfl⟩
  have CTN : Hid (∀ w', Below w.heap.size w w' → Calls Tryz.prog 57 #[.string (bs x.s)] w' fun e w2 => e = .returned (.bool sn) ∧ Below w'.heap.size w' w2) := Lib.hid (fun w' hb => by rw [hsn]; exact isName_any _ _ HS.out (HE.out.below hb))
  have Esn := Lib.hid hsn
  clear hsn
  go_enter Tryz.func62, Tryz.ntmps62
  go_upto_region 1 with fail
  rw [← hw1, ← hX]
  clear hw1 hX
  have c0 := HX1.out.cell (j := 0) rfl
  have c1 := HX1.out.cell (j := 1) rfl
  have c2 := HX1.out.cell (j := 2) rfl
  have c3 := HX1.out.cell (j := 3) rfl
  have c4 := HX1.out.cell (j := 4) rfl
  have c5 := HX1.out.cell (j := 5) rfl
  have c6 := HX1.out.cell (j := 6) rfl
  have c7 := HX1.out.cell (j := 7) rfl
  cases tk
  · have HQ : Hid (r = false) := Lib.hid (by rw [HR.out]; unfold staM tk; have etk := Etk.out; rw [← etk]; first | rfl | simp)
    go_wp2_with (first | (go_at_call 63; refine (CTK.out _).mono ?_; rintro e w2 ⟨rfl, hb⟩; have HX2 := Lib.hid (HX1.out.kept hb); have HB2 := Lib.hid (below_and HB1.out hb); have d2_0 := HX2.out.cell (j := 0) rfl; have d2_1 := HX2.out.cell (j := 1) rfl; have d2_2 := HX2.out.cell (j := 2) rfl; have d2_3 := HX2.out.cell (j := 3) rfl; have d2_4 := HX2.out.cell (j := 4) rfl; have d2_5 := HX2.out.cell (j := 5) rfl; have d2_6 := HX2.out.cell (j := 6) rfl; have d2_7 := HX2.out.cell (j := 7) rfl; clear hb) | (go_at_call 58; refine (CCK.out _).mono ?_; rintro e w3 ⟨rfl, hb⟩; have HX3 := Lib.hid (HX2.out.kept hb); have HB3 := Lib.hid (below_and HB2.out hb); have d3_0 := HX3.out.cell (j := 0) rfl; have d3_1 := HX3.out.cell (j := 1) rfl; have d3_2 := HX3.out.cell (j := 2) rfl; have d3_3 := HX3.out.cell (j := 3) rfl; have d3_4 := HX3.out.cell (j := 4) rfl; have d3_5 := HX3.out.cell (j := 5) rfl; have d3_6 := HX3.out.cell (j := 6) rfl; have d3_7 := HX3.out.cell (j := 7) rfl; clear hb) | (go_at_call 57; refine (CTN.out _ HB3.out).mono ?_; rintro e w4 ⟨rfl, hb⟩; have HB4 := Lib.hid (below_and HB3.out hb); clear hb))
    go_ret
    exact ⟨ret_bool HQ.out.symm, by first | exact HB4.out | exact HB3.out | exact HB2.out | exact HB1.out⟩
  · cases n1
    · have HQ : Hid (r = false) := Lib.hid (by rw [HR.out]; unfold staM tk; have etk := Etk.out; have en1 := En1.out; rw [← etk, ← en1]; first | rfl | simp)
      go_wp2_with (first | (go_at_call 63; refine (CTK.out _).mono ?_; rintro e w2 ⟨rfl, hb⟩; have HX2 := Lib.hid (HX1.out.kept hb); have HB2 := Lib.hid (below_and HB1.out hb); have d2_0 := HX2.out.cell (j := 0) rfl; have d2_1 := HX2.out.cell (j := 1) rfl; have d2_2 := HX2.out.cell (j := 2) rfl; have d2_3 := HX2.out.cell (j := 3) rfl; have d2_4 := HX2.out.cell (j := 4) rfl; have d2_5 := HX2.out.cell (j := 5) rfl; have d2_6 := HX2.out.cell (j := 6) rfl; have d2_7 := HX2.out.cell (j := 7) rfl; clear hb) | (go_at_call 58; refine (CCK.out _).mono ?_; rintro e w3 ⟨rfl, hb⟩; have HX3 := Lib.hid (HX2.out.kept hb); have HB3 := Lib.hid (below_and HB2.out hb); have d3_0 := HX3.out.cell (j := 0) rfl; have d3_1 := HX3.out.cell (j := 1) rfl; have d3_2 := HX3.out.cell (j := 2) rfl; have d3_3 := HX3.out.cell (j := 3) rfl; have d3_4 := HX3.out.cell (j := 4) rfl; have d3_5 := HX3.out.cell (j := 5) rfl; have d3_6 := HX3.out.cell (j := 6) rfl; have d3_7 := HX3.out.cell (j := 7) rfl; clear hb) | (go_at_call 57; refine (CTN.out _ HB3.out).mono ?_; rintro e w4 ⟨rfl, hb⟩; have HB4 := Lib.hid (below_and HB3.out hb); clear hb))
      go_ret
      exact ⟨ret_bool HQ.out.symm, by first | exact HB4.out | exact HB3.out | exact HB2.out | exact HB1.out⟩
    · cases ok
      · have HQ : Hid (r = false) := Lib.hid (by rw [HR.out]; unfold staM tk; have etk := Etk.out; have en1 := En1.out; have eok := Eok.out; rw [← etk, ← en1, ← eok]; first | rfl | simp)
        go_wp2_with (first | (go_at_call 63; refine (CTK.out _).mono ?_; rintro e w2 ⟨rfl, hb⟩; have HX2 := Lib.hid (HX1.out.kept hb); have HB2 := Lib.hid (below_and HB1.out hb); have d2_0 := HX2.out.cell (j := 0) rfl; have d2_1 := HX2.out.cell (j := 1) rfl; have d2_2 := HX2.out.cell (j := 2) rfl; have d2_3 := HX2.out.cell (j := 3) rfl; have d2_4 := HX2.out.cell (j := 4) rfl; have d2_5 := HX2.out.cell (j := 5) rfl; have d2_6 := HX2.out.cell (j := 6) rfl; have d2_7 := HX2.out.cell (j := 7) rfl; clear hb) | (go_at_call 58; refine (CCK.out _).mono ?_; rintro e w3 ⟨rfl, hb⟩; have HX3 := Lib.hid (HX2.out.kept hb); have HB3 := Lib.hid (below_and HB2.out hb); have d3_0 := HX3.out.cell (j := 0) rfl; have d3_1 := HX3.out.cell (j := 1) rfl; have d3_2 := HX3.out.cell (j := 2) rfl; have d3_3 := HX3.out.cell (j := 3) rfl; have d3_4 := HX3.out.cell (j := 4) rfl; have d3_5 := HX3.out.cell (j := 5) rfl; have d3_6 := HX3.out.cell (j := 6) rfl; have d3_7 := HX3.out.cell (j := 7) rfl; clear hb) | (go_at_call 57; refine (CTN.out _ HB3.out).mono ?_; rintro e w4 ⟨rfl, hb⟩; have HB4 := Lib.hid (below_and HB3.out hb); clear hb))
        go_ret
        exact ⟨ret_bool HQ.out.symm, by first | exact HB4.out | exact HB3.out | exact HB2.out | exact HB1.out⟩
      · cases nz
        · have HQ : Hid (r = false) := Lib.hid (by rw [HR.out]; unfold staM tk; have etk := Etk.out; have en1 := En1.out; have eok := Eok.out; have enz := Enz.out; rw [← etk, ← en1, ← eok, ← enz]; first | rfl | simp)
          go_wp2_with (first | (go_at_call 63; refine (CTK.out _).mono ?_; rintro e w2 ⟨rfl, hb⟩; have HX2 := Lib.hid (HX1.out.kept hb); have HB2 := Lib.hid (below_and HB1.out hb); have d2_0 := HX2.out.cell (j := 0) rfl; have d2_1 := HX2.out.cell (j := 1) rfl; have d2_2 := HX2.out.cell (j := 2) rfl; have d2_3 := HX2.out.cell (j := 3) rfl; have d2_4 := HX2.out.cell (j := 4) rfl; have d2_5 := HX2.out.cell (j := 5) rfl; have d2_6 := HX2.out.cell (j := 6) rfl; have d2_7 := HX2.out.cell (j := 7) rfl; clear hb) | (go_at_call 58; refine (CCK.out _).mono ?_; rintro e w3 ⟨rfl, hb⟩; have HX3 := Lib.hid (HX2.out.kept hb); have HB3 := Lib.hid (below_and HB2.out hb); have d3_0 := HX3.out.cell (j := 0) rfl; have d3_1 := HX3.out.cell (j := 1) rfl; have d3_2 := HX3.out.cell (j := 2) rfl; have d3_3 := HX3.out.cell (j := 3) rfl; have d3_4 := HX3.out.cell (j := 4) rfl; have d3_5 := HX3.out.cell (j := 5) rfl; have d3_6 := HX3.out.cell (j := 6) rfl; have d3_7 := HX3.out.cell (j := 7) rfl; clear hb) | (go_at_call 57; refine (CTN.out _ HB3.out).mono ?_; rintro e w4 ⟨rfl, hb⟩; have HB4 := Lib.hid (below_and HB3.out hb); clear hb))
          go_ret
          exact ⟨ret_bool HQ.out.symm, by first | exact HB4.out | exact HB3.out | exact HB2.out | exact HB1.out⟩
        · cases s0
          · cases sn
            · have HQ : Hid (r = false) := Lib.hid (by rw [HR.out]; unfold staM tk; have etk := Etk.out; have en1 := En1.out; have eok := Eok.out; have enz := Enz.out; have es0 := Es0.out; have esn := Esn.out; rw [← etk, ← en1, ← eok, ← enz, ← es0, ← esn]; first | rfl | simp)
              go_wp2_with (first | (go_at_call 63; refine (CTK.out _).mono ?_; rintro e w2 ⟨rfl, hb⟩; have HX2 := Lib.hid (HX1.out.kept hb); have HB2 := Lib.hid (below_and HB1.out hb); have d2_0 := HX2.out.cell (j := 0) rfl; have d2_1 := HX2.out.cell (j := 1) rfl; have d2_2 := HX2.out.cell (j := 2) rfl; have d2_3 := HX2.out.cell (j := 3) rfl; have d2_4 := HX2.out.cell (j := 4) rfl; have d2_5 := HX2.out.cell (j := 5) rfl; have d2_6 := HX2.out.cell (j := 6) rfl; have d2_7 := HX2.out.cell (j := 7) rfl; clear hb) | (go_at_call 58; refine (CCK.out _).mono ?_; rintro e w3 ⟨rfl, hb⟩; have HX3 := Lib.hid (HX2.out.kept hb); have HB3 := Lib.hid (below_and HB2.out hb); have d3_0 := HX3.out.cell (j := 0) rfl; have d3_1 := HX3.out.cell (j := 1) rfl; have d3_2 := HX3.out.cell (j := 2) rfl; have d3_3 := HX3.out.cell (j := 3) rfl; have d3_4 := HX3.out.cell (j := 4) rfl; have d3_5 := HX3.out.cell (j := 5) rfl; have d3_6 := HX3.out.cell (j := 6) rfl; have d3_7 := HX3.out.cell (j := 7) rfl; clear hb) | (go_at_call 57; refine (CTN.out _ HB3.out).mono ?_; rintro e w4 ⟨rfl, hb⟩; have HB4 := Lib.hid (below_and HB3.out hb); clear hb))
              go_ret
              exact ⟨ret_bool HQ.out.symm, by first | exact HB4.out | exact HB3.out | exact HB2.out | exact HB1.out⟩
            · have HQ : Hid (r = true) := Lib.hid (by rw [HR.out]; unfold staM tk; have etk := Etk.out; have en1 := En1.out; have eok := Eok.out; have enz := Enz.out; have es0 := Es0.out; have esn := Esn.out; rw [← etk, ← en1, ← eok, ← enz, ← es0, ← esn]; first | rfl | simp)
              go_wp2_with (first | (go_at_call 63; refine (CTK.out _).mono ?_; rintro e w2 ⟨rfl, hb⟩; have HX2 := Lib.hid (HX1.out.kept hb); have HB2 := Lib.hid (below_and HB1.out hb); have d2_0 := HX2.out.cell (j := 0) rfl; have d2_1 := HX2.out.cell (j := 1) rfl; have d2_2 := HX2.out.cell (j := 2) rfl; have d2_3 := HX2.out.cell (j := 3) rfl; have d2_4 := HX2.out.cell (j := 4) rfl; have d2_5 := HX2.out.cell (j := 5) rfl; have d2_6 := HX2.out.cell (j := 6) rfl; have d2_7 := HX2.out.cell (j := 7) rfl; clear hb) | (go_at_call 58; refine (CCK.out _).mono ?_; rintro e w3 ⟨rfl, hb⟩; have HX3 := Lib.hid (HX2.out.kept hb); have HB3 := Lib.hid (below_and HB2.out hb); have d3_0 := HX3.out.cell (j := 0) rfl; have d3_1 := HX3.out.cell (j := 1) rfl; have d3_2 := HX3.out.cell (j := 2) rfl; have d3_3 := HX3.out.cell (j := 3) rfl; have d3_4 := HX3.out.cell (j := 4) rfl; have d3_5 := HX3.out.cell (j := 5) rfl; have d3_6 := HX3.out.cell (j := 6) rfl; have d3_7 := HX3.out.cell (j := 7) rfl; clear hb) | (go_at_call 57; refine (CTN.out _ HB3.out).mono ?_; rintro e w4 ⟨rfl, hb⟩; have HB4 := Lib.hid (below_and HB3.out hb); clear hb))
              go_ret
              exact ⟨ret_bool HQ.out.symm, by first | exact HB4.out | exact HB3.out | exact HB2.out | exact HB1.out⟩
          · have HQ : Hid (r = true) := Lib.hid (by rw [HR.out]; unfold staM tk; have etk := Etk.out; have en1 := En1.out; have eok := Eok.out; have enz := Enz.out; have es0 := Es0.out; rw [← etk, ← en1, ← eok, ← enz, ← es0]; first | rfl | simp)
            go_wp2_with (first | (go_at_call 63; refine (CTK.out _).mono ?_; rintro e w2 ⟨rfl, hb⟩; have HX2 := Lib.hid (HX1.out.kept hb); have HB2 := Lib.hid (below_and HB1.out hb); have d2_0 := HX2.out.cell (j := 0) rfl; have d2_1 := HX2.out.cell (j := 1) rfl; have d2_2 := HX2.out.cell (j := 2) rfl; have d2_3 := HX2.out.cell (j := 3) rfl; have d2_4 := HX2.out.cell (j := 4) rfl; have d2_5 := HX2.out.cell (j := 5) rfl; have d2_6 := HX2.out.cell (j := 6) rfl; have d2_7 := HX2.out.cell (j := 7) rfl; clear hb) | (go_at_call 58; refine (CCK.out _).mono ?_; rintro e w3 ⟨rfl, hb⟩; have HX3 := Lib.hid (HX2.out.kept hb); have HB3 := Lib.hid (below_and HB2.out hb); have d3_0 := HX3.out.cell (j := 0) rfl; have d3_1 := HX3.out.cell (j := 1) rfl; have d3_2 := HX3.out.cell (j := 2) rfl; have d3_3 := HX3.out.cell (j := 3) rfl; have d3_4 := HX3.out.cell (j := 4) rfl; have d3_5 := HX3.out.cell (j := 5) rfl; have d3_6 := HX3.out.cell (j := 6) rfl; have d3_7 := HX3.out.cell (j := 7) rfl; clear hb) | (go_at_call 57; refine (CTN.out _ HB3.out).mono ?_; rintro e w4 ⟨rfl, hb⟩; have HB4 := Lib.hid (below_and HB3.out hb); clear hb))
            go_ret
            exact ⟨ret_bool HQ.out.symm, by first | exact HB4.out | exact HB3.out | exact HB2.out | exact HB1.out⟩
set_option maxRecDepth 100000 in
set_option maxHeartbeats 2000000 in
theorem stoM_any (x : El) (w : World) (ht : TxOk x) : Calls Tryz.prog 66 #[stoV x] w fun e w' => e = .returned (.bool (stoM x)) ∧ Below w.heap.size w w' := by
  obtain ⟨r, hr⟩ : ∃ r, r = stoM x := ⟨_, rfl⟩
  rw [← hr]
  have HR := Lib.hid hr
  clear hr
  obtain ⟨X, hX⟩ : ∃ X, X = w.heap.size := ⟨_, rfl⟩
  obtain ⟨w1, hw1⟩ : ∃ w1, w1 = w.alloc (.cells #[.string (bs x.j), .int .i64 x.i, .int .u64 x.n] 75) := ⟨_, rfl⟩
  have HX1 : Hid (Blk w1 X [.string (bs x.j), .int .i64 x.i, .int .u64 x.n] 75) := Lib.hid (by rw [hw1, hX]; exact Blk.made w [.string (bs x.j), .int .i64 x.i, .int .u64 x.n] _)
  have HB1 : Hid (Below w.heap.size w w1) := Lib.hid (by rw [hw1]; exact below_alloc _ _)
  have HJ := Lib.hid ht.j
  have HS := Lib.hid ht.s
  clear ht
  obtain ⟨tk, htk⟩ : ∃ tk, tk = (tkB x.j x.i) := ⟨_, rfl⟩
  have CTK : Hid (∀ w', Calls Tryz.prog 63 #[.agg #[.string (bs x.j), .int .i64 x.i]] w' fun e w2 => e = .returned (.bool tk) ∧ Below w'.heap.size w' w2) := Lib.hid (fun w' => by rw [htk]; exact isTask_any _ _ _ HJ.out)
  have Etk := Lib.hid htk
  clear htk
  obtain ⟨n1, hn1⟩ : ∃ n1, n1 = (decide (1 ≤ x.n)) := ⟨_, rfl⟩
  have tn1 : decide (1 ≤ x.n) = n1 := hn1.symm
  have En1 := Lib.hid hn1
  clear hn1
  go_enter Tryz.func66, Tryz.ntmps66
  go_upto_region 1 with fail
  rw [← hw1, ← hX]
  clear hw1 hX
  have c0 := HX1.out.cell (j := 0) rfl
  have c1 := HX1.out.cell (j := 1) rfl
  have c2 := HX1.out.cell (j := 2) rfl
  cases tk
  · have HQ : Hid (r = false) := Lib.hid (by rw [HR.out]; unfold stoM tk; have etk := Etk.out; rw [← etk]; first | rfl | simp)
    go_wp2_with (first | (go_at_call 63; refine (CTK.out _).mono ?_; rintro e w2 ⟨rfl, hb⟩; have HX2 := Lib.hid (HX1.out.kept hb); have HB2 := Lib.hid (below_and HB1.out hb); have d2_0 := HX2.out.cell (j := 0) rfl; have d2_1 := HX2.out.cell (j := 1) rfl; have d2_2 := HX2.out.cell (j := 2) rfl; clear hb))
    go_ret
    exact ⟨ret_bool HQ.out.symm, by first | exact HB4.out | exact HB3.out | exact HB2.out | exact HB1.out⟩
  · cases n1
    · have HQ : Hid (r = false) := Lib.hid (by rw [HR.out]; unfold stoM tk; have etk := Etk.out; have en1 := En1.out; rw [← etk, ← en1]; first | rfl | simp)
      go_wp2_with (first | (go_at_call 63; refine (CTK.out _).mono ?_; rintro e w2 ⟨rfl, hb⟩; have HX2 := Lib.hid (HX1.out.kept hb); have HB2 := Lib.hid (below_and HB1.out hb); have d2_0 := HX2.out.cell (j := 0) rfl; have d2_1 := HX2.out.cell (j := 1) rfl; have d2_2 := HX2.out.cell (j := 2) rfl; clear hb))
      go_ret
      exact ⟨ret_bool HQ.out.symm, by first | exact HB4.out | exact HB3.out | exact HB2.out | exact HB1.out⟩
    · have HQ : Hid (r = true) := Lib.hid (by rw [HR.out]; unfold stoM tk; have etk := Etk.out; have en1 := En1.out; rw [← etk, ← en1]; first | rfl | simp)
      go_wp2_with (first | (go_at_call 63; refine (CTK.out _).mono ?_; rintro e w2 ⟨rfl, hb⟩; have HX2 := Lib.hid (HX1.out.kept hb); have HB2 := Lib.hid (below_and HB1.out hb); have d2_0 := HX2.out.cell (j := 0) rfl; have d2_1 := HX2.out.cell (j := 1) rfl; have d2_2 := HX2.out.cell (j := 2) rfl; clear hb))
      go_ret
      exact ⟨ret_bool HQ.out.symm, by first | exact HB4.out | exact HB3.out | exact HB2.out | exact HB1.out⟩
set_option maxRecDepth 100000 in
set_option maxHeartbeats 2000000 in
theorem helM_any (x : El) (w : World) (ht : TxOk x) : Calls Tryz.prog 73 #[helV x] w fun e w' => e = .returned (.bool (helM x)) ∧ Below w.heap.size w w' := by
  obtain ⟨r, hr⟩ : ∃ r, r = helM x := ⟨_, rfl⟩
  rw [← hr]
  have HR := Lib.hid hr
  clear hr
  obtain ⟨X, hX⟩ : ∃ X, X = w.heap.size := ⟨_, rfl⟩
  obtain ⟨w1, hw1⟩ : ∃ w1, w1 = w.alloc (.cells #[.string (bs x.j), .int .i64 x.i, .int .u64 x.n, .int .i64 x.q] 88) := ⟨_, rfl⟩
  have HX1 : Hid (Blk w1 X [.string (bs x.j), .int .i64 x.i, .int .u64 x.n, .int .i64 x.q] 88) := Lib.hid (by rw [hw1, hX]; exact Blk.made w [.string (bs x.j), .int .i64 x.i, .int .u64 x.n, .int .i64 x.q] _)
  have HB1 : Hid (Below w.heap.size w w1) := Lib.hid (by rw [hw1]; exact below_alloc _ _)
  have HJ := Lib.hid ht.j
  have HS := Lib.hid ht.s
  clear ht
  obtain ⟨tk, htk⟩ : ∃ tk, tk = (tkB x.j x.i) := ⟨_, rfl⟩
  have CTK : Hid (∀ w', Calls Tryz.prog 63 #[.agg #[.string (bs x.j), .int .i64 x.i]] w' fun e w2 => e = .returned (.bool tk) ∧ Below w'.heap.size w' w2) := Lib.hid (fun w' => by rw [htk]; exact isTask_any _ _ _ HJ.out)
  have Etk := Lib.hid htk
  clear htk
  obtain ⟨n1, hn1⟩ : ∃ n1, n1 = (decide (1 ≤ x.n)) := ⟨_, rfl⟩
  have tn1 : decide (1 ≤ x.n) = n1 := hn1.symm
  have En1 := Lib.hid hn1
  clear hn1
  obtain ⟨q1, hq1⟩ : ∃ q1, q1 = (decide (1 ≤ x.q)) := ⟨_, rfl⟩
  have tq1 : decide (1 ≤ x.q) = q1 := hq1.symm
  have Eq1 := Lib.hid hq1
  clear hq1
  obtain ⟨q2, hq2⟩ : ∃ q2, q2 = (decide (x.q ≤ 3)) := ⟨_, rfl⟩
  have tq2 : decide (x.q ≤ 3) = q2 := hq2.symm
  have Eq2 := Lib.hid hq2
  clear hq2
  go_enter Tryz.func73, Tryz.ntmps73
  go_upto_region 1 with fail
  rw [← hw1, ← hX]
  clear hw1 hX
  have c0 := HX1.out.cell (j := 0) rfl
  have c1 := HX1.out.cell (j := 1) rfl
  have c2 := HX1.out.cell (j := 2) rfl
  have c3 := HX1.out.cell (j := 3) rfl
  cases tk
  · have HQ : Hid (r = false) := Lib.hid (by rw [HR.out]; unfold helM tk; have etk := Etk.out; rw [← etk]; first | rfl | simp)
    go_wp2_with (first | (go_at_call 63; refine (CTK.out _).mono ?_; rintro e w2 ⟨rfl, hb⟩; have HX2 := Lib.hid (HX1.out.kept hb); have HB2 := Lib.hid (below_and HB1.out hb); have d2_0 := HX2.out.cell (j := 0) rfl; have d2_1 := HX2.out.cell (j := 1) rfl; have d2_2 := HX2.out.cell (j := 2) rfl; have d2_3 := HX2.out.cell (j := 3) rfl; clear hb))
    go_ret
    exact ⟨ret_bool HQ.out.symm, by first | exact HB4.out | exact HB3.out | exact HB2.out | exact HB1.out⟩
  · cases n1
    · have HQ : Hid (r = false) := Lib.hid (by rw [HR.out]; unfold helM tk; have etk := Etk.out; have en1 := En1.out; rw [← etk, ← en1]; first | rfl | simp)
      go_wp2_with (first | (go_at_call 63; refine (CTK.out _).mono ?_; rintro e w2 ⟨rfl, hb⟩; have HX2 := Lib.hid (HX1.out.kept hb); have HB2 := Lib.hid (below_and HB1.out hb); have d2_0 := HX2.out.cell (j := 0) rfl; have d2_1 := HX2.out.cell (j := 1) rfl; have d2_2 := HX2.out.cell (j := 2) rfl; have d2_3 := HX2.out.cell (j := 3) rfl; clear hb))
      go_ret
      exact ⟨ret_bool HQ.out.symm, by first | exact HB4.out | exact HB3.out | exact HB2.out | exact HB1.out⟩
    · cases q1
      · have HQ : Hid (r = false) := Lib.hid (by rw [HR.out]; unfold helM tk; have etk := Etk.out; have en1 := En1.out; have eq1 := Eq1.out; rw [← etk, ← en1, ← eq1]; first | rfl | simp)
        go_wp2_with (first | (go_at_call 63; refine (CTK.out _).mono ?_; rintro e w2 ⟨rfl, hb⟩; have HX2 := Lib.hid (HX1.out.kept hb); have HB2 := Lib.hid (below_and HB1.out hb); have d2_0 := HX2.out.cell (j := 0) rfl; have d2_1 := HX2.out.cell (j := 1) rfl; have d2_2 := HX2.out.cell (j := 2) rfl; have d2_3 := HX2.out.cell (j := 3) rfl; clear hb))
        go_ret
        exact ⟨ret_bool HQ.out.symm, by first | exact HB4.out | exact HB3.out | exact HB2.out | exact HB1.out⟩
      · cases q2
        · have HQ : Hid (r = false) := Lib.hid (by rw [HR.out]; unfold helM tk; have etk := Etk.out; have en1 := En1.out; have eq1 := Eq1.out; have eq2 := Eq2.out; rw [← etk, ← en1, ← eq1, ← eq2]; first | rfl | simp)
          go_wp2_with (first | (go_at_call 63; refine (CTK.out _).mono ?_; rintro e w2 ⟨rfl, hb⟩; have HX2 := Lib.hid (HX1.out.kept hb); have HB2 := Lib.hid (below_and HB1.out hb); have d2_0 := HX2.out.cell (j := 0) rfl; have d2_1 := HX2.out.cell (j := 1) rfl; have d2_2 := HX2.out.cell (j := 2) rfl; have d2_3 := HX2.out.cell (j := 3) rfl; clear hb))
          go_ret
          exact ⟨ret_bool HQ.out.symm, by first | exact HB4.out | exact HB3.out | exact HB2.out | exact HB1.out⟩
        · have HQ : Hid (r = true) := Lib.hid (by rw [HR.out]; unfold helM tk; have etk := Etk.out; have en1 := En1.out; have eq1 := Eq1.out; have eq2 := Eq2.out; rw [← etk, ← en1, ← eq1, ← eq2]; first | rfl | simp)
          go_wp2_with (first | (go_at_call 63; refine (CTK.out _).mono ?_; rintro e w2 ⟨rfl, hb⟩; have HX2 := Lib.hid (HX1.out.kept hb); have HB2 := Lib.hid (below_and HB1.out hb); have d2_0 := HX2.out.cell (j := 0) rfl; have d2_1 := HX2.out.cell (j := 1) rfl; have d2_2 := HX2.out.cell (j := 2) rfl; have d2_3 := HX2.out.cell (j := 3) rfl; clear hb))
          go_ret
          exact ⟨ret_bool HQ.out.symm, by first | exact HB4.out | exact HB3.out | exact HB2.out | exact HB1.out⟩
set_option maxRecDepth 100000 in
set_option maxHeartbeats 2000000 in
theorem finM_any (x : El) (w : World) (ht : TxOk x) : Calls Tryz.prog 76 #[finV x] w fun e w' => e = .returned (.bool (finM x)) ∧ Below w.heap.size w w' := by
  obtain ⟨r, hr⟩ : ∃ r, r = finM x := ⟨_, rfl⟩
  rw [← hr]
  have HR := Lib.hid hr
  clear hr
  obtain ⟨X, hX⟩ : ∃ X, X = w.heap.size := ⟨_, rfl⟩
  obtain ⟨w1, hw1⟩ : ∃ w1, w1 = w.alloc (.cells #[.int .u64 x.k, .string (bs x.j), .int .i64 x.i, .int .u64 x.n, .int .i64 x.q] 95) := ⟨_, rfl⟩
  have HX1 : Hid (Blk w1 X [.int .u64 x.k, .string (bs x.j), .int .i64 x.i, .int .u64 x.n, .int .i64 x.q] 95) := Lib.hid (by rw [hw1, hX]; exact Blk.made w [.int .u64 x.k, .string (bs x.j), .int .i64 x.i, .int .u64 x.n, .int .i64 x.q] _)
  have HB1 : Hid (Below w.heap.size w w1) := Lib.hid (by rw [hw1]; exact below_alloc _ _)
  have HJ := Lib.hid ht.j
  have HS := Lib.hid ht.s
  clear ht
  obtain ⟨tk, htk⟩ : ∃ tk, tk = (tkB x.j x.i) := ⟨_, rfl⟩
  have CTK : Hid (∀ w', Calls Tryz.prog 63 #[.agg #[.string (bs x.j), .int .i64 x.i]] w' fun e w2 => e = .returned (.bool tk) ∧ Below w'.heap.size w' w2) := Lib.hid (fun w' => by rw [htk]; exact isTask_any _ _ _ HJ.out)
  have Etk := Lib.hid htk
  clear htk
  obtain ⟨k1, hk1⟩ : ∃ k1, k1 = (decide (1 ≤ x.k)) := ⟨_, rfl⟩
  have tk1 : decide (1 ≤ x.k) = k1 := hk1.symm
  have Ek1 := Lib.hid hk1
  clear hk1
  obtain ⟨n1, hn1⟩ : ∃ n1, n1 = (decide (1 ≤ x.n)) := ⟨_, rfl⟩
  have tn1 : decide (1 ≤ x.n) = n1 := hn1.symm
  have En1 := Lib.hid hn1
  clear hn1
  obtain ⟨q1, hq1⟩ : ∃ q1, q1 = (decide (0 ≤ x.q)) := ⟨_, rfl⟩
  have tq1 : decide (0 ≤ x.q) = q1 := hq1.symm
  have Eq1 := Lib.hid hq1
  clear hq1
  obtain ⟨q2, hq2⟩ : ∃ q2, q2 = (decide (x.q ≤ 258)) := ⟨_, rfl⟩
  have tq2 : decide (x.q ≤ 258) = q2 := hq2.symm
  have Eq2 := Lib.hid hq2
  clear hq2
  go_enter Tryz.func76, Tryz.ntmps76
  go_upto_region 1 with fail
  rw [← hw1, ← hX]
  clear hw1 hX
  have c0 := HX1.out.cell (j := 0) rfl
  have c1 := HX1.out.cell (j := 1) rfl
  have c2 := HX1.out.cell (j := 2) rfl
  have c3 := HX1.out.cell (j := 3) rfl
  have c4 := HX1.out.cell (j := 4) rfl
  cases tk
  · have HQ : Hid (r = false) := Lib.hid (by rw [HR.out]; unfold finM tk; have etk := Etk.out; rw [← etk]; first | rfl | simp)
    go_wp2_with (first | (go_at_call 63; refine (CTK.out _).mono ?_; rintro e w2 ⟨rfl, hb⟩; have HX2 := Lib.hid (HX1.out.kept hb); have HB2 := Lib.hid (below_and HB1.out hb); have d2_0 := HX2.out.cell (j := 0) rfl; have d2_1 := HX2.out.cell (j := 1) rfl; have d2_2 := HX2.out.cell (j := 2) rfl; have d2_3 := HX2.out.cell (j := 3) rfl; have d2_4 := HX2.out.cell (j := 4) rfl; clear hb))
    go_ret
    exact ⟨ret_bool HQ.out.symm, by first | exact HB4.out | exact HB3.out | exact HB2.out | exact HB1.out⟩
  · cases k1
    · have HQ : Hid (r = false) := Lib.hid (by rw [HR.out]; unfold finM tk; have etk := Etk.out; have ek1 := Ek1.out; rw [← etk, ← ek1]; first | rfl | simp)
      go_wp2_with (first | (go_at_call 63; refine (CTK.out _).mono ?_; rintro e w2 ⟨rfl, hb⟩; have HX2 := Lib.hid (HX1.out.kept hb); have HB2 := Lib.hid (below_and HB1.out hb); have d2_0 := HX2.out.cell (j := 0) rfl; have d2_1 := HX2.out.cell (j := 1) rfl; have d2_2 := HX2.out.cell (j := 2) rfl; have d2_3 := HX2.out.cell (j := 3) rfl; have d2_4 := HX2.out.cell (j := 4) rfl; clear hb))
      go_ret
      exact ⟨ret_bool HQ.out.symm, by first | exact HB4.out | exact HB3.out | exact HB2.out | exact HB1.out⟩
    · cases n1
      · have HQ : Hid (r = false) := Lib.hid (by rw [HR.out]; unfold finM tk; have etk := Etk.out; have ek1 := Ek1.out; have en1 := En1.out; rw [← etk, ← ek1, ← en1]; first | rfl | simp)
        go_wp2_with (first | (go_at_call 63; refine (CTK.out _).mono ?_; rintro e w2 ⟨rfl, hb⟩; have HX2 := Lib.hid (HX1.out.kept hb); have HB2 := Lib.hid (below_and HB1.out hb); have d2_0 := HX2.out.cell (j := 0) rfl; have d2_1 := HX2.out.cell (j := 1) rfl; have d2_2 := HX2.out.cell (j := 2) rfl; have d2_3 := HX2.out.cell (j := 3) rfl; have d2_4 := HX2.out.cell (j := 4) rfl; clear hb))
        go_ret
        exact ⟨ret_bool HQ.out.symm, by first | exact HB4.out | exact HB3.out | exact HB2.out | exact HB1.out⟩
      · cases q1
        · have HQ : Hid (r = false) := Lib.hid (by rw [HR.out]; unfold finM tk; have etk := Etk.out; have ek1 := Ek1.out; have en1 := En1.out; have eq1 := Eq1.out; rw [← etk, ← ek1, ← en1, ← eq1]; first | rfl | simp)
          go_wp2_with (first | (go_at_call 63; refine (CTK.out _).mono ?_; rintro e w2 ⟨rfl, hb⟩; have HX2 := Lib.hid (HX1.out.kept hb); have HB2 := Lib.hid (below_and HB1.out hb); have d2_0 := HX2.out.cell (j := 0) rfl; have d2_1 := HX2.out.cell (j := 1) rfl; have d2_2 := HX2.out.cell (j := 2) rfl; have d2_3 := HX2.out.cell (j := 3) rfl; have d2_4 := HX2.out.cell (j := 4) rfl; clear hb))
          go_ret
          exact ⟨ret_bool HQ.out.symm, by first | exact HB4.out | exact HB3.out | exact HB2.out | exact HB1.out⟩
        · cases q2
          · have HQ : Hid (r = false) := Lib.hid (by rw [HR.out]; unfold finM tk; have etk := Etk.out; have ek1 := Ek1.out; have en1 := En1.out; have eq1 := Eq1.out; have eq2 := Eq2.out; rw [← etk, ← ek1, ← en1, ← eq1, ← eq2]; first | rfl | simp)
            go_wp2_with (first | (go_at_call 63; refine (CTK.out _).mono ?_; rintro e w2 ⟨rfl, hb⟩; have HX2 := Lib.hid (HX1.out.kept hb); have HB2 := Lib.hid (below_and HB1.out hb); have d2_0 := HX2.out.cell (j := 0) rfl; have d2_1 := HX2.out.cell (j := 1) rfl; have d2_2 := HX2.out.cell (j := 2) rfl; have d2_3 := HX2.out.cell (j := 3) rfl; have d2_4 := HX2.out.cell (j := 4) rfl; clear hb))
            go_ret
            exact ⟨ret_bool HQ.out.symm, by first | exact HB4.out | exact HB3.out | exact HB2.out | exact HB1.out⟩
          · have HQ : Hid (r = true) := Lib.hid (by rw [HR.out]; unfold finM tk; have etk := Etk.out; have ek1 := Ek1.out; have en1 := En1.out; have eq1 := Eq1.out; have eq2 := Eq2.out; rw [← etk, ← ek1, ← en1, ← eq1, ← eq2]; first | rfl | simp)
            go_wp2_with (first | (go_at_call 63; refine (CTK.out _).mono ?_; rintro e w2 ⟨rfl, hb⟩; have HX2 := Lib.hid (HX1.out.kept hb); have HB2 := Lib.hid (below_and HB1.out hb); have d2_0 := HX2.out.cell (j := 0) rfl; have d2_1 := HX2.out.cell (j := 1) rfl; have d2_2 := HX2.out.cell (j := 2) rfl; have d2_3 := HX2.out.cell (j := 3) rfl; have d2_4 := HX2.out.cell (j := 4) rfl; clear hb))
            go_ret
            exact ⟨ret_bool HQ.out.symm, by first | exact HB4.out | exact HB3.out | exact HB2.out | exact HB1.out⟩
set_option maxRecDepth 100000 in
set_option maxHeartbeats 2000000 in
theorem refM_any (x : El) (w : World) (ht : TxOk x) : Calls Tryz.prog 79 #[refV x] w fun e w' => e = .returned (.bool (refM x)) ∧ Below w.heap.size w w' := by
  obtain ⟨r, hr⟩ : ∃ r, r = refM x := ⟨_, rfl⟩
  rw [← hr]
  have HR := Lib.hid hr
  clear hr
  obtain ⟨X, hX⟩ : ∃ X, X = w.heap.size := ⟨_, rfl⟩
  obtain ⟨w1, hw1⟩ : ∃ w1, w1 = w.alloc (.cells #[.string (bs x.j), .int .i64 x.i, .int .u64 x.n, .int .i64 x.q] 99) := ⟨_, rfl⟩
  have HX1 : Hid (Blk w1 X [.string (bs x.j), .int .i64 x.i, .int .u64 x.n, .int .i64 x.q] 99) := Lib.hid (by rw [hw1, hX]; exact Blk.made w [.string (bs x.j), .int .i64 x.i, .int .u64 x.n, .int .i64 x.q] _)
  have HB1 : Hid (Below w.heap.size w w1) := Lib.hid (by rw [hw1]; exact below_alloc _ _)
  have HJ := Lib.hid ht.j
  have HS := Lib.hid ht.s
  clear ht
  obtain ⟨tk, htk⟩ : ∃ tk, tk = (tkB x.j x.i) := ⟨_, rfl⟩
  have CTK : Hid (∀ w', Calls Tryz.prog 63 #[.agg #[.string (bs x.j), .int .i64 x.i]] w' fun e w2 => e = .returned (.bool tk) ∧ Below w'.heap.size w' w2) := Lib.hid (fun w' => by rw [htk]; exact isTask_any _ _ _ HJ.out)
  have Etk := Lib.hid htk
  clear htk
  obtain ⟨n1, hn1⟩ : ∃ n1, n1 = (decide (1 ≤ x.n)) := ⟨_, rfl⟩
  have tn1 : decide (1 ≤ x.n) = n1 := hn1.symm
  have En1 := Lib.hid hn1
  clear hn1
  obtain ⟨q1, hq1⟩ : ∃ q1, q1 = (decide (1 ≤ x.q)) := ⟨_, rfl⟩
  have tq1 : decide (1 ≤ x.q) = q1 := hq1.symm
  have Eq1 := Lib.hid hq1
  clear hq1
  obtain ⟨q2, hq2⟩ : ∃ q2, q2 = (decide (x.q ≤ 19)) := ⟨_, rfl⟩
  have tq2 : decide (x.q ≤ 19) = q2 := hq2.symm
  have Eq2 := Lib.hid hq2
  clear hq2
  go_enter Tryz.func79, Tryz.ntmps79
  go_upto_region 1 with fail
  rw [← hw1, ← hX]
  clear hw1 hX
  have c0 := HX1.out.cell (j := 0) rfl
  have c1 := HX1.out.cell (j := 1) rfl
  have c2 := HX1.out.cell (j := 2) rfl
  have c3 := HX1.out.cell (j := 3) rfl
  cases tk
  · have HQ : Hid (r = false) := Lib.hid (by rw [HR.out]; unfold refM tk; have etk := Etk.out; rw [← etk]; first | rfl | simp)
    go_wp2_with (first | (go_at_call 63; refine (CTK.out _).mono ?_; rintro e w2 ⟨rfl, hb⟩; have HX2 := Lib.hid (HX1.out.kept hb); have HB2 := Lib.hid (below_and HB1.out hb); have d2_0 := HX2.out.cell (j := 0) rfl; have d2_1 := HX2.out.cell (j := 1) rfl; have d2_2 := HX2.out.cell (j := 2) rfl; have d2_3 := HX2.out.cell (j := 3) rfl; clear hb))
    go_ret
    exact ⟨ret_bool HQ.out.symm, by first | exact HB4.out | exact HB3.out | exact HB2.out | exact HB1.out⟩
  · cases n1
    · have HQ : Hid (r = false) := Lib.hid (by rw [HR.out]; unfold refM tk; have etk := Etk.out; have en1 := En1.out; rw [← etk, ← en1]; first | rfl | simp)
      go_wp2_with (first | (go_at_call 63; refine (CTK.out _).mono ?_; rintro e w2 ⟨rfl, hb⟩; have HX2 := Lib.hid (HX1.out.kept hb); have HB2 := Lib.hid (below_and HB1.out hb); have d2_0 := HX2.out.cell (j := 0) rfl; have d2_1 := HX2.out.cell (j := 1) rfl; have d2_2 := HX2.out.cell (j := 2) rfl; have d2_3 := HX2.out.cell (j := 3) rfl; clear hb))
      go_ret
      exact ⟨ret_bool HQ.out.symm, by first | exact HB4.out | exact HB3.out | exact HB2.out | exact HB1.out⟩
    · cases q1
      · have HQ : Hid (r = false) := Lib.hid (by rw [HR.out]; unfold refM tk; have etk := Etk.out; have en1 := En1.out; have eq1 := Eq1.out; rw [← etk, ← en1, ← eq1]; first | rfl | simp)
        go_wp2_with (first | (go_at_call 63; refine (CTK.out _).mono ?_; rintro e w2 ⟨rfl, hb⟩; have HX2 := Lib.hid (HX1.out.kept hb); have HB2 := Lib.hid (below_and HB1.out hb); have d2_0 := HX2.out.cell (j := 0) rfl; have d2_1 := HX2.out.cell (j := 1) rfl; have d2_2 := HX2.out.cell (j := 2) rfl; have d2_3 := HX2.out.cell (j := 3) rfl; clear hb))
        go_ret
        exact ⟨ret_bool HQ.out.symm, by first | exact HB4.out | exact HB3.out | exact HB2.out | exact HB1.out⟩
      · cases q2
        · have HQ : Hid (r = false) := Lib.hid (by rw [HR.out]; unfold refM tk; have etk := Etk.out; have en1 := En1.out; have eq1 := Eq1.out; have eq2 := Eq2.out; rw [← etk, ← en1, ← eq1, ← eq2]; first | rfl | simp)
          go_wp2_with (first | (go_at_call 63; refine (CTK.out _).mono ?_; rintro e w2 ⟨rfl, hb⟩; have HX2 := Lib.hid (HX1.out.kept hb); have HB2 := Lib.hid (below_and HB1.out hb); have d2_0 := HX2.out.cell (j := 0) rfl; have d2_1 := HX2.out.cell (j := 1) rfl; have d2_2 := HX2.out.cell (j := 2) rfl; have d2_3 := HX2.out.cell (j := 3) rfl; clear hb))
          go_ret
          exact ⟨ret_bool HQ.out.symm, by first | exact HB4.out | exact HB3.out | exact HB2.out | exact HB1.out⟩
        · have HQ : Hid (r = true) := Lib.hid (by rw [HR.out]; unfold refM tk; have etk := Etk.out; have en1 := En1.out; have eq1 := Eq1.out; have eq2 := Eq2.out; rw [← etk, ← en1, ← eq1, ← eq2]; first | rfl | simp)
          go_wp2_with (first | (go_at_call 63; refine (CTK.out _).mono ?_; rintro e w2 ⟨rfl, hb⟩; have HX2 := Lib.hid (HX1.out.kept hb); have HB2 := Lib.hid (below_and HB1.out hb); have d2_0 := HX2.out.cell (j := 0) rfl; have d2_1 := HX2.out.cell (j := 1) rfl; have d2_2 := HX2.out.cell (j := 2) rfl; have d2_3 := HX2.out.cell (j := 3) rfl; clear hb))
          go_ret
          exact ⟨ret_bool HQ.out.symm, by first | exact HB4.out | exact HB3.out | exact HB2.out | exact HB1.out⟩
end Go.Proofs.YtopkfomlppnpeaaGreatDoor.Ms
