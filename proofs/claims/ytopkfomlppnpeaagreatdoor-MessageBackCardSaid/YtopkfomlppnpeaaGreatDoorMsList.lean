/- MsList. -/
import Derived.Test.YtopkfomlppnpeaaGreatDoorMsPut
import Derived.Test.YtopkfomlppnpeaaGreatDoorMEl
namespace Go.Proofs.YtopkfomlppnpeaaGreatDoor.Ms
open Go.RowKit Go.Proofs.YtopkfomlppnpeaaGreatDoor

set_option maxRecDepth 100000 in
set_option maxHeartbeats 4000000 in
theorem envP_any (v vl : Value) (l : List UInt8) (L : List El) (w : World) (h : Rd w v l) (hl : l.length ≤ 1000000000) (hr : Row w vl 5 L.length (rwC envC L)) (hL : L.length ≤ 256) (hx : ∀ x ∈ L, Ft x) : Calls Tryz.prog 31 #[v, vl, .func (.func 32) #[] #[]] w fun e w' => ∃ v', e = .returned v' ∧ Fresh w.heap.size w' v' (l ++ eL envE L) ∧ Below w.heap.size w w' := by
  obtain ⟨p, c, rfl, hc, hm, hat⟩ := row_el hr
  unfold maxLen at hm
  have HAT := Lib.hid hat
  have HX := Lib.hid hx
  have HRD := Lib.hid h
  have HL := Lib.hid hl
  obtain ⟨m, hmm⟩ : ∃ m, m = L.length := ⟨_, rfl⟩
  have HM := Lib.hid hmm
  rw [← hmm] at hc hL ⊢
  have e6 : (m : Int) % 18446744073709551616 = (m : Int) := by omega
  have e7 : IntKind.u64.wrap (m : Int) = (m : Int) := by rw [IntKind.wrap_u64]; omega
  have HIN : Hid (∀ z ∈ [(m : Int)], 0 ≤ z ∧ z < 18446744073709551616) := Lib.hid (fun z hz => by (simp at hz; subst hz; omega))
  have HEL : Hid (eL envE L = eN [(m : Int)] ++ L.flatMap envE) := Lib.hid (by unfold eL; rw [eN_one, hmm])
  have HFL : Hid (∀ q, ((L.take q).flatMap envE).length ≤ 100000) := Lib.hid (fun q => by have h1 := flat_len (enc := envE) (L.take q) (fun x hx' => (enc_small (hx x (List.mem_of_mem_take hx'))).1); have h2 : (L.take q).length ≤ 256 := (by rw [List.length_take]; omega); omega)
  clear hr hat hx hmm h hl
  go_enter Tryz.func31, Tryz.ntmps31
  go_upto_region 3 with (go_at_call 29; refine (nums_any v l [(m : Int)] 1 _ _ (HRD.out.below (below_alloc _ _)) (by have := HL.out; omega) (show Blk _ _ [.int .u64 (m : Int)] _ from Blk.made w [.int .u64 (m : Int)] _) rfl (by omega) (by omega) HIN.out).mono ?_; rintro e w2 ⟨v2, rfl, hf, hb⟩; have HB2 : Hid (Below w.heap.size w w2) := Lib.hid (below_and (below_alloc _ _) hb); have HF2 : Hid (Fresh w.heap.size w2 v2 (l ++ eN [(m : Int)])) := Lib.hid (hf.mono (by simp)); clear hf hb)
  have HLN : Hid ((l ++ eN [(m : Int)]).length ≤ 2000000000) := Lib.hid (by rw [List.length_append]; have h1 := HL.out; have h2 := eN_len [(m : Int)]; simp at h2; omega)
  go_loopw [0, 17] (fun vb vi wr => ∃ q : Nat, q ≤ m ∧ vi = .int .i64 q ∧ Hid (Fresh w.heap.size wr vb ((l ++ eN [(m : Int)]) ++ (L.take q).flatMap envE) ∧ Below w.heap.size w wr)) (fun _ vi _ => m - (intOf vi).toNat)
  case atStart => exact ⟨0, Nat.zero_le _, by go_num, Lib.hid ⟨by simpa using HF2.out, HB2.out⟩⟩
  case round =>
    obtain ⟨q, hq, rfl, HR⟩ := hrel
    by_cases hlt : q < m
    rotate_left
    · obtain rfl : q = m := by omega
      have e9 : L.take q = L := by rw [HM.out, List.take_length]
      rw [e9] at HR
      go_wp2
      go_ret
      have h9 := HR.out.1
      rw [List.append_assoc, ← HEL.out] at h9
      exact ⟨_, rfl, h9, HR.out.2⟩
    have HI : Hid (q < L.length) := Lib.hid (by rw [← HM.out]; exact hlt)
    obtain ⟨x, hx⟩ : ∃ x, x = L[q]'HI.out := ⟨_, rfl⟩
    have HFX := Lib.hid (HX.out x (by rw [hx]; exact List.getElem_mem _))
    have hlen : (rwC envC L).length = L.length * 5 := rwC_len (show ∀ z, (envC z).length = 5 from fun _ => rfl) L
    rcases HAT.out with ha | ⟨b, o, rfl, ha⟩
    · exact absurd (congrArg List.length ha) (by rw [hlen]; have := HI.out; simp; omega)
    have hcx : ∀ j u, j < 5 → (envC x)[j]? = some u → wr.cell? ⟨b, o + (q * 5 + j), none⟩ = some u := fun j u hj hu => cell_kept (ha _ u (by rw [rwC_at (show ∀ z, (envC z).length = 5 from fun _ => rfl) HI.out hj, ← hx]; exact hu)) HR.out.2
    have x0 : wr.cell? ⟨b, o + q * 5, none⟩ = some (.string (bs x.j)) := by have := hcx 0 _ (by omega) rfl; simpa [Nat.add_assoc] using this
    have x1 : wr.cell? ⟨b, o + q * 5 + 1, none⟩ = some (.int .i64 x.a.c) := by have := hcx 1 _ (by omega) rfl; simpa [Nat.add_assoc] using this
    have x2 : wr.cell? ⟨b, o + q * 5 + 2, none⟩ = some (.int .i64 x.a.r) := by have := hcx 2 _ (by omega) rfl; simpa [Nat.add_assoc] using this
    have x3 : wr.cell? ⟨b, o + q * 5 + 3, none⟩ = some (.int .i64 x.a.d) := by have := hcx 3 _ (by omega) rfl; simpa [Nat.add_assoc] using this
    have x4 : wr.cell? ⟨b, o + q * 5 + 4, none⟩ = some (.int .i64 x.a.p) := by have := hcx 4 _ (by omega) rfl; simpa [Nat.add_assoc] using this
    have HN : Hid (((l ++ eN [(m : Int)]) ++ (L.take (q + 1)).flatMap envE) = ((l ++ eN [(m : Int)]) ++ (L.take q).flatMap envE) ++ envE x) := Lib.hid (by rw [List.take_succ_eq_append_getElem HI.out, ← hx, List.flatMap_append]; simp)
    clear ha hcx hlen hx
    have i1 : (q : Int) < (m : Int) := by omega
    go_upto_region 5 with fail
    obtain ⟨X, hX⟩ : ∃ X, X = wr.heap.size := ⟨_, rfl⟩
    obtain ⟨w3, hw3⟩ : ∃ w3, w3 = wr.alloc (.cells #[.string (bs x.j), .int .i64 x.a.c, .int .i64 x.a.r, .int .i64 x.a.d, .int .i64 x.a.p] 66) := ⟨_, rfl⟩
    have HX3 : Hid (Blk w3 X [.string (bs x.j), .int .i64 x.a.c, .int .i64 x.a.r, .int .i64 x.a.d, .int .i64 x.a.p] 66) := Lib.hid (by rw [hw3, hX]; exact Blk.made wr [.string (bs x.j), .int .i64 x.a.c, .int .i64 x.a.r, .int .i64 x.a.d, .int .i64 x.a.p] _)
    have HB3 : Hid (Below wr.heap.size wr w3) := Lib.hid (by rw [hw3]; exact below_alloc _ _)
    rw [← hw3, ← hX]
    clear hw3 hX x0 x1 x2 x3 x4
    have y0 := HX3.out.cell (j := 0) rfl
    have y1 := HX3.out.cell (j := 1) rfl
    have y2 := HX3.out.cell (j := 2) rfl
    have y3 := HX3.out.cell (j := 3) rfl
    have y4 := HX3.out.cell (j := 4) rfl
    go_wp2_with (go_at_call 32; refine (envE_any u0 _ x _ (HR.out.1.rd.below HB3.out) (by rw [List.length_append]; have h1 := HLN.out; have h2 := HFL.out q; omega) HFX.out).mono ?_; rintro e w4 ⟨v4, rfl, hf, hb⟩; have HB4 := Lib.hid (below_and HR.out.2 (below_and HB3.out hb)); have HF4 := Lib.hid (hf.mono (Nat.le_trans HR.out.2.size HB3.out.size)); clear hf hb)
    go_roundw
    case rel => exact ⟨q + 1, hlt, by go_num, Lib.hid ⟨by rw [HN.out]; exact HF4.out, HB4.out⟩⟩
    case measure => simp [intOf]; omega
set_option maxRecDepth 100000 in
set_option maxHeartbeats 4000000 in
theorem staP_any (v vl : Value) (l : List UInt8) (L : List El) (w : World) (h : Rd w v l) (hl : l.length ≤ 1000000000) (hr : Row w vl 8 L.length (rwC staC L)) (hL : L.length ≤ 256) (hx : ∀ x ∈ L, Ft x) : Calls Tryz.prog 35 #[v, vl, .func (.func 36) #[] #[]] w fun e w' => ∃ v', e = .returned v' ∧ Fresh w.heap.size w' v' (l ++ eL staE L) ∧ Below w.heap.size w w' := by
  obtain ⟨p, c, rfl, hc, hm, hat⟩ := row_el hr
  unfold maxLen at hm
  have HAT := Lib.hid hat
  have HX := Lib.hid hx
  have HRD := Lib.hid h
  have HL := Lib.hid hl
  obtain ⟨m, hmm⟩ : ∃ m, m = L.length := ⟨_, rfl⟩
  have HM := Lib.hid hmm
  rw [← hmm] at hc hL ⊢
  have e6 : (m : Int) % 18446744073709551616 = (m : Int) := by omega
  have e7 : IntKind.u64.wrap (m : Int) = (m : Int) := by rw [IntKind.wrap_u64]; omega
  have HIN : Hid (∀ z ∈ [(m : Int)], 0 ≤ z ∧ z < 18446744073709551616) := Lib.hid (fun z hz => by (simp at hz; subst hz; omega))
  have HEL : Hid (eL staE L = eN [(m : Int)] ++ L.flatMap staE) := Lib.hid (by unfold eL; rw [eN_one, hmm])
  have HFL : Hid (∀ q, ((L.take q).flatMap staE).length ≤ 100000) := Lib.hid (fun q => by have h1 := flat_len (enc := staE) (L.take q) (fun x hx' => (enc_small (hx x (List.mem_of_mem_take hx'))).2.1); have h2 : (L.take q).length ≤ 256 := (by rw [List.length_take]; omega); omega)
  clear hr hat hx hmm h hl
  go_enter Tryz.func35, Tryz.ntmps35
  go_upto_region 3 with (go_at_call 29; refine (nums_any v l [(m : Int)] 1 _ _ (HRD.out.below (below_alloc _ _)) (by have := HL.out; omega) (show Blk _ _ [.int .u64 (m : Int)] _ from Blk.made w [.int .u64 (m : Int)] _) rfl (by omega) (by omega) HIN.out).mono ?_; rintro e w2 ⟨v2, rfl, hf, hb⟩; have HB2 : Hid (Below w.heap.size w w2) := Lib.hid (below_and (below_alloc _ _) hb); have HF2 : Hid (Fresh w.heap.size w2 v2 (l ++ eN [(m : Int)])) := Lib.hid (hf.mono (by simp)); clear hf hb)
  have HLN : Hid ((l ++ eN [(m : Int)]).length ≤ 2000000000) := Lib.hid (by rw [List.length_append]; have h1 := HL.out; have h2 := eN_len [(m : Int)]; simp at h2; omega)
  go_loopw [0, 17] (fun vb vi wr => ∃ q : Nat, q ≤ m ∧ vi = .int .i64 q ∧ Hid (Fresh w.heap.size wr vb ((l ++ eN [(m : Int)]) ++ (L.take q).flatMap staE) ∧ Below w.heap.size w wr)) (fun _ vi _ => m - (intOf vi).toNat)
  case atStart => exact ⟨0, Nat.zero_le _, by go_num, Lib.hid ⟨by simpa using HF2.out, HB2.out⟩⟩
  case round =>
    obtain ⟨q, hq, rfl, HR⟩ := hrel
    by_cases hlt : q < m
    rotate_left
    · obtain rfl : q = m := by omega
      have e9 : L.take q = L := by rw [HM.out, List.take_length]
      rw [e9] at HR
      go_wp2
      go_ret
      have h9 := HR.out.1
      rw [List.append_assoc, ← HEL.out] at h9
      exact ⟨_, rfl, h9, HR.out.2⟩
    have HI : Hid (q < L.length) := Lib.hid (by rw [← HM.out]; exact hlt)
    obtain ⟨x, hx⟩ : ∃ x, x = L[q]'HI.out := ⟨_, rfl⟩
    have HFX := Lib.hid (HX.out x (by rw [hx]; exact List.getElem_mem _))
    have hlen : (rwC staC L).length = L.length * 8 := rwC_len (show ∀ z, (staC z).length = 8 from fun _ => rfl) L
    rcases HAT.out with ha | ⟨b, o, rfl, ha⟩
    · exact absurd (congrArg List.length ha) (by rw [hlen]; have := HI.out; simp; omega)
    have hcx : ∀ j u, j < 8 → (staC x)[j]? = some u → wr.cell? ⟨b, o + (q * 8 + j), none⟩ = some u := fun j u hj hu => cell_kept (ha _ u (by rw [rwC_at (show ∀ z, (staC z).length = 8 from fun _ => rfl) HI.out hj, ← hx]; exact hu)) HR.out.2
    have x0 : wr.cell? ⟨b, o + q * 8, none⟩ = some (.string (bs x.j)) := by have := hcx 0 _ (by omega) rfl; simpa [Nat.add_assoc] using this
    have x1 : wr.cell? ⟨b, o + q * 8 + 1, none⟩ = some (.int .i64 x.i) := by have := hcx 1 _ (by omega) rfl; simpa [Nat.add_assoc] using this
    have x2 : wr.cell? ⟨b, o + q * 8 + 2, none⟩ = some (.int .u64 x.n) := by have := hcx 2 _ (by omega) rfl; simpa [Nat.add_assoc] using this
    have x3 : wr.cell? ⟨b, o + q * 8 + 3, none⟩ = some (.int .i64 x.a.c) := by have := hcx 3 _ (by omega) rfl; simpa [Nat.add_assoc] using this
    have x4 : wr.cell? ⟨b, o + q * 8 + 4, none⟩ = some (.int .i64 x.a.r) := by have := hcx 4 _ (by omega) rfl; simpa [Nat.add_assoc] using this
    have x5 : wr.cell? ⟨b, o + q * 8 + 5, none⟩ = some (.int .i64 x.a.d) := by have := hcx 5 _ (by omega) rfl; simpa [Nat.add_assoc] using this
    have x6 : wr.cell? ⟨b, o + q * 8 + 6, none⟩ = some (.int .i64 x.a.p) := by have := hcx 6 _ (by omega) rfl; simpa [Nat.add_assoc] using this
    have x7 : wr.cell? ⟨b, o + q * 8 + 7, none⟩ = some (.string (bs x.s)) := by have := hcx 7 _ (by omega) rfl; simpa [Nat.add_assoc] using this
    have HN : Hid (((l ++ eN [(m : Int)]) ++ (L.take (q + 1)).flatMap staE) = ((l ++ eN [(m : Int)]) ++ (L.take q).flatMap staE) ++ staE x) := Lib.hid (by rw [List.take_succ_eq_append_getElem HI.out, ← hx, List.flatMap_append]; simp)
    clear ha hcx hlen hx
    have i1 : (q : Int) < (m : Int) := by omega
    go_upto_region 5 with fail
    obtain ⟨X, hX⟩ : ∃ X, X = wr.heap.size := ⟨_, rfl⟩
    obtain ⟨w3, hw3⟩ : ∃ w3, w3 = wr.alloc (.cells #[.string (bs x.j), .int .i64 x.i, .int .u64 x.n, .int .i64 x.a.c, .int .i64 x.a.r, .int .i64 x.a.d, .int .i64 x.a.p, .string (bs x.s)] 39) := ⟨_, rfl⟩
    have HX3 : Hid (Blk w3 X [.string (bs x.j), .int .i64 x.i, .int .u64 x.n, .int .i64 x.a.c, .int .i64 x.a.r, .int .i64 x.a.d, .int .i64 x.a.p, .string (bs x.s)] 39) := Lib.hid (by rw [hw3, hX]; exact Blk.made wr [.string (bs x.j), .int .i64 x.i, .int .u64 x.n, .int .i64 x.a.c, .int .i64 x.a.r, .int .i64 x.a.d, .int .i64 x.a.p, .string (bs x.s)] _)
    have HB3 : Hid (Below wr.heap.size wr w3) := Lib.hid (by rw [hw3]; exact below_alloc _ _)
    rw [← hw3, ← hX]
    clear hw3 hX x0 x1 x2 x3 x4 x5 x6 x7
    have y0 := HX3.out.cell (j := 0) rfl
    have y1 := HX3.out.cell (j := 1) rfl
    have y2 := HX3.out.cell (j := 2) rfl
    have y3 := HX3.out.cell (j := 3) rfl
    have y4 := HX3.out.cell (j := 4) rfl
    have y5 := HX3.out.cell (j := 5) rfl
    have y6 := HX3.out.cell (j := 6) rfl
    have y7 := HX3.out.cell (j := 7) rfl
    go_wp2_with (go_at_call 36; refine (staE_any u0 _ x _ (HR.out.1.rd.below HB3.out) (by rw [List.length_append]; have h1 := HLN.out; have h2 := HFL.out q; omega) HFX.out).mono ?_; rintro e w4 ⟨v4, rfl, hf, hb⟩; have HB4 := Lib.hid (below_and HR.out.2 (below_and HB3.out hb)); have HF4 := Lib.hid (hf.mono (Nat.le_trans HR.out.2.size HB3.out.size)); clear hf hb)
    go_roundw
    case rel => exact ⟨q + 1, hlt, by go_num, Lib.hid ⟨by rw [HN.out]; exact HF4.out, HB4.out⟩⟩
    case measure => simp [intOf]; omega
set_option maxRecDepth 100000 in
set_option maxHeartbeats 4000000 in
theorem stoP_any (v vl : Value) (l : List UInt8) (L : List El) (w : World) (h : Rd w v l) (hl : l.length ≤ 1000000000) (hr : Row w vl 3 L.length (rwC stoC L)) (hL : L.length ≤ 256) (hx : ∀ x ∈ L, Ft x) : Calls Tryz.prog 38 #[v, vl, .func (.func 39) #[] #[]] w fun e w' => ∃ v', e = .returned v' ∧ Fresh w.heap.size w' v' (l ++ eL stoE L) ∧ Below w.heap.size w w' := by
  obtain ⟨p, c, rfl, hc, hm, hat⟩ := row_el hr
  unfold maxLen at hm
  have HAT := Lib.hid hat
  have HX := Lib.hid hx
  have HRD := Lib.hid h
  have HL := Lib.hid hl
  obtain ⟨m, hmm⟩ : ∃ m, m = L.length := ⟨_, rfl⟩
  have HM := Lib.hid hmm
  rw [← hmm] at hc hL ⊢
  have e6 : (m : Int) % 18446744073709551616 = (m : Int) := by omega
  have e7 : IntKind.u64.wrap (m : Int) = (m : Int) := by rw [IntKind.wrap_u64]; omega
  have HIN : Hid (∀ z ∈ [(m : Int)], 0 ≤ z ∧ z < 18446744073709551616) := Lib.hid (fun z hz => by (simp at hz; subst hz; omega))
  have HEL : Hid (eL stoE L = eN [(m : Int)] ++ L.flatMap stoE) := Lib.hid (by unfold eL; rw [eN_one, hmm])
  have HFL : Hid (∀ q, ((L.take q).flatMap stoE).length ≤ 100000) := Lib.hid (fun q => by have h1 := flat_len (enc := stoE) (L.take q) (fun x hx' => (enc_small (hx x (List.mem_of_mem_take hx'))).2.2.1); have h2 : (L.take q).length ≤ 256 := (by rw [List.length_take]; omega); omega)
  clear hr hat hx hmm h hl
  go_enter Tryz.func38, Tryz.ntmps38
  go_upto_region 3 with (go_at_call 29; refine (nums_any v l [(m : Int)] 1 _ _ (HRD.out.below (below_alloc _ _)) (by have := HL.out; omega) (show Blk _ _ [.int .u64 (m : Int)] _ from Blk.made w [.int .u64 (m : Int)] _) rfl (by omega) (by omega) HIN.out).mono ?_; rintro e w2 ⟨v2, rfl, hf, hb⟩; have HB2 : Hid (Below w.heap.size w w2) := Lib.hid (below_and (below_alloc _ _) hb); have HF2 : Hid (Fresh w.heap.size w2 v2 (l ++ eN [(m : Int)])) := Lib.hid (hf.mono (by simp)); clear hf hb)
  have HLN : Hid ((l ++ eN [(m : Int)]).length ≤ 2000000000) := Lib.hid (by rw [List.length_append]; have h1 := HL.out; have h2 := eN_len [(m : Int)]; simp at h2; omega)
  go_loopw [0, 17] (fun vb vi wr => ∃ q : Nat, q ≤ m ∧ vi = .int .i64 q ∧ Hid (Fresh w.heap.size wr vb ((l ++ eN [(m : Int)]) ++ (L.take q).flatMap stoE) ∧ Below w.heap.size w wr)) (fun _ vi _ => m - (intOf vi).toNat)
  case atStart => exact ⟨0, Nat.zero_le _, by go_num, Lib.hid ⟨by simpa using HF2.out, HB2.out⟩⟩
  case round =>
    obtain ⟨q, hq, rfl, HR⟩ := hrel
    by_cases hlt : q < m
    rotate_left
    · obtain rfl : q = m := by omega
      have e9 : L.take q = L := by rw [HM.out, List.take_length]
      rw [e9] at HR
      go_wp2
      go_ret
      have h9 := HR.out.1
      rw [List.append_assoc, ← HEL.out] at h9
      exact ⟨_, rfl, h9, HR.out.2⟩
    have HI : Hid (q < L.length) := Lib.hid (by rw [← HM.out]; exact hlt)
    obtain ⟨x, hx⟩ : ∃ x, x = L[q]'HI.out := ⟨_, rfl⟩
    have HFX := Lib.hid (HX.out x (by rw [hx]; exact List.getElem_mem _))
    have hlen : (rwC stoC L).length = L.length * 3 := rwC_len (show ∀ z, (stoC z).length = 3 from fun _ => rfl) L
    rcases HAT.out with ha | ⟨b, o, rfl, ha⟩
    · exact absurd (congrArg List.length ha) (by rw [hlen]; have := HI.out; simp; omega)
    have hcx : ∀ j u, j < 3 → (stoC x)[j]? = some u → wr.cell? ⟨b, o + (q * 3 + j), none⟩ = some u := fun j u hj hu => cell_kept (ha _ u (by rw [rwC_at (show ∀ z, (stoC z).length = 3 from fun _ => rfl) HI.out hj, ← hx]; exact hu)) HR.out.2
    have x0 : wr.cell? ⟨b, o + q * 3, none⟩ = some (.string (bs x.j)) := by have := hcx 0 _ (by omega) rfl; simpa [Nat.add_assoc] using this
    have x1 : wr.cell? ⟨b, o + q * 3 + 1, none⟩ = some (.int .i64 x.i) := by have := hcx 1 _ (by omega) rfl; simpa [Nat.add_assoc] using this
    have x2 : wr.cell? ⟨b, o + q * 3 + 2, none⟩ = some (.int .u64 x.n) := by have := hcx 2 _ (by omega) rfl; simpa [Nat.add_assoc] using this
    have HN : Hid (((l ++ eN [(m : Int)]) ++ (L.take (q + 1)).flatMap stoE) = ((l ++ eN [(m : Int)]) ++ (L.take q).flatMap stoE) ++ stoE x) := Lib.hid (by rw [List.take_succ_eq_append_getElem HI.out, ← hx, List.flatMap_append]; simp)
    clear ha hcx hlen hx
    have i1 : (q : Int) < (m : Int) := by omega
    go_upto_region 5 with fail
    obtain ⟨X, hX⟩ : ∃ X, X = wr.heap.size := ⟨_, rfl⟩
    obtain ⟨w3, hw3⟩ : ∃ w3, w3 = wr.alloc (.cells #[.string (bs x.j), .int .i64 x.i, .int .u64 x.n] 75) := ⟨_, rfl⟩
    have HX3 : Hid (Blk w3 X [.string (bs x.j), .int .i64 x.i, .int .u64 x.n] 75) := Lib.hid (by rw [hw3, hX]; exact Blk.made wr [.string (bs x.j), .int .i64 x.i, .int .u64 x.n] _)
    have HB3 : Hid (Below wr.heap.size wr w3) := Lib.hid (by rw [hw3]; exact below_alloc _ _)
    rw [← hw3, ← hX]
    clear hw3 hX x0 x1 x2
    have y0 := HX3.out.cell (j := 0) rfl
    have y1 := HX3.out.cell (j := 1) rfl
    have y2 := HX3.out.cell (j := 2) rfl
    go_wp2_with (go_at_call 39; refine (stoE_any u0 _ x _ (HR.out.1.rd.below HB3.out) (by rw [List.length_append]; have h1 := HLN.out; have h2 := HFL.out q; omega) HFX.out).mono ?_; rintro e w4 ⟨v4, rfl, hf, hb⟩; have HB4 := Lib.hid (below_and HR.out.2 (below_and HB3.out hb)); have HF4 := Lib.hid (hf.mono (Nat.le_trans HR.out.2.size HB3.out.size)); clear hf hb)
    go_roundw
    case rel => exact ⟨q + 1, hlt, by go_num, Lib.hid ⟨by rw [HN.out]; exact HF4.out, HB4.out⟩⟩
    case measure => simp [intOf]; omega
set_option maxRecDepth 100000 in
set_option maxHeartbeats 4000000 in
theorem helP_any (v vl : Value) (l : List UInt8) (L : List El) (w : World) (h : Rd w v l) (hl : l.length ≤ 1000000000) (hr : Row w vl 4 L.length (rwC helC L)) (hL : L.length ≤ 256) (hx : ∀ x ∈ L, Ft x) : Calls Tryz.prog 82 #[v, vl, .func (.func 83) #[] #[]] w fun e w' => ∃ v', e = .returned v' ∧ Fresh w.heap.size w' v' (l ++ eL helE L) ∧ Below w.heap.size w w' := by
  obtain ⟨p, c, rfl, hc, hm, hat⟩ := row_el hr
  unfold maxLen at hm
  have HAT := Lib.hid hat
  have HX := Lib.hid hx
  have HRD := Lib.hid h
  have HL := Lib.hid hl
  obtain ⟨m, hmm⟩ : ∃ m, m = L.length := ⟨_, rfl⟩
  have HM := Lib.hid hmm
  rw [← hmm] at hc hL ⊢
  have e6 : (m : Int) % 18446744073709551616 = (m : Int) := by omega
  have e7 : IntKind.u64.wrap (m : Int) = (m : Int) := by rw [IntKind.wrap_u64]; omega
  have HIN : Hid (∀ z ∈ [(m : Int)], 0 ≤ z ∧ z < 18446744073709551616) := Lib.hid (fun z hz => by (simp at hz; subst hz; omega))
  have HEL : Hid (eL helE L = eN [(m : Int)] ++ L.flatMap helE) := Lib.hid (by unfold eL; rw [eN_one, hmm])
  have HFL : Hid (∀ q, ((L.take q).flatMap helE).length ≤ 100000) := Lib.hid (fun q => by have h1 := flat_len (enc := helE) (L.take q) (fun x hx' => (enc_small (hx x (List.mem_of_mem_take hx'))).2.2.2.1); have h2 : (L.take q).length ≤ 256 := (by rw [List.length_take]; omega); omega)
  clear hr hat hx hmm h hl
  go_enter Tryz.func82, Tryz.ntmps82
  go_upto_region 3 with (go_at_call 29; refine (nums_any v l [(m : Int)] 1 _ _ (HRD.out.below (below_alloc _ _)) (by have := HL.out; omega) (show Blk _ _ [.int .u64 (m : Int)] _ from Blk.made w [.int .u64 (m : Int)] _) rfl (by omega) (by omega) HIN.out).mono ?_; rintro e w2 ⟨v2, rfl, hf, hb⟩; have HB2 : Hid (Below w.heap.size w w2) := Lib.hid (below_and (below_alloc _ _) hb); have HF2 : Hid (Fresh w.heap.size w2 v2 (l ++ eN [(m : Int)])) := Lib.hid (hf.mono (by simp)); clear hf hb)
  have HLN : Hid ((l ++ eN [(m : Int)]).length ≤ 2000000000) := Lib.hid (by rw [List.length_append]; have h1 := HL.out; have h2 := eN_len [(m : Int)]; simp at h2; omega)
  go_loopw [0, 17] (fun vb vi wr => ∃ q : Nat, q ≤ m ∧ vi = .int .i64 q ∧ Hid (Fresh w.heap.size wr vb ((l ++ eN [(m : Int)]) ++ (L.take q).flatMap helE) ∧ Below w.heap.size w wr)) (fun _ vi _ => m - (intOf vi).toNat)
  case atStart => exact ⟨0, Nat.zero_le _, by go_num, Lib.hid ⟨by simpa using HF2.out, HB2.out⟩⟩
  case round =>
    obtain ⟨q, hq, rfl, HR⟩ := hrel
    by_cases hlt : q < m
    rotate_left
    · obtain rfl : q = m := by omega
      have e9 : L.take q = L := by rw [HM.out, List.take_length]
      rw [e9] at HR
      go_wp2
      go_ret
      have h9 := HR.out.1
      rw [List.append_assoc, ← HEL.out] at h9
      exact ⟨_, rfl, h9, HR.out.2⟩
    have HI : Hid (q < L.length) := Lib.hid (by rw [← HM.out]; exact hlt)
    obtain ⟨x, hx⟩ : ∃ x, x = L[q]'HI.out := ⟨_, rfl⟩
    have HFX := Lib.hid (HX.out x (by rw [hx]; exact List.getElem_mem _))
    have hlen : (rwC helC L).length = L.length * 4 := rwC_len (show ∀ z, (helC z).length = 4 from fun _ => rfl) L
    rcases HAT.out with ha | ⟨b, o, rfl, ha⟩
    · exact absurd (congrArg List.length ha) (by rw [hlen]; have := HI.out; simp; omega)
    have hcx : ∀ j u, j < 4 → (helC x)[j]? = some u → wr.cell? ⟨b, o + (q * 4 + j), none⟩ = some u := fun j u hj hu => cell_kept (ha _ u (by rw [rwC_at (show ∀ z, (helC z).length = 4 from fun _ => rfl) HI.out hj, ← hx]; exact hu)) HR.out.2
    have x0 : wr.cell? ⟨b, o + q * 4, none⟩ = some (.string (bs x.j)) := by have := hcx 0 _ (by omega) rfl; simpa [Nat.add_assoc] using this
    have x1 : wr.cell? ⟨b, o + q * 4 + 1, none⟩ = some (.int .i64 x.i) := by have := hcx 1 _ (by omega) rfl; simpa [Nat.add_assoc] using this
    have x2 : wr.cell? ⟨b, o + q * 4 + 2, none⟩ = some (.int .u64 x.n) := by have := hcx 2 _ (by omega) rfl; simpa [Nat.add_assoc] using this
    have x3 : wr.cell? ⟨b, o + q * 4 + 3, none⟩ = some (.int .i64 x.q) := by have := hcx 3 _ (by omega) rfl; simpa [Nat.add_assoc] using this
    have HN : Hid (((l ++ eN [(m : Int)]) ++ (L.take (q + 1)).flatMap helE) = ((l ++ eN [(m : Int)]) ++ (L.take q).flatMap helE) ++ helE x) := Lib.hid (by rw [List.take_succ_eq_append_getElem HI.out, ← hx, List.flatMap_append]; simp)
    clear ha hcx hlen hx
    have i1 : (q : Int) < (m : Int) := by omega
    go_upto_region 5 with fail
    obtain ⟨X, hX⟩ : ∃ X, X = wr.heap.size := ⟨_, rfl⟩
    obtain ⟨w3, hw3⟩ : ∃ w3, w3 = wr.alloc (.cells #[.string (bs x.j), .int .i64 x.i, .int .u64 x.n, .int .i64 x.q] 88) := ⟨_, rfl⟩
    have HX3 : Hid (Blk w3 X [.string (bs x.j), .int .i64 x.i, .int .u64 x.n, .int .i64 x.q] 88) := Lib.hid (by rw [hw3, hX]; exact Blk.made wr [.string (bs x.j), .int .i64 x.i, .int .u64 x.n, .int .i64 x.q] _)
    have HB3 : Hid (Below wr.heap.size wr w3) := Lib.hid (by rw [hw3]; exact below_alloc _ _)
    rw [← hw3, ← hX]
    clear hw3 hX x0 x1 x2 x3
    have y0 := HX3.out.cell (j := 0) rfl
    have y1 := HX3.out.cell (j := 1) rfl
    have y2 := HX3.out.cell (j := 2) rfl
    have y3 := HX3.out.cell (j := 3) rfl
    go_wp2_with (go_at_call 83; refine (helE_any u0 _ x _ (HR.out.1.rd.below HB3.out) (by rw [List.length_append]; have h1 := HLN.out; have h2 := HFL.out q; omega) HFX.out).mono ?_; rintro e w4 ⟨v4, rfl, hf, hb⟩; have HB4 := Lib.hid (below_and HR.out.2 (below_and HB3.out hb)); have HF4 := Lib.hid (hf.mono (Nat.le_trans HR.out.2.size HB3.out.size)); clear hf hb)
    go_roundw
    case rel => exact ⟨q + 1, hlt, by go_num, Lib.hid ⟨by rw [HN.out]; exact HF4.out, HB4.out⟩⟩
    case measure => simp [intOf]; omega
set_option maxRecDepth 100000 in
set_option maxHeartbeats 4000000 in
theorem finP_any (v vl : Value) (l : List UInt8) (L : List El) (w : World) (h : Rd w v l) (hl : l.length ≤ 1000000000) (hr : Row w vl 5 L.length (rwC finC L)) (hL : L.length ≤ 256) (hx : ∀ x ∈ L, Ft x) : Calls Tryz.prog 84 #[v, vl, .func (.func 85) #[] #[]] w fun e w' => ∃ v', e = .returned v' ∧ Fresh w.heap.size w' v' (l ++ eL finE L) ∧ Below w.heap.size w w' := by
  obtain ⟨p, c, rfl, hc, hm, hat⟩ := row_el hr
  unfold maxLen at hm
  have HAT := Lib.hid hat
  have HX := Lib.hid hx
  have HRD := Lib.hid h
  have HL := Lib.hid hl
  obtain ⟨m, hmm⟩ : ∃ m, m = L.length := ⟨_, rfl⟩
  have HM := Lib.hid hmm
  rw [← hmm] at hc hL ⊢
  have e6 : (m : Int) % 18446744073709551616 = (m : Int) := by omega
  have e7 : IntKind.u64.wrap (m : Int) = (m : Int) := by rw [IntKind.wrap_u64]; omega
  have HIN : Hid (∀ z ∈ [(m : Int)], 0 ≤ z ∧ z < 18446744073709551616) := Lib.hid (fun z hz => by (simp at hz; subst hz; omega))
  have HEL : Hid (eL finE L = eN [(m : Int)] ++ L.flatMap finE) := Lib.hid (by unfold eL; rw [eN_one, hmm])
  have HFL : Hid (∀ q, ((L.take q).flatMap finE).length ≤ 100000) := Lib.hid (fun q => by have h1 := flat_len (enc := finE) (L.take q) (fun x hx' => (enc_small (hx x (List.mem_of_mem_take hx'))).2.2.2.2.1); have h2 : (L.take q).length ≤ 256 := (by rw [List.length_take]; omega); omega)
  clear hr hat hx hmm h hl
  go_enter Tryz.func84, Tryz.ntmps84
  go_upto_region 3 with (go_at_call 29; refine (nums_any v l [(m : Int)] 1 _ _ (HRD.out.below (below_alloc _ _)) (by have := HL.out; omega) (show Blk _ _ [.int .u64 (m : Int)] _ from Blk.made w [.int .u64 (m : Int)] _) rfl (by omega) (by omega) HIN.out).mono ?_; rintro e w2 ⟨v2, rfl, hf, hb⟩; have HB2 : Hid (Below w.heap.size w w2) := Lib.hid (below_and (below_alloc _ _) hb); have HF2 : Hid (Fresh w.heap.size w2 v2 (l ++ eN [(m : Int)])) := Lib.hid (hf.mono (by simp)); clear hf hb)
  have HLN : Hid ((l ++ eN [(m : Int)]).length ≤ 2000000000) := Lib.hid (by rw [List.length_append]; have h1 := HL.out; have h2 := eN_len [(m : Int)]; simp at h2; omega)
  go_loopw [0, 17] (fun vb vi wr => ∃ q : Nat, q ≤ m ∧ vi = .int .i64 q ∧ Hid (Fresh w.heap.size wr vb ((l ++ eN [(m : Int)]) ++ (L.take q).flatMap finE) ∧ Below w.heap.size w wr)) (fun _ vi _ => m - (intOf vi).toNat)
  case atStart => exact ⟨0, Nat.zero_le _, by go_num, Lib.hid ⟨by simpa using HF2.out, HB2.out⟩⟩
  case round =>
    obtain ⟨q, hq, rfl, HR⟩ := hrel
    by_cases hlt : q < m
    rotate_left
    · obtain rfl : q = m := by omega
      have e9 : L.take q = L := by rw [HM.out, List.take_length]
      rw [e9] at HR
      go_wp2
      go_ret
      have h9 := HR.out.1
      rw [List.append_assoc, ← HEL.out] at h9
      exact ⟨_, rfl, h9, HR.out.2⟩
    have HI : Hid (q < L.length) := Lib.hid (by rw [← HM.out]; exact hlt)
    obtain ⟨x, hx⟩ : ∃ x, x = L[q]'HI.out := ⟨_, rfl⟩
    have HFX := Lib.hid (HX.out x (by rw [hx]; exact List.getElem_mem _))
    have hlen : (rwC finC L).length = L.length * 5 := rwC_len (show ∀ z, (finC z).length = 5 from fun _ => rfl) L
    rcases HAT.out with ha | ⟨b, o, rfl, ha⟩
    · exact absurd (congrArg List.length ha) (by rw [hlen]; have := HI.out; simp; omega)
    have hcx : ∀ j u, j < 5 → (finC x)[j]? = some u → wr.cell? ⟨b, o + (q * 5 + j), none⟩ = some u := fun j u hj hu => cell_kept (ha _ u (by rw [rwC_at (show ∀ z, (finC z).length = 5 from fun _ => rfl) HI.out hj, ← hx]; exact hu)) HR.out.2
    have x0 : wr.cell? ⟨b, o + q * 5, none⟩ = some (.int .u64 x.k) := by have := hcx 0 _ (by omega) rfl; simpa [Nat.add_assoc] using this
    have x1 : wr.cell? ⟨b, o + q * 5 + 1, none⟩ = some (.string (bs x.j)) := by have := hcx 1 _ (by omega) rfl; simpa [Nat.add_assoc] using this
    have x2 : wr.cell? ⟨b, o + q * 5 + 2, none⟩ = some (.int .i64 x.i) := by have := hcx 2 _ (by omega) rfl; simpa [Nat.add_assoc] using this
    have x3 : wr.cell? ⟨b, o + q * 5 + 3, none⟩ = some (.int .u64 x.n) := by have := hcx 3 _ (by omega) rfl; simpa [Nat.add_assoc] using this
    have x4 : wr.cell? ⟨b, o + q * 5 + 4, none⟩ = some (.int .i64 x.q) := by have := hcx 4 _ (by omega) rfl; simpa [Nat.add_assoc] using this
    have HN : Hid (((l ++ eN [(m : Int)]) ++ (L.take (q + 1)).flatMap finE) = ((l ++ eN [(m : Int)]) ++ (L.take q).flatMap finE) ++ finE x) := Lib.hid (by rw [List.take_succ_eq_append_getElem HI.out, ← hx, List.flatMap_append]; simp)
    clear ha hcx hlen hx
    have i1 : (q : Int) < (m : Int) := by omega
    go_upto_region 5 with fail
    obtain ⟨X, hX⟩ : ∃ X, X = wr.heap.size := ⟨_, rfl⟩
    obtain ⟨w3, hw3⟩ : ∃ w3, w3 = wr.alloc (.cells #[.int .u64 x.k, .string (bs x.j), .int .i64 x.i, .int .u64 x.n, .int .i64 x.q] 95) := ⟨_, rfl⟩
    have HX3 : Hid (Blk w3 X [.int .u64 x.k, .string (bs x.j), .int .i64 x.i, .int .u64 x.n, .int .i64 x.q] 95) := Lib.hid (by rw [hw3, hX]; exact Blk.made wr [.int .u64 x.k, .string (bs x.j), .int .i64 x.i, .int .u64 x.n, .int .i64 x.q] _)
    have HB3 : Hid (Below wr.heap.size wr w3) := Lib.hid (by rw [hw3]; exact below_alloc _ _)
    rw [← hw3, ← hX]
    clear hw3 hX x0 x1 x2 x3 x4
    have y0 := HX3.out.cell (j := 0) rfl
    have y1 := HX3.out.cell (j := 1) rfl
    have y2 := HX3.out.cell (j := 2) rfl
    have y3 := HX3.out.cell (j := 3) rfl
    have y4 := HX3.out.cell (j := 4) rfl
    go_wp2_with (go_at_call 85; refine (finE_any u0 _ x _ (HR.out.1.rd.below HB3.out) (by rw [List.length_append]; have h1 := HLN.out; have h2 := HFL.out q; omega) HFX.out).mono ?_; rintro e w4 ⟨v4, rfl, hf, hb⟩; have HB4 := Lib.hid (below_and HR.out.2 (below_and HB3.out hb)); have HF4 := Lib.hid (hf.mono (Nat.le_trans HR.out.2.size HB3.out.size)); clear hf hb)
    go_roundw
    case rel => exact ⟨q + 1, hlt, by go_num, Lib.hid ⟨by rw [HN.out]; exact HF4.out, HB4.out⟩⟩
    case measure => simp [intOf]; omega
set_option maxRecDepth 100000 in
set_option maxHeartbeats 4000000 in
theorem refP_any (v vl : Value) (l : List UInt8) (L : List El) (w : World) (h : Rd w v l) (hl : l.length ≤ 1000000000) (hr : Row w vl 4 L.length (rwC refC L)) (hL : L.length ≤ 256) (hx : ∀ x ∈ L, Ft x) : Calls Tryz.prog 86 #[v, vl, .func (.func 87) #[] #[]] w fun e w' => ∃ v', e = .returned v' ∧ Fresh w.heap.size w' v' (l ++ eL refE L) ∧ Below w.heap.size w w' := by
  obtain ⟨p, c, rfl, hc, hm, hat⟩ := row_el hr
  unfold maxLen at hm
  have HAT := Lib.hid hat
  have HX := Lib.hid hx
  have HRD := Lib.hid h
  have HL := Lib.hid hl
  obtain ⟨m, hmm⟩ : ∃ m, m = L.length := ⟨_, rfl⟩
  have HM := Lib.hid hmm
  rw [← hmm] at hc hL ⊢
  have e6 : (m : Int) % 18446744073709551616 = (m : Int) := by omega
  have e7 : IntKind.u64.wrap (m : Int) = (m : Int) := by rw [IntKind.wrap_u64]; omega
  have HIN : Hid (∀ z ∈ [(m : Int)], 0 ≤ z ∧ z < 18446744073709551616) := Lib.hid (fun z hz => by (simp at hz; subst hz; omega))
  have HEL : Hid (eL refE L = eN [(m : Int)] ++ L.flatMap refE) := Lib.hid (by unfold eL; rw [eN_one, hmm])
  have HFL : Hid (∀ q, ((L.take q).flatMap refE).length ≤ 100000) := Lib.hid (fun q => by have h1 := flat_len (enc := refE) (L.take q) (fun x hx' => (enc_small (hx x (List.mem_of_mem_take hx'))).2.2.2.2.2); have h2 : (L.take q).length ≤ 256 := (by rw [List.length_take]; omega); omega)
  clear hr hat hx hmm h hl
  go_enter Tryz.func86, Tryz.ntmps86
  go_upto_region 3 with (go_at_call 29; refine (nums_any v l [(m : Int)] 1 _ _ (HRD.out.below (below_alloc _ _)) (by have := HL.out; omega) (show Blk _ _ [.int .u64 (m : Int)] _ from Blk.made w [.int .u64 (m : Int)] _) rfl (by omega) (by omega) HIN.out).mono ?_; rintro e w2 ⟨v2, rfl, hf, hb⟩; have HB2 : Hid (Below w.heap.size w w2) := Lib.hid (below_and (below_alloc _ _) hb); have HF2 : Hid (Fresh w.heap.size w2 v2 (l ++ eN [(m : Int)])) := Lib.hid (hf.mono (by simp)); clear hf hb)
  have HLN : Hid ((l ++ eN [(m : Int)]).length ≤ 2000000000) := Lib.hid (by rw [List.length_append]; have h1 := HL.out; have h2 := eN_len [(m : Int)]; simp at h2; omega)
  go_loopw [0, 17] (fun vb vi wr => ∃ q : Nat, q ≤ m ∧ vi = .int .i64 q ∧ Hid (Fresh w.heap.size wr vb ((l ++ eN [(m : Int)]) ++ (L.take q).flatMap refE) ∧ Below w.heap.size w wr)) (fun _ vi _ => m - (intOf vi).toNat)
  case atStart => exact ⟨0, Nat.zero_le _, by go_num, Lib.hid ⟨by simpa using HF2.out, HB2.out⟩⟩
  case round =>
    obtain ⟨q, hq, rfl, HR⟩ := hrel
    by_cases hlt : q < m
    rotate_left
    · obtain rfl : q = m := by omega
      have e9 : L.take q = L := by rw [HM.out, List.take_length]
      rw [e9] at HR
      go_wp2
      go_ret
      have h9 := HR.out.1
      rw [List.append_assoc, ← HEL.out] at h9
      exact ⟨_, rfl, h9, HR.out.2⟩
    have HI : Hid (q < L.length) := Lib.hid (by rw [← HM.out]; exact hlt)
    obtain ⟨x, hx⟩ : ∃ x, x = L[q]'HI.out := ⟨_, rfl⟩
    have HFX := Lib.hid (HX.out x (by rw [hx]; exact List.getElem_mem _))
    have hlen : (rwC refC L).length = L.length * 4 := rwC_len (show ∀ z, (refC z).length = 4 from fun _ => rfl) L
    rcases HAT.out with ha | ⟨b, o, rfl, ha⟩
    · exact absurd (congrArg List.length ha) (by rw [hlen]; have := HI.out; simp; omega)
    have hcx : ∀ j u, j < 4 → (refC x)[j]? = some u → wr.cell? ⟨b, o + (q * 4 + j), none⟩ = some u := fun j u hj hu => cell_kept (ha _ u (by rw [rwC_at (show ∀ z, (refC z).length = 4 from fun _ => rfl) HI.out hj, ← hx]; exact hu)) HR.out.2
    have x0 : wr.cell? ⟨b, o + q * 4, none⟩ = some (.string (bs x.j)) := by have := hcx 0 _ (by omega) rfl; simpa [Nat.add_assoc] using this
    have x1 : wr.cell? ⟨b, o + q * 4 + 1, none⟩ = some (.int .i64 x.i) := by have := hcx 1 _ (by omega) rfl; simpa [Nat.add_assoc] using this
    have x2 : wr.cell? ⟨b, o + q * 4 + 2, none⟩ = some (.int .u64 x.n) := by have := hcx 2 _ (by omega) rfl; simpa [Nat.add_assoc] using this
    have x3 : wr.cell? ⟨b, o + q * 4 + 3, none⟩ = some (.int .i64 x.q) := by have := hcx 3 _ (by omega) rfl; simpa [Nat.add_assoc] using this
    have HN : Hid (((l ++ eN [(m : Int)]) ++ (L.take (q + 1)).flatMap refE) = ((l ++ eN [(m : Int)]) ++ (L.take q).flatMap refE) ++ refE x) := Lib.hid (by rw [List.take_succ_eq_append_getElem HI.out, ← hx, List.flatMap_append]; simp)
    clear ha hcx hlen hx
    have i1 : (q : Int) < (m : Int) := by omega
    go_upto_region 5 with fail
    obtain ⟨X, hX⟩ : ∃ X, X = wr.heap.size := ⟨_, rfl⟩
    obtain ⟨w3, hw3⟩ : ∃ w3, w3 = wr.alloc (.cells #[.string (bs x.j), .int .i64 x.i, .int .u64 x.n, .int .i64 x.q] 99) := ⟨_, rfl⟩
    have HX3 : Hid (Blk w3 X [.string (bs x.j), .int .i64 x.i, .int .u64 x.n, .int .i64 x.q] 99) := Lib.hid (by rw [hw3, hX]; exact Blk.made wr [.string (bs x.j), .int .i64 x.i, .int .u64 x.n, .int .i64 x.q] _)
    have HB3 : Hid (Below wr.heap.size wr w3) := Lib.hid (by rw [hw3]; exact below_alloc _ _)
    rw [← hw3, ← hX]
    clear hw3 hX x0 x1 x2 x3
    have y0 := HX3.out.cell (j := 0) rfl
    have y1 := HX3.out.cell (j := 1) rfl
    have y2 := HX3.out.cell (j := 2) rfl
    have y3 := HX3.out.cell (j := 3) rfl
    go_wp2_with (go_at_call 87; refine (refE_any u0 _ x _ (HR.out.1.rd.below HB3.out) (by rw [List.length_append]; have h1 := HLN.out; have h2 := HFL.out q; omega) HFX.out).mono ?_; rintro e w4 ⟨v4, rfl, hf, hb⟩; have HB4 := Lib.hid (below_and HR.out.2 (below_and HB3.out hb)); have HF4 := Lib.hid (hf.mono (Nat.le_trans HR.out.2.size HB3.out.size)); clear hf hb)
    go_roundw
    case rel => exact ⟨q + 1, hlt, by go_num, Lib.hid ⟨by rw [HN.out]; exact HF4.out, HB4.out⟩⟩
    case measure => simp [intOf]; omega
end Go.Proofs.YtopkfomlppnpeaaGreatDoor.Ms
