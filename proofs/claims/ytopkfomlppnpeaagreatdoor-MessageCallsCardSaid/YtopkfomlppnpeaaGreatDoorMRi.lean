/- , laid together: MsRiEnv, MsRiSta, MsRiSto, MsRiHel, MsRiFin, MsRiRef. -/
import Derived.Test.YtopkfomlppnpeaaGreatDoorMCmp
import Derived.Test.YtopkfomlppnpeaaGreatDoorMEl
namespace Go.Proofs.YtopkfomlppnpeaaGreatDoor.Ms
open Go.RowKit Go.Proofs.YtopkfomlppnpeaaGreatDoor

set_option maxRecDepth 100000 in
set_option maxHeartbeats 2000000 in
theorem envR_any (v : Value) (L : List El) (w : World) (hr : Row w v 5 L.length (rwC envC L)) (ht : ∀ x ∈ L, TxOk x) (hE : ErrV w) : Calls Tryz.prog 54 #[v, .func (.func 55) #[] #[], .func (.func 56) #[] #[]] w fun e w' => e = .returned (.bool (risesB envM envL L)) ∧ Below w.heap.size w w' := by
  obtain ⟨r, hr9⟩ : ∃ r, r = risesB envM envL L := ⟨_, rfl⟩
  rw [← hr9]
  have HR := Lib.hid hr9
  clear hr9
  obtain ⟨p, c, rfl, hc, hm, hat⟩ := row_el hr
  unfold maxLen at hm
  have HAT := Lib.hid hat
  have HT := Lib.hid ht
  have HE := Lib.hid hE
  clear hE
  obtain ⟨m, hmm⟩ : ∃ m, m = L.length := ⟨_, rfl⟩
  have HM := Lib.hid hmm
  rw [← hmm] at hc ⊢
  clear hr hat ht hmm
  go_enter Tryz.func54, Tryz.ntmps54
  go_upto_region 2 with fail
  go_loopw [11] (fun vi wr => ∃ i : Nat, vi = .int .i64 i ∧ i ≤ m ∧ Hid (∀ q, q < i → okAt envM envL L q = true) ∧ Hid (Below w.heap.size w wr)) (fun vi _ => m - (intOf vi).toNat)
  case atStart => exact ⟨0, by go_num, Nat.zero_le _, Lib.hid (fun q hq => absurd hq (by omega)), Lib.hid (Below.refl _ _)⟩
  case round =>
    obtain ⟨i, rfl, him, HOK, HB⟩ := hrel
    by_cases hlt : i < m
    rotate_left
    · obtain rfl : i = m := by omega
      have HQ : Hid (r = decide ((i : Int) ≤ 256)) := Lib.hid (by rw [HR.out, rises_yes (fun q hq => HOK.out q (by rw [HM.out]; exact hq)), ← HM.out]; congr 1; simp; omega)
      go_wp2
      go_ret
      exact ⟨ret_bool HQ.out.symm, HB.out⟩
    have HI : Hid (i < L.length) := Lib.hid (by rw [← HM.out]; exact hlt)
    obtain ⟨x, hx⟩ : ∃ x, x = L[i]'HI.out := ⟨_, rfl⟩
    obtain ⟨y, hy⟩ : ∃ y, y = L[i - 1]'(by have := HI.out; omega) := ⟨_, rfl⟩
    have HTX := Lib.hid (HT.out x (by rw [hx]; exact List.getElem_mem _))
    have hlen : (rwC envC L).length = L.length * 5 := rwC_len (show ∀ z, (envC z).length = 5 from fun _ => rfl) L
    rcases HAT.out with ha | ⟨b, o, rfl, ha⟩
    · exact absurd (congrArg List.length ha) (by rw [hlen]; have := HI.out; simp; omega)
    have hcx : ∀ j u, j < 5 → (envC x)[j]? = some u → wr.cell? ⟨b, o + (i * 5 + j), none⟩ = some u := fun j u hj hu => cell_kept (ha _ u (by rw [rwC_at (show ∀ z, (envC z).length = 5 from fun _ => rfl) HI.out hj, ← hx]; exact hu)) HB.out
    have HCY : Hid (0 < i → ∀ j u, j < 5 → (envC y)[j]? = some u → ∀ w', Below w.heap.size w w' → w'.cell? ⟨b, o + ((i - 1) * 5 + j), none⟩ = some u) := Lib.hid (fun h0 j u hj hu w' hb => cell_kept (ha _ u (by rw [rwC_at (show ∀ z, (envC z).length = 5 from fun _ => rfl) (by have := HI.out; omega) hj, ← hy]; exact hu)) hb)
    have x0 : wr.cell? ⟨b, o + i * 5, none⟩ = some (.string (bs x.j)) := by have := hcx 0 _ (by omega) rfl; simpa [Nat.add_assoc] using this
    have x1 : wr.cell? ⟨b, o + i * 5 + 1, none⟩ = some (.int .i64 x.a.c) := by have := hcx 1 _ (by omega) rfl; simpa [Nat.add_assoc] using this
    have x2 : wr.cell? ⟨b, o + i * 5 + 2, none⟩ = some (.int .i64 x.a.r) := by have := hcx 2 _ (by omega) rfl; simpa [Nat.add_assoc] using this
    have x3 : wr.cell? ⟨b, o + i * 5 + 3, none⟩ = some (.int .i64 x.a.d) := by have := hcx 3 _ (by omega) rfl; simpa [Nat.add_assoc] using this
    have x4 : wr.cell? ⟨b, o + i * 5 + 4, none⟩ = some (.int .i64 x.a.p) := by have := hcx 4 _ (by omega) rfl; simpa [Nat.add_assoc] using this
    obtain ⟨ok, hok⟩ : ∃ ok, ok = okAt envM envL L i := ⟨_, rfl⟩
    obtain ⟨mx, hmx⟩ : ∃ mx, mx = envM x := ⟨_, rfl⟩
    obtain ⟨ly, hly⟩ : ∃ ly, ly = envL y x := ⟨_, rfl⟩
    have HOKE : Hid (ok = (mx && (i == 0 || ly))) := Lib.hid (by rw [hok, okAt_at HI.out, hmx, hly, hx, hy, dif_pos (by have := HI.out; omega)])
    have HOO := Lib.hid hok
    have CM : Hid (∀ w', Below w.heap.size w w' → Calls Tryz.prog 56 #[envV x] w' fun e w2 => e = .returned (.bool mx) ∧ Below w'.heap.size w' w2) := Lib.hid (fun w' hb => by rw [hmx]; exact envM_any x w' HTX.out (HE.out.below hb))
    have CL : Hid (∀ w', Calls Tryz.prog 55 #[envV y, envV x] w' fun e w2 => e = .returned (.bool ly) ∧ Below w'.heap.size w' w2) := Lib.hid (fun w' => by rw [hly]; exact envL_any y x w')
    clear ha hcx hlen hok hmx hly hx hy
    go_upto_region 4 with fail
    obtain ⟨X, hX⟩ : ∃ X, X = wr.heap.size := ⟨_, rfl⟩
    obtain ⟨w3, hw3⟩ : ∃ w3, w3 = wr.alloc (.cells #[.string (bs x.j), .int .i64 x.a.c, .int .i64 x.a.r, .int .i64 x.a.d, .int .i64 x.a.p] 66) := ⟨_, rfl⟩
    have HX : Hid (Blk w3 X [.string (bs x.j), .int .i64 x.a.c, .int .i64 x.a.r, .int .i64 x.a.d, .int .i64 x.a.p] 66) := Lib.hid (by rw [hw3, hX]; exact Blk.made wr [.string (bs x.j), .int .i64 x.a.c, .int .i64 x.a.r, .int .i64 x.a.d, .int .i64 x.a.p] _)
    have HB3 : Hid (Below w.heap.size w w3) := Lib.hid (by rw [hw3]; exact below_and HB.out (below_alloc _ _))
    rw [← hw3, ← hX]
    clear hw3 hX x0 x1 x2 x3 x4
    have p0 := Past.blk HX.out (j := 0) rfl
    have p1 := Past.blk HX.out (j := 1) rfl
    have p2 := Past.blk HX.out (j := 2) rfl
    have p3 := Past.blk HX.out (j := 3) rfl
    have p4 := Past.blk HX.out (j := 4) rfl
    have CMP : Hid (∀ s : Past w3, Calls Tryz.prog 56 #[envV x] s.val fun e w2 => e = .returned (.bool mx) ∧ Below s.val.heap.size s.val w2) := Lib.hid (fun s => CM.out s.val (below_and HB3.out s.h))
    simp only [envV] at CMP CL
    cases mx
    · refine wp_region_past (by kernel_rfl) (by kernel_rfl) ?_
      repeat (go_big_quiet_step ((first | (go_at_call 56; exact past_call (CMP.out _)) | (go_at_call 55; exact past_call (CL.out _)))))
      refine wpQuiet_nil ?_
      intro _ hw'
      obtain ⟨s9, hw''⟩ := hw'
      subst hw''
      obtain ⟨w9, h9, e9⟩ : ∃ w9, Below w3.heap.size w3 w9 ∧ w9 = s9.val := ⟨_, s9.h, rfl⟩
      rw [← e9]
      have HB9 : Hid (Below w.heap.size w w9) := Lib.hid (below_and HB3.out h9)
      clear h9 e9 CMP CL HCY p0 p1 p2 p3 p4
      have HQ : Hid (r = false) := Lib.hid (by rw [HR.out]; exact rises_no HI.out (by rw [← HOO.out, HOKE.out]; rfl))
      go_wp2
      go_ret
      exact ⟨ret_bool HQ.out.symm, HB9.out⟩
    · by_cases h0 : i = 0
      · have HI0 := Lib.hid h0
        have g0 : decide ((0 : Int) < (i : Int)) = false := by simp; omega
        have g1 : decide (0 < i) = false := by simp; omega
        clear h0
        refine wp_region_past (by kernel_rfl) (by kernel_rfl) ?_
        repeat (go_big_quiet_step ((first | (go_at_call 56; exact past_call (CMP.out _)) | (go_at_call 55; exact past_call (CL.out _)))))
        refine wpQuiet_nil ?_
        intro _ hw'
        obtain ⟨s9, hw''⟩ := hw'
        subst hw''
        obtain ⟨w9, h9, e9⟩ : ∃ w9, Below w3.heap.size w3 w9 ∧ w9 = s9.val := ⟨_, s9.h, rfl⟩
        rw [← e9]
        have HB9 : Hid (Below w.heap.size w w9) := Lib.hid (below_and HB3.out h9)
        clear h9 e9 CMP CL HCY p0 p1 p2 p3 p4
        have HN : Hid (ok = true) := Lib.hid (by rw [HOKE.out]; rw [HI0.out]; rfl)
        go_wp2
        go_roundw
        case rel => exact ⟨i + 1, by go_num, by omega, Lib.hid (fun q hq => by (by_cases hq2 : q = i; (rw [hq2, ← HOO.out]; exact HN.out); exact HOK.out q (by omega))), HB9⟩
        case measure => simp [intOf]; omega
      · have g0 : decide ((0 : Int) < (i : Int)) = true := by simp; omega
        have g1 : decide (0 < i) = true := by simp; omega
        have gi : (0 : Int) ≤ (i : Int) - 1 := by omega
        have gj : (i : Int) - 1 < (m : Int) := by omega
        obtain ⟨i', rfl⟩ : ∃ i', i = i' + 1 := ⟨i - 1, by omega⟩
        have q0 : ∀ s : Past w3, s.val.cell? ⟨b, o + i' * 5, none⟩ = some (.string (bs y.j)) := fun s => by have := HCY.out (by omega) 0 _ (by omega) rfl s.val (below_and HB3.out s.h); simpa [Nat.add_assoc] using this
        have q1 : ∀ s : Past w3, s.val.cell? ⟨b, o + i' * 5 + 1, none⟩ = some (.int .i64 y.a.c) := fun s => by have := HCY.out (by omega) 1 _ (by omega) rfl s.val (below_and HB3.out s.h); simpa [Nat.add_assoc] using this
        have q2 : ∀ s : Past w3, s.val.cell? ⟨b, o + i' * 5 + 2, none⟩ = some (.int .i64 y.a.r) := fun s => by have := HCY.out (by omega) 2 _ (by omega) rfl s.val (below_and HB3.out s.h); simpa [Nat.add_assoc] using this
        have q3 : ∀ s : Past w3, s.val.cell? ⟨b, o + i' * 5 + 3, none⟩ = some (.int .i64 y.a.d) := fun s => by have := HCY.out (by omega) 3 _ (by omega) rfl s.val (below_and HB3.out s.h); simpa [Nat.add_assoc] using this
        have q4 : ∀ s : Past w3, s.val.cell? ⟨b, o + i' * 5 + 4, none⟩ = some (.int .i64 y.a.p) := fun s => by have := HCY.out (by omega) 4 _ (by omega) rfl s.val (below_and HB3.out s.h); simpa [Nat.add_assoc] using this
        cases ly
        · refine wp_region_past (by kernel_rfl) (by kernel_rfl) ?_
          repeat (go_big_quiet_step ((first | (go_at_call 56; exact past_call (CMP.out _)) | (go_at_call 55; exact past_call (CL.out _)))))
          refine wpQuiet_nil ?_
          intro _ hw'
          obtain ⟨s9, hw''⟩ := hw'
          subst hw''
          obtain ⟨w9, h9, e9⟩ : ∃ w9, Below w3.heap.size w3 w9 ∧ w9 = s9.val := ⟨_, s9.h, rfl⟩
          rw [← e9]
          have HB9 : Hid (Below w.heap.size w w9) := Lib.hid (below_and HB3.out h9)
          clear h9 e9 CMP CL HCY p0 p1 p2 p3 p4
          have HQ : Hid (r = false) := Lib.hid (by rw [HR.out]; exact rises_no HI.out (by rw [← HOO.out, HOKE.out]; simp))
          go_wp2
          go_ret
          exact ⟨ret_bool HQ.out.symm, HB9.out⟩
        · refine wp_region_past (by kernel_rfl) (by kernel_rfl) ?_
          repeat (go_big_quiet_step ((first | (go_at_call 56; exact past_call (CMP.out _)) | (go_at_call 55; exact past_call (CL.out _)))))
          refine wpQuiet_nil ?_
          intro _ hw'
          obtain ⟨s9, hw''⟩ := hw'
          subst hw''
          obtain ⟨w9, h9, e9⟩ : ∃ w9, Below w3.heap.size w3 w9 ∧ w9 = s9.val := ⟨_, s9.h, rfl⟩
          rw [← e9]
          have HB9 : Hid (Below w.heap.size w w9) := Lib.hid (below_and HB3.out h9)
          clear h9 e9 CMP CL HCY p0 p1 p2 p3 p4
          have HN : Hid (ok = true) := Lib.hid (by rw [HOKE.out]; simp)
          go_wp2
          go_roundw
          case rel => exact ⟨(i' + 1) + 1, by go_num, by omega, Lib.hid (fun q hq => by (by_cases hq2 : q = (i' + 1); (rw [hq2, ← HOO.out]; exact HN.out); exact HOK.out q (by omega))), HB9⟩
          case measure => simp [intOf]; omega
end Go.Proofs.YtopkfomlppnpeaaGreatDoor.Ms

namespace Go.Proofs.YtopkfomlppnpeaaGreatDoor.Ms
open Go.RowKit Go.Proofs.YtopkfomlppnpeaaGreatDoor

set_option maxRecDepth 100000 in
set_option maxHeartbeats 2000000 in
theorem staR_any (v : Value) (L : List El) (w : World) (hr : Row w v 8 L.length (rwC staC L)) (ht : ∀ x ∈ L, TxOk x) (hE : ErrV w) : Calls Tryz.prog 59 #[v, .func (.func 60) #[] #[], .func (.func 62) #[] #[]] w fun e w' => e = .returned (.bool (risesB staM ltT L)) ∧ Below w.heap.size w w' := by
  obtain ⟨r, hr9⟩ : ∃ r, r = risesB staM ltT L := ⟨_, rfl⟩
  rw [← hr9]
  have HR := Lib.hid hr9
  clear hr9
  obtain ⟨p, c, rfl, hc, hm, hat⟩ := row_el hr
  unfold maxLen at hm
  have HAT := Lib.hid hat
  have HT := Lib.hid ht
  have HE := Lib.hid hE
  clear hE
  obtain ⟨m, hmm⟩ : ∃ m, m = L.length := ⟨_, rfl⟩
  have HM := Lib.hid hmm
  rw [← hmm] at hc ⊢
  clear hr hat ht hmm
  go_enter Tryz.func59, Tryz.ntmps59
  go_upto_region 2 with fail
  go_loopw [11] (fun vi wr => ∃ i : Nat, vi = .int .i64 i ∧ i ≤ m ∧ Hid (∀ q, q < i → okAt staM ltT L q = true) ∧ Hid (Below w.heap.size w wr)) (fun vi _ => m - (intOf vi).toNat)
  case atStart => exact ⟨0, by go_num, Nat.zero_le _, Lib.hid (fun q hq => absurd hq (by omega)), Lib.hid (Below.refl _ _)⟩
  case round =>
    obtain ⟨i, rfl, him, HOK, HB⟩ := hrel
    by_cases hlt : i < m
    rotate_left
    · obtain rfl : i = m := by omega
      have HQ : Hid (r = decide ((i : Int) ≤ 256)) := Lib.hid (by rw [HR.out, rises_yes (fun q hq => HOK.out q (by rw [HM.out]; exact hq)), ← HM.out]; congr 1; simp; omega)
      go_wp2
      go_ret
      exact ⟨ret_bool HQ.out.symm, HB.out⟩
    have HI : Hid (i < L.length) := Lib.hid (by rw [← HM.out]; exact hlt)
    obtain ⟨x, hx⟩ : ∃ x, x = L[i]'HI.out := ⟨_, rfl⟩
    obtain ⟨y, hy⟩ : ∃ y, y = L[i - 1]'(by have := HI.out; omega) := ⟨_, rfl⟩
    have HTX := Lib.hid (HT.out x (by rw [hx]; exact List.getElem_mem _))
    have hlen : (rwC staC L).length = L.length * 8 := rwC_len (show ∀ z, (staC z).length = 8 from fun _ => rfl) L
    rcases HAT.out with ha | ⟨b, o, rfl, ha⟩
    · exact absurd (congrArg List.length ha) (by rw [hlen]; have := HI.out; simp; omega)
    have hcx : ∀ j u, j < 8 → (staC x)[j]? = some u → wr.cell? ⟨b, o + (i * 8 + j), none⟩ = some u := fun j u hj hu => cell_kept (ha _ u (by rw [rwC_at (show ∀ z, (staC z).length = 8 from fun _ => rfl) HI.out hj, ← hx]; exact hu)) HB.out
    have HCY : Hid (0 < i → ∀ j u, j < 8 → (staC y)[j]? = some u → ∀ w', Below w.heap.size w w' → w'.cell? ⟨b, o + ((i - 1) * 8 + j), none⟩ = some u) := Lib.hid (fun h0 j u hj hu w' hb => cell_kept (ha _ u (by rw [rwC_at (show ∀ z, (staC z).length = 8 from fun _ => rfl) (by have := HI.out; omega) hj, ← hy]; exact hu)) hb)
    have x0 : wr.cell? ⟨b, o + i * 8, none⟩ = some (.string (bs x.j)) := by have := hcx 0 _ (by omega) rfl; simpa [Nat.add_assoc] using this
    have x1 : wr.cell? ⟨b, o + i * 8 + 1, none⟩ = some (.int .i64 x.i) := by have := hcx 1 _ (by omega) rfl; simpa [Nat.add_assoc] using this
    have x2 : wr.cell? ⟨b, o + i * 8 + 2, none⟩ = some (.int .u64 x.n) := by have := hcx 2 _ (by omega) rfl; simpa [Nat.add_assoc] using this
    have x3 : wr.cell? ⟨b, o + i * 8 + 3, none⟩ = some (.int .i64 x.a.c) := by have := hcx 3 _ (by omega) rfl; simpa [Nat.add_assoc] using this
    have x4 : wr.cell? ⟨b, o + i * 8 + 4, none⟩ = some (.int .i64 x.a.r) := by have := hcx 4 _ (by omega) rfl; simpa [Nat.add_assoc] using this
    have x5 : wr.cell? ⟨b, o + i * 8 + 5, none⟩ = some (.int .i64 x.a.d) := by have := hcx 5 _ (by omega) rfl; simpa [Nat.add_assoc] using this
    have x6 : wr.cell? ⟨b, o + i * 8 + 6, none⟩ = some (.int .i64 x.a.p) := by have := hcx 6 _ (by omega) rfl; simpa [Nat.add_assoc] using this
    have x7 : wr.cell? ⟨b, o + i * 8 + 7, none⟩ = some (.string (bs x.s)) := by have := hcx 7 _ (by omega) rfl; simpa [Nat.add_assoc] using this
    obtain ⟨ok, hok⟩ : ∃ ok, ok = okAt staM ltT L i := ⟨_, rfl⟩
    obtain ⟨mx, hmx⟩ : ∃ mx, mx = staM x := ⟨_, rfl⟩
    obtain ⟨ly, hly⟩ : ∃ ly, ly = ltT y x := ⟨_, rfl⟩
    have HOKE : Hid (ok = (mx && (i == 0 || ly))) := Lib.hid (by rw [hok, okAt_at HI.out, hmx, hly, hx, hy, dif_pos (by have := HI.out; omega)])
    have HOO := Lib.hid hok
    have CM : Hid (∀ w', Below w.heap.size w w' → Calls Tryz.prog 62 #[staV x] w' fun e w2 => e = .returned (.bool mx) ∧ Below w'.heap.size w' w2) := Lib.hid (fun w' hb => by rw [hmx]; exact staM_any x w' HTX.out (HE.out.below hb))
    have CL : Hid (∀ w', Calls Tryz.prog 60 #[staV y, staV x] w' fun e w2 => e = .returned (.bool ly) ∧ Below w'.heap.size w' w2) := Lib.hid (fun w' => by rw [hly]; exact staL_any y x w')
    clear ha hcx hlen hok hmx hly hx hy
    go_upto_region 4 with fail
    obtain ⟨X, hX⟩ : ∃ X, X = wr.heap.size := ⟨_, rfl⟩
    obtain ⟨w3, hw3⟩ : ∃ w3, w3 = wr.alloc (.cells #[.string (bs x.j), .int .i64 x.i, .int .u64 x.n, .int .i64 x.a.c, .int .i64 x.a.r, .int .i64 x.a.d, .int .i64 x.a.p, .string (bs x.s)] 39) := ⟨_, rfl⟩
    have HX : Hid (Blk w3 X [.string (bs x.j), .int .i64 x.i, .int .u64 x.n, .int .i64 x.a.c, .int .i64 x.a.r, .int .i64 x.a.d, .int .i64 x.a.p, .string (bs x.s)] 39) := Lib.hid (by rw [hw3, hX]; exact Blk.made wr [.string (bs x.j), .int .i64 x.i, .int .u64 x.n, .int .i64 x.a.c, .int .i64 x.a.r, .int .i64 x.a.d, .int .i64 x.a.p, .string (bs x.s)] _)
    have HB3 : Hid (Below w.heap.size w w3) := Lib.hid (by rw [hw3]; exact below_and HB.out (below_alloc _ _))
    rw [← hw3, ← hX]
    clear hw3 hX x0 x1 x2 x3 x4 x5 x6 x7
    have p0 := Past.blk HX.out (j := 0) rfl
    have p1 := Past.blk HX.out (j := 1) rfl
    have p2 := Past.blk HX.out (j := 2) rfl
    have p3 := Past.blk HX.out (j := 3) rfl
    have p4 := Past.blk HX.out (j := 4) rfl
    have p5 := Past.blk HX.out (j := 5) rfl
    have p6 := Past.blk HX.out (j := 6) rfl
    have p7 := Past.blk HX.out (j := 7) rfl
    have CMP : Hid (∀ s : Past w3, Calls Tryz.prog 62 #[staV x] s.val fun e w2 => e = .returned (.bool mx) ∧ Below s.val.heap.size s.val w2) := Lib.hid (fun s => CM.out s.val (below_and HB3.out s.h))
    simp only [staV] at CMP CL
    cases mx
    · refine wp_region_past (by kernel_rfl) (by kernel_rfl) ?_
      repeat (go_big_quiet_step ((first | (go_at_call 62; exact past_call (CMP.out _)) | (go_at_call 60; exact past_call (CL.out _)))))
      refine wpQuiet_nil ?_
      intro _ hw'
      obtain ⟨s9, hw''⟩ := hw'
      subst hw''
      obtain ⟨w9, h9, e9⟩ : ∃ w9, Below w3.heap.size w3 w9 ∧ w9 = s9.val := ⟨_, s9.h, rfl⟩
      rw [← e9]
      have HB9 : Hid (Below w.heap.size w w9) := Lib.hid (below_and HB3.out h9)
      clear h9 e9 CMP CL HCY p0 p1 p2 p3 p4 p5 p6 p7
      have HQ : Hid (r = false) := Lib.hid (by rw [HR.out]; exact rises_no HI.out (by rw [← HOO.out, HOKE.out]; rfl))
      go_wp2
      go_ret
      exact ⟨ret_bool HQ.out.symm, HB9.out⟩
    · by_cases h0 : i = 0
      · have HI0 := Lib.hid h0
        have g0 : decide ((0 : Int) < (i : Int)) = false := by simp; omega
        have g1 : decide (0 < i) = false := by simp; omega
        clear h0
        refine wp_region_past (by kernel_rfl) (by kernel_rfl) ?_
        repeat (go_big_quiet_step ((first | (go_at_call 62; exact past_call (CMP.out _)) | (go_at_call 60; exact past_call (CL.out _)))))
        refine wpQuiet_nil ?_
        intro _ hw'
        obtain ⟨s9, hw''⟩ := hw'
        subst hw''
        obtain ⟨w9, h9, e9⟩ : ∃ w9, Below w3.heap.size w3 w9 ∧ w9 = s9.val := ⟨_, s9.h, rfl⟩
        rw [← e9]
        have HB9 : Hid (Below w.heap.size w w9) := Lib.hid (below_and HB3.out h9)
        clear h9 e9 CMP CL HCY p0 p1 p2 p3 p4 p5 p6 p7
        have HN : Hid (ok = true) := Lib.hid (by rw [HOKE.out]; rw [HI0.out]; rfl)
        go_wp2
        go_roundw
        case rel => exact ⟨i + 1, by go_num, by omega, Lib.hid (fun q hq => by (by_cases hq2 : q = i; (rw [hq2, ← HOO.out]; exact HN.out); exact HOK.out q (by omega))), HB9⟩
        case measure => simp [intOf]; omega
      · have g0 : decide ((0 : Int) < (i : Int)) = true := by simp; omega
        have g1 : decide (0 < i) = true := by simp; omega
        have gi : (0 : Int) ≤ (i : Int) - 1 := by omega
        have gj : (i : Int) - 1 < (m : Int) := by omega
        obtain ⟨i', rfl⟩ : ∃ i', i = i' + 1 := ⟨i - 1, by omega⟩
        have q0 : ∀ s : Past w3, s.val.cell? ⟨b, o + i' * 8, none⟩ = some (.string (bs y.j)) := fun s => by have := HCY.out (by omega) 0 _ (by omega) rfl s.val (below_and HB3.out s.h); simpa [Nat.add_assoc] using this
        have q1 : ∀ s : Past w3, s.val.cell? ⟨b, o + i' * 8 + 1, none⟩ = some (.int .i64 y.i) := fun s => by have := HCY.out (by omega) 1 _ (by omega) rfl s.val (below_and HB3.out s.h); simpa [Nat.add_assoc] using this
        have q2 : ∀ s : Past w3, s.val.cell? ⟨b, o + i' * 8 + 2, none⟩ = some (.int .u64 y.n) := fun s => by have := HCY.out (by omega) 2 _ (by omega) rfl s.val (below_and HB3.out s.h); simpa [Nat.add_assoc] using this
        have q3 : ∀ s : Past w3, s.val.cell? ⟨b, o + i' * 8 + 3, none⟩ = some (.int .i64 y.a.c) := fun s => by have := HCY.out (by omega) 3 _ (by omega) rfl s.val (below_and HB3.out s.h); simpa [Nat.add_assoc] using this
        have q4 : ∀ s : Past w3, s.val.cell? ⟨b, o + i' * 8 + 4, none⟩ = some (.int .i64 y.a.r) := fun s => by have := HCY.out (by omega) 4 _ (by omega) rfl s.val (below_and HB3.out s.h); simpa [Nat.add_assoc] using this
        have q5 : ∀ s : Past w3, s.val.cell? ⟨b, o + i' * 8 + 5, none⟩ = some (.int .i64 y.a.d) := fun s => by have := HCY.out (by omega) 5 _ (by omega) rfl s.val (below_and HB3.out s.h); simpa [Nat.add_assoc] using this
        have q6 : ∀ s : Past w3, s.val.cell? ⟨b, o + i' * 8 + 6, none⟩ = some (.int .i64 y.a.p) := fun s => by have := HCY.out (by omega) 6 _ (by omega) rfl s.val (below_and HB3.out s.h); simpa [Nat.add_assoc] using this
        have q7 : ∀ s : Past w3, s.val.cell? ⟨b, o + i' * 8 + 7, none⟩ = some (.string (bs y.s)) := fun s => by have := HCY.out (by omega) 7 _ (by omega) rfl s.val (below_and HB3.out s.h); simpa [Nat.add_assoc] using this
        cases ly
        · refine wp_region_past (by kernel_rfl) (by kernel_rfl) ?_
          repeat (go_big_quiet_step ((first | (go_at_call 62; exact past_call (CMP.out _)) | (go_at_call 60; exact past_call (CL.out _)))))
          refine wpQuiet_nil ?_
          intro _ hw'
          obtain ⟨s9, hw''⟩ := hw'
          subst hw''
          obtain ⟨w9, h9, e9⟩ : ∃ w9, Below w3.heap.size w3 w9 ∧ w9 = s9.val := ⟨_, s9.h, rfl⟩
          rw [← e9]
          have HB9 : Hid (Below w.heap.size w w9) := Lib.hid (below_and HB3.out h9)
          clear h9 e9 CMP CL HCY p0 p1 p2 p3 p4 p5 p6 p7
          have HQ : Hid (r = false) := Lib.hid (by rw [HR.out]; exact rises_no HI.out (by rw [← HOO.out, HOKE.out]; simp))
          go_wp2
          go_ret
          exact ⟨ret_bool HQ.out.symm, HB9.out⟩
        · refine wp_region_past (by kernel_rfl) (by kernel_rfl) ?_
          repeat (go_big_quiet_step ((first | (go_at_call 62; exact past_call (CMP.out _)) | (go_at_call 60; exact past_call (CL.out _)))))
          refine wpQuiet_nil ?_
          intro _ hw'
          obtain ⟨s9, hw''⟩ := hw'
          subst hw''
          obtain ⟨w9, h9, e9⟩ : ∃ w9, Below w3.heap.size w3 w9 ∧ w9 = s9.val := ⟨_, s9.h, rfl⟩
          rw [← e9]
          have HB9 : Hid (Below w.heap.size w w9) := Lib.hid (below_and HB3.out h9)
          clear h9 e9 CMP CL HCY p0 p1 p2 p3 p4 p5 p6 p7
          have HN : Hid (ok = true) := Lib.hid (by rw [HOKE.out]; simp)
          go_wp2
          go_roundw
          case rel => exact ⟨(i' + 1) + 1, by go_num, by omega, Lib.hid (fun q hq => by (by_cases hq2 : q = (i' + 1); (rw [hq2, ← HOO.out]; exact HN.out); exact HOK.out q (by omega))), HB9⟩
          case measure => simp [intOf]; omega
end Go.Proofs.YtopkfomlppnpeaaGreatDoor.Ms

namespace Go.Proofs.YtopkfomlppnpeaaGreatDoor.Ms
open Go.RowKit Go.Proofs.YtopkfomlppnpeaaGreatDoor

set_option maxRecDepth 100000 in
set_option maxHeartbeats 2000000 in
theorem stoR_any (v : Value) (L : List El) (w : World) (hr : Row w v 3 L.length (rwC stoC L)) (ht : ∀ x ∈ L, TxOk x) : Calls Tryz.prog 64 #[v, .func (.func 65) #[] #[], .func (.func 66) #[] #[]] w fun e w' => e = .returned (.bool (risesB stoM ltT L)) ∧ Below w.heap.size w w' := by
  obtain ⟨r, hr9⟩ : ∃ r, r = risesB stoM ltT L := ⟨_, rfl⟩
  rw [← hr9]
  have HR := Lib.hid hr9
  clear hr9
  obtain ⟨p, c, rfl, hc, hm, hat⟩ := row_el hr
  unfold maxLen at hm
  have HAT := Lib.hid hat
  have HT := Lib.hid ht
  obtain ⟨m, hmm⟩ : ∃ m, m = L.length := ⟨_, rfl⟩
  have HM := Lib.hid hmm
  rw [← hmm] at hc ⊢
  clear hr hat ht hmm
  go_enter Tryz.func64, Tryz.ntmps64
  go_upto_region 2 with fail
  go_loopw [11] (fun vi wr => ∃ i : Nat, vi = .int .i64 i ∧ i ≤ m ∧ Hid (∀ q, q < i → okAt stoM ltT L q = true) ∧ Hid (Below w.heap.size w wr)) (fun vi _ => m - (intOf vi).toNat)
  case atStart => exact ⟨0, by go_num, Nat.zero_le _, Lib.hid (fun q hq => absurd hq (by omega)), Lib.hid (Below.refl _ _)⟩
  case round =>
    obtain ⟨i, rfl, him, HOK, HB⟩ := hrel
    by_cases hlt : i < m
    rotate_left
    · obtain rfl : i = m := by omega
      have HQ : Hid (r = decide ((i : Int) ≤ 256)) := Lib.hid (by rw [HR.out, rises_yes (fun q hq => HOK.out q (by rw [HM.out]; exact hq)), ← HM.out]; congr 1; simp; omega)
      go_wp2
      go_ret
      exact ⟨ret_bool HQ.out.symm, HB.out⟩
    have HI : Hid (i < L.length) := Lib.hid (by rw [← HM.out]; exact hlt)
    obtain ⟨x, hx⟩ : ∃ x, x = L[i]'HI.out := ⟨_, rfl⟩
    obtain ⟨y, hy⟩ : ∃ y, y = L[i - 1]'(by have := HI.out; omega) := ⟨_, rfl⟩
    have HTX := Lib.hid (HT.out x (by rw [hx]; exact List.getElem_mem _))
    have hlen : (rwC stoC L).length = L.length * 3 := rwC_len (show ∀ z, (stoC z).length = 3 from fun _ => rfl) L
    rcases HAT.out with ha | ⟨b, o, rfl, ha⟩
    · exact absurd (congrArg List.length ha) (by rw [hlen]; have := HI.out; simp; omega)
    have hcx : ∀ j u, j < 3 → (stoC x)[j]? = some u → wr.cell? ⟨b, o + (i * 3 + j), none⟩ = some u := fun j u hj hu => cell_kept (ha _ u (by rw [rwC_at (show ∀ z, (stoC z).length = 3 from fun _ => rfl) HI.out hj, ← hx]; exact hu)) HB.out
    have HCY : Hid (0 < i → ∀ j u, j < 3 → (stoC y)[j]? = some u → ∀ w', Below w.heap.size w w' → w'.cell? ⟨b, o + ((i - 1) * 3 + j), none⟩ = some u) := Lib.hid (fun h0 j u hj hu w' hb => cell_kept (ha _ u (by rw [rwC_at (show ∀ z, (stoC z).length = 3 from fun _ => rfl) (by have := HI.out; omega) hj, ← hy]; exact hu)) hb)
    have x0 : wr.cell? ⟨b, o + i * 3, none⟩ = some (.string (bs x.j)) := by have := hcx 0 _ (by omega) rfl; simpa [Nat.add_assoc] using this
    have x1 : wr.cell? ⟨b, o + i * 3 + 1, none⟩ = some (.int .i64 x.i) := by have := hcx 1 _ (by omega) rfl; simpa [Nat.add_assoc] using this
    have x2 : wr.cell? ⟨b, o + i * 3 + 2, none⟩ = some (.int .u64 x.n) := by have := hcx 2 _ (by omega) rfl; simpa [Nat.add_assoc] using this
    obtain ⟨ok, hok⟩ : ∃ ok, ok = okAt stoM ltT L i := ⟨_, rfl⟩
    obtain ⟨mx, hmx⟩ : ∃ mx, mx = stoM x := ⟨_, rfl⟩
    obtain ⟨ly, hly⟩ : ∃ ly, ly = ltT y x := ⟨_, rfl⟩
    have HOKE : Hid (ok = (mx && (i == 0 || ly))) := Lib.hid (by rw [hok, okAt_at HI.out, hmx, hly, hx, hy, dif_pos (by have := HI.out; omega)])
    have HOO := Lib.hid hok
    have CM : Hid (∀ w', Below w.heap.size w w' → Calls Tryz.prog 66 #[stoV x] w' fun e w2 => e = .returned (.bool mx) ∧ Below w'.heap.size w' w2) := Lib.hid (fun w' hb => by rw [hmx]; exact stoM_any x w' HTX.out)
    have CL : Hid (∀ w', Calls Tryz.prog 65 #[stoV y, stoV x] w' fun e w2 => e = .returned (.bool ly) ∧ Below w'.heap.size w' w2) := Lib.hid (fun w' => by rw [hly]; exact stoL_any y x w')
    clear ha hcx hlen hok hmx hly hx hy
    go_upto_region 4 with fail
    obtain ⟨X, hX⟩ : ∃ X, X = wr.heap.size := ⟨_, rfl⟩
    obtain ⟨w3, hw3⟩ : ∃ w3, w3 = wr.alloc (.cells #[.string (bs x.j), .int .i64 x.i, .int .u64 x.n] 75) := ⟨_, rfl⟩
    have HX : Hid (Blk w3 X [.string (bs x.j), .int .i64 x.i, .int .u64 x.n] 75) := Lib.hid (by rw [hw3, hX]; exact Blk.made wr [.string (bs x.j), .int .i64 x.i, .int .u64 x.n] _)
    have HB3 : Hid (Below w.heap.size w w3) := Lib.hid (by rw [hw3]; exact below_and HB.out (below_alloc _ _))
    rw [← hw3, ← hX]
    clear hw3 hX x0 x1 x2
    have p0 := Past.blk HX.out (j := 0) rfl
    have p1 := Past.blk HX.out (j := 1) rfl
    have p2 := Past.blk HX.out (j := 2) rfl
    have CMP : Hid (∀ s : Past w3, Calls Tryz.prog 66 #[stoV x] s.val fun e w2 => e = .returned (.bool mx) ∧ Below s.val.heap.size s.val w2) := Lib.hid (fun s => CM.out s.val (below_and HB3.out s.h))
    simp only [stoV] at CMP CL
    cases mx
    · refine wp_region_past (by kernel_rfl) (by kernel_rfl) ?_
      repeat (go_big_quiet_step ((first | (go_at_call 66; exact past_call (CMP.out _)) | (go_at_call 65; exact past_call (CL.out _)))))
      refine wpQuiet_nil ?_
      intro _ hw'
      obtain ⟨s9, hw''⟩ := hw'
      subst hw''
      obtain ⟨w9, h9, e9⟩ : ∃ w9, Below w3.heap.size w3 w9 ∧ w9 = s9.val := ⟨_, s9.h, rfl⟩
      rw [← e9]
      have HB9 : Hid (Below w.heap.size w w9) := Lib.hid (below_and HB3.out h9)
      clear h9 e9 CMP CL HCY p0 p1 p2
      have HQ : Hid (r = false) := Lib.hid (by rw [HR.out]; exact rises_no HI.out (by rw [← HOO.out, HOKE.out]; rfl))
      go_wp2
      go_ret
      exact ⟨ret_bool HQ.out.symm, HB9.out⟩
    · by_cases h0 : i = 0
      · have HI0 := Lib.hid h0
        have g0 : decide ((0 : Int) < (i : Int)) = false := by simp; omega
        have g1 : decide (0 < i) = false := by simp; omega
        clear h0
        refine wp_region_past (by kernel_rfl) (by kernel_rfl) ?_
        repeat (go_big_quiet_step ((first | (go_at_call 66; exact past_call (CMP.out _)) | (go_at_call 65; exact past_call (CL.out _)))))
        refine wpQuiet_nil ?_
        intro _ hw'
        obtain ⟨s9, hw''⟩ := hw'
        subst hw''
        obtain ⟨w9, h9, e9⟩ : ∃ w9, Below w3.heap.size w3 w9 ∧ w9 = s9.val := ⟨_, s9.h, rfl⟩
        rw [← e9]
        have HB9 : Hid (Below w.heap.size w w9) := Lib.hid (below_and HB3.out h9)
        clear h9 e9 CMP CL HCY p0 p1 p2
        have HN : Hid (ok = true) := Lib.hid (by rw [HOKE.out]; rw [HI0.out]; rfl)
        go_wp2
        go_roundw
        case rel => exact ⟨i + 1, by go_num, by omega, Lib.hid (fun q hq => by (by_cases hq2 : q = i; (rw [hq2, ← HOO.out]; exact HN.out); exact HOK.out q (by omega))), HB9⟩
        case measure => simp [intOf]; omega
      · have g0 : decide ((0 : Int) < (i : Int)) = true := by simp; omega
        have g1 : decide (0 < i) = true := by simp; omega
        have gi : (0 : Int) ≤ (i : Int) - 1 := by omega
        have gj : (i : Int) - 1 < (m : Int) := by omega
        obtain ⟨i', rfl⟩ : ∃ i', i = i' + 1 := ⟨i - 1, by omega⟩
        have q0 : ∀ s : Past w3, s.val.cell? ⟨b, o + i' * 3, none⟩ = some (.string (bs y.j)) := fun s => by have := HCY.out (by omega) 0 _ (by omega) rfl s.val (below_and HB3.out s.h); simpa [Nat.add_assoc] using this
        have q1 : ∀ s : Past w3, s.val.cell? ⟨b, o + i' * 3 + 1, none⟩ = some (.int .i64 y.i) := fun s => by have := HCY.out (by omega) 1 _ (by omega) rfl s.val (below_and HB3.out s.h); simpa [Nat.add_assoc] using this
        have q2 : ∀ s : Past w3, s.val.cell? ⟨b, o + i' * 3 + 2, none⟩ = some (.int .u64 y.n) := fun s => by have := HCY.out (by omega) 2 _ (by omega) rfl s.val (below_and HB3.out s.h); simpa [Nat.add_assoc] using this
        cases ly
        · refine wp_region_past (by kernel_rfl) (by kernel_rfl) ?_
          repeat (go_big_quiet_step ((first | (go_at_call 66; exact past_call (CMP.out _)) | (go_at_call 65; exact past_call (CL.out _)))))
          refine wpQuiet_nil ?_
          intro _ hw'
          obtain ⟨s9, hw''⟩ := hw'
          subst hw''
          obtain ⟨w9, h9, e9⟩ : ∃ w9, Below w3.heap.size w3 w9 ∧ w9 = s9.val := ⟨_, s9.h, rfl⟩
          rw [← e9]
          have HB9 : Hid (Below w.heap.size w w9) := Lib.hid (below_and HB3.out h9)
          clear h9 e9 CMP CL HCY p0 p1 p2
          have HQ : Hid (r = false) := Lib.hid (by rw [HR.out]; exact rises_no HI.out (by rw [← HOO.out, HOKE.out]; simp))
          go_wp2
          go_ret
          exact ⟨ret_bool HQ.out.symm, HB9.out⟩
        · refine wp_region_past (by kernel_rfl) (by kernel_rfl) ?_
          repeat (go_big_quiet_step ((first | (go_at_call 66; exact past_call (CMP.out _)) | (go_at_call 65; exact past_call (CL.out _)))))
          refine wpQuiet_nil ?_
          intro _ hw'
          obtain ⟨s9, hw''⟩ := hw'
          subst hw''
          obtain ⟨w9, h9, e9⟩ : ∃ w9, Below w3.heap.size w3 w9 ∧ w9 = s9.val := ⟨_, s9.h, rfl⟩
          rw [← e9]
          have HB9 : Hid (Below w.heap.size w w9) := Lib.hid (below_and HB3.out h9)
          clear h9 e9 CMP CL HCY p0 p1 p2
          have HN : Hid (ok = true) := Lib.hid (by rw [HOKE.out]; simp)
          go_wp2
          go_roundw
          case rel => exact ⟨(i' + 1) + 1, by go_num, by omega, Lib.hid (fun q hq => by (by_cases hq2 : q = (i' + 1); (rw [hq2, ← HOO.out]; exact HN.out); exact HOK.out q (by omega))), HB9⟩
          case measure => simp [intOf]; omega
end Go.Proofs.YtopkfomlppnpeaaGreatDoor.Ms

namespace Go.Proofs.YtopkfomlppnpeaaGreatDoor.Ms
open Go.RowKit Go.Proofs.YtopkfomlppnpeaaGreatDoor

set_option maxRecDepth 100000 in
set_option maxHeartbeats 2000000 in
theorem helR_any (v : Value) (L : List El) (w : World) (hr : Row w v 4 L.length (rwC helC L)) (ht : ∀ x ∈ L, TxOk x) : Calls Tryz.prog 71 #[v, .func (.func 72) #[] #[], .func (.func 73) #[] #[]] w fun e w' => e = .returned (.bool (risesB helM ltT L)) ∧ Below w.heap.size w w' := by
  obtain ⟨r, hr9⟩ : ∃ r, r = risesB helM ltT L := ⟨_, rfl⟩
  rw [← hr9]
  have HR := Lib.hid hr9
  clear hr9
  obtain ⟨p, c, rfl, hc, hm, hat⟩ := row_el hr
  unfold maxLen at hm
  have HAT := Lib.hid hat
  have HT := Lib.hid ht
  obtain ⟨m, hmm⟩ : ∃ m, m = L.length := ⟨_, rfl⟩
  have HM := Lib.hid hmm
  rw [← hmm] at hc ⊢
  clear hr hat ht hmm
  go_enter Tryz.func71, Tryz.ntmps71
  go_upto_region 2 with fail
  go_loopw [11] (fun vi wr => ∃ i : Nat, vi = .int .i64 i ∧ i ≤ m ∧ Hid (∀ q, q < i → okAt helM ltT L q = true) ∧ Hid (Below w.heap.size w wr)) (fun vi _ => m - (intOf vi).toNat)
  case atStart => exact ⟨0, by go_num, Nat.zero_le _, Lib.hid (fun q hq => absurd hq (by omega)), Lib.hid (Below.refl _ _)⟩
  case round =>
    obtain ⟨i, rfl, him, HOK, HB⟩ := hrel
    by_cases hlt : i < m
    rotate_left
    · obtain rfl : i = m := by omega
      have HQ : Hid (r = decide ((i : Int) ≤ 256)) := Lib.hid (by rw [HR.out, rises_yes (fun q hq => HOK.out q (by rw [HM.out]; exact hq)), ← HM.out]; congr 1; simp; omega)
      go_wp2
      go_ret
      exact ⟨ret_bool HQ.out.symm, HB.out⟩
    have HI : Hid (i < L.length) := Lib.hid (by rw [← HM.out]; exact hlt)
    obtain ⟨x, hx⟩ : ∃ x, x = L[i]'HI.out := ⟨_, rfl⟩
    obtain ⟨y, hy⟩ : ∃ y, y = L[i - 1]'(by have := HI.out; omega) := ⟨_, rfl⟩
    have HTX := Lib.hid (HT.out x (by rw [hx]; exact List.getElem_mem _))
    have hlen : (rwC helC L).length = L.length * 4 := rwC_len (show ∀ z, (helC z).length = 4 from fun _ => rfl) L
    rcases HAT.out with ha | ⟨b, o, rfl, ha⟩
    · exact absurd (congrArg List.length ha) (by rw [hlen]; have := HI.out; simp; omega)
    have hcx : ∀ j u, j < 4 → (helC x)[j]? = some u → wr.cell? ⟨b, o + (i * 4 + j), none⟩ = some u := fun j u hj hu => cell_kept (ha _ u (by rw [rwC_at (show ∀ z, (helC z).length = 4 from fun _ => rfl) HI.out hj, ← hx]; exact hu)) HB.out
    have HCY : Hid (0 < i → ∀ j u, j < 4 → (helC y)[j]? = some u → ∀ w', Below w.heap.size w w' → w'.cell? ⟨b, o + ((i - 1) * 4 + j), none⟩ = some u) := Lib.hid (fun h0 j u hj hu w' hb => cell_kept (ha _ u (by rw [rwC_at (show ∀ z, (helC z).length = 4 from fun _ => rfl) (by have := HI.out; omega) hj, ← hy]; exact hu)) hb)
    have x0 : wr.cell? ⟨b, o + i * 4, none⟩ = some (.string (bs x.j)) := by have := hcx 0 _ (by omega) rfl; simpa [Nat.add_assoc] using this
    have x1 : wr.cell? ⟨b, o + i * 4 + 1, none⟩ = some (.int .i64 x.i) := by have := hcx 1 _ (by omega) rfl; simpa [Nat.add_assoc] using this
    have x2 : wr.cell? ⟨b, o + i * 4 + 2, none⟩ = some (.int .u64 x.n) := by have := hcx 2 _ (by omega) rfl; simpa [Nat.add_assoc] using this
    have x3 : wr.cell? ⟨b, o + i * 4 + 3, none⟩ = some (.int .i64 x.q) := by have := hcx 3 _ (by omega) rfl; simpa [Nat.add_assoc] using this
    obtain ⟨ok, hok⟩ : ∃ ok, ok = okAt helM ltT L i := ⟨_, rfl⟩
    obtain ⟨mx, hmx⟩ : ∃ mx, mx = helM x := ⟨_, rfl⟩
    obtain ⟨ly, hly⟩ : ∃ ly, ly = ltT y x := ⟨_, rfl⟩
    have HOKE : Hid (ok = (mx && (i == 0 || ly))) := Lib.hid (by rw [hok, okAt_at HI.out, hmx, hly, hx, hy, dif_pos (by have := HI.out; omega)])
    have HOO := Lib.hid hok
    have CM : Hid (∀ w', Below w.heap.size w w' → Calls Tryz.prog 73 #[helV x] w' fun e w2 => e = .returned (.bool mx) ∧ Below w'.heap.size w' w2) := Lib.hid (fun w' hb => by rw [hmx]; exact helM_any x w' HTX.out)
    have CL : Hid (∀ w', Calls Tryz.prog 72 #[helV y, helV x] w' fun e w2 => e = .returned (.bool ly) ∧ Below w'.heap.size w' w2) := Lib.hid (fun w' => by rw [hly]; exact helL_any y x w')
    clear ha hcx hlen hok hmx hly hx hy
    go_upto_region 4 with fail
    obtain ⟨X, hX⟩ : ∃ X, X = wr.heap.size := ⟨_, rfl⟩
    obtain ⟨w3, hw3⟩ : ∃ w3, w3 = wr.alloc (.cells #[.string (bs x.j), .int .i64 x.i, .int .u64 x.n, .int .i64 x.q] 88) := ⟨_, rfl⟩
    have HX : Hid (Blk w3 X [.string (bs x.j), .int .i64 x.i, .int .u64 x.n, .int .i64 x.q] 88) := Lib.hid (by rw [hw3, hX]; exact Blk.made wr [.string (bs x.j), .int .i64 x.i, .int .u64 x.n, .int .i64 x.q] _)
    have HB3 : Hid (Below w.heap.size w w3) := Lib.hid (by rw [hw3]; exact below_and HB.out (below_alloc _ _))
    rw [← hw3, ← hX]
    clear hw3 hX x0 x1 x2 x3
    have p0 := Past.blk HX.out (j := 0) rfl
    have p1 := Past.blk HX.out (j := 1) rfl
    have p2 := Past.blk HX.out (j := 2) rfl
    have p3 := Past.blk HX.out (j := 3) rfl
    have CMP : Hid (∀ s : Past w3, Calls Tryz.prog 73 #[helV x] s.val fun e w2 => e = .returned (.bool mx) ∧ Below s.val.heap.size s.val w2) := Lib.hid (fun s => CM.out s.val (below_and HB3.out s.h))
    simp only [helV] at CMP CL
    cases mx
    · refine wp_region_past (by kernel_rfl) (by kernel_rfl) ?_
      repeat (go_big_quiet_step ((first | (go_at_call 73; exact past_call (CMP.out _)) | (go_at_call 72; exact past_call (CL.out _)))))
      refine wpQuiet_nil ?_
      intro _ hw'
      obtain ⟨s9, hw''⟩ := hw'
      subst hw''
      obtain ⟨w9, h9, e9⟩ : ∃ w9, Below w3.heap.size w3 w9 ∧ w9 = s9.val := ⟨_, s9.h, rfl⟩
      rw [← e9]
      have HB9 : Hid (Below w.heap.size w w9) := Lib.hid (below_and HB3.out h9)
      clear h9 e9 CMP CL HCY p0 p1 p2 p3
      have HQ : Hid (r = false) := Lib.hid (by rw [HR.out]; exact rises_no HI.out (by rw [← HOO.out, HOKE.out]; rfl))
      go_wp2
      go_ret
      exact ⟨ret_bool HQ.out.symm, HB9.out⟩
    · by_cases h0 : i = 0
      · have HI0 := Lib.hid h0
        have g0 : decide ((0 : Int) < (i : Int)) = false := by simp; omega
        have g1 : decide (0 < i) = false := by simp; omega
        clear h0
        refine wp_region_past (by kernel_rfl) (by kernel_rfl) ?_
        repeat (go_big_quiet_step ((first | (go_at_call 73; exact past_call (CMP.out _)) | (go_at_call 72; exact past_call (CL.out _)))))
        refine wpQuiet_nil ?_
        intro _ hw'
        obtain ⟨s9, hw''⟩ := hw'
        subst hw''
        obtain ⟨w9, h9, e9⟩ : ∃ w9, Below w3.heap.size w3 w9 ∧ w9 = s9.val := ⟨_, s9.h, rfl⟩
        rw [← e9]
        have HB9 : Hid (Below w.heap.size w w9) := Lib.hid (below_and HB3.out h9)
        clear h9 e9 CMP CL HCY p0 p1 p2 p3
        have HN : Hid (ok = true) := Lib.hid (by rw [HOKE.out]; rw [HI0.out]; rfl)
        go_wp2
        go_roundw
        case rel => exact ⟨i + 1, by go_num, by omega, Lib.hid (fun q hq => by (by_cases hq2 : q = i; (rw [hq2, ← HOO.out]; exact HN.out); exact HOK.out q (by omega))), HB9⟩
        case measure => simp [intOf]; omega
      · have g0 : decide ((0 : Int) < (i : Int)) = true := by simp; omega
        have g1 : decide (0 < i) = true := by simp; omega
        have gi : (0 : Int) ≤ (i : Int) - 1 := by omega
        have gj : (i : Int) - 1 < (m : Int) := by omega
        obtain ⟨i', rfl⟩ : ∃ i', i = i' + 1 := ⟨i - 1, by omega⟩
        have q0 : ∀ s : Past w3, s.val.cell? ⟨b, o + i' * 4, none⟩ = some (.string (bs y.j)) := fun s => by have := HCY.out (by omega) 0 _ (by omega) rfl s.val (below_and HB3.out s.h); simpa [Nat.add_assoc] using this
        have q1 : ∀ s : Past w3, s.val.cell? ⟨b, o + i' * 4 + 1, none⟩ = some (.int .i64 y.i) := fun s => by have := HCY.out (by omega) 1 _ (by omega) rfl s.val (below_and HB3.out s.h); simpa [Nat.add_assoc] using this
        have q2 : ∀ s : Past w3, s.val.cell? ⟨b, o + i' * 4 + 2, none⟩ = some (.int .u64 y.n) := fun s => by have := HCY.out (by omega) 2 _ (by omega) rfl s.val (below_and HB3.out s.h); simpa [Nat.add_assoc] using this
        have q3 : ∀ s : Past w3, s.val.cell? ⟨b, o + i' * 4 + 3, none⟩ = some (.int .i64 y.q) := fun s => by have := HCY.out (by omega) 3 _ (by omega) rfl s.val (below_and HB3.out s.h); simpa [Nat.add_assoc] using this
        cases ly
        · refine wp_region_past (by kernel_rfl) (by kernel_rfl) ?_
          repeat (go_big_quiet_step ((first | (go_at_call 73; exact past_call (CMP.out _)) | (go_at_call 72; exact past_call (CL.out _)))))
          refine wpQuiet_nil ?_
          intro _ hw'
          obtain ⟨s9, hw''⟩ := hw'
          subst hw''
          obtain ⟨w9, h9, e9⟩ : ∃ w9, Below w3.heap.size w3 w9 ∧ w9 = s9.val := ⟨_, s9.h, rfl⟩
          rw [← e9]
          have HB9 : Hid (Below w.heap.size w w9) := Lib.hid (below_and HB3.out h9)
          clear h9 e9 CMP CL HCY p0 p1 p2 p3
          have HQ : Hid (r = false) := Lib.hid (by rw [HR.out]; exact rises_no HI.out (by rw [← HOO.out, HOKE.out]; simp))
          go_wp2
          go_ret
          exact ⟨ret_bool HQ.out.symm, HB9.out⟩
        · refine wp_region_past (by kernel_rfl) (by kernel_rfl) ?_
          repeat (go_big_quiet_step ((first | (go_at_call 73; exact past_call (CMP.out _)) | (go_at_call 72; exact past_call (CL.out _)))))
          refine wpQuiet_nil ?_
          intro _ hw'
          obtain ⟨s9, hw''⟩ := hw'
          subst hw''
          obtain ⟨w9, h9, e9⟩ : ∃ w9, Below w3.heap.size w3 w9 ∧ w9 = s9.val := ⟨_, s9.h, rfl⟩
          rw [← e9]
          have HB9 : Hid (Below w.heap.size w w9) := Lib.hid (below_and HB3.out h9)
          clear h9 e9 CMP CL HCY p0 p1 p2 p3
          have HN : Hid (ok = true) := Lib.hid (by rw [HOKE.out]; simp)
          go_wp2
          go_roundw
          case rel => exact ⟨(i' + 1) + 1, by go_num, by omega, Lib.hid (fun q hq => by (by_cases hq2 : q = (i' + 1); (rw [hq2, ← HOO.out]; exact HN.out); exact HOK.out q (by omega))), HB9⟩
          case measure => simp [intOf]; omega
end Go.Proofs.YtopkfomlppnpeaaGreatDoor.Ms

namespace Go.Proofs.YtopkfomlppnpeaaGreatDoor.Ms
open Go.RowKit Go.Proofs.YtopkfomlppnpeaaGreatDoor

set_option maxRecDepth 100000 in
set_option maxHeartbeats 2000000 in
theorem finR_any (v : Value) (L : List El) (w : World) (hr : Row w v 5 L.length (rwC finC L)) (ht : ∀ x ∈ L, TxOk x) : Calls Tryz.prog 74 #[v, .func (.func 75) #[] #[], .func (.func 76) #[] #[]] w fun e w' => e = .returned (.bool (risesB finM finL L)) ∧ Below w.heap.size w w' := by
  obtain ⟨r, hr9⟩ : ∃ r, r = risesB finM finL L := ⟨_, rfl⟩
  rw [← hr9]
  have HR := Lib.hid hr9
  clear hr9
  obtain ⟨p, c, rfl, hc, hm, hat⟩ := row_el hr
  unfold maxLen at hm
  have HAT := Lib.hid hat
  have HT := Lib.hid ht
  obtain ⟨m, hmm⟩ : ∃ m, m = L.length := ⟨_, rfl⟩
  have HM := Lib.hid hmm
  rw [← hmm] at hc ⊢
  clear hr hat ht hmm
  go_enter Tryz.func74, Tryz.ntmps74
  go_upto_region 2 with fail
  go_loopw [11] (fun vi wr => ∃ i : Nat, vi = .int .i64 i ∧ i ≤ m ∧ Hid (∀ q, q < i → okAt finM finL L q = true) ∧ Hid (Below w.heap.size w wr)) (fun vi _ => m - (intOf vi).toNat)
  case atStart => exact ⟨0, by go_num, Nat.zero_le _, Lib.hid (fun q hq => absurd hq (by omega)), Lib.hid (Below.refl _ _)⟩
  case round =>
    obtain ⟨i, rfl, him, HOK, HB⟩ := hrel
    by_cases hlt : i < m
    rotate_left
    · obtain rfl : i = m := by omega
      have HQ : Hid (r = decide ((i : Int) ≤ 256)) := Lib.hid (by rw [HR.out, rises_yes (fun q hq => HOK.out q (by rw [HM.out]; exact hq)), ← HM.out]; congr 1; simp; omega)
      go_wp2
      go_ret
      exact ⟨ret_bool HQ.out.symm, HB.out⟩
    have HI : Hid (i < L.length) := Lib.hid (by rw [← HM.out]; exact hlt)
    obtain ⟨x, hx⟩ : ∃ x, x = L[i]'HI.out := ⟨_, rfl⟩
    obtain ⟨y, hy⟩ : ∃ y, y = L[i - 1]'(by have := HI.out; omega) := ⟨_, rfl⟩
    have HTX := Lib.hid (HT.out x (by rw [hx]; exact List.getElem_mem _))
    have hlen : (rwC finC L).length = L.length * 5 := rwC_len (show ∀ z, (finC z).length = 5 from fun _ => rfl) L
    rcases HAT.out with ha | ⟨b, o, rfl, ha⟩
    · exact absurd (congrArg List.length ha) (by rw [hlen]; have := HI.out; simp; omega)
    have hcx : ∀ j u, j < 5 → (finC x)[j]? = some u → wr.cell? ⟨b, o + (i * 5 + j), none⟩ = some u := fun j u hj hu => cell_kept (ha _ u (by rw [rwC_at (show ∀ z, (finC z).length = 5 from fun _ => rfl) HI.out hj, ← hx]; exact hu)) HB.out
    have HCY : Hid (0 < i → ∀ j u, j < 5 → (finC y)[j]? = some u → ∀ w', Below w.heap.size w w' → w'.cell? ⟨b, o + ((i - 1) * 5 + j), none⟩ = some u) := Lib.hid (fun h0 j u hj hu w' hb => cell_kept (ha _ u (by rw [rwC_at (show ∀ z, (finC z).length = 5 from fun _ => rfl) (by have := HI.out; omega) hj, ← hy]; exact hu)) hb)
    have x0 : wr.cell? ⟨b, o + i * 5, none⟩ = some (.int .u64 x.k) := by have := hcx 0 _ (by omega) rfl; simpa [Nat.add_assoc] using this
    have x1 : wr.cell? ⟨b, o + i * 5 + 1, none⟩ = some (.string (bs x.j)) := by have := hcx 1 _ (by omega) rfl; simpa [Nat.add_assoc] using this
    have x2 : wr.cell? ⟨b, o + i * 5 + 2, none⟩ = some (.int .i64 x.i) := by have := hcx 2 _ (by omega) rfl; simpa [Nat.add_assoc] using this
    have x3 : wr.cell? ⟨b, o + i * 5 + 3, none⟩ = some (.int .u64 x.n) := by have := hcx 3 _ (by omega) rfl; simpa [Nat.add_assoc] using this
    have x4 : wr.cell? ⟨b, o + i * 5 + 4, none⟩ = some (.int .i64 x.q) := by have := hcx 4 _ (by omega) rfl; simpa [Nat.add_assoc] using this
    obtain ⟨ok, hok⟩ : ∃ ok, ok = okAt finM finL L i := ⟨_, rfl⟩
    obtain ⟨mx, hmx⟩ : ∃ mx, mx = finM x := ⟨_, rfl⟩
    obtain ⟨ly, hly⟩ : ∃ ly, ly = finL y x := ⟨_, rfl⟩
    have HOKE : Hid (ok = (mx && (i == 0 || ly))) := Lib.hid (by rw [hok, okAt_at HI.out, hmx, hly, hx, hy, dif_pos (by have := HI.out; omega)])
    have HOO := Lib.hid hok
    have CM : Hid (∀ w', Below w.heap.size w w' → Calls Tryz.prog 76 #[finV x] w' fun e w2 => e = .returned (.bool mx) ∧ Below w'.heap.size w' w2) := Lib.hid (fun w' hb => by rw [hmx]; exact finM_any x w' HTX.out)
    have CL : Hid (∀ w', Calls Tryz.prog 75 #[finV y, finV x] w' fun e w2 => e = .returned (.bool ly) ∧ Below w'.heap.size w' w2) := Lib.hid (fun w' => by rw [hly]; exact finL_any y x w')
    clear ha hcx hlen hok hmx hly hx hy
    go_upto_region 4 with fail
    obtain ⟨X, hX⟩ : ∃ X, X = wr.heap.size := ⟨_, rfl⟩
    obtain ⟨w3, hw3⟩ : ∃ w3, w3 = wr.alloc (.cells #[.int .u64 x.k, .string (bs x.j), .int .i64 x.i, .int .u64 x.n, .int .i64 x.q] 95) := ⟨_, rfl⟩
    have HX : Hid (Blk w3 X [.int .u64 x.k, .string (bs x.j), .int .i64 x.i, .int .u64 x.n, .int .i64 x.q] 95) := Lib.hid (by rw [hw3, hX]; exact Blk.made wr [.int .u64 x.k, .string (bs x.j), .int .i64 x.i, .int .u64 x.n, .int .i64 x.q] _)
    have HB3 : Hid (Below w.heap.size w w3) := Lib.hid (by rw [hw3]; exact below_and HB.out (below_alloc _ _))
    rw [← hw3, ← hX]
    clear hw3 hX x0 x1 x2 x3 x4
    have p0 := Past.blk HX.out (j := 0) rfl
    have p1 := Past.blk HX.out (j := 1) rfl
    have p2 := Past.blk HX.out (j := 2) rfl
    have p3 := Past.blk HX.out (j := 3) rfl
    have p4 := Past.blk HX.out (j := 4) rfl
    have CMP : Hid (∀ s : Past w3, Calls Tryz.prog 76 #[finV x] s.val fun e w2 => e = .returned (.bool mx) ∧ Below s.val.heap.size s.val w2) := Lib.hid (fun s => CM.out s.val (below_and HB3.out s.h))
    simp only [finV] at CMP CL
    cases mx
    · refine wp_region_past (by kernel_rfl) (by kernel_rfl) ?_
      repeat (go_big_quiet_step ((first | (go_at_call 76; exact past_call (CMP.out _)) | (go_at_call 75; exact past_call (CL.out _)))))
      refine wpQuiet_nil ?_
      intro _ hw'
      obtain ⟨s9, hw''⟩ := hw'
      subst hw''
      obtain ⟨w9, h9, e9⟩ : ∃ w9, Below w3.heap.size w3 w9 ∧ w9 = s9.val := ⟨_, s9.h, rfl⟩
      rw [← e9]
      have HB9 : Hid (Below w.heap.size w w9) := Lib.hid (below_and HB3.out h9)
      clear h9 e9 CMP CL HCY p0 p1 p2 p3 p4
      have HQ : Hid (r = false) := Lib.hid (by rw [HR.out]; exact rises_no HI.out (by rw [← HOO.out, HOKE.out]; rfl))
      go_wp2
      go_ret
      exact ⟨ret_bool HQ.out.symm, HB9.out⟩
    · by_cases h0 : i = 0
      · have HI0 := Lib.hid h0
        have g0 : decide ((0 : Int) < (i : Int)) = false := by simp; omega
        have g1 : decide (0 < i) = false := by simp; omega
        clear h0
        refine wp_region_past (by kernel_rfl) (by kernel_rfl) ?_
        repeat (go_big_quiet_step ((first | (go_at_call 76; exact past_call (CMP.out _)) | (go_at_call 75; exact past_call (CL.out _)))))
        refine wpQuiet_nil ?_
        intro _ hw'
        obtain ⟨s9, hw''⟩ := hw'
        subst hw''
        obtain ⟨w9, h9, e9⟩ : ∃ w9, Below w3.heap.size w3 w9 ∧ w9 = s9.val := ⟨_, s9.h, rfl⟩
        rw [← e9]
        have HB9 : Hid (Below w.heap.size w w9) := Lib.hid (below_and HB3.out h9)
        clear h9 e9 CMP CL HCY p0 p1 p2 p3 p4
        have HN : Hid (ok = true) := Lib.hid (by rw [HOKE.out]; rw [HI0.out]; rfl)
        go_wp2
        go_roundw
        case rel => exact ⟨i + 1, by go_num, by omega, Lib.hid (fun q hq => by (by_cases hq2 : q = i; (rw [hq2, ← HOO.out]; exact HN.out); exact HOK.out q (by omega))), HB9⟩
        case measure => simp [intOf]; omega
      · have g0 : decide ((0 : Int) < (i : Int)) = true := by simp; omega
        have g1 : decide (0 < i) = true := by simp; omega
        have gi : (0 : Int) ≤ (i : Int) - 1 := by omega
        have gj : (i : Int) - 1 < (m : Int) := by omega
        obtain ⟨i', rfl⟩ : ∃ i', i = i' + 1 := ⟨i - 1, by omega⟩
        have q0 : ∀ s : Past w3, s.val.cell? ⟨b, o + i' * 5, none⟩ = some (.int .u64 y.k) := fun s => by have := HCY.out (by omega) 0 _ (by omega) rfl s.val (below_and HB3.out s.h); simpa [Nat.add_assoc] using this
        have q1 : ∀ s : Past w3, s.val.cell? ⟨b, o + i' * 5 + 1, none⟩ = some (.string (bs y.j)) := fun s => by have := HCY.out (by omega) 1 _ (by omega) rfl s.val (below_and HB3.out s.h); simpa [Nat.add_assoc] using this
        have q2 : ∀ s : Past w3, s.val.cell? ⟨b, o + i' * 5 + 2, none⟩ = some (.int .i64 y.i) := fun s => by have := HCY.out (by omega) 2 _ (by omega) rfl s.val (below_and HB3.out s.h); simpa [Nat.add_assoc] using this
        have q3 : ∀ s : Past w3, s.val.cell? ⟨b, o + i' * 5 + 3, none⟩ = some (.int .u64 y.n) := fun s => by have := HCY.out (by omega) 3 _ (by omega) rfl s.val (below_and HB3.out s.h); simpa [Nat.add_assoc] using this
        have q4 : ∀ s : Past w3, s.val.cell? ⟨b, o + i' * 5 + 4, none⟩ = some (.int .i64 y.q) := fun s => by have := HCY.out (by omega) 4 _ (by omega) rfl s.val (below_and HB3.out s.h); simpa [Nat.add_assoc] using this
        cases ly
        · refine wp_region_past (by kernel_rfl) (by kernel_rfl) ?_
          repeat (go_big_quiet_step ((first | (go_at_call 76; exact past_call (CMP.out _)) | (go_at_call 75; exact past_call (CL.out _)))))
          refine wpQuiet_nil ?_
          intro _ hw'
          obtain ⟨s9, hw''⟩ := hw'
          subst hw''
          obtain ⟨w9, h9, e9⟩ : ∃ w9, Below w3.heap.size w3 w9 ∧ w9 = s9.val := ⟨_, s9.h, rfl⟩
          rw [← e9]
          have HB9 : Hid (Below w.heap.size w w9) := Lib.hid (below_and HB3.out h9)
          clear h9 e9 CMP CL HCY p0 p1 p2 p3 p4
          have HQ : Hid (r = false) := Lib.hid (by rw [HR.out]; exact rises_no HI.out (by rw [← HOO.out, HOKE.out]; simp))
          go_wp2
          go_ret
          exact ⟨ret_bool HQ.out.symm, HB9.out⟩
        · refine wp_region_past (by kernel_rfl) (by kernel_rfl) ?_
          repeat (go_big_quiet_step ((first | (go_at_call 76; exact past_call (CMP.out _)) | (go_at_call 75; exact past_call (CL.out _)))))
          refine wpQuiet_nil ?_
          intro _ hw'
          obtain ⟨s9, hw''⟩ := hw'
          subst hw''
          obtain ⟨w9, h9, e9⟩ : ∃ w9, Below w3.heap.size w3 w9 ∧ w9 = s9.val := ⟨_, s9.h, rfl⟩
          rw [← e9]
          have HB9 : Hid (Below w.heap.size w w9) := Lib.hid (below_and HB3.out h9)
          clear h9 e9 CMP CL HCY p0 p1 p2 p3 p4
          have HN : Hid (ok = true) := Lib.hid (by rw [HOKE.out]; simp)
          go_wp2
          go_roundw
          case rel => exact ⟨(i' + 1) + 1, by go_num, by omega, Lib.hid (fun q hq => by (by_cases hq2 : q = (i' + 1); (rw [hq2, ← HOO.out]; exact HN.out); exact HOK.out q (by omega))), HB9⟩
          case measure => simp [intOf]; omega
end Go.Proofs.YtopkfomlppnpeaaGreatDoor.Ms

namespace Go.Proofs.YtopkfomlppnpeaaGreatDoor.Ms
open Go.RowKit Go.Proofs.YtopkfomlppnpeaaGreatDoor

set_option maxRecDepth 100000 in
set_option maxHeartbeats 2000000 in
theorem refR_any (v : Value) (L : List El) (w : World) (hr : Row w v 4 L.length (rwC refC L)) (ht : ∀ x ∈ L, TxOk x) : Calls Tryz.prog 77 #[v, .func (.func 78) #[] #[], .func (.func 79) #[] #[]] w fun e w' => e = .returned (.bool (risesB refM ltT L)) ∧ Below w.heap.size w w' := by
  obtain ⟨r, hr9⟩ : ∃ r, r = risesB refM ltT L := ⟨_, rfl⟩
  rw [← hr9]
  have HR := Lib.hid hr9
  clear hr9
  obtain ⟨p, c, rfl, hc, hm, hat⟩ := row_el hr
  unfold maxLen at hm
  have HAT := Lib.hid hat
  have HT := Lib.hid ht
  obtain ⟨m, hmm⟩ : ∃ m, m = L.length := ⟨_, rfl⟩
  have HM := Lib.hid hmm
  rw [← hmm] at hc ⊢
  clear hr hat ht hmm
  go_enter Tryz.func77, Tryz.ntmps77
  go_upto_region 2 with fail
  go_loopw [11] (fun vi wr => ∃ i : Nat, vi = .int .i64 i ∧ i ≤ m ∧ Hid (∀ q, q < i → okAt refM ltT L q = true) ∧ Hid (Below w.heap.size w wr)) (fun vi _ => m - (intOf vi).toNat)
  case atStart => exact ⟨0, by go_num, Nat.zero_le _, Lib.hid (fun q hq => absurd hq (by omega)), Lib.hid (Below.refl _ _)⟩
  case round =>
    obtain ⟨i, rfl, him, HOK, HB⟩ := hrel
    by_cases hlt : i < m
    rotate_left
    · obtain rfl : i = m := by omega
      have HQ : Hid (r = decide ((i : Int) ≤ 256)) := Lib.hid (by rw [HR.out, rises_yes (fun q hq => HOK.out q (by rw [HM.out]; exact hq)), ← HM.out]; congr 1; simp; omega)
      go_wp2
      go_ret
      exact ⟨ret_bool HQ.out.symm, HB.out⟩
    have HI : Hid (i < L.length) := Lib.hid (by rw [← HM.out]; exact hlt)
    obtain ⟨x, hx⟩ : ∃ x, x = L[i]'HI.out := ⟨_, rfl⟩
    obtain ⟨y, hy⟩ : ∃ y, y = L[i - 1]'(by have := HI.out; omega) := ⟨_, rfl⟩
    have HTX := Lib.hid (HT.out x (by rw [hx]; exact List.getElem_mem _))
    have hlen : (rwC refC L).length = L.length * 4 := rwC_len (show ∀ z, (refC z).length = 4 from fun _ => rfl) L
    rcases HAT.out with ha | ⟨b, o, rfl, ha⟩
    · exact absurd (congrArg List.length ha) (by rw [hlen]; have := HI.out; simp; omega)
    have hcx : ∀ j u, j < 4 → (refC x)[j]? = some u → wr.cell? ⟨b, o + (i * 4 + j), none⟩ = some u := fun j u hj hu => cell_kept (ha _ u (by rw [rwC_at (show ∀ z, (refC z).length = 4 from fun _ => rfl) HI.out hj, ← hx]; exact hu)) HB.out
    have HCY : Hid (0 < i → ∀ j u, j < 4 → (refC y)[j]? = some u → ∀ w', Below w.heap.size w w' → w'.cell? ⟨b, o + ((i - 1) * 4 + j), none⟩ = some u) := Lib.hid (fun h0 j u hj hu w' hb => cell_kept (ha _ u (by rw [rwC_at (show ∀ z, (refC z).length = 4 from fun _ => rfl) (by have := HI.out; omega) hj, ← hy]; exact hu)) hb)
    have x0 : wr.cell? ⟨b, o + i * 4, none⟩ = some (.string (bs x.j)) := by have := hcx 0 _ (by omega) rfl; simpa [Nat.add_assoc] using this
    have x1 : wr.cell? ⟨b, o + i * 4 + 1, none⟩ = some (.int .i64 x.i) := by have := hcx 1 _ (by omega) rfl; simpa [Nat.add_assoc] using this
    have x2 : wr.cell? ⟨b, o + i * 4 + 2, none⟩ = some (.int .u64 x.n) := by have := hcx 2 _ (by omega) rfl; simpa [Nat.add_assoc] using this
    have x3 : wr.cell? ⟨b, o + i * 4 + 3, none⟩ = some (.int .i64 x.q) := by have := hcx 3 _ (by omega) rfl; simpa [Nat.add_assoc] using this
    obtain ⟨ok, hok⟩ : ∃ ok, ok = okAt refM ltT L i := ⟨_, rfl⟩
    obtain ⟨mx, hmx⟩ : ∃ mx, mx = refM x := ⟨_, rfl⟩
    obtain ⟨ly, hly⟩ : ∃ ly, ly = ltT y x := ⟨_, rfl⟩
    have HOKE : Hid (ok = (mx && (i == 0 || ly))) := Lib.hid (by rw [hok, okAt_at HI.out, hmx, hly, hx, hy, dif_pos (by have := HI.out; omega)])
    have HOO := Lib.hid hok
    have CM : Hid (∀ w', Below w.heap.size w w' → Calls Tryz.prog 79 #[refV x] w' fun e w2 => e = .returned (.bool mx) ∧ Below w'.heap.size w' w2) := Lib.hid (fun w' hb => by rw [hmx]; exact refM_any x w' HTX.out)
    have CL : Hid (∀ w', Calls Tryz.prog 78 #[refV y, refV x] w' fun e w2 => e = .returned (.bool ly) ∧ Below w'.heap.size w' w2) := Lib.hid (fun w' => by rw [hly]; exact refL_any y x w')
    clear ha hcx hlen hok hmx hly hx hy
    go_upto_region 4 with fail
    obtain ⟨X, hX⟩ : ∃ X, X = wr.heap.size := ⟨_, rfl⟩
    obtain ⟨w3, hw3⟩ : ∃ w3, w3 = wr.alloc (.cells #[.string (bs x.j), .int .i64 x.i, .int .u64 x.n, .int .i64 x.q] 99) := ⟨_, rfl⟩
    have HX : Hid (Blk w3 X [.string (bs x.j), .int .i64 x.i, .int .u64 x.n, .int .i64 x.q] 99) := Lib.hid (by rw [hw3, hX]; exact Blk.made wr [.string (bs x.j), .int .i64 x.i, .int .u64 x.n, .int .i64 x.q] _)
    have HB3 : Hid (Below w.heap.size w w3) := Lib.hid (by rw [hw3]; exact below_and HB.out (below_alloc _ _))
    rw [← hw3, ← hX]
    clear hw3 hX x0 x1 x2 x3
    have p0 := Past.blk HX.out (j := 0) rfl
    have p1 := Past.blk HX.out (j := 1) rfl
    have p2 := Past.blk HX.out (j := 2) rfl
    have p3 := Past.blk HX.out (j := 3) rfl
    have CMP : Hid (∀ s : Past w3, Calls Tryz.prog 79 #[refV x] s.val fun e w2 => e = .returned (.bool mx) ∧ Below s.val.heap.size s.val w2) := Lib.hid (fun s => CM.out s.val (below_and HB3.out s.h))
    simp only [refV] at CMP CL
    cases mx
    · refine wp_region_past (by kernel_rfl) (by kernel_rfl) ?_
      repeat (go_big_quiet_step ((first | (go_at_call 79; exact past_call (CMP.out _)) | (go_at_call 78; exact past_call (CL.out _)))))
      refine wpQuiet_nil ?_
      intro _ hw'
      obtain ⟨s9, hw''⟩ := hw'
      subst hw''
      obtain ⟨w9, h9, e9⟩ : ∃ w9, Below w3.heap.size w3 w9 ∧ w9 = s9.val := ⟨_, s9.h, rfl⟩
      rw [← e9]
      have HB9 : Hid (Below w.heap.size w w9) := Lib.hid (below_and HB3.out h9)
      clear h9 e9 CMP CL HCY p0 p1 p2 p3
      have HQ : Hid (r = false) := Lib.hid (by rw [HR.out]; exact rises_no HI.out (by rw [← HOO.out, HOKE.out]; rfl))
      go_wp2
      go_ret
      exact ⟨ret_bool HQ.out.symm, HB9.out⟩
    · by_cases h0 : i = 0
      · have HI0 := Lib.hid h0
        have g0 : decide ((0 : Int) < (i : Int)) = false := by simp; omega
        have g1 : decide (0 < i) = false := by simp; omega
        clear h0
        refine wp_region_past (by kernel_rfl) (by kernel_rfl) ?_
        repeat (go_big_quiet_step ((first | (go_at_call 79; exact past_call (CMP.out _)) | (go_at_call 78; exact past_call (CL.out _)))))
        refine wpQuiet_nil ?_
        intro _ hw'
        obtain ⟨s9, hw''⟩ := hw'
        subst hw''
        obtain ⟨w9, h9, e9⟩ : ∃ w9, Below w3.heap.size w3 w9 ∧ w9 = s9.val := ⟨_, s9.h, rfl⟩
        rw [← e9]
        have HB9 : Hid (Below w.heap.size w w9) := Lib.hid (below_and HB3.out h9)
        clear h9 e9 CMP CL HCY p0 p1 p2 p3
        have HN : Hid (ok = true) := Lib.hid (by rw [HOKE.out]; rw [HI0.out]; rfl)
        go_wp2
        go_roundw
        case rel => exact ⟨i + 1, by go_num, by omega, Lib.hid (fun q hq => by (by_cases hq2 : q = i; (rw [hq2, ← HOO.out]; exact HN.out); exact HOK.out q (by omega))), HB9⟩
        case measure => simp [intOf]; omega
      · have g0 : decide ((0 : Int) < (i : Int)) = true := by simp; omega
        have g1 : decide (0 < i) = true := by simp; omega
        have gi : (0 : Int) ≤ (i : Int) - 1 := by omega
        have gj : (i : Int) - 1 < (m : Int) := by omega
        obtain ⟨i', rfl⟩ : ∃ i', i = i' + 1 := ⟨i - 1, by omega⟩
        have q0 : ∀ s : Past w3, s.val.cell? ⟨b, o + i' * 4, none⟩ = some (.string (bs y.j)) := fun s => by have := HCY.out (by omega) 0 _ (by omega) rfl s.val (below_and HB3.out s.h); simpa [Nat.add_assoc] using this
        have q1 : ∀ s : Past w3, s.val.cell? ⟨b, o + i' * 4 + 1, none⟩ = some (.int .i64 y.i) := fun s => by have := HCY.out (by omega) 1 _ (by omega) rfl s.val (below_and HB3.out s.h); simpa [Nat.add_assoc] using this
        have q2 : ∀ s : Past w3, s.val.cell? ⟨b, o + i' * 4 + 2, none⟩ = some (.int .u64 y.n) := fun s => by have := HCY.out (by omega) 2 _ (by omega) rfl s.val (below_and HB3.out s.h); simpa [Nat.add_assoc] using this
        have q3 : ∀ s : Past w3, s.val.cell? ⟨b, o + i' * 4 + 3, none⟩ = some (.int .i64 y.q) := fun s => by have := HCY.out (by omega) 3 _ (by omega) rfl s.val (below_and HB3.out s.h); simpa [Nat.add_assoc] using this
        cases ly
        · refine wp_region_past (by kernel_rfl) (by kernel_rfl) ?_
          repeat (go_big_quiet_step ((first | (go_at_call 79; exact past_call (CMP.out _)) | (go_at_call 78; exact past_call (CL.out _)))))
          refine wpQuiet_nil ?_
          intro _ hw'
          obtain ⟨s9, hw''⟩ := hw'
          subst hw''
          obtain ⟨w9, h9, e9⟩ : ∃ w9, Below w3.heap.size w3 w9 ∧ w9 = s9.val := ⟨_, s9.h, rfl⟩
          rw [← e9]
          have HB9 : Hid (Below w.heap.size w w9) := Lib.hid (below_and HB3.out h9)
          clear h9 e9 CMP CL HCY p0 p1 p2 p3
          have HQ : Hid (r = false) := Lib.hid (by rw [HR.out]; exact rises_no HI.out (by rw [← HOO.out, HOKE.out]; simp))
          go_wp2
          go_ret
          exact ⟨ret_bool HQ.out.symm, HB9.out⟩
        · refine wp_region_past (by kernel_rfl) (by kernel_rfl) ?_
          repeat (go_big_quiet_step ((first | (go_at_call 79; exact past_call (CMP.out _)) | (go_at_call 78; exact past_call (CL.out _)))))
          refine wpQuiet_nil ?_
          intro _ hw'
          obtain ⟨s9, hw''⟩ := hw'
          subst hw''
          obtain ⟨w9, h9, e9⟩ : ∃ w9, Below w3.heap.size w3 w9 ∧ w9 = s9.val := ⟨_, s9.h, rfl⟩
          rw [← e9]
          have HB9 : Hid (Below w.heap.size w w9) := Lib.hid (below_and HB3.out h9)
          clear h9 e9 CMP CL HCY p0 p1 p2 p3
          have HN : Hid (ok = true) := Lib.hid (by rw [HOKE.out]; simp)
          go_wp2
          go_roundw
          case rel => exact ⟨(i' + 1) + 1, by go_num, by omega, Lib.hid (fun q hq => by (by_cases hq2 : q = (i' + 1); (rw [hq2, ← HOO.out]; exact HN.out); exact HOK.out q (by omega))), HB9⟩
          case measure => simp [intOf]; omega
end Go.Proofs.YtopkfomlppnpeaaGreatDoor.Ms
