/- The ledger's sum. -/
import Derived.Test.YtighcnecajgkpaaLed
import Derived.Test.YtighcnecajgkpaaLedPlain2
namespace Go.Proofs.Ytighcnecajgkpaa
open Go.RowKit

set_option maxRecDepth 100000 in
set_option maxHeartbeats 2000000 in
theorem sum1_any (b mb : Nat) (cap : Am) (L : List Ent) (s t : ByteArray) (p q : Nat) (w : World) (h : Led w b mb cap L) (hd : Apart L) (ho : Oks L) (hf : Fit (inB s t) L) (h0 : w.cell? ⟨p, 0, none⟩ = some (.string s)) (h1 : w.cell? ⟨q, 0, none⟩ = some (.string t)) :
    Calls Try.prog 32 #[ptr b, .func (Fn.func 47) #[] #[ptr p, ptr q]] w fun e w' => e = .returned (amV (sumA (inB s t) L)) ∧ Below w.heap.size w w' := by
  obtain ⟨P, hP⟩ : ∃ P : Ent → Bool, P = inB s t := ⟨_, rfl⟩
  rw [← hP] at hf ⊢
  obtain ⟨w3, hw3⟩ : ∃ w3, w3 = (w.alloc (.cells #[.int .i64 0, .int .i64 0, .int .i64 0, .int .i64 0] 28)).alloc (.cells #[.int .i64 0, .int .i64 0, .int .i64 0, .int .i64 0] 28) := ⟨_, rfl⟩
  obtain ⟨B, hB⟩ : ∃ B, B = w.heap.size := ⟨_, rfl⟩
  have B0 : Hid (Blk w3 B (amC .zero) 28) := Lib.hid (by rw [hw3, hB]; exact (Blk.made w (amC .zero) _).alloc _)
  have B1 : Hid (Blk w3 (B + 1) (amC .zero) 28) := Lib.hid (by
    have := Blk.made (w.alloc (.cells #[.int .i64 0, .int .i64 0, .int .i64 0, .int .i64 0] 28)) (amC .zero) 28
    rw [hw3, hB]; simpa [Am.zero] using this)
  have HSZ : Hid (w3.heap.size = B + 2 ∧ w.heap.size = B) := Lib.hid (by rw [hw3, hB]; simp)
  have HBL : Hid (Below w.heap.size w w3) := Lib.hid (by rw [hw3]; exact below_and (below_alloc w _) (below_alloc _ _))
  have H := Lib.hid h
  have H3 : Hid (Led w3 b mb cap L) := Lib.hid (h.kept HBL.out)
  have HML : Hid (mb < B) := Lib.hid (by rw [hB]; exact h.map.lt)
  have HD := Lib.hid hd
  have HO := Lib.hid ho
  have HF := Lib.hid hf
  have HPK : Hid (∀ x w', Below w.heap.size w w' → Calls Try.prog 47 #[entV x, ptr p, ptr q] w' fun e w2 => e = .returned (.bool (P x)) ∧ Below w'.heap.size w' w2) := Lib.hid (fun x w' hb => by rw [hP]; exact pick1_any x s t p q w' (cell_kept h0 hb) (cell_kept h1 hb))
  have c4 := H3.out.blk.cell (j := 4) rfl
  clear h hd ho hf hP h0 h1
  go_enter Try.func32, Try.ntmps32
  go_upto_region 2 with fail
  rw [← hw3, ← hB]
  clear hw3 hB
  go_wp2_with (at_range; refine wpList_srange _ rfl _ _ rfl 9 48 Try.underlying9 Try.underlying52 mb (entM L) rfl H3.out.map ?_; intro w4 hrg0 hb0 hs0; have HRG := Lib.hid hrg0; have HB4 := Lib.hid hb0; have HS4 := Lib.hid hs0; clear hrg0 hb0 hs0)
  go_frame
  go_loopw [13] (fun _ wr => ∃ (left : Lit → Bool) (cnt : Nat), Hid (SRange Try.prog 9 wr mb w3.heap.size (entM L) left cnt) ∧ Hid (Blk wr (B + 1) (amC (doneA P L left)) 28) ∧ Hid (Blk wr B (amC .zero) 28) ∧ Hid (Below w.heap.size w wr)) (fun _ wr => wr.rangeLeft mb w3.heap.size)
  case atStart =>
    refine ⟨_, _, HRG, Lib.hid ?_, Lib.hid (B0.out.kept HB4.out), Lib.hid (below_and HBL.out HB4.out)⟩
    rw [doneA_start (fun e he => by
      show Maps.has (entM L).dat (.string e.key) = true
      rw [SM.dat_has, entM_has, fnd_of HD.out he]; rfl)]
    exact B1.out.kept HB4.out
  case round =>
    obtain ⟨left, cnt, HR, HA, HZ, HBx⟩ := hrel
    go_wp2_with (at_next; refine wpList_snext _ rfl _ rfl 9 Try.underlying9 mb w3.heap.size (entM L) left cnt rfl HR.out ?_ ?_)
    · intro hl0
      have HE := Lib.hid (doneA_end (p := P) (L := L) hl0)
      have a0 := HA.out.cell (j := 0) rfl
      have a1 := HA.out.cell (j := 1) rfl
      have a2 := HA.out.cell (j := 2) rfl
      have a3 := HA.out.cell (j := 3) rfl
      have r0 := HZ.out.cell (j := 0) rfl
      have r1 := HZ.out.cell (j := 1) rfl
      have r2 := HZ.out.cell (j := 2) rfl
      have r3 := HZ.out.cell (j := 3) rfl
      have f0 := HZ.out.free 0
      have f1 := HZ.out.free 1
      have f2 := HZ.out.free 2
      have f3 := HZ.out.free 3
      obtain ⟨z, hz⟩ : ∃ z, z = doneA P L left := ⟨_, rfl⟩
      rw [← hz] at a0 a1 a2 a3
      have HZE : Hid (z = sumA P L) := Lib.hid (by rw [hz]; exact HE.out)
      clear hz hl0
      go_wp2
      refine bodyPost_ret (results_row rfl _ _ B 28 #[.int .i64 z.c, .int .i64 z.r, .int .i64 z.d, .int .i64 z.p] (0, 0) _ rfl ?_ Try.underlying28 rfl (by kernel_rfl)) rfl ⟨by rw [← HZE.out], ?_⟩
      · exact (((HZ.out.set 0 (.int .i64 z.c)).set 1 (.int .i64 z.r)).set 2 (.int .i64 z.d)).set 3 (.int .i64 z.p)
      · have hBw : w.heap.size ≤ B := by have := HSZ.out; omega
        exact (((HBx.out.setCell (p := ⟨B, 0, none⟩) hBw _).setCell (p := ⟨B, 1, none⟩) hBw _).setCell (p := ⟨B, 2, none⟩) hBw _).setCell (p := ⟨B, 3, none⟩) hBw _
    · intro x c w5 cnt5 hlx hgx hrg5 hlt5 hg5 hs5 hen
      obtain ⟨e, hfe, hc⟩ : ∃ e, fnd L x.data.toList = some e ∧ c = entV e := by
        rw [entM_get] at hgx
        cases hq : fnd L x.data.toList with
        | none => rw [hq] at hgx; cases hgx
        | some e => rw [hq] at hgx; exact ⟨e, rfl, (Option.some.inj hgx).symm⟩
      subst hc
      obtain ⟨hem, hek⟩ := fnd_mem hfe
      rw [← hek] at hlx hrg5
      have HA5 := Lib.hid (HA.out.grown hg5 (by have := HSZ.out; simp; omega))
      have HZ5 := Lib.hid (HZ.out.grown hg5 (by have := HSZ.out; simp; omega))
      have HB5 : Hid (Below w.heap.size w w5) := Lib.hid (HBx.out.trans (grown_below hg5 (by have := HSZ.out; omega) HBx.out.size))
      have HR5 := Lib.hid hrg5
      have HL5 := Lib.hid hlt5
      have hb6 := below_alloc w5 (.cells #[.string e.n, .string e.i, .int .i64 e.a.c, .int .i64 e.a.r, .int .i64 e.a.d, .int .i64 e.a.p] 48)
      have HB6 := Lib.hid hb6
      have HME : Hid (e ∈ L ∧ left (.string e.key) = true) := Lib.hid ⟨hem, hlx⟩
      clear hgx hfe hem hek hlx hrg5 hlt5 hg5 hs5 hb6
      cases hp : P e
      · have HP := Lib.hid hp
        have HS := Lib.hid (doneA_skip HD.out HME.out.1 HME.out.2 hp)
        clear hp
        go_wp2_with (go_at_call 47; refine (HPK.out e _ (below_and HB5.out HB6.out)).mono ?_; rw [HP.out]; rintro e' w7 ⟨rfl, hb⟩; have HB7 := Lib.hid (below_and HB6.out hb); clear hb)
        go_roundw
        case rel => exact ⟨_, cnt5, Lib.hid (HR5.out.below HB7.out), Lib.hid (by rw [HS.out]; exact HA5.out.kept HB7.out), Lib.hid (HZ5.out.kept HB7.out), Lib.hid (below_and HB5.out HB7.out)⟩
        case measure => rw [(HR5.out.below HB7.out).left, HR.out.left]; exact HL5.out
      · have HP := Lib.hid hp
        have HS := Lib.hid (doneA_add HD.out HO.out HF.out HME.out.1 HME.out.2 hp)
        obtain ⟨z, hz⟩ : ∃ z, z = doneA P L (fun z => left z && !z.sameKey (.string e.key)) := ⟨_, rfl⟩
        rw [← hz] at HS
        obtain ⟨y, hy⟩ : ∃ y, y = doneA P L left := ⟨_, rfl⟩
        rw [← hy] at HS HA5
        have HZZ := Lib.hid hz
        have HADD : Hid (∀ w, Calls Try.prog 44 #[amV y, amV e.a] w fun e' w' => e' = .returned (.tuple #[amV z, .int .i64 0]) ∧ Below w.heap.size w w') := Lib.hid (fun w => (add_any y e.a w).mono fun e' w' ⟨h1, h2⟩ => ⟨by rw [h1, HS.out], h2⟩)
        clear hp hz hy
        go_wp2_with (first
          | (go_at_call 47; refine (HPK.out e _ (below_and HB5.out HB6.out)).mono ?_; rw [HP.out]; rintro e' w7 ⟨rfl, hb⟩; have he7 := (Blk.made w5 (entC e) 48).kept hb; have e2 := he7.cell (j := 2) rfl; have e3 := he7.cell (j := 3) rfl; have e4 := he7.cell (j := 4) rfl; have e5 := he7.cell (j := 5) rfl; have HB7 := Lib.hid (below_and HB6.out hb); have ha7 := HA5.out.kept HB7.out; have a0 := ha7.cell (j := 0) rfl; have a1 := ha7.cell (j := 1) rfl; have a2 := ha7.cell (j := 2) rfl; have a3 := ha7.cell (j := 3) rfl; clear hb he7 ha7)
          | (go_at_call 44; refine (HADD.out _).mono ?_; rintro e' w8 ⟨rfl, hb⟩; have HB8 := Lib.hid (below_and HB7.out hb); have ha8 := HA5.out.kept HB8.out; clear a0 a1 a2 a3 e2 e3 e4 e5; have HA8 := Lib.hid ha8; have a0 := ha8.cell (j := 0) rfl; have a1 := ha8.cell (j := 1) rfl; have a2 := ha8.cell (j := 2) rfl; have a3 := ha8.cell (j := 3) rfl; have f0 := ha8.free 0; have f1 := ha8.free 1; have f2 := ha8.free 2; have f3 := ha8.free 3; have HR8 := Lib.hid (HR5.out.below HB8.out); have HZ8 := Lib.hid (HZ5.out.kept HB8.out); have HBB := Lib.hid (below_and HB5.out HB8.out); clear hb ha8))
        go_roundw
        case rel =>
          have hq : ∀ j : Nat, (⟨B + 1, j, none⟩ : Addr).block ≠ mb ∧ (⟨B + 1, j, none⟩ : Addr).block ≠ w3.heap.size := fun j => by have := HSZ.out; have := HML.out; simp; omega
          have hBw : w.heap.size ≤ B + 1 := by have := HSZ.out; omega
          exact ⟨_, cnt5, Lib.hid ((((HR8.out.set (hq 0).1 (hq 0).2 _).set (hq 1).1 (hq 1).2 _).set (hq 2).1 (hq 2).2 _).set (hq 3).1 (hq 3).2 _), Lib.hid (by rw [← HZZ.out]; exact (((HA8.out.set 0 (.int .i64 z.c)).set 1 (.int .i64 z.r)).set 2 (.int .i64 z.d)).set 3 (.int .i64 z.p)), Lib.hid ((((HZ8.out.other (a := ⟨B + 1, 0, none⟩) (by simp) _).other (a := ⟨B + 1, 1, none⟩) (by simp) _).other (a := ⟨B + 1, 2, none⟩) (by simp) _).other (a := ⟨B + 1, 3, none⟩) (by simp) _), Lib.hid ((((HBB.out.setCell (p := ⟨B + 1, 0, none⟩) hBw _).setCell (p := ⟨B + 1, 1, none⟩) hBw _).setCell (p := ⟨B + 1, 2, none⟩) hBw _).setCell (p := ⟨B + 1, 3, none⟩) hBw _)⟩
        case measure =>
          have hq : ∀ j : Nat, (⟨B + 1, j, none⟩ : Addr).block ≠ mb ∧ (⟨B + 1, j, none⟩ : Addr).block ≠ w3.heap.size := fun j => by have := HSZ.out; have := HML.out; simp; omega
          rw [((((HR8.out.set (hq 0).1 (hq 0).2 (.int .i64 z.c)).set (hq 1).1 (hq 1).2 (.int .i64 z.r)).set (hq 2).1 (hq 2).2 (.int .i64 z.d)).set (hq 3).1 (hq 3).2 (.int .i64 z.p)).left, HR.out.left]
          exact HL5.out

set_option maxRecDepth 100000 in
set_option maxHeartbeats 2000000 in
theorem sum2_any (b mb : Nat) (cap : Am) (L : List Ent) (s : ByteArray) (p : Nat) (w : World) (h : Led w b mb cap L) (hd : Apart L) (ho : Oks L) (hf : Fit (inR s) L) (h0 : w.cell? ⟨p, 0, none⟩ = some (.string s)) :
    Calls Try.prog 32 #[ptr b, .func (Fn.func 33) #[] #[ptr p]] w fun e w' => e = .returned (amV (sumA (inR s) L)) ∧ Below w.heap.size w w' := by
  obtain ⟨P, hP⟩ : ∃ P : Ent → Bool, P = inR s := ⟨_, rfl⟩
  rw [← hP] at hf ⊢
  obtain ⟨w3, hw3⟩ : ∃ w3, w3 = (w.alloc (.cells #[.int .i64 0, .int .i64 0, .int .i64 0, .int .i64 0] 28)).alloc (.cells #[.int .i64 0, .int .i64 0, .int .i64 0, .int .i64 0] 28) := ⟨_, rfl⟩
  obtain ⟨B, hB⟩ : ∃ B, B = w.heap.size := ⟨_, rfl⟩
  have B0 : Hid (Blk w3 B (amC .zero) 28) := Lib.hid (by rw [hw3, hB]; exact (Blk.made w (amC .zero) _).alloc _)
  have B1 : Hid (Blk w3 (B + 1) (amC .zero) 28) := Lib.hid (by
    have := Blk.made (w.alloc (.cells #[.int .i64 0, .int .i64 0, .int .i64 0, .int .i64 0] 28)) (amC .zero) 28
    rw [hw3, hB]; simpa [Am.zero] using this)
  have HSZ : Hid (w3.heap.size = B + 2 ∧ w.heap.size = B) := Lib.hid (by rw [hw3, hB]; simp)
  have HBL : Hid (Below w.heap.size w w3) := Lib.hid (by rw [hw3]; exact below_and (below_alloc w _) (below_alloc _ _))
  have H := Lib.hid h
  have H3 : Hid (Led w3 b mb cap L) := Lib.hid (h.kept HBL.out)
  have HML : Hid (mb < B) := Lib.hid (by rw [hB]; exact h.map.lt)
  have HD := Lib.hid hd
  have HO := Lib.hid ho
  have HF := Lib.hid hf
  have HPK : Hid (∀ x w', Below w.heap.size w w' → Calls Try.prog 33 #[entV x, ptr p] w' fun e w2 => e = .returned (.bool (P x)) ∧ Below w'.heap.size w' w2) := Lib.hid (fun x w' hb => by rw [hP]; exact pick2_any x s p w' (cell_kept h0 hb))
  have c4 := H3.out.blk.cell (j := 4) rfl
  clear h hd ho hf hP h0
  go_enter Try.func32, Try.ntmps32
  go_upto_region 2 with fail
  rw [← hw3, ← hB]
  clear hw3 hB
  go_wp2_with (at_range; refine wpList_srange _ rfl _ _ rfl 9 48 Try.underlying9 Try.underlying52 mb (entM L) rfl H3.out.map ?_; intro w4 hrg0 hb0 hs0; have HRG := Lib.hid hrg0; have HB4 := Lib.hid hb0; have HS4 := Lib.hid hs0; clear hrg0 hb0 hs0)
  go_frame
  go_loopw [13] (fun _ wr => ∃ (left : Lit → Bool) (cnt : Nat), Hid (SRange Try.prog 9 wr mb w3.heap.size (entM L) left cnt) ∧ Hid (Blk wr (B + 1) (amC (doneA P L left)) 28) ∧ Hid (Blk wr B (amC .zero) 28) ∧ Hid (Below w.heap.size w wr)) (fun _ wr => wr.rangeLeft mb w3.heap.size)
  case atStart =>
    refine ⟨_, _, HRG, Lib.hid ?_, Lib.hid (B0.out.kept HB4.out), Lib.hid (below_and HBL.out HB4.out)⟩
    rw [doneA_start (fun e he => by
      show Maps.has (entM L).dat (.string e.key) = true
      rw [SM.dat_has, entM_has, fnd_of HD.out he]; rfl)]
    exact B1.out.kept HB4.out
  case round =>
    obtain ⟨left, cnt, HR, HA, HZ, HBx⟩ := hrel
    go_wp2_with (at_next; refine wpList_snext _ rfl _ rfl 9 Try.underlying9 mb w3.heap.size (entM L) left cnt rfl HR.out ?_ ?_)
    · intro hl0
      have HE := Lib.hid (doneA_end (p := P) (L := L) hl0)
      have a0 := HA.out.cell (j := 0) rfl
      have a1 := HA.out.cell (j := 1) rfl
      have a2 := HA.out.cell (j := 2) rfl
      have a3 := HA.out.cell (j := 3) rfl
      have r0 := HZ.out.cell (j := 0) rfl
      have r1 := HZ.out.cell (j := 1) rfl
      have r2 := HZ.out.cell (j := 2) rfl
      have r3 := HZ.out.cell (j := 3) rfl
      have f0 := HZ.out.free 0
      have f1 := HZ.out.free 1
      have f2 := HZ.out.free 2
      have f3 := HZ.out.free 3
      obtain ⟨z, hz⟩ : ∃ z, z = doneA P L left := ⟨_, rfl⟩
      rw [← hz] at a0 a1 a2 a3
      have HZE : Hid (z = sumA P L) := Lib.hid (by rw [hz]; exact HE.out)
      clear hz hl0
      go_wp2
      refine bodyPost_ret (results_row rfl _ _ B 28 #[.int .i64 z.c, .int .i64 z.r, .int .i64 z.d, .int .i64 z.p] (0, 0) _ rfl ?_ Try.underlying28 rfl (by kernel_rfl)) rfl ⟨by rw [← HZE.out], ?_⟩
      · exact (((HZ.out.set 0 (.int .i64 z.c)).set 1 (.int .i64 z.r)).set 2 (.int .i64 z.d)).set 3 (.int .i64 z.p)
      · have hBw : w.heap.size ≤ B := by have := HSZ.out; omega
        exact (((HBx.out.setCell (p := ⟨B, 0, none⟩) hBw _).setCell (p := ⟨B, 1, none⟩) hBw _).setCell (p := ⟨B, 2, none⟩) hBw _).setCell (p := ⟨B, 3, none⟩) hBw _
    · intro x c w5 cnt5 hlx hgx hrg5 hlt5 hg5 hs5 hen
      obtain ⟨e, hfe, hc⟩ : ∃ e, fnd L x.data.toList = some e ∧ c = entV e := by
        rw [entM_get] at hgx
        cases hq : fnd L x.data.toList with
        | none => rw [hq] at hgx; cases hgx
        | some e => rw [hq] at hgx; exact ⟨e, rfl, (Option.some.inj hgx).symm⟩
      subst hc
      obtain ⟨hem, hek⟩ := fnd_mem hfe
      rw [← hek] at hlx hrg5
      have HA5 := Lib.hid (HA.out.grown hg5 (by have := HSZ.out; simp; omega))
      have HZ5 := Lib.hid (HZ.out.grown hg5 (by have := HSZ.out; simp; omega))
      have HB5 : Hid (Below w.heap.size w w5) := Lib.hid (HBx.out.trans (grown_below hg5 (by have := HSZ.out; omega) HBx.out.size))
      have HR5 := Lib.hid hrg5
      have HL5 := Lib.hid hlt5
      have hb6 := below_alloc w5 (.cells #[.string e.n, .string e.i, .int .i64 e.a.c, .int .i64 e.a.r, .int .i64 e.a.d, .int .i64 e.a.p] 48)
      have HB6 := Lib.hid hb6
      have HME : Hid (e ∈ L ∧ left (.string e.key) = true) := Lib.hid ⟨hem, hlx⟩
      clear hgx hfe hem hek hlx hrg5 hlt5 hg5 hs5 hb6
      cases hp : P e
      · have HP := Lib.hid hp
        have HS := Lib.hid (doneA_skip HD.out HME.out.1 HME.out.2 hp)
        clear hp
        go_wp2_with (go_at_call 33; refine (HPK.out e _ (below_and HB5.out HB6.out)).mono ?_; rw [HP.out]; rintro e' w7 ⟨rfl, hb⟩; have HB7 := Lib.hid (below_and HB6.out hb); clear hb)
        go_roundw
        case rel => exact ⟨_, cnt5, Lib.hid (HR5.out.below HB7.out), Lib.hid (by rw [HS.out]; exact HA5.out.kept HB7.out), Lib.hid (HZ5.out.kept HB7.out), Lib.hid (below_and HB5.out HB7.out)⟩
        case measure => rw [(HR5.out.below HB7.out).left, HR.out.left]; exact HL5.out
      · have HP := Lib.hid hp
        have HS := Lib.hid (doneA_add HD.out HO.out HF.out HME.out.1 HME.out.2 hp)
        obtain ⟨z, hz⟩ : ∃ z, z = doneA P L (fun z => left z && !z.sameKey (.string e.key)) := ⟨_, rfl⟩
        rw [← hz] at HS
        obtain ⟨y, hy⟩ : ∃ y, y = doneA P L left := ⟨_, rfl⟩
        rw [← hy] at HS HA5
        have HZZ := Lib.hid hz
        have HADD : Hid (∀ w, Calls Try.prog 44 #[amV y, amV e.a] w fun e' w' => e' = .returned (.tuple #[amV z, .int .i64 0]) ∧ Below w.heap.size w w') := Lib.hid (fun w => (add_any y e.a w).mono fun e' w' ⟨h1, h2⟩ => ⟨by rw [h1, HS.out], h2⟩)
        clear hp hz hy
        go_wp2_with (first
          | (go_at_call 33; refine (HPK.out e _ (below_and HB5.out HB6.out)).mono ?_; rw [HP.out]; rintro e' w7 ⟨rfl, hb⟩; have he7 := (Blk.made w5 (entC e) 48).kept hb; have e2 := he7.cell (j := 2) rfl; have e3 := he7.cell (j := 3) rfl; have e4 := he7.cell (j := 4) rfl; have e5 := he7.cell (j := 5) rfl; have HB7 := Lib.hid (below_and HB6.out hb); have ha7 := HA5.out.kept HB7.out; have a0 := ha7.cell (j := 0) rfl; have a1 := ha7.cell (j := 1) rfl; have a2 := ha7.cell (j := 2) rfl; have a3 := ha7.cell (j := 3) rfl; clear hb he7 ha7)
          | (go_at_call 44; refine (HADD.out _).mono ?_; rintro e' w8 ⟨rfl, hb⟩; have HB8 := Lib.hid (below_and HB7.out hb); have ha8 := HA5.out.kept HB8.out; clear a0 a1 a2 a3 e2 e3 e4 e5; have HA8 := Lib.hid ha8; have a0 := ha8.cell (j := 0) rfl; have a1 := ha8.cell (j := 1) rfl; have a2 := ha8.cell (j := 2) rfl; have a3 := ha8.cell (j := 3) rfl; have f0 := ha8.free 0; have f1 := ha8.free 1; have f2 := ha8.free 2; have f3 := ha8.free 3; have HR8 := Lib.hid (HR5.out.below HB8.out); have HZ8 := Lib.hid (HZ5.out.kept HB8.out); have HBB := Lib.hid (below_and HB5.out HB8.out); clear hb ha8))
        go_roundw
        case rel =>
          have hq : ∀ j : Nat, (⟨B + 1, j, none⟩ : Addr).block ≠ mb ∧ (⟨B + 1, j, none⟩ : Addr).block ≠ w3.heap.size := fun j => by have := HSZ.out; have := HML.out; simp; omega
          have hBw : w.heap.size ≤ B + 1 := by have := HSZ.out; omega
          exact ⟨_, cnt5, Lib.hid ((((HR8.out.set (hq 0).1 (hq 0).2 _).set (hq 1).1 (hq 1).2 _).set (hq 2).1 (hq 2).2 _).set (hq 3).1 (hq 3).2 _), Lib.hid (by rw [← HZZ.out]; exact (((HA8.out.set 0 (.int .i64 z.c)).set 1 (.int .i64 z.r)).set 2 (.int .i64 z.d)).set 3 (.int .i64 z.p)), Lib.hid ((((HZ8.out.other (a := ⟨B + 1, 0, none⟩) (by simp) _).other (a := ⟨B + 1, 1, none⟩) (by simp) _).other (a := ⟨B + 1, 2, none⟩) (by simp) _).other (a := ⟨B + 1, 3, none⟩) (by simp) _), Lib.hid ((((HBB.out.setCell (p := ⟨B + 1, 0, none⟩) hBw _).setCell (p := ⟨B + 1, 1, none⟩) hBw _).setCell (p := ⟨B + 1, 2, none⟩) hBw _).setCell (p := ⟨B + 1, 3, none⟩) hBw _)⟩
        case measure =>
          have hq : ∀ j : Nat, (⟨B + 1, j, none⟩ : Addr).block ≠ mb ∧ (⟨B + 1, j, none⟩ : Addr).block ≠ w3.heap.size := fun j => by have := HSZ.out; have := HML.out; simp; omega
          rw [((((HR8.out.set (hq 0).1 (hq 0).2 (.int .i64 z.c)).set (hq 1).1 (hq 1).2 (.int .i64 z.r)).set (hq 2).1 (hq 2).2 (.int .i64 z.d)).set (hq 3).1 (hq 3).2 (.int .i64 z.p)).left, HR.out.left]
          exact HL5.out
end Go.Proofs.Ytighcnecajgkpaa
