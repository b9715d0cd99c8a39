/- The ledger's room. -/
import Derived.Test.YtighcnecajgkpaaLedSum
import Derived.Test.YtighcnecajgkpaaMaps2
import Derived.Deep.DeepCutAuto
namespace Go.Proofs.Ytighcnecajgkpaa
open Go.RowKit

theorem four_kept {w w' : World} {a b c d : Addr} {p q r s : Value} (h : w.cell? a = some p ∧ w.cell? b = some q ∧ w.cell? c = some r ∧ w.cell? d = some s) (hb : Below w.heap.size w w') : w'.cell? a = some p ∧ w'.cell? b = some q ∧ w'.cell? c = some r ∧ w'.cell? d = some s :=
  ⟨cell_kept h.1 hb, cell_kept h.2.1 hb, cell_kept h.2.2.1 hb, cell_kept h.2.2.2 hb⟩
theorem bel_set4 {n : Nat} {a w : World} {k : Nat} {p q r s : Value} (h : Below n a w) (hk : n ≤ k) : Below n a ((((w.setCell ⟨k, 0, none⟩ p).setCell ⟨k, 1, none⟩ q).setCell ⟨k, 2, none⟩ r).setCell ⟨k, 3, none⟩ s) :=
  (((h.setCell (p := ⟨k, 0, none⟩) hk _).setCell (p := ⟨k, 1, none⟩) hk _).setCell (p := ⟨k, 2, none⟩) hk _).setCell (p := ⟨k, 3, none⟩) hk _
/-- behind the taking away: its answer lies in memory of the call's own -/
def RoomP (w : World) (z : Am) (v : Value) (wx : World) : Prop := ∃ q, v = ptr q ∧ w.heap.size ≤ q ∧ Blk wx q (amC z) 28 ∧ Below w.heap.size w wx

set_option maxRecDepth 100000 in
set_option maxHeartbeats 4000000 in
theorem room_top (b mb : Nat) (cap : Am) (L : List Ent) (s t : ByteArray) (w : World) (h : Led w b mb cap L) (hd : Apart L) (ho : Oks L) (hf : Fit (inB s t) L) (hs : s.toList = []) (z : Am) (er : Int) (hz : subR cap (sumA (inB s t) L) = (z, er)) :
    Calls Try.prog 31 #[ptr b, .string s, .string t] w fun e w' => e = .returned (amV z) ∧ Below w.heap.size w w' := by
  obtain ⟨w3, hw3⟩ : ∃ w3, w3 = ((w.alloc (.cells #[.string s] 9)).alloc (.cells #[.string t] 9)).alloc (.cells #[.int .i64 0, .int .i64 0, .int .i64 0, .int .i64 0] 28) := ⟨_, rfl⟩
  obtain ⟨B, hB⟩ : ∃ B, B = w.heap.size := ⟨_, rfl⟩
  have S0 : Hid (Blk w3 B [.string s] 9) := Lib.hid (by rw [hw3, hB]; exact ((Blk.made w [.string s] 9).alloc _).alloc _)
  have S1 : Hid (Blk w3 (B + 1) [.string t] 9) := Lib.hid (by
    have := (Blk.made (w.alloc (.cells #[.string s] 9)) [.string t] 9).alloc (.cells #[.int .i64 0, .int .i64 0, .int .i64 0, .int .i64 0] 28)
    rw [hw3, hB]; simpa using this)
  have S2 : Hid (Blk w3 (B + 1 + 1) (amC .zero) 28) := Lib.hid (by
    have := Blk.made ((w.alloc (.cells #[.string s] 9)).alloc (.cells #[.string t] 9)) (amC .zero) 28
    rw [hw3, hB]; simpa [Am.zero] using this)
  have HSZ : Hid (w3.heap.size = B + 3 ∧ w.heap.size = B) := Lib.hid (by rw [hw3, hB]; simp)
  have HBL : Hid (Below w.heap.size w w3) := Lib.hid (by rw [hw3]; exact below_and (below_and (below_alloc w _) (below_alloc _ _)) (below_alloc _ _))
  have H3 : Hid (Led w3 b mb cap L) := Lib.hid (h.kept HBL.out)
  have HD := Lib.hid hd
  have HO := Lib.hid ho
  have HF := Lib.hid hf
  have HZ := Lib.hid hz
  have HSUB : Hid (∀ w, Calls Try.prog 46 #[amV cap, amV (sumA (inB s t) L)] w fun e' w' => e' = .returned (.tuple #[amV z, .int .i64 er]) ∧ Below w.heap.size w w') := Lib.hid (fun w => (sub_any _ _ w).mono fun e' w' ⟨h1, h2⟩ => ⟨by rw [h1, HZ.out], h2⟩)
  have c0 := H3.out.blk.cell (j := 0) rfl
  have c1 := H3.out.blk.cell (j := 1) rfl
  have c2 := H3.out.blk.cell (j := 2) rfl
  have c3 := H3.out.blk.cell (j := 3) rfl
  have s0 : ∀ (A : Array Value) (t : TypeId), (w3.alloc (.cells A t)).cell? ⟨B, 0, none⟩ = some (.string s) := fun A t => (S0.out.alloc _).cell (j := 0) rfl
  have e0 : s.toList.isEmpty = true := by rw [hs]; rfl
  clear h hd ho hf hz
  go_enter Try.func31, Try.ntmps31
  go_upto_region 1 with fail
  rw [← hw3, ← hB]
  clear hw3 hB
  go_upto_region 4 with fail
  obtain ⟨w4, hw4⟩ : ∃ w4, w4 = w3.alloc (.cells #[.int .i64 cap.c, .int .i64 cap.r, .int .i64 cap.d, .int .i64 cap.p] 28) := ⟨_, rfl⟩
  have HB4 : Hid (Below w3.heap.size w3 w4) := Lib.hid (by rw [hw4]; exact below_alloc _ _)
  have S3 : Hid (Blk w4 w3.heap.size (amC cap) 28) := Lib.hid (by rw [hw4]; exact Blk.made w3 (amC cap) _)
  rw [← hw4]
  clear hw4 c0 c1 c2 c3 s0
  obtain ⟨S36, HB6⟩ : Hid (Blk w4 w3.heap.size (amC cap) 28) ∧ Hid (Below w3.heap.size w3 w4) := ⟨S3, HB4⟩
  clear S3 HB4
  have HE : Hid (w4.cell? ⟨w3.heap.size, 0, none⟩ = some (.int .i64 cap.c) ∧ w4.cell? ⟨w3.heap.size, 1, none⟩ = some (.int .i64 cap.r) ∧ w4.cell? ⟨w3.heap.size, 2, none⟩ = some (.int .i64 cap.d) ∧ w4.cell? ⟨w3.heap.size, 3, none⟩ = some (.int .i64 cap.p)) := Lib.hid ⟨S36.out.cell (j := 0) rfl, S36.out.cell (j := 1) rfl, S36.out.cell (j := 2) rfl, S36.out.cell (j := 3) rfl⟩
  have H6 := Lib.hid (H3.out.kept HB6.out)
  have S06 := Lib.hid (S0.out.kept HB6.out)
  have S16 := Lib.hid (S1.out.kept HB6.out)
  have S26 := Lib.hid (S2.out.kept HB6.out)
  go_cut [8] (fun s8 wx => RoomP w4 z s8 wx)
  case first =>
    go_region_held3 (fun w' => w'.cell? ⟨w3.heap.size, 0, none⟩ = some (.int .i64 cap.c) ∧ w'.cell? ⟨w3.heap.size, 1, none⟩ = some (.int .i64 cap.r) ∧ w'.cell? ⟨w3.heap.size, 2, none⟩ = some (.int .i64 cap.d) ∧ w'.cell? ⟨w3.heap.size, 3, none⟩ = some (.int .i64 cap.p))
      (refine four_kept HE.out ?_ <;> (repeat (first | exact Below.refl _ _ | exact HB8.out | exact HB7.out | apply bl_drew | (refine below_and ?_ (below_alloc _ _)) | (refine bel_set4 ?_ (Nat.le_refl _)) | (refine bel_set4 ?_ HQL.out))))
      (first
        | (go_at_call 32; refine (sum1_any b mb cap L s t B (B + 1) _ (H6.out.kept (by repeat (first | exact Below.refl _ _ | apply bl_drew | (refine below_and ?_ (below_alloc _ _))))) HD.out HO.out HF.out ((S06.out.kept (by repeat (first | exact Below.refl _ _ | apply bl_drew | (refine below_and ?_ (below_alloc _ _))))).cell (j := 0) rfl) ((S16.out.kept (by repeat (first | exact Below.refl _ _ | apply bl_drew | (refine below_and ?_ (below_alloc _ _))))).cell (j := 0) rfl)).mono ?_; rintro e w7 ⟨rfl, hb⟩; have HB7 : Hid (Below w4.heap.size w4 w7) := Lib.hid (by refine below_and ?_ hb; (repeat (first | exact Below.refl _ _ | apply bl_drew | (refine below_and ?_ (below_alloc _ _))))); (first | (have hq : Blk w7 w4.heap.size (amC .zero) 28 := (Blk.made w4.drew (amC .zero) 28).kept hb; have HQ7 := Lib.hid hq; clear hq) | skip); clear hb)
        | (go_at_call 46; refine (HSUB.out _).mono ?_; rintro e w8 ⟨rfl, hb⟩; have HB8 : Hid (Below w4.heap.size w4 w8) := Lib.hid (by refine below_and ?_ hb; (repeat (first | exact HB7.out | apply bl_drew | (refine below_and ?_ (below_alloc _ _))))); (first | (have hq : Blk w8 w4.heap.size (amC .zero) 28 := HQ7.out.kept hb; have HQ8 := Lib.hid hq; have q0 := hq.cell (j := 0) rfl; have q1 := hq.cell (j := 1) rfl; have q2 := hq.cell (j := 2) rfl; have q3 := hq.cell (j := 3) rfl; have p0 := hq.free 0; have p1 := hq.free 1; have p2 := hq.free 2; have p3 := hq.free 3; clear hq) | (have hq : Blk w8 w7.heap.size (amC .zero) 28 := (Blk.made w7 (amC .zero) 28).kept hb; have HQ8 := Lib.hid hq; have HQL : Hid (w4.heap.size ≤ w7.heap.size) := Lib.hid HB7.out.size; have q0 := hq.cell (j := 0) rfl; have q1 := hq.cell (j := 1) rfl; have q2 := hq.cell (j := 2) rfl; have q3 := hq.cell (j := 3) rfl; have p0 := hq.free 0; have p1 := hq.free 1; have p2 := hq.free 2; have p3 := hq.free 3; clear hq) | skip); clear hb))
    all_goals go_wp2_with fail
    all_goals go_meet
    all_goals first
      | (exact ⟨_, rfl, Nat.le_refl _, ((((HQ8.out.set 0 (.int .i64 z.c)).set 1 (.int .i64 z.r)).set 2 (.int .i64 z.d)).set 3 (.int .i64 z.p)), bel_set4 HB8.out (Nat.le_refl _)⟩)
      | (exact ⟨_, rfl, HQL.out, ((((HQ8.out.set 0 (.int .i64 z.c)).set 1 (.int .i64 z.r)).set 2 (.int .i64 z.d)).set 3 (.int .i64 z.p)), bel_set4 HB8.out HQL.out⟩)
      | (exact ⟨_, rfl, HB8.out.size, Blk.made w8 (amC z) _, below_and HB8.out (below_alloc _ _)⟩)
      | trace_state
  case rest =>
    obtain ⟨q, rfl, hq, hbq, hb⟩ := hcut
    have hbr := S26.out.kept hb
    have HBR := Lib.hid hbr
    have HBB := Lib.hid (below_and HBL.out (below_and HB6.out hb))
    have z0 := hbq.cell (j := 0) rfl
    have z1 := hbq.cell (j := 1) rfl
    have z2 := hbq.cell (j := 2) rfl
    have z3 := hbq.cell (j := 3) rfl
    have r0 := hbr.cell (j := 0) rfl
    have r1 := hbr.cell (j := 1) rfl
    have r2 := hbr.cell (j := 2) rfl
    have r3 := hbr.cell (j := 3) rfl
    have f0 := hbr.free 0
    have f1 := hbr.free 1
    have f2 := hbr.free 2
    have f3 := hbr.free 3
    clear hq hbq hb hbr
    go_wp2
    refine bodyPost_ret (results_row rfl _ _ (B + 1 + 1) 28 #[.int .i64 z.c, .int .i64 z.r, .int .i64 z.d, .int .i64 z.p] (0, 0) _ rfl ?_ Try.underlying28 rfl (by kernel_rfl)) rfl ⟨rfl, ?_⟩
    · exact (((HBR.out.set 0 (.int .i64 z.c)).set 1 (.int .i64 z.r)).set 2 (.int .i64 z.d)).set 3 (.int .i64 z.p)
    · have hBw : w.heap.size ≤ B + 1 + 1 := by have := HSZ.out; omega
      exact (((HBB.out.setCell (p := ⟨B + 1 + 1, 0, none⟩) hBw _).setCell (p := ⟨B + 1 + 1, 1, none⟩) hBw _).setCell (p := ⟨B + 1 + 1, 2, none⟩) hBw _).setCell (p := ⟨B + 1 + 1, 3, none⟩) hBw _

set_option maxRecDepth 100000 in
set_option maxHeartbeats 4000000 in
theorem room_in (b mb : Nat) (cap : Am) (L : List Ent) (s t : ByteArray) (x : Ent) (w : World) (h : Led w b mb cap L) (hd : Apart L) (ho : Oks L) (hf : Fit (inB s t) L) (hs : ¬ s.toList = []) (hsz : s.size ≤ maxLen) (hx : fnd L s.data.toList = some x) (z : Am) (er : Int) (hz : subR x.a (sumA (inB s t) L) = (z, er)) :
    Calls Try.prog 31 #[ptr b, .string s, .string t] w fun e w' => e = .returned (amV z) ∧ Below w.heap.size w w' := by
  obtain ⟨w3, hw3⟩ : ∃ w3, w3 = ((w.alloc (.cells #[.string s] 9)).alloc (.cells #[.string t] 9)).alloc (.cells #[.int .i64 0, .int .i64 0, .int .i64 0, .int .i64 0] 28) := ⟨_, rfl⟩
  obtain ⟨B, hB⟩ : ∃ B, B = w.heap.size := ⟨_, rfl⟩
  have S0 : Hid (Blk w3 B [.string s] 9) := Lib.hid (by rw [hw3, hB]; exact ((Blk.made w [.string s] 9).alloc _).alloc _)
  have S1 : Hid (Blk w3 (B + 1) [.string t] 9) := Lib.hid (by
    have := (Blk.made (w.alloc (.cells #[.string s] 9)) [.string t] 9).alloc (.cells #[.int .i64 0, .int .i64 0, .int .i64 0, .int .i64 0] 28)
    rw [hw3, hB]; simpa using this)
  have S2 : Hid (Blk w3 (B + 1 + 1) (amC .zero) 28) := Lib.hid (by
    have := Blk.made ((w.alloc (.cells #[.string s] 9)).alloc (.cells #[.string t] 9)) (amC .zero) 28
    rw [hw3, hB]; simpa [Am.zero] using this)
  have HSZ : Hid (w3.heap.size = B + 3 ∧ w.heap.size = B) := Lib.hid (by rw [hw3, hB]; simp)
  have HBL : Hid (Below w.heap.size w w3) := Lib.hid (by rw [hw3]; exact below_and (below_and (below_alloc w _) (below_alloc _ _)) (below_alloc _ _))
  have H3 : Hid (Led w3 b mb cap L) := Lib.hid (h.kept HBL.out)
  have HD := Lib.hid hd
  have HO := Lib.hid ho
  have HF := Lib.hid hf
  have HZ := Lib.hid hz
  have HSUB : Hid (∀ w, Calls Try.prog 46 #[amV x.a, amV (sumA (inB s t) L)] w fun e' w' => e' = .returned (.tuple #[amV z, .int .i64 er]) ∧ Below w.heap.size w w') := Lib.hid (fun w => (sub_any _ _ w).mono fun e' w' ⟨h1, h2⟩ => ⟨by rw [h1, HZ.out], h2⟩)
  have c0 := H3.out.blk.cell (j := 0) rfl
  have c1 := H3.out.blk.cell (j := 1) rfl
  have c2 := H3.out.blk.cell (j := 2) rfl
  have c3 := H3.out.blk.cell (j := 3) rfl
  have s0 : ∀ (A : Array Value) (t : TypeId), (w3.alloc (.cells A t)).cell? ⟨B, 0, none⟩ = some (.string s) := fun A t => (S0.out.alloc _).cell (j := 0) rfl
  have e0 : s.toList.isEmpty = false := by simpa using hs
  have HS := Lib.hid hsz
  have HX := Lib.hid (get_some hx)
  clear h hd ho hf hz hsz hx
  go_enter Try.func31, Try.ntmps31
  go_upto_region 1 with fail
  rw [← hw3, ← hB]
  clear hw3 hB
  go_upto_region 3 with fail
  obtain ⟨w4, hw4⟩ : ∃ w4, w4 = w3.alloc (.cells #[.int .i64 cap.c, .int .i64 cap.r, .int .i64 cap.d, .int .i64 cap.p] 28) := ⟨_, rfl⟩
  have HB4 : Hid (Below w3.heap.size w3 w4) := Lib.hid (by rw [hw4]; exact below_alloc _ _)
  have S3 : Hid (Blk w4 w3.heap.size (amC cap) 28) := Lib.hid (by rw [hw4]; exact Blk.made w3 (amC cap) _)
  rw [← hw4]
  clear hw4 c0 c1 c2 c3 s0
  have H4 := Lib.hid (H3.out.kept HB4.out)
  have q4 := Past.blk H4.out.blk (j := 4) rfl
  have q0 := Past.blk (S0.out.kept HB4.out) (j := 0) rfl
  have hlk : ∀ s' : Past w4, (Instr.lookup 52 (.map (some mb)) (.string s) false).run Try.prog s'.val = .ok (entV x) s'.val := fun s' => by
    have := (H4.out.kept s'.h).map.look Try.underlying9 Try.underlying52 (ezero _) HS.out
    rw [HX.out.1] at this
    exact this
  have hfd : ∀ w, (Instr.field 48 (entV x) 2).run Try.prog w = .ok (.agg #[.int .i64 x.a.c, .int .i64 x.a.r, .int .i64 x.a.d, .int .i64 x.a.p]) w := fun w => by kernel_rfl
  refine wp_region_past_last (by rfl) (by kernel_rfl) (by kernel_rfl) (by kernel_rfl) ?_
  simp only [List.dropLast, List.getLast_cons_cons, List.getLast_singleton]
  repeat (go_big_quiet_step (fail))
  refine wpQuiet_nil ?_
  intro _ hw'
  obtain ⟨s', hw''⟩ := hw'
  subst hw''
  obtain ⟨w5, h5, e5⟩ : ∃ w5, Below w4.heap.size w4 w5 ∧ w5 = s'.val := ⟨_, s'.h, rfl⟩
  rw [← e5]
  have S35 := Lib.hid (S3.out.kept h5)
  have r0 := S35.out.cell (j := 0) rfl
  have r1 := S35.out.cell (j := 1) rfl
  have r2 := S35.out.cell (j := 2) rfl
  have r3 := S35.out.cell (j := 3) rfl
  have f0 := S35.out.free 0
  have f1 := S35.out.free 1
  have f2 := S35.out.free 2
  have f3 := S35.out.free 3
  have HB5 := Lib.hid (below_and HB4.out h5)
  clear h5 e5 hlk q4 q0 hfd
  go_upto_region 4 with fail
  obtain ⟨w6, hw6⟩ : ∃ w6, w6 = (((w5.setCell ⟨w3.heap.size, 0, none⟩ (.int .i64 x.a.c)).setCell ⟨w3.heap.size, 1, none⟩ (.int .i64 x.a.r)).setCell ⟨w3.heap.size, 2, none⟩ (.int .i64 x.a.d)).setCell ⟨w3.heap.size, 3, none⟩ (.int .i64 x.a.p) := ⟨_, rfl⟩
  have S36 : Hid (Blk w6 w3.heap.size (amC x.a) 28) := Lib.hid (by rw [hw6]; exact (((S35.out.set 0 _).set 1 _).set 2 _).set 3 _)
  have HB6 : Hid (Below w3.heap.size w3 w6) := Lib.hid (by rw [hw6]; exact (((HB5.out.setCell (p := ⟨w3.heap.size, 0, none⟩) (Nat.le_refl _) _).setCell (p := ⟨w3.heap.size, 1, none⟩) (Nat.le_refl _) _).setCell (p := ⟨w3.heap.size, 2, none⟩) (Nat.le_refl _) _).setCell (p := ⟨w3.heap.size, 3, none⟩) (Nat.le_refl _) _)
  rw [← hw6]
  clear hw6 r0 r1 r2 r3 f0 f1 f2 f3 S35 HB5 S3 HB4
  have HE : Hid (w6.cell? ⟨w3.heap.size, 0, none⟩ = some (.int .i64 x.a.c) ∧ w6.cell? ⟨w3.heap.size, 1, none⟩ = some (.int .i64 x.a.r) ∧ w6.cell? ⟨w3.heap.size, 2, none⟩ = some (.int .i64 x.a.d) ∧ w6.cell? ⟨w3.heap.size, 3, none⟩ = some (.int .i64 x.a.p)) := Lib.hid ⟨S36.out.cell (j := 0) rfl, S36.out.cell (j := 1) rfl, S36.out.cell (j := 2) rfl, S36.out.cell (j := 3) rfl⟩
  have H6 := Lib.hid (H3.out.kept HB6.out)
  have S06 := Lib.hid (S0.out.kept HB6.out)
  have S16 := Lib.hid (S1.out.kept HB6.out)
  have S26 := Lib.hid (S2.out.kept HB6.out)
  go_cut [8] (fun s8 wx => RoomP w6 z s8 wx)
  case first =>
    go_region_held3 (fun w' => w'.cell? ⟨w3.heap.size, 0, none⟩ = some (.int .i64 x.a.c) ∧ w'.cell? ⟨w3.heap.size, 1, none⟩ = some (.int .i64 x.a.r) ∧ w'.cell? ⟨w3.heap.size, 2, none⟩ = some (.int .i64 x.a.d) ∧ w'.cell? ⟨w3.heap.size, 3, none⟩ = some (.int .i64 x.a.p))
      (refine four_kept HE.out ?_ <;> (repeat (first | exact Below.refl _ _ | exact HB8.out | exact HB7.out | apply bl_drew | (refine below_and ?_ (below_alloc _ _)) | (refine bel_set4 ?_ (Nat.le_refl _)) | (refine bel_set4 ?_ HQL.out))))
      (first
        | (go_at_call 32; refine (sum1_any b mb cap L s t B (B + 1) _ (H6.out.kept (by repeat (first | exact Below.refl _ _ | apply bl_drew | (refine below_and ?_ (below_alloc _ _))))) HD.out HO.out HF.out ((S06.out.kept (by repeat (first | exact Below.refl _ _ | apply bl_drew | (refine below_and ?_ (below_alloc _ _))))).cell (j := 0) rfl) ((S16.out.kept (by repeat (first | exact Below.refl _ _ | apply bl_drew | (refine below_and ?_ (below_alloc _ _))))).cell (j := 0) rfl)).mono ?_; rintro e w7 ⟨rfl, hb⟩; have HB7 : Hid (Below w6.heap.size w6 w7) := Lib.hid (by refine below_and ?_ hb; (repeat (first | exact Below.refl _ _ | apply bl_drew | (refine below_and ?_ (below_alloc _ _))))); (first | (have hq : Blk w7 w6.heap.size (amC .zero) 28 := (Blk.made w6.drew (amC .zero) 28).kept hb; have HQ7 := Lib.hid hq; clear hq) | skip); clear hb)
        | (go_at_call 46; refine (HSUB.out _).mono ?_; rintro e w8 ⟨rfl, hb⟩; have HB8 : Hid (Below w6.heap.size w6 w8) := Lib.hid (by refine below_and ?_ hb; (repeat (first | exact HB7.out | apply bl_drew | (refine below_and ?_ (below_alloc _ _))))); (first | (have hq : Blk w8 w6.heap.size (amC .zero) 28 := HQ7.out.kept hb; have HQ8 := Lib.hid hq; have q0 := hq.cell (j := 0) rfl; have q1 := hq.cell (j := 1) rfl; have q2 := hq.cell (j := 2) rfl; have q3 := hq.cell (j := 3) rfl; have p0 := hq.free 0; have p1 := hq.free 1; have p2 := hq.free 2; have p3 := hq.free 3; clear hq) | (have hq : Blk w8 w7.heap.size (amC .zero) 28 := (Blk.made w7 (amC .zero) 28).kept hb; have HQ8 := Lib.hid hq; have HQL : Hid (w6.heap.size ≤ w7.heap.size) := Lib.hid HB7.out.size; have q0 := hq.cell (j := 0) rfl; have q1 := hq.cell (j := 1) rfl; have q2 := hq.cell (j := 2) rfl; have q3 := hq.cell (j := 3) rfl; have p0 := hq.free 0; have p1 := hq.free 1; have p2 := hq.free 2; have p3 := hq.free 3; clear hq) | skip); clear hb))
    all_goals go_wp2_with fail
    all_goals go_meet
    all_goals first
      | (exact ⟨_, rfl, Nat.le_refl _, ((((HQ8.out.set 0 (.int .i64 z.c)).set 1 (.int .i64 z.r)).set 2 (.int .i64 z.d)).set 3 (.int .i64 z.p)), bel_set4 HB8.out (Nat.le_refl _)⟩)
      | (exact ⟨_, rfl, HQL.out, ((((HQ8.out.set 0 (.int .i64 z.c)).set 1 (.int .i64 z.r)).set 2 (.int .i64 z.d)).set 3 (.int .i64 z.p)), bel_set4 HB8.out HQL.out⟩)
      | (exact ⟨_, rfl, HB8.out.size, Blk.made w8 (amC z) _, below_and HB8.out (below_alloc _ _)⟩)
      | trace_state
  case rest =>
    obtain ⟨q, rfl, hq, hbq, hb⟩ := hcut
    have hbr := S26.out.kept hb
    have HBR := Lib.hid hbr
    have HBB := Lib.hid (below_and HBL.out (below_and HB6.out hb))
    have z0 := hbq.cell (j := 0) rfl
    have z1 := hbq.cell (j := 1) rfl
    have z2 := hbq.cell (j := 2) rfl
    have z3 := hbq.cell (j := 3) rfl
    have r0 := hbr.cell (j := 0) rfl
    have r1 := hbr.cell (j := 1) rfl
    have r2 := hbr.cell (j := 2) rfl
    have r3 := hbr.cell (j := 3) rfl
    have f0 := hbr.free 0
    have f1 := hbr.free 1
    have f2 := hbr.free 2
    have f3 := hbr.free 3
    clear hq hbq hb hbr
    go_wp2
    refine bodyPost_ret (results_row rfl _ _ (B + 1 + 1) 28 #[.int .i64 z.c, .int .i64 z.r, .int .i64 z.d, .int .i64 z.p] (0, 0) _ rfl ?_ Try.underlying28 rfl (by kernel_rfl)) rfl ⟨rfl, ?_⟩
    · exact (((HBR.out.set 0 (.int .i64 z.c)).set 1 (.int .i64 z.r)).set 2 (.int .i64 z.d)).set 3 (.int .i64 z.p)
    · have hBw : w.heap.size ≤ B + 1 + 1 := by have := HSZ.out; omega
      exact (((HBB.out.setCell (p := ⟨B + 1 + 1, 0, none⟩) hBw _).setCell (p := ⟨B + 1 + 1, 1, none⟩) hBw _).setCell (p := ⟨B + 1 + 1, 2, none⟩) hBw _).setCell (p := ⟨B + 1 + 1, 3, none⟩) hBw _
end Go.Proofs.Ytighcnecajgkpaa
