/- The walk of LedgerNil (written by gennil.py). -/
import Derived.Test.YtighcnecajgkpaaLedNil
namespace Go.Proofs.Ytighcnecajgkpaa
open Go.RowKit

/-- two cells that a region reads -/
def N2 (B q : Nat) (v : Value) (s : ByteArray) (w : World) : Prop := w.cell? ⟨B + 1 + 1, q, none⟩ = some v ∧ w.cell? ⟨B, 1, none⟩ = some (.string s)
theorem N2.kept {B q : Nat} {v : Value} {s : ByteArray} {w w' : World} (h : N2 B q v s w) (hb : Below w.heap.size w w') : N2 B q v s w' := ⟨cell_kept h.1 hb, cell_kept h.2 hb⟩
theorem off_get2 (v : Value) (s : ByteArray) (w : World) (h : Off v w) :
    Calls Try.prog 22 #[v, .string s] w fun e w' => e = .returned (.tuple #[.agg #[.string ⟨#[]⟩, .string ⟨#[]⟩, .int .i64 0, .int .i64 0, .int .i64 0, .int .i64 0], .int .i64 1]) ∧ Below w.heap.size w w' := off_get v s w h
theorem off_left2 (v : Value) (s : ByteArray) (w : World) (h : Off v w) :
    Calls Try.prog 10 #[v, .string s] w fun e w' => e = .returned (.tuple #[.agg #[.int .i64 0, .int .i64 0, .int .i64 0, .int .i64 0], .int .i64 1]) ∧ Below w.heap.size w w' := off_left v s w h
theorem off_capacity2 (v : Value) (w : World) (h : Off v w) :
    Calls Try.prog 25 #[v] w fun e w' => e = .returned (.agg #[.int .i64 0, .int .i64 0, .int .i64 0, .int .i64 0]) ∧ Below w.heap.size w w' := off_capacity v w h
theorem off_free2 (v : Value) (w : World) (h : Off v w) :
    Calls Try.prog 13 #[v] w fun e w' => e = .returned (.agg #[.int .i64 0, .int .i64 0, .int .i64 0, .int .i64 0]) ∧ Below w.heap.size w w' := off_free v w h
theorem bel_set6 {n : Nat} {a w : World} {k : Nat} {p q r s t u : Value} (h : Below n a w) (hk : n ≤ k) : Below n a ((((((w.setCell ⟨k, 0, none⟩ p).setCell ⟨k, 1, none⟩ q).setCell ⟨k, 2, none⟩ r).setCell ⟨k, 3, none⟩ s).setCell ⟨k, 4, none⟩ t).setCell ⟨k, 5, none⟩ u) :=
  (((((h.setCell (p := ⟨k, 0, none⟩) hk _).setCell (p := ⟨k, 1, none⟩) hk _).setCell (p := ⟨k, 2, none⟩) hk _).setCell (p := ⟨k, 3, none⟩) hk _).setCell (p := ⟨k, 4, none⟩) hk _).setCell (p := ⟨k, 5, none⟩) hk _

set_option maxRecDepth 100000 in
set_option maxHeartbeats 4000000 in
theorem ledgerNil_go (k : Int) (s t : ByteArray) (a : Am) (w : World) :
    Calls Try.prog 5 #[.agg #[.int .i64 k, .string s, .string t, .int .i64 a.c, .int .i64 a.r, .int .i64 a.d, .int .i64 a.p]] w fun e w' => e = .returned (.bool true) ∧ Below w.heap.size w w' := by
  obtain ⟨w1, hw1⟩ : ∃ w1, w1 = w.alloc (.cells #[.int .i64 k, .string s, .string t, .int .i64 a.c, .int .i64 a.r, .int .i64 a.d, .int .i64 a.p] 40) := ⟨_, rfl⟩
  obtain ⟨w2, hw2⟩ : ∃ w2, w2 = w1.alloc (.cells #[.int .i64 0, .int .i64 0, .int .i64 0, .int .i64 0, .map none] 54) := ⟨_, rfl⟩
  obtain ⟨B, hB⟩ : ∃ B, B = w.heap.size := ⟨_, rfl⟩
  have z1 : w1.heap.size = B + 1 := by rw [hw1, hB]; simp
  have z2 : w2.heap.size = B + 1 + 1 := by rw [hw2]; simp [z1]
  obtain ⟨w3, hw3⟩ : ∃ w3, w3 = w2.alloc (.cells #[.pointer none, ptr (B + 1)] 23) := ⟨_, rfl⟩
  have hb3 : Below w.heap.size w w3 := by rw [hw3, hw2, hw1]; exact below_and (below_and (below_alloc w _) (below_alloc _ _)) (below_alloc _ _)
  have hA : Blk w3 B (actC k s t a) 40 := by rw [hw3, hw2, hw1, hB]; exact ((Blk.made w (actC k s t a) _).alloc _).alloc _
  have hU : Blk w3 (B + 1) [.int .i64 0, .int .i64 0, .int .i64 0, .int .i64 0, .map none] 54 := by
    have := (Blk.made w1 [.int .i64 0, .int .i64 0, .int .i64 0, .int .i64 0, .map none] 54).alloc (.cells #[.pointer none, ptr (B + 1)] 23)
    rw [z1, ← hw2, ← hw3] at this
    exact this
  have hP : Blk w3 (B + 1 + 1) [.pointer none, ptr (B + 1)] 23 := by
    have := Blk.made w2 [.pointer none, ptr (B + 1)] 23
    rw [z2, ← hw3] at this
    exact this
  have HA := Lib.hid hA
  have HP := Lib.hid hP
  have HB3 := Lib.hid hb3
  have HO : Hid (∀ q : Nat, q < 2 → ∃ v, [Value.pointer none, ptr (B + 1)][q]? = some v ∧ Off v w3) := Lib.hid (fun q hq => by
    obtain rfl | rfl : q = 0 ∨ q = 1 := by omega
    · exact ⟨_, rfl, off_nil w3⟩
    · exact ⟨_, rfl, off_unmade _ _ _ w3 hU rfl⟩)
  have HW : Hid (w3 = ((w.alloc (.cells #[.int .i64 k, .string s, .string t, .int .i64 a.c, .int .i64 a.r, .int .i64 a.d, .int .i64 a.p] 40)).alloc (.cells #[.int .i64 0, .int .i64 0, .int .i64 0, .int .i64 0, .map none] 54)).alloc (.cells #[.pointer none, ptr (w.heap.size + 1)] 23)) := Lib.hid (by rw [hw3, hw2, hw1, hB])
  have HBB := Lib.hid hB
  clear hA hU hP hb3 z1 z2 hw1 hw2 hw3 hB
  clear w1 w2
  go_enter Try.func5, Try.ntmps5
  go_upto_region 2 with fail
  rw [← HW.out, ← HBB.out]
  clear HW HBB
  go_wp2
  go_loopw [4] (fun i wr => ∃ q : Nat, q ≤ 2 ∧ i = .int .i64 (q : Int) ∧ Hid (Below w3.heap.size w3 wr)) (fun i _ => 2 - (intOf i).toNat)
  case atStart => exact ⟨0, by omega, rfl, Lib.hid (Below.refl _ _)⟩
  case round =>
    obtain ⟨q, hq, rfl, HB⟩ := hrel
    by_cases hlt : q < 2
    · obtain ⟨v, hv, hoff⟩ := HO.out q hlt
      have i1 : (q : Int) < 2 := by omega
      have HAR := Lib.hid (HA.out.kept HB.out)
      have HPR := Lib.hid (HP.out.kept HB.out)
      have HOV := Lib.hid (hoff.kept HB.out)
      have HE : Hid (N2 B q v s wr) := Lib.hid ⟨HPR.out.cell (j := q) hv, HAR.out.cell (j := 1) rfl⟩
      have HV := Lib.hid hv
      clear hv hoff
      go_wp2
      go_cut [5, 6] (fun s5 s6 wx => ∃ x, s5 = ptr x ∧ s6 = .int .i64 1 ∧ wr.heap.size ≤ x ∧ Blk wx x [.string ⟨#[]⟩, .string ⟨#[]⟩, .int .i64 0, .int .i64 0, .int .i64 0, .int .i64 0] 48 ∧ Below wr.heap.size wr wx)
      case first =>
        go_region_held3 (fun w' => w'.cell? ⟨B + 1 + 1, q, none⟩ = some v ∧ w'.cell? ⟨B, 1, none⟩ = some (.string s))
          (refine HE.out.kept ?_ <;> (repeat (first | with_reducible (refine bel_set6 ?_ (Nat.le_refl _)) | with_reducible (refine below_and ?_ (below_alloc _ _)) | with_reducible exact HB6.out | with_reducible exact Below.refl _ _ | apply bl_drew)))
          (first | (go_at_call 22; refine (off_get2 v s _ (HOV.out.kept (by (repeat (first | exact Below.refl _ _ | apply bl_drew | (refine below_and ?_ (below_alloc _ _))))))).mono ?_; rintro e w6 ⟨rfl, hb⟩; have HB6 : Hid (Below wr.heap.size wr w6) := Lib.hid (by refine below_and ?_ hb; (repeat (first | exact Below.refl _ _ | apply bl_drew | (refine below_and ?_ (below_alloc _ _))))); (first | (have hq : Blk w6 wr.heap.size [.string ⟨#[]⟩, .string ⟨#[]⟩, .int .i64 0, .int .i64 0, .int .i64 0, .int .i64 0] 48 := (Blk.made wr.drew [.string ⟨#[]⟩, .string ⟨#[]⟩, .int .i64 0, .int .i64 0, .int .i64 0, .int .i64 0] 48).kept hb; have HQ6 := Lib.hid hq; have q0 := hq.cell (j := 0) rfl; have q1 := hq.cell (j := 1) rfl; have q2 := hq.cell (j := 2) rfl; have q3 := hq.cell (j := 3) rfl; have q4 := hq.cell (j := 4) rfl; have q5 := hq.cell (j := 5) rfl; have p0 := hq.free 0; have p1 := hq.free 1; have p2 := hq.free 2; have p3 := hq.free 3; have p4 := hq.free 4; have p5 := hq.free 5; clear hq) | skip); clear hb))
        all_goals go_wp2_with fail
        all_goals go_meet
        all_goals first
          | (refine ⟨_, rfl, rfl, Nat.le_refl _, ?_, ?_⟩
             · exact ((((((HQ6.out.set 0 (.string ⟨#[]⟩)).set 1 (.string ⟨#[]⟩)).set 2 (.int .i64 0)).set 3 (.int .i64 0)).set 4 (.int .i64 0)).set 5 (.int .i64 0))
             · exact bel_set6 HB6.out (Nat.le_refl _))
          | (refine ⟨_, rfl, rfl, HB6.out.size, ?_, ?_⟩
             · exact Blk.made w6 [.string ⟨#[]⟩, .string ⟨#[]⟩, .int .i64 0, .int .i64 0, .int .i64 0, .int .i64 0] _
             · exact below_and HB6.out (below_alloc _ _))
          | trace_state
      case rest =>
      obtain ⟨x, rfl, rfl, hx, hbx, hb⟩ := hcut
      obtain ⟨wd, hwd⟩ : ∃ wd, wd = wc := ⟨_, rfl⟩
      rw [← hwd] at hbx hb ⊢
      clear hwd
      have HX := Lib.hid hbx
      have HBX := Lib.hid hb
      have HE5 := Lib.hid (HE.out.kept hb)
      have HOV5 := Lib.hid (HOV.out.kept hb)
      clear hx hbx hb
      go_wp2
      go_cut [7, 8] (fun s7 s8 wy => ∃ y, s7 = ptr y ∧ s8 = .int .i64 1 ∧ wd.heap.size ≤ y ∧ Blk wy y [.int .i64 0, .int .i64 0, .int .i64 0, .int .i64 0] 28 ∧ Below wd.heap.size wd wy)
      case first =>
        go_region_held3 (fun w' => w'.cell? ⟨B + 1 + 1, q, none⟩ = some v ∧ w'.cell? ⟨B, 1, none⟩ = some (.string s))
          (refine HE5.out.kept ?_ <;> (repeat (first | with_reducible (refine bel_set4 ?_ (Nat.le_refl _)) | with_reducible (refine below_and ?_ (below_alloc _ _)) | with_reducible exact HB6.out | with_reducible exact Below.refl _ _ | apply bl_drew)))
          (first | (go_at_call 10; refine (off_left2 v s _ (HOV5.out.kept (by (repeat (first | exact Below.refl _ _ | apply bl_drew | (refine below_and ?_ (below_alloc _ _))))))).mono ?_; rintro e w6 ⟨rfl, hb⟩; have HB6 : Hid (Below wd.heap.size wd w6) := Lib.hid (by refine below_and ?_ hb; (repeat (first | exact Below.refl _ _ | apply bl_drew | (refine below_and ?_ (below_alloc _ _))))); (first | (have hq : Blk w6 wd.heap.size [.int .i64 0, .int .i64 0, .int .i64 0, .int .i64 0] 28 := (Blk.made wd.drew [.int .i64 0, .int .i64 0, .int .i64 0, .int .i64 0] 28).kept hb; have HQ6 := Lib.hid hq; have q0 := hq.cell (j := 0) rfl; have q1 := hq.cell (j := 1) rfl; have q2 := hq.cell (j := 2) rfl; have q3 := hq.cell (j := 3) rfl; have p0 := hq.free 0; have p1 := hq.free 1; have p2 := hq.free 2; have p3 := hq.free 3; clear hq) | skip); clear hb))
        all_goals go_wp2_with fail
        all_goals go_meet
        all_goals first
          | (refine ⟨_, rfl, rfl, Nat.le_refl _, ?_, ?_⟩
             · exact ((((HQ6.out.set 0 (.int .i64 0)).set 1 (.int .i64 0)).set 2 (.int .i64 0)).set 3 (.int .i64 0))
             · exact bel_set4 HB6.out (Nat.le_refl _))
          | (refine ⟨_, rfl, rfl, HB6.out.size, ?_, ?_⟩
             · exact Blk.made w6 [.int .i64 0, .int .i64 0, .int .i64 0, .int .i64 0] _
             · exact below_and HB6.out (below_alloc _ _))
          | trace_state
      case rest =>
      obtain ⟨y, rfl, rfl, hy, hby, hb⟩ := hcut
      obtain ⟨wf, hwf⟩ : ∃ wf, wf = wc := ⟨_, rfl⟩
      rw [← hwf] at hby hb ⊢
      clear hwf
      have HBF := Lib.hid (below_and HBX.out hb)
      have HOFF := Lib.hid (HOV5.out.kept hb)
      have hxf := HX.out.kept hb
      have haf := HAR.out.kept HBF.out
      have hpf := HPR.out.kept HBF.out
      have x0 : ∀ s : Past wf, s.val.cell? ⟨x, 0, none⟩ = some (.string ⟨#[]⟩) := Past.blk hxf (j := 0) rfl
      have x1 : ∀ s : Past wf, s.val.cell? ⟨x, 1, none⟩ = some (.string ⟨#[]⟩) := Past.blk hxf (j := 1) rfl
      have x2 : ∀ s : Past wf, s.val.cell? ⟨x, 2, none⟩ = some (.int .i64 0) := Past.blk hxf (j := 2) rfl
      have x3 : ∀ s : Past wf, s.val.cell? ⟨x, 3, none⟩ = some (.int .i64 0) := Past.blk hxf (j := 3) rfl
      have x4 : ∀ s : Past wf, s.val.cell? ⟨x, 4, none⟩ = some (.int .i64 0) := Past.blk hxf (j := 4) rfl
      have x5 : ∀ s : Past wf, s.val.cell? ⟨x, 5, none⟩ = some (.int .i64 0) := Past.blk hxf (j := 5) rfl
      have y0 : ∀ s : Past wf, s.val.cell? ⟨y, 0, none⟩ = some (.int .i64 0) := Past.blk hby (j := 0) rfl
      have y1 : ∀ s : Past wf, s.val.cell? ⟨y, 1, none⟩ = some (.int .i64 0) := Past.blk hby (j := 1) rfl
      have y2 : ∀ s : Past wf, s.val.cell? ⟨y, 2, none⟩ = some (.int .i64 0) := Past.blk hby (j := 2) rfl
      have y3 : ∀ s : Past wf, s.val.cell? ⟨y, 3, none⟩ = some (.int .i64 0) := Past.blk hby (j := 3) rfl
      have a0 := Past.blk haf (j := 0) rfl
      have a1 := Past.blk haf (j := 1) rfl
      have a2 := Past.blk haf (j := 2) rfl
      have a3 := Past.blk haf (j := 3) rfl
      have a4 := Past.blk haf (j := 4) rfl
      have a5 := Past.blk haf (j := 5) rfl
      have a6 := Past.blk haf (j := 6) rfl
      have p0 := Past.blk hpf (j := q) HV.out
      clear hxf haf hpf hby hb hy
      go_wp2
      refine wp_region_past (by kernel_rfl) (by kernel_rfl) ?_
      repeat (go_big_quiet_step (first
        | (go_at_call 16; exact past_call (off_step v k s t a _ (HOFF.out.kept (Past.h _))))
        | (go_at_call 24; exact past_call (off_entries v _ (HOFF.out.kept (Past.h _))))
        | (go_at_call 20; exact past_call (off_in v s _ (HOFF.out.kept (Past.h _))))
        | (go_at_call 25; exact past_call (off_capacity2 v _ (HOFF.out.kept (Past.h _))))
        | (go_at_call 13; exact past_call (off_free2 v _ (HOFF.out.kept (Past.h _))))))
      refine wpQuiet_nil ?_
      intro _ hw'
      obtain ⟨s9, hw''⟩ := hw'
      subst hw''
      obtain ⟨w9, h9, e9⟩ : ∃ w9, Below wf.heap.size wf w9 ∧ w9 = s9.val := ⟨_, s9.h, rfl⟩
      rw [← e9]
      have HB9 : Hid (Below w3.heap.size w3 w9) := Lib.hid (below_and HB.out (below_and HBF.out h9))
      clear h9 e9 x0 x1 x2 x3 x4 x5 y0 y1 y2 y3 a0 a1 a2 a3 a4 a5 a6 p0
      go_wp2
      go_roundw
      case rel => exact ⟨q + 1, by omega, by go_num, HB9⟩
      case measure => simp [intOf]; omega
    · obtain rfl : q = 2 := by omega
      go_wp2_with (go_at_call 7; refine (llives _).mono ?_; rintro e w4 ⟨rfl, hb⟩; have HB4 := Lib.hid (below_and (below_and HB3.out HB.out) hb); clear hb)
      go_ret
      exact ⟨rfl, HB4.out⟩

theorem ledgerNil_walk (cs : List Value) (w : World) (h : Leaves Try.prog [3, 9, 9, 2, 2, 2, 2] cs) :
    Calls Try.prog 5 #[.agg cs.toArray] w fun e w' => e = .returned (.bool true) ∧ Below w.heap.size w w' := by
  match cs, h.1, h.2 with
  | [v0, v1, v2, v3, v4, v5, v6], _, hf =>
    obtain ⟨k, rfl, -⟩ := fieldOk.int (v := v0) (hf 0 _ rfl) Try.underlying3
    obtain ⟨s, rfl, -⟩ := fieldOk.str (v := v1) (hf 1 _ rfl) Try.underlying9
    obtain ⟨t, rfl, -⟩ := fieldOk.str (v := v2) (hf 2 _ rfl) Try.underlying9
    obtain ⟨c, rfl, -⟩ := fieldOk.int (v := v3) (hf 3 _ rfl) Try.underlying2
    obtain ⟨r, rfl, -⟩ := fieldOk.int (v := v4) (hf 4 _ rfl) Try.underlying2
    obtain ⟨d, rfl, -⟩ := fieldOk.int (v := v5) (hf 5 _ rfl) Try.underlying2
    obtain ⟨p, rfl, -⟩ := fieldOk.int (v := v6) (hf 6 _ rfl) Try.underlying2
    exact ledgerNil_go k s t ⟨c, r, d, p⟩ w
end Go.Proofs.Ytighcnecajgkpaa
