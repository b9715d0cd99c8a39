/- , laid together: MsDGw, MsDRd. -/
import Derived.Test.YtopkfomlppnpeaaGreatDoorMDo
import Derived.Test.YtopkfomlppnpeaaGreatDoorMOne
import Derived.Test.YtopkfomlppnpeaaGreatDoorMRef
import Derived.Test.YtopkfomlppnpeaaGreatDoorMsRdB
namespace Go.Proofs.YtopkfomlppnpeaaGreatDoor.Ms
open Go.RowKit Go.Proofs.YtopkfomlppnpeaaGreatDoor

theorem RRdr.frp {Q : Nat → Prop} {w w' : World} {b : Nat} {l : List UInt8} {a : Nat} {e : Int} (h : RRdr w b l a e) (hf : Frp Q w w') (hq : ∀ k, k ≤ b → ¬ Q k) : RRdr w' b l a e := by
  obtain ⟨v, h1, h2, h3, h4⟩ := h
  refine ⟨v, h1.frp hf (hq b (Nat.le_refl _)), ?_, h3, h4⟩
  by_cases hl : l = []
  · subst hl
    obtain ⟨p, c, hv, g1, g2, g3, g4, g5, g6⟩ := h2
    exact ⟨p, c, hv, g1, g2, g3, g4, g5, .inl rfl⟩
  · obtain ⟨p, c, hv, g1, g2, g3, g4, g5, g6⟩ := h2
    refine ⟨p, c, hv, g1, g2, g3, g4, g5, g6.imp id fun ⟨k, o, hp, hc⟩ => ⟨k, o, hp, fun j u hj => cell_frp (hc j u hj) hf (hq k (by have := h3 hl k (by rw [hv, hp]; rfl); omega))⟩⟩
theorem RRdr.kept {w w' : World} {b : Nat} {l : List UInt8} {a : Nat} {e : Int} (h : RRdr w b l a e) (hb : Below w.heap.size w w') : RRdr w' b l a e := RRdr.frp h (Frp.of_below hb (fun _ => False)) (fun _ _ => id)
theorem RRdr.lt {w : World} {b : Nat} {l : List UInt8} {a : Nat} {e : Int} (h : RRdr w b l a e) : b < w.heap.size := by
  obtain ⟨v, h1, -⟩ := h
  exact h1.lt
/-- what a reading function leaves -/
def RRF (w : World) (b : Nat) (l : List UInt8) (v : Value) (s : S) (e : Ending) (w' : World) : Prop := e = .returned v ∧ RRdr w' b l s.1 s.2 ∧ Frp (fun k => k = b) w w'
theorem rrf_of {w : World} {b : Nat} {l : List UInt8} {v v' : Value} {s s' : S} (hv : v = v') (hs : s = s') {e : Ending} {w' : World} (h : RRM w b l v s e w') : RRF w b l v' s' e w' := by
  subst hv hs
  exact ⟨h.1, h.2.1, (Frp.refl _ w).grown h.2.2 (fun k hk => by cases hk; exact .inl rfl)⟩
structure Gr (w0 : World) (b : Nat) (l : List UInt8) (w : World) (s : S) (R : Nat) (RC : List Value) (RT : TypeId) (X : Nat) (XC : List Value) (XT : TypeId) : Prop where
  rd : RRdr w b l s.1 s.2
  r : Blk w R RC RT
  x : Blk w X XC XT
  fr : Frp (fun k => k = b) w0 w
  hb : b < R ∧ b < X ∧ R ≠ X
  lo : w0.heap.size ≤ R ∧ w0.heap.size ≤ X
section
variable {w0 w w' : World} {b : Nat} {l : List UInt8} {s s' : S} {R X : Nat} {RC XC : List Value} {RT XT : TypeId}
theorem Gr.call (h : Gr w0 b l w s R RC RT X XC XT) (hr : RRdr w' b l s'.1 s'.2) (hf : Frp (fun k => k = b) w w') : Gr w0 b l w' s' R RC RT X XC XT :=
  ⟨hr, h.r.frp hf (fun e => by have := h.hb; omega), h.x.frp hf (fun e => by have := h.hb; omega), h.fr.then hf, h.hb, h.lo⟩
theorem Gr.setX (h : Gr w0 b l w s R RC RT X XC XT) (j : Nat) (u : Value) : Gr w0 b l (w.setCell ⟨X, j, none⟩ u) s R RC RT X (XC.set j u) XT :=
  ⟨RRdr.frp h.rd ((Frp.refl (fun k => k = X) w).set (p := ⟨X, j, none⟩) rfl u) (fun k hk e => by have := h.hb; omega), h.r.other (a := ⟨X, j, none⟩) h.hb.2.2 u, h.x.set j u, h.fr.trans ((Frp.refl (fun k => k = X) w).set (p := ⟨X, j, none⟩) rfl u) (fun k hk => .inr (by rw [hk]; exact h.lo.2)), h.hb, h.lo⟩
theorem Gr.setR (h : Gr w0 b l w s R RC RT X XC XT) (j : Nat) (u : Value) : Gr w0 b l (w.setCell ⟨R, j, none⟩ u) s R (RC.set j u) RT X XC XT :=
  ⟨RRdr.frp h.rd ((Frp.refl (fun k => k = R) w).set (p := ⟨R, j, none⟩) rfl u) (fun k hk e => by have := h.hb; omega), h.r.set j u, h.x.other (a := ⟨R, j, none⟩) (fun e => h.hb.2.2 e.symm) u, h.fr.trans ((Frp.refl (fun k => k = R) w).set (p := ⟨R, j, none⟩) rfl u) (fun k hk => .inr (by rw [hk]; exact h.lo.1)), h.hb, h.lo⟩
/-- the result's box is made -/
theorem gr_start {C : List Value} {t : TypeId} (h : RRdr w b l s.1 s.2) : RRdr (w.alloc (.cells C.toArray t)) b l s.1 s.2 ∧ Blk (w.alloc (.cells C.toArray t)) w.heap.size C t ∧ Frp (fun k => k = b) w (w.alloc (.cells C.toArray t)) ∧ b < w.heap.size :=
  ⟨RRdr.kept h (below_alloc _ _), Blk.made w C t, Frp.of_below (below_alloc _ _) _, RRdr.lt h⟩
/-- a box is made behind a call -/
theorem gr_box {C : List Value} {t : TypeId} (hr : RRdr w b l s.1 s.2) (hR : Blk w R RC RT) (hf : Frp (fun k => k = b) w0 w) (hb : b < R) (hlo : w0.heap.size ≤ R) : Gr w0 b l (w.alloc (.cells C.toArray t)) s R RC RT w.heap.size C t :=
  ⟨RRdr.kept hr (below_alloc _ _), hR.alloc _, Blk.made w C t, hf.next (below_alloc _ _), ⟨hb, RRdr.lt hr, by have := hR.lt; omega⟩, hlo, hf.size⟩
end
/-- a number that an int holds -/
def dS (l : List UInt8) (s : S) : Int × S := (if 1073741824 < (rU l s).1 then 1073741824 else (rU l s).1, (rU l s).2)
def dK (l : List UInt8) (s : S) : (List UInt8 × Int) × S := (((rT l s).1, (dS l (rT l s).2).1), (dS l (rT l s).2).2)
end Go.Proofs.YtopkfomlppnpeaaGreatDoor.Ms

namespace Go.Proofs.YtopkfomlppnpeaaGreatDoor.Ms
open Go.RowKit Go.Proofs.YtopkfomlppnpeaaGreatDoor

theorem dI {w : World} {b : Nat} {l : List UInt8} {s s1 : S} {c : Int} (h : RRdr w b l s.1 s.2) (hl : l.length ≤ 9223372036854775807) (e : rI l s = (c, s1)) : Calls Tryz.prog 99 #[ptr b] w (RRF w b l (.int .i64 c) s1) :=
  (rint_any b l s.1 s.2 w h hl).mono fun _ _ hm => rrf_of (congrArg (fun z : Int × S => Value.int .i64 z.1) e) (congrArg Prod.snd e) hm
theorem dU {w : World} {b : Nat} {l : List UInt8} {s s1 : S} {c : Int} (h : RRdr w b l s.1 s.2) (hl : l.length ≤ 9223372036854775807) (e : rU l s = (c, s1)) : Calls Tryz.prog 98 #[ptr b] w (RRF w b l (.int .u64 c) s1) :=
  (ruint_any b l s.1 s.2 w h hl).mono fun _ _ hm => rrf_of (congrArg (fun z : Int × S => Value.int .u64 z.1) e) (congrArg Prod.snd e) hm
theorem dT {w : World} {b : Nat} {l : List UInt8} {s s1 : S} {c : List UInt8} (h : RRdr w b l s.1 s.2) (hl : l.length ≤ 9223372036854775807) (e : rT l s = (c, s1)) : Calls Tryz.prog 102 #[ptr b] w (RRF w b l (.string (bs c)) s1) :=
  (rtext_any b l s.1 s.2 w h hl).mono fun _ _ hm => rrf_of (congrArg (fun z : List UInt8 × S => Value.string (bs z.1)) e) (congrArg Prod.snd e) hm
theorem dC {w : World} {b : Nat} {l : List UInt8} {s s1 : S} {c m : Int} (h : RRdr w b l s.1 s.2) (hl : l.length ≤ 9223372036854775807) (hm0 : 0 ≤ m) (hm : m ≤ 9223372036854775807) (e : rC m l s = (c, s1)) : Calls Tryz.prog 101 #[ptr b, .int .i64 m] w (RRF w b l (.int .i64 c) s1) := by
  obtain ⟨n, rfl⟩ : ∃ n : Nat, (n : Int) = m := ⟨m.toNat, by omega⟩
  exact (rcount_any b l s.1 n s.2 w h hl hm).mono fun _ _ hm => rrf_of (congrArg (fun z : Int × S => Value.int .i64 z.1) e) (congrArg Prod.snd e) hm
set_option maxRecDepth 100000 in
set_option maxHeartbeats 2000000 in
theorem dsmall_any {w : World} {b : Nat} {l : List UInt8} {s s1 : S} {c : Int} (h : RRdr w b l s.1 s.2) (hl : l.length ≤ 9223372036854775807) (e : dS l s = (c, s1)) : Calls Tryz.prog 100 #[ptr b] w (RRF w b l (.int .i64 c) s1) := by
  obtain ⟨x, t1, e1⟩ : ∃ c t, rU l s = (c, t) := ⟨_, _, rfl⟩
  have hx : 0 ≤ x ∧ x < 18446744073709551616 := by have h9 := rU_b l s; rw [e1] at h9; exact h9
  have H := Lib.hid (dU h hl e1)
  have HA : Hid (c = if 1073741824 < x then 1073741824 else x) := Lib.hid (by unfold dS at e; rw [e1] at e; exact (congrArg Prod.fst e).symm)
  have hs : t1 = s1 := by unfold dS at e; rw [e1] at e; exact congrArg Prod.snd e
  subst hs
  clear h hl e e1
  by_cases hb : 1073741824 < x
  · have d1 : decide ((1073741824 : Int) < x) = true := by simpa using hb
    have HC : Hid (c = 1073741824) := Lib.hid (by rw [HA.out, if_pos hb])
    go_enter Tryz.func100, Tryz.ntmps100
    go_wp2_with (go_at_call 98; refine H.out.mono ?_; rintro e w2 ⟨rfl, hr, hf⟩; have HR := Lib.hid hr; have HF := Lib.hid hf; clear hr hf)
    go_ret
    exact ⟨by rw [HC.out]; rfl, HR.out, HF.out⟩
  · have d1 : decide ((1073741824 : Int) < x) = false := by simpa using hb
    have HC : Hid (c = x) := Lib.hid (by rw [HA.out, if_neg hb])
    have w1 : IntKind.i64.wrap x = x := by rw [IntKind.wrap_i64]; omega
    go_enter Tryz.func100, Tryz.ntmps100
    go_wp2_with (go_at_call 98; refine H.out.mono ?_; rintro e w2 ⟨rfl, hr, hf⟩; have HR := Lib.hid hr; have HF := Lib.hid hf; clear hr hf)
    go_ret
    exact ⟨by rw [HC.out]; rfl, HR.out, HF.out⟩
set_option maxRecDepth 100000 in
set_option maxHeartbeats 2000000 in
theorem damounts_any {w : World} {b : Nat} {l : List UInt8} {s s1 : S} {a : Am} (h : RRdr w b l s.1 s.2) (hl : l.length ≤ 9223372036854775807) (e : rA l s = (a, s1)) : Calls Tryz.prog 103 #[ptr b] w (RRF w b l (amV a) s1) := by
  obtain ⟨a1, t1, e1⟩ : ∃ c t, rI l s = (c, t) := ⟨_, _, rfl⟩
  obtain ⟨a2, t2, e2⟩ : ∃ c t, rI l t1 = (c, t) := ⟨_, _, rfl⟩
  obtain ⟨a3, t3, e3⟩ : ∃ c t, rI l t2 = (c, t) := ⟨_, _, rfl⟩
  obtain ⟨a4, t4, e4⟩ : ∃ c t, rI l t3 = (c, t) := ⟨_, _, rfl⟩
  have hA : rA l s = (⟨a1, a2, a3, a4⟩, t4) := by unfold rA; simp only [e1, e2, e3, e4]
  rw [hA] at e
  obtain ⟨rfl, rfl⟩ := Prod.mk.inj e
  clear e hA
  have H1 := Lib.hid (fun w' (h : RRdr w' b l s.1 s.2) => dI h hl e1)
  have H2 := Lib.hid (fun w' (h : RRdr w' b l t1.1 t1.2) => dI h hl e2)
  have H3 := Lib.hid (fun w' (h : RRdr w' b l t2.1 t2.2) => dI h hl e3)
  have H4 := Lib.hid (fun w' (h : RRdr w' b l t3.1 t3.2) => dI h hl e4)
  clear e1 e2 e3 e4
  obtain ⟨R, hR⟩ : ∃ R, R = w.heap.size := ⟨_, rfl⟩
  obtain ⟨w1, hw1⟩ : ∃ w1, w1 = w.alloc (.cells #[.int .i64 0, .int .i64 0, .int .i64 0, .int .i64 0] 37) := ⟨_, rfl⟩
  have HS1 : Hid (RRdr w1 b l s.1 s.2 ∧ Blk w1 R [.int .i64 0, .int .i64 0, .int .i64 0, .int .i64 0] 37 ∧ Frp (fun k => k = b) w w1 ∧ b < R ∧ w.heap.size ≤ R) := Lib.hid (by rw [hw1, hR]; have h9 := gr_start (C := [.int .i64 0, .int .i64 0, .int .i64 0, .int .i64 0]) (t := 37) h; exact ⟨h9.1, h9.2.1, h9.2.2.1, h9.2.2.2, Nat.le_refl _⟩)
  go_enter Tryz.func103, Tryz.ntmps103
  go_upto_region 1 with fail
  rw [← hw1, ← hR]
  clear hw1 hR h
  go_upto_region 2 with (go_at_call 99; refine (H1.out _ HS1.out.1).mono ?_; rintro e w2 ⟨rfl, hr, hf⟩; have HS2 : Hid (RRdr w2 b l t1.1 t1.2 ∧ Blk w2 R [.int .i64 0, .int .i64 0, .int .i64 0, .int .i64 0] 37 ∧ Frp (fun k => k = b) w w2 ∧ b < R ∧ w.heap.size ≤ R) := Lib.hid ⟨hr, HS1.out.2.1.frp hf (fun e => by have := HS1.out.2.2.2.1; omega), HS1.out.2.2.1.then hf, HS1.out.2.2.2⟩; clear hr hf)
  obtain ⟨X, hX⟩ : ∃ X, X = w2.heap.size := ⟨_, rfl⟩
  obtain ⟨w3, hw3⟩ : ∃ w3, w3 = w2.alloc (.cells #[.int .i64 a1, .int .i64 0, .int .i64 0, .int .i64 0] 37) := ⟨_, rfl⟩
  have HG3 : Hid (Gr w b l w3 t1 R [.int .i64 0, .int .i64 0, .int .i64 0, .int .i64 0] 37 X [.int .i64 a1, .int .i64 0, .int .i64 0, .int .i64 0] 37) := Lib.hid (by rw [hw3, hX]; exact gr_box HS2.out.1 HS2.out.2.1 HS2.out.2.2.1 HS2.out.2.2.2.1 HS2.out.2.2.2.2)
  rw [← hw3, ← hX]
  clear hw3 hX HS2 HS1
  go_upto_region 3 with (go_at_call 99; refine (H2.out _ HG3.out.rd).mono ?_; rintro e w4 ⟨rfl, hr, hf⟩; have HG4 := Lib.hid (HG3.out.call hr hf); have f4_1 := HG4.out.x.free 1; have y4_1 := HG4.out.x.cell (j := 1) rfl; clear hr hf)
  refine at_hide (F := fun w' => Gr w b l w' t2 R [.int .i64 0, .int .i64 0, .int .i64 0, .int .i64 0] 37 X [.int .i64 a1, .int .i64 a2, .int .i64 0, .int .i64 0] 37) (HG4.out.setX 1 (.int .i64 a2)) ?_
  intro w5 hF
  have HG5 := Lib.hid hF
  clear hF
  go_upto_region 4 with (go_at_call 99; refine (H3.out _ HG5.out.rd).mono ?_; rintro e w6 ⟨rfl, hr, hf⟩; have HG6 := Lib.hid (HG5.out.call hr hf); have f6_2 := HG6.out.x.free 2; have y6_2 := HG6.out.x.cell (j := 2) rfl; clear hr hf)
  refine at_hide (F := fun w' => Gr w b l w' t3 R [.int .i64 0, .int .i64 0, .int .i64 0, .int .i64 0] 37 X [.int .i64 a1, .int .i64 a2, .int .i64 a3, .int .i64 0] 37) (HG6.out.setX 2 (.int .i64 a3)) ?_
  intro w7 hF
  have HG7 := Lib.hid hF
  clear hF
  go_upto_region 5 with (go_at_call 99; refine (H4.out _ HG7.out.rd).mono ?_; rintro e w8 ⟨rfl, hr, hf⟩; have HG8 := Lib.hid (HG7.out.call hr hf); have f8_3 := HG8.out.x.free 3; have y8_3 := HG8.out.x.cell (j := 3) rfl; clear hr hf)
  refine at_hide (F := fun w' => Gr w b l w' t4 R [.int .i64 0, .int .i64 0, .int .i64 0, .int .i64 0] 37 X [.int .i64 a1, .int .i64 a2, .int .i64 a3, .int .i64 a4] 37) (HG8.out.setX 3 (.int .i64 a4)) ?_
  intro w9 hF
  have HG9 := Lib.hid hF
  clear hF
  have f9_0 := HG9.out.x.free 0; have f9_1 := HG9.out.x.free 1; have f9_2 := HG9.out.x.free 2; have f9_3 := HG9.out.x.free 3; have y9_0 := HG9.out.x.cell (j := 0) rfl; have y9_1 := HG9.out.x.cell (j := 1) rfl; have y9_2 := HG9.out.x.cell (j := 2) rfl; have y9_3 := HG9.out.x.cell (j := 3) rfl
  have g9_0 := HG9.out.r.free 0; have g9_1 := HG9.out.r.free 1; have g9_2 := HG9.out.r.free 2; have g9_3 := HG9.out.r.free 3; have z9_0 := HG9.out.r.cell (j := 0) rfl; have z9_1 := HG9.out.r.cell (j := 1) rfl; have z9_2 := HG9.out.r.cell (j := 2) rfl; have z9_3 := HG9.out.r.cell (j := 3) rfl
  have HFI := Lib.hid (Gr.setR (Gr.setR (Gr.setR (Gr.setR HG9.out 0 (.int .i64 a1)) 1 (.int .i64 a2)) 2 (.int .i64 a3)) 3 (.int .i64 a4))
  go_wp2
  refine ret_cell1 rfl rfl rfl HFI.out.r Tryz.underlying37 rfl (by kernel_rfl) ?_
  exact ⟨rfl, HFI.out.rd, HFI.out.fr⟩
set_option maxRecDepth 100000 in
set_option maxHeartbeats 2000000 in
theorem dtask_any {w : World} {b : Nat} {l : List UInt8} {s s1 : S} {j : List UInt8} {i : Int} (h : RRdr w b l s.1 s.2) (hl : l.length ≤ 9223372036854775807) (e : dK l s = ((j, i), s1)) : Calls Tryz.prog 104 #[ptr b] w (RRF w b l (.agg #[.string (bs j), .int .i64 i]) s1) := by
  obtain ⟨j0, t1, e1⟩ : ∃ c t, rT l s = (c, t) := ⟨_, _, rfl⟩
  obtain ⟨i0, t2, e2⟩ : ∃ c t, dS l t1 = (c, t) := ⟨_, _, rfl⟩
  have hA : dK l s = ((j0, i0), t2) := by unfold dK; simp only [e1, e2]
  rw [hA] at e
  obtain ⟨h9, rfl⟩ := Prod.mk.inj e
  obtain ⟨rfl, rfl⟩ := Prod.mk.inj h9
  clear e hA h9
  have H1 := Lib.hid (fun w' (h : RRdr w' b l s.1 s.2) => dT h hl e1)
  have H2 := Lib.hid (fun w' (h : RRdr w' b l t1.1 t1.2) => dsmall_any h hl e2)
  clear e1 e2
  obtain ⟨R, hR⟩ : ∃ R, R = w.heap.size := ⟨_, rfl⟩
  obtain ⟨w1, hw1⟩ : ∃ w1, w1 = w.alloc (.cells #[.string ⟨#[]⟩, .int .i64 0] 35) := ⟨_, rfl⟩
  have HS1 : Hid (RRdr w1 b l s.1 s.2 ∧ Blk w1 R [.string ⟨#[]⟩, .int .i64 0] 35 ∧ Frp (fun k => k = b) w w1 ∧ b < R ∧ w.heap.size ≤ R) := Lib.hid (by rw [hw1, hR]; have h9 := gr_start (C := [.string ⟨#[]⟩, .int .i64 0]) (t := 35) h; exact ⟨h9.1, h9.2.1, h9.2.2.1, h9.2.2.2, Nat.le_refl _⟩)
  go_enter Tryz.func104, Tryz.ntmps104
  go_upto_region 1 with fail
  rw [← hw1, ← hR]
  clear hw1 hR h
  go_upto_region 2 with (go_at_call 102; refine (H1.out _ HS1.out.1).mono ?_; rintro e w2 ⟨rfl, hr, hf⟩; have HS2 : Hid (RRdr w2 b l t1.1 t1.2 ∧ Blk w2 R [.string ⟨#[]⟩, .int .i64 0] 35 ∧ Frp (fun k => k = b) w w2 ∧ b < R ∧ w.heap.size ≤ R) := Lib.hid ⟨hr, HS1.out.2.1.frp hf (fun e => by have := HS1.out.2.2.2.1; omega), HS1.out.2.2.1.then hf, HS1.out.2.2.2⟩; clear hr hf)
  have HR2 : Hid (RRdr w2 b l t1.1 t1.2) := Lib.hid HS2.out.1
  go_wp2_with (go_at_call 100; refine (H2.out _ HR2.out).mono ?_; rintro e w3 ⟨rfl, hr, hf⟩; have HR3 := Lib.hid hr; have HB3 := Lib.hid (HS2.out.2.1.frp hf (fun e => by have := HS2.out.2.2.2.1; omega)); have HF3 := Lib.hid (HS2.out.2.2.1.then hf); have f0 := HB3.out.free 0; have f1 := HB3.out.free 1; have y0 := HB3.out.cell (j := 0) rfl; have y1 := HB3.out.cell (j := 1) rfl; clear hr hf)
  refine ret_cell1 rfl rfl rfl ((HB3.out.set 0 (.string (bs j0))).set 1 (.int .i64 i0)) Tryz.underlying35 rfl (by kernel_rfl) ?_
  refine ⟨rfl, RRdr.frp HR3.out (frp_setX (frp_setX (Frp.refl (fun k => k = R) w3) 0 _) 1 _) (fun k hk e => by have := HS2.out.2.2.2.1; omega), HF3.out.trans (frp_setX (frp_setX (Frp.refl (fun k => k = R) w3) 0 _) 1 _) (fun k hk => .inr (by rw [hk]; exact HS2.out.2.2.2.2))⟩
end Go.Proofs.YtopkfomlppnpeaaGreatDoor.Ms
