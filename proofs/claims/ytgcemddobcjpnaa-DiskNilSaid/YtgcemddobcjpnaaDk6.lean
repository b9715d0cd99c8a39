/- The program's disk: Make, Sync, Remove, Rename. -/
import Derived.Test.YtgcemddobcjpnaaDk5
namespace Go.Proofs.Ytgcemddobcjpnaa
open Go.RowKit

theorem may_cases (D : Dk) : D.may = true ∨ D.may = false := by cases D.may <;> simp
theorem PDk.get_some {w : World} {b mb : Nat} {D : Dk} {L : List Pf} (h : PDk w b mb D L) {s : ByteArray} {p : Pf} (hp : kfnd Pf.key L s.data.toList = some p) : D.get s = some p.f := by unfold Dk.get; rw [h.find, hp]; rfl
theorem PDk.get_none {w : World} {b mb : Nat} {D : Dk} {L : List Pf} (h : PDk w b mb D L) {s : ByteArray} (hp : kfnd Pf.key L s.data.toList = none) : D.get s = none := by unfold Dk.get; rw [h.find, hp]; rfl
/-- behind a step that is done -/
theorem step_to {w : World} {b mb : Nat} {D : Dk} {L : List Pf} {M : Nat} {N : Int} (h : PDk w b mb D L) (hi : DkI D M N) (hN : N < 4611686018427387904) (hm : D.may = true) (f : FuncId) (caps : Array Value) (D' : Dk)
    (eg : ∀ args w, (callFunc f args).run Try.prog w = .ok (.enter f args) w) (hq : ∀ w1, PDk w1 b mb D.stepped L → Frp (fun k => k = b) w w1 → Calls Try.prog f caps w1 fun e w' => e = .returned (.tuple #[]) ∧ DkTo w1 w' b mb L D') :
    Calls Try.prog 34 #[ptr b, .func (.func f) #[] caps] w fun e w' => e = .returned (.int .i64 0) ∧ DkTo w w' b mb L D' :=
  step_yes b mb D L M N w h hi hN hm f caps (fun w' => DkTo w w' b mb L D') eg fun w1 h1 h2 => (hq w1 h1 h2).mono fun _ _ ⟨he, L', hp, hd⟩ => ⟨he, L', hp, hd.sub h2⟩
theorem step_dead {w : World} {b mb : Nat} {D : Dk} {L : List Pf} (h : PDk w b mb D L) (hm : D.may = false) (v : Value) :
    Calls Try.prog 34 #[ptr b, v] w fun e w' => e = .returned (.int .i64 10) ∧ DkTo w w' b mb L D.dead :=
  (step_no b mb D L w h hm v).mono fun _ _ ⟨he, hp, hf⟩ => ⟨he, L, hp, hf.mono (fun k hk => .inl hk), fun k hk => .inl hk⟩
theorem DkTo.box {a w w' : World} {b mb : Nat} {L : List Pf} {D : Dk} (h : DkTo w w' b mb L D) (k : Below a.heap.size a w) : DkTo a w' b mb L D := by
  obtain ⟨L', h1, h2⟩ := h
  exact ⟨L', h1, h2.box k⟩

section
variable (b mb : Nat) (D : Dk) (L : List Pf) (M : Nat) (N : Int) (s : ByteArray) (w : World) (h : PDk w b mb D L) (hi : DkI D M N) (hM : M ≤ 100000) (hN : N < 4611686018427387904) (hs : s.size ≤ maxLen)
include h hi hM hN hs

/-! Make -/
set_option maxRecDepth 100000 in
set_option maxHeartbeats 2000000 in
theorem make_any : Calls Try.prog 10 #[ptr b, .string s] w fun e w' => e = .returned (.int .i64 (D.make s).1) ∧ DkTo w w' b mb L (D.make s).2 := by
  obtain ⟨w2, hw2⟩ : ∃ w2, w2 = (w.alloc (.cells #[ptr b] 23)).alloc (.cells #[.string s] 9) := ⟨_, rfl⟩
  obtain ⟨B, hB⟩ : ∃ B, B = w.heap.size := ⟨_, rfl⟩
  have hb2 : Below w.heap.size w w2 := by rw [hw2]; exact below_and (below_alloc w _) (below_alloc _ _)
  have B0 : Blk w2 B [ptr b] 23 := by rw [hw2, hB]; exact (Blk.made w [ptr b] _).alloc _
  have B1 : Blk w2 (B + 1) [.string s] 9 := by
    have := Blk.made (w.alloc (.cells #[ptr b] 23)) [.string s] 9
    rw [hw2, hB]; simpa using this
  have HB0 := Lib.hid B0
  have HB1 := Lib.hid B1
  have HBB := Lib.hid hb2
  have HBE := Lib.hid hB
  have H := Lib.hid h
  have h2 := h.kept hb2
  have H2 := Lib.hid h2
  have HLT : Hid (b < B) := Lib.hid (by rw [hB]; exact h.blk.lt)
  have HS := Lib.hid hs
  have HI := Lib.hid hi
  have HN := Lib.hid hN
  have HLN : Hid (L.length < maxLen) := Lib.hid (by rw [h.len]; have := hi.len; unfold maxLen; omega)
  have c0 := B0.cell (j := 0) rfl
  have c1 := B1.cell (j := 0) rfl
  by_cases ha : D.ask [s] = 0
  · have HA := Lib.hid (ask0 b mb D L [s] _ _ (h2.kept (below_alloc w2 (.cells #[.string s] 9))) (row1 w2 s 9) (by simpa using hs) ha)
    have ha1 : ¬ (D.ask [s] ≠ 0) := by rw [ha]; simp
    obtain ⟨g, hg⟩ : ∃ g, g = kfnd Pf.key L s.data.toList := ⟨_, rfl⟩
    have HLK : Hid (∀ (w3 : World), PDk w3 b mb D L → (Instr.lookup 52 (.map (some mb)) (.string s) false).run Try.prog w3 = .ok ((g.map Pf.val).getD (.pointer none)) w3) := Lib.hid (fun w3 h3 => by
      have := h3.map.look Try.underlying9 Try.underlying52 (fzero w3) hs
      rw [kM_get, ← hg] at this
      exact this)
    cases hgg : g with
    | some p =>
      rw [hgg] at hg HLK
      have HF : Hid (D.make s = (7, D)) := Lib.hid (by unfold Dk.make; rw [if_neg ha1, if_pos (by rw [h.get_some hg.symm]; rfl)])
      clear h h2 hi hM hN hs ha ha1 hg hgg B0 B1 hb2
      go_enter Try.func10, Try.ntmps10
      go_upto_region 1 with fail
      rw [← hw2, ← hB]
      clear hw2 hB
      go_upto_region 4 with (go_at_call 33; refine HA.out.mono ?_; rintro e w3 ⟨rfl, hb⟩; have hb3 := below_and (below_alloc w2 (.cells #[.string s] 9)) hb; have HB3 := Lib.hid hb3; have H3 := Lib.hid (H2.out.kept hb3); clear hb hb3)
      have q0 := Past.blk (HB0.out.kept HB3.out) (j := 0) rfl
      have q1 := Past.blk (HB1.out.kept HB3.out) (j := 0) rfl
      have q2 := Past.blk H3.out.blk (j := 0) rfl
      have q3 : ∀ t : Past w3, (Instr.lookup 52 (.map (some mb)) (.string s) false).run Try.prog t.val = .ok (ptr p.a) t.val := fun t => HLK.out _ (H3.out.kept t.h)
      clear c0 c1
      refine wp_region_past (by kernel_rfl) (by kernel_rfl) ?_
      repeat (go_big_quiet_step (fail))
      refine wpQuiet_nil ?_
      intro _ hw'
      obtain ⟨s', hw''⟩ := hw'
      subst hw''
      have h6 := s'.h
      have HB6 := Lib.hid h6
      clear h6 q0 q1 q2 q3
      go_wp2
      go_ret
      rw [HF.out]
      exact ⟨rfl, DkTo.same H.out (below_and HBB.out (below_and HB3.out HB6.out))⟩
    | none =>
      rw [hgg] at hg HLK
      have hno : ¬ ((D.get s).isSome = true) := by rw [h.get_none hg.symm]; simp
      have HG := Lib.hid hg.symm
      rcases may_cases D with hm | hm
      · have HF : Hid (D.make s = (0, D.stepped.put ⟨s, [], 0⟩)) := Lib.hid (by unfold Dk.make; rw [if_neg ha1, if_neg hno, if_pos hm])
        have HMY := Lib.hid hm
        have HEG := Lib.hid (Go.Proofs.enters_of Try.func35 (by kernel_rfl) rfl)
        clear h h2 hi hM hN hs ha ha1 hg hgg B0 B1 hb2 hno hm
        go_enter Try.func10, Try.ntmps10
        go_upto_region 1 with fail
        rw [← hw2, ← hB]
        clear hw2 hB
        go_upto_region 4 with (go_at_call 33; refine HA.out.mono ?_; rintro e w3 ⟨rfl, hb⟩; have hb3 := below_and (below_alloc w2 (.cells #[.string s] 9)) hb; have HB3 := Lib.hid hb3; have H3 := Lib.hid (H2.out.kept hb3); clear hb hb3)
        have q0 := Past.blk (HB0.out.kept HB3.out) (j := 0) rfl
        have q1 := Past.blk (HB1.out.kept HB3.out) (j := 0) rfl
        have q2 := Past.blk H3.out.blk (j := 0) rfl
        have q3 : ∀ t : Past w3, (Instr.lookup 52 (.map (some mb)) (.string s) false).run Try.prog t.val = .ok (.pointer none) t.val := fun t => HLK.out _ (H3.out.kept t.h)
        clear c0 c1
        refine wp_region_past (by kernel_rfl) (by kernel_rfl) ?_
        repeat (go_big_quiet_step (fail))
        refine wpQuiet_nil ?_
        intro _ hw'
        obtain ⟨s', hw''⟩ := hw'
        subst hw''
        obtain ⟨w6, h6, e6⟩ : ∃ w6, Below w3.heap.size w3 w6 ∧ w6 = s'.val := ⟨_, s'.h, rfl⟩
        rw [← e6]
        have HB6 := Lib.hid (below_and HB3.out h6)
        have H6 := Lib.hid (H3.out.kept h6)
        clear h6 e6 q0 q1 q2 q3
        have c0 := (HB0.out.kept HB6.out).cell (j := 0) rfl
        have HST := Lib.hid (step_to H6.out HI.out HN.out HMY.out 35 #[ptr B, ptr (B + 1)] (D.stepped.put ⟨s, [], 0⟩) HEG.out (fun w1 h1 hf => make1 b mb B (B + 1) D.stepped L s w1 h1 HS.out HLN.out HG.out
          (cell_frp ((HB0.out.kept HB6.out).cell (j := 0) rfl) hf (fun e => by have := HLT.out; simp only at e; omega)) (cell_frp ((HB1.out.kept HB6.out).cell (j := 0) rfl) hf (fun e => by have := HLT.out; simp only at e; omega))))
        go_wp2_with (go_at_call 34; refine HST.out.mono ?_; rintro e w7 ⟨rfl, hd⟩; have HD7 := Lib.hid hd; clear hd)
        go_ret
        rw [HF.out]
        exact ⟨rfl, HD7.out.box (below_and HBB.out HB6.out)⟩
      · have HF : Hid (D.make s = (10, D.dead)) := Lib.hid (by unfold Dk.make; rw [if_neg ha1, if_neg hno, if_neg (by rw [hm]; simp)])
        have HMY := Lib.hid hm
        clear h h2 hi hM hN hs ha ha1 hg hgg B0 B1 hb2 hno hm
        go_enter Try.func10, Try.ntmps10
        go_upto_region 1 with fail
        rw [← hw2, ← hB]
        clear hw2 hB
        go_upto_region 4 with (go_at_call 33; refine HA.out.mono ?_; rintro e w3 ⟨rfl, hb⟩; have hb3 := below_and (below_alloc w2 (.cells #[.string s] 9)) hb; have HB3 := Lib.hid hb3; have H3 := Lib.hid (H2.out.kept hb3); clear hb hb3)
        have q0 := Past.blk (HB0.out.kept HB3.out) (j := 0) rfl
        have q1 := Past.blk (HB1.out.kept HB3.out) (j := 0) rfl
        have q2 := Past.blk H3.out.blk (j := 0) rfl
        have q3 : ∀ t : Past w3, (Instr.lookup 52 (.map (some mb)) (.string s) false).run Try.prog t.val = .ok (.pointer none) t.val := fun t => HLK.out _ (H3.out.kept t.h)
        clear c0 c1
        refine wp_region_past (by kernel_rfl) (by kernel_rfl) ?_
        repeat (go_big_quiet_step (fail))
        refine wpQuiet_nil ?_
        intro _ hw'
        obtain ⟨s', hw''⟩ := hw'
        subst hw''
        obtain ⟨w6, h6, e6⟩ : ∃ w6, Below w3.heap.size w3 w6 ∧ w6 = s'.val := ⟨_, s'.h, rfl⟩
        rw [← e6]
        have HB6 := Lib.hid (below_and HB3.out h6)
        have H6 := Lib.hid (H3.out.kept h6)
        clear h6 e6 q0 q1 q2 q3
        have c0 := (HB0.out.kept HB6.out).cell (j := 0) rfl
        go_wp2_with (go_at_call 34; refine (step_dead H6.out HMY.out _).mono ?_; rintro e w7 ⟨rfl, hd⟩; have HD7 := Lib.hid hd; clear hd)
        go_ret
        rw [HF.out]
        exact ⟨rfl, HD7.out.box (below_and HBB.out HB6.out)⟩
  · have HA := Lib.hid (asked_any b mb D L [s] _ _ (h2.kept (below_alloc w2 (.cells #[.string s] 9))) (row1 w2 s 9) (by simpa using hs))
    have HF : Hid (D.make s = (D.ask [s], D)) := Lib.hid (by unfold Dk.make; rw [if_pos ha])
    obtain ⟨q, hq⟩ : ∃ q, q = D.ask [s] := ⟨_, rfl⟩
    rw [← hq] at ha HA HF
    have q0 : (q != 0) = true := by simpa using ha
    clear h h2 hi hM hN hs ha hq B0 B1 hb2
    go_enter Try.func10, Try.ntmps10
    go_upto_region 1 with fail
    rw [← hw2, ← hB]
    clear hw2 hB
    go_wp2_with (go_at_call 33; refine HA.out.mono ?_; rintro e w3 ⟨rfl, hb⟩; have hb3 := below_and (below_alloc w2 (.cells #[.string s] 9)) hb; have HB3 := Lib.hid hb3; clear hb hb3)
    go_ret
    rw [HF.out]
    exact ⟨rfl, DkTo.same H.out (below_and HBB.out HB3.out)⟩
end
end Go.Proofs.Ytgcemddobcjpnaa
