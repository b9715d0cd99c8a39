/- Texts of one proof, laid together: Dk6, Dk7, Dk8, Dk9, Dk10, Rd6. No condition of ours. -/
import Derived.Test.YtgcemddobcjpnaaDK4
namespace Go.Proofs.Ytgcemddobcjpnaa
open Go.RowKit

theorem may_cases (D : Dk) : D.may = true ∨ D.may = false := by cases D.may <;> simp
theorem PDk.get_some {w : World} {b mb : Nat} {D : Dk} {L : List Pf} (h : PDk w b mb D L) {s : ByteArray} {p : Pf} (hp : kfnd Pf.key L s.data.toList = some p) : D.get s = some p.f := by unfold Dk.get; rw [h.find, hp]; rfl
theorem PDk.get_none {w : World} {b mb : Nat} {D : Dk} {L : List Pf} (h : PDk w b mb D L) {s : ByteArray} (hp : kfnd Pf.key L s.data.toList = none) : D.get s = none := by unfold Dk.get; rw [h.find, hp]; rfl
/-- behind a step that is done -/
theorem step_to {w : World} {b mb : Nat} {D : Dk} {L : List Pf} {M : Nat} {N : Int} (h : PDk w b mb D L) (hi : DkI D M N) (hN : N < 4611686018427387904) (hm : D.may = true) (f : FuncId) (caps : Array Value) (D' : Dk)
    (eg : ∀ args w, (callFunc f args).run Try.prog w = .ok (.enter f args) w) (hq : ∀ w1, PDk w1 b mb D.stepped L → Frp (fun k => k = b) w w1 → Calls Try.prog f caps w1 fun e w' => e = .returned (.tuple #[]) ∧ DkTo w1 w' b mb L D') :
    Calls Try.prog 34 #[ptr b, .func (.func f) #[] caps] w fun e w' => e = .returned (.int .i64 0) ∧ DkTo w w' b mb L D' :=
  step_yes b mb D L M N w h hi hN hm f caps (fun w' => DkTo w w' b mb L D') eg fun w1 h1 h2 => (hq w1 h1 h2).mono fun _ _ ⟨he, L', hp, hd⟩ => ⟨he, L', hp, hd.sub h2⟩
theorem step_dead {w : World} {b mb : Nat} {D : Dk} {L : List Pf} (h : PDk w b mb D L) (hm : D.may = false) (v : Value) :
    Calls Try.prog 34 #[ptr b, v] w fun e w' => e = .returned (.int .i64 10) ∧ DkTo w w' b mb L D.dead :=
  (step_no b mb D L w h hm v).mono fun _ _ ⟨he, hp, hf⟩ => ⟨he, L, hp, hf.mono (fun k hk => .inl hk), fun k hk => .inl hk⟩
theorem DkTo.box {a w w' : World} {b mb : Nat} {L : List Pf} {D : Dk} (h : DkTo w w' b mb L D) (k : Below a.heap.size a w) : DkTo a w' b mb L D := by
  obtain ⟨L', h1, h2⟩ := h
  exact ⟨L', h1, h2.box k⟩

section
variable (b mb : Nat) (D : Dk) (L : List Pf) (M : Nat) (N : Int) (s : ByteArray) (w : World) (h : PDk w b mb D L) (hi : DkI D M N) (hM : M ≤ 100000) (hN : N < 4611686018427387904) (hs : s.size ≤ maxLen)
include h hi hM hN hs

/-! Make -/
set_option maxRecDepth 100000 in
set_option maxHeartbeats 2000000 in
theorem make_any : Calls Try.prog 10 #[ptr b, .string s] w fun e w' => e = .returned (.int .i64 (D.make s).1) ∧ DkTo w w' b mb L (D.make s).2 := by
  obtain ⟨w2, hw2⟩ : ∃ w2, w2 = (w.alloc (.cells #[ptr b] 23)).alloc (.cells #[.string s] 9) := ⟨_, rfl⟩
  obtain ⟨B, hB⟩ : ∃ B, B = w.heap.size := ⟨_, rfl⟩
  have hb2 : Below w.heap.size w w2 := by rw [hw2]; exact below_and (below_alloc w _) (below_alloc _ _)
  have B0 : Blk w2 B [ptr b] 23 := by rw [hw2, hB]; exact (Blk.made w [ptr b] _).alloc _
  have B1 : Blk w2 (B + 1) [.string s] 9 := by
    have := Blk.made (w.alloc (.cells #[ptr b] 23)) [.string s] 9
    rw [hw2, hB]; simpa using this
  have HB0 := Lib.hid B0
  have HB1 := Lib.hid B1
  have HBB := Lib.hid hb2
  have HBE := Lib.hid hB
  have H := Lib.hid h
  have h2 := h.kept hb2
  have H2 := Lib.hid h2
  have HLT : Hid (b < B) := Lib.hid (by rw [hB]; exact h.blk.lt)
  have HS := Lib.hid hs
  have HI := Lib.hid hi
  have HN := Lib.hid hN
  have HLN : Hid (L.length < maxLen) := Lib.hid (by rw [h.len]; have := hi.len; unfold maxLen; omega)
  have c0 := B0.cell (j := 0) rfl
  have c1 := B1.cell (j := 0) rfl
  by_cases ha : D.ask [s] = 0
  · have HA := Lib.hid (ask0 b mb D L [s] _ _ (h2.kept (below_alloc w2 (.cells #[.string s] 9))) (row1 w2 s 9) (by simpa using hs) ha)
    have ha1 : ¬ (D.ask [s] ≠ 0) := by rw [ha]; simp
    obtain ⟨g, hg⟩ : ∃ g, g = kfnd Pf.key L s.data.toList := ⟨_, rfl⟩
    have HLK : Hid (∀ (w3 : World), PDk w3 b mb D L → (Instr.lookup 52 (.map (some mb)) (.string s) false).run Try.prog w3 = .ok ((g.map Pf.val).getD (.pointer none)) w3) := Lib.hid (fun w3 h3 => by
      have := h3.map.look Try.underlying9 Try.underlying52 (fzero w3) hs
      rw [kM_get, ← hg] at this
      exact this)
    cases hgg : g with
    | some p =>
      rw [hgg] at hg HLK
      have HF : Hid (D.make s = (7, D)) := Lib.hid (by unfold Dk.make; rw [if_neg ha1, if_pos (by rw [h.get_some hg.symm]; rfl)])
      clear h h2 hi hM hN hs ha ha1 hg hgg B0 B1 hb2
      go_enter Try.func10, Try.ntmps10
      go_upto_region 1 with fail
      rw [← hw2, ← hB]
      clear hw2 hB
      go_upto_region 4 with (go_at_call 33; refine HA.out.mono ?_; rintro e w3 ⟨rfl, hb⟩; have hb3 := below_and (below_alloc w2 (.cells #[.string s] 9)) hb; have HB3 := Lib.hid hb3; have H3 := Lib.hid (H2.out.kept hb3); clear hb hb3)
      have q0 := Past.blk (HB0.out.kept HB3.out) (j := 0) rfl
      have q1 := Past.blk (HB1.out.kept HB3.out) (j := 0) rfl
      have q2 := Past.blk H3.out.blk (j := 0) rfl
      have q3 : ∀ t : Past w3, (Instr.lookup 52 (.map (some mb)) (.string s) false).run Try.prog t.val = .ok (ptr p.a) t.val := fun t => HLK.out _ (H3.out.kept t.h)
      clear c0 c1
      refine wp_region_past (by kernel_rfl) (by kernel_rfl) ?_
      repeat (go_big_quiet_step (fail))
      refine wpQuiet_nil ?_
      intro _ hw'
      obtain ⟨s', hw''⟩ := hw'
      subst hw''
      have h6 := s'.h
      have HB6 := Lib.hid h6
      clear h6 q0 q1 q2 q3
      go_wp2
      go_ret
      rw [HF.out]
      exact ⟨rfl, DkTo.same H.out (below_and HBB.out (below_and HB3.out HB6.out))⟩
    | none =>
      rw [hgg] at hg HLK
      have hno : ¬ ((D.get s).isSome = true) := by rw [h.get_none hg.symm]; simp
      have HG := Lib.hid hg.symm
      rcases may_cases D with hm | hm
      · have HF : Hid (D.make s = (0, D.stepped.put ⟨s, [], 0⟩)) := Lib.hid (by unfold Dk.make; rw [if_neg ha1, if_neg hno, if_pos hm])
        have HMY := Lib.hid hm
        have HEG := Lib.hid (Go.Proofs.enters_of Try.func35 (by kernel_rfl) rfl)
        clear h h2 hi hM hN hs ha ha1 hg hgg B0 B1 hb2 hno hm
        go_enter Try.func10, Try.ntmps10
        go_upto_region 1 with fail
        rw [← hw2, ← hB]
        clear hw2 hB
        go_upto_region 4 with (go_at_call 33; refine HA.out.mono ?_; rintro e w3 ⟨rfl, hb⟩; have hb3 := below_and (below_alloc w2 (.cells #[.string s] 9)) hb; have HB3 := Lib.hid hb3; have H3 := Lib.hid (H2.out.kept hb3); clear hb hb3)
        have q0 := Past.blk (HB0.out.kept HB3.out) (j := 0) rfl
        have q1 := Past.blk (HB1.out.kept HB3.out) (j := 0) rfl
        have q2 := Past.blk H3.out.blk (j := 0) rfl
        have q3 : ∀ t : Past w3, (Instr.lookup 52 (.map (some mb)) (.string s) false).run Try.prog t.val = .ok (.pointer none) t.val := fun t => HLK.out _ (H3.out.kept t.h)
        clear c0 c1
        refine wp_region_past (by kernel_rfl) (by kernel_rfl) ?_
        repeat (go_big_quiet_step (fail))
        refine wpQuiet_nil ?_
        intro _ hw'
        obtain ⟨s', hw''⟩ := hw'
        subst hw''
        obtain ⟨w6, h6, e6⟩ : ∃ w6, Below w3.heap.size w3 w6 ∧ w6 = s'.val := ⟨_, s'.h, rfl⟩
        rw [← e6]
        have HB6 := Lib.hid (below_and HB3.out h6)
        have H6 := Lib.hid (H3.out.kept h6)
        clear h6 e6 q0 q1 q2 q3
        have c0 := (HB0.out.kept HB6.out).cell (j := 0) rfl
        have HST := Lib.hid (step_to H6.out HI.out HN.out HMY.out 35 #[ptr B, ptr (B + 1)] (D.stepped.put ⟨s, [], 0⟩) HEG.out (fun w1 h1 hf => make1 b mb B (B + 1) D.stepped L s w1 h1 HS.out HLN.out HG.out
          (cell_frp ((HB0.out.kept HB6.out).cell (j := 0) rfl) hf (fun e => by have := HLT.out; simp only at e; omega)) (cell_frp ((HB1.out.kept HB6.out).cell (j := 0) rfl) hf (fun e => by have := HLT.out; simp only at e; omega))))
        go_wp2_with (go_at_call 34; refine HST.out.mono ?_; rintro e w7 ⟨rfl, hd⟩; have HD7 := Lib.hid hd; clear hd)
        go_ret
        rw [HF.out]
        exact ⟨rfl, HD7.out.box (below_and HBB.out HB6.out)⟩
      · have HF : Hid (D.make s = (10, D.dead)) := Lib.hid (by unfold Dk.make; rw [if_neg ha1, if_neg hno, if_neg (by rw [hm]; simp)])
        have HMY := Lib.hid hm
        clear h h2 hi hM hN hs ha ha1 hg hgg B0 B1 hb2 hno hm
        go_enter Try.func10, Try.ntmps10
        go_upto_region 1 with fail
        rw [← hw2, ← hB]
        clear hw2 hB
        go_upto_region 4 with (go_at_call 33; refine HA.out.mono ?_; rintro e w3 ⟨rfl, hb⟩; have hb3 := below_and (below_alloc w2 (.cells #[.string s] 9)) hb; have HB3 := Lib.hid hb3; have H3 := Lib.hid (H2.out.kept hb3); clear hb hb3)
        have q0 := Past.blk (HB0.out.kept HB3.out) (j := 0) rfl
        have q1 := Past.blk (HB1.out.kept HB3.out) (j := 0) rfl
        have q2 := Past.blk H3.out.blk (j := 0) rfl
        have q3 : ∀ t : Past w3, (Instr.lookup 52 (.map (some mb)) (.string s) false).run Try.prog t.val = .ok (.pointer none) t.val := fun t => HLK.out _ (H3.out.kept t.h)
        clear c0 c1
        refine wp_region_past (by kernel_rfl) (by kernel_rfl) ?_
        repeat (go_big_quiet_step (fail))
        refine wpQuiet_nil ?_
        intro _ hw'
        obtain ⟨s', hw''⟩ := hw'
        subst hw''
        obtain ⟨w6, h6, e6⟩ : ∃ w6, Below w3.heap.size w3 w6 ∧ w6 = s'.val := ⟨_, s'.h, rfl⟩
        rw [← e6]
        have HB6 := Lib.hid (below_and HB3.out h6)
        have H6 := Lib.hid (H3.out.kept h6)
        clear h6 e6 q0 q1 q2 q3
        have c0 := (HB0.out.kept HB6.out).cell (j := 0) rfl
        go_wp2_with (go_at_call 34; refine (step_dead H6.out HMY.out _).mono ?_; rintro e w7 ⟨rfl, hd⟩; have HD7 := Lib.hid hd; clear hd)
        go_ret
        rw [HF.out]
        exact ⟨rfl, HD7.out.box (below_and HBB.out HB6.out)⟩
  · have HA := Lib.hid (asked_any b mb D L [s] _ _ (h2.kept (below_alloc w2 (.cells #[.string s] 9))) (row1 w2 s 9) (by simpa using hs))
    have HF : Hid (D.make s = (D.ask [s], D)) := Lib.hid (by unfold Dk.make; rw [if_pos ha])
    obtain ⟨q, hq⟩ : ∃ q, q = D.ask [s] := ⟨_, rfl⟩
    rw [← hq] at ha HA HF
    have q0 : (q != 0) = true := by simpa using ha
    clear h h2 hi hM hN hs ha hq B0 B1 hb2
    go_enter Try.func10, Try.ntmps10
    go_upto_region 1 with fail
    rw [← hw2, ← hB]
    clear hw2 hB
    go_wp2_with (go_at_call 33; refine HA.out.mono ?_; rintro e w3 ⟨rfl, hb⟩; have hb3 := below_and (below_alloc w2 (.cells #[.string s] 9)) hb; have HB3 := Lib.hid hb3; clear hb hb3)
    go_ret
    rw [HF.out]
    exact ⟨rfl, DkTo.same H.out (below_and HBB.out HB3.out)⟩
end
end Go.Proofs.Ytgcemddobcjpnaa
namespace Go.Proofs.Ytgcemddobcjpnaa
open Go.RowKit

section
variable (b mb : Nat) (D : Dk) (L : List Pf) (M : Nat) (N : Int) (s : ByteArray) (w : World) (h : PDk w b mb D L) (hi : DkI D M N) (hN : N < 4611686018427387904) (hs : s.size ≤ maxLen)
include h hi hN hs

/-! Sync -/
set_option maxRecDepth 100000 in
set_option maxHeartbeats 2000000 in
theorem sync_any : Calls Try.prog 12 #[ptr b, .string s] w fun e w' => e = .returned (.int .i64 (D.sync s).1) ∧ DkTo w w' b mb L (D.sync s).2 := by
  have H := Lib.hid h
  have HI := Lib.hid hi
  have HN := Lib.hid hN
  by_cases ha : D.ask [s] = 0
  · have ha1 : ¬ (D.ask [s] ≠ 0) := by rw [ha]; simp
    cases hp : kfnd Pf.key L s.data.toList with
    | none =>
      have HF : Hid (D.sync s = (6, D)) := Lib.hid (by unfold Dk.sync; rw [if_neg ha1, h.get_none hp])
      have HFI := Lib.hid (find_no b mb D L s w h hs ha hp)
      clear h hi hN hs ha hp ha1
      go_enter Try.func12, Try.ntmps12
      go_wp2_with (go_at_call 36; refine HFI.out.mono ?_; rintro e w3 ⟨rfl, hb⟩; have HB3 := Lib.hid hb; clear hb)
      go_ret
      rw [HF.out]
      exact ⟨rfl, DkTo.same H.out (below_and HB3.out (below_alloc _ _))⟩
    | some p =>
      obtain ⟨hmem, hkey⟩ := kfnd_mem hp
      have HFI := Lib.hid (find_yes b mb D L s w h hs ha p hp)
      have HP : Hid (kfnd Pf.key L p.key = some p) := Lib.hid (by rw [hkey]; exact hp)
      have HR : Hid (KRise Fl.key D.stepped.F) := Lib.hid hi.rise
      rcases may_cases D with hm | hm
      · have HF : Hid (D.sync s = (0, D.stepped.put { p.f with s := p.f.b.length })) := Lib.hid (by unfold Dk.sync; rw [if_neg ha1, h.get_some hp]; simp only; rw [if_pos hm])
        have HMY := Lib.hid hm
        have HEG := Lib.hid (Go.Proofs.enters_of Try.func39 (by kernel_rfl) rfl)
        clear h hi hN hs ha hp ha1 hmem hkey hm
        go_enter Try.func12, Try.ntmps12
        go_wp2_with (first
          | (go_at_call 36; refine HFI.out.mono ?_; rintro e w3 ⟨rfl, hb⟩; have HB3 := Lib.hid hb; have HBX := Lib.hid (Blk.made w3 [ptr p.a] 66); have H4 := Lib.hid ((H.out.kept hb).kept (below_alloc w3 (.cells #[ptr p.a] 66))); have HLT : Hid (b < w3.heap.size) := Lib.hid (H.out.kept hb).blk.lt; clear hb)
          | (go_at_call 34; refine (step_to H4.out HI.out HN.out HMY.out 39 _ (D.stepped.put { p.f with s := p.f.b.length }) HEG.out (fun w1 h1 hf => sync1 b mb w3.heap.size D.stepped L p w1 h1 HR.out HP.out (cell_frp (HBX.out.cell (j := 0) rfl) hf (fun e => by have := HLT.out; simp only at e; omega)))).mono ?_; rintro e w7 ⟨rfl, hd⟩; have HD7 := Lib.hid hd; clear hd))
        go_ret
        rw [HF.out]
        exact ⟨rfl, HD7.out.box (below_and HB3.out (below_alloc _ _))⟩
      · have HF : Hid (D.sync s = (10, D.dead)) := Lib.hid (by unfold Dk.sync; rw [if_neg ha1, h.get_some hp]; simp only; rw [if_neg (by rw [hm]; simp)])
        have HMY := Lib.hid hm
        clear h hi hN hs ha hp ha1 hmem hkey hm
        go_enter Try.func12, Try.ntmps12
        go_wp2_with (first
          | (go_at_call 36; refine HFI.out.mono ?_; rintro e w3 ⟨rfl, hb⟩; have HB3 := Lib.hid hb; have H4 := Lib.hid ((H.out.kept hb).kept (below_alloc w3 (.cells #[ptr p.a] 66))); clear hb)
          | (go_at_call 34; refine (step_dead H4.out HMY.out _).mono ?_; rintro e w7 ⟨rfl, hd⟩; have HD7 := Lib.hid hd; clear hd))
        go_ret
        rw [HF.out]
        exact ⟨rfl, HD7.out.box (below_and HB3.out (below_alloc _ _))⟩
  · have HF : Hid (D.sync s = (D.ask [s], D)) := Lib.hid (by unfold Dk.sync; rw [if_pos ha])
    have HFI := Lib.hid (find_bad b mb D L s w h hs ha)
    obtain ⟨q, hq⟩ : ∃ q, q = D.ask [s] := ⟨_, rfl⟩
    rw [← hq] at ha HF HFI
    have q0 : (q != 0) = true := by simpa using ha
    clear h hi hN hs ha hq
    go_enter Try.func12, Try.ntmps12
    go_wp2_with (go_at_call 36; refine HFI.out.mono ?_; rintro e w3 ⟨rfl, hb⟩; have HB3 := Lib.hid hb; clear hb)
    go_ret
    rw [HF.out]
    exact ⟨rfl, DkTo.same H.out (below_and HB3.out (below_alloc _ _))⟩

/-! Remove -/
set_option maxRecDepth 100000 in
set_option maxHeartbeats 2000000 in
theorem remove_any : Calls Try.prog 26 #[ptr b, .string s] w fun e w' => e = .returned (.int .i64 (D.remove s).1) ∧ DkTo w w' b mb L (D.remove s).2 := by
  obtain ⟨w2, hw2⟩ : ∃ w2, w2 = (w.alloc (.cells #[ptr b] 23)).alloc (.cells #[.string s] 9) := ⟨_, rfl⟩
  obtain ⟨B, hB⟩ : ∃ B, B = w.heap.size := ⟨_, rfl⟩
  have hb2 : Below w.heap.size w w2 := by rw [hw2]; exact below_and (below_alloc w _) (below_alloc _ _)
  have B0 : Blk w2 B [ptr b] 23 := by rw [hw2, hB]; exact (Blk.made w [ptr b] _).alloc _
  have B1 : Blk w2 (B + 1) [.string s] 9 := by
    have := Blk.made (w.alloc (.cells #[ptr b] 23)) [.string s] 9
    rw [hw2, hB]; simpa using this
  have HB0 := Lib.hid B0
  have HB1 := Lib.hid B1
  have HBB := Lib.hid hb2
  have H := Lib.hid h
  have h2 := h.kept hb2
  have H2 := Lib.hid h2
  have HLT : Hid (b < B) := Lib.hid (by rw [hB]; exact h.blk.lt)
  have HS := Lib.hid hs
  have HI := Lib.hid hi
  have HN := Lib.hid hN
  have c0 := B0.cell (j := 0) rfl
  have c1 := B1.cell (j := 0) rfl
  by_cases ha : D.ask [s] = 0
  · have ha1 : ¬ (D.ask [s] ≠ 0) := by rw [ha]; simp
    cases hp : kfnd Pf.key L s.data.toList with
    | none =>
      have HF : Hid (D.remove s = (6, D)) := Lib.hid (by unfold Dk.remove; rw [if_neg ha1, h.get_none hp])
      have HFI := Lib.hid (find_no b mb D L s w2 h2 hs ha hp)
      clear h h2 hi hN hs ha hp ha1 B0 B1 hb2
      go_enter Try.func26, Try.ntmps26
      go_upto_region 1 with fail
      rw [← hw2, ← hB]
      clear hw2 hB
      go_wp2_with (go_at_call 36; refine HFI.out.mono ?_; rintro e w3 ⟨rfl, hb⟩; have HB3 := Lib.hid hb; clear hb)
      go_ret
      rw [HF.out]
      exact ⟨rfl, DkTo.same H.out (below_and HBB.out HB3.out)⟩
    | some p =>
      have HFI := Lib.hid (find_yes b mb D L s w2 h2 hs ha p hp)
      rcases may_cases D with hm | hm
      · have HF : Hid (D.remove s = (0, D.stepped.cut s)) := Lib.hid (by unfold Dk.remove; rw [if_neg ha1, h.get_some hp]; simp only; rw [if_pos hm])
        have HMY := Lib.hid hm
        have HEG := Lib.hid (Go.Proofs.enters_of Try.func59 (by kernel_rfl) rfl)
        clear h h2 hi hN hs ha hp ha1 hm B0 B1 hb2
        go_enter Try.func26, Try.ntmps26
        go_upto_region 1 with fail
        rw [← hw2, ← hB]
        clear hw2 hB
        go_wp2_with (first
          | (go_at_call 36; refine HFI.out.mono ?_; rintro e w3 ⟨rfl, hb⟩; have HB3 := Lib.hid hb; have H3 := Lib.hid (H2.out.kept hb); clear c0 c1; have c0 := (HB0.out.kept hb).cell (j := 0) rfl; clear hb)
          | (go_at_call 34; refine (step_to H3.out HI.out HN.out HMY.out 59 _ (D.stepped.cut s) HEG.out (fun w1 h1 hf => (remove1 b mb B (B + 1) D.stepped L s w1 h1 HS.out (cell_frp ((HB0.out.kept HB3.out).cell (j := 0) rfl) hf (fun e => by have := HLT.out; simp only at e; omega)) (cell_frp ((HB1.out.kept HB3.out).cell (j := 0) rfl) hf (fun e => by have := HLT.out; simp only at e; omega))).mono fun _ _ ⟨he, hp, hd⟩ => ⟨he, _, hp, hd⟩)).mono ?_; rintro e w7 ⟨rfl, hd⟩; have HD7 := Lib.hid hd; clear hd))
        go_ret
        rw [HF.out]
        exact ⟨rfl, HD7.out.box (below_and HBB.out HB3.out)⟩
      · have HF : Hid (D.remove s = (10, D.dead)) := Lib.hid (by unfold Dk.remove; rw [if_neg ha1, h.get_some hp]; simp only; rw [if_neg (by rw [hm]; simp)])
        have HMY := Lib.hid hm
        clear h h2 hi hN hs ha hp ha1 hm B0 B1 hb2
        go_enter Try.func26, Try.ntmps26
        go_upto_region 1 with fail
        rw [← hw2, ← hB]
        clear hw2 hB
        go_wp2_with (first
          | (go_at_call 36; refine HFI.out.mono ?_; rintro e w3 ⟨rfl, hb⟩; have HB3 := Lib.hid hb; have H3 := Lib.hid (H2.out.kept hb); clear c0 c1; have c0 := (HB0.out.kept hb).cell (j := 0) rfl; clear hb)
          | (go_at_call 34; refine (step_dead H3.out HMY.out _).mono ?_; rintro e w7 ⟨rfl, hd⟩; have HD7 := Lib.hid hd; clear hd))
        go_ret
        rw [HF.out]
        exact ⟨rfl, HD7.out.box (below_and HBB.out HB3.out)⟩
  · have HF : Hid (D.remove s = (D.ask [s], D)) := Lib.hid (by unfold Dk.remove; rw [if_pos ha])
    have HFI := Lib.hid (find_bad b mb D L s w2 h2 hs ha)
    obtain ⟨q, hq⟩ : ∃ q, q = D.ask [s] := ⟨_, rfl⟩
    rw [← hq] at ha HF HFI
    have q0 : (q != 0) = true := by simpa using ha
    clear h h2 hi hN hs ha hq B0 B1 hb2
    go_enter Try.func26, Try.ntmps26
    go_upto_region 1 with fail
    rw [← hw2, ← hB]
    clear hw2 hB
    go_wp2_with (go_at_call 36; refine HFI.out.mono ?_; rintro e w3 ⟨rfl, hb⟩; have HB3 := Lib.hid hb; clear hb)
    go_ret
    rw [HF.out]
    exact ⟨rfl, DkTo.same H.out (below_and HBB.out HB3.out)⟩
end
end Go.Proofs.Ytgcemddobcjpnaa
namespace Go.Proofs.Ytgcemddobcjpnaa
open Go.RowKit

theorem toL_ne {s t : ByteArray} (h : s ≠ t) : s.data.toList ≠ t.data.toList := fun e => h (by cases s; cases t; simp only at e; rw [Array.toList_inj.1 e])
section
variable (b mb : Nat) (D : Dk) (L : List Pf) (M : Nat) (N : Int) (s t : ByteArray) (w : World) (h : PDk w b mb D L) (hi : DkI D M N) (hM : M ≤ 100000) (hN : N < 4611686018427387904) (hs : s.size ≤ maxLen) (ht : t.size ≤ maxLen)
include h hi hM hN hs ht
set_option maxRecDepth 100000 in
set_option maxHeartbeats 4000000 in
theorem rename_any : Calls Try.prog 19 #[ptr b, .string s, .string t] w fun e w' => e = .returned (.int .i64 (D.rename s t).1) ∧ DkTo w w' b mb L (D.rename s t).2 := by
  obtain ⟨w2, hw2⟩ : ∃ w2, w2 = ((w.alloc (.cells #[ptr b] 23)).alloc (.cells #[.string s] 9)).alloc (.cells #[.string t] 9) := ⟨_, rfl⟩
  obtain ⟨B, hB⟩ : ∃ B, B = w.heap.size := ⟨_, rfl⟩
  have hb2 : Below w.heap.size w w2 := by rw [hw2]; exact below_and (below_and (below_alloc w _) (below_alloc _ _)) (below_alloc _ _)
  have B0 : Blk w2 B [ptr b] 23 := by rw [hw2, hB]; exact ((Blk.made w [ptr b] _).alloc _).alloc _
  have B1 : Blk w2 (B + 1) [.string s] 9 := by
    have := (Blk.made (w.alloc (.cells #[ptr b] 23)) [.string s] 9).alloc (.cells #[.string t] 9)
    rw [hw2, hB]; simpa using this
  have B2 : Blk w2 (B + 2) [.string t] 9 := by
    have := Blk.made ((w.alloc (.cells #[ptr b] 23)).alloc (.cells #[.string s] 9)) [.string t] 9
    rw [hw2, hB]; simpa using this
  have HB0 := Lib.hid B0
  have HB1 := Lib.hid B1
  have HB2 := Lib.hid B2
  have HBB := Lib.hid hb2
  have H := Lib.hid h
  have h2 := h.kept hb2
  have H2 := Lib.hid h2
  have HSZ : Hid (w2.heap.size = B + 3) := Lib.hid (by rw [hw2, hB]; simp)
  have HLT : Hid (∀ k, fpP b mb L k → k < B) := Lib.hid (fun k hk => by rw [hB]; exact h.lt hk)
  have HS := Lib.hid hs
  have HT := Lib.hid ht
  have HI := Lib.hid hi
  have HN := Lib.hid hN
  have HLN : Hid (L.length < maxLen) := Lib.hid (by rw [h.len]; have := hi.len; unfold maxLen; omega)
  have c0 := B0.cell (j := 0) rfl
  have c1 := B1.cell (j := 0) rfl
  have c2 := B2.cell (j := 0) rfl
  have hst : ∀ x ∈ [s, t], x.size ≤ maxLen := by simpa using ⟨hs, ht⟩
  by_cases ha : D.ask [s, t] = 0
  · have HA := Lib.hid (ask0 b mb D L [s, t] _ _ (h2.kept (below_alloc w2 (.cells #[.string s, .string t] 9))) (row2 w2 s t 9) hst ha)
    have ha1 : ¬ (D.ask [s, t] ≠ 0) := by rw [ha]; simp
    obtain ⟨g, hg⟩ : ∃ g, g = kfnd Pf.key L s.data.toList := ⟨_, rfl⟩
    have HLK : Hid (∀ (w3 : World), PDk w3 b mb D L → (Instr.lookup 52 (.map (some mb)) (.string s) false).run Try.prog w3 = .ok ((g.map Pf.val).getD (.pointer none)) w3) := Lib.hid (fun w3 h3 => by
      have := h3.map.look Try.underlying9 Try.underlying52 (fzero w3) hs
      rw [kM_get, ← hg] at this
      exact this)
    cases hgg : g with
    | none =>
      rw [hgg] at hg HLK
      have HF : Hid (D.rename s t = (6, D)) := Lib.hid (by unfold Dk.rename; rw [if_neg ha1, h.get_none hg.symm])
      clear h h2 hi hM hN hs ht ha ha1 hg hgg B0 B1 B2 hb2 hst
      go_enter Try.func19, Try.ntmps19
      go_upto_region 1 with fail
      rw [← hw2, ← hB]
      clear hw2 hB
      go_upto_region 4 with (go_at_call 33; refine HA.out.mono ?_; rintro e w3 ⟨rfl, hb⟩; have hb3 := below_and (below_alloc w2 (.cells #[.string s, .string t] 9)) hb; have HB3 := Lib.hid hb3; have H3 := Lib.hid (H2.out.kept hb3); clear hb hb3)
      have HSS : Hid (∀ w', Below w3.heap.size w3 w' → w'.cell? ⟨B, 0, none⟩ = some (ptr b) ∧ w'.cell? ⟨b, 0, none⟩ = some (.map (some mb)) ∧ w'.cell? ⟨B + 1, 0, none⟩ = some (.string s) ∧ (Instr.lookup 52 (.map (some mb)) (.string s) false).run Try.prog w' = .ok (.pointer none) w') := Lib.hid (fun w' hb => ⟨((HB0.out.kept HB3.out).kept hb).cell (j := 0) rfl, (H3.out.kept hb).blk.cell (j := 0) rfl, ((HB1.out.kept HB3.out).kept hb).cell (j := 0) rfl, HLK.out _ (H3.out.kept hb)⟩)
      clear c0 c1 c2
      refine wp_region_noPanic ?_
      refine wp_region_lastH (fun w' => w'.cell? ⟨B, 0, none⟩ = some (ptr b) ∧ w'.cell? ⟨b, 0, none⟩ = some (.map (some mb)) ∧ w'.cell? ⟨B + 1, 0, none⟩ = some (.string s) ∧ (Instr.lookup 52 (.map (some mb)) (.string s) false).run Try.prog w' = .ok (.pointer none) w') 7 rfl rfl (by kernel_rfl) (by kernel_rfl) (HSS.out _ (below_drewN 1)) (fun hHeld => ?_)
      refine wpAnyH_take (i := 0) (v := ?v1) rfl (by kernel_rfl) (by kernel_rfl) (by kernel_rfl) (fun _ _ _ h => h) (Or.inl ⟨by rfl, ?hy1⟩) (by assumption) ?rest1
      case hy1 => (intro _ hSw; (try dsimp only at hSw); go_simp; (try with_reducible rfl))
      (try simp only [Act.put]); (try simp only [List.setIfInBounds_toArray]); (try simp only [List.set_cons_succ]); (try simp only [List.set_cons_zero])
      refine wpAnyH_take (i := 1) (v := ?v2) rfl (by kernel_rfl) (by kernel_rfl) (by kernel_rfl) (fun _ _ _ h => h) (Or.inl ⟨by rfl, ?hy2⟩) (by assumption) ?rest2
      case hy2 => (intro _ hSw; (try dsimp only at hSw); go_simp; (try with_reducible rfl))
      (try simp only [Act.put]); (try simp only [List.setIfInBounds_toArray]); (try simp only [List.set_cons_succ]); (try simp only [List.set_cons_zero])
      refine wpAnyH_take (i := 2) (v := ?v3) rfl (by kernel_rfl) (by kernel_rfl) (by kernel_rfl) (fun _ _ _ h => h) (Or.inl ⟨by rfl, ?hy3⟩) (by assumption) ?rest3
      case hy3 => (intro _ hSw; (try dsimp only at hSw); go_simp; (try with_reducible rfl))
      (try simp only [Act.put]); (try simp only [List.setIfInBounds_toArray]); (try simp only [List.set_cons_succ]); (try simp only [List.set_cons_zero])
      refine wpAnyH_take (i := 3) (v := ?v4) rfl (by kernel_rfl) (by kernel_rfl) (by kernel_rfl) (fun _ _ _ h => h) (Or.inl ⟨by rfl, ?hy4⟩) (by assumption) ?rest4
      case hy4 => (intro _ hSw; (try dsimp only at hSw); go_simp; (try with_reducible rfl))
      (try simp only [Act.put]); (try simp only [List.setIfInBounds_toArray]); (try simp only [List.set_cons_succ]); (try simp only [List.set_cons_zero])
      refine wpAnyH_take (i := 4) (v := ?v5) rfl (by kernel_rfl) (by kernel_rfl) (by kernel_rfl) (fun _ _ _ h => h) (Or.inl ⟨by rfl, ?hy5⟩) (by assumption) ?rest5
      case hy5 => (intro _ hSw; (try dsimp only at hSw); go_simp; (try with_reducible rfl))
      (try simp only [Act.put]); (try simp only [List.setIfInBounds_toArray]); (try simp only [List.set_cons_succ]); (try simp only [List.set_cons_zero])
      refine wpAnyH_take (i := 5) (v := ?v6) rfl (by kernel_rfl) (by kernel_rfl) (by kernel_rfl) (fun _ _ _ h => h) (Or.inl ⟨by rfl, ?hy6⟩) (by assumption) ?rest6
      case hy6 => (intro _ hSw; (try dsimp only at hSw); go_simp; (try with_reducible rfl))
      (try simp only [Act.put]); (try simp only [List.setIfInBounds_toArray]); (try simp only [List.set_cons_succ]); (try simp only [List.set_cons_zero])
      refine wpAnyH_ready (rs := [6]) (by kernel_rfl) (by simp) ?_
      refine (AllReadyH.cons rfl (fun K hK => ?_) AllReadyH.nil)
      (try simp only [List.getElem_toArray]); (try simp only [List.getElem_cons_succ]); (try simp only [List.getElem_cons_zero])
      go_simp
      obtain ⟨w5, hw5⟩ : ∃ w5, w5 = (w3.alloc (.cells #[.pointer none] 66)).drew := ⟨_, rfl⟩
      obtain ⟨z, hz⟩ : ∃ z, z = w3.heap.size := ⟨_, rfl⟩
      have hb5 : Below w3.heap.size w3 w5 := by rw [hw5]; exact below_ad _ _
      have HZB : Hid (Blk w5 z [.pointer none] 66) := Lib.hid (by rw [hw5, hz]; exact (Blk.made w3 [.pointer none] 66).kept (below_drewN 1))
      have HZ : Hid (w3.heap.size ≤ z) := Lib.hid (by rw [hz]; exact Nat.le_refl _)
      have HB5 := Lib.hid hb5
      rw [← hw5, ← hz]
      refine hK.out _ _ (HSS.out _ hb5) (fun hS1 => ?_)
      clear hw5 hz hb5 hK K hS1
      (try simp only [Act.put]); (try simp only [List.setIfInBounds_toArray]); (try simp only [List.set_cons_succ]); (try simp only [List.set_cons_zero])
      refine wpAnyH_done (by kernel_rfl) ?_ _
      refine LastQ.start rfl ?_
      clear hHeld
      have d0 := HZB.out.cell (j := 0) rfl
      have f0 := HZB.out.free 0
      go_wp2
      refine NoPanic.normal ?_
      have HWS : Hid (Below w3.heap.size w3 (w5.setCell ⟨z, 0, none⟩ (.pointer none))) := Lib.hid (HB5.out.setCell (p := ⟨z, 0, none⟩) HZ.out _)
      obtain ⟨w6, hw6⟩ : ∃ w6, w6 = w5.setCell ⟨z, 0, none⟩ (.pointer none) := ⟨_, rfl⟩
      have HBX : Hid (Blk w6 z [.pointer none] 66) := Lib.hid (by rw [hw6]; exact HZB.out.set 0 _)
      rw [← hw6] at HWS
      have h6 := HWS.out
      have HZW : Hid (z < w6.heap.size) := Lib.hid HBX.out.lt
      have e0 := HBX.out.cell (j := 0) rfl
      rw [← hw6]
      clear hw6 d0 f0
      have HB6 := Lib.hid (below_and HB3.out h6)
      clear h6
      go_wp2
      go_ret
      rw [HF.out]
      exact ⟨rfl, DkTo.same H.out (below_and HBB.out HB6.out)⟩
    | some p =>
      rw [hgg] at hg HLK
      have HG := Lib.hid hg.symm
      have hkey := (kfnd_mem hg.symm).2
      by_cases hst2 : s = t
      · subst hst2
        have HF : Hid (D.rename s s = (0, D)) := Lib.hid (by unfold Dk.rename; rw [if_neg ha1, h.get_some hg.symm]; simp)
        clear h h2 hi hM hN hs ht ha ha1 hg hgg B0 B1 B2 hb2 hst hkey
        go_enter Try.func19, Try.ntmps19
        go_upto_region 1 with fail
        rw [← hw2, ← hB]
        clear hw2 hB
        go_upto_region 4 with (go_at_call 33; refine HA.out.mono ?_; rintro e w3 ⟨rfl, hb⟩; have hb3 := below_and (below_alloc w2 (.cells #[.string s, .string s] 9)) hb; have HB3 := Lib.hid hb3; have H3 := Lib.hid (H2.out.kept hb3); clear hb hb3)
        have HSS : Hid (∀ w', Below w3.heap.size w3 w' → w'.cell? ⟨B, 0, none⟩ = some (ptr b) ∧ w'.cell? ⟨b, 0, none⟩ = some (.map (some mb)) ∧ w'.cell? ⟨B + 1, 0, none⟩ = some (.string s) ∧ (Instr.lookup 52 (.map (some mb)) (.string s) false).run Try.prog w' = .ok (ptr p.a) w') := Lib.hid (fun w' hb => ⟨((HB0.out.kept HB3.out).kept hb).cell (j := 0) rfl, (H3.out.kept hb).blk.cell (j := 0) rfl, ((HB1.out.kept HB3.out).kept hb).cell (j := 0) rfl, HLK.out _ (H3.out.kept hb)⟩)
        clear c0 c1 c2
        refine wp_region_noPanic ?_
        refine wp_region_lastH (fun w' => w'.cell? ⟨B, 0, none⟩ = some (ptr b) ∧ w'.cell? ⟨b, 0, none⟩ = some (.map (some mb)) ∧ w'.cell? ⟨B + 1, 0, none⟩ = some (.string s) ∧ (Instr.lookup 52 (.map (some mb)) (.string s) false).run Try.prog w' = .ok (ptr p.a) w') 7 rfl rfl (by kernel_rfl) (by kernel_rfl) (HSS.out _ (below_drewN 1)) (fun hHeld => ?_)
        refine wpAnyH_take (i := 0) (v := ?v7) rfl (by kernel_rfl) (by kernel_rfl) (by kernel_rfl) (fun _ _ _ h => h) (Or.inl ⟨by rfl, ?hy7⟩) (by assumption) ?rest7
        case hy7 => (intro _ hSw; (try dsimp only at hSw); go_simp; (try with_reducible rfl))
        (try simp only [Act.put]); (try simp only [List.setIfInBounds_toArray]); (try simp only [List.set_cons_succ]); (try simp only [List.set_cons_zero])
        refine wpAnyH_take (i := 1) (v := ?v8) rfl (by kernel_rfl) (by kernel_rfl) (by kernel_rfl) (fun _ _ _ h => h) (Or.inl ⟨by rfl, ?hy8⟩) (by assumption) ?rest8
        case hy8 => (intro _ hSw; (try dsimp only at hSw); go_simp; (try with_reducible rfl))
        (try simp only [Act.put]); (try simp only [List.setIfInBounds_toArray]); (try simp only [List.set_cons_succ]); (try simp only [List.set_cons_zero])
        refine wpAnyH_take (i := 2) (v := ?v9) rfl (by kernel_rfl) (by kernel_rfl) (by kernel_rfl) (fun _ _ _ h => h) (Or.inl ⟨by rfl, ?hy9⟩) (by assumption) ?rest9
        case hy9 => (intro _ hSw; (try dsimp only at hSw); go_simp; (try with_reducible rfl))
        (try simp only [Act.put]); (try simp only [List.setIfInBounds_toArray]); (try simp only [List.set_cons_succ]); (try simp only [List.set_cons_zero])
        refine wpAnyH_take (i := 3) (v := ?v10) rfl (by kernel_rfl) (by kernel_rfl) (by kernel_rfl) (fun _ _ _ h => h) (Or.inl ⟨by rfl, ?hy10⟩) (by assumption) ?rest10
        case hy10 => (intro _ hSw; (try dsimp only at hSw); go_simp; (try with_reducible rfl))
        (try simp only [Act.put]); (try simp only [List.setIfInBounds_toArray]); (try simp only [List.set_cons_succ]); (try simp only [List.set_cons_zero])
        refine wpAnyH_take (i := 4) (v := ?v11) rfl (by kernel_rfl) (by kernel_rfl) (by kernel_rfl) (fun _ _ _ h => h) (Or.inl ⟨by rfl, ?hy11⟩) (by assumption) ?rest11
        case hy11 => (intro _ hSw; (try dsimp only at hSw); go_simp; (try with_reducible rfl))
        (try simp only [Act.put]); (try simp only [List.setIfInBounds_toArray]); (try simp only [List.set_cons_succ]); (try simp only [List.set_cons_zero])
        refine wpAnyH_take (i := 5) (v := ?v12) rfl (by kernel_rfl) (by kernel_rfl) (by kernel_rfl) (fun _ _ _ h => h) (Or.inl ⟨by rfl, ?hy12⟩) (by assumption) ?rest12
        case hy12 => (intro _ hSw; (try dsimp only at hSw); go_simp; (try with_reducible rfl))
        (try simp only [Act.put]); (try simp only [List.setIfInBounds_toArray]); (try simp only [List.set_cons_succ]); (try simp only [List.set_cons_zero])
        refine wpAnyH_ready (rs := [6]) (by kernel_rfl) (by simp) ?_
        refine (AllReadyH.cons rfl (fun K hK => ?_) AllReadyH.nil)
        (try simp only [List.getElem_toArray]); (try simp only [List.getElem_cons_succ]); (try simp only [List.getElem_cons_zero])
        go_simp
        obtain ⟨w5, hw5⟩ : ∃ w5, w5 = (w3.alloc (.cells #[.pointer none] 66)).drew := ⟨_, rfl⟩
        obtain ⟨z, hz⟩ : ∃ z, z = w3.heap.size := ⟨_, rfl⟩
        have hb5 : Below w3.heap.size w3 w5 := by rw [hw5]; exact below_ad _ _
        have HZB : Hid (Blk w5 z [.pointer none] 66) := Lib.hid (by rw [hw5, hz]; exact (Blk.made w3 [.pointer none] 66).kept (below_drewN 1))
        have HZ : Hid (w3.heap.size ≤ z) := Lib.hid (by rw [hz]; exact Nat.le_refl _)
        have HB5 := Lib.hid hb5
        rw [← hw5, ← hz]
        refine hK.out _ _ (HSS.out _ hb5) (fun hS1 => ?_)
        clear hw5 hz hb5 hK K hS1
        (try simp only [Act.put]); (try simp only [List.setIfInBounds_toArray]); (try simp only [List.set_cons_succ]); (try simp only [List.set_cons_zero])
        refine wpAnyH_done (by kernel_rfl) ?_ _
        refine LastQ.start rfl ?_
        clear hHeld
        have d0 := HZB.out.cell (j := 0) rfl
        have f0 := HZB.out.free 0
        go_wp2
        refine NoPanic.normal ?_
        have HWS : Hid (Below w3.heap.size w3 (w5.setCell ⟨z, 0, none⟩ (ptr p.a))) := Lib.hid (HB5.out.setCell (p := ⟨z, 0, none⟩) HZ.out _)
        obtain ⟨w6, hw6⟩ : ∃ w6, w6 = w5.setCell ⟨z, 0, none⟩ (ptr p.a) := ⟨_, rfl⟩
        have HBX : Hid (Blk w6 z [ptr p.a] 66) := Lib.hid (by rw [hw6]; exact HZB.out.set 0 _)
        rw [← hw6] at HWS
        have h6 := HWS.out
        have HZW : Hid (z < w6.heap.size) := Lib.hid HBX.out.lt
        have e0 := HBX.out.cell (j := 0) rfl
        rw [← hw6]
        clear hw6 d0 f0
        have HB6 := Lib.hid (below_and HB3.out h6)
        clear h6
        have c1 := (HB1.out.kept HB6.out).cell (j := 0) rfl
        have c2 := (HB2.out.kept HB6.out).cell (j := 0) rfl
        go_wp2
        go_ret
        rw [HF.out]
        exact ⟨rfl, DkTo.same H.out (below_and HBB.out HB6.out)⟩
      · have hne : (s.toList == t.toList) = false := by rw [Lib.toList_data, Lib.toList_data]; simpa using toL_ne hst2
        have HNE := Lib.hid (toL_ne hst2)
        rcases may_cases D with hm | hm
        · have HF : Hid (D.rename s t = (0, (D.stepped.cut s).put { p.f with n := t })) := Lib.hid (by unfold Dk.rename; rw [if_neg ha1, h.get_some hg.symm]; simp only; rw [if_neg hst2, if_pos hm])
          have HMY := Lib.hid hm
          have HR : Hid (KRise Fl.key D.stepped.F) := Lib.hid hi.rise
          have HEG := Lib.hid (Go.Proofs.enters_of Try.func44 (by kernel_rfl) rfl)
          clear h h2 hi hM hN hs ht ha ha1 hg hgg B0 B1 B2 hb2 hst hm hst2 hkey
          go_enter Try.func19, Try.ntmps19
          go_upto_region 1 with fail
          rw [← hw2, ← hB]
          clear hw2 hB
          go_upto_region 4 with (go_at_call 33; refine HA.out.mono ?_; rintro e w3 ⟨rfl, hb⟩; have hb3 := below_and (below_alloc w2 (.cells #[.string s, .string t] 9)) hb; have HB3 := Lib.hid hb3; have H3 := Lib.hid (H2.out.kept hb3); clear hb hb3)
          have HSS : Hid (∀ w', Below w3.heap.size w3 w' → w'.cell? ⟨B, 0, none⟩ = some (ptr b) ∧ w'.cell? ⟨b, 0, none⟩ = some (.map (some mb)) ∧ w'.cell? ⟨B + 1, 0, none⟩ = some (.string s) ∧ (Instr.lookup 52 (.map (some mb)) (.string s) false).run Try.prog w' = .ok (ptr p.a) w') := Lib.hid (fun w' hb => ⟨((HB0.out.kept HB3.out).kept hb).cell (j := 0) rfl, (H3.out.kept hb).blk.cell (j := 0) rfl, ((HB1.out.kept HB3.out).kept hb).cell (j := 0) rfl, HLK.out _ (H3.out.kept hb)⟩)
          clear c0 c1 c2
          refine wp_region_noPanic ?_
          refine wp_region_lastH (fun w' => w'.cell? ⟨B, 0, none⟩ = some (ptr b) ∧ w'.cell? ⟨b, 0, none⟩ = some (.map (some mb)) ∧ w'.cell? ⟨B + 1, 0, none⟩ = some (.string s) ∧ (Instr.lookup 52 (.map (some mb)) (.string s) false).run Try.prog w' = .ok (ptr p.a) w') 7 rfl rfl (by kernel_rfl) (by kernel_rfl) (HSS.out _ (below_drewN 1)) (fun hHeld => ?_)
          refine wpAnyH_take (i := 0) (v := ?v13) rfl (by kernel_rfl) (by kernel_rfl) (by kernel_rfl) (fun _ _ _ h => h) (Or.inl ⟨by rfl, ?hy13⟩) (by assumption) ?rest13
          case hy13 => (intro _ hSw; (try dsimp only at hSw); go_simp; (try with_reducible rfl))
          (try simp only [Act.put]); (try simp only [List.setIfInBounds_toArray]); (try simp only [List.set_cons_succ]); (try simp only [List.set_cons_zero])
          refine wpAnyH_take (i := 1) (v := ?v14) rfl (by kernel_rfl) (by kernel_rfl) (by kernel_rfl) (fun _ _ _ h => h) (Or.inl ⟨by rfl, ?hy14⟩) (by assumption) ?rest14
          case hy14 => (intro _ hSw; (try dsimp only at hSw); go_simp; (try with_reducible rfl))
          (try simp only [Act.put]); (try simp only [List.setIfInBounds_toArray]); (try simp only [List.set_cons_succ]); (try simp only [List.set_cons_zero])
          refine wpAnyH_take (i := 2) (v := ?v15) rfl (by kernel_rfl) (by kernel_rfl) (by kernel_rfl) (fun _ _ _ h => h) (Or.inl ⟨by rfl, ?hy15⟩) (by assumption) ?rest15
          case hy15 => (intro _ hSw; (try dsimp only at hSw); go_simp; (try with_reducible rfl))
          (try simp only [Act.put]); (try simp only [List.setIfInBounds_toArray]); (try simp only [List.set_cons_succ]); (try simp only [List.set_cons_zero])
          refine wpAnyH_take (i := 3) (v := ?v16) rfl (by kernel_rfl) (by kernel_rfl) (by kernel_rfl) (fun _ _ _ h => h) (Or.inl ⟨by rfl, ?hy16⟩) (by assumption) ?rest16
          case hy16 => (intro _ hSw; (try dsimp only at hSw); go_simp; (try with_reducible rfl))
          (try simp only [Act.put]); (try simp only [List.setIfInBounds_toArray]); (try simp only [List.set_cons_succ]); (try simp only [List.set_cons_zero])
          refine wpAnyH_take (i := 4) (v := ?v17) rfl (by kernel_rfl) (by kernel_rfl) (by kernel_rfl) (fun _ _ _ h => h) (Or.inl ⟨by rfl, ?hy17⟩) (by assumption) ?rest17
          case hy17 => (intro _ hSw; (try dsimp only at hSw); go_simp; (try with_reducible rfl))
          (try simp only [Act.put]); (try simp only [List.setIfInBounds_toArray]); (try simp only [List.set_cons_succ]); (try simp only [List.set_cons_zero])
          refine wpAnyH_take (i := 5) (v := ?v18) rfl (by kernel_rfl) (by kernel_rfl) (by kernel_rfl) (fun _ _ _ h => h) (Or.inl ⟨by rfl, ?hy18⟩) (by assumption) ?rest18
          case hy18 => (intro _ hSw; (try dsimp only at hSw); go_simp; (try with_reducible rfl))
          (try simp only [Act.put]); (try simp only [List.setIfInBounds_toArray]); (try simp only [List.set_cons_succ]); (try simp only [List.set_cons_zero])
          refine wpAnyH_ready (rs := [6]) (by kernel_rfl) (by simp) ?_
          refine (AllReadyH.cons rfl (fun K hK => ?_) AllReadyH.nil)
          (try simp only [List.getElem_toArray]); (try simp only [List.getElem_cons_succ]); (try simp only [List.getElem_cons_zero])
          go_simp
          obtain ⟨w5, hw5⟩ : ∃ w5, w5 = (w3.alloc (.cells #[.pointer none] 66)).drew := ⟨_, rfl⟩
          obtain ⟨z, hz⟩ : ∃ z, z = w3.heap.size := ⟨_, rfl⟩
          have hb5 : Below w3.heap.size w3 w5 := by rw [hw5]; exact below_ad _ _
          have HZB : Hid (Blk w5 z [.pointer none] 66) := Lib.hid (by rw [hw5, hz]; exact (Blk.made w3 [.pointer none] 66).kept (below_drewN 1))
          have HZ : Hid (w3.heap.size ≤ z) := Lib.hid (by rw [hz]; exact Nat.le_refl _)
          have HB5 := Lib.hid hb5
          rw [← hw5, ← hz]
          refine hK.out _ _ (HSS.out _ hb5) (fun hS1 => ?_)
          clear hw5 hz hb5 hK K hS1
          (try simp only [Act.put]); (try simp only [List.setIfInBounds_toArray]); (try simp only [List.set_cons_succ]); (try simp only [List.set_cons_zero])
          refine wpAnyH_done (by kernel_rfl) ?_ _
          refine LastQ.start rfl ?_
          clear hHeld
          have d0 := HZB.out.cell (j := 0) rfl
          have f0 := HZB.out.free 0
          go_wp2
          refine NoPanic.normal ?_
          have HWS : Hid (Below w3.heap.size w3 (w5.setCell ⟨z, 0, none⟩ (ptr p.a))) := Lib.hid (HB5.out.setCell (p := ⟨z, 0, none⟩) HZ.out _)
          obtain ⟨w6, hw6⟩ : ∃ w6, w6 = w5.setCell ⟨z, 0, none⟩ (ptr p.a) := ⟨_, rfl⟩
          have HBX : Hid (Blk w6 z [ptr p.a] 66) := Lib.hid (by rw [hw6]; exact HZB.out.set 0 _)
          rw [← hw6] at HWS
          have h6 := HWS.out
          have HZW : Hid (z < w6.heap.size) := Lib.hid HBX.out.lt
          have e0 := HBX.out.cell (j := 0) rfl
          rw [← hw6]
          clear hw6 d0 f0
          have hba := below_and HB3.out h6
          have HSZ6 : Hid (B + 3 ≤ z) := Lib.hid (by have := HB3.out.size; have := HZ.out; have := HSZ.out; omega)
          have HBA := Lib.hid hba
          have H7 := Lib.hid (H2.out.kept hba)
          clear h6 hba
          have c0 := (HB0.out.kept HBA.out).cell (j := 0) rfl
          have c1 := (HB1.out.kept HBA.out).cell (j := 0) rfl
          have c2 := (HB2.out.kept HBA.out).cell (j := 0) rfl
          go_wp2_with (go_at_call 34; refine (step_to H7.out HI.out HN.out HMY.out 44 _ ((D.stepped.cut s).put { p.f with n := t }) HEG.out (fun w1 h1 hf => rename1 b mb B (B + 1) z (B + 2) D.stepped L s t p w1 h1 HR.out HS.out HT.out HLN.out HG.out HNE.out
            (cell_frp ((HB0.out.kept HBA.out).cell (j := 0) rfl) hf (fun e => by have := HLT.out b (.inl rfl); simp only at e; omega)) (cell_frp ((HB1.out.kept HBA.out).cell (j := 0) rfl) hf (fun e => by have := HLT.out b (.inl rfl); simp only at e; omega)) (cell_frp (HBX.out.cell (j := 0) rfl) hf (fun e => by have := HLT.out b (.inl rfl); have := HSZ6.out; simp only at e; omega)) (cell_frp ((HB2.out.kept HBA.out).cell (j := 0) rfl) hf (fun e => by have := HLT.out b (.inl rfl); simp only at e; omega))
            ⟨by have h1 := hf.size; have := HSZ6.out; have := HZW.out; omega, fun k hk => by have := HLT.out k hk; have := HSZ6.out; omega⟩)).mono ?_; rintro e w7 ⟨rfl, hd⟩; have HD7 := Lib.hid hd; clear hd)
          go_ret
          rw [HF.out]
          exact ⟨rfl, HD7.out.box (below_and HBB.out HBA.out)⟩
        · have HF : Hid (D.rename s t = (10, D.dead)) := Lib.hid (by unfold Dk.rename; rw [if_neg ha1, h.get_some hg.symm]; simp only; rw [if_neg hst2, if_neg (by rw [hm]; simp)])
          have HMY := Lib.hid hm
          clear h h2 hi hM hN hs ht ha ha1 hg hgg B0 B1 B2 hb2 hst hm hst2 hkey
          go_enter Try.func19, Try.ntmps19
          go_upto_region 1 with fail
          rw [← hw2, ← hB]
          clear hw2 hB
          go_upto_region 4 with (go_at_call 33; refine HA.out.mono ?_; rintro e w3 ⟨rfl, hb⟩; have hb3 := below_and (below_alloc w2 (.cells #[.string s, .string t] 9)) hb; have HB3 := Lib.hid hb3; have H3 := Lib.hid (H2.out.kept hb3); clear hb hb3)
          have HSS : Hid (∀ w', Below w3.heap.size w3 w' → w'.cell? ⟨B, 0, none⟩ = some (ptr b) ∧ w'.cell? ⟨b, 0, none⟩ = some (.map (some mb)) ∧ w'.cell? ⟨B + 1, 0, none⟩ = some (.string s) ∧ (Instr.lookup 52 (.map (some mb)) (.string s) false).run Try.prog w' = .ok (ptr p.a) w') := Lib.hid (fun w' hb => ⟨((HB0.out.kept HB3.out).kept hb).cell (j := 0) rfl, (H3.out.kept hb).blk.cell (j := 0) rfl, ((HB1.out.kept HB3.out).kept hb).cell (j := 0) rfl, HLK.out _ (H3.out.kept hb)⟩)
          clear c0 c1 c2
          refine wp_region_noPanic ?_
          refine wp_region_lastH (fun w' => w'.cell? ⟨B, 0, none⟩ = some (ptr b) ∧ w'.cell? ⟨b, 0, none⟩ = some (.map (some mb)) ∧ w'.cell? ⟨B + 1, 0, none⟩ = some (.string s) ∧ (Instr.lookup 52 (.map (some mb)) (.string s) false).run Try.prog w' = .ok (ptr p.a) w') 7 rfl rfl (by kernel_rfl) (by kernel_rfl) (HSS.out _ (below_drewN 1)) (fun hHeld => ?_)
          refine wpAnyH_take (i := 0) (v := ?v19) rfl (by kernel_rfl) (by kernel_rfl) (by kernel_rfl) (fun _ _ _ h => h) (Or.inl ⟨by rfl, ?hy19⟩) (by assumption) ?rest19
          case hy19 => (intro _ hSw; (try dsimp only at hSw); go_simp; (try with_reducible rfl))
          (try simp only [Act.put]); (try simp only [List.setIfInBounds_toArray]); (try simp only [List.set_cons_succ]); (try simp only [List.set_cons_zero])
          refine wpAnyH_take (i := 1) (v := ?v20) rfl (by kernel_rfl) (by kernel_rfl) (by kernel_rfl) (fun _ _ _ h => h) (Or.inl ⟨by rfl, ?hy20⟩) (by assumption) ?rest20
          case hy20 => (intro _ hSw; (try dsimp only at hSw); go_simp; (try with_reducible rfl))
          (try simp only [Act.put]); (try simp only [List.setIfInBounds_toArray]); (try simp only [List.set_cons_succ]); (try simp only [List.set_cons_zero])
          refine wpAnyH_take (i := 2) (v := ?v21) rfl (by kernel_rfl) (by kernel_rfl) (by kernel_rfl) (fun _ _ _ h => h) (Or.inl ⟨by rfl, ?hy21⟩) (by assumption) ?rest21
          case hy21 => (intro _ hSw; (try dsimp only at hSw); go_simp; (try with_reducible rfl))
          (try simp only [Act.put]); (try simp only [List.setIfInBounds_toArray]); (try simp only [List.set_cons_succ]); (try simp only [List.set_cons_zero])
          refine wpAnyH_take (i := 3) (v := ?v22) rfl (by kernel_rfl) (by kernel_rfl) (by kernel_rfl) (fun _ _ _ h => h) (Or.inl ⟨by rfl, ?hy22⟩) (by assumption) ?rest22
          case hy22 => (intro _ hSw; (try dsimp only at hSw); go_simp; (try with_reducible rfl))
          (try simp only [Act.put]); (try simp only [List.setIfInBounds_toArray]); (try simp only [List.set_cons_succ]); (try simp only [List.set_cons_zero])
          refine wpAnyH_take (i := 4) (v := ?v23) rfl (by kernel_rfl) (by kernel_rfl) (by kernel_rfl) (fun _ _ _ h => h) (Or.inl ⟨by rfl, ?hy23⟩) (by assumption) ?rest23
          case hy23 => (intro _ hSw; (try dsimp only at hSw); go_simp; (try with_reducible rfl))
          (try simp only [Act.put]); (try simp only [List.setIfInBounds_toArray]); (try simp only [List.set_cons_succ]); (try simp only [List.set_cons_zero])
          refine wpAnyH_take (i := 5) (v := ?v24) rfl (by kernel_rfl) (by kernel_rfl) (by kernel_rfl) (fun _ _ _ h => h) (Or.inl ⟨by rfl, ?hy24⟩) (by assumption) ?rest24
          case hy24 => (intro _ hSw; (try dsimp only at hSw); go_simp; (try with_reducible rfl))
          (try simp only [Act.put]); (try simp only [List.setIfInBounds_toArray]); (try simp only [List.set_cons_succ]); (try simp only [List.set_cons_zero])
          refine wpAnyH_ready (rs := [6]) (by kernel_rfl) (by simp) ?_
          refine (AllReadyH.cons rfl (fun K hK => ?_) AllReadyH.nil)
          (try simp only [List.getElem_toArray]); (try simp only [List.getElem_cons_succ]); (try simp only [List.getElem_cons_zero])
          go_simp
          obtain ⟨w5, hw5⟩ : ∃ w5, w5 = (w3.alloc (.cells #[.pointer none] 66)).drew := ⟨_, rfl⟩
          obtain ⟨z, hz⟩ : ∃ z, z = w3.heap.size := ⟨_, rfl⟩
          have hb5 : Below w3.heap.size w3 w5 := by rw [hw5]; exact below_ad _ _
          have HZB : Hid (Blk w5 z [.pointer none] 66) := Lib.hid (by rw [hw5, hz]; exact (Blk.made w3 [.pointer none] 66).kept (below_drewN 1))
          have HZ : Hid (w3.heap.size ≤ z) := Lib.hid (by rw [hz]; exact Nat.le_refl _)
          have HB5 := Lib.hid hb5
          rw [← hw5, ← hz]
          refine hK.out _ _ (HSS.out _ hb5) (fun hS1 => ?_)
          clear hw5 hz hb5 hK K hS1
          (try simp only [Act.put]); (try simp only [List.setIfInBounds_toArray]); (try simp only [List.set_cons_succ]); (try simp only [List.set_cons_zero])
          refine wpAnyH_done (by kernel_rfl) ?_ _
          refine LastQ.start rfl ?_
          clear hHeld
          have d0 := HZB.out.cell (j := 0) rfl
          have f0 := HZB.out.free 0
          go_wp2
          refine NoPanic.normal ?_
          have HWS : Hid (Below w3.heap.size w3 (w5.setCell ⟨z, 0, none⟩ (ptr p.a))) := Lib.hid (HB5.out.setCell (p := ⟨z, 0, none⟩) HZ.out _)
          obtain ⟨w6, hw6⟩ : ∃ w6, w6 = w5.setCell ⟨z, 0, none⟩ (ptr p.a) := ⟨_, rfl⟩
          have HBX : Hid (Blk w6 z [ptr p.a] 66) := Lib.hid (by rw [hw6]; exact HZB.out.set 0 _)
          rw [← hw6] at HWS
          have h6 := HWS.out
          have HZW : Hid (z < w6.heap.size) := Lib.hid HBX.out.lt
          have e0 := HBX.out.cell (j := 0) rfl
          rw [← hw6]
          clear hw6 d0 f0
          have hba := below_and HB3.out h6
          have HBA := Lib.hid hba
          have H7 := Lib.hid (H2.out.kept hba)
          clear h6 hba
          have c0 := (HB0.out.kept HBA.out).cell (j := 0) rfl
          have c1 := (HB1.out.kept HBA.out).cell (j := 0) rfl
          have c2 := (HB2.out.kept HBA.out).cell (j := 0) rfl
          go_wp2_with (go_at_call 34; refine (step_dead H7.out HMY.out _).mono ?_; rintro e w7 ⟨rfl, hd⟩; have HD7 := Lib.hid hd; clear hd)
          go_ret
          rw [HF.out]
          exact ⟨rfl, HD7.out.box (below_and HBB.out HBA.out)⟩
  · have HA := Lib.hid (asked_any b mb D L [s, t] _ _ (h2.kept (below_alloc w2 (.cells #[.string s, .string t] 9))) (row2 w2 s t 9) hst)
    have HF : Hid (D.rename s t = (D.ask [s, t], D)) := Lib.hid (by unfold Dk.rename; rw [if_pos ha])
    obtain ⟨q, hq⟩ : ∃ q, q = D.ask [s, t] := ⟨_, rfl⟩
    rw [← hq] at ha HA HF
    have q0 : (q != 0) = true := by simpa using ha
    clear h h2 hi hM hN hs ht ha hq B0 B1 B2 hb2 hst
    go_enter Try.func19, Try.ntmps19
    go_upto_region 1 with fail
    rw [← hw2, ← hB]
    clear hw2 hB
    go_wp2_with (go_at_call 33; refine HA.out.mono ?_; rintro e w3 ⟨rfl, hb⟩; have hb3 := below_and (below_alloc w2 (.cells #[.string s, .string t] 9)) hb; have HB3 := Lib.hid hb3; clear hb hb3)
    go_ret
    rw [HF.out]
    exact ⟨rfl, DkTo.same H.out (below_and HBB.out HB3.out)⟩
end
end Go.Proofs.Ytgcemddobcjpnaa
namespace Go.Proofs.Ytgcemddobcjpnaa
open Go.RowKit

theorem rd_frp {Q : Nat → Prop} {w w' : World} {v : Value} {l : List UInt8} (h : Rd w v l) (hf : Frp Q w w') (hg : ∀ g, v.ownBlock = some g → ¬ Q g) : Rd w' v l := by
  obtain ⟨p, c, hv, h1, h2, h3, h4, h5, h6⟩ := h
  refine ⟨p, c, hv, h1, h2, h3, h4, h5, ?_⟩
  rcases h6 with h6 | ⟨b, o, hp, ha⟩
  · exact .inl h6
  · exact .inr ⟨b, o, hp, fun j u hj => cell_frp (ha j u hj) hf (hg b (by rw [hv, hp]; rfl))⟩
theorem rd_blk {w : World} {v : Value} {l : List UInt8} (h : Rd w v l) (hne : l ≠ []) : ∃ g, v.ownBlock = some g ∧ g < w.heap.size := by
  obtain ⟨p, c, rfl, -, -, h3⟩ := h.parts
  rcases h3 with h3 | ⟨b, o, rfl, h4⟩
  · exact absurd h3 hne
  · have hl : 0 < l.length := by
      have : l.length ≠ 0 := fun e => hne (List.eq_nil_of_length_eq_zero e)
      omega
    exact ⟨b, rfl, World.block_lt_of_cell? w _ (h4 0 hl)⟩
/-- the rest of a slice -/
theorem cutP_block {p : Option Addr} {n c k m d : Nat} {g : Nat} (h : (Value.slice (cutP p c k) m d).ownBlock = some g) : (Value.slice p n c).ownBlock = some g := by
  unfold cutP at h
  split at h
  · cases p <;> exact h
  · cases p with
    | none => simp [Value.ownBlock] at h
    | some a =>
      obtain ⟨b, o, s⟩ := a
      have e : ((⟨b, o, s⟩ : Addr).add k).block = b := by unfold Addr.add; split <;> rfl
      have h2 : some ((⟨b, o, s⟩ : Addr).add k).block = some g := h
      rw [e] at h2
      exact h2
theorem more_nil (n : Nat) (D : Dk) (f : Fl) : Dk.more n D f [] = (0, D) := by cases n <;> simp [Dk.more]
theorem more_yes {n : Nat} {D : Dk} {f : Fl} {l : List UInt8} (hl : l ≠ []) (hm : D.may = true) : Dk.more (n + 1) D f l = Dk.more n (D.stepped.addB f (l.take 64)) { f with b := f.b ++ l.take 64 } (l.drop 64) := by
  show (if l = [] then _ else _) = _
  rw [if_neg hl, if_pos hm]
theorem more_no {n : Nat} {D : Dk} {f : Fl} {l : List UInt8} (hl : l ≠ []) (hm : D.may = false) : Dk.more (n + 1) D f l = (10, D.dead) := by
  show (if l = [] then _ else _) = _
  rw [if_neg hl, if_neg (by rw [hm]; simp)]

/-- how long what is left is, as the box tells -/
def restLen (w : World) (B : Nat) : Nat := match w.cell? ⟨B, 0, none⟩ with
  | some (.slice _ n _) => n
  | _ => 0
theorem rest_of {w : World} {B : Nat} {q : Option Addr} {n c : Nat} {t : TypeId} (h : Blk w B [.slice q n c] t) : restLen w B = n := by
  unfold restLen
  rw [h.cell (j := 0) rfl]
/-- between two rounds -/
structure ApR (b mb : Nat) (M : Nat) (N : Int) (L : List Pf) (X : Int × Dk) (B F : Nat) (w0 w : World) (n : Nat) (D : Dk) (L' : List Pf) (p : Pf) (q : Option Addr) (c : Nat) (l : List UInt8) : Prop where
  pd : PDk w b mb D L'
  inv : DkI D M (N - l.length)
  fits : Dk.bytes D.F + (l.length : Int) ≤ D.room
  find : kfnd Pf.key L' p.key = some p
  fuel : l.length < n
  eq : Dk.more n D p.f l = X
  rd : Rd w (.slice q l.length c) l
  box : Blk w B [.slice q l.length c] 29
  fbox : Blk w F [ptr p.a] 66
  st : DSt w0 w b mb L L'
  ap : ∀ g, fpP b mb L' g → g ≠ B ∧ g ≠ F ∧ (l ≠ [] → (Value.slice q l.length c).ownBlock ≠ some g)
  rdb : l ≠ [] → (Value.slice q l.length c).ownBlock ≠ some B
  lo : w0.heap.size ≤ B
theorem ApR.kept {b mb M : Nat} {N : Int} {L : List Pf} {X : Int × Dk} {B F : Nat} {w0 w w' : World} {n : Nat} {D : Dk} {L' : List Pf} {p : Pf} {q : Option Addr} {c : Nat} {l : List UInt8} (h : ApR b mb M N L X B F w0 w n D L' p q c l) (hb : Below w.heap.size w w') : ApR b mb M N L X B F w0 w' n D L' p q c l :=
  ⟨h.pd.kept hb, h.inv, h.fits, h.find, h.fuel, h.eq, h.rd.below hb, h.box.kept hb, h.fbox.kept hb, h.st.trans (DSt.of_below hb), h.ap, h.rdb, h.lo⟩
/-- behind a step -/
theorem ApR.next {b mb M : Nat} {N : Int} {L : List Pf} {X : Int × Dk} {B F : Nat} {w0 w w' : World} {n : Nat} {D : Dk} {L' : List Pf} {p : Pf} {q : Option Addr} {c : Nat} {l : List UInt8} (h : ApR b mb M N L X B F w0 w (n + 1) D L' p q c l) (hne : l ≠ []) (hm : D.may = true) {v' : Value}
    (hpd : PDk w' b mb (D.stepped.addB p.f (l.take 64)) (kput Pf.key L' ⟨{ p.f with b := p.f.b ++ l.take 64 }, p.a, v'⟩)) (hst : DSt w w' b mb L' (kput Pf.key L' ⟨{ p.f with b := p.f.b ++ l.take 64 }, p.a, v'⟩)) :
    ApR b mb M N L X B F w0 (w'.setCell ⟨B, 0, none⟩ (.slice (cutP q c (min l.length 64)) (l.length - min l.length 64) (c - min l.length 64))) n (D.stepped.addB p.f (l.take 64)) (kput Pf.key L' ⟨{ p.f with b := p.f.b ++ l.take 64 }, p.a, v'⟩) ⟨{ p.f with b := p.f.b ++ l.take 64 }, p.a, v'⟩ (cutP q c (min l.length 64)) (c - min l.length 64) (l.drop 64) := by
  have hfk : kfnd Fl.key D.stepped.F p.f.key = some p.f := by
    have := h.pd.find p.f.key
    have h2 : kfnd Pf.key L' p.f.key = some p := h.find
    rw [h2] at this
    exact this
  have hpos : 1 ≤ (l.take 64).length := by
    have : l.length ≠ 0 := fun e => hne (List.eq_nil_of_length_eq_zero e)
    rw [List.length_take]; omega
  have hlt : (l.take 64).length + (l.drop 64).length = l.length := by rw [List.length_take, List.length_drop]; omega
  have hs := h.inv.stepped hm
  have hfit : Dk.bytes D.F + ((l.take 64).length : Int) ≤ D.room := by have := h.fits; omega
  have hapn : ∀ g, fpP b mb (kput Pf.key L' ⟨{ p.f with b := p.f.b ++ l.take 64 }, p.a, v'⟩) g → g ≠ B ∧ g ≠ F ∧ (Value.slice q l.length c).ownBlock ≠ some g := fun g hg => by
    rcases hst.new g hg with h1 | h1
    · exact ⟨(h.ap g h1).1, (h.ap g h1).2.1, (h.ap g h1).2.2 hne⟩
    · have h2 := h.box.lt
      have h3 := h.fbox.lt
      refine ⟨by omega, by omega, fun e => ?_⟩
      obtain ⟨g2, e2, h4⟩ := rd_blk h.rd hne
      rw [e] at e2
      cases e2
      omega
  have hfrB : Frp (fun k => k = B) w' (w'.setCell ⟨B, 0, none⟩ (.slice (cutP q c (min l.length 64)) (l.length - min l.length 64) (c - min l.length 64))) := (Frp.refl (fun k => k = B) w').set (p := ⟨B, 0, none⟩) rfl _
  have hmin : min l.length 64 ≤ l.length := Nat.min_le_left _ _
  have hdl : (l.drop 64).length = l.length - min l.length 64 := by rw [List.length_drop]; omega
  have hdr : l.drop (min l.length 64) = l.drop 64 := by
    rcases Nat.le_total l.length 64 with h1 | h1
    · rw [Nat.min_eq_left h1, List.drop_length, List.drop_of_length_le h1]
    · rw [Nat.min_eq_right h1]
  have hrd : Rd w' (.slice q l.length c) l := rd_frp h.rd hst.fr (fun g hg hq => (h.ap g hq).2.2 hne hg)
  have hbox := h.box.frp hst.fr (fun hq => (h.ap B hq).1 rfl)
  have hfbox := h.fbox.frp hst.fr (fun hq => (h.ap F hq).2.1 rfl)
  have hBF : F ≠ B := fun e => by
    have h1 := h.fbox
    rw [e] at h1
    exact absurd (blk_ty h1 h.box) (by decide)
  refine ⟨hpd.frp hfrB (fun k hk => (hapn k hk).1), ?_, ?_, ?_, ?_, ?_, ?_, ?_, ?_, ?_, ?_, ?_, ?_⟩
  · have := hs.addB (f := p.f) hfk (l.take 64) hfit
    exact this.mono (Nat.le_refl _) (by omega)
  · rw [bytes_addB hs (f := p.f) hfk]
    show Dk.bytes D.F + _ + _ ≤ D.room
    have := h.fits
    omega
  · exact kfnd_of (key := Pf.key) ((hpd.rise ((hs.addB (f := p.f) hfk (l.take 64) hfit).rise)).apart) (e := ⟨{ p.f with b := p.f.b ++ l.take 64 }, p.a, v'⟩) ((kput_mem L' _ _).2 (.inl rfl))
  · have := h.fuel
    omega
  · rw [← h.eq, more_yes hne hm]
  · have := rd_cut hrd hmin
    rw [hdr] at this
    rw [hdl]
    exact rd_frp this hfrB (fun g hg e => h.rdb hne (by rw [← e]; exact cutP_block hg))
  · rw [hdl]
    exact hbox.set 0 _
  · exact hfbox.frp hfrB hBF
  · have h2 := h.st.trans hst
    exact ⟨h2.fr.trans hfrB (fun x hx => .inr (by rw [hx]; exact h.lo)), h2.new⟩
  · intro g hg
    have := hapn g hg
    exact ⟨this.1, this.2.1, fun _ e => this.2.2 (cutP_block e)⟩
  · intro _ e
    exact h.rdb hne (cutP_block e)
  · exact h.lo

section
variable (b mb : Nat) (D : Dk) (L : List Pf) (M : Nat) (N : Int) (s : ByteArray) (v : Value) (l : List UInt8) (w : World) (h : PDk w b mb D L) (hi : DkI D M N) (hN : N + l.length < 4611686018427387904) (hs : s.size ≤ maxLen) (hrd : Rd w v l) (hap : l ≠ [] → ∀ g, fpP b mb L g → v.ownBlock ≠ some g)
include h hs hrd
set_option maxRecDepth 100000 in
set_option maxHeartbeats 2000000 in
theorem append_no (hno : D.ask [s] = 0 → D.get s = none) : Calls Try.prog 11 #[ptr b, .string s, v] w fun e w' => e = .returned (.int .i64 (D.append s l).1) ∧ DkTo w w' b mb L (D.append s l).2 := by
  obtain ⟨q, c, rfl, -, -, -⟩ := hrd.parts
  have H := Lib.hid h
  have hb1 := below_alloc w (.cells #[.slice q l.length c] 29)
  have h1 := h.kept hb1
  have HB1 := Lib.hid hb1
  by_cases ha : D.ask [s] = 0
  · have hg := hno ha
    have hp : kfnd Pf.key L s.data.toList = none := by
      cases hq : kfnd Pf.key L s.data.toList with
      | none => rfl
      | some p => rw [h.get_some hq] at hg; cases hg
    have HF : Hid (D.append s l = (6, D)) := Lib.hid (by unfold Dk.append; rw [if_neg (by rw [ha]; simp), hg])
    have HFI := Lib.hid (find_no b mb D L s _ h1 hs ha hp)
    clear h h1 hs ha hp hg hno hrd hb1
    go_enter Try.func11, Try.ntmps11
    go_wp2_with (go_at_call 36; refine HFI.out.mono ?_; rintro e w3 ⟨rfl, hb⟩; have HB3 := Lib.hid (below_and HB1.out hb); clear hb)
    go_ret
    rw [HF.out]
    exact ⟨rfl, DkTo.same H.out (below_and HB3.out (below_alloc _ _))⟩
  · have HF : Hid (D.append s l = (D.ask [s], D)) := Lib.hid (by unfold Dk.append; rw [if_pos ha])
    have HFI := Lib.hid (find_bad b mb D L s _ h1 hs ha)
    obtain ⟨q, hq⟩ : ∃ q, q = D.ask [s] := ⟨_, rfl⟩
    rw [← hq] at ha HF HFI
    have q0 : (q != 0) = true := by simpa using ha
    clear h h1 hs ha hq hno hrd hb1
    go_enter Try.func11, Try.ntmps11
    go_wp2_with (go_at_call 36; refine HFI.out.mono ?_; rintro e w3 ⟨rfl, hb⟩; have HB3 := Lib.hid (below_and HB1.out hb); clear hb)
    go_ret
    rw [HF.out]
    exact ⟨rfl, DkTo.same H.out (below_and HB3.out (below_alloc _ _))⟩
include hi
set_option maxRecDepth 100000 in
set_option maxHeartbeats 4000000 in
theorem append_full (ha : D.ask [s] = 0) (p : Pf) (hp : kfnd Pf.key L s.data.toList = some p) (hl : D.left < (l.length : Int)) : Calls Try.prog 11 #[ptr b, .string s, v] w fun e w' => e = .returned (.int .i64 8) ∧ DkTo w w' b mb L D := by
  obtain ⟨q, c, rfl, -, -, -⟩ := hrd.parts
  have H := Lib.hid h
  have hb1 := below_alloc w (.cells #[.slice q l.length c] 29)
  have h1 := h.kept hb1
  have HB1 := Lib.hid hb1
  have HX := Lib.hid (Blk.made w [.slice q l.length c] 29)
  have HI := Lib.hid hi
  have HFI := Lib.hid (find_yes b mb D L s _ h1 hs ha p hp)
  have i1 : decide (D.left < (l.length : Int)) = true := by simpa using hl
  clear h h1 hi hs ha hp hrd hb1
  go_enter Try.func11, Try.ntmps11
  go_upto_region 4 with (go_at_call 36; refine HFI.out.mono ?_; rintro e w3 ⟨rfl, hb⟩; have hb3 := below_and HB1.out hb; have HB3 := Lib.hid (below_and hb3 (below_alloc w3 (.cells #[ptr p.a] 66))); have HX3 := Lib.hid ((HX.out.kept hb).kept (below_alloc w3 (.cells #[ptr p.a] 66))); clear hb hb3)
  have q0 := Past.blk HX3.out (j := 0) rfl
  refine wp_region_past (by kernel_rfl) (by kernel_rfl) ?_
  repeat (go_big_quiet_step ((go_at_call 37; exact past_call (left_any b mb D L M N _ ((H.out.kept HB3.out).kept (Past.h _)) HI.out))))
  refine wpQuiet_nil ?_
  intro _ hw'
  obtain ⟨s', hw''⟩ := hw'
  subst hw''
  have HB6 := Lib.hid (below_and HB3.out s'.h)
  clear q0
  go_wp2
  go_ret
  exact ⟨rfl, DkTo.same H.out HB6.out⟩
include hN hap
set_option maxRecDepth 100000 in
set_option maxHeartbeats 4000000 in
theorem append_go (ha : D.ask [s] = 0) (p : Pf) (hp : kfnd Pf.key L s.data.toList = some p) (hl : ¬ D.left < (l.length : Int)) : Calls Try.prog 11 #[ptr b, .string s, v] w fun e w' => e = .returned (.int .i64 (Dk.more (l.length + 1) D p.f l).1) ∧ DkTo w w' b mb L (Dk.more (l.length + 1) D p.f l).2 := by
  obtain ⟨q, c, rfl, -, -, -⟩ := hrd.parts
  have H := Lib.hid h
  have hb1 := below_alloc w (.cells #[.slice q l.length c] 29)
  have h1 := h.kept hb1
  have HB1 := Lib.hid hb1
  have HX := Lib.hid (Blk.made w [.slice q l.length c] 29)
  have HI := Lib.hid hi
  have HN := Lib.hid hN
  have HFI := Lib.hid (find_yes b mb D L s _ h1 hs ha p hp)
  have i1 : decide (D.left < (l.length : Int)) = false := by simpa using hl
  obtain ⟨hmem, hkey⟩ := kfnd_mem hp
  obtain ⟨X, hX⟩ : ∃ X, X = Dk.more (l.length + 1) D p.f l := ⟨_, rfl⟩
  rw [← hX]
  have HAR : Hid (∀ w4 F, Below w.heap.size w w4 → Blk w4 w.heap.size [.slice q l.length c] 29 → Blk w4 F [ptr p.a] 66 → w.heap.size < F → ApR b mb M (N + l.length) L X w.heap.size F w w4 (l.length + 1) D L p q c l) := Lib.hid (fun w4 F hb hbx hfx hF => by
    refine ⟨h.kept hb, hi.mono (Nat.le_refl _) (by omega), ?_, by rw [hkey]; exact hp, by omega, hX.symm, hrd.below hb, hbx, hfx, DSt.of_below hb, fun g hg => ?_, fun hne e => ?_, Nat.le_refl _⟩
    · unfold Dk.left at hl; omega
    · have := h.lt hg
      exact ⟨by omega, by omega, fun hne => hap hne g hg⟩
    · obtain ⟨g, e1, e2⟩ := rd_blk hrd hne
      rw [e] at e1
      cases e1
      exact absurd e2 (Nat.lt_irrefl _))
  clear h h1 hi hs ha hp hrd hb1 hap hmem hkey hX hl hN
  go_enter Try.func11, Try.ntmps11
  go_upto_region 4 with (go_at_call 36; refine HFI.out.mono ?_; rintro e w3 ⟨rfl, hb⟩; have hb3 := below_and HB1.out hb; have HB3 := Lib.hid (below_and hb3 (below_alloc w3 (.cells #[ptr p.a] 66))); have HX3 := Lib.hid ((HX.out.kept hb).kept (below_alloc w3 (.cells #[ptr p.a] 66))); have HF3 := Lib.hid (Blk.made w3 [ptr p.a] 66); have HSZ : Hid (w.heap.size < w3.heap.size) := Lib.hid (by have h5 := hb.size; simp at h5; omega); clear hb hb3)
  have q0 := Past.blk HX3.out (j := 0) rfl
  refine wp_region_past (by kernel_rfl) (by kernel_rfl) ?_
  repeat (go_big_quiet_step ((go_at_call 37; exact past_call (left_any b mb D L M N _ ((H.out.kept HB3.out).kept (Past.h _)) HI.out))))
  refine wpQuiet_nil ?_
  intro _ hw'
  obtain ⟨s', hw''⟩ := hw'
  subst hw''
  obtain ⟨w6, h6, e6⟩ : ∃ w6, Below (w3.alloc (.cells #[ptr p.a] 66)).heap.size (w3.alloc (.cells #[ptr p.a] 66)) w6 ∧ w6 = s'.val := ⟨_, s'.h, rfl⟩
  rw [← e6]
  have HAP := Lib.hid (HAR.out w6 w3.heap.size (below_and HB3.out h6) (HX3.out.kept h6) (HF3.out.kept h6) HSZ.out)
  obtain ⟨F, hF⟩ : ∃ F, F = w3.heap.size := ⟨_, rfl⟩
  obtain ⟨B, hB⟩ : ∃ B, B = w.heap.size := ⟨_, rfl⟩
  rw [← hF, ← hB] at HAP
  rw [← hF, ← hB]
  clear q0 h6 e6 HAR hF hB HX3 HF3 HB3 i1
  go_wp2
  go_loopw [10] (fun _ wr => ∃ (n : Nat) (D' : Dk) (L' : List Pf) (p' : Pf) (q' : Option Addr) (c' : Nat) (l' : List UInt8), Hid (ApR b mb M (N + l.length) L X B F w wr n D' L' p' q' c' l') ∧ n ≤ l.length + 1) (fun _ wr => restLen wr B)
  case atStart => exact ⟨_, _, _, _, _, _, _, HAP, Nat.le_refl _⟩
  case round =>
    obtain ⟨n, D', L', p', q', c', l', HR, hn⟩ := hrel
    have x0 := HR.out.box.cell (j := 0) rfl
    by_cases hne : l' = []
    · subst hne
      have HE : Hid (X = (0, D')) := Lib.hid (by rw [← HR.out.eq, more_nil])
      go_wp2
      go_ret
      rw [HE.out]
      exact ⟨rfl, L', HR.out.pd, HR.out.st⟩
    · have HNE := Lib.hid hne
      have hpos : 0 < l'.length := by
        have : l'.length ≠ 0 := fun e => hne (List.eq_nil_of_length_eq_zero e)
        omega
      have i2 : (0 : Int) < (l'.length : Int) := by omega
      obtain ⟨n, rfl⟩ : ∃ n', n = n' + 1 := ⟨n - 1, by have := HR.out.fuel; omega⟩
      obtain ⟨k, hk⟩ : ∃ k, k = min l'.length 64 := ⟨_, rfl⟩
      have hmn : min (l'.length : Int) 64 = (k : Int) := by omega
      have k1 : k ≤ l'.length := by omega
      have k2 : k ≤ 64 := by omega
      have htk : l'.take k = l'.take 64 := by
        rw [hk]
        rcases Nat.le_total l'.length 64 with h1 | h1
        · rw [Nat.min_eq_left h1, List.take_length, List.take_of_length_le h1]
        · rw [Nat.min_eq_right h1]
      have HK := Lib.hid hk
      have HTK := Lib.hid htk
      have HW5 := Lib.hid (HR.out.kept (below_alloc wr (.cells #[.int .i64 (k : Int)] 3)))
      have HBN := Lib.hid (Blk.made wr [.int .i64 (k : Int)] 3)
      have HLTW : Hid (∀ g, fpP b mb L' g → g < wr.heap.size) := Lib.hid (fun g hg => HR.out.pd.lt hg)
      have HNB : Hid (N + (l.length : Int) - (l'.length : Int) < 4611686018427387904) := Lib.hid (by have := HN.out; omega)
      clear hne hk htk
      rcases may_cases D' with hm | hm
      · have HMY := Lib.hid hm
        have HEG := Lib.hid (Go.Proofs.enters_of Try.func38 (by kernel_rfl) rfl)
        have HST : Hid (∀ w5, ApR b mb M (N + l.length) L X B F w w5 (n + 1) D' L' p' q' c' l' → Blk w5 wr.heap.size [.int .i64 (k : Int)] 3 →
            Calls Try.prog 34 #[ptr b, .func (.func 38) #[] #[ptr F, ptr B, ptr wr.heap.size]] w5 fun e w' => e = .returned (.int .i64 0) ∧ ∃ v', PDk w' b mb (D'.stepped.addB p'.f (l'.take 64)) (kput Pf.key L' ⟨{ p'.f with b := p'.f.b ++ l'.take 64 }, p'.a, v'⟩) ∧ DSt w5 w' b mb L' (kput Pf.key L' ⟨{ p'.f with b := p'.f.b ++ l'.take 64 }, p'.a, v'⟩)) := Lib.hid (fun w5 hw5 hbn => by
          refine step_yes b mb D' L' M _ w5 hw5.pd hw5.inv HNB.out HMY.out _ _ (fun w' => ∃ v', PDk w' b mb (D'.stepped.addB p'.f (l'.take 64)) (kput Pf.key L' ⟨{ p'.f with b := p'.f.b ++ l'.take 64 }, p'.a, v'⟩) ∧ DSt w5 w' b mb L' (kput Pf.key L' ⟨{ p'.f with b := p'.f.b ++ l'.take 64 }, p'.a, v'⟩)) HEG.out (fun w1 h1 hf => ?_)
          have hmem : p'.f ∈ D'.F := by rw [← hw5.pd.eq]; exact List.mem_map_of_mem (kfnd_mem hw5.find).1
          have hone : (p'.f.b.length : Int) ≤ D'.room := hw5.inv.one_le hmem
          have hroom := hw5.inv.room
          have hap := hw5.ap
          have hbb := hap b (.inl rfl)
          have hblt := HLTW.out b (.inl rfl)
          have := append1 b mb F B wr.heap.size D'.stepped L' p' q' c' k l' w1 h1 hw5.inv.rise hw5.find (by omega) k1 k2 (rd_frp hw5.rd hf (fun g hg e => hbb.2.2 HNE.out (by rw [hg, e])))
            (cell_frp (hw5.fbox.cell (j := 0) rfl) hf (fun e => hbb.2.1 e.symm)) (cell_frp (hw5.box.cell (j := 0) rfl) hf (fun e => hbb.1 e.symm)) (cell_frp (hbn.cell (j := 0) rfl) hf (fun e => by simp only at e; omega)) (fun g hg => ⟨(hap g hg).2.1, (hap g hg).1, by have := HLTW.out g hg; omega⟩)
          rw [HTK.out] at this
          exact this.mono fun _ _ ⟨he, v', h2, h3⟩ => ⟨he, v', h2, h3.sub hf⟩)
        clear hm
        go_wp2_with (go_at_call 34; refine (HST.out _ HW5.out HBN.out).mono ?_; rintro e w7 ⟨rfl, v7, hpd, hst⟩; have HNX := Lib.hid (HW5.out.next HNE.out HMY.out hpd hst); have c7 := (HW5.out.box.frp hst.fr (fun hq => (HW5.out.ap B hq).1 rfl)).cell (j := 0) rfl; have f7 := (HW5.out.box.frp hst.fr (fun hq => (HW5.out.ap B hq).1 rfl)).free 0; have n7 := (HBN.out.frp hst.fr (fun hq => absurd (HLTW.out _ hq) (Nat.lt_irrefl _))).cell (j := 0) rfl; clear hpd hst)
        have hnx := HNX.out
        rw [← HK.out] at hnx
        have hbx := hnx.box
        refine ⟨⟨n, _, _, _, _, _, _, Lib.hid hnx, by omega⟩, ?_⟩
        have e1 := rest_of hbx
        have e2 := rest_of HR.out.box
        unfold cutP at e1
        rw [e1, e2, List.length_drop]
        omega
      · have HMY := Lib.hid hm
        have HE : Hid (X = (10, D'.dead)) := Lib.hid (by rw [← HR.out.eq, more_no HNE.out hm])
        clear hm
        go_wp2_with (go_at_call 34; refine (step_dead HW5.out.pd HMY.out _).mono ?_; rintro e w7 ⟨rfl, hd⟩; have HD7 := Lib.hid hd; clear hd)
        go_ret
        rw [HE.out]
        obtain ⟨L2, h1, h2⟩ := HD7.out
        exact ⟨rfl, L2, h1, HW5.out.st.trans h2⟩
theorem append_any : Calls Try.prog 11 #[ptr b, .string s, v] w fun e w' => e = .returned (.int .i64 (D.append s l).1) ∧ DkTo w w' b mb L (D.append s l).2 := by
  by_cases ha : D.ask [s] = 0
  · cases hp : kfnd Pf.key L s.data.toList with
    | none => exact append_no b mb D L s v l w h hs hrd (fun _ => h.get_none hp)
    | some p =>
      by_cases hl : D.left < (l.length : Int)
      · have e : D.append s l = (8, D) := by unfold Dk.append; rw [if_neg (by rw [ha]; simp), h.get_some hp]; simp only; rw [if_pos hl]
        rw [e]
        exact append_full b mb D L M N s v l w h hi hs hrd ha p hp hl
      · have e : D.append s l = Dk.more (l.length + 1) D p.f l := by unfold Dk.append; rw [if_neg (by rw [ha]; simp), h.get_some hp]; simp only; rw [if_neg hl]
        rw [e]
        exact append_go b mb D L M N s v l w h hi hN hs hrd hap ha p hp hl
  · exact append_no b mb D L s v l w h hs hrd (fun h0 => absurd h0 ha)
end
end Go.Proofs.Ytgcemddobcjpnaa
namespace Go.Proofs.Ytgcemddobcjpnaa
open Go.RowKit

theorem xor_u8 (x y : UInt8) : bits .xor .u8 (x.toNat : Int) (y.toNat : Int) = ((x ^^^ y).toNat : Int) := by
  have h1 := x.toNat_lt
  have h2 := y.toNat_lt
  have h4 : x.toNat ^^^ y.toNat < 2 ^ 8 := Nat.xor_lt_two_pow (by omega) (by omega)
  rw [UInt8.toNat_xor]
  have e1 : (BitVec.ofInt 8 (x.toNat : Int)).toNat = x.toNat := by
    rw [BitVec.ofInt_natCast, BitVec.toNat_ofNat]; exact Nat.mod_eq_of_lt (by omega)
  have e2 : (BitVec.ofInt 8 (y.toNat : Int)).toNat = y.toNat := by
    rw [BitVec.ofInt_natCast, BitVec.toNat_ofNat]; exact Nat.mod_eq_of_lt (by omega)
  show IntKind.u8.wrap ((BitVec.ofInt 8 (x.toNat : Int) ^^^ BitVec.ofInt 8 (y.toNat : Int)).toNat : Int) = _
  rw [BitVec.toNat_xor, e1, e2, IntKind.wrap_u8]
  omega
theorem modify_set {l : List UInt8} {j : Nat} (h : j < l.length) (f : UInt8 → UInt8) : l.modify j f = l.set j (f l[j]) := by
  apply List.ext_getElem?
  intro i
  rw [List.getElem?_modify, List.getElem?_set]
  by_cases e : j = i
  · subst e
    simp [h]
  · simp [e]

theorem turn_none {D : Dk} {s : ByteArray} {k : Int} {c : UInt8} (hn : nameB s = true) (hg : D.get s = none) : D.turn s k c = (6, D) := by unfold Dk.turn; rw [if_pos hn, hg]
theorem turn_out {D : Dk} {s : ByteArray} {k : Int} {c : UInt8} {f : Fl} (hn : nameB s = true) (hg : D.get s = some f) (h : ¬ (0 ≤ k ∧ k < (f.b.length : Int))) : D.turn s k c = (6, D) := by unfold Dk.turn; rw [if_pos hn, hg]; simp only; rw [if_neg h]
theorem turn_in {D : Dk} {s : ByteArray} {k : Int} {c : UInt8} {f : Fl} (hn : nameB s = true) (hg : D.get s = some f) (h : 0 ≤ k ∧ k < (f.b.length : Int)) : D.turn s k c = (0, D.put (Dk.turned f k.toNat c)) := by unfold Dk.turn; rw [if_pos hn, hg]; simp only; rw [if_pos h]

section
variable (b mb : Nat) (D : Dk) (L : List Pf) (M : Nat) (N : Int) (s : ByteArray) (k : Int) (c : UInt8) (w : World) (h : PDk w b mb D L) (hi : DkI D M N) (hs : s.size ≤ maxLen)
include h hi hs
set_option maxRecDepth 100000 in
set_option maxHeartbeats 2000000 in
theorem turn_any : Calls Try.prog 22 #[ptr b, .string s, .int .i64 k, .int .u8 (c.toNat : Int)] w fun e w' => e = .returned (.int .i64 (D.turn s k c).1) ∧ DkTo w w' b mb L (D.turn s k c).2 := by
  have H := Lib.hid h
  cases hn : nameB s
  · have HF : Hid (D.turn s k c = (2, D)) := Lib.hid (by unfold Dk.turn; rw [if_neg (by rw [hn]; simp)])
    have HNM : Hid (∀ w : World, Calls Try.prog 45 #[.string s] w fun e w' => e = .returned (.bool false) ∧ Below w.heap.size w w') := Lib.hid (fun w => by have := named_any s w hs; rwa [hn] at this)
    clear h hi hs hn
    go_enter Try.func22, Try.ntmps22
    go_wp2_with (first
      | (go_at_call 40; refine (none_made b mb D L _ H.out).mono ?_; rintro e w' ⟨rfl, rfl⟩)
      | (go_at_call 45; refine (HNM.out _).mono ?_; rintro e w3 ⟨rfl, hb⟩; have HB3 := Lib.hid hb; clear hb))
    go_ret
    rw [HF.out]
    exact ⟨rfl, DkTo.same H.out HB3.out⟩
  · have HNM : Hid (∀ w : World, Calls Try.prog 45 #[.string s] w fun e w' => e = .returned (.bool true) ∧ Below w.heap.size w w') := Lib.hid (fun w => by have := named_any s w hs; rwa [hn] at this)
    have HS := Lib.hid hs
    cases hp : kfnd Pf.key L s.data.toList with
    | none =>
      have HF : Hid (D.turn s k c = (6, D)) := Lib.hid (turn_none hn (h.get_none hp))
      have HG := Lib.hid (kget_none hp)
      clear h hi hs hn hp
      go_enter Try.func22, Try.ntmps22
      go_wp2_with (first
        | (go_at_call 40; refine (none_made b mb D L _ H.out).mono ?_; rintro e w' ⟨rfl, rfl⟩)
        | (go_at_call 45; refine (HNM.out _).mono ?_; rintro e w3 ⟨rfl, hb⟩; have HB3 := Lib.hid hb; have H3 := Lib.hid (H.out.kept hb); have c0 := H3.out.blk.cell (j := 0) rfl; clear hb)
        | (at_lookup; refine wpList_slook _ rfl _ _ _ rfl 9 66 Try.underlying9 Try.underlying52 (fzero _) mb (kM Pf.key Pf.val L) rfl H3.out.map s rfl HS.out ?_; rw [HG.out.1]; simp only [Option.getD_none]))
      go_ret
      rw [HF.out]
      exact ⟨rfl, DkTo.same H.out HB3.out⟩
    | some p =>
      obtain ⟨hmem, hkey⟩ := kfnd_mem hp
      have HG := Lib.hid (kget_some hp)
      have HM := Lib.hid hmem
      obtain ⟨pv, pc, hv, hpc, hpm⟩ := own_slice (h.body p hmem)
      have HV := Lib.hid hv
      by_cases h0 : 0 ≤ k
      · have i0 : decide (k < 0) = false := by simp; omega
        by_cases h1 : k < (p.f.b.length : Int)
        · have HF : Hid (D.turn s k c = (0, D.put (Dk.turned p.f k.toNat c))) := Lib.hid (turn_in hn (h.get_some hp) ⟨h0, h1⟩)
          obtain ⟨j, rfl⟩ : ∃ j : Nat, k = (j : Int) := ⟨k.toNat, by omega⟩
          have hj : j < p.f.b.length := by omega
          have i1 : decide ((p.f.b.length : Int) ≤ (j : Int)) = false := by simp; omega
          have HP : Hid (kfnd Pf.key L p.key = some p) := Lib.hid (by rw [hkey]; exact hp)
          have HR := Lib.hid hi.rise
          obtain ⟨g, cap, e1, -, -, -⟩ := own_block (h.body p hmem) (by omega)
          have hve := hv
          rw [e1] at hve
          simp only [Value.slice.injEq] at hve
          obtain ⟨rfl, -, rfl⟩ := hve
          have HJ := Lib.hid hj
          obtain ⟨y, hy⟩ : ∃ y, y = p.f.b[j] := ⟨_, rfl⟩
          have HY := Lib.hid hy
          have b1 : (0 : Int) ≤ (j : Int) := by omega
          clear h hi hs hn hp hmem hkey hv hpm e1 hy h0
          go_enter Try.func22, Try.ntmps22
          go_wp2_with (first
            | (go_at_call 40; refine (none_made b mb D L _ H.out).mono ?_; rintro e w' ⟨rfl, rfl⟩)
            | (go_at_call 45; refine (HNM.out _).mono ?_; rintro e w3 ⟨rfl, hb⟩; have HB3 := Lib.hid hb; have H3 := Lib.hid (H.out.kept hb); have c0 := H3.out.blk.cell (j := 0) rfl; have d0 := (H3.out.file p HM.out).cell (j := 0) rfl; rw [HV.out] at d0; have hbd := H3.out.body p HM.out; rw [HV.out] at hbd; have y0 := own_cell hbd (j := j) (u := B y) (by rw [HY.out, List.getElem?_map, List.getElem?_eq_getElem HJ.out]; rfl); have fy := own_free hbd j; clear hb hbd)
            | (at_lookup; refine wpList_slook _ rfl _ _ _ rfl 9 66 Try.underlying9 Try.underlying52 (fzero _) mb (kM Pf.key Pf.val L) rfl H3.out.map s rfl HS.out ?_; rw [HG.out.1]; simp only [Option.getD_some]))
          go_ret
          rw [HF.out, xor_u8]
          have hbd := H3.out.body p HM.out
          rw [HV.out] at hbd
          have hlt : (Dk.turned p.f (j : Int).toNat c).b = p.f.b.set j (y ^^^ c) := by
            unfold Dk.turned
            simp only [Int.toNat_natCast]
            rw [modify_set HJ.out, HY.out]
            rfl
          have hset : Frp (fun k => k = p.a ∨ p.v.ownBlock = some k) w3 (w3.setCell ⟨g, j, none⟩ (B (y ^^^ c))) := (Frp.refl _ w3).set (p := ⟨g, j, none⟩) (.inr (by rw [HV.out]; rfl)) _
          have hbody : Fresh 0 (w3.setCell ⟨g, j, none⟩ (B (y ^^^ c))) p.v (Dk.turned p.f (j : Int).toNat c).b := by
            have := own_set hbd (k := j) (by have := HJ.out; omega) (B (y ^^^ c))
            rw [hlt]
            unfold Fresh
            rw [List.length_set, List.map_set, HV.out]
            exact this
          have hfile := (H3.out.file p HM.out).other (a := ⟨g, j, none⟩) (fun e => (H3.out.ne_v HM.out).2.2 p HM.out (by rw [HV.out, e]; rfl)) (B (y ^^^ c))
          have hpd := H3.out.turn (D' := D.put (Dk.turned p.f (j : Int).toNat c)) (p := p) (x := ⟨Dk.turned p.f (j : Int).toNat c, p.a, p.v⟩) HR.out HP.out rfl rfl rfl hset hfile hbody (fun k hk => .inl hk)
          refine ⟨rfl, _, hpd, DSt.box ⟨hset.mono (fun k hk => .inr (.inr ⟨p, HM.out, hk⟩)), fun k hk => ?_⟩ HB3.out⟩
          rcases fp_put hk with h1 | h1
          · exact .inl h1
          · exact .inl (.inr (.inr ⟨p, HM.out, h1⟩))
        · have HF : Hid (D.turn s k c = (6, D)) := Lib.hid (turn_out hn (h.get_some hp) (by omega))
          have i1 : decide ((p.f.b.length : Int) ≤ k) = true := by simp; omega
          clear h hi hs hn hp hmem hkey hv hpm h0 h1
          go_enter Try.func22, Try.ntmps22
          go_wp2_with (first
            | (go_at_call 40; refine (none_made b mb D L _ H.out).mono ?_; rintro e w' ⟨rfl, rfl⟩)
            | (go_at_call 45; refine (HNM.out _).mono ?_; rintro e w3 ⟨rfl, hb⟩; have HB3 := Lib.hid hb; have H3 := Lib.hid (H.out.kept hb); have c0 := H3.out.blk.cell (j := 0) rfl; have d0 := (H3.out.file p HM.out).cell (j := 0) rfl; rw [HV.out] at d0; clear hb)
            | (at_lookup; refine wpList_slook _ rfl _ _ _ rfl 9 66 Try.underlying9 Try.underlying52 (fzero _) mb (kM Pf.key Pf.val L) rfl H3.out.map s rfl HS.out ?_; rw [HG.out.1]; simp only [Option.getD_some]))
          go_ret
          rw [HF.out]
          exact ⟨rfl, DkTo.same H.out HB3.out⟩
      · have HF : Hid (D.turn s k c = (6, D)) := Lib.hid (turn_out hn (h.get_some hp) (by omega))
        have i0 : decide (k < 0) = true := by simp; omega
        clear h hi hs hn hp hmem hkey hv hpm h0
        go_enter Try.func22, Try.ntmps22
        go_wp2_with (first
          | (go_at_call 40; refine (none_made b mb D L _ H.out).mono ?_; rintro e w' ⟨rfl, rfl⟩)
          | (go_at_call 45; refine (HNM.out _).mono ?_; rintro e w3 ⟨rfl, hb⟩; have HB3 := Lib.hid hb; have H3 := Lib.hid (H.out.kept hb); have c0 := H3.out.blk.cell (j := 0) rfl; clear hb)
          | (at_lookup; refine wpList_slook _ rfl _ _ _ rfl 9 66 Try.underlying9 Try.underlying52 (fzero _) mb (kM Pf.key Pf.val L) rfl H3.out.map s rfl HS.out ?_; rw [HG.out.1]; simp only [Option.getD_some]))
        go_ret
        rw [HF.out]
        exact ⟨rfl, DkTo.same H.out HB3.out⟩
end
end Go.Proofs.Ytgcemddobcjpnaa
namespace Go.Proofs.Ytgcemddobcjpnaa
open Go.RowKit

section
variable (g : Nat) (vF : Value) (D : Dk) (L : List Rf) (M : Nat) (N : Int) (s : ByteArray) (x : Int) (c0 : UInt8) (w : World) (h : RDk w g vF D L) (hi : DkI D M N) (hs : s.size ≤ maxLen)
include h hi hs
set_option maxRecDepth 100000 in
set_option maxHeartbeats 4000000 in
theorem rturn_any : Calls Try.prog 54 #[ptr g, .string s, .int .i64 x, .int .u8 (c0.toNat : Int)] w fun e w' => e = .returned (.int .i64 (D.turn s x c0).1) ∧ RdTo w w' g vF L (D.turn s x c0).2 := by
  have H := Lib.hid h
  have hr := hi.rise
  have HB0 : Hid (Below w.heap.size w w) := Lib.hid (Below.refl _ _)
  cases hn : nameB s
  · have HF : Hid (D.turn s x c0 = (2, D)) := Lib.hid (by unfold Dk.turn; rw [if_neg (by rw [hn]; simp)])
    have HNM : Hid (∀ w : World, Calls Try.prog 69 #[.string s] w fun e w' => e = .returned (.bool false) ∧ w = w') := Lib.hid (fun w => by have := rname_any s w hs; rwa [hn] at this)
    clear h hi hs hn hr
    go_enter Try.func54, Try.ntmps54
    go_wp2_with (go_at_call 69; refine (HNM.out _).mono ?_; rintro e w3 ⟨rfl, rfl⟩)
    go_ret
    rw [HF.out]
    exact ⟨rfl, RdTo.same H.out HB0.out⟩
  · have HNM : Hid (∀ w : World, Calls Try.prog 69 #[.string s] w fun e w' => e = .returned (.bool true) ∧ w = w') := Lib.hid (fun w => by have := rname_any s w hs; rwa [hn] at this)
    cases hp : kfnd Rf.key L s.data.toList with
    | none =>
      have HF : Hid (D.turn s x c0 = (6, D)) := Lib.hid (turn_none hn (h.get_none hp))
      have HP := Lib.hid (place_no h hr hp)
      clear h hi hs hn hr hp
      go_enter Try.func54, Try.ntmps54
      go_wp2_with (first
        | (go_at_call 69; refine (HNM.out _).mono ?_; rintro e w3 ⟨rfl, rfl⟩)
        | (go_at_call 64; refine HP.out.mono ?_; rintro e w3 ⟨rfl, rfl⟩))
      go_ret
      rw [HF.out]
      exact ⟨rfl, RdTo.same H.out HB0.out⟩
    | some r =>
      have HP := Lib.hid (place_yes h hr hp)
      obtain ⟨hk, he⟩ := kfnd_place (h.rise hr) hp
      obtain ⟨k, hkk⟩ : ∃ k, k = kpl Rf.key L s.data.toList := ⟨_, rfl⟩
      simp only [← hkk] at hk he HP
      have hmem := (kfnd_mem hp).1
      have HM := Lib.hid hmem
      obtain ⟨pv, pc, hv, hpc, -⟩ := own_slice (h.body r hmem)
      have HV := Lib.hid hv
      obtain ⟨q, c, hvF, hc, -, -, -⟩ := h.at hk
      have HVF := Lib.hid hvF
      have HFC : Hid (∀ w6, RDk w6 g vF D L → w6.cell? ⟨g, 1, none⟩ = some (.slice (some ⟨q, 0, none⟩) L.length c) ∧ w6.cell? ⟨q, k * 3 + 1, none⟩ = some (.slice pv r.f.b.length pc) ∧ w6.frozen? ⟨q, k * 3 + 1, none⟩ = false) := Lib.hid (fun w6 h6 => by
        obtain ⟨q2, c2, e, -, -, e1, -⟩ := h6.at hk
        have h7 := h6.row
        rw [hvF] at e h7
        simp only [Value.slice.injEq, Option.some.injEq, Addr.mk.injEq, and_true, true_and] at e
        obtain ⟨rfl, rfl⟩ := e
        rw [he] at e1
        exact ⟨by rw [← hvF]; exact h6.blk.cell (j := 1) rfl, by rw [← hv]; exact e1, own_free h7 _⟩)
      have b0 : (0 : Int) ≤ (k : Int) := by omega
      have i1 : (k : Int) < (L.length : Int) := by omega
      obtain ⟨x0, x1, -⟩ := HFC.out w h
      by_cases h0 : 0 ≤ x
      · have d0 : decide (x < 0) = false := by simp; omega
        by_cases h1 : x < (r.f.b.length : Int)
        · have HF : Hid (D.turn s x c0 = (0, D.put (Dk.turned r.f x.toNat c0))) := Lib.hid (turn_in hn (h.get_some hp) ⟨h0, h1⟩)
          obtain ⟨j, rfl⟩ : ∃ j : Nat, x = (j : Int) := ⟨x.toNat, by omega⟩
          have hj : j < r.f.b.length := by omega
          have HJ := Lib.hid hj
          have d1 : decide ((r.f.b.length : Int) ≤ (j : Int)) = false := by simp; omega
          have b1 : (0 : Int) ≤ (j : Int) := by omega
          obtain ⟨ix, hix, hz0, hz1, hz2⟩ := info_parts Try.uinfo
          have HRM : Hid (r.f.b.length ≤ 1073741824) := Lib.hid (by
            have h1 : r.f ∈ D.F := by rw [← h.eq]; exact List.mem_map_of_mem hmem
            have h2 : (r.f.b.length : Int) ≤ D.room := hi.one_le h1
            have := hi.room
            omega)
          have hw1 := below_alloc w (.cells #[] 5)
          have HSR : Hid (Src Try.prog 1 29 (.slice pv r.f.b.length pc) r.f.b.length (r.f.b.map B) (w.alloc (.cells #[] 5))) := Lib.hid (by have := Row.src Try.underlying29 (Fresh.rd (own_keep (h.body r hmem) hw1)); rw [hv] at this; exact this)
          have HOW : Hid ((w.alloc (.cells #[] 5)).ownsRow w.heap.size 5 1 (.slice (some ⟨w.heap.size, 0, none⟩) 0 0) 0 []) := Lib.hid (World.ownsRow_lit (e := 5) (size := 1) w #[] 0 (Nat.le_refl _) (by simp [maxLen]) rfl)
          have HB1 := Lib.hid hw1
          obtain ⟨y0, y1, -⟩ := HFC.out _ (h.kept hw1)
          obtain ⟨y, hy⟩ : ∃ y, y = r.f.b[j] := ⟨_, rfl⟩
          have HY := Lib.hid hy
          have HSET : Hid (∀ w6 v6, RDk w6 g vF D L → Fresh 0 w6 v6 (Dk.turned r.f j c0).b → ∃ L', RDk (w6.setCell ⟨q, k * 3 + 1, none⟩ v6) g vF (D.put (Dk.turned r.f j c0)) L' ∧ Frp (fpR g vF L) w6 (w6.setCell ⟨q, k * 3 + 1, none⟩ v6) ∧ ∀ y, fpR g vF L' y → fpR g vF L y ∨ v6.ownBlock = some y) := Lib.hid (fun w6 v6 h6 f6 => by
            have hset := h6.setAt (i := k) (j := 1) (u := v6) (x := ⟨Dk.turned r.f j c0, v6⟩) (D' := D.put (Dk.turned r.f j c0)) hk (by omega) (by rw [he]; rfl) hvF f6 (by rw [hkk]; exact put_set h6 hr hp (kfnd_mem hp).2) rfl
            exact ⟨_, hset, (Frp.refl (fpR g vF L) w6).set (p := ⟨q, k * 3 + 1, none⟩) (.inr (.inl (by rw [hvF]; rfl))) _, fun y hy => fpR_set hy⟩)
          clear h hi hs hn hr hp hk he hkk hmem hv hvF hw1 hy hj h0
          go_enter Try.func54, Try.ntmps54
          go_upto_region 7 with (first
            | (go_at_call 69; refine (HNM.out _).mono ?_; rintro e w3 ⟨rfl, rfl⟩)
            | (go_at_call 64; refine HP.out.mono ?_; rintro e w3 ⟨rfl, rfl⟩)
            | (at_builtin; refine wpList_app5 rfl _ _ 29 29 rfl w.heap.size 5 ix (.int .u8 0) 1 1 Try.underlying29 hix hz0 hz1 hz2 rfl _ 0 [] rfl HOW.out _ r.f.b.length (r.f.b.map B) rfl HSR.out (by have := HRM.out; unfold maxLen; omega) (by have := HRM.out; omega) HB1.out.size ?_; intro v6 w6 hown6 hgrow6 hn6; have HO6 : Hid (w6.ownsRow w.heap.size 5 1 v6 r.f.b.length (r.f.b.map B)) := Lib.hid (by simpa using hown6); have HB6 := Lib.hid (below_grown HB1.out HB1.out.size HOW.out hgrow6); clear hown6 hgrow6 hn6))
          obtain ⟨g6, c6, rfl, -, -, -⟩ := own_block HO6.out (by have := HJ.out; omega)
          have y2 := own_cell HO6.out (j := j) (u := B y) (by rw [HY.out, List.getElem?_map, List.getElem?_eq_getElem HJ.out]; rfl)
          have fy := own_free HO6.out j
          clear x0 x1 y0 y1
          go_upto_region 8 with fail
          rw [xor_u8]
          obtain ⟨w7, hw7⟩ : ∃ w7, w7 = w6.setCell ⟨g6, j, none⟩ (B (y ^^^ c0)) := ⟨_, rfl⟩
          rw [← hw7]
          have hf7 : Frp (fun i => i = g6) w6 w7 := by rw [hw7]; exact (Frp.refl (fun i => i = g6) w6).set (p := ⟨g6, j, none⟩) rfl _
          have hlo : w.heap.size ≤ g6 := own_lo HO6.out rfl
          have H7 : Hid (RDk w7 g vF D L) := Lib.hid ((H.out.kept HB6.out).frp hf7 (fun y hy e => by have := H.out.lt hy; omega))
          have HO7 : Hid (Fresh 0 w7 (.slice (some ⟨g6, 0, none⟩) r.f.b.length c6) (Dk.turned r.f j c0).b) := Lib.hid (by
            have hlt : (Dk.turned r.f j c0).b = r.f.b.set j (y ^^^ c0) := by
              unfold Dk.turned
              simp only
              rw [modify_set HJ.out, HY.out]
              rfl
            have := own_set (own_mono HO6.out (Nat.zero_le _)) (k := j) (by have := HJ.out; omega) (B (y ^^^ c0))
            rw [hlt, hw7]
            unfold Fresh
            rw [List.length_set, List.map_set]
            exact this)
          have HF7 := Lib.hid hf7
          have HLO := Lib.hid hlo
          obtain ⟨y0, y1, fz⟩ := HFC.out _ H7.out
          clear y2 fy hw7 hf7 hlo
          go_wp2
          go_ret
          rw [HF.out]
          obtain ⟨L', h8, f8, n8⟩ := HSET.out _ _ H7.out HO7.out
          refine ⟨rfl, _, L', h8, ⟨?_, fun y hy => ?_⟩⟩
          · exact ((Frp.of_below HB6.out _).trans HF7.out (fun i hi => .inr (by rw [hi]; exact HLO.out))).then f8
          · rcases n8 y hy with h1 | h1
            · exact .inl h1
            · exact .inr (by have := HLO.out; simp [Value.ownBlock] at h1; omega)
        · have HF : Hid (D.turn s x c0 = (6, D)) := Lib.hid (turn_out hn (h.get_some hp) (by omega))
          have d1 : decide ((r.f.b.length : Int) ≤ x) = true := by simp; omega
          clear h hi hs hn hr hp hk he hkk hmem hv hvF h0 h1
          go_enter Try.func54, Try.ntmps54
          go_wp2_with (first
            | (go_at_call 69; refine (HNM.out _).mono ?_; rintro e w3 ⟨rfl, rfl⟩)
            | (go_at_call 64; refine HP.out.mono ?_; rintro e w3 ⟨rfl, rfl⟩))
          go_ret
          rw [HF.out]
          exact ⟨rfl, RdTo.same H.out HB0.out⟩
      · have HF : Hid (D.turn s x c0 = (6, D)) := Lib.hid (turn_out hn (h.get_some hp) (by omega))
        have d0 : decide (x < 0) = true := by simp; omega
        clear h hi hs hn hr hp hk he hkk hmem hv hvF h0
        go_enter Try.func54, Try.ntmps54
        go_wp2_with (first
          | (go_at_call 69; refine (HNM.out _).mono ?_; rintro e w3 ⟨rfl, rfl⟩)
          | (go_at_call 64; refine HP.out.mono ?_; rintro e w3 ⟨rfl, rfl⟩))
        go_ret
        rw [HF.out]
        exact ⟨rfl, RdTo.same H.out HB0.out⟩
end
end Go.Proofs.Ytgcemddobcjpnaa
