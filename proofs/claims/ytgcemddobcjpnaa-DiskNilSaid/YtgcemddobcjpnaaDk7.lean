/- The program's disk: Sync, Remove, Rename. -/
import Derived.Test.YtgcemddobcjpnaaDk6
namespace Go.Proofs.Ytgcemddobcjpnaa
open Go.RowKit

section
variable (b mb : Nat) (D : Dk) (L : List Pf) (M : Nat) (N : Int) (s : ByteArray) (w : World) (h : PDk w b mb D L) (hi : DkI D M N) (hN : N < 4611686018427387904) (hs : s.size ≤ maxLen)
include h hi hN hs

/-! Sync -/
set_option maxRecDepth 100000 in
set_option maxHeartbeats 2000000 in
theorem sync_any : Calls Try.prog 12 #[ptr b, .string s] w fun e w' => e = .returned (.int .i64 (D.sync s).1) ∧ DkTo w w' b mb L (D.sync s).2 := by
  have H := Lib.hid h
  have HI := Lib.hid hi
  have HN := Lib.hid hN
  by_cases ha : D.ask [s] = 0
  · have ha1 : ¬ (D.ask [s] ≠ 0) := by rw [ha]; simp
    cases hp : kfnd Pf.key L s.data.toList with
    | none =>
      have HF : Hid (D.sync s = (6, D)) := Lib.hid (by unfold Dk.sync; rw [if_neg ha1, h.get_none hp])
      have HFI := Lib.hid (find_no b mb D L s w h hs ha hp)
      clear h hi hN hs ha hp ha1
      go_enter Try.func12, Try.ntmps12
      go_wp2_with (go_at_call 36; refine HFI.out.mono ?_; rintro e w3 ⟨rfl, hb⟩; have HB3 := Lib.hid hb; clear hb)
      go_ret
      rw [HF.out]
      exact ⟨rfl, DkTo.same H.out (below_and HB3.out (below_alloc _ _))⟩
    | some p =>
      obtain ⟨hmem, hkey⟩ := kfnd_mem hp
      have HFI := Lib.hid (find_yes b mb D L s w h hs ha p hp)
      have HP : Hid (kfnd Pf.key L p.key = some p) := Lib.hid (by rw [hkey]; exact hp)
      have HR : Hid (KRise Fl.key D.stepped.F) := Lib.hid hi.rise
      rcases may_cases D with hm | hm
      · have HF : Hid (D.sync s = (0, D.stepped.put { p.f with s := p.f.b.length })) := Lib.hid (by unfold Dk.sync; rw [if_neg ha1, h.get_some hp]; simp only; rw [if_pos hm])
        have HMY := Lib.hid hm
        have HEG := Lib.hid (Go.Proofs.enters_of Try.func39 (by kernel_rfl) rfl)
        clear h hi hN hs ha hp ha1 hmem hkey hm
        go_enter Try.func12, Try.ntmps12
        go_wp2_with (first
          | (go_at_call 36; refine HFI.out.mono ?_; rintro e w3 ⟨rfl, hb⟩; have HB3 := Lib.hid hb; have HBX := Lib.hid (Blk.made w3 [ptr p.a] 66); have H4 := Lib.hid ((H.out.kept hb).kept (below_alloc w3 (.cells #[ptr p.a] 66))); have HLT : Hid (b < w3.heap.size) := Lib.hid (H.out.kept hb).blk.lt; clear hb)
          | (go_at_call 34; refine (step_to H4.out HI.out HN.out HMY.out 39 _ (D.stepped.put { p.f with s := p.f.b.length }) HEG.out (fun w1 h1 hf => sync1 b mb w3.heap.size D.stepped L p w1 h1 HR.out HP.out (cell_frp (HBX.out.cell (j := 0) rfl) hf (fun e => by have := HLT.out; simp only at e; omega)))).mono ?_; rintro e w7 ⟨rfl, hd⟩; have HD7 := Lib.hid hd; clear hd))
        go_ret
        rw [HF.out]
        exact ⟨rfl, HD7.out.box (below_and HB3.out (below_alloc _ _))⟩
      · have HF : Hid (D.sync s = (10, D.dead)) := Lib.hid (by unfold Dk.sync; rw [if_neg ha1, h.get_some hp]; simp only; rw [if_neg (by rw [hm]; simp)])
        have HMY := Lib.hid hm
        clear h hi hN hs ha hp ha1 hmem hkey hm
        go_enter Try.func12, Try.ntmps12
        go_wp2_with (first
          | (go_at_call 36; refine HFI.out.mono ?_; rintro e w3 ⟨rfl, hb⟩; have HB3 := Lib.hid hb; have H4 := Lib.hid ((H.out.kept hb).kept (below_alloc w3 (.cells #[ptr p.a] 66))); clear hb)
          | (go_at_call 34; refine (step_dead H4.out HMY.out _).mono ?_; rintro e w7 ⟨rfl, hd⟩; have HD7 := Lib.hid hd; clear hd))
        go_ret
        rw [HF.out]
        exact ⟨rfl, HD7.out.box (below_and HB3.out (below_alloc _ _))⟩
  · have HF : Hid (D.sync s = (D.ask [s], D)) := Lib.hid (by unfold Dk.sync; rw [if_pos ha])
    have HFI := Lib.hid (find_bad b mb D L s w h hs ha)
    obtain ⟨q, hq⟩ : ∃ q, q = D.ask [s] := ⟨_, rfl⟩
    rw [← hq] at ha HF HFI
    have q0 : (q != 0) = true := by simpa using ha
    clear h hi hN hs ha hq
    go_enter Try.func12, Try.ntmps12
    go_wp2_with (go_at_call 36; refine HFI.out.mono ?_; rintro e w3 ⟨rfl, hb⟩; have HB3 := Lib.hid hb; clear hb)
    go_ret
    rw [HF.out]
    exact ⟨rfl, DkTo.same H.out (below_and HB3.out (below_alloc _ _))⟩

/-! Remove -/
set_option maxRecDepth 100000 in
set_option maxHeartbeats 2000000 in
theorem remove_any : Calls Try.prog 26 #[ptr b, .string s] w fun e w' => e = .returned (.int .i64 (D.remove s).1) ∧ DkTo w w' b mb L (D.remove s).2 := by
  obtain ⟨w2, hw2⟩ : ∃ w2, w2 = (w.alloc (.cells #[ptr b] 23)).alloc (.cells #[.string s] 9) := ⟨_, rfl⟩
  obtain ⟨B, hB⟩ : ∃ B, B = w.heap.size := ⟨_, rfl⟩
  have hb2 : Below w.heap.size w w2 := by rw [hw2]; exact below_and (below_alloc w _) (below_alloc _ _)
  have B0 : Blk w2 B [ptr b] 23 := by rw [hw2, hB]; exact (Blk.made w [ptr b] _).alloc _
  have B1 : Blk w2 (B + 1) [.string s] 9 := by
    have := Blk.made (w.alloc (.cells #[ptr b] 23)) [.string s] 9
    rw [hw2, hB]; simpa using this
  have HB0 := Lib.hid B0
  have HB1 := Lib.hid B1
  have HBB := Lib.hid hb2
  have H := Lib.hid h
  have h2 := h.kept hb2
  have H2 := Lib.hid h2
  have HLT : Hid (b < B) := Lib.hid (by rw [hB]; exact h.blk.lt)
  have HS := Lib.hid hs
  have HI := Lib.hid hi
  have HN := Lib.hid hN
  have c0 := B0.cell (j := 0) rfl
  have c1 := B1.cell (j := 0) rfl
  by_cases ha : D.ask [s] = 0
  · have ha1 : ¬ (D.ask [s] ≠ 0) := by rw [ha]; simp
    cases hp : kfnd Pf.key L s.data.toList with
    | none =>
      have HF : Hid (D.remove s = (6, D)) := Lib.hid (by unfold Dk.remove; rw [if_neg ha1, h.get_none hp])
      have HFI := Lib.hid (find_no b mb D L s w2 h2 hs ha hp)
      clear h h2 hi hN hs ha hp ha1 B0 B1 hb2
      go_enter Try.func26, Try.ntmps26
      go_upto_region 1 with fail
      rw [← hw2, ← hB]
      clear hw2 hB
      go_wp2_with (go_at_call 36; refine HFI.out.mono ?_; rintro e w3 ⟨rfl, hb⟩; have HB3 := Lib.hid hb; clear hb)
      go_ret
      rw [HF.out]
      exact ⟨rfl, DkTo.same H.out (below_and HBB.out HB3.out)⟩
    | some p =>
      have HFI := Lib.hid (find_yes b mb D L s w2 h2 hs ha p hp)
      rcases may_cases D with hm | hm
      · have HF : Hid (D.remove s = (0, D.stepped.cut s)) := Lib.hid (by unfold Dk.remove; rw [if_neg ha1, h.get_some hp]; simp only; rw [if_pos hm])
        have HMY := Lib.hid hm
        have HEG := Lib.hid (Go.Proofs.enters_of Try.func59 (by kernel_rfl) rfl)
        clear h h2 hi hN hs ha hp ha1 hm B0 B1 hb2
        go_enter Try.func26, Try.ntmps26
        go_upto_region 1 with fail
        rw [← hw2, ← hB]
        clear hw2 hB
        go_wp2_with (first
          | (go_at_call 36; refine HFI.out.mono ?_; rintro e w3 ⟨rfl, hb⟩; have HB3 := Lib.hid hb; have H3 := Lib.hid (H2.out.kept hb); clear c0 c1; have c0 := (HB0.out.kept hb).cell (j := 0) rfl; clear hb)
          | (go_at_call 34; refine (step_to H3.out HI.out HN.out HMY.out 59 _ (D.stepped.cut s) HEG.out (fun w1 h1 hf => (remove1 b mb B (B + 1) D.stepped L s w1 h1 HS.out (cell_frp ((HB0.out.kept HB3.out).cell (j := 0) rfl) hf (fun e => by have := HLT.out; simp only at e; omega)) (cell_frp ((HB1.out.kept HB3.out).cell (j := 0) rfl) hf (fun e => by have := HLT.out; simp only at e; omega))).mono fun _ _ ⟨he, hp, hd⟩ => ⟨he, _, hp, hd⟩)).mono ?_; rintro e w7 ⟨rfl, hd⟩; have HD7 := Lib.hid hd; clear hd))
        go_ret
        rw [HF.out]
        exact ⟨rfl, HD7.out.box (below_and HBB.out HB3.out)⟩
      · have HF : Hid (D.remove s = (10, D.dead)) := Lib.hid (by unfold Dk.remove; rw [if_neg ha1, h.get_some hp]; simp only; rw [if_neg (by rw [hm]; simp)])
        have HMY := Lib.hid hm
        clear h h2 hi hN hs ha hp ha1 hm B0 B1 hb2
        go_enter Try.func26, Try.ntmps26
        go_upto_region 1 with fail
        rw [← hw2, ← hB]
        clear hw2 hB
        go_wp2_with (first
          | (go_at_call 36; refine HFI.out.mono ?_; rintro e w3 ⟨rfl, hb⟩; have HB3 := Lib.hid hb; have H3 := Lib.hid (H2.out.kept hb); clear c0 c1; have c0 := (HB0.out.kept hb).cell (j := 0) rfl; clear hb)
          | (go_at_call 34; refine (step_dead H3.out HMY.out _).mono ?_; rintro e w7 ⟨rfl, hd⟩; have HD7 := Lib.hid hd; clear hd))
        go_ret
        rw [HF.out]
        exact ⟨rfl, HD7.out.box (below_and HBB.out HB3.out)⟩
  · have HF : Hid (D.remove s = (D.ask [s], D)) := Lib.hid (by unfold Dk.remove; rw [if_pos ha])
    have HFI := Lib.hid (find_bad b mb D L s w2 h2 hs ha)
    obtain ⟨q, hq⟩ : ∃ q, q = D.ask [s] := ⟨_, rfl⟩
    rw [← hq] at ha HF HFI
    have q0 : (q != 0) = true := by simpa using ha
    clear h h2 hi hN hs ha hq B0 B1 hb2
    go_enter Try.func26, Try.ntmps26
    go_upto_region 1 with fail
    rw [← hw2, ← hB]
    clear hw2 hB
    go_wp2_with (go_at_call 36; refine HFI.out.mono ?_; rintro e w3 ⟨rfl, hb⟩; have HB3 := Lib.hid hb; clear hb)
    go_ret
    rw [HF.out]
    exact ⟨rfl, DkTo.same H.out (below_and HBB.out HB3.out)⟩
end
end Go.Proofs.Ytgcemddobcjpnaa
