/- The program's disk: Rename (written by gendk8.py out of dk8_head). -/
import Derived.Test.YtgcemddobcjpnaaDk7
namespace Go.Proofs.Ytgcemddobcjpnaa
open Go.RowKit

theorem toL_ne {s t : ByteArray} (h : s ≠ t) : s.data.toList ≠ t.data.toList := fun e => h (by cases s; cases t; simp only at e; rw [Array.toList_inj.1 e])
section
variable (b mb : Nat) (D : Dk) (L : List Pf) (M : Nat) (N : Int) (s t : ByteArray) (w : World) (h : PDk w b mb D L) (hi : DkI D M N) (hM : M ≤ 100000) (hN : N < 4611686018427387904) (hs : s.size ≤ maxLen) (ht : t.size ≤ maxLen)
include h hi hM hN hs ht
set_option maxRecDepth 100000 in
set_option maxHeartbeats 4000000 in
theorem rename_any : Calls Try.prog 19 #[ptr b, .string s, .string t] w fun e w' => e = .returned (.int .i64 (D.rename s t).1) ∧ DkTo w w' b mb L (D.rename s t).2 := by
  obtain ⟨w2, hw2⟩ : ∃ w2, w2 = ((w.alloc (.cells #[ptr b] 23)).alloc (.cells #[.string s] 9)).alloc (.cells #[.string t] 9) := ⟨_, rfl⟩
  obtain ⟨B, hB⟩ : ∃ B, B = w.heap.size := ⟨_, rfl⟩
  have hb2 : Below w.heap.size w w2 := by rw [hw2]; exact below_and (below_and (below_alloc w _) (below_alloc _ _)) (below_alloc _ _)
  have B0 : Blk w2 B [ptr b] 23 := by rw [hw2, hB]; exact ((Blk.made w [ptr b] _).alloc _).alloc _
  have B1 : Blk w2 (B + 1) [.string s] 9 := by
    have := (Blk.made (w.alloc (.cells #[ptr b] 23)) [.string s] 9).alloc (.cells #[.string t] 9)
    rw [hw2, hB]; simpa using this
  have B2 : Blk w2 (B + 2) [.string t] 9 := by
    have := Blk.made ((w.alloc (.cells #[ptr b] 23)).alloc (.cells #[.string s] 9)) [.string t] 9
    rw [hw2, hB]; simpa using this
  have HB0 := Lib.hid B0
  have HB1 := Lib.hid B1
  have HB2 := Lib.hid B2
  have HBB := Lib.hid hb2
  have H := Lib.hid h
  have h2 := h.kept hb2
  have H2 := Lib.hid h2
  have HSZ : Hid (w2.heap.size = B + 3) := Lib.hid (by rw [hw2, hB]; simp)
  have HLT : Hid (∀ k, fpP b mb L k → k < B) := Lib.hid (fun k hk => by rw [hB]; exact h.lt hk)
  have HS := Lib.hid hs
  have HT := Lib.hid ht
  have HI := Lib.hid hi
  have HN := Lib.hid hN
  have HLN : Hid (L.length < maxLen) := Lib.hid (by rw [h.len]; have := hi.len; unfold maxLen; omega)
  have c0 := B0.cell (j := 0) rfl
  have c1 := B1.cell (j := 0) rfl
  have c2 := B2.cell (j := 0) rfl
  have hst : ∀ x ∈ [s, t], x.size ≤ maxLen := by simpa using ⟨hs, ht⟩
  by_cases ha : D.ask [s, t] = 0
  · have HA := Lib.hid (ask0 b mb D L [s, t] _ _ (h2.kept (below_alloc w2 (.cells #[.string s, .string t] 9))) (row2 w2 s t 9) hst ha)
    have ha1 : ¬ (D.ask [s, t] ≠ 0) := by rw [ha]; simp
    obtain ⟨g, hg⟩ : ∃ g, g = kfnd Pf.key L s.data.toList := ⟨_, rfl⟩
    have HLK : Hid (∀ (w3 : World), PDk w3 b mb D L → (Instr.lookup 52 (.map (some mb)) (.string s) false).run Try.prog w3 = .ok ((g.map Pf.val).getD (.pointer none)) w3) := Lib.hid (fun w3 h3 => by
      have := h3.map.look Try.underlying9 Try.underlying52 (fzero w3) hs
      rw [kM_get, ← hg] at this
      exact this)
    cases hgg : g with
    | none =>
      rw [hgg] at hg HLK
      have HF : Hid (D.rename s t = (6, D)) := Lib.hid (by unfold Dk.rename; rw [if_neg ha1, h.get_none hg.symm])
      clear h h2 hi hM hN hs ht ha ha1 hg hgg B0 B1 B2 hb2 hst
      go_enter Try.func19, Try.ntmps19
      go_upto_region 1 with fail
      rw [← hw2, ← hB]
      clear hw2 hB
      go_upto_region 4 with (go_at_call 33; refine HA.out.mono ?_; rintro e w3 ⟨rfl, hb⟩; have hb3 := below_and (below_alloc w2 (.cells #[.string s, .string t] 9)) hb; have HB3 := Lib.hid hb3; have H3 := Lib.hid (H2.out.kept hb3); clear hb hb3)
      have HSS : Hid (∀ w', Below w3.heap.size w3 w' → w'.cell? ⟨B, 0, none⟩ = some (ptr b) ∧ w'.cell? ⟨b, 0, none⟩ = some (.map (some mb)) ∧ w'.cell? ⟨B + 1, 0, none⟩ = some (.string s) ∧ (Instr.lookup 52 (.map (some mb)) (.string s) false).run Try.prog w' = .ok (.pointer none) w') := Lib.hid (fun w' hb => ⟨((HB0.out.kept HB3.out).kept hb).cell (j := 0) rfl, (H3.out.kept hb).blk.cell (j := 0) rfl, ((HB1.out.kept HB3.out).kept hb).cell (j := 0) rfl, HLK.out _ (H3.out.kept hb)⟩)
      clear c0 c1 c2
      refine wp_region_noPanic ?_
      refine wp_region_lastH (fun w' => w'.cell? ⟨B, 0, none⟩ = some (ptr b) ∧ w'.cell? ⟨b, 0, none⟩ = some (.map (some mb)) ∧ w'.cell? ⟨B + 1, 0, none⟩ = some (.string s) ∧ (Instr.lookup 52 (.map (some mb)) (.string s) false).run Try.prog w' = .ok (.pointer none) w') 7 rfl rfl (by kernel_rfl) (by kernel_rfl) (HSS.out _ (below_drewN 1)) (fun hHeld => ?_)
      refine wpAnyH_take (i := 0) (v := ?v1) rfl (by kernel_rfl) (by kernel_rfl) (by kernel_rfl) (fun _ _ _ h => h) (Or.inl ⟨by rfl, ?hy1⟩) (by assumption) ?rest1
      case hy1 => (intro _ hSw; (try dsimp only at hSw); go_simp; (try with_reducible rfl))
      (try simp only [Act.put]); (try simp only [List.setIfInBounds_toArray]); (try simp only [List.set_cons_succ]); (try simp only [List.set_cons_zero])
      refine wpAnyH_take (i := 1) (v := ?v2) rfl (by kernel_rfl) (by kernel_rfl) (by kernel_rfl) (fun _ _ _ h => h) (Or.inl ⟨by rfl, ?hy2⟩) (by assumption) ?rest2
      case hy2 => (intro _ hSw; (try dsimp only at hSw); go_simp; (try with_reducible rfl))
      (try simp only [Act.put]); (try simp only [List.setIfInBounds_toArray]); (try simp only [List.set_cons_succ]); (try simp only [List.set_cons_zero])
      refine wpAnyH_take (i := 2) (v := ?v3) rfl (by kernel_rfl) (by kernel_rfl) (by kernel_rfl) (fun _ _ _ h => h) (Or.inl ⟨by rfl, ?hy3⟩) (by assumption) ?rest3
      case hy3 => (intro _ hSw; (try dsimp only at hSw); go_simp; (try with_reducible rfl))
      (try simp only [Act.put]); (try simp only [List.setIfInBounds_toArray]); (try simp only [List.set_cons_succ]); (try simp only [List.set_cons_zero])
      refine wpAnyH_take (i := 3) (v := ?v4) rfl (by kernel_rfl) (by kernel_rfl) (by kernel_rfl) (fun _ _ _ h => h) (Or.inl ⟨by rfl, ?hy4⟩) (by assumption) ?rest4
      case hy4 => (intro _ hSw; (try dsimp only at hSw); go_simp; (try with_reducible rfl))
      (try simp only [Act.put]); (try simp only [List.setIfInBounds_toArray]); (try simp only [List.set_cons_succ]); (try simp only [List.set_cons_zero])
      refine wpAnyH_take (i := 4) (v := ?v5) rfl (by kernel_rfl) (by kernel_rfl) (by kernel_rfl) (fun _ _ _ h => h) (Or.inl ⟨by rfl, ?hy5⟩) (by assumption) ?rest5
      case hy5 => (intro _ hSw; (try dsimp only at hSw); go_simp; (try with_reducible rfl))
      (try simp only [Act.put]); (try simp only [List.setIfInBounds_toArray]); (try simp only [List.set_cons_succ]); (try simp only [List.set_cons_zero])
      refine wpAnyH_take (i := 5) (v := ?v6) rfl (by kernel_rfl) (by kernel_rfl) (by kernel_rfl) (fun _ _ _ h => h) (Or.inl ⟨by rfl, ?hy6⟩) (by assumption) ?rest6
      case hy6 => (intro _ hSw; (try dsimp only at hSw); go_simp; (try with_reducible rfl))
      (try simp only [Act.put]); (try simp only [List.setIfInBounds_toArray]); (try simp only [List.set_cons_succ]); (try simp only [List.set_cons_zero])
      refine wpAnyH_ready (rs := [6]) (by kernel_rfl) (by simp) ?_
      refine (AllReadyH.cons rfl (fun K hK => ?_) AllReadyH.nil)
      (try simp only [List.getElem_toArray]); (try simp only [List.getElem_cons_succ]); (try simp only [List.getElem_cons_zero])
      go_simp
      obtain ⟨w5, hw5⟩ : ∃ w5, w5 = (w3.alloc (.cells #[.pointer none] 66)).drew := ⟨_, rfl⟩
      obtain ⟨z, hz⟩ : ∃ z, z = w3.heap.size := ⟨_, rfl⟩
      have hb5 : Below w3.heap.size w3 w5 := by rw [hw5]; exact below_ad _ _
      have HZB : Hid (Blk w5 z [.pointer none] 66) := Lib.hid (by rw [hw5, hz]; exact (Blk.made w3 [.pointer none] 66).kept (below_drewN 1))
      have HZ : Hid (w3.heap.size ≤ z) := Lib.hid (by rw [hz]; exact Nat.le_refl _)
      have HB5 := Lib.hid hb5
      rw [← hw5, ← hz]
      refine hK.out _ _ (HSS.out _ hb5) (fun hS1 => ?_)
      clear hw5 hz hb5 hK K hS1
      (try simp only [Act.put]); (try simp only [List.setIfInBounds_toArray]); (try simp only [List.set_cons_succ]); (try simp only [List.set_cons_zero])
      refine wpAnyH_done (by kernel_rfl) ?_ _
      refine LastQ.start rfl ?_
      clear hHeld
      have d0 := HZB.out.cell (j := 0) rfl
      have f0 := HZB.out.free 0
      go_wp2
      refine NoPanic.normal ?_
      have HWS : Hid (Below w3.heap.size w3 (w5.setCell ⟨z, 0, none⟩ (.pointer none))) := Lib.hid (HB5.out.setCell (p := ⟨z, 0, none⟩) HZ.out _)
      obtain ⟨w6, hw6⟩ : ∃ w6, w6 = w5.setCell ⟨z, 0, none⟩ (.pointer none) := ⟨_, rfl⟩
      have HBX : Hid (Blk w6 z [.pointer none] 66) := Lib.hid (by rw [hw6]; exact HZB.out.set 0 _)
      rw [← hw6] at HWS
      have h6 := HWS.out
      have HZW : Hid (z < w6.heap.size) := Lib.hid HBX.out.lt
      have e0 := HBX.out.cell (j := 0) rfl
      rw [← hw6]
      clear hw6 d0 f0
      have HB6 := Lib.hid (below_and HB3.out h6)
      clear h6
      go_wp2
      go_ret
      rw [HF.out]
      exact ⟨rfl, DkTo.same H.out (below_and HBB.out HB6.out)⟩
    | some p =>
      rw [hgg] at hg HLK
      have HG := Lib.hid hg.symm
      have hkey := (kfnd_mem hg.symm).2
      by_cases hst2 : s = t
      · subst hst2
        have HF : Hid (D.rename s s = (0, D)) := Lib.hid (by unfold Dk.rename; rw [if_neg ha1, h.get_some hg.symm]; simp)
        clear h h2 hi hM hN hs ht ha ha1 hg hgg B0 B1 B2 hb2 hst hkey
        go_enter Try.func19, Try.ntmps19
        go_upto_region 1 with fail
        rw [← hw2, ← hB]
        clear hw2 hB
        go_upto_region 4 with (go_at_call 33; refine HA.out.mono ?_; rintro e w3 ⟨rfl, hb⟩; have hb3 := below_and (below_alloc w2 (.cells #[.string s, .string s] 9)) hb; have HB3 := Lib.hid hb3; have H3 := Lib.hid (H2.out.kept hb3); clear hb hb3)
        have HSS : Hid (∀ w', Below w3.heap.size w3 w' → w'.cell? ⟨B, 0, none⟩ = some (ptr b) ∧ w'.cell? ⟨b, 0, none⟩ = some (.map (some mb)) ∧ w'.cell? ⟨B + 1, 0, none⟩ = some (.string s) ∧ (Instr.lookup 52 (.map (some mb)) (.string s) false).run Try.prog w' = .ok (ptr p.a) w') := Lib.hid (fun w' hb => ⟨((HB0.out.kept HB3.out).kept hb).cell (j := 0) rfl, (H3.out.kept hb).blk.cell (j := 0) rfl, ((HB1.out.kept HB3.out).kept hb).cell (j := 0) rfl, HLK.out _ (H3.out.kept hb)⟩)
        clear c0 c1 c2
        refine wp_region_noPanic ?_
        refine wp_region_lastH (fun w' => w'.cell? ⟨B, 0, none⟩ = some (ptr b) ∧ w'.cell? ⟨b, 0, none⟩ = some (.map (some mb)) ∧ w'.cell? ⟨B + 1, 0, none⟩ = some (.string s) ∧ (Instr.lookup 52 (.map (some mb)) (.string s) false).run Try.prog w' = .ok (ptr p.a) w') 7 rfl rfl (by kernel_rfl) (by kernel_rfl) (HSS.out _ (below_drewN 1)) (fun hHeld => ?_)
        refine wpAnyH_take (i := 0) (v := ?v7) rfl (by kernel_rfl) (by kernel_rfl) (by kernel_rfl) (fun _ _ _ h => h) (Or.inl ⟨by rfl, ?hy7⟩) (by assumption) ?rest7
        case hy7 => (intro _ hSw; (try dsimp only at hSw); go_simp; (try with_reducible rfl))
        (try simp only [Act.put]); (try simp only [List.setIfInBounds_toArray]); (try simp only [List.set_cons_succ]); (try simp only [List.set_cons_zero])
        refine wpAnyH_take (i := 1) (v := ?v8) rfl (by kernel_rfl) (by kernel_rfl) (by kernel_rfl) (fun _ _ _ h => h) (Or.inl ⟨by rfl, ?hy8⟩) (by assumption) ?rest8
        case hy8 => (intro _ hSw; (try dsimp only at hSw); go_simp; (try with_reducible rfl))
        (try simp only [Act.put]); (try simp only [List.setIfInBounds_toArray]); (try simp only [List.set_cons_succ]); (try simp only [List.set_cons_zero])
        refine wpAnyH_take (i := 2) (v := ?v9) rfl (by kernel_rfl) (by kernel_rfl) (by kernel_rfl) (fun _ _ _ h => h) (Or.inl ⟨by rfl, ?hy9⟩) (by assumption) ?rest9
        case hy9 => (intro _ hSw; (try dsimp only at hSw); go_simp; (try with_reducible rfl))
        (try simp only [Act.put]); (try simp only [List.setIfInBounds_toArray]); (try simp only [List.set_cons_succ]); (try simp only [List.set_cons_zero])
        refine wpAnyH_take (i := 3) (v := ?v10) rfl (by kernel_rfl) (by kernel_rfl) (by kernel_rfl) (fun _ _ _ h => h) (Or.inl ⟨by rfl, ?hy10⟩) (by assumption) ?rest10
        case hy10 => (intro _ hSw; (try dsimp only at hSw); go_simp; (try with_reducible rfl))
        (try simp only [Act.put]); (try simp only [List.setIfInBounds_toArray]); (try simp only [List.set_cons_succ]); (try simp only [List.set_cons_zero])
        refine wpAnyH_take (i := 4) (v := ?v11) rfl (by kernel_rfl) (by kernel_rfl) (by kernel_rfl) (fun _ _ _ h => h) (Or.inl ⟨by rfl, ?hy11⟩) (by assumption) ?rest11
        case hy11 => (intro _ hSw; (try dsimp only at hSw); go_simp; (try with_reducible rfl))
        (try simp only [Act.put]); (try simp only [List.setIfInBounds_toArray]); (try simp only [List.set_cons_succ]); (try simp only [List.set_cons_zero])
        refine wpAnyH_take (i := 5) (v := ?v12) rfl (by kernel_rfl) (by kernel_rfl) (by kernel_rfl) (fun _ _ _ h => h) (Or.inl ⟨by rfl, ?hy12⟩) (by assumption) ?rest12
        case hy12 => (intro _ hSw; (try dsimp only at hSw); go_simp; (try with_reducible rfl))
        (try simp only [Act.put]); (try simp only [List.setIfInBounds_toArray]); (try simp only [List.set_cons_succ]); (try simp only [List.set_cons_zero])
        refine wpAnyH_ready (rs := [6]) (by kernel_rfl) (by simp) ?_
        refine (AllReadyH.cons rfl (fun K hK => ?_) AllReadyH.nil)
        (try simp only [List.getElem_toArray]); (try simp only [List.getElem_cons_succ]); (try simp only [List.getElem_cons_zero])
        go_simp
        obtain ⟨w5, hw5⟩ : ∃ w5, w5 = (w3.alloc (.cells #[.pointer none] 66)).drew := ⟨_, rfl⟩
        obtain ⟨z, hz⟩ : ∃ z, z = w3.heap.size := ⟨_, rfl⟩
        have hb5 : Below w3.heap.size w3 w5 := by rw [hw5]; exact below_ad _ _
        have HZB : Hid (Blk w5 z [.pointer none] 66) := Lib.hid (by rw [hw5, hz]; exact (Blk.made w3 [.pointer none] 66).kept (below_drewN 1))
        have HZ : Hid (w3.heap.size ≤ z) := Lib.hid (by rw [hz]; exact Nat.le_refl _)
        have HB5 := Lib.hid hb5
        rw [← hw5, ← hz]
        refine hK.out _ _ (HSS.out _ hb5) (fun hS1 => ?_)
        clear hw5 hz hb5 hK K hS1
        (try simp only [Act.put]); (try simp only [List.setIfInBounds_toArray]); (try simp only [List.set_cons_succ]); (try simp only [List.set_cons_zero])
        refine wpAnyH_done (by kernel_rfl) ?_ _
        refine LastQ.start rfl ?_
        clear hHeld
        have d0 := HZB.out.cell (j := 0) rfl
        have f0 := HZB.out.free 0
        go_wp2
        refine NoPanic.normal ?_
        have HWS : Hid (Below w3.heap.size w3 (w5.setCell ⟨z, 0, none⟩ (ptr p.a))) := Lib.hid (HB5.out.setCell (p := ⟨z, 0, none⟩) HZ.out _)
        obtain ⟨w6, hw6⟩ : ∃ w6, w6 = w5.setCell ⟨z, 0, none⟩ (ptr p.a) := ⟨_, rfl⟩
        have HBX : Hid (Blk w6 z [ptr p.a] 66) := Lib.hid (by rw [hw6]; exact HZB.out.set 0 _)
        rw [← hw6] at HWS
        have h6 := HWS.out
        have HZW : Hid (z < w6.heap.size) := Lib.hid HBX.out.lt
        have e0 := HBX.out.cell (j := 0) rfl
        rw [← hw6]
        clear hw6 d0 f0
        have HB6 := Lib.hid (below_and HB3.out h6)
        clear h6
        have c1 := (HB1.out.kept HB6.out).cell (j := 0) rfl
        have c2 := (HB2.out.kept HB6.out).cell (j := 0) rfl
        go_wp2
        go_ret
        rw [HF.out]
        exact ⟨rfl, DkTo.same H.out (below_and HBB.out HB6.out)⟩
      · have hne : (s.toList == t.toList) = false := by rw [Lib.toList_data, Lib.toList_data]; simpa using toL_ne hst2
        have HNE := Lib.hid (toL_ne hst2)
        rcases may_cases D with hm | hm
        · have HF : Hid (D.rename s t = (0, (D.stepped.cut s).put { p.f with n := t })) := Lib.hid (by unfold Dk.rename; rw [if_neg ha1, h.get_some hg.symm]; simp only; rw [if_neg hst2, if_pos hm])
          have HMY := Lib.hid hm
          have HR : Hid (KRise Fl.key D.stepped.F) := Lib.hid hi.rise
          have HEG := Lib.hid (Go.Proofs.enters_of Try.func44 (by kernel_rfl) rfl)
          clear h h2 hi hM hN hs ht ha ha1 hg hgg B0 B1 B2 hb2 hst hm hst2 hkey
          go_enter Try.func19, Try.ntmps19
          go_upto_region 1 with fail
          rw [← hw2, ← hB]
          clear hw2 hB
          go_upto_region 4 with (go_at_call 33; refine HA.out.mono ?_; rintro e w3 ⟨rfl, hb⟩; have hb3 := below_and (below_alloc w2 (.cells #[.string s, .string t] 9)) hb; have HB3 := Lib.hid hb3; have H3 := Lib.hid (H2.out.kept hb3); clear hb hb3)
          have HSS : Hid (∀ w', Below w3.heap.size w3 w' → w'.cell? ⟨B, 0, none⟩ = some (ptr b) ∧ w'.cell? ⟨b, 0, none⟩ = some (.map (some mb)) ∧ w'.cell? ⟨B + 1, 0, none⟩ = some (.string s) ∧ (Instr.lookup 52 (.map (some mb)) (.string s) false).run Try.prog w' = .ok (ptr p.a) w') := Lib.hid (fun w' hb => ⟨((HB0.out.kept HB3.out).kept hb).cell (j := 0) rfl, (H3.out.kept hb).blk.cell (j := 0) rfl, ((HB1.out.kept HB3.out).kept hb).cell (j := 0) rfl, HLK.out _ (H3.out.kept hb)⟩)
          clear c0 c1 c2
          refine wp_region_noPanic ?_
          refine wp_region_lastH (fun w' => w'.cell? ⟨B, 0, none⟩ = some (ptr b) ∧ w'.cell? ⟨b, 0, none⟩ = some (.map (some mb)) ∧ w'.cell? ⟨B + 1, 0, none⟩ = some (.string s) ∧ (Instr.lookup 52 (.map (some mb)) (.string s) false).run Try.prog w' = .ok (ptr p.a) w') 7 rfl rfl (by kernel_rfl) (by kernel_rfl) (HSS.out _ (below_drewN 1)) (fun hHeld => ?_)
          refine wpAnyH_take (i := 0) (v := ?v13) rfl (by kernel_rfl) (by kernel_rfl) (by kernel_rfl) (fun _ _ _ h => h) (Or.inl ⟨by rfl, ?hy13⟩) (by assumption) ?rest13
          case hy13 => (intro _ hSw; (try dsimp only at hSw); go_simp; (try with_reducible rfl))
          (try simp only [Act.put]); (try simp only [List.setIfInBounds_toArray]); (try simp only [List.set_cons_succ]); (try simp only [List.set_cons_zero])
          refine wpAnyH_take (i := 1) (v := ?v14) rfl (by kernel_rfl) (by kernel_rfl) (by kernel_rfl) (fun _ _ _ h => h) (Or.inl ⟨by rfl, ?hy14⟩) (by assumption) ?rest14
          case hy14 => (intro _ hSw; (try dsimp only at hSw); go_simp; (try with_reducible rfl))
          (try simp only [Act.put]); (try simp only [List.setIfInBounds_toArray]); (try simp only [List.set_cons_succ]); (try simp only [List.set_cons_zero])
          refine wpAnyH_take (i := 2) (v := ?v15) rfl (by kernel_rfl) (by kernel_rfl) (by kernel_rfl) (fun _ _ _ h => h) (Or.inl ⟨by rfl, ?hy15⟩) (by assumption) ?rest15
          case hy15 => (intro _ hSw; (try dsimp only at hSw); go_simp; (try with_reducible rfl))
          (try simp only [Act.put]); (try simp only [List.setIfInBounds_toArray]); (try simp only [List.set_cons_succ]); (try simp only [List.set_cons_zero])
          refine wpAnyH_take (i := 3) (v := ?v16) rfl (by kernel_rfl) (by kernel_rfl) (by kernel_rfl) (fun _ _ _ h => h) (Or.inl ⟨by rfl, ?hy16⟩) (by assumption) ?rest16
          case hy16 => (intro _ hSw; (try dsimp only at hSw); go_simp; (try with_reducible rfl))
          (try simp only [Act.put]); (try simp only [List.setIfInBounds_toArray]); (try simp only [List.set_cons_succ]); (try simp only [List.set_cons_zero])
          refine wpAnyH_take (i := 4) (v := ?v17) rfl (by kernel_rfl) (by kernel_rfl) (by kernel_rfl) (fun _ _ _ h => h) (Or.inl ⟨by rfl, ?hy17⟩) (by assumption) ?rest17
          case hy17 => (intro _ hSw; (try dsimp only at hSw); go_simp; (try with_reducible rfl))
          (try simp only [Act.put]); (try simp only [List.setIfInBounds_toArray]); (try simp only [List.set_cons_succ]); (try simp only [List.set_cons_zero])
          refine wpAnyH_take (i := 5) (v := ?v18) rfl (by kernel_rfl) (by kernel_rfl) (by kernel_rfl) (fun _ _ _ h => h) (Or.inl ⟨by rfl, ?hy18⟩) (by assumption) ?rest18
          case hy18 => (intro _ hSw; (try dsimp only at hSw); go_simp; (try with_reducible rfl))
          (try simp only [Act.put]); (try simp only [List.setIfInBounds_toArray]); (try simp only [List.set_cons_succ]); (try simp only [List.set_cons_zero])
          refine wpAnyH_ready (rs := [6]) (by kernel_rfl) (by simp) ?_
          refine (AllReadyH.cons rfl (fun K hK => ?_) AllReadyH.nil)
          (try simp only [List.getElem_toArray]); (try simp only [List.getElem_cons_succ]); (try simp only [List.getElem_cons_zero])
          go_simp
          obtain ⟨w5, hw5⟩ : ∃ w5, w5 = (w3.alloc (.cells #[.pointer none] 66)).drew := ⟨_, rfl⟩
          obtain ⟨z, hz⟩ : ∃ z, z = w3.heap.size := ⟨_, rfl⟩
          have hb5 : Below w3.heap.size w3 w5 := by rw [hw5]; exact below_ad _ _
          have HZB : Hid (Blk w5 z [.pointer none] 66) := Lib.hid (by rw [hw5, hz]; exact (Blk.made w3 [.pointer none] 66).kept (below_drewN 1))
          have HZ : Hid (w3.heap.size ≤ z) := Lib.hid (by rw [hz]; exact Nat.le_refl _)
          have HB5 := Lib.hid hb5
          rw [← hw5, ← hz]
          refine hK.out _ _ (HSS.out _ hb5) (fun hS1 => ?_)
          clear hw5 hz hb5 hK K hS1
          (try simp only [Act.put]); (try simp only [List.setIfInBounds_toArray]); (try simp only [List.set_cons_succ]); (try simp only [List.set_cons_zero])
          refine wpAnyH_done (by kernel_rfl) ?_ _
          refine LastQ.start rfl ?_
          clear hHeld
          have d0 := HZB.out.cell (j := 0) rfl
          have f0 := HZB.out.free 0
          go_wp2
          refine NoPanic.normal ?_
          have HWS : Hid (Below w3.heap.size w3 (w5.setCell ⟨z, 0, none⟩ (ptr p.a))) := Lib.hid (HB5.out.setCell (p := ⟨z, 0, none⟩) HZ.out _)
          obtain ⟨w6, hw6⟩ : ∃ w6, w6 = w5.setCell ⟨z, 0, none⟩ (ptr p.a) := ⟨_, rfl⟩
          have HBX : Hid (Blk w6 z [ptr p.a] 66) := Lib.hid (by rw [hw6]; exact HZB.out.set 0 _)
          rw [← hw6] at HWS
          have h6 := HWS.out
          have HZW : Hid (z < w6.heap.size) := Lib.hid HBX.out.lt
          have e0 := HBX.out.cell (j := 0) rfl
          rw [← hw6]
          clear hw6 d0 f0
          have hba := below_and HB3.out h6
          have HSZ6 : Hid (B + 3 ≤ z) := Lib.hid (by have := HB3.out.size; have := HZ.out; have := HSZ.out; omega)
          have HBA := Lib.hid hba
          have H7 := Lib.hid (H2.out.kept hba)
          clear h6 hba
          have c0 := (HB0.out.kept HBA.out).cell (j := 0) rfl
          have c1 := (HB1.out.kept HBA.out).cell (j := 0) rfl
          have c2 := (HB2.out.kept HBA.out).cell (j := 0) rfl
          go_wp2_with (go_at_call 34; refine (step_to H7.out HI.out HN.out HMY.out 44 _ ((D.stepped.cut s).put { p.f with n := t }) HEG.out (fun w1 h1 hf => rename1 b mb B (B + 1) z (B + 2) D.stepped L s t p w1 h1 HR.out HS.out HT.out HLN.out HG.out HNE.out
            (cell_frp ((HB0.out.kept HBA.out).cell (j := 0) rfl) hf (fun e => by have := HLT.out b (.inl rfl); simp only at e; omega)) (cell_frp ((HB1.out.kept HBA.out).cell (j := 0) rfl) hf (fun e => by have := HLT.out b (.inl rfl); simp only at e; omega)) (cell_frp (HBX.out.cell (j := 0) rfl) hf (fun e => by have := HLT.out b (.inl rfl); have := HSZ6.out; simp only at e; omega)) (cell_frp ((HB2.out.kept HBA.out).cell (j := 0) rfl) hf (fun e => by have := HLT.out b (.inl rfl); simp only at e; omega))
            ⟨by have h1 := hf.size; have := HSZ6.out; have := HZW.out; omega, fun k hk => by have := HLT.out k hk; have := HSZ6.out; omega⟩)).mono ?_; rintro e w7 ⟨rfl, hd⟩; have HD7 := Lib.hid hd; clear hd)
          go_ret
          rw [HF.out]
          exact ⟨rfl, HD7.out.box (below_and HBB.out HBA.out)⟩
        · have HF : Hid (D.rename s t = (10, D.dead)) := Lib.hid (by unfold Dk.rename; rw [if_neg ha1, h.get_some hg.symm]; simp only; rw [if_neg hst2, if_neg (by rw [hm]; simp)])
          have HMY := Lib.hid hm
          clear h h2 hi hM hN hs ht ha ha1 hg hgg B0 B1 B2 hb2 hst hm hst2 hkey
          go_enter Try.func19, Try.ntmps19
          go_upto_region 1 with fail
          rw [← hw2, ← hB]
          clear hw2 hB
          go_upto_region 4 with (go_at_call 33; refine HA.out.mono ?_; rintro e w3 ⟨rfl, hb⟩; have hb3 := below_and (below_alloc w2 (.cells #[.string s, .string t] 9)) hb; have HB3 := Lib.hid hb3; have H3 := Lib.hid (H2.out.kept hb3); clear hb hb3)
          have HSS : Hid (∀ w', Below w3.heap.size w3 w' → w'.cell? ⟨B, 0, none⟩ = some (ptr b) ∧ w'.cell? ⟨b, 0, none⟩ = some (.map (some mb)) ∧ w'.cell? ⟨B + 1, 0, none⟩ = some (.string s) ∧ (Instr.lookup 52 (.map (some mb)) (.string s) false).run Try.prog w' = .ok (ptr p.a) w') := Lib.hid (fun w' hb => ⟨((HB0.out.kept HB3.out).kept hb).cell (j := 0) rfl, (H3.out.kept hb).blk.cell (j := 0) rfl, ((HB1.out.kept HB3.out).kept hb).cell (j := 0) rfl, HLK.out _ (H3.out.kept hb)⟩)
          clear c0 c1 c2
          refine wp_region_noPanic ?_
          refine wp_region_lastH (fun w' => w'.cell? ⟨B, 0, none⟩ = some (ptr b) ∧ w'.cell? ⟨b, 0, none⟩ = some (.map (some mb)) ∧ w'.cell? ⟨B + 1, 0, none⟩ = some (.string s) ∧ (Instr.lookup 52 (.map (some mb)) (.string s) false).run Try.prog w' = .ok (ptr p.a) w') 7 rfl rfl (by kernel_rfl) (by kernel_rfl) (HSS.out _ (below_drewN 1)) (fun hHeld => ?_)
          refine wpAnyH_take (i := 0) (v := ?v19) rfl (by kernel_rfl) (by kernel_rfl) (by kernel_rfl) (fun _ _ _ h => h) (Or.inl ⟨by rfl, ?hy19⟩) (by assumption) ?rest19
          case hy19 => (intro _ hSw; (try dsimp only at hSw); go_simp; (try with_reducible rfl))
          (try simp only [Act.put]); (try simp only [List.setIfInBounds_toArray]); (try simp only [List.set_cons_succ]); (try simp only [List.set_cons_zero])
          refine wpAnyH_take (i := 1) (v := ?v20) rfl (by kernel_rfl) (by kernel_rfl) (by kernel_rfl) (fun _ _ _ h => h) (Or.inl ⟨by rfl, ?hy20⟩) (by assumption) ?rest20
          case hy20 => (intro _ hSw; (try dsimp only at hSw); go_simp; (try with_reducible rfl))
          (try simp only [Act.put]); (try simp only [List.setIfInBounds_toArray]); (try simp only [List.set_cons_succ]); (try simp only [List.set_cons_zero])
          refine wpAnyH_take (i := 2) (v := ?v21) rfl (by kernel_rfl) (by kernel_rfl) (by kernel_rfl) (fun _ _ _ h => h) (Or.inl ⟨by rfl, ?hy21⟩) (by assumption) ?rest21
          case hy21 => (intro _ hSw; (try dsimp only at hSw); go_simp; (try with_reducible rfl))
          (try simp only [Act.put]); (try simp only [List.setIfInBounds_toArray]); (try simp only [List.set_cons_succ]); (try simp only [List.set_cons_zero])
          refine wpAnyH_take (i := 3) (v := ?v22) rfl (by kernel_rfl) (by kernel_rfl) (by kernel_rfl) (fun _ _ _ h => h) (Or.inl ⟨by rfl, ?hy22⟩) (by assumption) ?rest22
          case hy22 => (intro _ hSw; (try dsimp only at hSw); go_simp; (try with_reducible rfl))
          (try simp only [Act.put]); (try simp only [List.setIfInBounds_toArray]); (try simp only [List.set_cons_succ]); (try simp only [List.set_cons_zero])
          refine wpAnyH_take (i := 4) (v := ?v23) rfl (by kernel_rfl) (by kernel_rfl) (by kernel_rfl) (fun _ _ _ h => h) (Or.inl ⟨by rfl, ?hy23⟩) (by assumption) ?rest23
          case hy23 => (intro _ hSw; (try dsimp only at hSw); go_simp; (try with_reducible rfl))
          (try simp only [Act.put]); (try simp only [List.setIfInBounds_toArray]); (try simp only [List.set_cons_succ]); (try simp only [List.set_cons_zero])
          refine wpAnyH_take (i := 5) (v := ?v24) rfl (by kernel_rfl) (by kernel_rfl) (by kernel_rfl) (fun _ _ _ h => h) (Or.inl ⟨by rfl, ?hy24⟩) (by assumption) ?rest24
          case hy24 => (intro _ hSw; (try dsimp only at hSw); go_simp; (try with_reducible rfl))
          (try simp only [Act.put]); (try simp only [List.setIfInBounds_toArray]); (try simp only [List.set_cons_succ]); (try simp only [List.set_cons_zero])
          refine wpAnyH_ready (rs := [6]) (by kernel_rfl) (by simp) ?_
          refine (AllReadyH.cons rfl (fun K hK => ?_) AllReadyH.nil)
          (try simp only [List.getElem_toArray]); (try simp only [List.getElem_cons_succ]); (try simp only [List.getElem_cons_zero])
          go_simp
          obtain ⟨w5, hw5⟩ : ∃ w5, w5 = (w3.alloc (.cells #[.pointer none] 66)).drew := ⟨_, rfl⟩
          obtain ⟨z, hz⟩ : ∃ z, z = w3.heap.size := ⟨_, rfl⟩
          have hb5 : Below w3.heap.size w3 w5 := by rw [hw5]; exact below_ad _ _
          have HZB : Hid (Blk w5 z [.pointer none] 66) := Lib.hid (by rw [hw5, hz]; exact (Blk.made w3 [.pointer none] 66).kept (below_drewN 1))
          have HZ : Hid (w3.heap.size ≤ z) := Lib.hid (by rw [hz]; exact Nat.le_refl _)
          have HB5 := Lib.hid hb5
          rw [← hw5, ← hz]
          refine hK.out _ _ (HSS.out _ hb5) (fun hS1 => ?_)
          clear hw5 hz hb5 hK K hS1
          (try simp only [Act.put]); (try simp only [List.setIfInBounds_toArray]); (try simp only [List.set_cons_succ]); (try simp only [List.set_cons_zero])
          refine wpAnyH_done (by kernel_rfl) ?_ _
          refine LastQ.start rfl ?_
          clear hHeld
          have d0 := HZB.out.cell (j := 0) rfl
          have f0 := HZB.out.free 0
          go_wp2
          refine NoPanic.normal ?_
          have HWS : Hid (Below w3.heap.size w3 (w5.setCell ⟨z, 0, none⟩ (ptr p.a))) := Lib.hid (HB5.out.setCell (p := ⟨z, 0, none⟩) HZ.out _)
          obtain ⟨w6, hw6⟩ : ∃ w6, w6 = w5.setCell ⟨z, 0, none⟩ (ptr p.a) := ⟨_, rfl⟩
          have HBX : Hid (Blk w6 z [ptr p.a] 66) := Lib.hid (by rw [hw6]; exact HZB.out.set 0 _)
          rw [← hw6] at HWS
          have h6 := HWS.out
          have HZW : Hid (z < w6.heap.size) := Lib.hid HBX.out.lt
          have e0 := HBX.out.cell (j := 0) rfl
          rw [← hw6]
          clear hw6 d0 f0
          have hba := below_and HB3.out h6
          have HBA := Lib.hid hba
          have H7 := Lib.hid (H2.out.kept hba)
          clear h6 hba
          have c0 := (HB0.out.kept HBA.out).cell (j := 0) rfl
          have c1 := (HB1.out.kept HBA.out).cell (j := 0) rfl
          have c2 := (HB2.out.kept HBA.out).cell (j := 0) rfl
          go_wp2_with (go_at_call 34; refine (step_dead H7.out HMY.out _).mono ?_; rintro e w7 ⟨rfl, hd⟩; have HD7 := Lib.hid hd; clear hd)
          go_ret
          rw [HF.out]
          exact ⟨rfl, HD7.out.box (below_and HBB.out HBA.out)⟩
  · have HA := Lib.hid (asked_any b mb D L [s, t] _ _ (h2.kept (below_alloc w2 (.cells #[.string s, .string t] 9))) (row2 w2 s t 9) hst)
    have HF : Hid (D.rename s t = (D.ask [s, t], D)) := Lib.hid (by unfold Dk.rename; rw [if_pos ha])
    obtain ⟨q, hq⟩ : ∃ q, q = D.ask [s, t] := ⟨_, rfl⟩
    rw [← hq] at ha HA HF
    have q0 : (q != 0) = true := by simpa using ha
    clear h h2 hi hM hN hs ht ha hq B0 B1 B2 hb2 hst
    go_enter Try.func19, Try.ntmps19
    go_upto_region 1 with fail
    rw [← hw2, ← hB]
    clear hw2 hB
    go_wp2_with (go_at_call 33; refine HA.out.mono ?_; rintro e w3 ⟨rfl, hb⟩; have hb3 := below_and (below_alloc w2 (.cells #[.string s, .string t] 9)) hb; have HB3 := Lib.hid hb3; clear hb hb3)
    go_ret
    rw [HF.out]
    exact ⟨rfl, DkTo.same H.out (below_and HBB.out HB3.out)⟩
end
end Go.Proofs.Ytgcemddobcjpnaa
