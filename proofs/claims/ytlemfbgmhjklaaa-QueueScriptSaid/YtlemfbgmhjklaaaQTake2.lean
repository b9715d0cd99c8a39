/- The queue's Take. -/
import Derived.Test.YtlemfbgmhjklaaaQTake
import Derived.Deep.Cut
namespace Go.Proofs.Ytlemfbgmhjklaaa
open Go.RowKit

set_option maxRecDepth 100000 in
set_option maxHeartbeats 1000000 in
theorem take_none (b : Nat) (T : Int) (v : Value) (w : World) (h : Qu w b T v []) :
    Calls Try.prog 14 #[ptr b] w fun e w' => e = .returned (.tuple #[pzv, .bool false]) ∧ Below w.heap.size w w' := by
  have h1 := Lib.hid (h.kept (below_alloc w (.cells #[.string ⟨#[]⟩, .int .i64 0, .string ⟨#[]⟩, .int .i64 0] 29)))
  have hb1 := Lib.hid (below_alloc w (.cells #[.string ⟨#[]⟩, .int .i64 0, .string ⟨#[]⟩, .int .i64 0] 29))
  have HM := Lib.hid (Blk.made w [.string ⟨#[]⟩, .int .i64 0, .string ⟨#[]⟩, .int .i64 0] 29)
  clear h
  go_enter Try.func14, Try.ntmps14
  go_wp2_with (go_at_call 18; refine (peek_none b T v _ h1.out).mono ?_; rintro e w2 ⟨rfl, hb⟩; have HB := Lib.hid hb; have HM2 : Hid (Blk (w2.alloc (.cells #[.string ⟨#[]⟩, .int .i64 0, .string ⟨#[]⟩, .int .i64 0] 29)) w.heap.size [.string ⟨#[]⟩, .int .i64 0, .string ⟨#[]⟩, .int .i64 0] 29) := Lib.hid ((HM.out.kept hb).alloc _); have g0 := HM2.out.cell (j := 0) rfl; have g1 := HM2.out.cell (j := 1) rfl; have g2 := HM2.out.cell (j := 2) rfl; have g3 := HM2.out.cell (j := 3) rfl; have f0 := HM2.out.free; clear hb)
  exact ret_cell rfl rfl rfl (blk_fill HM2.out) Try.underlying29 rfl info_pend2 ⟨rfl, below_fill (below_and hb1.out (below_and HB.out (below_alloc w2 _))) (Nat.le_refl _) (Nat.le_refl _) _ _ _ _⟩

theorem own_ty {w : World} {base : Nat} {e t : TypeId} {size n : Nat} {v : Value} {xs cs : List Value} {g : Nat} (h : w.ownsRow base e size v n xs) (hb : Blk w g cs t) (ht : t ≠ e) : v.ownBlock ≠ some g := by
  intro hg
  rcases h.2 with ⟨rfl, -⟩ | ⟨g', cap, cur, rfl, -, hh, -⟩
  · cases hg
  · simp only [Value.ownBlock, Option.some.injEq] at hg
    subst hg
    unfold Blk at hb
    rw [hh] at hb
    simp only [Option.some.injEq, Obj.cells.injEq] at hb
    exact ht hb.2.1.symm

/-- the first row without its first task: where its slice lies then -/
theorem cut_row {w : World} {r : PRow} {p : Pend} {tl : List Pend} (h : RowAt w r) (hp : r.a.ps = p :: tl) :
    ∃ q o c, r.v = .slice (some ⟨q, o, none⟩) (tl.length + 1) c ∧ tl.length + 1 ≤ c ∧ c ≤ maxLen ∧ q ≠ r.g ∧
      OwnO w 29 4 (.slice (if c = 1 then some ⟨q, o, none⟩ else some ⟨q, o + 4, none⟩) tl.length (c - 1)) tl.length (pcells tl) := by
  obtain ⟨q, o, c, hv, h1, h2, -⟩ := h.own.shape
  have ho := h.own
  have hne := h.ne
  rw [hp] at hv h1 ho
  rw [hv] at ho hne
  simp only [List.length_cons] at hv h1 ho
  refine ⟨q, o, c, hv, h1, h2, fun e => hne (by rw [e]; rfl), ?_⟩
  split
  · rename_i hc
    subst hc
    have h0 : tl = [] := List.eq_nil_of_length_eq_zero (by omega)
    subst h0
    have := ho.empty (q := o) (by simp)
    simpa [pcells] using this
  · have := ho.back (m := 1) (by omega)
    simpa [pcells, pend] using this

set_option maxRecDepth 100000 in
set_option maxHeartbeats 2000000 in
theorem take_some (b : Nat) (T : Int) (v : Value) (r : PRow) (R : List PRow) (p : Pend) (tl : List Pend) (w : World) (h : Qu w b T v (r :: R)) (hs : SepR (r :: R)) (hp : r.a.ps = p :: tl) (hl : R.length ≤ 800000) (hT : 0 ≤ T) (hT2 : T ≤ 4611686018427387904) (htl : tl.length ≤ 900000) :
    Calls Try.prog 14 #[ptr b] w fun e w' => e = .returned (.tuple #[pval p, .bool true]) ∧ Fr (fpW b v ++ fpR r) w w' ∧ ∃ v' v1, (∀ k, v1.ownBlock = some k → r.v.ownBlock = some k) ∧ (∀ k, v'.ownBlock = some k → v.ownBlock = some k ∨ w.heap.size ≤ k) ∧
      ((tl = [] ∧ Qu w' b T v' (Hp.remove rlt (⟨r.g, v1, ⟨r.a.key, r.a.turn, []⟩⟩ :: R) 0)) ∨
       (tl ≠ [] ∧ Qu w' b (T + 1) v' (Hp.down rlt (⟨r.g, v1, ⟨r.a.key, T + 1, tl⟩⟩ :: R) (R.length + 1) 0).1)) := by
  have hml : maxLen ≤ 9223372036854775807 := by decide
  have hb1 := Lib.hid (below_alloc w (.cells #[.string ⟨#[]⟩, .int .i64 0, .string ⟨#[]⟩, .int .i64 0] 29))
  have h1 := Lib.hid (h.kept hb1.out)
  have HM := Lib.hid (Blk.made w [.string ⟨#[]⟩, .int .i64 0, .string ⟨#[]⟩, .int .i64 0] 29)
  obtain ⟨ga, cap, rfl, hcap, hn, hga, hgb⟩ := h.lies (by simp)
  have H := Lib.hid h
  have HS := Lib.hid hs
  have HP := Lib.hid hp
  clear h hs hp
  go_enter Try.func14, Try.ntmps14
  go_upto_region 4 with (go_at_call 18; refine (peek_some b T _ r R p tl _ h1.out HP.out).mono ?_; rintro e w2 ⟨rfl, hb⟩; have HB := Lib.hid hb; clear hb)
  obtain ⟨w3, hw3⟩ : ∃ w3, w3 = w2.alloc (.cells #[.string p.job, .int .i64 p.idx, .string p.user, .int .i64 p.band] 29) := ⟨_, rfl⟩
  obtain ⟨tc, htc⟩ : ∃ tc, tc = w.heap.size := ⟨_, rfl⟩
  obtain ⟨td, htd⟩ : ∃ td, td = w2.heap.size := ⟨_, rfl⟩
  have HB2 : Hid (Below w.heap.size w w2) := Lib.hid (below_and hb1.out HB.out)
  have HB3 : Hid (Below w.heap.size w w3) := Lib.hid (by rw [hw3]; exact below_and HB2.out (below_alloc w2 _))
  have HQ3 : Hid (Qu w3 b T (.slice (some ⟨ga, 0, none⟩) (r :: R).length cap) (r :: R)) := Lib.hid (H.out.kept HB3.out)
  have HMC : Hid (Blk w3 tc [.string ⟨#[]⟩, .int .i64 0, .string ⟨#[]⟩, .int .i64 0] 29) := Lib.hid (by rw [hw3, htc]; exact (HM.out.kept HB.out).alloc _)
  have HMD : Hid (Blk w3 td (pend p) 29) := Lib.hid (by rw [hw3, htd]; exact Blk.made w2 (pend p) _)
  have HTC : Hid (tc = w.heap.size) := Lib.hid htc
  have HTD : Hid (w.heap.size ≤ td) := Lib.hid (by rw [htd]; exact HB2.out.size)
  have HTDC : Hid (td ≠ tc) := Lib.hid (by
    have h5 := (HM.out.kept HB.out).lt
    omega)
  rw [← hw3, ← htd, ← htc]
  clear hw3 htc htd hb1 h1 HM HB
  have HLT : Hid (∀ k ∈ fpW b (.slice (some ⟨ga, 0, none⟩) (r :: R).length cap) ++ fpR r, k < w.heap.size) := Lib.hid (fun k hk => by
    rcases List.mem_append.1 hk with hk | hk
    · rcases mem_fpW.1 hk with rfl | hk
      · exact H.out.blk.lt
      · exact own_hi H.out.own hk
    · exact (H.out.rows r (by simp)).1.lt hk)
  obtain ⟨q, o, c, hv, hc1, hcm, hqg, hcut⟩ := cut_row (HQ3.out.rows r (by simp)).1 HP.out
  obtain ⟨rg, rv, rk, rt, rps⟩ := r
  simp only at hv hqg HP
  subst hv
  have HR3 := Lib.hid (HQ3.out.rows _ (List.mem_cons_self)).1
  have HFP : Hid (∀ k, k ∈ fpR (⟨rg, .slice (some ⟨q, o, none⟩) (tl.length + 1) c, ⟨rk, rt, rps⟩⟩ : PRow) ↔ k = rg ∨ k = q) := Lib.hid (fun k => by rw [mem_fpR]; simp [Value.ownBlock, eq_comm])
  have HHF : Hid (∀ (v5 : Value) (w5 : World), Fr (fpW b (.slice (some ⟨ga, 0, none⟩) (R.length + 1) cap) ++ fpR (⟨rg, .slice (some ⟨q, o, none⟩) (tl.length + 1) c, ⟨rk, rt, rps⟩⟩ : PRow)) w3 w5 → Blk w5 tc [.string ⟨#[]⟩, .int .i64 0, .string ⟨#[]⟩, .int .i64 0] 29 ∧ Blk w5 td (pend p) 29) := Lib.hid (fun v5 w5 hf => ⟨HMC.out.fr hf (fun hm => by have h6 := HLT.out _ hm; have h7 := HTC.out; omega), HMD.out.fr hf (fun hm => by have h6 := HLT.out _ hm; have h7 := HTD.out; omega)⟩)
  have hne3 : some rg ≠ some b := fun e => (HQ3.out.rows _ (List.mem_cons_self)).2 rg (mem_fpR.2 (.inl rfl)) (mem_fpW.2 (.inl (by simpa using e)))
  have hne4 : rg ≠ b := fun e => hne3 (by rw [e])
  have hne5 : rg ≠ ga := fun e => (HQ3.out.rows _ (List.mem_cons_self)).2 rg (mem_fpR.2 (.inl rfl)) (mem_fpW.2 (.inr (by rw [e]; rfl)))
  have c0 := HQ3.out.blk.cell (j := 0) rfl
  have c1 := own_cell HQ3.out.own (rptrs_at (R := ⟨rg, .slice (some ⟨q, o, none⟩) (tl.length + 1) c, ⟨rk, rt, rps⟩⟩ :: R) (i := 0) rfl)
  have c2 := HR3.out.blk.cell (j := 3) rfl
  have f2 := HR3.out.blk.free 3
  have l2 : (0 : Int) < (R.length : Int) + 1 := by omega
  have l3 : (1 : Int) ≤ (tl.length : Int) + 1 := by omega
  simp only [List.length_cons] at c0 c2
  have HCUT := Lib.hid hcut
  by_cases htl : tl = []
  · subst htl
    simp only [List.length_nil] at *
    by_cases hc : c = 1
    · subst hc
      rw [if_pos rfl] at HCUT
      have HQ4 : Hid (Qu (w3.setCell ⟨rg, 3, none⟩ (.slice (some ⟨q, o, none⟩) 0 0)) b T (.slice (some ⟨ga, 0, none⟩) (R.length + 1) cap) (⟨rg, (.slice (some ⟨q, o, none⟩) 0 0), ⟨rk, rt, []⟩⟩ :: R)) := Lib.hid (by
        refine (Qu.set (i := 0) (r' := ⟨rg, (.slice (some ⟨q, o, none⟩) 0 0), ⟨rk, rt, []⟩⟩) HQ3.out HS.out rfl ((Fr.refl _ _).set (p := ⟨rg, 3, none⟩) (mem_fpR.2 (.inl rfl)) _) rfl ⟨HR3.out.blk.set 3 _, ?_, fun e => hqg (by simpa [Value.ownBlock] using e)⟩ (fun k hk => .inl (by rw [mem_fpR] at hk ⊢; simpa [Value.ownBlock] using hk))).1
        exact HCUT.out.fr ((Fr.refl [rg] w3).set (p := ⟨rg, 3, none⟩) (by simp) _) (fun g hg hm => hqg (by rw [← List.mem_singleton.1 hm]; simpa [Value.ownBlock] using hg)))
      have HF4 : Hid (Fr (fpW b (.slice (some ⟨ga, 0, none⟩) (R.length + 1) cap) ++ fpR (⟨rg, .slice (some ⟨q, o, none⟩) (0 + 1) 1, ⟨rk, rt, rps⟩⟩ : PRow)) w (w3.setCell ⟨rg, 3, none⟩ (.slice (some ⟨q, o, none⟩) 0 0))) := Lib.hid ((Fr.of_below HB3.out _).set (p := ⟨rg, 3, none⟩) (List.mem_append_right _ (mem_fpR.2 (.inl rfl))) _)
      have HF43 : Hid (Fr (fpW b (.slice (some ⟨ga, 0, none⟩) (R.length + 1) cap) ++ fpR (⟨rg, .slice (some ⟨q, o, none⟩) (0 + 1) 1, ⟨rk, rt, rps⟩⟩ : PRow)) w3 (w3.setCell ⟨rg, 3, none⟩ (.slice (some ⟨q, o, none⟩) 0 0))) := Lib.hid ((Fr.refl _ _).set (p := ⟨rg, 3, none⟩) (List.mem_append_right _ (mem_fpR.2 (.inl rfl))) _)
      clear hcut hqg hne3
      go_wp2_with (go_at_call 31; refine (hpop_any b T _ (⟨rg, (.slice (some ⟨q, o, none⟩) 0 0), ⟨rk, rt, []⟩⟩ :: R) R.length ⟨rg, (.slice (some ⟨q, o, none⟩) 0 0), ⟨rk, rt, []⟩⟩ _ HQ4.out rfl rfl (by simp; omega)).mono ?_; rintro e w5 ⟨rfl, v5, hw, hst⟩; have HE := Lib.hid (HHF.out v5 w5 (HF43.out.then (hst.fr.mono (fun k hk => List.mem_append_left _ hk)))); have HFA := Lib.hid (HF4.out.then (hst.fr.mono (fun k hk => List.mem_append_left _ hk))); have HN5 : Hid (∀ k, v5.ownBlock = some k → Value.ownBlock (.slice (some ⟨ga, 0, none⟩) (R.length + 1) cap) = some k ∨ w.heap.size ≤ k) := Lib.hid (fun k hk => (hst.new k hk).imp id (fun h => Nat.le_trans HF4.out.size h)); have HW5 := Lib.hid hw; have s0 := HE.out.2.cell (j := 0) rfl; have s1 := HE.out.2.cell (j := 1) rfl; have s2 := HE.out.2.cell (j := 2) rfl; have s3 := HE.out.2.cell (j := 3) rfl; have g0 := HE.out.1.cell (j := 0) rfl; have g1 := HE.out.1.cell (j := 1) rfl; have g2 := HE.out.1.cell (j := 2) rfl; have g3 := HE.out.1.cell (j := 3) rfl; have gf := HE.out.1.free; clear hw hst c0 c1 c2 f2)
      have HQF : Hid (∀ w9, Fr [tc] w5 w9 → Qu w9 b T v5 (Hp.remove rlt (⟨rg, (.slice (some ⟨q, o, none⟩) 0 0), ⟨rk, rt, []⟩⟩ :: R) 0)) := Lib.hid (fun w9 hf => by
        refine HW5.out.fr hf (fun k hk hm => ?_) (fun s hsm k hk hm => ?_)
        · rw [List.mem_singleton.1 hm] at hk
          have h7 := HTC.out
          rcases mem_fpW.1 hk with e | e
          · have h6 := HLT.out b (List.mem_append_left _ (mem_fpW.2 (.inl rfl))); omega
          · exact own_ty HW5.out.own HE.out.1 (by decide) e
        · rw [List.mem_singleton.1 hm] at hk
          have h7 := HTC.out
          have hmem : s ∈ (⟨rg, (.slice (some ⟨q, o, none⟩) 0 0), ⟨rk, rt, []⟩⟩ : PRow) :: R := ((Hp.remove_perm rlt (⟨rg, (.slice (some ⟨q, o, none⟩) 0 0), ⟨rk, rt, []⟩⟩ :: R) 0 _ rfl).mem_iff).2 (List.mem_cons_of_mem _ hsm)
          rcases List.mem_cons.1 hmem with rfl | hmem
          · have h6 := HLT.out tc (List.mem_append_right _ ((HFP.out tc).2 (by rw [mem_fpR] at hk; simpa [Value.ownBlock, eq_comm] using hk))); omega
          · have h6 := (H.out.rows s (List.mem_cons_of_mem _ hmem)).1.lt hk; omega)
      refine ret_cell rfl rfl rfl (blk_fill HE.out.1) Try.underlying29 rfl info_pend2 ⟨rfl, ?_, v5, (.slice (some ⟨q, o, none⟩) 0 0), ?_, ?_, ?_⟩
      · exact HFA.out.trans (T := [tc]) ((((((Fr.refl [tc] w5).set (p := ⟨tc, 0, none⟩) (by simp) _).set (p := ⟨tc, 1, none⟩) (by simp) _).set (p := ⟨tc, 2, none⟩) (by simp) _).set (p := ⟨tc, 3, none⟩) (by simp) _)) (fun x hx => .inr (by rw [List.mem_singleton.1 hx, HTC.out]; exact Nat.le_refl _))
      · intro k hk
        simpa [Value.ownBlock] using hk
      · exact HN5.out
      · exact HQF.out _ (((((Fr.refl [tc] w5).set (p := ⟨tc, 0, none⟩) (by simp) _).set (p := ⟨tc, 1, none⟩) (by simp) _).set (p := ⟨tc, 2, none⟩) (by simp) _).set (p := ⟨tc, 3, none⟩) (by simp) _)

    · rw [if_neg hc] at HCUT
      have HQ4 : Hid (Qu (w3.setCell ⟨rg, 3, none⟩ (.slice (some ⟨q, o + 4, none⟩) 0 (c - 1))) b T (.slice (some ⟨ga, 0, none⟩) (R.length + 1) cap) (⟨rg, (.slice (some ⟨q, o + 4, none⟩) 0 (c - 1)), ⟨rk, rt, []⟩⟩ :: R)) := Lib.hid (by
        refine (Qu.set (i := 0) (r' := ⟨rg, (.slice (some ⟨q, o + 4, none⟩) 0 (c - 1)), ⟨rk, rt, []⟩⟩) HQ3.out HS.out rfl ((Fr.refl _ _).set (p := ⟨rg, 3, none⟩) (mem_fpR.2 (.inl rfl)) _) rfl ⟨HR3.out.blk.set 3 _, ?_, fun e => hqg (by simpa [Value.ownBlock] using e)⟩ (fun k hk => .inl (by rw [mem_fpR] at hk ⊢; simpa [Value.ownBlock] using hk))).1
        exact HCUT.out.fr ((Fr.refl [rg] w3).set (p := ⟨rg, 3, none⟩) (by simp) _) (fun g hg hm => hqg (by rw [← List.mem_singleton.1 hm]; simpa [Value.ownBlock] using hg)))
      have HF4 : Hid (Fr (fpW b (.slice (some ⟨ga, 0, none⟩) (R.length + 1) cap) ++ fpR (⟨rg, .slice (some ⟨q, o, none⟩) (0 + 1) c, ⟨rk, rt, rps⟩⟩ : PRow)) w (w3.setCell ⟨rg, 3, none⟩ (.slice (some ⟨q, o + 4, none⟩) 0 (c - 1)))) := Lib.hid ((Fr.of_below HB3.out _).set (p := ⟨rg, 3, none⟩) (List.mem_append_right _ (mem_fpR.2 (.inl rfl))) _)
      have HF43 : Hid (Fr (fpW b (.slice (some ⟨ga, 0, none⟩) (R.length + 1) cap) ++ fpR (⟨rg, .slice (some ⟨q, o, none⟩) (0 + 1) c, ⟨rk, rt, rps⟩⟩ : PRow)) w3 (w3.setCell ⟨rg, 3, none⟩ (.slice (some ⟨q, o + 4, none⟩) 0 (c - 1)))) := Lib.hid ((Fr.refl _ _).set (p := ⟨rg, 3, none⟩) (List.mem_append_right _ (mem_fpR.2 (.inl rfl))) _)
      clear hcut hqg hne3
      go_wp2_with (go_at_call 31; refine (hpop_any b T _ (⟨rg, (.slice (some ⟨q, o + 4, none⟩) 0 (c - 1)), ⟨rk, rt, []⟩⟩ :: R) R.length ⟨rg, (.slice (some ⟨q, o + 4, none⟩) 0 (c - 1)), ⟨rk, rt, []⟩⟩ _ HQ4.out rfl rfl (by simp; omega)).mono ?_; rintro e w5 ⟨rfl, v5, hw, hst⟩; have HE := Lib.hid (HHF.out v5 w5 (HF43.out.then (hst.fr.mono (fun k hk => List.mem_append_left _ hk)))); have HFA := Lib.hid (HF4.out.then (hst.fr.mono (fun k hk => List.mem_append_left _ hk))); have HN5 : Hid (∀ k, v5.ownBlock = some k → Value.ownBlock (.slice (some ⟨ga, 0, none⟩) (R.length + 1) cap) = some k ∨ w.heap.size ≤ k) := Lib.hid (fun k hk => (hst.new k hk).imp id (fun h => Nat.le_trans HF4.out.size h)); have HW5 := Lib.hid hw; have s0 := HE.out.2.cell (j := 0) rfl; have s1 := HE.out.2.cell (j := 1) rfl; have s2 := HE.out.2.cell (j := 2) rfl; have s3 := HE.out.2.cell (j := 3) rfl; have g0 := HE.out.1.cell (j := 0) rfl; have g1 := HE.out.1.cell (j := 1) rfl; have g2 := HE.out.1.cell (j := 2) rfl; have g3 := HE.out.1.cell (j := 3) rfl; have gf := HE.out.1.free; clear hw hst c0 c1 c2 f2)
      have HQF : Hid (∀ w9, Fr [tc] w5 w9 → Qu w9 b T v5 (Hp.remove rlt (⟨rg, (.slice (some ⟨q, o + 4, none⟩) 0 (c - 1)), ⟨rk, rt, []⟩⟩ :: R) 0)) := Lib.hid (fun w9 hf => by
        refine HW5.out.fr hf (fun k hk hm => ?_) (fun s hsm k hk hm => ?_)
        · rw [List.mem_singleton.1 hm] at hk
          have h7 := HTC.out
          rcases mem_fpW.1 hk with e | e
          · have h6 := HLT.out b (List.mem_append_left _ (mem_fpW.2 (.inl rfl))); omega
          · exact own_ty HW5.out.own HE.out.1 (by decide) e
        · rw [List.mem_singleton.1 hm] at hk
          have h7 := HTC.out
          have hmem : s ∈ (⟨rg, (.slice (some ⟨q, o + 4, none⟩) 0 (c - 1)), ⟨rk, rt, []⟩⟩ : PRow) :: R := ((Hp.remove_perm rlt (⟨rg, (.slice (some ⟨q, o + 4, none⟩) 0 (c - 1)), ⟨rk, rt, []⟩⟩ :: R) 0 _ rfl).mem_iff).2 (List.mem_cons_of_mem _ hsm)
          rcases List.mem_cons.1 hmem with rfl | hmem
          · have h6 := HLT.out tc (List.mem_append_right _ ((HFP.out tc).2 (by rw [mem_fpR] at hk; simpa [Value.ownBlock, eq_comm] using hk))); omega
          · have h6 := (H.out.rows s (List.mem_cons_of_mem _ hmem)).1.lt hk; omega)
      refine ret_cell rfl rfl rfl (blk_fill HE.out.1) Try.underlying29 rfl info_pend2 ⟨rfl, ?_, v5, (.slice (some ⟨q, o + 4, none⟩) 0 (c - 1)), ?_, ?_, ?_⟩
      · exact HFA.out.trans (T := [tc]) ((((((Fr.refl [tc] w5).set (p := ⟨tc, 0, none⟩) (by simp) _).set (p := ⟨tc, 1, none⟩) (by simp) _).set (p := ⟨tc, 2, none⟩) (by simp) _).set (p := ⟨tc, 3, none⟩) (by simp) _)) (fun x hx => .inr (by rw [List.mem_singleton.1 hx, HTC.out]; exact Nat.le_refl _))
      · intro k hk
        simpa [Value.ownBlock] using hk
      · exact HN5.out
      · exact HQF.out _ (((((Fr.refl [tc] w5).set (p := ⟨tc, 0, none⟩) (by simp) _).set (p := ⟨tc, 1, none⟩) (by simp) _).set (p := ⟨tc, 2, none⟩) (by simp) _).set (p := ⟨tc, 3, none⟩) (by simp) _)

  · have hpos : 0 < tl.length := by
      cases tl with
      | nil => exact absurd rfl htl
      | cons x y => simp
    have hc : c ≠ 1 := by omega
    rw [if_neg hc] at HCUT
    have u1 : IntKind.u64.wrap (T + 1) = T + 1 := u64_in (by omega)
    have q2 : ((tl.length : Int) == 0) = false := by simp; omega
    have hq1 := Qu.set (i := 0) (r' := (⟨rg, (.slice (some ⟨q, o + 4, none⟩) tl.length (c - 1)), ⟨rk, rt, tl⟩⟩ : PRow)) HQ3.out HS.out rfl ((Fr.refl _ _).set (p := ⟨rg, 3, none⟩) (mem_fpR.2 (.inl rfl)) _) rfl ⟨HR3.out.blk.set 3 _, HCUT.out.fr ((Fr.refl [rg] w3).set (p := ⟨rg, 3, none⟩) (by simp) _) (fun g hg hm => hqg (by rw [← List.mem_singleton.1 hm]; simpa [Value.ownBlock] using hg)), fun e => hqg (by simpa [Value.ownBlock] using e)⟩ (fun k hk => .inl (by rw [mem_fpR] at hk ⊢; simpa [Value.ownBlock] using hk))
    have hq2 : Qu ((w3.setCell ⟨rg, 3, none⟩ (.slice (some ⟨q, o + 4, none⟩) tl.length (c - 1))).setCell ⟨b, 1, none⟩ (.int .u64 (T + 1))) b (T + 1) (.slice (some ⟨ga, 0, none⟩) (R.length + 1) cap) ((⟨rg, (.slice (some ⟨q, o + 4, none⟩) tl.length (c - 1)), ⟨rk, rt, tl⟩⟩ : PRow) :: R) := Qu.turn (T := T) (T' := T + 1) hq1.1 ⟨(Fr.refl _ _).set (p := ⟨b, 1, none⟩) (mem_fpW.2 (.inl rfl)) _, fun _ h => .inl h⟩ (fun _ h => h) (hq1.1.blk.set 1 _) (own_other hq1.1.own hq1.1.ne _) hq1.1.ne
    have hr2 := (hq2.rows _ (List.mem_cons_self)).1
    have hq3 := Qu.set (i := 0) (r' := (⟨rg, (.slice (some ⟨q, o + 4, none⟩) tl.length (c - 1)), ⟨rk, T + 1, tl⟩⟩ : PRow)) hq2 hq1.2 rfl ((Fr.refl _ _).set (p := ⟨rg, 2, none⟩) (mem_fpR.2 (.inl rfl)) _) rfl ⟨hr2.blk.set 2 _, hr2.own.fr ((Fr.refl [rg] _).set (p := ⟨rg, 2, none⟩) (by simp) _) (fun g hg hm => hqg (by rw [← List.mem_singleton.1 hm]; simpa [Value.ownBlock] using hg)), fun e => hqg (by simpa [Value.ownBlock] using e)⟩ (fun k hk => .inl (by rw [mem_fpR] at hk ⊢; simpa [Value.ownBlock] using hk))
    have HQ6 : Hid (Qu (((w3.setCell ⟨rg, 3, none⟩ (.slice (some ⟨q, o + 4, none⟩) tl.length (c - 1))).setCell ⟨b, 1, none⟩ (.int .u64 (T + 1))).setCell ⟨rg, 2, none⟩ (.int .u64 (T + 1))) b (T + 1) (.slice (some ⟨ga, 0, none⟩) (R.length + 1) cap) ((⟨rg, (.slice (some ⟨q, o + 4, none⟩) tl.length (c - 1)), ⟨rk, T + 1, tl⟩⟩ : PRow) :: R)) := Lib.hid hq3.1
    have e1 := hq1.1.blk.cell (j := 1) rfl
    have e2 := hq1.1.blk.free 1
    have e3 := hq2.blk.cell (j := 1) rfl
    have e4 := hr2.blk.cell (j := 2) rfl
    have e5 := hr2.blk.free 2
    have e6 := (hq1.1.rows _ (List.mem_cons_self)).1.blk.cell (j := 3) rfl
    have HF6 : Hid (Fr (fpW b (.slice (some ⟨ga, 0, none⟩) (R.length + 1) cap) ++ fpR (⟨rg, .slice (some ⟨q, o, none⟩) (tl.length + 1) c, ⟨rk, rt, rps⟩⟩ : PRow)) w3 (((w3.setCell ⟨rg, 3, none⟩ (.slice (some ⟨q, o + 4, none⟩) tl.length (c - 1))).setCell ⟨b, 1, none⟩ (.int .u64 (T + 1))).setCell ⟨rg, 2, none⟩ (.int .u64 (T + 1)))) := Lib.hid ((((Fr.refl _ _).set (p := ⟨rg, 3, none⟩) (List.mem_append_right _ (mem_fpR.2 (.inl rfl))) _).set (p := ⟨b, 1, none⟩) (List.mem_append_left _ (mem_fpW.2 (.inl rfl))) _).set (p := ⟨rg, 2, none⟩) (List.mem_append_right _ (mem_fpR.2 (.inl rfl))) _)
    have HF6W : Hid (Fr (fpW b (.slice (some ⟨ga, 0, none⟩) (R.length + 1) cap) ++ fpR (⟨rg, .slice (some ⟨q, o, none⟩) (tl.length + 1) c, ⟨rk, rt, rps⟩⟩ : PRow)) w (((w3.setCell ⟨rg, 3, none⟩ (.slice (some ⟨q, o + 4, none⟩) tl.length (c - 1))).setCell ⟨b, 1, none⟩ (.int .u64 (T + 1))).setCell ⟨rg, 2, none⟩ (.int .u64 (T + 1)))) := Lib.hid ((Fr.of_below HB3.out _).then HF6.out)
    have HLN : Hid (((⟨rg, (.slice (some ⟨q, o + 4, none⟩) tl.length (c - 1)), ⟨rk, T + 1, tl⟩⟩ : PRow) :: R).length = R.length + 1) := Lib.hid rfl
    simp only [List.length_cons] at e1 e3 e6
    clear hcut hqg hne3 hq1 hq2 hr2 hq3
    go_wp2_with (go_at_call 32; refine (hfix_any b (T + 1) _ ((⟨rg, (.slice (some ⟨q, o + 4, none⟩) tl.length (c - 1)), ⟨rk, T + 1, tl⟩⟩ : PRow) :: R) _ HQ6.out (by simp) (by have := HLN.out; omega)).mono ?_; rintro e w5 ⟨rfl, hw, hst⟩; have HE := Lib.hid (HHF.out undef w5 (HF6.out.then (hst.fr.mono (fun k hk => List.mem_append_left _ hk)))); have HFA := Lib.hid (HF6W.out.then (hst.fr.mono (fun k hk => List.mem_append_left _ hk))); have HW5 := Lib.hid hw; have s0 := HE.out.2.cell (j := 0) rfl; have s1 := HE.out.2.cell (j := 1) rfl; have s2 := HE.out.2.cell (j := 2) rfl; have s3 := HE.out.2.cell (j := 3) rfl; have g0 := HE.out.1.cell (j := 0) rfl; have g1 := HE.out.1.cell (j := 1) rfl; have g2 := HE.out.1.cell (j := 2) rfl; have g3 := HE.out.1.cell (j := 3) rfl; have gf := HE.out.1.free; clear hw hst c0 c1 c2 f2 e1 e2 e3 e4 e5 e6)
    have HQF : Hid (∀ w9, Fr [tc] w5 w9 → Qu w9 b (T + 1) (.slice (some ⟨ga, 0, none⟩) (R.length + 1) cap) (Hp.down rlt ((⟨rg, (.slice (some ⟨q, o + 4, none⟩) tl.length (c - 1)), ⟨rk, T + 1, tl⟩⟩ : PRow) :: R) (R.length + 1) 0).1) := Lib.hid (fun w9 hf => by
      refine HW5.out.fr hf (fun k hk hm => ?_) (fun s hsm k hk hm => ?_)
      · rw [List.mem_singleton.1 hm] at hk
        have h7 := HTC.out
        have h6 := HLT.out tc (List.mem_append_left _ hk); omega
      · rw [List.mem_singleton.1 hm] at hk
        have h7 := HTC.out
        have hmem : s ∈ (⟨rg, (.slice (some ⟨q, o + 4, none⟩) tl.length (c - 1)), ⟨rk, T + 1, tl⟩⟩ : PRow) :: R := ((Hp.down_perm rlt ((⟨rg, (.slice (some ⟨q, o + 4, none⟩) tl.length (c - 1)), ⟨rk, T + 1, tl⟩⟩ : PRow) :: R) (R.length + 1) 0).mem_iff).1 hsm
        rcases List.mem_cons.1 hmem with rfl | hmem
        · have h6 := HLT.out tc (List.mem_append_right _ ((HFP.out tc).2 (by rw [mem_fpR] at hk; simpa [Value.ownBlock, eq_comm] using hk))); omega
        · have h6 := (H.out.rows s (List.mem_cons_of_mem _ hmem)).1.lt hk; omega)
    refine ret_cell rfl rfl rfl (blk_fill HE.out.1) Try.underlying29 rfl info_pend2 ⟨rfl, ?_, (.slice (some ⟨ga, 0, none⟩) (R.length + 1) cap), (.slice (some ⟨q, o + 4, none⟩) tl.length (c - 1)), ?_, ?_, ?_⟩
    · exact HFA.out.trans (T := [tc]) ((((((Fr.refl [tc] w5).set (p := ⟨tc, 0, none⟩) (by simp) _).set (p := ⟨tc, 1, none⟩) (by simp) _).set (p := ⟨tc, 2, none⟩) (by simp) _).set (p := ⟨tc, 3, none⟩) (by simp) _)) (fun x hx => .inr (by rw [List.mem_singleton.1 hx, HTC.out]; exact Nat.le_refl _))
    · intro k hk
      simpa [Value.ownBlock] using hk
    · exact fun k hk => .inl hk
    · exact HQF.out _ ((((((Fr.refl [tc] w5).set (p := ⟨tc, 0, none⟩) (by simp) _).set (p := ⟨tc, 1, none⟩) (by simp) _).set (p := ⟨tc, 2, none⟩) (by simp) _).set (p := ⟨tc, 3, none⟩) (by simp) _))
end Go.Proofs.Ytlemfbgmhjklaaa
