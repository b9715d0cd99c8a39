/- The queue's Drop and Len. -/
import Derived.Test.YtlemfbgmhjklaaaQTake2
namespace Go.Proofs.Ytlemfbgmhjklaaa
open Go.RowKit

set_option maxRecDepth 100000 in
set_option maxHeartbeats 1000000 in
theorem drop_none (b : Nat) (T : Int) (v : Value) (R : List PRow) (t : Tid) (w : World) (h : Qu w b T v R) (hf : findR R t = none) :
    Calls Try.prog 17 #[ptr b, tval t] w fun e w' => e = .returned (.int .i64 6) ∧ Below w.heap.size w w' := by
  have H := Lib.hid h
  obtain ⟨t1, t2⟩ := t
  have HF : Hid (findV R (t1, t2) = .tuple #[.int .i64 (-1), .int .i64 (-1)]) := Lib.hid (by unfold findV; rw [hf])
  clear h hf
  go_enter Try.func17, Try.ntmps17
  go_wp2_with (first
    | (go_at_call 28; refine (qnone_made b T v R _ (H.out.kept (below_alloc _ _))).mono ?_; rintro e w2 ⟨rfl, rfl⟩)
    | (go_at_call 33; refine (find_any b T v R (t1, t2) _ (H.out.kept (below_alloc _ _))).mono ?_; rw [HF.out]; rintro e w2 ⟨rfl, hb⟩; have HB2 := Lib.hid (below_and (below_alloc _ _) hb); clear hb))
  go_ret
  exact ⟨rfl, HB2.out⟩

set_option maxRecDepth 100000 in
set_option maxHeartbeats 2000000 in
theorem drop_some (b : Nat) (T : Int) (v : Value) (R : List PRow) (t : Tid) (i k m : Nat) (r : PRow) (w : World) (h : Qu w b T v R) (hs : SepR R) (hf : findR R t = some i) (hi : R[i]? = some r) (hk : idx r.a.ps t = some k) (hn : r.a.ps.length = k + m + 1) (hl : R.length ≤ 800000) (hps : r.a.ps.length ≤ 900000) :
    Calls Try.prog 17 #[ptr b, tval t] w fun e w' => e = .returned (.int .i64 0) ∧ Fr (fpW b v ++ fpR r) w w' ∧ ∃ v' v1, (∀ k, v1.ownBlock = some k → r.v.ownBlock = some k) ∧ (∀ k, v'.ownBlock = some k → v.ownBlock = some k ∨ w.heap.size ≤ k) ∧
      ((k + m = 0 ∧ Qu w' b T v' (Hp.remove rlt (R.set i ⟨r.g, v1, ⟨r.a.key, r.a.turn, r.a.ps.eraseIdx k⟩⟩) i)) ∨
       (k + m ≠ 0 ∧ v' = v ∧ Qu w' b T v (R.set i ⟨r.g, v1, ⟨r.a.key, r.a.turn, r.a.ps.eraseIdx k⟩⟩))) := by
  have hml : maxLen ≤ 9223372036854775807 := by decide
  have hil : i < R.length := (List.getElem?_eq_some_iff.1 hi).1
  obtain ⟨n1, hn1⟩ : ∃ n1, R.length = n1 + 1 := ⟨R.length - 1, by omega⟩
  obtain ⟨ga, cap, rfl, hcap, hnn, hga, hgb⟩ := h.lies (by omega)
  obtain ⟨t1, t2⟩ := t
  have HF : Hid (findV R (t1, t2) = .tuple #[.int .i64 (i : Int), .int .i64 (k : Int)]) := Lib.hid (by unfold findV; rw [hf]; simp only [hi]; unfold idxI; rw [hk])
  have H := Lib.hid h
  have HS := Lib.hid hs
  have HI := Lib.hid hi
  have HN := Lib.hid hn
  have i1 : ¬ ((i : Int) < 0) := by omega
  have i2 : (i : Int) < (R.length : Int) := by omega
  clear h hs hf hk hi hn
  go_enter Try.func17, Try.ntmps17
  go_upto_region 6 with (first
    | (go_at_call 28; refine (qnone_made b T _ R _ (H.out.kept (below_alloc _ _))).mono ?_; rintro e w2 ⟨rfl, rfl⟩)
    | (go_at_call 33; refine (find_any b T _ R (t1, t2) _ (H.out.kept (below_alloc _ _))).mono ?_; rw [HF.out]; rintro e w2 ⟨rfl, hb⟩; have HB2 := Lib.hid (below_and (below_alloc _ _) hb); clear hb))
  have HQ2 : Hid (Qu w2 b T (.slice (some ⟨ga, 0, none⟩) R.length cap) R) := Lib.hid (H.out.kept HB2.out)
  have HR2 := Lib.hid (HQ2.out.row HI.out)
  obtain ⟨q, o, c, hv, hc1, hcm, -⟩ := HR2.out.own.shape
  have HOW := HR2.out.own
  obtain ⟨rg, rv, rk, rt, rps⟩ := r
  simp only at hv HN hps hc1 HOW
  subst hv
  rw [HN.out] at HOW hc1
  have HOW := Lib.hid HOW
  have hqg : q ≠ rg := fun e => HR2.out.ne (by simp [Value.ownBlock, e])
  have HRW := HQ2.out.rows _ (List.mem_of_getElem? HI.out)
  have hne4 : rg ≠ b := fun e => HRW.2 rg (mem_fpR.2 (.inl rfl)) (mem_fpW.2 (.inl e))
  have c0 := HQ2.out.blk.cell (j := 0) rfl
  have c1 := own_cell HQ2.out.own (rptrs_at HI.out)
  have c2 := HR2.out.blk.cell (j := 3) rfl
  simp only at c1
  rw [HN.out] at c2
  have HPL : Hid (rps.length ≤ 900000) := Lib.hid hps
  have HER : Hid ((rps.eraseIdx k).length = k + m) := Lib.hid (by rw [List.length_eraseIdx, HN.out]; rw [if_pos (by omega)]; omega)
  have HLN : Hid ((R.set i (⟨rg, (.slice (some ⟨q, o, none⟩) (k + m) c), ⟨rk, rt, rps.eraseIdx k⟩⟩ : PRow)).length = n1 + 1) := Lib.hid (by rw [List.length_set]; exact hn1)
  have HIN : Hid (i ≤ n1) := Lib.hid (by omega)
  have HGET : Hid ((R.set i (⟨rg, (.slice (some ⟨q, o, none⟩) (k + m) c), ⟨rk, rt, rps.eraseIdx k⟩⟩ : PRow))[i]? = some (⟨rg, (.slice (some ⟨q, o, none⟩) (k + m) c), ⟨rk, rt, rps.eraseIdx k⟩⟩ : PRow)) := Lib.hid (by rw [List.getElem?_set_self hil])
  have HL9 : Hid ((R.set i (⟨rg, (.slice (some ⟨q, o, none⟩) (k + m) c), ⟨rk, rt, rps.eraseIdx k⟩⟩ : PRow)).length ≤ 900000) := Lib.hid (by rw [List.length_set]; omega)
  have HRN := Lib.hid hn1
  have HNN := Lib.hid HN.out
  clear HRW hn1
  by_cases hz : k + m = 0
  · have qz : ((k : Int) + (m : Int) == 0) = true := by simp; omega
    have HZ := Lib.hid hz
    clear hz
    go_wp2_with (first
      | (go_at_call 35; refine (hremove_any b i T _ (R.set i (⟨rg, (.slice (some ⟨q, o, none⟩) (k + m) c), ⟨rk, rt, rps.eraseIdx k⟩⟩ : PRow)) n1 (⟨rg, (.slice (some ⟨q, o, none⟩) (k + m) c), ⟨rk, rt, rps.eraseIdx k⟩⟩ : PRow) _ HQ4.out HLN.out HIN.out HGET.out HL9.out).mono ?_; rintro e w5 ⟨rfl, v5, hw, hst⟩; have HW5 := Lib.hid hw; have HS5 := Lib.hid hst; clear hw hst)
      | (go_at_call 34; refine (delete_any q o c k m rps _ HN.out HPL.out HOW.out).mono ?_; rintro e w3 ⟨rfl, ho, hf⟩; have HO3 := Lib.hid ho; have HF3 := Lib.hid hf; have hb3 := HR2.out.blk.fr hf (fun hm => hqg (List.mem_singleton.1 hm).symm); have c3 := hb3.cell (j := 3) rfl; have f3 := hb3.free 3; have HF4 : Hid (Fr (fpR (⟨rg, .slice (some ⟨q, o, none⟩) rps.length c, ⟨rk, rt, rps⟩⟩ : PRow)) w2 (w3.setCell ⟨rg, 3, none⟩ (.slice (some ⟨q, o, none⟩) (k + m) c))) := Lib.hid ((hf.mono (fun k hk => mem_fpR.2 (.inr (by rw [List.mem_singleton.1 hk]; rfl)))).set (p := ⟨rg, 3, none⟩) (mem_fpR.2 (.inl rfl)) _); have hq4 := Qu.set (i := i) (r' := (⟨rg, (.slice (some ⟨q, o, none⟩) (k + m) c), ⟨rk, rt, rps.eraseIdx k⟩⟩ : PRow)) HQ2.out HS.out HI.out HF4.out rfl ⟨hb3.set 3 _, by simp only [HER.out]; exact ho.fr ((Fr.refl [rg] w3).set (p := ⟨rg, 3, none⟩) (by simp) _) (fun g hg hm => hqg (by rw [← List.mem_singleton.1 hm]; simpa [Value.ownBlock, eq_comm] using hg)), fun e => hqg (by simpa [Value.ownBlock] using e)⟩ (fun k hk => .inl (by rw [mem_fpR] at hk ⊢; simpa [Value.ownBlock] using hk)); have HQ4 : Hid (Qu (w3.setCell ⟨rg, 3, none⟩ (.slice (some ⟨q, o, none⟩) (k + m) c)) b T (.slice (some ⟨ga, 0, none⟩) R.length cap) (R.set i (⟨rg, (.slice (some ⟨q, o, none⟩) (k + m) c), ⟨rk, rt, rps.eraseIdx k⟩⟩ : PRow))) := Lib.hid hq4.1; have cc := hq4.1.blk.cell (j := 0) rfl; have cd := (hq4.1.row HGET.out).blk.cell (j := 3) rfl; clear ho hf hb3 hq4))
    go_ret
    refine ⟨rfl, ?_, v5, (.slice (some ⟨q, o, none⟩) (k + m) c), ?_, ?_, .inl ⟨by have := HZ.out; omega, HW5.out⟩⟩
    · exact (((Fr.of_below HB2.out _).then (HF4.out.mono (fun k hk => List.mem_append_right _ hk)))).then (HS5.out.fr.mono (fun k hk => List.mem_append_left _ hk))
    · intro k hk
      simpa [Value.ownBlock] using hk
    · exact fun k hk => (HS5.out.new k hk).imp id (fun h => Nat.le_trans (Nat.le_trans HB2.out.size HF4.out.size) h)
  · have qz : ((k : Int) + (m : Int) == 0) = false := by simp; omega
    have HZ := Lib.hid hz
    clear hz
    go_wp2_with (first
      | (go_at_call 35; refine (hremove_any b i T _ (R.set i (⟨rg, (.slice (some ⟨q, o, none⟩) (k + m) c), ⟨rk, rt, rps.eraseIdx k⟩⟩ : PRow)) n1 (⟨rg, (.slice (some ⟨q, o, none⟩) (k + m) c), ⟨rk, rt, rps.eraseIdx k⟩⟩ : PRow) _ HQ4.out HLN.out HIN.out HGET.out HL9.out).mono ?_; rintro e w5 ⟨rfl, v5, hw, hst⟩; have HW5 := Lib.hid hw; have HS5 := Lib.hid hst; clear hw hst)
      | (go_at_call 34; refine (delete_any q o c k m rps _ HN.out HPL.out HOW.out).mono ?_; rintro e w3 ⟨rfl, ho, hf⟩; have HO3 := Lib.hid ho; have HF3 := Lib.hid hf; have hb3 := HR2.out.blk.fr hf (fun hm => hqg (List.mem_singleton.1 hm).symm); have c3 := hb3.cell (j := 3) rfl; have f3 := hb3.free 3; have HF4 : Hid (Fr (fpR (⟨rg, .slice (some ⟨q, o, none⟩) rps.length c, ⟨rk, rt, rps⟩⟩ : PRow)) w2 (w3.setCell ⟨rg, 3, none⟩ (.slice (some ⟨q, o, none⟩) (k + m) c))) := Lib.hid ((hf.mono (fun k hk => mem_fpR.2 (.inr (by rw [List.mem_singleton.1 hk]; rfl)))).set (p := ⟨rg, 3, none⟩) (mem_fpR.2 (.inl rfl)) _); have hq4 := Qu.set (i := i) (r' := (⟨rg, (.slice (some ⟨q, o, none⟩) (k + m) c), ⟨rk, rt, rps.eraseIdx k⟩⟩ : PRow)) HQ2.out HS.out HI.out HF4.out rfl ⟨hb3.set 3 _, by simp only [HER.out]; exact ho.fr ((Fr.refl [rg] w3).set (p := ⟨rg, 3, none⟩) (by simp) _) (fun g hg hm => hqg (by rw [← List.mem_singleton.1 hm]; simpa [Value.ownBlock, eq_comm] using hg)), fun e => hqg (by simpa [Value.ownBlock] using e)⟩ (fun k hk => .inl (by rw [mem_fpR] at hk ⊢; simpa [Value.ownBlock] using hk)); have HQ4 : Hid (Qu (w3.setCell ⟨rg, 3, none⟩ (.slice (some ⟨q, o, none⟩) (k + m) c)) b T (.slice (some ⟨ga, 0, none⟩) R.length cap) (R.set i (⟨rg, (.slice (some ⟨q, o, none⟩) (k + m) c), ⟨rk, rt, rps.eraseIdx k⟩⟩ : PRow))) := Lib.hid hq4.1; have cc := hq4.1.blk.cell (j := 0) rfl; have cd := (hq4.1.row HGET.out).blk.cell (j := 3) rfl; clear ho hf hb3 hq4))
    go_ret
    refine ⟨rfl, ?_, (.slice (some ⟨ga, 0, none⟩) R.length cap), (.slice (some ⟨q, o, none⟩) (k + m) c), ?_, ?_, .inr ⟨by have := HZ.out; omega, rfl, HQ4.out⟩⟩
    · exact (((Fr.of_below HB2.out _).then (HF4.out.mono (fun k hk => List.mem_append_right _ hk))))
    · intro k hk
      simpa [Value.ownBlock] using hk
    · exact fun k hk => .inl hk

def lenR (R : List PRow) : Nat := (R.flatMap (·.a.ps)).length
theorem lenR_take {R : List PRow} {k : Nat} {x : PRow} (hx : R[k]? = some x) : lenR (R.take (k + 1)) = lenR (R.take k) + x.a.ps.length := by
  obtain ⟨hk, he⟩ := List.getElem?_eq_some_iff.1 hx
  unfold lenR
  rw [List.take_succ_eq_append_getElem hk, List.flatMap_append, List.length_append, he]
  simp
theorem lenR_mono (R : List PRow) (k : Nat) : lenR (R.take k) ≤ lenR R := by
  unfold lenR
  conv => rhs; rw [← List.take_append_drop k R]
  rw [List.flatMap_append, List.length_append]
  omega

set_option maxRecDepth 100000 in
set_option maxHeartbeats 1000000 in
theorem len_any (b : Nat) (T : Int) (v : Value) (R : List PRow) (w : World) (h : Qu w b T v R) (hl : lenR R ≤ 900000) :
    Calls Try.prog 19 #[ptr b] w fun e w' => e = .returned (.int .i64 (lenR R : Nat)) ∧ w = w' := by
  have hml : maxLen ≤ 9223372036854775807 := by decide
  obtain ⟨p, c, rfl, hc, hm⟩ := h.shape
  have c0 := h.blk.cell (j := 0) rfl
  have H := Lib.hid h
  have HL := Lib.hid hl
  clear h hl
  go_enter Try.func19, Try.ntmps19
  go_wp2_with (go_at_call 28; refine (qnone_made b _ _ _ _ H.out).mono ?_; rintro e w2 ⟨rfl, rfl⟩)
  go_loopw [3, 13] (fun n i wr => ∃ (k s : Nat), k ≤ R.length ∧ n = .int .i64 (s : Int) ∧ i = .int .i64 (k : Int) ∧ Hid (s = lenR (R.take k)) ∧ Hid (w = wr)) (fun _ i _ => R.length - (intOf i).toNat)
  case atStart => exact ⟨0, 0, Nat.zero_le _, rfl, rfl, Lib.hid (by simp [lenR]), Lib.hid rfl⟩
  case round =>
    obtain ⟨k, s, hk, rfl, rfl, HSN, HWW⟩ := hrel
    obtain rfl := HWW.out
    by_cases hlt : k < R.length
    · obtain ⟨x, hxe⟩ : ∃ x, x = R[k] := ⟨_, rfl⟩
      have hx' : R[k]? = some x := by rw [hxe, List.getElem?_eq_getElem hlt]
      obtain ⟨g, cap, e, -⟩ := H.out.lies (by omega)
      simp only [Value.slice.injEq] at e
      obtain ⟨rfl, -, rfl⟩ := e
      have c1 := own_cell H.out.own (rptrs_at hx')
      have d1 := (H.out.row hx').blk.cell (j := 3) rfl
      obtain ⟨xq, xo, xc, hxv, -⟩ := (H.out.row hx').own.shape
      rw [hxv] at d1
      have hsn : s + x.a.ps.length = lenR (R.take (k + 1)) := by rw [lenR_take hx', HSN.out]
      have hb := lenR_mono R (k + 1)
      have hb2 : s + x.a.ps.length ≤ 900000 := by have := HL.out; omega
      have HN : Hid (s + x.a.ps.length = lenR (R.take (k + 1))) := Lib.hid hsn
      obtain ⟨n, hn⟩ : ∃ n, n = x.a.ps.length := ⟨_, rfl⟩
      rw [← hn] at d1 hb2 HN
      have i1 : (k : Int) < (R.length : Int) := by omega
      clear hxe hx' hxv hsn hb hn
      go_wp2
      go_roundw
      case rel => exact ⟨k + 1, s + n, hlt, by go_num, by go_num, HN, Lib.hid trivial⟩
      case measure => simp [intOf]; omega
    · obtain rfl : k = R.length := by omega
      have HE : Hid (s = lenR R) := Lib.hid (by rw [HSN.out, List.take_length])
      go_wp2
      go_ret
      exact ⟨ret_int (by rw [HE.out]), rfl⟩
end Go.Proofs.Ytlemfbgmhjklaaa
