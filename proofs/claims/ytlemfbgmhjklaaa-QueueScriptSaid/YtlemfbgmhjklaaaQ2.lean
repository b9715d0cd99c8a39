/- The queue's rows: Swap, Push and Pop. -/
import Derived.Test.YtlemfbgmhjklaaaQ
namespace Go.Proofs.Ytlemfbgmhjklaaa
open Go.RowKit

theorem rptrs_set (L : List PRow) (i : Nat) (x : PRow) : (rptrs L).set i (.pointer (some ⟨x.g, 0, none⟩)) = rptrs (L.set i x) := by unfold rptrs; rw [List.map_set]; rfl
theorem rptrs_len (L : List PRow) : (rptrs L).length = L.length := by unfold rptrs; rw [List.length_map]
theorem swap_mem {L : List PRow} {i j : Nat} {r : PRow} (h : r ∈ Hp.swap L i j) : r ∈ L := (Hp.swap_perm L i j).mem_iff.1 h

set_option maxRecDepth 100000 in
set_option maxHeartbeats 1000000 in
theorem eswap_any (b i j : Nat) (T : Int) (v : Value) (L : List PRow) (w : World) (h : Qu w b T v L) (hi : i < L.length) (hj : j < L.length) :
    Calls Try.prog 63 #[v, .int .i64 (i : Int), .int .i64 (j : Int)] w fun e w' => e = .returned (.tuple #[]) ∧ Qu w' b T v (Hp.swap L i j) ∧ Stp w w' b v v := by
  obtain ⟨g, cap, rfl, hcap, hn, hg, hgb⟩ := h.lies (by omega)
  obtain ⟨x, hx⟩ : ∃ x, x = L[i] := ⟨_, rfl⟩
  obtain ⟨y, hy⟩ : ∃ y, y = L[j] := ⟨_, rfl⟩
  have hx' : L[i]? = some x := by rw [hx, List.getElem?_eq_getElem hi]
  have hy' : L[j]? = some y := by rw [hy, List.getElem?_eq_getElem hj]
  have c1 := own_cell h.own (rptrs_at hx')
  have c3 := own_cell h.own (rptrs_at hy')
  have hf := own_free h.own
  have hsw : Hp.swap L i j = (L.set i y).set j x := by unfold Hp.swap; rw [hx', hy']
  have HQ : Hid (∀ w', Blk w' b [.slice (some ⟨g, 0, none⟩) L.length cap, .int .u64 T, .bool true] 57 → w'.ownsRow 0 60 1 (.slice (some ⟨g, 0, none⟩) L.length cap) L.length (((rptrs L).set i (.pointer (some ⟨y.g, 0, none⟩))).set j (.pointer (some ⟨x.g, 0, none⟩))) → Stp w w' b (.slice (some ⟨g, 0, none⟩) L.length cap) (.slice (some ⟨g, 0, none⟩) L.length cap) → Qu w' b T (.slice (some ⟨g, 0, none⟩) L.length cap) (Hp.swap L i j)) := Lib.hid fun w' k1 k2 k3 => by
    refine h.turn k3 (fun r hr => swap_mem hr) k1 ?_ h.ne
    rw [Hp.length_swap, hsw, ← rptrs_set, ← rptrs_set]
    exact k2
  have H := Lib.hid h
  have hij : i = j ∨ i ≠ j := by omega
  have HX := Lib.hid hx
  have HY := Lib.hid hy
  clear h hx hy hx' hy' hsw
  obtain ⟨xg, xv, xa⟩ := x
  obtain ⟨yg, yv, ya⟩ := y
  simp only at c1 c3 HQ
  go_enter Try.func63, Try.ntmps63
  rcases hij with rfl | e1
  · have e2 : xg = yg := by have := HX.out.trans HY.out.symm; simp only [PRow.mk.injEq] at this; exact this.1
    subst e2
    go_region
    all_goals go_wp2
    all_goals refine end0 rfl rfl ⟨rfl, ?_, ?_⟩
    · refine HQ.out _ (((H.out.blk.other hgb.symm _).other hgb.symm _).kept (below_drewN 1)) (own_fr (own_set (own_set H.out.own (by omega) _) (by omega) _) (Fr.of_below (below_drewN 1) []) (fun _ _ => by simp)) ⟨((Fr.refl _ _).set (mem_fpW.2 (.inr rfl)) _).set (mem_fpW.2 (.inr rfl)) _ |>.draw 1, fun _ h => .inl h⟩
    · exact ⟨((Fr.refl _ _).set (mem_fpW.2 (.inr rfl)) _).set (mem_fpW.2 (.inr rfl)) _ |>.draw 1, fun _ h => .inl h⟩
  · go_region
    all_goals go_wp2
    all_goals refine end0 rfl rfl ⟨rfl, ?_, ?_⟩
    · refine HQ.out _ (((H.out.blk.other hgb.symm _).other hgb.symm _).kept (below_drewN 1)) (own_fr (own_set (own_set H.out.own (by omega) _) (by omega) _) (Fr.of_below (below_drewN 1) []) (fun _ _ => by simp)) ⟨((Fr.refl _ _).set (mem_fpW.2 (.inr rfl)) _).set (mem_fpW.2 (.inr rfl)) _ |>.draw 1, fun _ h => .inl h⟩
    · exact ⟨((Fr.refl _ _).set (mem_fpW.2 (.inr rfl)) _).set (mem_fpW.2 (.inr rfl)) _ |>.draw 1, fun _ h => .inl h⟩

theorem assert_row (a : Addr) (w : World) : (Instr.typeAssert (.iface 60 (.pointer (some a))) 20 60 false).run Try.prog w = .ok (.pointer (some a)) w := by kernel_rfl
theorem info_row : (Try.prog.info? 60).map (fun i => (i.zero, i.size, i.bytes)) = some (some (.pointer none), 1, 8) := by kernel_rfl

set_option maxRecDepth 100000 in
set_option maxHeartbeats 1000000 in
theorem epush_any (b : Nat) (x : PRow) (T : Int) (v : Value) (L : List PRow) (w : World) (h : Qu w b T v L) (hx : RowAt w x) (hxf : ∀ k ∈ fpR x, k ∉ fpW b v) (hn : L.length ≤ 1000000) :
    Calls Try.prog 65 #[.pointer (some ⟨b, 0, none⟩), rif x] w fun e w' => e = .returned (.tuple #[]) ∧ ∃ v', Qu w' b T v' (L ++ [x]) ∧ Stp w w' b v v' := by
  obtain ⟨i0, hi, hz0, hz1, hz2⟩ := info_parts info_row
  have c1 := h.blk.cell (j := 0) rfl
  have c2 : (w.alloc (.cells #[.pointer (some ⟨x.g, 0, none⟩)] 60)).cell? ⟨b, 0, none⟩ = some v := (h.blk.alloc _).cell (j := 0) rfl
  have t1 := assert_row ⟨x.g, 0, none⟩ w.drew
  have HB : Hid (some b ≠ v.ownBlock) := Lib.hid fun e => h.ne e.symm
  have o1 : Hid (World.ownsRow ((w.alloc (.cells #[.pointer (some ⟨x.g, 0, none⟩)] 60)).drew) 0 60 1 v L.length (rptrs L)) := Lib.hid (h.own.alloc _)
  have o2 : Hid (Src Try.prog 1 54 (.slice (some ⟨w.heap.size, 0, none⟩) 1 1) 1 [.pointer (some ⟨x.g, 0, none⟩)] ((w.alloc (.cells #[.pointer (some ⟨x.g, 0, none⟩)] 60)).drew)) := Lib.hid (src_block Try.underlying54 ((w.alloc (.cells #[.pointer (some ⟨x.g, 0, none⟩)] 60)).drew) _ #[.pointer (some ⟨x.g, 0, none⟩)] (heap_alloc_new w _) rfl (by simp [Value.oneCell']))
  have b1 : Hid (Blk ((w.alloc (.cells #[.pointer (some ⟨x.g, 0, none⟩)] 60)).drew) b [v, .int .u64 T, .bool true] 57) := Lib.hid (h.blk.alloc _)
  have H := Lib.hid h
  have HX := Lib.hid hx
  have HXF := Lib.hid hxf
  clear h hx hxf
  go_enter Try.func65, Try.ntmps65
  go_region_law (refine step_app rfl (.tmp 7) (.tmp 10) 54 54 rfl 0 60 i0 (.pointer none) 1 8 Try.underlying54 hi hz0 hz1 hz2 rfl v L.length (rptrs L) (by simp [Act.eval, Act.put]) o1.out (.slice (some ⟨w.heap.size, 0, none⟩) 1 1) 1 [.pointer (some ⟨x.g, 0, none⟩)] (by simp [Act.eval, Act.put]) o2.out (by unfold maxLen; omega) (by omega) (Nat.zero_le _) ?_; intro v2 w2 ho2 hg2 hn2 hk2; obtain ⟨p2, k2, rfl, -, -⟩ := own_slice ho2; have d1 := ((b1.out.grown hg2 HB.out).cell (j := 0) rfl); have d2 := ((b1.out.grown hg2 HB.out).free 0); have HO2 := Lib.hid ho2; have HK2 := Lib.hid hk2; have HG2 := Lib.hid hg2; clear ho2 hg2 hn2 hk2)
  all_goals go_wp2
  all_goals refine end0 rfl rfl ⟨rfl, .slice p2 (L.length + 1) k2, ?_⟩
  all_goals have hfr := (Fr.of_below (below_ad w (.cells #[.pointer (some ⟨x.g, 0, none⟩)] 60)) (v.ownBlock.toList)).then (Fr.of_grown HG2.out)
  all_goals have hnew : ∀ k, (Value.slice p2 (L.length + 1) k2).ownBlock = some k → k ≠ b ∧ (v.ownBlock = some k ∨ w.heap.size ≤ k) := fun k hk => (HK2.out k hk).elim (fun h1 => ⟨fun e => HB.out (by rw [h1, e]), .inl h1⟩) (fun h1 => ⟨fun e => absurd H.out.blk.lt (by have h2 : w.heap.size + 1 ≤ k := (by simpa using h1); omega), .inr (by have h2 : w.heap.size + 1 ≤ k := (by simpa using h1); omega)⟩)
  all_goals have hst : Stp w _ b v (.slice p2 (L.length + 1) k2) := ⟨((hfr.mono (T := fpW b v) (fun k hk => mem_fpW.2 (.inr (by simpa using hk)))).set (p := ⟨b, 0, none⟩) (mem_fpW.2 (.inl rfl)) (.slice p2 (L.length + 1) k2)), fun k hk => (hnew k hk).2⟩
  all_goals refine ⟨⟨(b1.out.grown HG2.out HB.out).set 0 _, ?_, fun e => (hnew b e).1 rfl, fun r hr => ?_⟩, ?_⟩
  all_goals first
    | exact hst
    | (refine own_other ?_ ?_ _
       · have := HO2.out
         unfold rptrs at *
         simpa [rptr] using this
       · exact fun e => (hnew b e).1 rfl)
    | (have h4 : RowAt w r ∧ ∀ k ∈ fpR r, k ∉ fpW b v := by
         rcases List.mem_append.1 hr with hr | hr
         · exact H.out.rows r hr
         · rw [List.mem_singleton.1 hr]; exact ⟨HX.out, HXF.out⟩
       refine ⟨h4.1.fr hst.fr h4.2, fun k hk hkw => ?_⟩
       rcases mem_fpW.1 hkw with rfl | hkw
       · exact h4.2 _ hk (mem_fpW.2 (.inl rfl))
       · rcases (hnew k hkw).2 with h6 | h6
         · exact h4.2 k hk (mem_fpW.2 (.inr h6))
         · have := h4.1.lt hk; omega)

set_option maxRecDepth 100000 in
set_option maxHeartbeats 1000000 in
theorem epop_any (b : Nat) (T : Int) (v : Value) (L : List PRow) (m : Nat) (x : PRow) (w : World) (h : Qu w b T v L) (hm : L.length = m + 1) (hx : L[m]? = some x) :
    Calls Try.prog 64 #[.pointer (some ⟨b, 0, none⟩)] w fun e w' => e = .returned (rif x) ∧ ∃ v', Qu w' b T v' (L.take m) ∧ Stp w w' b v v' := by
  obtain ⟨g, cap, rfl, hcap, hn, hg, hgb⟩ := h.lies (by omega)
  have c0 := h.blk.cell (j := 0) rfl
  have c1 := own_cell h.own (rptrs_at hx)
  have f0 := h.blk.free 0
  have u1 : wrap64 ((L.length : Int) - 1) = (m : Int) := by unfold wrap64; omega
  have hT : Hid ((L.take m).length = m) := Lib.hid (by simp; omega)
  have H := Lib.hid h
  obtain ⟨xg, xv, xa⟩ := x
  clear h hx
  rw [hm] at u1
  simp only at c1
  go_enter Try.func64, Try.ntmps64
  go_wp2
  go_ret
  have hst : Stp w _ b (.slice (some ⟨g, 0, none⟩) L.length cap) (.slice (some ⟨g, 0, none⟩) m cap) := ⟨(Fr.refl _ w).set (p := ⟨b, 0, none⟩) (mem_fpW.2 (.inl rfl)) (.slice (some ⟨g, 0, none⟩) m cap), fun _ h => .inl h⟩
  refine ⟨rfl, .slice (some ⟨g, 0, none⟩) m cap, H.out.turn hst (fun r hr => List.mem_of_mem_take hr) (H.out.blk.set 0 _) ?_ H.out.ne, hst⟩
  refine own_other ?_ H.out.ne _
  have := own_cut H.out.own (m := m) (by omega)
  rw [Nat.mul_one] at this
  rw [hT.out]
  unfold rptrs at *
  rw [List.map_take]
  exact this
end Go.Proofs.Ytlemfbgmhjklaaa
