/- The ends' Push and Pop. -/
import Derived.Test.YtmgcigohfccgeaaEnds
namespace Go.Proofs.Ytmgcigohfccgeaa
open Go.RowKit

theorem assert_end (s : ByteArray) (a : Int) (w : World) : (Instr.typeAssert (.iface 101 (.agg #[.string s, .int .i64 a])) 20 101 false).run Try.prog w = .ok (.agg #[.string s, .int .i64 a]) w := by kernel_rfl
theorem info_end : (Try.prog.info? 101).map (fun i => (i.zero, i.size, i.bytes)) = some (some (.agg #[.string ⟨#[]⟩, .int .i64 0]), 2, 24) := by kernel_rfl

set_option maxRecDepth 100000 in
set_option maxHeartbeats 400000 in
theorem epush_any (b : Nat) (s : ByteArray) (at_ T : Int) (v : Value) (L : List End) (w : World) (h : Wt w b T v L) (hn : L.length ≤ 1000000) :
    Calls Try.prog 126 #[.pointer (some ⟨b, 1, none⟩), .iface 101 (.agg #[.string s, .int .i64 at_])] w fun e w' => e = .returned (.tuple #[]) ∧ ∃ v', Wt w' b T v' (L ++ [(s, at_)]) ∧ Stp w w' b v v' := by
  obtain ⟨i0, hi, hz0, hz1, hz2⟩ := info_parts info_end
  have c1 := h.blk.cell (j := 1) rfl
  have c2 : (w.alloc (.cells #[.string s, .int .i64 at_] 101)).cell? ⟨b, 1, none⟩ = some v := (h.blk.alloc _).cell (j := 1) rfl
  have t1 := assert_end s at_ w.drew
  have HB : Hid (some b ≠ v.ownBlock) := Lib.hid fun e => h.ne e.symm
  have o1 : Hid (World.ownsRow ((w.alloc (.cells #[.string s, .int .i64 at_] 101)).drew) 0 101 2 v L.length (ecells L)) := Lib.hid (h.own.alloc _)
  have o2 : Hid (Src Try.prog 2 85 (.slice (some ⟨w.heap.size, 0, none⟩) 1 1) 1 [.string s, .int .i64 at_] ((w.alloc (.cells #[.string s, .int .i64 at_] 101)).drew)) := Lib.hid (src_block Try.underlying85 ((w.alloc (.cells #[.string s, .int .i64 at_] 101)).drew) _ #[.string s, .int .i64 at_] (heap_alloc_new w _) rfl (by simp [Value.oneCell']))
  have b1 : Hid (Blk ((w.alloc (.cells #[.string s, .int .i64 at_] 101)).drew) b [.int .i64 T, v, .bool true] 87) := Lib.hid (h.blk.alloc _)
  have H := Lib.hid h
  clear h
  go_enter Try.func126, Try.ntmps126
  go_region_law (refine step_app rfl (.tmp 7) (.tmp 10) 85 85 rfl 0 101 i0 (.agg #[.string ⟨#[]⟩, .int .i64 0]) 2 24 Try.underlying85 hi hz0 hz1 hz2 rfl v L.length (ecells L) (by simp [Act.eval, Act.put]) o1.out (.slice (some ⟨w.heap.size, 0, none⟩) 1 1) 1 [.string s, .int .i64 at_] (by simp [Act.eval, Act.put]) o2.out (by unfold maxLen; omega) (by omega) (Nat.zero_le _) ?_; intro v2 w2 ho2 hg2 hn2 hk2; obtain ⟨p2, k2, rfl, -, -⟩ := own_slice ho2; have d1 := ((b1.out.grown hg2 HB.out).cell (j := 1) rfl); have d2 := ((b1.out.grown hg2 HB.out).free 1); have HO2 := Lib.hid ho2; have HK2 := Lib.hid hk2; have HG2 := Lib.hid hg2; clear ho2 hg2 hn2 hk2)
  all_goals go_wp2
  all_goals refine end0 rfl rfl ⟨rfl, .slice p2 (L.length + 1) k2, ?_⟩
  all_goals have hfr := (Fr.of_below (below_ad w (.cells #[.string s, .int .i64 at_] 101)) (v.ownBlock.toList)).then (Fr.of_grown HG2.out)
  all_goals have hnew : ∀ k, (Value.slice p2 (L.length + 1) k2).ownBlock = some k → k ≠ b ∧ (v.ownBlock = some k ∨ w.heap.size ≤ k) := fun k hk => (HK2.out k hk).elim (fun h1 => ⟨fun e => HB.out (by rw [h1, e]), .inl h1⟩) (fun h1 => ⟨fun e => absurd H.out.blk.lt (by have h2 : w.heap.size + 1 ≤ k := (by simpa using h1); omega), .inr (by have h2 : w.heap.size + 1 ≤ k := (by simpa using h1); omega)⟩)
  all_goals refine ⟨⟨(b1.out.grown HG2.out HB.out).set 1 _, ?_, fun e => (hnew b e).1 rfl⟩, ⟨?_, fun k hk => (hnew k hk).2⟩⟩
  all_goals first
    | exact ((hfr.mono (T := fpW b v) (fun k hk => mem_fpW.2 (.inr (by simpa using hk)))).set (p := ⟨b, 1, none⟩) (mem_fpW.2 (.inl rfl)) _)
    | (refine own_other ?_ ?_ _
       · simpa [ecells_append, ecells] using HO2.out
       · exact fun e => (hnew b e).1 rfl)

set_option maxRecDepth 100000 in
set_option maxHeartbeats 400000 in
theorem epop_any (b : Nat) (T : Int) (v : Value) (L : List End) (m : Nat) (x : End) (w : World) (h : Wt w b T v L) (hm : L.length = m + 1) (hx : L[m]? = some x) :
    Calls Try.prog 125 #[.pointer (some ⟨b, 1, none⟩)] w fun e w' => e = .returned (.iface 101 (.agg #[.string x.1, .int .i64 x.2])) ∧ ∃ v', Wt w' b T v' (L.take m) ∧ Stp w w' b v v' := by
  obtain ⟨g, cap, rfl, hcap, hn, hg, hgb⟩ := h.lies (by omega)
  have c0 := h.blk.cell (j := 1) rfl
  have c1 := own_cell h.own (ecells_name hx)
  have c2 := own_cell h.own (ecells_at hx)
  have f0 := h.blk.free 1
  have u1 : wrap64 ((L.length : Int) - 1) = (m : Int) := by unfold wrap64; omega
  have hT : Hid ((L.take m).length = m) := Lib.hid (by simp; omega)
  have H := Lib.hid h
  obtain ⟨s, a⟩ := x
  have c3 : (w.alloc (.cells #[.string s, .int .i64 a] 101)).cell? ⟨b, 1, none⟩ = _ := (h.blk.alloc _).cell (j := 1) rfl
  have f3 : (w.alloc (.cells #[.string s, .int .i64 a] 101)).frozen? ⟨b, 1, none⟩ = false := (h.blk.alloc _).free 1
  have hbs : w.heap.size ≠ b := fun e => absurd h.blk.lt (by omega)
  have hsb : b ≠ w.heap.size := Ne.symm hbs
  clear h hx
  rw [hm] at u1
  go_enter Try.func125, Try.ntmps125
  go_wp2
  go_ret
  have hb1 : Fr (fpW b (.slice (some ⟨g, 0, none⟩) (m + 1) cap)) w _ := (((Fr.refl _ w).alloc (.cells #[.string s, .int .i64 a] 101)).set (p := ⟨b, 1, none⟩) (mem_fpW.2 (.inl rfl)) (.slice (some ⟨g, 0, none⟩) m cap))
  refine ⟨rfl, .slice (some ⟨g, 0, none⟩) m cap, ⟨(H.out.blk.alloc _).set 1 _, ?_, H.out.ne⟩, ⟨hb1, fun _ h => .inl h⟩⟩
  refine own_other ?_ H.out.ne _
  have := own_cut (H.out.own.alloc (.cells #[.string s, .int .i64 a] 101)) (m := m) (by omega)
  rw [ecells_take] at this
  rw [hT.out]
  exact this
end Go.Proofs.Ytmgcigohfccgeaa
