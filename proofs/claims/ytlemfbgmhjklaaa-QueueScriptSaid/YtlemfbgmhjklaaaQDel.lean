/- slices.Delete of one task, slices.Clone of tasks. -/
import Derived.Test.YtlemfbgmhjklaaaQFind
namespace Go.Proofs.Ytlemfbgmhjklaaa
open Go.RowKit

theorem info_pend : (Try.prog.info? 29).map (fun i => (i.zero, i.size, i.bytes)) = some (some (.agg #[.string ⟨#[]⟩, .int .i64 0, .string ⟨#[]⟩, .int .i64 0]), 4, 48) := by kernel_rfl
theorem pzero (w : World) : (zeroValue 29).run Try.prog w = .ok (.agg #[.string ⟨#[]⟩, .int .i64 0, .string ⟨#[]⟩, .int .i64 0]) w := by kernel_rfl
theorem src_none {P : Program} {w : World} {t e : TypeId} {size : Nat} (ht : P.underlying t = some (.slice e)) (p : Option Addr) (c : Nat) : Src P size t (.slice p 0 c) 0 [] w := by
  cases p with
  | none => exact Src.ofNil _ ht c
  | some a => exact Src.ofSlice _ ht _ 0 c [] (by simp) (fun j x hj => by simp at hj) (by simp)
theorem pcells_take (L : List Pend) (k : Nat) : (pcells L).take (k * 4) = pcells (L.take k) := flat_takeN pend_len L k
theorem pcells_drop (L : List Pend) (k : Nat) : (pcells L).drop (k * 4) = pcells (L.drop k) := flat_dropN pend_len L k
theorem pcells_append (L M : List Pend) : pcells (L ++ M) = pcells L ++ pcells M := List.flatMap_append

set_option maxRecDepth 100000 in
set_option maxHeartbeats 2000000 in
theorem delete_any (g o c k m : Nat) (ps : List Pend) (w : World) (hn : ps.length = k + m + 1) (hl : ps.length ≤ 900000) (h : OwnO w 29 4 (.slice (some ⟨g, o, none⟩) (k + m + 1) c) (k + m + 1) (pcells ps)) :
    Calls Try.prog 34 #[.slice (some ⟨g, o, none⟩) (k + m + 1) c, .int .i64 (k : Int), .int .i64 ((k : Int) + 1)] w fun e w' => e = .returned (.slice (some ⟨g, o, none⟩) (k + m) c) ∧ OwnO w' 29 4 (.slice (some ⟨g, o, none⟩) (k + m) c) (k + m) (pcells (ps.eraseIdx k)) ∧ Fr [g] w w' := by
  have hml : maxLen ≤ 9223372036854775807 := by decide
  obtain ⟨i0, hi, hz0, hz1, hz2⟩ := info_parts info_pend
  have hlen : k + m + 1 ≤ c ∧ c ≤ maxLen := by
    obtain ⟨g', o', c', e, h3, h4, -⟩ := h.shape
    simp only [Value.slice.injEq] at e
    obtain ⟨-, -, rfl⟩ := e
    exact ⟨h3, h4⟩
  have o1 : Hid (OwnO w.drew 29 4 (.slice (some ⟨g, o, none⟩) k c) k (pcells (ps.take k))) := Lib.hid (by
    have := (h.kept (below_drewN 1)).front (m := k) (by omega)
    rw [pcells_take] at this
    exact this)
  have hE : Hid (pcells (ps.take k) ++ pcells (ps.drop (k + 1)) = pcells (ps.eraseIdx k)) := Lib.hid (by rw [← pcells_append, List.eraseIdx_eq_take_drop_succ])
  have hm : m ≤ 900000 := by omega
  have hk : k ≤ 900000 := by omega
  have hkm : k + m ≤ 900000 := by omega
  have i1 : (k : Int) + 1 ≤ ((k + m + 1 : Nat) : Int) := by omega
  have HLast : ∀ w2 : World, Hid (∀ (xs : List Value), OwnO w2 29 4 (.slice (some ⟨g, o, none⟩) (k + m) c) (k + m) xs → ∀ ty, (Builtin.clear_ #[22] ty #[.slice (some ⟨g, o + (k + m) * 4, none⟩) 1 (c - (k + m))]).run Try.prog w2 = .ok (.tuple #[]) (w2.setCells g (o + (k + m) * 4) [.string ⟨#[]⟩, .int .i64 0, .string ⟨#[]⟩, .int .i64 0])) := fun w2 => Lib.hid (fun xs ho ty => by
    refine run_clear_one w2 _ _ ty _ Try.underlying22 pzero (by simp [Value.cells, Value.oneCell']) g _ _ (fun j hj => ?_) (fun j _ => ho.free _)
    obtain ⟨h0, g', o', cap, cur, hv, hh, h1, h2, h3, h4⟩ := ho
    simp only [Value.slice.injEq, Option.some.injEq, Addr.mk.injEq, and_true, true_and] at hv
    obtain ⟨⟨rfl, rfl⟩, rfl⟩ := hv
    simp [Value.cells] at hj
    rw [cell_of_row _ g _ cur _ (0, 0) hh]
    simp
    omega)
  have H := Lib.hid h
  have i3 : (k : Int) ≤ (k : Int) + 1 := by omega
  have i4 : (k : Int) ≤ (c : Int) := by omega
  have i5 : (k : Int) + 1 ≤ (c : Int) := by omega
  have i6 : 0 ≤ (k : Int) + 1 := by omega
  have i7 : (k : Int) ≤ (k : Int) + (m : Int) := by omega
  have i8 : (k : Int) + (m : Int) ≤ (k : Int) + (m : Int) + 1 := by omega
  have i9 : (k : Int) + (m : Int) + 1 ≤ (c : Int) := by omega
  have i10 : 0 ≤ (k : Int) + (m : Int) := by omega
  have i11 : (k : Int) + (m : Int) ≤ (c : Int) := by omega
  have q0 : ((k : Int) == (k : Int) + 1) = false := by simp; omega
  have hfin : ∀ w2 : World, Hid (OwnO w2 29 4 (.slice (some ⟨g, o, none⟩) (k + m) c) (k + m) (pcells (ps.eraseIdx k)) → w.drew.grownBy w2 (some g) → OwnO (w2.setCells g (o + (k + m) * 4) [.string ⟨#[]⟩, .int .i64 0, .string ⟨#[]⟩, .int .i64 0]) 29 4 (.slice (some ⟨g, o, none⟩) (k + m) c) (k + m) (pcells (ps.eraseIdx k)) ∧ Fr [g] w (w2.setCells g (o + (k + m) * 4) [.string ⟨#[]⟩, .int .i64 0, .string ⟨#[]⟩, .int .i64 0])) := fun w2 => Lib.hid (fun h1 h2 => ⟨h1.setCells _ _ _ _ (Nat.le_refl _), fr_setCells (by simp) _ _ _ _ ((Fr.of_below (below_drewN 1) [g]).then (Fr.of_grown h2))⟩)
  by_cases hck : c = k + 1
  · have hm0 : m = 0 := by omega
    subst hm0
    have hd : pcells (ps.drop (k + 1)) = [] := by rw [List.drop_of_length_le (by omega)]; rfl
    have o2 : Hid (Src Try.prog 4 22 (.slice (some ⟨g, o, none⟩) 0 0) 0 (pcells (ps.drop (k + 1))) w.drew) := Lib.hid (by rw [hd]; exact src_none Try.underlying22 _ _)
    subst hck
    clear h hn hd
    simp only [Nat.add_zero] at HLast hfin H ⊢
    go_enter Try.func34, Try.ntmps34
    go_wp2
    go_region_law (refine step_appO rfl (.tmp 22) (.tmp 25) 22 22 rfl 29 i0 (.agg #[.string ⟨#[]⟩, .int .i64 0, .string ⟨#[]⟩, .int .i64 0]) 4 48 Try.underlying22 hi hz0 hz1 hz2 rfl g o (k + 1) k (pcells (ps.take k)) (by simp [Act.eval, Act.put]) o1.out (.slice (some ⟨g, o, none⟩) 0 0) 0 (pcells (ps.drop (k + 1))) (by simp [Act.eval, Act.put]) o2.out (by unfold maxLen; omega) (by omega) ?_; intro v2 w2 ho2 hg2 hr2 hk2; obtain rfl := hr2 (by omega); rw [hE.out] at ho2; have hcl := (HLast w2).out _ ho2; simp only [Nat.add_sub_cancel_left] at hcl; have HO2 := Lib.hid ho2; have HG2 := Lib.hid hg2; clear ho2 hg2 hr2 hk2)
    all_goals go_wp2
    all_goals go_ret
    all_goals exact ⟨rfl, (hfin _).out HO2.out HG2.out⟩
  · have o2 : Hid (Src Try.prog 4 22 (.slice (some ⟨g, o + (k + 1) * 4, none⟩) m (c - (k + 1))) m (pcells (ps.drop (k + 1))) w.drew) := Lib.hid (by
      have := (h.kept (below_drewN 1)).back (m := k + 1) (by omega)
      rw [pcells_drop, show k + m + 1 - (k + 1) = m by omega] at this
      exact this.src Try.underlying22 (pcells_one _))
    clear h hn
    go_enter Try.func34, Try.ntmps34
    go_wp2
    go_region_law (refine step_appO rfl (.tmp 22) (.tmp 25) 22 22 rfl 29 i0 (.agg #[.string ⟨#[]⟩, .int .i64 0, .string ⟨#[]⟩, .int .i64 0]) 4 48 Try.underlying22 hi hz0 hz1 hz2 rfl g o c k (pcells (ps.take k)) (by simp [Act.eval, Act.put]) o1.out (.slice (some ⟨g, o + (k + 1) * 4, none⟩) m (c - (k + 1))) m (pcells (ps.drop (k + 1))) (by simp [Act.eval, Act.put]) o2.out (by unfold maxLen; omega) (by omega) ?_; intro v2 w2 ho2 hg2 hr2 hk2; obtain rfl := hr2 (by omega); rw [hE.out] at ho2; have hcl := (HLast w2).out _ ho2; have HO2 := Lib.hid ho2; have HG2 := Lib.hid hg2; clear ho2 hg2 hr2 hk2)
    all_goals go_wp2
    all_goals go_ret
    all_goals exact ⟨rfl, (hfin _).out HO2.out HG2.out⟩

theorem eql_nil (a : Addr) (n c : Nat) (w : World) : (binOp BinOp.eql 22 (.slice (some a) n c) (.slice none 0 0)).run Try.prog w = .ok (.bool false) w := by kernel_rfl
set_option maxRecDepth 100000 in
set_option maxHeartbeats 1000000 in
theorem clone_any (g o c : Nat) (ps : List Pend) (w : World) (hl : ps.length ≤ 900000) (hp : 0 < ps.length) (h : OwnO w 29 4 (.slice (some ⟨g, o, none⟩) ps.length c) ps.length (pcells ps)) :
    Calls Try.prog 30 #[.slice (some ⟨g, o, none⟩) ps.length c] w fun e w' => ∃ v, e = .returned v ∧ OwnO w' 29 4 v ps.length (pcells ps) ∧ (∀ k, v.ownBlock = some k → w.heap.size ≤ k) ∧ Below w.heap.size w w' := by
  have hml : maxLen ≤ 9223372036854775807 := by decide
  obtain ⟨i0, hi, hz0, hz1, hz2⟩ := info_parts info_pend
  have o1 : Hid ((w.alloc (.cells #[] 29)).ownsRow w.heap.size 29 4 (.slice (some ⟨w.heap.size, 0, none⟩) 0 0) 0 []) := Lib.hid ⟨by simp, .inr ⟨w.heap.size, 0, #[], rfl, Nat.le_refl _, heap_alloc_new w _, Nat.le_refl _, Nat.zero_le _, by simp, by simp⟩⟩
  have o2 : Hid (Src Try.prog 4 22 (.slice (some ⟨g, o, none⟩) ps.length c) ps.length (pcells ps) (w.alloc (.cells #[] 29))) := Lib.hid ((h.kept (below_alloc w _)).src Try.underlying22 (pcells_one _))
  have HB := Lib.hid (below_alloc w (.cells #[] 29))
  have hnil := eql_nil ⟨g, o, none⟩ ps.length c w
  have H := Lib.hid h
  clear h
  go_enter Try.func30, Try.ntmps30
  go_wp2_with (at_builtin; refine wpList_app5 rfl _ _ 22 22 rfl w.heap.size 29 i0 (.agg #[.string ⟨#[]⟩, .int .i64 0, .string ⟨#[]⟩, .int .i64 0]) 4 48 Try.underlying22 hi hz0 hz1 hz2 rfl _ 0 [] rfl o1.out _ ps.length (pcells ps) rfl o2.out (by unfold maxLen; omega) (by omega) (by simp) ?_; intro v2 w2 ho2 hg2 hn2; have HO2 := Lib.hid ho2; have HG2 := Lib.hid hg2; have HN2 := Lib.hid hn2; obtain ⟨p2, c2, e2, -, -⟩ := own_slice ho2; clear ho2 hg2 hn2)
  go_ret
  have e : v2 ≠ .slice none 0 0 := fun e => by rw [e2] at e; simp only [Value.slice.injEq] at e; omega
  have ho := HO2.out
  rw [Nat.zero_add, List.nil_append] at ho
  have e3 : v2 = .slice p2 ps.length c2 := by rw [e2, Nat.zero_add]
  refine ⟨.slice p2 ps.length c2, rfl, ?_⟩
  rw [← e3]
  exact ⟨OwnO.of_own ho e, fun k hk => own_lo ho hk, HB.out.trans (grown_below (b := w.heap.size) (w := w.alloc (.cells #[] 29)) HG2.out (Nat.le_refl _) (by simp))⟩
end Go.Proofs.Ytlemfbgmhjklaaa
