/- SoColl. -/
import Derived.Test.YtndjgbknhfficaaSoSeq
import Derived.RangeFuncBox
import Derived.Lib.Hide
namespace Go.Proofs.Ytndjgbknhfficaa.So
open Go.RowKit Go.Maps Go.Shelf Go.Proofs.Ytndjgbknhfficaa

theorem info_u64 : (Try.prog.info? 25).map (fun i => (i.zero, i.size, i.bytes)) = some (some (.int .u64 0), 1, 8) := by kernel_rfl
theorem below_and' {n : Nat} {a b c : World} (h : Below n a b) (k : Below n b c) : Below n a c := h.trans k

set_option maxRecDepth 100000 in
set_option maxHeartbeats 4000000 in
theorem append_in (n : Nat) (hn : 3 ≤ n) (Bm b : Nat) (m : NM) (hnd : (m.map (·.1)).Nodup) (hml : m.length ≤ 1000000) (w : World) (hBm : Bm < w.heap.size) (hm : w.cell? ⟨Bm, 0, none⟩ = some (.map (some b))) (hown : NMap Try.prog 25 w b m) :
    CallsIn Fence.wide n Try.prog 47 #[.slice none 0 0, .func (.func 46) #[] #[.pointer (some ⟨Bm, 0, none⟩)]] w fun e w' =>
      ∃ (v : Value) (xs : List Int), e = .returned v ∧ xs.Perm (m.map (·.1)) ∧ w'.ownsRow w.heap.size 25 1 v xs.length (xs.map encU) ∧ Below w.heap.size w w' := by
  obtain ⟨i0, hi, hz0, hz1, hz2⟩ := info_parts info_u64
  have h1 : 1 ≤ n := by omega
  refine callsIn_of_wp_marks Try.func47 rfl trivial ?_ rfl
  simp only [Try.ntmps47, List.size_toArray, List.length_cons, List.length_nil, Nat.reduceAdd, Nat.reduceSub, Array.replicate_succ, Array.replicate_zero, List.push_toArray, List.append_toArray, List.nil_append, List.cons_append]
  gi_wp2
  have hb0 : Below w.heap.size w (w.alloc (.cells #[.slice none 0 0] 36)) := below_alloc w _
  refine wpIn_rangeFunc_ownF rfl h1 (gf := 46) (lb := #[.pointer (some ⟨Bm, 0, none⟩)]) rfl trivial (enters_of Try.func46 (by kernel_rfl) rfl)
    (encs := fun x : Int => #[encU x]) (Kp := KeepsWalks) (w0 := w.alloc (.cells #[.slice none 0 0] 36))
    (keys_stops (n - 1) (by omega) Bm b m hnd (w.alloc (.cells #[.slice none 0 0] 36)) (by simp; omega) ((hb0.cell (p := ⟨Bm, 0, none⟩) hBm).trans hm) (hown.kept hb0))
    walksK_t walksK_b (Below.refl _ _) (fun _ => rfl)
    (fun pre W => (∃ v, Boxed W w.heap.size 36 v ∧ W.ownsRow w.heap.size 25 1 v pre.length (pre.map encU) ∧ True) ∧ Below w.heap.size w W)
    (fun _ _ _ => False)
    (OwnFrom.and (Own.from (holdsRow_own w.heap.size w.heap.size 36 25 1 (fun pre : List Int => pre.length) (fun pre => pre.map encU) (fun _ _ => True)) _) (ownFrom_below (Nat.le_refl _) (by simp)))
    (fun _ _ _ _ _ hs _ _ => hs)
    ⟨⟨.slice none 0 0, Boxed.new w _ _, ⟨rfl, .inl ⟨rfl, rfl⟩⟩, trivial⟩, hb0⟩
    (fun x => { tmps := #[.slice none 0 0, .func (.func 46) #[] #[.pointer (some ⟨Bm, 0, none⟩)], .pointer (some ⟨w.heap.size, 0, none⟩), undef, .slice none 0 0, encU x, .func (.func 46) #[] #[.pointer (some ⟨Bm, 0, none⟩)], encU x, undef, undef, undef, undef, undef], defers := [] }) ?assign ?body ?done ?stop
  case assign =>
    intro l x W K hK
    gi_wp2_with (rw [Oper.semAt_eq _ _ _ (fun c h => by cases h)]; go_simp; try go_bits)
    exact hK
  case body =>
    rintro l pre x W ⟨⟨v, hv, hrow, -⟩, hB⟩ hlen
    have hle := hB.size
    have hc0 := hv.cell
    have hf0 := hv.frozen
    gi_wp2_with (first
      | (gi_at_builtin; refine wpListIn_append_own _ rfl _ _ 36 rfl w.heap.size 25 i0 (.int .u64 0) 1 8 Try.underlying36 hi hz0 hz1 hz2 rfl (by decide) _ _ _ rfl (hrow.alloc _) ⟨W.heap.size, 0, none⟩ 1 1 [encU x] rfl rfl (cell_one_new _ _ _) (by simp [Value.oneCell', encU]) (by unfold maxLen; omega) (by omega) (by simp; omega) ?_; intro v' w1 hown' hgrow _; obtain ⟨g', cap', rfl⟩ := ownsRow_succ hown'; obtain ⟨hv1, hv2, hr2, hk2, hb2⟩ := hv.appended (by decide) hrow hB.size (Nat.le_refl _) hown' hgrow; have hc1 := hv1.cell; have hf1 := hv1.frozen; go_frame)
      | (rw [Oper.semAt_eq _ _ _ (fun c h => by cases h)]; go_simp; try go_bits))
    refine ⟨hk2, hk2.walks, ⟨_, hv2, ?_, trivial⟩, below_and' hB hb2⟩
    simpa using hr2
  case done =>
    rintro D ys W hD hS ⟨⟨v, hv, hrow, -⟩, hB⟩ hK
    have hc0 := hv.cell
    gi_wp2
    refine ⟨by simp, .inl ⟨_, _, rfl, run_takeDeferred hK, ?_⟩⟩
    exact ⟨_, results_tmp rfl _ _ _, v, ys, rfl, hS, ownsRow_putObj hrow _ hK rfl, hB.trans (belowK_b (n₀ := w.heap.size) (w := w) (Nat.le_refl _) W D _ _ (by simp at hD; omega) hK rfl rfl)⟩
  case stop =>
    rintro D c pre W _ _ h _
    exact h.elim

theorem append_any (Bm b : Nat) (m : NM) (hnd : (m.map (·.1)).Nodup) (hml : m.length ≤ 1000000) (w : World) (hBm : Bm < w.heap.size) (hm : w.cell? ⟨Bm, 0, none⟩ = some (.map (some b))) (hown : NMap Try.prog 25 w b m) :
    Calls Try.prog 47 #[.slice none 0 0, .func (.func 46) #[] #[.pointer (some ⟨Bm, 0, none⟩)]] w fun e w' =>
      ∃ (v : Value) (xs : List Int), e = .returned v ∧ xs.Perm (m.map (·.1)) ∧ w'.ownsRow w.heap.size 25 1 v xs.length (xs.map encU) ∧ Below w.heap.size w w' :=
  callsIn_wide.1 (append_in 3 (Nat.le_refl _) Bm b m hnd hml w hBm hm hown)

set_option maxRecDepth 100000 in
set_option maxHeartbeats 2000000 in
theorem collect_any (Bm b : Nat) (m : NM) (hnd : (m.map (·.1)).Nodup) (hml : m.length ≤ 1000000) (w : World) (hBm : Bm < w.heap.size) (hm : w.cell? ⟨Bm, 0, none⟩ = some (.map (some b))) (hown : NMap Try.prog 25 w b m) :
    Calls Try.prog 44 #[.func (.func 46) #[] #[.pointer (some ⟨Bm, 0, none⟩)]] w fun e w' =>
      ∃ (v : Value) (xs : List Int), e = .returned v ∧ xs.Perm (m.map (·.1)) ∧ w'.ownsRow w.heap.size 25 1 v xs.length (xs.map encU) ∧ Below w.heap.size w w' := by
  have H := Lib.hid (append_any Bm b m hnd hml w hBm hm hown)
  clear hm hown hnd hml
  go_enter Try.func44, Try.ntmps44
  go_wp2_with (go_at_call 47; refine H.out.mono ?_; rintro e w' ⟨v, xs, rfl, h1, h2, h3⟩; have HP := Lib.hid h1; have HO := Lib.hid h2; have HB := Lib.hid h3; clear h1 h2 h3)
  go_ret
  exact ⟨v, xs, rfl, HP.out, HO.out, HB.out⟩

set_option maxRecDepth 100000 in
set_option maxHeartbeats 2000000 in
theorem keys_any (mb : Option Nat) (w : World) :
    Calls Try.prog 43 #[.map mb] w fun e w' => e = .returned (.func (.func 46) #[] #[.pointer (some ⟨w.heap.size, 0, none⟩)]) ∧ w' = w.alloc (.cells #[.map mb] 57) := by
  go_enter Try.func43, Try.ntmps43
  go_wp2
  go_ret
  exact ⟨rfl, rfl⟩
end Go.Proofs.Ytndjgbknhfficaa.So
