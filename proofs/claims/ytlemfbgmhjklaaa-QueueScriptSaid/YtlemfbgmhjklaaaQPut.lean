/- The queue's Put. -/
import Derived.Test.YtlemfbgmhjklaaaQSep
import Derived.Deep.RegionWith
import Derived.Deep.RegionHeld3
namespace Go.Proofs.Ytlemfbgmhjklaaa
open Go.RowKit

def badP (p : Pend) : Prop := p.band < 0 ∨ 3 < p.band ∨ p.job.toList.isEmpty = true ∨ p.user.toList.isEmpty = true ∨ p.idx < 0

set_option maxRecDepth 100000 in
set_option maxHeartbeats 1000000 in
theorem put_bad (b : Nat) (T : Int) (v : Value) (R : List PRow) (p : Pend) (w : World) (h : Qu w b T v R) (hb : badP p) :
    Calls Try.prog 10 #[ptr b, pval p] w fun e w' => e = .returned (.int .i64 2) ∧ Below w.heap.size w w' := by
  have H := Lib.hid h
  clear h
  obtain ⟨j, i, u, d⟩ := p
  unfold badP at hb
  simp only at hb
  by_cases h1 : d < 0
  · clear hb
    go_enter Try.func10, Try.ntmps10
    go_wp2_with (go_at_call 28; refine (qnone_made b _ _ _ _ (H.out.kept (below_alloc _ _))).mono ?_; rintro e w2 ⟨rfl, rfl⟩)
    go_ret
    exact ⟨rfl, below_alloc _ _⟩
  · by_cases h2 : 3 < d
    · clear hb
      go_enter Try.func10, Try.ntmps10
      go_wp2_with (go_at_call 28; refine (qnone_made b _ _ _ _ (H.out.kept (below_alloc _ _))).mono ?_; rintro e w2 ⟨rfl, rfl⟩)
      go_ret
      exact ⟨rfl, below_alloc _ _⟩
    · cases h3 : j.toList.isEmpty
      · cases h4 : u.toList.isEmpty
        · have h5 : i < 0 := by simpa [h1, h2, h3, h4] using hb
          clear hb
          go_enter Try.func10, Try.ntmps10
          go_wp2_with (go_at_call 28; refine (qnone_made b _ _ _ _ (H.out.kept (below_alloc _ _))).mono ?_; rintro e w2 ⟨rfl, rfl⟩)
          go_ret
          exact ⟨rfl, below_alloc _ _⟩
        · clear hb
          go_enter Try.func10, Try.ntmps10
          go_wp2_with (go_at_call 28; refine (qnone_made b _ _ _ _ (H.out.kept (below_alloc _ _))).mono ?_; rintro e w2 ⟨rfl, rfl⟩)
          go_ret
          exact ⟨rfl, below_alloc _ _⟩
      · clear hb
        go_enter Try.func10, Try.ntmps10
        go_wp2_with (go_at_call 28; refine (qnone_made b _ _ _ _ (H.out.kept (below_alloc _ _))).mono ?_; rintro e w2 ⟨rfl, rfl⟩)
        go_ret
        exact ⟨rfl, below_alloc _ _⟩

/-- a task that may be -/
structure OkP (p : Pend) : Prop where
  b0 : ¬ p.band < 0
  b3 : ¬ 3 < p.band
  job : p.job.toList.isEmpty = false
  user : p.user.toList.isEmpty = false
  idx : ¬ p.idx < 0
theorem okP {p : Pend} (h : ¬ badP p) : OkP p := by
  unfold badP at h
  simp only [not_or, Bool.not_eq_true] at h
  exact ⟨h.1, h.2.1, h.2.2.1, h.2.2.2.1, h.2.2.2.2⟩

set_option maxRecDepth 100000 in
set_option maxHeartbeats 1000000 in
theorem put_there (b : Nat) (T : Int) (v : Value) (R : List PRow) (p : Pend) (w : World) (h : Qu w b T v R) (ho : OkP p) (hq : (findR R p.task).isSome = true) :
    Calls Try.prog 10 #[ptr b, pval p] w fun e w' => e = .returned (.int .i64 7) ∧ Below w.heap.size w w' := by
  have H := Lib.hid h
  have HQ := Lib.hid hq
  clear h hq
  obtain ⟨h1, h2, h3, h4, h5⟩ := ho
  obtain ⟨j, i, u, d⟩ := p
  simp only at h1 h2 h3 h4 h5
  go_enter Try.func10, Try.ntmps10
  go_wp2_with (first
    | (go_at_call 28; refine (qnone_made b _ _ _ _ (H.out.kept (below_alloc _ _))).mono ?_; rintro e w2 ⟨rfl, rfl⟩)
    | (go_at_call 25; refine (has_any b T v R (j, i) _ (H.out.kept (below_alloc _ _))).mono ?_; rintro e w2 ⟨rfl, hb⟩; rw [show (findR R (j, i)).isSome = true from HQ.out]; have HB := Lib.hid (below_and (below_alloc _ _) hb); clear hb))
  go_ret
  exact ⟨rfl, HB.out⟩
end Go.Proofs.Ytlemfbgmhjklaaa
