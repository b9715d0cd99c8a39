/- The queue's Peek and Take. -/
import Derived.Test.YtlemfbgmhjklaaaQRet
namespace Go.Proofs.Ytlemfbgmhjklaaa
open Go.RowKit

abbrev pzv : Value := .agg #[.string ⟨#[]⟩, .int .i64 0, .string ⟨#[]⟩, .int .i64 0]

set_option maxRecDepth 100000 in
set_option maxHeartbeats 1000000 in
theorem peek_none (b : Nat) (T : Int) (v : Value) (w : World) (h : Qu w b T v []) :
    Calls Try.prog 18 #[ptr b] w fun e w' => e = .returned (.tuple #[pzv, .bool false]) ∧ Below w.heap.size w w' := by
  have H := Lib.hid (h.kept (below_alloc w (.cells #[.string ⟨#[]⟩, .int .i64 0, .string ⟨#[]⟩, .int .i64 0] 29)))
  obtain ⟨p, c, rfl, -, -⟩ := h.shape
  have c0 := H.out.blk.cell (j := 0) rfl
  simp only [List.length_nil] at c0
  clear h
  go_enter Try.func18, Try.ntmps18
  go_wp2_with (go_at_call 28; refine (qnone_made b T (.slice p [].length c) [] _ H.out).mono ?_; rintro e w2 ⟨rfl, rfl⟩)
  exact ret_cell rfl rfl rfl (Blk.made w [.string ⟨#[]⟩, .int .i64 0, .string ⟨#[]⟩, .int .i64 0] 29) Try.underlying29 rfl info_pend2 ⟨rfl, below_alloc w _⟩

set_option maxRecDepth 100000 in
set_option maxHeartbeats 1000000 in
theorem peek_some (b : Nat) (T : Int) (v : Value) (r : PRow) (R : List PRow) (p : Pend) (tl : List Pend) (w : World) (h : Qu w b T v (r :: R)) (hp : r.a.ps = p :: tl) :
    Calls Try.prog 18 #[ptr b] w fun e w' => e = .returned (.tuple #[pval p, .bool true]) ∧ Below w.heap.size w w' := by
  have h1 := h.kept (below_alloc w (.cells #[.string ⟨#[]⟩, .int .i64 0, .string ⟨#[]⟩, .int .i64 0] 29))
  obtain ⟨g, cap, rfl, -, -, -, -⟩ := h.lies (by simp)
  have c0 := h1.blk.cell (j := 0) rfl
  have c1 := own_cell h1.own (rptrs_at (R := r :: R) (i := 0) rfl)
  have c2 := (h1.rows r (by simp)).1.blk.cell (j := 3) rfl
  obtain ⟨q, o, c, hv, hc1, -, -⟩ := (h1.rows r (by simp)).1.own.shape
  have ho := (h1.rows r (by simp)).1.own
  rw [hv] at c2 ho
  rw [hp] at ho c2
  have e0 := ho.cell (j := 0) rfl
  have e1 := ho.cell (j := 1) rfl
  have e2 := ho.cell (j := 2) rfl
  have e3 := ho.cell (j := 3) rfl
  have l1 : (0 : Int) < (tl.length : Int) + 1 := by omega
  have l2 : (0 : Int) < (R.length : Int) + 1 := by omega
  have q1 : ((R.length : Int) + 1 == 0) = false := by simp; omega
  have H := Lib.hid h1
  simp only [List.length_cons, Nat.add_zero] at c0 c2 e0
  clear h h1 ho hv hp hc1
  go_enter Try.func18, Try.ntmps18
  go_wp2_with (go_at_call 28; refine (qnone_made b T _ _ _ H.out).mono ?_; rintro e w2 ⟨rfl, rfl⟩)
  exact ret_cell rfl rfl rfl (Blk.made w (pend p) 29) Try.underlying29 rfl info_pend2 ⟨rfl, below_alloc w _⟩
end Go.Proofs.Ytlemfbgmhjklaaa
