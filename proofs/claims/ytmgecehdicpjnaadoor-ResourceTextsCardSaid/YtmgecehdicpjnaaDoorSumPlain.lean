/- Adding goes both ways and in any order of joining; taking away undoes it: in plain Lean. -/
import Derived.Test.YtmgecehdicpjnaaDoorSum
import Derived.Test.YtmgecehdicpjnaaDoorSub
namespace Go.Proofs.YtmgecehdicpjnaaDoor
open Go.RowKit

theorem addR_comm (x y : Am) : addR x y = addR y x := by
  unfold addR
  rw [Bool.and_comm]
  simp only [Int.add_comm (y.get _) (x.get _)]
/-- the three answers -/
theorem addR_cases (x y : Am) : ((x.okB && y.okB) = false ∧ addR x y = (.zero, 2)) ∨ ((x.okB && y.okB) = true ∧ (∃ k, k < 4 ∧ 1099511627776 < x.get k + y.get k) ∧ addR x y = (.zero, 9)) ∨
    ((x.okB && y.okB) = true ∧ (∀ k, k < 4 → x.get k + y.get k ≤ 1099511627776) ∧ addR x y = (.of fun k => x.get k + y.get k, 0)) := by
  cases h : x.okB && y.okB
  · exact .inl ⟨rfl, addR_bad h⟩
  · right
    by_cases ho : ∃ k, k < 4 ∧ 1099511627776 < x.get k + y.get k
    · obtain ⟨k, hk, h2⟩ := ho
      exact .inl ⟨rfl, ⟨k, hk, h2⟩, addR_over h hk h2⟩
    · have ho' : ∀ k, k < 4 → x.get k + y.get k ≤ 1099511627776 := fun k hk => by
        by_cases h2 : 1099511627776 < x.get k + y.get k
        · exact absurd ⟨k, hk, h2⟩ ho
        · omega
      exact .inr ⟨rfl, ho', addR_ok h ho' fun k hk => Am.of_get _ k hk⟩
theorem addR_err {x y z : Am} {e : Int} (h : addR x y = (z, e)) (he : e ≠ 0) : z = ⟨0, 0, 0, 0⟩ := by
  rcases addR_cases x y with ⟨-, h1⟩ | ⟨-, -, h1⟩ | ⟨-, -, h1⟩
  · rw [h1] at h; exact (Prod.mk.injEq .. ▸ h).1.symm
  · rw [h1] at h; exact (Prod.mk.injEq .. ▸ h).1.symm
  · rw [h1] at h; exact absurd (Prod.mk.injEq .. ▸ h).2.symm he
theorem addR_sum {x y z : Am} (h : addR x y = (z, 0)) : x.okB = true ∧ y.okB = true ∧ z.okB = true ∧ (∀ k, k < 4 → z.get k = x.get k + y.get k) ∧ ∀ k, k < 4 → x.get k + y.get k ≤ 1099511627776 := by
  rcases addR_cases x y with ⟨-, h1⟩ | ⟨-, -, h1⟩ | ⟨h0, h2, h1⟩
  · rw [h1] at h; exact absurd (Prod.mk.injEq .. ▸ h).2 (by decide)
  · rw [h1] at h; exact absurd (Prod.mk.injEq .. ▸ h).2 (by decide)
  · rw [h1] at h
    have hz : (Am.of fun k => x.get k + y.get k) = z := (Prod.mk.injEq .. ▸ h).1
    simp only [Bool.and_eq_true] at h0
    have hg : ∀ k, k < 4 → z.get k = x.get k + y.get k := fun k hk => by rw [← hz, Am.of_get _ k hk]
    refine ⟨h0.1, h0.2, ?_, hg, h2⟩
    rw [Am.okB_iff]
    intro k hk
    have a := ok_get h0.1 hk
    have b := ok_get h0.2 hk
    have c := h2 k hk
    rw [hg k hk]
    omega
theorem sub_back {a b x : Am} (h : addR a b = (x, 0)) : subR x b = (a, 0) := by
  obtain ⟨h1, h2, h3, h4, h5⟩ := addR_sum h
  refine subR_ok (by rw [h3, h2]; rfl) ?_ (fun k hk => by rw [h4 k hk]; omega)
  unfold fitsB
  rw [any4_no (fun k hk => by have := ok_get h1 hk; rw [h4 k hk]; simp; omega)]
  rfl
theorem fits_sum {a b x : Am} (h : addR a b = (x, 0)) : fitsB a x = true ∧ fitsB b x = true := by
  obtain ⟨h1, h2, h3, h4, h5⟩ := addR_sum h
  constructor
  · unfold fitsB
    rw [any4_no (fun k hk => by have := ok_get h2 hk; rw [h4 k hk]; simp; omega)]
    rfl
  · unfold fitsB
    rw [any4_no (fun k hk => by have := ok_get h1 hk; rw [h4 k hk]; simp; omega)]
    rfl
theorem add_assoc {a b c x m : Am} (h : addR a b = (x, 0)) (h2 : addR b c = (m, 0)) : addR a m = addR x c := by
  obtain ⟨a1, a2, a3, a4, a5⟩ := addR_sum h
  obtain ⟨b1, b2, b3, b4, b5⟩ := addR_sum h2
  have e : ∀ k, k < 4 → a.get k + m.get k = x.get k + c.get k := fun k hk => by rw [b4 k hk, a4 k hk]; omega
  rcases addR_cases x c with ⟨g0, g1⟩ | ⟨g0, ⟨k, hk, g2⟩, g1⟩ | ⟨g0, g2, g1⟩
  · rw [a3, b2] at g0; cases g0
  · rw [g1]; exact addR_over (by rw [a1, b3]; rfl) hk (by rw [e k hk]; exact g2)
  · rw [g1]; exact addR_ok (by rw [a1, b3]; rfl) (fun k hk => by rw [e k hk]; exact g2 k hk) (fun k hk => by rw [Am.of_get _ k hk, e k hk])
theorem zero_ok : Am.zero.okB = true := by decide
theorem add_zero {a : Am} (h : a.okB = true) : addR .zero a = (a, 0) :=
  addR_ok (by rw [h]; decide) (fun k hk => by have := ok_get h hk; have e : Am.zero.get k = 0 := by match k, hk with | 0, _ => rfl | 1, _ => rfl | 2, _ => rfl | 3, _ => rfl | n + 4, h => omega
                                              rw [e]; omega) (fun k hk => by have e : Am.zero.get k = 0 := by match k, hk with | 0, _ => rfl | 1, _ => rfl | 2, _ => rfl | 3, _ => rfl | n + 4, h => omega
                                                                             rw [e]; omega)
theorem sum_three {a b c x l : Am} {e : Int} (h : addR a b = (x, 0)) (h2 : addR x c = (l, e)) : sumR [a, b, c] = (l, e) := by
  obtain ⟨a1, a2, a3, a4, a5⟩ := addR_sum h
  unfold sumR
  cases hc : c.okB
  · rw [if_pos (by simp [allB, hc])]
    rw [← h2, addR_bad (by rw [hc]; simp)]
  · rw [if_neg (by simp [allB, a1, a2, hc])]
    have e1 : sumF .zero [a, b, c] = sumF x [c] := by
      show (if (addR .zero a).2 = 0 then sumF (addR .zero a).1 [b, c] else _) = _
      rw [add_zero a1, if_pos rfl]
      show (if (addR a b).2 = 0 then sumF (addR a b).1 [c] else _) = _
      rw [h, if_pos rfl]
    rw [e1]
    show (if (addR x c).2 = 0 then sumF (addR x c).1 [] else (.zero, (addR x c).2)) = _
    rw [h2]
    by_cases he : e = 0
    · subst he; rfl
    · rw [if_neg he, addR_err h2 he]; rfl

theorem add_val (x y z : Am) (e : Int) (w : World) (h : addR x y = (z, e)) :
    Calls Tryd.prog 17 #[amV x, amV y] w fun e' w' => e' = .returned (.tuple #[amV z, .int .i64 e]) ∧ Below w.heap.size w w' :=
  (add_any x y w).mono fun e' w' ⟨h1, h2⟩ => ⟨by rw [h1, h], h2⟩
theorem sub_val (x y z : Am) (e : Int) (w : World) (h : subR x y = (z, e)) :
    Calls Tryd.prog 18 #[amV x, amV y] w fun e' w' => e' = .returned (.tuple #[amV z, .int .i64 e]) ∧ Below w.heap.size w w' :=
  (sub_any x y w).mono fun e' w' ⟨h1, h2⟩ => ⟨by rw [h1, h], h2⟩
theorem ams_three (w : World) (x y z : Am) : Ams (w.alloc (.cells #[.int .i64 x.c, .int .i64 x.r, .int .i64 x.d, .int .i64 x.p, .int .i64 y.c, .int .i64 y.r, .int .i64 y.d, .int .i64 y.p, .int .i64 z.c, .int .i64 z.r, .int .i64 z.d, .int .i64 z.p] 23)) (.slice (some ⟨w.heap.size, 0, none⟩) 3 3) [x, y, z] :=
  ams_block (xs := [x, y, z]) (heap_alloc_new w _) (by simp [maxLen])
theorem sum3_val (w : World) (x y z s : Am) (e : Int) (h : sumR [x, y, z] = (s, e)) : Calls Tryd.prog 16 #[.slice (some ⟨w.heap.size, 0, none⟩) 3 3] (w.alloc (.cells #[.int .i64 x.c, .int .i64 x.r, .int .i64 x.d, .int .i64 x.p, .int .i64 y.c, .int .i64 y.r, .int .i64 y.d, .int .i64 y.p, .int .i64 z.c, .int .i64 z.r, .int .i64 z.d, .int .i64 z.p] 23)) fun e' w' => e' = .returned (.tuple #[amV s, .int .i64 e]) ∧ Below w.heap.size w w' :=
  (sum_any _ [x, y, z] _ (ams_three w x y z)).mono fun e' w' ⟨h1, h2⟩ => ⟨by rw [h1, h], below_and (below_alloc w _) h2⟩
end Go.Proofs.YtmgecehdicpjnaaDoor
