/- The law's alike on two rows of the same entries. -/
import Derived.Test.YtighcnecajgkpaaLedIn
import Derived.Test.YtighcnecajgkpaaPast
namespace Go.Proofs.Ytighcnecajgkpaa
open Go.RowKit

set_option maxRecDepth 100000 in
set_option maxHeartbeats 2000000 in
theorem alike_same (L : List Ent) (b1 b2 : Nat) (v1 v2 : Value) (w : World) (h1 : w.ownsRow b1 48 6 v1 L.length (entsC L)) (h2 : w.ownsRow b2 48 6 v2 L.length (entsC L)) :
    Calls Try.prog 26 #[v1, v2] w fun e w' => e = .returned (.bool true) ∧ Below w.heap.size w w' := by
  obtain ⟨p1, k1, rfl, hk1, hm1⟩ := own_slice h1
  obtain ⟨p2, k2, rfl, hk2, hm2⟩ := own_slice h2
  have H1 := Lib.hid h1
  have H2 := Lib.hid h2
  have hml : maxLen ≤ 9223372036854775807 := by decide
  clear h1 h2
  go_enter Try.func26, Try.ntmps26
  go_wp2
  go_loopw [5] (fun i wr => ∃ k : Nat, k ≤ L.length ∧ i = .int .i64 (k : Int) ∧ Hid (Below w.heap.size w wr)) (fun i _ => L.length - (intOf i).toNat)
  case atStart => exact ⟨0, Nat.zero_le _, rfl, Lib.hid (Below.refl _ _)⟩
  case round =>
    obtain ⟨k, hk, rfl, HB⟩ := hrel
    by_cases hlt : k < L.length
    · obtain ⟨g1, c1, e1, -, -, -⟩ := own_block H1.out (by omega)
      obtain ⟨g2, c2, e2, -, -, -⟩ := own_block H2.out (by omega)
      simp only [Value.slice.injEq] at e1 e2
      obtain ⟨rfl, -, rfl⟩ := e1
      obtain ⟨rfl, -, rfl⟩ := e2
      obtain ⟨x, hx⟩ : ∃ x, x = L[k] := ⟨_, rfl⟩
      have f1 : ∀ j u, j < 6 → (entC x)[j]? = some u → ∀ s : Past wr, s.val.cell? ⟨g1, k * 6 + j, none⟩ = some u := fun j u hj hu => Past.cell (cell_kept (own_cell H1.out (by rw [entsC_at L k hlt j hj, ← hx]; exact hu)) HB.out)
      have f2 : ∀ j u, j < 6 → (entC x)[j]? = some u → ∀ s : Past wr, s.val.cell? ⟨g2, k * 6 + j, none⟩ = some u := fun j u hj hu => Past.cell (cell_kept (own_cell H2.out (by rw [entsC_at L k hlt j hj, ← hx]; exact hu)) HB.out)
      have a0 : ∀ s : Past wr, s.val.cell? ⟨g1, k * 6, none⟩ = some (.string x.n) := f1 0 _ (by omega) rfl
      have a1 := f1 1 _ (by omega) rfl
      have a2 := f1 2 _ (by omega) rfl
      have a3 := f1 3 _ (by omega) rfl
      have a4 := f1 4 _ (by omega) rfl
      have a5 := f1 5 _ (by omega) rfl
      have d0 : ∀ s : Past wr, s.val.cell? ⟨g2, k * 6, none⟩ = some (.string x.n) := f2 0 _ (by omega) rfl
      have d1 := f2 1 _ (by omega) rfl
      have d2 := f2 2 _ (by omega) rfl
      have d3 := f2 3 _ (by omega) rfl
      have d4 := f2 4 _ (by omega) rfl
      have d5 := f2 5 _ (by omega) rfl
      have i1 : (k : Int) < (L.length : Int) := by omega
      clear f1 f2 hx
      go_wp2
      refine wp_region_past (by kernel_rfl) (by kernel_rfl) ?_
      repeat (go_big_quiet_step (fail))
      refine wpQuiet_nil ?_
      intro _ hw'
      obtain ⟨s9, hw''⟩ := hw'
      subst hw''
      obtain ⟨w9, h9, e9⟩ : ∃ w9, Below wr.heap.size wr w9 ∧ w9 = s9.val := ⟨_, s9.h, rfl⟩
      rw [← e9]
      have HB9 : Hid (Below w.heap.size w w9) := Lib.hid (below_and HB.out h9)
      clear h9 e9 a0 a1 a2 a3 a4 a5 d0 d1 d2 d3 d4 d5
      go_wp2
      go_roundw
      case rel => exact ⟨k + 1, hlt, by go_num, HB9⟩
      case measure => simp [intOf]; omega
    · obtain rfl : k = L.length := by omega
      go_wp2
      go_ret
      exact ⟨rfl, HB.out⟩
end Go.Proofs.Ytighcnecajgkpaa
