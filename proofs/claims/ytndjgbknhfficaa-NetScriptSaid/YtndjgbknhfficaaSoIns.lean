/- SoIns. -/
import Derived.Test.YtndjgbknhfficaaSoAr
import Derived.Lib.Hide
namespace Go.Proofs.Ytndjgbknhfficaa.So
open Go.RowKit Go.Sort Go.Proofs.Ytndjgbknhfficaa

def intOf : Value → Int | .int _ q => q | _ => 0

section
variable {α : Type} [Inhabited α] (lt : α → α → Bool)
theorem inner_go (a k : Nat) (d : Array α) (ha : a < k + 1) (hl : lt d[k + 1]! d[k]! = true) : insInner lt a (k + 1) d = insInner lt a k (swp d (k + 1) k) := by
  rw [insInner, hl]
  simp [ha]
theorem inner_end (a j : Nat) (d : Array α) (h : j ≤ a) : insInner lt a j d = d := by
  cases j with
  | zero => rfl
  | succ k => rw [insInner]; simp [show ¬ k + 1 > a by omega]
theorem inner_no (a k : Nat) (d : Array α) (hl : lt d[k + 1]! d[k]! = false) : insInner lt a (k + 1) d = d := by
  rw [insInner, hl]
  simp
theorem outer_go (a b i : Nat) (d : Array α) (h : i < b) : insOuter lt a b i d = insOuter lt a b (i + 1) (insInner lt a i d) := by
  rw [insOuter, if_pos h]
theorem outer_end (a b i : Nat) (d : Array α) (h : ¬ i < b) : insOuter lt a b i d = d := by
  rw [insOuter, if_neg h]
end

set_option maxRecDepth 100000 in
set_option maxHeartbeats 4000000 in
theorem ins_any {w0 : World} {g off N : Nat} {Y Z : List Value} {d : Array Int} {w : World} (cap a b : Nat) (h : Ar w0 g off N Y Z w d) (hab : a ≤ b) (hb : b ≤ N) (hN : N < 4611686018427387904) :
    Calls Try.prog 50 #[.slice (some ⟨g, off, none⟩) N cap, .int .i64 a, .int .i64 b] w fun e w' => e = .returned (.tuple #[]) ∧ Ar w0 g off N Y Z w' (insertionSort ltInt d a b) := by
  have H0 := Lib.hid h
  clear h
  go_enter Try.func50, Try.ntmps50
  go_wp2
  go_loopw [6] (fun vi wr => ∃ (i : Nat) (dk : Array Int), vi = .int .i64 i ∧ a < i ∧ i ≤ b + 1 ∧ Hid (Ar w0 g off N Y Z wr dk ∧ insOuter ltInt a b i dk = insOuter ltInt a b (a + 1) d)) (fun vi _ => b + 1 - (intOf vi).toNat)
  case atStart => exact ⟨a + 1, d, by go_num, by omega, by omega, ⟨H0.out, rfl⟩⟩
  case round =>
    obtain ⟨i, dk, rfl, hai, hib, HR⟩ := hrel
    by_cases hlt : i < b
    · go_wp2
      go_loopw [7] (fun vj w2 => ∃ (j : Nat) (dj : Array Int), vj = .int .i64 j ∧ a ≤ j ∧ j ≤ i ∧ Hid (Ar w0 g off N Y Z w2 dj ∧ insInner ltInt a j dj = insInner ltInt a i dk)) (fun vj _ => (intOf vj).toNat)
      case atStart => exact ⟨i, dk, rfl, by omega, Nat.le_refl _, ⟨HR.out.1, rfl⟩⟩
      case round =>
        obtain ⟨j, dj, rfl, haj, hji, HJ⟩ := hrel
        by_cases hja : a < j
        · obtain ⟨k, rfl⟩ : ∃ k, j = k + 1 := ⟨j - 1, by omega⟩
          obtain ⟨G, hG⟩ : ∃ G : Nat → Int, ∀ t, G t = dj[t]! := ⟨fun t => dj[t]!, fun _ => rfl⟩
          have c1 : wr.cell? ⟨g, off + (k + 1), none⟩ = some (.int .u64 (G (k + 1))) := by rw [hG]; exact HJ.out.1.cell (by omega)
          have c0 : wr.cell? ⟨g, off + k, none⟩ = some (.int .u64 (G k)) := by rw [hG]; exact HJ.out.1.cell (by omega)
          have HG := Lib.hid hG
          clear hG
          have t1 : decide ((a : Int) < (k : Int) + 1) = true := by simp; omega
          go_wp2_with fail
          go_big_quiet (first | (go_at_call 56; refine Calls.quiet_of_same (less_any _ _ _)))
          go_wp2
          · have hl : ltInt (G (k + 1)) (G k) = true := by assumption
            obtain ⟨w3, hw3⟩ : ∃ w3, w3 = wr.drewN nq := ⟨_, rfl⟩
            have H3 := Lib.hid (HJ.out.1.draw nq)
            rw [← hw3] at H3 ⊢
            have c1 : w3.cell? ⟨g, off + (k + 1), none⟩ = some (.int .u64 (G (k + 1))) := by rw [HG.out]; exact H3.out.cell (by omega)
            have c0 : w3.cell? ⟨g, off + k, none⟩ = some (.int .u64 (G k)) := by rw [HG.out]; exact H3.out.cell (by omega)
            have f1 : w3.frozen? ⟨g, off + (k + 1), none⟩ = false := H3.out.free _
            have f0 : w3.frozen? ⟨g, off + k, none⟩ = false := H3.out.free _
            clear hw3
            go_region
            all_goals go_wp2
            go_roundw
            case rel =>
              refine ⟨k, swp dj (k + 1) k, by first | rfl | (congr 1; omega), by omega, by omega, ⟨?_, ?_⟩⟩
              · have h4 := (H3.out.swp (i := k + 1) (j := k) (by omega) (by omega)).drew
                rw [← HG.out, ← HG.out] at h4
                exact h4
              · rw [← HJ.out.2, inner_go ltInt a k dj hja (by rw [← HG.out, ← HG.out]; exact hl)]
            case measure => first | (simp [intOf]; done) | (simp [intOf]; omega)
          · have hl : ltInt (G (k + 1)) (G k) = false := by assumption
            go_roundw
            case rel => exact ⟨i + 1, dj, by go_num, by omega, by omega, ⟨HJ.out.1.draw nq, by rw [← HR.out.2, outer_go ltInt a b i dk hlt, ← HJ.out.2, inner_no ltInt a k dj (by rw [← HG.out, ← HG.out]; exact hl)]⟩⟩
            case measure => first | (simp [intOf]; done) | (simp [intOf]; omega)
        · have t1 : decide ((a : Int) < (j : Int)) = false := by simp; omega
          go_wp2_with fail
          go_big_quiet (first | (go_at_call 56; refine Calls.quiet_of_same (less_any _ _ _)))
          go_wp2
          go_roundw
          case rel => exact ⟨i + 1, dj, by go_num, by omega, by omega, ⟨HJ.out.1.draw nq, by rw [← HR.out.2, outer_go ltInt a b i dk hlt, ← HJ.out.2, inner_end ltInt a j dj (by omega)]⟩⟩
          case measure => first | (simp [intOf]; done) | (simp [intOf]; omega)
    · go_wp2
      go_end0
      refine ⟨rfl, ?_⟩
      unfold insertionSort
      rw [← HR.out.2, outer_end ltInt a b i dk hlt]
      exact HR.out.1
end Go.Proofs.Ytndjgbknhfficaa.So
