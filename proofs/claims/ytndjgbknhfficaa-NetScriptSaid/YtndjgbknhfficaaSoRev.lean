/- SoRev. -/
import Derived.Test.YtndjgbknhfficaaSoIns
namespace Go.Proofs.Ytndjgbknhfficaa.So
open Go.RowKit Go.Sort Go.Proofs.Ytndjgbknhfficaa

set_option maxRecDepth 100000 in
set_option maxHeartbeats 8000000 in
theorem rev_any {w0 : World} {g off N : Nat} {Y Z : List Value} {d : Array Int} {w : World} (cap a b : Nat) (h : Ar w0 g off N Y Z w (d)) (hab : a ≤ b) (hb : b ≤ N) (hN : N < 4611686018427387904) :
    Calls Try.prog 54 #[.slice (some ⟨g, off, none⟩) N cap, .int .i64 a, .int .i64 b] w fun e w' => e = .returned (.tuple #[]) ∧ Ar w0 g off N Y Z w' (reverseRange d a b) := by
  have H0 := Lib.hid h
  clear h
  go_enter Try.func54, Try.ntmps54
  go_wp2
  go_loopw [6, 7] (fun vi vj wr => ∃ (i jn : Nat) (jz : Int) (dk : Array Int), vi = .int .i64 i ∧ vj = .int .i64 jz ∧ a ≤ i ∧ ((i : Int) < jz → jz = jn ∧ jn < N) ∧ (¬ (i : Int) < jz → ¬ i < jn) ∧ Hid (Ar w0 g off N Y Z wr (dk) ∧ reverseLoop i jn dk = reverseLoop a (b - 1) d)) (fun vi vj _ => (intOf vj - intOf vi + 1).toNat)
  case atStart => exact ⟨a, b - 1, (b : Int) - 1, d, by go_num, by go_num, Nat.le_refl _, fun h => ⟨by omega, by omega⟩, fun h => by omega, ⟨H0.out, rfl⟩⟩
  case round =>
    obtain ⟨i, jn, jz, dk, rfl, rfl, hai, h1, h2, HR⟩ := hrel
    by_cases hlt : (i : Int) < jz
    · obtain ⟨rfl, hjn⟩ := h1 hlt
      clear h1 h2
      have hij : i < jn := by omega
      obtain ⟨G, hG⟩ : ∃ G : Nat → Int, ∀ t, G t = dk[t]! := ⟨fun t => dk[t]!, fun _ => rfl⟩
      have HG := Lib.hid hG
      clear hG
      have hc : ∀ t, t < N → wr.cell? ⟨g, off + t, none⟩ = some (.int .u64 (G t)) := fun t ht => by rw [HG.out]; exact HR.out.1.cell ht
      have hf : ∀ t, t < N → wr.frozen? ⟨g, off + t, none⟩ = false := fun t _ => HR.out.1.free t
      go_wp2_with fail
      go_region
      all_goals go_wp2
      go_roundw
      case rel =>
        refine ⟨i + 1, jn - 1, (jn : Int) - 1, swp dk i jn, by go_num, by go_num, by omega, fun h => ⟨by omega, by omega⟩, fun h => by omega, ⟨?_, ?_⟩⟩
        · have h4 := (HR.out.1.swp (i := i) (j := jn) (by omega) (by omega)).drew
          (repeat rw [← HG.out] at h4)
          exact h4
        · rw [← HR.out.2]
          conv => rhs; rw [reverseLoop, if_pos hij]
      case measure => first | (simp [intOf]; done) | (simp [intOf]; omega)
    · have hnot := h2 hlt
      go_wp2
      go_end0
      refine ⟨rfl, ?_⟩
      have e := HR.out.2
      rw [reverseLoop, if_neg hnot] at e
      rw [reverseRange, ← e]
      exact HR.out.1
end Go.Proofs.Ytndjgbknhfficaa.So
