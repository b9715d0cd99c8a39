/- How far a slice that came in reaches. -/
import Derived.Test.YtndjgbknhfficaaOpen3
namespace Go.Proofs.Ytndjgbknhfficaa
open Go.ChangeShapes Go.WideShapes Go.ChangeAt Go.RowKit

theorem slice_reach {H : Type} {enc : TypeId × Value → H} {P : Program} {W : World} {t e : TypeId} {v : Value} {d : DataW H} {ps : List MemPlace} {r : Reach} {b0 : Nat} {ts : List TypeId} {ds : List (DataW H)} {j : Nat}
    (ht : P.underlying t = some (.slice e)) (hval : Value.okWide P W r b0 t v) (h : DataW.Trod enc P W 0 (fun _ => true) true t v d ps)
    (hsz : (DataW.weightsEach P ts ds).all (· ≤ reachBytes) = true) (hj : ts[j]? = some t) (hd : ds[j]? = some d) (bytes : Nat) (hb : P.bytesOf e = bytes) :
    ∃ a n c, v = .slice a n c ∧ n * bytes ≤ 140737488351232 := by
  obtain ⟨a0, len0, cap0, rfl⟩ := okWide_slice ht hval
  obtain ⟨fuel, hf⟩ := h
  rcases Deep.open_slice ht hf with ⟨hcs, -⟩ | ⟨a, len, cap, m, n, D, Pl, hcs, -, hl, -, hmm, hx, -⟩
  · simp [Value.cells] at hcs
    obtain ⟨rfl, rfl, rfl⟩ := hcs
    exact ⟨_, _, _, rfl, by simp⟩
  · simp [Value.cells] at hcs
    obtain ⟨rfl, rfl, rfl⟩ := hcs
    simp only [Prod.mk.injEq] at hx
    have hd' := hx.1
    subst hd'
    have := sized_slice hsz hj hd ht
    simp only [List.length_map, List.length_range] at this
    rw [hb] at this
    have h3 : len0 * bytes ≤ (len0 + (m - len0)) * bytes := Nat.mul_le_mul_right _ (by omega)
    have h4 : reachBytes = 140737488351232 := by decide
    exact ⟨_, _, _, rfl, by omega⟩
theorem row_len {w : World} {v : Value} {size n : Nat} {cs : List Value} (h : Row w v size n cs) {a : Option Addr} {m c : Nat} (e : v = .slice a m c) : m = n := by
  obtain ⟨p, c', hv, -⟩ := h
  rw [e] at hv
  simp only [Value.slice.injEq] at hv
  exact hv.2.1
end Go.Proofs.Ytndjgbknhfficaa
