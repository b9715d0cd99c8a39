/- Sums of a course's parts, as ClockLease goes through them. -/
import Derived.Test.YtmgcigohfccgeaaCKeeps
import Derived.Test.YtmgcigohfccgeaaCWait
import Derived.Test.YtmgcigohfccgeaaSPlain
namespace Go.Proofs.Ytmgcigohfccgeaa
namespace Clk
theorem part_step {zss : List (List Int)} (node : Nat) {f k : Nat} (h : f ≤ k) (hk : k < zss.length) : part (own zss node) f (k + 1) = part (own zss node) f k + (zss[k]).getD node 0 := by
  rw [part_succ _ _ _ h (by simpa [own] using hk), own_getD zss node k hk]
theorem own_all {zss : List (List Int)} (h : bad zss = false) (node : Nat) : ∀ x ∈ own zss node, 0 ≤ x ∧ x ≤ 1048576 := by
  intro x hx
  obtain ⟨l, hl, rfl⟩ := List.mem_map.1 hx
  obtain ⟨i, hi, rfl⟩ := List.getElem_of_mem hl
  exact own_bound h node hi
theorem part_in {zss : List (List Int)} (h : bad zss = false) (hl : zss.length ≤ 200) (node f k : Nat) : 0 ≤ part (own zss node) f k ∧ part (own zss node) f k ≤ 209715200 := by
  have h1 := part_nonneg (own zss node) f k fun x hx => (own_all h node x hx).1
  have h2 := part_le (own zss node) f k 1048576 (by omega) fun x hx => (own_all h node x hx).2
  have h3 : (own zss node).length = zss.length := by simp [own]
  omega
theorem keeps_good {zss : List (List Int)} {node d : Int} (h : (keeps zss node d).1 = true) : 0 ≤ d ∧ d ≤ 500 ∧ 0 ≤ node ∧ node ≤ 63 ∧ bad zss = false ∧ keepsAll (own zss node.toNat) d := by
  unfold keeps at h
  split at h
  · cases h
  · split at h
    · cases h
    · rename_i h2
      exact ⟨by omega, by omega, by omega, by omega, by simpa using h2, (pass_keeps _ _).1 h⟩
theorem waits_good {n d : Int} (h : (waits n d).2 = 0) : (waits n d).1 = wait n d ∧ 1 ≤ n ∧ n ≤ 1048576 := by
  unfold waits at *
  split at h
  · cases h
  · rename_i h2
    rw [if_neg h2]
    exact ⟨rfl, by omega, by omega⟩
end Clk
end Go.Proofs.Ytmgcigohfccgeaa
