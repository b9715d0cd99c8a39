/- RuToldA. -/
import Derived.Test.YtaipldegobjboaaDoorRuTold1
import Derived.Test.YtaipldegobjboaaDoorRuShapP
namespace Go.Proofs.YtaipldegobjboaaDoor.Ru
open Go.RowKit Go.Proofs.YtaipldegobjboaaDoor

/-- what told asks of a node's texts -/
def Fit1 (n : Nd) : Prop := n.nm.length ≤ 1000000000000000 ∧ n.vl.length ≤ 1000000000000000 ∧ -9223372036854775808 ≤ n.x ∧ n.x ≤ 9223372036854775807
theorem ltx_len (n : Nd) (h0 : -9223372036854775808 ≤ n.x) (h1 : n.x ≤ 9223372036854775807) : (ltx n.k n.nm n.vl n.x).length ≤ n.nm.length + n.vl.length + 26 := by
  have hi := Lib.itoa_length_le n.x h0 h1
  unfold ltx
  repeat' split
  all_goals ((try simp only [List.length_append, List.length_cons, anyT, List.length_nil]); omega)
theorem cost_le (n : Nd) (h0 : -9223372036854775808 ≤ n.x) (h1 : n.x ≤ 9223372036854775807) : cost n ≤ n.nm.length + n.vl.length + 34 := by
  have := ltx_len n h0 h1
  unfold cost
  omega
theorem sum_cost (M : Nat) : ∀ L : List Nd, (∀ n ∈ L, cost n ≤ M) → (L.map cost).sum ≤ L.length * M
  | [], _ => by simp
  | n :: L, h => by
    have h1 := h n (by simp)
    have h2 := sum_cost M L (fun x hx => h x (by simp [hx]))
    rw [List.map_cons, List.sum_cons, List.length_cons, Nat.add_mul]
    omega
theorem told_long {L : List Nd} (hf : Fine L) (h1 : ∀ j, refs L j ≤ 1) (hl : L.length ≤ 64) (hc : ∀ n ∈ L, Fit1 n) {i : Nat} (hi : i < L.length) : (tl L i).length ≤ 1000000000000000000 := by
  have h := told_le hf h1 hi
  have h2 := sum_cost 2000000000000034 L (fun n hn => by
    obtain ⟨a, b, c, d⟩ := hc n hn
    have := cost_le n c d
    omega)
  have h3 : L.length * 2000000000000034 ≤ 64 * 2000000000000034 := Nat.mul_le_mul_right _ hl
  omega
theorem told_any {L : List Nd} (hf : Fine L) (h1 : ∀ j, refs L j ≤ 1) (hl : L.length ≤ 64) (hc : ∀ n ∈ L, Fit1 n) : ∀ (m i : Nat), i < m → i < L.length → ToldC L i Tab
  | 0, _, h, _ => absurd h (by omega)
  | m + 1, i, h, hi => told_step L hf i hi Tab (fun _ _ h hb => h.below hb) (fun _ h => h) (fun j hj => told_any hf h1 hl hc m j (by omega) (by omega)) (fun j hj => told_long hf h1 hl hc hj) hc

/-! of what was read -/
theorem flat_nodes : ∀ (t : Tr) (b : Nat), t.ok → ∀ n ∈ t.flat b, n.nm.length ≤ 24 ∧ n.vl.length ≤ 32 ∧ 0 ≤ n.x ∧ n.x ≤ 999999999999
  | .lf k nm vl x, b, ho, n, hn => by
    simp only [Tr.flat, List.mem_singleton] at hn
    subst hn
    unfold Tr.ok leafOk nameOk wordOk at ho
    rcases ho with ⟨rfl, rfl, rfl, rfl⟩ | ⟨-, h1, h2, rfl⟩ | ⟨-, h1, rfl, h2, h3⟩ | ⟨rfl, h1, rfl, rfl⟩
    · simp
    · exact ⟨h1.1, h2.2.1, by simp, by simp⟩
    · exact ⟨h1.1, by simp, h2, h3⟩
    · exact ⟨h1.1, by simp, by simp, by simp⟩
  | .no t, b, ho, n, hn => by
    simp only [Tr.flat, List.mem_append, List.mem_singleton] at hn
    rcases hn with hn | rfl
    · exact flat_nodes t b ho n hn
    · simp
  | .an l r, b, ho, n, hn => by
    simp only [Tr.flat, List.mem_append, List.mem_singleton] at hn
    rcases hn with (hn | hn) | rfl
    · exact flat_nodes l b ho.1 n hn
    · exact flat_nodes r _ ho.2 n hn
    · simp
  | .o l r, b, ho, n, hn => by
    simp only [Tr.flat, List.mem_append, List.mem_singleton] at hn
    rcases hn with (hn | hn) | rfl
    · exact flat_nodes l b ho.1 n hn
    · exact flat_nodes r _ ho.2 n hn
    · simp
theorem flat_fine (t : Tr) (ho : t.ok) (hs : t.size ≤ 64) : Fine (t.flat 0) ∧ (∀ j, refs (t.flat 0) j ≤ 1) ∧ 1 ≤ (t.flat 0).length ∧ (t.flat 0).length ≤ 64 := shaped_fine (shaped_flat t ho hs)
theorem flat_fit (t : Tr) (ho : t.ok) : ∀ n ∈ t.flat 0, Fit1 n := fun n hn => by
  obtain ⟨h1, h2, h3, h4⟩ := flat_nodes t 0 ho n hn
  exact ⟨by omega, by omega, by omega, by omega⟩
theorem flat_told (t : Tr) (ho : t.ok) (hs : t.size ≤ 64) {i : Nat} (hi : i < (t.flat 0).length) : ToldC (t.flat 0) i Tab := by
  obtain ⟨h1, h2, h3, h4⟩ := flat_fine t ho hs
  exact told_any h1 h2 h4 (flat_fit t ho) _ i (Nat.lt_succ_self _) hi
end Go.Proofs.YtaipldegobjboaaDoor.Ru
