/- RuShapP. -/
import Derived.Test.YtaipldegobjboaaDoorRuPl
import Derived.Test.YtaipldegobjboaaDoorRuMem
namespace Go.Proofs.YtaipldegobjboaaDoor.Ru

def cntL (n : Nat) (Q : List Int) : List Int := (List.range n).map (fun j : Nat => (Q.count (j : Int) : Int))
theorem cntL_len (n : Nat) (Q : List Int) : (cntL n Q).length = n := by unfold cntL; simp
theorem cntL_at {n : Nat} {Q : List Int} {j : Nat} (h : j < n) : (cntL n Q)[j]? = some (Q.count (j : Int) : Int) := by
  unfold cntL
  rw [List.getElem?_map, List.getElem?_range h]
  rfl
theorem cntL_snoc {n : Nat} {Q : List Int} {k : Nat} (h : k < n) : cntL n (Q ++ [(k : Int)]) = (cntL n Q).set k ((Q.count (k : Int) : Int) + 1) := by
  refine List.ext_getElem? fun j => ?_
  by_cases hj : j < n
  · rw [cntL_at hj, List.getElem?_set, List.count_append]
    by_cases e : k = j
    · subst e
      rw [if_pos rfl, if_pos (by rw [cntL_len]; exact h)]
      simp
    · rw [if_neg e, cntL_at hj]
      have : ([(k : Int)] : List Int).count (j : Int) = 0 := by
        rw [List.count_eq_zero]
        simp
        omega
      rw [this]
      rfl
  · rw [List.getElem?_eq_none (by rw [cntL_len]; omega), List.getElem?_eq_none (by rw [List.length_set, cntL_len]; omega)]
theorem cntL_nil (n : Nat) : cntL n [] = List.replicate n 0 := by
  unfold cntL
  refine List.ext_getElem? fun j => ?_
  by_cases hj : j < n
  · rw [List.getElem?_map, List.getElem?_range hj, List.getElem?_replicate, if_pos hj]; simp
  · rw [List.getElem?_eq_none (by simp; omega), List.getElem?_eq_none (by simp; omega)]
/-- what the first i nodes ask for -/
def qs (L : List Nd) (i : Nat) : List Int := (L.take i).flatMap parts
theorem qs_succ {L : List Nd} {i : Nat} (h : i < L.length) : qs L (i + 1) = qs L i ++ parts L[i] := by
  unfold qs
  rw [List.take_succ_eq_append_getElem h, List.flatMap_append]
  simp
theorem qs_all (L : List Nd) : qs L L.length = L.flatMap parts := by unfold qs; rw [List.take_length]
theorem parts_le (n : Nd) : (parts n).length ≤ 2 := by
  unfold parts
  split
  · simp
  · split <;> simp
theorem qs_len (L : List Nd) : ∀ i, i ≤ L.length → (qs L i).length ≤ 2 * i
  | 0, _ => by unfold qs; simp
  | i + 1, h => by
    rw [qs_succ (by omega), List.length_append]
    have := qs_len L i (by omega)
    have := parts_le L[i]
    omega
theorem shaped_len {L : List Nd} (h : ¬ (1 ≤ L.length ∧ L.length ≤ 64)) : shapedB L = false := by
  unfold shapedB
  rw [decide_eq_false h]
  rfl
theorem shaped_node {L : List Nd} {i : Nat} (hi : i < L.length) (h : fineB i L[i] = false) : shapedB L = false := by
  unfold shapedB
  have : (List.range L.length).all (fun i => fineB i ((L[i]?).getD ⟨0, [], [], 0, 0, 0⟩)) = false := by
    rw [List.all_eq_false]
    refine ⟨i, List.mem_range.2 hi, ?_⟩
    rw [List.getElem?_eq_getElem hi]
    simp [h]
  rw [this]
  simp
theorem shaped_used {L : List Nd} {j : Nat} (hj : j < L.length - 1) (h : (L.flatMap parts).count (j : Int) ≠ 1) : shapedB L = false := by
  unfold shapedB
  have : (List.range (L.length - 1)).all (fun j => decide (refs L j = 1)) = false := by
    rw [List.all_eq_false]
    refine ⟨j, List.mem_range.2 hj, ?_⟩
    unfold refs
    simp only [decide_eq_true_eq]
    exact h
  rw [this]
  simp
theorem shaped_last {L : List Nd} (hl : 1 ≤ L.length ∧ L.length ≤ 64) (hf : ∀ i (h : i < L.length), fineB i L[i] = true) (hu : ∀ j, j < L.length - 1 → (L.flatMap parts).count (j : Int) = 1) :
    shapedB L = decide (((L.flatMap parts).count ((L.length - 1 : Nat) : Int) : Int) = 0) := by
  unfold shapedB
  have h1 : (List.range L.length).all (fun i => fineB i ((L[i]?).getD ⟨0, [], [], 0, 0, 0⟩)) = true := by
    rw [List.all_eq_true]
    intro i hi
    rw [List.mem_range] at hi
    rw [List.getElem?_eq_getElem hi]
    exact hf i hi
  have h2 : (List.range (L.length - 1)).all (fun j => decide (refs L j = 1)) = true := by
    rw [List.all_eq_true]
    intro j hj
    rw [List.mem_range] at hj
    unfold refs
    rw [decide_eq_true_eq]
    exact hu j hj
  rw [decide_eq_true hl, h1, h2]
  unfold refs
  simp only [Bool.true_and]
  congr 1
  simp
theorem shaped_fine {L : List Nd} (h : shapedB L = true) : Fine L ∧ (∀ j, refs L j ≤ 1) ∧ 1 ≤ L.length ∧ L.length ≤ 64 := by
  unfold shapedB at h
  simp only [Bool.and_eq_true, decide_eq_true_eq, List.all_eq_true, List.mem_range] at h
  obtain ⟨⟨⟨h1, h2⟩, h3⟩, h4⟩ := h
  have hF : Fine L := fun i n hi p hp => by
    have hlt : i < L.length := by
      rcases Nat.lt_or_ge i L.length with h' | h'
      · exact h'
      · rw [List.getElem?_eq_none h'] at hi; cases hi
    have := h2 i hlt
    rw [hi] at this
    unfold fineB at this
    simp only [Option.getD_some, Bool.and_eq_true, List.all_eq_true, decide_eq_true_eq] at this
    exact this.2 p hp
  refine ⟨hF, fun j => ?_, h1⟩
  by_cases e1 : j < L.length - 1
  · rw [h3 j e1]; omega
  by_cases e2 : j = L.length - 1
  · rw [e2, h4]; omega
  have : refs L j = 0 := by
    unfold refs
    rw [List.count_eq_zero]
    intro hm
    obtain ⟨n, hn, hp⟩ := List.mem_flatMap.1 hm
    obtain ⟨k, hk, rfl⟩ := List.mem_iff_getElem.1 hn
    have := hF k _ (List.getElem?_eq_getElem hk) _ hp
    omega
  omega
theorem fine7 {i : Nat} {n : Nd} (h : n.k = 7) : fineB i n = (decide (n.b = -1) && decide (0 ≤ n.a ∧ n.a < i)) := by
  unfold fineB parts
  rw [if_pos h, if_pos h]
  simp
theorem fine89 {i : Nat} {n : Nd} (h : n.k = 8 ∨ n.k = 9) : fineB i n = (decide (0 ≤ n.a ∧ n.a < i) && decide (0 ≤ n.b ∧ n.b < i)) := by
  have h7 : n.k ≠ 7 := by omega
  unfold fineB parts
  rw [if_neg h7, if_pos h, if_neg h7, if_pos h]
  simp
theorem fine0 {i : Nat} {n : Nd} (h7 : n.k ≠ 7) (h : ¬ (n.k = 8 ∨ n.k = 9)) : fineB i n = decide (n.a = -1 ∧ n.b = -1) := by
  unfold fineB parts
  rw [if_neg h7, if_neg h, if_neg h7, if_neg h]
  simp
theorem parts7 {n : Nd} (h : n.k = 7) : parts n = [n.a] := by unfold parts; rw [if_pos h]
theorem parts89 {n : Nd} (h : n.k = 8 ∨ n.k = 9) : parts n = [n.a, n.b] := by
  unfold parts
  rw [if_neg (by omega), if_pos h]
theorem parts0 {n : Nd} (h7 : n.k ≠ 7) (h : ¬ (n.k = 8 ∨ n.k = 9)) : parts n = [] := by
  unfold parts
  rw [if_neg h7, if_neg h]
end Go.Proofs.YtaipldegobjboaaDoor.Ru
