/- The parser: not, the plain part. -/
import Derived.Test.YtjjaaooiajmclaaDoorRuPairsP
namespace Go.Proofs.YtjjaaooiajmclaaDoor.Ru
open Go.RowKit Go.Proofs.YtjjaaooiajmclaaDoor

theorem got_cnt {n : Nat} {L : List Nd} {t : Tr} {i : Int} {s : Ps} (h : Got n L t i s) : s.n ≤ 64 ∧ s.L.length + n = L.length + s.n := by
  refine ⟨h.most, ?_⟩
  rw [h.L, h.n, List.length_append, t.flat_len]
  omega
theorem kp_not (N F d : Nat) (hd : d ≤ 32) : Kp N F (notP N F d) where
  len := fun n L r i s h => by obtain ⟨t, -, -, h3⟩ := notP_is N F d hd n L r i s h; exact h3
  cnt := fun n L r i s h => by obtain ⟨t, -, h2, -⟩ := notP_is N F d hd n L r i s h; exact got_cnt h2
  err := fun n L r e hr hN h => by
    have := (notP_err N F d hd n L r e hr hN h).1
    omega
theorem kp_and (N F d : Nat) (hd : d ≤ 32) (hFN : F ≤ N + 1) : Kp N F (andP N F d) where
  len := fun n L r i s h => by obtain ⟨t, -, -, h3⟩ := andP_is (notP_is N F d hd) n L r i s h; exact h3
  cnt := fun n L r i s h => by obtain ⟨t, -, h2, -⟩ := andP_is (notP_is N F d hd) n L r i s h; exact got_cnt h2
  err := fun n L r e hr hN h => by
    have := (pairsP_err (M := F - 1) (fun n L r e hr h => notP_err N F d hd n L r e (by omega) (by omega) h) (fun n L r i s h => notP_len hd L r i s h) (by omega) n L r e (by omega) h).1
    omega
theorem kp_or (N F d : Nat) (hd : d ≤ 32) : Kp N F (orP N F d) where
  len := fun n L r i s h => by obtain ⟨t, -, -, h3⟩ := orP_is (notP_is N F d hd) n L r i s h; exact h3
  cnt := fun n L r i s h => by obtain ⟨t, -, h2, -⟩ := orP_is (notP_is N F d hd) n L r i s h; exact got_cnt h2
  err := fun n L r e hr hN h => by
    have := (orP_err hd hr hN h).1
    omega

section
variable {s : ByteArray} {k n F d : Nat} {L : List Nd}
theorem notP_no (hk : k ≤ s.size) (h : isB s ⟨#[33]⟩ k = true) : notP s.size (F + 1) d ⟨n, L, rest s k⟩ =
    if 32 < d + 1 then .error (3, (skip s k : Int)) else if 64 < n + 1 then .error (3, (skip s k : Int)) else
      match notP s.size F (d + 1) ⟨n + 1, L, rest s (isK s ⟨#[33]⟩ k)⟩ with
      | .error e => .error e
      | .ok q => .ok (put q.2.n q.2.L q.2.r ⟨7, [], [], 0, q.1, -1⟩) := by
  have h1 := (is_facts (p := ⟨#[33]⟩) hk).2.1 h
  obtain ⟨-, g2, g3, -, -⟩ := skip_is hk
  conv => lhs; unfold notP
  simp only
  rw [show strip [33] (blk (rest s k)) = some (rest s (isK s ⟨#[33]⟩ k)) from h1]
  simp only
  rw [g3, pos_rest g2]
  by_cases hh : 32 < d + 1
  · rw [if_pos hh, if_pos hh]
  rw [if_neg hh, if_neg hh]
  by_cases hh : 64 < n + 1
  · rw [if_pos hh, if_pos hh]
  rw [if_neg hh, if_neg hh]
  cases notP s.size F (d + 1) ⟨n + 1, L, rest s (isK s ⟨#[33]⟩ k)⟩ <;> rfl
theorem notP_open (hk : k ≤ s.size) (h0 : isB s ⟨#[33]⟩ k = false) (h : isB s ⟨#[40]⟩ k = true) : notP s.size (F + 1) d ⟨n, L, rest s k⟩ =
    if 32 < d + 1 then .error (3, (skip s k : Int)) else
      match orP s.size F (d + 1) ⟨n, L, rest s (isK s ⟨#[40]⟩ k)⟩ with
      | .error e => .error e
      | .ok q => match strip [41] (blk q.2.r) with
        | some r3 => .ok (q.1, ⟨q.2.n, q.2.L, r3⟩)
        | none => .error (5, pos s.size (blk q.2.r)) := by
  have h1 := (is_facts (p := ⟨#[40]⟩) hk).2.1 h
  have h2 := ((is_facts (p := ⟨#[33]⟩) hk).2.2 h0).1
  obtain ⟨-, g2, g3, -, -⟩ := skip_is hk
  conv => lhs; unfold notP
  simp only
  rw [show strip [33] (blk (rest s k)) = none from h2, show strip [40] (blk (rest s k)) = some (rest s (isK s ⟨#[40]⟩ k)) from h1]
  simp only
  rw [g3, pos_rest g2]
  by_cases hh : 32 < d + 1
  · rw [if_pos hh, if_pos hh]
  rw [if_neg hh, if_neg hh]
  unfold orP andP
  cases pairsP s.size 124 9 (pairsP s.size 38 8 (notP s.size F (d + 1))) ⟨n, L, rest s (isK s ⟨#[40]⟩ k)⟩ with
  | error e => rfl
  | ok q =>
    simp only
    cases strip [41] (blk q.2.r) <;> rfl
theorem notP_leaf (hk : k ≤ s.size) (h0 : isB s ⟨#[33]⟩ k = false) (h : isB s ⟨#[40]⟩ k = false) : notP s.size (F + 1) d ⟨n, L, rest s k⟩ = leafP s.size ⟨n, L, rest s (skip s k)⟩ := by
  have h1 := ((is_facts (p := ⟨#[40]⟩) hk).2.2 h).1
  have h2 := ((is_facts (p := ⟨#[33]⟩) hk).2.2 h0).1
  obtain ⟨-, g2, g3, -, -⟩ := skip_is hk
  conv => lhs; unfold notP
  simp only
  rw [show strip [33] (blk (rest s k)) = none from h2, show strip [40] (blk (rest s k)) = none from h1]
  simp only
  rw [g3]
end
end Go.Proofs.YtjjaaooiajmclaaDoor.Ru
