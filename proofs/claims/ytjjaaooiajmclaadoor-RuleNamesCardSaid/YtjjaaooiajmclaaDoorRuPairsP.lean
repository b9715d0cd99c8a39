/- The parser: pairs, the plain part and the contracts of a reading. -/
import Derived.Test.YtjjaaooiajmclaaDoorRuLeaf
namespace Go.Proofs.YtjjaaooiajmclaaDoor.Ru
open Go.RowKit Go.Proofs.YtjjaaooiajmclaaDoor

/-- strconv's variable lies below the base -/
def ErrB (base : Nat) (w : World) : Prop := ErrV w ∧ ∃ g, Tryd.prog.globalNamed "strconv.ErrSyntax" = some g ∧ g < base
theorem ErrB.below {base : Nat} {w w' : World} (h : ErrB base w) (hb : Below base w w') : ErrB base w' := by
  obtain ⟨⟨tp, p, h⟩, g, hg, hlt⟩ := h
  refine ⟨⟨tp, p, ?_⟩, g, hg, hlt⟩
  unfold World.var? at *
  rw [hg] at h ⊢
  simp only [Option.bind_some] at h ⊢
  rw [hb.block g hlt]
  exact h
structure Kp (N m : Nat) (nx : Ps → PR) : Prop where
  len : ∀ n L r i s, nx ⟨n, L, r⟩ = .ok (i, s) → s.r.length ≤ r.length
  cnt : ∀ n L r i s, nx ⟨n, L, r⟩ = .ok (i, s) → s.n ≤ 64 ∧ s.L.length + n = L.length + s.n
  err : ∀ n L r e, r.length < m → r.length ≤ N → nx ⟨n, L, r⟩ = .error e → e.1 ≠ 0
/-- the contract of a reading: good states at depth d, fewer than m bytes left -/
def Rd (base b : Nat) (s : ByteArray) (m F d : Nat) (nx : Ps → PR) : Prop :=
  ∀ (k n : Nat) (v : Value) (L : List Nd) (w : World), Prs base w b s k d n v L 0 0 → n ≤ 64 → L.length ≤ n → s.size - k < m → base ≤ w.heap.size → ErrB base w →
    Calls Tryd.prog F #[ptr b] w fun r w' => Out base w w' b s d (nx ⟨n, L, rest s k⟩) r
/-- .. and of a state with a fault -/
def RdE (base b : Nat) (s : ByteArray) (F : Nat) : Prop :=
  ∀ (k : Nat) (d n : Int) (v : Value) (L : List Nd) (e a : Int) (w : World), Prs base w b s k d n v L e a → e ≠ 0 → base ≤ w.heap.size →
    Calls Tryd.prog F #[ptr b] w fun r w' => Out base w w' b s 0 (.error (e, a)) r
/-- the same, with the answer's number set free -/
def OutS (base : Nat) (w w' : World) (b : Nat) (s : ByteArray) (d : Int) (R : PR) (j : Int) : Prop :=
  match R with
  | .ok q => j = q.1 ∧ (∃ k' v', q.2.r = rest s k' ∧ Prs base w' b s k' d q.2.n v' q.2.L 0 0) ∧ Below base w w'
  | .error e => (∃ k' d' n' v' L', Prs base w' b s k' d' n' v' L' e.1 e.2) ∧ Below base w w'
theorem out_j {base : Nat} {w w' : World} {b : Nat} {s : ByteArray} {d : Int} {R : PR} {r : Ending} (h : Out base w w' b s d R r) : ∃ j : Int, r = .returned (.int .i64 j) ∧ OutS base w w' b s d R j := by
  cases R with
  | ok q => exact ⟨q.1, h.1, rfl, h.2.1, h.2.2⟩
  | error e => obtain ⟨⟨j, hj⟩, h2, h3⟩ := h; exact ⟨j, hj, h2, h3⟩

section
variable {s : ByteArray} {k n m K : Nat} {L : List Nd} {sg : UInt8} {kd : Int} {nx : Ps → PR} {left : Int}
theorem loopP_stop (hk : k ≤ s.size) (h : isB s ⟨#[sg]⟩ k = false) : loopP s.size sg kd nx (K + 1) left ⟨n, L, rest s k⟩ = .ok (left, ⟨n, L, rest s (isK s ⟨#[sg]⟩ k)⟩) := by
  obtain ⟨h1, h2⟩ := (is_facts (p := ⟨#[sg]⟩) hk).2.2 h
  unfold loopP
  rw [show strip [sg] (blk (rest s k)) = none from h1, h2]
theorem loopP_go (hk : k ≤ s.size) (h : isB s ⟨#[sg]⟩ k = true) : loopP s.size sg kd nx (K + 1) left ⟨n, L, rest s k⟩ = if 64 < n + 1 then .error (3, (skip s k : Int)) else
      match nx ⟨n + 1, L, rest s (isK s ⟨#[sg]⟩ k)⟩ with
      | .error e => .error e
      | .ok q => loopP s.size sg kd nx K q.2.L.length ⟨q.2.n, q.2.L ++ [⟨kd, [], [], 0, left, q.1⟩], q.2.r⟩ := by
  have h1 := (is_facts (p := ⟨#[sg]⟩) hk).2.1 h
  obtain ⟨-, g2, g3, -, -⟩ := skip_is hk
  conv => lhs; unfold loopP
  rw [show strip [sg] (blk (rest s k)) = some (rest s (isK s ⟨#[sg]⟩ k)) from h1]
  simp only
  rw [g3, pos_rest g2]
  by_cases hh : 64 < n + 1
  · rw [if_pos hh, if_pos hh]
  · rw [if_neg hh, if_neg hh]
    cases nx ⟨n + 1, L, rest s (isK s ⟨#[sg]⟩ k)⟩ <;> rfl
theorem isK_far (hk : k ≤ s.size) (h : isB s ⟨#[sg]⟩ k = true) : k < isK s ⟨#[sg]⟩ k ∧ isK s ⟨#[sg]⟩ k ≤ s.size := by
  obtain ⟨g1, -⟩ := is_facts (p := ⟨#[sg]⟩) hk
  obtain ⟨g2, -⟩ := skip_is hk
  refine ⟨?_, g1⟩
  unfold isK
  rw [h, if_pos rfl]
  show k < skip s k + 1
  omega
end
/-- a round of pairs: where it stands -/
def PairS (base : Nat) (w wr : World) (b : Nat) (s : ByteArray) (m d : Nat) (sg : UInt8) (kd : Int) (nx : Ps → PR) (R : PR) (j : Int) : Prop :=
  (∃ (K k n : Nat) (v : Value) (L : List Nd), Prs base wr b s k d n v L 0 0 ∧ n ≤ 64 ∧ L.length ≤ n ∧ s.size - k < m ∧ s.size - k < K ∧ loopP s.size sg kd nx K j ⟨n, L, rest s k⟩ = R ∧ Below base w wr) ∨
  (∃ (k : Nat) (d' n' : Int) (v : Value) (L : List Nd) (e a : Int), Prs base wr b s k d' n' v L e a ∧ e ≠ 0 ∧ R = .error (e, a) ∧ Below base w wr)
theorem PairS.start {base : Nat} {w wr : World} {b : Nat} {s : ByteArray} {m d : Nat} {sg : UInt8} {kd : Int} {nx : Ps → PR} {j : Int} {k n : Nat} {L : List Nd} (hk : Kp s.size m nx) (hl : L.length ≤ n) (hm : s.size - k < m)
    (h : OutS base w wr b s d (nx ⟨n, L, rest s k⟩) j) : PairS base w wr b s m d sg kd nx (pairsP s.size sg kd nx ⟨n, L, rest s k⟩) j := by
  unfold pairsP
  cases hx : nx ⟨n, L, rest s k⟩ with
  | error e =>
    rw [hx] at h
    obtain ⟨⟨k', d', n', v', L', h1⟩, h2⟩ := h
    exact .inr ⟨k', d', n', v', L', e.1, e.2, h1, hk.err _ _ _ e (by rw [rest_len]; omega) (by rw [rest_len]; omega) hx, rfl, h2⟩
  | ok q =>
    rw [hx] at h
    obtain ⟨rfl, ⟨k', v', h1, h2⟩, h3⟩ := h
    have hq := hk.cnt _ _ _ q.1 q.2 hx
    have hl2 := hk.len _ _ _ q.1 q.2 hx
    rw [h1, rest_len, rest_len] at hl2
    refine .inl ⟨q.2.r.length + 1, k', q.2.n, v', q.2.L, h2, hq.1, by omega, by omega, by rw [h1, rest_len]; omega, ?_, h3⟩
    show loopP _ _ _ _ _ _ _ = loopP _ _ _ _ _ _ q.2
    rw [← h1]
/-- the measure of pairs -/
def prM (b N : Nat) (w : World) : Nat := if intOf ((w.cell? ⟨b, 5, none⟩).getD undef) = 0 then 1 + (N - (intOf ((w.cell? ⟨b, 1, none⟩).getD undef)).toNat) else 0
theorem prM_good {base : Nat} {w : World} {b : Nat} {s : ByteArray} {k : Nat} {d n : Int} {v : Value} {L : List Nd} {a : Int} (h : Prs base w b s k d n v L 0 a) : prM b s.size w = 1 + (s.size - k) := by
  unfold prM
  rw [h.c5, h.c1]
  simp [intOf]
theorem prM_bad {base : Nat} {w : World} {b : Nat} {s : ByteArray} {k : Nat} {d n : Int} {v : Value} {L : List Nd} {e a : Int} (h : Prs base w b s k d n v L e a) (he : e ≠ 0) : prM b s.size w = 0 := by
  unfold prM
  rw [h.c5]
  simp [intOf, he]
theorem NodeS.below {base : Nat} {w w' : World} {b : Nat} {s : ByteArray} {k : Nat} {d n d0 n0 : Int} {v : Value} {L L0 : List Nd} {e a : Int} (h : NodeS base w w' b s k d n v L) (h0 : Prs base w b s k d0 n0 v L0 e a) (hb : base ≤ w.heap.size) : Below base w w' := by
  obtain ⟨v', h6, h7, h8⟩ := h
  exact h7.below (fun q hq => by rcases hq with rfl | hq; exact h0.hb; exact own_lo h0.own hq) hb
end Go.Proofs.YtjjaaooiajmclaaDoor.Ru
