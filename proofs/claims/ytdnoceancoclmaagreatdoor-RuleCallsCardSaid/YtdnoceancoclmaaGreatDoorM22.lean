/- , laid together: RuPairsP, RuNotP, RdPairs, RdOneW. -/
import Derived.Test.YtdnoceancoclmaaGreatDoorRuLeaf
import Derived.Test.YtdnoceancoclmaaGreatDoorRdLeaf
namespace Go.Proofs.YtdnoceancoclmaaGreatDoor.Ru
open Go.RowKit Go.Proofs.YtdnoceancoclmaaGreatDoor

/-- strconv's variable lies below the base -/
def ErrB (base : Nat) (w : World) : Prop := ErrV w ∧ ∃ g, Tryz.prog.globalNamed "strconv.ErrSyntax" = some g ∧ g < base
theorem ErrB.below {base : Nat} {w w' : World} (h : ErrB base w) (hb : Below base w w') : ErrB base w' := by
  obtain ⟨⟨tp, p, h⟩, g, hg, hlt⟩ := h
  refine ⟨⟨tp, p, ?_⟩, g, hg, hlt⟩
  unfold World.var? at *
  rw [hg] at h ⊢
  simp only [Option.bind_some] at h ⊢
  rw [hb.block g hlt]
  exact h
structure Kp (N m : Nat) (nx : Ps → PR) : Prop where
  len : ∀ n L r i s, nx ⟨n, L, r⟩ = .ok (i, s) → s.r.length ≤ r.length
  cnt : ∀ n L r i s, nx ⟨n, L, r⟩ = .ok (i, s) → s.n ≤ 64 ∧ s.L.length + n = L.length + s.n
  err : ∀ n L r e, r.length < m → r.length ≤ N → nx ⟨n, L, r⟩ = .error e → e.1 ≠ 0
/-- the contract of a reading: good states at depth d, fewer than m bytes left -/
def Rd (base b : Nat) (s : ByteArray) (m F d : Nat) (nx : Ps → PR) : Prop :=
  ∀ (k n : Nat) (v : Value) (L : List Nd) (w : World), Prs base w b s k d n v L 0 0 → n ≤ 64 → L.length ≤ n → s.size - k < m → base ≤ w.heap.size → ErrB base w →
    Calls Tryz.prog F #[ptr b] w fun r w' => Out base w w' b s d (nx ⟨n, L, rest s k⟩) r
/-- .. and of a state with a fault -/
def RdE (base b : Nat) (s : ByteArray) (F : Nat) : Prop :=
  ∀ (k : Nat) (d n : Int) (v : Value) (L : List Nd) (e a : Int) (w : World), Prs base w b s k d n v L e a → e ≠ 0 → base ≤ w.heap.size →
    Calls Tryz.prog F #[ptr b] w fun r w' => Out base w w' b s 0 (.error (e, a)) r
/-- the same, with the answer's number set free -/
def OutS (base : Nat) (w w' : World) (b : Nat) (s : ByteArray) (d : Int) (R : PR) (j : Int) : Prop :=
  match R with
  | .ok q => j = q.1 ∧ (∃ k' v', q.2.r = rest s k' ∧ Prs base w' b s k' d q.2.n v' q.2.L 0 0) ∧ Below base w w'
  | .error e => (∃ k' d' n' v' L', Prs base w' b s k' d' n' v' L' e.1 e.2) ∧ Below base w w'
theorem out_j {base : Nat} {w w' : World} {b : Nat} {s : ByteArray} {d : Int} {R : PR} {r : Ending} (h : Out base w w' b s d R r) : ∃ j : Int, r = .returned (.int .i64 j) ∧ OutS base w w' b s d R j := by
  cases R with
  | ok q => exact ⟨q.1, h.1, rfl, h.2.1, h.2.2⟩
  | error e => obtain ⟨⟨j, hj⟩, h2, h3⟩ := h; exact ⟨j, hj, h2, h3⟩

section
variable {s : ByteArray} {k n m K : Nat} {L : List Nd} {sg : UInt8} {kd : Int} {nx : Ps → PR} {left : Int}
theorem loopP_stop (hk : k ≤ s.size) (h : isB s ⟨#[sg]⟩ k = false) : loopP s.size sg kd nx (K + 1) left ⟨n, L, rest s k⟩ = .ok (left, ⟨n, L, rest s (isK s ⟨#[sg]⟩ k)⟩) := by
  obtain ⟨h1, h2⟩ := (is_facts (p := ⟨#[sg]⟩) hk).2.2 h
  unfold loopP
  rw [show strip [sg] (blk (rest s k)) = none from h1, h2]
theorem loopP_go (hk : k ≤ s.size) (h : isB s ⟨#[sg]⟩ k = true) : loopP s.size sg kd nx (K + 1) left ⟨n, L, rest s k⟩ = if 64 < n + 1 then .error (3, (skip s k : Int)) else
      match nx ⟨n + 1, L, rest s (isK s ⟨#[sg]⟩ k)⟩ with
      | .error e => .error e
      | .ok q => loopP s.size sg kd nx K q.2.L.length ⟨q.2.n, q.2.L ++ [⟨kd, [], [], 0, left, q.1⟩], q.2.r⟩ := by
  have h1 := (is_facts (p := ⟨#[sg]⟩) hk).2.1 h
  obtain ⟨-, g2, g3, -, -⟩ := skip_is hk
  conv => lhs; unfold loopP
  rw [show strip [sg] (blk (rest s k)) = some (rest s (isK s ⟨#[sg]⟩ k)) from h1]
  simp only
  rw [g3, pos_rest g2]
  by_cases hh : 64 < n + 1
  · rw [if_pos hh, if_pos hh]
  · rw [if_neg hh, if_neg hh]
    cases nx ⟨n + 1, L, rest s (isK s ⟨#[sg]⟩ k)⟩ <;> rfl
theorem isK_far (hk : k ≤ s.size) (h : isB s ⟨#[sg]⟩ k = true) : k < isK s ⟨#[sg]⟩ k ∧ isK s ⟨#[sg]⟩ k ≤ s.size := by
  obtain ⟨g1, -⟩ := is_facts (p := ⟨#[sg]⟩) hk
  obtain ⟨g2, -⟩ := skip_is hk
  refine ⟨?_, g1⟩
  unfold isK
  rw [h, if_pos rfl]
  show k < skip s k + 1
  omega
end
/-- a round of pairs: where it stands -/
def PairS (base : Nat) (w wr : World) (b : Nat) (s : ByteArray) (m d : Nat) (sg : UInt8) (kd : Int) (nx : Ps → PR) (R : PR) (j : Int) : Prop :=
  (∃ (K k n : Nat) (v : Value) (L : List Nd), Prs base wr b s k d n v L 0 0 ∧ n ≤ 64 ∧ L.length ≤ n ∧ s.size - k < m ∧ s.size - k < K ∧ loopP s.size sg kd nx K j ⟨n, L, rest s k⟩ = R ∧ Below base w wr) ∨
  (∃ (k : Nat) (d' n' : Int) (v : Value) (L : List Nd) (e a : Int), Prs base wr b s k d' n' v L e a ∧ e ≠ 0 ∧ R = .error (e, a) ∧ Below base w wr)
theorem PairS.start {base : Nat} {w wr : World} {b : Nat} {s : ByteArray} {m d : Nat} {sg : UInt8} {kd : Int} {nx : Ps → PR} {j : Int} {k n : Nat} {L : List Nd} (hk : Kp s.size m nx) (hl : L.length ≤ n) (hm : s.size - k < m)
    (h : OutS base w wr b s d (nx ⟨n, L, rest s k⟩) j) : PairS base w wr b s m d sg kd nx (pairsP s.size sg kd nx ⟨n, L, rest s k⟩) j := by
  unfold pairsP
  cases hx : nx ⟨n, L, rest s k⟩ with
  | error e =>
    rw [hx] at h
    obtain ⟨⟨k', d', n', v', L', h1⟩, h2⟩ := h
    exact .inr ⟨k', d', n', v', L', e.1, e.2, h1, hk.err _ _ _ e (by rw [rest_len]; omega) (by rw [rest_len]; omega) hx, rfl, h2⟩
  | ok q =>
    rw [hx] at h
    obtain ⟨rfl, ⟨k', v', h1, h2⟩, h3⟩ := h
    have hq := hk.cnt _ _ _ q.1 q.2 hx
    have hl2 := hk.len _ _ _ q.1 q.2 hx
    rw [h1, rest_len, rest_len] at hl2
    refine .inl ⟨q.2.r.length + 1, k', q.2.n, v', q.2.L, h2, hq.1, by omega, by omega, by rw [h1, rest_len]; omega, ?_, h3⟩
    show loopP _ _ _ _ _ _ _ = loopP _ _ _ _ _ _ q.2
    rw [← h1]
/-- the measure of pairs -/
def prM (b N : Nat) (w : World) : Nat := if intOf ((w.cell? ⟨b, 5, none⟩).getD undef) = 0 then 1 + (N - (intOf ((w.cell? ⟨b, 1, none⟩).getD undef)).toNat) else 0
theorem prM_good {base : Nat} {w : World} {b : Nat} {s : ByteArray} {k : Nat} {d n : Int} {v : Value} {L : List Nd} {a : Int} (h : Prs base w b s k d n v L 0 a) : prM b s.size w = 1 + (s.size - k) := by
  unfold prM
  rw [h.c5, h.c1]
  simp [intOf]
theorem prM_bad {base : Nat} {w : World} {b : Nat} {s : ByteArray} {k : Nat} {d n : Int} {v : Value} {L : List Nd} {e a : Int} (h : Prs base w b s k d n v L e a) (he : e ≠ 0) : prM b s.size w = 0 := by
  unfold prM
  rw [h.c5]
  simp [intOf, he]
theorem NodeS.below {base : Nat} {w w' : World} {b : Nat} {s : ByteArray} {k : Nat} {d n d0 n0 : Int} {v : Value} {L L0 : List Nd} {e a : Int} (h : NodeS base w w' b s k d n v L) (h0 : Prs base w b s k d0 n0 v L0 e a) (hb : base ≤ w.heap.size) : Below base w w' := by
  obtain ⟨v', h6, h7, h8⟩ := h
  exact h7.below (fun q hq => by rcases hq with rfl | hq; exact h0.hb; exact own_lo h0.own hq) hb
end Go.Proofs.YtdnoceancoclmaaGreatDoor.Ru

namespace Go.Proofs.YtdnoceancoclmaaGreatDoor.Ru
open Go.RowKit Go.Proofs.YtdnoceancoclmaaGreatDoor

theorem got_cnt {n : Nat} {L : List Nd} {t : Tr} {i : Int} {s : Ps} (h : Got n L t i s) : s.n ≤ 64 ∧ s.L.length + n = L.length + s.n := by
  refine ⟨h.most, ?_⟩
  rw [h.L, h.n, List.length_append, t.flat_len]
  omega
theorem kp_not (N F d : Nat) (hd : d ≤ 32) : Kp N F (notP N F d) where
  len := fun n L r i s h => by obtain ⟨t, -, -, h3⟩ := notP_is N F d hd n L r i s h; exact h3
  cnt := fun n L r i s h => by obtain ⟨t, -, h2, -⟩ := notP_is N F d hd n L r i s h; exact got_cnt h2
  err := fun n L r e hr hN h => by
    have := (notP_err N F d hd n L r e hr hN h).1
    omega
theorem kp_and (N F d : Nat) (hd : d ≤ 32) (hFN : F ≤ N + 1) : Kp N F (andP N F d) where
  len := fun n L r i s h => by obtain ⟨t, -, -, h3⟩ := andP_is (notP_is N F d hd) n L r i s h; exact h3
  cnt := fun n L r i s h => by obtain ⟨t, -, h2, -⟩ := andP_is (notP_is N F d hd) n L r i s h; exact got_cnt h2
  err := fun n L r e hr hN h => by
    have := (pairsP_err (M := F - 1) (fun n L r e hr h => notP_err N F d hd n L r e (by omega) (by omega) h) (fun n L r i s h => notP_len hd L r i s h) (by omega) n L r e (by omega) h).1
    omega
theorem kp_or (N F d : Nat) (hd : d ≤ 32) : Kp N F (orP N F d) where
  len := fun n L r i s h => by obtain ⟨t, -, -, h3⟩ := orP_is (notP_is N F d hd) n L r i s h; exact h3
  cnt := fun n L r i s h => by obtain ⟨t, -, h2, -⟩ := orP_is (notP_is N F d hd) n L r i s h; exact got_cnt h2
  err := fun n L r e hr hN h => by
    have := (orP_err hd hr hN h).1
    omega

section
variable {s : ByteArray} {k n F d : Nat} {L : List Nd}
theorem notP_no (hk : k ≤ s.size) (h : isB s ⟨#[33]⟩ k = true) : notP s.size (F + 1) d ⟨n, L, rest s k⟩ =
    if 32 < d + 1 then .error (3, (skip s k : Int)) else if 64 < n + 1 then .error (3, (skip s k : Int)) else
      match notP s.size F (d + 1) ⟨n + 1, L, rest s (isK s ⟨#[33]⟩ k)⟩ with
      | .error e => .error e
      | .ok q => .ok (put q.2.n q.2.L q.2.r ⟨7, [], [], 0, q.1, -1⟩) := by
  have h1 := (is_facts (p := ⟨#[33]⟩) hk).2.1 h
  obtain ⟨-, g2, g3, -, -⟩ := skip_is hk
  conv => lhs; unfold notP
  simp only
  rw [show strip [33] (blk (rest s k)) = some (rest s (isK s ⟨#[33]⟩ k)) from h1]
  simp only
  rw [g3, pos_rest g2]
  by_cases hh : 32 < d + 1
  · rw [if_pos hh, if_pos hh]
  rw [if_neg hh, if_neg hh]
  by_cases hh : 64 < n + 1
  · rw [if_pos hh, if_pos hh]
  rw [if_neg hh, if_neg hh]
  cases notP s.size F (d + 1) ⟨n + 1, L, rest s (isK s ⟨#[33]⟩ k)⟩ <;> rfl
theorem notP_open (hk : k ≤ s.size) (h0 : isB s ⟨#[33]⟩ k = false) (h : isB s ⟨#[40]⟩ k = true) : notP s.size (F + 1) d ⟨n, L, rest s k⟩ =
    if 32 < d + 1 then .error (3, (skip s k : Int)) else
      match orP s.size F (d + 1) ⟨n, L, rest s (isK s ⟨#[40]⟩ k)⟩ with
      | .error e => .error e
      | .ok q => match strip [41] (blk q.2.r) with
        | some r3 => .ok (q.1, ⟨q.2.n, q.2.L, r3⟩)
        | none => .error (5, pos s.size (blk q.2.r)) := by
  have h1 := (is_facts (p := ⟨#[40]⟩) hk).2.1 h
  have h2 := ((is_facts (p := ⟨#[33]⟩) hk).2.2 h0).1
  obtain ⟨-, g2, g3, -, -⟩ := skip_is hk
  conv => lhs; unfold notP
  simp only
  rw [show strip [33] (blk (rest s k)) = none from h2, show strip [40] (blk (rest s k)) = some (rest s (isK s ⟨#[40]⟩ k)) from h1]
  simp only
  rw [g3, pos_rest g2]
  by_cases hh : 32 < d + 1
  · rw [if_pos hh, if_pos hh]
  rw [if_neg hh, if_neg hh]
  unfold orP andP
  cases pairsP s.size 124 9 (pairsP s.size 38 8 (notP s.size F (d + 1))) ⟨n, L, rest s (isK s ⟨#[40]⟩ k)⟩ with
  | error e => rfl
  | ok q =>
    simp only
    cases strip [41] (blk q.2.r) <;> rfl
theorem notP_leaf (hk : k ≤ s.size) (h0 : isB s ⟨#[33]⟩ k = false) (h : isB s ⟨#[40]⟩ k = false) : notP s.size (F + 1) d ⟨n, L, rest s k⟩ = leafP s.size ⟨n, L, rest s (skip s k)⟩ := by
  have h1 := ((is_facts (p := ⟨#[40]⟩) hk).2.2 h).1
  have h2 := ((is_facts (p := ⟨#[33]⟩) hk).2.2 h0).1
  obtain ⟨-, g2, g3, -, -⟩ := skip_is hk
  conv => lhs; unfold notP
  simp only
  rw [show strip [33] (blk (rest s k)) = none from h2, show strip [40] (blk (rest s k)) = none from h1]
  simp only
  rw [g3]
end
end Go.Proofs.YtdnoceancoclmaaGreatDoor.Ru

namespace Go.Proofs.YtdnoceancoclmaaGreatDoor.Ru
open Go.RowKit Go.Proofs.YtdnoceancoclmaaGreatDoor

/-- the contract of a reading at depth d, fewer than m bytes left -/
def Drd (base b : Nat) (s : ByteArray) (m F d : Nat) (nx : Ps → PR) : Prop :=
  ∀ (k n : Nat) (v : Value) (L : List Nd) (bd : Bool) (e a : Int) (w : World), Dp base w b s k v L bd e a n → k ≤ s.size → s.size - k < m → n + 33 ≤ 250 + d → (bd = false → L.length ≤ n ∧ n ≤ 64) → base ≤ w.heap.size →
    Calls Tryz.prog F #[ptr b, .int .i64 (d : Int)] w fun r w' => DOut base w w' b s d bd n (nx ⟨n, L, rest s k⟩) r
theorem pk_is {s : ByteArray} {k : Nat} {sg : UInt8} (hk : k ≤ s.size) (h0 : sg.toNat ≠ 0) : isB s ⟨#[sg]⟩ k = (pkB s k == (sg.toNat : Int)) := by
  unfold isB pkB
  show (strip [sg] (blk (rest s k))).isSome = _
  cases blk (rest s k) with
  | nil =>
    show false = _
    symm
    rw [beq_eq_false_iff_ne]
    intro h9
    have h8 : (0 : Int) = (sg.toNat : Int) := h9
    exact h0 (by omega)
  | cons c t =>
    by_cases hc : sg = c
    · subst hc
      rw [strip_cons]
      show true = ((sg.toNat : Int) == (sg.toNat : Int))
      rw [beq_self_eq_true]
    · rw [strip_ne hc]
      show false = ((c.toNat : Int) == (sg.toNat : Int))
      symm
      rw [beq_eq_false_iff_ne]
      intro h9
      exact hc (UInt8.toNat_inj.1 (by omega))
theorem isK_yes {s : ByteArray} {k : Nat} {sg : UInt8} (h : isB s ⟨#[sg]⟩ k = true) : isK s ⟨#[sg]⟩ k = skip s k + 1 := by
  unfold isK; rw [h, if_pos rfl]; rfl
theorem isK_no {s : ByteArray} {k : Nat} {sg : UInt8} (h : isB s ⟨#[sg]⟩ k = false) : isK s ⟨#[sg]⟩ k = skip s k := by
  unfold isK; rw [h]; rfl
/-- a round of pairs: where it stands -/
def DPair (base : Nat) (w wr : World) (b : Nat) (s : ByteArray) (m d : Nat) (sg : UInt8) (kd : Int) (nx : Ps → PR) (R : PR) (bd0 : Bool) (n0 : Nat) (j : Int) : Prop :=
  (∃ (K k n : Nat) (v : Value) (L : List Nd) (e a : Int), Dp base wr b s k v L false e a n ∧ n ≤ 64 ∧ L.length ≤ n ∧ k ≤ s.size ∧ s.size - k < m ∧ s.size - k < K ∧ bd0 = false ∧ loopP s.size sg kd nx K j ⟨n, L, rest s k⟩ = R ∧ Below base w wr) ∨
  (∃ (k n : Nat) (v : Value) (L : List Nd) (e a : Int), Dp base wr b s k v L true e a n ∧ k ≤ s.size + (33 - d) ∧ n ≤ max n0 65 + (33 - d) ∧ (bd0 = false → Dead R) ∧ Below base w wr)
theorem DPair.start {base : Nat} {w wr : World} {b : Nat} {s : ByteArray} {m d : Nat} {sg : UInt8} {kd : Int} {nx : Ps → PR} {bd : Bool} {k n : Nat} {L : List Nd} {r : Ending} (hk : Kp s.size m nx) (hs : wdc sg = false) (hl : bd = false → L.length ≤ n ∧ n ≤ 64) (hm : s.size - k < m)
    (h : DOut base w wr b s d bd n (nx ⟨n, L, rest s k⟩) r) : ∃ j : Int, r = .returned (.int .i64 j) ∧ DPair base w wr b s m d sg kd nx (pairsP s.size sg kd nx ⟨n, L, rest s k⟩) bd n j := by
  obtain ⟨j, k', v', L', bd', n', rfl, ⟨e, a, hq⟩, hb, hg, hx⟩ := h
  refine ⟨j, rfl, ?_⟩
  cases bd' with
  | false =>
    obtain ⟨rfl, g1, g2⟩ := hg rfl
    have hc := hk.cnt _ _ _ _ _ g2
    have hn := hk.len _ _ _ _ _ g2
    simp only at hc hn
    rw [rest_len, rest_len] at hn
    have h9 := hl rfl
    refine .inl ⟨(rest s k').length + 1, k', n', v', L', e, a, hq, hc.1, by omega, g1, by omega, by rw [rest_len]; omega, rfl, ?_, hb⟩
    unfold pairsP
    rw [g2]
  | true =>
    obtain ⟨g1, g2, g3⟩ := hx rfl
    exact .inr ⟨k', n', v', L', e, a, hq, g2, g3, fun h9 => dead_pairs hs (g1 h9), hb⟩
def dprM (b N : Nat) (w : World) : Nat := match w.cell? ⟨b, 5, none⟩ with | some (.bool false) => 1 + (N - (intOf ((w.cell? ⟨b, 1, none⟩).getD undef)).toNat) | _ => 0
theorem dprM_good {base : Nat} {w : World} {b : Nat} {s : ByteArray} {k : Nat} {n : Int} {v : Value} {L : List Nd} {e a : Int} (h : Dp base w b s k v L false e a n) : dprM b s.size w = 1 + (s.size - k) := by
  unfold dprM
  rw [h.blk.cell (j := 5) rfl, h.blk.cell (j := 1) rfl]
  simp [intOf]
theorem dprM_bad {base : Nat} {w : World} {b : Nat} {s : ByteArray} {k : Nat} {n : Int} {v : Value} {L : List Nd} {e a : Int} (h : Dp base w b s k v L true e a n) : dprM b s.size w = 0 := by
  unfold dprM
  rw [h.blk.cell (j := 5) rfl]
set_option maxRecDepth 100000 in
set_option maxHeartbeats 4000000 in
theorem d_and (base b : Nat) (s : ByteArray) (m d : Nat) (hd : d ≤ 32) (nx : Ps → PR) (hg : Drd base b s m 86 d nx) (hk : Kp s.size m nx) : Drd base b s m 60 d (pairsP s.size 38 8 nx) := by
  intro k n v L bd e a w h hks hm hn hl hbase
  have HG := Lib.hid hg
  have HK := Lib.hid hk
  have HBS := Lib.hid hbase
  have HB := h.hb
  obtain ⟨R, hR⟩ : ∃ R, R = pairsP s.size 38 8 nx ⟨n, L, rest s k⟩ := ⟨_, rfl⟩
  have HCALL : Hid (Calls Tryz.prog 86 #[ptr b, .int .i64 (d : Int)] w fun r w' => ∃ j : Int, r = .returned (.int .i64 j) ∧ DPair base w w' b s m d 38 8 nx R bd n j) := Lib.hid ((hg k n v L bd e a w h hks hm hn hl hbase).mono fun r w' hq => by
    rw [hR]; exact DPair.start hk (by decide) hl hm hq)
  rw [← hR]
  clear h hg hk hn hl hm hbase hR hks
  go_enter Tryz.func60, Tryz.ntmps60
  go_upto_region 2 with (go_at_call 86; refine HCALL.out.mono ?_; rintro r w2 ⟨j, rfl, hp⟩; have HP := Lib.hid hp; clear hp)
  go_loopw [5] (fun s5 wr => ∃ j : Int, s5 = .int .i64 j ∧ Hid (DPair base w wr b s m d 38 8 nx R bd n j)) (fun _ wr => dprM b s.size wr)
  case atStart => exact ⟨j, rfl, HP⟩
  case round =>
    clear HP HCALL
    obtain ⟨left, rfl, hps⟩ := hrel
    rcases hps.out with ⟨K, k0, n0, v0, L0, e0, a0, g1, g2, g3, g3', g4, g5, g5', g6, g7⟩ | ⟨k0, n0, v0, L0, e0, a0, g1, g2, g3, g4, g5⟩
    · clear hps
      subst g5'
      have H0 := Lib.hid g1
      have HB0 := Lib.hid g7
      have HN0 := Lib.hid g2
      have HL0 := Lib.hid g3
      have HM0 := Lib.hid g4
      have HRK := Lib.hid g6
      have HSZ : Hid (base ≤ wr.heap.size) := Lib.hid (Nat.le_trans HBS.out g7.size)
      have HMS : Hid (dprM b s.size wr = 1 + (s.size - k0)) := Lib.hid (dprM_good g1)
      have hsz := g1.sz
      have c5 := g1.blk.cell (j := 5) rfl
      obtain ⟨K, rfl⟩ : ∃ K', K = K' + 1 := ⟨K - 1, by omega⟩
      have HKK := Lib.hid g5
      have HKB := Lib.hid g3'
      have hk1s := (skip_is g3').2.1
      have hk0s := (skip_is g3').1
      have HPK := Lib.hid (dpeek_any g1 g3')
      have hpi := pk_is (sg := 38) g3' (by decide)
      obtain ⟨k1, hk1⟩ : ∃ k1, k1 = skip s k0 := ⟨_, rfl⟩
      obtain ⟨pk, hpk⟩ : ∃ pk, pk = pkB s k0 := ⟨_, rfl⟩
      rw [← hk1, ← hpk] at HPK
      rw [← hk1] at hk1s hk0s
      rw [← hpk] at hpi
      cases hq : isB s ⟨#[38]⟩ k0
      · have HRR : Hid (R = .ok (left, ⟨n0, L0, rest s k1⟩)) := Lib.hid (by rw [← HRK.out, loopP_stop g3' hq, isK_no hq, hk1])
        have t1 : (pk == 38) = false := by rw [hq] at hpi; exact hpi.symm
        clear hq hk1 hpk hpi g1 g2 g3 g3' g4 g5 g6 g7
        go_wp2_with (go_at_call 43; refine HPK.out.mono ?_; rintro r w3 ⟨rfl, hx, hf⟩; have H3 := Lib.hid hx; have HO3 : Hid (Onb b wr w3) := Lib.hid hf; clear hx hf)
        go_ret
        exact DOut.good (n' := n0) ⟨_, _, H3.out⟩ rfl (HB0.out.trans (onb_below HO3.out HB HSZ.out)) hk1s HRR.out
      · have HLP := Lib.hid (loopP_go (n := n0) (K := K) (L := L0) (kd := 8) (nx := nx) (left := left) g3' hq)
        rw [HRK.out, isK_yes hq, ← hk1] at HLP
        have hfar := isK_far g3' hq
        rw [isK_yes hq, ← hk1] at hfar
        have HFAR := Lib.hid hfar
        have t1 : (pk == 38) = true := by rw [hq] at hpi; exact hpi.symm
        have u1 : IntKind.i64.wrap ((k1 : Int) + 1) = (k1 : Int) + 1 := by rw [IntKind.wrap_i64]; omega
        clear hq hk1 hpk hpi g1 g2 g3 g3' g4 g5 g6 g7 hfar
        go_upto_region 3 with (go_at_call 43; refine HPK.out.mono ?_; rintro r w3 ⟨rfl, hx, hf⟩; have H3 := Lib.hid hx; have HO3 : Hid (Onb b wr w3) := Lib.hid hf; clear hx hf)
        clear c5 t1
        have c1 := H3.out.blk.cell (j := 1) rfl
        have HCN := Lib.hid (dcount_any H3.out ⟨by omega, by have := HN0.out; omega⟩ (k1 : Int))
        obtain ⟨q2, hq2⟩ : ∃ q2, q2 = (false || decide (64 < (n0 : Int) + 1)) := ⟨_, rfl⟩
        rw [← hq2] at HCN
        have HQ2 : Hid (q2 = false → n0 + 1 ≤ 64) := Lib.hid (fun h9 => by rw [h9, Bool.false_or] at hq2; have := of_decide_eq_false hq2.symm; omega)
        have HQ3 : Hid (q2 = true → 64 < n0 + 1) := Lib.hid (fun h9 => by rw [h9, Bool.false_or] at hq2; have := of_decide_eq_true hq2.symm; omega)
        clear hq2
        go_upto_region 4 with (go_at_call 61; refine HCN.out.mono ?_; rintro r w4 ⟨rfl, hx, hf⟩; have HQ4 := Lib.hid hx; have HO4 : Hid (Onb b wr w4) := Lib.hid (HO3.out.then hf); clear hx hf)
        clear c1 HCN HPK
        obtain ⟨e4, a4, h4⟩ := HQ4.out
        have c1 := h4.blk.cell (j := 1) rfl
        have f1 := h4.blk.free 1
        have H5 : Hid (Dp base (w4.setCell ⟨b, 1, none⟩ (.int .i64 ((k1 : Int) + 1))) b s (k1 + 1) v0 L0 q2 e4 a4 ((n0 + 1 : Nat) : Int)) := Lib.hid (by have := h4.at (k1 + 1); simpa using this)
        have HO5 : Hid (Onb b wr (w4.setCell ⟨b, 1, none⟩ (.int .i64 ((k1 : Int) + 1)))) := Lib.hid (Onb.set HO4.out 1 _)
        clear h4 HQ4
        go_upto_region 5 with fail
        obtain ⟨w5, hw5⟩ : ∃ w5, w5 = w4.setCell ⟨b, 1, none⟩ (.int .i64 ((k1 : Int) + 1)) := ⟨_, rfl⟩
        rw [← hw5] at H5 HO5 ⊢
        clear hw5 c1 f1 u1 HO4 HO3 H3
        have HB5 : Hid (Below base wr w5) := Lib.hid (onb_below HO5.out HB HSZ.out)
        have HZ5 : Hid (base ≤ w5.heap.size) := Lib.hid (Nat.le_trans HSZ.out HB5.out.size)
        have HCL : Hid (Calls Tryz.prog 86 #[ptr b, .int .i64 (d : Int)] w5 fun r w' => DOut base w5 w' b s d q2 (n0 + 1) (nx ⟨n0 + 1, L0, rest s (k1 + 1)⟩) r) := Lib.hid (HG.out (k1 + 1) (n0 + 1) v0 L0 q2 e4 a4 w5 H5.out HFAR.out.2 (by have := HM0.out; have := HFAR.out; omega) (by have := HN0.out; omega) (fun h9 => ⟨by have := HL0.out; omega, HQ2.out h9⟩) HZ5.out)
        go_upto_region 6 with (go_at_call 86; refine HCL.out.mono ?_; rintro r w6 ⟨j6, k6, v6, L6, q6, n6, rfl, hq6, hb6, hg6, hx6⟩; have HQ6 := Lib.hid hq6; have HB6 := Lib.hid hb6; have HG6 := Lib.hid hg6; have HX6 := Lib.hid hx6; clear hq6 hb6 hg6 hx6)
        obtain ⟨e6, a6, h6⟩ := HQ6.out
        have H6 := Lib.hid h6
        have HB6r : Hid (Below base wr w6) := Lib.hid (HB5.out.trans HB6.out)
        have HZ6 : Hid (base ≤ w6.heap.size) := Lib.hid (Nat.le_trans HSZ.out HB6r.out.size)
        clear h6 HQ6 HCL
        cases q6
        · obtain ⟨z1, z2, z3⟩ := HG6.out rfl
          subst z1
          have hc := HK.out.cnt _ _ _ _ _ z3
          have hn := HK.out.len _ _ _ _ _ z3
          simp only at hc hn
          rw [rest_len, rest_len] at hn
          have hll : L6.length + 1 ≤ 64 ∧ L6.length + 1 ≤ n6 := by have := HL0.out; omega
          have HLL := Lib.hid hll
          have HCN := Lib.hid hc
          have HLN : Hid (k6 ≤ s.size ∧ s.size - k6 ≤ s.size - (k1 + 1)) := Lib.hid ⟨z2, hn⟩
          have HRR : Hid (loopP s.size 38 8 nx K L6.length ⟨n6, L6 ++ [⟨8, [], [], 0, left, j6⟩], rest s k6⟩ = R) := Lib.hid (by rw [HLP.out, if_neg (by have := HQ2.out rfl; omega), z3])
          clear z2 z3 hc hn hll HG6 HX6
          go_wp2_with (go_at_call 62; refine (dadd_ok H6.out ⟨8, [], [], 0, left, j6⟩ (by have := HLL.out; omega) HZ6.out).mono ?_; rintro r w7 ⟨rfl, hx⟩; have H7 := Lib.hid hx; clear hx)
          have HB7 : Hid (Below base wr w7) := Lib.hid (HB6r.out.trans (H7.out.below H6.out HZ6.out))
          obtain ⟨v7, h7, -⟩ := H7.out
          have HP7 := Lib.hid h7
          clear h7
          go_roundw
          case rel =>
            refine ⟨(L6.length : Int), rfl, Lib.hid (.inl ⟨K, k6, n6, v7, _, _, _, HP7.out, HCN.out.1, ?_, HLN.out.1, ?_, ?_, rfl, HRR.out, HB0.out.trans HB7.out⟩)⟩
            · have := HLL.out; rw [List.length_append]; simp only [List.length_cons, List.length_nil]; omega
            · have := HLN.out; have := HM0.out; have := HFAR.out; omega
            · have := HLN.out; have := HKK.out; have := HFAR.out; omega
          case measure =>
            rw [dprM_good HP7.out, HMS.out]
            have := HLN.out; have := HFAR.out; omega
        · obtain ⟨z1, z2, z3⟩ := HX6.out rfl
          have HDD : Hid (Dead R) := Lib.hid (by
            cases hz : q2
            · have h9 := z1 hz
              rw [HLP.out, if_neg (by have := HQ2.out hz; omega)]
              cases hx : nx ⟨n0 + 1, L0, rest s (k1 + 1)⟩ with
              | error e => trivial
              | ok q =>
                rw [hx] at h9
                exact dead_loop (by decide) _ _ h9
            · rw [HLP.out, if_pos (HQ3.out hz)]; trivial)
          have HZZ : Hid (k6 ≤ s.size + (33 - d) ∧ n6 ≤ max n 65 + (33 - d)) := Lib.hid ⟨z2, by have := HN0.out; omega⟩
          clear z1 z2 z3 HG6 HX6
          go_wp2_with (go_at_call 62; refine (dadd_bad H6.out ⟨8, [], [], 0, left, j6⟩).mono ?_; rintro r w7 ⟨⟨j7, rfl⟩, hx, hf⟩; have H7 := Lib.hid hx; have HB7 : Hid (Below base wr w7) := Lib.hid (HB6r.out.trans (onb_below hf HB HZ6.out)); clear hx hf)
          go_roundw
          case rel => exact ⟨j7, rfl, Lib.hid (.inr ⟨k6, n6, v6, L6, _, _, H7.out, HZZ.out.1, HZZ.out.2, fun _ => HDD.out, HB0.out.trans HB7.out⟩)⟩
          case measure =>
            rw [dprM_bad H7.out, HMS.out]; omega
    · clear hps
      have H0 := Lib.hid g1
      have HRR := Lib.hid g4
      have HB0 := Lib.hid g5
      have HZ := Lib.hid (And.intro g2 g3)
      have c5 := g1.blk.cell (j := 5) rfl
      clear g1 g2 g3 g4 g5
      go_wp2
      go_ret
      exact DOut.bad (n' := n0) ⟨_, _, H0.out⟩ rfl HB0.out HRR.out HZ.out.1 HZ.out.2
set_option maxRecDepth 100000 in
set_option maxHeartbeats 4000000 in
theorem d_or (base b : Nat) (s : ByteArray) (m d : Nat) (hd : d ≤ 32) (nx : Ps → PR) (hg : Drd base b s m 60 d nx) (hk : Kp s.size m nx) : Drd base b s m 42 d (pairsP s.size 124 9 nx) := by
  intro k n v L bd e a w h hks hm hn hl hbase
  have HG := Lib.hid hg
  have HK := Lib.hid hk
  have HBS := Lib.hid hbase
  have HB := h.hb
  obtain ⟨R, hR⟩ : ∃ R, R = pairsP s.size 124 9 nx ⟨n, L, rest s k⟩ := ⟨_, rfl⟩
  have HCALL : Hid (Calls Tryz.prog 60 #[ptr b, .int .i64 (d : Int)] w fun r w' => ∃ j : Int, r = .returned (.int .i64 j) ∧ DPair base w w' b s m d 124 9 nx R bd n j) := Lib.hid ((hg k n v L bd e a w h hks hm hn hl hbase).mono fun r w' hq => by
    rw [hR]; exact DPair.start hk (by decide) hl hm hq)
  rw [← hR]
  clear h hg hk hn hl hm hbase hR hks
  go_enter Tryz.func42, Tryz.ntmps42
  go_upto_region 2 with (go_at_call 60; refine HCALL.out.mono ?_; rintro r w2 ⟨j, rfl, hp⟩; have HP := Lib.hid hp; clear hp)
  go_loopw [5] (fun s5 wr => ∃ j : Int, s5 = .int .i64 j ∧ Hid (DPair base w wr b s m d 124 9 nx R bd n j)) (fun _ wr => dprM b s.size wr)
  case atStart => exact ⟨j, rfl, HP⟩
  case round =>
    clear HP HCALL
    obtain ⟨left, rfl, hps⟩ := hrel
    rcases hps.out with ⟨K, k0, n0, v0, L0, e0, a0, g1, g2, g3, g3', g4, g5, g5', g6, g7⟩ | ⟨k0, n0, v0, L0, e0, a0, g1, g2, g3, g4, g5⟩
    · clear hps
      subst g5'
      have H0 := Lib.hid g1
      have HB0 := Lib.hid g7
      have HN0 := Lib.hid g2
      have HL0 := Lib.hid g3
      have HM0 := Lib.hid g4
      have HRK := Lib.hid g6
      have HSZ : Hid (base ≤ wr.heap.size) := Lib.hid (Nat.le_trans HBS.out g7.size)
      have HMS : Hid (dprM b s.size wr = 1 + (s.size - k0)) := Lib.hid (dprM_good g1)
      have hsz := g1.sz
      have c5 := g1.blk.cell (j := 5) rfl
      obtain ⟨K, rfl⟩ : ∃ K', K = K' + 1 := ⟨K - 1, by omega⟩
      have HKK := Lib.hid g5
      have HKB := Lib.hid g3'
      have hk1s := (skip_is g3').2.1
      have hk0s := (skip_is g3').1
      have HPK := Lib.hid (dpeek_any g1 g3')
      have hpi := pk_is (sg := 124) g3' (by decide)
      obtain ⟨k1, hk1⟩ : ∃ k1, k1 = skip s k0 := ⟨_, rfl⟩
      obtain ⟨pk, hpk⟩ : ∃ pk, pk = pkB s k0 := ⟨_, rfl⟩
      rw [← hk1, ← hpk] at HPK
      rw [← hk1] at hk1s hk0s
      rw [← hpk] at hpi
      cases hq : isB s ⟨#[124]⟩ k0
      · have HRR : Hid (R = .ok (left, ⟨n0, L0, rest s k1⟩)) := Lib.hid (by rw [← HRK.out, loopP_stop g3' hq, isK_no hq, hk1])
        have t1 : (pk == 124) = false := by rw [hq] at hpi; exact hpi.symm
        clear hq hk1 hpk hpi g1 g2 g3 g3' g4 g5 g6 g7
        go_wp2_with (go_at_call 43; refine HPK.out.mono ?_; rintro r w3 ⟨rfl, hx, hf⟩; have H3 := Lib.hid hx; have HO3 : Hid (Onb b wr w3) := Lib.hid hf; clear hx hf)
        go_ret
        exact DOut.good (n' := n0) ⟨_, _, H3.out⟩ rfl (HB0.out.trans (onb_below HO3.out HB HSZ.out)) hk1s HRR.out
      · have HLP := Lib.hid (loopP_go (n := n0) (K := K) (L := L0) (kd := 9) (nx := nx) (left := left) g3' hq)
        rw [HRK.out, isK_yes hq, ← hk1] at HLP
        have hfar := isK_far g3' hq
        rw [isK_yes hq, ← hk1] at hfar
        have HFAR := Lib.hid hfar
        have t1 : (pk == 124) = true := by rw [hq] at hpi; exact hpi.symm
        have u1 : IntKind.i64.wrap ((k1 : Int) + 1) = (k1 : Int) + 1 := by rw [IntKind.wrap_i64]; omega
        clear hq hk1 hpk hpi g1 g2 g3 g3' g4 g5 g6 g7 hfar
        go_upto_region 3 with (go_at_call 43; refine HPK.out.mono ?_; rintro r w3 ⟨rfl, hx, hf⟩; have H3 := Lib.hid hx; have HO3 : Hid (Onb b wr w3) := Lib.hid hf; clear hx hf)
        clear c5 t1
        have c1 := H3.out.blk.cell (j := 1) rfl
        have HCN := Lib.hid (dcount_any H3.out ⟨by omega, by have := HN0.out; omega⟩ (k1 : Int))
        obtain ⟨q2, hq2⟩ : ∃ q2, q2 = (false || decide (64 < (n0 : Int) + 1)) := ⟨_, rfl⟩
        rw [← hq2] at HCN
        have HQ2 : Hid (q2 = false → n0 + 1 ≤ 64) := Lib.hid (fun h9 => by rw [h9, Bool.false_or] at hq2; have := of_decide_eq_false hq2.symm; omega)
        have HQ3 : Hid (q2 = true → 64 < n0 + 1) := Lib.hid (fun h9 => by rw [h9, Bool.false_or] at hq2; have := of_decide_eq_true hq2.symm; omega)
        clear hq2
        go_upto_region 4 with (go_at_call 61; refine HCN.out.mono ?_; rintro r w4 ⟨rfl, hx, hf⟩; have HQ4 := Lib.hid hx; have HO4 : Hid (Onb b wr w4) := Lib.hid (HO3.out.then hf); clear hx hf)
        clear c1 HCN HPK
        obtain ⟨e4, a4, h4⟩ := HQ4.out
        have c1 := h4.blk.cell (j := 1) rfl
        have f1 := h4.blk.free 1
        have H5 : Hid (Dp base (w4.setCell ⟨b, 1, none⟩ (.int .i64 ((k1 : Int) + 1))) b s (k1 + 1) v0 L0 q2 e4 a4 ((n0 + 1 : Nat) : Int)) := Lib.hid (by have := h4.at (k1 + 1); simpa using this)
        have HO5 : Hid (Onb b wr (w4.setCell ⟨b, 1, none⟩ (.int .i64 ((k1 : Int) + 1)))) := Lib.hid (Onb.set HO4.out 1 _)
        clear h4 HQ4
        go_upto_region 5 with fail
        obtain ⟨w5, hw5⟩ : ∃ w5, w5 = w4.setCell ⟨b, 1, none⟩ (.int .i64 ((k1 : Int) + 1)) := ⟨_, rfl⟩
        rw [← hw5] at H5 HO5 ⊢
        clear hw5 c1 f1 u1 HO4 HO3 H3
        have HB5 : Hid (Below base wr w5) := Lib.hid (onb_below HO5.out HB HSZ.out)
        have HZ5 : Hid (base ≤ w5.heap.size) := Lib.hid (Nat.le_trans HSZ.out HB5.out.size)
        have HCL : Hid (Calls Tryz.prog 60 #[ptr b, .int .i64 (d : Int)] w5 fun r w' => DOut base w5 w' b s d q2 (n0 + 1) (nx ⟨n0 + 1, L0, rest s (k1 + 1)⟩) r) := Lib.hid (HG.out (k1 + 1) (n0 + 1) v0 L0 q2 e4 a4 w5 H5.out HFAR.out.2 (by have := HM0.out; have := HFAR.out; omega) (by have := HN0.out; omega) (fun h9 => ⟨by have := HL0.out; omega, HQ2.out h9⟩) HZ5.out)
        go_upto_region 6 with (go_at_call 60; refine HCL.out.mono ?_; rintro r w6 ⟨j6, k6, v6, L6, q6, n6, rfl, hq6, hb6, hg6, hx6⟩; have HQ6 := Lib.hid hq6; have HB6 := Lib.hid hb6; have HG6 := Lib.hid hg6; have HX6 := Lib.hid hx6; clear hq6 hb6 hg6 hx6)
        obtain ⟨e6, a6, h6⟩ := HQ6.out
        have H6 := Lib.hid h6
        have HB6r : Hid (Below base wr w6) := Lib.hid (HB5.out.trans HB6.out)
        have HZ6 : Hid (base ≤ w6.heap.size) := Lib.hid (Nat.le_trans HSZ.out HB6r.out.size)
        clear h6 HQ6 HCL
        cases q6
        · obtain ⟨z1, z2, z3⟩ := HG6.out rfl
          subst z1
          have hc := HK.out.cnt _ _ _ _ _ z3
          have hn := HK.out.len _ _ _ _ _ z3
          simp only at hc hn
          rw [rest_len, rest_len] at hn
          have hll : L6.length + 1 ≤ 64 ∧ L6.length + 1 ≤ n6 := by have := HL0.out; omega
          have HLL := Lib.hid hll
          have HCN := Lib.hid hc
          have HLN : Hid (k6 ≤ s.size ∧ s.size - k6 ≤ s.size - (k1 + 1)) := Lib.hid ⟨z2, hn⟩
          have HRR : Hid (loopP s.size 124 9 nx K L6.length ⟨n6, L6 ++ [⟨9, [], [], 0, left, j6⟩], rest s k6⟩ = R) := Lib.hid (by rw [HLP.out, if_neg (by have := HQ2.out rfl; omega), z3])
          clear z2 z3 hc hn hll HG6 HX6
          go_wp2_with (go_at_call 62; refine (dadd_ok H6.out ⟨9, [], [], 0, left, j6⟩ (by have := HLL.out; omega) HZ6.out).mono ?_; rintro r w7 ⟨rfl, hx⟩; have H7 := Lib.hid hx; clear hx)
          have HB7 : Hid (Below base wr w7) := Lib.hid (HB6r.out.trans (H7.out.below H6.out HZ6.out))
          obtain ⟨v7, h7, -⟩ := H7.out
          have HP7 := Lib.hid h7
          clear h7
          go_roundw
          case rel =>
            refine ⟨(L6.length : Int), rfl, Lib.hid (.inl ⟨K, k6, n6, v7, _, _, _, HP7.out, HCN.out.1, ?_, HLN.out.1, ?_, ?_, rfl, HRR.out, HB0.out.trans HB7.out⟩)⟩
            · have := HLL.out; rw [List.length_append]; simp only [List.length_cons, List.length_nil]; omega
            · have := HLN.out; have := HM0.out; have := HFAR.out; omega
            · have := HLN.out; have := HKK.out; have := HFAR.out; omega
          case measure =>
            rw [dprM_good HP7.out, HMS.out]
            have := HLN.out; have := HFAR.out; omega
        · obtain ⟨z1, z2, z3⟩ := HX6.out rfl
          have HDD : Hid (Dead R) := Lib.hid (by
            cases hz : q2
            · have h9 := z1 hz
              rw [HLP.out, if_neg (by have := HQ2.out hz; omega)]
              cases hx : nx ⟨n0 + 1, L0, rest s (k1 + 1)⟩ with
              | error e => trivial
              | ok q =>
                rw [hx] at h9
                exact dead_loop (by decide) _ _ h9
            · rw [HLP.out, if_pos (HQ3.out hz)]; trivial)
          have HZZ : Hid (k6 ≤ s.size + (33 - d) ∧ n6 ≤ max n 65 + (33 - d)) := Lib.hid ⟨z2, by have := HN0.out; omega⟩
          clear z1 z2 z3 HG6 HX6
          go_wp2_with (go_at_call 62; refine (dadd_bad H6.out ⟨9, [], [], 0, left, j6⟩).mono ?_; rintro r w7 ⟨⟨j7, rfl⟩, hx, hf⟩; have H7 := Lib.hid hx; have HB7 : Hid (Below base wr w7) := Lib.hid (HB6r.out.trans (onb_below hf HB HZ6.out)); clear hx hf)
          go_roundw
          case rel => exact ⟨j7, rfl, Lib.hid (.inr ⟨k6, n6, v6, L6, _, _, H7.out, HZZ.out.1, HZZ.out.2, fun _ => HDD.out, HB0.out.trans HB7.out⟩)⟩
          case measure =>
            rw [dprM_bad H7.out, HMS.out]; omega
    · clear hps
      have H0 := Lib.hid g1
      have HRR := Lib.hid g4
      have HB0 := Lib.hid g5
      have HZ := Lib.hid (And.intro g2 g3)
      have c5 := g1.blk.cell (j := 5) rfl
      clear g1 g2 g3 g4 g5
      go_wp2
      go_ret
      exact DOut.bad (n' := n0) ⟨_, _, H0.out⟩ rfl HB0.out HRR.out HZ.out.1 HZ.out.2
end Go.Proofs.YtdnoceancoclmaaGreatDoor.Ru

namespace Go.Proofs.YtdnoceancoclmaaGreatDoor.Ru
open Go.RowKit Go.Proofs.YtdnoceancoclmaaGreatDoor

section
variable {s : ByteArray} {k n F d : Nat} {L : List Nd}
theorem one_no (hk : k ≤ s.size) (h : isB s ⟨#[33]⟩ k = true) (hd : d < 32) : (64 < n + 1 → Dead (notP s.size (F + 1) d ⟨n, L, rest s k⟩)) ∧
    (Dead (notP s.size F (d + 1) ⟨n + 1, L, rest s (skip s k + 1)⟩) → Dead (notP s.size (F + 1) d ⟨n, L, rest s k⟩)) ∧
    (∀ j n' L' r', n + 1 ≤ 64 → notP s.size F (d + 1) ⟨n + 1, L, rest s (skip s k + 1)⟩ = .ok (j, ⟨n', L', r'⟩) → notP s.size (F + 1) d ⟨n, L, rest s k⟩ = .ok ((L'.length : Int), ⟨n', L' ++ [⟨7, [], [], 0, j, -1⟩], r'⟩)) := by
  have e := notP_no (F := F) (d := d) (n := n) (L := L) hk h
  rw [isK_yes h, if_neg (by omega)] at e
  rw [e]
  refine ⟨fun g => by rw [if_pos g]; trivial, fun g => ?_, fun j n' L' r' g1 g2 => by rw [if_neg (by omega), g2]; rfl⟩
  by_cases g1 : 64 < n + 1
  · rw [if_pos g1]; trivial
  · rw [if_neg g1]
    cases hx : notP s.size F (d + 1) ⟨n + 1, L, rest s (skip s k + 1)⟩ with
    | error e => trivial
    | ok q => rw [hx] at g; exact g
theorem one_deep (hk : k ≤ s.size) (h : isB s ⟨#[33]⟩ k = true ∨ isB s ⟨#[40]⟩ k = true) (hd : ¬ d < 32) : Dead (notP s.size (F + 1) d ⟨n, L, rest s k⟩) := by
  by_cases h1 : isB s ⟨#[33]⟩ k = true
  · rw [notP_no hk h1, if_pos (by omega)]; trivial
  · have h2 := h.resolve_left h1
    rw [notP_open hk (by simpa using h1) h2, if_pos (by omega)]; trivial
theorem one_open (hk : k ≤ s.size) (h0 : isB s ⟨#[33]⟩ k = false) (h : isB s ⟨#[40]⟩ k = true) (hd : d < 32) :
    (Dead (orP s.size F (d + 1) ⟨n, L, rest s (skip s k + 1)⟩) → Dead (notP s.size (F + 1) d ⟨n, L, rest s k⟩)) ∧
    (∀ j n' L' k', orP s.size F (d + 1) ⟨n, L, rest s (skip s k + 1)⟩ = .ok (j, ⟨n', L', rest s k'⟩) → k' ≤ s.size →
      (isB s ⟨#[41]⟩ k' = true → notP s.size (F + 1) d ⟨n, L, rest s k⟩ = .ok (j, ⟨n', L', rest s (skip s k' + 1)⟩)) ∧ (isB s ⟨#[41]⟩ k' = false → Dead (notP s.size (F + 1) d ⟨n, L, rest s k⟩))) := by
  have e := notP_open (F := F) (d := d) (n := n) (L := L) hk h0 h
  rw [isK_yes h, if_neg (by omega)] at e
  rw [e]
  refine ⟨fun g => ?_, fun j n' L' k' g1 g2 => ⟨fun g3 => ?_, fun g3 => ?_⟩⟩
  · cases hx : orP s.size F (d + 1) ⟨n, L, rest s (skip s k + 1)⟩ with
    | error e => trivial
    | ok q =>
      rw [hx] at g
      simp only
      rw [wdc_blk g, strip_wdc (by decide) g]
      trivial
  · rw [g1]
    have := (is_facts (p := ⟨#[41]⟩) g2).2.1 g3
    rw [isK_yes g3] at this
    simp only
    rw [show strip [41] (blk (rest s k')) = some (rest s (skip s k' + 1)) from this]
  · rw [g1]
    have := ((is_facts (p := ⟨#[41]⟩) g2).2.2 g3).1
    simp only
    rw [show strip [41] (blk (rest s k')) = none from this]
    trivial
end
set_option maxRecDepth 100000 in
set_option maxHeartbeats 4000000 in
theorem done_step (base b : Nat) (s : ByteArray) (F : Nat) (hF : F ≤ s.size) (hi : ∀ d, d ≤ 32 → Drd base b s F 86 d (notP s.size F d)) (ho : ∀ d, d ≤ 32 → Drd base b s F 42 d (orP s.size F d)) (d : Nat) (hd : d ≤ 32) : Drd base b s (F + 1) 86 d (notP s.size (F + 1) d) := by
  intro k n v L bd e a w h hks hm hn hl hbase
  have HI := Lib.hid hi
  have HOR := Lib.hid ho
  have H := Lib.hid h
  have HBS := Lib.hid hbase
  have HB := h.hb
  have HL := Lib.hid hl
  have hsz := h.sz
  obtain ⟨R, hR⟩ : ∃ R, R = notP s.size (F + 1) d ⟨n, L, rest s k⟩ := ⟨_, rfl⟩
  rw [← hR]
  have HPK := Lib.hid (dpeek_any h hks)
  have hp33 := pk_is (sg := 33) hks (by decide)
  have hp40 := pk_is (sg := 40) hks (by decide)
  obtain ⟨hk0s, hk1s, -, -, -⟩ := skip_is hks
  obtain ⟨k1, hk1⟩ : ∃ k1, k1 = skip s k := ⟨_, rfl⟩
  obtain ⟨pk, hpk⟩ : ∃ pk, pk = pkB s k := ⟨_, rfl⟩
  have HLF : Hid (isB s ⟨#[33]⟩ k = false → isB s ⟨#[40]⟩ k = false → R = leafP s.size ⟨n, L, rest s k1⟩) := Lib.hid (fun g1 g2 => by rw [hR, notP_leaf hks g1 g2, hk1])
  have HDP : Hid (isB s ⟨#[33]⟩ k = true ∨ isB s ⟨#[40]⟩ k = true → ¬ d < 32 → Dead R) := Lib.hid (fun g1 g2 => by rw [hR]; exact one_deep hks g1 g2)
  have HNO := Lib.hid (fun g1 => one_no (F := F) (d := d) (n := n) (L := L) hks g1)
  have HOP := Lib.hid (fun g1 => one_open (F := F) (d := d) (n := n) (L := L) hks g1)
  have HF33 : Hid (isB s ⟨#[33]⟩ k = true → k1 + 1 ≤ s.size ∧ s.size - (k1 + 1) < F) := Lib.hid (fun g => by have := isK_far hks g; rw [isK_yes g, ← hk1] at this; omega)
  have HF40 : Hid (isB s ⟨#[40]⟩ k = true → k1 + 1 ≤ s.size ∧ s.size - (k1 + 1) < F) := Lib.hid (fun g => by have := isK_far hks g; rw [isK_yes g, ← hk1] at this; omega)
  rw [← hR, ← hk1] at HNO HOP
  rw [← hk1, ← hpk] at HPK
  rw [← hpk] at hp33 hp40
  rw [← hk1] at hk0s hk1s
  clear h hi ho hl hm hR hk1 hpk hks
  have u1 : IntKind.i64.wrap ((k1 : Int) + 1) = (k1 : Int) + 1 := by rw [IntKind.wrap_i64]; omega
  have ud : IntKind.i64.wrap ((d : Int) + 1) = (d : Int) + 1 := by rw [IntKind.wrap_i64]; omega
  go_enter Tryz.func86, Tryz.ntmps86
  cases h33 : isB s ⟨#[33]⟩ k
  rotate_left
  · have t33 : (pk == 33) = true := by rw [h33] at hp33; exact hp33.symm
    clear hp33 hp40
    by_cases hdd : d < 32
    rotate_left
    ·
      have HDD := Lib.hid (HDP.out (.inl h33) hdd)
      have ed : decide ((32 : Int) ≤ (d : Int)) = true := by simp; omega
      go_upto_region 2 with (go_at_call 43; refine HPK.out.mono ?_; rintro r w2 ⟨rfl, hq, ho⟩; have H2 := Lib.hid hq; have HO2 : Hid (Onb b w w2) := Lib.hid ho; clear hq ho)
      have c1 := H2.out.blk.cell (j := 1) rfl
      go_wp2_with (go_at_call 44; refine (dfail_any H2.out 3 _ (by decide)).mono ?_; rintro r w3 ⟨rfl, hq, ho⟩; have HQ3 := Lib.hid hq; have HO3 : Hid (Onb b w w3) := Lib.hid (HO2.out.then ho); clear hq ho)
      go_ret
      exact DOut.bad (n' := n) (j := -1) HQ3.out rfl (onb_below HO3.out HB HBS.out) (fun _ => HDD.out) (by omega) (by omega)
    obtain ⟨g1, g2, g3⟩ := HNO.out h33 hdd
    have G1 := Lib.hid g1
    have G2 := Lib.hid g2
    have G3 := Lib.hid g3
    have HFR := Lib.hid (HF33.out h33)
    clear g1 g2 g3 HNO HOP HLF HDP HF33 HF40 h33
    have ed : decide ((32 : Int) ≤ (d : Int)) = false := by simp; omega
    go_upto_region 2 with (go_at_call 43; refine HPK.out.mono ?_; rintro r w2 ⟨rfl, hq, ho⟩; have H2 := Lib.hid hq; have HO2 : Hid (Onb b w w2) := Lib.hid ho; clear hq ho)
    have c1 := H2.out.blk.cell (j := 1) rfl
    obtain ⟨q2, hq2⟩ : ∃ q2, q2 = (bd || decide (64 < (n : Int) + 1)) := ⟨_, rfl⟩
    have HCN := Lib.hid (dcount_any H2.out ⟨by omega, by omega⟩ (k1 : Int))
    rw [← hq2] at HCN
    have HQF : Hid (q2 = false → bd = false ∧ n + 1 ≤ 64) := Lib.hid (fun h9 => by rw [h9] at hq2; obtain ⟨z1, z2⟩ := Bool.or_eq_false_iff.1 hq2.symm; have := of_decide_eq_false z2; exact ⟨z1, by omega⟩)
    have HQT : Hid (q2 = true → bd = false → 64 < n + 1) := Lib.hid (fun h9 h8 => by rw [h9, h8, Bool.false_or] at hq2; have := of_decide_eq_true hq2.symm; omega)
    clear hq2
    go_upto_region 9 with (go_at_call 61; refine HCN.out.mono ?_; rintro r w4 ⟨rfl, hx, hf⟩; have HQ4 := Lib.hid hx; have HO4 : Hid (Onb b w w4) := Lib.hid (HO2.out.then hf); clear hx hf)
    clear c1 HCN HPK t33 ed
    obtain ⟨e4, a4, h4⟩ := HQ4.out
    have c1 := h4.blk.cell (j := 1) rfl
    have f1 := h4.blk.free 1
    have H5 : Hid (Dp base (w4.setCell ⟨b, 1, none⟩ (.int .i64 ((k1 : Int) + 1))) b s (k1 + 1) v L q2 e4 a4 ((n + 1 : Nat) : Int)) := Lib.hid (by have := h4.at (k1 + 1); simpa using this)
    have HO5 : Hid (Onb b w (w4.setCell ⟨b, 1, none⟩ (.int .i64 ((k1 : Int) + 1)))) := Lib.hid (Onb.set HO4.out 1 _)
    clear h4 HQ4
    go_upto_region 10 with fail
    obtain ⟨w5, hw5⟩ : ∃ w5, w5 = w4.setCell ⟨b, 1, none⟩ (.int .i64 ((k1 : Int) + 1)) := ⟨_, rfl⟩
    rw [← hw5] at H5 HO5 ⊢
    clear hw5 c1 f1 u1 HO4 HO2 H2
    have HB5 : Hid (Below base w w5) := Lib.hid (onb_below HO5.out HB HBS.out)
    have HZ5 : Hid (base ≤ w5.heap.size) := Lib.hid (Nat.le_trans HBS.out HB5.out.size)
    have HCL : Hid (Calls Tryz.prog 86 #[ptr b, .int .i64 ((d : Int) + 1)] w5 fun r w' => DOut base w5 w' b s (d + 1) q2 (n + 1) (notP s.size F (d + 1) ⟨n + 1, L, rest s (k1 + 1)⟩) r) := Lib.hid (by have := HI.out (d + 1) hdd (k1 + 1) (n + 1) v L q2 e4 a4 w5 H5.out HFR.out.1 HFR.out.2 (by omega) (fun h9 => ⟨by have := (HL.out (HQF.out h9).1).1; omega, (HQF.out h9).2⟩) HZ5.out; push_cast at this; exact this)
    go_upto_region 11 with (go_at_call 86; refine HCL.out.mono ?_; rintro r w6 ⟨j6, k6, v6, L6, q6, n6, rfl, hq6, hb6, hg6, hx6⟩; have HQ6 := Lib.hid hq6; have HB6 := Lib.hid (HB5.out.trans hb6); have HG6 := Lib.hid hg6; have HX6 := Lib.hid hx6; clear hq6 hb6 hg6 hx6)
    obtain ⟨e6, a6, h6⟩ := HQ6.out
    have H6 := Lib.hid h6
    have HZ6 : Hid (base ≤ w6.heap.size) := Lib.hid (Nat.le_trans HBS.out HB6.out.size)
    clear h6 HQ6 HCL
    cases q6
    · obtain ⟨z1, z2, z3⟩ := HG6.out rfl
      obtain ⟨zb, zn⟩ := HQF.out z1
      subst zb
      have hll : L6.length + 1 ≤ 64 := by have hc := (kp_not s.size F (d + 1) hdd).cnt _ _ _ _ _ z3; have h9 := (HL.out rfl).1; simp only at hc; omega
      have HLL := Lib.hid hll
      have HRR := Lib.hid (G3.out _ _ _ _ zn z3)
      have ZK6 : k6 ≤ s.size := z2
      clear z1 z2 z3 zn hll HG6 HX6
      go_wp2_with (go_at_call 62; refine (dadd_ok H6.out ⟨7, [], [], 0, j6, -1⟩ (by have := HLL.out; omega) HZ6.out).mono ?_; rintro r w7 ⟨rfl, hx⟩; have H7 := Lib.hid hx; clear hx)
      go_ret
      obtain ⟨v7, h7, -⟩ := H7.out
      exact DOut.good (n' := n6) (k' := k6) ⟨_, _, h7⟩ rfl (HB6.out.trans (H7.out.below H6.out HZ6.out)) ZK6 HRR.out
    · obtain ⟨z1, z2, z3⟩ := HX6.out rfl
      have HDD : Hid (bd = false → Dead R) := Lib.hid (fun hb => by
        cases hz : q2
        · exact G2.out (z1 hz)
        · exact G1.out (HQT.out hz hb))
      have HZZ : Hid (k6 ≤ s.size + (33 - d) ∧ n6 ≤ max n 65 + (33 - d)) := Lib.hid ⟨by omega, by omega⟩
      clear z1 z2 z3 HG6 HX6
      go_wp2_with (go_at_call 62; refine (dadd_bad H6.out ⟨7, [], [], 0, j6, -1⟩).mono ?_; rintro r w7 ⟨⟨j7, rfl⟩, hx, hf⟩; have H7 := Lib.hid hx; have HB7 : Hid (Below base w w7) := Lib.hid (HB6.out.trans (onb_below hf HB HZ6.out)); clear hx hf)
      go_ret
      exact DOut.bad (n' := n6) (k' := k6) ⟨_, _, H7.out⟩ rfl HB7.out HDD.out HZZ.out.1 HZZ.out.2
  have t33 : (pk == 33) = false := by rw [h33] at hp33; exact hp33.symm
  clear hp33 HNO HF33
  cases h40 : isB s ⟨#[40]⟩ k
  rotate_left
  · have t40 : (pk == 40) = true := by rw [h40] at hp40; exact hp40.symm
    clear hp40
    by_cases hdd : d < 32
    rotate_left
    ·
      have HDD := Lib.hid (HDP.out (.inr h40) hdd)
      have ed : decide ((32 : Int) ≤ (d : Int)) = true := by simp; omega
      go_upto_region 2 with (go_at_call 43; refine HPK.out.mono ?_; rintro r w2 ⟨rfl, hq, ho⟩; have H2 := Lib.hid hq; have HO2 : Hid (Onb b w w2) := Lib.hid ho; clear hq ho)
      have c1 := H2.out.blk.cell (j := 1) rfl
      go_wp2_with (go_at_call 44; refine (dfail_any H2.out 3 _ (by decide)).mono ?_; rintro r w3 ⟨rfl, hq, ho⟩; have HQ3 := Lib.hid hq; have HO3 : Hid (Onb b w w3) := Lib.hid (HO2.out.then ho); clear hq ho)
      go_ret
      exact DOut.bad (n' := n) (j := -1) HQ3.out rfl (onb_below HO3.out HB HBS.out) (fun _ => HDD.out) (by omega) (by omega)
    obtain ⟨g1, g2⟩ := HOP.out h33 h40 hdd
    have G1 := Lib.hid g1
    have G2 := Lib.hid g2
    have HFR := Lib.hid (HF40.out h40)
    clear g1 g2 HOP HLF HDP HF40 h40 h33
    have ed : decide ((32 : Int) ≤ (d : Int)) = false := by simp; omega
    go_upto_region 12 with (go_at_call 43; refine HPK.out.mono ?_; rintro r w2 ⟨rfl, hq, ho⟩; have H2 := Lib.hid hq; have c1 := H2.out.blk.cell (j := 1) rfl; have HO2 : Hid (Onb b w w2) := Lib.hid ho; clear hq ho)
    clear c1
    have c1 := H2.out.blk.cell (j := 1) rfl
    have f1 := H2.out.blk.free 1
    clear HPK t33 t40 ed
    have H5 : Hid (Dp base (w2.setCell ⟨b, 1, none⟩ (.int .i64 ((k1 : Int) + 1))) b s (k1 + 1) v L bd e a (n : Int)) := Lib.hid (by have := H2.out.at (k1 + 1); simpa using this)
    have HO5 : Hid (Onb b w (w2.setCell ⟨b, 1, none⟩ (.int .i64 ((k1 : Int) + 1)))) := Lib.hid (Onb.set HO2.out 1 _)
    go_upto_region 13 with fail
    obtain ⟨w5, hw5⟩ : ∃ w5, w5 = w2.setCell ⟨b, 1, none⟩ (.int .i64 ((k1 : Int) + 1)) := ⟨_, rfl⟩
    rw [← hw5] at H5 HO5 ⊢
    clear hw5 c1 f1 u1 HO2 H2
    have HB5 : Hid (Below base w w5) := Lib.hid (onb_below HO5.out HB HBS.out)
    have HZ5 : Hid (base ≤ w5.heap.size) := Lib.hid (Nat.le_trans HBS.out HB5.out.size)
    have HCL : Hid (Calls Tryz.prog 42 #[ptr b, .int .i64 ((d : Int) + 1)] w5 fun r w' => DOut base w5 w' b s (d + 1) bd n (orP s.size F (d + 1) ⟨n, L, rest s (k1 + 1)⟩) r) := Lib.hid (by have := HOR.out (d + 1) hdd (k1 + 1) n v L bd e a w5 H5.out HFR.out.1 HFR.out.2 (by omega) HL.out HZ5.out; push_cast at this; exact this)
    go_upto_region 14 with (go_at_call 42; refine HCL.out.mono ?_; rintro r w6 ⟨j6, k6, v6, L6, q6, n6, rfl, hq6, hb6, hg6, hx6⟩; have HQ6 := Lib.hid hq6; have HB6 := Lib.hid (HB5.out.trans hb6); have HG6 := Lib.hid hg6; have HX6 := Lib.hid hx6; clear hq6 hb6 hg6 hx6)
    obtain ⟨e6, a6, h6⟩ := HQ6.out
    have H6 := Lib.hid h6
    have HZ6 : Hid (base ≤ w6.heap.size) := Lib.hid (Nat.le_trans HBS.out HB6.out.size)
    clear h6 HQ6 HCL
    have c5 := H6.out.blk.cell (j := 5) rfl
    cases q6
    · obtain ⟨z1, z2, z3⟩ := HG6.out rfl
      subst z1
      have G3 := Lib.hid (G2.out _ _ _ _ z3 z2)
      have N64 : n6 ≤ 64 := ((kp_or s.size F (d + 1) hdd).cnt _ _ _ _ _ z3).1
      have HPK := Lib.hid (dpeek_any H6.out z2)
      have hp41 := pk_is (sg := 41) z2 (by decide)
      have hk7s := (skip_is z2).2.1
      have HF41 : Hid (isB s ⟨#[41]⟩ k6 = true → skip s k6 + 1 ≤ s.size) := Lib.hid (fun g => by have := isK_far z2 g; rw [isK_yes g] at this; omega)
      obtain ⟨k7, hk7⟩ : ∃ k7, k7 = skip s k6 := ⟨_, rfl⟩
      obtain ⟨p7, hp7⟩ : ∃ p7, p7 = pkB s k6 := ⟨_, rfl⟩
      rw [← hk7] at G3 hk7s HF41
      rw [← hk7, ← hp7] at HPK
      rw [← hp7] at hp41
      clear hk7 hp7 z2 z3 G1 G2 HG6 HX6
      have u7 : IntKind.i64.wrap ((k7 : Int) + 1) = (k7 : Int) + 1 := by rw [IntKind.wrap_i64]; omega
      cases h41 : isB s ⟨#[41]⟩ k6
      · have t41 : (p7 == 41) = false := by rw [h41] at hp41; exact hp41.symm
        have HDD := Lib.hid (G3.out.2 h41)
        clear hp41 h41 G3 HF41
        go_upto_region 15 with (go_at_call 43; refine HPK.out.mono ?_; rintro r w8 ⟨rfl, hq, ho⟩; have H8 := Lib.hid hq; have HO8 : Hid (Onb b w6 w8) := Lib.hid ho; clear hq ho)
        have c1 := H8.out.blk.cell (j := 1) rfl
        clear c5
        go_upto_region 16 with (go_at_call 44; refine (dfail_any H8.out 5 _ (by decide)).mono ?_; rintro r w9 ⟨rfl, hq, ho⟩; have HQ9 := Lib.hid hq; have HO9 : Hid (Onb b w6 w9) := Lib.hid (HO8.out.then ho); clear hq ho)
        clear c1
        obtain ⟨e9, a9, h9⟩ := HQ9.out
        have c1 := h9.blk.cell (j := 1) rfl
        have f1 := h9.blk.free 1
        have HA : Hid (Dp base (w9.setCell ⟨b, 1, none⟩ (.int .i64 ((k7 : Int) + 1))) b s (k7 + 1) v6 L6 true e9 a9 (n6 : Int)) := Lib.hid (by have := h9.at (k7 + 1); simpa using this)
        have HOA : Hid (Onb b w6 (w9.setCell ⟨b, 1, none⟩ (.int .i64 ((k7 : Int) + 1)))) := Lib.hid (Onb.set HO9.out 1 _)
        have HN6 : Hid (n6 ≤ max n 65 + (33 - d)) := Lib.hid (by have := N64; omega)
        clear h9 HQ9
        go_wp2
        go_ret
        exact DOut.bad (n' := n6) (k' := k7 + 1) ⟨_, _, HA.out⟩ rfl (HB6.out.trans (onb_below HOA.out HB HZ6.out)) (fun _ => HDD.out) (by omega) HN6.out
      · have t41 : (p7 == 41) = true := by rw [h41] at hp41; exact hp41.symm
        have HRR := Lib.hid (G3.out.1 h41)
        have HK7 := Lib.hid (HF41.out h41)
        clear hp41 h41 G3 HF41
        go_upto_region 16 with (go_at_call 43; refine HPK.out.mono ?_; rintro r w8 ⟨rfl, hq, ho⟩; have H8 := Lib.hid hq; have HO8 : Hid (Onb b w6 w8) := Lib.hid ho; clear hq ho)
        clear c5
        have c1 := H8.out.blk.cell (j := 1) rfl
        have f1 := H8.out.blk.free 1
        have HA : Hid (Dp base (w8.setCell ⟨b, 1, none⟩ (.int .i64 ((k7 : Int) + 1))) b s (k7 + 1) v6 L6 false e6 a6 (n6 : Int)) := Lib.hid (by have := H8.out.at (k7 + 1); simpa using this)
        have HOA : Hid (Onb b w6 (w8.setCell ⟨b, 1, none⟩ (.int .i64 ((k7 : Int) + 1)))) := Lib.hid (Onb.set HO8.out 1 _)
        go_wp2
        go_ret
        exact DOut.good (n' := n6) (k' := k7 + 1) ⟨_, _, HA.out⟩ rfl (HB6.out.trans (onb_below HOA.out HB HZ6.out)) HK7.out HRR.out
    · obtain ⟨z1, z2, z3⟩ := HX6.out rfl
      have HDD : Hid (bd = false → Dead R) := Lib.hid (fun hb => G1.out (z1 hb))
      have HZZ : Hid (k6 + 1 ≤ s.size + (33 - d) ∧ n6 ≤ max n 65 + (33 - d)) := Lib.hid ⟨by omega, by omega⟩
      have u7 : IntKind.i64.wrap ((k6 : Int) + 1) = (k6 : Int) + 1 := by rw [IntKind.wrap_i64]; omega
      clear z1 z2 z3 HG6 HX6 G1 G2
      have c1 := H6.out.blk.cell (j := 1) rfl
      have f1 := H6.out.blk.free 1
      have HA : Hid (Dp base (w6.setCell ⟨b, 1, none⟩ (.int .i64 ((k6 : Int) + 1))) b s (k6 + 1) v6 L6 true e6 a6 (n6 : Int)) := Lib.hid (by have := H6.out.at (k6 + 1); simpa using this)
      have HOA : Hid (Onb b w6 (w6.setCell ⟨b, 1, none⟩ (.int .i64 ((k6 : Int) + 1)))) := Lib.hid (Onb.set (Frp.refl _ w6) 1 _)
      go_wp2
      go_ret
      exact DOut.bad (n' := n6) (k' := k6 + 1) ⟨_, _, HA.out⟩ rfl (HB6.out.trans (onb_below HOA.out HB HZ6.out)) HDD.out HZZ.out.1 HZZ.out.2
  have t40 : (pk == 40) = false := by rw [h40] at hp40; exact hp40.symm
  have HRR := Lib.hid (HLF.out h33 h40)
  clear hp40 HOP HF40 HLF HDP h33 h40
  go_upto_region 2 with (go_at_call 43; refine HPK.out.mono ?_; rintro r w2 ⟨rfl, hq, ho⟩; have H2 := Lib.hid hq; have HO2 : Hid (Onb b w w2) := Lib.hid ho; clear hq ho)
  have c1 := H2.out.blk.cell (j := 1) rfl
  have HZ2 : Hid (base ≤ w2.heap.size) := Lib.hid (Nat.le_trans HBS.out HO2.out.size)
  have HCL := Lib.hid (dleaf_any H2.out hk1s (by omega) (fun h9 => ⟨by have := HL.out h9; omega, (HL.out h9).2⟩) HZ2.out d)
  rw [← HRR.out] at HCL
  go_wp2_with (go_at_call 103; refine HCL.out.mono ?_; rintro r w3 ⟨j6, k6, v6, L6, q6, n6, rfl, hq6, hb6, hgx6⟩; have HQ6 := Lib.hid hq6; have HB6 : Hid (Below base w w3) := Lib.hid ((onb_below HO2.out HB HBS.out).trans hb6); have HG6 := Lib.hid hgx6; clear hq6 hb6 hgx6)
  go_ret
  exact ⟨j6, k6, v6, L6, q6, n6, rfl, HQ6.out, HB6.out, HG6.out⟩
theorem done_any (base b : Nat) (s : ByteArray) : ∀ F, F ≤ s.size + 1 → ∀ d, d ≤ 32 → Drd base b s F 86 d (notP s.size F d)
  | 0, _, _, _ => fun _ _ _ _ _ _ _ _ _ _ hm => absurd hm (by omega)
  | F + 1, hF, d, hd => done_step base b s F (by omega) (fun d hd => done_any base b s F (by omega) d hd)
      (fun d hd => d_or base b s F d hd _ (d_and base b s F d hd _ (done_any base b s F (by omega) d hd) (kp_not s.size F d hd)) (kp_and s.size F d hd (by omega))) d hd
theorem dor_any (base b : Nat) (s : ByteArray) (F : Nat) (hF : F ≤ s.size + 1) (d : Nat) (hd : d ≤ 32) : Drd base b s F 42 d (orP s.size F d) :=
  d_or base b s F d hd _ (d_and base b s F d hd _ (done_any base b s F hF d hd) (kp_not s.size F d hd)) (kp_and s.size F d hd hF)
end Go.Proofs.YtdnoceancoclmaaGreatDoor.Ru
