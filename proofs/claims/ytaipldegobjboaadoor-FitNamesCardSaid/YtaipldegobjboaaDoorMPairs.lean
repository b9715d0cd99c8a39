/- , laid together: RuPairsP, RuPairs, RuNotP, RuAnd, RuNot. -/
import Derived.Test.YtaipldegobjboaaDoorRuLeaf
namespace Go.Proofs.YtaipldegobjboaaDoor.Ru
open Go.RowKit Go.Proofs.YtaipldegobjboaaDoor

/-- strconv's variable lies below the base -/
def ErrB (base : Nat) (w : World) : Prop := ErrV w ∧ ∃ g, Tryd.prog.globalNamed "strconv.ErrSyntax" = some g ∧ g < base
theorem ErrB.below {base : Nat} {w w' : World} (h : ErrB base w) (hb : Below base w w') : ErrB base w' := by
  obtain ⟨⟨tp, p, h⟩, g, hg, hlt⟩ := h
  refine ⟨⟨tp, p, ?_⟩, g, hg, hlt⟩
  unfold World.var? at *
  rw [hg] at h ⊢
  simp only [Option.bind_some] at h ⊢
  rw [hb.block g hlt]
  exact h
structure Kp (N m : Nat) (nx : Ps → PR) : Prop where
  len : ∀ n L r i s, nx ⟨n, L, r⟩ = .ok (i, s) → s.r.length ≤ r.length
  cnt : ∀ n L r i s, nx ⟨n, L, r⟩ = .ok (i, s) → s.n ≤ 64 ∧ s.L.length + n = L.length + s.n
  err : ∀ n L r e, r.length < m → r.length ≤ N → nx ⟨n, L, r⟩ = .error e → e.1 ≠ 0
/-- the contract of a reading: good states at depth d, fewer than m bytes left -/
def Rd (base b : Nat) (s : ByteArray) (m F d : Nat) (nx : Ps → PR) : Prop :=
  ∀ (k n : Nat) (v : Value) (L : List Nd) (w : World), Prs base w b s k d n v L 0 0 → n ≤ 64 → L.length ≤ n → s.size - k < m → base ≤ w.heap.size → ErrB base w →
    Calls Tryd.prog F #[ptr b] w fun r w' => Out base w w' b s d (nx ⟨n, L, rest s k⟩) r
/-- .. and of a state with a fault -/
def RdE (base b : Nat) (s : ByteArray) (F : Nat) : Prop :=
  ∀ (k : Nat) (d n : Int) (v : Value) (L : List Nd) (e a : Int) (w : World), Prs base w b s k d n v L e a → e ≠ 0 → base ≤ w.heap.size →
    Calls Tryd.prog F #[ptr b] w fun r w' => Out base w w' b s 0 (.error (e, a)) r
/-- the same, with the answer's number set free -/
def OutS (base : Nat) (w w' : World) (b : Nat) (s : ByteArray) (d : Int) (R : PR) (j : Int) : Prop :=
  match R with
  | .ok q => j = q.1 ∧ (∃ k' v', q.2.r = rest s k' ∧ Prs base w' b s k' d q.2.n v' q.2.L 0 0) ∧ Below base w w'
  | .error e => (∃ k' d' n' v' L', Prs base w' b s k' d' n' v' L' e.1 e.2) ∧ Below base w w'
theorem out_j {base : Nat} {w w' : World} {b : Nat} {s : ByteArray} {d : Int} {R : PR} {r : Ending} (h : Out base w w' b s d R r) : ∃ j : Int, r = .returned (.int .i64 j) ∧ OutS base w w' b s d R j := by
  cases R with
  | ok q => exact ⟨q.1, h.1, rfl, h.2.1, h.2.2⟩
  | error e => obtain ⟨⟨j, hj⟩, h2, h3⟩ := h; exact ⟨j, hj, h2, h3⟩

section
variable {s : ByteArray} {k n m K : Nat} {L : List Nd} {sg : UInt8} {kd : Int} {nx : Ps → PR} {left : Int}
theorem loopP_stop (hk : k ≤ s.size) (h : isB s ⟨#[sg]⟩ k = false) : loopP s.size sg kd nx (K + 1) left ⟨n, L, rest s k⟩ = .ok (left, ⟨n, L, rest s (isK s ⟨#[sg]⟩ k)⟩) := by
  obtain ⟨h1, h2⟩ := (is_facts (p := ⟨#[sg]⟩) hk).2.2 h
  unfold loopP
  rw [show strip [sg] (blk (rest s k)) = none from h1, h2]
theorem loopP_go (hk : k ≤ s.size) (h : isB s ⟨#[sg]⟩ k = true) : loopP s.size sg kd nx (K + 1) left ⟨n, L, rest s k⟩ = if 64 < n + 1 then .error (3, (skip s k : Int)) else
      match nx ⟨n + 1, L, rest s (isK s ⟨#[sg]⟩ k)⟩ with
      | .error e => .error e
      | .ok q => loopP s.size sg kd nx K q.2.L.length ⟨q.2.n, q.2.L ++ [⟨kd, [], [], 0, left, q.1⟩], q.2.r⟩ := by
  have h1 := (is_facts (p := ⟨#[sg]⟩) hk).2.1 h
  obtain ⟨-, g2, g3, -, -⟩ := skip_is hk
  conv => lhs; unfold loopP
  rw [show strip [sg] (blk (rest s k)) = some (rest s (isK s ⟨#[sg]⟩ k)) from h1]
  simp only
  rw [g3, pos_rest g2]
  by_cases hh : 64 < n + 1
  · rw [if_pos hh, if_pos hh]
  · rw [if_neg hh, if_neg hh]
    cases nx ⟨n + 1, L, rest s (isK s ⟨#[sg]⟩ k)⟩ <;> rfl
theorem isK_far (hk : k ≤ s.size) (h : isB s ⟨#[sg]⟩ k = true) : k < isK s ⟨#[sg]⟩ k ∧ isK s ⟨#[sg]⟩ k ≤ s.size := by
  obtain ⟨g1, -⟩ := is_facts (p := ⟨#[sg]⟩) hk
  obtain ⟨g2, -⟩ := skip_is hk
  refine ⟨?_, g1⟩
  unfold isK
  rw [h, if_pos rfl]
  show k < skip s k + 1
  omega
end
/-- a round of pairs: where it stands -/
def PairS (base : Nat) (w wr : World) (b : Nat) (s : ByteArray) (m d : Nat) (sg : UInt8) (kd : Int) (nx : Ps → PR) (R : PR) (j : Int) : Prop :=
  (∃ (K k n : Nat) (v : Value) (L : List Nd), Prs base wr b s k d n v L 0 0 ∧ n ≤ 64 ∧ L.length ≤ n ∧ s.size - k < m ∧ s.size - k < K ∧ loopP s.size sg kd nx K j ⟨n, L, rest s k⟩ = R ∧ Below base w wr) ∨
  (∃ (k : Nat) (d' n' : Int) (v : Value) (L : List Nd) (e a : Int), Prs base wr b s k d' n' v L e a ∧ e ≠ 0 ∧ R = .error (e, a) ∧ Below base w wr)
theorem PairS.start {base : Nat} {w wr : World} {b : Nat} {s : ByteArray} {m d : Nat} {sg : UInt8} {kd : Int} {nx : Ps → PR} {j : Int} {k n : Nat} {L : List Nd} (hk : Kp s.size m nx) (hl : L.length ≤ n) (hm : s.size - k < m)
    (h : OutS base w wr b s d (nx ⟨n, L, rest s k⟩) j) : PairS base w wr b s m d sg kd nx (pairsP s.size sg kd nx ⟨n, L, rest s k⟩) j := by
  unfold pairsP
  cases hx : nx ⟨n, L, rest s k⟩ with
  | error e =>
    rw [hx] at h
    obtain ⟨⟨k', d', n', v', L', h1⟩, h2⟩ := h
    exact .inr ⟨k', d', n', v', L', e.1, e.2, h1, hk.err _ _ _ e (by rw [rest_len]; omega) (by rw [rest_len]; omega) hx, rfl, h2⟩
  | ok q =>
    rw [hx] at h
    obtain ⟨rfl, ⟨k', v', h1, h2⟩, h3⟩ := h
    have hq := hk.cnt _ _ _ q.1 q.2 hx
    have hl2 := hk.len _ _ _ q.1 q.2 hx
    rw [h1, rest_len, rest_len] at hl2
    refine .inl ⟨q.2.r.length + 1, k', q.2.n, v', q.2.L, h2, hq.1, by omega, by omega, by rw [h1, rest_len]; omega, ?_, h3⟩
    show loopP _ _ _ _ _ _ _ = loopP _ _ _ _ _ _ q.2
    rw [← h1]
/-- the measure of pairs -/
def prM (b N : Nat) (w : World) : Nat := if intOf ((w.cell? ⟨b, 5, none⟩).getD undef) = 0 then 1 + (N - (intOf ((w.cell? ⟨b, 1, none⟩).getD undef)).toNat) else 0
theorem prM_good {base : Nat} {w : World} {b : Nat} {s : ByteArray} {k : Nat} {d n : Int} {v : Value} {L : List Nd} {a : Int} (h : Prs base w b s k d n v L 0 a) : prM b s.size w = 1 + (s.size - k) := by
  unfold prM
  rw [h.c5, h.c1]
  simp [intOf]
theorem prM_bad {base : Nat} {w : World} {b : Nat} {s : ByteArray} {k : Nat} {d n : Int} {v : Value} {L : List Nd} {e a : Int} (h : Prs base w b s k d n v L e a) (he : e ≠ 0) : prM b s.size w = 0 := by
  unfold prM
  rw [h.c5]
  simp [intOf, he]
theorem NodeS.below {base : Nat} {w w' : World} {b : Nat} {s : ByteArray} {k : Nat} {d n d0 n0 : Int} {v : Value} {L L0 : List Nd} {e a : Int} (h : NodeS base w w' b s k d n v L) (h0 : Prs base w b s k d0 n0 v L0 e a) (hb : base ≤ w.heap.size) : Below base w w' := by
  obtain ⟨v', h6, h7, h8⟩ := h
  exact h7.below (fun q hq => by rcases hq with rfl | hq; exact h0.hb; exact own_lo h0.own hq) hb
end Go.Proofs.YtaipldegobjboaaDoor.Ru

namespace Go.Proofs.YtaipldegobjboaaDoor.Ru
open Go.RowKit Go.Proofs.YtaipldegobjboaaDoor

set_option maxRecDepth 100000 in
set_option maxHeartbeats 4000000 in
theorem pairs_and (base b : Nat) (s : ByteArray) (m d : Nat) (nx : Ps → PR) (hg : Rd base b s m 73 d nx) (he : RdE base b s 73) (hk : Kp s.size m nx) (k n : Nat) (v : Value) (L : List Nd) (w : World) (h : Prs base w b s k d n v L 0 0) (hn : n ≤ 64) (hl : L.length ≤ n) (hm : s.size - k < m) (hbase : base ≤ w.heap.size) (hv : ErrB base w) :
    Calls Tryd.prog 60 #[ptr b, .string ⟨#[38]⟩, .int .i64 8, .func (.func 73) #[ptr b] #[]] w fun r w' => Out base w w' b s d (pairsP s.size 38 8 nx ⟨n, L, rest s k⟩) r := by
  have HG := Lib.hid hg
  have HE := Lib.hid he
  have HK := Lib.hid hk
  have H := Lib.hid h
  have HBS := Lib.hid hbase
  have HV := Lib.hid hv
  have HST : Hid (∀ wr j, OutS base w wr b s d (nx ⟨n, L, rest s k⟩) j → PairS base w wr b s m d 38 8 nx (pairsP s.size 38 8 nx ⟨n, L, rest s k⟩) j) := Lib.hid (fun wr j hq => PairS.start hk hl hm hq)
  obtain ⟨R, hR⟩ : ∃ R, R = pairsP s.size 38 8 nx ⟨n, L, rest s k⟩ := ⟨_, rfl⟩
  rw [← hR] at HST ⊢
  have HCALL : Hid (Calls Tryd.prog 73 #[ptr b] w fun r w' => ∃ j : Int, r = .returned (.int .i64 j) ∧ PairS base w w' b s m d 38 8 nx R j) := Lib.hid ((hg k n v L w h hn hl hm hbase hv).mono fun r w' hq => by
    obtain ⟨j, h1, h2⟩ := out_j hq
    exact ⟨j, h1, HST.out w' j h2⟩)
  clear h hg he hk hn hl hm hbase hv hR HST
  go_enter Tryd.func60, Tryd.ntmps60
  go_upto_region 2 with (go_at_call 73; refine HCALL.out.mono ?_; rintro r w2 ⟨j, rfl, hp⟩; have HP := Lib.hid hp; clear hp)
  go_loopw [9] (fun s9 wr => ∃ j : Int, s9 = .int .i64 j ∧ Hid (PairS base w wr b s m d 38 8 nx R j)) (fun _ wr => prM b s.size wr)
  case atStart => exact ⟨j, rfl, HP⟩
  case round =>
    clear HP HCALL
    obtain ⟨left, rfl, hps⟩ := hrel
    rcases hps.out with ⟨K, k0, n0, v0, L0, g1, g2, g3, g4, g5, g6, g7⟩ | ⟨k0, d0, n0, v0, L0, e0, a0, g1, g2, g3, g4⟩
    · clear hps
      have hkb := g1.kb
      have H0 := Lib.hid g1
      have HB0 := Lib.hid g7
      have HN0 := Lib.hid g2
      have HL0 := Lib.hid g3
      have HM0 := Lib.hid g4
      have HRK := Lib.hid g6
      have HSZ : Hid (base ≤ wr.heap.size) := Lib.hid (Nat.le_trans HBS.out g7.size)
      have HVR : Hid (ErrB base wr) := Lib.hid (HV.out.below g7)
      have HMS : Hid (prM b s.size wr = 1 + (s.size - k0)) := Lib.hid (prM_good g1)
      have c5 := g1.c5
      have c6 := g1.c6
      obtain ⟨K, rfl⟩ : ∃ K', K = K' + 1 := ⟨K - 1, by omega⟩
      have HKK := Lib.hid g5
      clear g1 g2 g3 g4 g5 g6 g7
      obtain ⟨k1, hk1⟩ : ∃ k1, k1 = skip s k0 := ⟨_, rfl⟩
      obtain ⟨k2, hk2⟩ : ∃ k2, k2 = isK s ⟨#[38]⟩ k0 := ⟨_, rfl⟩
      have HK1 := Lib.hid hk1
      have HK2 := Lib.hid hk2
      have HSK := Lib.hid (isB_skip (p := ⟨#[38]⟩) hkb)
      have HBL : Hid (∀ wx, Prs base wx b s k0 d n0 v0 L0 0 0 → Calls Tryd.prog 49 #[ptr b] wx fun r w' => r = .returned (.tuple #[]) ∧ Prs base w' b s k1 d n0 v0 L0 0 0 ∧ Onb b wx w') := Lib.hid (fun wx hx => by rw [hk1]; exact blanks_any base b s k0 d n0 v0 L0 0 0 wx hx)
      cases hq : isB s ⟨#[38]⟩ k0
      · have HRR : Hid (R = .ok (left, ⟨n0, L0, rest s k2⟩)) := Lib.hid (by rw [← HRK.out, loopP_stop hkb hq, hk2])
        have HIS : Hid (∀ wx, Prs base wx b s k1 d n0 v0 L0 0 0 → Calls Tryd.prog 70 #[ptr b, .string ⟨#[38]⟩] wx fun r w' => r = .returned (.bool false) ∧ Prs base w' b s k2 d n0 v0 L0 0 0 ∧ Onb b wx w') := Lib.hid (fun wx hx => by
          have := is_any base b s k1 d n0 v0 L0 0 0 ⟨#[38]⟩ wx hx (by decide)
          rw [hk1, HSK.out.1, HSK.out.2, hq, ← hk2] at this
          rw [hk1] at hx
          exact this)
        clear hq hk1 hk2
        go_upto_region 4 with (go_at_call 49; refine (HBL.out _ H0.out).mono ?_; rintro r w3 ⟨rfl, hx, hf⟩; have H3 := Lib.hid hx; have HO3 : Hid (Onb b wr w3) := Lib.hid hf; clear hx hf)
        have c1 := H3.out.c1
        go_wp2_with (go_at_call 70; refine (HIS.out _ H3.out).mono ?_; rintro r w4 ⟨rfl, hx, hf⟩; have H4 := Lib.hid hx; have HO4 : Hid (Onb b wr w4) := Lib.hid (HO3.out.then hf); clear hx hf)
        go_ret
        exact out_ok HRR.out H4.out (HB0.out.trans (onb_below HO4.out H0.out.hb HSZ.out))
      · have HFAR := Lib.hid (isK_far hkb hq)
        rw [← hk2] at HFAR
        have HLP := Lib.hid (loopP_go (n := n0) (K := K) (L := L0) (kd := 8) (nx := nx) (left := left) hkb hq)
        rw [HRK.out, ← hk1, ← hk2] at HLP
        have HIS : Hid (∀ wx, Prs base wx b s k1 d n0 v0 L0 0 0 → Calls Tryd.prog 70 #[ptr b, .string ⟨#[38]⟩] wx fun r w' => r = .returned (.bool true) ∧ Prs base w' b s k2 d n0 v0 L0 0 0 ∧ Onb b wx w') := Lib.hid (fun wx hx => by
          have := is_any base b s k1 d n0 v0 L0 0 0 ⟨#[38]⟩ wx hx (by decide)
          rw [hk1, HSK.out.1, HSK.out.2, hq, ← hk2] at this
          rw [hk1] at hx
          exact this)
        clear hq hk1 hk2
        go_upto_region 4 with (go_at_call 49; refine (HBL.out _ H0.out).mono ?_; rintro r w3 ⟨rfl, hx, hf⟩; have H3 := Lib.hid hx; have HO3 : Hid (Onb b wr w3) := Lib.hid hf; clear hx hf)
        have c1 := H3.out.c1
        by_cases h64 : 64 < n0 + 1
        · have q1 : (64 : Int) < (n0 : Int) + 1 := by omega
          have HEQ : Hid ((if 64 < (n0 : Int) + 1 then (3 : Int) else 0) = 3 ∧ (if 64 < (n0 : Int) + 1 then (k1 : Int) else 0) = (k1 : Int)) := Lib.hid ⟨if_pos q1, if_pos q1⟩
          have HRR : Hid (R = .error (3, (k1 : Int))) := Lib.hid (by rw [HLP.out, if_pos h64])
          clear h64 q1
          go_upto_region 7 with (first
            | (go_at_call 70; refine (HIS.out _ H3.out).mono ?_; rintro r w4 ⟨rfl, hx, hf⟩; have H4 := Lib.hid hx; have HO4 : Hid (Onb b wr w4) := Lib.hid (HO3.out.then hf); clear hx hf)
            | (go_at_call 71; refine (count_any base b s k2 d n0 v0 L0 (k1 : Int) _ H4.out (by have := HN0.out; omega)).mono ?_; rw [HEQ.out.1, HEQ.out.2]; rintro r w5 ⟨rfl, hx, hf⟩; have H5 := Lib.hid hx; have HO5 : Hid (Onb b wr w5) := Lib.hid (HO4.out.then hf); clear hx hf))
          have HB5 : Hid (Below base wr w5) := Lib.hid (onb_below HO5.out H0.out.hb HSZ.out)
          have HZ5 : Hid (base ≤ w5.heap.size) := Lib.hid (Nat.le_trans HSZ.out HB5.out.size)
          have HCL : Hid (Calls Tryd.prog 73 #[ptr b] w5 fun r w' => ∃ j : Int, r = .returned (.int .i64 j) ∧ OutS base w5 w' b s 0 (.error (3, (k1 : Int))) j) := Lib.hid ((HE.out k2 d _ v0 L0 3 (k1 : Int) w5 H5.out (by decide) HZ5.out).mono fun r w' hq => out_j hq)
          go_upto_region 8 with (go_at_call 73; refine HCL.out.mono ?_; rintro r w6 ⟨j, rfl, hq⟩; have HQ6 := Lib.hid hq; clear hq)
          obtain ⟨⟨k6, d6, n6, v6, L6, hp6⟩, hb6⟩ := HQ6.out
          have H6 := Lib.hid hp6
          have HB6 : Hid (Below base wr w6) := Lib.hid (HB5.out.trans hb6)
          clear hp6 hb6 HQ6
          go_wp2_with (go_at_call 72; refine (node_bad base b s k6 d6 n6 v6 L6 3 (k1 : Int) ⟨8, [], [], 0, left, j⟩ _ H6.out (by decide)).mono ?_; rintro r w7 ⟨rfl, hx, hf⟩; have H7 := Lib.hid hx; have HB7 : Hid (Below base wr w7) := Lib.hid (HB6.out.trans (onb_below hf H0.out.hb (Nat.le_trans HSZ.out HB6.out.size))); clear hx hf)
          go_roundw
          case rel => exact ⟨-1, rfl, Lib.hid (.inr ⟨k6, d6, n6, v6, L6, 3, (k1 : Int), H7.out, by decide, HRR.out, HB0.out.trans HB7.out⟩)⟩
          case measure =>
            rw [prM_bad H7.out (by decide), HMS.out]; omega
        · have q1 : ¬ (64 : Int) < (n0 : Int) + 1 := by omega
          have HEQ : Hid ((if 64 < (n0 : Int) + 1 then (3 : Int) else 0) = 0 ∧ (if 64 < (n0 : Int) + 1 then (k1 : Int) else 0) = 0) := Lib.hid ⟨if_neg q1, if_neg q1⟩
          have HLQ := HLP.out
          rw [if_neg h64] at HLQ
          have HN1 : Hid (n0 + 1 ≤ 64) := Lib.hid (by omega)
          clear h64 q1
          go_upto_region 7 with (first
            | (go_at_call 70; refine (HIS.out _ H3.out).mono ?_; rintro r w4 ⟨rfl, hx, hf⟩; have H4 := Lib.hid hx; have HO4 : Hid (Onb b wr w4) := Lib.hid (HO3.out.then hf); clear hx hf)
            | (go_at_call 71; refine (count_any base b s k2 d n0 v0 L0 (k1 : Int) _ H4.out (by have := HN0.out; omega)).mono ?_; rw [HEQ.out.1, HEQ.out.2]; rintro r w5 ⟨rfl, hx, hf⟩; have H5 := Lib.hid hx; have HO5 : Hid (Onb b wr w5) := Lib.hid (HO4.out.then hf); clear hx hf))
          have HB5 : Hid (Below base wr w5) := Lib.hid (onb_below HO5.out H0.out.hb HSZ.out)
          have HZ5 : Hid (base ≤ w5.heap.size) := Lib.hid (Nat.le_trans HSZ.out HB5.out.size)
          have HCL : Hid (Calls Tryd.prog 73 #[ptr b] w5 fun r w' => ∃ j : Int, r = .returned (.int .i64 j) ∧ OutS base w5 w' b s d (nx ⟨n0 + 1, L0, rest s k2⟩) j) := Lib.hid ((HG.out k2 (n0 + 1) v0 L0 w5 (by have := H5.out; push_cast; exact this) HN1.out (by have := HL0.out; omega) (by have := HM0.out; have := HFAR.out; omega) HZ5.out (HVR.out.below HB5.out)).mono fun r w' hq => out_j hq)
          cases hX : nx ⟨n0 + 1, L0, rest s k2⟩
          case error e =>
            rw [hX] at HCL HLQ
            simp only at HLQ
            have HE0 : Hid (e.1 ≠ 0) := Lib.hid (HK.out.err _ _ _ e (by rw [rest_len]; have := HM0.out; have := HFAR.out; omega) (by rw [rest_len]; omega) hX)
            have HRR : Hid (R = .error e) := Lib.hid HLQ
            clear HLP HLQ hX
            go_upto_region 8 with (go_at_call 73; refine HCL.out.mono ?_; rintro r w6 ⟨j, rfl, hq⟩; have HQ6 := Lib.hid hq; clear hq)
            obtain ⟨⟨k6, d6, n6, v6, L6, hp6⟩, hb6⟩ := HQ6.out
            have H6 := Lib.hid hp6
            have HB6 : Hid (Below base wr w6) := Lib.hid (HB5.out.trans hb6)
            clear hp6 hb6 HQ6
            go_wp2_with (go_at_call 72; refine (node_bad base b s k6 d6 n6 v6 L6 e.1 e.2 ⟨8, [], [], 0, left, j⟩ _ H6.out HE0.out).mono ?_; rintro r w7 ⟨rfl, hx, hf⟩; have H7 := Lib.hid hx; have HB7 : Hid (Below base wr w7) := Lib.hid (HB6.out.trans (onb_below hf H0.out.hb (Nat.le_trans HSZ.out HB6.out.size))); clear hx hf)
            go_roundw
            case rel => exact ⟨-1, rfl, Lib.hid (.inr ⟨k6, d6, n6, v6, L6, e.1, e.2, H7.out, HE0.out, HRR.out, HB0.out.trans HB7.out⟩)⟩
            case measure =>
              rw [prM_bad H7.out HE0.out, HMS.out]; omega
          case ok q =>
            rw [hX] at HCL HLQ
            simp only at HLQ
            have HCN := Lib.hid (HK.out.cnt _ _ _ q.1 q.2 hX)
            have HLN := Lib.hid (HK.out.len _ _ _ q.1 q.2 hX)
            have HRR := Lib.hid HLQ
            clear HLP HLQ hX
            go_upto_region 8 with (go_at_call 73; refine HCL.out.mono ?_; rintro r w6 ⟨j, rfl, hq⟩; have HQ6 := Lib.hid hq; clear hq)
            obtain ⟨hj6, ⟨k6, v6, hr6, hp6⟩, hb6⟩ := HQ6.out
            have HJ := Lib.hid hj6
            have HR6 := Lib.hid hr6
            have H6 := Lib.hid hp6
            have HB6 : Hid (Below base wr w6) := Lib.hid (HB5.out.trans hb6)
            have HZ6 : Hid (base ≤ w6.heap.size) := Lib.hid (Nat.le_trans HSZ.out HB6.out.size)
            have HLL : Hid (q.2.L.length + 1 ≤ 64 ∧ q.2.L.length + 1 ≤ q.2.n ∧ s.size - k6 ≤ s.size - k2) := Lib.hid (by
              have e1 := HCN.out; have e2 := HL0.out; have e3 := HLN.out
              rw [hr6, rest_len, rest_len] at e3
              omega)
            clear hj6 hr6 hp6 hb6 HQ6
            go_wp2_with (go_at_call 72; refine (node_ok base b s k6 d q.2.n v6 q.2.L ⟨8, [], [], 0, left, j⟩ _ H6.out (by have := HLL.out; omega) HZ6.out).mono ?_; rintro r w7 ⟨rfl, hx⟩; have H7 := Lib.hid hx; clear hx)
            have HB7 : Hid (Below base wr w7) := Lib.hid (HB6.out.trans (H7.out.below H6.out HZ6.out))
            obtain ⟨v7, h7, -, -⟩ := H7.out
            have HP7 := Lib.hid h7
            clear h7
            go_roundw
            case rel =>
              refine ⟨(q.2.L.length : Int), rfl, Lib.hid (.inl ⟨K, k6, q.2.n, v7, _, HP7.out, HCN.out.1, ?_, ?_, ?_, ?_, HB0.out.trans HB7.out⟩)⟩
              · have := HLL.out; rw [List.length_append]; simp only [List.length_cons, List.length_nil]; omega
              · have := HLL.out; have := HM0.out; have := HFAR.out; omega
              · have := HLL.out; have := HKK.out; have := HFAR.out; omega
              · rw [HRR.out, ← HR6.out, HJ.out]
            case measure =>
              rw [prM_good HP7.out, HMS.out]
              have := HLL.out; have := HFAR.out; omega
    · clear hps
      have H0 := Lib.hid g1
      have HRR := Lib.hid g3
      have HB0 := Lib.hid g4
      have c5 := g1.c5
      have c6 := g1.c6
      have t1 : (e0 == 0) = false := by simpa using g2
      clear g1 g2 g3 g4
      go_wp2
      go_ret
      exact out_err HRR.out H0.out HB0.out _

set_option maxRecDepth 100000 in
set_option maxHeartbeats 4000000 in
theorem pairs_or (base b : Nat) (s : ByteArray) (m d : Nat) (nx : Ps → PR) (hg : Rd base b s m 61 d nx) (he : RdE base b s 61) (hk : Kp s.size m nx) (k n : Nat) (v : Value) (L : List Nd) (w : World) (h : Prs base w b s k d n v L 0 0) (hn : n ≤ 64) (hl : L.length ≤ n) (hm : s.size - k < m) (hbase : base ≤ w.heap.size) (hv : ErrB base w) :
    Calls Tryd.prog 60 #[ptr b, .string ⟨#[124]⟩, .int .i64 9, .func (.func 61) #[ptr b] #[]] w fun r w' => Out base w w' b s d (pairsP s.size 124 9 nx ⟨n, L, rest s k⟩) r := by
  have HG := Lib.hid hg
  have HE := Lib.hid he
  have HK := Lib.hid hk
  have H := Lib.hid h
  have HBS := Lib.hid hbase
  have HV := Lib.hid hv
  have HST : Hid (∀ wr j, OutS base w wr b s d (nx ⟨n, L, rest s k⟩) j → PairS base w wr b s m d 124 9 nx (pairsP s.size 124 9 nx ⟨n, L, rest s k⟩) j) := Lib.hid (fun wr j hq => PairS.start hk hl hm hq)
  obtain ⟨R, hR⟩ : ∃ R, R = pairsP s.size 124 9 nx ⟨n, L, rest s k⟩ := ⟨_, rfl⟩
  rw [← hR] at HST ⊢
  have HCALL : Hid (Calls Tryd.prog 61 #[ptr b] w fun r w' => ∃ j : Int, r = .returned (.int .i64 j) ∧ PairS base w w' b s m d 124 9 nx R j) := Lib.hid ((hg k n v L w h hn hl hm hbase hv).mono fun r w' hq => by
    obtain ⟨j, h1, h2⟩ := out_j hq
    exact ⟨j, h1, HST.out w' j h2⟩)
  clear h hg he hk hn hl hm hbase hv hR HST
  go_enter Tryd.func60, Tryd.ntmps60
  go_upto_region 2 with (go_at_call 61; refine HCALL.out.mono ?_; rintro r w2 ⟨j, rfl, hp⟩; have HP := Lib.hid hp; clear hp)
  go_loopw [9] (fun s9 wr => ∃ j : Int, s9 = .int .i64 j ∧ Hid (PairS base w wr b s m d 124 9 nx R j)) (fun _ wr => prM b s.size wr)
  case atStart => exact ⟨j, rfl, HP⟩
  case round =>
    clear HP HCALL
    obtain ⟨left, rfl, hps⟩ := hrel
    rcases hps.out with ⟨K, k0, n0, v0, L0, g1, g2, g3, g4, g5, g6, g7⟩ | ⟨k0, d0, n0, v0, L0, e0, a0, g1, g2, g3, g4⟩
    · clear hps
      have hkb := g1.kb
      have H0 := Lib.hid g1
      have HB0 := Lib.hid g7
      have HN0 := Lib.hid g2
      have HL0 := Lib.hid g3
      have HM0 := Lib.hid g4
      have HRK := Lib.hid g6
      have HSZ : Hid (base ≤ wr.heap.size) := Lib.hid (Nat.le_trans HBS.out g7.size)
      have HVR : Hid (ErrB base wr) := Lib.hid (HV.out.below g7)
      have HMS : Hid (prM b s.size wr = 1 + (s.size - k0)) := Lib.hid (prM_good g1)
      have c5 := g1.c5
      have c6 := g1.c6
      obtain ⟨K, rfl⟩ : ∃ K', K = K' + 1 := ⟨K - 1, by omega⟩
      have HKK := Lib.hid g5
      clear g1 g2 g3 g4 g5 g6 g7
      obtain ⟨k1, hk1⟩ : ∃ k1, k1 = skip s k0 := ⟨_, rfl⟩
      obtain ⟨k2, hk2⟩ : ∃ k2, k2 = isK s ⟨#[124]⟩ k0 := ⟨_, rfl⟩
      have HK1 := Lib.hid hk1
      have HK2 := Lib.hid hk2
      have HSK := Lib.hid (isB_skip (p := ⟨#[124]⟩) hkb)
      have HBL : Hid (∀ wx, Prs base wx b s k0 d n0 v0 L0 0 0 → Calls Tryd.prog 49 #[ptr b] wx fun r w' => r = .returned (.tuple #[]) ∧ Prs base w' b s k1 d n0 v0 L0 0 0 ∧ Onb b wx w') := Lib.hid (fun wx hx => by rw [hk1]; exact blanks_any base b s k0 d n0 v0 L0 0 0 wx hx)
      cases hq : isB s ⟨#[124]⟩ k0
      · have HRR : Hid (R = .ok (left, ⟨n0, L0, rest s k2⟩)) := Lib.hid (by rw [← HRK.out, loopP_stop hkb hq, hk2])
        have HIS : Hid (∀ wx, Prs base wx b s k1 d n0 v0 L0 0 0 → Calls Tryd.prog 70 #[ptr b, .string ⟨#[124]⟩] wx fun r w' => r = .returned (.bool false) ∧ Prs base w' b s k2 d n0 v0 L0 0 0 ∧ Onb b wx w') := Lib.hid (fun wx hx => by
          have := is_any base b s k1 d n0 v0 L0 0 0 ⟨#[124]⟩ wx hx (by decide)
          rw [hk1, HSK.out.1, HSK.out.2, hq, ← hk2] at this
          rw [hk1] at hx
          exact this)
        clear hq hk1 hk2
        go_upto_region 4 with (go_at_call 49; refine (HBL.out _ H0.out).mono ?_; rintro r w3 ⟨rfl, hx, hf⟩; have H3 := Lib.hid hx; have HO3 : Hid (Onb b wr w3) := Lib.hid hf; clear hx hf)
        have c1 := H3.out.c1
        go_wp2_with (go_at_call 70; refine (HIS.out _ H3.out).mono ?_; rintro r w4 ⟨rfl, hx, hf⟩; have H4 := Lib.hid hx; have HO4 : Hid (Onb b wr w4) := Lib.hid (HO3.out.then hf); clear hx hf)
        go_ret
        exact out_ok HRR.out H4.out (HB0.out.trans (onb_below HO4.out H0.out.hb HSZ.out))
      · have HFAR := Lib.hid (isK_far hkb hq)
        rw [← hk2] at HFAR
        have HLP := Lib.hid (loopP_go (n := n0) (K := K) (L := L0) (kd := 9) (nx := nx) (left := left) hkb hq)
        rw [HRK.out, ← hk1, ← hk2] at HLP
        have HIS : Hid (∀ wx, Prs base wx b s k1 d n0 v0 L0 0 0 → Calls Tryd.prog 70 #[ptr b, .string ⟨#[124]⟩] wx fun r w' => r = .returned (.bool true) ∧ Prs base w' b s k2 d n0 v0 L0 0 0 ∧ Onb b wx w') := Lib.hid (fun wx hx => by
          have := is_any base b s k1 d n0 v0 L0 0 0 ⟨#[124]⟩ wx hx (by decide)
          rw [hk1, HSK.out.1, HSK.out.2, hq, ← hk2] at this
          rw [hk1] at hx
          exact this)
        clear hq hk1 hk2
        go_upto_region 4 with (go_at_call 49; refine (HBL.out _ H0.out).mono ?_; rintro r w3 ⟨rfl, hx, hf⟩; have H3 := Lib.hid hx; have HO3 : Hid (Onb b wr w3) := Lib.hid hf; clear hx hf)
        have c1 := H3.out.c1
        by_cases h64 : 64 < n0 + 1
        · have q1 : (64 : Int) < (n0 : Int) + 1 := by omega
          have HEQ : Hid ((if 64 < (n0 : Int) + 1 then (3 : Int) else 0) = 3 ∧ (if 64 < (n0 : Int) + 1 then (k1 : Int) else 0) = (k1 : Int)) := Lib.hid ⟨if_pos q1, if_pos q1⟩
          have HRR : Hid (R = .error (3, (k1 : Int))) := Lib.hid (by rw [HLP.out, if_pos h64])
          clear h64 q1
          go_upto_region 7 with (first
            | (go_at_call 70; refine (HIS.out _ H3.out).mono ?_; rintro r w4 ⟨rfl, hx, hf⟩; have H4 := Lib.hid hx; have HO4 : Hid (Onb b wr w4) := Lib.hid (HO3.out.then hf); clear hx hf)
            | (go_at_call 71; refine (count_any base b s k2 d n0 v0 L0 (k1 : Int) _ H4.out (by have := HN0.out; omega)).mono ?_; rw [HEQ.out.1, HEQ.out.2]; rintro r w5 ⟨rfl, hx, hf⟩; have H5 := Lib.hid hx; have HO5 : Hid (Onb b wr w5) := Lib.hid (HO4.out.then hf); clear hx hf))
          have HB5 : Hid (Below base wr w5) := Lib.hid (onb_below HO5.out H0.out.hb HSZ.out)
          have HZ5 : Hid (base ≤ w5.heap.size) := Lib.hid (Nat.le_trans HSZ.out HB5.out.size)
          have HCL : Hid (Calls Tryd.prog 61 #[ptr b] w5 fun r w' => ∃ j : Int, r = .returned (.int .i64 j) ∧ OutS base w5 w' b s 0 (.error (3, (k1 : Int))) j) := Lib.hid ((HE.out k2 d _ v0 L0 3 (k1 : Int) w5 H5.out (by decide) HZ5.out).mono fun r w' hq => out_j hq)
          go_upto_region 8 with (go_at_call 61; refine HCL.out.mono ?_; rintro r w6 ⟨j, rfl, hq⟩; have HQ6 := Lib.hid hq; clear hq)
          obtain ⟨⟨k6, d6, n6, v6, L6, hp6⟩, hb6⟩ := HQ6.out
          have H6 := Lib.hid hp6
          have HB6 : Hid (Below base wr w6) := Lib.hid (HB5.out.trans hb6)
          clear hp6 hb6 HQ6
          go_wp2_with (go_at_call 72; refine (node_bad base b s k6 d6 n6 v6 L6 3 (k1 : Int) ⟨9, [], [], 0, left, j⟩ _ H6.out (by decide)).mono ?_; rintro r w7 ⟨rfl, hx, hf⟩; have H7 := Lib.hid hx; have HB7 : Hid (Below base wr w7) := Lib.hid (HB6.out.trans (onb_below hf H0.out.hb (Nat.le_trans HSZ.out HB6.out.size))); clear hx hf)
          go_roundw
          case rel => exact ⟨-1, rfl, Lib.hid (.inr ⟨k6, d6, n6, v6, L6, 3, (k1 : Int), H7.out, by decide, HRR.out, HB0.out.trans HB7.out⟩)⟩
          case measure =>
            rw [prM_bad H7.out (by decide), HMS.out]; omega
        · have q1 : ¬ (64 : Int) < (n0 : Int) + 1 := by omega
          have HEQ : Hid ((if 64 < (n0 : Int) + 1 then (3 : Int) else 0) = 0 ∧ (if 64 < (n0 : Int) + 1 then (k1 : Int) else 0) = 0) := Lib.hid ⟨if_neg q1, if_neg q1⟩
          have HLQ := HLP.out
          rw [if_neg h64] at HLQ
          have HN1 : Hid (n0 + 1 ≤ 64) := Lib.hid (by omega)
          clear h64 q1
          go_upto_region 7 with (first
            | (go_at_call 70; refine (HIS.out _ H3.out).mono ?_; rintro r w4 ⟨rfl, hx, hf⟩; have H4 := Lib.hid hx; have HO4 : Hid (Onb b wr w4) := Lib.hid (HO3.out.then hf); clear hx hf)
            | (go_at_call 71; refine (count_any base b s k2 d n0 v0 L0 (k1 : Int) _ H4.out (by have := HN0.out; omega)).mono ?_; rw [HEQ.out.1, HEQ.out.2]; rintro r w5 ⟨rfl, hx, hf⟩; have H5 := Lib.hid hx; have HO5 : Hid (Onb b wr w5) := Lib.hid (HO4.out.then hf); clear hx hf))
          have HB5 : Hid (Below base wr w5) := Lib.hid (onb_below HO5.out H0.out.hb HSZ.out)
          have HZ5 : Hid (base ≤ w5.heap.size) := Lib.hid (Nat.le_trans HSZ.out HB5.out.size)
          have HCL : Hid (Calls Tryd.prog 61 #[ptr b] w5 fun r w' => ∃ j : Int, r = .returned (.int .i64 j) ∧ OutS base w5 w' b s d (nx ⟨n0 + 1, L0, rest s k2⟩) j) := Lib.hid ((HG.out k2 (n0 + 1) v0 L0 w5 (by have := H5.out; push_cast; exact this) HN1.out (by have := HL0.out; omega) (by have := HM0.out; have := HFAR.out; omega) HZ5.out (HVR.out.below HB5.out)).mono fun r w' hq => out_j hq)
          cases hX : nx ⟨n0 + 1, L0, rest s k2⟩
          case error e =>
            rw [hX] at HCL HLQ
            simp only at HLQ
            have HE0 : Hid (e.1 ≠ 0) := Lib.hid (HK.out.err _ _ _ e (by rw [rest_len]; have := HM0.out; have := HFAR.out; omega) (by rw [rest_len]; omega) hX)
            have HRR : Hid (R = .error e) := Lib.hid HLQ
            clear HLP HLQ hX
            go_upto_region 8 with (go_at_call 61; refine HCL.out.mono ?_; rintro r w6 ⟨j, rfl, hq⟩; have HQ6 := Lib.hid hq; clear hq)
            obtain ⟨⟨k6, d6, n6, v6, L6, hp6⟩, hb6⟩ := HQ6.out
            have H6 := Lib.hid hp6
            have HB6 : Hid (Below base wr w6) := Lib.hid (HB5.out.trans hb6)
            clear hp6 hb6 HQ6
            go_wp2_with (go_at_call 72; refine (node_bad base b s k6 d6 n6 v6 L6 e.1 e.2 ⟨9, [], [], 0, left, j⟩ _ H6.out HE0.out).mono ?_; rintro r w7 ⟨rfl, hx, hf⟩; have H7 := Lib.hid hx; have HB7 : Hid (Below base wr w7) := Lib.hid (HB6.out.trans (onb_below hf H0.out.hb (Nat.le_trans HSZ.out HB6.out.size))); clear hx hf)
            go_roundw
            case rel => exact ⟨-1, rfl, Lib.hid (.inr ⟨k6, d6, n6, v6, L6, e.1, e.2, H7.out, HE0.out, HRR.out, HB0.out.trans HB7.out⟩)⟩
            case measure =>
              rw [prM_bad H7.out HE0.out, HMS.out]; omega
          case ok q =>
            rw [hX] at HCL HLQ
            simp only at HLQ
            have HCN := Lib.hid (HK.out.cnt _ _ _ q.1 q.2 hX)
            have HLN := Lib.hid (HK.out.len _ _ _ q.1 q.2 hX)
            have HRR := Lib.hid HLQ
            clear HLP HLQ hX
            go_upto_region 8 with (go_at_call 61; refine HCL.out.mono ?_; rintro r w6 ⟨j, rfl, hq⟩; have HQ6 := Lib.hid hq; clear hq)
            obtain ⟨hj6, ⟨k6, v6, hr6, hp6⟩, hb6⟩ := HQ6.out
            have HJ := Lib.hid hj6
            have HR6 := Lib.hid hr6
            have H6 := Lib.hid hp6
            have HB6 : Hid (Below base wr w6) := Lib.hid (HB5.out.trans hb6)
            have HZ6 : Hid (base ≤ w6.heap.size) := Lib.hid (Nat.le_trans HSZ.out HB6.out.size)
            have HLL : Hid (q.2.L.length + 1 ≤ 64 ∧ q.2.L.length + 1 ≤ q.2.n ∧ s.size - k6 ≤ s.size - k2) := Lib.hid (by
              have e1 := HCN.out; have e2 := HL0.out; have e3 := HLN.out
              rw [hr6, rest_len, rest_len] at e3
              omega)
            clear hj6 hr6 hp6 hb6 HQ6
            go_wp2_with (go_at_call 72; refine (node_ok base b s k6 d q.2.n v6 q.2.L ⟨9, [], [], 0, left, j⟩ _ H6.out (by have := HLL.out; omega) HZ6.out).mono ?_; rintro r w7 ⟨rfl, hx⟩; have H7 := Lib.hid hx; clear hx)
            have HB7 : Hid (Below base wr w7) := Lib.hid (HB6.out.trans (H7.out.below H6.out HZ6.out))
            obtain ⟨v7, h7, -, -⟩ := H7.out
            have HP7 := Lib.hid h7
            clear h7
            go_roundw
            case rel =>
              refine ⟨(q.2.L.length : Int), rfl, Lib.hid (.inl ⟨K, k6, q.2.n, v7, _, HP7.out, HCN.out.1, ?_, ?_, ?_, ?_, HB0.out.trans HB7.out⟩)⟩
              · have := HLL.out; rw [List.length_append]; simp only [List.length_cons, List.length_nil]; omega
              · have := HLL.out; have := HM0.out; have := HFAR.out; omega
              · have := HLL.out; have := HKK.out; have := HFAR.out; omega
              · rw [HRR.out, ← HR6.out, HJ.out]
            case measure =>
              rw [prM_good HP7.out, HMS.out]
              have := HLL.out; have := HFAR.out; omega
    · clear hps
      have H0 := Lib.hid g1
      have HRR := Lib.hid g3
      have HB0 := Lib.hid g4
      have c5 := g1.c5
      have c6 := g1.c6
      have t1 : (e0 == 0) = false := by simpa using g2
      clear g1 g2 g3 g4
      go_wp2
      go_ret
      exact out_err HRR.out H0.out HB0.out _

end Go.Proofs.YtaipldegobjboaaDoor.Ru

namespace Go.Proofs.YtaipldegobjboaaDoor.Ru
open Go.RowKit Go.Proofs.YtaipldegobjboaaDoor

theorem got_cnt {n : Nat} {L : List Nd} {t : Tr} {i : Int} {s : Ps} (h : Got n L t i s) : s.n ≤ 64 ∧ s.L.length + n = L.length + s.n := by
  refine ⟨h.most, ?_⟩
  rw [h.L, h.n, List.length_append, t.flat_len]
  omega
theorem kp_not (N F d : Nat) (hd : d ≤ 32) : Kp N F (notP N F d) where
  len := fun n L r i s h => by obtain ⟨t, -, -, h3⟩ := notP_is N F d hd n L r i s h; exact h3
  cnt := fun n L r i s h => by obtain ⟨t, -, h2, -⟩ := notP_is N F d hd n L r i s h; exact got_cnt h2
  err := fun n L r e hr hN h => by
    have := (notP_err N F d hd n L r e hr hN h).1
    omega
theorem kp_and (N F d : Nat) (hd : d ≤ 32) (hFN : F ≤ N + 1) : Kp N F (andP N F d) where
  len := fun n L r i s h => by obtain ⟨t, -, -, h3⟩ := andP_is (notP_is N F d hd) n L r i s h; exact h3
  cnt := fun n L r i s h => by obtain ⟨t, -, h2, -⟩ := andP_is (notP_is N F d hd) n L r i s h; exact got_cnt h2
  err := fun n L r e hr hN h => by
    have := (pairsP_err (M := F - 1) (fun n L r e hr h => notP_err N F d hd n L r e (by omega) (by omega) h) (fun n L r i s h => notP_len hd L r i s h) (by omega) n L r e (by omega) h).1
    omega
theorem kp_or (N F d : Nat) (hd : d ≤ 32) : Kp N F (orP N F d) where
  len := fun n L r i s h => by obtain ⟨t, -, -, h3⟩ := orP_is (notP_is N F d hd) n L r i s h; exact h3
  cnt := fun n L r i s h => by obtain ⟨t, -, h2, -⟩ := orP_is (notP_is N F d hd) n L r i s h; exact got_cnt h2
  err := fun n L r e hr hN h => by
    have := (orP_err hd hr hN h).1
    omega

section
variable {s : ByteArray} {k n F d : Nat} {L : List Nd}
theorem notP_no (hk : k ≤ s.size) (h : isB s ⟨#[33]⟩ k = true) : notP s.size (F + 1) d ⟨n, L, rest s k⟩ =
    if 32 < d + 1 then .error (3, (skip s k : Int)) else if 64 < n + 1 then .error (3, (skip s k : Int)) else
      match notP s.size F (d + 1) ⟨n + 1, L, rest s (isK s ⟨#[33]⟩ k)⟩ with
      | .error e => .error e
      | .ok q => .ok (put q.2.n q.2.L q.2.r ⟨7, [], [], 0, q.1, -1⟩) := by
  have h1 := (is_facts (p := ⟨#[33]⟩) hk).2.1 h
  obtain ⟨-, g2, g3, -, -⟩ := skip_is hk
  conv => lhs; unfold notP
  simp only
  rw [show strip [33] (blk (rest s k)) = some (rest s (isK s ⟨#[33]⟩ k)) from h1]
  simp only
  rw [g3, pos_rest g2]
  by_cases hh : 32 < d + 1
  · rw [if_pos hh, if_pos hh]
  rw [if_neg hh, if_neg hh]
  by_cases hh : 64 < n + 1
  · rw [if_pos hh, if_pos hh]
  rw [if_neg hh, if_neg hh]
  cases notP s.size F (d + 1) ⟨n + 1, L, rest s (isK s ⟨#[33]⟩ k)⟩ <;> rfl
theorem notP_open (hk : k ≤ s.size) (h0 : isB s ⟨#[33]⟩ k = false) (h : isB s ⟨#[40]⟩ k = true) : notP s.size (F + 1) d ⟨n, L, rest s k⟩ =
    if 32 < d + 1 then .error (3, (skip s k : Int)) else
      match orP s.size F (d + 1) ⟨n, L, rest s (isK s ⟨#[40]⟩ k)⟩ with
      | .error e => .error e
      | .ok q => match strip [41] (blk q.2.r) with
        | some r3 => .ok (q.1, ⟨q.2.n, q.2.L, r3⟩)
        | none => .error (5, pos s.size (blk q.2.r)) := by
  have h1 := (is_facts (p := ⟨#[40]⟩) hk).2.1 h
  have h2 := ((is_facts (p := ⟨#[33]⟩) hk).2.2 h0).1
  obtain ⟨-, g2, g3, -, -⟩ := skip_is hk
  conv => lhs; unfold notP
  simp only
  rw [show strip [33] (blk (rest s k)) = none from h2, show strip [40] (blk (rest s k)) = some (rest s (isK s ⟨#[40]⟩ k)) from h1]
  simp only
  rw [g3, pos_rest g2]
  by_cases hh : 32 < d + 1
  · rw [if_pos hh, if_pos hh]
  rw [if_neg hh, if_neg hh]
  unfold orP andP
  cases pairsP s.size 124 9 (pairsP s.size 38 8 (notP s.size F (d + 1))) ⟨n, L, rest s (isK s ⟨#[40]⟩ k)⟩ with
  | error e => rfl
  | ok q =>
    simp only
    cases strip [41] (blk q.2.r) <;> rfl
theorem notP_leaf (hk : k ≤ s.size) (h0 : isB s ⟨#[33]⟩ k = false) (h : isB s ⟨#[40]⟩ k = false) : notP s.size (F + 1) d ⟨n, L, rest s k⟩ = leafP s.size ⟨n, L, rest s (skip s k)⟩ := by
  have h1 := ((is_facts (p := ⟨#[40]⟩) hk).2.2 h).1
  have h2 := ((is_facts (p := ⟨#[33]⟩) hk).2.2 h0).1
  obtain ⟨-, g2, g3, -, -⟩ := skip_is hk
  conv => lhs; unfold notP
  simp only
  rw [show strip [33] (blk (rest s k)) = none from h2, show strip [40] (blk (rest s k)) = none from h1]
  simp only
  rw [g3]
end
end Go.Proofs.YtaipldegobjboaaDoor.Ru

namespace Go.Proofs.YtaipldegobjboaaDoor.Ru
open Go.RowKit Go.Proofs.YtaipldegobjboaaDoor

theorem out_of {base : Nat} {w w' : World} {b : Nat} {s : ByteArray} {d : Int} {R : PR} {j : Int} (h : OutS base w w' b s d R j) : Out base w w' b s d R (.returned (.int .i64 j)) := by
  cases R with
  | ok q => obtain ⟨rfl, h2, h3⟩ := h; exact ⟨rfl, h2, h3⟩
  | error e => exact ⟨⟨j, rfl⟩, h.1, h.2⟩
theorem is_at (base b : Nat) (s : ByteArray) (k : Nat) (d n : Int) (v : Value) (L : List Nd) (e a : Int) (p : ByteArray) (w : World) (hk : k ≤ s.size) (h : Prs base w b s (skip s k) d n v L e a) (hp : p.size ≤ 100) :
    Calls Tryd.prog 70 #[ptr b, .string p] w fun r w' => r = .returned (.bool (isB s p k)) ∧ Prs base w' b s (isK s p k) d n v L e a ∧ Onb b w w' := by
  have := is_any base b s (skip s k) d n v L e a p w h hp
  rw [(isB_skip hk).1, (isB_skip hk).2] at this
  exact this

set_option maxRecDepth 100000 in
set_option maxHeartbeats 4000000 in
theorem and_any (base b : Nat) (s : ByteArray) (m d : Nat) (nx : Ps → PR) (hg : Rd base b s m 73 d nx) (he : RdE base b s 73) (hk : Kp s.size m nx) : Rd base b s m 61 d (pairsP s.size 38 8 nx) := by
  unfold Rd
  intro k n v L w h hn hl hm hbase hv
  have HC : Hid (Calls Tryd.prog 60 #[ptr b, .string ⟨#[38]⟩, .int .i64 8, .func (.func 73) #[ptr b] #[]] w fun r w' => ∃ j : Int, r = .returned (.int .i64 j) ∧ OutS base w w' b s d (pairsP s.size 38 8 nx ⟨n, L, rest s k⟩) j) := Lib.hid ((pairs_and base b s m d nx hg he hk k n v L w h hn hl hm hbase hv).mono fun r w' hq => out_j hq)
  clear h hg he hk hn hl hm hbase hv
  go_enter Tryd.func61, Tryd.ntmps61
  go_wp2_with (go_at_call 60; refine HC.out.mono ?_; rintro r w2 ⟨j, rfl, hq⟩; have HQ := Lib.hid hq; clear hq)
  go_ret
  exact out_of HQ.out

set_option maxRecDepth 100000 in
set_option maxHeartbeats 4000000 in
theorem and_err (base b : Nat) (s : ByteArray) (he : RdE base b s 73) : RdE base b s 61 := by
  unfold RdE
  intro k d n v L e a w h h0 hbase
  have HC : Hid (Calls Tryd.prog 73 #[ptr b] w fun r w' => ∃ j : Int, r = .returned (.int .i64 j) ∧ OutS base w w' b s 0 (.error (e, a)) j) := Lib.hid ((he k d n v L e a w h h0 hbase).mono fun r w' hq => out_j hq)
  have HP : Hid (Calls Tryd.prog 60 #[ptr b, .string ⟨#[38]⟩, .int .i64 8, .func (.func 73) #[ptr b] #[]] w fun r w' => ∃ j : Int, r = .returned (.int .i64 j) ∧ OutS base w w' b s 0 (.error (e, a)) j) := Lib.hid (by
    have t1 : (e == 0) = false := by simpa using h0
    clear h he hbase
    go_enter Tryd.func60, Tryd.ntmps60
    go_upto_region 2 with (go_at_call 73; refine HC.out.mono ?_; rintro r w2 ⟨j, rfl, hq⟩; have HQ := Lib.hid hq; clear hq)
    go_loopw [9] (fun s9 wr => ∃ j : Int, s9 = .int .i64 j ∧ Hid (OutS base w wr b s 0 (.error (e, a)) j)) (fun _ wr => 0)
    case atStart => exact ⟨j, rfl, HQ⟩
    case round =>
      clear HQ
      obtain ⟨left, rfl, hps⟩ := hrel
      obtain ⟨⟨k6, d6, n6, v6, L6, hp6⟩, hb6⟩ := hps.out
      simp only at hp6
      have c5 := hp6.c5
      have c6 := hp6.c6
      clear hp6 hb6
      go_wp2
      go_ret
      exact ⟨left, rfl, hps.out⟩)
  clear HC h h0 he hbase
  go_enter Tryd.func61, Tryd.ntmps61
  go_wp2_with (go_at_call 60; refine HP.out.mono ?_; rintro r w2 ⟨j, rfl, hq⟩; have HQ := Lib.hid hq; clear hq)
  go_ret
  exact out_of HQ.out

set_option maxRecDepth 100000 in
set_option maxHeartbeats 4000000 in
theorem or_any (base b : Nat) (s : ByteArray) (m d : Nat) (nx : Ps → PR) (hg : Rd base b s m 61 d nx) (he : RdE base b s 61) (hk : Kp s.size m nx) : Rd base b s m 48 d (pairsP s.size 124 9 nx) := by
  unfold Rd
  intro k n v L w h hn hl hm hbase hv
  have HC : Hid (Calls Tryd.prog 60 #[ptr b, .string ⟨#[124]⟩, .int .i64 9, .func (.func 61) #[ptr b] #[]] w fun r w' => ∃ j : Int, r = .returned (.int .i64 j) ∧ OutS base w w' b s d (pairsP s.size 124 9 nx ⟨n, L, rest s k⟩) j) := Lib.hid ((pairs_or base b s m d nx hg he hk k n v L w h hn hl hm hbase hv).mono fun r w' hq => out_j hq)
  clear h hg he hk hn hl hm hbase hv
  go_enter Tryd.func48, Tryd.ntmps48
  go_wp2_with (go_at_call 60; refine HC.out.mono ?_; rintro r w2 ⟨j, rfl, hq⟩; have HQ := Lib.hid hq; clear hq)
  go_ret
  exact out_of HQ.out

set_option maxRecDepth 100000 in
set_option maxHeartbeats 4000000 in
theorem or_err (base b : Nat) (s : ByteArray) (he : RdE base b s 61) : RdE base b s 48 := by
  unfold RdE
  intro k d n v L e a w h h0 hbase
  have HC : Hid (Calls Tryd.prog 61 #[ptr b] w fun r w' => ∃ j : Int, r = .returned (.int .i64 j) ∧ OutS base w w' b s 0 (.error (e, a)) j) := Lib.hid ((he k d n v L e a w h h0 hbase).mono fun r w' hq => out_j hq)
  have HP : Hid (Calls Tryd.prog 60 #[ptr b, .string ⟨#[124]⟩, .int .i64 9, .func (.func 61) #[ptr b] #[]] w fun r w' => ∃ j : Int, r = .returned (.int .i64 j) ∧ OutS base w w' b s 0 (.error (e, a)) j) := Lib.hid (by
    have t1 : (e == 0) = false := by simpa using h0
    clear h he hbase
    go_enter Tryd.func60, Tryd.ntmps60
    go_upto_region 2 with (go_at_call 61; refine HC.out.mono ?_; rintro r w2 ⟨j, rfl, hq⟩; have HQ := Lib.hid hq; clear hq)
    go_loopw [9] (fun s9 wr => ∃ j : Int, s9 = .int .i64 j ∧ Hid (OutS base w wr b s 0 (.error (e, a)) j)) (fun _ wr => 0)
    case atStart => exact ⟨j, rfl, HQ⟩
    case round =>
      clear HQ
      obtain ⟨left, rfl, hps⟩ := hrel
      obtain ⟨⟨k6, d6, n6, v6, L6, hp6⟩, hb6⟩ := hps.out
      simp only at hp6
      have c5 := hp6.c5
      have c6 := hp6.c6
      clear hp6 hb6
      go_wp2
      go_ret
      exact ⟨left, rfl, hps.out⟩)
  clear HC h h0 he hbase
  go_enter Tryd.func48, Tryd.ntmps48
  go_wp2_with (go_at_call 60; refine HP.out.mono ?_; rintro r w2 ⟨j, rfl, hq⟩; have HQ := Lib.hid hq; clear hq)
  go_ret
  exact out_of HQ.out

theorem out_trans {base : Nat} {w w1 w' : World} {b : Nat} {s : ByteArray} {d : Int} {R : PR} {r : Ending} (h1 : Below base w w1) (h : Out base w1 w' b s d R r) : Out base w w' b s d R r := by
  cases R with
  | ok q => exact ⟨h.1, h.2.1, h1.trans h.2.2⟩
  | error e => exact ⟨h.1, h.2.1, h1.trans h.2.2⟩

set_option maxRecDepth 100000 in
set_option maxHeartbeats 2000000 in
theorem not_err (base b : Nat) (s : ByteArray) : RdE base b s 73 := by
  unfold RdE
  intro k d n v L e a w h h0 hbase
  have H := Lib.hid h
  have HBS := Lib.hid hbase
  have t1 : (e == 0) = false := by simpa using h0
  clear h hbase
  go_enter Tryd.func73, Tryd.ntmps73
  go_upto_region 2 with (go_at_call 49; refine (blanks_any base b s k d n v L e a _ H.out).mono ?_; rintro r w2 ⟨rfl, h2, hf⟩; have H2 := Lib.hid h2; have HO2 : Hid (Onb b w w2) := Lib.hid hf; clear h2 hf)
  have c1 := H2.out.c1
  have c5 := H2.out.c5
  have c6 := H2.out.c6
  go_wp2
  go_ret
  exact out_err rfl H2.out (onb_below HO2.out H.out.hb HBS.out) _

end Go.Proofs.YtaipldegobjboaaDoor.Ru

namespace Go.Proofs.YtaipldegobjboaaDoor.Ru
open Go.RowKit Go.Proofs.YtaipldegobjboaaDoor

set_option maxRecDepth 100000 in
set_option maxHeartbeats 8000000 in
theorem not_step (base b : Nat) (s : ByteArray) (F d : Nat) (hd : d ≤ 32) (hF : F ≤ s.size) (hno : d + 1 ≤ 32 → Rd base b s F 73 (d + 1) (notP s.size F (d + 1))) (hor : d + 1 ≤ 32 → Rd base b s F 48 (d + 1) (orP s.size F (d + 1))) : Rd base b s (F + 1) 73 d (notP s.size (F + 1) d) := by
  unfold Rd
  intro k n v L w h hn hl hm hbase hv
  have hkb := h.kb
  have HNO := Lib.hid hno
  have HOR := Lib.hid hor
  have H := Lib.hid h
  have HBS := Lib.hid hbase
  have HV := Lib.hid hv
  have HM := Lib.hid hm
  have HL := Lib.hid hl
  have HN := Lib.hid hn
  have HD := Lib.hid hd
  obtain ⟨R, hR⟩ : ∃ R, R = notP s.size (F + 1) d ⟨n, L, rest s k⟩ := ⟨_, rfl⟩
  rw [← hR]
  obtain ⟨k1, hk1⟩ : ∃ k1, k1 = skip s k := ⟨_, rfl⟩
  have HK1 := Lib.hid hk1
  have HRE := Lib.hid hR
  have HBL : Hid (∀ wx, Prs base wx b s k d n v L 0 0 → Calls Tryd.prog 49 #[ptr b] wx fun r w' => r = .returned (.tuple #[]) ∧ Prs base w' b s k1 d n v L 0 0 ∧ Onb b wx w') := Lib.hid (fun wx hx => by rw [hk1]; exact blanks_any base b s k d n v L 0 0 wx hx)
  clear h hno hor hbase hv hl hm hd hk1 hR
  go_enter Tryd.func73, Tryd.ntmps73
  go_upto_region 2 with (go_at_call 49; refine (HBL.out _ H.out).mono ?_; rintro r w2 ⟨rfl, h2, hf⟩; have H2 := Lib.hid h2; have HO2 : Hid (Onb b w w2) := Lib.hid hf; clear h2 hf)
  have c1 := H2.out.c1
  have c5 := H2.out.c5
  have c6 := H2.out.c6
  go_upto_region 5 with fail
  clear c1 c5 c6
  by_cases hdeep : 32 < d + 1
  · have q2 : ¬ ((d : Int) + 1 ≤ 32) := by omega
    have HIE : Hid (decide ((d : Int) + 1 ≤ 32) = false ∧ (if (d : Int) + 1 ≤ 32 then (0 : Int) else 3) = 3 ∧ (if (d : Int) + 1 ≤ 32 then 0 else (k1 : Int)) = (k1 : Int)) := Lib.hid ⟨decide_eq_false q2, if_neg q2, if_neg q2⟩
    have HDP := Lib.hid hdeep
    have HDI : Hid (0 ≤ (d : Int) ∧ (d : Int) ≤ 100) := Lib.hid (by have := HD.out; omega)
    clear q2 hdeep
    cases hq0 : isB s ⟨#[33]⟩ k
    case true =>
      obtain ⟨k2, hk2⟩ : ∃ k2, k2 = isK s ⟨#[33]⟩ k := ⟨_, rfl⟩
      have HI0 : Hid (∀ wx, Prs base wx b s k1 d n v L 0 0 → Calls Tryd.prog 70 #[ptr b, .string ⟨#[33]⟩] wx fun r w' => r = .returned (.bool true) ∧ Prs base w' b s k2 d n v L 0 0 ∧ Onb b wx w') := Lib.hid (fun wx hx => by
        rw [HK1.out] at hx
        have := is_at base b s k d n v L 0 0 ⟨#[33]⟩ wx hkb hx (by decide)
        rw [hq0, ← hk2] at this
        exact this)
      have HRR : Hid (R = .error (3, (k1 : Int))) := Lib.hid (by rw [HRE.out, notP_no hkb hq0, if_pos HDP.out, HK1.out])
      clear hq0 hk2
      go_wp2_with (first | (go_at_call 70; refine (HI0.out _ H2.out).mono ?_; rintro r wi ⟨rfl, hx, hf⟩; have H4 := Lib.hid hx; have HO4 : Hid (Onb b w wi) := Lib.hid (HO2.out.then hf); clear hx hf) | (go_at_call 86; refine (in_any base b s k2 d n v L (k1 : Int) _ H4.out HDI.out).mono ?_; rw [HIE.out.1, HIE.out.2.1, HIE.out.2.2]; rintro r w5 ⟨rfl, hx, hf⟩; have H5 := Lib.hid hx; have HO5 : Hid (Onb b w w5) := Lib.hid (HO4.out.then hf); clear hx hf))
      go_ret
      exact out_err HRR.out H5.out (onb_below HO5.out H.out.hb HBS.out) _
    case false =>
    cases hq1 : isB s ⟨#[40]⟩ k
    case true =>
      obtain ⟨k2, hk2⟩ : ∃ k2, k2 = isK s ⟨#[40]⟩ k := ⟨_, rfl⟩
      have HI0 : Hid (∀ wx, Prs base wx b s k1 d n v L 0 0 → Calls Tryd.prog 70 #[ptr b, .string ⟨#[33]⟩] wx fun r w' => r = .returned (.bool false) ∧ Prs base w' b s k1 d n v L 0 0 ∧ Onb b wx w') := Lib.hid (fun wx hx => by
        rw [HK1.out] at hx
        have := is_at base b s k d n v L 0 0 ⟨#[33]⟩ wx hkb hx (by decide)
        rw [hq0, show isK s ⟨#[33]⟩ k = k1 from by rw [HK1.out]; exact (strip_no hkb hq0).2] at this
        exact this)
      have HI1 : Hid (∀ wx, Prs base wx b s k1 d n v L 0 0 → Calls Tryd.prog 70 #[ptr b, .string ⟨#[40]⟩] wx fun r w' => r = .returned (.bool true) ∧ Prs base w' b s k2 d n v L 0 0 ∧ Onb b wx w') := Lib.hid (fun wx hx => by
        rw [HK1.out] at hx
        have := is_at base b s k d n v L 0 0 ⟨#[40]⟩ wx hkb hx (by decide)
        rw [hq1, ← hk2] at this
        exact this)
      have HRR : Hid (R = .error (3, (k1 : Int))) := Lib.hid (by rw [HRE.out, notP_open hkb hq0 hq1, if_pos HDP.out, HK1.out])
      clear hq0 hq1 hk2
      go_upto_region 12 with ((go_at_call 70; refine (HI0.out _ H2.out).mono ?_; rintro r wi ⟨rfl, hx, hf⟩; have H3 := Lib.hid hx; have HO3 : Hid (Onb b w wi) := Lib.hid (HO2.out.then hf); clear hx hf))
      go_wp2_with (first | (go_at_call 70; refine (HI1.out _ H3.out).mono ?_; rintro r wi ⟨rfl, hx, hf⟩; have H4 := Lib.hid hx; have HO4 : Hid (Onb b w wi) := Lib.hid (HO3.out.then hf); clear hx hf) | (go_at_call 86; refine (in_any base b s k2 d n v L (k1 : Int) _ H4.out HDI.out).mono ?_; rw [HIE.out.1, HIE.out.2.1, HIE.out.2.2]; rintro r w5 ⟨rfl, hx, hf⟩; have H5 := Lib.hid hx; have HO5 : Hid (Onb b w w5) := Lib.hid (HO4.out.then hf); clear hx hf))
      go_ret
      exact out_err HRR.out H5.out (onb_below HO5.out H.out.hb HBS.out) _
    case false =>
    have HI0 : Hid (∀ wx, Prs base wx b s k1 d n v L 0 0 → Calls Tryd.prog 70 #[ptr b, .string ⟨#[33]⟩] wx fun r w' => r = .returned (.bool false) ∧ Prs base w' b s k1 d n v L 0 0 ∧ Onb b wx w') := Lib.hid (fun wx hx => by
      rw [HK1.out] at hx
      have := is_at base b s k d n v L 0 0 ⟨#[33]⟩ wx hkb hx (by decide)
      rw [hq0, show isK s ⟨#[33]⟩ k = k1 from by rw [HK1.out]; exact (strip_no hkb hq0).2] at this
      exact this)
    have HI1 : Hid (∀ wx, Prs base wx b s k1 d n v L 0 0 → Calls Tryd.prog 70 #[ptr b, .string ⟨#[40]⟩] wx fun r w' => r = .returned (.bool false) ∧ Prs base w' b s k1 d n v L 0 0 ∧ Onb b wx w') := Lib.hid (fun wx hx => by
      rw [HK1.out] at hx
      have := is_at base b s k d n v L 0 0 ⟨#[40]⟩ wx hkb hx (by decide)
      rw [hq1, show isK s ⟨#[40]⟩ k = k1 from by rw [HK1.out]; exact (strip_no hkb hq1).2] at this
      exact this)
    have HRR : Hid (R = leafP s.size ⟨n, L, rest s k1⟩) := Lib.hid (by rw [HRE.out, notP_leaf hkb hq0 hq1, HK1.out])
    clear hq0 hq1
    go_upto_region 12 with ((go_at_call 70; refine (HI0.out _ H2.out).mono ?_; rintro r wi ⟨rfl, hx, hf⟩; have H3 := Lib.hid hx; have HO3 : Hid (Onb b w wi) := Lib.hid (HO2.out.then hf); clear hx hf))
    go_upto_region 20 with ((go_at_call 70; refine (HI1.out _ H3.out).mono ?_; rintro r wi ⟨rfl, hx, hf⟩; have H4 := Lib.hid hx; have HO4 : Hid (Onb b w wi) := Lib.hid (HO3.out.then hf); clear hx hf))
    have HB4 : Hid (Below base w wi) := Lib.hid (onb_below HO4.out H.out.hb HBS.out)
    have HC : Hid (Calls Tryd.prog 87 #[ptr b] wi fun r w' => ∃ j : Int, r = .returned (.int .i64 j) ∧ OutS base wi w' b s d (leafP s.size ⟨n, L, rest s k1⟩) j) := Lib.hid ((leaf_any base b s k1 d n v L wi H4.out HN.out (by have := HL.out; have := HN.out; omega) (Nat.le_trans HBS.out HB4.out.size) (HV.out.below HB4.out).1).mono fun r w' hq => out_j hq)
    go_wp2_with (go_at_call 87; refine HC.out.mono ?_; rintro r w5 ⟨j, rfl, hq⟩; have HQ := Lib.hid hq; clear hq)
    go_ret
    rw [HRR.out]
    exact out_trans HB4.out (out_of HQ.out)
  · have q2 : ((d : Int) + 1 ≤ 32) := by omega
    have HIE : Hid (decide ((d : Int) + 1 ≤ 32) = true ∧ (if (d : Int) + 1 ≤ 32 then (0 : Int) else 3) = 0 ∧ (if (d : Int) + 1 ≤ 32 then 0 else (k1 : Int)) = 0) := Lib.hid ⟨decide_eq_true q2, if_pos q2, if_pos q2⟩
    have HDP : Hid (¬ 32 < d + 1) := Lib.hid hdeep
    have HDI : Hid (0 ≤ (d : Int) ∧ (d : Int) ≤ 100) := Lib.hid (by have := HD.out; omega)
    have HD1 : Hid (d + 1 ≤ 32) := Lib.hid (by omega)
    clear q2 hdeep
    cases hq0 : isB s ⟨#[33]⟩ k
    case true =>
      obtain ⟨k2, hk2⟩ : ∃ k2, k2 = isK s ⟨#[33]⟩ k := ⟨_, rfl⟩
      have HI0 : Hid (∀ wx, Prs base wx b s k1 d n v L 0 0 → Calls Tryd.prog 70 #[ptr b, .string ⟨#[33]⟩] wx fun r w' => r = .returned (.bool true) ∧ Prs base w' b s k2 d n v L 0 0 ∧ Onb b wx w') := Lib.hid (fun wx hx => by
        rw [HK1.out] at hx
        have := is_at base b s k d n v L 0 0 ⟨#[33]⟩ wx hkb hx (by decide)
        rw [hq0, ← hk2] at this
        exact this)
      have HFAR := Lib.hid (isK_far hkb hq0)
      rw [← hk2] at HFAR
      have HLP := notP_no (n := n) (F := F) (d := d) (L := L) hkb hq0
      rw [← HRE.out, if_neg HDP.out, ← HK1.out, ← hk2] at HLP
      clear hq0 hk2
      by_cases h64 : 64 < n + 1
      · have q1 : (64 : Int) < (n : Int) + 1 := by omega
        have HCE : Hid ((if 64 < (n : Int) + 1 then (3 : Int) else 0) = 3 ∧ (if 64 < (n : Int) + 1 then (k1 : Int) else 0) = (k1 : Int)) := Lib.hid ⟨if_pos q1, if_pos q1⟩
        have HRR : Hid (R = .error (3, (k1 : Int))) := Lib.hid (by rw [HLP, if_pos h64])
        clear h64 q1 HLP
        go_upto_region 9 with (first | (go_at_call 70; refine (HI0.out _ H2.out).mono ?_; rintro r wi ⟨rfl, hx, hf⟩; have H4 := Lib.hid hx; have HO4 : Hid (Onb b w wi) := Lib.hid (HO2.out.then hf); clear hx hf) | (go_at_call 86; refine (in_any base b s k2 d n v L (k1 : Int) _ H4.out HDI.out).mono ?_; rw [HIE.out.1, HIE.out.2.1, HIE.out.2.2]; rintro r w5 ⟨rfl, hx, hf⟩; have H5 := Lib.hid hx; have HO5 : Hid (Onb b w w5) := Lib.hid (HO4.out.then hf); clear hx hf) | (go_at_call 71; refine (count_any base b s k2 _ n v L (k1 : Int) _ H5.out (by have := HN.out; omega)).mono ?_; rw [HCE.out.1, HCE.out.2]; rintro r w6 ⟨rfl, hx, hf⟩; have H6 := Lib.hid hx; have HO6 : Hid (Onb b w w6) := Lib.hid (HO5.out.then hf); clear hx hf))
        have HB6 : Hid (Below base w w6) := Lib.hid (onb_below HO6.out H.out.hb HBS.out)
        have HZ6 : Hid (base ≤ w6.heap.size) := Lib.hid (Nat.le_trans HBS.out HB6.out.size)
        have HCL : Hid (Calls Tryd.prog 73 #[ptr b] w6 fun r w' => ∃ j : Int, r = .returned (.int .i64 j) ∧ OutS base w6 w' b s 0 (.error (3, (k1 : Int))) j) := Lib.hid ((not_err base b s k2 _ _ v L 3 (k1 : Int) w6 H6.out (by decide) HZ6.out).mono fun r w' hq => out_j hq)
        go_upto_region 10 with (go_at_call 73; refine HCL.out.mono ?_; rintro r w7 ⟨j, rfl, hq⟩; have HQ7 := Lib.hid hq; clear hq)
        obtain ⟨⟨k8, d8, n8, v8, L8, hp8⟩, hb8⟩ := HQ7.out
        (try simp only at hp8)
        have H8 := Lib.hid hp8
        have HB8 : Hid (Below base w w7) := Lib.hid (HB6.out.trans hb8)
        have c2 := hp8.c2
        have f2 := hp8.fr 2
        clear hp8 hb8 HQ7
        go_upto_region 11 with fail
        clear c2 f2
        refine at_hide (F := fun w' => (∃ dd : Int, Prs base w' b s k8 dd n8 v8 L8 3 (k1 : Int)) ∧ Below base w w') ⟨⟨_, H8.out.deep _⟩, HB8.out.setCell (p := ⟨b, 2, none⟩) H.out.hb _⟩ ?_
        intro w9 hF
        obtain ⟨⟨dd, hdd⟩, hbb⟩ := hF
        have H9 := Lib.hid hdd
        have HB9 := Lib.hid hbb
        clear hdd hbb
        go_wp2_with (go_at_call 72; refine (node_bad base b s k8 _ n8 v8 L8 3 (k1 : Int) ⟨7, [], [], 0, j, -1⟩ _ H9.out (by decide)).mono ?_; rintro r wa ⟨rfl, hx, hf⟩; have HA := Lib.hid hx; have HBA : Hid (Below base w wa) := Lib.hid (HB9.out.trans (onb_below hf H.out.hb (Nat.le_trans HBS.out HB9.out.size))); clear hx hf)
        go_ret
        exact out_err HRR.out HA.out HBA.out _
      · have q1 : ¬ (64 : Int) < (n : Int) + 1 := by omega
        have HCE : Hid ((if 64 < (n : Int) + 1 then (3 : Int) else 0) = 0 ∧ (if 64 < (n : Int) + 1 then (k1 : Int) else 0) = 0) := Lib.hid ⟨if_neg q1, if_neg q1⟩
        rw [if_neg h64] at HLP
        have HN1 : Hid (n + 1 ≤ 64) := Lib.hid (by omega)
        clear h64 q1
        go_upto_region 9 with (first | (go_at_call 70; refine (HI0.out _ H2.out).mono ?_; rintro r wi ⟨rfl, hx, hf⟩; have H4 := Lib.hid hx; have HO4 : Hid (Onb b w wi) := Lib.hid (HO2.out.then hf); clear hx hf) | (go_at_call 86; refine (in_any base b s k2 d n v L (k1 : Int) _ H4.out HDI.out).mono ?_; rw [HIE.out.1, HIE.out.2.1, HIE.out.2.2]; rintro r w5 ⟨rfl, hx, hf⟩; have H5 := Lib.hid hx; have HO5 : Hid (Onb b w w5) := Lib.hid (HO4.out.then hf); clear hx hf) | (go_at_call 71; refine (count_any base b s k2 _ n v L (k1 : Int) _ H5.out (by have := HN.out; omega)).mono ?_; rw [HCE.out.1, HCE.out.2]; rintro r w6 ⟨rfl, hx, hf⟩; have H6 := Lib.hid hx; have HO6 : Hid (Onb b w w6) := Lib.hid (HO5.out.then hf); clear hx hf))
        have HB6 : Hid (Below base w w6) := Lib.hid (onb_below HO6.out H.out.hb HBS.out)
        have HZ6 : Hid (base ≤ w6.heap.size) := Lib.hid (Nat.le_trans HBS.out HB6.out.size)
        have HCL : Hid (Calls Tryd.prog 73 #[ptr b] w6 fun r w' => ∃ j : Int, r = .returned (.int .i64 j) ∧ OutS base w6 w' b s ((d + 1 : Nat) : Int) (notP s.size F (d + 1) ⟨n + 1, L, rest s k2⟩) j) := Lib.hid ((HNO.out HD1.out k2 (n + 1) v L w6 (by have := H6.out; push_cast; exact this) HN1.out (by have := HL.out; omega) (by have := HM.out; have := HFAR.out; omega) HZ6.out (HV.out.below HB6.out)).mono fun r w' hq => out_j hq)
        cases hX : notP s.size F (d + 1) ⟨n + 1, L, rest s k2⟩
        case error e =>
          rw [hX] at HCL HLP
          simp only at HLP
          have HE0 : Hid (e.1 ≠ 0) := Lib.hid ((kp_not s.size F (d + 1) HD1.out).err _ _ _ e (by rw [rest_len]; have := HM.out; have := HFAR.out; omega) (by rw [rest_len]; omega) hX)
          have HRR := Lib.hid HLP
          clear HLP hX
          go_upto_region 10 with (go_at_call 73; refine HCL.out.mono ?_; rintro r w7 ⟨j, rfl, hq⟩; have HQ7 := Lib.hid hq; clear hq)
          obtain ⟨⟨k8, d8, n8, v8, L8, hp8⟩, hb8⟩ := HQ7.out
          (try simp only at hp8)
          have H8 := Lib.hid hp8
          have HB8 : Hid (Below base w w7) := Lib.hid (HB6.out.trans hb8)
          have c2 := hp8.c2
          have f2 := hp8.fr 2
          clear hp8 hb8 HQ7
          go_upto_region 11 with fail
          clear c2 f2
          refine at_hide (F := fun w' => (∃ dd : Int, Prs base w' b s k8 dd n8 v8 L8 e.1 e.2) ∧ Below base w w') ⟨⟨_, H8.out.deep _⟩, HB8.out.setCell (p := ⟨b, 2, none⟩) H.out.hb _⟩ ?_
          intro w9 hF
          obtain ⟨⟨dd, hdd⟩, hbb⟩ := hF
          have H9 := Lib.hid hdd
          have HB9 := Lib.hid hbb
          clear hdd hbb
          go_wp2_with (go_at_call 72; refine (node_bad base b s k8 _ n8 v8 L8 e.1 e.2 ⟨7, [], [], 0, j, -1⟩ _ H9.out HE0.out).mono ?_; rintro r wa ⟨rfl, hx, hf⟩; have HA := Lib.hid hx; have HBA : Hid (Below base w wa) := Lib.hid (HB9.out.trans (onb_below hf H.out.hb (Nat.le_trans HBS.out HB9.out.size))); clear hx hf)
          go_ret
          exact out_err HRR.out HA.out HBA.out _
        case ok q =>
          rw [hX] at HCL HLP
          simp only at HLP
          have HCN := Lib.hid ((kp_not s.size F (d + 1) HD1.out).cnt _ _ _ q.1 q.2 hX)
          have HRR := Lib.hid HLP
          clear HLP hX
          go_upto_region 10 with (go_at_call 73; refine HCL.out.mono ?_; rintro r w7 ⟨j, rfl, hq⟩; have HQ7 := Lib.hid hq; clear hq)
          obtain ⟨hj7, ⟨k7, v7, hr7, hp7⟩, hb7⟩ := HQ7.out
          push_cast at hp7
          have HJ := Lib.hid hj7
          have HR7 := Lib.hid hr7
          have H7 := Lib.hid hp7
          have HB7 : Hid (Below base w w7) := Lib.hid (HB6.out.trans hb7)
          have c2 := hp7.c2
          have f2 := hp7.fr 2
          clear hj7 hr7 hp7 hb7 HQ7
          have u1 : IntKind.i64.wrap (d : Int) = (d : Int) := by rw [IntKind.wrap_i64]; have := HD.out; omega
          go_upto_region 11 with fail
          clear c2 f2
          refine at_hide (F := fun w' => Prs base w' b s k7 d q.2.n v7 q.2.L 0 0 ∧ Below base w w') ⟨H7.out.deep _, HB7.out.setCell (p := ⟨b, 2, none⟩) H.out.hb _⟩ ?_
          intro w9 hF
          have H9 := Lib.hid hF.1
          have HB9 := Lib.hid hF.2
          clear hF
          have HZ9 : Hid (base ≤ w9.heap.size) := Lib.hid (Nat.le_trans HBS.out HB9.out.size)
          go_wp2_with (go_at_call 72; refine (node_ok base b s k7 d q.2.n v7 q.2.L ⟨7, [], [], 0, j, -1⟩ _ H9.out (by have := HCN.out; have := HL.out; omega) HZ9.out).mono ?_; rintro r wa ⟨rfl, hx⟩; have HA := Lib.hid hx; clear hx)
          have HBA : Hid (Below base w wa) := Lib.hid (HB9.out.trans (HA.out.below H9.out HZ9.out))
          go_ret
          obtain ⟨v', h6, h7, h8⟩ := HA.out
          exact out_ok (by rw [HRR.out, ← HJ.out, HR7.out]; rfl) h6 HBA.out
    case false =>
    cases hq1 : isB s ⟨#[40]⟩ k
    case true =>
      obtain ⟨k2, hk2⟩ : ∃ k2, k2 = isK s ⟨#[40]⟩ k := ⟨_, rfl⟩
      have HI0 : Hid (∀ wx, Prs base wx b s k1 d n v L 0 0 → Calls Tryd.prog 70 #[ptr b, .string ⟨#[33]⟩] wx fun r w' => r = .returned (.bool false) ∧ Prs base w' b s k1 d n v L 0 0 ∧ Onb b wx w') := Lib.hid (fun wx hx => by
        rw [HK1.out] at hx
        have := is_at base b s k d n v L 0 0 ⟨#[33]⟩ wx hkb hx (by decide)
        rw [hq0, show isK s ⟨#[33]⟩ k = k1 from by rw [HK1.out]; exact (strip_no hkb hq0).2] at this
        exact this)
      have HI1 : Hid (∀ wx, Prs base wx b s k1 d n v L 0 0 → Calls Tryd.prog 70 #[ptr b, .string ⟨#[40]⟩] wx fun r w' => r = .returned (.bool true) ∧ Prs base w' b s k2 d n v L 0 0 ∧ Onb b wx w') := Lib.hid (fun wx hx => by
        rw [HK1.out] at hx
        have := is_at base b s k d n v L 0 0 ⟨#[40]⟩ wx hkb hx (by decide)
        rw [hq1, ← hk2] at this
        exact this)
      have HFAR := Lib.hid (isK_far hkb hq1)
      rw [← hk2] at HFAR
      have HLP := notP_open (n := n) (F := F) (d := d) (L := L) hkb hq0 hq1
      rw [← HRE.out, if_neg HDP.out, ← hk2] at HLP
      clear hq0 hq1 hk2
      go_upto_region 12 with ((go_at_call 70; refine (HI0.out _ H2.out).mono ?_; rintro r wi ⟨rfl, hx, hf⟩; have H3 := Lib.hid hx; have HO3 : Hid (Onb b w wi) := Lib.hid (HO2.out.then hf); clear hx hf))
      go_upto_region 15 with (first | (go_at_call 70; refine (HI1.out _ H3.out).mono ?_; rintro r wi ⟨rfl, hx, hf⟩; have H4 := Lib.hid hx; have HO4 : Hid (Onb b w wi) := Lib.hid (HO3.out.then hf); clear hx hf) | (go_at_call 86; refine (in_any base b s k2 d n v L (k1 : Int) _ H4.out HDI.out).mono ?_; rw [HIE.out.1, HIE.out.2.1, HIE.out.2.2]; rintro r w5 ⟨rfl, hx, hf⟩; have H5 := Lib.hid hx; have HO5 : Hid (Onb b w w5) := Lib.hid (HO4.out.then hf); clear hx hf))
      have HB6 : Hid (Below base w w5) := Lib.hid (onb_below HO5.out H.out.hb HBS.out)
      have HZ6 : Hid (base ≤ w5.heap.size) := Lib.hid (Nat.le_trans HBS.out HB6.out.size)
      have HCL : Hid (Calls Tryd.prog 48 #[ptr b] w5 fun r w' => ∃ j : Int, r = .returned (.int .i64 j) ∧ OutS base w5 w' b s ((d + 1 : Nat) : Int) (orP s.size F (d + 1) ⟨n, L, rest s k2⟩) j) := Lib.hid ((HOR.out HD1.out k2 n v L w5 (by have := H5.out; push_cast; exact this) HN.out HL.out (by have := HM.out; have := HFAR.out; omega) HZ6.out (HV.out.below HB6.out)).mono fun r w' hq => out_j hq)
      cases hX : orP s.size F (d + 1) ⟨n, L, rest s k2⟩
      case error e =>
        rw [hX] at HCL HLP
        simp only at HLP
        have HE0 : Hid (e.1 ≠ 0) := Lib.hid ((kp_or s.size F (d + 1) HD1.out).err _ _ _ e (by rw [rest_len]; have := HM.out; have := HFAR.out; omega) (by rw [rest_len]; omega) hX)
        have HRR := Lib.hid HLP
        clear HLP hX
        go_upto_region 16 with (go_at_call 48; refine HCL.out.mono ?_; rintro r w7 ⟨j, rfl, hq⟩; have HQ7 := Lib.hid hq; clear hq)
        obtain ⟨⟨k8, d8, n8, v8, L8, hp8⟩, hb8⟩ := HQ7.out
        (try simp only at hp8)
        have H8 := Lib.hid hp8
        have HB8 : Hid (Below base w w7) := Lib.hid (HB6.out.trans hb8)
        have c2 := hp8.c2
        have f2 := hp8.fr 2
        clear hp8 hb8 HQ7
        go_upto_region 17 with fail
        clear c2 f2
        refine at_hide (F := fun w' => (∃ dd : Int, Prs base w' b s k8 dd n8 v8 L8 e.1 e.2) ∧ Below base w w') ⟨⟨_, H8.out.deep _⟩, HB8.out.setCell (p := ⟨b, 2, none⟩) H.out.hb _⟩ ?_
        intro w9 hF
        obtain ⟨⟨dd, hdd⟩, hbb⟩ := hF
        have H9 := Lib.hid hdd
        have HB9 := Lib.hid hbb
        clear hdd hbb
        have t1 : (e.1 == 0) = false := by have := HE0.out; simpa using this
        have c5 := H9.out.c5
        have c6 := H9.out.c6
        go_wp2
        go_ret
        exact out_err HRR.out H9.out HB9.out _
      case ok q =>
        rw [hX] at HCL HLP
        simp only at HLP
        clear hX
        go_upto_region 16 with (go_at_call 48; refine HCL.out.mono ?_; rintro r w7 ⟨j, rfl, hq⟩; have HQ7 := Lib.hid hq; clear hq)
        obtain ⟨hj7, ⟨k7, v7, hr7, hp7⟩, hb7⟩ := HQ7.out
        push_cast at hp7
        have HJ := Lib.hid hj7
        rw [hr7] at HLP
        have hkb7 := hp7.kb
        have H7 := Lib.hid hp7
        have HB7 : Hid (Below base w w7) := Lib.hid (HB6.out.trans hb7)
        have c2 := hp7.c2
        have f2 := hp7.fr 2
        clear hj7 hr7 hp7 hb7 HQ7
        have u1 : IntKind.i64.wrap (d : Int) = (d : Int) := by rw [IntKind.wrap_i64]; have := HD.out; omega
        go_upto_region 17 with fail
        clear c2 f2
        refine at_hide (F := fun w' => Prs base w' b s k7 d q.2.n v7 q.2.L 0 0 ∧ Below base w w') ⟨H7.out.deep _, HB7.out.setCell (p := ⟨b, 2, none⟩) H.out.hb _⟩ ?_
        intro w9 hF
        have H9 := Lib.hid hF.1
        have HB9 := Lib.hid hF.2
        clear hF
        have c5 := H9.out.c5
        have c6 := H9.out.c6
        obtain ⟨k3, hk3⟩ : ∃ k3, k3 = isK s ⟨#[41]⟩ k7 := ⟨_, rfl⟩
        cases hq3 : isB s ⟨#[41]⟩ k7
        · have HIZ : Hid (∀ wx, Prs base wx b s k7 d q.2.n v7 q.2.L 0 0 → Calls Tryd.prog 70 #[ptr b, .string ⟨#[41]⟩] wx fun r w' => r = .returned (.bool false) ∧ Prs base w' b s k3 d q.2.n v7 q.2.L 0 0 ∧ Onb b wx w') := Lib.hid (fun wx hx => by
            have := is_any base b s k7 d q.2.n v7 q.2.L 0 0 ⟨#[41]⟩ wx hx (by decide)
            rw [hq3, ← hk3] at this
            exact this)
          have HRR : Hid (R = .error (5, (k3 : Int))) := Lib.hid (by
            obtain ⟨e1, e2⟩ := strip_no hkb7 hq3
            obtain ⟨-, g2, g3, -, -⟩ := skip_is hkb7
            rw [HLP, g3, show strip [41] (rest s (skip s k7)) = none from e1, hk3, e2]
            simp only
            rw [pos_rest g2])
          clear hk3 hq3 HLP
          have HFL : Hid (flt 0 0 5 (k3 : Int) = (5, (k3 : Int))) := Lib.hid (by unfold flt; rw [if_pos ⟨rfl, rfl⟩])
          go_upto_region 18 with (go_at_call 70; refine (HIZ.out _ H9.out).mono ?_; rintro r wa ⟨rfl, hx, hf⟩; have HA := Lib.hid hx; have HBA : Hid (Below base w wa) := Lib.hid (HB9.out.trans (onb_below hf H.out.hb (Nat.le_trans HBS.out HB9.out.size))); clear hx hf)
          have c1 := HA.out.c1
          go_wp2_with (go_at_call 50; refine (fails_any base b s k3 d q.2.n v7 q.2.L 0 0 5 (k3 : Int) _ HA.out).mono ?_; rw [HFL.out]; rintro r wb ⟨rfl, hx, hf⟩; have HX := Lib.hid hx; have HBX : Hid (Below base w wb) := Lib.hid (HBA.out.trans (onb_below hf H.out.hb (Nat.le_trans HBS.out HBA.out.size))); clear hx hf)
          go_ret
          exact out_err HRR.out HX.out HBX.out _
        · have HIZ : Hid (∀ wx, Prs base wx b s k7 d q.2.n v7 q.2.L 0 0 → Calls Tryd.prog 70 #[ptr b, .string ⟨#[41]⟩] wx fun r w' => r = .returned (.bool true) ∧ Prs base w' b s k3 d q.2.n v7 q.2.L 0 0 ∧ Onb b wx w') := Lib.hid (fun wx hx => by
            have := is_any base b s k7 d q.2.n v7 q.2.L 0 0 ⟨#[41]⟩ wx hx (by decide)
            rw [hq3, ← hk3] at this
            exact this)
          have HRR : Hid (R = .ok (q.1, ⟨q.2.n, q.2.L, rest s k3⟩)) := Lib.hid (by
            obtain ⟨e1, e2⟩ := strip_yes hkb7 hq3
            obtain ⟨-, g2, g3, -, -⟩ := skip_is hkb7
            rw [HLP, g3, show strip [41] (rest s (skip s k7)) = _ from e1, hk3])
          clear hk3 hq3 HLP
          go_wp2_with (go_at_call 70; refine (HIZ.out _ H9.out).mono ?_; rintro r wa ⟨rfl, hx, hf⟩; have HA := Lib.hid hx; have HBA : Hid (Below base w wa) := Lib.hid (HB9.out.trans (onb_below hf H.out.hb (Nat.le_trans HBS.out HB9.out.size))); clear hx hf)
          go_ret
          rw [HJ.out]
          exact out_ok HRR.out HA.out HBA.out
    case false =>
    have HI0 : Hid (∀ wx, Prs base wx b s k1 d n v L 0 0 → Calls Tryd.prog 70 #[ptr b, .string ⟨#[33]⟩] wx fun r w' => r = .returned (.bool false) ∧ Prs base w' b s k1 d n v L 0 0 ∧ Onb b wx w') := Lib.hid (fun wx hx => by
      rw [HK1.out] at hx
      have := is_at base b s k d n v L 0 0 ⟨#[33]⟩ wx hkb hx (by decide)
      rw [hq0, show isK s ⟨#[33]⟩ k = k1 from by rw [HK1.out]; exact (strip_no hkb hq0).2] at this
      exact this)
    have HI1 : Hid (∀ wx, Prs base wx b s k1 d n v L 0 0 → Calls Tryd.prog 70 #[ptr b, .string ⟨#[40]⟩] wx fun r w' => r = .returned (.bool false) ∧ Prs base w' b s k1 d n v L 0 0 ∧ Onb b wx w') := Lib.hid (fun wx hx => by
      rw [HK1.out] at hx
      have := is_at base b s k d n v L 0 0 ⟨#[40]⟩ wx hkb hx (by decide)
      rw [hq1, show isK s ⟨#[40]⟩ k = k1 from by rw [HK1.out]; exact (strip_no hkb hq1).2] at this
      exact this)
    have HRR : Hid (R = leafP s.size ⟨n, L, rest s k1⟩) := Lib.hid (by rw [HRE.out, notP_leaf hkb hq0 hq1, HK1.out])
    clear hq0 hq1
    go_upto_region 12 with ((go_at_call 70; refine (HI0.out _ H2.out).mono ?_; rintro r wi ⟨rfl, hx, hf⟩; have H3 := Lib.hid hx; have HO3 : Hid (Onb b w wi) := Lib.hid (HO2.out.then hf); clear hx hf))
    go_upto_region 20 with ((go_at_call 70; refine (HI1.out _ H3.out).mono ?_; rintro r wi ⟨rfl, hx, hf⟩; have H4 := Lib.hid hx; have HO4 : Hid (Onb b w wi) := Lib.hid (HO3.out.then hf); clear hx hf))
    have HB4 : Hid (Below base w wi) := Lib.hid (onb_below HO4.out H.out.hb HBS.out)
    have HC : Hid (Calls Tryd.prog 87 #[ptr b] wi fun r w' => ∃ j : Int, r = .returned (.int .i64 j) ∧ OutS base wi w' b s d (leafP s.size ⟨n, L, rest s k1⟩) j) := Lib.hid ((leaf_any base b s k1 d n v L wi H4.out HN.out (by have := HL.out; have := HN.out; omega) (Nat.le_trans HBS.out HB4.out.size) (HV.out.below HB4.out).1).mono fun r w' hq => out_j hq)
    go_wp2_with (go_at_call 87; refine HC.out.mono ?_; rintro r w5 ⟨j, rfl, hq⟩; have HQ := Lib.hid hq; clear hq)
    go_ret
    rw [HRR.out]
    exact out_trans HB4.out (out_of HQ.out)


theorem not_all (base b : Nat) (s : ByteArray) : ∀ F, F ≤ s.size + 1 → ∀ d, d ≤ 32 → Rd base b s F 73 d (notP s.size F d)
  | 0, _, d, _ => fun k n v L w h hn hl hm => absurd hm (by omega)
  | F + 1, hF, d, hd => by
    have ih := not_all base b s F (by omega)
    refine not_step base b s F d hd (by omega) (fun h => ih (d + 1) h) (fun h => ?_)
    exact or_any base b s F (d + 1) _ (and_any base b s F (d + 1) _ (ih (d + 1) h) (not_err base b s) (kp_not s.size F (d + 1) h)) (and_err base b s (not_err base b s)) (kp_and s.size F (d + 1) h (by omega))
theorem or_all (base b : Nat) (s : ByteArray) : Rd base b s (s.size + 1) 48 0 (orP s.size (s.size + 1) 0) :=
  or_any base b s (s.size + 1) 0 _ (and_any base b s (s.size + 1) 0 _ (not_all base b s (s.size + 1) (Nat.le_refl _) 0 (by omega)) (not_err base b s) (kp_not s.size (s.size + 1) 0 (by omega))) (and_err base b s (not_err base b s)) (kp_and s.size (s.size + 1) 0 (by omega) (by omega))
end Go.Proofs.YtaipldegobjboaaDoor.Ru
