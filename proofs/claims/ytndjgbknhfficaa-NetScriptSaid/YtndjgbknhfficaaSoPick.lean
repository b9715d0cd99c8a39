/- SoPick. -/
import Derived.Test.YtndjgbknhfficaaSoHeap
namespace Go.Proofs.Ytndjgbknhfficaa.So
open Go.RowKit Go.Sort Go.Proofs.Ytndjgbknhfficaa

/-- the row, and the count of swaps in a block of the call's own -/
structure Sw (w0 : World) (g off N : Nat) (Y Z : List Value) (w : World) (d : Array Int) (S s : Nat) : Prop where
  ar : Ar w0 g off N Y Z w d
  sb : Blk w S [.int .i64 (s : Int)] 3
  hi : w0.heap.size ≤ S
  ne : S ≠ g
section
variable {w0 w : World} {g off N : Nat} {Y Z : List Value} {d : Array Int} {S s : Nat}
theorem Sw.draw (h : Sw w0 g off N Y Z w d S s) (n : Nat) : Sw w0 g off N Y Z (w.drewN n) d S s := ⟨h.ar.draw n, h.sb.kept (below_drewN n), h.hi, h.ne⟩
theorem Sw.put (h : Sw w0 g off N Y Z w d S s) (x : Nat) : Sw w0 g off N Y Z (w.setCell ⟨S, 0, none⟩ (.int .i64 (x : Int))) d S x := by
  refine ⟨⟨h.ar.sz, h.ar.ofs, h.ar.blk.other (by exact fun e => h.ne e.symm) _, ?_⟩, h.sb.set 0 _, h.hi, h.ne⟩
  exact h.ar.fr.trans ((Fr.refl [S] w).set (by simp) _) (by intro x hx; simp at hx; subst hx; exact .inr h.hi)
end

set_option maxRecDepth 100000 in
set_option maxHeartbeats 8000000 in
theorem order2_any {w0 : World} {g off N : Nat} {Y Z : List Value} {d : Array Int} {w : World} {S s : Nat} (cap a b : Nat) (h : Sw w0 g off N Y Z w d S s) (ha : a < N) (hb : b < N) (hN : N < 4611686018427387904) (hs : s < 1000) :
    Calls Try.prog 67 #[.slice (some ⟨g, off, none⟩) N cap, .int .i64 a, .int .i64 b, ptr S] w fun e w' => e = .returned (.tuple #[.int .i64 ((order2 ltInt d a b s).1 : Int), .int .i64 ((order2 ltInt d a b s).2.1 : Int)]) ∧ Sw w0 g off N Y Z w' d S (order2 ltInt d a b s).2.2 := by
  have H0 := Lib.hid h
  clear h
  obtain ⟨G, hG⟩ : ∃ G : Nat → Int, ∀ t, G t = d[t]! := ⟨fun t => d[t]!, fun _ => rfl⟩
  have HG := Lib.hid hG
  clear hG
  have hc : ∀ t, t < N → w.cell? ⟨g, off + t, none⟩ = some (.int .u64 (G t)) := fun t ht => by rw [HG.out]; exact H0.out.ar.cell ht
  have hf : ∀ t, t < N → w.frozen? ⟨g, off + t, none⟩ = false := fun t _ => H0.out.ar.free t
  have c9 := H0.out.sb.cell (j := 0) rfl
  have f9 := H0.out.sb.free 0
  go_enter Try.func67, Try.ntmps67
  go_wp2_with fail
  go_big_quiet (first | (go_at_call 56; refine Calls.quiet_of_same (less_any _ _ _)))
  go_wp2_with fail
  · have hl : ltInt (G b) (G a) = true := by assumption
    have hl2 : ltInt d[b]! d[a]! = true := by rw [← HG.out, ← HG.out]; exact hl
    go_ret2
    unfold order2
    rw [if_pos hl2]
    refine ⟨rfl, ?_⟩
    have h9 := (H0.out.draw nq).put (s + 1)
    exact h9
  · have hl : ltInt (G b) (G a) = false := by assumption
    have hl2 : ¬ ltInt d[b]! d[a]! = true := by rw [← HG.out, ← HG.out, hl]; decide
    go_ret2
    unfold order2
    rw [if_neg hl2]
    exact ⟨rfl, H0.out.draw nq⟩

theorem o2_cases (d : Array Int) (a b s : Nat) : (order2 ltInt d a b s = (b, a, s + 1)) ∨ (order2 ltInt d a b s = (a, b, s)) := by
  unfold order2
  split
  · exact .inl rfl
  · exact .inr rfl

set_option maxRecDepth 100000 in
set_option maxHeartbeats 8000000 in
theorem median_any {w0 : World} {g off N : Nat} {Y Z : List Value} {d : Array Int} {w : World} {S s : Nat} (cap a b c : Nat) (h : Sw w0 g off N Y Z w d S s) (ha : a < N) (hb : b < N) (hc : c < N) (hN : N < 4611686018427387904) (hs : s < 900) :
    Calls Try.prog 65 #[.slice (some ⟨g, off, none⟩) N cap, .int .i64 a, .int .i64 b, .int .i64 c, ptr S] w fun e w' => e = .returned (.int .i64 ((median ltInt d a b c s).1 : Int)) ∧ Sw w0 g off N Y Z w' d S (median ltInt d a b c s).2 := by
  have HO := Lib.hid (fun (x : World) (i j u : Nat) (hx : Sw w0 g off N Y Z x d S u) (hi : i < N) (hj : j < N) (hu : u < 1000) => order2_any cap i j hx hi hj hN hu)
  have H0 := Lib.hid h
  clear h
  obtain ⟨M, hM⟩ : ∃ M, median ltInt d a b c s = M := ⟨_, rfl⟩
  rw [hM]
  obtain ⟨r1, h1⟩ : ∃ r, r = order2 ltInt d a b s := ⟨_, rfl⟩
  have k1 : r1.1 < N ∧ r1.2.1 < N ∧ r1.2.2 < s + 2 := by rw [h1]; rcases o2_cases d a b s with e | e <;> rw [e] <;> exact ⟨by assumption, by assumption, by simp⟩
  obtain ⟨r2, h2⟩ : ∃ r, r = order2 ltInt d r1.2.1 c r1.2.2 := ⟨_, rfl⟩
  have k2 : r2.1 < N ∧ r2.2.1 < N ∧ r2.2.2 < r1.2.2 + 2 := by rw [h2]; rcases o2_cases d r1.2.1 c r1.2.2 with e | e <;> rw [e] <;> exact ⟨by first | assumption | exact k1.2.1, by first | assumption | exact k1.2.1, by simp⟩
  have h3 : (order2 ltInt d r1.1 r2.1 r2.2.2).2 = M := by rw [← hM]; unfold median; simp only [← h1, ← h2]
  have HC1 := Lib.hid (HO.out w a b s H0.out ha hb (by omega))
  rw [← h1] at HC1
  have HC2 := Lib.hid (fun (x : World) (hx : Sw w0 g off N Y Z x d S r1.2.2) => HO.out x r1.2.1 c r1.2.2 hx k1.2.1 hc (by omega))
  rw [← h2] at HC2
  have HC3 := Lib.hid (fun (x : World) (hx : Sw w0 g off N Y Z x d S r2.2.2) => HO.out x r1.1 r2.1 r2.2.2 hx k1.1 k2.1 (by omega))
  simp only [h3] at HC3
  clear h1 h2 h3 hM k1 k2
  obtain ⟨x1, y1, s1⟩ := r1
  obtain ⟨x2, y2, s2⟩ := r2
  obtain ⟨m1, m2⟩ := M
  simp only at HC1 HC2 HC3 ⊢
  go_enter Try.func65, Try.ntmps65
  go_wp2_with (first | (go_at_call 67; refine HC1.out.mono ?_; rintro e w1 ⟨rfl, hw⟩; have HW1 := Lib.hid hw; clear hw HC1) | (go_at_call 67; refine (HC2.out _ HW1.out).mono ?_; rintro e w2 ⟨rfl, hw⟩; have HW2 := Lib.hid hw; clear hw HC2 HW1) | (go_at_call 67; refine (HC3.out _ HW2.out).mono ?_; rintro e w3 ⟨rfl, hw⟩; have HW3 := Lib.hid hw; clear hw HC3 HW2))
  go_ret
  exact ⟨rfl, HW3.out⟩

set_option maxRecDepth 100000 in
set_option maxHeartbeats 8000000 in
theorem medadj_any {w0 : World} {g off N : Nat} {Y Z : List Value} {d : Array Int} {w : World} {S s : Nat} (cap a : Nat) (h : Sw w0 g off N Y Z w d S s) (ha0 : 1 ≤ a) (ha : a + 1 < N) (hN : N < 4611686018427387904) (hs : s < 900) :
    Calls Try.prog 64 #[.slice (some ⟨g, off, none⟩) N cap, .int .i64 a, ptr S] w fun e w' => e = .returned (.int .i64 ((medianAdjacent ltInt d a s).1 : Int)) ∧ Sw w0 g off N Y Z w' d S (medianAdjacent ltInt d a s).2 := by
  obtain ⟨k, rfl⟩ : ∃ k, a = k + 1 := ⟨a - 1, by omega⟩
  have HM := Lib.hid (median_any cap k (k + 1) (k + 1 + 1) h (by omega) (by omega) (by omega) hN hs)
  have e9 : medianAdjacent ltInt d (k + 1) s = median ltInt d k (k + 1) (k + 1 + 1) s := rfl
  rw [e9]
  clear h e9
  obtain ⟨M, hM⟩ : ∃ M, median ltInt d k (k + 1) (k + 1 + 1) s = M := ⟨_, rfl⟩
  rw [hM] at HM ⊢
  clear hM
  go_enter Try.func64, Try.ntmps64
  go_wp2_with (go_at_call 65; refine HM.out.mono ?_; rintro e w1 ⟨rfl, hw⟩; have HW1 := Lib.hid hw; clear hw HM)
  go_ret
  exact ⟨rfl, HW1.out⟩

def hintN : Hint → Int | .unknown => 0 | .increasing => 1 | .decreasing => 2
def hintS (s : Nat) : Hint := if s = 0 then .increasing else if s = 12 then .decreasing else .unknown
theorem choose_small {d : Array Int} {a b : Nat} (h : 12 < b - a) (h5 : ¬ 50 ≤ b - a) : choosePivot ltInt d a b = ((median ltInt d (a + (b - a) / 4) (a + (b - a) / 4 * 2) (a + (b - a) / 4 * 3) 0).1, hintS (median ltInt d (a + (b - a) / 4) (a + (b - a) / 4 * 2) (a + (b - a) / 4 * 3) 0).2) := by
  unfold choosePivot
  simp only [show b - a ≥ 8 by omega, if_true, show ¬ b - a ≥ 50 by omega, if_false, Nat.mul_one]
  rfl
theorem choose_great {d : Array Int} {a b : Nat} (h5 : 50 ≤ b - a) {r1 r2 r3 r : Nat × Nat} (h1 : medianAdjacent ltInt d (a + (b - a) / 4) 0 = r1) (h2 : medianAdjacent ltInt d (a + (b - a) / 4 * 2) r1.2 = r2) (h3 : medianAdjacent ltInt d (a + (b - a) / 4 * 3) r2.2 = r3) (h4 : median ltInt d r1.1 r2.1 r3.1 r3.2 = r) : choosePivot ltInt d a b = (r.1, hintS r.2) := by
  subst h4 h3 h2 h1
  unfold choosePivot
  simp only [show b - a ≥ 8 by omega, if_true, show b - a ≥ 50 by omega, Nat.mul_one]
  rfl
theorem med_bound (d : Array Int) (a b c s : Nat) : ((median ltInt d a b c s).1 = a ∨ (median ltInt d a b c s).1 = b ∨ (median ltInt d a b c s).1 = c) ∧ (median ltInt d a b c s).2 ≤ s + 3 := by
  refine ⟨median_mem ltInt d a b c s, ?_⟩
  unfold median
  simp only
  rcases o2_cases d a b s with e | e <;> rw [e] <;> simp only
  all_goals
    generalize hq : order2 ltInt d _ c _ = q
    first
      | (rcases o2_cases d a c (s + 1) with f | f <;> rw [hq] at f <;> subst f)
      | (rcases o2_cases d b c s with f | f <;> rw [hq] at f <;> subst f)
    all_goals
      simp only
      generalize hp : order2 ltInt d _ _ _ = p
      revert hp
      unfold order2
      split <;> intro hp <;> rw [← hp] <;> simp only <;> omega
theorem Sw.made {w0 w : World} {g off N : Nat} {Y Z : List Value} {d : Array Int} (h : Ar w0 g off N Y Z w d) : Sw w0 g off N Y Z (w.alloc (.cells #[.int .i64 0] 3)) d w.heap.size 0 :=
  ⟨h.below (below_alloc _ _), Blk.made w [.int .i64 ((0 : Nat) : Int)] _, h.fr.size, by have := h.blk.lt; omega⟩

set_option maxRecDepth 100000 in
set_option maxHeartbeats 8000000 in
theorem choose_any {w0 : World} {g off N : Nat} {Y Z : List Value} {d : Array Int} {w : World} (cap a b : Nat) (h : Ar w0 g off N Y Z w (d)) (hab : 12 < b - a) (hb : b ≤ N) (hN : N < 4611686018427387904) :
    Calls Try.prog 53 #[.slice (some ⟨g, off, none⟩) N cap, .int .i64 a, .int .i64 b] w fun e w' => e = .returned (.tuple #[.int .i64 ((choosePivot ltInt d a b).1 : Int), .int .i64 (hintN (choosePivot ltInt d a b).2)]) ∧ Ar w0 g off N Y Z w' (d) := by
  have HM := Lib.hid (fun (x : World) (i j k u : Nat) (hx : Sw w0 g off N Y Z x d w.heap.size u) (hi : i < N) (hj : j < N) (hk : k < N) (hu : u < 900) => median_any cap i j k hx hi hj hk hN hu)
  have HA := Lib.hid (fun (x : World) (i u : Nat) (hx : Sw w0 g off N Y Z x d w.heap.size u) (hi : 1 ≤ i) (hj : i + 1 < N) (hu : u < 900) => medadj_any cap i hx hi hj hN hu)
  have H0 := Lib.hid (Sw.made h)
  clear h
  obtain ⟨l, hl⟩ : ∃ l, l = b - a := ⟨_, rfl⟩
  obtain ⟨q, hq⟩ : ∃ q, q = l / 4 := ⟨_, rfl⟩
  obtain ⟨i, hi⟩ : ∃ i, i = a + q := ⟨_, rfl⟩
  obtain ⟨j, hj⟩ : ∃ j, j = a + q * 2 := ⟨_, rfl⟩
  obtain ⟨k, hk⟩ : ∃ k, k = a + q * 3 := ⟨_, rfl⟩
  have hiN : 1 ≤ i ∧ i + 1 < N := by omega
  have hjN : 1 ≤ j ∧ j + 1 < N := by omega
  have hkN : 1 ≤ k ∧ k + 1 < N := by omega
  obtain ⟨S, hS⟩ : ∃ S, S = w.heap.size := ⟨_, rfl⟩
  rw [← hS] at HM HA H0
  have e1 : (b : Int) - (a : Int) = (l : Int) := by omega
  have e2 : (l : Int).tdiv 4 = (q : Int) := by rw [hq, Int.tdiv_eq_ediv_of_nonneg (by omega)]; omega
  have e3 : (a : Int) + (q : Int) = (i : Int) := by omega
  have e4 : (a : Int) + (q : Int) * 2 = (j : Int) := by omega
  have e5 : (a : Int) + (q : Int) * 3 = (k : Int) := by omega
  have t1 : (8 : Int) ≤ (l : Int) := by omega
  by_cases h50 : 50 ≤ l
  rotate_left
  · have t2 : ¬ (50 : Int) ≤ (l : Int) := by omega
    obtain ⟨M, hM⟩ : ∃ M, median ltInt d i j k 0 = M := ⟨_, rfl⟩
    have HC := Lib.hid (HM.out _ i j k 0 H0.out (by omega) (by omega) (by omega) (by omega))
    rw [hM] at HC
    have HP : Hid (choosePivot ltInt d a b = (M.1, hintS M.2)) := Lib.hid (by rw [choose_small hab (by omega), ← hl, ← hq, ← hi, ← hj, ← hk, hM])
    have hu : M.2 ≤ 3 := by rw [← hM]; exact (med_bound d i j k 0).2
    clear hl hq hi hj hk hM HM HA
    obtain ⟨p, u⟩ := M
    simp only at HC HP hu
    rw [HP.out]
    obtain ⟨hv, hhv⟩ : ∃ hv, hv = hintN (hintS u) := ⟨_, rfl⟩
    simp only [← hhv]
    have HV := Lib.hid hhv
    clear HP hhv
    go_enter Try.func53, Try.ntmps53
    go_wp2_with fail
    rw [← hS]
    refine HC.out.mono ?_
    rintro e w4 ⟨rfl, hw⟩
    have HW := Lib.hid hw
    clear hw HC hS
    have c9 := HW.out.sb.cell (j := 0) rfl
    by_cases h0 : u = 0
    · have z0 : ((u : Int) == 0) = true := by simp; omega
      go_wp2
      go_ret2
      exact ⟨by rw [HV.out, h0]; rfl, HW.out.ar⟩
    have z0 : ((u : Int) == 0) = false := by simp; omega
    by_cases h12 : u = 12
    · have z1 : ((u : Int) == 12) = true := by simp; omega
      go_wp2
      go_ret2
      exact ⟨by rw [HV.out, h12]; rfl, HW.out.ar⟩
    have z1 : ((u : Int) == 12) = false := by simp; omega
    have hh : hintS u = Hint.unknown := by unfold hintS; rw [if_neg h0, if_neg h12]
    go_wp2
    go_ret2
    exact ⟨by rw [HV.out, hh]; rfl, HW.out.ar⟩
  · have t2 : (50 : Int) ≤ (l : Int) := by omega
    obtain ⟨M1, hM1⟩ : ∃ M, medianAdjacent ltInt d i 0 = M := ⟨_, rfl⟩
    obtain ⟨M2, hM2⟩ : ∃ M, medianAdjacent ltInt d j M1.2 = M := ⟨_, rfl⟩
    obtain ⟨M3, hM3⟩ : ∃ M, medianAdjacent ltInt d k M2.2 = M := ⟨_, rfl⟩
    obtain ⟨M4, hM4⟩ : ∃ M, median ltInt d M1.1 M2.1 M3.1 M3.2 = M := ⟨_, rfl⟩
    have b1 : M1.1 < N ∧ M1.2 ≤ 3 := by
      rw [← hM1]; have h9 := med_bound d (i - 1) i (i + 1) 0; unfold medianAdjacent; omega
    have b2 : M2.1 < N ∧ M2.2 ≤ 6 := by
      rw [← hM2]; have h9 := med_bound d (j - 1) j (j + 1) M1.2; unfold medianAdjacent; omega
    have b3 : M3.1 < N ∧ M3.2 ≤ 9 := by
      rw [← hM3]; have h9 := med_bound d (k - 1) k (k + 1) M2.2; unfold medianAdjacent; omega
    have hu : M4.2 ≤ 12 := by
      rw [← hM4]; have h9 := med_bound d M1.1 M2.1 M3.1 M3.2; omega
    have HP : Hid (choosePivot ltInt d a b = (M4.1, hintS M4.2)) := Lib.hid (choose_great (by omega) (by rw [← hl, ← hq, ← hi]; exact hM1) (by rw [← hl, ← hq, ← hj]; exact hM2) (by rw [← hl, ← hq, ← hk]; exact hM3) hM4)
    have HC1 := Lib.hid (HA.out _ i 0 H0.out hiN.1 hiN.2 (by omega))
    rw [hM1] at HC1
    have HC2 := Lib.hid (fun (x : World) (hx : Sw w0 g off N Y Z x d S M1.2) => HA.out x j M1.2 hx hjN.1 hjN.2 (by omega))
    rw [hM2] at HC2
    have HC3 := Lib.hid (fun (x : World) (hx : Sw w0 g off N Y Z x d S M2.2) => HA.out x k M2.2 hx hkN.1 hkN.2 (by omega))
    rw [hM3] at HC3
    have HC4 := Lib.hid (fun (x : World) (hx : Sw w0 g off N Y Z x d S M3.2) => HM.out x M1.1 M2.1 M3.1 M3.2 hx b1.1 b2.1 b3.1 (by omega))
    rw [hM4] at HC4
    clear hl hq hi hj hk hM1 hM2 hM3 hM4 HM HA b1 b2 b3
    obtain ⟨p1, u1⟩ := M1
    obtain ⟨p2, u2⟩ := M2
    obtain ⟨p3, u3⟩ := M3
    obtain ⟨p, u⟩ := M4
    simp only at HC1 HC2 HC3 HC4 HP hu
    rw [HP.out]
    obtain ⟨hv, hhv⟩ : ∃ hv, hv = hintN (hintS u) := ⟨_, rfl⟩
    simp only [← hhv]
    have HV := Lib.hid hhv
    clear HP hhv
    go_enter Try.func53, Try.ntmps53
    go_wp2_with fail
    rw [← hS]
    refine HC1.out.mono ?_
    rintro e w1 ⟨rfl, hw⟩
    have HW1 := Lib.hid hw
    clear hw HC1 hS
    go_wp2_with fail
    refine (HC2.out _ HW1.out).mono ?_
    rintro e w2 ⟨rfl, hw⟩
    have HW2 := Lib.hid hw
    clear hw HC2 HW1
    go_wp2_with fail
    refine (HC3.out _ HW2.out).mono ?_
    rintro e w3 ⟨rfl, hw⟩
    have HW3 := Lib.hid hw
    clear hw HC3 HW2
    go_wp2_with fail
    refine (HC4.out _ HW3.out).mono ?_
    rintro e w4 ⟨rfl, hw⟩
    have HW := Lib.hid hw
    clear hw HC4 HW3
    have c9 := HW.out.sb.cell (j := 0) rfl
    by_cases h0 : u = 0
    · have z0 : ((u : Int) == 0) = true := by simp; omega
      go_wp2
      go_ret2
      exact ⟨by rw [HV.out, h0]; rfl, HW.out.ar⟩
    have z0 : ((u : Int) == 0) = false := by simp; omega
    by_cases h12 : u = 12
    · have z1 : ((u : Int) == 12) = true := by simp; omega
      go_wp2
      go_ret2
      exact ⟨by rw [HV.out, h12]; rfl, HW.out.ar⟩
    have z1 : ((u : Int) == 12) = false := by simp; omega
    have hh : hintS u = Hint.unknown := by unfold hintS; rw [if_neg h0, if_neg h12]
    go_wp2
    go_ret2
    exact ⟨by rw [HV.out, hh]; rfl, HW.out.ar⟩
end Go.Proofs.Ytndjgbknhfficaa.So
