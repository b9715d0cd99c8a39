/- SoBreak. -/
import Derived.Test.YtndjgbknhfficaaSoHeap
import Derived.Test.YtndjgbknhfficaaShelf
import Derived.Sort.LotD5
import Derived.Sort.Row
import Derived.Laws.Bits64
import Derived.Laws.Bits64b
namespace Go.Proofs.Ytndjgbknhfficaa.So
open Go.RowKit Go.Sort Go.Proofs.Ytndjgbknhfficaa

/-- the row, and the generator's number in a block of the call's own -/
structure Rn (w0 : World) (g off N : Nat) (Y Z : List Value) (w : World) (d : Array Int) (S R : Nat) : Prop where
  ar : Ar w0 g off N Y Z w d
  sb : Blk w S [.int .u64 (R : Int)] 91
  hi : w0.heap.size ≤ S
  ne : S ≠ g
section
variable {w0 w : World} {g off N : Nat} {Y Z : List Value} {d : Array Int} {S R : Nat}
theorem Rn.draw (h : Rn w0 g off N Y Z w d S R) (n : Nat) : Rn w0 g off N Y Z (w.drewN n) d S R := ⟨h.ar.draw n, h.sb.kept (below_drewN n), h.hi, h.ne⟩
theorem Rn.put (h : Rn w0 g off N Y Z w d S R) (x : Nat) : Rn w0 g off N Y Z (w.setCell ⟨S, 0, none⟩ (.int .u64 (x : Int))) d S x := by
  refine ⟨⟨h.ar.sz, h.ar.ofs, h.ar.blk.other (by exact fun e => h.ne e.symm) _, ?_⟩, h.sb.set 0 _, h.hi, h.ne⟩
  exact h.ar.fr.trans ((Fr.refl [S] w).set (by simp) _) (by intro x hx; simp at hx; subst hx; exact .inr h.hi)
theorem Rn.swp (h : Rn w0 g off N Y Z w d S R) {i j : Nat} (hi : i < N) (hj : j < N) : Rn w0 g off N Y Z ((w.setCell ⟨g, off + i, none⟩ (.int .u64 d[j]!)).setCell ⟨g, off + j, none⟩ (.int .u64 d[i]!)).drew (Go.Sort.swp d i j) S R :=
  ⟨(h.ar.swp hi hj).drew, ((h.sb.other (by exact h.ne) _).other (by exact h.ne) _).kept (below_drewN 1), h.hi, h.ne⟩
theorem Rn.made (h : Ar w0 g off N Y Z w d) (R : Nat) : Rn w0 g off N Y Z (w.alloc (.cells #[.int .u64 (R : Int)] 91)) d w.heap.size R :=
  ⟨h.below (below_alloc _ _), Blk.made w [.int .u64 (R : Int)] _, h.fr.size, by have := h.blk.lt; omega⟩
end
theorem set_set (w : World) (b : Nat) (u v : Value) : (w.setCell ⟨b, 0, none⟩ u).setCell ⟨b, 0, none⟩ v = w.setCell ⟨b, 0, none⟩ v := by
  rw [setCell_eq, setCell_eq, mapBlock_mapBlock, setCell_eq]
  congr 1
  funext c
  simp
theorem len_eq (x : Nat) (h : x < 2 ^ 64) : Lib.bitLen x = bitsLen x := by
  induction x using Nat.strongRecOn with
  | _ x ih =>
    by_cases h0 : x = 0
    · subst h0
      rfl
    · rw [Lib.bitLen_half x h0 h, ih (x / 2) (by omega) (by omega)]
      unfold bitsLen
      rw [if_neg h0, Nat.log2_def x]
      by_cases h2 : 2 ≤ x
      · rw [if_pos h2, if_neg (by omega)]
        omega
      · have : x = 1 := by omega
        subst this
        simp
theorem pow_wrap (k : Nat) (hk : k ≤ 62) : IntKind.u64.wrap ((2 : Int) ^ k) = ((1 <<< k : Nat) : Int) := by
  have h : (2 : Nat) ^ k ≤ 2 ^ 62 := Nat.pow_le_pow_right (by decide) hk
  rw [IntKind.wrap_u64, Nat.one_shiftLeft, show ((2 : Int) ^ k) = ((2 ^ k : Nat) : Int) by push_cast; rfl]
  generalize (2 : Nat) ^ k = p at h
  omega
section
variable {α : Type} [Inhabited α]
/-- what the rounds left make of it -/
def bpR (a l M i0 : Nat) : Nat → Nat → UInt64 × Array α → Array α
  | 0, _, st => st.2
  | k + 1, t, st => bpR a l M i0 k (t + 1) (breakStep a l M st (i0 + t))
theorem bp_eq (d : Array α) (a b l : Nat) (hl : l = b - a) (h8 : 8 ≤ l) : breakPatterns d a b = bpR a l (1 <<< bitsLen l) (a + l / 4 * 2 - 1) 3 0 (UInt64.ofNat l, d) := by
  subst hl
  unfold breakPatterns
  simp only
  rw [if_pos h8]
  rfl
theorem bp_go (a l M i0 k t : Nat) (r : UInt64) (d : Array α) (o : Nat) (ho : (if (xorNext r).toNat &&& (M - 1) ≥ l then ((xorNext r).toNat &&& (M - 1)) - l else (xorNext r).toNat &&& (M - 1)) = o) : bpR a l M i0 (k + 1) t (r, d) = bpR a l M i0 k (t + 1) (xorNext r, swp d (i0 + t) (a + o)) := by
  rw [bpR]
  unfold breakStep
  simp only [ho]
end

set_option maxRecDepth 100000 in
set_option maxHeartbeats 8000000 in
theorem next_any {w0 : World} {g off N : Nat} {Y Z : List Value} {d : Array Int} {w : World} {S X : Nat} (h : Rn w0 g off N Y Z w (d) S (X)) (hX : X < 18446744073709551616) :
    Calls Try.prog 63 #[ptr S] w fun e w' => e = .returned (.int .u64 ((xorNextN X : Nat) : Int)) ∧ Rn w0 g off N Y Z w' (d) S (xorNextN X) := by
  have H0 := Lib.hid h
  have hc := h.sb.cell (j := 0) rfl
  have hf := h.sb.free 0
  obtain ⟨A, hA⟩ : ∃ A : Nat, A = X ^^^ (X * 8192 % 18446744073709551616) := ⟨_, rfl⟩
  obtain ⟨B, hB⟩ : ∃ B : Nat, B = A ^^^ (A / 128) := ⟨_, rfl⟩
  obtain ⟨C, hC⟩ : ∃ C : Nat, C = B ^^^ (B * 131072 % 18446744073709551616) := ⟨_, rfl⟩
  have lA : A < 18446744073709551616 := by rw [hA]; exact Nat.xor_lt_two_pow (n := 64) (by omega) (by omega)
  have lB : B < 18446744073709551616 := by rw [hB]; exact Nat.xor_lt_two_pow (n := 64) (by omega) (by omega)
  have e1 : bits .xor .u64 (X : Int) (IntKind.u64.wrap ((X : Int) * 8192)) = (A : Int) := by
    rw [IntKind.wrap_u64, show ((X : Int) * 8192 % 18446744073709551616) = ((X * 8192 % 18446744073709551616 : Nat) : Int) by omega, bits_xor_u64_nat _ _ hX (by omega), hA]
  have e2 : bits .xor .u64 (A : Int) ((A : Int) / 128) = (B : Int) := by
    rw [show ((A : Int) / 128) = ((A / 128 : Nat) : Int) by omega, bits_xor_u64_nat _ _ lA (by omega), hB]
  have e3 : bits .xor .u64 (B : Int) (IntKind.u64.wrap ((B : Int) * 131072)) = (C : Int) := by
    rw [IntKind.wrap_u64, show ((B : Int) * 131072 % 18446744073709551616) = ((B * 131072 % 18446744073709551616 : Nat) : Int) by omega, bits_xor_u64_nat _ _ lB (by omega), hC]
  have hv : xorNextN X = C := by
    unfold xorNextN
    simp only
    rw [← hA, ← hB, ← hC]
  rw [hv]
  clear hA hB hC hv h
  have hss : ∀ u v, (w.setCell ⟨S, 0, none⟩ u).setCell ⟨S, 0, none⟩ v = w.setCell ⟨S, 0, none⟩ v := set_set w S
  go_enter Try.func63, Try.ntmps63
  go_wp2
  go_region
  all_goals go_wp2
  all_goals go_region
  all_goals go_wp2
  all_goals go_region
  all_goals go_wp2
  go_ret
  refine ⟨rfl, ?_⟩
  exact (H0.out.put C).draw 3
set_option maxRecDepth 100000 in
set_option maxHeartbeats 8000000 in
theorem blen_any (n : Nat) (hn : n < 4611686018427387904) (w : World) : Calls Try.prog 49 #[.int .u64 (n : Int)] w fun e w' => e = .returned (.int .i64 ((bitsLen n : Nat) : Int)) ∧ w' = w := by
  have HL : Hid (∀ w, Calls Try.prog 60 #[.int .u64 (n : Int)] w fun e w' => e = .returned (.int .i64 ((bitsLen n : Nat) : Int)) ∧ w' = w) := Lib.hid (fun w => by
    have h := Try.bits_Len64 (n : Int) w (by omega) (by omega)
    rwa [Int.toNat_natCast, len_eq _ (by omega)] at h)
  have hk : bitsLen n ≤ 62 := (bitsLen_le_iff n 62).2 (by omega)
  go_enter Try.func49, Try.ntmps49
  go_wp2_with (go_at_call 60; refine (HL.out _).mono ?_; rintro e w' ⟨rfl, rfl⟩)
  go_ret
  exact ⟨rfl, rfl⟩
set_option maxRecDepth 100000 in
set_option maxHeartbeats 8000000 in
theorem npow_any (n : Nat) (hn : n < 4611686018427387904) (w : World) : Calls Try.prog 62 #[.int .i64 (n : Int)] w fun e w' => e = .returned (.int .u64 ((1 <<< bitsLen n : Nat) : Int)) ∧ w' = w := by
  have hk : bitsLen n ≤ 62 := (bitsLen_le_iff n 62).2 (by omega)
  have hp := pow_wrap (bitsLen n) hk
  go_enter Try.func62, Try.ntmps62
  go_wp2_with (go_at_call 49; refine (blen_any n hn _).mono ?_; rintro e w' ⟨rfl, rfl⟩)
  go_ret
  exact ⟨rfl, rfl⟩
set_option maxRecDepth 100000 in
set_option maxHeartbeats 8000000 in
theorem break_any {w0 : World} {g off N : Nat} {Y Z : List Value} {d : Array Int} {w : World} (cap a b : Nat) (h : Ar w0 g off N Y Z w (d)) (hab : 12 < b - a) (hb : b ≤ N) (hN : N < 4611686018427387904) :
    Calls Try.prog 52 #[.slice (some ⟨g, off, none⟩) N cap, .int .i64 a, .int .i64 b] w fun e w' => e = .returned (.tuple #[]) ∧ Ar w0 g off N Y Z w' (breakPatterns d a b) := by
  obtain ⟨l, hl⟩ : ∃ l, l = b - a := ⟨_, rfl⟩
  obtain ⟨q, hq⟩ : ∃ q, q = l / 4 := ⟨_, rfl⟩
  obtain ⟨i0, hi0⟩ : ∃ i0, a + q * 2 = i0 + 1 := ⟨a + q * 2 - 1, by omega⟩
  obtain ⟨M, hM⟩ : ∃ M : Nat, M = 1 <<< bitsLen l := ⟨_, rfl⟩
  have hM1 : 1 ≤ M := by rw [hM, Nat.one_shiftLeft]; exact Nat.two_pow_pos _
  have hM2 : M ≤ 2 * l := by rw [hM, Nat.one_shiftLeft]; exact two_pow_bitsLen_le (by omega)
  have HNP := Lib.hid (npow_any l (by omega))
  rw [← hM] at HNP
  have hB : breakPatterns d a b = bpR a l M i0 3 0 (UInt64.ofNat l, d) := by rw [bp_eq d a b l hl (by omega), ← hM, ← hq, show a + q * 2 - 1 = i0 by omega]
  obtain ⟨D, hD⟩ : ∃ D, D = breakPatterns d a b := ⟨_, rfl⟩
  rw [← hD] at hB ⊢
  have hr0 : (UInt64.ofNat l).toNat = l := by simp; omega
  have e1 : (b : Int) - (a : Int) = (l : Int) := by omega
  have e2 : (l : Int).tdiv 4 = (q : Int) := by rw [hq, Int.tdiv_eq_ediv_of_nonneg (by omega)]; omega
  have e3 : (a : Int) + (q : Int) * 2 = (i0 : Int) + 1 := by omega
  have hib : i0 + 2 < b := by omega
  have hl2 : l ≤ N := by omega
  have hlb : a + l = b := by omega
  have H0 := Lib.hid (Rn.made h l)
  obtain ⟨S, hS⟩ : ∃ S, S = w.heap.size := ⟨_, rfl⟩
  rw [← hS] at H0
  have HBB := Lib.hid hB.symm
  have HR0 := Lib.hid hr0
  have HS := Lib.hid hS
  clear hB hD hM hl hq hi0 h hr0 hS
  go_enter Try.func52, Try.ntmps52
  have t1 : (8 : Int) ≤ (l : Int) := by omega
  go_wp2_with (go_at_call 62; refine (HNP.out _).mono ?_; rintro e w' ⟨rfl, rfl⟩)
  rw [← HS.out]
  go_loopw [9] (fun vi wr => ∃ (t : Nat) (r : UInt64) (dk : Array Int), vi = .int .i64 ((i0 : Int) + (t : Int)) ∧ t ≤ 3 ∧ Hid (Rn w0 g off N Y Z wr (dk) S (r.toNat) ∧ bpR a l M i0 (3 - t) t (r, dk) = D)) (fun vi _ => i0 + 3 - (intOf vi).toNat)
  case atStart => exact ⟨0, UInt64.ofNat l, d, by simp, by omega, ⟨by rw [HR0.out]; exact H0.out, HBB.out⟩⟩
  case round =>
    obtain ⟨t, r, dk, rfl, ht, HR⟩ := hrel
    by_cases ht3 : t < 3
    rotate_left
    · have h3 : t = 3 := by omega
      subst h3
      go_wp2
      go_end0
      refine ⟨rfl, ?_⟩
      rw [← HR.out.2]
      exact HR.out.1.ar
    obtain ⟨R, hR⟩ : ∃ R : Nat, R = r.toNat := ⟨_, rfl⟩
    have lR : R < 18446744073709551616 := by rw [hR]; exact r.toNat_lt
    obtain ⟨R', hR'⟩ : ∃ R' : Nat, R' = xorNextN R := ⟨_, rfl⟩
    have lR' : R' < 18446744073709551616 := by rw [hR']; exact xorNextN_lt R lR
    obtain ⟨O, hO⟩ : ∃ O : Nat, O = R' &&& (M - 1) := ⟨_, rfl⟩
    have lO : O ≤ M - 1 := by rw [hO]; exact Nat.and_le_right
    have eAnd : bits .and .u64 (R' : Int) ((M : Int) - 1) = (O : Int) := by
      rw [show ((M : Int) - 1) = ((M - 1 : Nat) : Int) by omega, bits_and_u64_nat _ _ lR' (by omega), hO]
    have HNX := Lib.hid (next_any HR.out.1 r.toNat_lt)
    rw [← hR, ← hR'] at HNX
    have HXR : Hid ((xorNext r).toNat = R') := Lib.hid (by rw [xorNext_toNat, hR', hR])
    have HO := Lib.hid hO
    clear hR hR' hO
    obtain ⟨G, hG⟩ : ∃ G : Nat → Int, ∀ t, G t = dk[t]! := ⟨fun t => dk[t]!, fun _ => rfl⟩
    have HG := Lib.hid hG
    clear hG
    have HGO : Hid (∀ o, (if O ≥ l then O - l else O) = o → bpR a l M i0 (3 - (t + 1)) (t + 1) (xorNext r, swp dk (i0 + t) (a + o)) = D) := Lib.hid (fun o ho => by
      rw [← HR.out.2, show 3 - t = (3 - (t + 1)) + 1 by omega]
      refine (bp_go a l M i0 _ t r dk o ?_).symm
      rw [HXR.out, ← HO.out]
      exact ho)
    by_cases hLO : l ≤ O
    · obtain ⟨o2, rfl⟩ : ∃ o2, O = l + o2 := ⟨O - l, by omega⟩
      have ho2 : o2 < l := by omega
      go_upto_region 10 with (go_at_call 63; refine HNX.out.mono ?_; rintro e w2 ⟨rfl, hw⟩; have HW := Lib.hid hw; clear hw HNX)
      have hc : ∀ t, t < N → w2.cell? ⟨g, off + t, none⟩ = some (.int .u64 (G t)) := fun t ht => by rw [HG.out]; exact HW.out.ar.cell ht
      have hf : ∀ t, t < N → w2.frozen? ⟨g, off + t, none⟩ = false := fun t _ => HW.out.ar.free t
      obtain ⟨v9, hy9⟩ : ∃ v', (w2.setCell ⟨g, off + (i0 + t), none⟩ (.int .u64 (G (a + o2)))).cell? ⟨g, off + (a + o2), none⟩ = some v' := ⟨_, (HW.out.ar.put (by omega) (G (a + o2))).cell (by omega)⟩
      go_region
      all_goals go_wp2
      go_roundw
      case rel =>
        refine ⟨t + 1, xorNext r, swp dk (i0 + t) (a + o2), by go_num, by omega, ⟨?_, HGO.out o2 (by rw [if_pos (by omega)]; omega)⟩⟩
        have h4 := HW.out.swp (i := i0 + t) (j := a + o2) (by omega) (by omega)
        (repeat rw [← HG.out] at h4)
        rw [HXR.out]
        exact h4
      case measure => first | (simp [intOf]; done) | (simp [intOf]; omega)
    · have ho2 : O < l := by omega
      go_upto_region 10 with (go_at_call 63; refine HNX.out.mono ?_; rintro e w2 ⟨rfl, hw⟩; have HW := Lib.hid hw; clear hw HNX)
      have hc : ∀ t, t < N → w2.cell? ⟨g, off + t, none⟩ = some (.int .u64 (G t)) := fun t ht => by rw [HG.out]; exact HW.out.ar.cell ht
      have hf : ∀ t, t < N → w2.frozen? ⟨g, off + t, none⟩ = false := fun t _ => HW.out.ar.free t
      obtain ⟨v9, hy9⟩ : ∃ v', (w2.setCell ⟨g, off + (i0 + t), none⟩ (.int .u64 (G (a + O)))).cell? ⟨g, off + (a + O), none⟩ = some v' := ⟨_, (HW.out.ar.put (by omega) (G (a + O))).cell (by omega)⟩
      go_region
      all_goals go_wp2
      go_roundw
      case rel =>
        refine ⟨t + 1, xorNext r, swp dk (i0 + t) (a + O), by go_num, by omega, ⟨?_, HGO.out O (by rw [if_neg (by omega)])⟩⟩
        have h4 := HW.out.swp (i := i0 + t) (j := a + O) (by omega) (by omega)
        (repeat rw [← HG.out] at h4)
        rw [HXR.out]
        exact h4
      case measure => first | (simp [intOf]; done) | (simp [intOf]; omega)
end Go.Proofs.Ytndjgbknhfficaa.So
