/- SoPart. -/
import Derived.Test.YtndjgbknhfficaaSoHeap
namespace Go.Proofs.Ytndjgbknhfficaa.So
open Go.RowKit Go.Sort Go.Proofs.Ytndjgbknhfficaa

section
variable {α : Type} [Inhabited α] (lt : α → α → Bool)
theorem up_go (p : α → Bool) (d : Array α) (j i : Nat) (h : i ≤ j) (hp : p d[i]! = true) : scanUp p d j (i + 1) = scanUp p d j i := by
  conv => rhs; rw [scanUp, if_pos (by simp [h, hp])]
theorem up_no (p : α → Bool) (d : Array α) (j i : Nat) (hp : p d[i]! = false) : scanUp p d j i = i := by
  rw [scanUp, if_neg (by simp [hp])]
theorem up_end (p : α → Bool) (d : Array α) (j i : Nat) (h : ¬ i ≤ j) : scanUp p d j i = i := by
  rw [scanUp, if_neg (by simp [h])]
theorem dn_go (p : α → Bool) (d : Array α) (i j : Nat) (h : i ≤ j) (h0 : 0 < j) (hp : p d[j]! = true) : scanDown p d i (j - 1) = scanDown p d i j := by
  obtain ⟨k, rfl⟩ : ∃ k, j = k + 1 := ⟨j - 1, by omega⟩
  conv => rhs; rw [scanDown, if_pos (by simp [h, hp])]
  rfl
theorem dn_no (p : α → Bool) (d : Array α) (i j : Nat) (hp : p d[j]! = false) : scanDown p d i j = j := by
  cases j with
  | zero => rfl
  | succ k => rw [scanDown, if_neg (by simp [hp])]
theorem dn_end (p : α → Bool) (d : Array α) (i j : Nat) (h : ¬ i ≤ j) : scanDown p d i j = j := by
  cases j with
  | zero => rfl
  | succ k => rw [scanDown, if_neg (by simp [h])]
theorem part_stop {a i j : Nat} {dk : Array α} {i2 j2 : Nat} (hi : i2 = scanUp (fun x => lt x dk[a]!) dk j i) (hj : j2 = scanDown (fun x => !lt x dk[a]!) dk i2 j) (h : j2 < i2) : partLoop lt a i j dk = (j2, dk) := by
  subst hi hj
  rw [partLoop_eq, if_pos h]
theorem part_step {a i j : Nat} {dk : Array α} {i2 j2 : Nat} (hi : i2 = scanUp (fun x => lt x dk[a]!) dk j i) (hj : j2 = scanDown (fun x => !lt x dk[a]!) dk i2 j) (h : ¬ j2 < i2) : partLoop lt a (i2 + 1) (j2 - 1) (swp dk i2 j2) = partLoop lt a i j dk := by
  subst hi hj
  conv => rhs; rw [partLoop_eq, if_neg h]
theorem parte_stop {a i j : Nat} {dk : Array α} {i2 j2 : Nat} (hi : i2 = scanUp (fun x => !lt dk[a]! x) dk j i) (hj : j2 = scanDown (fun x => lt dk[a]! x) dk i2 j) (h : j2 < i2) : partEqLoop lt a i j dk = (i2, dk) := by
  subst hi hj
  rw [partEqLoop_eq, if_pos h]
theorem parte_step {a i j : Nat} {dk : Array α} {i2 j2 : Nat} (hi : i2 = scanUp (fun x => !lt dk[a]! x) dk j i) (hj : j2 = scanDown (fun x => lt dk[a]! x) dk i2 j) (h : ¬ j2 < i2) : partEqLoop lt a (i2 + 1) (j2 - 1) (swp dk i2 j2) = partEqLoop lt a i j dk := by
  subst hi hj
  conv => rhs; rw [partEqLoop_eq, if_neg h]
theorem whole_stop {d d1 : Array α} {a j0 pivot i2 j2 : Nat} (hd : swp d a pivot = d1) (hi : i2 = scanUp (fun x => lt x d1[a]!) d1 j0 (a + 1)) (hj : j2 = scanDown (fun x => !lt x d1[a]!) d1 i2 j0) (h : j2 < i2) : partition lt d a (j0 + 1) pivot = (j2, true, swp d1 j2 a) := by
  unfold partition
  simp only [hd, Nat.add_sub_cancel, ← hi, ← hj]
  rw [if_pos h]
theorem whole_step {d d1 : Array α} {a j0 pivot i2 j2 : Nat} (hd : swp d a pivot = d1) (hi : i2 = scanUp (fun x => lt x d1[a]!) d1 j0 (a + 1)) (hj : j2 = scanDown (fun x => !lt x d1[a]!) d1 i2 j0) (h : ¬ j2 < i2) {r : Nat × Array α} (hr : partLoop lt a (i2 + 1) (j2 - 1) (swp d1 i2 j2) = r) : partition lt d a (j0 + 1) pivot = (r.1, false, swp r.2 r.1 a) := by
  unfold partition
  simp only [hd, Nat.add_sub_cancel, ← hi, ← hj]
  rw [if_neg h, hr]
end

set_option maxRecDepth 100000 in
set_option maxHeartbeats 8000000 in
theorem parte_any {w0 : World} {g off N : Nat} {Y Z : List Value} {d : Array Int} {w : World} (cap a b pivot : Nat) (h : Ar w0 g off N Y Z w (d)) (hap : a ≤ pivot) (hpb : pivot < b) (hb : b ≤ N) (hN : N < 4611686018427387904) :
    Calls Try.prog 57 #[.slice (some ⟨g, off, none⟩) N cap, .int .i64 a, .int .i64 b, .int .i64 pivot] w fun e w' => e = .returned (.int .i64 (partitionEqual ltInt d a b pivot).1) ∧ Ar w0 g off N Y Z w' ((partitionEqual ltInt d a b pivot).2) := by
  obtain ⟨j0, rfl⟩ : ∃ j0, b = j0 + 1 := ⟨b - 1, by omega⟩
  obtain ⟨G, hG⟩ : ∃ G : Nat → Int, ∀ t, G t = d[t]! := ⟨fun t => d[t]!, fun _ => rfl⟩
  have HG := Lib.hid hG
  clear hG
  have H0 := Lib.hid h
  clear h
  have hc : ∀ t, t < N → w.cell? ⟨g, off + t, none⟩ = some (.int .u64 (G t)) := fun t ht => by rw [HG.out]; exact H0.out.cell ht
  have hf : ∀ t, t < N → w.frozen? ⟨g, off + t, none⟩ = false := fun t _ => H0.out.free t
  obtain ⟨v9, hy9⟩ : ∃ v', (w.setCell ⟨g, off + a, none⟩ (.int .u64 (G pivot))).cell? ⟨g, off + pivot, none⟩ = some v' := ⟨_, (H0.out.put (by omega) (G pivot)).cell (by omega)⟩
  go_enter Try.func57, Try.ntmps57
  go_wp2_with fail
  go_region
  all_goals go_wp2_with fail
  have h4 := (H0.out.swp (i := a) (j := pivot) (by omega) (by omega)).drew
  (repeat rw [← HG.out] at h4)
  obtain ⟨d1, hd1⟩ : ∃ d1, d1 = swp d a pivot := ⟨_, rfl⟩
  rw [← hd1] at h4
  have HD := Lib.hid hd1
  clear hd1 hc hf hy9
  obtain ⟨w4, hw⟩ : ∃ xq, xq = ((w.setCell ⟨g, off + a, none⟩ (.int .u64 (G pivot))).setCell ⟨g, off + pivot, none⟩ (.int .u64 (G a))).drew := ⟨_, rfl⟩
  have H4 := Lib.hid (h4)
  rw [← hw] at H4 ⊢
  clear hw
  clear h4 HG
  go_loopw [9, 10] (fun vi vj wr => ∃ (i j : Nat) (dk : Array Int), vi = .int .i64 i ∧ vj = .int .i64 j ∧ a < i ∧ i ≤ j + 1 ∧ j ≤ j0 ∧ Hid (Ar w0 g off N Y Z wr (dk) ∧ partEqLoop ltInt a i j dk = partEqLoop ltInt a (a + 1) j0 d1)) (fun vi vj _ => (intOf vj).toNat + 1 - (intOf vi).toNat)
  case atStart => exact ⟨a + 1, j0, d1, by go_num, by go_num, by omega, by omega, Nat.le_refl _, ⟨H4.out, rfl⟩⟩
  case round =>
    obtain ⟨i, j, dk, rfl, rfl, hai, hij, hjb, HR⟩ := hrel
    obtain ⟨G, hG⟩ : ∃ G : Nat → Int, ∀ t, G t = dk[t]! := ⟨fun t => dk[t]!, fun _ => rfl⟩
    have HG := Lib.hid hG
    clear hG
    go_wp2_with fail
    go_loopw [9] (fun vi w1 => ∃ i' : Nat, vi = .int .i64 i' ∧ i ≤ i' ∧ i' ≤ j + 1 ∧ Hid (Ar w0 g off N Y Z w1 (dk) ∧ scanUp (fun x => !ltInt dk[a]! x) dk j i' = scanUp (fun x => !ltInt dk[a]! x) dk j i)) (fun vi _ => j + 1 - (intOf vi).toNat)
    case atStart => exact ⟨i, by go_num, Nat.le_refl _, by omega, ⟨HR.out.1, rfl⟩⟩
    case round =>
      obtain ⟨i', rfl, hii, hij', H1⟩ := hrel
      by_cases hle : i' ≤ j
      · have t1 : decide ((i' : Int) ≤ (j : Int)) = true := decide_eq_true (by omega)
        have hc : ∀ t, t < N → wr.cell? ⟨g, off + t, none⟩ = some (.int .u64 (G t)) := fun t ht => by rw [HG.out]; exact H1.out.1.cell ht
        have hf : ∀ t, t < N → wr.frozen? ⟨g, off + t, none⟩ = false := fun t _ => H1.out.1.free t
        go_wp2_with fail
        go_big_quiet (first | (go_at_call 56; refine Calls.quiet_of_same (less_any _ _ _)))
        go_wp2_with fail
        · have ht : (!ltInt (G a) (G i')) = true := by assumption
          go_wp2
          go_roundw
          case rel => exact ⟨i' + 1, by go_num, by omega, by omega, ⟨H1.out.1.draw nq, (up_go (fun x => !ltInt dk[a]! x) dk j i' hle (by rw [← HG.out, ← HG.out]; exact ht)).trans H1.out.2⟩⟩
          case measure => first | (simp [intOf]; done) | (simp [intOf]; omega)
        · have ht : (!ltInt (G a) (G i')) = false := by assumption
          have HU := Lib.hid ht
          have HI2 : Hid (i' = scanUp (fun x => !ltInt dk[a]! x) dk j i) := Lib.hid ((up_no (fun x => !ltInt dk[a]! x) dk j i' (by rw [← HG.out, ← HG.out]; exact ht)).symm.trans H1.out.2)
          clear ht hc hf
          go_wp2_with fail
          obtain ⟨w5, hw⟩ : ∃ xq, xq = wr.drewN nq := ⟨_, rfl⟩
          have H5 := Lib.hid (H1.out.1.draw nq)
          rw [← hw] at H5 ⊢
          clear hw
          clear t1
          go_loopw [10] (fun vj w2 => ∃ j' : Nat, vj = .int .i64 j' ∧ j' ≤ j ∧ i' ≤ j' + 1 ∧ Hid (Ar w0 g off N Y Z w2 (dk) ∧ scanDown (fun x => ltInt dk[a]! x) dk i' j' = scanDown (fun x => ltInt dk[a]! x) dk i' j)) (fun vj _ => (intOf vj).toNat)
          case atStart => exact ⟨j, by go_num, Nat.le_refl _, by omega, ⟨H5.out, rfl⟩⟩
          case round =>
            obtain ⟨j', rfl, hjj, hij2, H2⟩ := hrel
            by_cases hle2 : i' ≤ j'
            · have t1 : decide ((i' : Int) ≤ (j' : Int)) = true := decide_eq_true (by omega)
              have hc : ∀ t, t < N → wr.cell? ⟨g, off + t, none⟩ = some (.int .u64 (G t)) := fun t ht => by rw [HG.out]; exact H2.out.1.cell ht
              have hf : ∀ t, t < N → wr.frozen? ⟨g, off + t, none⟩ = false := fun t _ => H2.out.1.free t
              go_wp2_with fail
              go_big_quiet (first | (go_at_call 56; refine Calls.quiet_of_same (less_any _ _ _)))
              go_wp2_with fail
              · have ht : ltInt (G a) (G j') = true := by assumption
                go_wp2
                go_roundw
                case rel => exact ⟨j' - 1, by go_num, by omega, by omega, ⟨H2.out.1.draw nq, (dn_go (fun x => ltInt dk[a]! x) dk i' j' hle2 (by omega) (by rw [← HG.out, ← HG.out]; exact ht)).trans H2.out.2⟩⟩
                case measure => first | (simp [intOf]; done) | (simp [intOf]; omega)
              · have ht : ltInt (G a) (G j') = false := by assumption
                have hne : i' ≠ j' := by
                  intro e
                  subst e
                  have hu := HU.out
                  first
                    | (simp [ht] at hu; done)
                    | (simp [hu] at ht; done)
                have HJ2 : Hid (j' = scanDown (fun x => ltInt dk[a]! x) dk i' j) := Lib.hid ((dn_no (fun x => ltInt dk[a]! x) dk i' j' (by rw [← HG.out, ← HG.out]; exact ht)).symm.trans H2.out.2)
                clear ht hc hf t1
                obtain ⟨w6, hw⟩ : ∃ xq, xq = wr.drewN nq := ⟨_, rfl⟩
                have H6 := Lib.hid (H2.out.1.draw nq)
                rw [← hw] at H6 ⊢
                clear hw
                have hc : ∀ t, t < N → w6.cell? ⟨g, off + t, none⟩ = some (.int .u64 (G t)) := fun t ht => by rw [HG.out]; exact H6.out.cell ht
                have hf : ∀ t, t < N → w6.frozen? ⟨g, off + t, none⟩ = false := fun t _ => H6.out.free t
                obtain ⟨v9, hy9⟩ : ∃ v', (w6.setCell ⟨g, off + i', none⟩ (.int .u64 (G j'))).cell? ⟨g, off + j', none⟩ = some v' := ⟨_, (H6.out.put (by omega) (G j')).cell (by omega)⟩
                have hlt : i' < j' := by omega
                go_wp2_with fail
                go_region
                all_goals go_wp2
                go_roundw
                case rel =>
                  refine ⟨i' + 1, j' - 1, swp dk i' j', by go_num, by go_num, by omega, by omega, by omega, ⟨?_, (parte_step ltInt HI2.out HJ2.out (by omega)).trans HR.out.2⟩⟩
                  have h4 := (H6.out.swp (i := i') (j := j') (by omega) (by omega)).drew
                  (repeat rw [← HG.out] at h4)
                  exact h4
                case measure => first | (simp [intOf]; done) | (simp [intOf]; omega)
            · have t1 : decide ((i' : Int) ≤ (j' : Int)) = false := decide_eq_false (by omega)
              go_wp2_with fail
              go_big_quiet (first | (go_at_call 56; refine Calls.quiet_of_same (less_any _ _ _)))
              go_wp2_with fail
              have HJ2 : Hid (j' = scanDown (fun x => ltInt dk[a]! x) dk i' j) := Lib.hid ((dn_end (fun x => ltInt dk[a]! x) dk i' j' hle2).symm.trans H2.out.2)
              clear t1
              obtain ⟨w6, hw⟩ : ∃ xq, xq = wr.drewN nq := ⟨_, rfl⟩
              have H6 := Lib.hid (H2.out.1.draw nq)
              rw [← hw] at H6 ⊢
              clear hw
              have hc : ∀ t, t < N → w6.cell? ⟨g, off + t, none⟩ = some (.int .u64 (G t)) := fun t ht => by rw [HG.out]; exact H6.out.cell ht
              have hf : ∀ t, t < N → w6.frozen? ⟨g, off + t, none⟩ = false := fun t _ => H6.out.free t
              go_wp2
              go_ret
              have e := (parte_stop ltInt HI2.out HJ2.out (by omega)).symm.trans HR.out.2
              have e2 : partitionEqual ltInt d a (j0 + 1) pivot = (i', dk) := by unfold partitionEqual; rw [Nat.add_sub_cancel, ← HD.out]; exact e.symm
              rw [e2]
              exact ⟨rfl, H6.out⟩
      · have t1 : decide ((i' : Int) ≤ (j : Int)) = false := decide_eq_false (by omega)
        go_wp2_with fail
        go_big_quiet (first | (go_at_call 56; refine Calls.quiet_of_same (less_any _ _ _)))
        go_wp2_with fail
        have HI2 : Hid (i' = scanUp (fun x => !ltInt dk[a]! x) dk j i) := Lib.hid ((up_end (fun x => !ltInt dk[a]! x) dk j i' hle).symm.trans H1.out.2)
        obtain ⟨w5, hw⟩ : ∃ xq, xq = wr.drewN nq := ⟨_, rfl⟩
        have H5 := Lib.hid (H1.out.1.draw nq)
        rw [← hw] at H5 ⊢
        clear hw
        clear t1
        go_loopw [10] (fun vj w2 => ∃ j' : Nat, vj = .int .i64 j' ∧ j' ≤ j ∧ i' ≤ j' + 1 ∧ Hid (Ar w0 g off N Y Z w2 (dk) ∧ scanDown (fun x => ltInt dk[a]! x) dk i' j' = scanDown (fun x => ltInt dk[a]! x) dk i' j)) (fun vj _ => (intOf vj).toNat)
        case atStart => exact ⟨j, by go_num, Nat.le_refl _, by omega, ⟨H5.out, rfl⟩⟩
        case round =>
          obtain ⟨j', rfl, hjj, hij2, H2⟩ := hrel
          by_cases hle2 : i' ≤ j'
          · exfalso
            omega
          · have t1 : decide ((i' : Int) ≤ (j' : Int)) = false := decide_eq_false (by omega)
            go_wp2_with fail
            go_big_quiet (first | (go_at_call 56; refine Calls.quiet_of_same (less_any _ _ _)))
            go_wp2_with fail
            have HJ2 : Hid (j' = scanDown (fun x => ltInt dk[a]! x) dk i' j) := Lib.hid ((dn_end (fun x => ltInt dk[a]! x) dk i' j' hle2).symm.trans H2.out.2)
            clear t1
            obtain ⟨w6, hw⟩ : ∃ xq, xq = wr.drewN nq := ⟨_, rfl⟩
            have H6 := Lib.hid (H2.out.1.draw nq)
            rw [← hw] at H6 ⊢
            clear hw
            have hc : ∀ t, t < N → w6.cell? ⟨g, off + t, none⟩ = some (.int .u64 (G t)) := fun t ht => by rw [HG.out]; exact H6.out.cell ht
            have hf : ∀ t, t < N → w6.frozen? ⟨g, off + t, none⟩ = false := fun t _ => H6.out.free t
            go_wp2
            go_ret
            have e := (parte_stop ltInt HI2.out HJ2.out (by omega)).symm.trans HR.out.2
            have e2 : partitionEqual ltInt d a (j0 + 1) pivot = (i', dk) := by unfold partitionEqual; rw [Nat.add_sub_cancel, ← HD.out]; exact e.symm
            rw [e2]
            exact ⟨rfl, H6.out⟩
set_option maxRecDepth 100000 in
set_option maxHeartbeats 8000000 in
theorem part_any {w0 : World} {g off N : Nat} {Y Z : List Value} {d : Array Int} {w : World} (cap a b pivot : Nat) (h : Ar w0 g off N Y Z w (d)) (hap : a ≤ pivot) (hpb : pivot < b) (hb : b ≤ N) (hN : N < 4611686018427387904) :
    Calls Try.prog 58 #[.slice (some ⟨g, off, none⟩) N cap, .int .i64 a, .int .i64 b, .int .i64 pivot] w fun e w' => e = .returned (.tuple #[.int .i64 (partition ltInt d a b pivot).1, .bool (partition ltInt d a b pivot).2.1]) ∧ Ar w0 g off N Y Z w' ((partition ltInt d a b pivot).2.2) := by
  obtain ⟨j0, rfl⟩ : ∃ j0, b = j0 + 1 := ⟨b - 1, by omega⟩
  obtain ⟨G, hG⟩ : ∃ G : Nat → Int, ∀ t, G t = d[t]! := ⟨fun t => d[t]!, fun _ => rfl⟩
  have HG := Lib.hid hG
  clear hG
  have H0 := Lib.hid h
  clear h
  have hc : ∀ t, t < N → w.cell? ⟨g, off + t, none⟩ = some (.int .u64 (G t)) := fun t ht => by rw [HG.out]; exact H0.out.cell ht
  have hf : ∀ t, t < N → w.frozen? ⟨g, off + t, none⟩ = false := fun t _ => H0.out.free t
  obtain ⟨v9, hy9⟩ : ∃ v', (w.setCell ⟨g, off + a, none⟩ (.int .u64 (G pivot))).cell? ⟨g, off + pivot, none⟩ = some v' := ⟨_, (H0.out.put (by omega) (G pivot)).cell (by omega)⟩
  go_enter Try.func58, Try.ntmps58
  go_wp2_with fail
  go_region
  all_goals go_wp2_with fail
  have h4 := (H0.out.swp (i := a) (j := pivot) (by omega) (by omega)).drew
  (repeat rw [← HG.out] at h4)
  obtain ⟨d1, hd1⟩ : ∃ d1, d1 = swp d a pivot := ⟨_, rfl⟩
  rw [← hd1] at h4
  have HD := Lib.hid hd1
  clear hd1 hc hf hy9
  obtain ⟨w4, hw⟩ : ∃ xq, xq = ((w.setCell ⟨g, off + a, none⟩ (.int .u64 (G pivot))).setCell ⟨g, off + pivot, none⟩ (.int .u64 (G a))).drew := ⟨_, rfl⟩
  have H4 := Lib.hid (h4)
  rw [← hw] at H4 ⊢
  clear hw
  clear h4 HG
  obtain ⟨G, hG⟩ : ∃ G : Nat → Int, ∀ t, G t = d1[t]! := ⟨fun t => d1[t]!, fun _ => rfl⟩
  have HG := Lib.hid hG
  clear hG
  go_loopw [10] (fun vi w1 => ∃ i' : Nat, vi = .int .i64 i' ∧ a + 1 ≤ i' ∧ i' ≤ j0 + 1 ∧ Hid (Ar w0 g off N Y Z w1 (d1) ∧ scanUp (fun x => ltInt x d1[a]!) d1 j0 i' = scanUp (fun x => ltInt x d1[a]!) d1 j0 (a + 1))) (fun vi _ => j0 + 1 - (intOf vi).toNat)
  case atStart => exact ⟨a + 1, by go_num, Nat.le_refl _, by omega, ⟨H4.out, rfl⟩⟩
  case round =>
    obtain ⟨i', rfl, hii, hij', H1⟩ := hrel
    by_cases hle : i' ≤ j0
    · have t1 : decide ((i' : Int) ≤ (j0 : Int)) = true := decide_eq_true (by omega)
      have hc : ∀ t, t < N → wr.cell? ⟨g, off + t, none⟩ = some (.int .u64 (G t)) := fun t ht => by rw [HG.out]; exact H1.out.1.cell ht
      have hf : ∀ t, t < N → wr.frozen? ⟨g, off + t, none⟩ = false := fun t _ => H1.out.1.free t
      go_wp2_with fail
      go_big_quiet (first | (go_at_call 56; refine Calls.quiet_of_same (less_any _ _ _)))
      go_wp2_with fail
      · have ht : ltInt (G i') (G a) = true := by assumption
        go_wp2
        go_roundw
        case rel => exact ⟨i' + 1, by go_num, by omega, by omega, ⟨H1.out.1.draw nq, (up_go (fun x => ltInt x d1[a]!) d1 j0 i' hle (by rw [← HG.out, ← HG.out]; exact ht)).trans H1.out.2⟩⟩
        case measure => first | (simp [intOf]; done) | (simp [intOf]; omega)
      · have ht : ltInt (G i') (G a) = false := by assumption
        have HU := Lib.hid ht
        have HI2 : Hid (i' = scanUp (fun x => ltInt x d1[a]!) d1 j0 (a + 1)) := Lib.hid ((up_no (fun x => ltInt x d1[a]!) d1 j0 i' (by rw [← HG.out, ← HG.out]; exact ht)).symm.trans H1.out.2)
        clear ht hc hf
        go_wp2_with fail
        obtain ⟨w5, hw⟩ : ∃ xq, xq = wr.drewN nq := ⟨_, rfl⟩
        have H5 := Lib.hid (H1.out.1.draw nq)
        rw [← hw] at H5 ⊢
        clear hw
        clear t1
        go_loopw [11] (fun vj w2 => ∃ j' : Nat, vj = .int .i64 j' ∧ j' ≤ j0 ∧ i' ≤ j' + 1 ∧ Hid (Ar w0 g off N Y Z w2 (d1) ∧ scanDown (fun x => !ltInt x d1[a]!) d1 i' j' = scanDown (fun x => !ltInt x d1[a]!) d1 i' j0)) (fun vj _ => (intOf vj).toNat)
        case atStart => exact ⟨j0, by go_num, Nat.le_refl _, by omega, ⟨H5.out, rfl⟩⟩
        case round =>
          obtain ⟨j', rfl, hjj, hij2, H2⟩ := hrel
          by_cases hle2 : i' ≤ j'
          · have t1 : decide ((i' : Int) ≤ (j' : Int)) = true := decide_eq_true (by omega)
            have hc : ∀ t, t < N → wr.cell? ⟨g, off + t, none⟩ = some (.int .u64 (G t)) := fun t ht => by rw [HG.out]; exact H2.out.1.cell ht
            have hf : ∀ t, t < N → wr.frozen? ⟨g, off + t, none⟩ = false := fun t _ => H2.out.1.free t
            go_wp2_with fail
            go_big_quiet (first | (go_at_call 56; refine Calls.quiet_of_same (less_any _ _ _)))
            go_wp2_with fail
            · have ht : (!ltInt (G j') (G a)) = true := by assumption
              go_wp2
              go_roundw
              case rel => exact ⟨j' - 1, by go_num, by omega, by omega, ⟨H2.out.1.draw nq, (dn_go (fun x => !ltInt x d1[a]!) d1 i' j' hle2 (by omega) (by rw [← HG.out, ← HG.out]; exact ht)).trans H2.out.2⟩⟩
              case measure => first | (simp [intOf]; done) | (simp [intOf]; omega)
            · have ht : (!ltInt (G j') (G a)) = false := by assumption
              have hne : i' ≠ j' := by
                intro e
                subst e
                have hu := HU.out
                first
                  | (simp [ht] at hu; done)
                  | (simp [hu] at ht; done)
              have HJ2 : Hid (j' = scanDown (fun x => !ltInt x d1[a]!) d1 i' j0) := Lib.hid ((dn_no (fun x => !ltInt x d1[a]!) d1 i' j' (by rw [← HG.out, ← HG.out]; exact ht)).symm.trans H2.out.2)
              clear ht hc hf t1
              obtain ⟨w6, hw⟩ : ∃ xq, xq = wr.drewN nq := ⟨_, rfl⟩
              have H6 := Lib.hid (H2.out.1.draw nq)
              rw [← hw] at H6 ⊢
              clear hw
              have hc : ∀ t, t < N → w6.cell? ⟨g, off + t, none⟩ = some (.int .u64 (G t)) := fun t ht => by rw [HG.out]; exact H6.out.cell ht
              have hf : ∀ t, t < N → w6.frozen? ⟨g, off + t, none⟩ = false := fun t _ => H6.out.free t
              obtain ⟨v9, hy9⟩ : ∃ v', (w6.setCell ⟨g, off + i', none⟩ (.int .u64 (G j'))).cell? ⟨g, off + j', none⟩ = some v' := ⟨_, (H6.out.put (by omega) (G j')).cell (by omega)⟩
              have hlt : i' < j' := by omega
              go_wp2_with fail
              go_region
              all_goals go_wp2_with fail
              have h4 := (H6.out.swp (i := i') (j := j') (by omega) (by omega)).drew
              (repeat rw [← HG.out] at h4)
              obtain ⟨w7, hw⟩ : ∃ xq, xq = ((w6.setCell ⟨g, off + i', none⟩ (.int .u64 (G j'))).setCell ⟨g, off + j', none⟩ (.int .u64 (G i'))).drew := ⟨_, rfl⟩
              have H7 := Lib.hid (h4)
              rw [← hw] at H7 ⊢
              clear hw
              have HX : Hid (∀ r, partLoop ltInt a (i' + 1) (j' - 1) (swp d1 i' j') = r → partition ltInt d a (j0 + 1) pivot = (r.1, false, swp r.2 r.1 a)) := Lib.hid (fun r hr => whole_step ltInt HD.out.symm HI2.out HJ2.out (by omega) hr)
              clear h4 hc hf hy9 HU HI2 HJ2 H2 H1 H5 H6
              obtain ⟨ii, hii9⟩ : ∃ ii, ii = i' + 1 := ⟨_, rfl⟩
              obtain ⟨jj, hjj9⟩ : ∃ jj, j' = jj + 1 := ⟨j' - 1, by omega⟩
              subst hjj9
              go_loopw [10, 11] (fun vi vj wr => ∃ (i j : Nat) (dk : Array Int), vi = .int .i64 i ∧ vj = .int .i64 j ∧ a < i ∧ i ≤ j + 1 ∧ j ≤ j0 ∧ Hid (Ar w0 g off N Y Z wr (dk) ∧ partLoop ltInt a i j dk = partLoop ltInt a (i' + 1) (jj + 1 - 1) (swp d1 i' (jj + 1)))) (fun vi vj _ => (intOf vj).toNat + 1 - (intOf vi).toNat)
              case atStart => exact ⟨i' + 1, jj, swp d1 i' (jj + 1), by go_num, by go_num, by omega, by omega, by omega, ⟨H7.out, rfl⟩⟩
              case round =>
                clear HG
                obtain ⟨i, j, dk, rfl, rfl, hai, hij, hjb, HR⟩ := hrel
                obtain ⟨G, hG⟩ : ∃ G : Nat → Int, ∀ t, G t = dk[t]! := ⟨fun t => dk[t]!, fun _ => rfl⟩
                have HG := Lib.hid hG
                clear hG
                go_wp2_with fail
                go_loopw [10] (fun vi w1 => ∃ i' : Nat, vi = .int .i64 i' ∧ i ≤ i' ∧ i' ≤ j + 1 ∧ Hid (Ar w0 g off N Y Z w1 (dk) ∧ scanUp (fun x => ltInt x dk[a]!) dk j i' = scanUp (fun x => ltInt x dk[a]!) dk j i)) (fun vi _ => j + 1 - (intOf vi).toNat)
                case atStart => exact ⟨i, by go_num, Nat.le_refl _, by omega, ⟨HR.out.1, rfl⟩⟩
                case round =>
                  obtain ⟨i', rfl, hii, hij', H1⟩ := hrel
                  by_cases hle : i' ≤ j
                  · have t1 : decide ((i' : Int) ≤ (j : Int)) = true := decide_eq_true (by omega)
                    have hc : ∀ t, t < N → wr.cell? ⟨g, off + t, none⟩ = some (.int .u64 (G t)) := fun t ht => by rw [HG.out]; exact H1.out.1.cell ht
                    have hf : ∀ t, t < N → wr.frozen? ⟨g, off + t, none⟩ = false := fun t _ => H1.out.1.free t
                    go_wp2_with fail
                    go_big_quiet (first | (go_at_call 56; refine Calls.quiet_of_same (less_any _ _ _)))
                    go_wp2_with fail
                    · have ht : ltInt (G i') (G a) = true := by assumption
                      go_wp2
                      go_roundw
                      case rel => exact ⟨i' + 1, by go_num, by omega, by omega, ⟨H1.out.1.draw nq, (up_go (fun x => ltInt x dk[a]!) dk j i' hle (by rw [← HG.out, ← HG.out]; exact ht)).trans H1.out.2⟩⟩
                      case measure => first | (simp [intOf]; done) | (simp [intOf]; omega)
                    · have ht : ltInt (G i') (G a) = false := by assumption
                      have HU := Lib.hid ht
                      have HI2 : Hid (i' = scanUp (fun x => ltInt x dk[a]!) dk j i) := Lib.hid ((up_no (fun x => ltInt x dk[a]!) dk j i' (by rw [← HG.out, ← HG.out]; exact ht)).symm.trans H1.out.2)
                      clear ht hc hf
                      go_wp2_with fail
                      obtain ⟨w5, hw⟩ : ∃ xq, xq = wr.drewN nq := ⟨_, rfl⟩
                      have H5 := Lib.hid (H1.out.1.draw nq)
                      rw [← hw] at H5 ⊢
                      clear hw
                      clear t1
                      go_loopw [11] (fun vj w2 => ∃ j' : Nat, vj = .int .i64 j' ∧ j' ≤ j ∧ i' ≤ j' + 1 ∧ Hid (Ar w0 g off N Y Z w2 (dk) ∧ scanDown (fun x => !ltInt x dk[a]!) dk i' j' = scanDown (fun x => !ltInt x dk[a]!) dk i' j)) (fun vj _ => (intOf vj).toNat)
                      case atStart => exact ⟨j, by go_num, Nat.le_refl _, by omega, ⟨H5.out, rfl⟩⟩
                      case round =>
                        obtain ⟨j', rfl, hjj, hij2, H2⟩ := hrel
                        by_cases hle2 : i' ≤ j'
                        · have t1 : decide ((i' : Int) ≤ (j' : Int)) = true := decide_eq_true (by omega)
                          have hc : ∀ t, t < N → wr.cell? ⟨g, off + t, none⟩ = some (.int .u64 (G t)) := fun t ht => by rw [HG.out]; exact H2.out.1.cell ht
                          have hf : ∀ t, t < N → wr.frozen? ⟨g, off + t, none⟩ = false := fun t _ => H2.out.1.free t
                          go_wp2_with fail
                          go_big_quiet (first | (go_at_call 56; refine Calls.quiet_of_same (less_any _ _ _)))
                          go_wp2_with fail
                          · have ht : (!ltInt (G j') (G a)) = true := by assumption
                            go_wp2
                            go_roundw
                            case rel => exact ⟨j' - 1, by go_num, by omega, by omega, ⟨H2.out.1.draw nq, (dn_go (fun x => !ltInt x dk[a]!) dk i' j' hle2 (by omega) (by rw [← HG.out, ← HG.out]; exact ht)).trans H2.out.2⟩⟩
                            case measure => first | (simp [intOf]; done) | (simp [intOf]; omega)
                          · have ht : (!ltInt (G j') (G a)) = false := by assumption
                            have hne : i' ≠ j' := by
                              intro e
                              subst e
                              have hu := HU.out
                              first
                                | (simp [ht] at hu; done)
                                | (simp [hu] at ht; done)
                            have HJ2 : Hid (j' = scanDown (fun x => !ltInt x dk[a]!) dk i' j) := Lib.hid ((dn_no (fun x => !ltInt x dk[a]!) dk i' j' (by rw [← HG.out, ← HG.out]; exact ht)).symm.trans H2.out.2)
                            clear ht hc hf t1
                            obtain ⟨w6, hw⟩ : ∃ xq, xq = wr.drewN nq := ⟨_, rfl⟩
                            have H6 := Lib.hid (H2.out.1.draw nq)
                            rw [← hw] at H6 ⊢
                            clear hw
                            have hc : ∀ t, t < N → w6.cell? ⟨g, off + t, none⟩ = some (.int .u64 (G t)) := fun t ht => by rw [HG.out]; exact H6.out.cell ht
                            have hf : ∀ t, t < N → w6.frozen? ⟨g, off + t, none⟩ = false := fun t _ => H6.out.free t
                            obtain ⟨v9, hy9⟩ : ∃ v', (w6.setCell ⟨g, off + i', none⟩ (.int .u64 (G j'))).cell? ⟨g, off + j', none⟩ = some v' := ⟨_, (H6.out.put (by omega) (G j')).cell (by omega)⟩
                            have hlt : i' < j' := by omega
                            go_wp2_with fail
                            go_region
                            all_goals go_wp2
                            go_roundw
                            case rel =>
                              refine ⟨i' + 1, j' - 1, swp dk i' j', by go_num, by go_num, by omega, by omega, by omega, ⟨?_, (part_step ltInt HI2.out HJ2.out (by omega)).trans HR.out.2⟩⟩
                              have h4 := (H6.out.swp (i := i') (j := j') (by omega) (by omega)).drew
                              (repeat rw [← HG.out] at h4)
                              exact h4
                            case measure => first | (simp [intOf]; done) | (simp [intOf]; omega)
                        · have t1 : decide ((i' : Int) ≤ (j' : Int)) = false := decide_eq_false (by omega)
                          go_wp2_with fail
                          go_big_quiet (first | (go_at_call 56; refine Calls.quiet_of_same (less_any _ _ _)))
                          go_wp2_with fail
                          have HJ2 : Hid (j' = scanDown (fun x => !ltInt x dk[a]!) dk i' j) := Lib.hid ((dn_end (fun x => !ltInt x dk[a]!) dk i' j' hle2).symm.trans H2.out.2)
                          clear t1
                          obtain ⟨w6, hw⟩ : ∃ xq, xq = wr.drewN nq := ⟨_, rfl⟩
                          have H6 := Lib.hid (H2.out.1.draw nq)
                          rw [← hw] at H6 ⊢
                          clear hw
                          have hc : ∀ t, t < N → w6.cell? ⟨g, off + t, none⟩ = some (.int .u64 (G t)) := fun t ht => by rw [HG.out]; exact H6.out.cell ht
                          have hf : ∀ t, t < N → w6.frozen? ⟨g, off + t, none⟩ = false := fun t _ => H6.out.free t
                          obtain ⟨v9, hy9⟩ : ∃ v', (w6.setCell ⟨g, off + j', none⟩ (.int .u64 (G a))).cell? ⟨g, off + a, none⟩ = some v' := ⟨_, (H6.out.put (by omega) (G a)).cell (by omega)⟩
                          go_wp2_with fail
                          go_region
                          all_goals go_wp2
                          all_goals go_ret2
                          have h4 := (H6.out.swp (i := j') (j := a) (by omega) (by omega)).drew
                          (repeat rw [← HG.out] at h4)
                          have e := (part_stop ltInt HI2.out HJ2.out (by omega)).symm.trans HR.out.2
                          rw [HX.out _ e.symm]
                          exact ⟨rfl, h4⟩
                  · have t1 : decide ((i' : Int) ≤ (j : Int)) = false := decide_eq_false (by omega)
                    go_wp2_with fail
                    go_big_quiet (first | (go_at_call 56; refine Calls.quiet_of_same (less_any _ _ _)))
                    go_wp2_with fail
                    have HI2 : Hid (i' = scanUp (fun x => ltInt x dk[a]!) dk j i) := Lib.hid ((up_end (fun x => ltInt x dk[a]!) dk j i' hle).symm.trans H1.out.2)
                    obtain ⟨w5, hw⟩ : ∃ xq, xq = wr.drewN nq := ⟨_, rfl⟩
                    have H5 := Lib.hid (H1.out.1.draw nq)
                    rw [← hw] at H5 ⊢
                    clear hw
                    clear t1
                    go_loopw [11] (fun vj w2 => ∃ j' : Nat, vj = .int .i64 j' ∧ j' ≤ j ∧ i' ≤ j' + 1 ∧ Hid (Ar w0 g off N Y Z w2 (dk) ∧ scanDown (fun x => !ltInt x dk[a]!) dk i' j' = scanDown (fun x => !ltInt x dk[a]!) dk i' j)) (fun vj _ => (intOf vj).toNat)
                    case atStart => exact ⟨j, by go_num, Nat.le_refl _, by omega, ⟨H5.out, rfl⟩⟩
                    case round =>
                      obtain ⟨j', rfl, hjj, hij2, H2⟩ := hrel
                      by_cases hle2 : i' ≤ j'
                      · exfalso
                        omega
                      · have t1 : decide ((i' : Int) ≤ (j' : Int)) = false := decide_eq_false (by omega)
                        go_wp2_with fail
                        go_big_quiet (first | (go_at_call 56; refine Calls.quiet_of_same (less_any _ _ _)))
                        go_wp2_with fail
                        have HJ2 : Hid (j' = scanDown (fun x => !ltInt x dk[a]!) dk i' j) := Lib.hid ((dn_end (fun x => !ltInt x dk[a]!) dk i' j' hle2).symm.trans H2.out.2)
                        clear t1
                        obtain ⟨w6, hw⟩ : ∃ xq, xq = wr.drewN nq := ⟨_, rfl⟩
                        have H6 := Lib.hid (H2.out.1.draw nq)
                        rw [← hw] at H6 ⊢
                        clear hw
                        have hc : ∀ t, t < N → w6.cell? ⟨g, off + t, none⟩ = some (.int .u64 (G t)) := fun t ht => by rw [HG.out]; exact H6.out.cell ht
                        have hf : ∀ t, t < N → w6.frozen? ⟨g, off + t, none⟩ = false := fun t _ => H6.out.free t
                        obtain ⟨v9, hy9⟩ : ∃ v', (w6.setCell ⟨g, off + j', none⟩ (.int .u64 (G a))).cell? ⟨g, off + a, none⟩ = some v' := ⟨_, (H6.out.put (by omega) (G a)).cell (by omega)⟩
                        go_wp2_with fail
                        go_region
                        all_goals go_wp2
                        all_goals go_ret2
                        have h4 := (H6.out.swp (i := j') (j := a) (by omega) (by omega)).drew
                        (repeat rw [← HG.out] at h4)
                        have e := (part_stop ltInt HI2.out HJ2.out (by omega)).symm.trans HR.out.2
                        rw [HX.out _ e.symm]
                        exact ⟨rfl, h4⟩
          · have t1 : decide ((i' : Int) ≤ (j' : Int)) = false := decide_eq_false (by omega)
            go_wp2_with fail
            go_big_quiet (first | (go_at_call 56; refine Calls.quiet_of_same (less_any _ _ _)))
            go_wp2_with fail
            have HJ2 : Hid (j' = scanDown (fun x => !ltInt x d1[a]!) d1 i' j0) := Lib.hid ((dn_end (fun x => !ltInt x d1[a]!) d1 i' j' hle2).symm.trans H2.out.2)
            clear t1
            obtain ⟨w6, hw⟩ : ∃ xq, xq = wr.drewN nq := ⟨_, rfl⟩
            have H6 := Lib.hid (H2.out.1.draw nq)
            rw [← hw] at H6 ⊢
            clear hw
            have hc : ∀ t, t < N → w6.cell? ⟨g, off + t, none⟩ = some (.int .u64 (G t)) := fun t ht => by rw [HG.out]; exact H6.out.cell ht
            have hf : ∀ t, t < N → w6.frozen? ⟨g, off + t, none⟩ = false := fun t _ => H6.out.free t
            obtain ⟨v9, hy9⟩ : ∃ v', (w6.setCell ⟨g, off + j', none⟩ (.int .u64 (G a))).cell? ⟨g, off + a, none⟩ = some v' := ⟨_, (H6.out.put (by omega) (G a)).cell (by omega)⟩
            go_wp2_with fail
            go_region
            all_goals go_wp2
            all_goals go_ret2
            have h4 := (H6.out.swp (i := j') (j := a) (by omega) (by omega)).drew
            (repeat rw [← HG.out] at h4)
            have e : partition ltInt d a (j0 + 1) pivot = (j', true, swp d1 j' a) := whole_stop ltInt HD.out.symm HI2.out HJ2.out (by omega)
            rw [e]
            exact ⟨rfl, h4⟩
    · have t1 : decide ((i' : Int) ≤ (j0 : Int)) = false := decide_eq_false (by omega)
      go_wp2_with fail
      go_big_quiet (first | (go_at_call 56; refine Calls.quiet_of_same (less_any _ _ _)))
      go_wp2_with fail
      have HI2 : Hid (i' = scanUp (fun x => ltInt x d1[a]!) d1 j0 (a + 1)) := Lib.hid ((up_end (fun x => ltInt x d1[a]!) d1 j0 i' hle).symm.trans H1.out.2)
      obtain ⟨w5, hw⟩ : ∃ xq, xq = wr.drewN nq := ⟨_, rfl⟩
      have H5 := Lib.hid (H1.out.1.draw nq)
      rw [← hw] at H5 ⊢
      clear hw
      clear t1
      go_loopw [11] (fun vj w2 => ∃ j' : Nat, vj = .int .i64 j' ∧ j' ≤ j0 ∧ i' ≤ j' + 1 ∧ Hid (Ar w0 g off N Y Z w2 (d1) ∧ scanDown (fun x => !ltInt x d1[a]!) d1 i' j' = scanDown (fun x => !ltInt x d1[a]!) d1 i' j0)) (fun vj _ => (intOf vj).toNat)
      case atStart => exact ⟨j0, by go_num, Nat.le_refl _, by omega, ⟨H5.out, rfl⟩⟩
      case round =>
        obtain ⟨j', rfl, hjj, hij2, H2⟩ := hrel
        by_cases hle2 : i' ≤ j'
        · exfalso
          omega
        · have t1 : decide ((i' : Int) ≤ (j' : Int)) = false := decide_eq_false (by omega)
          go_wp2_with fail
          go_big_quiet (first | (go_at_call 56; refine Calls.quiet_of_same (less_any _ _ _)))
          go_wp2_with fail
          have HJ2 : Hid (j' = scanDown (fun x => !ltInt x d1[a]!) d1 i' j0) := Lib.hid ((dn_end (fun x => !ltInt x d1[a]!) d1 i' j' hle2).symm.trans H2.out.2)
          clear t1
          obtain ⟨w6, hw⟩ : ∃ xq, xq = wr.drewN nq := ⟨_, rfl⟩
          have H6 := Lib.hid (H2.out.1.draw nq)
          rw [← hw] at H6 ⊢
          clear hw
          have hc : ∀ t, t < N → w6.cell? ⟨g, off + t, none⟩ = some (.int .u64 (G t)) := fun t ht => by rw [HG.out]; exact H6.out.cell ht
          have hf : ∀ t, t < N → w6.frozen? ⟨g, off + t, none⟩ = false := fun t _ => H6.out.free t
          obtain ⟨v9, hy9⟩ : ∃ v', (w6.setCell ⟨g, off + j', none⟩ (.int .u64 (G a))).cell? ⟨g, off + a, none⟩ = some v' := ⟨_, (H6.out.put (by omega) (G a)).cell (by omega)⟩
          go_wp2_with fail
          go_region
          all_goals go_wp2
          all_goals go_ret2
          have h4 := (H6.out.swp (i := j') (j := a) (by omega) (by omega)).drew
          (repeat rw [← HG.out] at h4)
          have e : partition ltInt d a (j0 + 1) pivot = (j', true, swp d1 j' a) := whole_stop ltInt HD.out.symm HI2.out HJ2.out (by omega)
          rw [e]
          exact ⟨rfl, h4⟩
end Go.Proofs.Ytndjgbknhfficaa.So
