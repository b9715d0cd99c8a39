/- SoPins. -/
import Derived.Test.YtndjgbknhfficaaSoHeap
import Derived.Deep.DeepCutAuto
namespace Go.Proofs.Ytndjgbknhfficaa.So
open Go.RowKit Go.Sort Go.Proofs.Ytndjgbknhfficaa

section
variable {α : Type} [Inhabited α] (lt : α → α → Bool)
theorem scan_go (d : Array α) (b k : Nat) (h : k + 1 < b) (hl : lt d[k + 1]! d[k]! = false) : scanSorted lt d b (k + 1 + 1) = scanSorted lt d b (k + 1) := by
  conv => rhs; rw [scanSorted, if_pos (by simp [h, hl])]
theorem scan_no (d : Array α) (b k : Nat) (hl : lt d[k + 1]! d[k]! = true) : scanSorted lt d b (k + 1) = k + 1 := by
  rw [scanSorted, if_neg (by simp [hl])]
theorem scan_end (d : Array α) (b i : Nat) (h : ¬ i < b) : scanSorted lt d b i = i := by
  rw [scanSorted, if_neg (by simp [h])]
theorem dwn_go (d : Array α) (j : Nat) (hl : lt d[j + 1]! d[j]! = true) : shiftDown lt (j + 1) d = shiftDown lt j (swp d (j + 1) j) := by
  rw [shiftDown, hl]
  rfl
theorem dwn_no (d : Array α) (j : Nat) (hl : lt d[j + 1]! d[j]! = false) : shiftDown lt (j + 1) d = d := by
  rw [shiftDown, hl]
  rfl
theorem upp_go (d : Array α) (b k : Nat) (h : k + 1 < b) (hl : lt d[k + 1]! d[k]! = true) : shiftUp lt b (k + 1) d = shiftUp lt b (k + 1 + 1) (swp d (k + 1) k) := by
  rw [shiftUp, if_pos h, Nat.add_sub_cancel, hl]
  rfl
theorem upp_no (d : Array α) (b k : Nat) (hl : lt d[k + 1]! d[k]! = false) : shiftUp lt b (k + 1) d = d := by
  rw [shiftUp, Nat.add_sub_cancel, hl]
  by_cases h : k + 1 < b
  · rw [if_pos h]; rfl
  · rw [if_neg h]
theorem upp_end (d : Array α) (b j : Nat) (h : ¬ j < b) : shiftUp lt b j d = d := by
  rw [shiftUp, if_neg h]
theorem pins_yes {a b s i i2 : Nat} {d : Array α} (hi : i2 = scanSorted lt d b i) (h : i2 = b) : partialIns lt a b (s + 1) i d = (d, true) := by
  subst hi
  rw [partialIns]
  simp only [h, if_true]
theorem pins_short {a b s i i2 : Nat} {d : Array α} (hi : i2 = scanSorted lt d b i) (h : ¬ i2 = b) (h5 : b - a < 50) : partialIns lt a b (s + 1) i d = (d, false) := by
  subst hi
  rw [partialIns]
  simp only [h, if_false, h5, if_true]
theorem pins_on {a b s i k : Nat} {d : Array α} (hi : k + 1 = scanSorted lt d b i) (h : ¬ k + 1 = b) (h5 : ¬ b - a < 50) {d2 d3 : Array α} (h2 : (if k + 1 - a ≥ 2 then shiftDown lt k (swp d (k + 1) k) else swp d (k + 1) k) = d2) (h3 : (if b - (k + 1) ≥ 2 then shiftUp lt b (k + 1 + 1) d2 else d2) = d3) : partialIns lt a b (s + 1) i d = partialIns lt a b s (k + 1) d3 := by
  subst h3
  subst h2
  conv => lhs; rw [partialIns]
  simp only [← hi, h, if_false, h5, Nat.add_sub_cancel]
end

set_option maxRecDepth 100000 in
set_option maxHeartbeats 8000000 in
theorem pins_any {w0 : World} {g off N : Nat} {Y Z : List Value} {d : Array Int} {w : World} (cap a b : Nat) (h : Ar w0 g off N Y Z w (d)) (hab : a < b) (hb : b ≤ N) (hN : N < 4611686018427387904) :
    Calls Try.prog 55 #[.slice (some ⟨g, off, none⟩) N cap, .int .i64 a, .int .i64 b] w fun e w' => e = .returned (.bool (partialInsertionSort ltInt d a b).2) ∧ Ar w0 g off N Y Z w' ((partialInsertionSort ltInt d a b).1) := by
  have H0 := Lib.hid h
  clear h
  obtain ⟨R, hR⟩ : ∃ R, R = partialInsertionSort ltInt d a b := ⟨_, rfl⟩
  rw [← hR]
  have HRR : Hid (partialIns ltInt a b 5 (a + 1) d = R) := Lib.hid hR.symm
  clear hR
  go_enter Try.func55, Try.ntmps55
  go_wp2_with fail
  go_loopw [7, 8] (fun vi vs wr => ∃ (i s : Nat) (dk : Array Int), vi = .int .i64 i ∧ vs = .int .i64 (5 - (s : Int)) ∧ s ≤ 5 ∧ a < i ∧ i ≤ b ∧ Hid (Ar w0 g off N Y Z wr (dk) ∧ partialIns ltInt a b s i dk = R)) (fun _ vs _ => (5 - intOf vs).toNat)
  case atStart => exact ⟨a + 1, 5, d, by go_num, by go_num, Nat.le_refl _, by omega, by omega, ⟨H0.out, HRR.out⟩⟩
  case round =>
    obtain ⟨i, s, dk, rfl, rfl, hs5, hai, hib, HR⟩ := hrel
    cases s with
    | zero =>
      rw [show (5 - ((0 : Nat) : Int)) = 5 from rfl]
      go_wp2_with fail
      go_ret
      have e := HR.out.2
      rw [← e]
      exact ⟨rfl, HR.out.1⟩
    | succ s =>
      obtain ⟨z, hz⟩ : ∃ z : Int, z = 5 - ((s + 1 : Nat) : Int) := ⟨_, rfl⟩
      rw [← hz]
      have hz5 : z < 5 := by omega
      have hz0 : 0 ≤ z := by omega
      have HZ := Lib.hid hz
      clear hz
      obtain ⟨G, hG⟩ : ∃ G : Nat → Int, ∀ t, G t = dk[t]! := ⟨fun t => dk[t]!, fun _ => rfl⟩
      have HG := Lib.hid hG
      clear hG
      go_wp2_with fail
      go_loopw [7] (fun vi w1 => ∃ i' : Nat, vi = .int .i64 i' ∧ i ≤ i' ∧ i' ≤ b ∧ Hid (Ar w0 g off N Y Z w1 (dk) ∧ scanSorted ltInt dk b i' = scanSorted ltInt dk b i)) (fun vi _ => b - (intOf vi).toNat)
      case atStart => exact ⟨i, rfl, Nat.le_refl _, hib, ⟨HR.out.1, rfl⟩⟩
      case round =>
        obtain ⟨i', rfl, hii, hib', H1⟩ := hrel
        obtain ⟨k, rfl⟩ : ∃ k, i' = k + 1 := ⟨i' - 1, by omega⟩
        by_cases hlt : k + 1 < b
        rotate_left
        · have t1 : decide ((k : Int) + 1 < (b : Int)) = false := decide_eq_false (by omega)
          have hbk : b = k + 1 := by omega
          subst hbk
          have t1 : decide ((k : Int) + 1 < (k : Int) + 1) = false := by simp
          go_wp2_with fail
          go_big_quiet (first | (go_at_call 56; refine Calls.quiet_of_same (less_any _ _ _)))
          go_wp2_with fail
          go_ret
          have e := (pins_yes (a := a) (s := s) ltInt ((scan_end ltInt dk (k + 1) (k + 1) hlt).symm.trans H1.out.2) rfl).symm.trans HR.out.2
          rw [← e]
          exact ⟨rfl, H1.out.1.draw nq⟩
        have t1 : decide ((k : Int) + 1 < (b : Int)) = true := decide_eq_true (by omega)
        have hc : ∀ t, t < N → wr.cell? ⟨g, off + t, none⟩ = some (.int .u64 (G t)) := fun t ht => by rw [HG.out]; exact H1.out.1.cell ht
        have hf : ∀ t, t < N → wr.frozen? ⟨g, off + t, none⟩ = false := fun t _ => H1.out.1.free t
        go_wp2_with fail
        go_big_quiet (first | (go_at_call 56; refine Calls.quiet_of_same (less_any _ _ _)))
        go_wp2_with fail
        · have ht0 : (!ltInt (G (k + 1)) (G k)) = true := by assumption
          have ht : ltInt (G (k + 1)) (G k) = false := by simpa using ht0
          go_wp2
          go_roundw
          case rel => exact ⟨k + 1 + 1, by go_num, by omega, by omega, ⟨H1.out.1.draw nq, (scan_go ltInt dk b k hlt (by rw [← HG.out, ← HG.out]; exact ht)).trans H1.out.2⟩⟩
          case measure => first | (simp [intOf]; done) | (simp [intOf]; omega)
        ·
          have ht0 : (!ltInt (G (k + 1)) (G k)) = false := by assumption
          have ht : ltInt (G (k + 1)) (G k) = true := by simpa using ht0
          have HI2 : Hid (k + 1 = scanSorted ltInt dk b i) := Lib.hid ((scan_no ltInt dk b k (by rw [← HG.out, ← HG.out]; exact ht)).symm.trans H1.out.2)
          clear ht ht0 hc hf
          have h5 : (b : Int) - (a : Int) < 50 := by assumption
          go_ret
          have e := (pins_short (a := a) (s := s) ltInt HI2.out (by omega) (by omega)).symm.trans HR.out.2
          rw [← e]
          exact ⟨rfl, H1.out.1.draw nq⟩
        have ht0 : (!ltInt (G (k + 1)) (G k)) = false := by assumption
        have ht : ltInt (G (k + 1)) (G k) = true := by simpa using ht0
        have HI2 : Hid (k + 1 = scanSorted ltInt dk b i) := Lib.hid ((scan_no ltInt dk b k (by rw [← HG.out, ← HG.out]; exact ht)).symm.trans H1.out.2)
        clear ht ht0 hc hf
        have h5 : (50 : Int) ≤ (b : Int) - (a : Int) := by assumption
        obtain ⟨w5, hw⟩ : ∃ xq, xq = wr.drewN nq := ⟨_, rfl⟩
        have H5 := Lib.hid (H1.out.1.draw nq)
        rw [← hw] at H5 ⊢
        clear hw
        have hc : ∀ t, t < N → w5.cell? ⟨g, off + t, none⟩ = some (.int .u64 (G t)) := fun t ht => by rw [HG.out]; exact H5.out.cell ht
        have hf : ∀ t, t < N → w5.frozen? ⟨g, off + t, none⟩ = false := fun t _ => H5.out.free t
        go_region
        go_upto_if 61 with fail
        have h4 := (H5.out.swp (i := k + 1) (j := k) (by omega) (by omega)).drew
        (repeat rw [← HG.out] at h4)
        obtain ⟨w6, hw⟩ : ∃ xq, xq = ((w5.setCell ⟨g, off + (k + 1), none⟩ (.int .u64 (G k))).setCell ⟨g, off + k, none⟩ (.int .u64 (G (k + 1)))).drew := ⟨_, rfl⟩
        have H6 := Lib.hid (h4)
        rw [← hw] at H6 ⊢
        clear hw
        obtain ⟨d1, hd1⟩ : ∃ d1, d1 = swp dk (k + 1) k := ⟨_, rfl⟩
        rw [← hd1] at H6
        have HD1 := Lib.hid hd1
        clear hd1 h4 hc hf HG H5
        have h50 : ¬ b - a < 50 := by omega
        go_cut [] (fun wx => Hid (Ar w0 g off N Y Z wx (if k + 1 - a ≥ 2 then shiftDown ltInt k d1 else d1)))
        case first =>
          by_cases h2 : k + 1 - a ≥ 2
          rotate_left
          · have t1 : ¬ (2 : Int) ≤ (k : Int) + 1 - (a : Int) := by omega
            go_wp2
            go_meet
            rw [if_neg h2]
            exact H6
          have t1 : (2 : Int) ≤ (k : Int) + 1 - (a : Int) := by omega
          go_wp2_with fail
          go_loopw [9] (fun vj w1 => ∃ (j : Nat) (dj : Array Int), vj = .int .i64 j ∧ j ≤ k ∧ Hid (Ar w0 g off N Y Z w1 (dj) ∧ shiftDown ltInt j dj = shiftDown ltInt k d1)) (fun vj _ => (intOf vj).toNat)
          case atStart => exact ⟨k, d1, by go_num, Nat.le_refl _, ⟨H6.out, rfl⟩⟩
          case round =>
            obtain ⟨j, dj, rfl, hjk, HJ⟩ := hrel
            cases j with
            | zero =>
              go_wp2_with fail
              go_meet
              rw [if_pos h2, ← HJ.out.2]
              exact HJ.out.1
            | succ j =>
              obtain ⟨G, hG⟩ : ∃ G : Nat → Int, ∀ t, G t = dj[t]! := ⟨fun t => dj[t]!, fun _ => rfl⟩
              have HG := Lib.hid hG
              clear hG
              have hc : ∀ t, t < N → wr.cell? ⟨g, off + t, none⟩ = some (.int .u64 (G t)) := fun t ht => by rw [HG.out]; exact HJ.out.1.cell ht
              have hf : ∀ t, t < N → wr.frozen? ⟨g, off + t, none⟩ = false := fun t _ => HJ.out.1.free t
              go_wp2_with fail
              go_big_quiet (first | (go_at_call 56; refine Calls.quiet_of_same (less_any _ _ _)))
              go_wp2_with fail
              · have ht0 : (!ltInt (G (j + 1)) (G j)) = true := by assumption
                have ht : ltInt (G (j + 1)) (G j) = false := by simpa using ht0
                go_meet
                rw [if_pos h2, ← HJ.out.2, dwn_no ltInt dj j (by rw [← HG.out, ← HG.out]; exact ht)]
                exact HJ.out.1.draw nq
              have ht0 : (!ltInt (G (j + 1)) (G j)) = false := by assumption
              have ht : ltInt (G (j + 1)) (G j) = true := by simpa using ht0
              clear hc hf ht0
              obtain ⟨w8, hw⟩ : ∃ xq, xq = wr.drewN nq := ⟨_, rfl⟩
              have H8 := Lib.hid (HJ.out.1.draw nq)
              rw [← hw] at H8 ⊢
              clear hw
              have hc : ∀ t, t < N → w8.cell? ⟨g, off + t, none⟩ = some (.int .u64 (G t)) := fun t ht => by rw [HG.out]; exact H8.out.cell ht
              have hf : ∀ t, t < N → w8.frozen? ⟨g, off + t, none⟩ = false := fun t _ => H8.out.free t
              go_region
              all_goals go_wp2
              go_roundw
              case rel =>
                refine ⟨j, swp dj (j + 1) j, by go_num, by omega, ⟨?_, (dwn_go ltInt dj j (by rw [← HG.out, ← HG.out]; exact ht)).symm.trans HJ.out.2⟩⟩
                have h4 := (H8.out.swp (i := j + 1) (j := j) (by omega) (by omega)).drew
                (repeat rw [← HG.out] at h4)
                exact h4
              case measure => first | (simp [intOf]; done) | (simp [intOf]; omega)
        case rest =>
          obtain ⟨d2, hd2⟩ : ∃ d2, d2 = (if k + 1 - a ≥ 2 then shiftDown ltInt k d1 else d1) := ⟨_, rfl⟩
          rw [← hd2] at hcut
          have HD2 := Lib.hid hd2
          have HC2 := hcut
          obtain ⟨w9, hw9⟩ : ∃ w9, w9 = wc := ⟨_, rfl⟩
          rw [← hw9] at HC2 ⊢
          clear hd2 hcut hw9 H6
          go_upto_if 98 with fail
          by_cases h2 : b - (k + 1) ≥ 2
          rotate_left
          · have t1 : ¬ (2 : Int) ≤ (b : Int) - ((k : Int) + 1) := by omega
            go_wp2
            go_roundw
            case rel =>
              exact ⟨k + 1, s, d2, by go_num, by (first | (congr 1; have := HZ.out; omega) | (have := HZ.out; simp; omega)), by omega, by omega, by omega, ⟨HC2.out, (pins_on (d2 := d2) (d3 := d2) ltInt HI2.out (by omega) h50 (by rw [← HD1.out]; exact HD2.out.symm) (by rw [if_neg h2])).symm.trans HR.out.2⟩⟩
            case measure => (try simp only [intOf]); have := HZ.out; omega
          have t1 : (2 : Int) ≤ (b : Int) - ((k : Int) + 1) := by omega
          go_wp2_with fail
          go_loopw [10] (fun vj w1 => ∃ (m : Nat) (dj : Array Int), vj = .int .i64 ((m : Int) + 1) ∧ k + 1 ≤ m ∧ m + 1 ≤ b ∧ Hid (Ar w0 g off N Y Z w1 (dj) ∧ shiftUp ltInt b (m + 1) dj = shiftUp ltInt b (k + 1 + 1) d2)) (fun vj _ => b - (intOf vj).toNat)
          case atStart => exact ⟨k + 1, d2, by go_num, Nat.le_refl _, by omega, ⟨HC2.out, rfl⟩⟩
          case round =>
            obtain ⟨m, dj, rfl, hkm, hmb, HJ⟩ := hrel
            by_cases hm : m + 1 < b
            rotate_left
            · have t4 : ¬ (m : Int) + 1 < (b : Int) := by omega
              go_wp2
              go_roundw
              case rel =>
                exact ⟨k + 1, s, dj, by go_num, by (first | (congr 1; have := HZ.out; omega) | (have := HZ.out; simp; omega)), by omega, by omega, by omega, ⟨HJ.out.1, (pins_on (d2 := d2) (d3 := dj) ltInt HI2.out (by omega) h50 (by rw [← HD1.out]; exact HD2.out.symm) (by rw [if_pos h2, ← HJ.out.2, upp_end ltInt dj b (m + 1) hm])).symm.trans HR.out.2⟩⟩
              case measure => (try simp only [intOf]); have := HZ.out; omega
            have t4 : (m : Int) + 1 < (b : Int) := by omega
            obtain ⟨G, hG⟩ : ∃ G : Nat → Int, ∀ t, G t = dj[t]! := ⟨fun t => dj[t]!, fun _ => rfl⟩
            have HG := Lib.hid hG
            clear hG
            have hc : ∀ t, t < N → wr.cell? ⟨g, off + t, none⟩ = some (.int .u64 (G t)) := fun t ht => by rw [HG.out]; exact HJ.out.1.cell ht
            have hf : ∀ t, t < N → wr.frozen? ⟨g, off + t, none⟩ = false := fun t _ => HJ.out.1.free t
            go_wp2_with fail
            go_big_quiet (first | (go_at_call 56; refine Calls.quiet_of_same (less_any _ _ _)))
            go_wp2_with fail
            · have ht0 : (!ltInt (G (m + 1)) (G m)) = true := by assumption
              have ht : ltInt (G (m + 1)) (G m) = false := by simpa using ht0
              (try go_wp2)
              go_roundw
              case rel =>
                exact ⟨k + 1, s, dj, by go_num, by (first | (congr 1; have := HZ.out; omega) | (have := HZ.out; simp; omega)), by omega, by omega, by omega, ⟨HJ.out.1.draw nq, (pins_on (d2 := d2) (d3 := dj) ltInt HI2.out (by omega) h50 (by rw [← HD1.out]; exact HD2.out.symm) (by rw [if_pos h2, ← HJ.out.2, upp_no ltInt dj b m (by rw [← HG.out, ← HG.out]; exact ht)])).symm.trans HR.out.2⟩⟩
              case measure => (try simp only [intOf]); have := HZ.out; omega
            have ht0 : (!ltInt (G (m + 1)) (G m)) = false := by assumption
            have ht : ltInt (G (m + 1)) (G m) = true := by simpa using ht0
            clear hc hf ht0
            obtain ⟨w8, hw⟩ : ∃ xq, xq = wr.drewN nq := ⟨_, rfl⟩
            have H8 := Lib.hid (HJ.out.1.draw nq)
            rw [← hw] at H8 ⊢
            clear hw
            have hc : ∀ t, t < N → w8.cell? ⟨g, off + t, none⟩ = some (.int .u64 (G t)) := fun t ht => by rw [HG.out]; exact H8.out.cell ht
            have hf : ∀ t, t < N → w8.frozen? ⟨g, off + t, none⟩ = false := fun t _ => H8.out.free t
            go_region
            all_goals go_wp2
            go_roundw
            case rel =>
              refine ⟨m + 1, swp dj (m + 1) m, by go_num, by omega, by omega, ⟨?_, (upp_go ltInt dj b m hm (by rw [← HG.out, ← HG.out]; exact ht)).symm.trans HJ.out.2⟩⟩
              have h4 := (H8.out.swp (i := m + 1) (j := m) (by omega) (by omega)).drew
              (repeat rw [← HG.out] at h4)
              exact h4
            case measure => first | (simp [intOf]; done) | (simp [intOf]; omega)
end Go.Proofs.Ytndjgbknhfficaa.So
