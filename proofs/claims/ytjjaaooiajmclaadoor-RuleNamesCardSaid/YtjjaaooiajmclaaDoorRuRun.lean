/- The parser: run, with each of its three tests (written by genrun.py). -/
import Derived.Test.YtjjaaooiajmclaaDoorRuByte
namespace Go.Proofs.YtjjaaooiajmclaaDoor.Ru
open Go.RowKit Go.Proofs.YtjjaaooiajmclaaDoor

theorem run_take (m : Nat) (p : UInt8 → Bool) (r : List UInt8) : run m p r = r.take (run m p r).length := by
  unfold run
  have h := List.takeWhile_prefix (l := r.take m) p
  have h2 : (List.takeWhile p (r.take m)) <+: r := h.trans (List.take_prefix m r)
  exact List.prefix_iff_eq_take.1 h2
theorem run_spec {s : ByteArray} {k m : Nat} {p : UInt8 → Bool} (hk : k ≤ s.size) : k + (run m p (rest s k)).length ≤ s.size ∧ (run m p (rest s k)).length ≤ m ∧
    (∀ i (h : k + i < s.size), i < (run m p (rest s k)).length → p s[k + i] = true) ∧ (∀ h : k + (run m p (rest s k)).length < s.size, (run m p (rest s k)).length < m → p s[k + (run m p (rest s k)).length] = false) := by
  obtain ⟨h1, h2⟩ := run_len m p (rest s k)
  rw [rest_len] at h2
  refine ⟨by omega, h1, fun i h hi => ?_, fun h hm => ?_⟩
  · have h3 := run_all m p (rest s k) _ (List.getElem_mem hi)
    have h4 : (run m p (rest s k))[i] = s[k + i] := by
      have h5 := run_take m p (rest s k)
      have h6 : (run m p (rest s k))[i]? = (rest s k)[i]? := by
        conv => lhs; rw [h5]
        rw [List.getElem?_take, if_pos hi]
      rw [List.getElem?_eq_getElem hi] at h6
      unfold rest at h6
      rw [List.getElem?_drop, List.getElem?_eq_getElem (by simpa using h)] at h6
      exact Option.some.inj h6
    rw [h4] at h3
    exact h3
  · obtain ⟨n, hn⟩ : ∃ n, n = (run m p (rest s k)).length := ⟨_, rfl⟩
    cases hq : p s[k + (run m p (rest s k)).length] with
    | false => rfl
    | true =>
      exfalso
      have key : ∀ (r : List UInt8) (m n : Nat), n = (List.takeWhile p (r.take m)).length → n < m → (h : n < r.length) → p r[n] = false := by
        intro r
        induction r with
        | nil => intro m n _ _ h; cases h
        | cons c r ih =>
          intro m n h1 h2 h3
          match m, h2 with
          | m + 1, h2 =>
            rw [List.take_succ_cons, List.takeWhile_cons] at h1
            cases hc : p c
            · rw [hc] at h1
              simp at h1
              subst h1
              exact hc
            · rw [hc] at h1
              simp only [if_true, List.length_cons] at h1
              subst h1
              exact ih m _ rfl (by omega) (by simpa using h3)
      have h7 := key (rest s k) m _ (by unfold run at hn; exact hn) (by omega) (by rw [rest_len]; omega)
      unfold rest at h7
      rw [List.getElem_drop] at h7
      simp only [hn] at h7
      have h8 : p s[k + (run m p (rest s k)).length] = false := h7
      rw [hq] at h8
      cases h8
theorem bs_sub (s : ByteArray) (k l : Nat) : s.extract k (k + l) = bs ((rest s k).take l) := by
  unfold bs rest
  apply ByteArray.ext
  rw [ByteArray.data_extract]
  apply Array.toList_inj.1
  simp only [Array.toList_extract, List.extract_eq_take_drop]
  congr 1
  omega

set_option maxRecDepth 100000 in
set_option maxHeartbeats 1000000 in
theorem run_name (base b : Nat) (s : ByteArray) (k : Nat) (d n : Int) (v : Value) (L : List Nd) (e a : Int) (w : World) (h : Prs base w b s k d n v L e a) :
    Calls Tryd.prog 49 #[ptr b, .int .i64 24, .func (.func 50) #[] #[]] w fun r w' => r = .returned (.string (bs (run 24 nmc (rest s k)))) ∧ Prs base w' b s (k + (run 24 nmc (rest s k)).length) d n v L e a ∧ Onb b w w' := by
  obtain ⟨g1, g2, g3, g4⟩ := run_spec (m := 24) (p := nmc) h.kb
  obtain ⟨t, ht⟩ : ∃ t, t = bs (run 24 nmc (rest s k)) := ⟨_, rfl⟩
  obtain ⟨l, hl⟩ : ∃ l, l = (run 24 nmc (rest s k)).length := ⟨_, rfl⟩
  have HEX : Hid (s.extract k (k + l) = t) := Lib.hid (by rw [ht, hl, bs_sub]; congr 1; exact (run_take _ _ _).symm)
  rw [← ht, ← hl]
  rw [← hl] at g1 g2
  have HYES : Hid (∀ i (h : k + i < s.size), i < l → nmc s[k + i] = true) := Lib.hid (fun i h hi => g3 i h (by omega))
  have HNO : Hid (∀ h : k + l < s.size, l < 24 → nmc s[k + l] = false) := Lib.hid (by subst hl; exact g4)
  have HPC : Hid (∀ (c : UInt8) w, Calls Tryd.prog 50 #[.int .u8 (c.toNat : Int)] w fun e w' => e = .returned (.bool (nmc c)) ∧ w = w') := Lib.hid inName_any
  have H := Lib.hid h
  have hsz := h.sz
  have hkb := h.kb
  have c1 := h.c1
  clear h g3 g4 ht hl
  go_enter Tryd.func49, Tryd.ntmps49
  go_wp2
  go_loopw [] (fun wr => ∃ i : Nat, i ≤ l ∧ Hid (Prs base wr b s (k + i) d n v L e a) ∧ Hid (Onb b w wr)) (fun wr => k + l - (intOf ((wr.cell? ⟨b, 1, none⟩).getD undef)).toNat)
  case atStart => exact ⟨0, Nat.zero_le _, H, Lib.hid (Frp.refl _ _)⟩
  case round =>
    obtain ⟨i, h2, HP, HF⟩ := hrel
    obtain ⟨j, hj⟩ : ∃ j, j = k + i := ⟨_, rfl⟩
    rw [← hj] at HP
    have HJ := Lib.hid hj
    have hkj : k ≤ j ∧ j ≤ s.size ∧ j - k = i := by omega
    obtain ⟨k1, k2, k3⟩ := hkj
    clear hj
    have b0 := HP.out.p0
    have b1 := HP.out.p1
    have i0 : (0 : Int) ≤ (j : Int) := by omega
    have u1 : IntKind.i64.wrap ((j : Int) - (k : Int)) = (j : Int) - (k : Int) := by rw [IntKind.wrap_i64]; omega
    by_cases hlt : i < l
    · have i2 : j < s.size := by have := HJ.out; omega
      have i1 : (j : Int) < (s.size : Int) := by omega
      have i3 : (j : Int) - (k : Int) < 24 := by omega
      obtain ⟨c, hc⟩ : ∃ c, c = s[j] := ⟨_, rfl⟩
      have hcc : s[j] = c := hc.symm
      have t1 : nmc c = true := by rw [hc]; have := HJ.out; subst this; exact HYES.out i i2 hlt
      clear hc
      go_wp2
      refine wp_region_past (by kernel_rfl) (by kernel_rfl) ?_
      repeat (go_big_quiet_step ((go_at_call 50; exact past_call_same (HPC.out _ _))))
      refine wpQuiet_nil ?_
      intro _ hw'
      obtain ⟨s9, hw''⟩ := hw'
      subst hw''
      obtain ⟨w9, h9, e9⟩ : ∃ w9, Below wr.heap.size wr w9 ∧ w9 = s9.val := ⟨_, s9.h, rfl⟩
      rw [← e9]
      have HN := Lib.hid (HP.out.kept h9)
      have HF9 : Hid (Onb b w w9) := Lib.hid (HF.out.next h9)
      clear h9 e9 b0 b1
      have c1 := HN.out.c1
      have f1 := HN.out.fr 1
      go_wp2
      go_roundw
      case rel => exact ⟨i + 1, hlt, Lib.hid (by have := HN.out.at (k' := k + (i + 1)) (by omega); rw [HJ.out]; simpa [Int.add_assoc] using this), Lib.hid (Onb.set HF9.out 1 _)⟩
      case measure =>
        have e1 := HP.out.c1
        have e2 := (HN.out.blk.set 1 (.int .i64 ((j : Int) + 1))).cell (j := 1) rfl
        rw [e1, e2]
        simp [intOf]; omega
    · obtain rfl : i = l := by omega
      have j1 : (k : Int) ≤ (j : Int) := by omega
      have j2 : (j : Int) ≤ (s.size : Int) := by omega
      have hj := HJ.out
      rw [← hj] at HEX ⊢
      clear hj
      by_cases hin : j < s.size
      · have i1 : (j : Int) < (s.size : Int) := by omega
        by_cases hm : i < 24
        · have i3 : (j : Int) - (k : Int) < 24 := by omega
          obtain ⟨c, hc⟩ : ∃ c, c = s[j] := ⟨_, rfl⟩
          have hcc : s[j] = c := hc.symm
          have t1 : nmc c = false := by rw [hc]; have := HJ.out; subst this; exact HNO.out hin hm
          clear hc
          go_wp2
          refine wp_region_past (by kernel_rfl) (by kernel_rfl) ?_
          repeat (go_big_quiet_step ((go_at_call 50; exact past_call_same (HPC.out _ _))))
          refine wpQuiet_nil ?_
          intro _ hw'
          obtain ⟨s9, hw''⟩ := hw'
          subst hw''
          obtain ⟨w9, h9, e9⟩ : ∃ w9, Below wr.heap.size wr w9 ∧ w9 = s9.val := ⟨_, s9.h, rfl⟩
          rw [← e9]
          have HN := Lib.hid (HP.out.kept h9)
          have HF9 : Hid (Onb b w w9) := Lib.hid (HF.out.next h9)
          clear h9 e9 b0 b1
          have g0 := HN.out.p0
          have g1 := HN.out.p1
          go_wp2
          refine wp_region_past (by kernel_rfl) (by kernel_rfl) ?_
          repeat (go_big_quiet_step (fail))
          refine wpQuiet_nil ?_
          intro _ hw'
          obtain ⟨s8, hw''⟩ := hw'
          subst hw''
          obtain ⟨w8, h8, e8⟩ : ∃ w8, Below w9.heap.size w9 w8 ∧ w8 = s8.val := ⟨_, s8.h, rfl⟩
          rw [← e8]
          have H8 := Lib.hid (HN.out.kept h8)
          have HF8 : Hid (Onb b w w8) := Lib.hid (HF9.out.next h8)
          clear h8 e8 g0 g1
          go_wp2
          go_ret
          exact ⟨(by rw [HEX.out]; rfl), (by rw [← HJ.out]; exact H8.out), HF8.out⟩
        · have i3 : ¬ (j : Int) - (k : Int) < 24 := by omega
          have i4 : decide ((j : Int) - (k : Int) < 24) = false := decide_eq_false i3
          go_wp2
          refine wp_region_past (by kernel_rfl) (by kernel_rfl) ?_
          repeat (go_big_quiet_step ((go_at_call 50; exact past_call_same (HPC.out _ _))))
          refine wpQuiet_nil ?_
          intro _ hw'
          obtain ⟨s9, hw''⟩ := hw'
          subst hw''
          obtain ⟨w9, h9, e9⟩ : ∃ w9, Below wr.heap.size wr w9 ∧ w9 = s9.val := ⟨_, s9.h, rfl⟩
          rw [← e9]
          have HN := Lib.hid (HP.out.kept h9)
          have HF9 : Hid (Onb b w w9) := Lib.hid (HF.out.next h9)
          clear h9 e9 b0 b1
          have g0 := HN.out.p0
          have g1 := HN.out.p1
          go_wp2
          refine wp_region_past (by kernel_rfl) (by kernel_rfl) ?_
          repeat (go_big_quiet_step (fail))
          refine wpQuiet_nil ?_
          intro _ hw'
          obtain ⟨s8, hw''⟩ := hw'
          subst hw''
          obtain ⟨w8, h8, e8⟩ : ∃ w8, Below w9.heap.size w9 w8 ∧ w8 = s8.val := ⟨_, s8.h, rfl⟩
          rw [← e8]
          have H8 := Lib.hid (HN.out.kept h8)
          have HF8 : Hid (Onb b w w8) := Lib.hid (HF9.out.next h8)
          clear h8 e8 g0 g1
          go_wp2
          go_ret
          exact ⟨(by rw [HEX.out]; rfl), (by rw [← HJ.out]; exact H8.out), HF8.out⟩
      · have i1 : ¬ (j : Int) < (s.size : Int) := by omega
        have i4 : decide ((j : Int) < (s.size : Int)) = false := decide_eq_false i1
        go_wp2
        refine wp_region_past (by kernel_rfl) (by kernel_rfl) ?_
        repeat (go_big_quiet_step ((go_at_call 50; exact past_call_same (HPC.out _ _))))
        refine wpQuiet_nil ?_
        intro _ hw'
        obtain ⟨s9, hw''⟩ := hw'
        subst hw''
        obtain ⟨w9, h9, e9⟩ : ∃ w9, Below wr.heap.size wr w9 ∧ w9 = s9.val := ⟨_, s9.h, rfl⟩
        rw [← e9]
        have HN := Lib.hid (HP.out.kept h9)
        have HF9 : Hid (Onb b w w9) := Lib.hid (HF.out.next h9)
        clear h9 e9 b0 b1
        have g0 := HN.out.p0
        have g1 := HN.out.p1
        go_wp2
        refine wp_region_past (by kernel_rfl) (by kernel_rfl) ?_
        repeat (go_big_quiet_step (fail))
        refine wpQuiet_nil ?_
        intro _ hw'
        obtain ⟨s8, hw''⟩ := hw'
        subst hw''
        obtain ⟨w8, h8, e8⟩ : ∃ w8, Below w9.heap.size w9 w8 ∧ w8 = s8.val := ⟨_, s8.h, rfl⟩
        rw [← e8]
        have H8 := Lib.hid (HN.out.kept h8)
        have HF8 : Hid (Onb b w w8) := Lib.hid (HF9.out.next h8)
        clear h8 e8 g0 g1
        go_wp2
        go_ret
        exact ⟨(by rw [HEX.out]; rfl), (by rw [← HJ.out]; exact H8.out), HF8.out⟩

set_option maxRecDepth 100000 in
set_option maxHeartbeats 1000000 in
theorem run_word (base b : Nat) (s : ByteArray) (k : Nat) (d n : Int) (v : Value) (L : List Nd) (e a : Int) (w : World) (h : Prs base w b s k d n v L e a) :
    Calls Tryd.prog 49 #[ptr b, .int .i64 32, .func (.func 46) #[] #[]] w fun r w' => r = .returned (.string (bs (run 32 wdc (rest s k)))) ∧ Prs base w' b s (k + (run 32 wdc (rest s k)).length) d n v L e a ∧ Onb b w w' := by
  obtain ⟨g1, g2, g3, g4⟩ := run_spec (m := 32) (p := wdc) h.kb
  obtain ⟨t, ht⟩ : ∃ t, t = bs (run 32 wdc (rest s k)) := ⟨_, rfl⟩
  obtain ⟨l, hl⟩ : ∃ l, l = (run 32 wdc (rest s k)).length := ⟨_, rfl⟩
  have HEX : Hid (s.extract k (k + l) = t) := Lib.hid (by rw [ht, hl, bs_sub]; congr 1; exact (run_take _ _ _).symm)
  rw [← ht, ← hl]
  rw [← hl] at g1 g2
  have HYES : Hid (∀ i (h : k + i < s.size), i < l → wdc s[k + i] = true) := Lib.hid (fun i h hi => g3 i h (by omega))
  have HNO : Hid (∀ h : k + l < s.size, l < 32 → wdc s[k + l] = false) := Lib.hid (by subst hl; exact g4)
  have HPC : Hid (∀ (c : UInt8) w, Calls Tryd.prog 46 #[.int .u8 (c.toNat : Int)] w fun e w' => e = .returned (.bool (wdc c)) ∧ w = w') := Lib.hid inWord_any
  have H := Lib.hid h
  have hsz := h.sz
  have hkb := h.kb
  have c1 := h.c1
  clear h g3 g4 ht hl
  go_enter Tryd.func49, Tryd.ntmps49
  go_wp2
  go_loopw [] (fun wr => ∃ i : Nat, i ≤ l ∧ Hid (Prs base wr b s (k + i) d n v L e a) ∧ Hid (Onb b w wr)) (fun wr => k + l - (intOf ((wr.cell? ⟨b, 1, none⟩).getD undef)).toNat)
  case atStart => exact ⟨0, Nat.zero_le _, H, Lib.hid (Frp.refl _ _)⟩
  case round =>
    obtain ⟨i, h2, HP, HF⟩ := hrel
    obtain ⟨j, hj⟩ : ∃ j, j = k + i := ⟨_, rfl⟩
    rw [← hj] at HP
    have HJ := Lib.hid hj
    have hkj : k ≤ j ∧ j ≤ s.size ∧ j - k = i := by omega
    obtain ⟨k1, k2, k3⟩ := hkj
    clear hj
    have b0 := HP.out.p0
    have b1 := HP.out.p1
    have i0 : (0 : Int) ≤ (j : Int) := by omega
    have u1 : IntKind.i64.wrap ((j : Int) - (k : Int)) = (j : Int) - (k : Int) := by rw [IntKind.wrap_i64]; omega
    by_cases hlt : i < l
    · have i2 : j < s.size := by have := HJ.out; omega
      have i1 : (j : Int) < (s.size : Int) := by omega
      have i3 : (j : Int) - (k : Int) < 32 := by omega
      obtain ⟨c, hc⟩ : ∃ c, c = s[j] := ⟨_, rfl⟩
      have hcc : s[j] = c := hc.symm
      have t1 : wdc c = true := by rw [hc]; have := HJ.out; subst this; exact HYES.out i i2 hlt
      clear hc
      go_wp2
      refine wp_region_past (by kernel_rfl) (by kernel_rfl) ?_
      repeat (go_big_quiet_step ((go_at_call 46; exact past_call_same (HPC.out _ _))))
      refine wpQuiet_nil ?_
      intro _ hw'
      obtain ⟨s9, hw''⟩ := hw'
      subst hw''
      obtain ⟨w9, h9, e9⟩ : ∃ w9, Below wr.heap.size wr w9 ∧ w9 = s9.val := ⟨_, s9.h, rfl⟩
      rw [← e9]
      have HN := Lib.hid (HP.out.kept h9)
      have HF9 : Hid (Onb b w w9) := Lib.hid (HF.out.next h9)
      clear h9 e9 b0 b1
      have c1 := HN.out.c1
      have f1 := HN.out.fr 1
      go_wp2
      go_roundw
      case rel => exact ⟨i + 1, hlt, Lib.hid (by have := HN.out.at (k' := k + (i + 1)) (by omega); rw [HJ.out]; simpa [Int.add_assoc] using this), Lib.hid (Onb.set HF9.out 1 _)⟩
      case measure =>
        have e1 := HP.out.c1
        have e2 := (HN.out.blk.set 1 (.int .i64 ((j : Int) + 1))).cell (j := 1) rfl
        rw [e1, e2]
        simp [intOf]; omega
    · obtain rfl : i = l := by omega
      have j1 : (k : Int) ≤ (j : Int) := by omega
      have j2 : (j : Int) ≤ (s.size : Int) := by omega
      have hj := HJ.out
      rw [← hj] at HEX ⊢
      clear hj
      by_cases hin : j < s.size
      · have i1 : (j : Int) < (s.size : Int) := by omega
        by_cases hm : i < 32
        · have i3 : (j : Int) - (k : Int) < 32 := by omega
          obtain ⟨c, hc⟩ : ∃ c, c = s[j] := ⟨_, rfl⟩
          have hcc : s[j] = c := hc.symm
          have t1 : wdc c = false := by rw [hc]; have := HJ.out; subst this; exact HNO.out hin hm
          clear hc
          go_wp2
          refine wp_region_past (by kernel_rfl) (by kernel_rfl) ?_
          repeat (go_big_quiet_step ((go_at_call 46; exact past_call_same (HPC.out _ _))))
          refine wpQuiet_nil ?_
          intro _ hw'
          obtain ⟨s9, hw''⟩ := hw'
          subst hw''
          obtain ⟨w9, h9, e9⟩ : ∃ w9, Below wr.heap.size wr w9 ∧ w9 = s9.val := ⟨_, s9.h, rfl⟩
          rw [← e9]
          have HN := Lib.hid (HP.out.kept h9)
          have HF9 : Hid (Onb b w w9) := Lib.hid (HF.out.next h9)
          clear h9 e9 b0 b1
          have g0 := HN.out.p0
          have g1 := HN.out.p1
          go_wp2
          refine wp_region_past (by kernel_rfl) (by kernel_rfl) ?_
          repeat (go_big_quiet_step (fail))
          refine wpQuiet_nil ?_
          intro _ hw'
          obtain ⟨s8, hw''⟩ := hw'
          subst hw''
          obtain ⟨w8, h8, e8⟩ : ∃ w8, Below w9.heap.size w9 w8 ∧ w8 = s8.val := ⟨_, s8.h, rfl⟩
          rw [← e8]
          have H8 := Lib.hid (HN.out.kept h8)
          have HF8 : Hid (Onb b w w8) := Lib.hid (HF9.out.next h8)
          clear h8 e8 g0 g1
          go_wp2
          go_ret
          exact ⟨(by rw [HEX.out]; rfl), (by rw [← HJ.out]; exact H8.out), HF8.out⟩
        · have i3 : ¬ (j : Int) - (k : Int) < 32 := by omega
          have i4 : decide ((j : Int) - (k : Int) < 32) = false := decide_eq_false i3
          go_wp2
          refine wp_region_past (by kernel_rfl) (by kernel_rfl) ?_
          repeat (go_big_quiet_step ((go_at_call 46; exact past_call_same (HPC.out _ _))))
          refine wpQuiet_nil ?_
          intro _ hw'
          obtain ⟨s9, hw''⟩ := hw'
          subst hw''
          obtain ⟨w9, h9, e9⟩ : ∃ w9, Below wr.heap.size wr w9 ∧ w9 = s9.val := ⟨_, s9.h, rfl⟩
          rw [← e9]
          have HN := Lib.hid (HP.out.kept h9)
          have HF9 : Hid (Onb b w w9) := Lib.hid (HF.out.next h9)
          clear h9 e9 b0 b1
          have g0 := HN.out.p0
          have g1 := HN.out.p1
          go_wp2
          refine wp_region_past (by kernel_rfl) (by kernel_rfl) ?_
          repeat (go_big_quiet_step (fail))
          refine wpQuiet_nil ?_
          intro _ hw'
          obtain ⟨s8, hw''⟩ := hw'
          subst hw''
          obtain ⟨w8, h8, e8⟩ : ∃ w8, Below w9.heap.size w9 w8 ∧ w8 = s8.val := ⟨_, s8.h, rfl⟩
          rw [← e8]
          have H8 := Lib.hid (HN.out.kept h8)
          have HF8 : Hid (Onb b w w8) := Lib.hid (HF9.out.next h8)
          clear h8 e8 g0 g1
          go_wp2
          go_ret
          exact ⟨(by rw [HEX.out]; rfl), (by rw [← HJ.out]; exact H8.out), HF8.out⟩
      · have i1 : ¬ (j : Int) < (s.size : Int) := by omega
        have i4 : decide ((j : Int) < (s.size : Int)) = false := decide_eq_false i1
        go_wp2
        refine wp_region_past (by kernel_rfl) (by kernel_rfl) ?_
        repeat (go_big_quiet_step ((go_at_call 46; exact past_call_same (HPC.out _ _))))
        refine wpQuiet_nil ?_
        intro _ hw'
        obtain ⟨s9, hw''⟩ := hw'
        subst hw''
        obtain ⟨w9, h9, e9⟩ : ∃ w9, Below wr.heap.size wr w9 ∧ w9 = s9.val := ⟨_, s9.h, rfl⟩
        rw [← e9]
        have HN := Lib.hid (HP.out.kept h9)
        have HF9 : Hid (Onb b w w9) := Lib.hid (HF.out.next h9)
        clear h9 e9 b0 b1
        have g0 := HN.out.p0
        have g1 := HN.out.p1
        go_wp2
        refine wp_region_past (by kernel_rfl) (by kernel_rfl) ?_
        repeat (go_big_quiet_step (fail))
        refine wpQuiet_nil ?_
        intro _ hw'
        obtain ⟨s8, hw''⟩ := hw'
        subst hw''
        obtain ⟨w8, h8, e8⟩ : ∃ w8, Below w9.heap.size w9 w8 ∧ w8 = s8.val := ⟨_, s8.h, rfl⟩
        rw [← e8]
        have H8 := Lib.hid (HN.out.kept h8)
        have HF8 : Hid (Onb b w w8) := Lib.hid (HF9.out.next h8)
        clear h8 e8 g0 g1
        go_wp2
        go_ret
        exact ⟨(by rw [HEX.out]; rfl), (by rw [← HJ.out]; exact H8.out), HF8.out⟩

set_option maxRecDepth 100000 in
set_option maxHeartbeats 1000000 in
theorem run_digs (base b : Nat) (s : ByteArray) (k : Nat) (d n : Int) (v : Value) (L : List Nd) (e a : Int) (w : World) (h : Prs base w b s k d n v L e a) :
    Calls Tryd.prog 49 #[ptr b, .int .i64 12, .func (.func 45) #[] #[]] w fun r w' => r = .returned (.string (bs (run 12 dgt (rest s k)))) ∧ Prs base w' b s (k + (run 12 dgt (rest s k)).length) d n v L e a ∧ Onb b w w' := by
  obtain ⟨g1, g2, g3, g4⟩ := run_spec (m := 12) (p := dgt) h.kb
  obtain ⟨t, ht⟩ : ∃ t, t = bs (run 12 dgt (rest s k)) := ⟨_, rfl⟩
  obtain ⟨l, hl⟩ : ∃ l, l = (run 12 dgt (rest s k)).length := ⟨_, rfl⟩
  have HEX : Hid (s.extract k (k + l) = t) := Lib.hid (by rw [ht, hl, bs_sub]; congr 1; exact (run_take _ _ _).symm)
  rw [← ht, ← hl]
  rw [← hl] at g1 g2
  have HYES : Hid (∀ i (h : k + i < s.size), i < l → dgt s[k + i] = true) := Lib.hid (fun i h hi => g3 i h (by omega))
  have HNO : Hid (∀ h : k + l < s.size, l < 12 → dgt s[k + l] = false) := Lib.hid (by subst hl; exact g4)
  have HPC : Hid (∀ (c : UInt8) w, Calls Tryd.prog 45 #[.int .u8 (c.toNat : Int)] w fun e w' => e = .returned (.bool (dgt c)) ∧ w = w') := Lib.hid digit_any
  have H := Lib.hid h
  have hsz := h.sz
  have hkb := h.kb
  have c1 := h.c1
  clear h g3 g4 ht hl
  go_enter Tryd.func49, Tryd.ntmps49
  go_wp2
  go_loopw [] (fun wr => ∃ i : Nat, i ≤ l ∧ Hid (Prs base wr b s (k + i) d n v L e a) ∧ Hid (Onb b w wr)) (fun wr => k + l - (intOf ((wr.cell? ⟨b, 1, none⟩).getD undef)).toNat)
  case atStart => exact ⟨0, Nat.zero_le _, H, Lib.hid (Frp.refl _ _)⟩
  case round =>
    obtain ⟨i, h2, HP, HF⟩ := hrel
    obtain ⟨j, hj⟩ : ∃ j, j = k + i := ⟨_, rfl⟩
    rw [← hj] at HP
    have HJ := Lib.hid hj
    have hkj : k ≤ j ∧ j ≤ s.size ∧ j - k = i := by omega
    obtain ⟨k1, k2, k3⟩ := hkj
    clear hj
    have b0 := HP.out.p0
    have b1 := HP.out.p1
    have i0 : (0 : Int) ≤ (j : Int) := by omega
    have u1 : IntKind.i64.wrap ((j : Int) - (k : Int)) = (j : Int) - (k : Int) := by rw [IntKind.wrap_i64]; omega
    by_cases hlt : i < l
    · have i2 : j < s.size := by have := HJ.out; omega
      have i1 : (j : Int) < (s.size : Int) := by omega
      have i3 : (j : Int) - (k : Int) < 12 := by omega
      obtain ⟨c, hc⟩ : ∃ c, c = s[j] := ⟨_, rfl⟩
      have hcc : s[j] = c := hc.symm
      have t1 : dgt c = true := by rw [hc]; have := HJ.out; subst this; exact HYES.out i i2 hlt
      clear hc
      go_wp2
      refine wp_region_past (by kernel_rfl) (by kernel_rfl) ?_
      repeat (go_big_quiet_step ((go_at_call 45; exact past_call_same (HPC.out _ _))))
      refine wpQuiet_nil ?_
      intro _ hw'
      obtain ⟨s9, hw''⟩ := hw'
      subst hw''
      obtain ⟨w9, h9, e9⟩ : ∃ w9, Below wr.heap.size wr w9 ∧ w9 = s9.val := ⟨_, s9.h, rfl⟩
      rw [← e9]
      have HN := Lib.hid (HP.out.kept h9)
      have HF9 : Hid (Onb b w w9) := Lib.hid (HF.out.next h9)
      clear h9 e9 b0 b1
      have c1 := HN.out.c1
      have f1 := HN.out.fr 1
      go_wp2
      go_roundw
      case rel => exact ⟨i + 1, hlt, Lib.hid (by have := HN.out.at (k' := k + (i + 1)) (by omega); rw [HJ.out]; simpa [Int.add_assoc] using this), Lib.hid (Onb.set HF9.out 1 _)⟩
      case measure =>
        have e1 := HP.out.c1
        have e2 := (HN.out.blk.set 1 (.int .i64 ((j : Int) + 1))).cell (j := 1) rfl
        rw [e1, e2]
        simp [intOf]; omega
    · obtain rfl : i = l := by omega
      have j1 : (k : Int) ≤ (j : Int) := by omega
      have j2 : (j : Int) ≤ (s.size : Int) := by omega
      have hj := HJ.out
      rw [← hj] at HEX ⊢
      clear hj
      by_cases hin : j < s.size
      · have i1 : (j : Int) < (s.size : Int) := by omega
        by_cases hm : i < 12
        · have i3 : (j : Int) - (k : Int) < 12 := by omega
          obtain ⟨c, hc⟩ : ∃ c, c = s[j] := ⟨_, rfl⟩
          have hcc : s[j] = c := hc.symm
          have t1 : dgt c = false := by rw [hc]; have := HJ.out; subst this; exact HNO.out hin hm
          clear hc
          go_wp2
          refine wp_region_past (by kernel_rfl) (by kernel_rfl) ?_
          repeat (go_big_quiet_step ((go_at_call 45; exact past_call_same (HPC.out _ _))))
          refine wpQuiet_nil ?_
          intro _ hw'
          obtain ⟨s9, hw''⟩ := hw'
          subst hw''
          obtain ⟨w9, h9, e9⟩ : ∃ w9, Below wr.heap.size wr w9 ∧ w9 = s9.val := ⟨_, s9.h, rfl⟩
          rw [← e9]
          have HN := Lib.hid (HP.out.kept h9)
          have HF9 : Hid (Onb b w w9) := Lib.hid (HF.out.next h9)
          clear h9 e9 b0 b1
          have g0 := HN.out.p0
          have g1 := HN.out.p1
          go_wp2
          refine wp_region_past (by kernel_rfl) (by kernel_rfl) ?_
          repeat (go_big_quiet_step (fail))
          refine wpQuiet_nil ?_
          intro _ hw'
          obtain ⟨s8, hw''⟩ := hw'
          subst hw''
          obtain ⟨w8, h8, e8⟩ : ∃ w8, Below w9.heap.size w9 w8 ∧ w8 = s8.val := ⟨_, s8.h, rfl⟩
          rw [← e8]
          have H8 := Lib.hid (HN.out.kept h8)
          have HF8 : Hid (Onb b w w8) := Lib.hid (HF9.out.next h8)
          clear h8 e8 g0 g1
          go_wp2
          go_ret
          exact ⟨(by rw [HEX.out]; rfl), (by rw [← HJ.out]; exact H8.out), HF8.out⟩
        · have i3 : ¬ (j : Int) - (k : Int) < 12 := by omega
          have i4 : decide ((j : Int) - (k : Int) < 12) = false := decide_eq_false i3
          go_wp2
          refine wp_region_past (by kernel_rfl) (by kernel_rfl) ?_
          repeat (go_big_quiet_step ((go_at_call 45; exact past_call_same (HPC.out _ _))))
          refine wpQuiet_nil ?_
          intro _ hw'
          obtain ⟨s9, hw''⟩ := hw'
          subst hw''
          obtain ⟨w9, h9, e9⟩ : ∃ w9, Below wr.heap.size wr w9 ∧ w9 = s9.val := ⟨_, s9.h, rfl⟩
          rw [← e9]
          have HN := Lib.hid (HP.out.kept h9)
          have HF9 : Hid (Onb b w w9) := Lib.hid (HF.out.next h9)
          clear h9 e9 b0 b1
          have g0 := HN.out.p0
          have g1 := HN.out.p1
          go_wp2
          refine wp_region_past (by kernel_rfl) (by kernel_rfl) ?_
          repeat (go_big_quiet_step (fail))
          refine wpQuiet_nil ?_
          intro _ hw'
          obtain ⟨s8, hw''⟩ := hw'
          subst hw''
          obtain ⟨w8, h8, e8⟩ : ∃ w8, Below w9.heap.size w9 w8 ∧ w8 = s8.val := ⟨_, s8.h, rfl⟩
          rw [← e8]
          have H8 := Lib.hid (HN.out.kept h8)
          have HF8 : Hid (Onb b w w8) := Lib.hid (HF9.out.next h8)
          clear h8 e8 g0 g1
          go_wp2
          go_ret
          exact ⟨(by rw [HEX.out]; rfl), (by rw [← HJ.out]; exact H8.out), HF8.out⟩
      · have i1 : ¬ (j : Int) < (s.size : Int) := by omega
        have i4 : decide ((j : Int) < (s.size : Int)) = false := decide_eq_false i1
        go_wp2
        refine wp_region_past (by kernel_rfl) (by kernel_rfl) ?_
        repeat (go_big_quiet_step ((go_at_call 45; exact past_call_same (HPC.out _ _))))
        refine wpQuiet_nil ?_
        intro _ hw'
        obtain ⟨s9, hw''⟩ := hw'
        subst hw''
        obtain ⟨w9, h9, e9⟩ : ∃ w9, Below wr.heap.size wr w9 ∧ w9 = s9.val := ⟨_, s9.h, rfl⟩
        rw [← e9]
        have HN := Lib.hid (HP.out.kept h9)
        have HF9 : Hid (Onb b w w9) := Lib.hid (HF.out.next h9)
        clear h9 e9 b0 b1
        have g0 := HN.out.p0
        have g1 := HN.out.p1
        go_wp2
        refine wp_region_past (by kernel_rfl) (by kernel_rfl) ?_
        repeat (go_big_quiet_step (fail))
        refine wpQuiet_nil ?_
        intro _ hw'
        obtain ⟨s8, hw''⟩ := hw'
        subst hw''
        obtain ⟨w8, h8, e8⟩ : ∃ w8, Below w9.heap.size w9 w8 ∧ w8 = s8.val := ⟨_, s8.h, rfl⟩
        rw [← e8]
        have H8 := Lib.hid (HN.out.kept h8)
        have HF8 : Hid (Onb b w w8) := Lib.hid (HF9.out.next h8)
        clear h8 e8 g0 g1
        go_wp2
        go_ret
        exact ⟨(by rw [HEX.out]; rfl), (by rw [← HJ.out]; exact H8.out), HF8.out⟩
end Go.Proofs.YtjjaaooiajmclaaDoor.Ru
