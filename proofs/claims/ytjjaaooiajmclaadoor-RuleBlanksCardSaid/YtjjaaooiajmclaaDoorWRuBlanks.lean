/- RuleBlanks, walked. -/
import Derived.Test.YtjjaaooiajmclaaDoorRuLawP
namespace Go.Proofs.YtjjaaooiajmclaaDoor.Ru
open Go.RowKit Go.Proofs.YtjjaaooiajmclaaDoor

theorem more_len (s : List UInt8) : (s.flatMap moreG).length ≤ 3 * s.length := by
  induction s with
  | nil => simp
  | cons c s ih =>
    rw [List.flatMap_cons, List.length_append, List.length_cons]
    have : (moreG c).length ≤ 3 := by unfold moreG; split <;> simp
    omega
theorem bs_one (l : List UInt8) (k : Nat) (h : k < l.length) : (bs l).extract k (k + 1) = bs [l[k]] := by
  rw [bs_sub, rest, bs_data, List.drop_eq_getElem_cons h]
  rfl

set_option maxRecDepth 100000 in
set_option maxHeartbeats 2000000 in
theorem ruleBlanks_walk (s : ByteArray) (w : World) (hs : s.size ≤ 140737488351232) (hE : ErrV w) (hT : Tab w) :
    Calls Tryd.prog 4 #[.string s] w fun r w' => r = .returned (.bool true) ∧ Below w.heap.size w w' := by
  have HE : Hid (Env w) := Lib.hid ⟨hE, hT⟩
  have hml : s.size ≤ maxLen := by unfold maxLen; omega
  have HLV := Lib.hid (lives_any w HE.out)
  cases hpp : parseP s.data.toList with
  | error e =>
    have HPA : Hid (∀ w1, Env w1 → Calls Tryd.prog 7 #[.string s] w1 fun r w' => r = .returned (.tuple #[.agg #[.slice none 0 0], .agg #[.int .i64 e.1, .int .i64 e.2]]) ∧ Below w1.heap.size w1 w') := Lib.hid (fun w1 h => parse_no hpp w1 h hml)
    obtain ⟨e1, e2⟩ := e
    have f1 := (parseP_fault hpp).1
    simp only at f1 HPA
    have t1 : (e1 == 0) = false := by rcases f1 with ⟨h, -⟩ | h <;> subst h <;> rfl
    clear hpp hE hT hml hs f1
    go_enter Tryd.func4, Tryd.ntmps4
    go_upto_region 3 with (go_at_call 6; refine HLV.out.mono ?_; rintro r w1 ⟨rfl, hb⟩; have HB1 := Lib.hid hb; have HE1 := Lib.hid (HE.out.below hb); clear hb)
    go_upto_region 4 with (go_at_call 7; refine (HPA.out _ HE1.out).mono ?_; rintro r w2 ⟨rfl, hb⟩; have HB2 := Lib.hid (below_and HB1.out hb); clear hb)
    obtain ⟨X, hX⟩ : ∃ X, X = w2.heap.size := ⟨_, rfl⟩
    have h2 := two_cells w2 (.slice none 0 0) (.int .i64 e1) (.int .i64 e2) 25 28
    obtain ⟨w3, hw3⟩ : ∃ w3, w3 = (w2.alloc (.cells #[.slice none 0 0] 25)).alloc (.cells #[.int .i64 e1, .int .i64 e2] 28) := ⟨_, rfl⟩
    rw [← hw3] at h2 ⊢
    have HB3 := Lib.hid (below_and HB2.out h2.2.2)
    rw [← hX] at h2 ⊢
    have c0 := h2.1.cell (j := 0) rfl
    have c1 := h2.2.1.cell (j := 0) rfl
    have c2 := h2.2.1.cell (j := 1) rfl
    clear h2 hw3 hX
    go_wp2
    go_ret
    exact ⟨rfl, HB3.out⟩
  | ok L =>
    obtain ⟨tb, htb⟩ : ∃ tb, tb = toldA L := ⟨_, rfl⟩
    have hlen := told_len hpp
    have hless := blanks_less hpp
    have hmore := fun h => blanks_more hpp h
    have HPA : Hid (∀ w1, Env w1 → Calls Tryd.prog 7 #[.string s] w1 fun r w' => ∃ q d, r = .returned (.tuple #[.agg #[.slice q L.length d], .agg #[.int .i64 0, .int .i64 0]]) ∧ Row w' (.slice q L.length d) 6 L.length (rwC ndC L) ∧ Below w1.heap.size w1 w') := Lib.hid (fun w1 h => parse_ok hpp w1 h hml)
    have HTX : Hid (∀ v w1, Env w1 → Row w1 v 6 L.length (rwC ndC L) → Calls Tryd.prog 8 #[.agg #[v]] w1 fun r w' => r = .returned (.tuple #[.string (bs tb), .int .i64 0]) ∧ Below w1.heap.size w1 w') := Lib.hid (fun v w1 h1 h2 => by
      rw [htb]
      exact text_ok hpp v w1 h2 h1)
    rw [← htb] at hlen hless hmore
    obtain ⟨ls, hls⟩ : ∃ ls, ls = tb.flatMap lessG := ⟨_, rfl⟩
    obtain ⟨mo, hmo⟩ : ∃ mo, mo = tb.flatMap moreG := ⟨_, rfl⟩
    have hl1 : ls.length ≤ 1024 := by rw [hls]; have := less_len tb; omega
    have hm1 : mo.length ≤ 3072 := by rw [hmo]; have := more_len tb; omega
    rw [← hls] at hless
    rw [← hmo] at hmore
    have HLS := Lib.hid hls
    have HMO := Lib.hid hmo
    have HPL : Hid (∀ w1, Env w1 → Calls Tryd.prog 7 #[.string (bs ls)] w1 fun r w' => ∃ q d, r = .returned (.tuple #[.agg #[.slice q L.length d], .agg #[.int .i64 0, .int .i64 0]]) ∧ Row w' (.slice q L.length d) 6 L.length (rwC ndC L) ∧ Below w1.heap.size w1 w') := Lib.hid (fun w1 h => parse_ok (s := bs ls) (by rw [bs_data]; exact hless) w1 h (by rw [bs_size]; unfold maxLen; omega))
    obtain ⟨my, hmy⟩ : ∃ my, my = [32, 32] ++ mo ++ [32] := ⟨_, rfl⟩
    have hmyl : my.length = mo.length + 3 := by rw [hmy]; simp
    have HPM0 : Hid (1024 < mo.length + 3 → ∀ w1, Env w1 → Calls Tryd.prog 7 #[.string (bs my)] w1 fun r w' => r = .returned (.tuple #[.agg #[.slice none 0 0], .agg #[.int .i64 3, .int .i64 (-1)]]) ∧ Below w1.heap.size w1 w') := Lib.hid (fun hh w1 h => parse_no (s := bs my) (e := (3, -1)) (by rw [bs_data]; exact parse_long (by omega)) w1 h (by rw [bs_size]; unfold maxLen; omega))
    have HPM1 : Hid (¬ 1024 < mo.length + 3 → ∀ w1, Env w1 → Calls Tryd.prog 7 #[.string (bs my)] w1 fun r w' => ∃ q d, r = .returned (.tuple #[.agg #[.slice q L.length d], .agg #[.int .i64 0, .int .i64 0]]) ∧ Row w' (.slice q L.length d) 6 L.length (rwC ndC L) ∧ Below w1.heap.size w1 w') := Lib.hid (fun hh w1 h => parse_ok (s := bs my) (by rw [bs_data, hmy]; exact hmore (by omega)) w1 h (by rw [bs_size]; unfold maxLen; omega))
    have HSR : Hid (∀ v u w1, Row w1 v 6 L.length (rwC ndC L) → Row w1 u 6 L.length (rwC ndC L) → Calls Tryd.prog 10 #[.agg #[v], .agg #[u]] w1 fun r w' => r = .returned (.bool true) ∧ Below w1.heap.size w1 w') := Lib.hid (fun v u w1 h1 h2 => by
      have := same_rule v u L L w1 h1 h2
      rw [decide_eq_true rfl] at this
      exact this)
    have HMY : Hid (bs my = bs ([32, 32] ++ mo ++ [32])) := Lib.hid (by rw [hmy])
    have HL1 := Lib.hid hl1
    have HM1 := Lib.hid hm1
    have HTL := Lib.hid hlen
    obtain ⟨n, hn⟩ : ∃ n, n = L.length := ⟨_, rfl⟩
    rw [← hn] at HPA HTX HPL HPM1 HSR
    clear hpp hE hT hml hs hlen hless hmore htb hls hmo hmy hmyl hl1 hm1 hn
    go_enter Tryd.func4, Tryd.ntmps4
    go_upto_region 3 with (go_at_call 6; refine HLV.out.mono ?_; rintro r w1 ⟨rfl, hb⟩; have HB1 := Lib.hid hb; have HE1 := Lib.hid (HE.out.below hb); clear hb)
    go_upto_region 4 with (go_at_call 7; refine (HPA.out _ HE1.out).mono ?_; rintro r w2 ⟨q, d, rfl, hr, hb⟩; have HR2 := Lib.hid hr; have HB2 := Lib.hid (below_and HB1.out hb); clear hr hb)
    obtain ⟨X, hX⟩ : ∃ X, X = w2.heap.size := ⟨_, rfl⟩
    have h2 := two_cells w2 (.slice q n d) (.int .i64 0) (.int .i64 0) 25 28
    obtain ⟨w3, hw3⟩ : ∃ w3, w3 = (w2.alloc (.cells #[.slice q n d] 25)).alloc (.cells #[.int .i64 0, .int .i64 0] 28) := ⟨_, rfl⟩
    rw [← hw3] at h2 ⊢
    have HB3 := Lib.hid (below_and HB2.out h2.2.2)
    have HR3 := Lib.hid (HR2.out.below h2.2.2)
    rw [← hX] at h2 ⊢
    have HX3 := Lib.hid h2.1
    have HE3 := Lib.hid (HE.out.below HB3.out)
    have c0 := h2.1.cell (j := 0) rfl
    have c1 := h2.2.1.cell (j := 0) rfl
    have c2 := h2.2.1.cell (j := 1) rfl
    clear h2 hw3 hX
    go_upto_region 8 with (go_at_call 8; refine (HTX.out _ _ HE3.out HR3.out).mono ?_; rintro r w4 ⟨rfl, hb⟩; have HX4 := Lib.hid (HX3.out.kept hb); have HR4 := Lib.hid (HR3.out.below hb); have HB4 := Lib.hid (below_and HB3.out hb); have HE4 := Lib.hid (HE3.out.below hb); clear hb)
    clear c0 c1 c2
    have hsz : (bs tb).size = tb.length := bs_size tb
    have htl : (tb.length : Int) ≤ 1024 := by have := HTL.out; omega
    go_wp2
    go_loopw [7, 8, 9] (fun a b i wr => ∃ k : Nat, k ≤ tb.length ∧ a = .string (bs ((tb.take k).flatMap lessG)) ∧ b = .string (bs ((tb.take k).flatMap moreG)) ∧ i = .int .i64 (k : Int) ∧ Hid (Below w4.heap.size w4 wr)) (fun _ _ i _ => tb.length - (intOf i).toNat)
    case atStart => exact ⟨0, Nat.zero_le _, rfl, rfl, rfl, Lib.hid (Below.refl _ _)⟩
    case round =>
      obtain ⟨k, hk, rfl, rfl, rfl, HBr⟩ := hrel
      by_cases hlt : k < tb.length
      · obtain ⟨c, hc⟩ : ∃ c, c = tb[k] := ⟨_, rfl⟩
        have HT1 : Hid (tb.take (k + 1) = tb.take k ++ [c]) := Lib.hid (by rw [hc, List.take_succ_eq_append_getElem hlt])
        have HIX : Hid (k < (bs tb).size) := Lib.hid (by rw [hsz]; exact hlt)
        have HCC : Hid ((bs tb)[k]'HIX.out = c) := Lib.hid (by rw [hc]; rfl)
        have HSB : Hid ((bs tb).extract k (k + 1) = bs [c]) := Lib.hid (by rw [bs_one tb k hlt, hc])
        obtain ⟨a, ha⟩ : ∃ a, a = (tb.take k).flatMap lessG := ⟨_, rfl⟩
        obtain ⟨b, hb⟩ : ∃ b, b = (tb.take k).flatMap moreG := ⟨_, rfl⟩
        have hal : a.length ≤ 1024 := by rw [ha]; have h1 := less_len (tb.take k); rw [List.length_take] at h1; omega
        have hbl : b.length ≤ 3072 := by rw [hb]; have h1 := more_len (tb.take k); rw [List.length_take] at h1; omega
        rw [← ha, ← hb]
        have HA := Lib.hid ha
        have HB := Lib.hid hb
        have HAL := Lib.hid hal
        have HBL := Lib.hid hbl
        clear ha hb hc hal hbl
        by_cases h32 : c = 32
        · subst h32
          have HLE : Hid (bs a = bs ((tb.take (k + 1)).flatMap lessG)) := Lib.hid (by rw [HT1.out, List.flatMap_append, ← HA.out]; simp [lessG])
          have HMR : Hid (bs (b ++ [32, 32, 32]) = bs ((tb.take (k + 1)).flatMap moreG)) := Lib.hid (by rw [HT1.out, List.flatMap_append, ← HB.out]; simp [moreG])
          have hadd1 : ∀ w, (Op.stringOp .add (bs b) ⟨#[32, 32, 32]⟩).run Tryd.prog w = .ok (.string (bs (b ++ [32, 32, 32]))) w := fun w => add_bs b [32, 32, 32] (by have := HBL.out; simp; omega) w
          have hk2 := HIX.out
          have hcc := HCC.out
          have t1 : (((32 : UInt8).toNat : Int) == 32) = true := by decide
          go_wp2
          go_roundw
          case rel => exact ⟨k + 1, by omega, by rw [HLE.out], by rw [HMR.out], by go_num, HBr⟩
          case measure => simp [intOf]; omega
        · have HLE : Hid (bs (a ++ [c]) = bs ((tb.take (k + 1)).flatMap lessG)) := Lib.hid (by rw [HT1.out, List.flatMap_append, ← HA.out]; simp [lessG, h32])
          have HMR : Hid (bs (b ++ [c]) = bs ((tb.take (k + 1)).flatMap moreG)) := Lib.hid (by rw [HT1.out, List.flatMap_append, ← HB.out]; simp [moreG, h32])
          have hadd1 : ∀ w, (Op.stringOp .add (bs a) ((bs tb).extract k (k + 1))).run Tryd.prog w = .ok (.string (bs (a ++ [c]))) w := fun w => by rw [HSB.out]; exact add_bs a [c] (by have := HAL.out; simp; omega) w
          have hadd2 : ∀ w, (Op.stringOp .add (bs b) ((bs tb).extract k (k + 1))).run Tryd.prog w = .ok (.string (bs (b ++ [c]))) w := fun w => by rw [HSB.out]; exact add_bs b [c] (by have := HBL.out; simp; omega) w
          have hk2 := HIX.out
          have hcc := HCC.out
          have t1 : ((c.toNat : Int) == 32) = false := by
            rw [beq_eq_false_iff_ne]
            intro e
            refine h32 (UInt8.toNat_inj.1 ?_)
            have e9 : c.toNat = 32 := by omega
            rw [e9]; rfl
          clear h32
          go_wp2
          go_quiet (fail)
          have HBq : Hid (Below w4.heap.size w4 (wr.drewN nq)) := Lib.hid (Below.drewN' HBr.out nq)
          go_wp2
          go_roundw
          case rel => exact ⟨k + 1, by omega, by rw [HLE.out], by rw [HMR.out], by go_num, HBq⟩
          case measure => simp [intOf]; omega
      · obtain rfl : k = tb.length := by omega
        rw [List.take_length]
        have HLL := HLS.out
        have HMM := HMO.out
        rw [← HLL, ← HMM]
        clear HLL HMM
        have HB5 := Lib.hid (below_and HB4.out HBr.out)
        have HE5 := Lib.hid (HE.out.below HB5.out)
        have HX5 := Lib.hid (HX4.out.kept HBr.out)
        have HR5 := Lib.hid (HR4.out.below HBr.out)
        clear HBr HB4 HE4 HX4 HR4 HX3 HR3 HE3 HB3
        go_upto_region 15 with (go_at_call 7; refine (HPL.out _ HE5.out).mono ?_; rintro r w6 ⟨q6, d6, rfl, hr, hb⟩; have HR6 := Lib.hid hr; have HB6 := Lib.hid (below_and HB5.out hb); have HX6 := Lib.hid (HX5.out.kept hb); have HR6' := Lib.hid (HR5.out.below hb); clear hr hb)
        obtain ⟨Z, hZ⟩ : ∃ Z, Z = w6.heap.size := ⟨_, rfl⟩
        have h2 := two_cells w6 (.slice q6 n d6) (.int .i64 0) (.int .i64 0) 25 28
        obtain ⟨w7, hw7⟩ : ∃ w7, w7 = (w6.alloc (.cells #[.slice q6 n d6] 25)).alloc (.cells #[.int .i64 0, .int .i64 0] 28) := ⟨_, rfl⟩
        rw [← hw7] at h2 ⊢
        have HB7 := Lib.hid (below_and HB6.out h2.2.2)
        have HR7 := Lib.hid (HR6.out.below h2.2.2)
        have HR7' := Lib.hid (HR6'.out.below h2.2.2)
        have HX7 := Lib.hid (HX6.out.kept h2.2.2)
        have HE7 := Lib.hid (HE.out.below HB7.out)
        rw [← hZ] at h2 ⊢
        have HZ7 := Lib.hid h2.1
        have HY7 := Lib.hid h2.2.1
        clear h2 hw7 hZ
        have hadd3 : ∀ w, (Op.stringOp .add ⟨#[32, 32]⟩ (bs mo)).run Tryd.prog w = .ok (.string (bs (32 :: 32 :: mo))) w := fun w => add_bs [32, 32] mo (by have := HM1.out; simp; omega) w
        have hadd4 : ∀ w, (Op.stringOp .add (bs (32 :: 32 :: mo)) ⟨#[32]⟩).run Tryd.prog w = .ok (.string (bs my)) w := fun w => by rw [HMY.out]; exact add_bs ([32, 32] ++ mo) [32] (by have := HM1.out; simp; omega) w
        have hmsz : (bs mo).size = mo.length := bs_size mo
        have hmb : (mo.length : Int) ≤ 3072 := by have := HM1.out; omega
        by_cases hlong : 1024 < mo.length + 3
        · have t1 : decide ((1024 : Int) < (mo.length : Int) + 3) = true := by simp; omega
          go_upto_region 16 with (go_at_call 7; refine (HPM0.out hlong _ HE7.out).mono ?_; rintro r w8 ⟨rfl, hb⟩; have HB8 := Lib.hid (below_and HB7.out hb); have HX8 := Lib.hid (HX7.out.kept hb); have HZ8 := Lib.hid (HZ7.out.kept hb); have HY8 := Lib.hid (HY7.out.kept hb); have HR8 := Lib.hid (HR7.out.below hb); have HR8' := Lib.hid (HR7'.out.below hb); clear hb)
          obtain ⟨V, hV⟩ : ∃ V, V = w8.heap.size := ⟨_, rfl⟩
          have h2 := two_cells w8 (.slice none 0 0) (.int .i64 3) (.int .i64 (-1)) 25 28
          obtain ⟨w9, hw9⟩ : ∃ w9, w9 = (w8.alloc (.cells #[.slice none 0 0] 25)).alloc (.cells #[.int .i64 3, .int .i64 (-1)] 28) := ⟨_, rfl⟩
          rw [← hw9] at h2 ⊢
          have HB9 := Lib.hid (below_and HB8.out h2.2.2)
          have HR9 := Lib.hid (HR8.out.below h2.2.2)
          have HR9' := Lib.hid (HR8'.out.below h2.2.2)
          have HY9 := Lib.hid (HY8.out.kept h2.2.2)
          have x0 := (HX8.out.kept h2.2.2).cell (j := 0) rfl
          have z0 := (HZ8.out.kept h2.2.2).cell (j := 0) rfl
          have y0 := HY9.out.cell (j := 0) rfl
          have y1 := HY9.out.cell (j := 1) rfl
          rw [← hV] at h2 ⊢
          have HV9 := Lib.hid h2.2.1
          clear h2 hw9 hV
          go_wp2_with (go_at_call 10; refine (HSR.out _ _ _ HR9.out HR9'.out).mono ?_; rintro r w10 ⟨rfl, hb⟩; have HB10 := Lib.hid (below_and HB9.out hb); have v0 := (HV9.out.kept hb).cell (j := 0) rfl; have v1 := (HV9.out.kept hb).cell (j := 1) rfl; clear hb)
          go_ret
          exact ⟨rfl, HB10.out⟩
        · have t1 : decide ((1024 : Int) < (mo.length : Int) + 3) = false := by simp; omega
          go_upto_region 16 with (go_at_call 7; refine (HPM1.out hlong _ HE7.out).mono ?_; rintro r w8 ⟨q8, d8, rfl, hr, hb⟩; have HQ8 := Lib.hid hr; have HB8 := Lib.hid (below_and HB7.out hb); have HX8 := Lib.hid (HX7.out.kept hb); have HZ8 := Lib.hid (HZ7.out.kept hb); have HY8 := Lib.hid (HY7.out.kept hb); have HR8 := Lib.hid (HR7.out.below hb); have HR8' := Lib.hid (HR7'.out.below hb); clear hb hr)
          obtain ⟨V, hV⟩ : ∃ V, V = w8.heap.size := ⟨_, rfl⟩
          have h2 := two_cells w8 (.slice q8 n d8) (.int .i64 0) (.int .i64 0) 25 28
          obtain ⟨w9, hw9⟩ : ∃ w9, w9 = (w8.alloc (.cells #[.slice q8 n d8] 25)).alloc (.cells #[.int .i64 0, .int .i64 0] 28) := ⟨_, rfl⟩
          rw [← hw9] at h2 ⊢
          have HB9 := Lib.hid (below_and HB8.out h2.2.2)
          have HR9 := Lib.hid (HR8.out.below h2.2.2)
          have HR9' := Lib.hid (HR8'.out.below h2.2.2)
          have HQ9 := Lib.hid (HQ8.out.below h2.2.2)
          have HY9 := Lib.hid (HY8.out.kept h2.2.2)
          have HX9 := Lib.hid (HX8.out.kept h2.2.2)
          have x0 := HX9.out.cell (j := 0) rfl
          have z0 := (HZ8.out.kept h2.2.2).cell (j := 0) rfl
          have y0 := HY9.out.cell (j := 0) rfl
          have y1 := HY9.out.cell (j := 1) rfl
          rw [← hV] at h2 ⊢
          have HU9 := Lib.hid h2.1
          have HV9 := Lib.hid h2.2.1
          clear h2 hw9 hV
          go_wp2_with (first
            | (go_at_call 10; refine (HSR.out _ _ _ HR9.out HR9'.out).mono ?_; rintro r w10 ⟨rfl, hb⟩; have HB10 := Lib.hid (below_and HB9.out hb); have HRA := Lib.hid (HR9'.out.below hb); have HQA := Lib.hid (HQ9.out.below hb); have v0 := (HV9.out.kept hb).cell (j := 0) rfl; have v1 := (HV9.out.kept hb).cell (j := 1) rfl; have u0 := (HU9.out.kept hb).cell (j := 0) rfl; have x1 := (HX9.out.kept hb).cell (j := 0) rfl; clear hb HR9)
            | (go_at_call 10; refine (HSR.out _ _ _ HQA.out HRA.out).mono ?_; rintro r w11 ⟨rfl, hb⟩; have HB11 := Lib.hid (below_and HB10.out hb); clear hb))
          go_ret
          exact ⟨rfl, HB11.out⟩
end Go.Proofs.YtjjaaooiajmclaaDoor.Ru
