/- MsDCpA. -/
import Derived.Test.YtopkfomlppnpeaaGreatDoorMFt
import Derived.Test.YtopkfomlppnpeaaGreatDoorMDf
import Derived.Test.YtopkfomlppnpeaaGreatDoorMDn
import Derived.Test.YtopkfomlppnpeaaGreatDoorMDl
import Derived.Test.YtopkfomlppnpeaaGreatDoorMDp
namespace Go.Proofs.YtopkfomlppnpeaaGreatDoor.Ms
open Go.RowKit Go.Proofs.YtopkfomlppnpeaaGreatDoor

set_option maxRecDepth 100000 in
set_option maxHeartbeats 4000000 in
theorem rcheckP_waya (p : Po) (vk vt vs : Value) (w : World) (h : PoW w p vk vt vs) (hway : p.bo ≠ 0) : Calls Tryz.prog 12 #[poV p vk vt vs] w fun e w' => e = .returned (.int .i64 (if checkP p then 0 else 2)) ∧ Below w.heap.size w w' := by
  obtain ⟨r, hr⟩ : ∃ r : Int, r = if checkP p then 0 else 2 := ⟨_, rfl⟩
  rw [← hr]
  have HR := Lib.hid hr
  clear hr
  obtain ⟨pk, ck, rfl, -⟩ := row_el h.k
  obtain ⟨pt, ct, rfl, -⟩ := row_el h.t
  obtain ⟨ps, cs, rfl, -⟩ := row_el h.s
  obtain ⟨nk, hnk⟩ : ∃ n, n = p.K.length := ⟨_, rfl⟩
  obtain ⟨nt, hnt⟩ : ∃ n, n = p.T.length := ⟨_, rfl⟩
  obtain ⟨ns, hns⟩ : ∃ n, n = p.P.length := ⟨_, rfl⟩
  have HP : Hid (PoW w p (.slice pk nk ck) (.slice pt nt ct) (.slice ps ns cs)) := Lib.hid (by rw [hnk, hnt, hns]; exact h)
  have HNK := Lib.hid hnk
  have HNT := Lib.hid hnt
  have HNS := Lib.hid hns
  rw [← hnk, ← hnt, ← hns]
  clear h hnk hnt hns
  obtain ⟨X, hX⟩ : ∃ X, X = w.heap.size := ⟨_, rfl⟩
  obtain ⟨w1, hw1⟩ : ∃ w1, w1 = w.alloc (.cells #[.int .u64 p.ep, .int .u64 p.sq, .int .u64 p.bo, .int .i64 p.at_, .int .i64 p.le, .slice pk nk ck, .slice pt nt ct, .slice ps ns cs, .int .u64 p.se] 32) := ⟨_, rfl⟩
  have HX1 : Hid (Blk w1 X [.int .u64 p.ep, .int .u64 p.sq, .int .u64 p.bo, .int .i64 p.at_, .int .i64 p.le, .slice pk nk ck, .slice pt nt ct, .slice ps ns cs, .int .u64 p.se] 32) := Lib.hid (by rw [hw1, hX]; exact Blk.made w [.int .u64 p.ep, .int .u64 p.sq, .int .u64 p.bo, .int .i64 p.at_, .int .i64 p.le, .slice pk nk ck, .slice pt nt ct, .slice ps ns cs, .int .u64 p.se] _)
  have HB1 : Hid (Below w.heap.size w w1) := Lib.hid (by rw [hw1]; exact below_alloc _ _)
  have HWY := Lib.hid hway
  have thw : (p.bo == 0) = false := by simpa using hway
  clear hway
  obtain ⟨h0, hh0⟩ : ∃ h0 : Bool, h0 = (p.ep == 0) := ⟨_, rfl⟩
  have th00 : (p.ep == 0) = h0 := hh0.symm
  have Eh0 := Lib.hid hh0
  clear hh0
  obtain ⟨h1, hh1⟩ : ∃ h1 : Bool, h1 = (p.sq == 0) := ⟨_, rfl⟩
  have th10 : (p.sq == 0) = h1 := hh1.symm
  have Eh1 := Lib.hid hh1
  clear hh1
  obtain ⟨h2, hh2⟩ : ∃ h2 : Bool, h2 = (decide (p.at_ < 0)) := ⟨_, rfl⟩
  have th20 : decide (p.at_ < 0) = h2 := hh2.symm
  have Eh2 := Lib.hid hh2
  clear hh2
  obtain ⟨h3, hh3⟩ : ∃ h3 : Bool, h3 = (decide (1152921504606846976 < p.at_)) := ⟨_, rfl⟩
  have th30 : decide (1152921504606846976 < p.at_) = h3 := hh3.symm
  have Eh3 := Lib.hid hh3
  clear hh3
  obtain ⟨h6, hh6⟩ : ∃ h6 : Bool, h6 = (decide (p.le < 1)) := ⟨_, rfl⟩
  have th60 : decide (p.le < 1) = h6 := hh6.symm
  have Eh6 := Lib.hid hh6
  clear hh6
  obtain ⟨h7, hh7⟩ : ∃ h7 : Bool, h7 = (decide (1048576 < p.le)) := ⟨_, rfl⟩
  have th70 : decide (1048576 < p.le) = h7 := hh7.symm
  have Eh7 := Lib.hid hh7
  clear hh7
  go_enter Tryz.func12, Tryz.ntmps12
  go_upto_region 1 with fail
  rw [← hw1, ← hX]
  clear hw1 hX
  have c0 := HX1.out.cell (j := 0) rfl
  have c1 := HX1.out.cell (j := 1) rfl
  have c2 := HX1.out.cell (j := 2) rfl
  have c3 := HX1.out.cell (j := 3) rfl
  have c4 := HX1.out.cell (j := 4) rfl
  have c5 := HX1.out.cell (j := 5) rfl
  have c6 := HX1.out.cell (j := 6) rfl
  have c7 := HX1.out.cell (j := 7) rfl
  have c8 := HX1.out.cell (j := 8) rfl
  cases h0
  rotate_left
  · have HQ : Hid (checkP p = false) := Lib.hid (checkP_no ((.inl (eq_of_beq Eh0.out.symm))))
    go_wp2
    go_ret
    exact ⟨ret_int (by rw [HR.out, HQ.out]; rfl), HB1.out⟩
  cases h1
  rotate_left
  · have HQ : Hid (checkP p = false) := Lib.hid (checkP_no ((.inr (.inl (eq_of_beq Eh1.out.symm)))))
    go_wp2
    go_ret
    exact ⟨ret_int (by rw [HR.out, HQ.out]; rfl), HB1.out⟩
  cases h2
  rotate_left
  · have HQ : Hid (checkP p = false) := Lib.hid (checkP_no ((.inr (.inr (.inl (of_decide_eq_true Eh2.out.symm))))))
    go_wp2
    go_ret
    exact ⟨ret_int (by rw [HR.out, HQ.out]; rfl), HB1.out⟩
  cases h3
  rotate_left
  · have HQ : Hid (checkP p = false) := Lib.hid (checkP_no ((.inr (.inr (.inr (.inl (of_decide_eq_true Eh3.out.symm)))))))
    go_wp2
    go_ret
    exact ⟨ret_int (by rw [HR.out, HQ.out]; rfl), HB1.out⟩
  cases h6
  rotate_left
  · have HQ : Hid (checkP p = false) := Lib.hid (checkP_no ((.inr (.inr (.inr (.inr (.inr (.inl (of_decide_eq_true Eh6.out.symm)))))))))
    go_wp2
    go_ret
    exact ⟨ret_int (by rw [HR.out, HQ.out]; rfl), HB1.out⟩
  cases h7
  rotate_left
  · have HQ : Hid (checkP p = false) := Lib.hid (checkP_no ((.inr (.inr (.inr (.inr (.inr (.inr (.inl (of_decide_eq_true Eh7.out.symm))))))))))
    go_wp2
    go_ret
    exact ⟨ret_int (by rw [HR.out, HQ.out]; rfl), HB1.out⟩
  by_cases g_nk : nk ≤ 256
  rotate_left
  · have d_nk : decide ((256 : Int) < (nk : Int)) = true := by simp; omega
    have f_nk : decide (256 < nk) = true := by simp; omega
    have HLN : Hid (¬ nk ≤ 256) := Lib.hid g_nk
    clear g_nk
    have HQ : Hid (checkP p = false) := Lib.hid (checkP_no ((.inr (.inr (.inr (.inr (.inr (.inr (.inr (.inl (rises_long (by rw [← HNK.out]; exact HLN.out))))))))))))
    go_wp2
    go_ret
    exact ⟨ret_int (by rw [HR.out, HQ.out]; rfl), HB1.out⟩
  have d_nk : decide ((256 : Int) < (nk : Int)) = false := by simp; omega
  have f_nk : decide (256 < nk) = false := by simp; omega
  by_cases g_nt : nt ≤ 256
  rotate_left
  · have d_nt : decide ((256 : Int) < (nt : Int)) = true := by simp; omega
    have f_nt : decide (256 < nt) = true := by simp; omega
    have HLN : Hid (¬ nt ≤ 256) := Lib.hid g_nt
    clear g_nt
    have HQ : Hid (checkP p = false) := Lib.hid (checkP_no ((.inr (.inr (.inr (.inr (.inr (.inr (.inr (.inr (.inl (rises_long (by rw [← HNT.out]; exact HLN.out)))))))))))))
    go_wp2
    go_ret
    exact ⟨ret_int (by rw [HR.out, HQ.out]; rfl), HB1.out⟩
  have d_nt : decide ((256 : Int) < (nt : Int)) = false := by simp; omega
  have f_nt : decide (256 < nt) = false := by simp; omega
  by_cases g_ns : ns ≤ 256
  rotate_left
  · have d_ns : decide ((256 : Int) < (ns : Int)) = true := by simp; omega
    have f_ns : decide (256 < ns) = true := by simp; omega
    have HLN : Hid (¬ ns ≤ 256) := Lib.hid g_ns
    clear g_ns
    have HQ : Hid (checkP p = false) := Lib.hid (checkP_no ((.inr (.inr (.inr (.inr (.inr (.inr (.inr (.inr (.inr (rises_long (by rw [← HNS.out]; exact HLN.out)))))))))))))
    go_wp2
    go_ret
    exact ⟨ret_int (by rw [HR.out, HQ.out]; rfl), HB1.out⟩
  have d_ns : decide ((256 : Int) < (ns : Int)) = false := by simp; omega
  have f_ns : decide (256 < ns) = false := by simp; omega
  have HNB : Hid (nk ≤ 256 ∧ nt ≤ 256 ∧ ns ≤ 256) := Lib.hid ⟨g_nk, g_nt, g_ns⟩
  clear g_nk g_nt g_ns
  have HNO0 : Hid (risesB envM envL p.K = false → checkP p = false) := Lib.hid (fun h => checkP_no ((.inr (.inr (.inr (.inr (.inr (.inr (.inr (.inl h))))))))))
  have HNO1 : Hid (risesB staM ltT p.T = false → checkP p = false) := Lib.hid (fun h => checkP_no ((.inr (.inr (.inr (.inr (.inr (.inr (.inr (.inr (.inl h)))))))))))
  have HNO2 : Hid (risesB stoM ltT p.P = false → checkP p = false) := Lib.hid (fun h => checkP_no ((.inr (.inr (.inr (.inr (.inr (.inr (.inr (.inr (.inr h)))))))))))
  go_upto_region 4 with fail
  clear c0 c1 c2 c3 c4 c5 c6 c7 c8
  go_loopw [3] (fun vi wr => ∃ i : Nat, vi = .int .i64 i ∧ i ≤ nk ∧ Hid (∀ q, q < i → okAt envM envL p.K q = true) ∧ Hid (Below w1.heap.size w1 wr)) (fun vi _ => nk - (intOf vi).toNat)
  case atStart => exact ⟨0, by go_num, Nat.zero_le _, Lib.hid (fun q hq => absurd hq (by omega)), Lib.hid (Below.refl _ _)⟩
  case round =>
    obtain ⟨i, rfl, him, HOK, HBk⟩ := hrel
    have xx := (HX1.out.kept HBk.out).cell (j := 5) rfl
    by_cases hlt : i < nk
    rotate_left
    · obtain rfl : i = nk := by omega
      have HRk : Hid (risesB envM envL p.K = true) := Lib.hid (by rw [rises_yes (fun q hq => HOK.out q (by rw [HNK.out]; exact hq))]; exact decide_eq_true (by have := HNB.out; have := HNK.out; omega))
      clear HOK
      have xh := (HX1.out.kept HBk.out).cell (j := 6) rfl
      go_upto_region 9 with fail
      clear xh
      go_loopw [4] (fun vi wr => ∃ i : Nat, vi = .int .i64 i ∧ i ≤ nt ∧ Hid (∀ q, q < i → okAt staM ltT p.T q = true) ∧ Hid (Below w1.heap.size w1 wr)) (fun vi _ => nt - (intOf vi).toNat)
      case atStart => exact ⟨0, by go_num, Nat.zero_le _, Lib.hid (fun q hq => absurd hq (by omega)), Lib.hid HBk.out⟩
      case round =>
        obtain ⟨i, rfl, him, HOK, HBt⟩ := hrel
        have xx := (HX1.out.kept HBt.out).cell (j := 6) rfl
        by_cases hlt : i < nt
        rotate_left
        · obtain rfl : i = nt := by omega
          have HRt : Hid (risesB staM ltT p.T = true) := Lib.hid (by rw [rises_yes (fun q hq => HOK.out q (by rw [HNT.out]; exact hq))]; exact decide_eq_true (by have := HNB.out; have := HNT.out; omega))
          clear HOK
          have xh := (HX1.out.kept HBt.out).cell (j := 7) rfl
          go_upto_region 15 with fail
          clear xh
          go_loopw [6] (fun vi wr => ∃ i : Nat, vi = .int .i64 i ∧ i ≤ ns ∧ Hid (∀ q, q < i → okAt stoM ltT p.P q = true) ∧ Hid (Below w1.heap.size w1 wr)) (fun vi _ => ns - (intOf vi).toNat)
          case atStart => exact ⟨0, by go_num, Nat.zero_le _, Lib.hid (fun q hq => absurd hq (by omega)), Lib.hid HBt.out⟩
          case round =>
            obtain ⟨i, rfl, him, HOK, HBs⟩ := hrel
            have xx := (HX1.out.kept HBs.out).cell (j := 7) rfl
            by_cases hlt : i < ns
            rotate_left
            · obtain rfl : i = ns := by omega
              have HRs : Hid (risesB stoM ltT p.P = true) := Lib.hid (by rw [rises_yes (fun q hq => HOK.out q (by rw [HNS.out]; exact hq))]; exact decide_eq_true (by have := HNB.out; have := HNS.out; omega))
              clear HOK
              have HQ : Hid (checkP p = true) := Lib.hid (checkP_yes (by have h1 := HP.out.num.1.1; have h2 := ne_of_beq_false Eh0.out.symm; omega) (by have h1 := HP.out.num.2.1.1; have h2 := ne_of_beq_false Eh1.out.symm; omega) (of_decide_eq_false Eh2.out.symm) (of_decide_eq_false Eh3.out.symm) (.inl HWY.out) (of_decide_eq_false Eh6.out.symm) (of_decide_eq_false Eh7.out.symm) HRk.out HRt.out HRs.out)
              go_wp2
              go_ret
              exact ⟨ret_int (by rw [HR.out, HQ.out]; rfl), below_and HB1.out HBs.out⟩
            have HI : Hid (i < p.P.length) := Lib.hid (by rw [← HNS.out]; exact hlt)
            obtain ⟨x, hx⟩ : ∃ x, x = p.P[i]'HI.out := ⟨_, rfl⟩
            obtain ⟨y, hy⟩ : ∃ y, y = p.P[i - 1]'(by have := HI.out; omega) := ⟨_, rfl⟩
            have HTX : Hid (TxOk x) := Lib.hid (HP.out.ts x (by rw [hx]; exact List.getElem_mem _))
            obtain ⟨pp, cc, hpp, -, -, hat⟩ := row_el HP.out.s
            rcases hat with hat | ⟨eb, eo, rfl, hat⟩
            · exact absurd (congrArg List.length hat) (by rw [rwC_len (show ∀ z, (stoC z).length = 3 from fun _ => rfl)]; simp; have := HI.out; omega)
            obtain ⟨hpe, -, -⟩ := Value.slice.inj hpp
            subst hpe
            clear hpp
            have HEC : Hid (∀ w', Below w1.heap.size w1 w' → ∀ (j : Nat) u, (stoC x)[j]? = some u → j < 3 → w'.cell? ⟨eb, eo + (i * 3 + j), none⟩ = some u) := Lib.hid (fun w' hw j u hu hj => cell_kept (hat _ u (by rw [rwC_at (show ∀ z, (stoC z).length = 3 from fun _ => rfl) HI.out hj, ← hx]; exact hu)) (below_and HB1.out hw))
            have HEY : Hid (0 < i → ∀ w', Below w1.heap.size w1 w' → ∀ (j : Nat) u, (stoC y)[j]? = some u → j < 3 → w'.cell? ⟨eb, eo + ((i - 1) * 3 + j), none⟩ = some u) := Lib.hid (fun h0 w' hw j u hu hj => cell_kept (hat _ u (by rw [rwC_at (show ∀ z, (stoC z).length = 3 from fun _ => rfl) (by have := HI.out; omega) hj, ← hy]; exact hu)) (below_and HB1.out hw))
            obtain ⟨ok_, hok_⟩ : ∃ b, b = okAt stoM ltT p.P i := ⟨_, rfl⟩
            obtain ⟨mx, hmx⟩ : ∃ b, b = stoM x := ⟨_, rfl⟩
            obtain ⟨ly, hly⟩ : ∃ b, b = ltT y x := ⟨_, rfl⟩
            have HOKE : Hid (ok_ = (mx && (i == 0 || ly))) := Lib.hid (by rw [hok_, okAt_at HI.out, hmx, hly, hx, hy, dif_pos (by have := HI.out; omega)])
            have HOO := Lib.hid hok_
            have HMX := Lib.hid hmx
            have HLY := Lib.hid hly
            clear hat hok_ hmx hly hx hy
            have i3 : i ≤ 256 := by have := HNB.out; omega
            have i0 : (0 : Int) ≤ (i : Int) := by omega
            have i1 : (i : Int) < (ns : Int) := by omega
            have ec0 := HEC.out _ HBs.out 0 _ rfl (by omega)
            have ec1 := HEC.out _ HBs.out 1 _ rfl (by omega)
            have ec2 := HEC.out _ HBs.out 2 _ rfl (by omega)
            simp only [← Nat.add_assoc, Nat.add_zero] at ec0 ec1 ec2
            go_upto_region 18 with fail
            obtain ⟨Y, hY⟩ : ∃ Y, Y = wr.heap.size := ⟨_, rfl⟩
            obtain ⟨wy, hwy⟩ : ∃ z, z = wr.alloc (.cells #[.string (bs x.j), .int .i64 x.i, .int .u64 x.n] 75) := ⟨_, rfl⟩
            have HY : Hid (Blk wy Y [.string (bs x.j), .int .i64 x.i, .int .u64 x.n] 75) := Lib.hid (by rw [hwy, hY]; exact Blk.made wr [.string (bs x.j), .int .i64 x.i, .int .u64 x.n] _)
            have HBy : Hid (Below w1.heap.size w1 wy) := Lib.hid (by rw [hwy]; exact below_and HBs.out (below_alloc _ _))
            rw [← hwy, ← hY]
            clear hwy hY xx ec0 ec1 ec2
            have p0 := Past.blk HY.out (j := 0) rfl
            have p1 := Past.blk HY.out (j := 1) rfl
            have p2 := Past.blk HY.out (j := 2) rfl
            have xp := Past.blk (HX1.out.kept HBy.out) (j := 7) rfl
            obtain ⟨tt, htt⟩ : ∃ b : Bool, b = tk x := ⟨_, rfl⟩
            have Ctt : Hid (∀ s : Past wy, Calls Tryz.prog 69 #[.agg #[.string (bs x.j), .int .i64 x.i], .int .u64 x.n] s.val fun e w2 => e = .returned (.bool tt) ∧ Below s.val.heap.size s.val w2) := Lib.hid (fun s => by rw [htt, tk_task]; exact rtask_any x.j x.i x.n s.val HTX.out.j)
            have Ett := Lib.hid htt
            clear htt
            have Cly : Hid (∀ s : Past wy, Calls Tryz.prog 70 #[.agg #[.string (bs y.j), .int .i64 y.i], .agg #[.string (bs x.j), .int .i64 x.i]] s.val fun e w2 => e = .returned (.bool ly) ∧ Below s.val.heap.size s.val w2) := Lib.hid (fun s => by rw [HLY.out]; exact rless_any _ _ _ _ _)
            cases tt
            · refine wp_region_past (by kernel_rfl) (by kernel_rfl) ?_
              repeat (go_big_quiet_step ((first | (go_at_call 69; exact past_call (Ctt.out _)) | (go_at_call 70; exact past_call (Cly.out _)))))
              refine wpQuiet_nil ?_
              intro _ hw'
              obtain ⟨s9, hw''⟩ := hw'
              subst hw''
              obtain ⟨w9, h9, e9⟩ : ∃ w9, Below wy.heap.size wy w9 ∧ w9 = s9.val := ⟨_, s9.h, rfl⟩
              rw [← e9]
              have HB9 : Hid (Below w1.heap.size w1 w9) := Lib.hid (below_and HBy.out h9)
              clear h9 e9 p0 p1 p2 xp
              have HQ : Hid (checkP p = false) := Lib.hid (HNO2.out (rises_no HI.out (by rw [← HOO.out, HOKE.out]; have hm : mx = false := HMX.out.trans (sto_tt Ett.out.symm); rw [hm]; rfl)))
              go_wp2
              go_ret
              exact ⟨ret_int (by rw [HR.out, HQ.out]; rfl), below_and HB1.out HB9.out⟩
            · by_cases h0 : i = 0
              · have HI0 := Lib.hid h0
                have g0 : decide ((0 : Int) < (i : Int)) = false := by simp; omega
                have g1 : decide (0 < i) = false := by simp; omega
                clear h0
                refine wp_region_past (by kernel_rfl) (by kernel_rfl) ?_
                repeat (go_big_quiet_step ((first | (go_at_call 69; exact past_call (Ctt.out _)) | (go_at_call 70; exact past_call (Cly.out _)))))
                refine wpQuiet_nil ?_
                intro _ hw'
                obtain ⟨s9, hw''⟩ := hw'
                subst hw''
                obtain ⟨w9, h9, e9⟩ : ∃ w9, Below wy.heap.size wy w9 ∧ w9 = s9.val := ⟨_, s9.h, rfl⟩
                rw [← e9]
                have HB9 : Hid (Below w1.heap.size w1 w9) := Lib.hid (below_and HBy.out h9)
                clear h9 e9 p0 p1 p2 xp
                have HN : Hid (ok_ = true) := Lib.hid (by rw [HOKE.out]; have hm : mx = true := HMX.out.trans (sto_yes Ett.out.symm); rw [hm, HI0.out]; rfl)
                go_wp2
                go_roundw
                case rel => exact ⟨i + 1, by go_num, by omega, Lib.hid (fun q hq => by (by_cases hq2 : q = i; (rw [hq2, ← HOO.out]; exact HN.out); exact HOK.out q (by omega))), HB9⟩
                case measure => simp [intOf]; omega
              · have g0 : decide ((0 : Int) < (i : Int)) = true := by simp; omega
                have g1 : decide (0 < i) = true := by simp; omega
                have gi : (0 : Int) ≤ (i : Int) - 1 := by omega
                have gj : (i : Int) - 1 < (ns : Int) := by omega
                obtain ⟨i', rfl⟩ : ∃ i', i = i' + 1 := ⟨i - 1, by omega⟩
                have q0 : ∀ s : Past wy, s.val.cell? ⟨eb, eo + i' * 3, none⟩ = some (.string (bs y.j)) := fun s => by have := HEY.out (by omega) _ (below_and HBy.out s.h) 0 _ rfl (by omega); simpa [Nat.add_assoc] using this
                have q1 : ∀ s : Past wy, s.val.cell? ⟨eb, eo + i' * 3 + 1, none⟩ = some (.int .i64 y.i) := fun s => by have := HEY.out (by omega) _ (below_and HBy.out s.h) 1 _ rfl (by omega); simpa [Nat.add_assoc] using this
                have q2 : ∀ s : Past wy, s.val.cell? ⟨eb, eo + i' * 3 + 2, none⟩ = some (.int .u64 y.n) := fun s => by have := HEY.out (by omega) _ (below_and HBy.out s.h) 2 _ rfl (by omega); simpa [Nat.add_assoc] using this
                cases ly
                · refine wp_region_past (by kernel_rfl) (by kernel_rfl) ?_
                  repeat (go_big_quiet_step ((first | (go_at_call 69; exact past_call (Ctt.out _)) | (go_at_call 70; exact past_call (Cly.out _)))))
                  refine wpQuiet_nil ?_
                  intro _ hw'
                  obtain ⟨s9, hw''⟩ := hw'
                  subst hw''
                  obtain ⟨w9, h9, e9⟩ : ∃ w9, Below wy.heap.size wy w9 ∧ w9 = s9.val := ⟨_, s9.h, rfl⟩
                  rw [← e9]
                  have HB9 : Hid (Below w1.heap.size w1 w9) := Lib.hid (below_and HBy.out h9)
                  clear h9 e9 p0 p1 p2 xp
                  have HQ : Hid (checkP p = false) := Lib.hid (HNO2.out (rises_no HI.out (by rw [← HOO.out, HOKE.out]; simp)))
                  go_wp2
                  go_ret
                  exact ⟨ret_int (by rw [HR.out, HQ.out]; rfl), below_and HB1.out HB9.out⟩
                · refine wp_region_past (by kernel_rfl) (by kernel_rfl) ?_
                  repeat (go_big_quiet_step ((first | (go_at_call 69; exact past_call (Ctt.out _)) | (go_at_call 70; exact past_call (Cly.out _)))))
                  refine wpQuiet_nil ?_
                  intro _ hw'
                  obtain ⟨s9, hw''⟩ := hw'
                  subst hw''
                  obtain ⟨w9, h9, e9⟩ : ∃ w9, Below wy.heap.size wy w9 ∧ w9 = s9.val := ⟨_, s9.h, rfl⟩
                  rw [← e9]
                  have HB9 : Hid (Below w1.heap.size w1 w9) := Lib.hid (below_and HBy.out h9)
                  clear h9 e9 p0 p1 p2 xp
                  have HN : Hid (ok_ = true) := Lib.hid (by rw [HOKE.out]; have hm : mx = true := HMX.out.trans (sto_yes Ett.out.symm); rw [hm]; simp)
                  go_wp2
                  go_roundw
                  case rel => exact ⟨(i' + 1) + 1, by go_num, by omega, Lib.hid (fun q hq => by (by_cases hq2 : q = (i' + 1); (rw [hq2, ← HOO.out]; exact HN.out); exact HOK.out q (by omega))), HB9⟩
                  case measure => simp [intOf]; omega
        have HI : Hid (i < p.T.length) := Lib.hid (by rw [← HNT.out]; exact hlt)
        obtain ⟨x, hx⟩ : ∃ x, x = p.T[i]'HI.out := ⟨_, rfl⟩
        obtain ⟨y, hy⟩ : ∃ y, y = p.T[i - 1]'(by have := HI.out; omega) := ⟨_, rfl⟩
        have HTX : Hid (TxOk x) := Lib.hid (HP.out.tt x (by rw [hx]; exact List.getElem_mem _))
        obtain ⟨pp, cc, hpp, -, -, hat⟩ := row_el HP.out.t
        rcases hat with hat | ⟨eb, eo, rfl, hat⟩
        · exact absurd (congrArg List.length hat) (by rw [rwC_len (show ∀ z, (staC z).length = 8 from fun _ => rfl)]; simp; have := HI.out; omega)
        obtain ⟨hpe, -, -⟩ := Value.slice.inj hpp
        subst hpe
        clear hpp
        have HEC : Hid (∀ w', Below w1.heap.size w1 w' → ∀ (j : Nat) u, (staC x)[j]? = some u → j < 8 → w'.cell? ⟨eb, eo + (i * 8 + j), none⟩ = some u) := Lib.hid (fun w' hw j u hu hj => cell_kept (hat _ u (by rw [rwC_at (show ∀ z, (staC z).length = 8 from fun _ => rfl) HI.out hj, ← hx]; exact hu)) (below_and HB1.out hw))
        have HEY : Hid (0 < i → ∀ w', Below w1.heap.size w1 w' → ∀ (j : Nat) u, (staC y)[j]? = some u → j < 8 → w'.cell? ⟨eb, eo + ((i - 1) * 8 + j), none⟩ = some u) := Lib.hid (fun h0 w' hw j u hu hj => cell_kept (hat _ u (by rw [rwC_at (show ∀ z, (staC z).length = 8 from fun _ => rfl) (by have := HI.out; omega) hj, ← hy]; exact hu)) (below_and HB1.out hw))
        obtain ⟨ok_, hok_⟩ : ∃ b, b = okAt staM ltT p.T i := ⟨_, rfl⟩
        obtain ⟨mx, hmx⟩ : ∃ b, b = staM x := ⟨_, rfl⟩
        obtain ⟨ly, hly⟩ : ∃ b, b = ltT y x := ⟨_, rfl⟩
        have HOKE : Hid (ok_ = (mx && (i == 0 || ly))) := Lib.hid (by rw [hok_, okAt_at HI.out, hmx, hly, hx, hy, dif_pos (by have := HI.out; omega)])
        have HOO := Lib.hid hok_
        have HMX := Lib.hid hmx
        have HLY := Lib.hid hly
        clear hat hok_ hmx hly hx hy
        have i3 : i ≤ 256 := by have := HNB.out; omega
        have i0 : (0 : Int) ≤ (i : Int) := by omega
        have i1 : (i : Int) < (nt : Int) := by omega
        have ec0 := HEC.out _ HBt.out 0 _ rfl (by omega)
        have ec1 := HEC.out _ HBt.out 1 _ rfl (by omega)
        have ec2 := HEC.out _ HBt.out 2 _ rfl (by omega)
        have ec3 := HEC.out _ HBt.out 3 _ rfl (by omega)
        have ec4 := HEC.out _ HBt.out 4 _ rfl (by omega)
        have ec5 := HEC.out _ HBt.out 5 _ rfl (by omega)
        have ec6 := HEC.out _ HBt.out 6 _ rfl (by omega)
        have ec7 := HEC.out _ HBt.out 7 _ rfl (by omega)
        simp only [← Nat.add_assoc, Nat.add_zero] at ec0 ec1 ec2 ec3 ec4 ec5 ec6 ec7
        go_upto_region 12 with fail
        obtain ⟨Y, hY⟩ : ∃ Y, Y = wr.heap.size := ⟨_, rfl⟩
        obtain ⟨wy, hwy⟩ : ∃ z, z = wr.alloc (.cells #[.string (bs x.j), .int .i64 x.i, .int .u64 x.n, .int .i64 x.a.c, .int .i64 x.a.r, .int .i64 x.a.d, .int .i64 x.a.p, .string (bs x.s)] 39) := ⟨_, rfl⟩
        have HY : Hid (Blk wy Y [.string (bs x.j), .int .i64 x.i, .int .u64 x.n, .int .i64 x.a.c, .int .i64 x.a.r, .int .i64 x.a.d, .int .i64 x.a.p, .string (bs x.s)] 39) := Lib.hid (by rw [hwy, hY]; exact Blk.made wr [.string (bs x.j), .int .i64 x.i, .int .u64 x.n, .int .i64 x.a.c, .int .i64 x.a.r, .int .i64 x.a.d, .int .i64 x.a.p, .string (bs x.s)] _)
        have HBy : Hid (Below w1.heap.size w1 wy) := Lib.hid (by rw [hwy]; exact below_and HBt.out (below_alloc _ _))
        rw [← hwy, ← hY]
        clear hwy hY xx ec0 ec1 ec2 ec3 ec4 ec5 ec6 ec7
        have p0 := Past.blk HY.out (j := 0) rfl
        have p1 := Past.blk HY.out (j := 1) rfl
        have p2 := Past.blk HY.out (j := 2) rfl
        have p3 := Past.blk HY.out (j := 3) rfl
        have p4 := Past.blk HY.out (j := 4) rfl
        have p5 := Past.blk HY.out (j := 5) rfl
        have p6 := Past.blk HY.out (j := 6) rfl
        have p7 := Past.blk HY.out (j := 7) rfl
        have xp := Past.blk (HX1.out.kept HBy.out) (j := 6) rfl
        obtain ⟨tt, htt⟩ : ∃ b : Bool, b = tk x := ⟨_, rfl⟩
        have Ctt : Hid (∀ s : Past wy, Calls Tryz.prog 69 #[.agg #[.string (bs x.j), .int .i64 x.i], .int .u64 x.n] s.val fun e w2 => e = .returned (.bool tt) ∧ Below s.val.heap.size s.val w2) := Lib.hid (fun s => by rw [htt, tk_task]; exact rtask_any x.j x.i x.n s.val HTX.out.j)
        have Ett := Lib.hid htt
        clear htt
        obtain ⟨ok, hok⟩ : ∃ b : Bool, b = x.a.okB := ⟨_, rfl⟩
        obtain ⟨er, her⟩ : ∃ er, er = x.a.chk := ⟨_, rfl⟩
        have Cok : Hid (∀ s : Past wy, Calls Tryz.prog 68 #[amV x.a] s.val fun e w2 => e = .returned (.int .i64 er) ∧ Below s.val.heap.size s.val w2) := Lib.hid (fun s => by rw [her]; exact rcheck_any _ _)
        have Eer := Lib.hid her
        clear her
        have Eok := Lib.hid hok
        clear hok
        obtain ⟨nz, hnz⟩ : ∃ b : Bool, b = decide (x.a = Am.zero) := ⟨_, rfl⟩
        have tnz : ∀ w, (binOp .eql 37 (.agg #[.int .i64 x.a.c, .int .i64 x.a.r, .int .i64 x.a.d, .int .i64 x.a.p]) (.agg #[.int .i64 0, .int .i64 0, .int .i64 0, .int .i64 0])).run Tryz.prog w = .ok (.bool nz) w := fun w => by rw [hnz]; exact am_eql x.a Am.zero w
        have Enz := Lib.hid hnz
        clear hnz
        obtain ⟨s0, hs0⟩ : ∃ b : Bool, b = (x.s == []) := ⟨_, rfl⟩
        have ts0 : ((bs x.s).toList == (⟨#[]⟩ : ByteArray).toList) = s0 := by rw [hs0]; exact nil_bs x.s
        have ts1 : ((bs x.s).toList == ([] : List UInt8)) = s0 := by rw [hs0, Lib.toList_data, bs_data]
        have Es0 := Lib.hid hs0
        clear hs0
        obtain ⟨sn, hsn⟩ : ∃ b : Bool, b = tnB x.s := ⟨_, rfl⟩
        have Csn : Hid (∀ s : Past wy, Calls Tryz.prog 67 #[.string (bs x.s)] s.val fun e w2 => e = .returned (.bool sn) ∧ Below s.val.heap.size s.val w2) := Lib.hid (fun s => by rw [hsn]; exact named_any x.s s.val HTX.out.s)
        have Esn := Lib.hid hsn
        clear hsn
        have Cly : Hid (∀ s : Past wy, Calls Tryz.prog 70 #[.agg #[.string (bs y.j), .int .i64 y.i], .agg #[.string (bs x.j), .int .i64 x.i]] s.val fun e w2 => e = .returned (.bool ly) ∧ Below s.val.heap.size s.val w2) := Lib.hid (fun s => by rw [HLY.out]; exact rless_any _ _ _ _ _)
        cases tt
        · refine wp_region_past (by kernel_rfl) (by kernel_rfl) ?_
          repeat (go_big_quiet_step ((first | (go_at_call 69; exact past_call (Ctt.out _)) | (go_at_call 68; exact past_call (Cok.out _)) | (go_at_call 67; exact past_call (Csn.out _)) | (go_at_call 70; exact past_call (Cly.out _)))))
          refine wpQuiet_nil ?_
          intro _ hw'
          obtain ⟨s9, hw''⟩ := hw'
          subst hw''
          obtain ⟨w9, h9, e9⟩ : ∃ w9, Below wy.heap.size wy w9 ∧ w9 = s9.val := ⟨_, s9.h, rfl⟩
          rw [← e9]
          have HB9 : Hid (Below w1.heap.size w1 w9) := Lib.hid (below_and HBy.out h9)
          clear h9 e9 p0 p1 p2 p3 p4 p5 p6 p7 xp
          have HQ : Hid (checkP p = false) := Lib.hid (HNO1.out (rises_no HI.out (by rw [← HOO.out, HOKE.out]; have hm : mx = false := HMX.out.trans (sta_tt Ett.out.symm); rw [hm]; rfl)))
          go_wp2
          go_ret
          exact ⟨ret_int (by rw [HR.out, HQ.out]; rfl), below_and HB1.out HB9.out⟩
        · cases ok
          · obtain rfl : er = 2 := by rw [Eer.out]; exact Am.chk_no Eok.out.symm
            clear Eer
            refine wp_region_past (by kernel_rfl) (by kernel_rfl) ?_
            repeat (go_big_quiet_step ((first | (go_at_call 69; exact past_call (Ctt.out _)) | (go_at_call 68; exact past_call (Cok.out _)) | (go_at_call 67; exact past_call (Csn.out _)) | (go_at_call 70; exact past_call (Cly.out _)))))
            refine wpQuiet_nil ?_
            intro _ hw'
            obtain ⟨s9, hw''⟩ := hw'
            subst hw''
            obtain ⟨w9, h9, e9⟩ : ∃ w9, Below wy.heap.size wy w9 ∧ w9 = s9.val := ⟨_, s9.h, rfl⟩
            rw [← e9]
            have HB9 : Hid (Below w1.heap.size w1 w9) := Lib.hid (below_and HBy.out h9)
            clear h9 e9 p0 p1 p2 p3 p4 p5 p6 p7 xp
            have HQ : Hid (checkP p = false) := Lib.hid (HNO1.out (rises_no HI.out (by rw [← HOO.out, HOKE.out]; have hm : mx = false := HMX.out.trans (sta_ok Eok.out.symm); rw [hm]; rfl)))
            go_wp2
            go_ret
            exact ⟨ret_int (by rw [HR.out, HQ.out]; rfl), below_and HB1.out HB9.out⟩
          · obtain rfl : er = 0 := by rw [Eer.out]; exact Am.chk_yes Eok.out.symm
            clear Eer
            cases nz
            · cases s0
              · cases sn
                · refine wp_region_past (by kernel_rfl) (by kernel_rfl) ?_
                  repeat (go_big_quiet_step ((first | (go_at_call 69; exact past_call (Ctt.out _)) | (go_at_call 68; exact past_call (Cok.out _)) | (go_at_call 67; exact past_call (Csn.out _)) | (go_at_call 70; exact past_call (Cly.out _)))))
                  refine wpQuiet_nil ?_
                  intro _ hw'
                  obtain ⟨s9, hw''⟩ := hw'
                  subst hw''
                  obtain ⟨w9, h9, e9⟩ : ∃ w9, Below wy.heap.size wy w9 ∧ w9 = s9.val := ⟨_, s9.h, rfl⟩
                  rw [← e9]
                  have HB9 : Hid (Below w1.heap.size w1 w9) := Lib.hid (below_and HBy.out h9)
                  clear h9 e9 p0 p1 p2 p3 p4 p5 p6 p7 xp
                  have HQ : Hid (checkP p = false) := Lib.hid (HNO1.out (rises_no HI.out (by rw [← HOO.out, HOKE.out]; have hm : mx = false := HMX.out.trans (sta_sv Es0.out.symm Esn.out.symm); rw [hm]; rfl)))
                  go_wp2
                  go_ret
                  exact ⟨ret_int (by rw [HR.out, HQ.out]; rfl), below_and HB1.out HB9.out⟩
                · by_cases h0 : i = 0
                  · have HI0 := Lib.hid h0
                    have g0 : decide ((0 : Int) < (i : Int)) = false := by simp; omega
                    have g1 : decide (0 < i) = false := by simp; omega
                    clear h0
                    refine wp_region_past (by kernel_rfl) (by kernel_rfl) ?_
                    repeat (go_big_quiet_step ((first | (go_at_call 69; exact past_call (Ctt.out _)) | (go_at_call 68; exact past_call (Cok.out _)) | (go_at_call 67; exact past_call (Csn.out _)) | (go_at_call 70; exact past_call (Cly.out _)))))
                    refine wpQuiet_nil ?_
                    intro _ hw'
                    obtain ⟨s9, hw''⟩ := hw'
                    subst hw''
                    obtain ⟨w9, h9, e9⟩ : ∃ w9, Below wy.heap.size wy w9 ∧ w9 = s9.val := ⟨_, s9.h, rfl⟩
                    rw [← e9]
                    have HB9 : Hid (Below w1.heap.size w1 w9) := Lib.hid (below_and HBy.out h9)
                    clear h9 e9 p0 p1 p2 p3 p4 p5 p6 p7 xp
                    have HN : Hid (ok_ = true) := Lib.hid (by rw [HOKE.out]; have hm : mx = true := HMX.out.trans (sta_yes Ett.out.symm Eok.out.symm Enz.out.symm (.inr Esn.out.symm)); rw [hm, HI0.out]; rfl)
                    go_wp2
                    go_roundw
                    case rel => exact ⟨i + 1, by go_num, by omega, Lib.hid (fun q hq => by (by_cases hq2 : q = i; (rw [hq2, ← HOO.out]; exact HN.out); exact HOK.out q (by omega))), HB9⟩
                    case measure => simp [intOf]; omega
                  · have g0 : decide ((0 : Int) < (i : Int)) = true := by simp; omega
                    have g1 : decide (0 < i) = true := by simp; omega
                    have gi : (0 : Int) ≤ (i : Int) - 1 := by omega
                    have gj : (i : Int) - 1 < (nt : Int) := by omega
                    obtain ⟨i', rfl⟩ : ∃ i', i = i' + 1 := ⟨i - 1, by omega⟩
                    have q0 : ∀ s : Past wy, s.val.cell? ⟨eb, eo + i' * 8, none⟩ = some (.string (bs y.j)) := fun s => by have := HEY.out (by omega) _ (below_and HBy.out s.h) 0 _ rfl (by omega); simpa [Nat.add_assoc] using this
                    have q1 : ∀ s : Past wy, s.val.cell? ⟨eb, eo + i' * 8 + 1, none⟩ = some (.int .i64 y.i) := fun s => by have := HEY.out (by omega) _ (below_and HBy.out s.h) 1 _ rfl (by omega); simpa [Nat.add_assoc] using this
                    have q2 : ∀ s : Past wy, s.val.cell? ⟨eb, eo + i' * 8 + 2, none⟩ = some (.int .u64 y.n) := fun s => by have := HEY.out (by omega) _ (below_and HBy.out s.h) 2 _ rfl (by omega); simpa [Nat.add_assoc] using this
                    have q3 : ∀ s : Past wy, s.val.cell? ⟨eb, eo + i' * 8 + 3, none⟩ = some (.int .i64 y.a.c) := fun s => by have := HEY.out (by omega) _ (below_and HBy.out s.h) 3 _ rfl (by omega); simpa [Nat.add_assoc] using this
                    have q4 : ∀ s : Past wy, s.val.cell? ⟨eb, eo + i' * 8 + 4, none⟩ = some (.int .i64 y.a.r) := fun s => by have := HEY.out (by omega) _ (below_and HBy.out s.h) 4 _ rfl (by omega); simpa [Nat.add_assoc] using this
                    have q5 : ∀ s : Past wy, s.val.cell? ⟨eb, eo + i' * 8 + 5, none⟩ = some (.int .i64 y.a.d) := fun s => by have := HEY.out (by omega) _ (below_and HBy.out s.h) 5 _ rfl (by omega); simpa [Nat.add_assoc] using this
                    have q6 : ∀ s : Past wy, s.val.cell? ⟨eb, eo + i' * 8 + 6, none⟩ = some (.int .i64 y.a.p) := fun s => by have := HEY.out (by omega) _ (below_and HBy.out s.h) 6 _ rfl (by omega); simpa [Nat.add_assoc] using this
                    have q7 : ∀ s : Past wy, s.val.cell? ⟨eb, eo + i' * 8 + 7, none⟩ = some (.string (bs y.s)) := fun s => by have := HEY.out (by omega) _ (below_and HBy.out s.h) 7 _ rfl (by omega); simpa [Nat.add_assoc] using this
                    cases ly
                    · refine wp_region_past (by kernel_rfl) (by kernel_rfl) ?_
                      repeat (go_big_quiet_step ((first | (go_at_call 69; exact past_call (Ctt.out _)) | (go_at_call 68; exact past_call (Cok.out _)) | (go_at_call 67; exact past_call (Csn.out _)) | (go_at_call 70; exact past_call (Cly.out _)))))
                      refine wpQuiet_nil ?_
                      intro _ hw'
                      obtain ⟨s9, hw''⟩ := hw'
                      subst hw''
                      obtain ⟨w9, h9, e9⟩ : ∃ w9, Below wy.heap.size wy w9 ∧ w9 = s9.val := ⟨_, s9.h, rfl⟩
                      rw [← e9]
                      have HB9 : Hid (Below w1.heap.size w1 w9) := Lib.hid (below_and HBy.out h9)
                      clear h9 e9 p0 p1 p2 p3 p4 p5 p6 p7 xp
                      have HQ : Hid (checkP p = false) := Lib.hid (HNO1.out (rises_no HI.out (by rw [← HOO.out, HOKE.out]; simp)))
                      go_wp2
                      go_ret
                      exact ⟨ret_int (by rw [HR.out, HQ.out]; rfl), below_and HB1.out HB9.out⟩
                    · refine wp_region_past (by kernel_rfl) (by kernel_rfl) ?_
                      repeat (go_big_quiet_step ((first | (go_at_call 69; exact past_call (Ctt.out _)) | (go_at_call 68; exact past_call (Cok.out _)) | (go_at_call 67; exact past_call (Csn.out _)) | (go_at_call 70; exact past_call (Cly.out _)))))
                      refine wpQuiet_nil ?_
                      intro _ hw'
                      obtain ⟨s9, hw''⟩ := hw'
                      subst hw''
                      obtain ⟨w9, h9, e9⟩ : ∃ w9, Below wy.heap.size wy w9 ∧ w9 = s9.val := ⟨_, s9.h, rfl⟩
                      rw [← e9]
                      have HB9 : Hid (Below w1.heap.size w1 w9) := Lib.hid (below_and HBy.out h9)
                      clear h9 e9 p0 p1 p2 p3 p4 p5 p6 p7 xp
                      have HN : Hid (ok_ = true) := Lib.hid (by rw [HOKE.out]; have hm : mx = true := HMX.out.trans (sta_yes Ett.out.symm Eok.out.symm Enz.out.symm (.inr Esn.out.symm)); rw [hm]; simp)
                      go_wp2
                      go_roundw
                      case rel => exact ⟨(i' + 1) + 1, by go_num, by omega, Lib.hid (fun q hq => by (by_cases hq2 : q = (i' + 1); (rw [hq2, ← HOO.out]; exact HN.out); exact HOK.out q (by omega))), HB9⟩
                      case measure => simp [intOf]; omega
              · by_cases h0 : i = 0
                · have HI0 := Lib.hid h0
                  have g0 : decide ((0 : Int) < (i : Int)) = false := by simp; omega
                  have g1 : decide (0 < i) = false := by simp; omega
                  clear h0
                  refine wp_region_past (by kernel_rfl) (by kernel_rfl) ?_
                  repeat (go_big_quiet_step ((first | (go_at_call 69; exact past_call (Ctt.out _)) | (go_at_call 68; exact past_call (Cok.out _)) | (go_at_call 67; exact past_call (Csn.out _)) | (go_at_call 70; exact past_call (Cly.out _)))))
                  refine wpQuiet_nil ?_
                  intro _ hw'
                  obtain ⟨s9, hw''⟩ := hw'
                  subst hw''
                  obtain ⟨w9, h9, e9⟩ : ∃ w9, Below wy.heap.size wy w9 ∧ w9 = s9.val := ⟨_, s9.h, rfl⟩
                  rw [← e9]
                  have HB9 : Hid (Below w1.heap.size w1 w9) := Lib.hid (below_and HBy.out h9)
                  clear h9 e9 p0 p1 p2 p3 p4 p5 p6 p7 xp
                  have HN : Hid (ok_ = true) := Lib.hid (by rw [HOKE.out]; have hm : mx = true := HMX.out.trans (sta_yes Ett.out.symm Eok.out.symm Enz.out.symm (.inl Es0.out.symm)); rw [hm, HI0.out]; rfl)
                  go_wp2
                  go_roundw
                  case rel => exact ⟨i + 1, by go_num, by omega, Lib.hid (fun q hq => by (by_cases hq2 : q = i; (rw [hq2, ← HOO.out]; exact HN.out); exact HOK.out q (by omega))), HB9⟩
                  case measure => simp [intOf]; omega
                · have g0 : decide ((0 : Int) < (i : Int)) = true := by simp; omega
                  have g1 : decide (0 < i) = true := by simp; omega
                  have gi : (0 : Int) ≤ (i : Int) - 1 := by omega
                  have gj : (i : Int) - 1 < (nt : Int) := by omega
                  obtain ⟨i', rfl⟩ : ∃ i', i = i' + 1 := ⟨i - 1, by omega⟩
                  have q0 : ∀ s : Past wy, s.val.cell? ⟨eb, eo + i' * 8, none⟩ = some (.string (bs y.j)) := fun s => by have := HEY.out (by omega) _ (below_and HBy.out s.h) 0 _ rfl (by omega); simpa [Nat.add_assoc] using this
                  have q1 : ∀ s : Past wy, s.val.cell? ⟨eb, eo + i' * 8 + 1, none⟩ = some (.int .i64 y.i) := fun s => by have := HEY.out (by omega) _ (below_and HBy.out s.h) 1 _ rfl (by omega); simpa [Nat.add_assoc] using this
                  have q2 : ∀ s : Past wy, s.val.cell? ⟨eb, eo + i' * 8 + 2, none⟩ = some (.int .u64 y.n) := fun s => by have := HEY.out (by omega) _ (below_and HBy.out s.h) 2 _ rfl (by omega); simpa [Nat.add_assoc] using this
                  have q3 : ∀ s : Past wy, s.val.cell? ⟨eb, eo + i' * 8 + 3, none⟩ = some (.int .i64 y.a.c) := fun s => by have := HEY.out (by omega) _ (below_and HBy.out s.h) 3 _ rfl (by omega); simpa [Nat.add_assoc] using this
                  have q4 : ∀ s : Past wy, s.val.cell? ⟨eb, eo + i' * 8 + 4, none⟩ = some (.int .i64 y.a.r) := fun s => by have := HEY.out (by omega) _ (below_and HBy.out s.h) 4 _ rfl (by omega); simpa [Nat.add_assoc] using this
                  have q5 : ∀ s : Past wy, s.val.cell? ⟨eb, eo + i' * 8 + 5, none⟩ = some (.int .i64 y.a.d) := fun s => by have := HEY.out (by omega) _ (below_and HBy.out s.h) 5 _ rfl (by omega); simpa [Nat.add_assoc] using this
                  have q6 : ∀ s : Past wy, s.val.cell? ⟨eb, eo + i' * 8 + 6, none⟩ = some (.int .i64 y.a.p) := fun s => by have := HEY.out (by omega) _ (below_and HBy.out s.h) 6 _ rfl (by omega); simpa [Nat.add_assoc] using this
                  have q7 : ∀ s : Past wy, s.val.cell? ⟨eb, eo + i' * 8 + 7, none⟩ = some (.string (bs y.s)) := fun s => by have := HEY.out (by omega) _ (below_and HBy.out s.h) 7 _ rfl (by omega); simpa [Nat.add_assoc] using this
                  cases ly
                  · refine wp_region_past (by kernel_rfl) (by kernel_rfl) ?_
                    repeat (go_big_quiet_step ((first | (go_at_call 69; exact past_call (Ctt.out _)) | (go_at_call 68; exact past_call (Cok.out _)) | (go_at_call 67; exact past_call (Csn.out _)) | (go_at_call 70; exact past_call (Cly.out _)))))
                    refine wpQuiet_nil ?_
                    intro _ hw'
                    obtain ⟨s9, hw''⟩ := hw'
                    subst hw''
                    obtain ⟨w9, h9, e9⟩ : ∃ w9, Below wy.heap.size wy w9 ∧ w9 = s9.val := ⟨_, s9.h, rfl⟩
                    rw [← e9]
                    have HB9 : Hid (Below w1.heap.size w1 w9) := Lib.hid (below_and HBy.out h9)
                    clear h9 e9 p0 p1 p2 p3 p4 p5 p6 p7 xp
                    have HQ : Hid (checkP p = false) := Lib.hid (HNO1.out (rises_no HI.out (by rw [← HOO.out, HOKE.out]; simp)))
                    go_wp2
                    go_ret
                    exact ⟨ret_int (by rw [HR.out, HQ.out]; rfl), below_and HB1.out HB9.out⟩
                  · refine wp_region_past (by kernel_rfl) (by kernel_rfl) ?_
                    repeat (go_big_quiet_step ((first | (go_at_call 69; exact past_call (Ctt.out _)) | (go_at_call 68; exact past_call (Cok.out _)) | (go_at_call 67; exact past_call (Csn.out _)) | (go_at_call 70; exact past_call (Cly.out _)))))
                    refine wpQuiet_nil ?_
                    intro _ hw'
                    obtain ⟨s9, hw''⟩ := hw'
                    subst hw''
                    obtain ⟨w9, h9, e9⟩ : ∃ w9, Below wy.heap.size wy w9 ∧ w9 = s9.val := ⟨_, s9.h, rfl⟩
                    rw [← e9]
                    have HB9 : Hid (Below w1.heap.size w1 w9) := Lib.hid (below_and HBy.out h9)
                    clear h9 e9 p0 p1 p2 p3 p4 p5 p6 p7 xp
                    have HN : Hid (ok_ = true) := Lib.hid (by rw [HOKE.out]; have hm : mx = true := HMX.out.trans (sta_yes Ett.out.symm Eok.out.symm Enz.out.symm (.inl Es0.out.symm)); rw [hm]; simp)
                    go_wp2
                    go_roundw
                    case rel => exact ⟨(i' + 1) + 1, by go_num, by omega, Lib.hid (fun q hq => by (by_cases hq2 : q = (i' + 1); (rw [hq2, ← HOO.out]; exact HN.out); exact HOK.out q (by omega))), HB9⟩
                    case measure => simp [intOf]; omega
            · refine wp_region_past (by kernel_rfl) (by kernel_rfl) ?_
              repeat (go_big_quiet_step ((first | (go_at_call 69; exact past_call (Ctt.out _)) | (go_at_call 68; exact past_call (Cok.out _)) | (go_at_call 67; exact past_call (Csn.out _)) | (go_at_call 70; exact past_call (Cly.out _)))))
              refine wpQuiet_nil ?_
              intro _ hw'
              obtain ⟨s9, hw''⟩ := hw'
              subst hw''
              obtain ⟨w9, h9, e9⟩ : ∃ w9, Below wy.heap.size wy w9 ∧ w9 = s9.val := ⟨_, s9.h, rfl⟩
              rw [← e9]
              have HB9 : Hid (Below w1.heap.size w1 w9) := Lib.hid (below_and HBy.out h9)
              clear h9 e9 p0 p1 p2 p3 p4 p5 p6 p7 xp
              have HQ : Hid (checkP p = false) := Lib.hid (HNO1.out (rises_no HI.out (by rw [← HOO.out, HOKE.out]; have hm : mx = false := HMX.out.trans (sta_nz Enz.out.symm); rw [hm]; rfl)))
              go_wp2
              go_ret
              exact ⟨ret_int (by rw [HR.out, HQ.out]; rfl), below_and HB1.out HB9.out⟩
    have HI : Hid (i < p.K.length) := Lib.hid (by rw [← HNK.out]; exact hlt)
    obtain ⟨x, hx⟩ : ∃ x, x = p.K[i]'HI.out := ⟨_, rfl⟩
    obtain ⟨y, hy⟩ : ∃ y, y = p.K[i - 1]'(by have := HI.out; omega) := ⟨_, rfl⟩
    have HTX : Hid (TxOk x) := Lib.hid (HP.out.tk x (by rw [hx]; exact List.getElem_mem _))
    obtain ⟨pp, cc, hpp, -, -, hat⟩ := row_el HP.out.k
    rcases hat with hat | ⟨eb, eo, rfl, hat⟩
    · exact absurd (congrArg List.length hat) (by rw [rwC_len (show ∀ z, (envC z).length = 5 from fun _ => rfl)]; simp; have := HI.out; omega)
    obtain ⟨hpe, -, -⟩ := Value.slice.inj hpp
    subst hpe
    clear hpp
    have HEC : Hid (∀ w', Below w1.heap.size w1 w' → ∀ (j : Nat) u, (envC x)[j]? = some u → j < 5 → w'.cell? ⟨eb, eo + (i * 5 + j), none⟩ = some u) := Lib.hid (fun w' hw j u hu hj => cell_kept (hat _ u (by rw [rwC_at (show ∀ z, (envC z).length = 5 from fun _ => rfl) HI.out hj, ← hx]; exact hu)) (below_and HB1.out hw))
    have HEY : Hid (0 < i → ∀ w', Below w1.heap.size w1 w' → ∀ (j : Nat) u, (envC y)[j]? = some u → j < 5 → w'.cell? ⟨eb, eo + ((i - 1) * 5 + j), none⟩ = some u) := Lib.hid (fun h0 w' hw j u hu hj => cell_kept (hat _ u (by rw [rwC_at (show ∀ z, (envC z).length = 5 from fun _ => rfl) (by have := HI.out; omega) hj, ← hy]; exact hu)) (below_and HB1.out hw))
    obtain ⟨ok_, hok_⟩ : ∃ b, b = okAt envM envL p.K i := ⟨_, rfl⟩
    obtain ⟨mx, hmx⟩ : ∃ b, b = envM x := ⟨_, rfl⟩
    obtain ⟨ly, hly⟩ : ∃ b, b = envL y x := ⟨_, rfl⟩
    have HOKE : Hid (ok_ = (mx && (i == 0 || ly))) := Lib.hid (by rw [hok_, okAt_at HI.out, hmx, hly, hx, hy, dif_pos (by have := HI.out; omega)])
    have HOO := Lib.hid hok_
    have HMX := Lib.hid hmx
    have HLY := Lib.hid hly
    clear hat hok_ hmx hly hx hy
    have i3 : i ≤ 256 := by have := HNB.out; omega
    have i0 : (0 : Int) ≤ (i : Int) := by omega
    have i1 : (i : Int) < (nk : Int) := by omega
    go_upto_region 6 with fail
    have xp := Past.blk (HX1.out.kept HBk.out) (j := 5) rfl
    have p0 : ∀ s : Past wr, s.val.cell? ⟨eb, eo + i * 5, none⟩ = some (.string (bs x.j)) := fun s => by have := HEC.out _ (below_and HBk.out s.h) 0 _ rfl (by omega); simpa [Nat.add_assoc] using this
    have p1 : ∀ s : Past wr, s.val.cell? ⟨eb, eo + i * 5 + 1, none⟩ = some (.int .i64 x.a.c) := fun s => by have := HEC.out _ (below_and HBk.out s.h) 1 _ rfl (by omega); simpa [Nat.add_assoc] using this
    have p2 : ∀ s : Past wr, s.val.cell? ⟨eb, eo + i * 5 + 2, none⟩ = some (.int .i64 x.a.r) := fun s => by have := HEC.out _ (below_and HBk.out s.h) 2 _ rfl (by omega); simpa [Nat.add_assoc] using this
    have p3 : ∀ s : Past wr, s.val.cell? ⟨eb, eo + i * 5 + 3, none⟩ = some (.int .i64 x.a.d) := fun s => by have := HEC.out _ (below_and HBk.out s.h) 3 _ rfl (by omega); simpa [Nat.add_assoc] using this
    have p4 : ∀ s : Past wr, s.val.cell? ⟨eb, eo + i * 5 + 4, none⟩ = some (.int .i64 x.a.p) := fun s => by have := HEC.out _ (below_and HBk.out s.h) 4 _ rfl (by omega); simpa [Nat.add_assoc] using this
    clear xx
    obtain ⟨tn, htn⟩ : ∃ b : Bool, b = tnB x.j := ⟨_, rfl⟩
    have Ctn : Hid (∀ s : Past wr, Calls Tryz.prog 67 #[.string (bs x.j)] s.val fun e w2 => e = .returned (.bool tn) ∧ Below s.val.heap.size s.val w2) := Lib.hid (fun s => by rw [htn]; exact named_any x.j s.val HTX.out.j)
    have Etn := Lib.hid htn
    clear htn
    obtain ⟨ok, hok⟩ : ∃ b : Bool, b = x.a.okB := ⟨_, rfl⟩
    obtain ⟨er, her⟩ : ∃ er, er = x.a.chk := ⟨_, rfl⟩
    have Cok : Hid (∀ s : Past wr, Calls Tryz.prog 68 #[amV x.a] s.val fun e w2 => e = .returned (.int .i64 er) ∧ Below s.val.heap.size s.val w2) := Lib.hid (fun s => by rw [her]; exact rcheck_any _ _)
    have Eer := Lib.hid her
    clear her
    have Eok := Lib.hid hok
    clear hok
    obtain ⟨lq, hlq⟩ : ∃ b : Bool, b = (bl x.j y.j || x.j == y.j) := ⟨_, rfl⟩
    obtain ⟨l1, hl1⟩ : ∃ b : Bool, b = bl x.j y.j := ⟨_, rfl⟩
    obtain ⟨l2, hl2⟩ : ∃ b : Bool, b = (x.j == y.j) := ⟨_, rfl⟩
    have tl1 : Op.bytesLess (bs x.j).toList (bs y.j).toList = l1 := by rw [hl1]; rfl
    have tl2 : ((bs x.j).toList == (bs y.j).toList) = l2 := by rw [beq_bs, hl2]
    have HLL : Hid (ly = !(l1 || l2)) := Lib.hid (by rw [HLY.out, envL_leq, hl1, hl2])
    clear hlq hl1 hl2
    cases tn
    · refine wp_region_past (by kernel_rfl) (by kernel_rfl) ?_
      repeat (go_big_quiet_step ((first | (go_at_call 67; exact past_call (Ctn.out _)) | (go_at_call 68; exact past_call (Cok.out _)))))
      refine wpQuiet_nil ?_
      intro _ hw'
      obtain ⟨s9, hw''⟩ := hw'
      subst hw''
      obtain ⟨w9, h9, e9⟩ : ∃ w9, Below wr.heap.size wr w9 ∧ w9 = s9.val := ⟨_, s9.h, rfl⟩
      rw [← e9]
      have HB9 : Hid (Below w1.heap.size w1 w9) := Lib.hid (below_and HBk.out h9)
      clear h9 e9 p0 p1 p2 p3 p4 xp
      have HQ : Hid (checkP p = false) := Lib.hid (HNO0.out (rises_no HI.out (by rw [← HOO.out, HOKE.out]; have hm : mx = false := HMX.out.trans (env_tn Etn.out.symm); rw [hm]; rfl)))
      go_wp2
      go_ret
      exact ⟨ret_int (by rw [HR.out, HQ.out]; rfl), below_and HB1.out HB9.out⟩
    · cases ok
      · obtain rfl : er = 2 := by rw [Eer.out]; exact Am.chk_no Eok.out.symm
        clear Eer
        refine wp_region_past (by kernel_rfl) (by kernel_rfl) ?_
        repeat (go_big_quiet_step ((first | (go_at_call 67; exact past_call (Ctn.out _)) | (go_at_call 68; exact past_call (Cok.out _)))))
        refine wpQuiet_nil ?_
        intro _ hw'
        obtain ⟨s9, hw''⟩ := hw'
        subst hw''
        obtain ⟨w9, h9, e9⟩ : ∃ w9, Below wr.heap.size wr w9 ∧ w9 = s9.val := ⟨_, s9.h, rfl⟩
        rw [← e9]
        have HB9 : Hid (Below w1.heap.size w1 w9) := Lib.hid (below_and HBk.out h9)
        clear h9 e9 p0 p1 p2 p3 p4 xp
        have HQ : Hid (checkP p = false) := Lib.hid (HNO0.out (rises_no HI.out (by rw [← HOO.out, HOKE.out]; have hm : mx = false := HMX.out.trans (env_ok Eok.out.symm); rw [hm]; rfl)))
        go_wp2
        go_ret
        exact ⟨ret_int (by rw [HR.out, HQ.out]; rfl), below_and HB1.out HB9.out⟩
      · obtain rfl : er = 0 := by rw [Eer.out]; exact Am.chk_yes Eok.out.symm
        clear Eer
        by_cases h0 : i = 0
        · have HI0 := Lib.hid h0
          have g0 : decide ((0 : Int) < (i : Int)) = false := by simp; omega
          have g1 : decide (0 < i) = false := by simp; omega
          clear h0
          refine wp_region_past (by kernel_rfl) (by kernel_rfl) ?_
          repeat (go_big_quiet_step ((first | (go_at_call 67; exact past_call (Ctn.out _)) | (go_at_call 68; exact past_call (Cok.out _)))))
          refine wpQuiet_nil ?_
          intro _ hw'
          obtain ⟨s9, hw''⟩ := hw'
          subst hw''
          obtain ⟨w9, h9, e9⟩ : ∃ w9, Below wr.heap.size wr w9 ∧ w9 = s9.val := ⟨_, s9.h, rfl⟩
          rw [← e9]
          have HB9 : Hid (Below w1.heap.size w1 w9) := Lib.hid (below_and HBk.out h9)
          clear h9 e9 p0 p1 p2 p3 p4 xp
          have HN : Hid (ok_ = true) := Lib.hid (by rw [HOKE.out]; have hm : mx = true := HMX.out.trans (env_yes Etn.out.symm Eok.out.symm); rw [hm, HI0.out]; rfl)
          go_wp2
          go_roundw
          case rel => exact ⟨i + 1, by go_num, by omega, Lib.hid (fun q hq => by (by_cases hq2 : q = i; (rw [hq2, ← HOO.out]; exact HN.out); exact HOK.out q (by omega))), HB9⟩
          case measure => simp [intOf]; omega
        · have g0 : decide ((0 : Int) < (i : Int)) = true := by simp; omega
          have g1 : decide (0 < i) = true := by simp; omega
          have gi : (0 : Int) ≤ (i : Int) - 1 := by omega
          have gj : (i : Int) - 1 < (nk : Int) := by omega
          obtain ⟨i', rfl⟩ : ∃ i', i = i' + 1 := ⟨i - 1, by omega⟩
          have q0 : ∀ s : Past wr, s.val.cell? ⟨eb, eo + i' * 5, none⟩ = some (.string (bs y.j)) := fun s => by have := HEY.out (by omega) _ (below_and HBk.out s.h) 0 _ rfl (by omega); simpa [Nat.add_assoc] using this
          have q1 : ∀ s : Past wr, s.val.cell? ⟨eb, eo + i' * 5 + 1, none⟩ = some (.int .i64 y.a.c) := fun s => by have := HEY.out (by omega) _ (below_and HBk.out s.h) 1 _ rfl (by omega); simpa [Nat.add_assoc] using this
          have q2 : ∀ s : Past wr, s.val.cell? ⟨eb, eo + i' * 5 + 2, none⟩ = some (.int .i64 y.a.r) := fun s => by have := HEY.out (by omega) _ (below_and HBk.out s.h) 2 _ rfl (by omega); simpa [Nat.add_assoc] using this
          have q3 : ∀ s : Past wr, s.val.cell? ⟨eb, eo + i' * 5 + 3, none⟩ = some (.int .i64 y.a.d) := fun s => by have := HEY.out (by omega) _ (below_and HBk.out s.h) 3 _ rfl (by omega); simpa [Nat.add_assoc] using this
          have q4 : ∀ s : Past wr, s.val.cell? ⟨eb, eo + i' * 5 + 4, none⟩ = some (.int .i64 y.a.p) := fun s => by have := HEY.out (by omega) _ (below_and HBk.out s.h) 4 _ rfl (by omega); simpa [Nat.add_assoc] using this
          cases l1
          · cases l2
            · refine wp_region_past (by kernel_rfl) (by kernel_rfl) ?_
              repeat (go_big_quiet_step ((first | (go_at_call 67; exact past_call (Ctn.out _)) | (go_at_call 68; exact past_call (Cok.out _)))))
              refine wpQuiet_nil ?_
              intro _ hw'
              obtain ⟨s9, hw''⟩ := hw'
              subst hw''
              obtain ⟨w9, h9, e9⟩ : ∃ w9, Below wr.heap.size wr w9 ∧ w9 = s9.val := ⟨_, s9.h, rfl⟩
              rw [← e9]
              have HB9 : Hid (Below w1.heap.size w1 w9) := Lib.hid (below_and HBk.out h9)
              clear h9 e9 p0 p1 p2 p3 p4 xp
              have HN : Hid (ok_ = true) := Lib.hid (by rw [HOKE.out]; have hm : mx = true := HMX.out.trans (env_yes Etn.out.symm Eok.out.symm); rw [hm, HLL.out]; simp)
              go_wp2
              go_roundw
              case rel => exact ⟨(i' + 1) + 1, by go_num, by omega, Lib.hid (fun q hq => by (by_cases hq2 : q = (i' + 1); (rw [hq2, ← HOO.out]; exact HN.out); exact HOK.out q (by omega))), HB9⟩
              case measure => simp [intOf]; omega
            · refine wp_region_past (by kernel_rfl) (by kernel_rfl) ?_
              repeat (go_big_quiet_step ((first | (go_at_call 67; exact past_call (Ctn.out _)) | (go_at_call 68; exact past_call (Cok.out _)))))
              refine wpQuiet_nil ?_
              intro _ hw'
              obtain ⟨s9, hw''⟩ := hw'
              subst hw''
              obtain ⟨w9, h9, e9⟩ : ∃ w9, Below wr.heap.size wr w9 ∧ w9 = s9.val := ⟨_, s9.h, rfl⟩
              rw [← e9]
              have HB9 : Hid (Below w1.heap.size w1 w9) := Lib.hid (below_and HBk.out h9)
              clear h9 e9 p0 p1 p2 p3 p4 xp
              have HQ : Hid (checkP p = false) := Lib.hid (HNO0.out (rises_no HI.out (by rw [← HOO.out, HOKE.out]; rw [HLL.out]; simp)))
              go_wp2
              go_ret
              exact ⟨ret_int (by rw [HR.out, HQ.out]; rfl), below_and HB1.out HB9.out⟩
          · refine wp_region_past (by kernel_rfl) (by kernel_rfl) ?_
            repeat (go_big_quiet_step ((first | (go_at_call 67; exact past_call (Ctn.out _)) | (go_at_call 68; exact past_call (Cok.out _)))))
            refine wpQuiet_nil ?_
            intro _ hw'
            obtain ⟨s9, hw''⟩ := hw'
            subst hw''
            obtain ⟨w9, h9, e9⟩ : ∃ w9, Below wr.heap.size wr w9 ∧ w9 = s9.val := ⟨_, s9.h, rfl⟩
            rw [← e9]
            have HB9 : Hid (Below w1.heap.size w1 w9) := Lib.hid (below_and HBk.out h9)
            clear h9 e9 p0 p1 p2 p3 p4 xp
            have HQ : Hid (checkP p = false) := Lib.hid (HNO0.out (rises_no HI.out (by rw [← HOO.out, HOKE.out]; rw [HLL.out]; simp)))
            go_wp2
            go_ret
            exact ⟨ret_int (by rw [HR.out, HQ.out]; rfl), below_and HB1.out HB9.out⟩
end Go.Proofs.YtopkfomlppnpeaaGreatDoor.Ms
