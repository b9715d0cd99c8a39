/- , laid together: MsDCp, MsDCr, MsDAw. -/
import Derived.Test.YtopkfomlppnpeaaGreatDoorMsDCpA
import Derived.Test.YtopkfomlppnpeaaGreatDoorMsDCpB
import Derived.Test.YtopkfomlppnpeaaGreatDoorMFt
import Derived.Test.YtopkfomlppnpeaaGreatDoorMDf
import Derived.Test.YtopkfomlppnpeaaGreatDoorMDn
import Derived.Test.YtopkfomlppnpeaaGreatDoorMDl
import Derived.Test.YtopkfomlppnpeaaGreatDoorMDp
import Derived.Test.YtopkfomlppnpeaaGreatDoorMDb
import Derived.Test.YtopkfomlppnpeaaGreatDoorMDa
namespace Go.Proofs.YtopkfomlppnpeaaGreatDoor.Ms
open Go.RowKit Go.Proofs.YtopkfomlppnpeaaGreatDoor

theorem rcheckP_any (p : Po) (vk vt vs : Value) (w : World) (h : PoW w p vk vt vs) : Calls Tryz.prog 12 #[poV p vk vt vs] w fun e w' => e = .returned (.int .i64 (if checkP p then 0 else 2)) ∧ Below w.heap.size w w' := by
  by_cases hb : p.bo = 0
  · exact rcheckP_wayb p vk vt vs w h hb
  · exact rcheckP_waya p vk vt vs w h hb
end Go.Proofs.YtopkfomlppnpeaaGreatDoor.Ms

namespace Go.Proofs.YtopkfomlppnpeaaGreatDoor.Ms
open Go.RowKit Go.Proofs.YtopkfomlppnpeaaGreatDoor

set_option maxRecDepth 100000 in
set_option maxHeartbeats 4000000 in
theorem rcheckR_any (p : Rp) (vk vt vs : Value) (w : World) (h : RpW w p vk vt vs) : Calls Tryz.prog 14 #[rpV p vk vt vs] w fun e w' => e = .returned (.int .i64 (if checkR p then 0 else 2)) ∧ Below w.heap.size w w' := by
  obtain ⟨r, hr⟩ : ∃ r : Int, r = if checkR p then 0 else 2 := ⟨_, rfl⟩
  rw [← hr]
  have HR := Lib.hid hr
  clear hr
  obtain ⟨pk, ck, rfl, -⟩ := row_el h.k
  obtain ⟨pt, ct, rfl, -⟩ := row_el h.t
  obtain ⟨ps, cs, rfl, -⟩ := row_el h.s
  obtain ⟨nk, hnk⟩ : ∃ n, n = p.H.length := ⟨_, rfl⟩
  obtain ⟨nt, hnt⟩ : ∃ n, n = p.F.length := ⟨_, rfl⟩
  obtain ⟨ns, hns⟩ : ∃ n, n = p.R.length := ⟨_, rfl⟩
  have HP : Hid (RpW w p (.slice pk nk ck) (.slice pt nt ct) (.slice ps ns cs)) := Lib.hid (by rw [hnk, hnt, hns]; exact h)
  have HNK := Lib.hid hnk
  have HNT := Lib.hid hnt
  have HNS := Lib.hid hns
  rw [← hnk, ← hnt, ← hns]
  clear h hnk hnt hns
  obtain ⟨X, hX⟩ : ∃ X, X = w.heap.size := ⟨_, rfl⟩
  obtain ⟨w1, hw1⟩ : ∃ w1, w1 = w.alloc (.cells #[.int .u64 p.ep, .int .u64 p.sq, .int .u64 p.bo, .int .i64 p.at_, .slice pk nk ck, .slice pt nt ct, .slice ps ns cs] 44) := ⟨_, rfl⟩
  have HX1 : Hid (Blk w1 X [.int .u64 p.ep, .int .u64 p.sq, .int .u64 p.bo, .int .i64 p.at_, .slice pk nk ck, .slice pt nt ct, .slice ps ns cs] 44) := Lib.hid (by rw [hw1, hX]; exact Blk.made w [.int .u64 p.ep, .int .u64 p.sq, .int .u64 p.bo, .int .i64 p.at_, .slice pk nk ck, .slice pt nt ct, .slice ps ns cs] _)
  have HB1 : Hid (Below w.heap.size w w1) := Lib.hid (by rw [hw1]; exact below_alloc _ _)
  obtain ⟨h0, hh0⟩ : ∃ h0 : Bool, h0 = (p.ep == 0) := ⟨_, rfl⟩
  have th00 : (p.ep == 0) = h0 := hh0.symm
  have Eh0 := Lib.hid hh0
  clear hh0
  obtain ⟨h1, hh1⟩ : ∃ h1 : Bool, h1 = (p.sq == 0) := ⟨_, rfl⟩
  have th10 : (p.sq == 0) = h1 := hh1.symm
  have Eh1 := Lib.hid hh1
  clear hh1
  obtain ⟨h9, hh9⟩ : ∃ h9 : Bool, h9 = (p.bo == 0) := ⟨_, rfl⟩
  have th90 : (p.bo == 0) = h9 := hh9.symm
  have Eh9 := Lib.hid hh9
  clear hh9
  obtain ⟨h2, hh2⟩ : ∃ h2 : Bool, h2 = (decide (p.at_ < 0)) := ⟨_, rfl⟩
  have th20 : decide (p.at_ < 0) = h2 := hh2.symm
  have Eh2 := Lib.hid hh2
  clear hh2
  obtain ⟨h3, hh3⟩ : ∃ h3 : Bool, h3 = (decide (1152921504606846976 < p.at_)) := ⟨_, rfl⟩
  have th30 : decide (1152921504606846976 < p.at_) = h3 := hh3.symm
  have Eh3 := Lib.hid hh3
  clear hh3
  go_enter Tryz.func14, Tryz.ntmps14
  go_upto_region 1 with fail
  rw [← hw1, ← hX]
  clear hw1 hX
  have c0 := HX1.out.cell (j := 0) rfl
  have c1 := HX1.out.cell (j := 1) rfl
  have c2 := HX1.out.cell (j := 2) rfl
  have c3 := HX1.out.cell (j := 3) rfl
  have c4 := HX1.out.cell (j := 4) rfl
  have c5 := HX1.out.cell (j := 5) rfl
  have c6 := HX1.out.cell (j := 6) rfl
  cases h0
  rotate_left
  · have HQ : Hid (checkR p = false) := Lib.hid (checkR_no ((.inl (eq_of_beq Eh0.out.symm))))
    go_wp2
    go_ret
    exact ⟨ret_int (by rw [HR.out, HQ.out]; rfl), HB1.out⟩
  cases h1
  rotate_left
  · have HQ : Hid (checkR p = false) := Lib.hid (checkR_no ((.inr (.inl (eq_of_beq Eh1.out.symm)))))
    go_wp2
    go_ret
    exact ⟨ret_int (by rw [HR.out, HQ.out]; rfl), HB1.out⟩
  cases h9
  rotate_left
  · have HQ : Hid (checkR p = false) := Lib.hid (checkR_no ((.inr (.inr (.inl (eq_of_beq Eh9.out.symm))))))
    go_wp2
    go_ret
    exact ⟨ret_int (by rw [HR.out, HQ.out]; rfl), HB1.out⟩
  cases h2
  rotate_left
  · have HQ : Hid (checkR p = false) := Lib.hid (checkR_no ((.inr (.inr (.inr (.inl (of_decide_eq_true Eh2.out.symm)))))))
    go_wp2
    go_ret
    exact ⟨ret_int (by rw [HR.out, HQ.out]; rfl), HB1.out⟩
  cases h3
  rotate_left
  · have HQ : Hid (checkR p = false) := Lib.hid (checkR_no ((.inr (.inr (.inr (.inr (.inl (of_decide_eq_true Eh3.out.symm))))))))
    go_wp2
    go_ret
    exact ⟨ret_int (by rw [HR.out, HQ.out]; rfl), HB1.out⟩
  by_cases g_nk : nk ≤ 256
  rotate_left
  · have d_nk : decide ((256 : Int) < (nk : Int)) = true := by simp; omega
    have f_nk : decide (256 < nk) = true := by simp; omega
    have HLN : Hid (¬ nk ≤ 256) := Lib.hid g_nk
    clear g_nk
    have HQ : Hid (checkR p = false) := Lib.hid (checkR_no ((.inr (.inr (.inr (.inr (.inr (.inl (rises_long (by rw [← HNK.out]; exact HLN.out))))))))))
    go_wp2
    go_ret
    exact ⟨ret_int (by rw [HR.out, HQ.out]; rfl), HB1.out⟩
  have d_nk : decide ((256 : Int) < (nk : Int)) = false := by simp; omega
  have f_nk : decide (256 < nk) = false := by simp; omega
  by_cases g_nt : nt ≤ 256
  rotate_left
  · have d_nt : decide ((256 : Int) < (nt : Int)) = true := by simp; omega
    have f_nt : decide (256 < nt) = true := by simp; omega
    have HLN : Hid (¬ nt ≤ 256) := Lib.hid g_nt
    clear g_nt
    have HQ : Hid (checkR p = false) := Lib.hid (checkR_no ((.inr (.inr (.inr (.inr (.inr (.inr (.inl (rises_long (by rw [← HNT.out]; exact HLN.out)))))))))))
    go_wp2
    go_ret
    exact ⟨ret_int (by rw [HR.out, HQ.out]; rfl), HB1.out⟩
  have d_nt : decide ((256 : Int) < (nt : Int)) = false := by simp; omega
  have f_nt : decide (256 < nt) = false := by simp; omega
  by_cases g_ns : ns ≤ 256
  rotate_left
  · have d_ns : decide ((256 : Int) < (ns : Int)) = true := by simp; omega
    have f_ns : decide (256 < ns) = true := by simp; omega
    have HLN : Hid (¬ ns ≤ 256) := Lib.hid g_ns
    clear g_ns
    have HQ : Hid (checkR p = false) := Lib.hid (checkR_no ((.inr (.inr (.inr (.inr (.inr (.inr (.inr (rises_long (by rw [← HNS.out]; exact HLN.out)))))))))))
    go_wp2
    go_ret
    exact ⟨ret_int (by rw [HR.out, HQ.out]; rfl), HB1.out⟩
  have d_ns : decide ((256 : Int) < (ns : Int)) = false := by simp; omega
  have f_ns : decide (256 < ns) = false := by simp; omega
  have HNB : Hid (nk ≤ 256 ∧ nt ≤ 256 ∧ ns ≤ 256) := Lib.hid ⟨g_nk, g_nt, g_ns⟩
  clear g_nk g_nt g_ns
  have HNO0 : Hid (risesB helM ltT p.H = false → checkR p = false) := Lib.hid (fun h => checkR_no ((.inr (.inr (.inr (.inr (.inr (.inl h))))))))
  have HNO1 : Hid (risesB finM finL p.F = false → checkR p = false) := Lib.hid (fun h => checkR_no ((.inr (.inr (.inr (.inr (.inr (.inr (.inl h)))))))))
  have HNO2 : Hid (risesB refM ltT p.R = false → checkR p = false) := Lib.hid (fun h => checkR_no ((.inr (.inr (.inr (.inr (.inr (.inr (.inr h)))))))))
  go_upto_region 4 with fail
  clear c0 c1 c2 c3 c4 c5 c6
  go_loopw [3] (fun vi wr => ∃ i : Nat, vi = .int .i64 i ∧ i ≤ nk ∧ Hid (∀ q, q < i → okAt helM ltT p.H q = true) ∧ Hid (Below w1.heap.size w1 wr)) (fun vi _ => nk - (intOf vi).toNat)
  case atStart => exact ⟨0, by go_num, Nat.zero_le _, Lib.hid (fun q hq => absurd hq (by omega)), Lib.hid (Below.refl _ _)⟩
  case round =>
    obtain ⟨i, rfl, him, HOK, HBk⟩ := hrel
    have xx := (HX1.out.kept HBk.out).cell (j := 4) rfl
    by_cases hlt : i < nk
    rotate_left
    · obtain rfl : i = nk := by omega
      have HRk : Hid (risesB helM ltT p.H = true) := Lib.hid (by rw [rises_yes (fun q hq => HOK.out q (by rw [HNK.out]; exact hq))]; exact decide_eq_true (by have := HNB.out; have := HNK.out; omega))
      clear HOK
      have xh := (HX1.out.kept HBk.out).cell (j := 5) rfl
      go_upto_region 10 with fail
      clear xh
      go_loopw [5] (fun vi wr => ∃ i : Nat, vi = .int .i64 i ∧ i ≤ nt ∧ Hid (∀ q, q < i → okAt finM finL p.F q = true) ∧ Hid (Below w1.heap.size w1 wr)) (fun vi _ => nt - (intOf vi).toNat)
      case atStart => exact ⟨0, by go_num, Nat.zero_le _, Lib.hid (fun q hq => absurd hq (by omega)), Lib.hid HBk.out⟩
      case round =>
        obtain ⟨i, rfl, him, HOK, HBt⟩ := hrel
        have xx := (HX1.out.kept HBt.out).cell (j := 5) rfl
        by_cases hlt : i < nt
        rotate_left
        · obtain rfl : i = nt := by omega
          have HRt : Hid (risesB finM finL p.F = true) := Lib.hid (by rw [rises_yes (fun q hq => HOK.out q (by rw [HNT.out]; exact hq))]; exact decide_eq_true (by have := HNB.out; have := HNT.out; omega))
          clear HOK
          have xh := (HX1.out.kept HBt.out).cell (j := 6) rfl
          go_upto_region 16 with fail
          clear xh
          go_loopw [7] (fun vi wr => ∃ i : Nat, vi = .int .i64 i ∧ i ≤ ns ∧ Hid (∀ q, q < i → okAt refM ltT p.R q = true) ∧ Hid (Below w1.heap.size w1 wr)) (fun vi _ => ns - (intOf vi).toNat)
          case atStart => exact ⟨0, by go_num, Nat.zero_le _, Lib.hid (fun q hq => absurd hq (by omega)), Lib.hid HBt.out⟩
          case round =>
            obtain ⟨i, rfl, him, HOK, HBs⟩ := hrel
            have xx := (HX1.out.kept HBs.out).cell (j := 6) rfl
            by_cases hlt : i < ns
            rotate_left
            · obtain rfl : i = ns := by omega
              have HRs : Hid (risesB refM ltT p.R = true) := Lib.hid (by rw [rises_yes (fun q hq => HOK.out q (by rw [HNS.out]; exact hq))]; exact decide_eq_true (by have := HNB.out; have := HNS.out; omega))
              clear HOK
              have HQ : Hid (checkR p = true) := Lib.hid (checkR_yes (by have h1 := HP.out.num.1.1; have h2 := ne_of_beq_false Eh0.out.symm; omega) (by have h1 := HP.out.num.2.1.1; have h2 := ne_of_beq_false Eh1.out.symm; omega) (by have h1 := HP.out.num.2.2.1.1; have h2 := ne_of_beq_false Eh9.out.symm; omega) (of_decide_eq_false Eh2.out.symm) (of_decide_eq_false Eh3.out.symm) HRk.out HRt.out HRs.out)
              go_wp2
              go_ret
              exact ⟨ret_int (by rw [HR.out, HQ.out]; rfl), below_and HB1.out HBs.out⟩
            have HI : Hid (i < p.R.length) := Lib.hid (by rw [← HNS.out]; exact hlt)
            obtain ⟨x, hx⟩ : ∃ x, x = p.R[i]'HI.out := ⟨_, rfl⟩
            obtain ⟨y, hy⟩ : ∃ y, y = p.R[i - 1]'(by have := HI.out; omega) := ⟨_, rfl⟩
            have HTX : Hid (TxOk x) := Lib.hid (HP.out.ts x (by rw [hx]; exact List.getElem_mem _))
            obtain ⟨pp, cc, hpp, -, -, hat⟩ := row_el HP.out.s
            rcases hat with hat | ⟨eb, eo, rfl, hat⟩
            · exact absurd (congrArg List.length hat) (by rw [rwC_len (show ∀ z, (refC z).length = 4 from fun _ => rfl)]; simp; have := HI.out; omega)
            obtain ⟨hpe, -, -⟩ := Value.slice.inj hpp
            subst hpe
            clear hpp
            have HEC : Hid (∀ w', Below w1.heap.size w1 w' → ∀ (j : Nat) u, (refC x)[j]? = some u → j < 4 → w'.cell? ⟨eb, eo + (i * 4 + j), none⟩ = some u) := Lib.hid (fun w' hw j u hu hj => cell_kept (hat _ u (by rw [rwC_at (show ∀ z, (refC z).length = 4 from fun _ => rfl) HI.out hj, ← hx]; exact hu)) (below_and HB1.out hw))
            have HEY : Hid (0 < i → ∀ w', Below w1.heap.size w1 w' → ∀ (j : Nat) u, (refC y)[j]? = some u → j < 4 → w'.cell? ⟨eb, eo + ((i - 1) * 4 + j), none⟩ = some u) := Lib.hid (fun h0 w' hw j u hu hj => cell_kept (hat _ u (by rw [rwC_at (show ∀ z, (refC z).length = 4 from fun _ => rfl) (by have := HI.out; omega) hj, ← hy]; exact hu)) (below_and HB1.out hw))
            obtain ⟨ok_, hok_⟩ : ∃ b, b = okAt refM ltT p.R i := ⟨_, rfl⟩
            obtain ⟨mx, hmx⟩ : ∃ b, b = refM x := ⟨_, rfl⟩
            obtain ⟨ly, hly⟩ : ∃ b, b = ltT y x := ⟨_, rfl⟩
            have HOKE : Hid (ok_ = (mx && (i == 0 || ly))) := Lib.hid (by rw [hok_, okAt_at HI.out, hmx, hly, hx, hy, dif_pos (by have := HI.out; omega)])
            have HOO := Lib.hid hok_
            have HMX := Lib.hid hmx
            have HLY := Lib.hid hly
            clear hat hok_ hmx hly hx hy
            have i3 : i ≤ 256 := by have := HNB.out; omega
            have i0 : (0 : Int) ≤ (i : Int) := by omega
            have i1 : (i : Int) < (ns : Int) := by omega
            have ec0 := HEC.out _ HBs.out 0 _ rfl (by omega)
            have ec1 := HEC.out _ HBs.out 1 _ rfl (by omega)
            have ec2 := HEC.out _ HBs.out 2 _ rfl (by omega)
            have ec3 := HEC.out _ HBs.out 3 _ rfl (by omega)
            simp only [← Nat.add_assoc, Nat.add_zero] at ec0 ec1 ec2 ec3
            go_upto_region 19 with fail
            obtain ⟨Y, hY⟩ : ∃ Y, Y = wr.heap.size := ⟨_, rfl⟩
            obtain ⟨wy, hwy⟩ : ∃ z, z = wr.alloc (.cells #[.string (bs x.j), .int .i64 x.i, .int .u64 x.n, .int .i64 x.q] 99) := ⟨_, rfl⟩
            have HY : Hid (Blk wy Y [.string (bs x.j), .int .i64 x.i, .int .u64 x.n, .int .i64 x.q] 99) := Lib.hid (by rw [hwy, hY]; exact Blk.made wr [.string (bs x.j), .int .i64 x.i, .int .u64 x.n, .int .i64 x.q] _)
            have HBy : Hid (Below w1.heap.size w1 wy) := Lib.hid (by rw [hwy]; exact below_and HBs.out (below_alloc _ _))
            rw [← hwy, ← hY]
            clear hwy hY xx ec0 ec1 ec2 ec3
            have p0 := Past.blk HY.out (j := 0) rfl
            have p1 := Past.blk HY.out (j := 1) rfl
            have p2 := Past.blk HY.out (j := 2) rfl
            have p3 := Past.blk HY.out (j := 3) rfl
            have xp := Past.blk (HX1.out.kept HBy.out) (j := 6) rfl
            obtain ⟨tt, htt⟩ : ∃ b : Bool, b = tk x := ⟨_, rfl⟩
            have Ctt : Hid (∀ s : Past wy, Calls Tryz.prog 69 #[.agg #[.string (bs x.j), .int .i64 x.i], .int .u64 x.n] s.val fun e w2 => e = .returned (.bool tt) ∧ Below s.val.heap.size s.val w2) := Lib.hid (fun s => by rw [htt, tk_task]; exact rtask_any x.j x.i x.n s.val HTX.out.j)
            have Ett := Lib.hid htt
            clear htt
            obtain ⟨q1, hq1⟩ : ∃ q1 : Bool, q1 = (decide (x.q < 1)) := ⟨_, rfl⟩
            have tq10 : decide (x.q < 1) = q1 := hq1.symm
            have Eq1 := Lib.hid hq1
            clear hq1
            obtain ⟨q3, hq3⟩ : ∃ q3 : Bool, q3 = (decide (19 < x.q)) := ⟨_, rfl⟩
            have tq30 : decide (19 < x.q) = q3 := hq3.symm
            have Eq3 := Lib.hid hq3
            clear hq3
            have Cly : Hid (∀ s : Past wy, Calls Tryz.prog 70 #[.agg #[.string (bs y.j), .int .i64 y.i], .agg #[.string (bs x.j), .int .i64 x.i]] s.val fun e w2 => e = .returned (.bool ly) ∧ Below s.val.heap.size s.val w2) := Lib.hid (fun s => by rw [HLY.out]; exact rless_any _ _ _ _ _)
            cases tt
            · refine wp_region_past (by kernel_rfl) (by kernel_rfl) ?_
              repeat (go_big_quiet_step ((first | (go_at_call 69; exact past_call (Ctt.out _)) | (go_at_call 70; exact past_call (Cly.out _)))))
              refine wpQuiet_nil ?_
              intro _ hw'
              obtain ⟨s9, hw''⟩ := hw'
              subst hw''
              obtain ⟨w9, h9, e9⟩ : ∃ w9, Below wy.heap.size wy w9 ∧ w9 = s9.val := ⟨_, s9.h, rfl⟩
              rw [← e9]
              have HB9 : Hid (Below w1.heap.size w1 w9) := Lib.hid (below_and HBy.out h9)
              clear h9 e9 p0 p1 p2 p3 xp
              have HQ : Hid (checkR p = false) := Lib.hid (HNO2.out (rises_no HI.out (by rw [← HOO.out, HOKE.out]; have hm : mx = false := HMX.out.trans (ref_tt Ett.out.symm); rw [hm]; rfl)))
              go_wp2
              go_ret
              exact ⟨ret_int (by rw [HR.out, HQ.out]; rfl), below_and HB1.out HB9.out⟩
            · cases q1
              · cases q3
                · by_cases h0 : i = 0
                  · have HI0 := Lib.hid h0
                    have g0 : decide ((0 : Int) < (i : Int)) = false := by simp; omega
                    have g1 : decide (0 < i) = false := by simp; omega
                    clear h0
                    refine wp_region_past (by kernel_rfl) (by kernel_rfl) ?_
                    repeat (go_big_quiet_step ((first | (go_at_call 69; exact past_call (Ctt.out _)) | (go_at_call 70; exact past_call (Cly.out _)))))
                    refine wpQuiet_nil ?_
                    intro _ hw'
                    obtain ⟨s9, hw''⟩ := hw'
                    subst hw''
                    obtain ⟨w9, h9, e9⟩ : ∃ w9, Below wy.heap.size wy w9 ∧ w9 = s9.val := ⟨_, s9.h, rfl⟩
                    rw [← e9]
                    have HB9 : Hid (Below w1.heap.size w1 w9) := Lib.hid (below_and HBy.out h9)
                    clear h9 e9 p0 p1 p2 p3 xp
                    have HN : Hid (ok_ = true) := Lib.hid (by rw [HOKE.out]; have hm : mx = true := HMX.out.trans (ref_yes Ett.out.symm (of_decide_eq_false Eq1.out.symm) (of_decide_eq_false Eq3.out.symm)); rw [hm, HI0.out]; rfl)
                    go_wp2
                    go_roundw
                    case rel => exact ⟨i + 1, by go_num, by omega, Lib.hid (fun q hq => by (by_cases hq2 : q = i; (rw [hq2, ← HOO.out]; exact HN.out); exact HOK.out q (by omega))), HB9⟩
                    case measure => simp [intOf]; omega
                  · have g0 : decide ((0 : Int) < (i : Int)) = true := by simp; omega
                    have g1 : decide (0 < i) = true := by simp; omega
                    have gi : (0 : Int) ≤ (i : Int) - 1 := by omega
                    have gj : (i : Int) - 1 < (ns : Int) := by omega
                    obtain ⟨i', rfl⟩ : ∃ i', i = i' + 1 := ⟨i - 1, by omega⟩
                    have q0 : ∀ s : Past wy, s.val.cell? ⟨eb, eo + i' * 4, none⟩ = some (.string (bs y.j)) := fun s => by have := HEY.out (by omega) _ (below_and HBy.out s.h) 0 _ rfl (by omega); simpa [Nat.add_assoc] using this
                    have q1 : ∀ s : Past wy, s.val.cell? ⟨eb, eo + i' * 4 + 1, none⟩ = some (.int .i64 y.i) := fun s => by have := HEY.out (by omega) _ (below_and HBy.out s.h) 1 _ rfl (by omega); simpa [Nat.add_assoc] using this
                    have q2 : ∀ s : Past wy, s.val.cell? ⟨eb, eo + i' * 4 + 2, none⟩ = some (.int .u64 y.n) := fun s => by have := HEY.out (by omega) _ (below_and HBy.out s.h) 2 _ rfl (by omega); simpa [Nat.add_assoc] using this
                    have q3 : ∀ s : Past wy, s.val.cell? ⟨eb, eo + i' * 4 + 3, none⟩ = some (.int .i64 y.q) := fun s => by have := HEY.out (by omega) _ (below_and HBy.out s.h) 3 _ rfl (by omega); simpa [Nat.add_assoc] using this
                    cases ly
                    · refine wp_region_past (by kernel_rfl) (by kernel_rfl) ?_
                      repeat (go_big_quiet_step ((first | (go_at_call 69; exact past_call (Ctt.out _)) | (go_at_call 70; exact past_call (Cly.out _)))))
                      refine wpQuiet_nil ?_
                      intro _ hw'
                      obtain ⟨s9, hw''⟩ := hw'
                      subst hw''
                      obtain ⟨w9, h9, e9⟩ : ∃ w9, Below wy.heap.size wy w9 ∧ w9 = s9.val := ⟨_, s9.h, rfl⟩
                      rw [← e9]
                      have HB9 : Hid (Below w1.heap.size w1 w9) := Lib.hid (below_and HBy.out h9)
                      clear h9 e9 p0 p1 p2 p3 xp
                      have HQ : Hid (checkR p = false) := Lib.hid (HNO2.out (rises_no HI.out (by rw [← HOO.out, HOKE.out]; simp)))
                      go_wp2
                      go_ret
                      exact ⟨ret_int (by rw [HR.out, HQ.out]; rfl), below_and HB1.out HB9.out⟩
                    · refine wp_region_past (by kernel_rfl) (by kernel_rfl) ?_
                      repeat (go_big_quiet_step ((first | (go_at_call 69; exact past_call (Ctt.out _)) | (go_at_call 70; exact past_call (Cly.out _)))))
                      refine wpQuiet_nil ?_
                      intro _ hw'
                      obtain ⟨s9, hw''⟩ := hw'
                      subst hw''
                      obtain ⟨w9, h9, e9⟩ : ∃ w9, Below wy.heap.size wy w9 ∧ w9 = s9.val := ⟨_, s9.h, rfl⟩
                      rw [← e9]
                      have HB9 : Hid (Below w1.heap.size w1 w9) := Lib.hid (below_and HBy.out h9)
                      clear h9 e9 p0 p1 p2 p3 xp
                      have HN : Hid (ok_ = true) := Lib.hid (by rw [HOKE.out]; have hm : mx = true := HMX.out.trans (ref_yes Ett.out.symm (of_decide_eq_false Eq1.out.symm) (of_decide_eq_false Eq3.out.symm)); rw [hm]; simp)
                      go_wp2
                      go_roundw
                      case rel => exact ⟨(i' + 1) + 1, by go_num, by omega, Lib.hid (fun q hq => by (by_cases hq2 : q = (i' + 1); (rw [hq2, ← HOO.out]; exact HN.out); exact HOK.out q (by omega))), HB9⟩
                      case measure => simp [intOf]; omega
                · refine wp_region_past (by kernel_rfl) (by kernel_rfl) ?_
                  repeat (go_big_quiet_step ((first | (go_at_call 69; exact past_call (Ctt.out _)) | (go_at_call 70; exact past_call (Cly.out _)))))
                  refine wpQuiet_nil ?_
                  intro _ hw'
                  obtain ⟨s9, hw''⟩ := hw'
                  subst hw''
                  obtain ⟨w9, h9, e9⟩ : ∃ w9, Below wy.heap.size wy w9 ∧ w9 = s9.val := ⟨_, s9.h, rfl⟩
                  rw [← e9]
                  have HB9 : Hid (Below w1.heap.size w1 w9) := Lib.hid (below_and HBy.out h9)
                  clear h9 e9 p0 p1 p2 p3 xp
                  have HQ : Hid (checkR p = false) := Lib.hid (HNO2.out (rises_no HI.out (by rw [← HOO.out, HOKE.out]; have hm : mx = false := HMX.out.trans (ref_q3 (of_decide_eq_true Eq3.out.symm)); rw [hm]; rfl)))
                  go_wp2
                  go_ret
                  exact ⟨ret_int (by rw [HR.out, HQ.out]; rfl), below_and HB1.out HB9.out⟩
              · refine wp_region_past (by kernel_rfl) (by kernel_rfl) ?_
                repeat (go_big_quiet_step ((first | (go_at_call 69; exact past_call (Ctt.out _)) | (go_at_call 70; exact past_call (Cly.out _)))))
                refine wpQuiet_nil ?_
                intro _ hw'
                obtain ⟨s9, hw''⟩ := hw'
                subst hw''
                obtain ⟨w9, h9, e9⟩ : ∃ w9, Below wy.heap.size wy w9 ∧ w9 = s9.val := ⟨_, s9.h, rfl⟩
                rw [← e9]
                have HB9 : Hid (Below w1.heap.size w1 w9) := Lib.hid (below_and HBy.out h9)
                clear h9 e9 p0 p1 p2 p3 xp
                have HQ : Hid (checkR p = false) := Lib.hid (HNO2.out (rises_no HI.out (by rw [← HOO.out, HOKE.out]; have hm : mx = false := HMX.out.trans (ref_q1 (of_decide_eq_true Eq1.out.symm)); rw [hm]; rfl)))
                go_wp2
                go_ret
                exact ⟨ret_int (by rw [HR.out, HQ.out]; rfl), below_and HB1.out HB9.out⟩
        have HI : Hid (i < p.F.length) := Lib.hid (by rw [← HNT.out]; exact hlt)
        obtain ⟨x, hx⟩ : ∃ x, x = p.F[i]'HI.out := ⟨_, rfl⟩
        obtain ⟨y, hy⟩ : ∃ y, y = p.F[i - 1]'(by have := HI.out; omega) := ⟨_, rfl⟩
        have HTX : Hid (TxOk x) := Lib.hid (HP.out.tt x (by rw [hx]; exact List.getElem_mem _))
        obtain ⟨pp, cc, hpp, -, -, hat⟩ := row_el HP.out.t
        rcases hat with hat | ⟨eb, eo, rfl, hat⟩
        · exact absurd (congrArg List.length hat) (by rw [rwC_len (show ∀ z, (finC z).length = 5 from fun _ => rfl)]; simp; have := HI.out; omega)
        obtain ⟨hpe, -, -⟩ := Value.slice.inj hpp
        subst hpe
        clear hpp
        have HEC : Hid (∀ w', Below w1.heap.size w1 w' → ∀ (j : Nat) u, (finC x)[j]? = some u → j < 5 → w'.cell? ⟨eb, eo + (i * 5 + j), none⟩ = some u) := Lib.hid (fun w' hw j u hu hj => cell_kept (hat _ u (by rw [rwC_at (show ∀ z, (finC z).length = 5 from fun _ => rfl) HI.out hj, ← hx]; exact hu)) (below_and HB1.out hw))
        have HEY : Hid (0 < i → ∀ w', Below w1.heap.size w1 w' → ∀ (j : Nat) u, (finC y)[j]? = some u → j < 5 → w'.cell? ⟨eb, eo + ((i - 1) * 5 + j), none⟩ = some u) := Lib.hid (fun h0 w' hw j u hu hj => cell_kept (hat _ u (by rw [rwC_at (show ∀ z, (finC z).length = 5 from fun _ => rfl) (by have := HI.out; omega) hj, ← hy]; exact hu)) (below_and HB1.out hw))
        obtain ⟨ok_, hok_⟩ : ∃ b, b = okAt finM finL p.F i := ⟨_, rfl⟩
        obtain ⟨mx, hmx⟩ : ∃ b, b = finM x := ⟨_, rfl⟩
        obtain ⟨ly, hly⟩ : ∃ b, b = finL y x := ⟨_, rfl⟩
        have HOKE : Hid (ok_ = (mx && (i == 0 || ly))) := Lib.hid (by rw [hok_, okAt_at HI.out, hmx, hly, hx, hy, dif_pos (by have := HI.out; omega)])
        have HOO := Lib.hid hok_
        have HMX := Lib.hid hmx
        have HLY := Lib.hid hly
        clear hat hok_ hmx hly hx hy
        have i3 : i ≤ 256 := by have := HNB.out; omega
        have i0 : (0 : Int) ≤ (i : Int) := by omega
        have i1 : (i : Int) < (nt : Int) := by omega
        have ec0 := HEC.out _ HBt.out 0 _ rfl (by omega)
        have ec1 := HEC.out _ HBt.out 1 _ rfl (by omega)
        have ec2 := HEC.out _ HBt.out 2 _ rfl (by omega)
        have ec3 := HEC.out _ HBt.out 3 _ rfl (by omega)
        have ec4 := HEC.out _ HBt.out 4 _ rfl (by omega)
        simp only [← Nat.add_assoc, Nat.add_zero] at ec0 ec1 ec2 ec3 ec4
        go_upto_region 13 with fail
        obtain ⟨Y, hY⟩ : ∃ Y, Y = wr.heap.size := ⟨_, rfl⟩
        obtain ⟨wy, hwy⟩ : ∃ z, z = wr.alloc (.cells #[.int .u64 x.k, .string (bs x.j), .int .i64 x.i, .int .u64 x.n, .int .i64 x.q] 95) := ⟨_, rfl⟩
        have HY : Hid (Blk wy Y [.int .u64 x.k, .string (bs x.j), .int .i64 x.i, .int .u64 x.n, .int .i64 x.q] 95) := Lib.hid (by rw [hwy, hY]; exact Blk.made wr [.int .u64 x.k, .string (bs x.j), .int .i64 x.i, .int .u64 x.n, .int .i64 x.q] _)
        have HBy : Hid (Below w1.heap.size w1 wy) := Lib.hid (by rw [hwy]; exact below_and HBt.out (below_alloc _ _))
        rw [← hwy, ← hY]
        clear hwy hY xx ec0 ec1 ec2 ec3 ec4
        have p0 := Past.blk HY.out (j := 0) rfl
        have p1 := Past.blk HY.out (j := 1) rfl
        have p2 := Past.blk HY.out (j := 2) rfl
        have p3 := Past.blk HY.out (j := 3) rfl
        have p4 := Past.blk HY.out (j := 4) rfl
        have xp := Past.blk (HX1.out.kept HBy.out) (j := 5) rfl
        obtain ⟨tt, htt⟩ : ∃ b : Bool, b = tk x := ⟨_, rfl⟩
        have Ctt : Hid (∀ s : Past wy, Calls Tryz.prog 69 #[.agg #[.string (bs x.j), .int .i64 x.i], .int .u64 x.n] s.val fun e w2 => e = .returned (.bool tt) ∧ Below s.val.heap.size s.val w2) := Lib.hid (fun s => by rw [htt, tk_task]; exact rtask_any x.j x.i x.n s.val HTX.out.j)
        have Ett := Lib.hid htt
        clear htt
        obtain ⟨k0, hk0⟩ : ∃ k0 : Bool, k0 = (x.k == 0) := ⟨_, rfl⟩
        have tk00 : (x.k == 0) = k0 := hk0.symm
        have Ek0 := Lib.hid hk0
        clear hk0
        obtain ⟨q1, hq1⟩ : ∃ q1 : Bool, q1 = (decide (x.q < 0)) := ⟨_, rfl⟩
        have tq10 : decide (x.q < 0) = q1 := hq1.symm
        have Eq1 := Lib.hid hq1
        clear hq1
        obtain ⟨q3, hq3⟩ : ∃ q3 : Bool, q3 = (decide (258 < x.q)) := ⟨_, rfl⟩
        have tq30 : decide (258 < x.q) = q3 := hq3.symm
        have Eq3 := Lib.hid hq3
        clear hq3
        obtain ⟨l1, hl1⟩ : ∃ b : Bool, b = decide (x.k ≤ y.k) := ⟨_, rfl⟩
        have tl1 : decide (x.k ≤ y.k) = l1 := hl1.symm
        have HLL : Hid (ly = !l1) := Lib.hid (by rw [HLY.out, hl1]; unfold finL; rw [← decide_not]; congr 1; simp)
        clear hl1
        cases tt
        · refine wp_region_past (by kernel_rfl) (by kernel_rfl) ?_
          repeat (go_big_quiet_step ((first | (go_at_call 69; exact past_call (Ctt.out _)))))
          refine wpQuiet_nil ?_
          intro _ hw'
          obtain ⟨s9, hw''⟩ := hw'
          subst hw''
          obtain ⟨w9, h9, e9⟩ : ∃ w9, Below wy.heap.size wy w9 ∧ w9 = s9.val := ⟨_, s9.h, rfl⟩
          rw [← e9]
          have HB9 : Hid (Below w1.heap.size w1 w9) := Lib.hid (below_and HBy.out h9)
          clear h9 e9 p0 p1 p2 p3 p4 xp
          have HQ : Hid (checkR p = false) := Lib.hid (HNO1.out (rises_no HI.out (by rw [← HOO.out, HOKE.out]; have hm : mx = false := HMX.out.trans (fin_tt Ett.out.symm); rw [hm]; rfl)))
          go_wp2
          go_ret
          exact ⟨ret_int (by rw [HR.out, HQ.out]; rfl), below_and HB1.out HB9.out⟩
        · cases k0
          · cases q1
            · cases q3
              · by_cases h0 : i = 0
                · have HI0 := Lib.hid h0
                  have g0 : decide ((0 : Int) < (i : Int)) = false := by simp; omega
                  have g1 : decide (0 < i) = false := by simp; omega
                  clear h0
                  refine wp_region_past (by kernel_rfl) (by kernel_rfl) ?_
                  repeat (go_big_quiet_step ((first | (go_at_call 69; exact past_call (Ctt.out _)))))
                  refine wpQuiet_nil ?_
                  intro _ hw'
                  obtain ⟨s9, hw''⟩ := hw'
                  subst hw''
                  obtain ⟨w9, h9, e9⟩ : ∃ w9, Below wy.heap.size wy w9 ∧ w9 = s9.val := ⟨_, s9.h, rfl⟩
                  rw [← e9]
                  have HB9 : Hid (Below w1.heap.size w1 w9) := Lib.hid (below_and HBy.out h9)
                  clear h9 e9 p0 p1 p2 p3 p4 xp
                  have HN : Hid (ok_ = true) := Lib.hid (by rw [HOKE.out]; have hm : mx = true := HMX.out.trans (fin_yes HTX.out.k.1 Ett.out.symm (ne_of_beq_false Ek0.out.symm) (of_decide_eq_false Eq1.out.symm) (of_decide_eq_false Eq3.out.symm)); rw [hm, HI0.out]; rfl)
                  go_wp2
                  go_roundw
                  case rel => exact ⟨i + 1, by go_num, by omega, Lib.hid (fun q hq => by (by_cases hq2 : q = i; (rw [hq2, ← HOO.out]; exact HN.out); exact HOK.out q (by omega))), HB9⟩
                  case measure => simp [intOf]; omega
                · have g0 : decide ((0 : Int) < (i : Int)) = true := by simp; omega
                  have g1 : decide (0 < i) = true := by simp; omega
                  have gi : (0 : Int) ≤ (i : Int) - 1 := by omega
                  have gj : (i : Int) - 1 < (nt : Int) := by omega
                  obtain ⟨i', rfl⟩ : ∃ i', i = i' + 1 := ⟨i - 1, by omega⟩
                  have q0 : ∀ s : Past wy, s.val.cell? ⟨eb, eo + i' * 5, none⟩ = some (.int .u64 y.k) := fun s => by have := HEY.out (by omega) _ (below_and HBy.out s.h) 0 _ rfl (by omega); simpa [Nat.add_assoc] using this
                  have q1 : ∀ s : Past wy, s.val.cell? ⟨eb, eo + i' * 5 + 1, none⟩ = some (.string (bs y.j)) := fun s => by have := HEY.out (by omega) _ (below_and HBy.out s.h) 1 _ rfl (by omega); simpa [Nat.add_assoc] using this
                  have q2 : ∀ s : Past wy, s.val.cell? ⟨eb, eo + i' * 5 + 2, none⟩ = some (.int .i64 y.i) := fun s => by have := HEY.out (by omega) _ (below_and HBy.out s.h) 2 _ rfl (by omega); simpa [Nat.add_assoc] using this
                  have q3 : ∀ s : Past wy, s.val.cell? ⟨eb, eo + i' * 5 + 3, none⟩ = some (.int .u64 y.n) := fun s => by have := HEY.out (by omega) _ (below_and HBy.out s.h) 3 _ rfl (by omega); simpa [Nat.add_assoc] using this
                  have q4 : ∀ s : Past wy, s.val.cell? ⟨eb, eo + i' * 5 + 4, none⟩ = some (.int .i64 y.q) := fun s => by have := HEY.out (by omega) _ (below_and HBy.out s.h) 4 _ rfl (by omega); simpa [Nat.add_assoc] using this
                  cases l1
                  · refine wp_region_past (by kernel_rfl) (by kernel_rfl) ?_
                    repeat (go_big_quiet_step ((first | (go_at_call 69; exact past_call (Ctt.out _)))))
                    refine wpQuiet_nil ?_
                    intro _ hw'
                    obtain ⟨s9, hw''⟩ := hw'
                    subst hw''
                    obtain ⟨w9, h9, e9⟩ : ∃ w9, Below wy.heap.size wy w9 ∧ w9 = s9.val := ⟨_, s9.h, rfl⟩
                    rw [← e9]
                    have HB9 : Hid (Below w1.heap.size w1 w9) := Lib.hid (below_and HBy.out h9)
                    clear h9 e9 p0 p1 p2 p3 p4 xp
                    have HN : Hid (ok_ = true) := Lib.hid (by rw [HOKE.out]; have hm : mx = true := HMX.out.trans (fin_yes HTX.out.k.1 Ett.out.symm (ne_of_beq_false Ek0.out.symm) (of_decide_eq_false Eq1.out.symm) (of_decide_eq_false Eq3.out.symm)); rw [hm, HLL.out]; simp)
                    go_wp2
                    go_roundw
                    case rel => exact ⟨(i' + 1) + 1, by go_num, by omega, Lib.hid (fun q hq => by (by_cases hq2 : q = (i' + 1); (rw [hq2, ← HOO.out]; exact HN.out); exact HOK.out q (by omega))), HB9⟩
                    case measure => simp [intOf]; omega
                  · refine wp_region_past (by kernel_rfl) (by kernel_rfl) ?_
                    repeat (go_big_quiet_step ((first | (go_at_call 69; exact past_call (Ctt.out _)))))
                    refine wpQuiet_nil ?_
                    intro _ hw'
                    obtain ⟨s9, hw''⟩ := hw'
                    subst hw''
                    obtain ⟨w9, h9, e9⟩ : ∃ w9, Below wy.heap.size wy w9 ∧ w9 = s9.val := ⟨_, s9.h, rfl⟩
                    rw [← e9]
                    have HB9 : Hid (Below w1.heap.size w1 w9) := Lib.hid (below_and HBy.out h9)
                    clear h9 e9 p0 p1 p2 p3 p4 xp
                    have HQ : Hid (checkR p = false) := Lib.hid (HNO1.out (rises_no HI.out (by rw [← HOO.out, HOKE.out]; rw [HLL.out]; simp)))
                    go_wp2
                    go_ret
                    exact ⟨ret_int (by rw [HR.out, HQ.out]; rfl), below_and HB1.out HB9.out⟩
              · refine wp_region_past (by kernel_rfl) (by kernel_rfl) ?_
                repeat (go_big_quiet_step ((first | (go_at_call 69; exact past_call (Ctt.out _)))))
                refine wpQuiet_nil ?_
                intro _ hw'
                obtain ⟨s9, hw''⟩ := hw'
                subst hw''
                obtain ⟨w9, h9, e9⟩ : ∃ w9, Below wy.heap.size wy w9 ∧ w9 = s9.val := ⟨_, s9.h, rfl⟩
                rw [← e9]
                have HB9 : Hid (Below w1.heap.size w1 w9) := Lib.hid (below_and HBy.out h9)
                clear h9 e9 p0 p1 p2 p3 p4 xp
                have HQ : Hid (checkR p = false) := Lib.hid (HNO1.out (rises_no HI.out (by rw [← HOO.out, HOKE.out]; have hm : mx = false := HMX.out.trans (fin_q3 (of_decide_eq_true Eq3.out.symm)); rw [hm]; rfl)))
                go_wp2
                go_ret
                exact ⟨ret_int (by rw [HR.out, HQ.out]; rfl), below_and HB1.out HB9.out⟩
            · refine wp_region_past (by kernel_rfl) (by kernel_rfl) ?_
              repeat (go_big_quiet_step ((first | (go_at_call 69; exact past_call (Ctt.out _)))))
              refine wpQuiet_nil ?_
              intro _ hw'
              obtain ⟨s9, hw''⟩ := hw'
              subst hw''
              obtain ⟨w9, h9, e9⟩ : ∃ w9, Below wy.heap.size wy w9 ∧ w9 = s9.val := ⟨_, s9.h, rfl⟩
              rw [← e9]
              have HB9 : Hid (Below w1.heap.size w1 w9) := Lib.hid (below_and HBy.out h9)
              clear h9 e9 p0 p1 p2 p3 p4 xp
              have HQ : Hid (checkR p = false) := Lib.hid (HNO1.out (rises_no HI.out (by rw [← HOO.out, HOKE.out]; have hm : mx = false := HMX.out.trans (fin_q1 (of_decide_eq_true Eq1.out.symm)); rw [hm]; rfl)))
              go_wp2
              go_ret
              exact ⟨ret_int (by rw [HR.out, HQ.out]; rfl), below_and HB1.out HB9.out⟩
          · refine wp_region_past (by kernel_rfl) (by kernel_rfl) ?_
            repeat (go_big_quiet_step ((first | (go_at_call 69; exact past_call (Ctt.out _)))))
            refine wpQuiet_nil ?_
            intro _ hw'
            obtain ⟨s9, hw''⟩ := hw'
            subst hw''
            obtain ⟨w9, h9, e9⟩ : ∃ w9, Below wy.heap.size wy w9 ∧ w9 = s9.val := ⟨_, s9.h, rfl⟩
            rw [← e9]
            have HB9 : Hid (Below w1.heap.size w1 w9) := Lib.hid (below_and HBy.out h9)
            clear h9 e9 p0 p1 p2 p3 p4 xp
            have HQ : Hid (checkR p = false) := Lib.hid (HNO1.out (rises_no HI.out (by rw [← HOO.out, HOKE.out]; have hm : mx = false := HMX.out.trans (fin_k0 (eq_of_beq Ek0.out.symm)); rw [hm]; rfl)))
            go_wp2
            go_ret
            exact ⟨ret_int (by rw [HR.out, HQ.out]; rfl), below_and HB1.out HB9.out⟩
    have HI : Hid (i < p.H.length) := Lib.hid (by rw [← HNK.out]; exact hlt)
    obtain ⟨x, hx⟩ : ∃ x, x = p.H[i]'HI.out := ⟨_, rfl⟩
    obtain ⟨y, hy⟩ : ∃ y, y = p.H[i - 1]'(by have := HI.out; omega) := ⟨_, rfl⟩
    have HTX : Hid (TxOk x) := Lib.hid (HP.out.tk x (by rw [hx]; exact List.getElem_mem _))
    obtain ⟨pp, cc, hpp, -, -, hat⟩ := row_el HP.out.k
    rcases hat with hat | ⟨eb, eo, rfl, hat⟩
    · exact absurd (congrArg List.length hat) (by rw [rwC_len (show ∀ z, (helC z).length = 4 from fun _ => rfl)]; simp; have := HI.out; omega)
    obtain ⟨hpe, -, -⟩ := Value.slice.inj hpp
    subst hpe
    clear hpp
    have HEC : Hid (∀ w', Below w1.heap.size w1 w' → ∀ (j : Nat) u, (helC x)[j]? = some u → j < 4 → w'.cell? ⟨eb, eo + (i * 4 + j), none⟩ = some u) := Lib.hid (fun w' hw j u hu hj => cell_kept (hat _ u (by rw [rwC_at (show ∀ z, (helC z).length = 4 from fun _ => rfl) HI.out hj, ← hx]; exact hu)) (below_and HB1.out hw))
    have HEY : Hid (0 < i → ∀ w', Below w1.heap.size w1 w' → ∀ (j : Nat) u, (helC y)[j]? = some u → j < 4 → w'.cell? ⟨eb, eo + ((i - 1) * 4 + j), none⟩ = some u) := Lib.hid (fun h0 w' hw j u hu hj => cell_kept (hat _ u (by rw [rwC_at (show ∀ z, (helC z).length = 4 from fun _ => rfl) (by have := HI.out; omega) hj, ← hy]; exact hu)) (below_and HB1.out hw))
    obtain ⟨ok_, hok_⟩ : ∃ b, b = okAt helM ltT p.H i := ⟨_, rfl⟩
    obtain ⟨mx, hmx⟩ : ∃ b, b = helM x := ⟨_, rfl⟩
    obtain ⟨ly, hly⟩ : ∃ b, b = ltT y x := ⟨_, rfl⟩
    have HOKE : Hid (ok_ = (mx && (i == 0 || ly))) := Lib.hid (by rw [hok_, okAt_at HI.out, hmx, hly, hx, hy, dif_pos (by have := HI.out; omega)])
    have HOO := Lib.hid hok_
    have HMX := Lib.hid hmx
    have HLY := Lib.hid hly
    clear hat hok_ hmx hly hx hy
    have i3 : i ≤ 256 := by have := HNB.out; omega
    have i0 : (0 : Int) ≤ (i : Int) := by omega
    have i1 : (i : Int) < (nk : Int) := by omega
    have ec0 := HEC.out _ HBk.out 0 _ rfl (by omega)
    have ec1 := HEC.out _ HBk.out 1 _ rfl (by omega)
    have ec2 := HEC.out _ HBk.out 2 _ rfl (by omega)
    have ec3 := HEC.out _ HBk.out 3 _ rfl (by omega)
    simp only [← Nat.add_assoc, Nat.add_zero] at ec0 ec1 ec2 ec3
    go_upto_region 7 with fail
    obtain ⟨Y, hY⟩ : ∃ Y, Y = wr.heap.size := ⟨_, rfl⟩
    obtain ⟨wy, hwy⟩ : ∃ z, z = wr.alloc (.cells #[.string (bs x.j), .int .i64 x.i, .int .u64 x.n, .int .i64 x.q] 88) := ⟨_, rfl⟩
    have HY : Hid (Blk wy Y [.string (bs x.j), .int .i64 x.i, .int .u64 x.n, .int .i64 x.q] 88) := Lib.hid (by rw [hwy, hY]; exact Blk.made wr [.string (bs x.j), .int .i64 x.i, .int .u64 x.n, .int .i64 x.q] _)
    have HBy : Hid (Below w1.heap.size w1 wy) := Lib.hid (by rw [hwy]; exact below_and HBk.out (below_alloc _ _))
    rw [← hwy, ← hY]
    clear hwy hY xx ec0 ec1 ec2 ec3
    have p0 := Past.blk HY.out (j := 0) rfl
    have p1 := Past.blk HY.out (j := 1) rfl
    have p2 := Past.blk HY.out (j := 2) rfl
    have p3 := Past.blk HY.out (j := 3) rfl
    have xp := Past.blk (HX1.out.kept HBy.out) (j := 4) rfl
    obtain ⟨tt, htt⟩ : ∃ b : Bool, b = tk x := ⟨_, rfl⟩
    have Ctt : Hid (∀ s : Past wy, Calls Tryz.prog 69 #[.agg #[.string (bs x.j), .int .i64 x.i], .int .u64 x.n] s.val fun e w2 => e = .returned (.bool tt) ∧ Below s.val.heap.size s.val w2) := Lib.hid (fun s => by rw [htt, tk_task]; exact rtask_any x.j x.i x.n s.val HTX.out.j)
    have Ett := Lib.hid htt
    clear htt
    obtain ⟨q1, hq1⟩ : ∃ q1 : Bool, q1 = (decide (x.q < 1)) := ⟨_, rfl⟩
    have tq10 : decide (x.q < 1) = q1 := hq1.symm
    have Eq1 := Lib.hid hq1
    clear hq1
    obtain ⟨q3, hq3⟩ : ∃ q3 : Bool, q3 = (decide (3 < x.q)) := ⟨_, rfl⟩
    have tq30 : decide (3 < x.q) = q3 := hq3.symm
    have Eq3 := Lib.hid hq3
    clear hq3
    have Cly : Hid (∀ s : Past wy, Calls Tryz.prog 70 #[.agg #[.string (bs y.j), .int .i64 y.i], .agg #[.string (bs x.j), .int .i64 x.i]] s.val fun e w2 => e = .returned (.bool ly) ∧ Below s.val.heap.size s.val w2) := Lib.hid (fun s => by rw [HLY.out]; exact rless_any _ _ _ _ _)
    cases tt
    · refine wp_region_past (by kernel_rfl) (by kernel_rfl) ?_
      repeat (go_big_quiet_step ((first | (go_at_call 69; exact past_call (Ctt.out _)) | (go_at_call 70; exact past_call (Cly.out _)))))
      refine wpQuiet_nil ?_
      intro _ hw'
      obtain ⟨s9, hw''⟩ := hw'
      subst hw''
      obtain ⟨w9, h9, e9⟩ : ∃ w9, Below wy.heap.size wy w9 ∧ w9 = s9.val := ⟨_, s9.h, rfl⟩
      rw [← e9]
      have HB9 : Hid (Below w1.heap.size w1 w9) := Lib.hid (below_and HBy.out h9)
      clear h9 e9 p0 p1 p2 p3 xp
      have HQ : Hid (checkR p = false) := Lib.hid (HNO0.out (rises_no HI.out (by rw [← HOO.out, HOKE.out]; have hm : mx = false := HMX.out.trans (hel_tt Ett.out.symm); rw [hm]; rfl)))
      go_wp2
      go_ret
      exact ⟨ret_int (by rw [HR.out, HQ.out]; rfl), below_and HB1.out HB9.out⟩
    · cases q1
      · cases q3
        · by_cases h0 : i = 0
          · have HI0 := Lib.hid h0
            have g0 : decide ((0 : Int) < (i : Int)) = false := by simp; omega
            have g1 : decide (0 < i) = false := by simp; omega
            clear h0
            refine wp_region_past (by kernel_rfl) (by kernel_rfl) ?_
            repeat (go_big_quiet_step ((first | (go_at_call 69; exact past_call (Ctt.out _)) | (go_at_call 70; exact past_call (Cly.out _)))))
            refine wpQuiet_nil ?_
            intro _ hw'
            obtain ⟨s9, hw''⟩ := hw'
            subst hw''
            obtain ⟨w9, h9, e9⟩ : ∃ w9, Below wy.heap.size wy w9 ∧ w9 = s9.val := ⟨_, s9.h, rfl⟩
            rw [← e9]
            have HB9 : Hid (Below w1.heap.size w1 w9) := Lib.hid (below_and HBy.out h9)
            clear h9 e9 p0 p1 p2 p3 xp
            have HN : Hid (ok_ = true) := Lib.hid (by rw [HOKE.out]; have hm : mx = true := HMX.out.trans (hel_yes Ett.out.symm (of_decide_eq_false Eq1.out.symm) (of_decide_eq_false Eq3.out.symm)); rw [hm, HI0.out]; rfl)
            go_wp2
            go_roundw
            case rel => exact ⟨i + 1, by go_num, by omega, Lib.hid (fun q hq => by (by_cases hq2 : q = i; (rw [hq2, ← HOO.out]; exact HN.out); exact HOK.out q (by omega))), HB9⟩
            case measure => simp [intOf]; omega
          · have g0 : decide ((0 : Int) < (i : Int)) = true := by simp; omega
            have g1 : decide (0 < i) = true := by simp; omega
            have gi : (0 : Int) ≤ (i : Int) - 1 := by omega
            have gj : (i : Int) - 1 < (nk : Int) := by omega
            obtain ⟨i', rfl⟩ : ∃ i', i = i' + 1 := ⟨i - 1, by omega⟩
            have q0 : ∀ s : Past wy, s.val.cell? ⟨eb, eo + i' * 4, none⟩ = some (.string (bs y.j)) := fun s => by have := HEY.out (by omega) _ (below_and HBy.out s.h) 0 _ rfl (by omega); simpa [Nat.add_assoc] using this
            have q1 : ∀ s : Past wy, s.val.cell? ⟨eb, eo + i' * 4 + 1, none⟩ = some (.int .i64 y.i) := fun s => by have := HEY.out (by omega) _ (below_and HBy.out s.h) 1 _ rfl (by omega); simpa [Nat.add_assoc] using this
            have q2 : ∀ s : Past wy, s.val.cell? ⟨eb, eo + i' * 4 + 2, none⟩ = some (.int .u64 y.n) := fun s => by have := HEY.out (by omega) _ (below_and HBy.out s.h) 2 _ rfl (by omega); simpa [Nat.add_assoc] using this
            have q3 : ∀ s : Past wy, s.val.cell? ⟨eb, eo + i' * 4 + 3, none⟩ = some (.int .i64 y.q) := fun s => by have := HEY.out (by omega) _ (below_and HBy.out s.h) 3 _ rfl (by omega); simpa [Nat.add_assoc] using this
            cases ly
            · refine wp_region_past (by kernel_rfl) (by kernel_rfl) ?_
              repeat (go_big_quiet_step ((first | (go_at_call 69; exact past_call (Ctt.out _)) | (go_at_call 70; exact past_call (Cly.out _)))))
              refine wpQuiet_nil ?_
              intro _ hw'
              obtain ⟨s9, hw''⟩ := hw'
              subst hw''
              obtain ⟨w9, h9, e9⟩ : ∃ w9, Below wy.heap.size wy w9 ∧ w9 = s9.val := ⟨_, s9.h, rfl⟩
              rw [← e9]
              have HB9 : Hid (Below w1.heap.size w1 w9) := Lib.hid (below_and HBy.out h9)
              clear h9 e9 p0 p1 p2 p3 xp
              have HQ : Hid (checkR p = false) := Lib.hid (HNO0.out (rises_no HI.out (by rw [← HOO.out, HOKE.out]; simp)))
              go_wp2
              go_ret
              exact ⟨ret_int (by rw [HR.out, HQ.out]; rfl), below_and HB1.out HB9.out⟩
            · refine wp_region_past (by kernel_rfl) (by kernel_rfl) ?_
              repeat (go_big_quiet_step ((first | (go_at_call 69; exact past_call (Ctt.out _)) | (go_at_call 70; exact past_call (Cly.out _)))))
              refine wpQuiet_nil ?_
              intro _ hw'
              obtain ⟨s9, hw''⟩ := hw'
              subst hw''
              obtain ⟨w9, h9, e9⟩ : ∃ w9, Below wy.heap.size wy w9 ∧ w9 = s9.val := ⟨_, s9.h, rfl⟩
              rw [← e9]
              have HB9 : Hid (Below w1.heap.size w1 w9) := Lib.hid (below_and HBy.out h9)
              clear h9 e9 p0 p1 p2 p3 xp
              have HN : Hid (ok_ = true) := Lib.hid (by rw [HOKE.out]; have hm : mx = true := HMX.out.trans (hel_yes Ett.out.symm (of_decide_eq_false Eq1.out.symm) (of_decide_eq_false Eq3.out.symm)); rw [hm]; simp)
              go_wp2
              go_roundw
              case rel => exact ⟨(i' + 1) + 1, by go_num, by omega, Lib.hid (fun q hq => by (by_cases hq2 : q = (i' + 1); (rw [hq2, ← HOO.out]; exact HN.out); exact HOK.out q (by omega))), HB9⟩
              case measure => simp [intOf]; omega
        · refine wp_region_past (by kernel_rfl) (by kernel_rfl) ?_
          repeat (go_big_quiet_step ((first | (go_at_call 69; exact past_call (Ctt.out _)) | (go_at_call 70; exact past_call (Cly.out _)))))
          refine wpQuiet_nil ?_
          intro _ hw'
          obtain ⟨s9, hw''⟩ := hw'
          subst hw''
          obtain ⟨w9, h9, e9⟩ : ∃ w9, Below wy.heap.size wy w9 ∧ w9 = s9.val := ⟨_, s9.h, rfl⟩
          rw [← e9]
          have HB9 : Hid (Below w1.heap.size w1 w9) := Lib.hid (below_and HBy.out h9)
          clear h9 e9 p0 p1 p2 p3 xp
          have HQ : Hid (checkR p = false) := Lib.hid (HNO0.out (rises_no HI.out (by rw [← HOO.out, HOKE.out]; have hm : mx = false := HMX.out.trans (hel_q3 (of_decide_eq_true Eq3.out.symm)); rw [hm]; rfl)))
          go_wp2
          go_ret
          exact ⟨ret_int (by rw [HR.out, HQ.out]; rfl), below_and HB1.out HB9.out⟩
      · refine wp_region_past (by kernel_rfl) (by kernel_rfl) ?_
        repeat (go_big_quiet_step ((first | (go_at_call 69; exact past_call (Ctt.out _)) | (go_at_call 70; exact past_call (Cly.out _)))))
        refine wpQuiet_nil ?_
        intro _ hw'
        obtain ⟨s9, hw''⟩ := hw'
        subst hw''
        obtain ⟨w9, h9, e9⟩ : ∃ w9, Below wy.heap.size wy w9 ∧ w9 = s9.val := ⟨_, s9.h, rfl⟩
        rw [← e9]
        have HB9 : Hid (Below w1.heap.size w1 w9) := Lib.hid (below_and HBy.out h9)
        clear h9 e9 p0 p1 p2 p3 xp
        have HQ : Hid (checkR p = false) := Lib.hid (HNO0.out (rises_no HI.out (by rw [← HOO.out, HOKE.out]; have hm : mx = false := HMX.out.trans (hel_q1 (of_decide_eq_true Eq1.out.symm)); rw [hm]; rfl)))
        go_wp2
        go_ret
        exact ⟨ret_int (by rw [HR.out, HQ.out]; rfl), below_and HB1.out HB9.out⟩
end Go.Proofs.YtopkfomlppnpeaaGreatDoor.Ms

namespace Go.Proofs.YtopkfomlppnpeaaGreatDoor.Ms
open Go.RowKit Go.Proofs.YtopkfomlppnpeaaGreatDoor

set_option maxRecDepth 100000 in
set_option maxHeartbeats 4000000 in
theorem rappendP_no (p : Po) (v vt1 vt2 vt3 : Value) (w : World) (h : PoW w p vt1 vt2 vt3) (hc : checkP p = false) : Calls Tryz.prog 15 #[v, poV p vt1 vt2 vt3] w fun e w' => e = .returned (.tuple #[.slice none 0 0, .int .i64 2]) ∧ Below w.heap.size w w' := by
  have HC := Lib.hid (fun w' hb => rcheckP_any p _ _ _ w' (h.below hb))
  rw [hc] at HC
  obtain ⟨pk, ck, rfl, -⟩ := row_el h.k
  obtain ⟨pt, ct, rfl, -⟩ := row_el h.t
  obtain ⟨ps, cs, rfl, -⟩ := row_el h.s
  obtain ⟨nk, hnk⟩ : ∃ n, n = p.K.length := ⟨_, rfl⟩
  obtain ⟨nt, hnt⟩ : ∃ n, n = p.T.length := ⟨_, rfl⟩
  obtain ⟨ns, hns⟩ : ∃ n, n = p.P.length := ⟨_, rfl⟩
  rw [← hnk, ← hnt, ← hns] at HC ⊢
  obtain ⟨X, hX⟩ : ∃ X, X = w.heap.size := ⟨_, rfl⟩
  obtain ⟨w1, hw1⟩ : ∃ w1, w1 = w.alloc (.cells #[.int .u64 p.ep, .int .u64 p.sq, .int .u64 p.bo, .int .i64 p.at_, .int .i64 p.le, .slice pk nk ck, .slice pt nt ct, .slice ps ns cs, .int .u64 p.se] 32) := ⟨_, rfl⟩
  have HX1 : Hid (Blk w1 X [.int .u64 p.ep, .int .u64 p.sq, .int .u64 p.bo, .int .i64 p.at_, .int .i64 p.le, .slice pk nk ck, .slice pt nt ct, .slice ps ns cs, .int .u64 p.se] 32) := Lib.hid (by rw [hw1, hX]; exact Blk.made w [.int .u64 p.ep, .int .u64 p.sq, .int .u64 p.bo, .int .i64 p.at_, .int .i64 p.le, .slice pk nk ck, .slice pt nt ct, .slice ps ns cs, .int .u64 p.se] _)
  have HB1 : Hid (Below w.heap.size w w1) := Lib.hid (by rw [hw1]; exact below_alloc _ _)
  clear h hc hnk hnt hns
  go_enter Tryz.func15, Tryz.ntmps15
  go_upto_region 1 with fail
  rw [← hw1, ← hX]
  clear hw1 hX
  have c0 := HX1.out.cell (j := 0) rfl
  have c1 := HX1.out.cell (j := 1) rfl
  have c2 := HX1.out.cell (j := 2) rfl
  have c3 := HX1.out.cell (j := 3) rfl
  have c4 := HX1.out.cell (j := 4) rfl
  have c5 := HX1.out.cell (j := 5) rfl
  have c6 := HX1.out.cell (j := 6) rfl
  have c7 := HX1.out.cell (j := 7) rfl
  have c8 := HX1.out.cell (j := 8) rfl
  go_wp2_with (go_at_call 12; refine (HC.out _ HB1.out).mono ?_; rintro e w2 ⟨rfl, hb⟩; have HB2 := Lib.hid (below_and HB1.out hb); clear hb)
  go_ret2
  exact ⟨rfl, HB2.out⟩
set_option maxRecDepth 100000 in
set_option maxHeartbeats 4000000 in
theorem rappendP_yes (p : Po) (v vt1 vt2 vt3 : Value) (l : List UInt8) (w : World) (h : PoW w p vt1 vt2 vt3) (hc : checkP p = true) (hv : Rd w v l) (hl : l.length ≤ 100000000) : Calls Tryz.prog 15 #[v, poV p vt1 vt2 vt3] w fun e w' => ∃ v', e = .returned (.tuple #[v', .int .i64 0]) ∧ Fresh w.heap.size w' v' (l ++ frm 3 (bodyP p)) ∧ Below w.heap.size w w' := by
  have HC := Lib.hid (fun w' hb => rcheckP_any p _ _ _ w' (h.below hb))
  rw [hc] at HC
  have HF := Lib.hid (h.fits hc)
  have HV := Lib.hid hv
  have HBL := Lib.hid (bodyP_len (h.fits hc))
  have HL := Lib.hid hl
  have HBD := Lib.hid (fun w' hb => pbody_any p _ _ _ w' (h.below hb) (h.fits hc))
  obtain ⟨pk, ck, rfl, -⟩ := row_el h.k
  obtain ⟨pt, ct, rfl, -⟩ := row_el h.t
  obtain ⟨ps, cs, rfl, -⟩ := row_el h.s
  obtain ⟨nk, hnk⟩ : ∃ n, n = p.K.length := ⟨_, rfl⟩
  obtain ⟨nt, hnt⟩ : ∃ n, n = p.T.length := ⟨_, rfl⟩
  obtain ⟨ns, hns⟩ : ∃ n, n = p.P.length := ⟨_, rfl⟩
  rw [← hnk, ← hnt, ← hns] at HC ⊢
  rw [← hnk, ← hnt, ← hns] at HBD
  obtain ⟨X, hX⟩ : ∃ X, X = w.heap.size := ⟨_, rfl⟩
  obtain ⟨w1, hw1⟩ : ∃ w1, w1 = w.alloc (.cells #[.int .u64 p.ep, .int .u64 p.sq, .int .u64 p.bo, .int .i64 p.at_, .int .i64 p.le, .slice pk nk ck, .slice pt nt ct, .slice ps ns cs, .int .u64 p.se] 32) := ⟨_, rfl⟩
  have HX1 : Hid (Blk w1 X [.int .u64 p.ep, .int .u64 p.sq, .int .u64 p.bo, .int .i64 p.at_, .int .i64 p.le, .slice pk nk ck, .slice pt nt ct, .slice ps ns cs, .int .u64 p.se] 32) := Lib.hid (by rw [hw1, hX]; exact Blk.made w [.int .u64 p.ep, .int .u64 p.sq, .int .u64 p.bo, .int .i64 p.at_, .int .i64 p.le, .slice pk nk ck, .slice pt nt ct, .slice ps ns cs, .int .u64 p.se] _)
  have HB1 : Hid (Below w.heap.size w w1) := Lib.hid (by rw [hw1]; exact below_alloc _ _)
  clear h hc hnk hnt hns hv hl
  go_enter Tryz.func15, Tryz.ntmps15
  go_upto_region 1 with fail
  rw [← hw1, ← hX]
  clear hw1 hX
  have c0 := HX1.out.cell (j := 0) rfl
  have c1 := HX1.out.cell (j := 1) rfl
  have c2 := HX1.out.cell (j := 2) rfl
  have c3 := HX1.out.cell (j := 3) rfl
  have c4 := HX1.out.cell (j := 4) rfl
  have c5 := HX1.out.cell (j := 5) rfl
  have c6 := HX1.out.cell (j := 6) rfl
  have c7 := HX1.out.cell (j := 7) rfl
  have c8 := HX1.out.cell (j := 8) rfl
  go_upto_region 3 with (go_at_call 12; refine (HC.out _ HB1.out).mono ?_; rintro e w2 ⟨rfl, hb⟩; have HX2 := Lib.hid (HX1.out.kept hb); have HB2 := Lib.hid (below_and HB1.out hb); clear hb)
  clear c0 c1 c2 c3 c4 c5 c6 c7 c8 HC
  have d0 := HX2.out.cell (j := 0) rfl
  have d1 := HX2.out.cell (j := 1) rfl
  have d2 := HX2.out.cell (j := 2) rfl
  have d3 := HX2.out.cell (j := 3) rfl
  have d4 := HX2.out.cell (j := 4) rfl
  have d5 := HX2.out.cell (j := 5) rfl
  have d6 := HX2.out.cell (j := 6) rfl
  have d7 := HX2.out.cell (j := 7) rfl
  have d8 := HX2.out.cell (j := 8) rfl
  have HLT : Hid (∀ w3 vb, Below w.heap.size w w3 → Rd w3 vb (bodyP p) → Calls Tryz.prog 80 #[v, .int .u8 3, vb] w3 fun e w' => ∃ v', e = .returned v' ∧ Fresh w3.heap.size w' v' (l ++ frm 3 (bodyP p)) ∧ Below w3.heap.size w3 w') := Lib.hid (fun w3 vb hb hr => letter_put v vb l 3 (bodyP p) w3 (HV.out.below hb) hr (by have := HL.out; omega) (by have := HBL.out; omega))
  go_wp2_with (first | (go_at_call 80; refine (HLT.out _ _ HB3.out HR3.out).mono ?_; rintro e w4 ⟨v4, rfl, hf, hb⟩; have HF4 := Lib.hid (hf.mono (Below.size HB3.out)); have HB4 := Lib.hid (below_and HB3.out hb); clear hf hb) | (go_at_call 81; refine (HBD.out _ HB2.out).mono ?_; rintro e w3 ⟨v3, rfl, hf, hb⟩; have HR3 := Lib.hid hf.rd; have HB3 := Lib.hid (below_and HB2.out hb); clear hf hb))
  go_ret2
  exact ⟨_, rfl, HF4.out, HB4.out⟩
set_option maxRecDepth 100000 in
set_option maxHeartbeats 4000000 in
theorem rappendR_no (p : Rp) (v vt1 vt2 vt3 : Value) (w : World) (h : RpW w p vt1 vt2 vt3) (hc : checkR p = false) : Calls Tryz.prog 18 #[v, rpV p vt1 vt2 vt3] w fun e w' => e = .returned (.tuple #[.slice none 0 0, .int .i64 2]) ∧ Below w.heap.size w w' := by
  have HC := Lib.hid (fun w' hb => rcheckR_any p _ _ _ w' (h.below hb))
  rw [hc] at HC
  obtain ⟨pk, ck, rfl, -⟩ := row_el h.k
  obtain ⟨pt, ct, rfl, -⟩ := row_el h.t
  obtain ⟨ps, cs, rfl, -⟩ := row_el h.s
  obtain ⟨nk, hnk⟩ : ∃ n, n = p.H.length := ⟨_, rfl⟩
  obtain ⟨nt, hnt⟩ : ∃ n, n = p.F.length := ⟨_, rfl⟩
  obtain ⟨ns, hns⟩ : ∃ n, n = p.R.length := ⟨_, rfl⟩
  rw [← hnk, ← hnt, ← hns] at HC ⊢
  obtain ⟨X, hX⟩ : ∃ X, X = w.heap.size := ⟨_, rfl⟩
  obtain ⟨w1, hw1⟩ : ∃ w1, w1 = w.alloc (.cells #[.int .u64 p.ep, .int .u64 p.sq, .int .u64 p.bo, .int .i64 p.at_, .slice pk nk ck, .slice pt nt ct, .slice ps ns cs] 44) := ⟨_, rfl⟩
  have HX1 : Hid (Blk w1 X [.int .u64 p.ep, .int .u64 p.sq, .int .u64 p.bo, .int .i64 p.at_, .slice pk nk ck, .slice pt nt ct, .slice ps ns cs] 44) := Lib.hid (by rw [hw1, hX]; exact Blk.made w [.int .u64 p.ep, .int .u64 p.sq, .int .u64 p.bo, .int .i64 p.at_, .slice pk nk ck, .slice pt nt ct, .slice ps ns cs] _)
  have HB1 : Hid (Below w.heap.size w w1) := Lib.hid (by rw [hw1]; exact below_alloc _ _)
  clear h hc hnk hnt hns
  go_enter Tryz.func18, Tryz.ntmps18
  go_upto_region 1 with fail
  rw [← hw1, ← hX]
  clear hw1 hX
  have c0 := HX1.out.cell (j := 0) rfl
  have c1 := HX1.out.cell (j := 1) rfl
  have c2 := HX1.out.cell (j := 2) rfl
  have c3 := HX1.out.cell (j := 3) rfl
  have c4 := HX1.out.cell (j := 4) rfl
  have c5 := HX1.out.cell (j := 5) rfl
  have c6 := HX1.out.cell (j := 6) rfl
  go_wp2_with (go_at_call 14; refine (HC.out _ HB1.out).mono ?_; rintro e w2 ⟨rfl, hb⟩; have HB2 := Lib.hid (below_and HB1.out hb); clear hb)
  go_ret2
  exact ⟨rfl, HB2.out⟩
set_option maxRecDepth 100000 in
set_option maxHeartbeats 4000000 in
theorem rappendR_yes (p : Rp) (v vt1 vt2 vt3 : Value) (l : List UInt8) (w : World) (h : RpW w p vt1 vt2 vt3) (hc : checkR p = true) (hv : Rd w v l) (hl : l.length ≤ 100000000) : Calls Tryz.prog 18 #[v, rpV p vt1 vt2 vt3] w fun e w' => ∃ v', e = .returned (.tuple #[v', .int .i64 0]) ∧ Fresh w.heap.size w' v' (l ++ frm 4 (bodyR p)) ∧ Below w.heap.size w w' := by
  have HC := Lib.hid (fun w' hb => rcheckR_any p _ _ _ w' (h.below hb))
  rw [hc] at HC
  have HF := Lib.hid (h.fits hc)
  have HV := Lib.hid hv
  have HBL := Lib.hid (bodyR_len (h.fits hc))
  have HL := Lib.hid hl
  have HBD := Lib.hid (fun w' hb => rbody_any p _ _ _ w' (h.below hb) (h.fits hc))
  obtain ⟨pk, ck, rfl, -⟩ := row_el h.k
  obtain ⟨pt, ct, rfl, -⟩ := row_el h.t
  obtain ⟨ps, cs, rfl, -⟩ := row_el h.s
  obtain ⟨nk, hnk⟩ : ∃ n, n = p.H.length := ⟨_, rfl⟩
  obtain ⟨nt, hnt⟩ : ∃ n, n = p.F.length := ⟨_, rfl⟩
  obtain ⟨ns, hns⟩ : ∃ n, n = p.R.length := ⟨_, rfl⟩
  rw [← hnk, ← hnt, ← hns] at HC ⊢
  rw [← hnk, ← hnt, ← hns] at HBD
  obtain ⟨X, hX⟩ : ∃ X, X = w.heap.size := ⟨_, rfl⟩
  obtain ⟨w1, hw1⟩ : ∃ w1, w1 = w.alloc (.cells #[.int .u64 p.ep, .int .u64 p.sq, .int .u64 p.bo, .int .i64 p.at_, .slice pk nk ck, .slice pt nt ct, .slice ps ns cs] 44) := ⟨_, rfl⟩
  have HX1 : Hid (Blk w1 X [.int .u64 p.ep, .int .u64 p.sq, .int .u64 p.bo, .int .i64 p.at_, .slice pk nk ck, .slice pt nt ct, .slice ps ns cs] 44) := Lib.hid (by rw [hw1, hX]; exact Blk.made w [.int .u64 p.ep, .int .u64 p.sq, .int .u64 p.bo, .int .i64 p.at_, .slice pk nk ck, .slice pt nt ct, .slice ps ns cs] _)
  have HB1 : Hid (Below w.heap.size w w1) := Lib.hid (by rw [hw1]; exact below_alloc _ _)
  clear h hc hnk hnt hns hv hl
  go_enter Tryz.func18, Tryz.ntmps18
  go_upto_region 1 with fail
  rw [← hw1, ← hX]
  clear hw1 hX
  have c0 := HX1.out.cell (j := 0) rfl
  have c1 := HX1.out.cell (j := 1) rfl
  have c2 := HX1.out.cell (j := 2) rfl
  have c3 := HX1.out.cell (j := 3) rfl
  have c4 := HX1.out.cell (j := 4) rfl
  have c5 := HX1.out.cell (j := 5) rfl
  have c6 := HX1.out.cell (j := 6) rfl
  go_upto_region 3 with (go_at_call 14; refine (HC.out _ HB1.out).mono ?_; rintro e w2 ⟨rfl, hb⟩; have HX2 := Lib.hid (HX1.out.kept hb); have HB2 := Lib.hid (below_and HB1.out hb); clear hb)
  clear c0 c1 c2 c3 c4 c5 c6 HC
  have d0 := HX2.out.cell (j := 0) rfl
  have d1 := HX2.out.cell (j := 1) rfl
  have d2 := HX2.out.cell (j := 2) rfl
  have d3 := HX2.out.cell (j := 3) rfl
  have d4 := HX2.out.cell (j := 4) rfl
  have d5 := HX2.out.cell (j := 5) rfl
  have d6 := HX2.out.cell (j := 6) rfl
  have HLT : Hid (∀ w3 vb, Below w.heap.size w w3 → Rd w3 vb (bodyR p) → Calls Tryz.prog 80 #[v, .int .u8 4, vb] w3 fun e w' => ∃ v', e = .returned v' ∧ Fresh w3.heap.size w' v' (l ++ frm 4 (bodyR p)) ∧ Below w3.heap.size w3 w') := Lib.hid (fun w3 vb hb hr => letter_put v vb l 4 (bodyR p) w3 (HV.out.below hb) hr (by have := HL.out; omega) (by have := HBL.out; omega))
  go_wp2_with (first | (go_at_call 80; refine (HLT.out _ _ HB3.out HR3.out).mono ?_; rintro e w4 ⟨v4, rfl, hf, hb⟩; have HF4 := Lib.hid (hf.mono (Below.size HB3.out)); have HB4 := Lib.hid (below_and HB3.out hb); clear hf hb) | (go_at_call 88; refine (HBD.out _ HB2.out).mono ?_; rintro e w3 ⟨v3, rfl, hf, hb⟩; have HR3 := Lib.hid hf.rd; have HB3 := Lib.hid (below_and HB2.out hb); clear hf hb))
  go_ret2
  exact ⟨_, rfl, HF4.out, HB4.out⟩
end Go.Proofs.YtopkfomlppnpeaaGreatDoor.Ms
