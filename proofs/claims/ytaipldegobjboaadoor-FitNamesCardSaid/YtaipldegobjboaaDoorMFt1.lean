/- , laid together: FtName, FtTask, FtWhere. -/
import Derived.Test.YtaipldegobjboaaDoorFtPlain
import Derived.Test.YtaipldegobjboaaDoorRuIsName
import Derived.Test.YtaipldegobjboaaDoorRuHold
namespace Go.Proofs.YtaipldegobjboaaDoor.Ft
open Go.RowKit Go.Proofs.YtaipldegobjboaaDoor Go.Proofs.YtaipldegobjboaaDoor.Ru

set_option maxRecDepth 100000 in
set_option maxHeartbeats 1000000 in
theorem spec_any (s : ByteArray) (w : World) :
    Calls Tryd.prog 20 #[.string s] w fun e w' => e = .returned (.bool (specB s.data.toList)) ∧ Below w.heap.size w w' := by
  obtain ⟨wq, cap, hcv, hbl, hcell⟩ := ruconv s w
  obtain ⟨l, hl⟩ : ∃ l, l = s.data.toList := ⟨_, rfl⟩
  have hsz : s.size = l.length := by rw [hl]; simp
  rw [← hl]
  by_cases h0 : s.size < 1
  · have HR : Hid (specB l = false) := Lib.hid (by unfold specB; rw [decide_eq_false (by omega)]; rfl)
    have e0 : decide ((s.size : Int) < 1) = true := by simp; omega
    clear hcv hbl hcell hl hsz
    go_enter Tryd.func20, Tryd.ntmps20
    go_wp2
    go_ret
    exact ⟨ret_bool HR.out.symm, Below.refl _ _⟩
  have e0 : decide ((s.size : Int) < 1) = false := by simp; omega
  by_cases h1 : 16 < s.size
  · have HR : Hid (specB l = false) := Lib.hid (by unfold specB; rw [decide_eq_false (by omega)]; rfl)
    have e1 : decide ((16 : Int) < (s.size : Int)) = true := by simp; omega
    clear hcv hbl hcell hl hsz
    go_enter Tryd.func20, Tryd.ntmps20
    go_wp2
    go_ret
    exact ⟨ret_bool HR.out.symm, Below.refl _ _⟩
  have e1 : decide ((16 : Int) < (s.size : Int)) = false := by simp; omega
  have hl1 : l.length ≤ 16 := by omega
  have i0 : 0 < s.size := by omega
  obtain ⟨c0, hc0⟩ : ∃ c0, c0 = s[0] := ⟨_, rfl⟩
  have HC0 : Hid (hd lo l = lo c0) := Lib.hid (by
    subst hl
    rw [hc0]
    cases hq : s.data.toList with
    | nil =>
      have g1 : s.data.toList.length = 0 := by rw [hq]; rfl
      have g2 : s.data.toList.length = s.size := by simp
      omega
    | cons c r =>
      have : s[0] = c := by
        have h2 : s.data.toList[0]'(by simpa using i0) = s[0] := rfl
        rw [← h2]; simp [hq]
      rw [this]; rfl)
  have hcc : s[0] = c0 := hc0.symm
  clear hc0
  by_cases h2 : c0.toNat < 97
  · have HR : Hid (specB l = false) := Lib.hid (by unfold specB; rw [HC0.out, show lo c0 = false from by unfold lo; simp; omega]; simp)
    have e2 : decide ((c0.toNat : Int) < 97) = true := by simp; omega
    clear hcv hbl hcell hl hsz h0 h1
    go_enter Tryd.func20, Tryd.ntmps20
    go_wp2
    go_ret
    exact ⟨ret_bool HR.out.symm, Below.refl _ _⟩
  have e2 : decide ((c0.toNat : Int) < 97) = false := by simp; omega
  by_cases h3 : 122 < c0.toNat
  · have HR : Hid (specB l = false) := Lib.hid (by unfold specB; rw [HC0.out, show lo c0 = false from by unfold lo; simp; omega]; simp)
    have e3 : decide ((122 : Int) < (c0.toNat : Int)) = true := by simp; omega
    clear hcv hbl hcell hl hsz h0 h1
    go_enter Tryd.func20, Tryd.ntmps20
    go_wp2
    go_ret
    exact ⟨ret_bool HR.out.symm, Below.refl _ _⟩
  have e3 : decide ((122 : Int) < (c0.toNat : Int)) = false := by simp; omega
  have HH : Hid (specB l = l.all nmc) := Lib.hid (by unfold specB; rw [HC0.out, show lo c0 = true from by unfold lo; simp; omega, decide_eq_true (by omega)]; rfl)
  clear h2 h3
  have HB := Lib.hid hbl
  have HC : Hid (∀ j (h : j < l.length), wq.cell? ⟨w.heap.size, j, none⟩ = some (.int .u8 (l[j].toNat : Int))) := Lib.hid (fun j hj => by
    rw [hcell j (by omega), ← hl]
    simp [List.getD, hj])
  have HSZ := Lib.hid hsz
  have HL0 : Hid (0 < l.length) := Lib.hid (by omega)
  clear hbl hcell hl hsz h0 h1
  go_enter Tryd.func20, Tryd.ntmps20
  go_wp2
  go_loopw [26] (fun i wr => ∃ k : Nat, k ≤ l.length ∧ i = .int .i64 (k : Int) ∧ Hid ((l.take k).all nmc = true) ∧ Hid (Below wq.heap.size wq wr)) (fun i _ => l.length - (intOf i).toNat)
  case atStart => exact ⟨0, Nat.zero_le _, rfl, by simp [Hid], Lib.hid (Below.refl _ _)⟩
  case round =>
    obtain ⟨k, hk, rfl, HD, HBR⟩ := hrel
    have HBZ : Hid (w.heap.size < wq.heap.size) := Lib.hid (by
      have h := HB.out.size
      rcases Nat.lt_or_ge w.heap.size wq.heap.size with h' | h'
      · exact h'
      · exfalso
        have hc := HC.out 0 HL0.out
        unfold World.cell? at hc
        rw [Array.getElem?_eq_none (by omega)] at hc
        cases hc)
    by_cases hlt : k < l.length
    · have hc : wr.cell? ⟨w.heap.size, k, none⟩ = some (.int .u8 (l[k].toNat : Int)) := by rw [HBR.out.cell HBZ.out]; exact HC.out k hlt
      have i1 : (k : Int) < (s.size : Int) := by have := HSZ.out; omega
      have i2 : (0 : Int) ≤ (k : Int) := by omega
      obtain ⟨c, hcq⟩ : ∃ c, c = l[k] := ⟨_, rfl⟩
      rw [← hcq] at hc
      have HCC := Lib.hid hcq
      clear hcq
      have cb := c.toNat_lt
      have HNM : Hid (nmc c = (lo c || dgt c || c.toNat == 45)) := Lib.hid rfl
      by_cases h97 : c.toNat < 97
      · have d1 : decide ((c.toNat : Int) < 97) = true := by simp; omega
        have HLO : Hid (lo c = false) := Lib.hid (by unfold lo; simp; omega)
        clear h97
        by_cases h48 : c.toNat < 48
        · have d3 : decide ((c.toNat : Int) < 48) = true := by simp; omega
          have HDG : Hid (dgt c = false) := Lib.hid (by unfold dgt; simp; omega)
          by_cases h45 : c.toNat = 45
          · have d5 : ((c.toNat : Int) != 45) = false := by simp; omega
            have HN0 : Hid (nmc c = true) := Lib.hid (by rw [HNM.out, h45]; simp)
            clear h45 h48
            have HN : Hid (nmc c = true) := Lib.hid (HN0.out)
            go_wp2
            go_roundw
            case rel => exact ⟨k + 1, hlt, rfl, Lib.hid (by rw [List.take_succ_eq_append_getElem hlt, List.all_append, HD.out, ← HCC.out]; simp [HN.out]), HBR⟩
            case measure => simp [intOf]; omega
          · have d5 : ((c.toNat : Int) != 45) = true := by simp; omega
            have HR : Hid (specB l = false) := Lib.hid (by rw [HH.out]; exact all_no hlt (by rw [← HCC.out, HNM.out, HLO.out, HDG.out]; simp [h45]))
            clear h45 h48
            go_wp2
            go_ret
            exact ⟨ret_bool HR.out.symm, HB.out.trans (HBR.out.mono (Nat.le_of_lt HBZ.out))⟩
        · have d3 : decide ((c.toNat : Int) < 48) = false := by simp; omega
          by_cases h57 : 57 < c.toNat
          · have d4 : decide ((57 : Int) < (c.toNat : Int)) = true := by simp; omega
            have d5 : ((c.toNat : Int) != 45) = true := by simp; omega
            have HDG : Hid (dgt c = false) := Lib.hid (by unfold dgt; simp; omega)
            have HR : Hid (specB l = false) := Lib.hid (by rw [HH.out]; exact all_no hlt (by rw [← HCC.out, HNM.out, HLO.out, HDG.out]; simp; omega))
            clear h48 h57
            go_wp2
            go_ret
            exact ⟨ret_bool HR.out.symm, HB.out.trans (HBR.out.mono (Nat.le_of_lt HBZ.out))⟩
          · have d4 : decide ((57 : Int) < (c.toNat : Int)) = false := by simp; omega
            have HN0 : Hid (nmc c = true) := Lib.hid (by rw [HNM.out, show dgt c = true from by unfold dgt; simp; omega]; simp)
            clear h48 h57
            have HN : Hid (nmc c = true) := Lib.hid (HN0.out)
            go_wp2
            go_roundw
            case rel => exact ⟨k + 1, hlt, rfl, Lib.hid (by rw [List.take_succ_eq_append_getElem hlt, List.all_append, HD.out, ← HCC.out]; simp [HN.out]), HBR⟩
            case measure => simp [intOf]; omega
      · have d1 : decide ((c.toNat : Int) < 97) = false := by simp; omega
        by_cases h122 : 122 < c.toNat
        · have d2 : decide ((122 : Int) < (c.toNat : Int)) = true := by simp; omega
          have HLO : Hid (lo c = false) := Lib.hid (by unfold lo; simp; omega)
          clear h97 h122
          by_cases h48 : c.toNat < 48
          · have d3 : decide ((c.toNat : Int) < 48) = true := by simp; omega
            have HDG : Hid (dgt c = false) := Lib.hid (by unfold dgt; simp; omega)
            by_cases h45 : c.toNat = 45
            · have d5 : ((c.toNat : Int) != 45) = false := by simp; omega
              have HN0 : Hid (nmc c = true) := Lib.hid (by rw [HNM.out, h45]; simp)
              clear h45 h48
              have HN : Hid (nmc c = true) := Lib.hid (HN0.out)
              go_wp2
              go_roundw
              case rel => exact ⟨k + 1, hlt, rfl, Lib.hid (by rw [List.take_succ_eq_append_getElem hlt, List.all_append, HD.out, ← HCC.out]; simp [HN.out]), HBR⟩
              case measure => simp [intOf]; omega
            · have d5 : ((c.toNat : Int) != 45) = true := by simp; omega
              have HR : Hid (specB l = false) := Lib.hid (by rw [HH.out]; exact all_no hlt (by rw [← HCC.out, HNM.out, HLO.out, HDG.out]; simp [h45]))
              clear h45 h48
              go_wp2
              go_ret
              exact ⟨ret_bool HR.out.symm, HB.out.trans (HBR.out.mono (Nat.le_of_lt HBZ.out))⟩
          · have d3 : decide ((c.toNat : Int) < 48) = false := by simp; omega
            by_cases h57 : 57 < c.toNat
            · have d4 : decide ((57 : Int) < (c.toNat : Int)) = true := by simp; omega
              have d5 : ((c.toNat : Int) != 45) = true := by simp; omega
              have HDG : Hid (dgt c = false) := Lib.hid (by unfold dgt; simp; omega)
              have HR : Hid (specB l = false) := Lib.hid (by rw [HH.out]; exact all_no hlt (by rw [← HCC.out, HNM.out, HLO.out, HDG.out]; simp; omega))
              clear h48 h57
              go_wp2
              go_ret
              exact ⟨ret_bool HR.out.symm, HB.out.trans (HBR.out.mono (Nat.le_of_lt HBZ.out))⟩
            · have d4 : decide ((57 : Int) < (c.toNat : Int)) = false := by simp; omega
              have HN0 : Hid (nmc c = true) := Lib.hid (by rw [HNM.out, show dgt c = true from by unfold dgt; simp; omega]; simp)
              clear h48 h57
              have HN : Hid (nmc c = true) := Lib.hid (HN0.out)
              go_wp2
              go_roundw
              case rel => exact ⟨k + 1, hlt, rfl, Lib.hid (by rw [List.take_succ_eq_append_getElem hlt, List.all_append, HD.out, ← HCC.out]; simp [HN.out]), HBR⟩
              case measure => simp [intOf]; omega
        · have d2 : decide ((122 : Int) < (c.toNat : Int)) = false := by simp; omega
          have HN : Hid (nmc c = true) := Lib.hid (by rw [HNM.out, show lo c = true from by unfold lo; simp; omega]; simp)
          clear h97 h122
          go_wp2
          go_roundw
          case rel => exact ⟨k + 1, hlt, rfl, Lib.hid (by rw [List.take_succ_eq_append_getElem hlt, List.all_append, HD.out, ← HCC.out]; simp [HN.out]), HBR⟩
          case measure => simp [intOf]; omega
    · have i1 : ¬ (k : Int) < (s.size : Int) := by have := HSZ.out; omega
      have HR : Hid (specB l = true) := Lib.hid (by rw [HH.out]; have := HD.out; rwa [List.take_of_length_le (by omega)] at this)
      clear hlt
      go_wp2
      go_ret
      exact ⟨ret_bool HR.out.symm, HB.out.trans (HBR.out.mono (Nat.le_of_lt HBZ.out))⟩

end Go.Proofs.YtaipldegobjboaaDoor.Ft

namespace Go.Proofs.YtaipldegobjboaaDoor.Ft
open Go.RowKit Go.Proofs.YtaipldegobjboaaDoor Go.Proofs.YtaipldegobjboaaDoor.Ru

abbrev usC (u : Us) : List Value := [.string (bs u.j), .int .i64 u.i, .int .i64 u.d, .int .i64 u.a.c, .int .i64 u.a.r, .int .i64 u.a.d, .int .i64 u.a.p, .string (bs u.n), .bool u.e]
abbrev usV (u : Us) : Value := .agg #[.string (bs u.j), .int .i64 u.i, .int .i64 u.d, .int .i64 u.a.c, .int .i64 u.a.r, .int .i64 u.a.d, .int .i64 u.a.p, .string (bs u.n), .bool u.e]
theorem usC_len (u : Us) : (usC u).length = 9 := rfl
theorem usC_one (u : Us) : ∀ x ∈ usC u, x.oneCell' = true := by
  intro x hx
  simp only [usC, List.mem_cons, List.not_mem_nil, or_false] at hx
  rcases hx with rfl | rfl | rfl | rfl | rfl | rfl | rfl | rfl | rfl <;> rfl
theorem info_us : (Tryd.prog.info? 45).map (fun i => (i.zero, i.size, i.bytes)) = some (some (.agg #[.string ⟨#[]⟩, .int .i64 0, .int .i64 0, .int .i64 0, .int .i64 0, .int .i64 0, .int .i64 0, .string ⟨#[]⟩, .bool false]), 9, 88) := by kernel_rfl
def taskE (j : List UInt8) (i : Int) : Int := if (taskO j i).isSome = true then 0 else 2

set_option maxRecDepth 100000 in
set_option maxHeartbeats 1000000 in
theorem task_any (j : List UInt8) (i : Int) (w : World) (hj : j.length ≤ 1000000000000000) :
    Calls Tryd.prog 19 #[.agg #[.string (bs j), .int .i64 i]] w fun r w' => r = .returned (.tuple #[.string (bs ((taskO j i).getD [])), .int .i64 (taskE j i)]) ∧ Below w.heap.size w w' := by
  obtain ⟨B, hB⟩ : ∃ B, B = w.heap.size := ⟨_, rfl⟩
  obtain ⟨w1, hw1⟩ : ∃ w1, w1 = w.alloc (.cells #[.string (bs j), .int .i64 i] 43) := ⟨_, rfl⟩
  have HB1 : Hid (Below w.heap.size w w1) := Lib.hid (by rw [hw1]; exact below_alloc _ _)
  have HX1 : Hid (Blk w1 B [.string (bs j), .int .i64 i] 43) := Lib.hid (by rw [hw1, hB]; exact Blk.made w [_, _] _)
  have HSP : Hid (Calls Tryd.prog 20 #[.string (bs j)] w1 fun e w' => e = .returned (.bool (specB j)) ∧ Below w1.heap.size w1 w') := Lib.hid (by
    have := spec_any (bs j) w1
    rw [show (bs j).data.toList = j from by simp [bs]] at this
    exact this)
  have b0 := HX1.out.cell (j := 0) rfl
  have HJ := Lib.hid hj
  clear hj
  cases hs : specB j with
  | false =>
    have HR : Hid (bs ((taskO j i).getD []) = ⟨#[]⟩ ∧ taskE j i = 2) := Lib.hid (by unfold taskE taskO; rw [hs]; exact ⟨rfl, rfl⟩)
    rw [hs] at HSP
    clear hs
    go_enter Tryd.func19, Tryd.ntmps19
    go_upto_region 1 with fail
    rw [← hw1, ← hB]
    clear hw1 hB
    go_wp2_with (go_at_call 20; refine HSP.out.mono ?_; rintro r w2 ⟨rfl, hb⟩; have HB2 := Lib.hid (below_and HB1.out hb); clear hb)
    go_ret2
    exact ⟨by rw [HR.out.1, HR.out.2]; rfl, HB2.out⟩
  | true =>
    rw [hs] at HSP
    by_cases hi : 0 ≤ i ∧ i < 64
    · obtain ⟨q, rfl⟩ : ∃ q : Nat, i = (q : Int) := ⟨i.toNat, by omega⟩
      have HQ : Hid (q < 64) := Lib.hid (by omega)
      have HT : Hid (taskO j (q : Int) = some (j ++ 46 :: Lib.itoa (q : Int))) := Lib.hid (by unfold taskO; rw [if_pos ⟨hs, hi.1, hi.2⟩])
      have HIT : Hid (∀ wx, Calls Tryd.prog 31 #[.int .i64 (q : Int)] wx fun e w' => e = .returned (.string (bs (Lib.itoa (q : Int)))) ∧ wx = w') := Lib.hid (fun wx => (Tryd.strconv_Itoa_small q (by have := HQ.out; omega) wx).mono fun e w' h => ⟨by rw [h.1, Lib.itoa_nonneg]; rfl, h.2.symm⟩)
      have HIL : Hid ((Lib.itoa (q : Int)).length ≤ 21) := Lib.hid (Lib.itoa_length_le _ (by omega) (by omega))
      obtain ⟨u, hu⟩ : ∃ u, u = Lib.itoa (q : Int) := ⟨_, rfl⟩
      rw [← hu] at HT HIT HIL
      have HR : Hid (bs ((taskO j (q : Int)).getD []) = bs (j ++ 46 :: u) ∧ taskE j (q : Int) = 0) := Lib.hid (by unfold taskE; rw [HT.out]; exact ⟨by simp, rfl⟩)
      have hadd1 : ∀ w, (Op.stringOp .add (bs j) ⟨#[46]⟩).run Tryd.prog w = .ok (.string (bs (j ++ [46]))) w := fun w => add_bs j [46] (by have := HJ.out; simp; omega) w
      have hadd2 : ∀ w, (Op.stringOp .add (bs (j ++ [46])) (bs u)).run Tryd.prog w = .ok (.string (bs (j ++ 46 :: u))) w := fun w => by have := add_bs (j ++ [46]) u (by have := HJ.out; have := HIL.out; simp; omega) w; rw [show j ++ [46] ++ u = j ++ 46 :: u from by simp] at this; exact this
      have t1 : decide ((q : Int) < 0) = false := by simp
      have t2 : decide ((64 : Int) ≤ (q : Int)) = false := by simp; omega
      clear hs hu hi
      go_enter Tryd.func19, Tryd.ntmps19
      go_upto_region 1 with fail
      rw [← hw1, ← hB]
      clear hw1 hB
      go_upto_region 3 with (go_at_call 20; refine HSP.out.mono ?_; rintro r w2 ⟨rfl, hb⟩; have HB2 := Lib.hid (below_and HB1.out hb); have HX2 := Lib.hid (HX1.out.kept hb); have b1 := (HX1.out.kept hb).cell (j := 1) rfl; clear hb b0)
      have p0 : ∀ s : Past w2, s.val.cell? ⟨B, 0, none⟩ = some (.string (bs j)) := Past.blk HX2.out (j := 0) rfl
      have p1 : ∀ s : Past w2, s.val.cell? ⟨B, 1, none⟩ = some (.int .i64 (q : Int)) := Past.blk HX2.out (j := 1) rfl
      refine wp_region_past (by kernel_rfl) (by kernel_rfl) ?_
      repeat (go_big_quiet_step ((go_at_call 31; exact past_call_same (HIT.out _))))
      refine wpQuiet_nil ?_
      intro _ hw'
      obtain ⟨s9, hw''⟩ := hw'
      subst hw''
      go_wp2
      go_ret2
      exact ⟨by rw [HR.out.1, HR.out.2]; rfl, below_and HB2.out s9.h⟩
    · have HR : Hid (bs ((taskO j i).getD []) = ⟨#[]⟩ ∧ taskE j i = 2) := Lib.hid (by unfold taskE taskO; rw [if_neg (fun h => hi h.2)]; exact ⟨rfl, rfl⟩)
      clear hs
      by_cases h0 : i < 0
      · have t1 : decide (i < 0) = true := decide_eq_true h0
        clear hi h0
        go_enter Tryd.func19, Tryd.ntmps19
        go_upto_region 1 with fail
        rw [← hw1, ← hB]
        clear hw1 hB
        go_wp2_with (go_at_call 20; refine HSP.out.mono ?_; rintro r w2 ⟨rfl, hb⟩; have HB2 := Lib.hid (below_and HB1.out hb); have b1 := (HX1.out.kept hb).cell (j := 1) rfl; clear hb)
        go_ret2
        exact ⟨by rw [HR.out.1, HR.out.2]; rfl, HB2.out⟩
      · have t1 : decide (i < 0) = false := decide_eq_false h0
        have t2 : decide (64 ≤ i) = true := decide_eq_true (by omega)
        clear hi h0
        go_enter Tryd.func19, Tryd.ntmps19
        go_upto_region 1 with fail
        rw [← hw1, ← hB]
        clear hw1 hB
        go_wp2_with (go_at_call 20; refine HSP.out.mono ?_; rintro r w2 ⟨rfl, hb⟩; have HB2 := Lib.hid (below_and HB1.out hb); have b1 := (HX1.out.kept hb).cell (j := 1) rfl; clear hb)
        go_ret2
        exact ⟨by rw [HR.out.1, HR.out.2]; rfl, HB2.out⟩

/-! the closures -/
def fIn (p : List UInt8) (u : Us) : Bool := u.n == p
def fEnv (n : List UInt8) (u : Us) : Bool := u.e && u.n == [] && u.j == n
theorem nil_beq (b : List UInt8) : ((bs b).toList == ([] : List UInt8)) = (b == []) := by
  rw [Lib.toList_data]
  simp [bs]

set_option maxRecDepth 100000 in
set_option maxHeartbeats 1000000 in
theorem in1_any (u : Us) (X : Nat) (p : List UInt8) (w : World) (h : w.cell? ⟨X, 0, none⟩ = some (.string (bs p))) :
    Calls Tryd.prog 55 #[usV u, ptr X] w fun r w' => r = .returned (.bool (fIn p u)) ∧ Below w.heap.size w w' := by
  have hb := below_alloc w (.cells #[.string (bs u.j), .int .i64 u.i, .int .i64 u.d, .int .i64 u.a.c, .int .i64 u.a.r, .int .i64 u.a.d, .int .i64 u.a.p, .string (bs u.n), .bool u.e] 45)
  have c1 := cell_kept h hb
  have hq := bs_beq u.n p
  clear h hb
  obtain ⟨q, hqq⟩ : ∃ q, q = fIn p u := ⟨_, rfl⟩
  rw [show (u.n == p) = q from hqq.symm] at hq
  rw [← hqq]
  clear hqq
  cases q
  all_goals go_enter Tryd.func55, Tryd.ntmps55
  all_goals go_wp2
  all_goals go_ret
  all_goals exact ⟨ret_bool rfl, below_alloc _ _⟩

set_option maxRecDepth 100000 in
set_option maxHeartbeats 1000000 in
theorem goers1_any (u : Us) (X Y : Nat) (N : Ne) (p : List UInt8) (w : World) (h : w.cell? ⟨X, 0, none⟩ = some (.string (bs p))) (h2 : w.cell? ⟨Y, 1, none⟩ = some (.int .i64 N.d)) :
    Calls Tryd.prog 25 #[usV u, ptr X, ptr Y] w fun r w' => r = .returned (.bool (goer N p u)) ∧ Below w.heap.size w w' := by
  obtain ⟨uj, ui, ud, ua, un, ue⟩ := u
  have hb := below_alloc w (.cells #[.string (bs uj), .int .i64 ui, .int .i64 ud, .int .i64 ua.c, .int .i64 ua.r, .int .i64 ua.d, .int .i64 ua.p, .string (bs un), .bool ue] 45)
  have c1 := cell_kept h hb
  have c2 := cell_kept h2 hb
  have hq := bs_beq un p
  clear h h2 hb
  obtain ⟨q, hqq⟩ : ∃ q, q = (un == p) := ⟨_, rfl⟩
  rw [← hqq] at hq
  obtain ⟨d1, hd1⟩ : ∃ d1, d1 = decide (ud < N.d) := ⟨_, rfl⟩
  obtain ⟨d2, hd2⟩ : ∃ d2, d2 = decide (ud < 2) := ⟨_, rfl⟩
  have HR : Hid (goer N p ⟨uj, ui, ud, ua, un, ue⟩ = (!ue && q && d1 && d2)) := Lib.hid (by unfold goer; rw [hqq, hd1, hd2])
  have t1 := hd1.symm
  have t2 := hd2.symm
  clear hqq hd1 hd2
  cases ue <;> cases q <;> cases d1 <;> cases d2
  all_goals go_enter Tryd.func25, Tryd.ntmps25
  all_goals go_wp2
  all_goals go_ret
  all_goals exact ⟨ret_bool (by rw [HR.out]; rfl), below_alloc _ _⟩

set_option maxRecDepth 100000 in
set_option maxHeartbeats 1000000 in
theorem fit1_any (u : Us) (X : Nat) (n : List UInt8) (w : World) (h : w.cell? ⟨X, 7, none⟩ = some (.string (bs n))) :
    Calls Tryd.prog 18 #[usV u, ptr X] w fun r w' => r = .returned (.bool (fEnv n u)) ∧ Below w.heap.size w w' := by
  obtain ⟨uj, ui, ud, ua, un, ue⟩ := u
  have hb := below_alloc w (.cells #[.string (bs uj), .int .i64 ui, .int .i64 ud, .int .i64 ua.c, .int .i64 ua.r, .int .i64 ua.d, .int .i64 ua.p, .string (bs un), .bool ue] 45)
  have c1 := cell_kept h hb
  have hq := bs_beq uj n
  have hz := nil_beq un
  clear h hb
  obtain ⟨q, hqq⟩ : ∃ q, q = (uj == n) := ⟨_, rfl⟩
  obtain ⟨z, hzz⟩ : ∃ z, z = (un == []) := ⟨_, rfl⟩
  rw [← hqq] at hq
  rw [← hzz] at hz
  have HR : Hid (fEnv n ⟨uj, ui, ud, ua, un, ue⟩ = (ue && z && q)) := Lib.hid (by unfold fEnv; rw [hqq, hzz])
  have hz2 : (bs un).toList.isEmpty = z := by rw [← hz]; cases (bs un).toList <;> rfl
  clear hqq hzz
  cases ue <;> cases z <;> cases q
  all_goals go_enter Tryd.func18, Tryd.ntmps18
  all_goals go_wp2
  all_goals go_ret
  all_goals exact ⟨ret_bool (by rw [HR.out]; rfl), below_alloc _ _⟩
end Go.Proofs.YtaipldegobjboaaDoor.Ft

namespace Go.Proofs.YtaipldegobjboaaDoor.Ft
open Go.RowKit Go.Proofs.YtaipldegobjboaaDoor Go.Proofs.YtaipldegobjboaaDoor.Ru

/-- a slice value reads as these uses -/
def Usw (w : World) (v : Value) (l : List Us) : Prop := Row w v 9 l.length (rwC usC l)
theorem Usw.below {w w' : World} {v : Value} {l : List Us} (h : Usw w v l) (hb : Below w.heap.size w w') : Usw w' v l := Row.below h hb
theorem Usw.slice {w : World} {v : Value} {l : List Us} (h : Usw w v l) : ∃ p c, v = .slice p l.length c := by
  obtain ⟨p, c, hv, -⟩ := h
  exact ⟨p, c, hv⟩
theorem Usw.at {w : World} {p : Option Addr} {n c : Nat} {l : List Us} (h : Usw w (.slice p n c) l) {i : Nat} (hi : i < l.length) :
    ∃ b o, p = some ⟨b, o, none⟩ ∧ ∀ j u, (usC l[i])[j]? = some u → w.cell? ⟨b, o + i * 9 + j, none⟩ = some u := by
  obtain ⟨p1, c1, hv, h1, h2, h3, h4, h5, h6⟩ := h
  simp only [Value.slice.injEq] at hv
  obtain ⟨rfl, -, rfl⟩ := hv
  rcases h6 with h6 | ⟨b, o, hp, ha⟩
  · rw [h6] at h3; simp at h3; omega
  · refine ⟨b, o, hp, fun j u hj => ?_⟩
    rw [Nat.add_assoc]
    refine ha (i * 9 + j) u ?_
    have hj9 : j < 9 := by
      have := (List.getElem?_eq_some_iff.1 hj).1
      rwa [usC_len] at this
    rw [rwC_at (c := usC) (k := 9) (fun _ => rfl) hi hj9]
    exact hj
theorem usw_own {w : World} {base : Nat} {v : Value} {l : List Us} (h : w.ownsRow base 45 9 v l.length (rwC usC l)) : Usw w v l := row_of_owns h (rwC_one usC_one l)

set_option maxRecDepth 100000 in
set_option maxHeartbeats 2000000 in
theorem where_in (v : Value) (l : List Us) (X : Nat) (q : List UInt8) (w : World) (hv : Usw w v l) (h : w.cell? ⟨X, 0, none⟩ = some (.string (bs q))) (hl : l.length ≤ 1000) :
    Calls Tryd.prog 17 #[v, .func (.func 55) #[] #[ptr X]] w fun r w' => ∃ v', r = .returned v' ∧ w'.ownsRow w.heap.size 45 9 v' (l.filter (fIn q)).length (rwC usC (l.filter (fIn q))) ∧ Below w.heap.size w w' := by
  obtain ⟨ix, hi, hz0, hz1, hz2⟩ := info_parts info_us
  have HCL : Hid (∀ u w', Below w.heap.size w w' → Calls Tryd.prog 55 #[usV u, ptr X] w' fun r w2 => r = .returned (.bool ((fIn q) u)) ∧ Below w'.heap.size w' w2) := Lib.hid (fun u w' hb => in1_any u X q w' (cell_kept h hb))
  have HV := Lib.hid hv
  obtain ⟨p, c, rfl⟩ := hv.slice
  obtain ⟨n, hn⟩ : ∃ n, n = l.length := ⟨_, rfl⟩
  have HN := Lib.hid hn
  have HL := Lib.hid hl
  rw [← hn]
  have hn63 : (n : Int) ≤ 1000 := by omega
  obtain ⟨f, hf⟩ : ∃ f : Us → Bool, f = (fIn q) := ⟨_, rfl⟩
  rw [← hf] at HCL ⊢
  clear hv hl hn hf h
  go_enter Tryd.func17, Tryd.ntmps17
  go_wp2
  go_loopw [5, 10] (fun o i wr => ∃ k : Nat, k ≤ n ∧ i = .int .i64 (k : Int) ∧ Hid (wr.ownsRow w.heap.size 45 9 o ((l.take k).filter f).length (rwC usC ((l.take k).filter f))) ∧ Hid (Below w.heap.size w wr)) (fun _ i _ => n - (intOf i).toNat)
  case atStart => exact ⟨0, Nat.zero_le _, rfl, Lib.hid (World.ownsRow_nil _ _ _ _), Lib.hid (Below.refl _ _)⟩
  case round =>
    obtain ⟨k, hk, rfl, HO, HB⟩ := hrel
    by_cases hlt : k < n
    · have HKN : Hid (k < l.length) := Lib.hid (by have := HN.out; omega)
      obtain ⟨u, hu⟩ : ∃ u, u = l[k]'HKN.out := ⟨_, rfl⟩
      have HLC := Lib.hid ((HV.out.below HB.out).at HKN.out)
      rw [← hu] at HLC
      have HTK : Hid (l.take (k + 1) = l.take k ++ [u]) := Lib.hid (by rw [hu]; exact List.take_succ_eq_append_getElem HKN.out)
      clear hu
      obtain ⟨b, o, rfl, hcell⟩ := HLC.out
      have q0 := hcell 0 _ rfl
      rw [Nat.add_zero] at q0
      have q1 := hcell 1 _ rfl
      have q2 := hcell 2 _ rfl
      have q3 := hcell 3 _ rfl
      have q4 := hcell 4 _ rfl
      have q5 := hcell 5 _ rfl
      have q6 := hcell 6 _ rfl
      have q7 := hcell 7 _ rfl
      have q8 := hcell 8 _ rfl
      clear hcell HLC
      go_upto_region 5 with fail
      obtain ⟨Y, hY⟩ : ∃ Y, Y = wr.heap.size := ⟨_, rfl⟩
      refine at_hide (F := fun w' => Blk w' Y (usC u) 45 ∧ Below wr.heap.size wr w') ⟨by rw [hY]; exact Blk.made wr (usC u) _, below_alloc _ _⟩ ?_
      rw [← hY]
      intro w3 hF
      have hb3 : Below wr.heap.size wr w3 := by have := hF.2; rw [hY] at this; exact this
      have HB3 : Hid (Below w.heap.size w w3) := Lib.hid (below_and HB.out hb3)
      have HO3 : Hid (w3.ownsRow w.heap.size 45 9 u5 ((l.take k).filter f).length (rwC usC ((l.take k).filter f))) := Lib.hid (own_fr HO.out (Fr.of_below hb3 []) (fun _ _ => by simp))
      have HY3 := Lib.hid hF.1
      clear hF hY hb3 q0 q1 q2 q3 q4 q5 q6 q7 q8 HO HB
      have y0 := HY3.out.cell (j := 0) rfl
      have y1 := HY3.out.cell (j := 1) rfl
      have y2 := HY3.out.cell (j := 2) rfl
      have y3 := HY3.out.cell (j := 3) rfl
      have y4 := HY3.out.cell (j := 4) rfl
      have y5 := HY3.out.cell (j := 5) rfl
      have y6 := HY3.out.cell (j := 6) rfl
      have y7 := HY3.out.cell (j := 7) rfl
      have y8 := HY3.out.cell (j := 8) rfl
      have HCU := Lib.hid (HCL.out u w3 HB3.out)
      obtain ⟨m, hm⟩ : ∃ m, m = ((l.take k).filter f).length := ⟨_, rfl⟩
      have HM : Hid (m ≤ 1000) := Lib.hid (by rw [hm]; have h1 := List.length_filter_le f (l.take k); rw [List.length_take] at h1; have := HL.out; omega)
      rw [← hm] at HO3
      have HMM := Lib.hid hm
      clear hm
      cases hfu : f u with
      | false =>
        rw [hfu] at HCU
        have HFF : Hid ((l.take (k + 1)).filter f = (l.take k).filter f) := Lib.hid (by rw [HTK.out, List.filter_append, List.filter_cons, hfu]; simp)
        clear hfu
        go_wp2_with (go_at_call 55; refine HCU.out.mono ?_; rintro r w4 ⟨rfl, hb⟩; have HB4 := Lib.hid (below_and HB3.out hb); have HO4 : Hid (w4.ownsRow w.heap.size 45 9 u5 m (rwC usC ((l.take k).filter f))) := Lib.hid (own_fr HO3.out (Fr.of_below hb []) (fun _ _ => by simp)); clear hb)
        go_roundw
        case rel => exact ⟨k + 1, by omega, by go_num, Lib.hid (by rw [HFF.out, ← HMM.out]; exact HO4.out), HB4⟩
        case measure => simp [intOf]; omega
      | true =>
        rw [hfu] at HCU
        have HFF : Hid ((l.take (k + 1)).filter f = (l.take k).filter f ++ [u]) := Lib.hid (by rw [HTK.out, List.filter_append, List.filter_cons, hfu]; simp)
        clear hfu
        go_upto_region 6 with (go_at_call 55; refine HCU.out.mono ?_; rintro r w4 ⟨rfl, hb⟩; have HB4 := Lib.hid (below_and HB3.out hb); have HO4 : Hid (w4.ownsRow w.heap.size 45 9 u5 m (rwC usC ((l.take k).filter f))) := Lib.hid (own_fr HO3.out (Fr.of_below hb []) (fun _ _ => by simp)); have HY4 := Lib.hid (HY3.out.kept hb); clear hb)
        clear y0 y1 y2 y3 y4 y5 y6 y7 y8
        have z0 := HY4.out.cell (j := 0) rfl
        have z1 := HY4.out.cell (j := 1) rfl
        have z2 := HY4.out.cell (j := 2) rfl
        have z3 := HY4.out.cell (j := 3) rfl
        have z4 := HY4.out.cell (j := 4) rfl
        have z5 := HY4.out.cell (j := 5) rfl
        have z6 := HY4.out.cell (j := 6) rfl
        have z7 := HY4.out.cell (j := 7) rfl
        have z8 := HY4.out.cell (j := 8) rfl
        have HS4 : Hid (w.heap.size ≤ w4.heap.size) := Lib.hid HB4.out.size
        go_wp2_with (at_builtin; refine wpList_app _ rfl _ _ 34 34 rfl w.heap.size 45 ix (.agg #[.string ⟨#[]⟩, .int .i64 0, .int .i64 0, .int .i64 0, .int .i64 0, .int .i64 0, .int .i64 0, .string ⟨#[]⟩, .bool false]) 9 88 Tryd.underlying34 hi hz0 hz1 hz2 rfl _ m (rwC usC ((l.take k).filter f)) rfl (HO4.out.alloc _) _ 1 (usC u) rfl (src_block Tryd.underlying34 _ _ (usC u).toArray (Blk.made w4 (usC u) _) rfl (usC_one u)) (by have := HM.out; unfold maxLen; omega) (by have := HM.out; omega) (by have := HS4.out; simp; omega) ?_; intro v6 w6 hown' hgrow hnil; have HO6 : Hid (w6.ownsRow w.heap.size 45 9 v6 ((l.take (k + 1)).filter f).length (rwC usC ((l.take (k + 1)).filter f))) := Lib.hid (by rw [HFF.out, rwC_snoc, List.length_append, ← HMM.out]; exact hown'); have HB6 := Lib.hid (below_grown (below_and HB4.out (below_alloc w4 _)) (by have := HS4.out; simp; omega) (HO4.out.alloc _) hgrow); clear hown' hgrow hnil)
        go_roundw
        case rel => exact ⟨k + 1, by omega, by go_num, HO6, HB6⟩
        case measure => simp [intOf]; omega
    · obtain rfl : k = n := by omega
      have HT : Hid (l.take k = l) := Lib.hid (by rw [HN.out, List.take_length])
      rw [HT.out] at HO
      go_wp2
      go_ret
      exact ⟨_, rfl, HO.out, HB.out⟩

set_option maxRecDepth 100000 in
set_option maxHeartbeats 2000000 in
theorem where_goers (v : Value) (l : List Us) (X Y : Nat) (N : Ne) (q : List UInt8) (w : World) (hv : Usw w v l) (h : w.cell? ⟨X, 0, none⟩ = some (.string (bs q))) (h2 : w.cell? ⟨Y, 1, none⟩ = some (.int .i64 N.d)) (hl : l.length ≤ 1000) :
    Calls Tryd.prog 17 #[v, .func (.func 25) #[] #[ptr X, ptr Y]] w fun r w' => ∃ v', r = .returned v' ∧ w'.ownsRow w.heap.size 45 9 v' (l.filter (goer N q)).length (rwC usC (l.filter (goer N q))) ∧ Below w.heap.size w w' := by
  obtain ⟨ix, hi, hz0, hz1, hz2⟩ := info_parts info_us
  have HCL : Hid (∀ u w', Below w.heap.size w w' → Calls Tryd.prog 25 #[usV u, ptr X, ptr Y] w' fun r w2 => r = .returned (.bool ((goer N q) u)) ∧ Below w'.heap.size w' w2) := Lib.hid (fun u w' hb => goers1_any u X Y N q w' (cell_kept h hb) (cell_kept h2 hb))
  have HV := Lib.hid hv
  obtain ⟨p, c, rfl⟩ := hv.slice
  obtain ⟨n, hn⟩ : ∃ n, n = l.length := ⟨_, rfl⟩
  have HN := Lib.hid hn
  have HL := Lib.hid hl
  rw [← hn]
  have hn63 : (n : Int) ≤ 1000 := by omega
  obtain ⟨f, hf⟩ : ∃ f : Us → Bool, f = (goer N q) := ⟨_, rfl⟩
  rw [← hf] at HCL ⊢
  clear hv hl hn hf h h2
  go_enter Tryd.func17, Tryd.ntmps17
  go_wp2
  go_loopw [5, 10] (fun o i wr => ∃ k : Nat, k ≤ n ∧ i = .int .i64 (k : Int) ∧ Hid (wr.ownsRow w.heap.size 45 9 o ((l.take k).filter f).length (rwC usC ((l.take k).filter f))) ∧ Hid (Below w.heap.size w wr)) (fun _ i _ => n - (intOf i).toNat)
  case atStart => exact ⟨0, Nat.zero_le _, rfl, Lib.hid (World.ownsRow_nil _ _ _ _), Lib.hid (Below.refl _ _)⟩
  case round =>
    obtain ⟨k, hk, rfl, HO, HB⟩ := hrel
    by_cases hlt : k < n
    · have HKN : Hid (k < l.length) := Lib.hid (by have := HN.out; omega)
      obtain ⟨u, hu⟩ : ∃ u, u = l[k]'HKN.out := ⟨_, rfl⟩
      have HLC := Lib.hid ((HV.out.below HB.out).at HKN.out)
      rw [← hu] at HLC
      have HTK : Hid (l.take (k + 1) = l.take k ++ [u]) := Lib.hid (by rw [hu]; exact List.take_succ_eq_append_getElem HKN.out)
      clear hu
      obtain ⟨b, o, rfl, hcell⟩ := HLC.out
      have q0 := hcell 0 _ rfl
      rw [Nat.add_zero] at q0
      have q1 := hcell 1 _ rfl
      have q2 := hcell 2 _ rfl
      have q3 := hcell 3 _ rfl
      have q4 := hcell 4 _ rfl
      have q5 := hcell 5 _ rfl
      have q6 := hcell 6 _ rfl
      have q7 := hcell 7 _ rfl
      have q8 := hcell 8 _ rfl
      clear hcell HLC
      go_upto_region 5 with fail
      obtain ⟨Y, hY⟩ : ∃ Y, Y = wr.heap.size := ⟨_, rfl⟩
      refine at_hide (F := fun w' => Blk w' Y (usC u) 45 ∧ Below wr.heap.size wr w') ⟨by rw [hY]; exact Blk.made wr (usC u) _, below_alloc _ _⟩ ?_
      rw [← hY]
      intro w3 hF
      have hb3 : Below wr.heap.size wr w3 := by have := hF.2; rw [hY] at this; exact this
      have HB3 : Hid (Below w.heap.size w w3) := Lib.hid (below_and HB.out hb3)
      have HO3 : Hid (w3.ownsRow w.heap.size 45 9 u5 ((l.take k).filter f).length (rwC usC ((l.take k).filter f))) := Lib.hid (own_fr HO.out (Fr.of_below hb3 []) (fun _ _ => by simp))
      have HY3 := Lib.hid hF.1
      clear hF hY hb3 q0 q1 q2 q3 q4 q5 q6 q7 q8 HO HB
      have y0 := HY3.out.cell (j := 0) rfl
      have y1 := HY3.out.cell (j := 1) rfl
      have y2 := HY3.out.cell (j := 2) rfl
      have y3 := HY3.out.cell (j := 3) rfl
      have y4 := HY3.out.cell (j := 4) rfl
      have y5 := HY3.out.cell (j := 5) rfl
      have y6 := HY3.out.cell (j := 6) rfl
      have y7 := HY3.out.cell (j := 7) rfl
      have y8 := HY3.out.cell (j := 8) rfl
      have HCU := Lib.hid (HCL.out u w3 HB3.out)
      obtain ⟨m, hm⟩ : ∃ m, m = ((l.take k).filter f).length := ⟨_, rfl⟩
      have HM : Hid (m ≤ 1000) := Lib.hid (by rw [hm]; have h1 := List.length_filter_le f (l.take k); rw [List.length_take] at h1; have := HL.out; omega)
      rw [← hm] at HO3
      have HMM := Lib.hid hm
      clear hm
      cases hfu : f u with
      | false =>
        rw [hfu] at HCU
        have HFF : Hid ((l.take (k + 1)).filter f = (l.take k).filter f) := Lib.hid (by rw [HTK.out, List.filter_append, List.filter_cons, hfu]; simp)
        clear hfu
        go_wp2_with (go_at_call 25; refine HCU.out.mono ?_; rintro r w4 ⟨rfl, hb⟩; have HB4 := Lib.hid (below_and HB3.out hb); have HO4 : Hid (w4.ownsRow w.heap.size 45 9 u5 m (rwC usC ((l.take k).filter f))) := Lib.hid (own_fr HO3.out (Fr.of_below hb []) (fun _ _ => by simp)); clear hb)
        go_roundw
        case rel => exact ⟨k + 1, by omega, by go_num, Lib.hid (by rw [HFF.out, ← HMM.out]; exact HO4.out), HB4⟩
        case measure => simp [intOf]; omega
      | true =>
        rw [hfu] at HCU
        have HFF : Hid ((l.take (k + 1)).filter f = (l.take k).filter f ++ [u]) := Lib.hid (by rw [HTK.out, List.filter_append, List.filter_cons, hfu]; simp)
        clear hfu
        go_upto_region 6 with (go_at_call 25; refine HCU.out.mono ?_; rintro r w4 ⟨rfl, hb⟩; have HB4 := Lib.hid (below_and HB3.out hb); have HO4 : Hid (w4.ownsRow w.heap.size 45 9 u5 m (rwC usC ((l.take k).filter f))) := Lib.hid (own_fr HO3.out (Fr.of_below hb []) (fun _ _ => by simp)); have HY4 := Lib.hid (HY3.out.kept hb); clear hb)
        clear y0 y1 y2 y3 y4 y5 y6 y7 y8
        have z0 := HY4.out.cell (j := 0) rfl
        have z1 := HY4.out.cell (j := 1) rfl
        have z2 := HY4.out.cell (j := 2) rfl
        have z3 := HY4.out.cell (j := 3) rfl
        have z4 := HY4.out.cell (j := 4) rfl
        have z5 := HY4.out.cell (j := 5) rfl
        have z6 := HY4.out.cell (j := 6) rfl
        have z7 := HY4.out.cell (j := 7) rfl
        have z8 := HY4.out.cell (j := 8) rfl
        have HS4 : Hid (w.heap.size ≤ w4.heap.size) := Lib.hid HB4.out.size
        go_wp2_with (at_builtin; refine wpList_app _ rfl _ _ 34 34 rfl w.heap.size 45 ix (.agg #[.string ⟨#[]⟩, .int .i64 0, .int .i64 0, .int .i64 0, .int .i64 0, .int .i64 0, .int .i64 0, .string ⟨#[]⟩, .bool false]) 9 88 Tryd.underlying34 hi hz0 hz1 hz2 rfl _ m (rwC usC ((l.take k).filter f)) rfl (HO4.out.alloc _) _ 1 (usC u) rfl (src_block Tryd.underlying34 _ _ (usC u).toArray (Blk.made w4 (usC u) _) rfl (usC_one u)) (by have := HM.out; unfold maxLen; omega) (by have := HM.out; omega) (by have := HS4.out; simp; omega) ?_; intro v6 w6 hown' hgrow hnil; have HO6 : Hid (w6.ownsRow w.heap.size 45 9 v6 ((l.take (k + 1)).filter f).length (rwC usC ((l.take (k + 1)).filter f))) := Lib.hid (by rw [HFF.out, rwC_snoc, List.length_append, ← HMM.out]; exact hown'); have HB6 := Lib.hid (below_grown (below_and HB4.out (below_alloc w4 _)) (by have := HS4.out; simp; omega) (HO4.out.alloc _) hgrow); clear hown' hgrow hnil)
        go_roundw
        case rel => exact ⟨k + 1, by omega, by go_num, HO6, HB6⟩
        case measure => simp [intOf]; omega
    · obtain rfl : k = n := by omega
      have HT : Hid (l.take k = l) := Lib.hid (by rw [HN.out, List.take_length])
      rw [HT.out] at HO
      go_wp2
      go_ret
      exact ⟨_, rfl, HO.out, HB.out⟩

set_option maxRecDepth 100000 in
set_option maxHeartbeats 2000000 in
theorem where_env (v : Value) (l : List Us) (X : Nat) (q : List UInt8) (w : World) (hv : Usw w v l) (h : w.cell? ⟨X, 7, none⟩ = some (.string (bs q))) (hl : l.length ≤ 1000) :
    Calls Tryd.prog 17 #[v, .func (.func 18) #[] #[ptr X]] w fun r w' => ∃ v', r = .returned v' ∧ w'.ownsRow w.heap.size 45 9 v' (l.filter (fEnv q)).length (rwC usC (l.filter (fEnv q))) ∧ Below w.heap.size w w' := by
  obtain ⟨ix, hi, hz0, hz1, hz2⟩ := info_parts info_us
  have HCL : Hid (∀ u w', Below w.heap.size w w' → Calls Tryd.prog 18 #[usV u, ptr X] w' fun r w2 => r = .returned (.bool ((fEnv q) u)) ∧ Below w'.heap.size w' w2) := Lib.hid (fun u w' hb => fit1_any u X q w' (cell_kept h hb))
  have HV := Lib.hid hv
  obtain ⟨p, c, rfl⟩ := hv.slice
  obtain ⟨n, hn⟩ : ∃ n, n = l.length := ⟨_, rfl⟩
  have HN := Lib.hid hn
  have HL := Lib.hid hl
  rw [← hn]
  have hn63 : (n : Int) ≤ 1000 := by omega
  obtain ⟨f, hf⟩ : ∃ f : Us → Bool, f = (fEnv q) := ⟨_, rfl⟩
  rw [← hf] at HCL ⊢
  clear hv hl hn hf h
  go_enter Tryd.func17, Tryd.ntmps17
  go_wp2
  go_loopw [5, 10] (fun o i wr => ∃ k : Nat, k ≤ n ∧ i = .int .i64 (k : Int) ∧ Hid (wr.ownsRow w.heap.size 45 9 o ((l.take k).filter f).length (rwC usC ((l.take k).filter f))) ∧ Hid (Below w.heap.size w wr)) (fun _ i _ => n - (intOf i).toNat)
  case atStart => exact ⟨0, Nat.zero_le _, rfl, Lib.hid (World.ownsRow_nil _ _ _ _), Lib.hid (Below.refl _ _)⟩
  case round =>
    obtain ⟨k, hk, rfl, HO, HB⟩ := hrel
    by_cases hlt : k < n
    · have HKN : Hid (k < l.length) := Lib.hid (by have := HN.out; omega)
      obtain ⟨u, hu⟩ : ∃ u, u = l[k]'HKN.out := ⟨_, rfl⟩
      have HLC := Lib.hid ((HV.out.below HB.out).at HKN.out)
      rw [← hu] at HLC
      have HTK : Hid (l.take (k + 1) = l.take k ++ [u]) := Lib.hid (by rw [hu]; exact List.take_succ_eq_append_getElem HKN.out)
      clear hu
      obtain ⟨b, o, rfl, hcell⟩ := HLC.out
      have q0 := hcell 0 _ rfl
      rw [Nat.add_zero] at q0
      have q1 := hcell 1 _ rfl
      have q2 := hcell 2 _ rfl
      have q3 := hcell 3 _ rfl
      have q4 := hcell 4 _ rfl
      have q5 := hcell 5 _ rfl
      have q6 := hcell 6 _ rfl
      have q7 := hcell 7 _ rfl
      have q8 := hcell 8 _ rfl
      clear hcell HLC
      go_upto_region 5 with fail
      obtain ⟨Y, hY⟩ : ∃ Y, Y = wr.heap.size := ⟨_, rfl⟩
      refine at_hide (F := fun w' => Blk w' Y (usC u) 45 ∧ Below wr.heap.size wr w') ⟨by rw [hY]; exact Blk.made wr (usC u) _, below_alloc _ _⟩ ?_
      rw [← hY]
      intro w3 hF
      have hb3 : Below wr.heap.size wr w3 := by have := hF.2; rw [hY] at this; exact this
      have HB3 : Hid (Below w.heap.size w w3) := Lib.hid (below_and HB.out hb3)
      have HO3 : Hid (w3.ownsRow w.heap.size 45 9 u5 ((l.take k).filter f).length (rwC usC ((l.take k).filter f))) := Lib.hid (own_fr HO.out (Fr.of_below hb3 []) (fun _ _ => by simp))
      have HY3 := Lib.hid hF.1
      clear hF hY hb3 q0 q1 q2 q3 q4 q5 q6 q7 q8 HO HB
      have y0 := HY3.out.cell (j := 0) rfl
      have y1 := HY3.out.cell (j := 1) rfl
      have y2 := HY3.out.cell (j := 2) rfl
      have y3 := HY3.out.cell (j := 3) rfl
      have y4 := HY3.out.cell (j := 4) rfl
      have y5 := HY3.out.cell (j := 5) rfl
      have y6 := HY3.out.cell (j := 6) rfl
      have y7 := HY3.out.cell (j := 7) rfl
      have y8 := HY3.out.cell (j := 8) rfl
      have HCU := Lib.hid (HCL.out u w3 HB3.out)
      obtain ⟨m, hm⟩ : ∃ m, m = ((l.take k).filter f).length := ⟨_, rfl⟩
      have HM : Hid (m ≤ 1000) := Lib.hid (by rw [hm]; have h1 := List.length_filter_le f (l.take k); rw [List.length_take] at h1; have := HL.out; omega)
      rw [← hm] at HO3
      have HMM := Lib.hid hm
      clear hm
      cases hfu : f u with
      | false =>
        rw [hfu] at HCU
        have HFF : Hid ((l.take (k + 1)).filter f = (l.take k).filter f) := Lib.hid (by rw [HTK.out, List.filter_append, List.filter_cons, hfu]; simp)
        clear hfu
        go_wp2_with (go_at_call 18; refine HCU.out.mono ?_; rintro r w4 ⟨rfl, hb⟩; have HB4 := Lib.hid (below_and HB3.out hb); have HO4 : Hid (w4.ownsRow w.heap.size 45 9 u5 m (rwC usC ((l.take k).filter f))) := Lib.hid (own_fr HO3.out (Fr.of_below hb []) (fun _ _ => by simp)); clear hb)
        go_roundw
        case rel => exact ⟨k + 1, by omega, by go_num, Lib.hid (by rw [HFF.out, ← HMM.out]; exact HO4.out), HB4⟩
        case measure => simp [intOf]; omega
      | true =>
        rw [hfu] at HCU
        have HFF : Hid ((l.take (k + 1)).filter f = (l.take k).filter f ++ [u]) := Lib.hid (by rw [HTK.out, List.filter_append, List.filter_cons, hfu]; simp)
        clear hfu
        go_upto_region 6 with (go_at_call 18; refine HCU.out.mono ?_; rintro r w4 ⟨rfl, hb⟩; have HB4 := Lib.hid (below_and HB3.out hb); have HO4 : Hid (w4.ownsRow w.heap.size 45 9 u5 m (rwC usC ((l.take k).filter f))) := Lib.hid (own_fr HO3.out (Fr.of_below hb []) (fun _ _ => by simp)); have HY4 := Lib.hid (HY3.out.kept hb); clear hb)
        clear y0 y1 y2 y3 y4 y5 y6 y7 y8
        have z0 := HY4.out.cell (j := 0) rfl
        have z1 := HY4.out.cell (j := 1) rfl
        have z2 := HY4.out.cell (j := 2) rfl
        have z3 := HY4.out.cell (j := 3) rfl
        have z4 := HY4.out.cell (j := 4) rfl
        have z5 := HY4.out.cell (j := 5) rfl
        have z6 := HY4.out.cell (j := 6) rfl
        have z7 := HY4.out.cell (j := 7) rfl
        have z8 := HY4.out.cell (j := 8) rfl
        have HS4 : Hid (w.heap.size ≤ w4.heap.size) := Lib.hid HB4.out.size
        go_wp2_with (at_builtin; refine wpList_app _ rfl _ _ 34 34 rfl w.heap.size 45 ix (.agg #[.string ⟨#[]⟩, .int .i64 0, .int .i64 0, .int .i64 0, .int .i64 0, .int .i64 0, .int .i64 0, .string ⟨#[]⟩, .bool false]) 9 88 Tryd.underlying34 hi hz0 hz1 hz2 rfl _ m (rwC usC ((l.take k).filter f)) rfl (HO4.out.alloc _) _ 1 (usC u) rfl (src_block Tryd.underlying34 _ _ (usC u).toArray (Blk.made w4 (usC u) _) rfl (usC_one u)) (by have := HM.out; unfold maxLen; omega) (by have := HM.out; omega) (by have := HS4.out; simp; omega) ?_; intro v6 w6 hown' hgrow hnil; have HO6 : Hid (w6.ownsRow w.heap.size 45 9 v6 ((l.take (k + 1)).filter f).length (rwC usC ((l.take (k + 1)).filter f))) := Lib.hid (by rw [HFF.out, rwC_snoc, List.length_append, ← HMM.out]; exact hown'); have HB6 := Lib.hid (below_grown (below_and HB4.out (below_alloc w4 _)) (by have := HS4.out; simp; omega) (HO4.out.alloc _) hgrow); clear hown' hgrow hnil)
        go_roundw
        case rel => exact ⟨k + 1, by omega, by go_num, HO6, HB6⟩
        case measure => simp [intOf]; omega
    · obtain rfl : k = n := by omega
      have HT : Hid (l.take k = l) := Lib.hid (by rw [HN.out, List.take_length])
      rw [HT.out] at HO
      go_wp2
      go_ret
      exact ⟨_, rfl, HO.out, HB.out⟩
end Go.Proofs.YtaipldegobjboaaDoor.Ft
