/- MsName. -/
import Derived.Test.YtopkfomlppnpeaaGreatDoorLib2
import Derived.Test.YtopkfomlppnpeaaGreatDoorPast
import Derived.Test.YtopkfomlppnpeaaGreatDoorShelf
import Derived.Lib.ConvBytes
import Derived.Lib.ItoaLen
import Derived.Deep.QuietTactic
import Derived.BigQuiet
import Derived.Outline
import Derived.Deep.DeepCutAuto
namespace Go.Proofs.YtopkfomlppnpeaaGreatDoor.Ms
open Go.RowKit Go.Proofs.YtopkfomlppnpeaaGreatDoor

def bs (l : List UInt8) : ByteArray := ⟨l.toArray⟩
def lo (c : UInt8) : Bool := 97 ≤ c.toNat && c.toNat ≤ 122
def dgt (c : UInt8) : Bool := 48 ≤ c.toNat && c.toNat ≤ 57
def nmc (c : UInt8) : Bool := lo c || dgt c || c.toNat == 45
def hd (p : UInt8 → Bool) : List UInt8 → Bool
  | [] => false
  | c :: _ => p c
theorem all_no {p : UInt8 → Bool} {l : List UInt8} {k : Nat} (hk : k < l.length) (h : p l[k] = false) : l.all p = false := by
  rw [← Bool.not_eq_true, List.all_eq_true]
  intro hh
  have := hh _ (List.getElem_mem hk)
  rw [h] at this; cases this
/-- '[]byte(s)': where it lies -/
theorem ruconv (s : ByteArray) (w : World) : ∃ wq cap, (convert 9 23 (.string s)).run Tryz.prog w = .ok (.slice (some ⟨w.heap.size, 0, none⟩) s.size cap) wq ∧ Below w.heap.size w wq ∧ ∀ j, j < s.size → wq.cell? ⟨w.heap.size, j, none⟩ = some (.int .u8 (s.data.toList.getD j 0).toNat) :=
  ⟨_, _, Lib.run_convert_string_bytes w 9 23 5 s Tryz.underlying9 Tryz.underlying23 Tryz.underlying5,
    ⟨rfl, rfl, rfl, by rw [Lib.bytesWorld_size]; omega, fun j hj => Lib.bytesWorld_at_old w _ s j hj⟩, fun j hj => Lib.bytesWorld_cell w _ s j hj⟩
def specB (l : List UInt8) : Bool := decide (1 ≤ l.length ∧ l.length ≤ 16) && hd lo l && l.all nmc
def taskO (j : List UInt8) (i : Int) : Option (List UInt8) := if specB j = true ∧ 0 ≤ i ∧ i < 64 then some (j ++ 46 :: Lib.itoa i) else none
set_option maxRecDepth 100000 in
set_option maxHeartbeats 1000000 in
theorem spec_any (s : ByteArray) (w : World) :
    Calls Tryz.prog 148 #[.string s] w fun e w' => e = .returned (.bool (specB s.data.toList)) ∧ Below w.heap.size w w' := by
  obtain ⟨wq, cap, hcv, hbl, hcell⟩ := ruconv s w
  obtain ⟨l, hl⟩ : ∃ l, l = s.data.toList := ⟨_, rfl⟩
  have hsz : s.size = l.length := by rw [hl]; simp
  rw [← hl]
  by_cases h0 : s.size < 1
  · have HR : Hid (specB l = false) := Lib.hid (by unfold specB; rw [decide_eq_false (by omega)]; rfl)
    have e0 : decide ((s.size : Int) < 1) = true := by simp; omega
    clear hcv hbl hcell hl hsz
    go_enter Tryz.func148, Tryz.ntmps148
    go_wp2
    go_ret
    exact ⟨ret_bool HR.out.symm, Below.refl _ _⟩
  have e0 : decide ((s.size : Int) < 1) = false := by simp; omega
  by_cases h1 : 16 < s.size
  · have HR : Hid (specB l = false) := Lib.hid (by unfold specB; rw [decide_eq_false (by omega)]; rfl)
    have e1 : decide ((16 : Int) < (s.size : Int)) = true := by simp; omega
    clear hcv hbl hcell hl hsz
    go_enter Tryz.func148, Tryz.ntmps148
    go_wp2
    go_ret
    exact ⟨ret_bool HR.out.symm, Below.refl _ _⟩
  have e1 : decide ((16 : Int) < (s.size : Int)) = false := by simp; omega
  have hl1 : l.length ≤ 16 := by omega
  have i0 : 0 < s.size := by omega
  obtain ⟨c0, hc0⟩ : ∃ c0, c0 = s[0] := ⟨_, rfl⟩
  have HC0 : Hid (hd lo l = lo c0) := Lib.hid (by
    subst hl
    rw [hc0]
    cases hq : s.data.toList with
    | nil =>
      have g1 : s.data.toList.length = 0 := by rw [hq]; rfl
      have g2 : s.data.toList.length = s.size := by simp
      omega
    | cons c r =>
      have : s[0] = c := by
        have h2 : s.data.toList[0]'(by simpa using i0) = s[0] := rfl
        rw [← h2]; simp [hq]
      rw [this]; rfl)
  have hcc : s[0] = c0 := hc0.symm
  clear hc0
  by_cases h2 : c0.toNat < 97
  · have HR : Hid (specB l = false) := Lib.hid (by unfold specB; rw [HC0.out, show lo c0 = false from by unfold lo; simp; omega]; simp)
    have e2 : decide ((c0.toNat : Int) < 97) = true := by simp; omega
    clear hcv hbl hcell hl hsz h0 h1
    go_enter Tryz.func148, Tryz.ntmps148
    go_wp2
    go_ret
    exact ⟨ret_bool HR.out.symm, Below.refl _ _⟩
  have e2 : decide ((c0.toNat : Int) < 97) = false := by simp; omega
  by_cases h3 : 122 < c0.toNat
  · have HR : Hid (specB l = false) := Lib.hid (by unfold specB; rw [HC0.out, show lo c0 = false from by unfold lo; simp; omega]; simp)
    have e3 : decide ((122 : Int) < (c0.toNat : Int)) = true := by simp; omega
    clear hcv hbl hcell hl hsz h0 h1
    go_enter Tryz.func148, Tryz.ntmps148
    go_wp2
    go_ret
    exact ⟨ret_bool HR.out.symm, Below.refl _ _⟩
  have e3 : decide ((122 : Int) < (c0.toNat : Int)) = false := by simp; omega
  have HH : Hid (specB l = l.all nmc) := Lib.hid (by unfold specB; rw [HC0.out, show lo c0 = true from by unfold lo; simp; omega, decide_eq_true (by omega)]; rfl)
  clear h2 h3
  have HB := Lib.hid hbl
  have HC : Hid (∀ j (h : j < l.length), wq.cell? ⟨w.heap.size, j, none⟩ = some (.int .u8 (l[j].toNat : Int))) := Lib.hid (fun j hj => by
    rw [hcell j (by omega), ← hl]
    simp [List.getD, hj])
  have HSZ := Lib.hid hsz
  have HL0 : Hid (0 < l.length) := Lib.hid (by omega)
  clear hbl hcell hl hsz h0 h1
  go_enter Tryz.func148, Tryz.ntmps148
  go_wp2
  go_loopw [26] (fun i wr => ∃ k : Nat, k ≤ l.length ∧ i = .int .i64 (k : Int) ∧ Hid ((l.take k).all nmc = true) ∧ Hid (Below wq.heap.size wq wr)) (fun i _ => l.length - (intOf i).toNat)
  case atStart => exact ⟨0, Nat.zero_le _, rfl, by simp [Hid], Lib.hid (Below.refl _ _)⟩
  case round =>
    obtain ⟨k, hk, rfl, HD, HBR⟩ := hrel
    have HBZ : Hid (w.heap.size < wq.heap.size) := Lib.hid (by
      have h := HB.out.size
      rcases Nat.lt_or_ge w.heap.size wq.heap.size with h' | h'
      · exact h'
      · exfalso
        have hc := HC.out 0 HL0.out
        unfold World.cell? at hc
        rw [Array.getElem?_eq_none (by omega)] at hc
        cases hc)
    by_cases hlt : k < l.length
    · have hc : wr.cell? ⟨w.heap.size, k, none⟩ = some (.int .u8 (l[k].toNat : Int)) := by rw [HBR.out.cell HBZ.out]; exact HC.out k hlt
      have i1 : (k : Int) < (s.size : Int) := by have := HSZ.out; omega
      have i2 : (0 : Int) ≤ (k : Int) := by omega
      obtain ⟨c, hcq⟩ : ∃ c, c = l[k] := ⟨_, rfl⟩
      rw [← hcq] at hc
      have HCC := Lib.hid hcq
      clear hcq
      have cb := c.toNat_lt
      have HNM : Hid (nmc c = (lo c || dgt c || c.toNat == 45)) := Lib.hid rfl
      by_cases h97 : c.toNat < 97
      · have d1 : decide ((c.toNat : Int) < 97) = true := by simp; omega
        have HLO : Hid (lo c = false) := Lib.hid (by unfold lo; simp; omega)
        clear h97
        by_cases h48 : c.toNat < 48
        · have d3 : decide ((c.toNat : Int) < 48) = true := by simp; omega
          have HDG : Hid (dgt c = false) := Lib.hid (by unfold dgt; simp; omega)
          by_cases h45 : c.toNat = 45
          · have d5 : ((c.toNat : Int) != 45) = false := by simp; omega
            have HN0 : Hid (nmc c = true) := Lib.hid (by rw [HNM.out, h45]; simp)
            clear h45 h48
            have HN : Hid (nmc c = true) := Lib.hid (HN0.out)
            go_wp2
            go_roundw
            case rel => exact ⟨k + 1, hlt, rfl, Lib.hid (by rw [List.take_succ_eq_append_getElem hlt, List.all_append, HD.out, ← HCC.out]; simp [HN.out]), HBR⟩
            case measure => simp [intOf]; omega
          · have d5 : ((c.toNat : Int) != 45) = true := by simp; omega
            have HR : Hid (specB l = false) := Lib.hid (by rw [HH.out]; exact all_no hlt (by rw [← HCC.out, HNM.out, HLO.out, HDG.out]; simp [h45]))
            clear h45 h48
            go_wp2
            go_ret
            exact ⟨ret_bool HR.out.symm, HB.out.trans (HBR.out.mono (Nat.le_of_lt HBZ.out))⟩
        · have d3 : decide ((c.toNat : Int) < 48) = false := by simp; omega
          by_cases h57 : 57 < c.toNat
          · have d4 : decide ((57 : Int) < (c.toNat : Int)) = true := by simp; omega
            have d5 : ((c.toNat : Int) != 45) = true := by simp; omega
            have HDG : Hid (dgt c = false) := Lib.hid (by unfold dgt; simp; omega)
            have HR : Hid (specB l = false) := Lib.hid (by rw [HH.out]; exact all_no hlt (by rw [← HCC.out, HNM.out, HLO.out, HDG.out]; simp; omega))
            clear h48 h57
            go_wp2
            go_ret
            exact ⟨ret_bool HR.out.symm, HB.out.trans (HBR.out.mono (Nat.le_of_lt HBZ.out))⟩
          · have d4 : decide ((57 : Int) < (c.toNat : Int)) = false := by simp; omega
            have HN0 : Hid (nmc c = true) := Lib.hid (by rw [HNM.out, show dgt c = true from by unfold dgt; simp; omega]; simp)
            clear h48 h57
            have HN : Hid (nmc c = true) := Lib.hid (HN0.out)
            go_wp2
            go_roundw
            case rel => exact ⟨k + 1, hlt, rfl, Lib.hid (by rw [List.take_succ_eq_append_getElem hlt, List.all_append, HD.out, ← HCC.out]; simp [HN.out]), HBR⟩
            case measure => simp [intOf]; omega
      · have d1 : decide ((c.toNat : Int) < 97) = false := by simp; omega
        by_cases h122 : 122 < c.toNat
        · have d2 : decide ((122 : Int) < (c.toNat : Int)) = true := by simp; omega
          have HLO : Hid (lo c = false) := Lib.hid (by unfold lo; simp; omega)
          clear h97 h122
          by_cases h48 : c.toNat < 48
          · have d3 : decide ((c.toNat : Int) < 48) = true := by simp; omega
            have HDG : Hid (dgt c = false) := Lib.hid (by unfold dgt; simp; omega)
            by_cases h45 : c.toNat = 45
            · have d5 : ((c.toNat : Int) != 45) = false := by simp; omega
              have HN0 : Hid (nmc c = true) := Lib.hid (by rw [HNM.out, h45]; simp)
              clear h45 h48
              have HN : Hid (nmc c = true) := Lib.hid (HN0.out)
              go_wp2
              go_roundw
              case rel => exact ⟨k + 1, hlt, rfl, Lib.hid (by rw [List.take_succ_eq_append_getElem hlt, List.all_append, HD.out, ← HCC.out]; simp [HN.out]), HBR⟩
              case measure => simp [intOf]; omega
            · have d5 : ((c.toNat : Int) != 45) = true := by simp; omega
              have HR : Hid (specB l = false) := Lib.hid (by rw [HH.out]; exact all_no hlt (by rw [← HCC.out, HNM.out, HLO.out, HDG.out]; simp [h45]))
              clear h45 h48
              go_wp2
              go_ret
              exact ⟨ret_bool HR.out.symm, HB.out.trans (HBR.out.mono (Nat.le_of_lt HBZ.out))⟩
          · have d3 : decide ((c.toNat : Int) < 48) = false := by simp; omega
            by_cases h57 : 57 < c.toNat
            · have d4 : decide ((57 : Int) < (c.toNat : Int)) = true := by simp; omega
              have d5 : ((c.toNat : Int) != 45) = true := by simp; omega
              have HDG : Hid (dgt c = false) := Lib.hid (by unfold dgt; simp; omega)
              have HR : Hid (specB l = false) := Lib.hid (by rw [HH.out]; exact all_no hlt (by rw [← HCC.out, HNM.out, HLO.out, HDG.out]; simp; omega))
              clear h48 h57
              go_wp2
              go_ret
              exact ⟨ret_bool HR.out.symm, HB.out.trans (HBR.out.mono (Nat.le_of_lt HBZ.out))⟩
            · have d4 : decide ((57 : Int) < (c.toNat : Int)) = false := by simp; omega
              have HN0 : Hid (nmc c = true) := Lib.hid (by rw [HNM.out, show dgt c = true from by unfold dgt; simp; omega]; simp)
              clear h48 h57
              have HN : Hid (nmc c = true) := Lib.hid (HN0.out)
              go_wp2
              go_roundw
              case rel => exact ⟨k + 1, hlt, rfl, Lib.hid (by rw [List.take_succ_eq_append_getElem hlt, List.all_append, HD.out, ← HCC.out]; simp [HN.out]), HBR⟩
              case measure => simp [intOf]; omega
        · have d2 : decide ((122 : Int) < (c.toNat : Int)) = false := by simp; omega
          have HN : Hid (nmc c = true) := Lib.hid (by rw [HNM.out, show lo c = true from by unfold lo; simp; omega]; simp)
          clear h97 h122
          go_wp2
          go_roundw
          case rel => exact ⟨k + 1, hlt, rfl, Lib.hid (by rw [List.take_succ_eq_append_getElem hlt, List.all_append, HD.out, ← HCC.out]; simp [HN.out]), HBR⟩
          case measure => simp [intOf]; omega
    · have i1 : ¬ (k : Int) < (s.size : Int) := by have := HSZ.out; omega
      have HR : Hid (specB l = true) := Lib.hid (by rw [HH.out]; have := HD.out; rwa [List.take_of_length_le (by omega)] at this)
      clear hlt
      go_wp2
      go_ret
      exact ⟨ret_bool HR.out.symm, HB.out.trans (HBR.out.mono (Nat.le_of_lt HBZ.out))⟩
theorem bs_app (a b : List UInt8) : bs a ++ bs b = bs (a ++ b) := by
  apply ByteArray.ext
  simp [bs, ByteArray.data_append]
theorem bs_size (l : List UInt8) : (bs l).size = l.length := by show l.toArray.size = _; simp
theorem add_bs (a b : List UInt8) (h : a.length + b.length ≤ 9223372036854775807) (w : World) : (Op.stringOp .add (bs a) (bs b)).run Tryz.prog w = .ok (.string (bs (a ++ b))) w := by
  have := run_string_add_sum (P := Tryz.prog) w (bs a) (bs b) (by rw [bs_size, bs_size]; omega)
  rw [bs_app] at this
  exact this
def taskE (j : List UInt8) (i : Int) : Int := if (taskO j i).isSome = true then 0 else 2
set_option maxRecDepth 100000 in
set_option maxHeartbeats 1000000 in
theorem task_any (j : List UInt8) (i : Int) (w : World) (hj : j.length ≤ 1000000000000000) :
    Calls Tryz.prog 122 #[.agg #[.string (bs j), .int .i64 i]] w fun r w' => r = .returned (.tuple #[.string (bs ((taskO j i).getD [])), .int .i64 (taskE j i)]) ∧ Below w.heap.size w w' := by
  obtain ⟨B, hB⟩ : ∃ B, B = w.heap.size := ⟨_, rfl⟩
  obtain ⟨w1, hw1⟩ : ∃ w1, w1 = w.alloc (.cells #[.string (bs j), .int .i64 i] 35) := ⟨_, rfl⟩
  have HB1 : Hid (Below w.heap.size w w1) := Lib.hid (by rw [hw1]; exact below_alloc _ _)
  have HX1 : Hid (Blk w1 B [.string (bs j), .int .i64 i] 35) := Lib.hid (by rw [hw1, hB]; exact Blk.made w [_, _] _)
  have HSP : Hid (Calls Tryz.prog 148 #[.string (bs j)] w1 fun e w' => e = .returned (.bool (specB j)) ∧ Below w1.heap.size w1 w') := Lib.hid (by
    have := spec_any (bs j) w1
    rw [show (bs j).data.toList = j from by simp [bs]] at this
    exact this)
  have b0 := HX1.out.cell (j := 0) rfl
  have HJ := Lib.hid hj
  clear hj
  cases hs : specB j with
  | false =>
    have HR : Hid (bs ((taskO j i).getD []) = ⟨#[]⟩ ∧ taskE j i = 2) := Lib.hid (by unfold taskE taskO; rw [hs]; exact ⟨rfl, rfl⟩)
    rw [hs] at HSP
    clear hs
    go_enter Tryz.func122, Tryz.ntmps122
    go_upto_region 1 with fail
    rw [← hw1, ← hB]
    clear hw1 hB
    go_wp2_with (go_at_call 148; refine HSP.out.mono ?_; rintro r w2 ⟨rfl, hb⟩; have HB2 := Lib.hid (below_and HB1.out hb); clear hb)
    go_ret2
    exact ⟨by rw [HR.out.1, HR.out.2]; rfl, HB2.out⟩
  | true =>
    rw [hs] at HSP
    by_cases hi : 0 ≤ i ∧ i < 64
    · obtain ⟨q, rfl⟩ : ∃ q : Nat, i = (q : Int) := ⟨i.toNat, by omega⟩
      have HQ : Hid (q < 64) := Lib.hid (by omega)
      have HT : Hid (taskO j (q : Int) = some (j ++ 46 :: Lib.itoa (q : Int))) := Lib.hid (by unfold taskO; rw [if_pos ⟨hs, hi.1, hi.2⟩])
      have HIT : Hid (∀ wx, Calls Tryz.prog 149 #[.int .i64 (q : Int)] wx fun e w' => e = .returned (.string (bs (Lib.itoa (q : Int)))) ∧ wx = w') := Lib.hid (fun wx => (Tryz.strconv_Itoa_small q (by have := HQ.out; omega) wx).mono fun e w' h => ⟨by rw [h.1, Lib.itoa_nonneg]; rfl, h.2.symm⟩)
      have HIL : Hid ((Lib.itoa (q : Int)).length ≤ 21) := Lib.hid (Lib.itoa_length_le _ (by omega) (by omega))
      obtain ⟨u, hu⟩ : ∃ u, u = Lib.itoa (q : Int) := ⟨_, rfl⟩
      rw [← hu] at HT HIT HIL
      have HR : Hid (bs ((taskO j (q : Int)).getD []) = bs (j ++ 46 :: u) ∧ taskE j (q : Int) = 0) := Lib.hid (by unfold taskE; rw [HT.out]; exact ⟨by simp, rfl⟩)
      have hadd1 : ∀ w, (Op.stringOp .add (bs j) ⟨#[46]⟩).run Tryz.prog w = .ok (.string (bs (j ++ [46]))) w := fun w => add_bs j [46] (by have := HJ.out; simp; omega) w
      have hadd2 : ∀ w, (Op.stringOp .add (bs (j ++ [46])) (bs u)).run Tryz.prog w = .ok (.string (bs (j ++ 46 :: u))) w := fun w => by have := add_bs (j ++ [46]) u (by have := HJ.out; have := HIL.out; simp; omega) w; rw [show j ++ [46] ++ u = j ++ 46 :: u from by simp] at this; exact this
      have t1 : decide ((q : Int) < 0) = false := by simp
      have t2 : decide ((64 : Int) ≤ (q : Int)) = false := by simp; omega
      clear hs hu hi
      go_enter Tryz.func122, Tryz.ntmps122
      go_upto_region 1 with fail
      rw [← hw1, ← hB]
      clear hw1 hB
      go_upto_region 3 with (go_at_call 148; refine HSP.out.mono ?_; rintro r w2 ⟨rfl, hb⟩; have HB2 := Lib.hid (below_and HB1.out hb); have HX2 := Lib.hid (HX1.out.kept hb); have b1 := (HX1.out.kept hb).cell (j := 1) rfl; clear hb b0)
      have p0 : ∀ s : Past w2, s.val.cell? ⟨B, 0, none⟩ = some (.string (bs j)) := Past.blk HX2.out (j := 0) rfl
      have p1 : ∀ s : Past w2, s.val.cell? ⟨B, 1, none⟩ = some (.int .i64 (q : Int)) := Past.blk HX2.out (j := 1) rfl
      refine wp_region_past (by kernel_rfl) (by kernel_rfl) ?_
      repeat (go_big_quiet_step ((go_at_call 149; exact past_call_same (HIT.out _))))
      refine wpQuiet_nil ?_
      intro _ hw'
      obtain ⟨s9, hw''⟩ := hw'
      subst hw''
      go_wp2
      go_ret2
      exact ⟨by rw [HR.out.1, HR.out.2]; rfl, below_and HB2.out s9.h⟩
    · have HR : Hid (bs ((taskO j i).getD []) = ⟨#[]⟩ ∧ taskE j i = 2) := Lib.hid (by unfold taskE taskO; rw [if_neg (fun h => hi h.2)]; exact ⟨rfl, rfl⟩)
      clear hs
      by_cases h0 : i < 0
      · have t1 : decide (i < 0) = true := decide_eq_true h0
        clear hi h0
        go_enter Tryz.func122, Tryz.ntmps122
        go_upto_region 1 with fail
        rw [← hw1, ← hB]
        clear hw1 hB
        go_wp2_with (go_at_call 148; refine HSP.out.mono ?_; rintro r w2 ⟨rfl, hb⟩; have HB2 := Lib.hid (below_and HB1.out hb); have b1 := (HX1.out.kept hb).cell (j := 1) rfl; clear hb)
        go_ret2
        exact ⟨by rw [HR.out.1, HR.out.2]; rfl, HB2.out⟩
      · have t1 : decide (i < 0) = false := decide_eq_false h0
        have t2 : decide (64 ≤ i) = true := decide_eq_true (by omega)
        clear hi h0
        go_enter Tryz.func122, Tryz.ntmps122
        go_upto_region 1 with fail
        rw [← hw1, ← hB]
        clear hw1 hB
        go_wp2_with (go_at_call 148; refine HSP.out.mono ?_; rintro r w2 ⟨rfl, hb⟩; have HB2 := Lib.hid (below_and HB1.out hb); have b1 := (HX1.out.kept hb).cell (j := 1) rfl; clear hb)
        go_ret2
        exact ⟨by rw [HR.out.1, HR.out.2]; rfl, HB2.out⟩
end Go.Proofs.YtopkfomlppnpeaaGreatDoor.Ms
