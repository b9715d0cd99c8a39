/- , laid together: MsName, MsTask, MsTask2. -/
import Derived.Test.YtopkfomlppnpeaaGreatDoorLib2
import Derived.Test.YtopkfomlppnpeaaGreatDoorPast
import Derived.Test.YtopkfomlppnpeaaGreatDoorShelf
import Derived.Lib.ConvBytes
import Derived.Lib.ItoaLen
import Derived.Deep.QuietTactic
import Derived.BigQuiet
import Derived.Outline
import Derived.Deep.DeepCutAuto
import Derived.Lib.AtoiAll
import Derived.Shelf.Strconv.ErrVarAll
import Derived.Test.YtopkfomlppnpeaaGreatDoorMSep
import Derived.Test.YtopkfomlppnpeaaGreatDoorAmt
namespace Go.Proofs.YtopkfomlppnpeaaGreatDoor.Ms
open Go.RowKit Go.Proofs.YtopkfomlppnpeaaGreatDoor

def bs (l : List UInt8) : ByteArray := ⟨l.toArray⟩
def lo (c : UInt8) : Bool := 97 ≤ c.toNat && c.toNat ≤ 122
def dgt (c : UInt8) : Bool := 48 ≤ c.toNat && c.toNat ≤ 57
def nmc (c : UInt8) : Bool := lo c || dgt c || c.toNat == 45
def hd (p : UInt8 → Bool) : List UInt8 → Bool
  | [] => false
  | c :: _ => p c
theorem all_no {p : UInt8 → Bool} {l : List UInt8} {k : Nat} (hk : k < l.length) (h : p l[k] = false) : l.all p = false := by
  rw [← Bool.not_eq_true, List.all_eq_true]
  intro hh
  have := hh _ (List.getElem_mem hk)
  rw [h] at this; cases this
/-- '[]byte(s)': where it lies -/
theorem ruconv (s : ByteArray) (w : World) : ∃ wq cap, (convert 9 23 (.string s)).run Tryz.prog w = .ok (.slice (some ⟨w.heap.size, 0, none⟩) s.size cap) wq ∧ Below w.heap.size w wq ∧ ∀ j, j < s.size → wq.cell? ⟨w.heap.size, j, none⟩ = some (.int .u8 (s.data.toList.getD j 0).toNat) :=
  ⟨_, _, Lib.run_convert_string_bytes w 9 23 5 s Tryz.underlying9 Tryz.underlying23 Tryz.underlying5,
    ⟨rfl, rfl, rfl, by rw [Lib.bytesWorld_size]; omega, fun j hj => Lib.bytesWorld_at_old w _ s j hj⟩, fun j hj => Lib.bytesWorld_cell w _ s j hj⟩
def specB (l : List UInt8) : Bool := decide (1 ≤ l.length ∧ l.length ≤ 16) && hd lo l && l.all nmc
def taskO (j : List UInt8) (i : Int) : Option (List UInt8) := if specB j = true ∧ 0 ≤ i ∧ i < 64 then some (j ++ 46 :: Lib.itoa i) else none
set_option maxRecDepth 100000 in
set_option maxHeartbeats 1000000 in
theorem spec_any (s : ByteArray) (w : World) :
    Calls Tryz.prog 148 #[.string s] w fun e w' => e = .returned (.bool (specB s.data.toList)) ∧ Below w.heap.size w w' := by
  obtain ⟨wq, cap, hcv, hbl, hcell⟩ := ruconv s w
  obtain ⟨l, hl⟩ : ∃ l, l = s.data.toList := ⟨_, rfl⟩
  have hsz : s.size = l.length := by rw [hl]; simp
  rw [← hl]
  by_cases h0 : s.size < 1
  · have HR : Hid (specB l = false) := Lib.hid (by unfold specB; rw [decide_eq_false (by omega)]; rfl)
    have e0 : decide ((s.size : Int) < 1) = true := by simp; omega
    clear hcv hbl hcell hl hsz
    go_enter Tryz.func148, Tryz.ntmps148
    go_wp2
    go_ret
    exact ⟨ret_bool HR.out.symm, Below.refl _ _⟩
  have e0 : decide ((s.size : Int) < 1) = false := by simp; omega
  by_cases h1 : 16 < s.size
  · have HR : Hid (specB l = false) := Lib.hid (by unfold specB; rw [decide_eq_false (by omega)]; rfl)
    have e1 : decide ((16 : Int) < (s.size : Int)) = true := by simp; omega
    clear hcv hbl hcell hl hsz
    go_enter Tryz.func148, Tryz.ntmps148
    go_wp2
    go_ret
    exact ⟨ret_bool HR.out.symm, Below.refl _ _⟩
  have e1 : decide ((16 : Int) < (s.size : Int)) = false := by simp; omega
  have hl1 : l.length ≤ 16 := by omega
  have i0 : 0 < s.size := by omega
  obtain ⟨c0, hc0⟩ : ∃ c0, c0 = s[0] := ⟨_, rfl⟩
  have HC0 : Hid (hd lo l = lo c0) := Lib.hid (by
    subst hl
    rw [hc0]
    cases hq : s.data.toList with
    | nil =>
      have g1 : s.data.toList.length = 0 := by rw [hq]; rfl
      have g2 : s.data.toList.length = s.size := by simp
      omega
    | cons c r =>
      have : s[0] = c := by
        have h2 : s.data.toList[0]'(by simpa using i0) = s[0] := rfl
        rw [← h2]; simp [hq]
      rw [this]; rfl)
  have hcc : s[0] = c0 := hc0.symm
  clear hc0
  by_cases h2 : c0.toNat < 97
  · have HR : Hid (specB l = false) := Lib.hid (by unfold specB; rw [HC0.out, show lo c0 = false from by unfold lo; simp; omega]; simp)
    have e2 : decide ((c0.toNat : Int) < 97) = true := by simp; omega
    clear hcv hbl hcell hl hsz h0 h1
    go_enter Tryz.func148, Tryz.ntmps148
    go_wp2
    go_ret
    exact ⟨ret_bool HR.out.symm, Below.refl _ _⟩
  have e2 : decide ((c0.toNat : Int) < 97) = false := by simp; omega
  by_cases h3 : 122 < c0.toNat
  · have HR : Hid (specB l = false) := Lib.hid (by unfold specB; rw [HC0.out, show lo c0 = false from by unfold lo; simp; omega]; simp)
    have e3 : decide ((122 : Int) < (c0.toNat : Int)) = true := by simp; omega
    clear hcv hbl hcell hl hsz h0 h1
    go_enter Tryz.func148, Tryz.ntmps148
    go_wp2
    go_ret
    exact ⟨ret_bool HR.out.symm, Below.refl _ _⟩
  have e3 : decide ((122 : Int) < (c0.toNat : Int)) = false := by simp; omega
  have HH : Hid (specB l = l.all nmc) := Lib.hid (by unfold specB; rw [HC0.out, show lo c0 = true from by unfold lo; simp; omega, decide_eq_true (by omega)]; rfl)
  clear h2 h3
  have HB := Lib.hid hbl
  have HC : Hid (∀ j (h : j < l.length), wq.cell? ⟨w.heap.size, j, none⟩ = some (.int .u8 (l[j].toNat : Int))) := Lib.hid (fun j hj => by
    rw [hcell j (by omega), ← hl]
    simp [List.getD, hj])
  have HSZ := Lib.hid hsz
  have HL0 : Hid (0 < l.length) := Lib.hid (by omega)
  clear hbl hcell hl hsz h0 h1
  go_enter Tryz.func148, Tryz.ntmps148
  go_wp2
  go_loopw [26] (fun i wr => ∃ k : Nat, k ≤ l.length ∧ i = .int .i64 (k : Int) ∧ Hid ((l.take k).all nmc = true) ∧ Hid (Below wq.heap.size wq wr)) (fun i _ => l.length - (intOf i).toNat)
  case atStart => exact ⟨0, Nat.zero_le _, rfl, by simp [Hid], Lib.hid (Below.refl _ _)⟩
  case round =>
    obtain ⟨k, hk, rfl, HD, HBR⟩ := hrel
    have HBZ : Hid (w.heap.size < wq.heap.size) := Lib.hid (by
      have h := HB.out.size
      rcases Nat.lt_or_ge w.heap.size wq.heap.size with h' | h'
      · exact h'
      · exfalso
        have hc := HC.out 0 HL0.out
        unfold World.cell? at hc
        rw [Array.getElem?_eq_none (by omega)] at hc
        cases hc)
    by_cases hlt : k < l.length
    · have hc : wr.cell? ⟨w.heap.size, k, none⟩ = some (.int .u8 (l[k].toNat : Int)) := by rw [HBR.out.cell HBZ.out]; exact HC.out k hlt
      have i1 : (k : Int) < (s.size : Int) := by have := HSZ.out; omega
      have i2 : (0 : Int) ≤ (k : Int) := by omega
      obtain ⟨c, hcq⟩ : ∃ c, c = l[k] := ⟨_, rfl⟩
      rw [← hcq] at hc
      have HCC := Lib.hid hcq
      clear hcq
      have cb := c.toNat_lt
      have HNM : Hid (nmc c = (lo c || dgt c || c.toNat == 45)) := Lib.hid rfl
      by_cases h97 : c.toNat < 97
      · have d1 : decide ((c.toNat : Int) < 97) = true := by simp; omega
        have HLO : Hid (lo c = false) := Lib.hid (by unfold lo; simp; omega)
        clear h97
        by_cases h48 : c.toNat < 48
        · have d3 : decide ((c.toNat : Int) < 48) = true := by simp; omega
          have HDG : Hid (dgt c = false) := Lib.hid (by unfold dgt; simp; omega)
          by_cases h45 : c.toNat = 45
          · have d5 : ((c.toNat : Int) != 45) = false := by simp; omega
            have HN0 : Hid (nmc c = true) := Lib.hid (by rw [HNM.out, h45]; simp)
            clear h45 h48
            have HN : Hid (nmc c = true) := Lib.hid (HN0.out)
            go_wp2
            go_roundw
            case rel => exact ⟨k + 1, hlt, rfl, Lib.hid (by rw [List.take_succ_eq_append_getElem hlt, List.all_append, HD.out, ← HCC.out]; simp [HN.out]), HBR⟩
            case measure => simp [intOf]; omega
          · have d5 : ((c.toNat : Int) != 45) = true := by simp; omega
            have HR : Hid (specB l = false) := Lib.hid (by rw [HH.out]; exact all_no hlt (by rw [← HCC.out, HNM.out, HLO.out, HDG.out]; simp [h45]))
            clear h45 h48
            go_wp2
            go_ret
            exact ⟨ret_bool HR.out.symm, HB.out.trans (HBR.out.mono (Nat.le_of_lt HBZ.out))⟩
        · have d3 : decide ((c.toNat : Int) < 48) = false := by simp; omega
          by_cases h57 : 57 < c.toNat
          · have d4 : decide ((57 : Int) < (c.toNat : Int)) = true := by simp; omega
            have d5 : ((c.toNat : Int) != 45) = true := by simp; omega
            have HDG : Hid (dgt c = false) := Lib.hid (by unfold dgt; simp; omega)
            have HR : Hid (specB l = false) := Lib.hid (by rw [HH.out]; exact all_no hlt (by rw [← HCC.out, HNM.out, HLO.out, HDG.out]; simp; omega))
            clear h48 h57
            go_wp2
            go_ret
            exact ⟨ret_bool HR.out.symm, HB.out.trans (HBR.out.mono (Nat.le_of_lt HBZ.out))⟩
          · have d4 : decide ((57 : Int) < (c.toNat : Int)) = false := by simp; omega
            have HN0 : Hid (nmc c = true) := Lib.hid (by rw [HNM.out, show dgt c = true from by unfold dgt; simp; omega]; simp)
            clear h48 h57
            have HN : Hid (nmc c = true) := Lib.hid (HN0.out)
            go_wp2
            go_roundw
            case rel => exact ⟨k + 1, hlt, rfl, Lib.hid (by rw [List.take_succ_eq_append_getElem hlt, List.all_append, HD.out, ← HCC.out]; simp [HN.out]), HBR⟩
            case measure => simp [intOf]; omega
      · have d1 : decide ((c.toNat : Int) < 97) = false := by simp; omega
        by_cases h122 : 122 < c.toNat
        · have d2 : decide ((122 : Int) < (c.toNat : Int)) = true := by simp; omega
          have HLO : Hid (lo c = false) := Lib.hid (by unfold lo; simp; omega)
          clear h97 h122
          by_cases h48 : c.toNat < 48
          · have d3 : decide ((c.toNat : Int) < 48) = true := by simp; omega
            have HDG : Hid (dgt c = false) := Lib.hid (by unfold dgt; simp; omega)
            by_cases h45 : c.toNat = 45
            · have d5 : ((c.toNat : Int) != 45) = false := by simp; omega
              have HN0 : Hid (nmc c = true) := Lib.hid (by rw [HNM.out, h45]; simp)
              clear h45 h48
              have HN : Hid (nmc c = true) := Lib.hid (HN0.out)
              go_wp2
              go_roundw
              case rel => exact ⟨k + 1, hlt, rfl, Lib.hid (by rw [List.take_succ_eq_append_getElem hlt, List.all_append, HD.out, ← HCC.out]; simp [HN.out]), HBR⟩
              case measure => simp [intOf]; omega
            · have d5 : ((c.toNat : Int) != 45) = true := by simp; omega
              have HR : Hid (specB l = false) := Lib.hid (by rw [HH.out]; exact all_no hlt (by rw [← HCC.out, HNM.out, HLO.out, HDG.out]; simp [h45]))
              clear h45 h48
              go_wp2
              go_ret
              exact ⟨ret_bool HR.out.symm, HB.out.trans (HBR.out.mono (Nat.le_of_lt HBZ.out))⟩
          · have d3 : decide ((c.toNat : Int) < 48) = false := by simp; omega
            by_cases h57 : 57 < c.toNat
            · have d4 : decide ((57 : Int) < (c.toNat : Int)) = true := by simp; omega
              have d5 : ((c.toNat : Int) != 45) = true := by simp; omega
              have HDG : Hid (dgt c = false) := Lib.hid (by unfold dgt; simp; omega)
              have HR : Hid (specB l = false) := Lib.hid (by rw [HH.out]; exact all_no hlt (by rw [← HCC.out, HNM.out, HLO.out, HDG.out]; simp; omega))
              clear h48 h57
              go_wp2
              go_ret
              exact ⟨ret_bool HR.out.symm, HB.out.trans (HBR.out.mono (Nat.le_of_lt HBZ.out))⟩
            · have d4 : decide ((57 : Int) < (c.toNat : Int)) = false := by simp; omega
              have HN0 : Hid (nmc c = true) := Lib.hid (by rw [HNM.out, show dgt c = true from by unfold dgt; simp; omega]; simp)
              clear h48 h57
              have HN : Hid (nmc c = true) := Lib.hid (HN0.out)
              go_wp2
              go_roundw
              case rel => exact ⟨k + 1, hlt, rfl, Lib.hid (by rw [List.take_succ_eq_append_getElem hlt, List.all_append, HD.out, ← HCC.out]; simp [HN.out]), HBR⟩
              case measure => simp [intOf]; omega
        · have d2 : decide ((122 : Int) < (c.toNat : Int)) = false := by simp; omega
          have HN : Hid (nmc c = true) := Lib.hid (by rw [HNM.out, show lo c = true from by unfold lo; simp; omega]; simp)
          clear h97 h122
          go_wp2
          go_roundw
          case rel => exact ⟨k + 1, hlt, rfl, Lib.hid (by rw [List.take_succ_eq_append_getElem hlt, List.all_append, HD.out, ← HCC.out]; simp [HN.out]), HBR⟩
          case measure => simp [intOf]; omega
    · have i1 : ¬ (k : Int) < (s.size : Int) := by have := HSZ.out; omega
      have HR : Hid (specB l = true) := Lib.hid (by rw [HH.out]; have := HD.out; rwa [List.take_of_length_le (by omega)] at this)
      clear hlt
      go_wp2
      go_ret
      exact ⟨ret_bool HR.out.symm, HB.out.trans (HBR.out.mono (Nat.le_of_lt HBZ.out))⟩
theorem bs_app (a b : List UInt8) : bs a ++ bs b = bs (a ++ b) := by
  apply ByteArray.ext
  simp [bs, ByteArray.data_append]
theorem bs_size (l : List UInt8) : (bs l).size = l.length := by show l.toArray.size = _; simp
theorem add_bs (a b : List UInt8) (h : a.length + b.length ≤ 9223372036854775807) (w : World) : (Op.stringOp .add (bs a) (bs b)).run Tryz.prog w = .ok (.string (bs (a ++ b))) w := by
  have := run_string_add_sum (P := Tryz.prog) w (bs a) (bs b) (by rw [bs_size, bs_size]; omega)
  rw [bs_app] at this
  exact this
def taskE (j : List UInt8) (i : Int) : Int := if (taskO j i).isSome = true then 0 else 2
set_option maxRecDepth 100000 in
set_option maxHeartbeats 1000000 in
theorem task_any (j : List UInt8) (i : Int) (w : World) (hj : j.length ≤ 1000000000000000) :
    Calls Tryz.prog 122 #[.agg #[.string (bs j), .int .i64 i]] w fun r w' => r = .returned (.tuple #[.string (bs ((taskO j i).getD [])), .int .i64 (taskE j i)]) ∧ Below w.heap.size w w' := by
  obtain ⟨B, hB⟩ : ∃ B, B = w.heap.size := ⟨_, rfl⟩
  obtain ⟨w1, hw1⟩ : ∃ w1, w1 = w.alloc (.cells #[.string (bs j), .int .i64 i] 35) := ⟨_, rfl⟩
  have HB1 : Hid (Below w.heap.size w w1) := Lib.hid (by rw [hw1]; exact below_alloc _ _)
  have HX1 : Hid (Blk w1 B [.string (bs j), .int .i64 i] 35) := Lib.hid (by rw [hw1, hB]; exact Blk.made w [_, _] _)
  have HSP : Hid (Calls Tryz.prog 148 #[.string (bs j)] w1 fun e w' => e = .returned (.bool (specB j)) ∧ Below w1.heap.size w1 w') := Lib.hid (by
    have := spec_any (bs j) w1
    rw [show (bs j).data.toList = j from by simp [bs]] at this
    exact this)
  have b0 := HX1.out.cell (j := 0) rfl
  have HJ := Lib.hid hj
  clear hj
  cases hs : specB j with
  | false =>
    have HR : Hid (bs ((taskO j i).getD []) = ⟨#[]⟩ ∧ taskE j i = 2) := Lib.hid (by unfold taskE taskO; rw [hs]; exact ⟨rfl, rfl⟩)
    rw [hs] at HSP
    clear hs
    go_enter Tryz.func122, Tryz.ntmps122
    go_upto_region 1 with fail
    rw [← hw1, ← hB]
    clear hw1 hB
    go_wp2_with (go_at_call 148; refine HSP.out.mono ?_; rintro r w2 ⟨rfl, hb⟩; have HB2 := Lib.hid (below_and HB1.out hb); clear hb)
    go_ret2
    exact ⟨by rw [HR.out.1, HR.out.2]; rfl, HB2.out⟩
  | true =>
    rw [hs] at HSP
    by_cases hi : 0 ≤ i ∧ i < 64
    · obtain ⟨q, rfl⟩ : ∃ q : Nat, i = (q : Int) := ⟨i.toNat, by omega⟩
      have HQ : Hid (q < 64) := Lib.hid (by omega)
      have HT : Hid (taskO j (q : Int) = some (j ++ 46 :: Lib.itoa (q : Int))) := Lib.hid (by unfold taskO; rw [if_pos ⟨hs, hi.1, hi.2⟩])
      have HIT : Hid (∀ wx, Calls Tryz.prog 149 #[.int .i64 (q : Int)] wx fun e w' => e = .returned (.string (bs (Lib.itoa (q : Int)))) ∧ wx = w') := Lib.hid (fun wx => (Tryz.strconv_Itoa_small q (by have := HQ.out; omega) wx).mono fun e w' h => ⟨by rw [h.1, Lib.itoa_nonneg]; rfl, h.2.symm⟩)
      have HIL : Hid ((Lib.itoa (q : Int)).length ≤ 21) := Lib.hid (Lib.itoa_length_le _ (by omega) (by omega))
      obtain ⟨u, hu⟩ : ∃ u, u = Lib.itoa (q : Int) := ⟨_, rfl⟩
      rw [← hu] at HT HIT HIL
      have HR : Hid (bs ((taskO j (q : Int)).getD []) = bs (j ++ 46 :: u) ∧ taskE j (q : Int) = 0) := Lib.hid (by unfold taskE; rw [HT.out]; exact ⟨by simp, rfl⟩)
      have hadd1 : ∀ w, (Op.stringOp .add (bs j) ⟨#[46]⟩).run Tryz.prog w = .ok (.string (bs (j ++ [46]))) w := fun w => add_bs j [46] (by have := HJ.out; simp; omega) w
      have hadd2 : ∀ w, (Op.stringOp .add (bs (j ++ [46])) (bs u)).run Tryz.prog w = .ok (.string (bs (j ++ 46 :: u))) w := fun w => by have := add_bs (j ++ [46]) u (by have := HJ.out; have := HIL.out; simp; omega) w; rw [show j ++ [46] ++ u = j ++ 46 :: u from by simp] at this; exact this
      have t1 : decide ((q : Int) < 0) = false := by simp
      have t2 : decide ((64 : Int) ≤ (q : Int)) = false := by simp; omega
      clear hs hu hi
      go_enter Tryz.func122, Tryz.ntmps122
      go_upto_region 1 with fail
      rw [← hw1, ← hB]
      clear hw1 hB
      go_upto_region 3 with (go_at_call 148; refine HSP.out.mono ?_; rintro r w2 ⟨rfl, hb⟩; have HB2 := Lib.hid (below_and HB1.out hb); have HX2 := Lib.hid (HX1.out.kept hb); have b1 := (HX1.out.kept hb).cell (j := 1) rfl; clear hb b0)
      have p0 : ∀ s : Past w2, s.val.cell? ⟨B, 0, none⟩ = some (.string (bs j)) := Past.blk HX2.out (j := 0) rfl
      have p1 : ∀ s : Past w2, s.val.cell? ⟨B, 1, none⟩ = some (.int .i64 (q : Int)) := Past.blk HX2.out (j := 1) rfl
      refine wp_region_past (by kernel_rfl) (by kernel_rfl) ?_
      repeat (go_big_quiet_step ((go_at_call 149; exact past_call_same (HIT.out _))))
      refine wpQuiet_nil ?_
      intro _ hw'
      obtain ⟨s9, hw''⟩ := hw'
      subst hw''
      go_wp2
      go_ret2
      exact ⟨by rw [HR.out.1, HR.out.2]; rfl, below_and HB2.out s9.h⟩
    · have HR : Hid (bs ((taskO j i).getD []) = ⟨#[]⟩ ∧ taskE j i = 2) := Lib.hid (by unfold taskE taskO; rw [if_neg (fun h => hi h.2)]; exact ⟨rfl, rfl⟩)
      clear hs
      by_cases h0 : i < 0
      · have t1 : decide (i < 0) = true := decide_eq_true h0
        clear hi h0
        go_enter Tryz.func122, Tryz.ntmps122
        go_upto_region 1 with fail
        rw [← hw1, ← hB]
        clear hw1 hB
        go_wp2_with (go_at_call 148; refine HSP.out.mono ?_; rintro r w2 ⟨rfl, hb⟩; have HB2 := Lib.hid (below_and HB1.out hb); have b1 := (HX1.out.kept hb).cell (j := 1) rfl; clear hb)
        go_ret2
        exact ⟨by rw [HR.out.1, HR.out.2]; rfl, HB2.out⟩
      · have t1 : decide (i < 0) = false := decide_eq_false h0
        have t2 : decide (64 ≤ i) = true := decide_eq_true (by omega)
        clear hi h0
        go_enter Tryz.func122, Tryz.ntmps122
        go_upto_region 1 with fail
        rw [← hw1, ← hB]
        clear hw1 hB
        go_wp2_with (go_at_call 148; refine HSP.out.mono ?_; rintro r w2 ⟨rfl, hb⟩; have HB2 := Lib.hid (below_and HB1.out hb); have b1 := (HX1.out.kept hb).cell (j := 1) rfl; clear hb)
        go_ret2
        exact ⟨by rw [HR.out.1, HR.out.2]; rfl, HB2.out⟩
end Go.Proofs.YtopkfomlppnpeaaGreatDoor.Ms

namespace Go.Proofs.YtopkfomlppnpeaaGreatDoor.Ms
open Go.RowKit Go.Proofs.YtopkfomlppnpeaaGreatDoor

theorem bs_data (l : List UInt8) : (bs l).data.toList = l := by simp [bs]
def cutL (l : List UInt8) : List UInt8 × List UInt8 := if Lib.indexByte l 46 < 0 then (l, []) else (l.take (Lib.indexByte l 46).toNat, l.drop ((Lib.indexByte l 46).toNat + 1))
theorem index_lt : ∀ (l : List UInt8) (c : UInt8), Lib.indexByte l c < (l.length : Int) ∨ Lib.indexByte l c = -1
  | [], _ => .inr rfl
  | b :: l, c => by
    unfold Lib.indexByte
    split
    · left; simp
    · split
      · right; rfl
      · rcases index_lt l c with h | h
        · left; simp; omega
        · rename_i h2; simp [h] at h2
theorem ext_bs (l : List UInt8) (a b : Nat) : (bs l).extract a b = bs ((l.drop a).take (b - a)) := by
  apply ByteArray.ext
  apply Array.ext'
  rw [ByteArray.data_extract]
  simp [bs, List.extract]
set_option maxRecDepth 100000 in
set_option maxHeartbeats 1000000 in
theorem lcut_any (l : List UInt8) (w : World) (hl : l.length ≤ 140737488351232) : Calls Tryz.prog 158 #[.string (bs l), .string ⟨#[46]⟩] w fun e w' => (∃ b, e = .returned (.tuple #[.string (bs (cutL l).1), .string (bs (cutL l).2), .bool b])) ∧ Below w.heap.size w w' := by
  have HI := Lib.hid (fun w' => Tryz.stringslite_Index_one (bs l) 46 w')
  rw [bs_data] at HI
  obtain ⟨z, hz⟩ : ∃ z, z = Lib.indexByte l 46 := ⟨_, rfl⟩
  have hge := Lib.indexByte_ge l 46
  have hlt := index_lt l 46
  have hsz : (bs l).size = l.length := bs_size l
  have HC : Hid (cutL l = if z < 0 then (l, []) else (l.take z.toNat, l.drop (z.toNat + 1))) := Lib.hid (by rw [hz]; rfl)
  rw [← hz] at HI hge hlt
  clear hz
  by_cases h0 : z < 0
  · have t0 : decide ((0 : Int) ≤ z) = false := by simp; omega
    rw [show cutL l = (l, []) from by rw [HC.out, if_pos h0]]
    clear HC hlt hge h0
    go_enter Tryz.func158, Tryz.ntmps158
    go_wp2_with (go_at_call 163; refine (HI.out _).mono ?_; rintro e w2 ⟨rfl, rfl⟩)
    go_ret3
    exact ⟨⟨_, rfl⟩, Below.refl _ _⟩
  · obtain ⟨i, rfl⟩ : ∃ i : Nat, z = (i : Int) := ⟨z.toNat, by omega⟩
    rw [show cutL l = (l.take i, l.drop (i + 1)) from by rw [HC.out, if_neg h0]; simp]
    have hi : i < l.length := by omega
    have t0 : decide ((0 : Int) ≤ (i : Int)) = true := by simp
    have c1 : (0 : Int) ≤ (i : Int) := by omega
    have c2 : (i : Int) ≤ ((bs l).size : Int) := by omega
    have c3 : (0 : Int) ≤ (i : Int) + 1 := by omega
    have c4 : (i : Int) + 1 ≤ ((bs l).size : Int) := by omega
    clear HC hlt hge h0
    go_enter Tryz.func158, Tryz.ntmps158
    go_wp2_with (go_at_call 163; refine (HI.out _).mono ?_; rintro e w2 ⟨rfl, rfl⟩)
    go_region_o
    go_wp2
    go_ret3
    refine ⟨⟨true, ?_⟩, below_drewN 1⟩
    show Ending.returned (.tuple #[.string ((bs l).extract 0 i), .string ((bs l).extract (i + 1) l.length), .bool true]) = _
    rw [ext_bs, ext_bs, show (l.drop (i + 1)).take (l.length - (i + 1)) = l.drop (i + 1) from List.take_of_length_le (by rw [List.length_drop]; exact Nat.le_refl _)]
    rfl
set_option maxRecDepth 100000 in
theorem cut_any (l : List UInt8) (w : World) (hl : l.length ≤ 140737488351232) : Calls Tryz.prog 144 #[.string (bs l), .string ⟨#[46]⟩] w fun e w' => (∃ b, e = .returned (.tuple #[.string (bs (cutL l).1), .string (bs (cutL l).2), .bool b])) ∧ Below w.heap.size w w' := by
  go_enter Tryz.func144, Tryz.ntmps144
  go_wp2_with (go_at_call 158; refine (lcut_any l _ hl).mono ?_; rintro e w2 ⟨⟨b, rfl⟩, hb⟩; have HB := Lib.hid hb; clear hb)
  go_ret3
  exact ⟨⟨_, rfl⟩, HB.out⟩
/-- the errors that strconv keeps -/
def ErrV (w : World) : Prop := (∃ (tp : TypeId) (p : Value), w.var? Tryz.prog "strconv.ErrSyntax" = some #[.iface tp p]) ∧ ∃ (tp : TypeId) (p : Value), w.var? Tryz.prog "strconv.ErrRange" = some #[.iface tp p]
theorem var_below {w w' : World} {s : String} {v : Array Value} (h : w.var? Tryz.prog s = some v) (hb : Below w.heap.size w w') : w'.var? Tryz.prog s = some v := by
  unfold World.var? at *
  cases hq : Tryz.prog.globalNamed s with
  | none => rw [hq] at h; cases h
  | some g =>
    rw [hq] at h
    simp only [Option.bind_some] at h ⊢
    have hlt : g < w.heap.size := by
      rcases Nat.lt_or_ge g w.heap.size with h' | h'
      · exact h'
      · rw [Array.getElem?_eq_none h'] at h; cases h
    rw [hb.block g hlt]
    exact h
theorem ErrV.below {w w' : World} (h : ErrV w) (hb : Below w.heap.size w w') : ErrV w' := by
  obtain ⟨⟨tp, p, h1⟩, tq, q, h2⟩ := h
  exact ⟨⟨tp, p, var_below h1 hb⟩, tq, q, var_below h2 hb⟩
/-- is a text a task's name? -/
def tnB (l : List UInt8) : Bool := match Lib.atoiAll (cutL l).2 with
  | .ok n => taskO (cutL l).1 n == some l
  | _ => false
/-- what strconv.Atoi answers -/
theorem atoi_any (l : List UInt8) (w : World) (hl : l.length ≤ 140737488351232) (hE : ErrV w) : Calls Tryz.prog 145 #[.string (bs l)] w fun e w' => (∃ n : Int, ∃ v : Value, e = .returned (.tuple #[.int .i64 n, v]) ∧ ((Lib.atoiAll l = .ok n ∧ v = .nilIface) ∨ ((∀ m, Lib.atoiAll l ≠ .ok m) ∧ ∃ t p, v = .iface t p))) ∧ Below w.heap.size w w' := by
  have hs : (bs l).size = l.length := bs_size l
  have hd := bs_data l
  obtain ⟨⟨tp, p, h1⟩, tq, q, h2⟩ := hE
  cases hq : Lib.atoiAll l with
  | ok n =>
    refine (Tryz.strconv_Atoi_ok (bs l) (by rw [hs]; omega) n (by rw [hd]; exact hq) w).mono fun e w' ⟨he, hw⟩ => ⟨⟨n, .nilIface, he, .inl ⟨rfl, rfl⟩⟩, ?_⟩
    rcases hw with rfl | ⟨t, rfl⟩
    · exact Below.refl _ _
    · exact ⟨rfl, rfl, rfl, by rw [Lib.bytesWorld_size]; omega, fun j hj => Lib.bytesWorld_at_old w _ t j hj⟩
  | range =>
    exact (Tryz.strconv_Atoi_range_var (bs l) (by rw [hs]; omega) (by rw [hd]; exact hq) tq q w h2).mono fun e w' ⟨N, he, _, _, hw⟩ => ⟨⟨_, _, he, .inr ⟨(fun m hm => by cases hm), _, _, rfl⟩⟩, hw⟩
  | _ =>
    exact (Any.strconv_Atoi_syntax_var Tryz.laysC172 (bs l) (by rw [hs]; omega) (by rw [hd]; exact hq) tp p w h1).mono fun e w' ⟨N, he, _, _, hw⟩ => ⟨⟨_, _, he, .inr ⟨(fun m hm => by cases hm), _, _, rfl⟩⟩, hw⟩
theorem cutL_len (l : List UInt8) : (cutL l).1.length ≤ l.length ∧ (cutL l).2.length ≤ l.length := by
  unfold cutL
  split
  · simp
  · simp; omega
end Go.Proofs.YtopkfomlppnpeaaGreatDoor.Ms

namespace Go.Proofs.YtopkfomlppnpeaaGreatDoor.Ms
open Go.RowKit Go.Proofs.YtopkfomlppnpeaaGreatDoor

theorem ret_cell {P : Program} {fn : Func} {R : Ending → World → Prop} {a : Act} {w : World} {p u : Tmp} {ty t : TypeId} {g : Nat} {cs : List Value} {d : TypeDesc} (h : fn.results = #[.cell p ty, .tmp u]) (hd : a.defers = [])
    (hp : a.tmps.getD p undef = .pointer (some ⟨g, 0, none⟩)) (hg : Blk w g cs t) (hu : P.underlying ty = some d) (hd2 : (match d with | .struct _ | .array _ _ => true | _ => false) = true) (hi : (P.info? ty).map (·.size) = some cs.length) (hR : R (.returned (.tuple #[.agg cs.toArray, a.tmps.getD u undef])) w) : bodyPost P fn R .ret a w := by
  refine bodyPost_ret (results_row_tmp h _ w g t cs.toArray (0, 0) d hp hg hu hd2 (by rw [hi]; simp)) hd hR
theorem at_hide {F Q : World → Prop} {w : World} (h : F w) (k : ∀ w', F w' → Q w') : Q w := k w h
theorem beq_bs (a b : List UInt8) : ((bs a).toList == (bs b).toList) = (a == b) := by rw [Lib.toList_data, Lib.toList_data, bs_data, bs_data]
theorem bne_bs (a b : List UInt8) : ((bs a).toList != (bs b).toList) = !(a == b) := by unfold bne; rw [beq_bs]
set_option maxRecDepth 100000 in
set_option maxHeartbeats 2000000 in
theorem ptask_any (l : List UInt8) (w : World) (hl : l.length ≤ 140737488351232) (hE : ErrV w) :
    Calls Tryz.prog 117 #[.string (bs l)] w fun e w' => (∃ a n, e = .returned (.tuple #[.agg #[.string (bs a), .int .i64 n], .int .i64 (if tnB l then 0 else 5)])) ∧ Below w.heap.size w w' := by
  obtain ⟨r, hr⟩ : ∃ r : Int, r = if tnB l then 0 else 5 := ⟨_, rfl⟩
  rw [← hr]
  have HRR := Lib.hid hr
  clear hr
  obtain ⟨R, hR⟩ : ∃ R, R = w.heap.size := ⟨_, rfl⟩
  obtain ⟨w1, hw1⟩ : ∃ w1, w1 = w.alloc (.cells #[.string ⟨#[]⟩, .int .i64 0] 35) := ⟨_, rfl⟩
  have HB1 : Hid (Below w.heap.size w w1) := Lib.hid (by rw [hw1]; exact below_alloc _ _)
  have HX1 : Hid (Blk w1 R [.string ⟨#[]⟩, .int .i64 0] 35) := Lib.hid (by rw [hw1, hR]; exact Blk.made w [_, _] _)
  have HRW : Hid (w.heap.size ≤ R) := Lib.hid (by omega)
  obtain ⟨hj, hx⟩ := cutL_len l
  have HE := Lib.hid hE
  have HJ : Hid ((cutL l).1.length ≤ 1000000000000000) := Lib.hid (by omega)
  have HX : Hid ((cutL l).2.length ≤ 140737488351232) := Lib.hid (by omega)
  have HTN : Hid (∀ n, Lib.atoiAll (cutL l).2 = .ok n → tnB l = (taskO (cutL l).1 n == some l)) := Lib.hid (fun n h => by unfold tnB; rw [h])
  have HTB : Hid ((∀ n, Lib.atoiAll (cutL l).2 ≠ .ok n) → tnB l = false) := Lib.hid (fun h => by unfold tnB; split; exact absurd (by assumption) (h _); rfl)
  have HCU := Lib.hid (fun w' => cut_any l w' hl)
  obtain ⟨j, hjj⟩ : ∃ j, j = (cutL l).1 := ⟨_, rfl⟩
  obtain ⟨x, hxx⟩ : ∃ x, x = (cutL l).2 := ⟨_, rfl⟩
  rw [← hjj] at HCU HTN HJ
  rw [← hxx] at HCU HTN HTB HX
  clear hj hx hE hl hjj hxx
  go_enter Tryz.func117, Tryz.ntmps117
  go_upto_region 1 with fail
  rw [← hw1, ← hR]
  clear hw1 hR
  go_upto_region 3 with (first | (go_at_call 144; refine (HCU.out _).mono ?_; rintro e w2 ⟨⟨cb, rfl⟩, hb⟩; have HX2 := Lib.hid (HX1.out.kept hb); have HB2 := Lib.hid (below_and HB1.out hb); clear hb) | (go_at_call 145; refine (atoi_any x _ HX.out (HE.out.below HB2.out)).mono ?_; rintro e w3 ⟨⟨n, v, rfl, hv⟩, hb⟩; have HX3 := Lib.hid (HX2.out.kept hb); have HB3 := Lib.hid (below_and HB2.out hb); have HV := Lib.hid hv; clear hb hv))
  obtain ⟨K, hK⟩ : ∃ K, K = w3.heap.size := ⟨_, rfl⟩
  obtain ⟨w4, hw4⟩ : ∃ w4, w4 = w3.alloc (.cells #[.string (bs j), .int .i64 n] 35) := ⟨_, rfl⟩
  rcases HV.out with ⟨hok, rfl⟩ | ⟨hno, t, p, rfl⟩
  · have HTQ := Lib.hid (HTN.out n hok)
    clear hok HV HTN HTB
    go_upto_region 4 with fail
    have HK4 : Hid (Blk w4 K [.string (bs j), .int .i64 n] 35) := Lib.hid (by rw [hw4, hK]; exact Blk.made w3 [_, _] _)
    have HX4 : Hid (Blk w4 R [.string ⟨#[]⟩, .int .i64 0] 35) := Lib.hid (by rw [hw4]; exact HX3.out.alloc _)
    have HB4 : Hid (Below w.heap.size w w4) := Lib.hid (by rw [hw4]; exact below_and HB3.out (below_alloc _ _))
    rw [← hw4, ← hK]
    clear hw4 hK
    have k0 := HK4.out.cell (j := 0) rfl
    have k1 := HK4.out.cell (j := 1) rfl
    have HTA := Lib.hid (fun w' => task_any j n w' HJ.out)
    obtain ⟨bk, hbk⟩ : ∃ bk, bk = (taskO j n).getD [] := ⟨_, rfl⟩
    obtain ⟨er, her⟩ : ∃ er, er = taskE j n := ⟨_, rfl⟩
    rw [← hbk, ← her] at HTA
    have HBK := Lib.hid hbk
    have HER := Lib.hid her
    clear hbk her
    go_upto_region 5 with (go_at_call 122; refine (HTA.out _).mono ?_; rintro e w5 ⟨rfl, hb⟩; have HX5 := Lib.hid (HX4.out.kept hb); have HK5 := Lib.hid (HK4.out.kept hb); have HB5 := Lib.hid (below_and HB4.out hb); clear hb)
    clear k0 k1
    have f0 := HX5.out.free 0
    have f1 := HX5.out.free 1
    have y0 := HX5.out.cell (j := 0) rfl
    have y1 := HX5.out.cell (j := 1) rfl
    have z0 := HK5.out.cell (j := 0) rfl
    have z1 := HK5.out.cell (j := 1) rfl
    cases hto : taskO j n with
    | none =>
      have HQQ : Hid (tnB l = false) := Lib.hid (by rw [HTQ.out, hto]; rfl)
      have t0 : (er != 0) = true := by rw [HER.out]; unfold taskE; rw [hto]; rfl
      clear hto
      go_wp2
      refine ret_cell rfl rfl rfl ((HX5.out.set 0 _).set 1 _) Tryz.underlying35 rfl (by kernel_rfl) ?_
      refine ⟨⟨[], 0, by rw [show r = 5 from by rw [HRR.out, HQQ.out]; rfl]; rfl⟩, (HB5.out.setCell (p := ⟨R, 0, none⟩) HRW.out _).setCell (p := ⟨R, 1, none⟩) HRW.out _⟩
    | some s =>
      obtain rfl : bk = s := by rw [HBK.out, hto]; rfl
      have t0 : (er != 0) = false := by rw [HER.out]; unfold taskE; rw [hto]; rfl
      have HTT : Hid (tnB l = (bk == l)) := Lib.hid (by rw [HTQ.out, hto]; rfl)
      have t1 := beq_bs bk l
      have t2 := bne_bs bk l
      clear hto
      cases hq : (bk == l)
      · rw [hq] at t1 t2 HTT
        clear hq
        have HQQ := HTT
        go_wp2
        refine ret_cell rfl rfl rfl ((HX5.out.set 0 _).set 1 _) Tryz.underlying35 rfl (by kernel_rfl) ?_
        refine ⟨⟨[], 0, by rw [show r = 5 from by rw [HRR.out, HQQ.out]; rfl]; rfl⟩, (HB5.out.setCell (p := ⟨R, 0, none⟩) HRW.out _).setCell (p := ⟨R, 1, none⟩) HRW.out _⟩
      · rw [hq] at t1 t2 HTT
        clear hq
        have HQQ := HTT
        go_wp2
        refine ret_cell rfl rfl rfl ((HX5.out.set 0 _).set 1 _) Tryz.underlying35 rfl (by kernel_rfl) ?_
        refine ⟨⟨j, n, by rw [show r = 0 from by rw [HRR.out, HQQ.out]; rfl]; rfl⟩, (HB5.out.setCell (p := ⟨R, 0, none⟩) HRW.out _).setCell (p := ⟨R, 1, none⟩) HRW.out _⟩
  · have HQQ : Hid (tnB l = false) := Lib.hid (HTB.out hno)
    clear hno HV HTN HTB
    go_upto_region 4 with fail
    have HK4 : Hid (Blk w4 K [.string (bs j), .int .i64 n] 35) := Lib.hid (by rw [hw4, hK]; exact Blk.made w3 [_, _] _)
    have HX4 : Hid (Blk w4 R [.string ⟨#[]⟩, .int .i64 0] 35) := Lib.hid (by rw [hw4]; exact HX3.out.alloc _)
    have HB4 : Hid (Below w.heap.size w w4) := Lib.hid (by rw [hw4]; exact below_and HB3.out (below_alloc _ _))
    rw [← hw4, ← hK]
    clear hw4 hK
    have k0 := HK4.out.cell (j := 0) rfl
    have k1 := HK4.out.cell (j := 1) rfl
    go_upto_region 5 with (go_at_call 122; refine (task_any j n _ HJ.out).mono ?_; rintro e w5 ⟨rfl, hb⟩; have HX5 := Lib.hid (HX4.out.kept hb); have HB5 := Lib.hid (below_and HB4.out hb); clear hb)
    clear k0 k1
    have f0 := HX5.out.free 0
    have f1 := HX5.out.free 1
    have y0 := HX5.out.cell (j := 0) rfl
    have y1 := HX5.out.cell (j := 1) rfl
    go_wp2
    refine ret_cell rfl rfl rfl ((HX5.out.set 0 _).set 1 _) Tryz.underlying35 rfl (by kernel_rfl) ?_
    refine ⟨⟨[], 0, by rw [show r = 5 from by rw [HRR.out, HQQ.out]; rfl]; rfl⟩, (HB5.out.setCell (p := ⟨R, 0, none⟩) HRW.out _).setCell (p := ⟨R, 1, none⟩) HRW.out _⟩
def tkB (j : List UInt8) (i : Int) : Bool := (taskO j i).isSome
set_option maxRecDepth 100000 in
set_option maxHeartbeats 1000000 in
theorem isTask_any (j : List UInt8) (i : Int) (w : World) (hj : j.length ≤ 140737488351232) : Calls Tryz.prog 63 #[.agg #[.string (bs j), .int .i64 i]] w fun e w' => e = .returned (.bool (tkB j i)) ∧ Below w.heap.size w w' := by
  obtain ⟨er, her⟩ : ∃ er, er = taskE j i := ⟨_, rfl⟩
  have HTA := Lib.hid (fun w' => task_any j i w' (by omega))
  have HQ : Hid ((er == 0) = tkB j i) := Lib.hid (by rw [her]; unfold taskE tkB; cases (taskO j i).isSome <;> rfl)
  rw [← her] at HTA
  clear her
  have x0 := (Blk.made w [.string (bs j), .int .i64 i] 35).cell (j := 0) rfl
  have x1 := (Blk.made w [.string (bs j), .int .i64 i] 35).cell (j := 1) rfl
  go_enter Tryz.func63, Tryz.ntmps63
  go_wp2_with (go_at_call 122; refine (HTA.out _).mono ?_; rintro e w5 ⟨rfl, hb⟩; have HB5 := Lib.hid (below_and (below_alloc w (.cells #[.string (bs j), .int .i64 i] 35)) hb); clear hb)
  go_ret
  exact ⟨ret_bool HQ.out, HB5.out⟩
set_option maxRecDepth 100000 in
set_option maxHeartbeats 1000000 in
theorem isName_any (l : List UInt8) (w : World) (hl : l.length ≤ 140737488351232) (hE : ErrV w) : Calls Tryz.prog 57 #[.string (bs l)] w fun e w' => e = .returned (.bool (tnB l)) ∧ Below w.heap.size w w' := by
  obtain ⟨er, her⟩ : ∃ er : Int, er = if tnB l then 0 else 5 := ⟨_, rfl⟩
  have HTA := Lib.hid (ptask_any l w hl hE)
  have HQ : Hid ((er == 0) = tnB l) := Lib.hid (by rw [her]; cases tnB l <;> rfl)
  rw [← her] at HTA
  clear her
  go_enter Tryz.func57, Tryz.ntmps57
  go_wp2_with (go_at_call 117; refine HTA.out.mono ?_; rintro e w5 ⟨⟨a, n, rfl⟩, hb⟩; have HB5 := Lib.hid hb; clear hb)
  go_ret
  exact ⟨ret_bool HQ.out, below_and HB5.out (below_alloc _ _)⟩
end Go.Proofs.YtopkfomlppnpeaaGreatDoor.Ms
