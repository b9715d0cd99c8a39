/- RuIsName. -/
import Derived.Test.YtdemkfhkibmbnaaGreatDoorM08
import Derived.Lib.ConvBytes
set_option maxRecDepth 100000
set_option maxHeartbeats 8000000
namespace Go.Proofs.YtdemkfhkibmbnaaGreatDoor.Ru
open Go.RowKit Go.Proofs.YtdemkfhkibmbnaaGreatDoor
def allB (m : Nat) (p : UInt8 → Bool) (l : List UInt8) : Bool := decide (1 ≤ l.length ∧ l.length ≤ m) && l.all p
def isNameB (l : List UInt8) : Bool := decide (1 ≤ l.length ∧ l.length ≤ 24) && hd lo l && l.all nmc
theorem all_no {p : UInt8 → Bool} {l : List UInt8} {k : Nat} (hk : k < l.length) (h : p l[k] = false) : l.all p = false := by
 rw [← Bool.not_eq_true, List.all_eq_true]; intro hh; have := hh _ (List.getElem_mem hk); rw [h] at this; cases this
theorem ruconv (s : ByteArray) (w : World) : ∃ wq cap, (convert 9 94 (.string s)).run Tryz.prog w = .ok (.slice (some ⟨w.heap.size, 0, none⟩) s.size cap) wq ∧ Below w.heap.size w wq ∧ ∀ j, j < s.size → wq.cell? ⟨w.heap.size, j, none⟩ = some (.int .u8 (s.data.toList.getD j 0).toNat) :=
 ⟨_, _, Lib.run_convert_string_bytes w 9 94 5 s Tryz.underlying9 Tryz.underlying94 Tryz.underlying5,
  ⟨rfl, rfl, rfl, by rw [Lib.bytesWorld_size]; omega, fun j hj => Lib.bytesWorld_at_old w _ s j hj⟩, fun j hj => Lib.bytesWorld_cell w _ s j hj⟩
theorem isWord_any (s : ByteArray) (w : World) :
  Calls Tryz.prog 53 #[.string s] w fun e w' => e = .returned (.bool (allB 32 wdc s.data.toList)) ∧ Below w.heap.size w w' := by
 obtain ⟨wq, cap, hcv, hbl, hcell⟩ := ruconv s w; obtain ⟨l, hl⟩ : ∃ l, l = s.data.toList := ⟨_, rfl⟩; have hsz : s.size = l.length := by rw [hl]; simp
 rw [← hl]
 by_cases h0 : s.size < 1
 ·have HR : Hid (allB 32 wdc l = false) := zz (by unfold allB; rw [decide_eq_false (by omega)]; rfl)
  have e0 : decide ((s.size : Int) < 1) = true := by simp; omega
  clear hcv hbl hcell hl hsz; go_enter Tryz.func53, Tryz.ntmps53; go_wp2; go_ret; exact ⟨ret_bool HR.o.symm, Below.refl _ _⟩
 have e0 : decide ((s.size : Int) < 1) = false := by simp; omega
 by_cases h1 : 32 < s.size
 ·have HR : Hid (allB 32 wdc l = false) := zz (by unfold allB; rw [decide_eq_false (by omega)]; rfl)
  have e1 : decide ((32 : Int) < (s.size : Int)) = true := by simp; omega
  clear hcv hbl hcell hl hsz; go_enter Tryz.func53, Tryz.ntmps53; go_wp2; go_ret; exact ⟨ret_bool HR.o.symm, Below.refl _ _⟩
 have e1 : decide ((32 : Int) < (s.size : Int)) = false := by simp; omega
 have hl1 : l.length ≤ 32 := by omega
 have HH : Hid (allB 32 wdc l = l.all wdc) := zz (by unfold allB; rw [decide_eq_true (by omega)]; rfl); have HB := zz hbl
 have HC : Hid (∀ j (h : j < l.length), wq.cell? ⟨w.heap.size, j, none⟩ = some (.int .u8 (l[j].toNat : Int))) := zz (fun j hj => by
  rw [hcell j (by omega), ← hl]
  simp [List.getD, hj])
 have HSZ := zz hsz; have HL0 : Hid (0 < l.length) := zz (by omega); clear hbl hcell hl hsz h0 h1; go_enter Tryz.func53, Tryz.ntmps53; go_wp2
 go_loopw [16] (fun i wr => ∃ k : Nat, k ≤ l.length ∧ i = .int .i64 (k : Int) ∧ Hid ((l.take k).all wdc = true) ∧ Hid (Below wq.heap.size wq wr)) (fun i _ => l.length - (intOf i).toNat)
 case atStart => exact ⟨0, Nat.zero_le _, rfl, by simp [Hid], zz (Below.refl _ _)⟩
 case round =>
  obtain ⟨k, hk, rfl, HD, HBR⟩ := hrel
  have HBZ : Hid (w.heap.size < wq.heap.size) := zz (by
   have h := HB.o.size; rcases Nat.lt_or_ge w.heap.size wq.heap.size with h' | h'
   ·exact h'
   ·exfalso
    have hc := HC.o 0 HL0.o
    unfold World.cell? at hc
    rw [Array.getElem?_eq_none (by omega)] at hc
    cases hc)
  by_cases hlt : k < l.length
  ·have hc : wr.cell? ⟨w.heap.size, k, none⟩ = some (.int .u8 (l[k].toNat : Int)) := by rw [HBR.o.cell HBZ.o]; exact HC.o k hlt
   have i1 : (k : Int) < (s.size : Int) := by have := HSZ.o; omega
   have i2 : (0 : Int) ≤ (k : Int) := by omega
   obtain ⟨c, hcq⟩ : ∃ c, c = l[k] := ⟨_, rfl⟩; rw [← hcq] at hc; have HCC := zz hcq; clear hcq; have HP : Hid (∀ wx, Calls Tryz.prog 81 #[.int .u8 (c.toNat : Int)] wx fun e w' => e = .returned (.bool (wdc c)) ∧ wx = w') := zz (fun wx => inWord_any c wx); obtain ⟨q, hq⟩ : ∃ q, q = wdc c := ⟨_, rfl⟩; rw [← hq] at HP; have HQ := zz hq; clear hq; cases q
   ·have HR : Hid (allB 32 wdc l = false) := zz (by rw [HH.o]; exact all_no hlt (by rw [← HCC.o]; exact HQ.o.symm))
    go_wp2_with (go_at_call 81; refine (HP.o _).mono ?_; rintro e w2 ⟨rfl, rfl⟩); go_ret; exact ⟨ret_bool HR.o.symm, HB.o.trans (HBR.o.mono (Nat.le_of_lt HBZ.o))⟩
   ·have HN : Hid (wdc c = true) := zz HQ.o.symm
    go_wp2_with (go_at_call 81; refine (HP.o _).mono ?_; rintro e w2 ⟨rfl, rfl⟩); go_roundw
    case rel => exact ⟨k + 1, hlt, rfl, zz (by rw [List.take_succ_eq_append_getElem hlt, List.all_append, HD.o, ← HCC.o]; simp [HN.o]), HBR⟩
    case measure => simp [intOf]; omega
  ·have i1 : ¬ (k : Int) < (s.size : Int) := by have := HSZ.o; omega
   have HR : Hid (allB 32 wdc l = true) := zz (by rw [HH.o]; have := HD.o; rwa [List.take_of_length_le (by omega)] at this); clear hlt; go_wp2; go_ret; exact ⟨ret_bool HR.o.symm, HB.o.trans (HBR.o.mono (Nat.le_of_lt HBZ.o))⟩
theorem isDigits_any (s : ByteArray) (w : World) :
  Calls Tryz.prog 99 #[.string s] w fun e w' => e = .returned (.bool (allB 12 dgt s.data.toList)) ∧ Below w.heap.size w w' := by
 obtain ⟨wq, cap, hcv, hbl, hcell⟩ := ruconv s w; obtain ⟨l, hl⟩ : ∃ l, l = s.data.toList := ⟨_, rfl⟩; have hsz : s.size = l.length := by rw [hl]; simp
 rw [← hl]
 by_cases h0 : s.size < 1
 ·have HR : Hid (allB 12 dgt l = false) := zz (by unfold allB; rw [decide_eq_false (by omega)]; rfl)
  have e0 : decide ((s.size : Int) < 1) = true := by simp; omega
  clear hcv hbl hcell hl hsz; go_enter Tryz.func99, Tryz.ntmps99; go_wp2; go_ret; exact ⟨ret_bool HR.o.symm, Below.refl _ _⟩
 have e0 : decide ((s.size : Int) < 1) = false := by simp; omega
 by_cases h1 : 12 < s.size
 ·have HR : Hid (allB 12 dgt l = false) := zz (by unfold allB; rw [decide_eq_false (by omega)]; rfl)
  have e1 : decide ((12 : Int) < (s.size : Int)) = true := by simp; omega
  clear hcv hbl hcell hl hsz; go_enter Tryz.func99, Tryz.ntmps99; go_wp2; go_ret; exact ⟨ret_bool HR.o.symm, Below.refl _ _⟩
 have e1 : decide ((12 : Int) < (s.size : Int)) = false := by simp; omega
 have hl1 : l.length ≤ 12 := by omega
 have HH : Hid (allB 12 dgt l = l.all dgt) := zz (by unfold allB; rw [decide_eq_true (by omega)]; rfl); have HB := zz hbl
 have HC : Hid (∀ j (h : j < l.length), wq.cell? ⟨w.heap.size, j, none⟩ = some (.int .u8 (l[j].toNat : Int))) := zz (fun j hj => by
  rw [hcell j (by omega), ← hl]
  simp [List.getD, hj])
 have HSZ := zz hsz; have HL0 : Hid (0 < l.length) := zz (by omega); clear hbl hcell hl hsz h0 h1; go_enter Tryz.func99, Tryz.ntmps99; go_wp2
 go_loopw [16] (fun i wr => ∃ k : Nat, k ≤ l.length ∧ i = .int .i64 (k : Int) ∧ Hid ((l.take k).all dgt = true) ∧ Hid (Below wq.heap.size wq wr)) (fun i _ => l.length - (intOf i).toNat)
 case atStart => exact ⟨0, Nat.zero_le _, rfl, by simp [Hid], zz (Below.refl _ _)⟩
 case round =>
  obtain ⟨k, hk, rfl, HD, HBR⟩ := hrel
  have HBZ : Hid (w.heap.size < wq.heap.size) := zz (by
   have h := HB.o.size; rcases Nat.lt_or_ge w.heap.size wq.heap.size with h' | h'
   ·exact h'
   ·exfalso
    have hc := HC.o 0 HL0.o
    unfold World.cell? at hc
    rw [Array.getElem?_eq_none (by omega)] at hc
    cases hc)
  by_cases hlt : k < l.length
  ·have hc : wr.cell? ⟨w.heap.size, k, none⟩ = some (.int .u8 (l[k].toNat : Int)) := by rw [HBR.o.cell HBZ.o]; exact HC.o k hlt
   have i1 : (k : Int) < (s.size : Int) := by have := HSZ.o; omega
   have i2 : (0 : Int) ≤ (k : Int) := by omega
   obtain ⟨c, hcq⟩ : ∃ c, c = l[k] := ⟨_, rfl⟩; rw [← hcq] at hc; have HCC := zz hcq; clear hcq; have HP : Hid (∀ wx, Calls Tryz.prog 80 #[.int .u8 (c.toNat : Int)] wx fun e w' => e = .returned (.bool (dgt c)) ∧ wx = w') := zz (fun wx => digit_any c wx); obtain ⟨q, hq⟩ : ∃ q, q = dgt c := ⟨_, rfl⟩; rw [← hq] at HP; have HQ := zz hq; clear hq; cases q
   ·have HR : Hid (allB 12 dgt l = false) := zz (by rw [HH.o]; exact all_no hlt (by rw [← HCC.o]; exact HQ.o.symm))
    go_wp2_with (go_at_call 80; refine (HP.o _).mono ?_; rintro e w2 ⟨rfl, rfl⟩); go_ret; exact ⟨ret_bool HR.o.symm, HB.o.trans (HBR.o.mono (Nat.le_of_lt HBZ.o))⟩
   ·have HN : Hid (dgt c = true) := zz HQ.o.symm
    go_wp2_with (go_at_call 80; refine (HP.o _).mono ?_; rintro e w2 ⟨rfl, rfl⟩); go_roundw
    case rel => exact ⟨k + 1, hlt, rfl, zz (by rw [List.take_succ_eq_append_getElem hlt, List.all_append, HD.o, ← HCC.o]; simp [HN.o]), HBR⟩
    case measure => simp [intOf]; omega
  ·have i1 : ¬ (k : Int) < (s.size : Int) := by have := HSZ.o; omega
   have HR : Hid (allB 12 dgt l = true) := zz (by rw [HH.o]; have := HD.o; rwa [List.take_of_length_le (by omega)] at this); clear hlt; go_wp2; go_ret; exact ⟨ret_bool HR.o.symm, HB.o.trans (HBR.o.mono (Nat.le_of_lt HBZ.o))⟩
theorem isName_any (s : ByteArray) (w : World) :
  Calls Tryz.prog 52 #[.string s] w fun e w' => e = .returned (.bool (isNameB s.data.toList)) ∧ Below w.heap.size w w' := by
 obtain ⟨wq, cap, hcv, hbl, hcell⟩ := ruconv s w; obtain ⟨l, hl⟩ : ∃ l, l = s.data.toList := ⟨_, rfl⟩; have hsz : s.size = l.length := by rw [hl]; simp
 rw [← hl]
 by_cases h0 : s.size < 1
 ·have HR : Hid (isNameB l = false) := zz (by unfold isNameB; rw [decide_eq_false (by omega)]; rfl)
  have e0 : decide ((s.size : Int) < 1) = true := by simp; omega
  clear hcv hbl hcell hl hsz; go_enter Tryz.func52, Tryz.ntmps52; go_wp2; go_ret; exact ⟨ret_bool HR.o.symm, Below.refl _ _⟩
 have e0 : decide ((s.size : Int) < 1) = false := by simp; omega
 by_cases h1 : 24 < s.size
 ·have HR : Hid (isNameB l = false) := zz (by unfold isNameB; rw [decide_eq_false (by omega)]; rfl)
  have e1 : decide ((24 : Int) < (s.size : Int)) = true := by simp; omega
  clear hcv hbl hcell hl hsz; go_enter Tryz.func52, Tryz.ntmps52; go_wp2; go_ret; exact ⟨ret_bool HR.o.symm, Below.refl _ _⟩
 have e1 : decide ((24 : Int) < (s.size : Int)) = false := by simp; omega
 have hl1 : l.length ≤ 24 := by omega
 have i0 : 0 < s.size := by omega
 obtain ⟨c0, hc0⟩ : ∃ c0, c0 = s[0] := ⟨_, rfl⟩
 have HC0 : Hid (hd lo l = lo c0) := zz (by
  subst hl; rw [hc0]
  cases hq : s.data.toList with
  | nil =>
   have g1 : s.data.toList.length = 0 := by rw [hq]; rfl
   have g2 : s.data.toList.length = s.size := by simp
   omega
  | cons c r =>
   have : s[0] = c := by
    have h2 : s.data.toList[0]'(by simpa using i0) = s[0] := rfl; rw [← h2]; simp [hq]
   rw [this]; rfl)
 have hcc : s[0] = c0 := hc0.symm; clear hc0
 by_cases h2 : c0.toNat < 97
 ·have HR : Hid (isNameB l = false) := zz (by unfold isNameB; rw [HC0.o, show lo c0 = false from by unfold lo; simp; omega]; simp)
  have e2 : decide ((c0.toNat : Int) < 97) = true := by simp; omega
  clear hcv hbl hcell hl hsz h0 h1; go_enter Tryz.func52, Tryz.ntmps52; go_wp2; go_ret; exact ⟨ret_bool HR.o.symm, Below.refl _ _⟩
 have e2 : decide ((c0.toNat : Int) < 97) = false := by simp; omega
 by_cases h3 : 122 < c0.toNat
 ·have HR : Hid (isNameB l = false) := zz (by unfold isNameB; rw [HC0.o, show lo c0 = false from by unfold lo; simp; omega]; simp)
  have e3 : decide ((122 : Int) < (c0.toNat : Int)) = true := by simp; omega
  clear hcv hbl hcell hl hsz h0 h1; go_enter Tryz.func52, Tryz.ntmps52; go_wp2; go_ret; exact ⟨ret_bool HR.o.symm, Below.refl _ _⟩
 have e3 : decide ((122 : Int) < (c0.toNat : Int)) = false := by simp; omega
 have HH : Hid (isNameB l = l.all nmc) := zz (by unfold isNameB; rw [HC0.o, show lo c0 = true from by unfold lo; simp; omega, decide_eq_true (by omega)]; rfl); clear h2 h3; have HB := zz hbl
 have HC : Hid (∀ j (h : j < l.length), wq.cell? ⟨w.heap.size, j, none⟩ = some (.int .u8 (l[j].toNat : Int))) := zz (fun j hj => by
  rw [hcell j (by omega), ← hl]
  simp [List.getD, hj])
 have HSZ := zz hsz; have HL0 : Hid (0 < l.length) := zz (by omega); clear hbl hcell hl hsz h0 h1; go_enter Tryz.func52, Tryz.ntmps52; go_wp2
 go_loopw [26] (fun i wr => ∃ k : Nat, k ≤ l.length ∧ i = .int .i64 (k : Int) ∧ Hid ((l.take k).all nmc = true) ∧ Hid (Below wq.heap.size wq wr)) (fun i _ => l.length - (intOf i).toNat)
 case atStart => exact ⟨0, Nat.zero_le _, rfl, by simp [Hid], zz (Below.refl _ _)⟩
 case round =>
  obtain ⟨k, hk, rfl, HD, HBR⟩ := hrel
  have HBZ : Hid (w.heap.size < wq.heap.size) := zz (by
   have h := HB.o.size; rcases Nat.lt_or_ge w.heap.size wq.heap.size with h' | h'
   ·exact h'
   ·exfalso
    have hc := HC.o 0 HL0.o
    unfold World.cell? at hc
    rw [Array.getElem?_eq_none (by omega)] at hc
    cases hc)
  by_cases hlt : k < l.length
  ·have hc : wr.cell? ⟨w.heap.size, k, none⟩ = some (.int .u8 (l[k].toNat : Int)) := by rw [HBR.o.cell HBZ.o]; exact HC.o k hlt
   have i1 : (k : Int) < (s.size : Int) := by have := HSZ.o; omega
   have i2 : (0 : Int) ≤ (k : Int) := by omega
   obtain ⟨c, hcq⟩ : ∃ c, c = l[k] := ⟨_, rfl⟩; rw [← hcq] at hc; have HCC := zz hcq; clear hcq; have cb := c.toNat_lt; have HP : Hid (∀ wx, Calls Tryz.prog 80 #[.int .u8 (c.toNat : Int)] wx fun e w' => e = .returned (.bool (dgt c)) ∧ wx = w') := zz (fun wx => digit_any c wx); have HNM : Hid (nmc c = (lo c || dgt c || c.toNat == 45)) := zz rfl; obtain ⟨q, hq⟩ : ∃ q, q = dgt c := ⟨_, rfl⟩; rw [← hq] at HP HNM; clear hq
   by_cases h97 : c.toNat < 97
   ·have d1 : decide ((c.toNat : Int) < 97) = true := by simp; omega
    have HLO : Hid (lo c = false) := zz (by unfold lo; simp; omega); clear h97; cases q
    ·by_cases h45 : c.toNat = 45
     ·have d5 : ((c.toNat : Int) != 45) = false := by simp; omega
      have HN : Hid (nmc c = true) := zz (by rw [HNM.o, h45]; simp); clear h45; go_wp2_with (go_at_call 80; refine (HP.o _).mono ?_; rintro e w2 ⟨rfl, rfl⟩); go_roundw
      case rel => exact ⟨k + 1, hlt, rfl, zz (by rw [List.take_succ_eq_append_getElem hlt, List.all_append, HD.o, ← HCC.o]; simp [HN.o]), HBR⟩
      case measure => simp [intOf]; omega
     ·have d5 : ((c.toNat : Int) != 45) = true := by simp; omega
      have HR : Hid (isNameB l = false) := zz (by rw [HH.o]; exact all_no hlt (by rw [← HCC.o, HNM.o, HLO.o]; simp [h45])); clear h45; go_wp2_with (go_at_call 80; refine (HP.o _).mono ?_; rintro e w2 ⟨rfl, rfl⟩); go_ret; exact ⟨ret_bool HR.o.symm, HB.o.trans (HBR.o.mono (Nat.le_of_lt HBZ.o))⟩
    ·have HN : Hid (nmc c = true) := zz (by rw [HNM.o]; simp)
     go_wp2_with (go_at_call 80; refine (HP.o _).mono ?_; rintro e w2 ⟨rfl, rfl⟩); go_roundw
     case rel => exact ⟨k + 1, hlt, rfl, zz (by rw [List.take_succ_eq_append_getElem hlt, List.all_append, HD.o, ← HCC.o]; simp [HN.o]), HBR⟩
     case measure => simp [intOf]; omega
   ·have d1 : decide ((c.toNat : Int) < 97) = false := by simp; omega
    by_cases h122 : 122 < c.toNat
    ·have d2 : decide ((122 : Int) < (c.toNat : Int)) = true := by simp; omega
     have HLO : Hid (lo c = false) := zz (by unfold lo; simp; omega); clear h97 h122; cases q
     ·by_cases h45 : c.toNat = 45
      ·have d5 : ((c.toNat : Int) != 45) = false := by simp; omega
       have HN : Hid (nmc c = true) := zz (by rw [HNM.o, h45]; simp); clear h45; go_wp2_with (go_at_call 80; refine (HP.o _).mono ?_; rintro e w2 ⟨rfl, rfl⟩); go_roundw
       case rel => exact ⟨k + 1, hlt, rfl, zz (by rw [List.take_succ_eq_append_getElem hlt, List.all_append, HD.o, ← HCC.o]; simp [HN.o]), HBR⟩
       case measure => simp [intOf]; omega
      ·have d5 : ((c.toNat : Int) != 45) = true := by simp; omega
       have HR : Hid (isNameB l = false) := zz (by rw [HH.o]; exact all_no hlt (by rw [← HCC.o, HNM.o, HLO.o]; simp [h45])); clear h45; go_wp2_with (go_at_call 80; refine (HP.o _).mono ?_; rintro e w2 ⟨rfl, rfl⟩); go_ret; exact ⟨ret_bool HR.o.symm, HB.o.trans (HBR.o.mono (Nat.le_of_lt HBZ.o))⟩
     ·have HN : Hid (nmc c = true) := zz (by rw [HNM.o]; simp)
      go_wp2_with (go_at_call 80; refine (HP.o _).mono ?_; rintro e w2 ⟨rfl, rfl⟩); go_roundw
      case rel => exact ⟨k + 1, hlt, rfl, zz (by rw [List.take_succ_eq_append_getElem hlt, List.all_append, HD.o, ← HCC.o]; simp [HN.o]), HBR⟩
      case measure => simp [intOf]; omega
    ·have d2 : decide ((122 : Int) < (c.toNat : Int)) = false := by simp; omega
     have HN : Hid (nmc c = true) := zz (by rw [HNM.o, show lo c = true from by unfold lo; simp; omega]; simp); clear h97 h122; go_wp2; go_roundw
     case rel => exact ⟨k + 1, hlt, rfl, zz (by rw [List.take_succ_eq_append_getElem hlt, List.all_append, HD.o, ← HCC.o]; simp [HN.o]), HBR⟩
     case measure => simp [intOf]; omega
  ·have i1 : ¬ (k : Int) < (s.size : Int) := by have := HSZ.o; omega
   have HR : Hid (isNameB l = true) := zz (by rw [HH.o]; have := HD.o; rwa [List.take_of_length_le (by omega)] at this); clear hlt; go_wp2; go_ret; exact ⟨ret_bool HR.o.symm, HB.o.trans (HBR.o.mono (Nat.le_of_lt HBZ.o))⟩
