/- RuIsName. -/
import Derived.Test.YtdnoceancoclmaaGreatDoorM10
import Derived.Lib.ConvBytes
import Derived.Deep.QuietTactic
import Derived.BigQuiet
import Derived.Outline
namespace Go.Proofs.YtdnoceancoclmaaGreatDoor.Ru
open Go.RowKit Go.Proofs.YtdnoceancoclmaaGreatDoor

def allB (m : Nat) (p : UInt8 → Bool) (l : List UInt8) : Bool := decide (1 ≤ l.length ∧ l.length ≤ m) && l.all p
def isNameB (l : List UInt8) : Bool := decide (1 ≤ l.length ∧ l.length ≤ 24) && hd lo l && l.all nmc
theorem all_no {p : UInt8 → Bool} {l : List UInt8} {k : Nat} (hk : k < l.length) (h : p l[k] = false) : l.all p = false := by
  rw [← Bool.not_eq_true, List.all_eq_true]
  intro hh
  have := hh _ (List.getElem_mem hk)
  rw [h] at this; cases this
/-- '[]byte(s)': where it lies -/
theorem ruconv (s : ByteArray) (w : World) : ∃ wq cap, (convert 9 76 (.string s)).run Tryz.prog w = .ok (.slice (some ⟨w.heap.size, 0, none⟩) s.size cap) wq ∧ Below w.heap.size w wq ∧ ∀ j, j < s.size → wq.cell? ⟨w.heap.size, j, none⟩ = some (.int .u8 (s.data.toList.getD j 0).toNat) :=
  ⟨_, _, Lib.run_convert_string_bytes w 9 76 5 s Tryz.underlying9 Tryz.underlying76 Tryz.underlying5,
    ⟨rfl, rfl, rfl, by rw [Lib.bytesWorld_size]; omega, fun j hj => Lib.bytesWorld_at_old w _ s j hj⟩, fun j hj => Lib.bytesWorld_cell w _ s j hj⟩

set_option maxRecDepth 100000 in
set_option maxHeartbeats 1000000 in
theorem isWord_any (s : ByteArray) (w : World) :
    Calls Tryz.prog 29 #[.string s] w fun e w' => e = .returned (.bool (allB 32 wdc s.data.toList)) ∧ Below w.heap.size w w' := by
  obtain ⟨wq, cap, hcv, hbl, hcell⟩ := ruconv s w
  obtain ⟨l, hl⟩ : ∃ l, l = s.data.toList := ⟨_, rfl⟩
  have hsz : s.size = l.length := by rw [hl]; simp
  rw [← hl]
  by_cases h0 : s.size < 1
  · have HR : Hid (allB 32 wdc l = false) := Lib.hid (by unfold allB; rw [decide_eq_false (by omega)]; rfl)
    have e0 : decide ((s.size : Int) < 1) = true := by simp; omega
    clear hcv hbl hcell hl hsz
    go_enter Tryz.func29, Tryz.ntmps29
    go_wp2
    go_ret
    exact ⟨ret_bool HR.out.symm, Below.refl _ _⟩
  have e0 : decide ((s.size : Int) < 1) = false := by simp; omega
  by_cases h1 : 32 < s.size
  · have HR : Hid (allB 32 wdc l = false) := Lib.hid (by unfold allB; rw [decide_eq_false (by omega)]; rfl)
    have e1 : decide ((32 : Int) < (s.size : Int)) = true := by simp; omega
    clear hcv hbl hcell hl hsz
    go_enter Tryz.func29, Tryz.ntmps29
    go_wp2
    go_ret
    exact ⟨ret_bool HR.out.symm, Below.refl _ _⟩
  have e1 : decide ((32 : Int) < (s.size : Int)) = false := by simp; omega
  have hl1 : l.length ≤ 32 := by omega
  have HH : Hid (allB 32 wdc l = l.all wdc) := Lib.hid (by unfold allB; rw [decide_eq_true (by omega)]; rfl)
  have HB := Lib.hid hbl
  have HC : Hid (∀ j (h : j < l.length), wq.cell? ⟨w.heap.size, j, none⟩ = some (.int .u8 (l[j].toNat : Int))) := Lib.hid (fun j hj => by
    rw [hcell j (by omega), ← hl]
    simp [List.getD, hj])
  have HSZ := Lib.hid hsz
  have HL0 : Hid (0 < l.length) := Lib.hid (by omega)
  clear hbl hcell hl hsz h0 h1
  go_enter Tryz.func29, Tryz.ntmps29
  go_wp2
  go_loopw [16] (fun i wr => ∃ k : Nat, k ≤ l.length ∧ i = .int .i64 (k : Int) ∧ Hid ((l.take k).all wdc = true) ∧ Hid (Below wq.heap.size wq wr)) (fun i _ => l.length - (intOf i).toNat)
  case atStart => exact ⟨0, Nat.zero_le _, rfl, by simp [Hid], Lib.hid (Below.refl _ _)⟩
  case round =>
    obtain ⟨k, hk, rfl, HD, HBR⟩ := hrel
    have HBZ : Hid (w.heap.size < wq.heap.size) := Lib.hid (by
      have h := HB.out.size
      rcases Nat.lt_or_ge w.heap.size wq.heap.size with h' | h'
      · exact h'
      · exfalso
        have hc := HC.out 0 HL0.out
        unfold World.cell? at hc
        rw [Array.getElem?_eq_none (by omega)] at hc
        cases hc)
    by_cases hlt : k < l.length
    · have hc : wr.cell? ⟨w.heap.size, k, none⟩ = some (.int .u8 (l[k].toNat : Int)) := by rw [HBR.out.cell HBZ.out]; exact HC.out k hlt
      have i1 : (k : Int) < (s.size : Int) := by have := HSZ.out; omega
      have i2 : (0 : Int) ≤ (k : Int) := by omega
      obtain ⟨c, hcq⟩ : ∃ c, c = l[k] := ⟨_, rfl⟩
      rw [← hcq] at hc
      have HCC := Lib.hid hcq
      clear hcq
      have HP : Hid (∀ wx, Calls Tryz.prog 48 #[.int .u8 (c.toNat : Int)] wx fun e w' => e = .returned (.bool (wdc c)) ∧ wx = w') := Lib.hid (fun wx => inWord_any c wx)
      obtain ⟨q, hq⟩ : ∃ q, q = wdc c := ⟨_, rfl⟩
      rw [← hq] at HP
      have HQ := Lib.hid hq
      clear hq
      cases q
      · have HR : Hid (allB 32 wdc l = false) := Lib.hid (by rw [HH.out]; exact all_no hlt (by rw [← HCC.out]; exact HQ.out.symm))
        go_wp2_with (go_at_call 48; refine (HP.out _).mono ?_; rintro e w2 ⟨rfl, rfl⟩)
        go_ret
        exact ⟨ret_bool HR.out.symm, HB.out.trans (HBR.out.mono (Nat.le_of_lt HBZ.out))⟩
      · have HN : Hid (wdc c = true) := Lib.hid HQ.out.symm
        go_wp2_with (go_at_call 48; refine (HP.out _).mono ?_; rintro e w2 ⟨rfl, rfl⟩)
        go_roundw
        case rel => exact ⟨k + 1, hlt, rfl, Lib.hid (by rw [List.take_succ_eq_append_getElem hlt, List.all_append, HD.out, ← HCC.out]; simp [HN.out]), HBR⟩
        case measure => simp [intOf]; omega
    · have i1 : ¬ (k : Int) < (s.size : Int) := by have := HSZ.out; omega
      have HR : Hid (allB 32 wdc l = true) := Lib.hid (by rw [HH.out]; have := HD.out; rwa [List.take_of_length_le (by omega)] at this)
      clear hlt
      go_wp2
      go_ret
      exact ⟨ret_bool HR.out.symm, HB.out.trans (HBR.out.mono (Nat.le_of_lt HBZ.out))⟩

set_option maxRecDepth 100000 in
set_option maxHeartbeats 1000000 in
theorem isDigits_any (s : ByteArray) (w : World) :
    Calls Tryz.prog 52 #[.string s] w fun e w' => e = .returned (.bool (allB 12 dgt s.data.toList)) ∧ Below w.heap.size w w' := by
  obtain ⟨wq, cap, hcv, hbl, hcell⟩ := ruconv s w
  obtain ⟨l, hl⟩ : ∃ l, l = s.data.toList := ⟨_, rfl⟩
  have hsz : s.size = l.length := by rw [hl]; simp
  rw [← hl]
  by_cases h0 : s.size < 1
  · have HR : Hid (allB 12 dgt l = false) := Lib.hid (by unfold allB; rw [decide_eq_false (by omega)]; rfl)
    have e0 : decide ((s.size : Int) < 1) = true := by simp; omega
    clear hcv hbl hcell hl hsz
    go_enter Tryz.func52, Tryz.ntmps52
    go_wp2
    go_ret
    exact ⟨ret_bool HR.out.symm, Below.refl _ _⟩
  have e0 : decide ((s.size : Int) < 1) = false := by simp; omega
  by_cases h1 : 12 < s.size
  · have HR : Hid (allB 12 dgt l = false) := Lib.hid (by unfold allB; rw [decide_eq_false (by omega)]; rfl)
    have e1 : decide ((12 : Int) < (s.size : Int)) = true := by simp; omega
    clear hcv hbl hcell hl hsz
    go_enter Tryz.func52, Tryz.ntmps52
    go_wp2
    go_ret
    exact ⟨ret_bool HR.out.symm, Below.refl _ _⟩
  have e1 : decide ((12 : Int) < (s.size : Int)) = false := by simp; omega
  have hl1 : l.length ≤ 12 := by omega
  have HH : Hid (allB 12 dgt l = l.all dgt) := Lib.hid (by unfold allB; rw [decide_eq_true (by omega)]; rfl)
  have HB := Lib.hid hbl
  have HC : Hid (∀ j (h : j < l.length), wq.cell? ⟨w.heap.size, j, none⟩ = some (.int .u8 (l[j].toNat : Int))) := Lib.hid (fun j hj => by
    rw [hcell j (by omega), ← hl]
    simp [List.getD, hj])
  have HSZ := Lib.hid hsz
  have HL0 : Hid (0 < l.length) := Lib.hid (by omega)
  clear hbl hcell hl hsz h0 h1
  go_enter Tryz.func52, Tryz.ntmps52
  go_wp2
  go_loopw [16] (fun i wr => ∃ k : Nat, k ≤ l.length ∧ i = .int .i64 (k : Int) ∧ Hid ((l.take k).all dgt = true) ∧ Hid (Below wq.heap.size wq wr)) (fun i _ => l.length - (intOf i).toNat)
  case atStart => exact ⟨0, Nat.zero_le _, rfl, by simp [Hid], Lib.hid (Below.refl _ _)⟩
  case round =>
    obtain ⟨k, hk, rfl, HD, HBR⟩ := hrel
    have HBZ : Hid (w.heap.size < wq.heap.size) := Lib.hid (by
      have h := HB.out.size
      rcases Nat.lt_or_ge w.heap.size wq.heap.size with h' | h'
      · exact h'
      · exfalso
        have hc := HC.out 0 HL0.out
        unfold World.cell? at hc
        rw [Array.getElem?_eq_none (by omega)] at hc
        cases hc)
    by_cases hlt : k < l.length
    · have hc : wr.cell? ⟨w.heap.size, k, none⟩ = some (.int .u8 (l[k].toNat : Int)) := by rw [HBR.out.cell HBZ.out]; exact HC.out k hlt
      have i1 : (k : Int) < (s.size : Int) := by have := HSZ.out; omega
      have i2 : (0 : Int) ≤ (k : Int) := by omega
      obtain ⟨c, hcq⟩ : ∃ c, c = l[k] := ⟨_, rfl⟩
      rw [← hcq] at hc
      have HCC := Lib.hid hcq
      clear hcq
      have HP : Hid (∀ wx, Calls Tryz.prog 47 #[.int .u8 (c.toNat : Int)] wx fun e w' => e = .returned (.bool (dgt c)) ∧ wx = w') := Lib.hid (fun wx => digit_any c wx)
      obtain ⟨q, hq⟩ : ∃ q, q = dgt c := ⟨_, rfl⟩
      rw [← hq] at HP
      have HQ := Lib.hid hq
      clear hq
      cases q
      · have HR : Hid (allB 12 dgt l = false) := Lib.hid (by rw [HH.out]; exact all_no hlt (by rw [← HCC.out]; exact HQ.out.symm))
        go_wp2_with (go_at_call 47; refine (HP.out _).mono ?_; rintro e w2 ⟨rfl, rfl⟩)
        go_ret
        exact ⟨ret_bool HR.out.symm, HB.out.trans (HBR.out.mono (Nat.le_of_lt HBZ.out))⟩
      · have HN : Hid (dgt c = true) := Lib.hid HQ.out.symm
        go_wp2_with (go_at_call 47; refine (HP.out _).mono ?_; rintro e w2 ⟨rfl, rfl⟩)
        go_roundw
        case rel => exact ⟨k + 1, hlt, rfl, Lib.hid (by rw [List.take_succ_eq_append_getElem hlt, List.all_append, HD.out, ← HCC.out]; simp [HN.out]), HBR⟩
        case measure => simp [intOf]; omega
    · have i1 : ¬ (k : Int) < (s.size : Int) := by have := HSZ.out; omega
      have HR : Hid (allB 12 dgt l = true) := Lib.hid (by rw [HH.out]; have := HD.out; rwa [List.take_of_length_le (by omega)] at this)
      clear hlt
      go_wp2
      go_ret
      exact ⟨ret_bool HR.out.symm, HB.out.trans (HBR.out.mono (Nat.le_of_lt HBZ.out))⟩

set_option maxRecDepth 100000 in
set_option maxHeartbeats 1000000 in
theorem isName_any (s : ByteArray) (w : World) :
    Calls Tryz.prog 28 #[.string s] w fun e w' => e = .returned (.bool (isNameB s.data.toList)) ∧ Below w.heap.size w w' := by
  obtain ⟨wq, cap, hcv, hbl, hcell⟩ := ruconv s w
  obtain ⟨l, hl⟩ : ∃ l, l = s.data.toList := ⟨_, rfl⟩
  have hsz : s.size = l.length := by rw [hl]; simp
  rw [← hl]
  by_cases h0 : s.size < 1
  · have HR : Hid (isNameB l = false) := Lib.hid (by unfold isNameB; rw [decide_eq_false (by omega)]; rfl)
    have e0 : decide ((s.size : Int) < 1) = true := by simp; omega
    clear hcv hbl hcell hl hsz
    go_enter Tryz.func28, Tryz.ntmps28
    go_wp2
    go_ret
    exact ⟨ret_bool HR.out.symm, Below.refl _ _⟩
  have e0 : decide ((s.size : Int) < 1) = false := by simp; omega
  by_cases h1 : 24 < s.size
  · have HR : Hid (isNameB l = false) := Lib.hid (by unfold isNameB; rw [decide_eq_false (by omega)]; rfl)
    have e1 : decide ((24 : Int) < (s.size : Int)) = true := by simp; omega
    clear hcv hbl hcell hl hsz
    go_enter Tryz.func28, Tryz.ntmps28
    go_wp2
    go_ret
    exact ⟨ret_bool HR.out.symm, Below.refl _ _⟩
  have e1 : decide ((24 : Int) < (s.size : Int)) = false := by simp; omega
  have hl1 : l.length ≤ 24 := by omega
  have i0 : 0 < s.size := by omega
  obtain ⟨c0, hc0⟩ : ∃ c0, c0 = s[0] := ⟨_, rfl⟩
  have HC0 : Hid (hd lo l = lo c0) := Lib.hid (by
    subst hl
    rw [hc0]
    cases hq : s.data.toList with
    | nil =>
      have g1 : s.data.toList.length = 0 := by rw [hq]; rfl
      have g2 : s.data.toList.length = s.size := by simp
      omega
    | cons c r =>
      have : s[0] = c := by
        have h2 : s.data.toList[0]'(by simpa using i0) = s[0] := rfl
        rw [← h2]; simp [hq]
      rw [this]; rfl)
  have hcc : s[0] = c0 := hc0.symm
  clear hc0
  by_cases h2 : c0.toNat < 97
  · have HR : Hid (isNameB l = false) := Lib.hid (by unfold isNameB; rw [HC0.out, show lo c0 = false from by unfold lo; simp; omega]; simp)
    have e2 : decide ((c0.toNat : Int) < 97) = true := by simp; omega
    clear hcv hbl hcell hl hsz h0 h1
    go_enter Tryz.func28, Tryz.ntmps28
    go_wp2
    go_ret
    exact ⟨ret_bool HR.out.symm, Below.refl _ _⟩
  have e2 : decide ((c0.toNat : Int) < 97) = false := by simp; omega
  by_cases h3 : 122 < c0.toNat
  · have HR : Hid (isNameB l = false) := Lib.hid (by unfold isNameB; rw [HC0.out, show lo c0 = false from by unfold lo; simp; omega]; simp)
    have e3 : decide ((122 : Int) < (c0.toNat : Int)) = true := by simp; omega
    clear hcv hbl hcell hl hsz h0 h1
    go_enter Tryz.func28, Tryz.ntmps28
    go_wp2
    go_ret
    exact ⟨ret_bool HR.out.symm, Below.refl _ _⟩
  have e3 : decide ((122 : Int) < (c0.toNat : Int)) = false := by simp; omega
  have HH : Hid (isNameB l = l.all nmc) := Lib.hid (by unfold isNameB; rw [HC0.out, show lo c0 = true from by unfold lo; simp; omega, decide_eq_true (by omega)]; rfl)
  clear h2 h3
  have HB := Lib.hid hbl
  have HC : Hid (∀ j (h : j < l.length), wq.cell? ⟨w.heap.size, j, none⟩ = some (.int .u8 (l[j].toNat : Int))) := Lib.hid (fun j hj => by
    rw [hcell j (by omega), ← hl]
    simp [List.getD, hj])
  have HSZ := Lib.hid hsz
  have HL0 : Hid (0 < l.length) := Lib.hid (by omega)
  clear hbl hcell hl hsz h0 h1
  go_enter Tryz.func28, Tryz.ntmps28
  go_wp2
  go_loopw [26] (fun i wr => ∃ k : Nat, k ≤ l.length ∧ i = .int .i64 (k : Int) ∧ Hid ((l.take k).all nmc = true) ∧ Hid (Below wq.heap.size wq wr)) (fun i _ => l.length - (intOf i).toNat)
  case atStart => exact ⟨0, Nat.zero_le _, rfl, by simp [Hid], Lib.hid (Below.refl _ _)⟩
  case round =>
    obtain ⟨k, hk, rfl, HD, HBR⟩ := hrel
    have HBZ : Hid (w.heap.size < wq.heap.size) := Lib.hid (by
      have h := HB.out.size
      rcases Nat.lt_or_ge w.heap.size wq.heap.size with h' | h'
      · exact h'
      · exfalso
        have hc := HC.out 0 HL0.out
        unfold World.cell? at hc
        rw [Array.getElem?_eq_none (by omega)] at hc
        cases hc)
    by_cases hlt : k < l.length
    · have hc : wr.cell? ⟨w.heap.size, k, none⟩ = some (.int .u8 (l[k].toNat : Int)) := by rw [HBR.out.cell HBZ.out]; exact HC.out k hlt
      have i1 : (k : Int) < (s.size : Int) := by have := HSZ.out; omega
      have i2 : (0 : Int) ≤ (k : Int) := by omega
      obtain ⟨c, hcq⟩ : ∃ c, c = l[k] := ⟨_, rfl⟩
      rw [← hcq] at hc
      have HCC := Lib.hid hcq
      clear hcq
      have cb := c.toNat_lt
      have HP : Hid (∀ wx, Calls Tryz.prog 47 #[.int .u8 (c.toNat : Int)] wx fun e w' => e = .returned (.bool (dgt c)) ∧ wx = w') := Lib.hid (fun wx => digit_any c wx)
      have HNM : Hid (nmc c = (lo c || dgt c || c.toNat == 45)) := Lib.hid rfl
      obtain ⟨q, hq⟩ : ∃ q, q = dgt c := ⟨_, rfl⟩
      rw [← hq] at HP HNM
      clear hq
      by_cases h97 : c.toNat < 97
      · have d1 : decide ((c.toNat : Int) < 97) = true := by simp; omega
        have HLO : Hid (lo c = false) := Lib.hid (by unfold lo; simp; omega)
        clear h97
        cases q
        · by_cases h45 : c.toNat = 45
          · have d5 : ((c.toNat : Int) != 45) = false := by simp; omega
            have HN : Hid (nmc c = true) := Lib.hid (by rw [HNM.out, h45]; simp)
            clear h45
            go_wp2_with (go_at_call 47; refine (HP.out _).mono ?_; rintro e w2 ⟨rfl, rfl⟩)
            go_roundw
            case rel => exact ⟨k + 1, hlt, rfl, Lib.hid (by rw [List.take_succ_eq_append_getElem hlt, List.all_append, HD.out, ← HCC.out]; simp [HN.out]), HBR⟩
            case measure => simp [intOf]; omega
          · have d5 : ((c.toNat : Int) != 45) = true := by simp; omega
            have HR : Hid (isNameB l = false) := Lib.hid (by rw [HH.out]; exact all_no hlt (by rw [← HCC.out, HNM.out, HLO.out]; simp [h45]))
            clear h45
            go_wp2_with (go_at_call 47; refine (HP.out _).mono ?_; rintro e w2 ⟨rfl, rfl⟩)
            go_ret
            exact ⟨ret_bool HR.out.symm, HB.out.trans (HBR.out.mono (Nat.le_of_lt HBZ.out))⟩
        · have HN : Hid (nmc c = true) := Lib.hid (by rw [HNM.out]; simp)
          go_wp2_with (go_at_call 47; refine (HP.out _).mono ?_; rintro e w2 ⟨rfl, rfl⟩)
          go_roundw
          case rel => exact ⟨k + 1, hlt, rfl, Lib.hid (by rw [List.take_succ_eq_append_getElem hlt, List.all_append, HD.out, ← HCC.out]; simp [HN.out]), HBR⟩
          case measure => simp [intOf]; omega
      · have d1 : decide ((c.toNat : Int) < 97) = false := by simp; omega
        by_cases h122 : 122 < c.toNat
        · have d2 : decide ((122 : Int) < (c.toNat : Int)) = true := by simp; omega
          have HLO : Hid (lo c = false) := Lib.hid (by unfold lo; simp; omega)
          clear h97 h122
          cases q
          · by_cases h45 : c.toNat = 45
            · have d5 : ((c.toNat : Int) != 45) = false := by simp; omega
              have HN : Hid (nmc c = true) := Lib.hid (by rw [HNM.out, h45]; simp)
              clear h45
              go_wp2_with (go_at_call 47; refine (HP.out _).mono ?_; rintro e w2 ⟨rfl, rfl⟩)
              go_roundw
              case rel => exact ⟨k + 1, hlt, rfl, Lib.hid (by rw [List.take_succ_eq_append_getElem hlt, List.all_append, HD.out, ← HCC.out]; simp [HN.out]), HBR⟩
              case measure => simp [intOf]; omega
            · have d5 : ((c.toNat : Int) != 45) = true := by simp; omega
              have HR : Hid (isNameB l = false) := Lib.hid (by rw [HH.out]; exact all_no hlt (by rw [← HCC.out, HNM.out, HLO.out]; simp [h45]))
              clear h45
              go_wp2_with (go_at_call 47; refine (HP.out _).mono ?_; rintro e w2 ⟨rfl, rfl⟩)
              go_ret
              exact ⟨ret_bool HR.out.symm, HB.out.trans (HBR.out.mono (Nat.le_of_lt HBZ.out))⟩
          · have HN : Hid (nmc c = true) := Lib.hid (by rw [HNM.out]; simp)
            go_wp2_with (go_at_call 47; refine (HP.out _).mono ?_; rintro e w2 ⟨rfl, rfl⟩)
            go_roundw
            case rel => exact ⟨k + 1, hlt, rfl, Lib.hid (by rw [List.take_succ_eq_append_getElem hlt, List.all_append, HD.out, ← HCC.out]; simp [HN.out]), HBR⟩
            case measure => simp [intOf]; omega
        · have d2 : decide ((122 : Int) < (c.toNat : Int)) = false := by simp; omega
          have HN : Hid (nmc c = true) := Lib.hid (by rw [HNM.out, show lo c = true from by unfold lo; simp; omega]; simp)
          clear h97 h122
          go_wp2
          go_roundw
          case rel => exact ⟨k + 1, hlt, rfl, Lib.hid (by rw [List.take_succ_eq_append_getElem hlt, List.all_append, HD.out, ← HCC.out]; simp [HN.out]), HBR⟩
          case measure => simp [intOf]; omega
    · have i1 : ¬ (k : Int) < (s.size : Int) := by have := HSZ.out; omega
      have HR : Hid (isNameB l = true) := Lib.hid (by rw [HH.out]; have := HD.out; rwa [List.take_of_length_le (by omega)] at this)
      clear hlt
      go_wp2
      go_ret
      exact ⟨ret_bool HR.out.symm, HB.out.trans (HBR.out.mono (Nat.le_of_lt HBZ.out))⟩

end Go.Proofs.YtdnoceancoclmaaGreatDoor.Ru
