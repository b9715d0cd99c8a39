/- The parser's bytes: digit, letter, inWord, a name's. -/
import Derived.Test.YtjjaaooiajmclaaDoorRuIs
namespace Go.Proofs.YtjjaaooiajmclaaDoor.Ru
open Go.RowKit Go.Proofs.YtjjaaooiajmclaaDoor

set_option maxRecDepth 100000 in
theorem digit_any (c : UInt8) (w : World) : Calls Tryd.prog 45 #[.int .u8 (c.toNat : Int)] w fun e w' => e = .returned (.bool (dgt c)) ∧ w = w' := by
  have HR : Hid (dgt c = (decide ((48 : Int) ≤ (c.toNat : Int)) && decide ((c.toNat : Int) ≤ 57))) := Lib.hid (by unfold dgt; congr 1 <;> simp <;> omega)
  cases t1 : decide ((48 : Int) ≤ (c.toNat : Int))
  · have HQ : Hid (dgt c = false) := Lib.hid (by rw [HR.out, t1]; rfl)
    go_enter Tryd.func45, Tryd.ntmps45
    go_wp2
    go_ret
    exact ⟨ret_bool HQ.out.symm, rfl⟩
  · cases t2 : decide ((c.toNat : Int) ≤ 57)
    · have HQ : Hid (dgt c = false) := Lib.hid (by rw [HR.out, t1, t2]; rfl)
      go_enter Tryd.func45, Tryd.ntmps45
      go_wp2
      go_ret
      exact ⟨ret_bool HQ.out.symm, rfl⟩
    · have HQ : Hid (dgt c = true) := Lib.hid (by rw [HR.out, t1, t2]; rfl)
      go_enter Tryd.func45, Tryd.ntmps45
      go_wp2
      go_ret
      exact ⟨ret_bool HQ.out.symm, rfl⟩
theorem letter_all : (List.range 256).all (fun n => (decide ((97 : Int) ≤ bits BinOp.or IntKind.u8 (n : Int) 32) && decide (bits BinOp.or IntKind.u8 (n : Int) 32 ≤ 122)) == ((decide (97 ≤ n) && decide (n ≤ 122)) || (decide (65 ≤ n) && decide (n ≤ 90)))) = true := by kernel_rfl
theorem letter_bits (c : UInt8) : (decide ((97 : Int) ≤ bits BinOp.or IntKind.u8 (c.toNat : Int) 32) && decide (bits BinOp.or IntKind.u8 (c.toNat : Int) 32 ≤ 122)) = (lo c || up c) := by
  have h := List.all_eq_true.1 letter_all c.toNat (List.mem_range.2 (by have := c.toNat_lt; omega))
  have h2 := eq_of_beq h
  rw [h2]
  rfl
set_option maxRecDepth 100000 in
theorem letter_any (c : UInt8) (w : World) : Calls Tryd.prog 58 #[.int .u8 (c.toNat : Int)] w fun e w' => e = .returned (.bool (lo c || up c)) ∧ w = w' := by
  have HR := Lib.hid (letter_bits c)
  obtain ⟨q, hq⟩ : ∃ q, q = (lo c || up c) := ⟨_, rfl⟩
  rw [← hq] at HR ⊢
  clear hq
  by_cases h1 : (97 : Int) ≤ bits BinOp.or IntKind.u8 (c.toNat : Int) 32
  · by_cases h2 : bits BinOp.or IntKind.u8 (c.toNat : Int) 32 ≤ 122
    · have HQ : Hid (q = true) := Lib.hid (by rw [← HR.out, decide_eq_true h1, decide_eq_true h2]; rfl)
      go_enter Tryd.func58, Tryd.ntmps58
      go_wp2
      go_ret
      exact ⟨ret_bool HQ.out.symm, rfl⟩
    · have HQ : Hid (q = false) := Lib.hid (by rw [← HR.out, decide_eq_true h1, decide_eq_false h2]; rfl)
      go_enter Tryd.func58, Tryd.ntmps58
      go_wp2
      go_ret
      exact ⟨ret_bool HQ.out.symm, rfl⟩
  · have HQ : Hid (q = false) := Lib.hid (by rw [← HR.out, decide_eq_false h1]; rfl)
    go_enter Tryd.func58, Tryd.ntmps58
    go_wp2
    go_ret
    exact ⟨ret_bool HQ.out.symm, rfl⟩
theorem sign_all : (List.range 256).all (fun n => decide ((0 : Int) ≤ Lib.indexByte [45, 95, 46] (UInt8.ofNat n)) == (decide (n = 45) || decide (n = 95) || decide (n = 46))) = true := by kernel_rfl
theorem sign_is (c : UInt8) : decide ((0 : Int) ≤ Lib.indexByte [45, 95, 46] c) = (c.toNat == 45 || c.toNat == 95 || c.toNat == 46) := by
  have h := List.all_eq_true.1 sign_all c.toNat (List.mem_range.2 (by have := c.toNat_lt; omega))
  have h2 := eq_of_beq h
  rw [UInt8.ofNat_toNat] at h2
  rw [h2]
  rfl
set_option maxRecDepth 100000 in
theorem inWord_any (c : UInt8) (w : World) : Calls Tryd.prog 46 #[.int .u8 (c.toNat : Int)] w fun e w' => e = .returned (.bool (wdc c)) ∧ w = w' := by
  have HW : Hid (wdc c = ((lo c || up c) || dgt c || (c.toNat == 45 || c.toNat == 95 || c.toNat == 46))) := Lib.hid (by unfold wdc; cases lo c <;> cases up c <;> cases dgt c <;> simp)
  obtain ⟨q, hq⟩ : ∃ q, q = wdc c := ⟨_, rfl⟩
  obtain ⟨ql, hql⟩ : ∃ ql, ql = (lo c || up c) := ⟨_, rfl⟩
  obtain ⟨qd, hqd⟩ : ∃ qd, qd = dgt c := ⟨_, rfl⟩
  obtain ⟨i, hi⟩ : ∃ i, i = Lib.indexByte [45, 95, 46] c := ⟨_, rfl⟩
  have HL : Hid (∀ w, Calls Tryd.prog 58 #[.int .u8 (c.toNat : Int)] w fun e w' => e = .returned (.bool ql) ∧ w = w') := Lib.hid (fun w => by rw [hql]; exact letter_any c w)
  have HD : Hid (∀ w, Calls Tryd.prog 45 #[.int .u8 (c.toNat : Int)] w fun e w' => e = .returned (.bool qd) ∧ w = w') := Lib.hid (fun w => by rw [hqd]; exact digit_any c w)
  have HI : Hid (∀ w, Calls Tryd.prog 59 #[.string ⟨#[45, 95, 46]⟩, .int .u8 (c.toNat : Int)] w fun e w' => e = .returned (.int .i64 i) ∧ w = w') := Lib.hid (fun w => (Tryd.strings_IndexByte ⟨#[45, 95, 46]⟩ (c.toNat : Int) w).mono fun e w' ⟨q1, q2⟩ => ⟨by rw [q1, hi]; simp, q2.symm⟩)
  have HQ : Hid (q = (ql || qd || decide (0 ≤ i))) := Lib.hid (by rw [hq, HW.out, hql, hqd, hi, sign_is])
  rw [← hq]
  clear HW hq hql hqd hi
  cases ql
  · cases qd
    · cases h0 : decide ((0 : Int) ≤ i)
      case true =>
        have HZ : Hid (q = true) := Lib.hid (by rw [HQ.out, h0]; rfl)
        go_enter Tryd.func46, Tryd.ntmps46
        go_wp2_with (first
          | (go_at_call 58; refine (HL.out _).mono ?_; rintro e w2 ⟨rfl, rfl⟩)
          | (go_at_call 45; refine (HD.out _).mono ?_; rintro e w2 ⟨rfl, rfl⟩)
          | (go_at_call 59; refine (HI.out _).mono ?_; rintro e w2 ⟨rfl, rfl⟩))
        go_ret
        exact ⟨ret_bool HZ.out.symm, rfl⟩
      case false =>
        have HZ : Hid (q = false) := Lib.hid (by rw [HQ.out, h0]; rfl)
        go_enter Tryd.func46, Tryd.ntmps46
        go_wp2_with (first
          | (go_at_call 58; refine (HL.out _).mono ?_; rintro e w2 ⟨rfl, rfl⟩)
          | (go_at_call 45; refine (HD.out _).mono ?_; rintro e w2 ⟨rfl, rfl⟩)
          | (go_at_call 59; refine (HI.out _).mono ?_; rintro e w2 ⟨rfl, rfl⟩))
        go_ret
        exact ⟨ret_bool HZ.out.symm, rfl⟩
    · have HZ : Hid (q = true) := Lib.hid (by rw [HQ.out]; rfl)
      go_enter Tryd.func46, Tryd.ntmps46
      go_wp2_with (first
        | (go_at_call 58; refine (HL.out _).mono ?_; rintro e w2 ⟨rfl, rfl⟩)
        | (go_at_call 45; refine (HD.out _).mono ?_; rintro e w2 ⟨rfl, rfl⟩))
      go_ret
      exact ⟨ret_bool HZ.out.symm, rfl⟩
  · have HZ : Hid (q = true) := Lib.hid (by rw [HQ.out]; rfl)
    go_enter Tryd.func46, Tryd.ntmps46
    go_wp2_with (go_at_call 58; refine (HL.out _).mono ?_; rintro e w2 ⟨rfl, rfl⟩)
    go_ret
    exact ⟨ret_bool HZ.out.symm, rfl⟩
set_option maxRecDepth 100000 in
theorem inName_any (c : UInt8) (w : World) : Calls Tryd.prog 50 #[.int .u8 (c.toNat : Int)] w fun e w' => e = .returned (.bool (nmc c)) ∧ w = w' := by
  have HN : Hid (nmc c = ((decide ((97 : Int) ≤ (c.toNat : Int)) && decide ((c.toNat : Int) ≤ 122)) || dgt c || ((c.toNat : Int) == 45))) := Lib.hid (by
    unfold nmc lo
    have h1 : (c.toNat == 45) = ((c.toNat : Int) == 45) := by
      by_cases h : c.toNat = 45
      · rw [h]; rfl
      · have h2 : ¬ (c.toNat : Int) = 45 := by omega
        rw [beq_eq_false_iff_ne.2 h, beq_eq_false_iff_ne.2 h2]
    rw [h1]
    congr 3 <;> simp <;> omega)
  obtain ⟨q, hq⟩ : ∃ q, q = nmc c := ⟨_, rfl⟩
  obtain ⟨qd, hqd⟩ : ∃ qd, qd = dgt c := ⟨_, rfl⟩
  have HD : Hid (∀ w, Calls Tryd.prog 45 #[.int .u8 (c.toNat : Int)] w fun e w' => e = .returned (.bool qd) ∧ w = w') := Lib.hid (fun w => by rw [hqd]; exact digit_any c w)
  rw [← hq, ← hqd] at HN
  rw [← hq]
  clear hq hqd
  cases t1 : decide ((97 : Int) ≤ (c.toNat : Int)) <;> cases t2 : decide ((c.toNat : Int) ≤ 122) <;> cases qd <;> cases t3 : ((c.toNat : Int) == 45)
  all_goals (
    have HZ := Lib.hid HN.out
    rw [t1, t2, t3] at HZ
    clear HN
    go_enter Tryd.func50, Tryd.ntmps50
    go_wp2_with (go_at_call 45; refine (HD.out _).mono ?_; rintro e w2 ⟨rfl, rfl⟩)
    go_ret
    exact ⟨ret_bool HZ.out.symm, rfl⟩)
end Go.Proofs.YtjjaaooiajmclaaDoor.Ru
