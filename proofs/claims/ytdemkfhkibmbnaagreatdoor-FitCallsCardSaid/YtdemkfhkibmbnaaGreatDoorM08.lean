/- RuIs, RuByte, RuRun. -/
import Derived.Test.YtdemkfhkibmbnaaGreatDoorM07
import Derived.Lib.Strings
set_option maxRecDepth 100000
set_option maxHeartbeats 8000000
namespace Go.Proofs.YtdemkfhkibmbnaaGreatDoor.Ru
open Go.RowKit Go.Proofs.YtdemkfhkibmbnaaGreatDoor
section
variable {base : Nat} {w w' : World} {b : Nat} {s : ByteArray} {k : Nat} {d n : Int} {v : Value} {L : List Nd} {e a : Int}
theorem Prs.c1 (h : Prs base w b s k d n v L e a) : w.cell? ⟨b, 1, none⟩ = some (.int .i64 (k : Int)) := h.blk.cell (j := 1) rfl
theorem Prs.c2 (h : Prs base w b s k d n v L e a) : w.cell? ⟨b, 2, none⟩ = some (.int .i64 d) := h.blk.cell (j := 2) rfl
theorem Prs.c3 (h : Prs base w b s k d n v L e a) : w.cell? ⟨b, 3, none⟩ = some (.int .i64 n) := h.blk.cell (j := 3) rfl
theorem Prs.c4 (h : Prs base w b s k d n v L e a) : w.cell? ⟨b, 4, none⟩ = some v := h.blk.cell (j := 4) rfl
theorem Prs.c5 (h : Prs base w b s k d n v L e a) : w.cell? ⟨b, 5, none⟩ = some (.int .i64 e) := h.blk.cell (j := 5) rfl
theorem Prs.c6 (h : Prs base w b s k d n v L e a) : w.cell? ⟨b, 6, none⟩ = some (.int .i64 a) := h.blk.cell (j := 6) rfl
theorem Prs.fr (h : Prs base w b s k d n v L e a) (i : Nat) : w.frozen? ⟨b, i, none⟩ = false := h.blk.free i
end
def flt (e a e' a' : Int) : Int × Int := if e = 0 ∧ a = 0 then (e', a') else (e, a)
theorem fails_any (base b : Nat) (s : ByteArray) (k : Nat) (d n : Int) (v : Value) (L : List Nd) (e a e' a' : Int) (w : World) (h : Prs base w b s k d n v L e a) :
  Calls Tryz.prog 88 #[ptr b, .int .i64 e', .int .i64 a'] w fun r w' => r = .returned (.tuple #[]) ∧ Prs base w' b s k d n v L (flt e a e' a').1 (flt e a e' a').2 ∧ Onb b w w' := by
 have H := zz h; have c5 := h.c5; have c6 := h.c6; have f5 := h.fr 5; have f6 := h.fr 6; clear h
 by_cases hz : e = 0 ∧ a = 0
 ·obtain ⟨rfl, rfl⟩ := hz
  go_enter Tryz.func88, Tryz.ntmps88; go_wp2; exact end0 rfl rfl ⟨rfl, H.o.fault e' a', (Frp.refl (fun j => j = b) w |> fun h => Onb.set (Onb.set h 5 _) 6 _)⟩
 ·have HF : Hid (flt e a e' a' = (e, a)) := zz (by unfold flt; rw [if_neg hz])
  have HG : Hid (Prs base w b s k d n v L (flt e a e' a').1 (flt e a e' a').2) := zz (by rw [HF.o]; exact H.o)
  by_cases he : e = 0
  ·have ha : ¬ a = 0 := fun h => hz ⟨he, h⟩
   subst he; have t1 : (a == 0) = false := by simpa using ha
   clear hz; go_enter Tryz.func88, Tryz.ntmps88; go_wp2; exact end0 rfl rfl ⟨rfl, HG.o, Frp.refl _ _⟩
  ·have t1 : (e == 0) = false := by simpa using he
   clear hz; go_enter Tryz.func88, Tryz.ntmps88; go_wp2; exact end0 rfl rfl ⟨rfl, HG.o, Frp.refl _ _⟩
theorem count_any (base b : Nat) (s : ByteArray) (k : Nat) (d n : Int) (v : Value) (L : List Nd) (a' : Int) (w : World) (h : Prs base w b s k d n v L 0 0) (hn : 0 ≤ n ∧ n ≤ 100) :
  Calls Tryz.prog 117 #[ptr b, .int .i64 a'] w fun r w' => r = .returned (.tuple #[]) ∧ Prs base w' b s k d (n + 1) v L (if 64 < n + 1 then 3 else 0) (if 64 < n + 1 then a' else 0) ∧ Onb b w w' := by
 have H := zz h; have c3 := h.c3; have f3 := h.fr 3; have u1 : IntKind.i64.wrap (n + 1) = n + 1 := by rw [IntKind.wrap_i64]; omega
 have H1 := zz (h.num (n + 1)); have HO1 : Hid (Onb b w (w.setCell ⟨b, 3, none⟩ (.int .i64 (n + 1)))) := zz (Onb.set (Frp.refl _ _) 3 _); clear h
 by_cases hz : 64 < n + 1
 ·have HF : Hid (flt 0 0 3 a' = (3, a')) := zz (by unfold flt; rw [if_pos ⟨rfl, rfl⟩])
  go_enter Tryz.func117, Tryz.ntmps117; go_wp2_with (go_at_call 88; refine (fails_any base b s k d (n + 1) v L 0 0 3 a' _ H1.o).mono ?_; rintro r w2 ⟨rfl, h2, hf⟩; have H2 := zz h2; have HO2 := zz (HO1.o.then hf); clear h2 hf); refine end0 rfl rfl ⟨rfl, ?_, HO2.o⟩; have := H2.o; rw [HF.o] at this; exact this
 ·have HE : Hid ((if 64 < n + 1 then (3 : Int) else 0) = 0 ∧ (if 64 < n + 1 then a' else 0) = 0) := zz ⟨if_neg hz, if_neg hz⟩
  go_enter Tryz.func117, Tryz.ntmps117; go_wp2; refine end0 rfl rfl ⟨rfl, ?_, HO1.o⟩; exact H1.o
theorem in_any (base b : Nat) (s : ByteArray) (k : Nat) (d n : Int) (v : Value) (L : List Nd) (a' : Int) (w : World) (h : Prs base w b s k d n v L 0 0) (hd : 0 ≤ d ∧ d ≤ 100) :
  Calls Tryz.prog 129 #[ptr b, .int .i64 a'] w fun r w' => r = .returned (.bool (decide (d + 1 ≤ 32))) ∧ Prs base w' b s k (d + 1) n v L (if d + 1 ≤ 32 then 0 else 3) (if d + 1 ≤ 32 then 0 else a') ∧ Onb b w w' := by
 have H := zz h; have c2 := h.c2; have f2 := h.fr 2; have u1 : IntKind.i64.wrap (d + 1) = d + 1 := by rw [IntKind.wrap_i64]; omega
 have H1 := zz (h.deep (d + 1)); have HO1 : Hid (Onb b w (w.setCell ⟨b, 2, none⟩ (.int .i64 (d + 1)))) := zz (Onb.set (Frp.refl _ _) 2 _); clear h
 by_cases hz : 32 < d + 1
 ·have HF : Hid (flt 0 0 3 a' = (3, a')) := zz (by unfold flt; rw [if_pos ⟨rfl, rfl⟩])
  go_enter Tryz.func129, Tryz.ntmps129; go_wp2_with (go_at_call 88; refine (fails_any base b s k (d + 1) n v L 0 0 3 a' _ H1.o).mono ?_; rintro r w2 ⟨rfl, h2, hf⟩; have H2 := zz h2; have HO2 := zz (HO1.o.then hf); clear h2 hf); go_ret; refine ⟨rfl, ?_, HO2.o⟩; have := H2.o; rw [HF.o] at this; exact this
 ·have HE : Hid (decide (d + 1 ≤ 32) = true ∧ (if d + 1 ≤ 32 then (0 : Int) else 3) = 0 ∧ (if d + 1 ≤ 32 then 0 else a') = 0) := zz ⟨decide_eq_true (by omega), if_pos (by omega), if_pos (by omega)⟩
  go_enter Tryz.func129, Tryz.ntmps129; go_wp2; go_ret; refine ⟨rfl, ?_, HO1.o⟩; exact H1.o
def isB (s p : ByteArray) (k : Nat) : Bool := (strip p.data.toList (blk (rest s k))).isSome
def isK (s p : ByteArray) (k : Nat) : Nat := if isB s p k then skip s k + p.size else skip s k
theorem sub_list (s : ByteArray) (k : Nat) : (s.extract k s.size).data.toList = rest s k := by
 unfold rest
 rw [ByteArray.data_extract]; simp only [Array.toList_extract, List.extract_eq_take_drop]; exact List.take_of_length_le (by rw [List.length_drop]; simp)
theorem is_facts {s p : ByteArray} {k : Nat} (hk : k ≤ s.size) : isK s p k ≤ s.size ∧ (isB s p k = true → strip p.data.toList (blk (rest s k)) = some (rest s (isK s p k))) ∧ (isB s p k = false → strip p.data.toList (blk (rest s k)) = none ∧ rest s (isK s p k) = blk (rest s k)) := by
 obtain ⟨h1, h2, h3, -, -⟩ := skip_is hk
 unfold isK
 cases hq : isB s p k
 ·have hn : strip p.data.toList (blk (rest s k)) = none := by
   unfold isB at hq
   cases hs : strip p.data.toList (blk (rest s k)) with
   | none => rfl
   | some r => rw [hs] at hq; cases hq
  exact ⟨by simpa using h2, (fun h => by cases h), fun _ => ⟨hn, by simpa using h3.symm⟩⟩
 ·have hq2 := hq
  unfold isB at hq2
  cases hs : strip p.data.toList (blk (rest s k)) with
  | none => rw [hs] at hq2; cases hq2
  | some r =>
   have hl := strip_len hs; have hr := strip_some hs; rw [h3, rest_len] at hl; have hp : p.data.toList.length = p.size := by simp
   refine ⟨by simp only [if_true]; omega, fun _ => ?_, (fun h => by cases h)⟩; simp only [if_true]; rw [← rest_drop, ← h3, hr, ← hp, List.drop_left]
theorem strip_is (p r : List UInt8) : (strip p r).isSome = p.isPrefixOf r := by
 unfold strip
 cases p.isPrefixOf r <;> rfl
theorem pfx_is {s : ByteArray} {k : Nat} (hk : k ≤ s.size) (p : ByteArray) : Lib.hasPrefix (s.extract (skip s k) s.size).data.toList p.data.toList = isB s p k := by
 obtain ⟨h1, h2, h3, -, -⟩ := skip_is hk
 unfold isB
 rw [strip_is, sub_list, h3]
 rfl
theorem is_any (base b : Nat) (s : ByteArray) (k : Nat) (d n : Int) (v : Value) (L : List Nd) (e a : Int) (p : ByteArray) (w : World) (h : Prs base w b s k d n v L e a) (hp : p.size ≤ 100) :
  Calls Tryz.prog 116 #[ptr b, .string p] w fun r w' => r = .returned (.bool (isB s p k)) ∧ Prs base w' b s (isK s p k) d n v L e a ∧ Onb b w w' := by
 have H := zz h; obtain ⟨h1, h2, -, -, -⟩ := skip_is h.kb; obtain ⟨g1, -, -⟩ := is_facts (p := p) h.kb; obtain ⟨j, hj⟩ : ∃ j, j = skip s k := ⟨_, rfl⟩; have HPF : Hid (∀ w, Calls Tryz.prog 128 #[.string (s.extract j s.size), .string p] w fun e w' => e = .returned (.bool (isB s p k)) ∧ w = w') := zz (fun w => (Tryz.strings_HasPrefix _ p w).mono fun e w' ⟨q1, q2⟩ => ⟨by rw [q1, hj, pfx_is h.kb], q2.symm⟩); have HBL : Hid (∀ w, Prs base w b s k d n v L e a → Calls Tryz.prog 87 #[ptr b] w fun r w' => r = .returned (.tuple #[]) ∧ Prs base w' b s j d n v L e a ∧ Onb b w w') := zz (fun w h => by rw [hj]; exact blanks_any base b s k d n v L e a w h); obtain ⟨q, hq⟩ : ∃ q, q = isB s p k := ⟨_, rfl⟩; obtain ⟨m, hm⟩ : ∃ m, m = isK s p k := ⟨_, rfl⟩; have HM : Hid (m = if q = true then j + p.size else j) := zz (by rw [hm, hq, hj]; rfl); have HMS : Hid (m ≤ s.size) := zz (by rw [hm]; exact g1); have hsz := h.sz; rw [← hq] at HPF; rw [← hq, ← hm]; rw [← hj] at h1 h2; clear h g1 hj hq hm; go_enter Tryz.func116, Tryz.ntmps116; go_upto_region 2 with (go_at_call 87; refine (HBL.o _ H.o).mono ?_; rintro r w2 ⟨rfl, h2, hf⟩; have H2 := zz h2; have HO2 := zz hf; clear h2 hf)
 have b0 := H2.o.p0; have b1 := H2.o.p1; have i0 : (0 : Int) ≤ (j : Int) := by omega
 have i1 : (j : Int) ≤ (s.size : Int) := by omega
 refine wp_region_past (by kernel_rfl) (by kernel_rfl) ?_
 repeat (go_big_quiet_step ((go_at_call 128; exact past_call_same (HPF.o _))))
 refine wpQuiet_nil ?_; intro _ hw'; obtain ⟨s9, hw''⟩ := hw'; subst hw''; obtain ⟨w9, h9, e9⟩ : ∃ w9, Below w2.heap.size w2 w9 ∧ w9 = s9.val := ⟨_, s9.h, rfl⟩; rw [← e9]; have H9 := zz (H2.o.kept h9); have HO9 : Hid (Onb b w w9) := zz (HO2.o.next h9); clear h9 e9 b0 b1; cases q
 ·have HMJ : Hid (m = j) := zz (by rw [HM.o]; rfl)
  go_wp2; go_ret; refine ⟨rfl, ?_, HO9.o⟩; rw [HMJ.o]; exact H9.o
 ·have HMJ : Hid (m = j + p.size) := zz (by rw [HM.o]; rfl)
  have c1 := H9.o.c1; have f1 := H9.o.fr 1; go_wp2; go_ret; refine ⟨rfl, ?_, Onb.set HO9.o 1 _⟩; have := H9.o.at (k' := m) HMS.o; rw [HMJ.o] at this ⊢
  simpa using this
theorem digit_any (c : UInt8) (w : World) : Calls Tryz.prog 80 #[.int .u8 (c.toNat : Int)] w fun e w' => e = .returned (.bool (dgt c)) ∧ w = w' := by
 have HR : Hid (dgt c = (decide ((48 : Int) ≤ (c.toNat : Int)) && decide ((c.toNat : Int) ≤ 57))) := zz (by unfold dgt; congr 1 <;> simp <;> omega); cases t1 : decide ((48 : Int) ≤ (c.toNat : Int))
 ·have HQ : Hid (dgt c = false) := zz (by rw [HR.o, t1]; rfl)
  go_enter Tryz.func80, Tryz.ntmps80; go_wp2; go_ret; exact ⟨ret_bool HQ.o.symm, rfl⟩
 ·cases t2 : decide ((c.toNat : Int) ≤ 57)
  ·have HQ : Hid (dgt c = false) := zz (by rw [HR.o, t1, t2]; rfl)
   go_enter Tryz.func80, Tryz.ntmps80; go_wp2; go_ret; exact ⟨ret_bool HQ.o.symm, rfl⟩
  ·have HQ : Hid (dgt c = true) := zz (by rw [HR.o, t1, t2]; rfl)
   go_enter Tryz.func80, Tryz.ntmps80; go_wp2; go_ret; exact ⟨ret_bool HQ.o.symm, rfl⟩
theorem letter_all : (List.range 256).all (fun n => (decide ((97 : Int) ≤ bits BinOp.or IntKind.u8 (n : Int) 32) && decide (bits BinOp.or IntKind.u8 (n : Int) 32 ≤ 122)) == ((decide (97 ≤ n) && decide (n ≤ 122)) || (decide (65 ≤ n) && decide (n ≤ 90)))) = true := by kernel_rfl
theorem letter_bits (c : UInt8) : (decide ((97 : Int) ≤ bits BinOp.or IntKind.u8 (c.toNat : Int) 32) && decide (bits BinOp.or IntKind.u8 (c.toNat : Int) 32 ≤ 122)) = (lo c || up c) := by
 have h := List.all_eq_true.1 letter_all c.toNat (List.mem_range.2 (by have := c.toNat_lt; omega)); have h2 := eq_of_beq h; rw [h2]
 rfl
theorem letter_any (c : UInt8) (w : World) : Calls Tryz.prog 105 #[.int .u8 (c.toNat : Int)] w fun e w' => e = .returned (.bool (lo c || up c)) ∧ w = w' := by
 have HR := zz (letter_bits c); obtain ⟨q, hq⟩ : ∃ q, q = (lo c || up c) := ⟨_, rfl⟩; rw [← hq] at HR ⊢; clear hq
 by_cases h1 : (97 : Int) ≤ bits BinOp.or IntKind.u8 (c.toNat : Int) 32
 ·by_cases h2 : bits BinOp.or IntKind.u8 (c.toNat : Int) 32 ≤ 122
  ·have HQ : Hid (q = true) := zz (by rw [← HR.o, decide_eq_true h1, decide_eq_true h2]; rfl)
   go_enter Tryz.func105, Tryz.ntmps105; go_wp2; go_ret; exact ⟨ret_bool HQ.o.symm, rfl⟩
  ·have HQ : Hid (q = false) := zz (by rw [← HR.o, decide_eq_true h1, decide_eq_false h2]; rfl)
   go_enter Tryz.func105, Tryz.ntmps105; go_wp2; go_ret; exact ⟨ret_bool HQ.o.symm, rfl⟩
 ·have HQ : Hid (q = false) := zz (by rw [← HR.o, decide_eq_false h1]; rfl)
  go_enter Tryz.func105, Tryz.ntmps105; go_wp2; go_ret; exact ⟨ret_bool HQ.o.symm, rfl⟩
theorem sign_all : (List.range 256).all (fun n => decide ((0 : Int) ≤ Lib.indexByte [45, 95, 46] (UInt8.ofNat n)) == (decide (n = 45) || decide (n = 95) || decide (n = 46))) = true := by kernel_rfl
theorem sign_is (c : UInt8) : decide ((0 : Int) ≤ Lib.indexByte [45, 95, 46] c) = (c.toNat == 45 || c.toNat == 95 || c.toNat == 46) := by
 have h := List.all_eq_true.1 sign_all c.toNat (List.mem_range.2 (by have := c.toNat_lt; omega)); have h2 := eq_of_beq h; rw [UInt8.ofNat_toNat] at h2; rw [h2]
 rfl
theorem inWord_any (c : UInt8) (w : World) : Calls Tryz.prog 81 #[.int .u8 (c.toNat : Int)] w fun e w' => e = .returned (.bool (wdc c)) ∧ w = w' := by
 have HW : Hid (wdc c = ((lo c || up c) || dgt c || (c.toNat == 45 || c.toNat == 95 || c.toNat == 46))) := zz (by unfold wdc; cases lo c <;> cases up c <;> cases dgt c <;> simp); obtain ⟨q, hq⟩ : ∃ q, q = wdc c := ⟨_, rfl⟩; obtain ⟨ql, hql⟩ : ∃ ql, ql = (lo c || up c) := ⟨_, rfl⟩; obtain ⟨qd, hqd⟩ : ∃ qd, qd = dgt c := ⟨_, rfl⟩; obtain ⟨i, hi⟩ : ∃ i, i = Lib.indexByte [45, 95, 46] c := ⟨_, rfl⟩; have HL : Hid (∀ w, Calls Tryz.prog 105 #[.int .u8 (c.toNat : Int)] w fun e w' => e = .returned (.bool ql) ∧ w = w') := zz (fun w => by rw [hql]; exact letter_any c w); have HD : Hid (∀ w, Calls Tryz.prog 80 #[.int .u8 (c.toNat : Int)] w fun e w' => e = .returned (.bool qd) ∧ w = w') := zz (fun w => by rw [hqd]; exact digit_any c w); have HI : Hid (∀ w, Calls Tryz.prog 106 #[.string ⟨#[45, 95, 46]⟩, .int .u8 (c.toNat : Int)] w fun e w' => e = .returned (.int .i64 i) ∧ w = w') := zz (fun w => (Tryz.strings_IndexByte ⟨#[45, 95, 46]⟩ (c.toNat : Int) w).mono fun e w' ⟨q1, q2⟩ => ⟨by rw [q1, hi]; simp, q2.symm⟩); have HQ : Hid (q = (ql || qd || decide (0 ≤ i))) := zz (by rw [hq, HW.o, hql, hqd, hi, sign_is]); rw [← hq]; clear HW hq hql hqd hi
 cases ql
 ·cases qd
  ·cases h0 : decide ((0 : Int) ≤ i)
   case true =>
    have HZ : Hid (q = true) := zz (by rw [HQ.o, h0]; rfl); go_enter Tryz.func81, Tryz.ntmps81
    go_wp2_with (first
     | (go_at_call 105; refine (HL.o _).mono ?_; rintro e w2 ⟨rfl, rfl⟩)
     | (go_at_call 80; refine (HD.o _).mono ?_; rintro e w2 ⟨rfl, rfl⟩)
     | (go_at_call 106; refine (HI.o _).mono ?_; rintro e w2 ⟨rfl, rfl⟩))
    go_ret; exact ⟨ret_bool HZ.o.symm, rfl⟩
   case false =>
    have HZ : Hid (q = false) := zz (by rw [HQ.o, h0]; rfl); go_enter Tryz.func81, Tryz.ntmps81
    go_wp2_with (first
     | (go_at_call 105; refine (HL.o _).mono ?_; rintro e w2 ⟨rfl, rfl⟩)
     | (go_at_call 80; refine (HD.o _).mono ?_; rintro e w2 ⟨rfl, rfl⟩)
     | (go_at_call 106; refine (HI.o _).mono ?_; rintro e w2 ⟨rfl, rfl⟩))
    go_ret; exact ⟨ret_bool HZ.o.symm, rfl⟩
  ·have HZ : Hid (q = true) := zz (by rw [HQ.o]; rfl)
   go_enter Tryz.func81, Tryz.ntmps81
   go_wp2_with (first
    | (go_at_call 105; refine (HL.o _).mono ?_; rintro e w2 ⟨rfl, rfl⟩)
    | (go_at_call 80; refine (HD.o _).mono ?_; rintro e w2 ⟨rfl, rfl⟩))
   go_ret; exact ⟨ret_bool HZ.o.symm, rfl⟩
 ·have HZ : Hid (q = true) := zz (by rw [HQ.o]; rfl)
  go_enter Tryz.func81, Tryz.ntmps81; go_wp2_with (go_at_call 105; refine (HL.o _).mono ?_; rintro e w2 ⟨rfl, rfl⟩); go_ret; exact ⟨ret_bool HZ.o.symm, rfl⟩
theorem inName_any (c : UInt8) (w : World) : Calls Tryz.prog 144 #[.int .u8 (c.toNat : Int)] w fun e w' => e = .returned (.bool (nmc c)) ∧ w = w' := by
 have HN : Hid (nmc c = ((decide ((97 : Int) ≤ (c.toNat : Int)) && decide ((c.toNat : Int) ≤ 122)) || dgt c || ((c.toNat : Int) == 45))) := zz (by
  unfold nmc lo
  have h1 : (c.toNat == 45) = ((c.toNat : Int) == 45) := by
   by_cases h : c.toNat = 45
   ·rw [h]; rfl
   ·have h2 : ¬ (c.toNat : Int) = 45 := by omega
    rw [beq_eq_false_iff_ne.2 h, beq_eq_false_iff_ne.2 h2]
  rw [h1]
  congr 3 <;> simp <;> omega)
 obtain ⟨q, hq⟩ : ∃ q, q = nmc c := ⟨_, rfl⟩; obtain ⟨qd, hqd⟩ : ∃ qd, qd = dgt c := ⟨_, rfl⟩; have HD : Hid (∀ w, Calls Tryz.prog 80 #[.int .u8 (c.toNat : Int)] w fun e w' => e = .returned (.bool qd) ∧ w = w') := zz (fun w => by rw [hqd]; exact digit_any c w); rw [← hq, ← hqd] at HN; rw [← hq]; clear hq hqd; cases t1 : decide ((97 : Int) ≤ (c.toNat : Int)) <;> cases t2 : decide ((c.toNat : Int) ≤ 122) <;> cases qd <;> cases t3 : ((c.toNat : Int) == 45)
 all_goals (
  have HZ := zz HN.o; rw [t1, t2, t3] at HZ; clear HN; go_enter Tryz.func144, Tryz.ntmps144; go_wp2_with (go_at_call 80; refine (HD.o _).mono ?_; rintro e w2 ⟨rfl, rfl⟩); go_ret
  exact ⟨ret_bool HZ.o.symm, rfl⟩)
theorem run_take (m : Nat) (p : UInt8 → Bool) (r : List UInt8) : run m p r = r.take (run m p r).length := by
 unfold run
 have h := List.takeWhile_prefix (l := r.take m) p; have h2 : (List.takeWhile p (r.take m)) <+: r := h.trans (List.take_prefix m r); exact List.prefix_iff_eq_take.1 h2
theorem run_spec {s : ByteArray} {k m : Nat} {p : UInt8 → Bool} (hk : k ≤ s.size) : k + (run m p (rest s k)).length ≤ s.size ∧ (run m p (rest s k)).length ≤ m ∧
  (∀ i (h : k + i < s.size), i < (run m p (rest s k)).length → p s[k + i] = true) ∧ (∀ h : k + (run m p (rest s k)).length < s.size, (run m p (rest s k)).length < m → p s[k + (run m p (rest s k)).length] = false) := by
 obtain ⟨h1, h2⟩ := run_len m p (rest s k); rw [rest_len] at h2; refine ⟨by omega, h1, fun i h hi => ?_, fun h hm => ?_⟩
 ·have h3 := run_all m p (rest s k) _ (List.getElem_mem hi)
  have h4 : (run m p (rest s k))[i] = s[k + i] := by
   have h5 := run_take m p (rest s k)
   have h6 : (run m p (rest s k))[i]? = (rest s k)[i]? := by
    conv => lhs; rw [h5]
    rw [List.getElem?_take, if_pos hi]
   rw [List.getElem?_eq_getElem hi] at h6
   unfold rest at h6
   rw [List.getElem?_drop, List.getElem?_eq_getElem (by simpa using h)] at h6; exact Option.some.inj h6
  rw [h4] at h3; exact h3
 ·obtain ⟨n, hn⟩ : ∃ n, n = (run m p (rest s k)).length := ⟨_, rfl⟩
  cases hq : p s[k + (run m p (rest s k)).length] with
  | false => rfl
  | true =>
   exfalso
   have key : ∀ (r : List UInt8) (m n : Nat), n = (List.takeWhile p (r.take m)).length → n < m → (h : n < r.length) → p r[n] = false := by
    intro r
    induction r with
    | nil => intro m n _ _ h; cases h
    | cons c r ih =>
     intro m n h1 h2 h3
     match m, h2 with
     | m + 1, h2 =>
      rw [List.take_succ_cons, List.takeWhile_cons] at h1; cases hc : p c
      ·rw [hc] at h1
       simp at h1
       subst h1; exact hc
      ·rw [hc] at h1
       simp only [if_true, List.length_cons] at h1; subst h1; exact ih m _ rfl (by omega) (by simpa using h3)
   have h7 := key (rest s k) m _ (by unfold run at hn; exact hn) (by omega) (by rw [rest_len]; omega)
   unfold rest at h7
   rw [List.getElem_drop] at h7; simp only [hn] at h7; have h8 : p s[k + (run m p (rest s k)).length] = false := h7; rw [hq] at h8; cases h8
theorem bs_sub (s : ByteArray) (k l : Nat) : s.extract k (k + l) = bs ((rest s k).take l) := by
 unfold bs rest
 apply ByteArray.ext
 rw [ByteArray.data_extract]
 apply Array.toList_inj.1
 simp only [Array.toList_extract, List.extract_eq_take_drop]
 congr 1
 omega
theorem run_name (base b : Nat) (s : ByteArray) (k : Nat) (d n : Int) (v : Value) (L : List Nd) (e a : Int) (w : World) (h : Prs base w b s k d n v L e a) :
  Calls Tryz.prog 143 #[ptr b, .int .i64 24, .func (.func 144) #[] #[]] w fun r w' => r = .returned (.string (bs (run 24 nmc (rest s k)))) ∧ Prs base w' b s (k + (run 24 nmc (rest s k)).length) d n v L e a ∧ Onb b w w' := by
 obtain ⟨g1, g2, g3, g4⟩ := run_spec (m := 24) (p := nmc) h.kb; obtain ⟨t, ht⟩ : ∃ t, t = bs (run 24 nmc (rest s k)) := ⟨_, rfl⟩; obtain ⟨l, hl⟩ : ∃ l, l = (run 24 nmc (rest s k)).length := ⟨_, rfl⟩; have HEX : Hid (s.extract k (k + l) = t) := zz (by rw [ht, hl, bs_sub]; congr 1; exact (run_take _ _ _).symm); rw [← ht, ← hl]; rw [← hl] at g1 g2; have HYES : Hid (∀ i (h : k + i < s.size), i < l → nmc s[k + i] = true) := zz (fun i h hi => g3 i h (by omega)); have HNO : Hid (∀ h : k + l < s.size, l < 24 → nmc s[k + l] = false) := zz (by subst hl; exact g4); have HPC : Hid (∀ (c : UInt8) w, Calls Tryz.prog 144 #[.int .u8 (c.toNat : Int)] w fun e w' => e = .returned (.bool (nmc c)) ∧ w = w') := zz inName_any; have H := zz h; have hsz := h.sz; have hkb := h.kb; have c1 := h.c1; clear h g3 g4 ht hl; go_enter Tryz.func143, Tryz.ntmps143; go_wp2
 go_loopw [] (fun wr => ∃ i : Nat, i ≤ l ∧ Hid (Prs base wr b s (k + i) d n v L e a) ∧ Hid (Onb b w wr)) (fun wr => k + l - (intOf ((wr.cell? ⟨b, 1, none⟩).getD undef)).toNat)
 case atStart => exact ⟨0, Nat.zero_le _, H, zz (Frp.refl _ _)⟩
 case round =>
  obtain ⟨i, h2, HP, HF⟩ := hrel; obtain ⟨j, hj⟩ : ∃ j, j = k + i := ⟨_, rfl⟩; rw [← hj] at HP; have HJ := zz hj; have hkj : k ≤ j ∧ j ≤ s.size ∧ j - k = i := by omega
  obtain ⟨k1, k2, k3⟩ := hkj; clear hj; have b0 := HP.o.p0; have b1 := HP.o.p1; have i0 : (0 : Int) ≤ (j : Int) := by omega
  have u1 : IntKind.i64.wrap ((j : Int) - (k : Int)) = (j : Int) - (k : Int) := by rw [IntKind.wrap_i64]; omega
  by_cases hlt : i < l
  ·have i2 : j < s.size := by have := HJ.o; omega
   have i1 : (j : Int) < (s.size : Int) := by omega
   have i3 : (j : Int) - (k : Int) < 24 := by omega
   obtain ⟨c, hc⟩ : ∃ c, c = s[j] := ⟨_, rfl⟩; have hcc : s[j] = c := hc.symm; have t1 : nmc c = true := by rw [hc]; have := HJ.o; subst this; exact HYES.o i i2 hlt
   clear hc; go_wp2; refine wp_region_past (by kernel_rfl) (by kernel_rfl) ?_
   repeat (go_big_quiet_step ((go_at_call 144; exact past_call_same (HPC.o _ _))))
   refine wpQuiet_nil ?_; intro _ hw'; obtain ⟨s9, hw''⟩ := hw'; subst hw''; obtain ⟨w9, h9, e9⟩ : ∃ w9, Below wr.heap.size wr w9 ∧ w9 = s9.val := ⟨_, s9.h, rfl⟩; rw [← e9]; have HN := zz (HP.o.kept h9); have HF9 : Hid (Onb b w w9) := zz (HF.o.next h9); clear h9 e9 b0 b1; have c1 := HN.o.c1; have f1 := HN.o.fr 1; go_wp2; go_roundw
   case rel => exact ⟨i + 1, hlt, zz (by have := HN.o.at (k' := k + (i + 1)) (by omega); rw [HJ.o]; simpa [Int.add_assoc] using this), zz (Onb.set HF9.o 1 _)⟩
   case measure =>
    have e1 := HP.o.c1; have e2 := (HN.o.blk.set 1 (.int .i64 ((j : Int) + 1))).cell (j := 1) rfl; rw [e1, e2]
    simp [intOf]; omega
  ·obtain rfl : i = l := by omega
   have j1 : (k : Int) ≤ (j : Int) := by omega
   have j2 : (j : Int) ≤ (s.size : Int) := by omega
   have hj := HJ.o; rw [← hj] at HEX ⊢; clear hj
   by_cases hin : j < s.size
   ·have i1 : (j : Int) < (s.size : Int) := by omega
    by_cases hm : i < 24
    ·have i3 : (j : Int) - (k : Int) < 24 := by omega
     obtain ⟨c, hc⟩ : ∃ c, c = s[j] := ⟨_, rfl⟩; have hcc : s[j] = c := hc.symm; have t1 : nmc c = false := by rw [hc]; have := HJ.o; subst this; exact HNO.o hin hm
     clear hc; go_wp2; refine wp_region_past (by kernel_rfl) (by kernel_rfl) ?_
     repeat (go_big_quiet_step ((go_at_call 144; exact past_call_same (HPC.o _ _))))
     refine wpQuiet_nil ?_; intro _ hw'; obtain ⟨s9, hw''⟩ := hw'; subst hw''; obtain ⟨w9, h9, e9⟩ : ∃ w9, Below wr.heap.size wr w9 ∧ w9 = s9.val := ⟨_, s9.h, rfl⟩; rw [← e9]; have HN := zz (HP.o.kept h9); have HF9 : Hid (Onb b w w9) := zz (HF.o.next h9); clear h9 e9 b0 b1; have g0 := HN.o.p0; have g1 := HN.o.p1; go_wp2; refine wp_region_past (by kernel_rfl) (by kernel_rfl) ?_
     repeat (go_big_quiet_step (fail))
     refine wpQuiet_nil ?_; intro _ hw'; obtain ⟨s8, hw''⟩ := hw'; subst hw''; obtain ⟨w8, h8, e8⟩ : ∃ w8, Below w9.heap.size w9 w8 ∧ w8 = s8.val := ⟨_, s8.h, rfl⟩; rw [← e8]; have H8 := zz (HN.o.kept h8); have HF8 : Hid (Onb b w w8) := zz (HF9.o.next h8); clear h8 e8 g0 g1; go_wp2; go_ret; exact ⟨(by rw [HEX.o]; rfl), (by rw [← HJ.o]; exact H8.o), HF8.o⟩
    ·have i3 : ¬ (j : Int) - (k : Int) < 24 := by omega
     have i4 : decide ((j : Int) - (k : Int) < 24) = false := decide_eq_false i3; go_wp2; refine wp_region_past (by kernel_rfl) (by kernel_rfl) ?_
     repeat (go_big_quiet_step ((go_at_call 144; exact past_call_same (HPC.o _ _))))
     refine wpQuiet_nil ?_; intro _ hw'; obtain ⟨s9, hw''⟩ := hw'; subst hw''; obtain ⟨w9, h9, e9⟩ : ∃ w9, Below wr.heap.size wr w9 ∧ w9 = s9.val := ⟨_, s9.h, rfl⟩; rw [← e9]; have HN := zz (HP.o.kept h9); have HF9 : Hid (Onb b w w9) := zz (HF.o.next h9); clear h9 e9 b0 b1; have g0 := HN.o.p0; have g1 := HN.o.p1; go_wp2; refine wp_region_past (by kernel_rfl) (by kernel_rfl) ?_
     repeat (go_big_quiet_step (fail))
     refine wpQuiet_nil ?_; intro _ hw'; obtain ⟨s8, hw''⟩ := hw'; subst hw''; obtain ⟨w8, h8, e8⟩ : ∃ w8, Below w9.heap.size w9 w8 ∧ w8 = s8.val := ⟨_, s8.h, rfl⟩; rw [← e8]; have H8 := zz (HN.o.kept h8); have HF8 : Hid (Onb b w w8) := zz (HF9.o.next h8); clear h8 e8 g0 g1; go_wp2; go_ret; exact ⟨(by rw [HEX.o]; rfl), (by rw [← HJ.o]; exact H8.o), HF8.o⟩
   ·have i1 : ¬ (j : Int) < (s.size : Int) := by omega
    have i4 : decide ((j : Int) < (s.size : Int)) = false := decide_eq_false i1; go_wp2; refine wp_region_past (by kernel_rfl) (by kernel_rfl) ?_
    repeat (go_big_quiet_step ((go_at_call 144; exact past_call_same (HPC.o _ _))))
    refine wpQuiet_nil ?_; intro _ hw'; obtain ⟨s9, hw''⟩ := hw'; subst hw''; obtain ⟨w9, h9, e9⟩ : ∃ w9, Below wr.heap.size wr w9 ∧ w9 = s9.val := ⟨_, s9.h, rfl⟩; rw [← e9]; have HN := zz (HP.o.kept h9); have HF9 : Hid (Onb b w w9) := zz (HF.o.next h9); clear h9 e9 b0 b1; have g0 := HN.o.p0; have g1 := HN.o.p1; go_wp2; refine wp_region_past (by kernel_rfl) (by kernel_rfl) ?_
    repeat (go_big_quiet_step (fail))
    refine wpQuiet_nil ?_; intro _ hw'; obtain ⟨s8, hw''⟩ := hw'; subst hw''; obtain ⟨w8, h8, e8⟩ : ∃ w8, Below w9.heap.size w9 w8 ∧ w8 = s8.val := ⟨_, s8.h, rfl⟩; rw [← e8]; have H8 := zz (HN.o.kept h8); have HF8 : Hid (Onb b w w8) := zz (HF9.o.next h8); clear h8 e8 g0 g1; go_wp2; go_ret; exact ⟨(by rw [HEX.o]; rfl), (by rw [← HJ.o]; exact H8.o), HF8.o⟩
theorem run_word (base b : Nat) (s : ByteArray) (k : Nat) (d n : Int) (v : Value) (L : List Nd) (e a : Int) (w : World) (h : Prs base w b s k d n v L e a) :
  Calls Tryz.prog 143 #[ptr b, .int .i64 32, .func (.func 81) #[] #[]] w fun r w' => r = .returned (.string (bs (run 32 wdc (rest s k)))) ∧ Prs base w' b s (k + (run 32 wdc (rest s k)).length) d n v L e a ∧ Onb b w w' := by
 obtain ⟨g1, g2, g3, g4⟩ := run_spec (m := 32) (p := wdc) h.kb; obtain ⟨t, ht⟩ : ∃ t, t = bs (run 32 wdc (rest s k)) := ⟨_, rfl⟩; obtain ⟨l, hl⟩ : ∃ l, l = (run 32 wdc (rest s k)).length := ⟨_, rfl⟩; have HEX : Hid (s.extract k (k + l) = t) := zz (by rw [ht, hl, bs_sub]; congr 1; exact (run_take _ _ _).symm); rw [← ht, ← hl]; rw [← hl] at g1 g2; have HYES : Hid (∀ i (h : k + i < s.size), i < l → wdc s[k + i] = true) := zz (fun i h hi => g3 i h (by omega)); have HNO : Hid (∀ h : k + l < s.size, l < 32 → wdc s[k + l] = false) := zz (by subst hl; exact g4); have HPC : Hid (∀ (c : UInt8) w, Calls Tryz.prog 81 #[.int .u8 (c.toNat : Int)] w fun e w' => e = .returned (.bool (wdc c)) ∧ w = w') := zz inWord_any; have H := zz h; have hsz := h.sz; have hkb := h.kb; have c1 := h.c1; clear h g3 g4 ht hl; go_enter Tryz.func143, Tryz.ntmps143; go_wp2
 go_loopw [] (fun wr => ∃ i : Nat, i ≤ l ∧ Hid (Prs base wr b s (k + i) d n v L e a) ∧ Hid (Onb b w wr)) (fun wr => k + l - (intOf ((wr.cell? ⟨b, 1, none⟩).getD undef)).toNat)
 case atStart => exact ⟨0, Nat.zero_le _, H, zz (Frp.refl _ _)⟩
 case round =>
  obtain ⟨i, h2, HP, HF⟩ := hrel; obtain ⟨j, hj⟩ : ∃ j, j = k + i := ⟨_, rfl⟩; rw [← hj] at HP; have HJ := zz hj; have hkj : k ≤ j ∧ j ≤ s.size ∧ j - k = i := by omega
  obtain ⟨k1, k2, k3⟩ := hkj; clear hj; have b0 := HP.o.p0; have b1 := HP.o.p1; have i0 : (0 : Int) ≤ (j : Int) := by omega
  have u1 : IntKind.i64.wrap ((j : Int) - (k : Int)) = (j : Int) - (k : Int) := by rw [IntKind.wrap_i64]; omega
  by_cases hlt : i < l
  ·have i2 : j < s.size := by have := HJ.o; omega
   have i1 : (j : Int) < (s.size : Int) := by omega
   have i3 : (j : Int) - (k : Int) < 32 := by omega
   obtain ⟨c, hc⟩ : ∃ c, c = s[j] := ⟨_, rfl⟩; have hcc : s[j] = c := hc.symm; have t1 : wdc c = true := by rw [hc]; have := HJ.o; subst this; exact HYES.o i i2 hlt
   clear hc; go_wp2; refine wp_region_past (by kernel_rfl) (by kernel_rfl) ?_
   repeat (go_big_quiet_step ((go_at_call 81; exact past_call_same (HPC.o _ _))))
   refine wpQuiet_nil ?_; intro _ hw'; obtain ⟨s9, hw''⟩ := hw'; subst hw''; obtain ⟨w9, h9, e9⟩ : ∃ w9, Below wr.heap.size wr w9 ∧ w9 = s9.val := ⟨_, s9.h, rfl⟩; rw [← e9]; have HN := zz (HP.o.kept h9); have HF9 : Hid (Onb b w w9) := zz (HF.o.next h9); clear h9 e9 b0 b1; have c1 := HN.o.c1; have f1 := HN.o.fr 1; go_wp2; go_roundw
   case rel => exact ⟨i + 1, hlt, zz (by have := HN.o.at (k' := k + (i + 1)) (by omega); rw [HJ.o]; simpa [Int.add_assoc] using this), zz (Onb.set HF9.o 1 _)⟩
   case measure =>
    have e1 := HP.o.c1; have e2 := (HN.o.blk.set 1 (.int .i64 ((j : Int) + 1))).cell (j := 1) rfl; rw [e1, e2]
    simp [intOf]; omega
  ·obtain rfl : i = l := by omega
   have j1 : (k : Int) ≤ (j : Int) := by omega
   have j2 : (j : Int) ≤ (s.size : Int) := by omega
   have hj := HJ.o; rw [← hj] at HEX ⊢; clear hj
   by_cases hin : j < s.size
   ·have i1 : (j : Int) < (s.size : Int) := by omega
    by_cases hm : i < 32
    ·have i3 : (j : Int) - (k : Int) < 32 := by omega
     obtain ⟨c, hc⟩ : ∃ c, c = s[j] := ⟨_, rfl⟩; have hcc : s[j] = c := hc.symm; have t1 : wdc c = false := by rw [hc]; have := HJ.o; subst this; exact HNO.o hin hm
     clear hc; go_wp2; refine wp_region_past (by kernel_rfl) (by kernel_rfl) ?_
     repeat (go_big_quiet_step ((go_at_call 81; exact past_call_same (HPC.o _ _))))
     refine wpQuiet_nil ?_; intro _ hw'; obtain ⟨s9, hw''⟩ := hw'; subst hw''; obtain ⟨w9, h9, e9⟩ : ∃ w9, Below wr.heap.size wr w9 ∧ w9 = s9.val := ⟨_, s9.h, rfl⟩; rw [← e9]; have HN := zz (HP.o.kept h9); have HF9 : Hid (Onb b w w9) := zz (HF.o.next h9); clear h9 e9 b0 b1; have g0 := HN.o.p0; have g1 := HN.o.p1; go_wp2; refine wp_region_past (by kernel_rfl) (by kernel_rfl) ?_
     repeat (go_big_quiet_step (fail))
     refine wpQuiet_nil ?_; intro _ hw'; obtain ⟨s8, hw''⟩ := hw'; subst hw''; obtain ⟨w8, h8, e8⟩ : ∃ w8, Below w9.heap.size w9 w8 ∧ w8 = s8.val := ⟨_, s8.h, rfl⟩; rw [← e8]; have H8 := zz (HN.o.kept h8); have HF8 : Hid (Onb b w w8) := zz (HF9.o.next h8); clear h8 e8 g0 g1; go_wp2; go_ret; exact ⟨(by rw [HEX.o]; rfl), (by rw [← HJ.o]; exact H8.o), HF8.o⟩
    ·have i3 : ¬ (j : Int) - (k : Int) < 32 := by omega
     have i4 : decide ((j : Int) - (k : Int) < 32) = false := decide_eq_false i3; go_wp2; refine wp_region_past (by kernel_rfl) (by kernel_rfl) ?_
     repeat (go_big_quiet_step ((go_at_call 81; exact past_call_same (HPC.o _ _))))
     refine wpQuiet_nil ?_; intro _ hw'; obtain ⟨s9, hw''⟩ := hw'; subst hw''; obtain ⟨w9, h9, e9⟩ : ∃ w9, Below wr.heap.size wr w9 ∧ w9 = s9.val := ⟨_, s9.h, rfl⟩; rw [← e9]; have HN := zz (HP.o.kept h9); have HF9 : Hid (Onb b w w9) := zz (HF.o.next h9); clear h9 e9 b0 b1; have g0 := HN.o.p0; have g1 := HN.o.p1; go_wp2; refine wp_region_past (by kernel_rfl) (by kernel_rfl) ?_
     repeat (go_big_quiet_step (fail))
     refine wpQuiet_nil ?_; intro _ hw'; obtain ⟨s8, hw''⟩ := hw'; subst hw''; obtain ⟨w8, h8, e8⟩ : ∃ w8, Below w9.heap.size w9 w8 ∧ w8 = s8.val := ⟨_, s8.h, rfl⟩; rw [← e8]; have H8 := zz (HN.o.kept h8); have HF8 : Hid (Onb b w w8) := zz (HF9.o.next h8); clear h8 e8 g0 g1; go_wp2; go_ret; exact ⟨(by rw [HEX.o]; rfl), (by rw [← HJ.o]; exact H8.o), HF8.o⟩
   ·have i1 : ¬ (j : Int) < (s.size : Int) := by omega
    have i4 : decide ((j : Int) < (s.size : Int)) = false := decide_eq_false i1; go_wp2; refine wp_region_past (by kernel_rfl) (by kernel_rfl) ?_
    repeat (go_big_quiet_step ((go_at_call 81; exact past_call_same (HPC.o _ _))))
    refine wpQuiet_nil ?_; intro _ hw'; obtain ⟨s9, hw''⟩ := hw'; subst hw''; obtain ⟨w9, h9, e9⟩ : ∃ w9, Below wr.heap.size wr w9 ∧ w9 = s9.val := ⟨_, s9.h, rfl⟩; rw [← e9]; have HN := zz (HP.o.kept h9); have HF9 : Hid (Onb b w w9) := zz (HF.o.next h9); clear h9 e9 b0 b1; have g0 := HN.o.p0; have g1 := HN.o.p1; go_wp2; refine wp_region_past (by kernel_rfl) (by kernel_rfl) ?_
    repeat (go_big_quiet_step (fail))
    refine wpQuiet_nil ?_; intro _ hw'; obtain ⟨s8, hw''⟩ := hw'; subst hw''; obtain ⟨w8, h8, e8⟩ : ∃ w8, Below w9.heap.size w9 w8 ∧ w8 = s8.val := ⟨_, s8.h, rfl⟩; rw [← e8]; have H8 := zz (HN.o.kept h8); have HF8 : Hid (Onb b w w8) := zz (HF9.o.next h8); clear h8 e8 g0 g1; go_wp2; go_ret; exact ⟨(by rw [HEX.o]; rfl), (by rw [← HJ.o]; exact H8.o), HF8.o⟩
theorem run_digs (base b : Nat) (s : ByteArray) (k : Nat) (d n : Int) (v : Value) (L : List Nd) (e a : Int) (w : World) (h : Prs base w b s k d n v L e a) :
  Calls Tryz.prog 143 #[ptr b, .int .i64 12, .func (.func 80) #[] #[]] w fun r w' => r = .returned (.string (bs (run 12 dgt (rest s k)))) ∧ Prs base w' b s (k + (run 12 dgt (rest s k)).length) d n v L e a ∧ Onb b w w' := by
 obtain ⟨g1, g2, g3, g4⟩ := run_spec (m := 12) (p := dgt) h.kb; obtain ⟨t, ht⟩ : ∃ t, t = bs (run 12 dgt (rest s k)) := ⟨_, rfl⟩; obtain ⟨l, hl⟩ : ∃ l, l = (run 12 dgt (rest s k)).length := ⟨_, rfl⟩; have HEX : Hid (s.extract k (k + l) = t) := zz (by rw [ht, hl, bs_sub]; congr 1; exact (run_take _ _ _).symm); rw [← ht, ← hl]; rw [← hl] at g1 g2; have HYES : Hid (∀ i (h : k + i < s.size), i < l → dgt s[k + i] = true) := zz (fun i h hi => g3 i h (by omega)); have HNO : Hid (∀ h : k + l < s.size, l < 12 → dgt s[k + l] = false) := zz (by subst hl; exact g4); have HPC : Hid (∀ (c : UInt8) w, Calls Tryz.prog 80 #[.int .u8 (c.toNat : Int)] w fun e w' => e = .returned (.bool (dgt c)) ∧ w = w') := zz digit_any; have H := zz h; have hsz := h.sz; have hkb := h.kb; have c1 := h.c1; clear h g3 g4 ht hl; go_enter Tryz.func143, Tryz.ntmps143; go_wp2
 go_loopw [] (fun wr => ∃ i : Nat, i ≤ l ∧ Hid (Prs base wr b s (k + i) d n v L e a) ∧ Hid (Onb b w wr)) (fun wr => k + l - (intOf ((wr.cell? ⟨b, 1, none⟩).getD undef)).toNat)
 case atStart => exact ⟨0, Nat.zero_le _, H, zz (Frp.refl _ _)⟩
 case round =>
  obtain ⟨i, h2, HP, HF⟩ := hrel; obtain ⟨j, hj⟩ : ∃ j, j = k + i := ⟨_, rfl⟩; rw [← hj] at HP; have HJ := zz hj; have hkj : k ≤ j ∧ j ≤ s.size ∧ j - k = i := by omega
  obtain ⟨k1, k2, k3⟩ := hkj; clear hj; have b0 := HP.o.p0; have b1 := HP.o.p1; have i0 : (0 : Int) ≤ (j : Int) := by omega
  have u1 : IntKind.i64.wrap ((j : Int) - (k : Int)) = (j : Int) - (k : Int) := by rw [IntKind.wrap_i64]; omega
  by_cases hlt : i < l
  ·have i2 : j < s.size := by have := HJ.o; omega
   have i1 : (j : Int) < (s.size : Int) := by omega
   have i3 : (j : Int) - (k : Int) < 12 := by omega
   obtain ⟨c, hc⟩ : ∃ c, c = s[j] := ⟨_, rfl⟩; have hcc : s[j] = c := hc.symm; have t1 : dgt c = true := by rw [hc]; have := HJ.o; subst this; exact HYES.o i i2 hlt
   clear hc; go_wp2; refine wp_region_past (by kernel_rfl) (by kernel_rfl) ?_
   repeat (go_big_quiet_step ((go_at_call 80; exact past_call_same (HPC.o _ _))))
   refine wpQuiet_nil ?_; intro _ hw'; obtain ⟨s9, hw''⟩ := hw'; subst hw''; obtain ⟨w9, h9, e9⟩ : ∃ w9, Below wr.heap.size wr w9 ∧ w9 = s9.val := ⟨_, s9.h, rfl⟩; rw [← e9]; have HN := zz (HP.o.kept h9); have HF9 : Hid (Onb b w w9) := zz (HF.o.next h9); clear h9 e9 b0 b1; have c1 := HN.o.c1; have f1 := HN.o.fr 1; go_wp2; go_roundw
   case rel => exact ⟨i + 1, hlt, zz (by have := HN.o.at (k' := k + (i + 1)) (by omega); rw [HJ.o]; simpa [Int.add_assoc] using this), zz (Onb.set HF9.o 1 _)⟩
   case measure =>
    have e1 := HP.o.c1; have e2 := (HN.o.blk.set 1 (.int .i64 ((j : Int) + 1))).cell (j := 1) rfl; rw [e1, e2]
    simp [intOf]; omega
  ·obtain rfl : i = l := by omega
   have j1 : (k : Int) ≤ (j : Int) := by omega
   have j2 : (j : Int) ≤ (s.size : Int) := by omega
   have hj := HJ.o; rw [← hj] at HEX ⊢; clear hj
   by_cases hin : j < s.size
   ·have i1 : (j : Int) < (s.size : Int) := by omega
    by_cases hm : i < 12
    ·have i3 : (j : Int) - (k : Int) < 12 := by omega
     obtain ⟨c, hc⟩ : ∃ c, c = s[j] := ⟨_, rfl⟩; have hcc : s[j] = c := hc.symm; have t1 : dgt c = false := by rw [hc]; have := HJ.o; subst this; exact HNO.o hin hm
     clear hc; go_wp2; refine wp_region_past (by kernel_rfl) (by kernel_rfl) ?_
     repeat (go_big_quiet_step ((go_at_call 80; exact past_call_same (HPC.o _ _))))
     refine wpQuiet_nil ?_; intro _ hw'; obtain ⟨s9, hw''⟩ := hw'; subst hw''; obtain ⟨w9, h9, e9⟩ : ∃ w9, Below wr.heap.size wr w9 ∧ w9 = s9.val := ⟨_, s9.h, rfl⟩; rw [← e9]; have HN := zz (HP.o.kept h9); have HF9 : Hid (Onb b w w9) := zz (HF.o.next h9); clear h9 e9 b0 b1; have g0 := HN.o.p0; have g1 := HN.o.p1; go_wp2; refine wp_region_past (by kernel_rfl) (by kernel_rfl) ?_
     repeat (go_big_quiet_step (fail))
     refine wpQuiet_nil ?_; intro _ hw'; obtain ⟨s8, hw''⟩ := hw'; subst hw''; obtain ⟨w8, h8, e8⟩ : ∃ w8, Below w9.heap.size w9 w8 ∧ w8 = s8.val := ⟨_, s8.h, rfl⟩; rw [← e8]; have H8 := zz (HN.o.kept h8); have HF8 : Hid (Onb b w w8) := zz (HF9.o.next h8); clear h8 e8 g0 g1; go_wp2; go_ret; exact ⟨(by rw [HEX.o]; rfl), (by rw [← HJ.o]; exact H8.o), HF8.o⟩
    ·have i3 : ¬ (j : Int) - (k : Int) < 12 := by omega
     have i4 : decide ((j : Int) - (k : Int) < 12) = false := decide_eq_false i3; go_wp2; refine wp_region_past (by kernel_rfl) (by kernel_rfl) ?_
     repeat (go_big_quiet_step ((go_at_call 80; exact past_call_same (HPC.o _ _))))
     refine wpQuiet_nil ?_; intro _ hw'; obtain ⟨s9, hw''⟩ := hw'; subst hw''; obtain ⟨w9, h9, e9⟩ : ∃ w9, Below wr.heap.size wr w9 ∧ w9 = s9.val := ⟨_, s9.h, rfl⟩; rw [← e9]; have HN := zz (HP.o.kept h9); have HF9 : Hid (Onb b w w9) := zz (HF.o.next h9); clear h9 e9 b0 b1; have g0 := HN.o.p0; have g1 := HN.o.p1; go_wp2; refine wp_region_past (by kernel_rfl) (by kernel_rfl) ?_
     repeat (go_big_quiet_step (fail))
     refine wpQuiet_nil ?_; intro _ hw'; obtain ⟨s8, hw''⟩ := hw'; subst hw''; obtain ⟨w8, h8, e8⟩ : ∃ w8, Below w9.heap.size w9 w8 ∧ w8 = s8.val := ⟨_, s8.h, rfl⟩; rw [← e8]; have H8 := zz (HN.o.kept h8); have HF8 : Hid (Onb b w w8) := zz (HF9.o.next h8); clear h8 e8 g0 g1; go_wp2; go_ret; exact ⟨(by rw [HEX.o]; rfl), (by rw [← HJ.o]; exact H8.o), HF8.o⟩
   ·have i1 : ¬ (j : Int) < (s.size : Int) := by omega
    have i4 : decide ((j : Int) < (s.size : Int)) = false := decide_eq_false i1; go_wp2; refine wp_region_past (by kernel_rfl) (by kernel_rfl) ?_
    repeat (go_big_quiet_step ((go_at_call 80; exact past_call_same (HPC.o _ _))))
    refine wpQuiet_nil ?_; intro _ hw'; obtain ⟨s9, hw''⟩ := hw'; subst hw''; obtain ⟨w9, h9, e9⟩ : ∃ w9, Below wr.heap.size wr w9 ∧ w9 = s9.val := ⟨_, s9.h, rfl⟩; rw [← e9]; have HN := zz (HP.o.kept h9); have HF9 : Hid (Onb b w w9) := zz (HF.o.next h9); clear h9 e9 b0 b1; have g0 := HN.o.p0; have g1 := HN.o.p1; go_wp2; refine wp_region_past (by kernel_rfl) (by kernel_rfl) ?_
    repeat (go_big_quiet_step (fail))
    refine wpQuiet_nil ?_; intro _ hw'; obtain ⟨s8, hw''⟩ := hw'; subst hw''; obtain ⟨w8, h8, e8⟩ : ∃ w8, Below w9.heap.size w9 w8 ∧ w8 = s8.val := ⟨_, s8.h, rfl⟩; rw [← e8]; have H8 := zz (HN.o.kept h8); have HF8 : Hid (Onb b w w8) := zz (HF9.o.next h8); clear h8 e8 g0 g1; go_wp2; go_ret; exact ⟨(by rw [HEX.o]; rfl), (by rw [← HJ.o]; exact H8.o), HF8.o⟩
