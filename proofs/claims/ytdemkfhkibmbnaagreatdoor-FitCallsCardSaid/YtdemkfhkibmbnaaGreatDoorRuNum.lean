/- RuNum. -/
import Derived.Test.YtdemkfhkibmbnaaGreatDoorM08
import Derived.Lib.ParseIntB
set_option maxRecDepth 100000
set_option maxHeartbeats 8000000
namespace Go.Proofs.YtdemkfhkibmbnaaGreatDoor.Ru
open Go.RowKit Go.Proofs.YtdemkfhkibmbnaaGreatDoor
def ErrV (w : World) : Prop := ∃ (tp : TypeId) (p : Value), w.var? Tryz.prog "strconv.ErrSyntax" = some #[.iface tp p]
theorem ErrV.below {w w' : World} (h : ErrV w) (hb : Below w.heap.size w w') : ErrV w' := by
 obtain ⟨tp, p, h⟩ := h; refine ⟨tp, p, ?_⟩
 unfold World.var? at *
 obtain ⟨g, hgn⟩ : ∃ g, Tryz.prog.globalNamed "strconv.ErrSyntax" = some g := by
  cases hq : Tryz.prog.globalNamed "strconv.ErrSyntax" with
  | some g => exact ⟨g, rfl⟩
  | none => rw [hq] at h; cases h
 rw [hgn] at h ⊢; simp only [Option.bind_some] at h ⊢
 have hlt : g < w.heap.size := by
  rcases Nat.lt_or_ge g w.heap.size with h' | h'
  ·exact h'
  ·rw [Array.getElem?_eq_none h'] at h; cases h
 rw [hb.block g hlt]; exact h
theorem uintM_dig : ∀ (l : List UInt8) (acc : Nat), (∀ c ∈ l, dgt c = true) → (acc + 1) * 10 ^ l.length ≤ 10 ^ 12 → ∃ u, Lib.parseUintM (2 ^ 64 - 1) acc l = .ok u ∧ (u : Int) = l.foldl (fun v c => 10 * v + ((c.toNat : Int) - 48)) (acc : Int) ∧ u < 10 ^ 12
 | [], acc, _, h => ⟨acc, rfl, rfl, by simp at h; omega⟩
 | c :: l, acc, hd, h => by
  have hc := hd c (by simp)
  unfold dgt at hc
  simp only [Bool.and_eq_true, decide_eq_true_eq] at hc; have hpos : 1 ≤ 10 ^ l.length := Nat.one_le_pow _ _ (by omega); have hle : acc + 1 ≤ (acc + 1) * 10 ^ (c :: l).length := Nat.le_mul_of_pos_right _ (Nat.pow_pos (by omega))
  have hstep : (acc * 10 + (c.toNat - 48) + 1) * 10 ^ l.length ≤ 10 ^ 12 := by
   refine Nat.le_trans (Nat.mul_le_mul_right _ (by omega : acc * 10 + (c.toNat - 48) + 1 ≤ (acc + 1) * 10)) ?_; rw [List.length_cons, Nat.pow_succ] at h; rw [Nat.mul_assoc, Nat.mul_comm 10]; exact h
  obtain ⟨u, h1, h2, h3⟩ := uintM_dig l (acc * 10 + (c.toNat - 48)) (fun x hx => hd x (by simp [hx])) hstep; refine ⟨u, ?_, ?_, h3⟩
  ·unfold Lib.parseUintM
   rw [if_pos hc, if_neg (by omega), if_neg (by have : acc * 10 + (c.toNat - 48) + 1 ≤ (acc * 10 + (c.toNat - 48) + 1) * 10 ^ l.length := Nat.le_mul_of_pos_right _ (Nat.pow_pos (by omega)); omega)]; exact h1
  ·rw [h2, List.foldl_cons]
   congr 1
   have : ((c.toNat - 48 : Nat) : Int) = (c.toNat : Int) - 48 := by omega
   push_cast
   rw [this]
   omega
theorem intB_dig {l : List UInt8} (h0 : l ≠ []) (hd : ∀ c ∈ l, dgt c = true) (hl : l.length ≤ 12) : Lib.parseIntB 64 l = .ok (digV l) := by
 cases l with
 | nil => exact absurd rfl h0
 | cons c r =>
  have hc := hd c (by simp)
  unfold dgt at hc
  simp only [Bool.and_eq_true, decide_eq_true_eq] at hc; obtain ⟨u, h1, h2, h3⟩ := uintM_dig (c :: r) 0 hd (by rw [Nat.zero_add, Nat.one_mul]; exact Nat.pow_le_pow_right (by omega) hl); have h4 : Lib.parseUintB 64 (c :: r) = .ok u := by unfold Lib.parseUintB; rw [if_neg (by simp)]; exact h1
  unfold Lib.parseIntB
  simp only
  rw [if_neg (by omega), h4]
  simp only
  have hu : u < 1000000000000 := h3; rw [if_neg (by omega), if_neg (by omega), if_neg (by omega)]
  unfold digV
  rw [h2]
  rfl
theorem bl_bytes (w : World) (t : TypeId) (s : ByteArray) : Below w.heap.size w (Lib.bytesWorld w t s) :=
 ⟨rfl, rfl, rfl, by rw [Lib.bytesWorld_size]; omega, fun j hj => Lib.bytesWorld_at_old w _ s j hj⟩
theorem number_any (l : List UInt8) (w : World) (hd : ∀ c ∈ l, dgt c = true) (hl : l.length ≤ 12) (he : ErrV w) :
  Calls Tryz.prog 100 #[.string (bs l)] w fun e w' => e = .returned (.int .i64 (if l = [] then 0 else digV l)) ∧ Below w.heap.size w w' := by
 have hsz : (bs l).size = l.length := by simp [bs, ByteArray.size]
 obtain ⟨x, hx⟩ : ∃ x, x = if l = [] then 0 else digV l := ⟨_, rfl⟩
 have HP : Hid (Calls Tryz.prog 114 #[.string (bs l), .int .i64 10, .int .i64 64] w fun e w' => (∃ u, e = .returned (.tuple #[.int .i64 x, u])) ∧ Below w.heap.size w w') := zz (by
  by_cases h0 : l = []
  ·obtain ⟨tp, p, hv⟩ := he
   rw [hx, if_pos h0]; subst h0
   exact (Any.strconv_ParseInt_10_at64_syntax_var Tryz.laysC174 (bs []) (by rw [hsz]; simp) rfl tp p w hv).mono fun e w' ⟨N, h1, h2, h3, h4⟩ => ⟨⟨_, h1⟩, h4⟩
  ·rw [hx, if_neg h0]
   refine (Tryz.strconv_ParseInt_10_at64_ok (bs l) (by rw [hsz]; omega) (digV l) (by simpa [bs] using intB_dig h0 hd hl) w).mono fun e w' ⟨h1, h2⟩ => ⟨⟨_, h1⟩, ?_⟩
   rcases h2 with rfl | ⟨t, rfl⟩
   ·exact Below.refl _ _
   ·exact bl_bytes _ _ _)
 rw [← hx]; clear hx hd hl he hsz; go_enter Tryz.func100, Tryz.ntmps100; go_wp2_with (go_at_call 114; refine HP.o.mono ?_; rintro e w2 ⟨⟨u, rfl⟩, hb⟩; have HB := zz hb; clear hb); go_ret; exact ⟨rfl, HB.o⟩
theorem bs_nil : (bs []).toList.isEmpty = true := by rw [Lib.toList_data]; rfl
theorem bs_cons {l : List UInt8} (h : l ≠ []) : (bs l).toList.isEmpty = false := by
 rw [Lib.toList_data]
 cases l with
 | nil => exact absurd rfl h
 | cons c l => rfl
def WdS (base : Nat) (w w' : World) (b : Nat) (s : ByteArray) (k : Nat) (d n : Int) (v : Value) (L : List Nd) (e a : Int) : Prop := Prs base w' b s k d n v L e a ∧ Onb b w w'
theorem ErrV.onb {base : Nat} {w w' : World} {b : Nat} {s : ByteArray} {k : Nat} {d n : Int} {v : Value} {L : List Nd} {e a : Int} (h : ErrV w) (hp : Prs base w b s k d n v L e a) (hf : Onb b w w') : ErrV w' := by
 obtain ⟨tp, p, h⟩ := h; refine ⟨tp, p, ?_⟩
 unfold World.var? at *
 obtain ⟨g, hgn⟩ : ∃ g, Tryz.prog.globalNamed "strconv.ErrSyntax" = some g := by
  cases hq : Tryz.prog.globalNamed "strconv.ErrSyntax" with
  | some g => exact ⟨g, rfl⟩
  | none => rw [hq] at h; cases h
 rw [hgn] at h ⊢; simp only [Option.bind_some] at h ⊢; obtain ⟨S, hS, hS2⟩ := hf
 cases hc : w.heap[g]? with
 | none => rw [hc] at h; cases h
 | some o =>
  have hlt : g < w.heap.size := (Array.getElem?_eq_some_iff.1 hc).1; rw [hS.block g hlt (fun hm => ?_)]
  ·exact h
  ·have := hS2 g hm
   subst this; have hb := hp.blk
   unfold Blk at hb
   rw [hb] at h
   simp at h
theorem word_any (base b : Nat) (s : ByteArray) (k : Nat) (d n : Int) (v : Value) (L : List Nd) (e a : Int) (w : World) (h : Prs base w b s k d n v L e a) :
  Calls Tryz.prog 145 #[ptr b] w fun r w' => r = .returned (.string (bs (run 32 wdc (blk (rest s k))))) ∧
   WdS base w w' b s (skip s k + (run 32 wdc (blk (rest s k))).length) d n v L (if run 32 wdc (blk (rest s k)) = [] then (flt e a 5 (skip s k : Int)).1 else e) (if run 32 wdc (blk (rest s k)) = [] then (flt e a 5 (skip s k : Int)).2 else a) := by
 obtain ⟨h1, h2, h3, -, -⟩ := skip_is h.kb; rw [h3]; obtain ⟨j, hj⟩ : ∃ j, j = skip s k := ⟨_, rfl⟩; obtain ⟨t, ht⟩ : ∃ t, t = run 32 wdc (rest s j) := ⟨_, rfl⟩; have H := zz h; have HBL : Hid (∀ w, Prs base w b s k d n v L e a → Calls Tryz.prog 87 #[ptr b] w fun r w' => r = .returned (.tuple #[]) ∧ Prs base w' b s j d n v L e a ∧ Onb b w w') := zz (fun w h => by rw [hj]; exact blanks_any base b s k d n v L e a w h); have HRN : Hid (∀ w, Prs base w b s j d n v L e a → Calls Tryz.prog 143 #[ptr b, .int .i64 32, .func (.func 81) #[] #[]] w fun r w' => r = .returned (.string (bs t)) ∧ Prs base w' b s (j + t.length) d n v L e a ∧ Onb b w w') := zz (fun w h => by rw [ht]; exact run_word base b s j d n v L e a w h); rw [← hj, ← ht]; clear h h1 h2 h3 hj ht
 by_cases h0 : t = []
 ·subst h0
  rw [if_pos rfl, if_pos rfl]; have q1 := bs_nil; obtain ⟨fe, fa, hfl⟩ : ∃ fe fa, flt e a 5 (j : Int) = (fe, fa) := ⟨_, _, rfl⟩; have HF := zz hfl; rw [hfl]; clear hfl; go_enter Tryz.func145, Tryz.ntmps145
  go_upto_region 3 with (first
   | (go_at_call 87; refine (HBL.o _ H.o).mono ?_; rintro r w2 ⟨rfl, h2, hf⟩; have H2 := zz h2; have HO2 := zz hf; clear h2 hf)
   | (go_at_call 143; refine (HRN.o _ H2.o).mono ?_; rintro r w3 ⟨rfl, h3, hf⟩; have H3 : Hid (Prs base w3 b s j d n v L e a) := zz (by simpa using h3); have HO3 : Hid (Onb b w w3) := zz (HO2.o.then hf); clear h3 hf))
  have c1 := H3.o.c1
  go_wp2_with (first
   | (go_at_call 88; refine (fails_any base b s j d n v L e a 5 (j : Int) _ H3.o).mono ?_; rw [HF.o]; rintro r w4 ⟨rfl, h4, hf⟩; have H4 : Hid (Prs base w4 b s (j + ([] : List UInt8).length) d n v L fe fa) := zz (by simpa using h4); have HO4 : Hid (Onb b w w4) := zz (HO3.o.then hf); clear h4 hf))
  go_ret; exact ⟨rfl, H4.o, HO4.o⟩
 ·rw [if_neg h0, if_neg h0]
  have q1 := bs_cons h0; go_enter Tryz.func145, Tryz.ntmps145
  go_upto_region 3 with (first
   | (go_at_call 87; refine (HBL.o _ H.o).mono ?_; rintro r w2 ⟨rfl, h2, hf⟩; have H2 := zz h2; have HO2 := zz hf; clear h2 hf)
   | (go_at_call 143; refine (HRN.o _ H2.o).mono ?_; rintro r w3 ⟨rfl, h3, hf⟩; have H3 := zz h3; have HO3 : Hid (Onb b w w3) := zz (HO2.o.then hf); clear h3 hf))
  go_wp2; go_ret; exact ⟨rfl, H3.o, HO3.o⟩
theorem digits_any (base b : Nat) (s : ByteArray) (k : Nat) (d n : Int) (v : Value) (L : List Nd) (e a : Int) (w : World) (h : Prs base w b s k d n v L e a) (hv : ErrV w) :
  Calls Tryz.prog 146 #[ptr b] w fun r w' => r = .returned (.int .i64 (if run 12 dgt (blk (rest s k)) = [] then 0 else digV (run 12 dgt (blk (rest s k))))) ∧
   WdS base w w' b s (skip s k + (run 12 dgt (blk (rest s k))).length) d n v L (if run 12 dgt (blk (rest s k)) = [] then (flt e a 5 (skip s k : Int)).1 else e) (if run 12 dgt (blk (rest s k)) = [] then (flt e a 5 (skip s k : Int)).2 else a) := by
 obtain ⟨h1, h2, h3, -, -⟩ := skip_is h.kb; rw [h3]; obtain ⟨j, hj⟩ : ∃ j, j = skip s k := ⟨_, rfl⟩; obtain ⟨t, ht⟩ : ∃ t, t = run 12 dgt (rest s j) := ⟨_, rfl⟩; have H := zz h; have HBL : Hid (∀ w, Prs base w b s k d n v L e a → Calls Tryz.prog 87 #[ptr b] w fun r w' => r = .returned (.tuple #[]) ∧ Prs base w' b s j d n v L e a ∧ Onb b w w') := zz (fun w h => by rw [hj]; exact blanks_any base b s k d n v L e a w h); have HRN : Hid (∀ w, Prs base w b s j d n v L e a → Calls Tryz.prog 143 #[ptr b, .int .i64 12, .func (.func 80) #[] #[]] w fun r w' => r = .returned (.string (bs t)) ∧ Prs base w' b s (j + t.length) d n v L e a ∧ Onb b w w') := zz (fun w h => by rw [ht]; exact run_digs base b s j d n v L e a w h); rw [← hj, ← ht]; have HV : Hid (∀ w', Onb b w w' → ErrV w') := zz (fun w' hf => hv.onb h hf)
 obtain ⟨z, hz⟩ : ∃ z, z = if t = [] then 0 else digV t := ⟨_, rfl⟩
 have HNM : Hid (∀ w, ErrV w → Calls Tryz.prog 100 #[.string (bs t)] w fun e w' => e = .returned (.int .i64 z) ∧ Below w.heap.size w w') := zz (fun w h => by rw [hz]; exact number_any t w (by rw [ht]; exact run_all _ _ _) (by rw [ht]; exact (run_len _ _ _).1) h); rw [← hz]; clear hz hv; clear h h1 h2 h3 hj ht
 by_cases h0 : t = []
 ·subst h0
  rw [if_pos rfl, if_pos rfl]; have q1 := bs_nil; obtain ⟨fe, fa, hfl⟩ : ∃ fe fa, flt e a 5 (j : Int) = (fe, fa) := ⟨_, _, rfl⟩; have HF := zz hfl; rw [hfl]; clear hfl; go_enter Tryz.func146, Tryz.ntmps146
  go_upto_region 3 with (first
   | (go_at_call 87; refine (HBL.o _ H.o).mono ?_; rintro r w2 ⟨rfl, h2, hf⟩; have H2 := zz h2; have HO2 := zz hf; clear h2 hf)
   | (go_at_call 143; refine (HRN.o _ H2.o).mono ?_; rintro r w3 ⟨rfl, h3, hf⟩; have H3 : Hid (Prs base w3 b s j d n v L e a) := zz (by simpa using h3); have HO3 : Hid (Onb b w w3) := zz (HO2.o.then hf); clear h3 hf))
  have c1 := H3.o.c1
  go_wp2_with (first
   | (go_at_call 88; refine (fails_any base b s j d n v L e a 5 (j : Int) _ H3.o).mono ?_; rw [HF.o]; rintro r w4 ⟨rfl, h4, hf⟩; have H4 : Hid (Prs base w4 b s (j + ([] : List UInt8).length) d n v L fe fa) := zz (by simpa using h4); have HO4 : Hid (Onb b w w4) := zz (HO3.o.then hf); clear h4 hf)
   | (go_at_call 100; refine (HNM.o _ (HV.o _ HO4.o)).mono ?_; rintro r w5 ⟨rfl, hb⟩; have H5 := zz (H4.o.kept hb); have HO5 : Hid (Onb b w w5) := zz (HO4.o.next hb); clear hb))
  go_ret; exact ⟨rfl, H5.o, HO5.o⟩
 ·rw [if_neg h0, if_neg h0]
  have q1 := bs_cons h0; go_enter Tryz.func146, Tryz.ntmps146
  go_upto_region 3 with (first
   | (go_at_call 87; refine (HBL.o _ H.o).mono ?_; rintro r w2 ⟨rfl, h2, hf⟩; have H2 := zz h2; have HO2 := zz hf; clear h2 hf)
   | (go_at_call 143; refine (HRN.o _ H2.o).mono ?_; rintro r w3 ⟨rfl, h3, hf⟩; have H3 := zz h3; have HO3 : Hid (Onb b w w3) := zz (HO2.o.then hf); clear h3 hf))
  go_wp2_with (first
   | (go_at_call 100; refine (HNM.o _ (HV.o _ HO3.o)).mono ?_; rintro r w5 ⟨rfl, hb⟩; have H5 := zz (H3.o.kept hb); have HO5 : Hid (Onb b w w5) := zz (HO3.o.next hb); clear hb))
  go_ret; exact ⟨rfl, H5.o, HO5.o⟩
