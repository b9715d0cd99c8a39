/- RdTold. -/
import Derived.Test.YtdemkfhkibmbnaaGreatDoorRdDec
import Derived.Test.YtdemkfhkibmbnaaGreatDoorM14
set_option maxRecDepth 100000
set_option maxHeartbeats 8000000
namespace Go.Proofs.YtdemkfhkibmbnaaGreatDoor.Ru
open Go.RowKit Go.Proofs.YtdemkfhkibmbnaaGreatDoor
theorem any_val : Ending.returned (.string ((⟨#[40]⟩ : ByteArray) ++ ⟨#[97, 110, 121]⟩ ++ ⟨#[41]⟩)) = Ending.returned (.string (bs (40 :: (anyT ++ [41])))) := by
 rfl
def dti (k : Int) : Int := if k = 9 then 0 else if k = 8 then 1 else 2
theorem dtight_any (x : Nd) (w : World) : Calls Tryz.prog 96 #[ndV x] w fun r w' => r = .returned (.int .i64 (dti x.k)) ∧ Below w.heap.size w w' := by
 obtain ⟨w1, hw1⟩ : ∃ w1, w1 = w.alloc (.cells #[.int .i64 x.k, .string (bs x.nm), .string (bs x.vl), .int .i64 x.x, .int .i64 x.a, .int .i64 x.b] 69) := ⟨_, rfl⟩; obtain ⟨B, hB⟩ : ∃ B, B = w.heap.size := ⟨_, rfl⟩; have HB1 : Hid (Below w.heap.size w w1) := zz (by rw [hw1]; exact below_alloc w _); have X1 : Hid (Blk w1 B (ndC x) 69) := zz (by rw [hw1, hB]; exact Blk.made w (ndC x) _); have x0 := X1.o.cell (j := 0) rfl; obtain ⟨d, hd⟩ : ∃ d, d = dti x.k := ⟨_, rfl⟩; rw [← hd]; have HD := zz hd; clear hd; go_enter Tryz.func96, Tryz.ntmps96; go_upto_region 1 with fail; rw [← hw1, ← hB]; clear hw1 hB
 by_cases h9 : x.k = 9
 ·have t9 : (x.k == 9) = true := by simpa using h9
  have HV : Hid (d = 0) := zz (by rw [HD.o]; unfold dti; rw [if_pos h9]); clear h9; go_wp2; go_ret; exact ⟨by rw [HV.o]; rfl, HB1.o⟩
 have t9 : (x.k == 9) = false := by simpa using h9
 by_cases h8 : x.k = 8
 ·have t8 : (x.k == 8) = true := by simpa using h8
  have HV : Hid (d = 1) := zz (by rw [HD.o]; unfold dti; rw [if_neg h9, if_pos h8]); clear h8 h9; go_wp2; go_ret; exact ⟨by rw [HV.o]; rfl, HB1.o⟩
 have t8 : (x.k == 8) = false := by simpa using h8
 have HV : Hid (d = 2) := zz (by rw [HD.o]; unfold dti; rw [if_neg h9, if_neg h8]); clear h8 h9; go_wp2; go_ret; exact ⟨by rw [HV.o]; rfl, HB1.o⟩
theorem tight_lt (k : Int) {m : Nat} (hm : m ≤ 2) : decide (dti k < (m : Int)) = decide (tightK k < m + 1) := by
 unfold dti tightK
 by_cases h9 : k = 9
 ·rw [if_pos h9, if_pos h9]; congr 1; simp
 rw [if_neg h9, if_neg h9]
 by_cases h8 : k = 8
 ·rw [if_pos h8, if_pos h8]; congr 1; simp; omega
 rw [if_neg h8, if_neg h8]
 by_cases h7 : k = 7
 ·rw [if_pos h7, decide_eq_false (by omega), decide_eq_false (by omega)]
 ·rw [if_neg h7, decide_eq_false (by omega), decide_eq_false (by omega)]
def DTold (L : List Nd) (i : Nat) : Prop :=
 ∀ (v : Value) (w : World) (m : Nat), m ≤ 2 → Row w v 6 L.length (rwC ndC L) → Calls Tryz.prog 69 #[v, .int .i64 (i : Int), .int .i64 (m : Int)] w fun r w' => r = .returned (.string (bs (par (decide (tightK (kindAt L i) < m + 1)) (tl L i)))) ∧ Below w.heap.size w w'
theorem par_ge (b : Bool) (s : List UInt8) : s.length ≤ (par b s).length := by
 cases b
 ·exact Nat.le_refl _
 ·rw [par_true]; simp; omega
def Dn (n : Nd) : Prop := (1 ≤ n.k ∧ n.k ≤ 9) ∧ n.nm.length ≤ 1000000000000000 ∧ n.vl.length ≤ 1000000000000000 ∧ (n.k = 4 ∨ n.k = 5 → 0 ≤ n.x ∧ n.x ≤ 999999999999)
theorem dtold_step (L : List Nd) (hf : Fine L) (i : Nat) (hi : i < L.length) (ih : ∀ j, j < i → (tl L j).length ≤ 1000000000000000000 → DTold L j) (hlen : (tl L i).length ≤ 1000000000000000000) (hc : ∀ n ∈ L, Dn n) : DTold L i := by
 unfold DTold
 intro v w m hm hr; have HR := zz hr; obtain ⟨n, hn⟩ : ∃ n, n = L[i] := ⟨_, rfl⟩; obtain ⟨p, c, rfl, h1, h2, h3, h4, h5, h6⟩ := hr
 have HLC : Hid (∃ b o, p = some ⟨b, o, none⟩ ∧ ∀ j u, (ndC n)[j]? = some u → w.cell? ⟨b, o + i * 6 + j, none⟩ = some u) := zz (by
  rcases h6 with h6 | ⟨b, o, hp, ha⟩
  ·rw [h6] at h3; simp at h3; omega
  ·refine ⟨b, o, hp, fun j u hj => ?_⟩
   rw [Nat.add_assoc]; refine ha (i * 6 + j) u ?_
   have hj6 : j < 6 := by
    have := (List.getElem?_eq_some_iff.1 hj).1
    rwa [ndC_len] at this
   rw [rwC_at (c := ndC) (k := 6) (fun _ => rfl) hi hj6, ← hn]
   exact hj)
 obtain ⟨b, o, rfl, hcell⟩ := HLC.o; have q0 := hcell 0 _ rfl; rw [Nat.add_zero] at q0; have q1 := hcell 1 _ rfl; have q2 := hcell 2 _ rfl; have q3 := hcell 3 _ rfl; have q4 := hcell 4 _ rfl; have q5 := hcell 5 _ rfl; have HN := zz hn; have i0 : (0 : Int) ≤ (i : Int) := by omega
 have i1 : (i : Int) < (L.length : Int) := by omega
 obtain ⟨t, ht⟩ : ∃ t, t = tl L i := ⟨_, rfl⟩; have HKA : Hid (kindAt L i = n.k) := zz (by unfold kindAt; rw [List.getElem?_eq_getElem hi, hn]; rfl); have HTG : Hid (decide (dti n.k < (m : Int)) = decide (tightK (kindAt L i) < m + 1)) := zz (by rw [HKA.o]; exact tight_lt _ hm); rw [← ht, ← HTG.o]; obtain ⟨q, hq⟩ : ∃ q, q = decide (dti n.k < (m : Int)) := ⟨_, rfl⟩; rw [← hq]; have HQ := zz hq; have HT := zz ht; have HTL : Hid (t.length ≤ 1000000000000000000) := zz (by rw [ht]; exact hlen); have HEQ := zz (tl_eq hf (List.getElem?_eq_getElem hi)); have HPA := zz (hf i _ (List.getElem?_eq_getElem hi)); rw [← hn, ← ht] at HEQ; rw [← hn] at HPA; have HDN := zz (hc n (by rw [hn]; exact List.getElem_mem hi)); clear ht h1 h2 h3 h4 h5 h6 HLC hcell hn hq HTG HKA HT hm; go_enter Tryz.func69, Tryz.ntmps69; go_upto_region 2 with fail; refine at_hide (F := fun w' => Blk w' w.heap.size (ndC n) 69 ∧ Below w.heap.size w w') ⟨Blk.made w (ndC n) _, below_alloc w _⟩ ?_; intro w2 hF; obtain ⟨Y, hY⟩ : ∃ Y, Y = w.heap.size := ⟨_, rfl⟩; rw [← hY] at hF ⊢; have HY2 := zz hF.1; have HB2 := zz hF.2; rw [hY] at HB2; have HR2 : Hid (Row w2 (.slice (some ⟨b, o, none⟩) L.length c) 6 L.length (rwC ndC L)) := zz (HR.o.below HB2.o)
 clear hF hY q0 q1 q2 q3 q4 q5; obtain ⟨y0, y1, y2, y3, y4, y5⟩ := cl6 HY2.o; obtain ⟨k, nm, vl, x, na, nb⟩ := n; simp only at y0 y1 y2 y3 y4 y5 HEQ HDN HY2 HQ HPA; have HDM : Hid (nm.length ≤ 1000000000000000 ∧ vl.length ≤ 1000000000000000 ∧ (k = 4 ∨ k = 5 → 0 ≤ x ∧ x ≤ 999999999999) ∧ 1 ≤ k ∧ k ≤ 9) := zz ⟨HDN.o.2.1, HDN.o.2.2.1, HDN.o.2.2.2, HDN.o.1⟩; clear HDN; have HTI : Hid (∀ wx, Calls Tryz.prog 96 #[ndV ⟨k, nm, vl, x, na, nb⟩] wx fun r w' => r = .returned (.int .i64 (dti k)) ∧ Below wx.heap.size wx w') := zz (fun wx => dtight_any _ wx); obtain ⟨tk, htk⟩ : ∃ tk, tk = dti k := ⟨_, rfl⟩; rw [← htk] at HQ HTI; clear htk
 have hs1 : ∀ w, (Op.stringOp .add ⟨#[40]⟩ (bs t)).run Tryz.prog w = .ok (.string (bs (40 :: t))) w := fun w => add_bs [40] t (by have := HTL.o; simp; omega) w
 have hs2 : ∀ w, (Op.stringOp .add (bs (40 :: t)) ⟨#[41]⟩).run Tryz.prog w = .ok (.string (bs (40 :: (t ++ [41])))) w := fun w => add_bs (40 :: t) [41] (by have := HTL.o; simp; omega) w
 by_cases k1 : k = 1
 ·subst k1
  have HTT : Hid (t = anyT) := zz (by rw [HEQ.o]; simp [ltx]); clear HEQ; go_upto_region 22 with fail; clear y0 y1 y2 y3 y4 y5; obtain ⟨y0, y1, y2, y3, y4, y5⟩ := cl6 HY2.o; have HHH := HQ.o; have HP0 : Hid (bs (par false t) = bs t) := zz rfl; have HP1 : Hid (bs (par true t) = bs (40 :: (t ++ [41]))) := zz (by rw [par_true]); cases q
  ·have e9 : decide (tk < (m : Int)) = false := HHH.symm
   clear HHH; go_wp2_with (go_at_call 96; refine (HTI.o _).mono ?_; rintro r w9 ⟨rfl, hb9⟩; have HB9 : Hid (Below w.heap.size w w9) := zz (below_and HB2.o hb9); clear hb9); go_ret; exact ⟨(by first | (rw [HP0.o]; rfl) | (rw [HP0.o, HTT.o]; rfl)), HB9.o⟩
  ·have e9 : decide (tk < (m : Int)) = true := HHH.symm
   clear HHH; go_wp2_with (go_at_call 96; refine (HTI.o _).mono ?_; rintro r w9 ⟨rfl, hb9⟩; have HB9 : Hid (Below w.heap.size w w9) := zz (below_and HB2.o hb9); clear hb9); go_ret; exact ⟨(by first | (rw [HP1.o]; rfl) | (rw [HP1.o, HTT.o]; exact any_val)), HB9.o⟩
 have b1 : (k == 1) = false := by simpa using k1
 by_cases k2 : k = 2
 ·subst k2
  have HTT : Hid (t = nm ++ [61] ++ vl) := zz (by rw [HEQ.o]; simp [ltx]); clear HEQ
  have hadd1 : ∀ w, (Op.stringOp .add (bs nm) ⟨#[61]⟩).run Tryz.prog w = .ok (.string (bs (nm ++ [61]))) w := fun w => add_bs nm [61] (by have := HDM.o.1; simp; omega) w
  have hadd2 : ∀ w, (Op.stringOp .add (bs (nm ++ [61])) (bs vl)).run Tryz.prog w = .ok (.string (bs t)) w := fun w => by rw [HTT.o]; exact add_bs (nm ++ [61]) vl (by have := HDM.o.1; have := HDM.o.2.1; simp; omega) w
  go_upto_region 22 with fail; clear hadd1 hadd2; have HHH := HQ.o; have HP0 : Hid (bs (par false t) = bs t) := zz rfl; have HP1 : Hid (bs (par true t) = bs (40 :: (t ++ [41]))) := zz (by rw [par_true]); cases q
  ·have e9 : decide (tk < (m : Int)) = false := HHH.symm
   clear HHH; go_wp2_with (go_at_call 96; refine (HTI.o _).mono ?_; rintro r w9 ⟨rfl, hb9⟩; have HB9 : Hid (Below w.heap.size w w9) := zz (below_and HB2.o hb9); clear hb9); go_ret; exact ⟨(by first | (rw [HP0.o]; rfl) | (rw [HP0.o, HTT.o]; rfl)), HB9.o⟩
  ·have e9 : decide (tk < (m : Int)) = true := HHH.symm
   clear HHH; go_wp2_with (go_at_call 96; refine (HTI.o _).mono ?_; rintro r w9 ⟨rfl, hb9⟩; have HB9 : Hid (Below w.heap.size w w9) := zz (below_and HB2.o hb9); clear hb9); go_ret; exact ⟨(by first | (rw [HP1.o]; rfl) | (rw [HP1.o, HTT.o]; exact any_val)), HB9.o⟩
 have b2 : (k == 2) = false := by simpa using k2
 by_cases k3 : k = 3
 ·subst k3
  have HTT : Hid (t = nm ++ [33, 61] ++ vl) := zz (by rw [HEQ.o]; simp [ltx]); clear HEQ
  have hadd1 : ∀ w, (Op.stringOp .add (bs nm) ⟨#[33, 61]⟩).run Tryz.prog w = .ok (.string (bs (nm ++ [33, 61]))) w := fun w => add_bs nm [33, 61] (by have := HDM.o.1; simp; omega) w
  have hadd2 : ∀ w, (Op.stringOp .add (bs (nm ++ [33, 61])) (bs vl)).run Tryz.prog w = .ok (.string (bs t)) w := fun w => by rw [HTT.o]; exact add_bs (nm ++ [33, 61]) vl (by have := HDM.o.1; have := HDM.o.2.1; simp; omega) w
  go_upto_region 22 with fail; clear hadd1 hadd2; have HHH := HQ.o; have HP0 : Hid (bs (par false t) = bs t) := zz rfl; have HP1 : Hid (bs (par true t) = bs (40 :: (t ++ [41]))) := zz (by rw [par_true]); cases q
  ·have e9 : decide (tk < (m : Int)) = false := HHH.symm
   clear HHH; go_wp2_with (go_at_call 96; refine (HTI.o _).mono ?_; rintro r w9 ⟨rfl, hb9⟩; have HB9 : Hid (Below w.heap.size w w9) := zz (below_and HB2.o hb9); clear hb9); go_ret; exact ⟨(by first | (rw [HP0.o]; rfl) | (rw [HP0.o, HTT.o]; rfl)), HB9.o⟩
  ·have e9 : decide (tk < (m : Int)) = true := HHH.symm
   clear HHH; go_wp2_with (go_at_call 96; refine (HTI.o _).mono ?_; rintro r w9 ⟨rfl, hb9⟩; have HB9 : Hid (Below w.heap.size w w9) := zz (below_and HB2.o hb9); clear hb9); go_ret; exact ⟨(by first | (rw [HP1.o]; rfl) | (rw [HP1.o, HTT.o]; exact any_val)), HB9.o⟩
 have b3 : (k == 3) = false := by simpa using k3
 by_cases k4 : k = 4
 ·subst k4
  obtain ⟨z1, z2⟩ := HDM.o.2.2.1 (by simp); obtain ⟨xn, hxn⟩ : ∃ xn : Nat, x = (xn : Int) := ⟨x.toNat, by omega⟩; subst hxn; have HNU : Hid (∀ w, Calls Tryz.prog 95 #[.int .i64 (xn : Int)] w fun e w' => e = .returned (.string (bs (Lib.itoa xn))) ∧ Below w.heap.size w w') := zz (fun w => by have := dnum_any xn (by omega) w; rw [Lib.itoa_nonneg]; exact this); have HI : Hid ((Lib.itoa (xn : Int)).length ≤ 21) := zz (Lib.itoa_length_le xn (by omega) (by omega)); have HEQ2 : Hid (t = nm ++ [62, 61] ++ Lib.itoa (xn : Int)) := zz (by rw [HEQ.o]; simp [ltx]); obtain ⟨u, hu⟩ : ∃ u, u = Lib.itoa (xn : Int) := ⟨_, rfl⟩; rw [← hu] at HNU HI HEQ2; clear hu HEQ z1 z2; have p1 : ∀ s : Past w2, s.val.cell? ⟨Y, 1, none⟩ = some (.string (bs nm)) := Past.blk HY2.o (j := 1) rfl; have p3 : ∀ s : Past w2, s.val.cell? ⟨Y, 3, none⟩ = some (.int .i64 (xn : Int)) := Past.blk HY2.o (j := 3) rfl
  have hadd1 : ∀ w, (Op.stringOp .add (bs nm) ⟨#[62, 61]⟩).run Tryz.prog w = .ok (.string (bs (nm ++ [62, 61]))) w := fun w => add_bs nm [62, 61] (by have := HDM.o.1; simp; omega) w
  have hadd2 : ∀ w, (Op.stringOp .add (bs (nm ++ [62, 61])) (bs u)).run Tryz.prog w = .ok (.string (bs t)) w := fun w => by rw [HEQ2.o]; exact add_bs (nm ++ [62, 61]) u (by have := HDM.o.1; have := HI.o; simp; omega) w
  go_upto_region 11 with fail; refine wp_region_past (by kernel_rfl) (by kernel_rfl) ?_
  repeat (go_big_quiet_step ((go_at_call 95; exact past_call (HNU.o _))))
  refine wpQuiet_past ?_; intro w3 h9; have HB3 : Hid (Below w.heap.size w w3) := zz (below_and HB2.o h9); have HY3 := zz (HY2.o.kept h9); clear y0 y1 y2 y3 y4 y5 p1 p3 h9 hadd1 hadd2; obtain ⟨y0, y1, y2, y3, y4, y5⟩ := cl6 HY3.o; go_upto_region 22 with fail; have HHH := HQ.o; have HP0 : Hid (bs (par false t) = bs t) := zz rfl; have HP1 : Hid (bs (par true t) = bs (40 :: (t ++ [41]))) := zz (by rw [par_true]); cases q
  ·have e9 : decide (tk < (m : Int)) = false := HHH.symm
   clear HHH; go_wp2_with (go_at_call 96; refine (HTI.o _).mono ?_; rintro r w9 ⟨rfl, hb9⟩; have HB9 : Hid (Below w.heap.size w w9) := zz (below_and HB3.o hb9); clear hb9); go_ret; exact ⟨(by first | (rw [HP0.o]; rfl) | (rw [HP0.o, HTT.o]; rfl)), HB9.o⟩
  ·have e9 : decide (tk < (m : Int)) = true := HHH.symm
   clear HHH; go_wp2_with (go_at_call 96; refine (HTI.o _).mono ?_; rintro r w9 ⟨rfl, hb9⟩; have HB9 : Hid (Below w.heap.size w w9) := zz (below_and HB3.o hb9); clear hb9); go_ret; exact ⟨(by first | (rw [HP1.o]; rfl) | (rw [HP1.o, HTT.o]; exact any_val)), HB9.o⟩
 have b4 : (k == 4) = false := by simpa using k4
 by_cases k5 : k = 5
 ·subst k5
  obtain ⟨z1, z2⟩ := HDM.o.2.2.1 (by simp); obtain ⟨xn, hxn⟩ : ∃ xn : Nat, x = (xn : Int) := ⟨x.toNat, by omega⟩; subst hxn; have HNU : Hid (∀ w, Calls Tryz.prog 95 #[.int .i64 (xn : Int)] w fun e w' => e = .returned (.string (bs (Lib.itoa xn))) ∧ Below w.heap.size w w') := zz (fun w => by have := dnum_any xn (by omega) w; rw [Lib.itoa_nonneg]; exact this); have HI : Hid ((Lib.itoa (xn : Int)).length ≤ 21) := zz (Lib.itoa_length_le xn (by omega) (by omega)); have HEQ2 : Hid (t = nm ++ [60, 61] ++ Lib.itoa (xn : Int)) := zz (by rw [HEQ.o]; simp [ltx]); obtain ⟨u, hu⟩ : ∃ u, u = Lib.itoa (xn : Int) := ⟨_, rfl⟩; rw [← hu] at HNU HI HEQ2; clear hu HEQ z1 z2; have p1 : ∀ s : Past w2, s.val.cell? ⟨Y, 1, none⟩ = some (.string (bs nm)) := Past.blk HY2.o (j := 1) rfl; have p3 : ∀ s : Past w2, s.val.cell? ⟨Y, 3, none⟩ = some (.int .i64 (xn : Int)) := Past.blk HY2.o (j := 3) rfl
  have hadd1 : ∀ w, (Op.stringOp .add (bs nm) ⟨#[60, 61]⟩).run Tryz.prog w = .ok (.string (bs (nm ++ [60, 61]))) w := fun w => add_bs nm [60, 61] (by have := HDM.o.1; simp; omega) w
  have hadd2 : ∀ w, (Op.stringOp .add (bs (nm ++ [60, 61])) (bs u)).run Tryz.prog w = .ok (.string (bs t)) w := fun w => by rw [HEQ2.o]; exact add_bs (nm ++ [60, 61]) u (by have := HDM.o.1; have := HI.o; simp; omega) w
  go_upto_region 13 with fail; refine wp_region_past (by kernel_rfl) (by kernel_rfl) ?_
  repeat (go_big_quiet_step ((go_at_call 95; exact past_call (HNU.o _))))
  refine wpQuiet_past ?_; intro w3 h9; have HB3 : Hid (Below w.heap.size w w3) := zz (below_and HB2.o h9); have HY3 := zz (HY2.o.kept h9); clear y0 y1 y2 y3 y4 y5 p1 p3 h9 hadd1 hadd2; obtain ⟨y0, y1, y2, y3, y4, y5⟩ := cl6 HY3.o; go_upto_region 22 with fail; have HHH := HQ.o; have HP0 : Hid (bs (par false t) = bs t) := zz rfl; have HP1 : Hid (bs (par true t) = bs (40 :: (t ++ [41]))) := zz (by rw [par_true]); cases q
  ·have e9 : decide (tk < (m : Int)) = false := HHH.symm
   clear HHH; go_wp2_with (go_at_call 96; refine (HTI.o _).mono ?_; rintro r w9 ⟨rfl, hb9⟩; have HB9 : Hid (Below w.heap.size w w9) := zz (below_and HB3.o hb9); clear hb9); go_ret; exact ⟨(by first | (rw [HP0.o]; rfl) | (rw [HP0.o, HTT.o]; rfl)), HB9.o⟩
  ·have e9 : decide (tk < (m : Int)) = true := HHH.symm
   clear HHH; go_wp2_with (go_at_call 96; refine (HTI.o _).mono ?_; rintro r w9 ⟨rfl, hb9⟩; have HB9 : Hid (Below w.heap.size w w9) := zz (below_and HB3.o hb9); clear hb9); go_ret; exact ⟨(by first | (rw [HP1.o]; rfl) | (rw [HP1.o, HTT.o]; exact any_val)), HB9.o⟩
 have b5 : (k == 5) = false := by simpa using k5
 by_cases k6 : k = 6
 ·subst k6
  obtain rfl : t = nm := by rw [HEQ.o]; simp [ltx]
  clear HEQ; go_upto_region 22 with fail; have HHH := HQ.o; have HP0 : Hid (bs (par false t) = bs t) := zz rfl; have HP1 : Hid (bs (par true t) = bs (40 :: (t ++ [41]))) := zz (by rw [par_true]); cases q
  ·have e9 : decide (tk < (m : Int)) = false := HHH.symm
   clear HHH; go_wp2_with (go_at_call 96; refine (HTI.o _).mono ?_; rintro r w9 ⟨rfl, hb9⟩; have HB9 : Hid (Below w.heap.size w w9) := zz (below_and HB2.o hb9); clear hb9); go_ret; exact ⟨(by first | (rw [HP0.o]; rfl) | (rw [HP0.o, HTT.o]; rfl)), HB9.o⟩
  ·have e9 : decide (tk < (m : Int)) = true := HHH.symm
   clear HHH; go_wp2_with (go_at_call 96; refine (HTI.o _).mono ?_; rintro r w9 ⟨rfl, hb9⟩; have HB9 : Hid (Below w.heap.size w w9) := zz (below_and HB2.o hb9); clear hb9); go_ret; exact ⟨(by first | (rw [HP1.o]; rfl) | (rw [HP1.o, HTT.o]; exact any_val)), HB9.o⟩
 have b6 : (k == 6) = false := by simpa using k6
 by_cases k7 : k = 7
 ·subst k7
  have hpa := HPA.o na (by simp [parts]); obtain ⟨ja, hja⟩ : ∃ ja : Nat, na = (ja : Int) := ⟨na.toNat, by omega⟩; subst hja; have HJI : Hid (ja < i) := zz (by omega); obtain ⟨u, hu⟩ : ∃ u, u = par (decide (tightK (kindAt L ja) < 2 + 1)) (tl L ja) := ⟨_, rfl⟩; have HTT : Hid (t = 33 :: u) := zz (by rw [HEQ.o, hu]; simp); have hjl : (tl L ja).length ≤ 1000000000000000000 := by have h1 := HTL.o; have h2 := par_ge (decide (tightK (kindAt L ja) < 2 + 1)) (tl L ja); rw [HTT.o] at h1; rw [← hu] at h2; simp only [List.length_cons] at h1; omega
  have HU : Hid (u.length ≤ 1000000000000000002) := zz (by have h1 := HTL.o; rw [HTT.o] at h1; simp only [List.length_cons] at h1; omega); have HP : Hid (Calls Tryz.prog 69 #[.slice (some ⟨b, o, none⟩) L.length c, .int .i64 (ja : Int), .int .i64 2] w2 fun r w' => r = .returned (.string (bs u)) ∧ Below w2.heap.size w2 w') := zz (by rw [hu]; exact ih ja HJI.o hjl _ w2 2 (by omega) HR2.o); clear hu hpa HEQ hjl
  have hadd1 : ∀ w, (Op.stringOp .add ⟨#[33]⟩ (bs u)).run Tryz.prog w = .ok (.string (bs t)) w := fun w => by rw [HTT.o]; exact add_bs [33] u (by have := HU.o; simp; omega) w
  go_upto_region 22 with (go_at_call 69; refine HP.o.mono ?_; rintro r w3 ⟨rfl, hb3⟩; have HB3 : Hid (Below w.heap.size w w3) := zz (below_and HB2.o hb3); have HY3 := zz (HY2.o.kept hb3); clear hb3); clear y0 y1 y2 y3 y4 y5 hadd1; obtain ⟨y0, y1, y2, y3, y4, y5⟩ := cl6 HY3.o; have HHH := HQ.o; have HP0 : Hid (bs (par false t) = bs t) := zz rfl; have HP1 : Hid (bs (par true t) = bs (40 :: (t ++ [41]))) := zz (by rw [par_true]); cases q
  ·have e9 : decide (tk < (m : Int)) = false := HHH.symm
   clear HHH; go_wp2_with (go_at_call 96; refine (HTI.o _).mono ?_; rintro r w9 ⟨rfl, hb9⟩; have HB9 : Hid (Below w.heap.size w w9) := zz (below_and HB3.o hb9); clear hb9); go_ret; exact ⟨(by first | (rw [HP0.o]; rfl) | (rw [HP0.o, HTT.o]; rfl)), HB9.o⟩
  ·have e9 : decide (tk < (m : Int)) = true := HHH.symm
   clear HHH; go_wp2_with (go_at_call 96; refine (HTI.o _).mono ?_; rintro r w9 ⟨rfl, hb9⟩; have HB9 : Hid (Below w.heap.size w w9) := zz (below_and HB3.o hb9); clear hb9); go_ret; exact ⟨(by first | (rw [HP1.o]; rfl) | (rw [HP1.o, HTT.o]; exact any_val)), HB9.o⟩
 have b7 : (k == 7) = false := by simpa using k7
 by_cases k8 : k = 8
 ·subst k8
  have hpa := HPA.o na (by simp [parts]); have hpb := HPA.o nb (by simp [parts]); obtain ⟨ja, hja⟩ : ∃ ja : Nat, na = (ja : Int) := ⟨na.toNat, by omega⟩; obtain ⟨jb, hjb⟩ : ∃ jb : Nat, nb = (jb : Int) := ⟨nb.toNat, by omega⟩; subst hja; subst hjb; have HJA : Hid (ja < i) := zz (by omega); have HJB : Hid (jb < i) := zz (by omega); obtain ⟨PL, hPL⟩ : ∃ PL : Int → Int → List UInt8, ∀ (j m : Nat), PL (j : Int) (m : Int) = par (decide (tightK (kindAt L j) < m + 1)) (tl L j) := ⟨fun j m => par (decide (tightK (kindAt L j.toNat) < m.toNat + 1)) (tl L j.toNat), fun j m => by simp⟩; have hua : PL (ja : Int) 1 = par (decide (tightK (kindAt L ja) < 1 + 1)) (tl L ja) := hPL ja 1; have hub : PL (jb : Int) 2 = par (decide (tightK (kindAt L jb) < 2 + 1)) (tl L jb) := hPL jb 2; have HTT : Hid (t = PL (ja : Int) 1 ++ [32, 38, 32] ++ PL (jb : Int) 2) := zz (by rw [HEQ.o, hua, hub]; simp); have hlt2 : (PL (ja : Int) 1).length + (PL (jb : Int) 2).length ≤ 1000000000000000000 := by have h1 := HTL.o; rw [HTT.o] at h1; simp only [List.length_append, List.length_cons, List.length_nil] at h1; omega
  have hjla : (tl L ja).length ≤ 1000000000000000000 := by have h2 := par_ge (decide (tightK (kindAt L ja) < 1 + 1)) (tl L ja); rw [← hua] at h2; omega
  have hjlb : (tl L jb).length ≤ 1000000000000000000 := by have h2 := par_ge (decide (tightK (kindAt L jb) < 2 + 1)) (tl L jb); rw [← hub] at h2; omega
  have HUA : Hid ((PL (ja : Int) 1).length ≤ 1000000000000000002) := zz (by omega); have HUB : Hid ((PL (jb : Int) 2).length ≤ 1000000000000000002) := zz (by omega)
  have HPC : Hid (∀ (s : Past w2) (j m : Int), ((j = (ja : Int) ∧ m = 1) ∨ (j = (jb : Int) ∧ m = 2)) → Calls Tryz.prog 69 #[.slice (some ⟨b, o, none⟩) L.length c, .int .i64 j, .int .i64 m] s.val fun r w' => r = .returned (.string (bs (PL j m))) ∧ Below s.val.heap.size s.val w') := zz (fun s j m hjm => by
   rcases hjm with ⟨rfl, rfl⟩ | ⟨rfl, rfl⟩
   ·rw [hua]; exact ih ja HJA.o hjla _ s.val 1 (by omega) (HR2.o.below s.h)
   ·rw [hub]; exact ih jb HJB.o hjlb _ s.val 2 (by omega) (HR2.o.below s.h))
  clear hua hub hPL hpa hpb HEQ hlt2 hjla hjlb; have p4 : ∀ s : Past w2, s.val.cell? ⟨Y, 4, none⟩ = some (.int .i64 (ja : Int)) := Past.blk HY2.o (j := 4) rfl; have p5 : ∀ s : Past w2, s.val.cell? ⟨Y, 5, none⟩ = some (.int .i64 (jb : Int)) := Past.blk HY2.o (j := 5) rfl
  have hadd1 : ∀ w, (Op.stringOp .add (bs (PL (ja : Int) 1)) ⟨#[32, 38, 32]⟩).run Tryz.prog w = .ok (.string (bs (PL (ja : Int) 1 ++ [32, 38, 32]))) w := fun w => add_bs (PL (ja : Int) 1) [32, 38, 32] (by have := HUA.o; simp; omega) w
  have hadd2 : ∀ w, (Op.stringOp .add (bs (PL (ja : Int) 1 ++ [32, 38, 32])) (bs (PL (jb : Int) 2))).run Tryz.prog w = .ok (.string (bs t)) w := fun w => by rw [HTT.o]; exact add_bs (PL (ja : Int) 1 ++ [32, 38, 32]) (PL (jb : Int) 2) (by have := HUA.o; have := HUB.o; simp; omega) w
  go_upto_region 19 with fail; refine wp_region_past (by kernel_rfl) (by kernel_rfl) ?_
  repeat (go_big_quiet_step ((go_at_call 69; exact past_call (HPC.o _ _ _ (by first | exact .inl ⟨rfl, rfl⟩ | exact .inr ⟨rfl, rfl⟩)))))
  refine wpQuiet_past ?_; intro w3 h9; have HB3 : Hid (Below w.heap.size w w3) := zz (below_and HB2.o h9); have HY3 := zz (HY2.o.kept h9); clear y0 y1 y2 y3 y4 y5 p4 p5 h9 hadd1 hadd2; obtain ⟨y0, y1, y2, y3, y4, y5⟩ := cl6 HY3.o; go_upto_region 22 with fail; have HHH := HQ.o; have HP0 : Hid (bs (par false t) = bs t) := zz rfl; have HP1 : Hid (bs (par true t) = bs (40 :: (t ++ [41]))) := zz (by rw [par_true]); cases q
  ·have e9 : decide (tk < (m : Int)) = false := HHH.symm
   clear HHH; go_wp2_with (go_at_call 96; refine (HTI.o _).mono ?_; rintro r w9 ⟨rfl, hb9⟩; have HB9 : Hid (Below w.heap.size w w9) := zz (below_and HB3.o hb9); clear hb9); go_ret; exact ⟨(by first | (rw [HP0.o]; rfl) | (rw [HP0.o, HTT.o]; rfl)), HB9.o⟩
  ·have e9 : decide (tk < (m : Int)) = true := HHH.symm
   clear HHH; go_wp2_with (go_at_call 96; refine (HTI.o _).mono ?_; rintro r w9 ⟨rfl, hb9⟩; have HB9 : Hid (Below w.heap.size w w9) := zz (below_and HB3.o hb9); clear hb9); go_ret; exact ⟨(by first | (rw [HP1.o]; rfl) | (rw [HP1.o, HTT.o]; exact any_val)), HB9.o⟩
 have b8 : (k == 8) = false := by simpa using k8
 by_cases k9 : k = 9
 ·subst k9
  have hpa := HPA.o na (by simp [parts]); have hpb := HPA.o nb (by simp [parts]); obtain ⟨ja, hja⟩ : ∃ ja : Nat, na = (ja : Int) := ⟨na.toNat, by omega⟩; obtain ⟨jb, hjb⟩ : ∃ jb : Nat, nb = (jb : Int) := ⟨nb.toNat, by omega⟩; subst hja; subst hjb; have HJA : Hid (ja < i) := zz (by omega); have HJB : Hid (jb < i) := zz (by omega); obtain ⟨PL, hPL⟩ : ∃ PL : Int → Int → List UInt8, ∀ (j m : Nat), PL (j : Int) (m : Int) = par (decide (tightK (kindAt L j) < m + 1)) (tl L j) := ⟨fun j m => par (decide (tightK (kindAt L j.toNat) < m.toNat + 1)) (tl L j.toNat), fun j m => by simp⟩; have hua : PL (ja : Int) 0 = par (decide (tightK (kindAt L ja) < 0 + 1)) (tl L ja) := hPL ja 0; have hub : PL (jb : Int) 1 = par (decide (tightK (kindAt L jb) < 1 + 1)) (tl L jb) := hPL jb 1; have HTT : Hid (t = PL (ja : Int) 0 ++ [32, 124, 32] ++ PL (jb : Int) 1) := zz (by rw [HEQ.o, hua, hub]; simp); have hlt2 : (PL (ja : Int) 0).length + (PL (jb : Int) 1).length ≤ 1000000000000000000 := by have h1 := HTL.o; rw [HTT.o] at h1; simp only [List.length_append, List.length_cons, List.length_nil] at h1; omega
  have hjla : (tl L ja).length ≤ 1000000000000000000 := by have h2 := par_ge (decide (tightK (kindAt L ja) < 0 + 1)) (tl L ja); rw [← hua] at h2; omega
  have hjlb : (tl L jb).length ≤ 1000000000000000000 := by have h2 := par_ge (decide (tightK (kindAt L jb) < 1 + 1)) (tl L jb); rw [← hub] at h2; omega
  have HUA : Hid ((PL (ja : Int) 0).length ≤ 1000000000000000002) := zz (by omega); have HUB : Hid ((PL (jb : Int) 1).length ≤ 1000000000000000002) := zz (by omega)
  have HPC : Hid (∀ (s : Past w2) (j m : Int), ((j = (ja : Int) ∧ m = 0) ∨ (j = (jb : Int) ∧ m = 1)) → Calls Tryz.prog 69 #[.slice (some ⟨b, o, none⟩) L.length c, .int .i64 j, .int .i64 m] s.val fun r w' => r = .returned (.string (bs (PL j m))) ∧ Below s.val.heap.size s.val w') := zz (fun s j m hjm => by
   rcases hjm with ⟨rfl, rfl⟩ | ⟨rfl, rfl⟩
   ·rw [hua]; exact ih ja HJA.o hjla _ s.val 0 (by omega) (HR2.o.below s.h)
   ·rw [hub]; exact ih jb HJB.o hjlb _ s.val 1 (by omega) (HR2.o.below s.h))
  clear hua hub hPL hpa hpb HEQ hlt2 hjla hjlb; have p4 : ∀ s : Past w2, s.val.cell? ⟨Y, 4, none⟩ = some (.int .i64 (ja : Int)) := Past.blk HY2.o (j := 4) rfl; have p5 : ∀ s : Past w2, s.val.cell? ⟨Y, 5, none⟩ = some (.int .i64 (jb : Int)) := Past.blk HY2.o (j := 5) rfl
  have hadd1 : ∀ w, (Op.stringOp .add (bs (PL (ja : Int) 0)) ⟨#[32, 124, 32]⟩).run Tryz.prog w = .ok (.string (bs (PL (ja : Int) 0 ++ [32, 124, 32]))) w := fun w => add_bs (PL (ja : Int) 0) [32, 124, 32] (by have := HUA.o; simp; omega) w
  have hadd2 : ∀ w, (Op.stringOp .add (bs (PL (ja : Int) 0 ++ [32, 124, 32])) (bs (PL (jb : Int) 1))).run Tryz.prog w = .ok (.string (bs t)) w := fun w => by rw [HTT.o]; exact add_bs (PL (ja : Int) 0 ++ [32, 124, 32]) (PL (jb : Int) 1) (by have := HUA.o; have := HUB.o; simp; omega) w
  go_upto_region 21 with fail; refine wp_region_past (by kernel_rfl) (by kernel_rfl) ?_
  repeat (go_big_quiet_step ((go_at_call 69; exact past_call (HPC.o _ _ _ (by first | exact .inl ⟨rfl, rfl⟩ | exact .inr ⟨rfl, rfl⟩)))))
  refine wpQuiet_past ?_; intro w3 h9; have HB3 : Hid (Below w.heap.size w w3) := zz (below_and HB2.o h9); have HY3 := zz (HY2.o.kept h9); clear y0 y1 y2 y3 y4 y5 p4 p5 h9 hadd1 hadd2; obtain ⟨y0, y1, y2, y3, y4, y5⟩ := cl6 HY3.o; go_upto_region 22 with fail; have HHH := HQ.o; have HP0 : Hid (bs (par false t) = bs t) := zz rfl; have HP1 : Hid (bs (par true t) = bs (40 :: (t ++ [41]))) := zz (by rw [par_true]); cases q
  ·have e9 : decide (tk < (m : Int)) = false := HHH.symm
   clear HHH; go_wp2_with (go_at_call 96; refine (HTI.o _).mono ?_; rintro r w9 ⟨rfl, hb9⟩; have HB9 : Hid (Below w.heap.size w w9) := zz (below_and HB3.o hb9); clear hb9); go_ret; exact ⟨(by first | (rw [HP0.o]; rfl) | (rw [HP0.o, HTT.o]; rfl)), HB9.o⟩
  ·have e9 : decide (tk < (m : Int)) = true := HHH.symm
   clear HHH; go_wp2_with (go_at_call 96; refine (HTI.o _).mono ?_; rintro r w9 ⟨rfl, hb9⟩; have HB9 : Hid (Below w.heap.size w w9) := zz (below_and HB3.o hb9); clear hb9); go_ret; exact ⟨(by first | (rw [HP1.o]; rfl) | (rw [HP1.o, HTT.o]; exact any_val)), HB9.o⟩
 have := HDM.o.2.2.2
 omega
theorem dtold_any {L : List Nd} (hf : Fine L) (hc : ∀ n ∈ L, Dn n) : ∀ (m i : Nat), i < m → i < L.length → (tl L i).length ≤ 1000000000000000000 → DTold L i
 | 0, _, h, _, _ => absurd h (by omega)
 | m + 1, i, h, hi, hl => dtold_step L hf i hi (fun j hj hjl => dtold_any hf hc m j (by omega) (by omega) hjl) hl hc
