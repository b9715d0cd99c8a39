/- RdCheck, RdChk. -/
import Derived.Test.YtdemkfhkibmbnaaGreatDoorM38
import Derived.Test.YtdemkfhkibmbnaaGreatDoorRdLeafy
import Derived.Test.YtdemkfhkibmbnaaGreatDoorRdSame
set_option maxRecDepth 100000
set_option maxHeartbeats 8000000
namespace Go.Proofs.YtdemkfhkibmbnaaGreatDoor.Ru
open Go.RowKit Go.Proofs.YtdemkfhkibmbnaaGreatDoor
theorem two_cellsD (w : World) (v x y : Value) (t t' : TypeId) : Blk ((w.alloc (.cells #[v] t)).alloc (.cells #[x, y] t')) w.heap.size [v] t ∧ Blk ((w.alloc (.cells #[v] t)).alloc (.cells #[x, y] t')) (w.heap.size + 1) [x, y] t' ∧ Below w.heap.size w ((w.alloc (.cells #[v] t)).alloc (.cells #[x, y] t')) := by
 refine ⟨Blk.alloc (Blk.made w [v] _) _, ?_, below_and (below_alloc _ _) (below_alloc _ _)⟩; have := Blk.made (w.alloc (.cells #[v] t)) [x, y] t'; rw [show (w.alloc (.cells #[v] t)).heap.size = w.heap.size + 1 from by simp] at this; exact this
theorem nodesC_no {L : List Nd} {i : Nat} (hi : i < L.length) (h : nodeC i L[i] = false) : nodesC L = false := by
 cases hn : nodesC L
 ·rfl
 ·have := nodesC_at hn (List.getElem?_eq_getElem hi)
  rw [h] at this; cases this
theorem nodesC_all {L : List Nd} (h : ∀ i (hi : i < L.length), nodeC i L[i] = true) : nodesC L = true := by
 unfold nodesC
 rw [List.all_eq_true]; intro i hi; have hlt := List.mem_range.1 hi; rw [List.getElem?_eq_getElem hlt]; exact h i hlt
theorem nodeC_eq (k : Nat) (x : Nd) : nodeC k x = (leafyB x && !(decide (x.a < -1)) && !(decide ((k : Int) ≤ x.a)) && !(decide (x.b < -1)) && !(decide ((k : Int) ≤ x.b)) && !(decide (7 ≤ x.k) && decide (x.a < 0)) && !(decide (8 ≤ x.k) && decide (x.b < 0))) := by
 unfold nodeC
 have e1 : decide (-1 ≤ x.a) = !(decide (x.a < -1)) := by by_cases g : x.a < -1 <;> simp [g] <;> omega
 have e2 : decide (x.a < (k : Int)) = !(decide ((k : Int) ≤ x.a)) := by by_cases g : (k : Int) ≤ x.a <;> simp [g] <;> omega
 have e3 : decide (-1 ≤ x.b) = !(decide (x.b < -1)) := by by_cases g : x.b < -1 <;> simp [g] <;> omega
 have e4 : decide (x.b < (k : Int)) = !(decide ((k : Int) ≤ x.b)) := by by_cases g : (k : Int) ≤ x.b <;> simp [g] <;> omega
 rw [e1, e2, e3, e4]
theorem chk_len {L : List Nd} (h : ¬ (1 ≤ L.length ∧ L.length ≤ 64)) : docChk L = 2 := by unfold docChk dcond; rw [decide_eq_false h]; rfl
theorem chk_node {L : List Nd} (h : nodesC L = false) : docChk L = 2 := by unfold docChk dcond; rw [h, Bool.and_false]; rfl
theorem chk_siz {L : List Nd} (h : ¬ siz L (L.length - 1) = L.length) : docChk L = 2 := by unfold docChk dcond; rw [decide_eq_false h, Bool.and_false]; rfl
theorem chk_rest {L : List Nd} (h1 : 1 ≤ L.length ∧ L.length ≤ 64) (h2 : nodesC L = true) (h3 : siz L (L.length - 1) = L.length) : docChk L = if isOk (parseP (tl L (L.length - 1))) L then 0 else 2 := by
 unfold docChk dcond; rw [decide_eq_true h1, h2, decide_eq_true h3]; rfl
theorem dcheck_any (v : Value) (L : List Nd) (w : World) (hv : Row w v 6 L.length (rwC ndC L)) (hc : ∀ n ∈ L, n.nm.length ≤ 140737488351232 ∧ n.vl.length ≤ 140737488351232) : Calls Tryz.prog 36 #[.agg #[v]] w fun r w' => r = .returned (.int .i64 (docChk L)) ∧ Below w.heap.size w w' := by
 have HV := zz hv; obtain ⟨p, c, rfl, hcp, hm, -⟩ := hv; obtain ⟨w0, hw0⟩ : ∃ w0, w0 = w.alloc (.cells #[.slice p L.length c] 26) := ⟨_, rfl⟩; obtain ⟨B, hB⟩ : ∃ B, B = w.heap.size := ⟨_, rfl⟩; have HB0 : Hid (Below w.heap.size w w0) := zz (by rw [hw0]; exact below_alloc w _); have X0 : Hid (Blk w0 B [.slice p L.length c] 26) := zz (by rw [hw0, hB]; exact Blk.made w [.slice p L.length c] _); have x0 := X0.o.cell (j := 0) rfl; obtain ⟨S, hS⟩ : ∃ S, S = docChk L := ⟨_, rfl⟩; rw [← hS]; have HS := zz hS; clear hS; have hml : maxLen ≤ 9223372036854775807 := by decide
 have hn63 : (L.length : Int) ≤ 9223372036854775807 := by omega
 clear hml
 by_cases hlo : L.length < 1
 ·have d1 : decide ((L.length : Int) < 1) = true := by simp; omega
  have HV2 : Hid (S = 2) := zz (by rw [HS.o]; exact chk_len (by omega)); go_enter Tryz.func36, Tryz.ntmps36; go_upto_region 1 with fail; rw [← hw0, ← hB]; clear hw0 hB; go_wp2; go_ret; exact ⟨by rw [HV2.o]; rfl, HB0.o⟩
 have d1 : decide ((L.length : Int) < 1) = false := by simp; omega
 by_cases hhi : 64 < L.length
 ·have d2 : decide ((64 : Int) < (L.length : Int)) = true := by simp; omega
  have HV2 : Hid (S = 2) := zz (by rw [HS.o]; exact chk_len (by omega)); go_enter Tryz.func36, Tryz.ntmps36; go_upto_region 1 with fail; rw [← hw0, ← hB]; clear hw0 hB; go_wp2; go_ret; exact ⟨by rw [HV2.o]; rfl, HB0.o⟩
 have d2 : decide ((64 : Int) < (L.length : Int)) = false := by simp; omega
 have HLN : Hid (1 ≤ L.length ∧ L.length ≤ 64) := zz (by omega); clear hlo hhi hcp hm; go_enter Tryz.func36, Tryz.ntmps36; go_upto_region 1 with fail; rw [← hw0, ← hB]; clear hw0; have HBW := zz hB; clear hB; go_upto_region 5 with fail
 go_loopw [4] (fun i wr => ∃ k : Nat, k ≤ L.length ∧ i = .int .i64 (k : Int) ∧ Hid (∀ j (h : j < L.length), j < k → nodeC j L[j] = true) ∧ Hid (Below w0.heap.size w0 wr)) (fun i _ => L.length - (intOf i).toNat)
 case atStart => exact ⟨0, Nat.zero_le _, rfl, zz (fun _ _ h => by omega), zz (Below.refl _ _)⟩
 case round =>
  obtain ⟨k, hk, rfl, HD, HB⟩ := hrel; have HBr : Hid (Below w.heap.size w wr) := zz (below_and HB0.o HB.o); have x1 := (X0.o.kept HB.o).cell (j := 0) rfl
  by_cases hlt : k < L.length
  rotate_left
  ·obtain rfl : k = L.length := by omega
   have HNA := zz (nodesC_all (fun i hi => HD.o i hi hi)); obtain ⟨m, hm⟩ : ∃ m : Nat, m = L.length - 1 := ⟨_, rfl⟩; have HMM : Hid (m + 1 = L.length) := zz (by have := HLN.o; omega); have u1 : IntKind.i64.wrap ((L.length : Int) - 1) = (m : Int) := by rw [IntKind.wrap_i64]; have := HMM.o; omega
   have HRW := zz (HV.o.below HBr.o); have HSI : Hid (Calls Tryz.prog 67 #[.slice p L.length c, .int .i64 (m : Int)] wr fun r w' => r = .returned (.int .i64 (siz L m : Int)) ∧ wr = w') := zz (dsize_any (nodesC_ahd HNA.o) HLN.o.2 (m + 1) m (by omega) (by have := HMM.o; omega) _ wr HRW.o); have HSM : Hid (siz L (L.length - 1) = siz L m) := zz (by rw [hm]); clear hm; obtain ⟨z, hz⟩ : ∃ z, z = siz L m := ⟨_, rfl⟩; rw [← hz] at HSI HSM; have HZ := zz hz; clear hz
   by_cases hs : z = L.length
   rotate_left
   ·have t1 : ((z : Int) != (L.length : Int)) = true := by simp; omega
    have t2 : (z != L.length) = true := by simpa using hs
    have HV2 : Hid (S = 2) := zz (by rw [HS.o]; exact chk_siz (by rw [HSM.o]; exact hs)); clear hs; go_wp2_with (go_at_call 67; refine HSI.o.mono ?_; rintro r w3 ⟨rfl, rfl⟩); go_ret; exact ⟨by rw [HV2.o]; rfl, HBr.o⟩
   have t1 : ((z : Int) != (L.length : Int)) = false := by simp; omega
   have t2 : (z != L.length) = false := by simpa using hs
   have HCR : Hid (S = if isOk (parseP (tl L m)) L then 0 else 2) := zz (by rw [HS.o]; have := chk_rest HLN.o HNA.o (by rw [HSM.o]; exact hs); rw [show L.length - 1 = m by have := HMM.o; omega] at this; exact this); have HTS : Hid ((tl L m).length ≤ 6400) := zz (by have := tl_siz HNA.o (m + 1) m (by omega) (by have := HMM.o; omega) (by rw [← HZ.o]; have := HLN.o; omega); rw [← HZ.o] at this; have := HLN.o; omega); have HTO : Hid (Calls Tryz.prog 69 #[.slice p L.length c, .int .i64 (m : Int), .int .i64 0] wr fun r w' => r = .returned (.string (bs (tl L m))) ∧ Below wr.heap.size wr w') := zz (by have := dtold_any (nodesC_fine HNA.o) (fun n hn => by obtain ⟨i, hi, rfl⟩ := List.getElem_of_mem hn; exact leafy_dn (nodesC_leafy HNA.o (List.getElem?_eq_getElem hi))) (m + 1) m (by omega) (by have := HMM.o; omega) (by have := HTS.o; omega) _ wr 0 (by omega) HRW.o; rw [par_zero] at this; exact this); have HPA : Hid (∀ wx, Calls Tryz.prog 68 #[.string (bs (tl L m))] wx fun r w' => DParS wx w' (parseP (tl L m)) r) := zz (fun wx => by have := dparse_any (bs (tl L m)) wx (by rw [bs_size]; have := HTS.o; unfold maxLen; omega); rw [bs_data] at this; exact this)
   obtain ⟨tx, htx⟩ : ∃ tx, tx = tl L m := ⟨_, rfl⟩; rw [← htx] at HCR HTO HPA; obtain ⟨P, hP⟩ : ∃ P, P = parseP tx := ⟨_, rfl⟩; rw [← hP] at HCR HPA; clear htx hP hs; go_upto_region 14 with (go_at_call 67; refine HSI.o.mono ?_; rintro r w3 ⟨rfl, rfl⟩); clear HSI HSM HTS HNA HMM t1 t2
   cases P with
   | error q =>
    have HV2 : Hid (S = 2) := zz HCR.o
    go_upto_region 15 with (first
     | (go_at_call 69; refine HTO.o.mono ?_; rintro r w3 ⟨rfl, hb⟩; have HB3 := zz hb; clear hb)
     | (go_at_call 68; refine (HPA.o _).mono ?_; rintro r w4 ⟨⟨e, a, he, rfl⟩, hb⟩; have HB4 := zz (below_and HB3.o hb); have HE0 := zz he; clear hb he))
    obtain ⟨X, hX⟩ : ∃ X, X = w4.heap.size := ⟨_, rfl⟩; have h2 := two_cellsD w4 (.slice none 0 0) (.int .i64 e) (.int .i64 a) 26 97; obtain ⟨w5, hw5⟩ : ∃ w5, w5 = (w4.alloc (.cells #[.slice none 0 0] 26)).alloc (.cells #[.int .i64 e, .int .i64 a] 97) := ⟨_, rfl⟩; rw [← hw5] at h2 ⊢; have HB5 := zz (below_and HBr.o (below_and HB4.o h2.2.2)); rw [← hX] at h2 ⊢; have c0 := h2.1.cell (j := 0) rfl; obtain ⟨c1, c2⟩ := cl2 h2.2.1; clear h2 hw5 hX; have t3 : (e == 0) = false := by simpa using HE0.o
    go_wp2; go_ret; exact ⟨by rw [HV2.o]; rfl, HB5.o⟩
   | ok M =>
    have HV2 : Hid (S = if M = L then 0 else 2) := zz (by rw [HCR.o]; unfold isOk; by_cases g : M = L <;> simp [g])
    have HPB : Hid (∀ wx, Calls Tryz.prog 68 #[.string (bs tx)] wx fun r w' => ∃ q d, r = .returned (.tuple #[.agg #[.slice q M.length d], .agg #[.int .i64 0, .int .i64 0]]) ∧ Row w' (.slice q M.length d) 6 M.length (rwC ndC M) ∧ Below wx.heap.size wx w') := zz (fun wx => by
     refine (HPA.o wx).mono fun r w' h => ?_
     obtain ⟨⟨v, h1, h2⟩, h3⟩ := h; obtain ⟨q, d, rfl, -, -, h4⟩ := row_own h2 (rwC_one ndC_one M)
     exact ⟨q, d, h1, h4, h3⟩)
    have HEQ : Hid (∀ q d w3, Row w3 (.slice q M.length d) 6 M.length (rwC ndC M) → Below wr.heap.size wr w3 → Calls Tryz.prog 37 #[.agg #[.slice q M.length d], .agg #[.slice p L.length c]] w3 fun r w' => r = .returned (.bool (decide (M = L))) ∧ Below w3.heap.size w3 w') := zz (fun q d w3 h1 hb => dsame_any _ _ M L w3 h1 (HRW.o.below hb)); have HXR := zz (X0.o.kept HB.o); obtain ⟨ml, hml⟩ : ∃ ml, ml = M.length := ⟨_, rfl⟩; rw [← hml] at HPB HEQ; obtain ⟨dq, hdq⟩ : ∃ dq, dq = decide (M = L) := ⟨_, rfl⟩; rw [← hdq] at HEQ; have HV3 : Hid (S = if dq then 0 else 2) := zz (by rw [HV2.o, hdq]; by_cases g : M = L <;> simp [g]); clear hml hdq HPA HCR HV2
    go_upto_region 15 with (first
     | (go_at_call 69; refine HTO.o.mono ?_; rintro r w3 ⟨rfl, hb⟩; have HB3 := zz hb; clear hb)
     | (go_at_call 68; refine (HPB.o _).mono ?_; rintro r w4 ⟨q, d, rfl, hrow, hb⟩; have HB4 := zz (below_and HB3.o hb); have HR4 := zz hrow; clear hb hrow))
    obtain ⟨X, hX⟩ : ∃ X, X = w4.heap.size := ⟨_, rfl⟩; have h2 := two_cellsD w4 (.slice q ml d) (.int .i64 0) (.int .i64 0) 26 97; obtain ⟨w5, hw5⟩ : ∃ w5, w5 = (w4.alloc (.cells #[.slice q ml d] 26)).alloc (.cells #[.int .i64 0, .int .i64 0] 97) := ⟨_, rfl⟩; rw [← hw5] at h2 ⊢; have HB5 := zz (below_and HB4.o h2.2.2); have HR5 := zz (HR4.o.below h2.2.2); rw [← hX] at h2 ⊢; have c0 := h2.1.cell (j := 0) rfl; obtain ⟨c1, c2⟩ := cl2 h2.2.1; have c3 := (HXR.o.kept HB5.o).cell (j := 0) rfl; clear h2 hw5 hX x1; cases dq
    ·
     have HV4 : Hid (S = 2) := zz HV3.o; go_wp2_with (go_at_call 37; refine (HEQ.o _ _ _ HR5.o HB5.o).mono ?_; rintro r w6 ⟨rfl, hb⟩; have HB6 := zz (below_and HBr.o (below_and HB5.o hb)); clear hb); go_ret; exact ⟨by rw [HV4.o]; rfl, HB6.o⟩
    ·
     have HV4 : Hid (S = 0) := zz HV3.o; go_wp2_with (go_at_call 37; refine (HEQ.o _ _ _ HR5.o HB5.o).mono ?_; rintro r w6 ⟨rfl, hb⟩; have HB6 := zz (below_and HBr.o (below_and HB5.o hb)); clear hb); go_ret; exact ⟨by rw [HV4.o]; rfl, HB6.o⟩
  have HKL := zz hlt; obtain ⟨x, hx⟩ : ∃ x, x = L[k]'HKL.o := ⟨_, rfl⟩; have HLC := zz (node_at (HV.o.below HBr.o) HKL.o); rw [← hx] at HLC; have HX := zz hx; have HCX := zz (hc x (by rw [hx]; exact List.getElem_mem _)); clear hx; obtain ⟨b, o, rfl, hcell⟩ := HLC.o; have q0 := hcell 0 _ rfl; rw [Nat.add_zero] at q0; have q1 := hcell 1 _ rfl; have q2 := hcell 2 _ rfl; have q3 := hcell 3 _ rfl; have q4 := hcell 4 _ rfl; have q5 := hcell 5 _ rfl; have i0 : (0 : Int) ≤ (k : Int) := by omega
  have i1 : (k : Int) < (L.length : Int) := by omega
  clear hcell HLC; go_upto_region 8 with fail; refine at_hide (F := fun w' => Blk w' wr.heap.size (ndC x) 69 ∧ Below wr.heap.size wr w') ⟨Blk.made wr (ndC x) _, below_alloc wr _⟩ ?_; intro w2 hF; obtain ⟨Y, hY⟩ : ∃ Y, Y = wr.heap.size := ⟨_, rfl⟩; rw [← hY] at hF ⊢; have HY2 := zz hF.1; have HB2 : Hid (Below wr.heap.size wr w2) := zz (by rw [← hY]; exact hF.2); clear hF hY q0 q1 q2 q3 q4 q5 x1; have HNC := zz (nodeC_eq k x); have HLE : Hid (∀ w, Calls Tryz.prog 66 #[ndV x] w fun r w' => r = .returned (.bool (leafyB x)) ∧ Below w.heap.size w w') := zz (fun w => dleafy_any x w HCX.o.1 HCX.o.2); obtain ⟨y0, y1, y2, y3, y4, y5⟩ := cl6 HY2.o; obtain ⟨xk, nm, vl, xx, na, nb⟩ := x; simp only at HNC HLE HX; obtain ⟨lf, hlf⟩ : ∃ q, q = leafyB ⟨xk, nm, vl, xx, na, nb⟩ := ⟨_, rfl⟩; rw [← hlf] at HNC HLE; obtain ⟨NC, hNC⟩ : ∃ q, q = nodeC k ⟨xk, nm, vl, xx, na, nb⟩ := ⟨_, rfl⟩; rw [← hNC] at HNC; have HN1 := zz hNC; clear hlf hNC; obtain ⟨c1, ec1⟩ : ∃ q, decide (na < -1) = q := ⟨_, rfl⟩; obtain ⟨c2, ec2⟩ : ∃ q, decide ((k : Int) ≤ na) = q := ⟨_, rfl⟩; obtain ⟨c3, ec3⟩ : ∃ q, decide (nb < -1) = q := ⟨_, rfl⟩; obtain ⟨c4, ec4⟩ : ∃ q, decide ((k : Int) ≤ nb) = q := ⟨_, rfl⟩
  obtain ⟨g7, eg7⟩ : ∃ q, decide (7 ≤ xk) = q := ⟨_, rfl⟩; obtain ⟨ga, ega⟩ : ∃ q, decide (na < 0) = q := ⟨_, rfl⟩; obtain ⟨g8, eg8⟩ : ∃ q, decide (8 ≤ xk) = q := ⟨_, rfl⟩; obtain ⟨gb, egb⟩ : ∃ q, decide (nb < 0) = q := ⟨_, rfl⟩; rw [ec1, ec2, ec3, ec4, eg7, ega, eg8, egb] at HNC; cases lf
  ·
   have HV2 : Hid (S = 2) := zz (by rw [HS.o]; refine chk_node (nodesC_no HKL.o ?_); rw [← HX.o, ← HN1.o, HNC.o]; rfl); go_wp2_with (go_at_call 66; refine (HLE.o _).mono ?_; rintro r w3 ⟨rfl, hb3⟩; have HB3 : Hid (Below w.heap.size w w3) := zz (below_and (below_and HBr.o HB2.o) hb3); have HB3a : Hid (Below w0.heap.size w0 w3) := zz (below_and (below_and HB.o HB2.o) hb3); have HY3 := zz (HY2.o.kept hb3); obtain ⟨-, -, -, -, z4, z5⟩ := cl6 HY3.o; clear hb3); go_ret; exact ⟨by rw [HV2.o]; rfl, HB3.o⟩
  cases c1; rotate_left
  ·
   have HV2 : Hid (S = 2) := zz (by rw [HS.o]; refine chk_node (nodesC_no HKL.o ?_); rw [← HX.o, ← HN1.o, HNC.o]; rfl); go_wp2_with (go_at_call 66; refine (HLE.o _).mono ?_; rintro r w3 ⟨rfl, hb3⟩; have HB3 : Hid (Below w.heap.size w w3) := zz (below_and (below_and HBr.o HB2.o) hb3); have HB3a : Hid (Below w0.heap.size w0 w3) := zz (below_and (below_and HB.o HB2.o) hb3); have HY3 := zz (HY2.o.kept hb3); obtain ⟨-, -, -, -, z4, z5⟩ := cl6 HY3.o; clear hb3); go_ret; exact ⟨by rw [HV2.o]; rfl, HB3.o⟩
  cases c2; rotate_left
  ·
   have HV2 : Hid (S = 2) := zz (by rw [HS.o]; refine chk_node (nodesC_no HKL.o ?_); rw [← HX.o, ← HN1.o, HNC.o]; rfl); go_wp2_with (go_at_call 66; refine (HLE.o _).mono ?_; rintro r w3 ⟨rfl, hb3⟩; have HB3 : Hid (Below w.heap.size w w3) := zz (below_and (below_and HBr.o HB2.o) hb3); have HB3a : Hid (Below w0.heap.size w0 w3) := zz (below_and (below_and HB.o HB2.o) hb3); have HY3 := zz (HY2.o.kept hb3); obtain ⟨-, -, -, -, z4, z5⟩ := cl6 HY3.o; clear hb3); go_ret; exact ⟨by rw [HV2.o]; rfl, HB3.o⟩
  cases c3; rotate_left
  ·
   have HV2 : Hid (S = 2) := zz (by rw [HS.o]; refine chk_node (nodesC_no HKL.o ?_); rw [← HX.o, ← HN1.o, HNC.o]; rfl); go_wp2_with (go_at_call 66; refine (HLE.o _).mono ?_; rintro r w3 ⟨rfl, hb3⟩; have HB3 : Hid (Below w.heap.size w w3) := zz (below_and (below_and HBr.o HB2.o) hb3); have HB3a : Hid (Below w0.heap.size w0 w3) := zz (below_and (below_and HB.o HB2.o) hb3); have HY3 := zz (HY2.o.kept hb3); obtain ⟨-, -, -, -, z4, z5⟩ := cl6 HY3.o; clear hb3); go_ret; exact ⟨by rw [HV2.o]; rfl, HB3.o⟩
  cases c4; rotate_left
  ·
   have HV2 : Hid (S = 2) := zz (by rw [HS.o]; refine chk_node (nodesC_no HKL.o ?_); rw [← HX.o, ← HN1.o, HNC.o]; rfl); go_wp2_with (go_at_call 66; refine (HLE.o _).mono ?_; rintro r w3 ⟨rfl, hb3⟩; have HB3 : Hid (Below w.heap.size w w3) := zz (below_and (below_and HBr.o HB2.o) hb3); have HB3a : Hid (Below w0.heap.size w0 w3) := zz (below_and (below_and HB.o HB2.o) hb3); have HY3 := zz (HY2.o.kept hb3); obtain ⟨-, -, -, -, z4, z5⟩ := cl6 HY3.o; clear hb3); go_ret; exact ⟨by rw [HV2.o]; rfl, HB3.o⟩
  go_upto_region 10 with (go_at_call 66; refine (HLE.o _).mono ?_; rintro r w3 ⟨rfl, hb3⟩; have HB3 : Hid (Below w.heap.size w w3) := zz (below_and (below_and HBr.o HB2.o) hb3); have HB3a : Hid (Below w0.heap.size w0 w3) := zz (below_and (below_and HB.o HB2.o) hb3); have HY3 := zz (HY2.o.kept hb3); obtain ⟨-, -, -, -, z4, z5⟩ := cl6 HY3.o; clear hb3); clear y0 y1 y2 y3 y4 y5 z4 z5; obtain ⟨y0, y1, y2, y3, y4, y5⟩ := cl6 HY3.o; cases g7
  ·
   cases g8
   ·
    have HGD : Hid (NC = true) := zz (by rw [HNC.o]; rfl); go_wp2; go_roundw
    case rel => exact ⟨k + 1, hlt, by go_num, zz (fun j h hj => by
     by_cases ej : j = k
     ·subst ej; rw [← HX.o, ← HN1.o]; exact HGD.o
     ·exact HD.o j h (by omega)), HB3a⟩
    case measure => simp [intOf]; omega
   ·
    cases gb
    ·
     have HGD : Hid (NC = true) := zz (by rw [HNC.o]; rfl); go_wp2; go_roundw
     case rel => exact ⟨k + 1, hlt, by go_num, zz (fun j h hj => by
      by_cases ej : j = k
      ·subst ej; rw [← HX.o, ← HN1.o]; exact HGD.o
      ·exact HD.o j h (by omega)), HB3a⟩
     case measure => simp [intOf]; omega
    ·
     have HV2 : Hid (S = 2) := zz (by rw [HS.o]; refine chk_node (nodesC_no HKL.o ?_); rw [← HX.o, ← HN1.o, HNC.o]; rfl); go_wp2; go_ret; exact ⟨by rw [HV2.o]; rfl, HB3.o⟩
  ·
   cases ga
   ·
    cases g8
    ·
     have HGD : Hid (NC = true) := zz (by rw [HNC.o]; rfl); go_wp2; go_roundw
     case rel => exact ⟨k + 1, hlt, by go_num, zz (fun j h hj => by
      by_cases ej : j = k
      ·subst ej; rw [← HX.o, ← HN1.o]; exact HGD.o
      ·exact HD.o j h (by omega)), HB3a⟩
     case measure => simp [intOf]; omega
    ·
     cases gb
     ·
      have HGD : Hid (NC = true) := zz (by rw [HNC.o]; rfl); go_wp2; go_roundw
      case rel => exact ⟨k + 1, hlt, by go_num, zz (fun j h hj => by
       by_cases ej : j = k
       ·subst ej; rw [← HX.o, ← HN1.o]; exact HGD.o
       ·exact HD.o j h (by omega)), HB3a⟩
      case measure => simp [intOf]; omega
     ·
      have HV2 : Hid (S = 2) := zz (by rw [HS.o]; refine chk_node (nodesC_no HKL.o ?_); rw [← HX.o, ← HN1.o, HNC.o]; rfl); go_wp2; go_ret; exact ⟨by rw [HV2.o]; rfl, HB3.o⟩
   ·
    have HV2 : Hid (S = 2) := zz (by rw [HS.o]; refine chk_node (nodesC_no HKL.o ?_); rw [← HX.o, ← HN1.o, HNC.o]; rfl); go_wp2; go_ret; exact ⟨by rw [HV2.o]; rfl, HB3.o⟩
theorem chk_two (L : List Nd) : checkP L = 0 ∨ checkP L = 2 := by
 rw [← docChk_eq]
 unfold docChk
 split
 ·exact .inl rfl
 ·exact .inr rfl
theorem chk_parts {L : List Nd} (h : checkP L = 0) : (1 ≤ L.length ∧ L.length ≤ 64) ∧ nodesC L = true ∧ siz L (L.length - 1) = L.length := by
 rw [← docChk_eq] at h; refine ⟨?_, ?_, ?_⟩
 ·apply Classical.byContradiction; intro g; rw [chk_len g] at h; cases h
 ·cases g : nodesC L
  ·rw [chk_node g] at h; cases h
  ·rfl
 ·apply Classical.byContradiction; intro g; rw [chk_siz g] at h; cases h
