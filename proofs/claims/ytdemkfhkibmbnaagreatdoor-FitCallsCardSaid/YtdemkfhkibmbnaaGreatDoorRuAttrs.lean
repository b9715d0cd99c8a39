/- RuAttrs. -/
import Derived.Test.YtdemkfhkibmbnaaGreatDoorM22
set_option maxRecDepth 100000
set_option maxHeartbeats 8000000
namespace Go.Proofs.YtdemkfhkibmbnaaGreatDoor.Ru
open Go.RowKit Go.Proofs.YtdemkfhkibmbnaaGreatDoor
def leB (a b : List UInt8) : Bool := Op.bytesLess a b || a == b
def attrOk (A : List At) (i : Nat) (x : At) : Bool := isNameB x.nm && wordB x.vl && (i == 0 || !leB x.nm ((A[i - 1]?.map At.nm).getD []))
def attrsB (A : List At) : Bool := decide (A.length ≤ 16) && (List.range A.length).all (fun i => match A[i]? with | some x => attrOk A i x | none => true)
def attrsR (A : List At) : Int := if attrsB A = true then 0 else 2
theorem attr_long {A : List At} (h : ¬ A.length ≤ 16) : attrsR A = 2 := by unfold attrsR attrsB; rw [decide_eq_false h]; rfl
theorem attr_bad {A : List At} (h : ∃ i, ∃ h : i < A.length, attrOk A i A[i] = false) : attrsR A = 2 := by
 obtain ⟨i, hi, h⟩ := h
 unfold attrsR attrsB
 have : (List.range A.length).all (fun i => match A[i]? with | some x => attrOk A i x | none => true) = false := by
  rw [List.all_eq_false]; refine ⟨i, List.mem_range.2 hi, ?_⟩; rw [List.getElem?_eq_getElem hi]
  simp [h]
 rw [this]
 simp
theorem attr_good {A : List At} (hl : A.length ≤ 16) (h : ∀ i (h : i < A.length), attrOk A i A[i] = true) : attrsR A = 0 := by
 unfold attrsR attrsB
 rw [if_pos]; simp only [Bool.and_eq_true, decide_eq_true_eq, List.all_eq_true, List.mem_range]; refine ⟨hl, fun i hi => ?_⟩; rw [List.getElem?_eq_getElem hi]; exact h i hi
theorem bs_less (a b : List UInt8) : Op.bytesLess (bs a).toList (bs b).toList = Op.bytesLess a b := by
 rw [Lib.toList_data, Lib.toList_data]
 simp [bs]
theorem attrs_any (v : Value) (A : List At) (w : World) (hv : Row w v 2 A.length (rwC atC A)) :
  Calls Tryz.prog 23 #[v] w fun r w' => r = .returned (.int .i64 (attrsR A)) ∧ Below w.heap.size w w' := by
 obtain ⟨p, c, rfl, hc, hm, -⟩ := id hv; have HV := zz hv; have hml : maxLen ≤ 9223372036854775807 := by decide
 have hn63 : (A.length : Int) ≤ 9223372036854775807 := by omega
 obtain ⟨n, hn⟩ : ∃ n, n = A.length := ⟨_, rfl⟩; have HLN := zz hn; rw [← hn] at hn63 ⊢; clear hv hc hm hml hn
 by_cases hlong : 16 < n
 ·have HR : Hid (attrsR A = 2) := zz (attr_long (by have := HLN.o; omega))
  have t1 : decide (16 < n) = true := decide_eq_true hlong; go_enter Tryz.func23, Tryz.ntmps23; go_wp2; go_ret; exact ⟨ret_int HR.o.symm, Below.refl _ _⟩
 have hl16 : n ≤ 16 := by omega
 have HL : Hid (n ≤ 16) := zz hl16; clear hlong; go_enter Tryz.func23, Tryz.ntmps23; go_wp2; clear hl16
 go_loopw [10] (fun i wr => ∃ k : Nat, k ≤ n ∧ i = .int .i64 (k : Int) ∧ Hid (∀ j (h : j < A.length), j < k → attrOk A j A[j] = true) ∧ Hid (Below w.heap.size w wr)) (fun i _ => n - (intOf i).toNat)
 case atStart => exact ⟨0, Nat.zero_le _, rfl, zz (fun j _ h => by omega), zz (Below.refl _ _)⟩
 case round =>
  obtain ⟨k, hk, rfl, HF, HB⟩ := hrel
  by_cases hlt : k < n
  ·have HKN : Hid (k < A.length) := zz (by have := HLN.o; omega)
   obtain ⟨x, hx⟩ : ∃ x, x = A[k]'HKN.o := ⟨_, rfl⟩
   have HLC : Hid (∃ b o, p = some ⟨b, o, none⟩ ∧ wr.cell? ⟨b, o + k * 2, none⟩ = some (.string (bs x.nm)) ∧ wr.cell? ⟨b, o + k * 2 + 1, none⟩ = some (.string (bs x.vl))) := zz (by
    rw [hx]
    exact attr_at (HV.o.below HB.o) HKN.o)
   have HX := zz hx; clear hx; obtain ⟨b, o, rfl, q0, q1⟩ := HLC.o; clear HLC; go_upto_region 6 with fail; obtain ⟨Y, hY⟩ : ∃ Y, Y = wr.heap.size := ⟨_, rfl⟩; refine at_hide (F := fun w' => Blk w' Y (atC x) 81 ∧ Below wr.heap.size wr w') ⟨by rw [hY]; exact Blk.made wr (atC x) _, below_alloc _ _⟩ ?_; rw [← hY]; intro w3 hF; have hb3 : Below wr.heap.size wr w3 := by have := hF.2; rw [hY] at this; exact this
   have HB3 : Hid (Below w.heap.size w w3) := zz (below_and HB.o hb3); have HY3 := zz hF.1; clear hF hY q0 q1 hb3; have p0 : ∀ s : Past w3, s.val.cell? ⟨Y, 0, none⟩ = some (.string (bs x.nm)) := Past.blk HY3.o (j := 0) rfl; have p1 : ∀ s : Past w3, s.val.cell? ⟨Y, 1, none⟩ = some (.string (bs x.vl)) := Past.blk HY3.o (j := 1) rfl; have HNM : Hid (∀ s : Past w3, Calls Tryz.prog 52 #[.string (bs x.nm)] s.val fun r w' => r = .returned (.bool (isNameB x.nm)) ∧ Below s.val.heap.size s.val w') := zz (fun s => by have := isName_any (bs x.nm) s.val; rw [show (bs x.nm).data.toList = x.nm from by simp [bs]] at this; exact this); have HWD : Hid (∀ s : Past w3, Calls Tryz.prog 53 #[.string (bs x.vl)] s.val fun r w' => r = .returned (.bool (wordB x.vl)) ∧ Below s.val.heap.size s.val w') := zz (fun s => by have := isWord_any (bs x.vl) s.val; rw [show (bs x.vl).data.toList = x.vl from by simp [bs]] at this; exact this)
   cases hnm : isNameB x.nm with
   | false =>
    rw [hnm] at HNM; have HN : Hid (∃ i, ∃ h : i < A.length, attrOk A i A[i] = false) := zz ⟨k, HKN.o, by rw [← HX.o]; unfold attrOk; rw [hnm]; rfl⟩; clear hnm; refine wp_region_past (by kernel_rfl) (by kernel_rfl) ?_
    repeat (go_big_quiet_step ((first | (go_at_call 52; exact past_call (HNM.o _)) | (go_at_call 53; exact past_call (HWD.o _)))))
    refine wpQuiet_nil ?_; intro _ hw'; obtain ⟨s9, hw''⟩ := hw'; subst hw''; have HB9 : Hid (Below w.heap.size w s9.val) := zz (below_and HB3.o s9.h); go_wp2; go_ret; exact ⟨ret_int (attr_bad HN.o).symm, HB9.o⟩
   | true =>
    rw [hnm] at HNM; have HNT := zz hnm; clear hnm
    cases hwd : wordB x.vl with
    | false =>
     rw [hwd] at HWD; have HN : Hid (∃ i, ∃ h : i < A.length, attrOk A i A[i] = false) := zz ⟨k, HKN.o, by rw [← HX.o]; unfold attrOk; rw [hwd, HNT.o]; rfl⟩; clear hwd; refine wp_region_past (by kernel_rfl) (by kernel_rfl) ?_
     repeat (go_big_quiet_step ((first | (go_at_call 52; exact past_call (HNM.o _)) | (go_at_call 53; exact past_call (HWD.o _)))))
     refine wpQuiet_nil ?_; intro _ hw'; obtain ⟨s9, hw''⟩ := hw'; subst hw''; have HB9 : Hid (Below w.heap.size w s9.val) := zz (below_and HB3.o s9.h); go_wp2; go_ret; exact ⟨ret_int (attr_bad HN.o).symm, HB9.o⟩
    | true =>
     rw [hwd] at HWD; have HWT := zz hwd; clear hwd
     by_cases hk0 : k = 0
     ·subst hk0
      have HF2 : Hid (∀ j (h : j < A.length), j < 0 + 1 → attrOk A j A[j] = true) := zz (fun j h hj => by
       obtain rfl : j = 0 := by omega
       rw [← HX.o]
       unfold attrOk
       rw [HNT.o, HWT.o]
       rfl)
      refine wp_region_past (by kernel_rfl) (by kernel_rfl) ?_
      repeat (go_big_quiet_step ((first | (go_at_call 52; exact past_call (HNM.o _)) | (go_at_call 53; exact past_call (HWD.o _)))))
      refine wpQuiet_nil ?_; intro _ hw'; obtain ⟨s9, hw''⟩ := hw'; subst hw''; have HB9 : Hid (Below w.heap.size w s9.val) := zz (below_and HB3.o s9.h); go_wp2; go_roundw
      case rel => exact ⟨0 + 1, by omega, by go_num, HF2, HB9⟩
      case measure => simp [intOf]; omega
     obtain ⟨i, hi⟩ : ∃ i, k = i + 1 := ⟨k - 1, by omega⟩; subst hi; have HIN : Hid (i < A.length) := zz (by have := HKN.o; omega); obtain ⟨y, hy⟩ : ∃ y, y = A[i]'HIN.o := ⟨_, rfl⟩
     have HQ : Hid (w3.cell? ⟨b, o + i * 2, none⟩ = some (.string (bs y.nm))) := zz (by
      obtain ⟨b', o', e, h1, -⟩ := attr_at (HV.o.below HB3.o) HIN.o; simp only [Option.some.injEq, Addr.mk.injEq, and_true] at e; obtain ⟨rfl, rfl⟩ := e
      rw [hy]; exact h1)
     have pq : ∀ s : Past w3, s.val.cell? ⟨b, o + i * 2, none⟩ = some (.string (bs y.nm)) := fun s => cell_kept HQ.o s.h
     have HOK : Hid (attrOk A (i + 1) x = !(Op.bytesLess x.nm y.nm || x.nm == y.nm)) := zz (by
      unfold attrOk leB
      rw [HNT.o, HWT.o, Nat.add_sub_cancel, List.getElem?_eq_getElem HIN.o, ← hy]
      simp)
     have u1 : IntKind.i64.wrap ((i : Int) + 1 - 1) = (i : Int) := by rw [IntKind.wrap_i64]; have := HKN.o; have := HLN.o; have := HL.o; omega
     have i1 : (i : Int) < (n : Int) := by omega
     have i2 : (0 : Int) ≤ (i : Int) := by omega
     have t0 : decide ((0 : Int) < (i : Int) + 1) = true := by first | (simp; done) | (simp; omega)
     have hbl := bs_less x.nm y.nm; have hbe := bs_beq x.nm y.nm; obtain ⟨q1, hq1⟩ : ∃ q1, q1 = Op.bytesLess x.nm y.nm := ⟨_, rfl⟩; obtain ⟨q2, hq2⟩ : ∃ q2, q2 = (x.nm == y.nm) := ⟨_, rfl⟩; rw [← hq1] at hbl HOK; rw [← hq2] at hbe HOK; clear hq1 hq2 hy hk0
     by_cases hle : (q1 || q2) = true
     ·have HN : Hid (∃ i, ∃ h : i < A.length, attrOk A i A[i] = false) := zz ⟨i + 1, HKN.o, by rw [← HX.o, HOK.o, hle]; rfl⟩
      cases q1 <;> cases q2 <;> (first | (exfalso; revert hle; decide) | skip)
      all_goals
       clear hle; refine wp_region_past (by kernel_rfl) (by kernel_rfl) ?_
       repeat (go_big_quiet_step ((first | (go_at_call 52; exact past_call (HNM.o _)) | (go_at_call 53; exact past_call (HWD.o _)))))
       refine wpQuiet_nil ?_; intro _ hw'; obtain ⟨s9, hw''⟩ := hw'; subst hw''; have HB9 : Hid (Below w.heap.size w s9.val) := zz (below_and HB3.o s9.h); go_wp2; go_ret; exact ⟨ret_int (attr_bad HN.o).symm, HB9.o⟩
     ·have HF2 : Hid (∀ j (h : j < A.length), j < i + 1 + 1 → attrOk A j A[j] = true) := zz (fun j h hj => by
       by_cases e : j = i + 1
       ·subst e
        rw [← HX.o, HOK.o]
        simpa using hle
       ·exact HF.o j h (by omega))
      have hq1 : q1 = false := by cases q1 <;> simp_all
      have hq2 : q2 = false := by cases q2 <;> simp_all
      subst hq1; subst hq2; clear hle; refine wp_region_past (by kernel_rfl) (by kernel_rfl) ?_
      repeat (go_big_quiet_step ((first | (go_at_call 52; exact past_call (HNM.o _)) | (go_at_call 53; exact past_call (HWD.o _)))))
      refine wpQuiet_nil ?_; intro _ hw'; obtain ⟨s9, hw''⟩ := hw'; subst hw''; have HB9 : Hid (Below w.heap.size w s9.val) := zz (below_and HB3.o s9.h); go_wp2; go_roundw
      case rel => exact ⟨(i + 1) + 1, by omega, by go_num, HF2, HB9⟩
      case measure => simp [intOf]; omega
  ·obtain rfl : k = n := by omega
   have HR : Hid (attrsR A = 0) := zz (attr_good (by have := HLN.o; have := HL.o; omega) (fun j h => HF.o j h (by have := HLN.o; omega))); go_wp2; go_ret; exact ⟨ret_int HR.o.symm, HB.o⟩
def holdsR (L : List Nd) (A : List At) : Bool × Int :=
 if checkP L = 0 then (if attrsR A = 0 then (hol L A (L.length - 1), 0) else (false, attrsR A)) else (false, checkP L)
theorem check_yes0 {L : List Nd} (h : checkP L = 0) : shapedB L = true := by
 unfold checkP at h
 split at h
 ·assumption
 ·cases h
theorem holds_any (v u : Value) (L : List Nd) (A : List At) (w : World) (hv : Row w v 6 L.length (rwC ndC L)) (hu : Row w u 2 A.length (rwC atC A)) (hc : ∀ n ∈ L, Fit1 n) (ha : ∀ a ∈ A, a.vl.length ≤ 1000000000000000000) (hE : ErrV w) (hT : Tab w) :
  Calls Tryz.prog 43 #[.agg #[v], u] w fun r w' => r = .returned (.tuple #[.bool (holdsR L A).1, .int .i64 (holdsR L A).2]) ∧ Below w.heap.size w w' := by
 obtain ⟨p, c, rfl, hcc, hm, -⟩ := id hv; have HV := zz hv; have HU := zz hu; have hml : maxLen ≤ 9223372036854775807 := by decide
 obtain ⟨n, hn⟩ : ∃ n, n = L.length := ⟨_, rfl⟩; have HN := zz hn; obtain ⟨R, hR⟩ : ∃ R, R = w.heap.size := ⟨_, rfl⟩
 have HCK : Hid (∀ w1, Below w.heap.size w w1 → Calls Tryz.prog 33 #[.agg #[.slice p n c]] w1 fun r w' => r = .returned (.int .i64 (checkP L)) ∧ Below w1.heap.size w1 w') := zz (fun w1 hb => by
  rw [hn]
  exact check_any _ L w1 (hv.below hb) hc (hE.below hb) (hT.below hb))
 have HAT : Hid (∀ w1, Below w.heap.size w w1 → Calls Tryz.prog 23 #[u] w1 fun r w' => r = .returned (.int .i64 (attrsR A)) ∧ Below w1.heap.size w1 w') := zz (fun w1 hb => attrs_any u A w1 (hu.below hb))
 have HOLC : Hid (checkP L = 0 → ∀ w1, Below w.heap.size w w1 → Calls Tryz.prog 74 #[.slice p n c, .int .i64 ((n - 1 : Nat) : Int), u] w1 fun r w' => r = .returned (.bool (hol L A (L.length - 1))) ∧ Below w1.heap.size w1 w') := zz (fun hck w1 hb => by
  obtain ⟨hf, h1, h2, h3⟩ := shaped_fine (check_yes0 hck); rw [hn]
  exact hold_any hf ha L.length (L.length - 1) (by omega) (by omega) _ _ w1 (hv.below hb) (hu.below hb) (hE.below hb))
 have HPOS : Hid (checkP L = 0 → 1 ≤ n ∧ n ≤ 64) := zz (fun hck => by
  obtain ⟨hf, h1, h2, h3⟩ := shaped_fine (check_yes0 hck)
  omega)
 have hn63 : (n : Int) ≤ 9223372036854775807 := by omega
 rw [← hn] at HV hcc ⊢
 have hbx : ∀ w1, w1 = w.alloc (.cells #[.slice p n c] 26) → Blk w1 w.heap.size [.slice p n c] 26 ∧ Below w.heap.size w w1 := fun w1 e => by subst e; exact ⟨Blk.made w [_] _, below_alloc _ _⟩
 obtain ⟨w1, hw1⟩ : ∃ w1, w1 = w.alloc (.cells #[.slice p n c] 26) := ⟨_, rfl⟩; have h1 := hbx w1 hw1; have HB1 := zz h1.2; rw [← hR] at h1; have HX1 := zz h1.1; obtain ⟨ck, hck⟩ : ∃ ck, ck = checkP L := ⟨_, rfl⟩; obtain ⟨ar, har⟩ : ∃ ar, ar = attrsR A := ⟨_, rfl⟩; obtain ⟨ho, hho⟩ : ∃ ho, ho = hol L A (L.length - 1) := ⟨_, rfl⟩; have HRR : Hid (holdsR L A = if ck = 0 then (if ar = 0 then (ho, 0) else (false, ar)) else (false, ck)) := zz (by rw [hck, har, hho]; rfl); rw [← hck] at HCK HOLC HPOS; rw [← har] at HAT; rw [← hho] at HOLC; clear hv hu hc ha hE hT hcc hm hml hn hbx h1 hck har hho; have b0 := HX1.o.cell (j := 0) rfl
 by_cases hc0 : ck = 0
 ·subst hc0
  have HLL := zz (HOLC.o rfl); have HP2 := zz (HPOS.o rfl); obtain ⟨m, hm⟩ : ∃ m, m = n - 1 := ⟨_, rfl⟩; have u1 : IntKind.i64.wrap ((n : Int) - 1) = (m : Int) := by rw [IntKind.wrap_i64]; have := HP2.o; omega
  rw [← hm] at HLL; clear hm
  by_cases ha0 : ar = 0
  ·subst ha0
   have HR1 : Hid ((holdsR L A).1 = ho ∧ (holdsR L A).2 = 0) := zz (by rw [HRR.o]; exact ⟨rfl, rfl⟩); rw [HR1.o.1, HR1.o.2]; go_enter Tryz.func43, Tryz.ntmps43; go_upto_region 1 with fail; rw [← hw1, ← hR]; clear hw1 hR; go_upto_region 4 with (go_at_call 33; refine (HCK.o _ HB1.o).mono ?_; rintro r w2 ⟨rfl, hb⟩; have HB2 := zz (below_and HB1.o hb); have HX2 := zz (HX1.o.kept hb); clear hb b0); go_upto_region 7 with (go_at_call 23; refine (HAT.o _ HB2.o).mono ?_; rintro r w3 ⟨rfl, hb⟩; have HB3 := zz (below_and HB2.o hb); have HX3 := zz (HX2.o.kept hb); clear hb); have b0 := HX3.o.cell (j := 0) rfl; go_wp2_with (go_at_call 74; refine (HLL.o _ HB3.o).mono ?_; rintro r w4 ⟨rfl, hb⟩; have HB4 := zz (below_and HB3.o hb); clear hb); go_ret2; exact ⟨rfl, HB4.o⟩
  ·have HR1 : Hid ((holdsR L A).1 = false ∧ (holdsR L A).2 = ar) := zz (by rw [HRR.o, if_pos rfl, if_neg ha0]; exact ⟨rfl, rfl⟩)
   rw [HR1.o.1, HR1.o.2]; have t1 : (ar != 0) = true := by simpa using ha0
   clear ha0; go_enter Tryz.func43, Tryz.ntmps43; go_upto_region 1 with fail; rw [← hw1, ← hR]; clear hw1 hR; go_upto_region 4 with (go_at_call 33; refine (HCK.o _ HB1.o).mono ?_; rintro r w2 ⟨rfl, hb⟩; have HB2 := zz (below_and HB1.o hb); have HX2 := zz (HX1.o.kept hb); clear hb b0); go_wp2_with (go_at_call 23; refine (HAT.o _ HB2.o).mono ?_; rintro r w3 ⟨rfl, hb⟩; have HB3 := zz (below_and HB2.o hb); clear hb); go_ret2; exact ⟨rfl, HB3.o⟩
 ·have HR1 : Hid ((holdsR L A).1 = false ∧ (holdsR L A).2 = ck) := zz (by rw [HRR.o, if_neg hc0]; exact ⟨rfl, rfl⟩)
  rw [HR1.o.1, HR1.o.2]; have t1 : (ck != 0) = true := by simpa using hc0
  clear hc0; go_enter Tryz.func43, Tryz.ntmps43; go_upto_region 1 with fail; rw [← hw1, ← hR]; clear hw1 hR; go_wp2_with (go_at_call 33; refine (HCK.o _ HB1.o).mono ?_; rintro r w2 ⟨rfl, hb⟩; have HB2 := zz (below_and HB1.o hb); clear hb b0); go_ret2; exact ⟨rfl, HB2.o⟩
