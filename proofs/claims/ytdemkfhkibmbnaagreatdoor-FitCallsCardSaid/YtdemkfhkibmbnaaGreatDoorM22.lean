/- RuEqual, RuCheck. -/
import Derived.Test.YtdemkfhkibmbnaaGreatDoorM17
import Derived.Test.YtdemkfhkibmbnaaGreatDoorM21
set_option maxRecDepth 100000
set_option maxHeartbeats 8000000
namespace Go.Proofs.YtdemkfhkibmbnaaGreatDoor.Ru
open Go.RowKit Go.Proofs.YtdemkfhkibmbnaaGreatDoor
theorem bs_list {a b : List UInt8} : ((bs a).toList = (bs b).toList) = (a = b) := by
 rw [Lib.toList_data, Lib.toList_data]
 simp [bs]
theorem nd_neq (x y : Nd) (w : World) : (binOp .neq 69 (ndV x) (ndV y)).run Tryz.prog w = .ok (.bool (!(decide (x = y)))) w := by
 go_simp; simp only [bs_list]; obtain ⟨k, nm, vl, xx, a, b⟩ := x; obtain ⟨k', nm', vl', xx', a', b'⟩ := y; simp only [Nd.mk.injEq]
 by_cases h1 : k = k'
 ·rw [if_pos h1]
  by_cases h2 : nm = nm'
  ·rw [if_pos h2]
   by_cases h3 : vl = vl'
   ·rw [if_pos h3]
    by_cases h4 : xx = xx'
    ·rw [if_pos h4]
     by_cases h5 : a = a'
     ·rw [if_pos h5]
      by_cases h6 : b = b'
      ·rw [if_pos h6, decide_eq_true ⟨h1, h2, h3, h4, h5, h6⟩]; rfl
      ·rw [if_neg h6, decide_eq_false (fun h => h6 h.2.2.2.2.2)]; rfl
     ·rw [if_neg h5, decide_eq_false (fun h => h5 h.2.2.2.2.1)]; rfl
    ·rw [if_neg h4, decide_eq_false (fun h => h4 h.2.2.2.1)]; rfl
   ·rw [if_neg h3, decide_eq_false (fun h => h3 h.2.2.1)]; rfl
  ·rw [if_neg h2, decide_eq_false (fun h => h2 h.2.1)]; rfl
 ·rw [if_neg h1, decide_eq_false (fun h => h1 h.1)]; rfl
theorem list_ne {L M : List Nd} {i : Nat} (hi : i < L.length) (hj : i < M.length) (h : L[i] ≠ M[i]) : decide (L = M) = false := by
 rw [decide_eq_false_iff_not]; intro e; subst e; exact h rfl
theorem list_all {L M : List Nd} (hl : L.length = M.length) (h : ∀ i (h1 : i < L.length) (h2 : i < M.length), L[i] = M[i]) : decide (L = M) = true := by
 rw [decide_eq_true_iff]; exact List.ext_getElem hl (fun i h1 h2 => h i h1 h2)
theorem equal_any (v u : Value) (L M : List Nd) (w : World) (hv : Row w v 6 L.length (rwC ndC L)) (hu : Row w u 6 M.length (rwC ndC M)) :
  Calls Tryz.prog 34 #[v, u] w fun r w' => r = .returned (.bool (decide (L = M))) ∧ Below w.heap.size w w' := by
 obtain ⟨p, c, rfl, hc, hm, -⟩ := id hv; obtain ⟨p2, c2, rfl, hc2, hm2, -⟩ := id hu; have HV := zz hv; have HU := zz hu; have hml : maxLen ≤ 9223372036854775807 := by decide
 have hn63 : (L.length : Int) ≤ 9223372036854775807 := by omega
 have hm63 : (M.length : Int) ≤ 9223372036854775807 := by omega
 clear hv hu hc hm hc2 hm2 hml
 by_cases hl : L.length = M.length
 ·have HL := zz hl
  obtain ⟨n, hn⟩ : ∃ n, n = L.length := ⟨_, rfl⟩; have HN := zz hn; rw [← hl]; rw [← hn] at hn63 ⊢; clear hl hn hm63; go_enter Tryz.func34, Tryz.ntmps34; have HB0 : Hid (Below w.heap.size w w) := zz (Below.refl _ _); go_wp2
  go_loopw [13] (fun i wr => ∃ k : Nat, k ≤ n ∧ i = .int .i64 (k : Int) ∧ Hid (∀ i (h1 : i < L.length) (h2 : i < M.length), i < k → L[i] = M[i]) ∧ Hid (Below w.heap.size w wr)) (fun i _ => n - (intOf i).toNat)
  case atStart => exact ⟨0, Nat.zero_le _, rfl, zz (fun _ _ _ h => by omega), zz (Below.refl _ _)⟩
  case round =>
   obtain ⟨k, hk, rfl, HE, HB⟩ := hrel
   by_cases hlt : k < n
   ·have HKL : Hid (k < L.length) := zz (by have := HN.o; omega)
    have HKM : Hid (k < M.length) := zz (by have := HN.o; have := HL.o; omega)
    have HLC : Hid (∃ b o, p = some ⟨b, o, none⟩ ∧ ∀ j u, (ndC (L[k]'HKL.o))[j]? = some u → wr.cell? ⟨b, o + k * 6 + j, none⟩ = some u) := zz (by
     have hr := HV.o.below (below_and HB0.o HB.o)
     exact node_at hr HKL.o)
    have HMC : Hid (∃ b o, p2 = some ⟨b, o, none⟩ ∧ ∀ j u, (ndC (M[k]'HKM.o))[j]? = some u → wr.cell? ⟨b, o + k * 6 + j, none⟩ = some u) := zz (by
     have hr := HU.o.below (below_and HB0.o HB.o)
     exact node_at hr HKM.o)
    obtain ⟨x, hx⟩ : ∃ x, x = L[k]'HKL.o := ⟨_, rfl⟩; obtain ⟨y, hy⟩ : ∃ y, y = M[k]'HKM.o := ⟨_, rfl⟩; rw [← hx] at HLC; rw [← hy] at HMC; have HX := zz hx; have HY := zz hy; clear hx hy; obtain ⟨b, o, rfl, hcell⟩ := HLC.o; obtain ⟨b', o', rfl, hcell'⟩ := HMC.o; have q0 := hcell 0 _ rfl; rw [Nat.add_zero] at q0; have q1 := hcell 1 _ rfl; have q2 := hcell 2 _ rfl; have q3 := hcell 3 _ rfl; have q4 := hcell 4 _ rfl; have q5 := hcell 5 _ rfl; have r0 := hcell' 0 _ rfl; rw [Nat.add_zero] at r0; have r1 := hcell' 1 _ rfl; have r2 := hcell' 2 _ rfl; have r3 := hcell' 3 _ rfl; have r4 := hcell' 4 _ rfl; have r5 := hcell' 5 _ rfl; clear hcell hcell' HLC HMC
    by_cases he : x = y
    ·have hne : ∀ w, (binOp .neq 69 (.agg #[.int .i64 x.k, .string (bs x.nm), .string (bs x.vl), .int .i64 x.x, .int .i64 x.a, .int .i64 x.b]) (.agg #[.int .i64 y.k, .string (bs y.nm), .string (bs y.vl), .int .i64 y.x, .int .i64 y.a, .int .i64 y.b])).run Tryz.prog w = .ok (.bool false) w := fun w => by have := nd_neq x y w; rw [decide_eq_true he] at this; exact this
     have HE2 : Hid (∀ i (h1 : i < L.length) (h2 : i < M.length), i < k + 1 → L[i] = M[i]) := zz (fun i h1 h2 hi => by
      by_cases e : i = k
      ·subst e
       have e1 := HX.o; have e2 := HY.o; rw [← e1, ← e2, he]
      ·exact HE.o i h1 h2 (by omega))
     clear he; go_wp2
     go_quiet (fail)
     have HB2 : Hid (Below w.heap.size w (wr.drewN nq)) := zz (Below.drewN' HB.o nq); go_wp2; go_roundw
     case rel => exact ⟨k + 1, by omega, by go_num, HE2, HB2⟩
     case measure => simp [intOf]; omega
    ·have hne : ∀ w, (binOp .neq 69 (.agg #[.int .i64 x.k, .string (bs x.nm), .string (bs x.vl), .int .i64 x.x, .int .i64 x.a, .int .i64 x.b]) (.agg #[.int .i64 y.k, .string (bs y.nm), .string (bs y.vl), .int .i64 y.x, .int .i64 y.a, .int .i64 y.b])).run Tryz.prog w = .ok (.bool true) w := fun w => by have := nd_neq x y w; rw [decide_eq_false he] at this; exact this
     have HN2 : Hid (decide (L = M) = false) := zz (list_ne HKL.o HKM.o (by rw [← HX.o, ← HY.o]; exact he)); clear he; go_wp2
     go_quiet (fail)
     have HB2 : Hid (Below w.heap.size w (wr.drewN nq)) := zz (Below.drewN' (below_and HB0.o HB.o) nq); go_wp2; go_ret; exact ⟨ret_bool HN2.o.symm, HB2.o⟩
   ·obtain rfl : k = n := by omega
    have HN2 : Hid (decide (L = M) = true) := zz (list_all HL.o (fun i h1 h2 => HE.o i h1 h2 (by have := HN.o; omega))); go_wp2; go_ret; exact ⟨ret_bool HN2.o.symm, below_and HB0.o HB.o⟩
 ·have HN2 : Hid (decide (L = M) = false) := zz (by rw [decide_eq_false_iff_not]; intro e; rw [e] at hl; exact hl rfl)
  have t1 : ((L.length : Int) != (M.length : Int)) = true := by simp; omega
  have t2 : (L.length != M.length) = true := by simpa using hl
  have t3 : (L.length == M.length) = false := by simpa using hl
  go_enter Tryz.func34, Tryz.ntmps34; go_wp2; go_ret; exact ⟨ret_bool HN2.o.symm, Below.refl _ _⟩
theorem bs_data (l : List UInt8) : (bs l).data.toList = l := by simp [bs]
theorem check_any (v : Value) (L : List Nd) (w : World) (hv : Row w v 6 L.length (rwC ndC L)) (hc : ∀ n ∈ L, Fit1 n) (hE : ErrV w) (hT : Tab w) :
  Calls Tryz.prog 33 #[.agg #[v]] w fun r w' => r = .returned (.int .i64 (checkP L)) ∧ Below w.heap.size w w' := by
 obtain ⟨p, c, rfl, hcc, hm, -⟩ := id hv; have HV := zz hv; have HC := zz hc; have HE := zz hE; have HT := zz hT; have hml : maxLen ≤ 9223372036854775807 := by decide
 obtain ⟨n, hn⟩ : ∃ n, n = L.length := ⟨_, rfl⟩; have HN := zz hn; rw [← hn] at hcc HV ⊢; have hn63 : (n : Int) ≤ 9223372036854775807 := by omega
 clear hv hc hE hT hcc hm hml hn; obtain ⟨w1, hw1⟩ : ∃ w1, w1 = w.alloc (.cells #[.slice p n c] 26) := ⟨_, rfl⟩; have HB1 : Hid (Below w.heap.size w w1) := zz (by rw [hw1]; exact below_alloc _ _); have HX1 : Hid (Blk w1 w.heap.size [.slice p n c] 26) := zz (by rw [hw1]; exact Blk.made w [_] _); have HS : Hid (Calls Tryz.prog 63 #[.slice p n c] w1 fun r w' => r = .returned (.bool (shapedB L)) ∧ Below w1.heap.size w1 w') := zz (shaped_any _ L w1 (by have := HV.o.below HB1.o; rw [HN.o] at this ⊢; exact this))
 cases hsh : shapedB L with
 | false =>
  have HCK : Hid (checkP L = 2) := zz (by unfold checkP; rw [hsh]; rfl); rw [hsh] at HS; have b0 := HX1.o.cell (j := 0) rfl; clear hsh; go_enter Tryz.func33, Tryz.ntmps33; go_upto_region 1 with fail; rw [← hw1]; clear hw1; go_wp2_with (go_at_call 63; refine HS.o.mono ?_; rintro r w2 ⟨rfl, hb⟩; have HB2 := zz (below_and HB1.o hb); clear hb); go_ret; exact ⟨ret_int HCK.o.symm, HB2.o⟩
 | true =>
  obtain ⟨hf, h1, h2, h3⟩ := shaped_fine hsh; rw [hsh] at HS; obtain ⟨m, hm⟩ : ∃ m, n = m + 1 := ⟨n - 1, by have := HN.o; omega⟩; have HM := zz hm; have HTO := zz (told_any hf h1 h3 HC.o L.length m (by have := HN.o; omega) (by have := HN.o; omega)); have HTA : Hid (toldA L = tl L m) := zz (by rw [toldA_tl hf h2]; congr 1; have := HN.o; omega); have HTL := zz (told_long hf h1 h3 HC.o (i := m) (by have := HN.o; omega)); have HCK : Hid (checkP L = match parseP (toldA L) with | .ok M => if M = L then 0 else 2 | .error _ => 2) := zz (by unfold checkP; rw [if_pos hsh]; cases parseP (toldA L) <;> rfl); have u1 : IntKind.i64.wrap ((n : Int) - 1) = (m : Int) := by rw [IntKind.wrap_i64]; have := HN.o; omega
  obtain ⟨S, hS⟩ : ∃ S, S = bs (tl L m) := ⟨_, rfl⟩; have HSD : Hid (parseP (toldA L) = parseP S.data.toList) := zz (by rw [hS, bs_data, HTA.o]); have HSZ : Hid (S.size ≤ maxLen) := zz (by rw [hS, bs_size]; have := HTL.o; unfold maxLen; omega)
  have HTS : Hid (∀ w2, Below w1.heap.size w1 w2 → Calls Tryz.prog 65 #[.slice p n c, .int .i64 (m : Int)] w2 fun r w' => r = .returned (.string S) ∧ Below w2.heap.size w2 w') := zz (fun w2 hb => by
   rw [hS]
   exact HTO.o _ w2 (by have := HV.o.below (below_and HB1.o hb); rw [HN.o] at this ⊢; exact this) (HT.o.below (below_and HB1.o hb)))
  rw [HSD.o] at HCK; clear hsh hf h1 h2 h3 hm hS HTO HTA HTL HSD; have b0 := HX1.o.cell (j := 0) rfl; go_enter Tryz.func33, Tryz.ntmps33; go_upto_region 1 with fail; rw [← hw1]; obtain ⟨R, hR⟩ : ∃ R, R = w.heap.size := ⟨_, rfl⟩; have HR := zz hR; rw [← hR] at b0 HX1 ⊢; clear hw1 hR; go_upto_region 3 with (go_at_call 63; refine HS.o.mono ?_; rintro r w2 ⟨rfl, hb⟩; have HB2 := zz hb; have b2 := (HX1.o.kept hb).cell (j := 0) rfl; clear hb)
  cases hpp : parseP S.data.toList with
  | error e =>
   have HCK2 : Hid (checkP L = 2) := zz (by rw [HCK.o, hpp])
   have HPA : Hid (∀ w3, Below w1.heap.size w1 w3 → Calls Tryz.prog 64 #[.string S] w3 fun r w' => r = .returned (.tuple #[.agg #[.slice none 0 0], .agg #[.int .i64 e.1, .int .i64 e.2]]) ∧ Below w3.heap.size w3 w') := zz (fun w3 hb => by
    have := parse_any S w3 (HE.o.below (below_and HB1.o hb)) (HT.o.below (below_and HB1.o hb)) HSZ.o; rw [hpp] at this
    exact this)
   have HE0 : Hid (e.1 ≠ 0) := zz (by have := parseP_fault hpp; omega); clear hpp; obtain ⟨e1, e2⟩ := e; simp only at HPA HE0; have t1 : (e1 == 0) = false := by simpa using HE0.o
   go_wp2_with (first
    | (go_at_call 65; refine (HTS.o _ HB2.o).mono ?_; rintro r w3 ⟨rfl, hb⟩; have HB3 := zz (below_and HB2.o hb); clear hb)
    | (go_at_call 64; refine (HPA.o _ HB3.o).mono ?_; rintro r w4 ⟨rfl, hb⟩; have HB4 := zz (below_and HB3.o hb); clear hb))
   go_ret; exact ⟨ret_int HCK2.o.symm, below_and HB1.o (below_and HB4.o (below_and (below_alloc _ _) (below_alloc _ _)))⟩
  | ok M =>
   have HPA : Hid (∀ w3, Below w1.heap.size w1 w3 → Calls Tryz.prog 64 #[.string S] w3 fun r w' => ∃ q d, r = .returned (.tuple #[.agg #[.slice q M.length d], .agg #[.int .i64 0, .int .i64 0]]) ∧ Row w' (.slice q M.length d) 6 M.length (rwC ndC M) ∧ Below w3.heap.size w3 w') := zz (fun w3 hb => by
    have := parse_any S w3 (HE.o.below (below_and HB1.o hb)) (HT.o.below (below_and HB1.o hb)) HSZ.o; rw [hpp] at this
    refine this.mono fun r w' h => ?_
    obtain ⟨⟨v, h1, h2⟩, h3⟩ := h; obtain ⟨q, d, rfl, -, -, h4⟩ := row_own h2 (rwC_one ndC_one M)
    exact ⟨q, d, h1, h4, h3⟩)
   have HCK2 : Hid (checkP L = if M = L then 0 else 2) := zz (by rw [HCK.o, hpp]); clear hpp HCK
   have HEQ : Hid (∀ q d w3, Row w3 (.slice q M.length d) 6 M.length (rwC ndC M) → Below w1.heap.size w1 w3 → Calls Tryz.prog 34 #[.slice q M.length d, .slice p n c] w3 fun r w' => r = .returned (.bool (decide (M = L))) ∧ Below w3.heap.size w3 w') := zz (fun q d w3 h1 hb => by
    have := HV.o.below (below_and HB1.o hb); rw [HN.o] at this ⊢
    exact equal_any _ _ M L w3 h1 this)
   obtain ⟨ml, hml⟩ : ∃ ml, ml = M.length := ⟨_, rfl⟩; rw [← hml] at HPA HEQ; clear hml
   by_cases hML : M = L
   ·skip
    rw [decide_eq_true hML] at HEQ; rw [if_pos hML] at HCK2; clear hML
    go_upto_region 4 with (first
     | (go_at_call 65; refine (HTS.o _ HB2.o).mono ?_; rintro r w3 ⟨rfl, hb⟩; have HB3 := zz (below_and HB2.o hb); clear hb)
     | (go_at_call 64; refine (HPA.o _ HB3.o).mono ?_; rintro r w4 ⟨q, d, rfl, hrow, hb⟩; have HB4 := zz (below_and HB3.o hb); have HR4 := zz hrow; clear hb hrow))
    obtain ⟨X, hX⟩ : ∃ X, X = w4.heap.size := ⟨_, rfl⟩
    refine at_hide (F := fun w' => Blk w' X [.slice q ml d] 26 ∧ Blk w' (X + 1) [.int .i64 0, .int .i64 0] 97 ∧ Below w4.heap.size w4 w') ⟨by
     rw [hX]; exact Blk.alloc (Blk.made w4 [.slice q ml d] _) _, by
     rw [hX]; have := Blk.made (w4.alloc (.cells [.slice q ml d].toArray 26)) [.int .i64 0, .int .i64 0] 97; rw [show (w4.alloc (.cells [.slice q ml d].toArray 26)).heap.size = w4.heap.size + 1 from by simp] at this; exact this, below_and (below_alloc _ _) (below_alloc _ _)⟩ ?_
    rw [← hX]; intro w5 hF; have hb5 : Below w4.heap.size w4 w5 := by have := hF.2.2; rw [hX] at this; exact this
    have HB5 : Hid (Below w1.heap.size w1 w5) := zz (below_and HB4.o hb5); have HR5 := zz (HR4.o.below hb5); have c0 := hF.1.cell (j := 0) rfl; obtain ⟨c1, c2⟩ := cl2 hF.2.1; have c3 := (HX1.o.kept HB5.o).cell (j := 0) rfl; clear hF hX b2 hb5; go_wp2_with (go_at_call 34; refine (HEQ.o _ _ _ HR5.o HB5.o).mono ?_; rintro r w6 ⟨rfl, hb⟩; have HB6 := zz (below_and HB5.o hb); clear hb); go_ret; exact ⟨ret_int HCK2.o.symm, below_and HB1.o HB6.o⟩
   ·skip
    rw [decide_eq_false hML] at HEQ; rw [if_neg hML] at HCK2; clear hML
    go_upto_region 4 with (first
     | (go_at_call 65; refine (HTS.o _ HB2.o).mono ?_; rintro r w3 ⟨rfl, hb⟩; have HB3 := zz (below_and HB2.o hb); clear hb)
     | (go_at_call 64; refine (HPA.o _ HB3.o).mono ?_; rintro r w4 ⟨q, d, rfl, hrow, hb⟩; have HB4 := zz (below_and HB3.o hb); have HR4 := zz hrow; clear hb hrow))
    obtain ⟨X, hX⟩ : ∃ X, X = w4.heap.size := ⟨_, rfl⟩
    refine at_hide (F := fun w' => Blk w' X [.slice q ml d] 26 ∧ Blk w' (X + 1) [.int .i64 0, .int .i64 0] 97 ∧ Below w4.heap.size w4 w') ⟨by
     rw [hX]; exact Blk.alloc (Blk.made w4 [.slice q ml d] _) _, by
     rw [hX]; have := Blk.made (w4.alloc (.cells [.slice q ml d].toArray 26)) [.int .i64 0, .int .i64 0] 97; rw [show (w4.alloc (.cells [.slice q ml d].toArray 26)).heap.size = w4.heap.size + 1 from by simp] at this; exact this, below_and (below_alloc _ _) (below_alloc _ _)⟩ ?_
    rw [← hX]; intro w5 hF; have hb5 : Below w4.heap.size w4 w5 := by have := hF.2.2; rw [hX] at this; exact this
    have HB5 : Hid (Below w1.heap.size w1 w5) := zz (below_and HB4.o hb5); have HR5 := zz (HR4.o.below hb5); have c0 := hF.1.cell (j := 0) rfl; obtain ⟨c1, c2⟩ := cl2 hF.2.1; have c3 := (HX1.o.kept HB5.o).cell (j := 0) rfl; clear hF hX b2 hb5; go_wp2_with (go_at_call 34; refine (HEQ.o _ _ _ HR5.o HB5.o).mono ?_; rintro r w6 ⟨rfl, hb⟩; have HB6 := zz (below_and HB5.o hb); clear hb); go_ret; exact ⟨ret_int HCK2.o.symm, below_and HB1.o HB6.o⟩
