/- FtTask, FtWhere, Fits, Sub, FtTake, Scale. -/
import Derived.Test.YtdemkfhkibmbnaaGreatDoorM26
set_option maxRecDepth 100000
set_option maxHeartbeats 8000000
namespace Go.Proofs.YtdemkfhkibmbnaaGreatDoor.Ft
open Go.RowKit Go.Proofs.YtdemkfhkibmbnaaGreatDoor Go.Proofs.YtdemkfhkibmbnaaGreatDoor.Ru
abbrev usC (u : Us) : List Value := [.string (bs u.j), .int .i64 u.i, .int .i64 u.d, .int .i64 u.a.c, .int .i64 u.a.r, .int .i64 u.a.d, .int .i64 u.a.p, .string (bs u.n), .bool u.e]
abbrev usV (u : Us) : Value := .agg #[.string (bs u.j), .int .i64 u.i, .int .i64 u.d, .int .i64 u.a.c, .int .i64 u.a.r, .int .i64 u.a.d, .int .i64 u.a.p, .string (bs u.n), .bool u.e]
theorem usC_len (u : Us) : (usC u).length = 9 := rfl
theorem usC_one (u : Us) : ∀ x ∈ usC u, x.oneCell' = true := by
 intro x hx; simp only [usC, List.mem_cons, List.not_mem_nil, or_false] at hx; rcases hx with rfl | rfl | rfl | rfl | rfl | rfl | rfl | rfl | rfl <;> rfl
theorem info_us : (Tryz.prog.info? 58).map (fun i => (i.zero, i.size, i.bytes)) = some (some (.agg #[.string ⟨#[]⟩, .int .i64 0, .int .i64 0, .int .i64 0, .int .i64 0, .int .i64 0, .int .i64 0, .string ⟨#[]⟩, .bool false]), 9, 88) := by kernel_rfl
def taskE (j : List UInt8) (i : Int) : Int := if (taskO j i).isSome = true then 0 else 2
theorem task_any (j : List UInt8) (i : Int) (w : World) (hj : j.length ≤ 1000000000000000) :
  Calls Tryz.prog 47 #[.agg #[.string (bs j), .int .i64 i]] w fun r w' => r = .returned (.tuple #[.string (bs ((taskO j i).getD [])), .int .i64 (taskE j i)]) ∧ Below w.heap.size w w' := by
 obtain ⟨B, hB⟩ : ∃ B, B = w.heap.size := ⟨_, rfl⟩; obtain ⟨w1, hw1⟩ : ∃ w1, w1 = w.alloc (.cells #[.string (bs j), .int .i64 i] 56) := ⟨_, rfl⟩; have HB1 : Hid (Below w.heap.size w w1) := zz (by rw [hw1]; exact below_alloc _ _); have HX1 : Hid (Blk w1 B [.string (bs j), .int .i64 i] 56) := zz (by rw [hw1, hB]; exact Blk.made w [_, _] _)
 have HSP : Hid (Calls Tryz.prog 32 #[.string (bs j)] w1 fun e w' => e = .returned (.bool (specB j)) ∧ Below w1.heap.size w1 w') := zz (by
  have := spec_any (bs j) w1; rw [show (bs j).data.toList = j from by simp [bs]] at this
  exact this)
 have b0 := HX1.o.cell (j := 0) rfl; have HJ := zz hj; clear hj
 cases hs : specB j with
 | false =>
  have HR : Hid (bs ((taskO j i).getD []) = ⟨#[]⟩ ∧ taskE j i = 2) := zz (by unfold taskE taskO; rw [hs]; exact ⟨rfl, rfl⟩); rw [hs] at HSP; clear hs; go_enter Tryz.func47, Tryz.ntmps47; go_upto_region 1 with fail; rw [← hw1, ← hB]; clear hw1 hB; go_wp2_with (go_at_call 32; refine HSP.o.mono ?_; rintro r w2 ⟨rfl, hb⟩; have HB2 := zz (below_and HB1.o hb); clear hb); go_ret2; exact ⟨by rw [HR.o.1, HR.o.2]; rfl, HB2.o⟩
 | true =>
  rw [hs] at HSP
  by_cases hi : 0 ≤ i ∧ i < 64
  ·obtain ⟨q, rfl⟩ : ∃ q : Nat, i = (q : Int) := ⟨i.toNat, by omega⟩
   have HQ : Hid (q < 64) := zz (by omega); have HT : Hid (taskO j (q : Int) = some (j ++ 46 :: Lib.itoa (q : Int))) := zz (by unfold taskO; rw [if_pos ⟨hs, hi.1, hi.2⟩]); have HIT : Hid (∀ wx, Calls Tryz.prog 77 #[.int .i64 (q : Int)] wx fun e w' => e = .returned (.string (bs (Lib.itoa (q : Int)))) ∧ wx = w') := zz (fun wx => (Tryz.strconv_Itoa_small q (by have := HQ.o; omega) wx).mono fun e w' h => ⟨by rw [h.1, Lib.itoa_nonneg]; rfl, h.2.symm⟩); have HIL : Hid ((Lib.itoa (q : Int)).length ≤ 21) := zz (Lib.itoa_length_le _ (by omega) (by omega)); obtain ⟨u, hu⟩ : ∃ u, u = Lib.itoa (q : Int) := ⟨_, rfl⟩; rw [← hu] at HT HIT HIL; have HR : Hid (bs ((taskO j (q : Int)).getD []) = bs (j ++ 46 :: u) ∧ taskE j (q : Int) = 0) := zz (by unfold taskE; rw [HT.o]; exact ⟨by simp, rfl⟩)
   have hadd1 : ∀ w, (Op.stringOp .add (bs j) ⟨#[46]⟩).run Tryz.prog w = .ok (.string (bs (j ++ [46]))) w := fun w => add_bs j [46] (by have := HJ.o; simp; omega) w
   have hadd2 : ∀ w, (Op.stringOp .add (bs (j ++ [46])) (bs u)).run Tryz.prog w = .ok (.string (bs (j ++ 46 :: u))) w := fun w => by have := add_bs (j ++ [46]) u (by have := HJ.o; have := HIL.o; simp; omega) w; rw [show j ++ [46] ++ u = j ++ 46 :: u from by simp] at this; exact this
   have t1 : decide ((q : Int) < 0) = false := by simp
   have t2 : decide ((64 : Int) ≤ (q : Int)) = false := by simp; omega
   clear hs hu hi; go_enter Tryz.func47, Tryz.ntmps47; go_upto_region 1 with fail; rw [← hw1, ← hB]; clear hw1 hB; go_upto_region 3 with (go_at_call 32; refine HSP.o.mono ?_; rintro r w2 ⟨rfl, hb⟩; have HB2 := zz (below_and HB1.o hb); have HX2 := zz (HX1.o.kept hb); have b1 := (HX1.o.kept hb).cell (j := 1) rfl; clear hb b0); have p0 : ∀ s : Past w2, s.val.cell? ⟨B, 0, none⟩ = some (.string (bs j)) := Past.blk HX2.o (j := 0) rfl; have p1 : ∀ s : Past w2, s.val.cell? ⟨B, 1, none⟩ = some (.int .i64 (q : Int)) := Past.blk HX2.o (j := 1) rfl; refine wp_region_past (by kernel_rfl) (by kernel_rfl) ?_
   repeat (go_big_quiet_step ((go_at_call 77; exact past_call_same (HIT.o _))))
   refine wpQuiet_nil ?_; intro _ hw'; obtain ⟨s9, hw''⟩ := hw'; subst hw''; go_wp2; go_ret2; exact ⟨by rw [HR.o.1, HR.o.2]; rfl, below_and HB2.o s9.h⟩
  ·have HR : Hid (bs ((taskO j i).getD []) = ⟨#[]⟩ ∧ taskE j i = 2) := zz (by unfold taskE taskO; rw [if_neg (fun h => hi h.2)]; exact ⟨rfl, rfl⟩)
   clear hs
   by_cases h0 : i < 0
   ·have t1 : decide (i < 0) = true := decide_eq_true h0
    clear hi h0; go_enter Tryz.func47, Tryz.ntmps47; go_upto_region 1 with fail; rw [← hw1, ← hB]; clear hw1 hB; go_wp2_with (go_at_call 32; refine HSP.o.mono ?_; rintro r w2 ⟨rfl, hb⟩; have HB2 := zz (below_and HB1.o hb); have b1 := (HX1.o.kept hb).cell (j := 1) rfl; clear hb); go_ret2; exact ⟨by rw [HR.o.1, HR.o.2]; rfl, HB2.o⟩
   ·have t1 : decide (i < 0) = false := decide_eq_false h0
    have t2 : decide (64 ≤ i) = true := decide_eq_true (by omega); clear hi h0; go_enter Tryz.func47, Tryz.ntmps47; go_upto_region 1 with fail; rw [← hw1, ← hB]; clear hw1 hB; go_wp2_with (go_at_call 32; refine HSP.o.mono ?_; rintro r w2 ⟨rfl, hb⟩; have HB2 := zz (below_and HB1.o hb); have b1 := (HX1.o.kept hb).cell (j := 1) rfl; clear hb); go_ret2; exact ⟨by rw [HR.o.1, HR.o.2]; rfl, HB2.o⟩
def fIn (p : List UInt8) (u : Us) : Bool := u.n == p
def fEnv (n : List UInt8) (u : Us) : Bool := u.e && u.n == [] && u.j == n
theorem nil_beq (b : List UInt8) : ((bs b).toList == ([] : List UInt8)) = (b == []) := by
 rw [Lib.toList_data]
 simp [bs]
theorem in1_any (u : Us) (X : Nat) (p : List UInt8) (w : World) (h : w.cell? ⟨X, 0, none⟩ = some (.string (bs p))) :
  Calls Tryz.prog 83 #[usV u, ptr X] w fun r w' => r = .returned (.bool (fIn p u)) ∧ Below w.heap.size w w' := by
 have hb := below_alloc w (.cells #[.string (bs u.j), .int .i64 u.i, .int .i64 u.d, .int .i64 u.a.c, .int .i64 u.a.r, .int .i64 u.a.d, .int .i64 u.a.p, .string (bs u.n), .bool u.e] 58); have c1 := cell_kept h hb; have hq := bs_beq u.n p; clear h hb; obtain ⟨q, hqq⟩ : ∃ q, q = fIn p u := ⟨_, rfl⟩; rw [show (u.n == p) = q from hqq.symm] at hq; rw [← hqq]; clear hqq; cases q
 all_goals go_enter Tryz.func83, Tryz.ntmps83
 all_goals go_wp2
 all_goals go_ret
 all_goals exact ⟨ret_bool rfl, below_alloc _ _⟩
theorem goers1_any (u : Us) (X Y : Nat) (N : Ne) (p : List UInt8) (w : World) (h : w.cell? ⟨X, 0, none⟩ = some (.string (bs p))) (h2 : w.cell? ⟨Y, 1, none⟩ = some (.int .i64 N.d)) :
  Calls Tryz.prog 73 #[usV u, ptr X, ptr Y] w fun r w' => r = .returned (.bool (goer N p u)) ∧ Below w.heap.size w w' := by
 obtain ⟨uj, ui, ud, ua, un, ue⟩ := u; have hb := below_alloc w (.cells #[.string (bs uj), .int .i64 ui, .int .i64 ud, .int .i64 ua.c, .int .i64 ua.r, .int .i64 ua.d, .int .i64 ua.p, .string (bs un), .bool ue] 58); have c1 := cell_kept h hb; have c2 := cell_kept h2 hb; have hq := bs_beq un p; clear h h2 hb; obtain ⟨q, hqq⟩ : ∃ q, q = (un == p) := ⟨_, rfl⟩; rw [← hqq] at hq; obtain ⟨d1, hd1⟩ : ∃ d1, d1 = decide (ud < N.d) := ⟨_, rfl⟩; obtain ⟨d2, hd2⟩ : ∃ d2, d2 = decide (ud < 2) := ⟨_, rfl⟩; have HR : Hid (goer N p ⟨uj, ui, ud, ua, un, ue⟩ = (!ue && q && d1 && d2)) := zz (by unfold goer; rw [hqq, hd1, hd2]); have t1 := hd1.symm; have t2 := hd2.symm; clear hqq hd1 hd2; cases ue <;> cases q <;> cases d1 <;> cases d2
 all_goals go_enter Tryz.func73, Tryz.ntmps73
 all_goals go_wp2
 all_goals go_ret
 all_goals exact ⟨ret_bool (by rw [HR.o]; rfl), below_alloc _ _⟩
theorem fit1_any (u : Us) (X : Nat) (n : List UInt8) (w : World) (h : w.cell? ⟨X, 7, none⟩ = some (.string (bs n))) :
  Calls Tryz.prog 46 #[usV u, ptr X] w fun r w' => r = .returned (.bool (fEnv n u)) ∧ Below w.heap.size w w' := by
 obtain ⟨uj, ui, ud, ua, un, ue⟩ := u; have hb := below_alloc w (.cells #[.string (bs uj), .int .i64 ui, .int .i64 ud, .int .i64 ua.c, .int .i64 ua.r, .int .i64 ua.d, .int .i64 ua.p, .string (bs un), .bool ue] 58); have c1 := cell_kept h hb; have hq := bs_beq uj n; have hz := nil_beq un; clear h hb; obtain ⟨q, hqq⟩ : ∃ q, q = (uj == n) := ⟨_, rfl⟩; obtain ⟨z, hzz⟩ : ∃ z, z = (un == []) := ⟨_, rfl⟩; rw [← hqq] at hq; rw [← hzz] at hz; have HR : Hid (fEnv n ⟨uj, ui, ud, ua, un, ue⟩ = (ue && z && q)) := zz (by unfold fEnv; rw [hqq, hzz]); have hz2 : (bs un).toList.isEmpty = z := by rw [← hz]; cases (bs un).toList <;> rfl
 clear hqq hzz; cases ue <;> cases z <;> cases q
 all_goals go_enter Tryz.func46, Tryz.ntmps46
 all_goals go_wp2
 all_goals go_ret
 all_goals exact ⟨ret_bool (by rw [HR.o]; rfl), below_alloc _ _⟩
def Usw (w : World) (v : Value) (l : List Us) : Prop := Row w v 9 l.length (rwC usC l)
theorem Usw.below {w w' : World} {v : Value} {l : List Us} (h : Usw w v l) (hb : Below w.heap.size w w') : Usw w' v l := Row.below h hb
theorem Usw.slice {w : World} {v : Value} {l : List Us} (h : Usw w v l) : ∃ p c, v = .slice p l.length c := by
 obtain ⟨p, c, hv, -⟩ := h; exact ⟨p, c, hv⟩
theorem Usw.at {w : World} {p : Option Addr} {n c : Nat} {l : List Us} (h : Usw w (.slice p n c) l) {i : Nat} (hi : i < l.length) :
  ∃ b o, p = some ⟨b, o, none⟩ ∧ ∀ j u, (usC l[i])[j]? = some u → w.cell? ⟨b, o + i * 9 + j, none⟩ = some u := by
 obtain ⟨p1, c1, hv, h1, h2, h3, h4, h5, h6⟩ := h; simp only [Value.slice.injEq] at hv; obtain ⟨rfl, -, rfl⟩ := hv; rcases h6 with h6 | ⟨b, o, hp, ha⟩
 ·rw [h6] at h3; simp at h3; omega
 ·refine ⟨b, o, hp, fun j u hj => ?_⟩
  rw [Nat.add_assoc]; refine ha (i * 9 + j) u ?_
  have hj9 : j < 9 := by
   have := (List.getElem?_eq_some_iff.1 hj).1
   rwa [usC_len] at this
  rw [rwC_at (c := usC) (k := 9) (fun _ => rfl) hi hj9]; exact hj
theorem usw_own {w : World} {base : Nat} {v : Value} {l : List Us} (h : w.ownsRow base 58 9 v l.length (rwC usC l)) : Usw w v l := row_of_owns h (rwC_one usC_one l)
theorem where_in (v : Value) (l : List Us) (X : Nat) (q : List UInt8) (w : World) (hv : Usw w v l) (h : w.cell? ⟨X, 0, none⟩ = some (.string (bs q))) (hl : l.length ≤ 1000) :
  Calls Tryz.prog 45 #[v, .func (.func 83) #[] #[ptr X]] w fun r w' => ∃ v', r = .returned v' ∧ w'.ownsRow w.heap.size 58 9 v' (l.filter (fIn q)).length (rwC usC (l.filter (fIn q))) ∧ Below w.heap.size w w' := by
 obtain ⟨ix, hi, hz0, hz1, hz2⟩ := info_parts info_us; have HCL : Hid (∀ u w', Below w.heap.size w w' → Calls Tryz.prog 83 #[usV u, ptr X] w' fun r w2 => r = .returned (.bool ((fIn q) u)) ∧ Below w'.heap.size w' w2) := zz (fun u w' hb => in1_any u X q w' (cell_kept h hb)); have HV := zz hv; obtain ⟨p, c, rfl⟩ := hv.slice; obtain ⟨n, hn⟩ : ∃ n, n = l.length := ⟨_, rfl⟩; have HN := zz hn; have HL := zz hl; rw [← hn]; have hn63 : (n : Int) ≤ 1000 := by omega
 obtain ⟨f, hf⟩ : ∃ f : Us → Bool, f = (fIn q) := ⟨_, rfl⟩; rw [← hf] at HCL ⊢; clear hv hl hn hf h; go_enter Tryz.func45, Tryz.ntmps45; go_wp2
 go_loopw [5, 10] (fun o i wr => ∃ k : Nat, k ≤ n ∧ i = .int .i64 (k : Int) ∧ Hid (wr.ownsRow w.heap.size 58 9 o ((l.take k).filter f).length (rwC usC ((l.take k).filter f))) ∧ Hid (Below w.heap.size w wr)) (fun _ i _ => n - (intOf i).toNat)
 case atStart => exact ⟨0, Nat.zero_le _, rfl, zz (World.ownsRow_nil _ _ _ _), zz (Below.refl _ _)⟩
 case round =>
  obtain ⟨k, hk, rfl, HO, HB⟩ := hrel
  by_cases hlt : k < n
  ·have HKN : Hid (k < l.length) := zz (by have := HN.o; omega)
   obtain ⟨u, hu⟩ : ∃ u, u = l[k]'HKN.o := ⟨_, rfl⟩; have HLC := zz ((HV.o.below HB.o).at HKN.o); rw [← hu] at HLC; have HTK : Hid (l.take (k + 1) = l.take k ++ [u]) := zz (by rw [hu]; exact List.take_succ_eq_append_getElem HKN.o); clear hu; obtain ⟨b, o, rfl, hcell⟩ := HLC.o; have q0 := hcell 0 _ rfl; rw [Nat.add_zero] at q0; have q1 := hcell 1 _ rfl; have q2 := hcell 2 _ rfl; have q3 := hcell 3 _ rfl; have q4 := hcell 4 _ rfl; have q5 := hcell 5 _ rfl; have q6 := hcell 6 _ rfl; have q7 := hcell 7 _ rfl; have q8 := hcell 8 _ rfl; clear hcell HLC; go_upto_region 5 with fail; obtain ⟨Y, hY⟩ : ∃ Y, Y = wr.heap.size := ⟨_, rfl⟩; refine at_hide (F := fun w' => Blk w' Y (usC u) 58 ∧ Below wr.heap.size wr w') ⟨by rw [hY]; exact Blk.made wr (usC u) _, below_alloc _ _⟩ ?_; rw [← hY]; intro w3 hF; have hb3 : Below wr.heap.size wr w3 := by have := hF.2; rw [hY] at this; exact this
   have HB3 : Hid (Below w.heap.size w w3) := zz (below_and HB.o hb3); have HO3 : Hid (w3.ownsRow w.heap.size 58 9 u5 ((l.take k).filter f).length (rwC usC ((l.take k).filter f))) := zz (own_fr HO.o (Fr.of_below hb3 []) (fun _ _ => by simp)); have HY3 := zz hF.1; clear hF hY hb3 q0 q1 q2 q3 q4 q5 q6 q7 q8 HO HB; obtain ⟨y0, y1, y2, y3, y4, y5, y6, y7, y8⟩ := cl9 HY3.o; have HCU := zz (HCL.o u w3 HB3.o); obtain ⟨m, hm⟩ : ∃ m, m = ((l.take k).filter f).length := ⟨_, rfl⟩; have HM : Hid (m ≤ 1000) := zz (by rw [hm]; have h1 := List.length_filter_le f (l.take k); rw [List.length_take] at h1; have := HL.o; omega); rw [← hm] at HO3; have HMM := zz hm; clear hm
   cases hfu : f u with
   | false =>
    rw [hfu] at HCU; have HFF : Hid ((l.take (k + 1)).filter f = (l.take k).filter f) := zz (by rw [HTK.o, List.filter_append, List.filter_cons, hfu]; simp); clear hfu; go_wp2_with (go_at_call 83; refine HCU.o.mono ?_; rintro r w4 ⟨rfl, hb⟩; have HB4 := zz (below_and HB3.o hb); have HO4 : Hid (w4.ownsRow w.heap.size 58 9 u5 m (rwC usC ((l.take k).filter f))) := zz (own_fr HO3.o (Fr.of_below hb []) (fun _ _ => by simp)); clear hb); go_roundw
    case rel => exact ⟨k + 1, by omega, by go_num, zz (by rw [HFF.o, ← HMM.o]; exact HO4.o), HB4⟩
    case measure => simp [intOf]; omega
   | true =>
    rw [hfu] at HCU; have HFF : Hid ((l.take (k + 1)).filter f = (l.take k).filter f ++ [u]) := zz (by rw [HTK.o, List.filter_append, List.filter_cons, hfu]; simp); clear hfu; go_upto_region 6 with (go_at_call 83; refine HCU.o.mono ?_; rintro r w4 ⟨rfl, hb⟩; have HB4 := zz (below_and HB3.o hb); have HO4 : Hid (w4.ownsRow w.heap.size 58 9 u5 m (rwC usC ((l.take k).filter f))) := zz (own_fr HO3.o (Fr.of_below hb []) (fun _ _ => by simp)); have HY4 := zz (HY3.o.kept hb); clear hb); clear y0 y1 y2 y3 y4 y5 y6 y7 y8; obtain ⟨z0, z1, z2, z3, z4, z5, z6, z7, z8⟩ := cl9 HY4.o; have HS4 : Hid (w.heap.size ≤ w4.heap.size) := zz HB4.o.size; go_wp2_with (at_builtin; refine wpList_app _ rfl _ _ 30 30 rfl w.heap.size 58 ix (.agg #[.string ⟨#[]⟩, .int .i64 0, .int .i64 0, .int .i64 0, .int .i64 0, .int .i64 0, .int .i64 0, .string ⟨#[]⟩, .bool false]) 9 88 Tryz.underlying30 hi hz0 hz1 hz2 rfl _ m (rwC usC ((l.take k).filter f)) rfl (HO4.o.alloc _) _ 1 (usC u) rfl (src_block Tryz.underlying30 _ _ (usC u).toArray (Blk.made w4 (usC u) _) rfl (usC_one u)) (by have := HM.o; unfold maxLen; omega) (by have := HM.o; omega) (by have := HS4.o; simp; omega) ?_; intro v6 w6 hown' hgrow hnil; have HO6 : Hid (w6.ownsRow w.heap.size 58 9 v6 ((l.take (k + 1)).filter f).length (rwC usC ((l.take (k + 1)).filter f))) := zz (by rw [HFF.o, rwC_snoc, List.length_append, ← HMM.o]; exact hown'); have HB6 := zz (below_grown (below_and HB4.o (below_alloc w4 _)) (by have := HS4.o; simp; omega) (HO4.o.alloc _) hgrow); clear hown' hgrow hnil)
    go_roundw
    case rel => exact ⟨k + 1, by omega, by go_num, HO6, HB6⟩
    case measure => simp [intOf]; omega
  ·obtain rfl : k = n := by omega
   have HT : Hid (l.take k = l) := zz (by rw [HN.o, List.take_length]); rw [HT.o] at HO; go_wp2; go_ret; exact ⟨_, rfl, HO.o, HB.o⟩
theorem where_goers (v : Value) (l : List Us) (X Y : Nat) (N : Ne) (q : List UInt8) (w : World) (hv : Usw w v l) (h : w.cell? ⟨X, 0, none⟩ = some (.string (bs q))) (h2 : w.cell? ⟨Y, 1, none⟩ = some (.int .i64 N.d)) (hl : l.length ≤ 1000) :
  Calls Tryz.prog 45 #[v, .func (.func 73) #[] #[ptr X, ptr Y]] w fun r w' => ∃ v', r = .returned v' ∧ w'.ownsRow w.heap.size 58 9 v' (l.filter (goer N q)).length (rwC usC (l.filter (goer N q))) ∧ Below w.heap.size w w' := by
 obtain ⟨ix, hi, hz0, hz1, hz2⟩ := info_parts info_us; have HCL : Hid (∀ u w', Below w.heap.size w w' → Calls Tryz.prog 73 #[usV u, ptr X, ptr Y] w' fun r w2 => r = .returned (.bool ((goer N q) u)) ∧ Below w'.heap.size w' w2) := zz (fun u w' hb => goers1_any u X Y N q w' (cell_kept h hb) (cell_kept h2 hb)); have HV := zz hv; obtain ⟨p, c, rfl⟩ := hv.slice; obtain ⟨n, hn⟩ : ∃ n, n = l.length := ⟨_, rfl⟩; have HN := zz hn; have HL := zz hl; rw [← hn]; have hn63 : (n : Int) ≤ 1000 := by omega
 obtain ⟨f, hf⟩ : ∃ f : Us → Bool, f = (goer N q) := ⟨_, rfl⟩; rw [← hf] at HCL ⊢; clear hv hl hn hf h h2; go_enter Tryz.func45, Tryz.ntmps45; go_wp2
 go_loopw [5, 10] (fun o i wr => ∃ k : Nat, k ≤ n ∧ i = .int .i64 (k : Int) ∧ Hid (wr.ownsRow w.heap.size 58 9 o ((l.take k).filter f).length (rwC usC ((l.take k).filter f))) ∧ Hid (Below w.heap.size w wr)) (fun _ i _ => n - (intOf i).toNat)
 case atStart => exact ⟨0, Nat.zero_le _, rfl, zz (World.ownsRow_nil _ _ _ _), zz (Below.refl _ _)⟩
 case round =>
  obtain ⟨k, hk, rfl, HO, HB⟩ := hrel
  by_cases hlt : k < n
  ·have HKN : Hid (k < l.length) := zz (by have := HN.o; omega)
   obtain ⟨u, hu⟩ : ∃ u, u = l[k]'HKN.o := ⟨_, rfl⟩; have HLC := zz ((HV.o.below HB.o).at HKN.o); rw [← hu] at HLC; have HTK : Hid (l.take (k + 1) = l.take k ++ [u]) := zz (by rw [hu]; exact List.take_succ_eq_append_getElem HKN.o); clear hu; obtain ⟨b, o, rfl, hcell⟩ := HLC.o; have q0 := hcell 0 _ rfl; rw [Nat.add_zero] at q0; have q1 := hcell 1 _ rfl; have q2 := hcell 2 _ rfl; have q3 := hcell 3 _ rfl; have q4 := hcell 4 _ rfl; have q5 := hcell 5 _ rfl; have q6 := hcell 6 _ rfl; have q7 := hcell 7 _ rfl; have q8 := hcell 8 _ rfl; clear hcell HLC; go_upto_region 5 with fail; obtain ⟨Y, hY⟩ : ∃ Y, Y = wr.heap.size := ⟨_, rfl⟩; refine at_hide (F := fun w' => Blk w' Y (usC u) 58 ∧ Below wr.heap.size wr w') ⟨by rw [hY]; exact Blk.made wr (usC u) _, below_alloc _ _⟩ ?_; rw [← hY]; intro w3 hF; have hb3 : Below wr.heap.size wr w3 := by have := hF.2; rw [hY] at this; exact this
   have HB3 : Hid (Below w.heap.size w w3) := zz (below_and HB.o hb3); have HO3 : Hid (w3.ownsRow w.heap.size 58 9 u5 ((l.take k).filter f).length (rwC usC ((l.take k).filter f))) := zz (own_fr HO.o (Fr.of_below hb3 []) (fun _ _ => by simp)); have HY3 := zz hF.1; clear hF hY hb3 q0 q1 q2 q3 q4 q5 q6 q7 q8 HO HB; obtain ⟨y0, y1, y2, y3, y4, y5, y6, y7, y8⟩ := cl9 HY3.o; have HCU := zz (HCL.o u w3 HB3.o); obtain ⟨m, hm⟩ : ∃ m, m = ((l.take k).filter f).length := ⟨_, rfl⟩; have HM : Hid (m ≤ 1000) := zz (by rw [hm]; have h1 := List.length_filter_le f (l.take k); rw [List.length_take] at h1; have := HL.o; omega); rw [← hm] at HO3; have HMM := zz hm; clear hm
   cases hfu : f u with
   | false =>
    rw [hfu] at HCU; have HFF : Hid ((l.take (k + 1)).filter f = (l.take k).filter f) := zz (by rw [HTK.o, List.filter_append, List.filter_cons, hfu]; simp); clear hfu; go_wp2_with (go_at_call 73; refine HCU.o.mono ?_; rintro r w4 ⟨rfl, hb⟩; have HB4 := zz (below_and HB3.o hb); have HO4 : Hid (w4.ownsRow w.heap.size 58 9 u5 m (rwC usC ((l.take k).filter f))) := zz (own_fr HO3.o (Fr.of_below hb []) (fun _ _ => by simp)); clear hb); go_roundw
    case rel => exact ⟨k + 1, by omega, by go_num, zz (by rw [HFF.o, ← HMM.o]; exact HO4.o), HB4⟩
    case measure => simp [intOf]; omega
   | true =>
    rw [hfu] at HCU; have HFF : Hid ((l.take (k + 1)).filter f = (l.take k).filter f ++ [u]) := zz (by rw [HTK.o, List.filter_append, List.filter_cons, hfu]; simp); clear hfu; go_upto_region 6 with (go_at_call 73; refine HCU.o.mono ?_; rintro r w4 ⟨rfl, hb⟩; have HB4 := zz (below_and HB3.o hb); have HO4 : Hid (w4.ownsRow w.heap.size 58 9 u5 m (rwC usC ((l.take k).filter f))) := zz (own_fr HO3.o (Fr.of_below hb []) (fun _ _ => by simp)); have HY4 := zz (HY3.o.kept hb); clear hb); clear y0 y1 y2 y3 y4 y5 y6 y7 y8; obtain ⟨z0, z1, z2, z3, z4, z5, z6, z7, z8⟩ := cl9 HY4.o; have HS4 : Hid (w.heap.size ≤ w4.heap.size) := zz HB4.o.size; go_wp2_with (at_builtin; refine wpList_app _ rfl _ _ 30 30 rfl w.heap.size 58 ix (.agg #[.string ⟨#[]⟩, .int .i64 0, .int .i64 0, .int .i64 0, .int .i64 0, .int .i64 0, .int .i64 0, .string ⟨#[]⟩, .bool false]) 9 88 Tryz.underlying30 hi hz0 hz1 hz2 rfl _ m (rwC usC ((l.take k).filter f)) rfl (HO4.o.alloc _) _ 1 (usC u) rfl (src_block Tryz.underlying30 _ _ (usC u).toArray (Blk.made w4 (usC u) _) rfl (usC_one u)) (by have := HM.o; unfold maxLen; omega) (by have := HM.o; omega) (by have := HS4.o; simp; omega) ?_; intro v6 w6 hown' hgrow hnil; have HO6 : Hid (w6.ownsRow w.heap.size 58 9 v6 ((l.take (k + 1)).filter f).length (rwC usC ((l.take (k + 1)).filter f))) := zz (by rw [HFF.o, rwC_snoc, List.length_append, ← HMM.o]; exact hown'); have HB6 := zz (below_grown (below_and HB4.o (below_alloc w4 _)) (by have := HS4.o; simp; omega) (HO4.o.alloc _) hgrow); clear hown' hgrow hnil)
    go_roundw
    case rel => exact ⟨k + 1, by omega, by go_num, HO6, HB6⟩
    case measure => simp [intOf]; omega
  ·obtain rfl : k = n := by omega
   have HT : Hid (l.take k = l) := zz (by rw [HN.o, List.take_length]); rw [HT.o] at HO; go_wp2; go_ret; exact ⟨_, rfl, HO.o, HB.o⟩
theorem where_env (v : Value) (l : List Us) (X : Nat) (q : List UInt8) (w : World) (hv : Usw w v l) (h : w.cell? ⟨X, 7, none⟩ = some (.string (bs q))) (hl : l.length ≤ 1000) :
  Calls Tryz.prog 45 #[v, .func (.func 46) #[] #[ptr X]] w fun r w' => ∃ v', r = .returned v' ∧ w'.ownsRow w.heap.size 58 9 v' (l.filter (fEnv q)).length (rwC usC (l.filter (fEnv q))) ∧ Below w.heap.size w w' := by
 obtain ⟨ix, hi, hz0, hz1, hz2⟩ := info_parts info_us; have HCL : Hid (∀ u w', Below w.heap.size w w' → Calls Tryz.prog 46 #[usV u, ptr X] w' fun r w2 => r = .returned (.bool ((fEnv q) u)) ∧ Below w'.heap.size w' w2) := zz (fun u w' hb => fit1_any u X q w' (cell_kept h hb)); have HV := zz hv; obtain ⟨p, c, rfl⟩ := hv.slice; obtain ⟨n, hn⟩ : ∃ n, n = l.length := ⟨_, rfl⟩; have HN := zz hn; have HL := zz hl; rw [← hn]; have hn63 : (n : Int) ≤ 1000 := by omega
 obtain ⟨f, hf⟩ : ∃ f : Us → Bool, f = (fEnv q) := ⟨_, rfl⟩; rw [← hf] at HCL ⊢; clear hv hl hn hf h; go_enter Tryz.func45, Tryz.ntmps45; go_wp2
 go_loopw [5, 10] (fun o i wr => ∃ k : Nat, k ≤ n ∧ i = .int .i64 (k : Int) ∧ Hid (wr.ownsRow w.heap.size 58 9 o ((l.take k).filter f).length (rwC usC ((l.take k).filter f))) ∧ Hid (Below w.heap.size w wr)) (fun _ i _ => n - (intOf i).toNat)
 case atStart => exact ⟨0, Nat.zero_le _, rfl, zz (World.ownsRow_nil _ _ _ _), zz (Below.refl _ _)⟩
 case round =>
  obtain ⟨k, hk, rfl, HO, HB⟩ := hrel
  by_cases hlt : k < n
  ·have HKN : Hid (k < l.length) := zz (by have := HN.o; omega)
   obtain ⟨u, hu⟩ : ∃ u, u = l[k]'HKN.o := ⟨_, rfl⟩; have HLC := zz ((HV.o.below HB.o).at HKN.o); rw [← hu] at HLC; have HTK : Hid (l.take (k + 1) = l.take k ++ [u]) := zz (by rw [hu]; exact List.take_succ_eq_append_getElem HKN.o); clear hu; obtain ⟨b, o, rfl, hcell⟩ := HLC.o; have q0 := hcell 0 _ rfl; rw [Nat.add_zero] at q0; have q1 := hcell 1 _ rfl; have q2 := hcell 2 _ rfl; have q3 := hcell 3 _ rfl; have q4 := hcell 4 _ rfl; have q5 := hcell 5 _ rfl; have q6 := hcell 6 _ rfl; have q7 := hcell 7 _ rfl; have q8 := hcell 8 _ rfl; clear hcell HLC; go_upto_region 5 with fail; obtain ⟨Y, hY⟩ : ∃ Y, Y = wr.heap.size := ⟨_, rfl⟩; refine at_hide (F := fun w' => Blk w' Y (usC u) 58 ∧ Below wr.heap.size wr w') ⟨by rw [hY]; exact Blk.made wr (usC u) _, below_alloc _ _⟩ ?_; rw [← hY]; intro w3 hF; have hb3 : Below wr.heap.size wr w3 := by have := hF.2; rw [hY] at this; exact this
   have HB3 : Hid (Below w.heap.size w w3) := zz (below_and HB.o hb3); have HO3 : Hid (w3.ownsRow w.heap.size 58 9 u5 ((l.take k).filter f).length (rwC usC ((l.take k).filter f))) := zz (own_fr HO.o (Fr.of_below hb3 []) (fun _ _ => by simp)); have HY3 := zz hF.1; clear hF hY hb3 q0 q1 q2 q3 q4 q5 q6 q7 q8 HO HB; obtain ⟨y0, y1, y2, y3, y4, y5, y6, y7, y8⟩ := cl9 HY3.o; have HCU := zz (HCL.o u w3 HB3.o); obtain ⟨m, hm⟩ : ∃ m, m = ((l.take k).filter f).length := ⟨_, rfl⟩; have HM : Hid (m ≤ 1000) := zz (by rw [hm]; have h1 := List.length_filter_le f (l.take k); rw [List.length_take] at h1; have := HL.o; omega); rw [← hm] at HO3; have HMM := zz hm; clear hm
   cases hfu : f u with
   | false =>
    rw [hfu] at HCU; have HFF : Hid ((l.take (k + 1)).filter f = (l.take k).filter f) := zz (by rw [HTK.o, List.filter_append, List.filter_cons, hfu]; simp); clear hfu; go_wp2_with (go_at_call 46; refine HCU.o.mono ?_; rintro r w4 ⟨rfl, hb⟩; have HB4 := zz (below_and HB3.o hb); have HO4 : Hid (w4.ownsRow w.heap.size 58 9 u5 m (rwC usC ((l.take k).filter f))) := zz (own_fr HO3.o (Fr.of_below hb []) (fun _ _ => by simp)); clear hb); go_roundw
    case rel => exact ⟨k + 1, by omega, by go_num, zz (by rw [HFF.o, ← HMM.o]; exact HO4.o), HB4⟩
    case measure => simp [intOf]; omega
   | true =>
    rw [hfu] at HCU; have HFF : Hid ((l.take (k + 1)).filter f = (l.take k).filter f ++ [u]) := zz (by rw [HTK.o, List.filter_append, List.filter_cons, hfu]; simp); clear hfu; go_upto_region 6 with (go_at_call 46; refine HCU.o.mono ?_; rintro r w4 ⟨rfl, hb⟩; have HB4 := zz (below_and HB3.o hb); have HO4 : Hid (w4.ownsRow w.heap.size 58 9 u5 m (rwC usC ((l.take k).filter f))) := zz (own_fr HO3.o (Fr.of_below hb []) (fun _ _ => by simp)); have HY4 := zz (HY3.o.kept hb); clear hb); clear y0 y1 y2 y3 y4 y5 y6 y7 y8; obtain ⟨z0, z1, z2, z3, z4, z5, z6, z7, z8⟩ := cl9 HY4.o; have HS4 : Hid (w.heap.size ≤ w4.heap.size) := zz HB4.o.size; go_wp2_with (at_builtin; refine wpList_app _ rfl _ _ 30 30 rfl w.heap.size 58 ix (.agg #[.string ⟨#[]⟩, .int .i64 0, .int .i64 0, .int .i64 0, .int .i64 0, .int .i64 0, .int .i64 0, .string ⟨#[]⟩, .bool false]) 9 88 Tryz.underlying30 hi hz0 hz1 hz2 rfl _ m (rwC usC ((l.take k).filter f)) rfl (HO4.o.alloc _) _ 1 (usC u) rfl (src_block Tryz.underlying30 _ _ (usC u).toArray (Blk.made w4 (usC u) _) rfl (usC_one u)) (by have := HM.o; unfold maxLen; omega) (by have := HM.o; omega) (by have := HS4.o; simp; omega) ?_; intro v6 w6 hown' hgrow hnil; have HO6 : Hid (w6.ownsRow w.heap.size 58 9 v6 ((l.take (k + 1)).filter f).length (rwC usC ((l.take (k + 1)).filter f))) := zz (by rw [HFF.o, rwC_snoc, List.length_append, ← HMM.o]; exact hown'); have HB6 := zz (below_grown (below_and HB4.o (below_alloc w4 _)) (by have := HS4.o; simp; omega) (HO4.o.alloc _) hgrow); clear hown' hgrow hnil)
    go_roundw
    case rel => exact ⟨k + 1, by omega, by go_num, HO6, HB6⟩
    case measure => simp [intOf]; omega
  ·obtain rfl : k = n := by omega
   have HT : Hid (l.take k = l) := zz (by rw [HN.o, List.take_length]); rw [HT.o] at HO; go_wp2; go_ret; exact ⟨_, rfl, HO.o, HB.o⟩
end Go.Proofs.YtdemkfhkibmbnaaGreatDoor.Ft
namespace Go.Proofs.YtdemkfhkibmbnaaGreatDoor
open Go.RowKit
theorem fits_any (x y : Am) (w : World) :
  Calls Tryz.prog 75 #[amV x, amV y] w fun e w' => e = .returned (.bool (fitsB x y)) ∧ Below w.heap.size w w' := by
 obtain ⟨w3, hw3⟩ : ∃ w3, w3 = ((w.alloc (.cells #[.int .i64 x.c, .int .i64 x.r, .int .i64 x.d, .int .i64 x.p] 23)).alloc (.cells #[.int .i64 y.c, .int .i64 y.r, .int .i64 y.d, .int .i64 y.p] 23)) := ⟨_, rfl⟩; obtain ⟨B, hB⟩ : ∃ B, B = w.heap.size := ⟨_, rfl⟩
 have B0 : Hid (Blk w3 B (amC x) 23) := zz (by
  have := (Blk.made w (amC x) 23).alloc (.cells #[.int .i64 y.c, .int .i64 y.r, .int .i64 y.d, .int .i64 y.p] 23)
  rw [hw3, hB]; exact this)
 have B1 : Hid (Blk w3 (B + 1) (amC y) 23) := zz (by
  have := (Blk.made (w.alloc (.cells #[.int .i64 x.c, .int .i64 x.r, .int .i64 x.d, .int .i64 x.p] 23)) (amC y) 23)
  rw [hw3, hB]; simpa using this)
 have HBL : Hid (Below w.heap.size w w3) := zz (by rw [hw3]; exact below_and (below_alloc w _) (below_alloc _ _)); obtain ⟨c4, c5, c6, c7⟩ := cl4 B1.o; go_enter Tryz.func75, Tryz.ntmps75; go_upto_region 1 with fail; rw [← hw3, ← hB]; clear hw3 hB; go_upto_region 2 with (go_at_call 54; refine (array_any y _).mono ?_; rintro e w5 ⟨rfl, hb⟩; have HB5 := zz hb; clear hb); obtain ⟨w6, hw6⟩ : ∃ w6, w6 = w5.alloc (.cells #[.int .i64 y.c, .int .i64 y.r, .int .i64 y.d, .int .i64 y.p] 84) := ⟨_, rfl⟩; obtain ⟨g, hg⟩ : ∃ g, g = w5.heap.size := ⟨_, rfl⟩; have HY : Hid (Blk w6 g (amC y) 84) := zz (by rw [hw6, hg]; exact Blk.made w5 (amC y) _); have HB6 : Hid (Below w3.heap.size w3 w6) := zz (by rw [hw6]; exact below_and HB5.o (below_alloc _ _)); rw [← hw6, ← hg]; clear hw6 hg c4 c5 c6 c7; obtain ⟨c0, c1, c2, c3⟩ := cl4 (B0.o.kept HB6.o); go_wp2_with (go_at_call 54; refine (array_any x _).mono ?_; rintro e w7 ⟨rfl, hb⟩; have HB7 := zz (below_and HBL.o (below_and HB6.o hb)); have HY7 := zz (HY.o.kept hb); clear hb)
 go_loop [12] (fun i => ∃ k : Nat, k ≤ 4 ∧ i = .int .i64 (k : Int) ∧ Hid (∀ j, j < k → x.get j ≤ y.get j)) (fun i => 4 - (intOf i).toNat)
 case atStart => exact ⟨0, Nat.zero_le _, rfl, fun j h => by omega⟩
 case round =>
  obtain ⟨k, hk, rfl, HA⟩ := hrel
  by_cases hlt : k < 4
  ·have hix := index_am x w7 k hlt
   have hy := HY7.o.cell (amC_get y hlt); have i0 : (0 : Int) ≤ (k : Int) := by omega
   have i1 : (k : Int) < 4 := by omega
   obtain ⟨p, hp⟩ : ∃ p, p = x.get k := ⟨_, rfl⟩; obtain ⟨q, hq⟩ : ∃ q, q = y.get k := ⟨_, rfl⟩; rw [← hp] at hix; rw [← hq] at hy; have HPQ := zz (show p = x.get k ∧ q = y.get k from ⟨hp, hq⟩); clear hp hq
   by_cases hov : q < p
   ·have HN : Hid (fitsB x y = false) := zz (by unfold fitsB; rw [any4_yes hlt (by have := HPQ.o; simp only [decide_eq_true_eq]; omega)]; rfl)
    go_wp2; go_ret; exact ⟨ret_bool HN.o.symm, HB7.o⟩
   ·have hd : decide (q < p) = false := by simpa using hov
    have HA2 : Hid (∀ j, j < k + 1 → x.get j ≤ y.get j) := zz (fun j hj => by
     by_cases h : j < k
     ·exact HA.o j h
     ·obtain rfl : j = k := by omega
      have := HPQ.o; omega)
    go_wp2
    go_round
    case rel => exact ⟨k + 1, by omega, by go_num, HA2⟩
    case measure => simp [intOf]; omega
  ·obtain rfl : k = 4 := by omega
   have HN : Hid (fitsB x y = true) := zz (by unfold fitsB; rw [any4_no (fun j hj => by have := HA.o j hj; simpa using this)]; rfl); go_wp2; go_ret; exact ⟨ret_bool HN.o.symm, HB7.o⟩
theorem sub_bad (x y : Am) (w : World) (ha : (x.okB && y.okB) = false) :
  Calls Tryz.prog 82 #[amV x, amV y] w fun e w' => e = .returned (.tuple #[amV (subR x y).1, .int .i64 (subR x y).2]) ∧ Below w.heap.size w w' := by
 have HA := zz ha; have HR := zz (subR_bad ha); clear ha; obtain ⟨w3, hw3⟩ : ∃ w3, w3 = (((w.alloc (.cells #[.int .i64 x.c, .int .i64 x.r, .int .i64 x.d, .int .i64 x.p] 23)).alloc (.cells #[.int .i64 y.c, .int .i64 y.r, .int .i64 y.d, .int .i64 y.p] 23)).alloc (.cells #[.int .i64 0, .int .i64 0, .int .i64 0, .int .i64 0] 23)) := ⟨_, rfl⟩; obtain ⟨B, hB⟩ : ∃ B, B = w.heap.size := ⟨_, rfl⟩
 have B0 : Hid (Blk w3 B (amC x) 23) := zz (by
  have := ((Blk.made w (amC x) 23).alloc (.cells #[.int .i64 y.c, .int .i64 y.r, .int .i64 y.d, .int .i64 y.p] 23)).alloc (.cells #[.int .i64 0, .int .i64 0, .int .i64 0, .int .i64 0] 23)
  rw [hw3, hB]; exact this)
 have B1 : Hid (Blk w3 (B + 1) (amC y) 23) := zz (by
  have := (Blk.made (w.alloc (.cells #[.int .i64 x.c, .int .i64 x.r, .int .i64 x.d, .int .i64 x.p] 23)) (amC y) 23).alloc (.cells #[.int .i64 0, .int .i64 0, .int .i64 0, .int .i64 0] 23)
  rw [hw3, hB]; simpa using this)
 have B2 : Hid (Blk w3 (B + 1 + 1) (amC .zero) 23) := zz (by
  have := Blk.made ((w.alloc (.cells #[.int .i64 x.c, .int .i64 x.r, .int .i64 x.d, .int .i64 x.p] 23)).alloc (.cells #[.int .i64 y.c, .int .i64 y.r, .int .i64 y.d, .int .i64 y.p] 23)) (amC .zero) 23
  rw [hw3, hB]; simpa [Am.zero] using this)
 have HSZ : Hid (w3.heap.size = B + 3) := zz (by rw [hw3, hB]; simp); have HBW0 : Hid (w.heap.size ≤ B) := zz (by omega); have HBL : Hid (Below w.heap.size w w3) := zz (by rw [hw3]; exact below_and (below_and (below_alloc w _) (below_alloc _ _)) (below_alloc _ _)); obtain ⟨c0, c1, c2, c3⟩ := cl4 B0.o; obtain ⟨c4, c5, c6, c7⟩ := cl4 B1.o; go_enter Tryz.func82, Tryz.ntmps82; go_upto_region 1 with fail; rw [← hw3, ← hB]; clear hw3 hB; go_wp2_with (go_at_call 101; refine (all_two w3 x y).mono ?_; rw [HA.o]; rintro e ws ⟨rfl, hb⟩; have C0 := zz (B0.o.kept hb); have C1 := zz (B1.o.kept hb); have hbr := B2.o.kept hb; have C2 := zz hbr; have HBS := zz (below_and HBL.o hb); have HSS : Hid (B + 3 ≤ ws.heap.size) := zz (by have := hb.size; have := HSZ.o; omega); obtain ⟨r0, r1, r2, r3⟩ := cl4 hbr; obtain ⟨f0, f1, f2, f3⟩ := fz4 hbr; clear hb hbr); refine bodyPost_ret (results_row_tmp rfl _ _ (B + 1 + 1) 23 #[.int .i64 0, .int .i64 0, .int .i64 0, .int .i64 0] (0, 0) _ rfl ?_ Tryz.underlying23 rfl (by kernel_rfl)) rfl ⟨?_, ?_⟩
 ·exact (((C2.o.set 0 (.int .i64 0)).set 1 (.int .i64 0)).set 2 (.int .i64 0)).set 3 (.int .i64 0)
 ·rw [HR.o]; rfl
 ·have hBw : w.heap.size ≤ B + 1 + 1 := by have := HBW0.o; omega
  exact (((HBS.o.setCell (p := ⟨B + 1 + 1, 0, none⟩) hBw _).setCell (p := ⟨B + 1 + 1, 1, none⟩) hBw _).setCell (p := ⟨B + 1 + 1, 2, none⟩) hBw _).setCell (p := ⟨B + 1 + 1, 3, none⟩) hBw _
theorem sub_nofit (x y : Am) (w : World) (ha : (x.okB && y.okB) = true) (hf : fitsB y x = false) :
  Calls Tryz.prog 82 #[amV x, amV y] w fun e w' => e = .returned (.tuple #[amV (subR x y).1, .int .i64 (subR x y).2]) ∧ Below w.heap.size w w' := by
 have HA := zz ha; have HF := zz hf; have HR := zz (subR_fit ha hf); clear ha hf; obtain ⟨w3, hw3⟩ : ∃ w3, w3 = (((w.alloc (.cells #[.int .i64 x.c, .int .i64 x.r, .int .i64 x.d, .int .i64 x.p] 23)).alloc (.cells #[.int .i64 y.c, .int .i64 y.r, .int .i64 y.d, .int .i64 y.p] 23)).alloc (.cells #[.int .i64 0, .int .i64 0, .int .i64 0, .int .i64 0] 23)) := ⟨_, rfl⟩; obtain ⟨B, hB⟩ : ∃ B, B = w.heap.size := ⟨_, rfl⟩
 have B0 : Hid (Blk w3 B (amC x) 23) := zz (by
  have := ((Blk.made w (amC x) 23).alloc (.cells #[.int .i64 y.c, .int .i64 y.r, .int .i64 y.d, .int .i64 y.p] 23)).alloc (.cells #[.int .i64 0, .int .i64 0, .int .i64 0, .int .i64 0] 23)
  rw [hw3, hB]; exact this)
 have B1 : Hid (Blk w3 (B + 1) (amC y) 23) := zz (by
  have := (Blk.made (w.alloc (.cells #[.int .i64 x.c, .int .i64 x.r, .int .i64 x.d, .int .i64 x.p] 23)) (amC y) 23).alloc (.cells #[.int .i64 0, .int .i64 0, .int .i64 0, .int .i64 0] 23)
  rw [hw3, hB]; simpa using this)
 have B2 : Hid (Blk w3 (B + 1 + 1) (amC .zero) 23) := zz (by
  have := Blk.made ((w.alloc (.cells #[.int .i64 x.c, .int .i64 x.r, .int .i64 x.d, .int .i64 x.p] 23)).alloc (.cells #[.int .i64 y.c, .int .i64 y.r, .int .i64 y.d, .int .i64 y.p] 23)) (amC .zero) 23
  rw [hw3, hB]; simpa [Am.zero] using this)
 have HSZ : Hid (w3.heap.size = B + 3) := zz (by rw [hw3, hB]; simp); have HBW0 : Hid (w.heap.size ≤ B) := zz (by omega); have HBL : Hid (Below w.heap.size w w3) := zz (by rw [hw3]; exact below_and (below_and (below_alloc w _) (below_alloc _ _)) (below_alloc _ _)); obtain ⟨c0, c1, c2, c3⟩ := cl4 B0.o; obtain ⟨c4, c5, c6, c7⟩ := cl4 B1.o; go_enter Tryz.func82, Tryz.ntmps82; go_upto_region 1 with fail; rw [← hw3, ← hB]; clear hw3 hB; go_wp2_with (first | (go_at_call 101; refine (all_two w3 x y).mono ?_; rw [HA.o]; rintro e ws ⟨rfl, hb⟩; have C0 := zz (B0.o.kept hb); have C1 := zz (B1.o.kept hb); have hbr := B2.o.kept hb; have C2 := zz hbr; have HBS := zz (below_and HBL.o hb); have HSS : Hid (B + 3 ≤ ws.heap.size) := zz (by have := hb.size; have := HSZ.o; omega); obtain ⟨r0, r1, r2, r3⟩ := cl4 hbr; obtain ⟨f0, f1, f2, f3⟩ := fz4 hbr; clear hb hbr; clear c0 c1 c2 c3 c4 c5 c6 c7; obtain ⟨c0, c1, c2, c3⟩ := cl4 C0.o; obtain ⟨c4, c5, c6, c7⟩ := cl4 C1.o) | (go_at_call 75; refine (fits_any y x _).mono ?_; rw [HF.o]; rintro e wt ⟨rfl, hb⟩; have D0 := zz (C0.o.kept hb); have D1 := zz (C1.o.kept hb); have hbr := C2.o.kept hb; have D2 := zz hbr; have HBT := zz (below_and HBS.o hb); have HST : Hid (B + 3 ≤ wt.heap.size) := zz (by have := hb.size; have := HSS.o; omega); obtain ⟨r0, r1, r2, r3⟩ := cl4 hbr; obtain ⟨f0, f1, f2, f3⟩ := fz4 hbr; clear hb hbr))
 refine bodyPost_ret (results_row_tmp rfl _ _ (B + 1 + 1) 23 #[.int .i64 0, .int .i64 0, .int .i64 0, .int .i64 0] (0, 0) _ rfl ?_ Tryz.underlying23 rfl (by kernel_rfl)) rfl ⟨?_, ?_⟩
 ·exact (((D2.o.set 0 (.int .i64 0)).set 1 (.int .i64 0)).set 2 (.int .i64 0)).set 3 (.int .i64 0)
 ·rw [HR.o]; rfl
 ·have hBw : w.heap.size ≤ B + 1 + 1 := by have := HBW0.o; omega
  exact (((HBT.o.setCell (p := ⟨B + 1 + 1, 0, none⟩) hBw _).setCell (p := ⟨B + 1 + 1, 1, none⟩) hBw _).setCell (p := ⟨B + 1 + 1, 2, none⟩) hBw _).setCell (p := ⟨B + 1 + 1, 3, none⟩) hBw _
theorem sub_good (x y : Am) (w : World) (ha : (x.okB && y.okB) = true) (hf : fitsB y x = true) :
  Calls Tryz.prog 82 #[amV x, amV y] w fun e w' => e = .returned (.tuple #[amV (subR x y).1, .int .i64 (subR x y).2]) ∧ Below w.heap.size w w' := by
 have HA := zz ha; have HX : Hid (x.okB = true) := zz (by simp at ha; exact ha.1); have HY : Hid (y.okB = true) := zz (by simp at ha; exact ha.2); clear ha; have HF := zz hf; clear hf; obtain ⟨w3, hw3⟩ : ∃ w3, w3 = (((w.alloc (.cells #[.int .i64 x.c, .int .i64 x.r, .int .i64 x.d, .int .i64 x.p] 23)).alloc (.cells #[.int .i64 y.c, .int .i64 y.r, .int .i64 y.d, .int .i64 y.p] 23)).alloc (.cells #[.int .i64 0, .int .i64 0, .int .i64 0, .int .i64 0] 23)) := ⟨_, rfl⟩; obtain ⟨B, hB⟩ : ∃ B, B = w.heap.size := ⟨_, rfl⟩
 have B0 : Hid (Blk w3 B (amC x) 23) := zz (by
  have := ((Blk.made w (amC x) 23).alloc (.cells #[.int .i64 y.c, .int .i64 y.r, .int .i64 y.d, .int .i64 y.p] 23)).alloc (.cells #[.int .i64 0, .int .i64 0, .int .i64 0, .int .i64 0] 23)
  rw [hw3, hB]; exact this)
 have B1 : Hid (Blk w3 (B + 1) (amC y) 23) := zz (by
  have := (Blk.made (w.alloc (.cells #[.int .i64 x.c, .int .i64 x.r, .int .i64 x.d, .int .i64 x.p] 23)) (amC y) 23).alloc (.cells #[.int .i64 0, .int .i64 0, .int .i64 0, .int .i64 0] 23)
  rw [hw3, hB]; simpa using this)
 have B2 : Hid (Blk w3 (B + 1 + 1) (amC .zero) 23) := zz (by
  have := Blk.made ((w.alloc (.cells #[.int .i64 x.c, .int .i64 x.r, .int .i64 x.d, .int .i64 x.p] 23)).alloc (.cells #[.int .i64 y.c, .int .i64 y.r, .int .i64 y.d, .int .i64 y.p] 23)) (amC .zero) 23
  rw [hw3, hB]; simpa [Am.zero] using this)
 have HSZ : Hid (w3.heap.size = B + 3) := zz (by rw [hw3, hB]; simp); have HBW0 : Hid (w.heap.size ≤ B) := zz (by omega); have HBL : Hid (Below w.heap.size w w3) := zz (by rw [hw3]; exact below_and (below_and (below_alloc w _) (below_alloc _ _)) (below_alloc _ _)); obtain ⟨c0, c1, c2, c3⟩ := cl4 B0.o; obtain ⟨c4, c5, c6, c7⟩ := cl4 B1.o; go_enter Tryz.func82, Tryz.ntmps82; go_upto_region 1 with fail; rw [← hw3, ← hB]; clear hw3 hB; go_upto_region 5 with (first | (go_at_call 101; refine (all_two w3 x y).mono ?_; rw [HA.o]; rintro e ws ⟨rfl, hb⟩; have C0 := zz (B0.o.kept hb); have C1 := zz (B1.o.kept hb); have hbr := B2.o.kept hb; have C2 := zz hbr; have HBS := zz (below_and HBL.o hb); have HSS : Hid (B + 3 ≤ ws.heap.size) := zz (by have := hb.size; have := HSZ.o; omega); obtain ⟨r0, r1, r2, r3⟩ := cl4 hbr; obtain ⟨f0, f1, f2, f3⟩ := fz4 hbr; clear hb hbr; clear c0 c1 c2 c3 c4 c5 c6 c7; obtain ⟨c0, c1, c2, c3⟩ := cl4 C0.o; obtain ⟨c4, c5, c6, c7⟩ := cl4 C1.o) | (go_at_call 75; refine (fits_any y x _).mono ?_; rw [HF.o]; rintro e wt ⟨rfl, hb⟩; have D0 := zz (C0.o.kept hb); have D1 := zz (C1.o.kept hb); have hbr := C2.o.kept hb; have D2 := zz hbr; have HBT := zz (below_and HBS.o hb); have HST : Hid (B + 3 ≤ wt.heap.size) := zz (by have := hb.size; have := HSS.o; omega); obtain ⟨r0, r1, r2, r3⟩ := cl4 hbr; obtain ⟨f0, f1, f2, f3⟩ := fz4 hbr; clear hb hbr))
 clear c0 c1 c2 c3 c4 c5 c6 c7 r0 r1 r2 r3 f0 f1 f2 f3 B0 B1 B2; obtain ⟨B0, B1⟩ : Hid (Blk wt B (amC x) 23) ∧ Hid (Blk wt (B + 1) (amC y) 23) := ⟨D0, D1⟩
 go_cut [6, 7] (fun sa sb wx => Two wt.heap.size wx sa sb x y ∧ Below wt.heap.size wt wx)
 case first =>
  go_region_held3 (fun w' => w'.cell? ⟨B, 0, none⟩ = some (.int .i64 x.c) ∧ w'.cell? ⟨B, 1, none⟩ = some (.int .i64 x.r) ∧ w'.cell? ⟨B, 2, none⟩ = some (.int .i64 x.d) ∧ w'.cell? ⟨B, 3, none⟩ = some (.int .i64 x.p) ∧ w'.cell? ⟨B + 1, 0, none⟩ = some (.int .i64 y.c) ∧ w'.cell? ⟨B + 1, 1, none⟩ = some (.int .i64 y.r) ∧ w'.cell? ⟨B + 1, 2, none⟩ = some (.int .i64 y.d) ∧ w'.cell? ⟨B + 1, 3, none⟩ = some (.int .i64 y.p)) (refine eight (t := 23) (u := 23) ?_ ?_ <;> (repeat (first | exact B0.o | exact B1.o | apply Blk.drew | apply Blk.alloc)))
   (first | (go_at_call 54; refine (array_exact _ _).mono ?_; rintro e w1 ⟨rfl, rfl⟩))
  all_goals go_wp2_with fail
  all_goals go_meet
  all_goals refine ⟨⟨_, _, rfl, rfl, by omega, by omega, by omega, ?_, ?_⟩, ?_⟩
  all_goals first
   | ((repeat (first | exact Below.refl _ _ | apply bl_drew | (refine bl_alloc _ ?_ (by simp <;> omega)))); done)
   | ((repeat (first | (refine Blk.made_at (cs := amC x) ?_; simp; done) | (refine Blk.made_at (cs := amC y) ?_; simp; done) | apply Blk.drew | apply Blk.alloc)); done)
 case rest =>
  obtain ⟨⟨g, h, rfl, rfl, hgh, hg, hh, hb1, hb2⟩, hbl⟩ := hcut; have HB1 := zz hb1; have HB2 := zz hb2; have HBW := zz hbl; have HGH := zz (show g ≠ h ∧ wt.heap.size ≤ g ∧ wt.heap.size ≤ h from ⟨hgh, hg, hh⟩); clear hb1 hb2 hbl hgh hg hh
  obtain ⟨z, hz⟩ : ∃ z : Am, z = .of fun k => x.get k - y.get k := ⟨_, rfl⟩
  have HZ : Hid (∀ k, k < 4 → z.get k = x.get k - y.get k) := zz (fun k hk => by rw [hz, Am.of_get _ k hk]); clear hz; go_wp2
  go_loopw [24] (fun i wc => ∃ k : Nat, k ≤ 4 ∧ i = .int .i64 (k : Int) ∧ Hid (Blk wc g (amC (Am.mix k x z)) 84) ∧ Hid (Blk wc h (amC y) 84) ∧ Hid (Below wt.heap.size wt wc)) (fun i _ => 4 - (intOf i).toNat)
  case atStart => exact ⟨0, Nat.zero_le _, rfl, HB1, HB2, HBW⟩
  case round =>
   obtain ⟨k, hk, rfl, HXa, HYa, HBx⟩ := hrel
   by_cases hlt : k < 4
   ·have i0 : (0 : Int) ≤ (k : Int) := by omega
    have i1 : (k : Int) < 4 := by omega
    have hx := HXa.o.cell (Am.mix_get k hlt x z); have hy := HYa.o.cell (amC_get y hlt); have fx := HXa.o.free k; have hzk := HZ.o k hlt; obtain ⟨p, hp⟩ : ∃ p, p = x.get k := ⟨_, rfl⟩; obtain ⟨q, hq⟩ : ∃ q, q = y.get k := ⟨_, rfl⟩; have p0 : 0 ≤ p ∧ p ≤ 1099511627776 := by rw [hp]; exact ok_get HX.o hlt
    have q0 : 0 ≤ q ∧ q ≤ 1099511627776 := by rw [hq]; exact ok_get HY.o hlt
    obtain ⟨p1, p2⟩ := p0; obtain ⟨q1, q2⟩ := q0; rw [← hp] at hx; rw [← hq] at hy; rw [← hp, ← hq] at hzk; have HZK := zz hzk; clear hp hq hzk; have s1 : IntKind.i64.wrap (p - q) = p - q := by rw [IntKind.wrap_i64]; omega
    have s2 : wrap64 (p - q) = p - q := by unfold wrap64; omega
    go_wp2
    go_region
    all_goals go_wp2
    go_roundw
    case rel => exact ⟨k + 1, by omega, by go_num, zz (by
      have := HXa.o.set k (.int .i64 (z.get k)); rw [Am.mix_set k hlt, HZK.o] at this
      exact this), zz (HYa.o.other (Ne.symm HGH.o.1) _), zz (bl_drew (HBx.o.setCell (p := ⟨g, k, none⟩) HGH.o.2.1 _))⟩
    case measure => simp [intOf]; omega
   ·obtain rfl : k = 4 := by omega
    have HR := zz (subR_ok (x := x) (y := y) (z := z) (by rw [HX.o, HY.o]; rfl) HF.o HZ.o); have hx4 : Blk wr g (amC z) 84 := HXa.o; obtain ⟨z0, z1, z2, z3⟩ := cl4 hx4; have BR : Hid (Blk wr (B + 1 + 1) (amC .zero) 23) := zz (D2.o.kept HBx.o); clear hx4; go_wp2_with (go_at_call 102; refine (amounts_any z _).mono ?_; rintro e w5 ⟨rfl, hb⟩; have hbr := BR.o.kept hb; obtain ⟨r0, r1, r2, r3⟩ := cl4 hbr; obtain ⟨f0, f1, f2, f3⟩ := fz4 hbr; have BR5 := zz hbr; have HB5 := zz (below_and HBT.o (below_and HBx.o hb)); clear hb hbr); refine bodyPost_ret (results_row_tmp rfl _ _ (B + 1 + 1) 23 #[.int .i64 z.c, .int .i64 z.r, .int .i64 z.d, .int .i64 z.p] (0, 0) _ rfl ?_ Tryz.underlying23 rfl (by kernel_rfl)) rfl ⟨?_, ?_⟩
    ·exact (((BR5.o.set 0 (.int .i64 z.c)).set 1 (.int .i64 z.r)).set 2 (.int .i64 z.d)).set 3 (.int .i64 z.p)
    ·rw [HR.o]; rfl
    ·have hBw : w.heap.size ≤ B + 1 + 1 := by have := HBW0.o; omega
     exact (((HB5.o.setCell (p := ⟨B + 1 + 1, 0, none⟩) hBw _).setCell (p := ⟨B + 1 + 1, 1, none⟩) hBw _).setCell (p := ⟨B + 1 + 1, 2, none⟩) hBw _).setCell (p := ⟨B + 1 + 1, 3, none⟩) hBw _
theorem sub_any (x y : Am) (w : World) :
  Calls Tryz.prog 82 #[amV x, amV y] w fun e w' => e = .returned (.tuple #[amV (subR x y).1, .int .i64 (subR x y).2]) ∧ Below w.heap.size w w' := by
 cases h : x.okB && y.okB
 ·exact sub_bad x y w h
 ·cases hf : fitsB y x
  ·exact sub_nofit x y w h hf
  ·exact sub_good x y w h hf
end Go.Proofs.YtdemkfhkibmbnaaGreatDoor
namespace Go.Proofs.YtdemkfhkibmbnaaGreatDoor.Ft
open Go.RowKit Go.Proofs.YtdemkfhkibmbnaaGreatDoor Go.Proofs.YtdemkfhkibmbnaaGreatDoor.Ru
theorem ret_ct {P : Program} {fn : Func} {R : Ending → World → Prop} {a : Act} {w : World} {p u : Tmp} {ty t : TypeId} {g : Nat} {cs : List Value} {d : TypeDesc} (h : fn.results = #[.cell p ty, .tmp u]) (hd : a.defers = [])
  (hp : a.tmps.getD p undef = .pointer (some ⟨g, 0, none⟩)) (hg : Blk w g cs t) (hu : P.underlying ty = some d) (hs : (match d with | .struct _ | .array _ _ => true | _ => false) = true) (hi : (P.info? ty).map (·.size) = some cs.length)
  (hR : R (.returned (.tuple #[.agg cs.toArray, a.tmps.getD u undef])) w) : bodyPost P fn R .ret a w := by
 refine bodyPost_ret ?_ hd hR; rw [results_cell_tmp h]; have h1 : (asAddr (a.tmps.getD p undef)).run P w = .ok ⟨g, 0, none⟩ w := by rw [hp]; rfl
 rw [h1]; simp only [Result.andThen_ok]; rw [run_loadVar_row w g t ty cs.toArray (0, 0) d hg hu hs (by simpa using hi)]
 rfl
theorem size_am : (Tryz.prog.info? 23).map (·.size) = some 4 := by kernel_rfl
theorem blk_fill4 {w : World} {g : Nat} {a b c d x y z u : Value} {t : TypeId} (h : Blk w g [a, b, c, d] t) : Blk ((((w.setCell ⟨g, 0, none⟩ x).setCell ⟨g, 1, none⟩ y).setCell ⟨g, 2, none⟩ z).setCell ⟨g, 3, none⟩ u) g [x, y, z, u] t := (((h.set 0 x).set 1 y).set 2 z).set 3 u
theorem blk_off4 {w : World} {g k : Nat} {cs : List Value} {x y z u : Value} {t : TypeId} (h : Blk w k cs t) (hne : k ≠ g) : Blk ((((w.setCell ⟨g, 0, none⟩ x).setCell ⟨g, 1, none⟩ y).setCell ⟨g, 2, none⟩ z).setCell ⟨g, 3, none⟩ u) k cs t := (((h.other (a := ⟨g, 0, none⟩) hne x).other (a := ⟨g, 1, none⟩) hne y).other (a := ⟨g, 2, none⟩) hne z).other (a := ⟨g, 3, none⟩) hne u
theorem below_fill4 {w w1 : World} {n g : Nat} (h : Below n w w1) (hg : n ≤ g) (x y z u : Value) : Below n w ((((w1.setCell ⟨g, 0, none⟩ x).setCell ⟨g, 1, none⟩ y).setCell ⟨g, 2, none⟩ z).setCell ⟨g, 3, none⟩ u) :=
 (((h.setCell (by simpa using hg) _).setCell (by simpa using hg) _).setCell (by simpa using hg) _).setCell (by simpa using hg) _
def takeR (a : Am) (l : List Us) : Am × Bool := match takeP a l with | some r => (r, true) | none => (Am.zero, false)
structure TkW (w wx : World) (A R : Nat) (a : Am) : Prop where
 ba : Blk wx A (amC a) 23
 br : Blk wx R (amC Am.zero) 23
 hb : Below w.heap.size w wx
theorem TkW.kept {w wx wy : World} {A R : Nat} {a : Am} (h : TkW w wx A R a) (hb : Below wx.heap.size wx wy) : TkW w wy A R a := ⟨h.ba.kept hb, h.br.kept hb, below_and h.hb hb⟩
theorem take_any (a : Am) (v : Value) (l : List Us) (w : World) (hv : Usw w v l) (hl : l.length ≤ 1000) :
  Calls Tryz.prog 56 #[amV a, v] w fun r w' => r = .returned (.tuple #[amV (takeR a l).1, .bool (takeR a l).2]) ∧ Below w.heap.size w w' := by
 have HV := zz hv; obtain ⟨p, c, rfl⟩ := hv.slice; obtain ⟨n, hn⟩ : ∃ n, n = l.length := ⟨_, rfl⟩; have HN := zz hn; rw [← hn]; have hn63 : (n : Int) ≤ 1000 := by omega
 clear hv hl hn; go_enter Tryz.func56, Tryz.ntmps56; go_upto_region 1 with fail; obtain ⟨A, hA⟩ : ∃ A, A = w.heap.size := ⟨_, rfl⟩
 refine at_hide (F := fun w' => TkW w w' A (A + 1) a) ⟨by rw [hA]; exact Blk.alloc (Blk.made w (amC a) _) _, by
  rw [hA]; have := Blk.made (w.alloc (.cells (amC a).toArray 23)) (amC Am.zero) 23; rw [show (w.alloc (.cells (amC a).toArray 23)).heap.size = w.heap.size + 1 from by simp] at this; exact this, below_and (below_alloc _ _) (below_alloc _ _)⟩ ?_
 rw [← hA]; intro w1 hF; have HW1 := zz hF; have HAW : Hid (w.heap.size ≤ A) := zz (by omega); clear hF hA; go_wp2
 go_loopw [12] (fun i wr => ∃ (k : Nat) (cur : Am), k ≤ n ∧ i = .int .i64 (k : Int) ∧ Hid (takeR a l = takeR cur (l.drop k)) ∧ Hid (TkW w wr A (A + 1) cur)) (fun i _ => n - (intOf i).toNat)
 case atStart => exact ⟨0, a, Nat.zero_le _, rfl, zz rfl, HW1⟩
 case round =>
  obtain ⟨k, cur, hk, rfl, HT, HW⟩ := hrel
  by_cases hlt : k < n
  ·have HKN : Hid (k < l.length) := zz (by have := HN.o; omega)
   obtain ⟨u, hu⟩ : ∃ u, u = l[k]'HKN.o := ⟨_, rfl⟩; have HLC := zz ((HV.o.below HW.o.hb).at HKN.o); rw [← hu] at HLC; have HDR : Hid (l.drop k = u :: l.drop (k + 1)) := zz (by rw [hu]; exact List.drop_eq_getElem_cons HKN.o); clear hu; obtain ⟨b, o, rfl, hcell⟩ := HLC.o; have q0 := hcell 0 _ rfl; rw [Nat.add_zero] at q0; have q1 := hcell 1 _ rfl; have q2 := hcell 2 _ rfl; have q3 := hcell 3 _ rfl; have q4 := hcell 4 _ rfl; have q5 := hcell 5 _ rfl; have q6 := hcell 6 _ rfl; have q7 := hcell 7 _ rfl; have q8 := hcell 8 _ rfl; clear hcell HLC; go_upto_region 4 with fail; obtain ⟨Y, hY⟩ : ∃ Y, Y = wr.heap.size := ⟨_, rfl⟩; refine at_hide (F := fun w' => Blk w' Y (usC u) 58 ∧ TkW w w' A (A + 1) cur) ⟨by rw [hY]; exact Blk.made wr (usC u) _, HW.o.kept (below_alloc _ _)⟩ ?_; rw [← hY]; intro w3 hF; have HW3 := zz hF.2; have HY3 := zz hF.1; clear hF hY q0 q1 q2 q3 q4 q5 q6 q7 q8 HW; obtain ⟨-, -, -, y3, y4, y5, y6⟩ := cl7 HY3.o; obtain ⟨a0, a1, a2, a3⟩ := cl4 HW3.o.ba; obtain ⟨d, hd⟩ : ∃ d, d = subR cur u.a := ⟨_, rfl⟩; have HSB : Hid (Calls Tryz.prog 82 #[amV cur, amV u.a] w3 fun e w' => e = .returned (.tuple #[amV d.1, .int .i64 d.2]) ∧ Below w3.heap.size w3 w') := zz (by rw [hd]; exact sub_any cur u.a w3)
   have HD := zz hd; clear hd; obtain ⟨d1, d2⟩ := d; simp only at HSB; go_upto_region 5 with (go_at_call 82; refine HSB.o.mono ?_; rintro r w4 ⟨rfl, hb⟩; have HW4 := zz (HW3.o.kept hb); clear hb); obtain ⟨Z, hZ⟩ : ∃ Z, Z = w4.heap.size := ⟨_, rfl⟩; refine at_hide (F := fun w' => Blk w' Z (amC d1) 23 ∧ TkW w w' A (A + 1) cur) ⟨by rw [hZ]; exact Blk.made w4 (amC d1) _, HW4.o.kept (below_alloc _ _)⟩ ?_; rw [← hZ]; intro w5 hF; have HW5 := zz hF.2; have HZ5 := zz hF.1; clear hF hZ y3 y4 y5 y6 a0 a1 a2 a3
   by_cases hd0 : d2 = 0
   ·subst hd0
    have HT2 : Hid (takeR a l = takeR d1 (l.drop (k + 1))) := zz (by
     rw [HT.o, HDR.o]; have e := HD.o
     unfold takeR
     conv => lhs; unfold takeP
     rw [← e, if_pos rfl])
    obtain ⟨z0, z1, z2, z3⟩ := cl4 HZ5.o; obtain ⟨a0, a1, a2, a3⟩ := cl4 HW5.o.ba; obtain ⟨f0, f1, f2, f3⟩ := fz4 HW5.o.ba; go_wp2; refine ⟨⟨k + 1, d1, by omega, by go_num, HT2, zz ⟨blk_fill4 HW5.o.ba, blk_off4 HW5.o.br (by omega), below_fill4 HW5.o.hb HAW.o _ _ _ _⟩⟩, by simp [intOf]; omega⟩
   ·have HT2 : Hid (takeR a l = (Am.zero, false)) := zz (by
     rw [HT.o, HDR.o]; have e := HD.o
     unfold takeR
     conv => lhs; unfold takeP
     rw [← e, if_neg hd0])
    have t1 : (d2 != 0) = true := by simpa using hd0
    obtain ⟨a0, a1, a2, a3⟩ := cl4 HW5.o.br; obtain ⟨f0, f1, f2, f3⟩ := fz4 HW5.o.br; clear hd0; go_wp2; refine ret_ct rfl rfl rfl (blk_fill4 HW5.o.br) Tryz.underlying23 rfl size_am ?_; rw [HT2.o]; exact ⟨rfl, below_fill4 HW5.o.hb (by have := HAW.o; omega) _ _ _ _⟩
  ·obtain rfl : k = n := by omega
   have HT2 : Hid (takeR a l = (cur, true)) := zz (by rw [HT.o, HN.o, List.drop_length]; rfl); obtain ⟨b0, b1, b2, b3⟩ := cl4 HW.o.ba; obtain ⟨a0, a1, a2, a3⟩ := cl4 HW.o.br; obtain ⟨f0, f1, f2, f3⟩ := fz4 HW.o.br; go_wp2; refine ret_ct rfl rfl rfl (blk_fill4 HW.o.br) Tryz.underlying23 rfl size_am ?_; rw [HT2.o]; exact ⟨rfl, below_fill4 HW.o.hb (by have := HAW.o; omega) _ _ _ _⟩
theorem in_any (v : Value) (l : List Us) (p : List UInt8) (w : World) (hv : Usw w v l) (hl : l.length ≤ 1000) :
  Calls Tryz.prog 57 #[v, .string (bs p)] w fun r w' => ∃ v', r = .returned v' ∧ Usw w' v' (inP l p) ∧ Below w.heap.size w w' := by
 obtain ⟨w1, hw1⟩ : ∃ w1, w1 = w.alloc (.cells #[.string (bs p)] 9) := ⟨_, rfl⟩; obtain ⟨X, hX⟩ : ∃ X, X = w.heap.size := ⟨_, rfl⟩; have HB1 : Hid (Below w.heap.size w w1) := zz (by rw [hw1]; exact below_alloc _ _)
 have HWH : Hid (Calls Tryz.prog 45 #[v, .func (.func 83) #[] #[ptr X]] w1 fun r w' => ∃ v', r = .returned v' ∧ Usw w' v' (inP l p) ∧ Below w1.heap.size w1 w') := zz ((where_in v l X p w1 (hv.below HB1.o) (by rw [hw1, hX]; exact (Blk.made w [_] _).cell (j := 0) rfl) hl).mono fun r w' h => by
  obtain ⟨v', h1, h2, h3⟩ := h
  exact ⟨v', h1, usw_own h2, h3⟩)
 clear hv hl; go_enter Tryz.func57, Tryz.ntmps57; go_upto_region 1 with fail; rw [← hw1, ← hX]; clear hw1 hX; go_wp2_with (go_at_call 45; refine HWH.o.mono ?_; rintro r w2 ⟨v', rfl, hu, hb⟩; have HU2 := zz hu; have HB2 := zz (below_and HB1.o hb); clear hu hb); go_ret; exact ⟨_, rfl, HU2.o, HB2.o⟩
abbrev vwC (V : Vw) (va vu : Value) : List Value := [.string (bs V.nm), va, .int .i64 V.cap.c, .int .i64 V.cap.r, .int .i64 V.cap.d, .int .i64 V.cap.p, .bool V.up, vu]
abbrev vwV (V : Vw) (va vu : Value) : Value := .agg #[.string (bs V.nm), va, .int .i64 V.cap.c, .int .i64 V.cap.r, .int .i64 V.cap.d, .int .i64 V.cap.p, .bool V.up, vu]
abbrev neC (N : Ne) (vl : Value) : List Value := [.string (bs N.j), .int .i64 N.d, .int .i64 N.a.c, .int .i64 N.a.r, .int .i64 N.a.d, .int .i64 N.a.p, vl, .string (bs N.n)]
abbrev neV (N : Ne) (vl : Value) : Value := .agg #[.string (bs N.j), .int .i64 N.d, .int .i64 N.a.c, .int .i64 N.a.r, .int .i64 N.a.d, .int .i64 N.a.p, vl, .string (bs N.n)]
structure Vws (w : World) (V : Vw) (va vu : Value) : Prop where
 at' : Row w va 2 V.at'.length (rwC atC V.at')
 us : Usw w vu V.us
theorem Vws.below {w w' : World} {V : Vw} {va vu : Value} (h : Vws w V va vu) (hb : Below w.heap.size w w') : Vws w' V va vu := ⟨h.at'.below hb, h.us.below hb⟩
theorem Vws.slices {w : World} {V : Vw} {va vu : Value} (h : Vws w V va vu) : (∃ p c, va = .slice p V.at'.length c) ∧ ∃ p c, vu = .slice p V.us.length c := by
 obtain ⟨p, c, hv, -⟩ := h.at'; exact ⟨⟨p, c, hv⟩, h.us.slice⟩
def Nds (w : World) (N : Ne) (vl : Value) : Prop := Row w vl 6 N.L.length (rwC ndC N.L)
theorem Nds.below {w w' : World} {N : Ne} {vl : Value} (h : Nds w N vl) (hb : Below w.heap.size w w') : Nds w' N vl := Row.below h hb
theorem Nds.slice {w : World} {N : Ne} {vl : Value} (h : Nds w N vl) : ∃ p c, vl = .slice p N.L.length c := by
 obtain ⟨p, c, hv, -⟩ := h; exact ⟨p, c, hv⟩
