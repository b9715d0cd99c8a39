/- , laid together: MsSameP, MsSameR. -/
import Derived.Test.YtopkfomlppnpeaaGreatDoorMsChk
import Derived.Test.YtopkfomlppnpeaaGreatDoorMsApp
import Derived.Test.YtopkfomlppnpeaaGreatDoorPast
namespace Go.Proofs.YtopkfomlppnpeaaGreatDoor.Ms
open Go.RowKit Go.Proofs.YtopkfomlppnpeaaGreatDoor

set_option maxRecDepth 100000 in
set_option maxHeartbeats 4000000 in
theorem sameP_any (p : Po) (va vb vc vd ve vf : Value) (w : World) (h : PoW w p va vb vc) (g : PoW w p vd ve vf) (hk : p.K.length ≤ 1000) (ht : p.T.length ≤ 1000) (hs : p.P.length ≤ 1000) : Calls Tryz.prog 21 #[poV p va vb vc, poV p vd ve vf] w fun e w' => e = .returned (.bool true) ∧ Below w.heap.size w w' := by
  obtain ⟨pa, ca, rfl, ha, ma, ra⟩ := row_el h.k
  obtain ⟨pd, cd, rfl, hd, md, rd⟩ := row_el g.k
  obtain ⟨na, hna⟩ : ∃ n, n = p.K.length := ⟨_, rfl⟩
  have HRa : Hid (∀ (i : Nat) (hi : i < p.K.length), ∃ b o, pa = some ⟨b, o, none⟩ ∧ ∀ w', Below w.heap.size w w' → ∀ (j : Nat) u, (envC (p.K[i]'hi))[j]? = some u → j < 5 → w'.cell? ⟨b, o + (i * 5 + j), none⟩ = some u) := Lib.hid (fun i hi => by
    have hlen : (rwC envC p.K).length = p.K.length * 5 := rwC_len (show ∀ z, (envC z).length = 5 from fun _ => rfl) p.K
    rcases ra with ha | ⟨b, o, rfl, ha⟩
    · exact absurd (congrArg List.length ha) (by rw [hlen]; simp; omega)
    · exact ⟨b, o, rfl, fun w' hb j u hu hj => cell_kept (ha _ u (by rw [rwC_at (show ∀ z, (envC z).length = 5 from fun _ => rfl) hi hj]; exact hu)) hb⟩)
  have HRd : Hid (∀ (i : Nat) (hi : i < p.K.length), ∃ b o, pd = some ⟨b, o, none⟩ ∧ ∀ w', Below w.heap.size w w' → ∀ (j : Nat) u, (envC (p.K[i]'hi))[j]? = some u → j < 5 → w'.cell? ⟨b, o + (i * 5 + j), none⟩ = some u) := Lib.hid (fun i hi => by
    have hlen : (rwC envC p.K).length = p.K.length * 5 := rwC_len (show ∀ z, (envC z).length = 5 from fun _ => rfl) p.K
    rcases rd with ha | ⟨b, o, rfl, ha⟩
    · exact absurd (congrArg List.length ha) (by rw [hlen]; simp; omega)
    · exact ⟨b, o, rfl, fun w' hb j u hu hj => cell_kept (ha _ u (by rw [rwC_at (show ∀ z, (envC z).length = 5 from fun _ => rfl) hi hj]; exact hu)) hb⟩)
  have HNa := Lib.hid hna
  rw [← hna] at hk ha hd ⊢
  obtain ⟨pb, cb, rfl, hb, mb, rb⟩ := row_el h.t
  obtain ⟨pe, ce, rfl, he, me, re⟩ := row_el g.t
  obtain ⟨nb, hnb⟩ : ∃ n, n = p.T.length := ⟨_, rfl⟩
  have HRb : Hid (∀ (i : Nat) (hi : i < p.T.length), ∃ b o, pb = some ⟨b, o, none⟩ ∧ ∀ w', Below w.heap.size w w' → ∀ (j : Nat) u, (staC (p.T[i]'hi))[j]? = some u → j < 8 → w'.cell? ⟨b, o + (i * 8 + j), none⟩ = some u) := Lib.hid (fun i hi => by
    have hlen : (rwC staC p.T).length = p.T.length * 8 := rwC_len (show ∀ z, (staC z).length = 8 from fun _ => rfl) p.T
    rcases rb with ha | ⟨b, o, rfl, ha⟩
    · exact absurd (congrArg List.length ha) (by rw [hlen]; simp; omega)
    · exact ⟨b, o, rfl, fun w' hb j u hu hj => cell_kept (ha _ u (by rw [rwC_at (show ∀ z, (staC z).length = 8 from fun _ => rfl) hi hj]; exact hu)) hb⟩)
  have HRe : Hid (∀ (i : Nat) (hi : i < p.T.length), ∃ b o, pe = some ⟨b, o, none⟩ ∧ ∀ w', Below w.heap.size w w' → ∀ (j : Nat) u, (staC (p.T[i]'hi))[j]? = some u → j < 8 → w'.cell? ⟨b, o + (i * 8 + j), none⟩ = some u) := Lib.hid (fun i hi => by
    have hlen : (rwC staC p.T).length = p.T.length * 8 := rwC_len (show ∀ z, (staC z).length = 8 from fun _ => rfl) p.T
    rcases re with ha | ⟨b, o, rfl, ha⟩
    · exact absurd (congrArg List.length ha) (by rw [hlen]; simp; omega)
    · exact ⟨b, o, rfl, fun w' hb j u hu hj => cell_kept (ha _ u (by rw [rwC_at (show ∀ z, (staC z).length = 8 from fun _ => rfl) hi hj]; exact hu)) hb⟩)
  have HNb := Lib.hid hnb
  rw [← hnb] at ht hb he ⊢
  obtain ⟨pc, cc, rfl, hc, mc, rc⟩ := row_el h.s
  obtain ⟨pf, cf, rfl, hf, mf, rf⟩ := row_el g.s
  obtain ⟨nc, hnc⟩ : ∃ n, n = p.P.length := ⟨_, rfl⟩
  have HRc : Hid (∀ (i : Nat) (hi : i < p.P.length), ∃ b o, pc = some ⟨b, o, none⟩ ∧ ∀ w', Below w.heap.size w w' → ∀ (j : Nat) u, (stoC (p.P[i]'hi))[j]? = some u → j < 3 → w'.cell? ⟨b, o + (i * 3 + j), none⟩ = some u) := Lib.hid (fun i hi => by
    have hlen : (rwC stoC p.P).length = p.P.length * 3 := rwC_len (show ∀ z, (stoC z).length = 3 from fun _ => rfl) p.P
    rcases rc with ha | ⟨b, o, rfl, ha⟩
    · exact absurd (congrArg List.length ha) (by rw [hlen]; simp; omega)
    · exact ⟨b, o, rfl, fun w' hb j u hu hj => cell_kept (ha _ u (by rw [rwC_at (show ∀ z, (stoC z).length = 3 from fun _ => rfl) hi hj]; exact hu)) hb⟩)
  have HRf : Hid (∀ (i : Nat) (hi : i < p.P.length), ∃ b o, pf = some ⟨b, o, none⟩ ∧ ∀ w', Below w.heap.size w w' → ∀ (j : Nat) u, (stoC (p.P[i]'hi))[j]? = some u → j < 3 → w'.cell? ⟨b, o + (i * 3 + j), none⟩ = some u) := Lib.hid (fun i hi => by
    have hlen : (rwC stoC p.P).length = p.P.length * 3 := rwC_len (show ∀ z, (stoC z).length = 3 from fun _ => rfl) p.P
    rcases rf with ha | ⟨b, o, rfl, ha⟩
    · exact absurd (congrArg List.length ha) (by rw [hlen]; simp; omega)
    · exact ⟨b, o, rfl, fun w' hb j u hu hj => cell_kept (ha _ u (by rw [rwC_at (show ∀ z, (stoC z).length = 3 from fun _ => rfl) hi hj]; exact hu)) hb⟩)
  have HNc := Lib.hid hnc
  rw [← hnc] at hs hc hf ⊢
  clear h g ra rd ma md hna ha hd rb re mb me hnb hb he rc rf mc mf hnc hc hf
  obtain ⟨X, hX⟩ : ∃ X, X = w.heap.size := ⟨_, rfl⟩
  obtain ⟨w2, hw2⟩ : ∃ w2, w2 = (w.alloc (.cells #[.int .u64 p.ep, .int .u64 p.sq, .int .u64 p.bo, .int .i64 p.at_, .int .i64 p.le, .slice pa na ca, .slice pb nb cb, .slice pc nc cc, .int .u64 p.se] 32)).alloc (.cells #[.int .u64 p.ep, .int .u64 p.sq, .int .u64 p.bo, .int .i64 p.at_, .int .i64 p.le, .slice pd na cd, .slice pe nb ce, .slice pf nc cf, .int .u64 p.se] 32) := ⟨_, rfl⟩
  have HX : Hid (Blk w2 X [.int .u64 p.ep, .int .u64 p.sq, .int .u64 p.bo, .int .i64 p.at_, .int .i64 p.le, .slice pa na ca, .slice pb nb cb, .slice pc nc cc, .int .u64 p.se] 32) := Lib.hid (by rw [hw2, hX]; exact (Blk.made w [.int .u64 p.ep, .int .u64 p.sq, .int .u64 p.bo, .int .i64 p.at_, .int .i64 p.le, .slice pa na ca, .slice pb nb cb, .slice pc nc cc, .int .u64 p.se] _).alloc _)
  have HY : Hid (Blk w2 (X + 1) [.int .u64 p.ep, .int .u64 p.sq, .int .u64 p.bo, .int .i64 p.at_, .int .i64 p.le, .slice pd na cd, .slice pe nb ce, .slice pf nc cf, .int .u64 p.se] 32) := Lib.hid (by rw [hw2, hX]; have := Blk.made (w.alloc (.cells #[.int .u64 p.ep, .int .u64 p.sq, .int .u64 p.bo, .int .i64 p.at_, .int .i64 p.le, .slice pa na ca, .slice pb nb cb, .slice pc nc cc, .int .u64 p.se] 32)) [.int .u64 p.ep, .int .u64 p.sq, .int .u64 p.bo, .int .i64 p.at_, .int .i64 p.le, .slice pd na cd, .slice pe nb ce, .slice pf nc cf, .int .u64 p.se] 32; simpa using this)
  have HB : Hid (Below w.heap.size w w2) := Lib.hid (by rw [hw2]; exact below_and (below_alloc _ _) (below_alloc _ _))
  have hs1 : (w.alloc (.cells #[.int .u64 p.ep, .int .u64 p.sq, .int .u64 p.bo, .int .i64 p.at_, .int .i64 p.le, .slice pa na ca, .slice pb nb cb, .slice pc nc cc, .int .u64 p.se] 32)).heap.size = X + 1 := by rw [hX]; simp
  go_enter Tryz.func21, Tryz.ntmps21
  go_upto_region 1 with fail
  (try rw [hs1])
  rw [← hw2, ← hX]
  clear hw2 hX hs1
  have x0 := HX.out.cell (j := 0) rfl
  have x1 := HX.out.cell (j := 1) rfl
  have x2 := HX.out.cell (j := 2) rfl
  have x3 := HX.out.cell (j := 3) rfl
  have x4 := HX.out.cell (j := 4) rfl
  have x5 := HX.out.cell (j := 5) rfl
  have x6 := HX.out.cell (j := 6) rfl
  have x7 := HX.out.cell (j := 7) rfl
  have x8 := HX.out.cell (j := 8) rfl
  have y0 := HY.out.cell (j := 0) rfl
  have y1 := HY.out.cell (j := 1) rfl
  have y2 := HY.out.cell (j := 2) rfl
  have y3 := HY.out.cell (j := 3) rfl
  have y4 := HY.out.cell (j := 4) rfl
  have y5 := HY.out.cell (j := 5) rfl
  have y6 := HY.out.cell (j := 6) rfl
  have y7 := HY.out.cell (j := 7) rfl
  have y8 := HY.out.cell (j := 8) rfl
  have HBL : ∀ w', Below w2.heap.size w2 w' → Below w.heap.size w w' := fun w' hb => below_and HB.out hb
  have HBW := Lib.hid HBL
  clear HBL
  skip
  go_upto_region 4 with fail
  go_loopw [5] (fun vi wr => ∃ i : Nat, i ≤ na ∧ vi = .int .i64 i ∧ Hid (Below w2.heap.size w2 wr)) (fun vi _ => na - (intOf vi).toNat)
  case atStart => exact ⟨0, Nat.zero_le _, by go_num, Lib.hid (Below.refl _ _)⟩
  case round =>
    obtain ⟨i, hi, rfl, HL1⟩ := hrel
    obtain ⟨v1, hwr⟩ : ∃ z, z = wr := ⟨_, rfl⟩
    subst hwr
    have HX1 := Lib.hid (HX.out.kept HL1.out)
    have HY1 := Lib.hid (HY.out.kept HL1.out)
    have xx := HX1.out.cell (j := 5) rfl
    have yy := HY1.out.cell (j := 5) rfl
    by_cases him : i < na
    rotate_left
    · obtain rfl : i = na := by omega
      go_upto_region 9 with fail
      go_loopw [6] (fun vi wr => ∃ i : Nat, i ≤ nb ∧ vi = .int .i64 i ∧ Hid (Below w2.heap.size w2 wr)) (fun vi _ => nb - (intOf vi).toNat)
      case atStart => exact ⟨0, Nat.zero_le _, by go_num, Lib.hid (HL1.out)⟩
      case round =>
        obtain ⟨i, hi, rfl, HL2⟩ := hrel
        obtain ⟨v2, hwr⟩ : ∃ z, z = wr := ⟨_, rfl⟩
        subst hwr
        have HX2 := Lib.hid (HX.out.kept HL2.out)
        have HY2 := Lib.hid (HY.out.kept HL2.out)
        have xx := HX2.out.cell (j := 6) rfl
        have yy := HY2.out.cell (j := 6) rfl
        by_cases him : i < nb
        rotate_left
        · obtain rfl : i = nb := by omega
          go_upto_region 14 with fail
          go_loopw [7] (fun vi wr => ∃ i : Nat, i ≤ nc ∧ vi = .int .i64 i ∧ Hid (Below w2.heap.size w2 wr)) (fun vi _ => nc - (intOf vi).toNat)
          case atStart => exact ⟨0, Nat.zero_le _, by go_num, Lib.hid (HL2.out)⟩
          case round =>
            obtain ⟨i, hi, rfl, HL3⟩ := hrel
            obtain ⟨v3, hwr⟩ : ∃ z, z = wr := ⟨_, rfl⟩
            subst hwr
            have HX3 := Lib.hid (HX.out.kept HL3.out)
            have HY3 := Lib.hid (HY.out.kept HL3.out)
            have xx := HX3.out.cell (j := 7) rfl
            have yy := HY3.out.cell (j := 7) rfl
            by_cases him : i < nc
            rotate_left
            · obtain rfl : i = nc := by omega
              go_wp2
              go_ret
              exact ⟨rfl, HBW.out _ HL3.out⟩
            have i1 : (i : Int) < (nc : Int) := by omega
            have i3 : i ≤ 1000 := by omega
            obtain ⟨e, he⟩ : ∃ e, e = p.P[i]'(by rw [← HNc.out]; exact him) := ⟨_, rfl⟩
            obtain ⟨ba, oa, rfl, HA⟩ := HRc.out i (by rw [← HNc.out]; exact him)
            obtain ⟨bd, od, rfl, HD⟩ := HRf.out i (by rw [← HNc.out]; exact him)
            rw [← he] at HA HD
            have ca0 : ∀ s : Past v3, s.val.cell? ⟨ba, oa + i * 3, none⟩ = some (.string (bs e.j)) := fun s => by have := HA s.val (HBW.out _ (below_and HL3.out s.h)) 0 _ rfl (by omega); simpa [Nat.add_assoc] using this
            have ca1 : ∀ s : Past v3, s.val.cell? ⟨ba, oa + i * 3 + 1, none⟩ = some (.int .i64 e.i) := fun s => by have := HA s.val (HBW.out _ (below_and HL3.out s.h)) 1 _ rfl (by omega); simpa [Nat.add_assoc] using this
            have ca2 : ∀ s : Past v3, s.val.cell? ⟨ba, oa + i * 3 + 2, none⟩ = some (.int .u64 e.n) := fun s => by have := HA s.val (HBW.out _ (below_and HL3.out s.h)) 2 _ rfl (by omega); simpa [Nat.add_assoc] using this
            have cd0 : ∀ s : Past v3, s.val.cell? ⟨bd, od + i * 3, none⟩ = some (.string (bs e.j)) := fun s => by have := HD s.val (HBW.out _ (below_and HL3.out s.h)) 0 _ rfl (by omega); simpa [Nat.add_assoc] using this
            have cd1 : ∀ s : Past v3, s.val.cell? ⟨bd, od + i * 3 + 1, none⟩ = some (.int .i64 e.i) := fun s => by have := HD s.val (HBW.out _ (below_and HL3.out s.h)) 1 _ rfl (by omega); simpa [Nat.add_assoc] using this
            have cd2 : ∀ s : Past v3, s.val.cell? ⟨bd, od + i * 3 + 2, none⟩ = some (.int .u64 e.n) := fun s => by have := HD s.val (HBW.out _ (below_and HL3.out s.h)) 2 _ rfl (by omega); simpa [Nat.add_assoc] using this
            have pa := Past.blk HX3.out (j := 7) rfl
            have pd := Past.blk HY3.out (j := 7) rfl
            clear HA HD he
            go_upto_region 16 with fail
            refine wp_region_past (by kernel_rfl) (by kernel_rfl) ?_
            repeat (go_big_quiet_step (fail))
            refine wpQuiet_nil ?_
            intro _ hw'
            obtain ⟨s9, hw''⟩ := hw'
            subst hw''
            obtain ⟨w9, h9, e9⟩ : ∃ w9, Below v3.heap.size v3 w9 ∧ w9 = s9.val := ⟨_, s9.h, rfl⟩
            rw [← e9]
            have HL9 : Hid (Below w2.heap.size w2 w9) := Lib.hid (below_and HL3.out h9)
            clear h9 e9 pa pd ca0 cd0 ca1 cd1 ca2 cd2
            go_wp2
            go_roundw
            case rel => exact ⟨i + 1, him, by go_num, HL9⟩
            case measure => simp [intOf]; omega
        have i1 : (i : Int) < (nb : Int) := by omega
        have i3 : i ≤ 1000 := by omega
        obtain ⟨e, he⟩ : ∃ e, e = p.T[i]'(by rw [← HNb.out]; exact him) := ⟨_, rfl⟩
        obtain ⟨ba, oa, rfl, HA⟩ := HRb.out i (by rw [← HNb.out]; exact him)
        obtain ⟨bd, od, rfl, HD⟩ := HRe.out i (by rw [← HNb.out]; exact him)
        rw [← he] at HA HD
        have ca0 : ∀ s : Past v2, s.val.cell? ⟨ba, oa + i * 8, none⟩ = some (.string (bs e.j)) := fun s => by have := HA s.val (HBW.out _ (below_and HL2.out s.h)) 0 _ rfl (by omega); simpa [Nat.add_assoc] using this
        have ca1 : ∀ s : Past v2, s.val.cell? ⟨ba, oa + i * 8 + 1, none⟩ = some (.int .i64 e.i) := fun s => by have := HA s.val (HBW.out _ (below_and HL2.out s.h)) 1 _ rfl (by omega); simpa [Nat.add_assoc] using this
        have ca2 : ∀ s : Past v2, s.val.cell? ⟨ba, oa + i * 8 + 2, none⟩ = some (.int .u64 e.n) := fun s => by have := HA s.val (HBW.out _ (below_and HL2.out s.h)) 2 _ rfl (by omega); simpa [Nat.add_assoc] using this
        have ca3 : ∀ s : Past v2, s.val.cell? ⟨ba, oa + i * 8 + 3, none⟩ = some (.int .i64 e.a.c) := fun s => by have := HA s.val (HBW.out _ (below_and HL2.out s.h)) 3 _ rfl (by omega); simpa [Nat.add_assoc] using this
        have ca4 : ∀ s : Past v2, s.val.cell? ⟨ba, oa + i * 8 + 4, none⟩ = some (.int .i64 e.a.r) := fun s => by have := HA s.val (HBW.out _ (below_and HL2.out s.h)) 4 _ rfl (by omega); simpa [Nat.add_assoc] using this
        have ca5 : ∀ s : Past v2, s.val.cell? ⟨ba, oa + i * 8 + 5, none⟩ = some (.int .i64 e.a.d) := fun s => by have := HA s.val (HBW.out _ (below_and HL2.out s.h)) 5 _ rfl (by omega); simpa [Nat.add_assoc] using this
        have ca6 : ∀ s : Past v2, s.val.cell? ⟨ba, oa + i * 8 + 6, none⟩ = some (.int .i64 e.a.p) := fun s => by have := HA s.val (HBW.out _ (below_and HL2.out s.h)) 6 _ rfl (by omega); simpa [Nat.add_assoc] using this
        have ca7 : ∀ s : Past v2, s.val.cell? ⟨ba, oa + i * 8 + 7, none⟩ = some (.string (bs e.s)) := fun s => by have := HA s.val (HBW.out _ (below_and HL2.out s.h)) 7 _ rfl (by omega); simpa [Nat.add_assoc] using this
        have cd0 : ∀ s : Past v2, s.val.cell? ⟨bd, od + i * 8, none⟩ = some (.string (bs e.j)) := fun s => by have := HD s.val (HBW.out _ (below_and HL2.out s.h)) 0 _ rfl (by omega); simpa [Nat.add_assoc] using this
        have cd1 : ∀ s : Past v2, s.val.cell? ⟨bd, od + i * 8 + 1, none⟩ = some (.int .i64 e.i) := fun s => by have := HD s.val (HBW.out _ (below_and HL2.out s.h)) 1 _ rfl (by omega); simpa [Nat.add_assoc] using this
        have cd2 : ∀ s : Past v2, s.val.cell? ⟨bd, od + i * 8 + 2, none⟩ = some (.int .u64 e.n) := fun s => by have := HD s.val (HBW.out _ (below_and HL2.out s.h)) 2 _ rfl (by omega); simpa [Nat.add_assoc] using this
        have cd3 : ∀ s : Past v2, s.val.cell? ⟨bd, od + i * 8 + 3, none⟩ = some (.int .i64 e.a.c) := fun s => by have := HD s.val (HBW.out _ (below_and HL2.out s.h)) 3 _ rfl (by omega); simpa [Nat.add_assoc] using this
        have cd4 : ∀ s : Past v2, s.val.cell? ⟨bd, od + i * 8 + 4, none⟩ = some (.int .i64 e.a.r) := fun s => by have := HD s.val (HBW.out _ (below_and HL2.out s.h)) 4 _ rfl (by omega); simpa [Nat.add_assoc] using this
        have cd5 : ∀ s : Past v2, s.val.cell? ⟨bd, od + i * 8 + 5, none⟩ = some (.int .i64 e.a.d) := fun s => by have := HD s.val (HBW.out _ (below_and HL2.out s.h)) 5 _ rfl (by omega); simpa [Nat.add_assoc] using this
        have cd6 : ∀ s : Past v2, s.val.cell? ⟨bd, od + i * 8 + 6, none⟩ = some (.int .i64 e.a.p) := fun s => by have := HD s.val (HBW.out _ (below_and HL2.out s.h)) 6 _ rfl (by omega); simpa [Nat.add_assoc] using this
        have cd7 : ∀ s : Past v2, s.val.cell? ⟨bd, od + i * 8 + 7, none⟩ = some (.string (bs e.s)) := fun s => by have := HD s.val (HBW.out _ (below_and HL2.out s.h)) 7 _ rfl (by omega); simpa [Nat.add_assoc] using this
        have pa := Past.blk HX2.out (j := 6) rfl
        have pd := Past.blk HY2.out (j := 6) rfl
        clear HA HD he
        go_upto_region 11 with fail
        refine wp_region_past (by kernel_rfl) (by kernel_rfl) ?_
        repeat (go_big_quiet_step (fail))
        refine wpQuiet_nil ?_
        intro _ hw'
        obtain ⟨s9, hw''⟩ := hw'
        subst hw''
        obtain ⟨w9, h9, e9⟩ : ∃ w9, Below v2.heap.size v2 w9 ∧ w9 = s9.val := ⟨_, s9.h, rfl⟩
        rw [← e9]
        have HL9 : Hid (Below w2.heap.size w2 w9) := Lib.hid (below_and HL2.out h9)
        clear h9 e9 pa pd ca0 cd0 ca1 cd1 ca2 cd2 ca3 cd3 ca4 cd4 ca5 cd5 ca6 cd6 ca7 cd7
        go_wp2
        go_roundw
        case rel => exact ⟨i + 1, him, by go_num, HL9⟩
        case measure => simp [intOf]; omega
    have i1 : (i : Int) < (na : Int) := by omega
    have i3 : i ≤ 1000 := by omega
    obtain ⟨e, he⟩ : ∃ e, e = p.K[i]'(by rw [← HNa.out]; exact him) := ⟨_, rfl⟩
    obtain ⟨ba, oa, rfl, HA⟩ := HRa.out i (by rw [← HNa.out]; exact him)
    obtain ⟨bd, od, rfl, HD⟩ := HRd.out i (by rw [← HNa.out]; exact him)
    rw [← he] at HA HD
    have ca0 : ∀ s : Past v1, s.val.cell? ⟨ba, oa + i * 5, none⟩ = some (.string (bs e.j)) := fun s => by have := HA s.val (HBW.out _ (below_and HL1.out s.h)) 0 _ rfl (by omega); simpa [Nat.add_assoc] using this
    have ca1 : ∀ s : Past v1, s.val.cell? ⟨ba, oa + i * 5 + 1, none⟩ = some (.int .i64 e.a.c) := fun s => by have := HA s.val (HBW.out _ (below_and HL1.out s.h)) 1 _ rfl (by omega); simpa [Nat.add_assoc] using this
    have ca2 : ∀ s : Past v1, s.val.cell? ⟨ba, oa + i * 5 + 2, none⟩ = some (.int .i64 e.a.r) := fun s => by have := HA s.val (HBW.out _ (below_and HL1.out s.h)) 2 _ rfl (by omega); simpa [Nat.add_assoc] using this
    have ca3 : ∀ s : Past v1, s.val.cell? ⟨ba, oa + i * 5 + 3, none⟩ = some (.int .i64 e.a.d) := fun s => by have := HA s.val (HBW.out _ (below_and HL1.out s.h)) 3 _ rfl (by omega); simpa [Nat.add_assoc] using this
    have ca4 : ∀ s : Past v1, s.val.cell? ⟨ba, oa + i * 5 + 4, none⟩ = some (.int .i64 e.a.p) := fun s => by have := HA s.val (HBW.out _ (below_and HL1.out s.h)) 4 _ rfl (by omega); simpa [Nat.add_assoc] using this
    have cd0 : ∀ s : Past v1, s.val.cell? ⟨bd, od + i * 5, none⟩ = some (.string (bs e.j)) := fun s => by have := HD s.val (HBW.out _ (below_and HL1.out s.h)) 0 _ rfl (by omega); simpa [Nat.add_assoc] using this
    have cd1 : ∀ s : Past v1, s.val.cell? ⟨bd, od + i * 5 + 1, none⟩ = some (.int .i64 e.a.c) := fun s => by have := HD s.val (HBW.out _ (below_and HL1.out s.h)) 1 _ rfl (by omega); simpa [Nat.add_assoc] using this
    have cd2 : ∀ s : Past v1, s.val.cell? ⟨bd, od + i * 5 + 2, none⟩ = some (.int .i64 e.a.r) := fun s => by have := HD s.val (HBW.out _ (below_and HL1.out s.h)) 2 _ rfl (by omega); simpa [Nat.add_assoc] using this
    have cd3 : ∀ s : Past v1, s.val.cell? ⟨bd, od + i * 5 + 3, none⟩ = some (.int .i64 e.a.d) := fun s => by have := HD s.val (HBW.out _ (below_and HL1.out s.h)) 3 _ rfl (by omega); simpa [Nat.add_assoc] using this
    have cd4 : ∀ s : Past v1, s.val.cell? ⟨bd, od + i * 5 + 4, none⟩ = some (.int .i64 e.a.p) := fun s => by have := HD s.val (HBW.out _ (below_and HL1.out s.h)) 4 _ rfl (by omega); simpa [Nat.add_assoc] using this
    have pa := Past.blk HX1.out (j := 5) rfl
    have pd := Past.blk HY1.out (j := 5) rfl
    clear HA HD he
    go_upto_region 6 with fail
    refine wp_region_past (by kernel_rfl) (by kernel_rfl) ?_
    repeat (go_big_quiet_step (fail))
    refine wpQuiet_nil ?_
    intro _ hw'
    obtain ⟨s9, hw''⟩ := hw'
    subst hw''
    obtain ⟨w9, h9, e9⟩ : ∃ w9, Below v1.heap.size v1 w9 ∧ w9 = s9.val := ⟨_, s9.h, rfl⟩
    rw [← e9]
    have HL9 : Hid (Below w2.heap.size w2 w9) := Lib.hid (below_and HL1.out h9)
    clear h9 e9 pa pd ca0 cd0 ca1 cd1 ca2 cd2 ca3 cd3 ca4 cd4
    go_wp2
    go_roundw
    case rel => exact ⟨i + 1, him, by go_num, HL9⟩
    case measure => simp [intOf]; omega
end Go.Proofs.YtopkfomlppnpeaaGreatDoor.Ms

namespace Go.Proofs.YtopkfomlppnpeaaGreatDoor.Ms
open Go.RowKit Go.Proofs.YtopkfomlppnpeaaGreatDoor

set_option maxRecDepth 100000 in
set_option maxHeartbeats 4000000 in
theorem sameH_any (L : List El) (va vd : Value) (w : World) (h : Row w va 4 L.length (rwC helC L)) (g : Row w vd 4 L.length (rwC helC L)) (hL : L.length ≤ 1000) : Calls Tryz.prog 107 #[va, vd] w fun e w' => e = .returned (.bool true) ∧ Below w.heap.size w w' := by
  obtain ⟨pa, ca, rfl, ha, ma, ra⟩ := row_el h
  obtain ⟨pd, cd, rfl, hd, md, rd⟩ := row_el g
  obtain ⟨na, hna⟩ : ∃ n, n = L.length := ⟨_, rfl⟩
  have HRa : Hid (∀ (i : Nat) (hi : i < L.length), ∃ b o, pa = some ⟨b, o, none⟩ ∧ ∀ w', Below w.heap.size w w' → ∀ (j : Nat) u, (helC (L[i]'hi))[j]? = some u → j < 4 → w'.cell? ⟨b, o + (i * 4 + j), none⟩ = some u) := Lib.hid (fun i hi => by
    have hlen : (rwC helC L).length = L.length * 4 := rwC_len (show ∀ z, (helC z).length = 4 from fun _ => rfl) L
    rcases ra with ha | ⟨b, o, rfl, ha⟩
    · exact absurd (congrArg List.length ha) (by rw [hlen]; simp; omega)
    · exact ⟨b, o, rfl, fun w' hb j u hu hj => cell_kept (ha _ u (by rw [rwC_at (show ∀ z, (helC z).length = 4 from fun _ => rfl) hi hj]; exact hu)) hb⟩)
  have HRd : Hid (∀ (i : Nat) (hi : i < L.length), ∃ b o, pd = some ⟨b, o, none⟩ ∧ ∀ w', Below w.heap.size w w' → ∀ (j : Nat) u, (helC (L[i]'hi))[j]? = some u → j < 4 → w'.cell? ⟨b, o + (i * 4 + j), none⟩ = some u) := Lib.hid (fun i hi => by
    have hlen : (rwC helC L).length = L.length * 4 := rwC_len (show ∀ z, (helC z).length = 4 from fun _ => rfl) L
    rcases rd with ha | ⟨b, o, rfl, ha⟩
    · exact absurd (congrArg List.length ha) (by rw [hlen]; simp; omega)
    · exact ⟨b, o, rfl, fun w' hb j u hu hj => cell_kept (ha _ u (by rw [rwC_at (show ∀ z, (helC z).length = 4 from fun _ => rfl) hi hj]; exact hu)) hb⟩)
  have HNa := Lib.hid hna
  rw [← hna] at hL ha hd ⊢
  clear h g ra rd ma md hna ha hd
  go_enter Tryz.func107, Tryz.ntmps107
  go_upto_region 4 with fail
  go_loopw [5] (fun vi wr => ∃ i : Nat, i ≤ na ∧ vi = .int .i64 i ∧ Hid (Below w.heap.size w wr)) (fun vi _ => na - (intOf vi).toNat)
  case atStart => exact ⟨0, Nat.zero_le _, by go_num, Lib.hid (Below.refl _ _)⟩
  case round =>
    obtain ⟨i, hi, rfl, HL1⟩ := hrel
    obtain ⟨v1, hwr⟩ : ∃ z, z = wr := ⟨_, rfl⟩
    subst hwr
    by_cases him : i < na
    rotate_left
    · obtain rfl : i = na := by omega
      go_wp2
      go_ret
      exact ⟨rfl, HL1.out⟩
    have i1 : (i : Int) < (na : Int) := by omega
    have i3 : i ≤ 1000 := by omega
    obtain ⟨e, he⟩ : ∃ e, e = L[i]'(by rw [← HNa.out]; exact him) := ⟨_, rfl⟩
    obtain ⟨ba, oa, rfl, HA⟩ := HRa.out i (by rw [← HNa.out]; exact him)
    obtain ⟨bd, od, rfl, HD⟩ := HRd.out i (by rw [← HNa.out]; exact him)
    rw [← he] at HA HD
    have ca0 : ∀ s : Past v1, s.val.cell? ⟨ba, oa + i * 4, none⟩ = some (.string (bs e.j)) := fun s => by have := HA s.val (below_and HL1.out s.h) 0 _ rfl (by omega); simpa [Nat.add_assoc] using this
    have ca1 : ∀ s : Past v1, s.val.cell? ⟨ba, oa + i * 4 + 1, none⟩ = some (.int .i64 e.i) := fun s => by have := HA s.val (below_and HL1.out s.h) 1 _ rfl (by omega); simpa [Nat.add_assoc] using this
    have ca2 : ∀ s : Past v1, s.val.cell? ⟨ba, oa + i * 4 + 2, none⟩ = some (.int .u64 e.n) := fun s => by have := HA s.val (below_and HL1.out s.h) 2 _ rfl (by omega); simpa [Nat.add_assoc] using this
    have ca3 : ∀ s : Past v1, s.val.cell? ⟨ba, oa + i * 4 + 3, none⟩ = some (.int .i64 e.q) := fun s => by have := HA s.val (below_and HL1.out s.h) 3 _ rfl (by omega); simpa [Nat.add_assoc] using this
    have cd0 : ∀ s : Past v1, s.val.cell? ⟨bd, od + i * 4, none⟩ = some (.string (bs e.j)) := fun s => by have := HD s.val (below_and HL1.out s.h) 0 _ rfl (by omega); simpa [Nat.add_assoc] using this
    have cd1 : ∀ s : Past v1, s.val.cell? ⟨bd, od + i * 4 + 1, none⟩ = some (.int .i64 e.i) := fun s => by have := HD s.val (below_and HL1.out s.h) 1 _ rfl (by omega); simpa [Nat.add_assoc] using this
    have cd2 : ∀ s : Past v1, s.val.cell? ⟨bd, od + i * 4 + 2, none⟩ = some (.int .u64 e.n) := fun s => by have := HD s.val (below_and HL1.out s.h) 2 _ rfl (by omega); simpa [Nat.add_assoc] using this
    have cd3 : ∀ s : Past v1, s.val.cell? ⟨bd, od + i * 4 + 3, none⟩ = some (.int .i64 e.q) := fun s => by have := HD s.val (below_and HL1.out s.h) 3 _ rfl (by omega); simpa [Nat.add_assoc] using this
    clear HA HD he
    go_upto_region 6 with fail
    refine wp_region_past (by kernel_rfl) (by kernel_rfl) ?_
    repeat (go_big_quiet_step (fail))
    refine wpQuiet_nil ?_
    intro _ hw'
    obtain ⟨s9, hw''⟩ := hw'
    subst hw''
    obtain ⟨w9, h9, e9⟩ : ∃ w9, Below v1.heap.size v1 w9 ∧ w9 = s9.val := ⟨_, s9.h, rfl⟩
    rw [← e9]
    have HL9 : Hid (Below w.heap.size w w9) := Lib.hid (below_and HL1.out h9)
    clear h9 e9 ca0 cd0 ca1 cd1 ca2 cd2 ca3 cd3
    go_wp2
    go_roundw
    case rel => exact ⟨i + 1, him, by go_num, HL9⟩
    case measure => simp [intOf]; omega
set_option maxRecDepth 100000 in
set_option maxHeartbeats 4000000 in
theorem sameR_any (p : Rp) (va vb vc vd ve vf : Value) (w : World) (h : RpW w p va vb vc) (g : RpW w p vd ve vf) (hk : p.H.length ≤ 1000) (ht : p.F.length ≤ 1000) (hs : p.R.length ≤ 1000) : Calls Tryz.prog 25 #[rpV p va vb vc, rpV p vd ve vf] w fun e w' => e = .returned (.bool true) ∧ Below w.heap.size w w' := by
  obtain ⟨pa, ca, rfl, -⟩ := row_el h.k
  obtain ⟨pd, cd, rfl, -⟩ := row_el g.k
  obtain ⟨na, hna⟩ : ∃ n, n = p.H.length := ⟨_, rfl⟩
  have HSH : Hid (∀ w', Below w.heap.size w w' → Calls Tryz.prog 107 #[.slice pa na ca, .slice pd na cd] w' fun e w2 => e = .returned (.bool true) ∧ Below w'.heap.size w' w2) := Lib.hid (fun w' hb => by rw [hna]; exact sameH_any p.H _ _ w' (h.k.below hb) (g.k.below hb) hk)
  obtain ⟨pb, cb, rfl, hb, mb, rb⟩ := row_el h.t
  obtain ⟨pe, ce, rfl, he, me, re⟩ := row_el g.t
  obtain ⟨nb, hnb⟩ : ∃ n, n = p.F.length := ⟨_, rfl⟩
  have HRb : Hid (∀ (i : Nat) (hi : i < p.F.length), ∃ b o, pb = some ⟨b, o, none⟩ ∧ ∀ w', Below w.heap.size w w' → ∀ (j : Nat) u, (finC (p.F[i]'hi))[j]? = some u → j < 5 → w'.cell? ⟨b, o + (i * 5 + j), none⟩ = some u) := Lib.hid (fun i hi => by
    have hlen : (rwC finC p.F).length = p.F.length * 5 := rwC_len (show ∀ z, (finC z).length = 5 from fun _ => rfl) p.F
    rcases rb with ha | ⟨b, o, rfl, ha⟩
    · exact absurd (congrArg List.length ha) (by rw [hlen]; simp; omega)
    · exact ⟨b, o, rfl, fun w' hb j u hu hj => cell_kept (ha _ u (by rw [rwC_at (show ∀ z, (finC z).length = 5 from fun _ => rfl) hi hj]; exact hu)) hb⟩)
  have HRe : Hid (∀ (i : Nat) (hi : i < p.F.length), ∃ b o, pe = some ⟨b, o, none⟩ ∧ ∀ w', Below w.heap.size w w' → ∀ (j : Nat) u, (finC (p.F[i]'hi))[j]? = some u → j < 5 → w'.cell? ⟨b, o + (i * 5 + j), none⟩ = some u) := Lib.hid (fun i hi => by
    have hlen : (rwC finC p.F).length = p.F.length * 5 := rwC_len (show ∀ z, (finC z).length = 5 from fun _ => rfl) p.F
    rcases re with ha | ⟨b, o, rfl, ha⟩
    · exact absurd (congrArg List.length ha) (by rw [hlen]; simp; omega)
    · exact ⟨b, o, rfl, fun w' hb j u hu hj => cell_kept (ha _ u (by rw [rwC_at (show ∀ z, (finC z).length = 5 from fun _ => rfl) hi hj]; exact hu)) hb⟩)
  have HNb := Lib.hid hnb
  rw [← hnb] at ht hb he
  obtain ⟨pc, cc, rfl, hc, mc, rc⟩ := row_el h.s
  obtain ⟨pf, cf, rfl, hf, mf, rf⟩ := row_el g.s
  obtain ⟨nc, hnc⟩ : ∃ n, n = p.R.length := ⟨_, rfl⟩
  have HRc : Hid (∀ (i : Nat) (hi : i < p.R.length), ∃ b o, pc = some ⟨b, o, none⟩ ∧ ∀ w', Below w.heap.size w w' → ∀ (j : Nat) u, (refC (p.R[i]'hi))[j]? = some u → j < 4 → w'.cell? ⟨b, o + (i * 4 + j), none⟩ = some u) := Lib.hid (fun i hi => by
    have hlen : (rwC refC p.R).length = p.R.length * 4 := rwC_len (show ∀ z, (refC z).length = 4 from fun _ => rfl) p.R
    rcases rc with ha | ⟨b, o, rfl, ha⟩
    · exact absurd (congrArg List.length ha) (by rw [hlen]; simp; omega)
    · exact ⟨b, o, rfl, fun w' hb j u hu hj => cell_kept (ha _ u (by rw [rwC_at (show ∀ z, (refC z).length = 4 from fun _ => rfl) hi hj]; exact hu)) hb⟩)
  have HRf : Hid (∀ (i : Nat) (hi : i < p.R.length), ∃ b o, pf = some ⟨b, o, none⟩ ∧ ∀ w', Below w.heap.size w w' → ∀ (j : Nat) u, (refC (p.R[i]'hi))[j]? = some u → j < 4 → w'.cell? ⟨b, o + (i * 4 + j), none⟩ = some u) := Lib.hid (fun i hi => by
    have hlen : (rwC refC p.R).length = p.R.length * 4 := rwC_len (show ∀ z, (refC z).length = 4 from fun _ => rfl) p.R
    rcases rf with ha | ⟨b, o, rfl, ha⟩
    · exact absurd (congrArg List.length ha) (by rw [hlen]; simp; omega)
    · exact ⟨b, o, rfl, fun w' hb j u hu hj => cell_kept (ha _ u (by rw [rwC_at (show ∀ z, (refC z).length = 4 from fun _ => rfl) hi hj]; exact hu)) hb⟩)
  have HNc := Lib.hid hnc
  rw [← hnc] at hs hc hf
  rw [← hna, ← hnb, ← hnc]
  clear h g hna hk rb re mb me hnb hb he rc rf mc mf hnc hc hf
  obtain ⟨X, hX⟩ : ∃ X, X = w.heap.size := ⟨_, rfl⟩
  obtain ⟨w2, hw2⟩ : ∃ w2, w2 = (w.alloc (.cells #[.int .u64 p.ep, .int .u64 p.sq, .int .u64 p.bo, .int .i64 p.at_, .slice pa na ca, .slice pb nb cb, .slice pc nc cc] 44)).alloc (.cells #[.int .u64 p.ep, .int .u64 p.sq, .int .u64 p.bo, .int .i64 p.at_, .slice pd na cd, .slice pe nb ce, .slice pf nc cf] 44) := ⟨_, rfl⟩
  have HX : Hid (Blk w2 X [.int .u64 p.ep, .int .u64 p.sq, .int .u64 p.bo, .int .i64 p.at_, .slice pa na ca, .slice pb nb cb, .slice pc nc cc] 44) := Lib.hid (by rw [hw2, hX]; exact (Blk.made w [.int .u64 p.ep, .int .u64 p.sq, .int .u64 p.bo, .int .i64 p.at_, .slice pa na ca, .slice pb nb cb, .slice pc nc cc] _).alloc _)
  have HY : Hid (Blk w2 (X + 1) [.int .u64 p.ep, .int .u64 p.sq, .int .u64 p.bo, .int .i64 p.at_, .slice pd na cd, .slice pe nb ce, .slice pf nc cf] 44) := Lib.hid (by rw [hw2, hX]; have := Blk.made (w.alloc (.cells #[.int .u64 p.ep, .int .u64 p.sq, .int .u64 p.bo, .int .i64 p.at_, .slice pa na ca, .slice pb nb cb, .slice pc nc cc] 44)) [.int .u64 p.ep, .int .u64 p.sq, .int .u64 p.bo, .int .i64 p.at_, .slice pd na cd, .slice pe nb ce, .slice pf nc cf] 44; simpa using this)
  have HB : Hid (Below w.heap.size w w2) := Lib.hid (by rw [hw2]; exact below_and (below_alloc _ _) (below_alloc _ _))
  have hs1 : (w.alloc (.cells #[.int .u64 p.ep, .int .u64 p.sq, .int .u64 p.bo, .int .i64 p.at_, .slice pa na ca, .slice pb nb cb, .slice pc nc cc] 44)).heap.size = X + 1 := by rw [hX]; simp
  go_enter Tryz.func25, Tryz.ntmps25
  go_upto_region 1 with fail
  (try rw [hs1])
  rw [← hw2, ← hX]
  clear hw2 hX hs1
  have x0 := HX.out.cell (j := 0) rfl
  have x1 := HX.out.cell (j := 1) rfl
  have x2 := HX.out.cell (j := 2) rfl
  have x3 := HX.out.cell (j := 3) rfl
  have x4 := HX.out.cell (j := 4) rfl
  have x5 := HX.out.cell (j := 5) rfl
  have x6 := HX.out.cell (j := 6) rfl
  have y0 := HY.out.cell (j := 0) rfl
  have y1 := HY.out.cell (j := 1) rfl
  have y2 := HY.out.cell (j := 2) rfl
  have y3 := HY.out.cell (j := 3) rfl
  have y4 := HY.out.cell (j := 4) rfl
  have y5 := HY.out.cell (j := 5) rfl
  have y6 := HY.out.cell (j := 6) rfl
  have HBW := Lib.hid (fun w' (hb : Below w2.heap.size w2 w') => below_and HB.out hb)
  go_upto_region 4 with (go_at_call 107; refine (HSH.out _ HB.out).mono ?_; rintro e w3 ⟨rfl, hb⟩; have HL0 := Lib.hid hb; have z5 := (HX.out.kept hb).cell (j := 5) rfl; have z6 := (HX.out.kept hb).cell (j := 6) rfl; have u5 := (HY.out.kept hb).cell (j := 5) rfl; have u6 := (HY.out.kept hb).cell (j := 6) rfl; clear hb)
  clear x0
  go_loopw [5] (fun vi wr => ∃ i : Nat, i ≤ nb ∧ vi = .int .i64 i ∧ Hid (Below w2.heap.size w2 wr)) (fun vi _ => nb - (intOf vi).toNat)
  case atStart => exact ⟨0, Nat.zero_le _, by go_num, Lib.hid (HL0.out)⟩
  case round =>
    obtain ⟨i, hi, rfl, HL1⟩ := hrel
    obtain ⟨v1, hwr⟩ : ∃ z, z = wr := ⟨_, rfl⟩
    subst hwr
    have HX1 := Lib.hid (HX.out.kept HL1.out)
    have HY1 := Lib.hid (HY.out.kept HL1.out)
    have xx := HX1.out.cell (j := 5) rfl
    have yy := HY1.out.cell (j := 5) rfl
    by_cases him : i < nb
    rotate_left
    · obtain rfl : i = nb := by omega
      go_upto_region 9 with fail
      go_loopw [6] (fun vi wr => ∃ i : Nat, i ≤ nc ∧ vi = .int .i64 i ∧ Hid (Below w2.heap.size w2 wr)) (fun vi _ => nc - (intOf vi).toNat)
      case atStart => exact ⟨0, Nat.zero_le _, by go_num, Lib.hid (HL1.out)⟩
      case round =>
        obtain ⟨i, hi, rfl, HL2⟩ := hrel
        obtain ⟨v2, hwr⟩ : ∃ z, z = wr := ⟨_, rfl⟩
        subst hwr
        have HX2 := Lib.hid (HX.out.kept HL2.out)
        have HY2 := Lib.hid (HY.out.kept HL2.out)
        have xx := HX2.out.cell (j := 6) rfl
        have yy := HY2.out.cell (j := 6) rfl
        by_cases him : i < nc
        rotate_left
        · obtain rfl : i = nc := by omega
          go_wp2
          go_ret
          exact ⟨rfl, HBW.out _ HL2.out⟩
        have i1 : (i : Int) < (nc : Int) := by omega
        have i3 : i ≤ 1000 := by omega
        obtain ⟨e, he⟩ : ∃ e, e = p.R[i]'(by rw [← HNc.out]; exact him) := ⟨_, rfl⟩
        obtain ⟨ba, oa, rfl, HA⟩ := HRc.out i (by rw [← HNc.out]; exact him)
        obtain ⟨bd, od, rfl, HD⟩ := HRf.out i (by rw [← HNc.out]; exact him)
        rw [← he] at HA HD
        have ca0 : ∀ s : Past v2, s.val.cell? ⟨ba, oa + i * 4, none⟩ = some (.string (bs e.j)) := fun s => by have := HA s.val (HBW.out _ (below_and HL2.out s.h)) 0 _ rfl (by omega); simpa [Nat.add_assoc] using this
        have ca1 : ∀ s : Past v2, s.val.cell? ⟨ba, oa + i * 4 + 1, none⟩ = some (.int .i64 e.i) := fun s => by have := HA s.val (HBW.out _ (below_and HL2.out s.h)) 1 _ rfl (by omega); simpa [Nat.add_assoc] using this
        have ca2 : ∀ s : Past v2, s.val.cell? ⟨ba, oa + i * 4 + 2, none⟩ = some (.int .u64 e.n) := fun s => by have := HA s.val (HBW.out _ (below_and HL2.out s.h)) 2 _ rfl (by omega); simpa [Nat.add_assoc] using this
        have ca3 : ∀ s : Past v2, s.val.cell? ⟨ba, oa + i * 4 + 3, none⟩ = some (.int .i64 e.q) := fun s => by have := HA s.val (HBW.out _ (below_and HL2.out s.h)) 3 _ rfl (by omega); simpa [Nat.add_assoc] using this
        have cd0 : ∀ s : Past v2, s.val.cell? ⟨bd, od + i * 4, none⟩ = some (.string (bs e.j)) := fun s => by have := HD s.val (HBW.out _ (below_and HL2.out s.h)) 0 _ rfl (by omega); simpa [Nat.add_assoc] using this
        have cd1 : ∀ s : Past v2, s.val.cell? ⟨bd, od + i * 4 + 1, none⟩ = some (.int .i64 e.i) := fun s => by have := HD s.val (HBW.out _ (below_and HL2.out s.h)) 1 _ rfl (by omega); simpa [Nat.add_assoc] using this
        have cd2 : ∀ s : Past v2, s.val.cell? ⟨bd, od + i * 4 + 2, none⟩ = some (.int .u64 e.n) := fun s => by have := HD s.val (HBW.out _ (below_and HL2.out s.h)) 2 _ rfl (by omega); simpa [Nat.add_assoc] using this
        have cd3 : ∀ s : Past v2, s.val.cell? ⟨bd, od + i * 4 + 3, none⟩ = some (.int .i64 e.q) := fun s => by have := HD s.val (HBW.out _ (below_and HL2.out s.h)) 3 _ rfl (by omega); simpa [Nat.add_assoc] using this
        have pa := Past.blk HX2.out (j := 6) rfl
        have pd := Past.blk HY2.out (j := 6) rfl
        clear HA HD he
        go_upto_region 11 with fail
        refine wp_region_past (by kernel_rfl) (by kernel_rfl) ?_
        repeat (go_big_quiet_step (fail))
        refine wpQuiet_nil ?_
        intro _ hw'
        obtain ⟨s9, hw''⟩ := hw'
        subst hw''
        obtain ⟨w9, h9, e9⟩ : ∃ w9, Below v2.heap.size v2 w9 ∧ w9 = s9.val := ⟨_, s9.h, rfl⟩
        rw [← e9]
        have HL9 : Hid (Below w2.heap.size w2 w9) := Lib.hid (below_and HL2.out h9)
        clear h9 e9 pa pd ca0 cd0 ca1 cd1 ca2 cd2 ca3 cd3
        go_wp2
        go_roundw
        case rel => exact ⟨i + 1, him, by go_num, HL9⟩
        case measure => simp [intOf]; omega
    have i1 : (i : Int) < (nb : Int) := by omega
    have i3 : i ≤ 1000 := by omega
    obtain ⟨e, he⟩ : ∃ e, e = p.F[i]'(by rw [← HNb.out]; exact him) := ⟨_, rfl⟩
    obtain ⟨ba, oa, rfl, HA⟩ := HRb.out i (by rw [← HNb.out]; exact him)
    obtain ⟨bd, od, rfl, HD⟩ := HRe.out i (by rw [← HNb.out]; exact him)
    rw [← he] at HA HD
    have ca0 : ∀ s : Past v1, s.val.cell? ⟨ba, oa + i * 5, none⟩ = some (.int .u64 e.k) := fun s => by have := HA s.val (HBW.out _ (below_and HL1.out s.h)) 0 _ rfl (by omega); simpa [Nat.add_assoc] using this
    have ca1 : ∀ s : Past v1, s.val.cell? ⟨ba, oa + i * 5 + 1, none⟩ = some (.string (bs e.j)) := fun s => by have := HA s.val (HBW.out _ (below_and HL1.out s.h)) 1 _ rfl (by omega); simpa [Nat.add_assoc] using this
    have ca2 : ∀ s : Past v1, s.val.cell? ⟨ba, oa + i * 5 + 2, none⟩ = some (.int .i64 e.i) := fun s => by have := HA s.val (HBW.out _ (below_and HL1.out s.h)) 2 _ rfl (by omega); simpa [Nat.add_assoc] using this
    have ca3 : ∀ s : Past v1, s.val.cell? ⟨ba, oa + i * 5 + 3, none⟩ = some (.int .u64 e.n) := fun s => by have := HA s.val (HBW.out _ (below_and HL1.out s.h)) 3 _ rfl (by omega); simpa [Nat.add_assoc] using this
    have ca4 : ∀ s : Past v1, s.val.cell? ⟨ba, oa + i * 5 + 4, none⟩ = some (.int .i64 e.q) := fun s => by have := HA s.val (HBW.out _ (below_and HL1.out s.h)) 4 _ rfl (by omega); simpa [Nat.add_assoc] using this
    have cd0 : ∀ s : Past v1, s.val.cell? ⟨bd, od + i * 5, none⟩ = some (.int .u64 e.k) := fun s => by have := HD s.val (HBW.out _ (below_and HL1.out s.h)) 0 _ rfl (by omega); simpa [Nat.add_assoc] using this
    have cd1 : ∀ s : Past v1, s.val.cell? ⟨bd, od + i * 5 + 1, none⟩ = some (.string (bs e.j)) := fun s => by have := HD s.val (HBW.out _ (below_and HL1.out s.h)) 1 _ rfl (by omega); simpa [Nat.add_assoc] using this
    have cd2 : ∀ s : Past v1, s.val.cell? ⟨bd, od + i * 5 + 2, none⟩ = some (.int .i64 e.i) := fun s => by have := HD s.val (HBW.out _ (below_and HL1.out s.h)) 2 _ rfl (by omega); simpa [Nat.add_assoc] using this
    have cd3 : ∀ s : Past v1, s.val.cell? ⟨bd, od + i * 5 + 3, none⟩ = some (.int .u64 e.n) := fun s => by have := HD s.val (HBW.out _ (below_and HL1.out s.h)) 3 _ rfl (by omega); simpa [Nat.add_assoc] using this
    have cd4 : ∀ s : Past v1, s.val.cell? ⟨bd, od + i * 5 + 4, none⟩ = some (.int .i64 e.q) := fun s => by have := HD s.val (HBW.out _ (below_and HL1.out s.h)) 4 _ rfl (by omega); simpa [Nat.add_assoc] using this
    have pa := Past.blk HX1.out (j := 5) rfl
    have pd := Past.blk HY1.out (j := 5) rfl
    clear HA HD he
    go_upto_region 6 with fail
    refine wp_region_past (by kernel_rfl) (by kernel_rfl) ?_
    repeat (go_big_quiet_step (fail))
    refine wpQuiet_nil ?_
    intro _ hw'
    obtain ⟨s9, hw''⟩ := hw'
    subst hw''
    obtain ⟨w9, h9, e9⟩ : ∃ w9, Below v1.heap.size v1 w9 ∧ w9 = s9.val := ⟨_, s9.h, rfl⟩
    rw [← e9]
    have HL9 : Hid (Below w2.heap.size w2 w9) := Lib.hid (below_and HL1.out h9)
    clear h9 e9 pa pd ca0 cd0 ca1 cd1 ca2 cd2 ca3 cd3 ca4 cd4
    go_wp2
    go_roundw
    case rel => exact ⟨i + 1, him, by go_num, HL9⟩
    case measure => simp [intOf]; omega
end Go.Proofs.YtopkfomlppnpeaaGreatDoor.Ms
