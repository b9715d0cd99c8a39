/- , laid together: FtRoom, FtRoom2. -/
import Derived.Test.YtaipldegobjboaaDoorFtTake
import Derived.Deep.RegionHeld3
namespace Go.Proofs.YtaipldegobjboaaDoor.Ft
open Go.RowKit Go.Proofs.YtaipldegobjboaaDoor Go.Proofs.YtaipldegobjboaaDoor.Ru

theorem below_drew' {n : Nat} {a w : World} (h : Below n a w) : Below n a w.drew := Below.drewN' h 1
theorem frp_drew {P : Nat → Prop} {a w : World} (h : Frp P a w) : Frp P a w.drew := h.next (below_drewN 1)
theorem frp_set {R : Nat} {a w : World} (h : Frp (fun k => k = R) a w) (i : Nat) (u : Value) : Frp (fun k => k = R) a (w.setCell ⟨R, i, none⟩ u) := Frp.set h (p := ⟨R, i, none⟩) rfl u
theorem frp_alloc {P : Nat → Prop} {a w : World} (h : Frp P a w) (o : Obj) : Frp P a (w.alloc o) := h.next (below_alloc w o)

set_option maxRecDepth 100000 in
set_option maxHeartbeats 1000000 in
theorem goersF_any (N : Ne) (V : Vw) (vl va vu : Value) (p : List UInt8) (w : World) (hn : Nds w N vl) (hv : Vws w V va vu) (hl : V.us.length ≤ 1000) :
    Calls Tryd.prog 13 #[neV N vl, vwV V va vu, .string (bs p)] w fun r w' => ∃ v', r = .returned v' ∧ Usw w' v' (goersP N V p) ∧ Below w.heap.size w w' := by
  obtain ⟨pn, cn, rfl⟩ := hn.slice
  obtain ⟨⟨pa, ca, rfl⟩, pu, cu, rfl⟩ := hv.slices
  obtain ⟨ln, hln⟩ : ∃ ln, ln = N.L.length := ⟨_, rfl⟩
  obtain ⟨la, hla⟩ : ∃ la, la = V.at'.length := ⟨_, rfl⟩
  obtain ⟨lu, hlu⟩ : ∃ lu, lu = V.us.length := ⟨_, rfl⟩
  have HU : Hid (Usw w (.slice pu lu cu) V.us) := Lib.hid (by rw [hlu]; exact hv.us)
  rw [← hln, ← hla, ← hlu]
  have HL := Lib.hid hl
  clear hn hv hl hln hla hlu
  obtain ⟨X, hX⟩ : ∃ X, X = w.heap.size := ⟨_, rfl⟩
  go_enter Tryd.func13, Tryd.ntmps13
  go_upto_region 1 with fail
  refine at_hide (F := fun w' => Blk w' X (neC N (.slice pn ln cn)) 30 ∧ Blk w' (X + 1) (vwC V (.slice pa la ca) (.slice pu lu cu)) 40 ∧ Blk w' (X + 2) [.string (bs p)] 9 ∧ Below w.heap.size w w') ⟨by
    rw [hX]; exact ((Blk.made w (neC N (.slice pn ln cn)) _).alloc _).alloc _, by
    rw [hX]
    have := (Blk.made (w.alloc (.cells (neC N (.slice pn ln cn)).toArray 30)) (vwC V (.slice pa la ca) (.slice pu lu cu)) 40).alloc (.cells #[.string (bs p)] 9)
    rw [show (w.alloc (.cells (neC N (.slice pn ln cn)).toArray 30)).heap.size = w.heap.size + 1 from by simp] at this
    exact this, by
    rw [hX]
    have := Blk.made ((w.alloc (.cells (neC N (.slice pn ln cn)).toArray 30)).alloc (.cells (vwC V (.slice pa la ca) (.slice pu lu cu)).toArray 40)) [.string (bs p)] 9
    rw [show ((w.alloc (.cells (neC N (.slice pn ln cn)).toArray 30)).alloc (.cells (vwC V (.slice pa la ca) (.slice pu lu cu)).toArray 40)).heap.size = w.heap.size + 2 from by simp] at this
    exact this, below_and (below_and (below_alloc _ _) (below_alloc _ _)) (below_alloc _ _)⟩ ?_
  intro w1 hF
  rw [← hX]
  have HB1 : Hid (Below w.heap.size w w1) := Lib.hid hF.2.2.2
  have c7 := hF.2.1.cell (j := 7) rfl
  have HWH : Hid (Calls Tryd.prog 17 #[.slice pu lu cu, .func (.func 25) #[] #[ptr (X + 2), ptr X]] w1 fun r w' => ∃ v', r = .returned v' ∧ Usw w' v' (goersP N V p) ∧ Below w1.heap.size w1 w') := Lib.hid ((where_goers _ V.us (X + 2) X N p w1 (HU.out.below HB1.out) (hF.2.2.1.cell (j := 0) rfl) (hF.1.cell (j := 1) rfl) HL.out).mono fun r w' h => by
    obtain ⟨v', h1, h2, h3⟩ := h
    exact ⟨v', h1, usw_own h2, h3⟩)
  clear hF hX
  go_wp2_with (go_at_call 17; refine HWH.out.mono ?_; rintro r w2 ⟨v', rfl, hu, hb⟩; have HU2 := Lib.hid hu; have HB2 := Lib.hid (below_and HB1.out hb); clear hu hb)
  go_ret
  exact ⟨_, rfl, HU2.out, HB2.out⟩

/-! envelope -/
def zeroU : Us := ⟨[], 0, 0, Am.zero, [], false⟩
def envR (l : List Us) (p : List UInt8) : Us × Bool := match envP l p with | some u => (u, true) | none => (zeroU, false)
theorem env_is (p : List UInt8) (u : Us) : isEnv p u = (u.e && (u.n == []) && (taskO u.j u.i).isSome && ((taskO u.j u.i).getD [] == p)) := by
  unfold isEnv
  cases taskO u.j u.i with
  | none => simp
  | some x => simp
theorem env_at {l : List Us} {p : List UInt8} {k : Nat} (hk : k < l.length) (h : isEnv p l[k] = true) (h2 : ∀ j (h : j < l.length), j < k → isEnv p l[j] = false) : envR l p = (l[k], true) := by
  unfold envR envP
  have : l.find? (isEnv p) = some l[k] := by
    rw [List.find?_eq_some_iff_getElem]
    exact ⟨h, k, hk, rfl, fun j hj => by simpa using h2 j (by omega) hj⟩
  rw [this]
theorem env_no {l : List Us} {p : List UInt8} (h : ∀ j (h : j < l.length), isEnv p l[j] = false) : envR l p = (zeroU, false) := by
  unfold envR envP
  have : l.find? (isEnv p) = none := by
    rw [List.find?_eq_none]
    intro x hx
    obtain ⟨j, hj, rfl⟩ := List.getElem_of_mem hx
    simpa using h j hj
  rw [this]
theorem size_us : (Tryd.prog.info? 45).map (·.size) = some 9 := by kernel_rfl
structure EnW (w wx : World) (X : Nat) (C : List Value) : Prop where
  bx : Blk wx X C 40
  br : Blk wx (X + 1) (usC zeroU) 45
  hb : Below w.heap.size w wx
theorem EnW.kept {w wx wy : World} {X : Nat} {C : List Value} (h : EnW w wx X C) (hb : Below wx.heap.size wx wy) : EnW w wy X C := ⟨h.bx.kept hb, h.br.kept hb, below_and h.hb hb⟩
theorem blk_fill9 {w : World} {g : Nat} {C : List Value} {a b c d e f h i j : Value} {t : TypeId} (hb : Blk w g C t) (hc : C.length = 9) :
    Blk (((((((((w.setCell ⟨g, 0, none⟩ a).setCell ⟨g, 1, none⟩ b).setCell ⟨g, 2, none⟩ c).setCell ⟨g, 3, none⟩ d).setCell ⟨g, 4, none⟩ e).setCell ⟨g, 5, none⟩ f).setCell ⟨g, 6, none⟩ h).setCell ⟨g, 7, none⟩ i).setCell ⟨g, 8, none⟩ j) g [a, b, c, d, e, f, h, i, j] t := by
  match C, hc with
  | [_, _, _, _, _, _, _, _, _], _ => exact ((((((((hb.set 0 a).set 1 b).set 2 c).set 3 d).set 4 e).set 5 f).set 6 h).set 7 i).set 8 j
theorem below_fill9 {w w1 : World} {n g : Nat} (hb : Below n w w1) (hg : n ≤ g) (a b c d e f h i j : Value) :
    Below n w (((((((((w1.setCell ⟨g, 0, none⟩ a).setCell ⟨g, 1, none⟩ b).setCell ⟨g, 2, none⟩ c).setCell ⟨g, 3, none⟩ d).setCell ⟨g, 4, none⟩ e).setCell ⟨g, 5, none⟩ f).setCell ⟨g, 6, none⟩ h).setCell ⟨g, 7, none⟩ i).setCell ⟨g, 8, none⟩ j) :=
  ((((((((hb.setCell (by simpa using hg) _).setCell (by simpa using hg) _).setCell (by simpa using hg) _).setCell (by simpa using hg) _).setCell (by simpa using hg) _).setCell (by simpa using hg) _).setCell (by simpa using hg) _).setCell (by simpa using hg) _).setCell (by simpa using hg) _

set_option maxRecDepth 100000 in
set_option maxHeartbeats 3000000 in
theorem envelope_any (V : Vw) (va vu : Value) (p : List UInt8) (w : World) (hv : Vws w V va vu) (hl : V.us.length ≤ 1000) (hj : ∀ u ∈ V.us, u.j.length ≤ 1000000000000000) :
    Calls Tryd.prog 36 #[vwV V va vu, .string (bs p)] w fun r w' => r = .returned (.tuple #[usV (envR V.us p).1, .bool (envR V.us p).2]) ∧ Below w.heap.size w w' := by
  obtain ⟨⟨pa, ca, rfl⟩, pu, cu, rfl⟩ := hv.slices
  obtain ⟨la, hla⟩ : ∃ la, la = V.at'.length := ⟨_, rfl⟩
  obtain ⟨n, hn⟩ : ∃ n, n = V.us.length := ⟨_, rfl⟩
  have HU : Hid (Usw w (.slice pu n cu) V.us) := Lib.hid (by rw [hn]; exact hv.us)
  have HN := Lib.hid hn
  rw [← hla, ← hn]
  have hn63 : (n : Int) ≤ 1000 := by omega
  have HJ := Lib.hid hj
  clear hv hl hla hn hj
  obtain ⟨l, hll⟩ : ∃ l, l = V.us := ⟨_, rfl⟩
  rw [← hll] at HU HN HJ ⊢
  clear hll
  obtain ⟨X, hX⟩ : ∃ X, X = w.heap.size := ⟨_, rfl⟩
  go_enter Tryd.func36, Tryd.ntmps36
  go_upto_region 1 with fail
  obtain ⟨C, hC⟩ : ∃ C, C = vwC V (.slice pa la ca) (.slice pu n cu) := ⟨_, rfl⟩
  refine at_hide (F := fun w' => EnW w w' X C) ⟨by
    rw [hX, hC]; exact (Blk.made w (vwC V (.slice pa la ca) (.slice pu n cu)) _).alloc _, by
    rw [hX]
    have := Blk.made (w.alloc (.cells (vwC V (.slice pa la ca) (.slice pu n cu)).toArray 40)) (usC zeroU) 45
    rw [show (w.alloc (.cells (vwC V (.slice pa la ca) (.slice pu n cu)).toArray 40)).heap.size = w.heap.size + 1 from by simp] at this
    exact this, below_and (below_alloc _ _) (below_alloc _ _)⟩ ?_
  intro w1 hF
  rw [← hX]
  have HW1 := Lib.hid hF
  have c7 : w1.cell? ⟨X, 7, none⟩ = some (.slice pu n cu) := hF.bx.cell (j := 7) (by rw [hC]; rfl)
  have HXW : Hid (w.heap.size ≤ X) := Lib.hid (by omega)
  clear hF hX hC
  go_wp2
  clear c7
  go_loopw [13] (fun i wr => ∃ k : Nat, k ≤ n ∧ i = .int .i64 (k : Int) ∧ Hid (∀ j (h : j < l.length), j < k → isEnv p l[j] = false) ∧ Hid (EnW w wr X C)) (fun i _ => n - (intOf i).toNat)
  case atStart => exact ⟨0, Nat.zero_le _, rfl, Lib.hid (fun j _ h => by omega), HW1⟩
  case round =>
    obtain ⟨k, hk, rfl, HF, HW⟩ := hrel
    by_cases hlt : k < n
    · have HKN : Hid (k < l.length) := Lib.hid (by have := HN.out; omega)
      obtain ⟨u, hu⟩ : ∃ u, u = l[k]'HKN.out := ⟨_, rfl⟩
      have HLC := Lib.hid ((HU.out.below HW.out.hb).at HKN.out)
      rw [← hu] at HLC
      have HUK := Lib.hid hu
      have HJU : Hid (u.j.length ≤ 1000000000000000) := Lib.hid (by rw [hu]; exact HJ.out _ (List.getElem_mem _))
      clear hu
      obtain ⟨b, o, rfl, hcell⟩ := HLC.out
      have q0 := hcell 0 _ rfl
      rw [Nat.add_zero] at q0
      have q1 := hcell 1 _ rfl
      have q2 := hcell 2 _ rfl
      have q3 := hcell 3 _ rfl
      have q4 := hcell 4 _ rfl
      have q5 := hcell 5 _ rfl
      have q6 := hcell 6 _ rfl
      have q7 := hcell 7 _ rfl
      have q8 := hcell 8 _ rfl
      clear hcell HLC
      go_upto_region 4 with fail
      obtain ⟨Y, hY⟩ : ∃ Y, Y = wr.heap.size := ⟨_, rfl⟩
      refine at_hide (F := fun w' => Blk w' Y (usC u) 45 ∧ EnW w w' X C) ⟨by rw [hY]; exact Blk.made wr (usC u) _, HW.out.kept (below_alloc _ _)⟩ ?_
      rw [← hY]
      intro w3 hF
      have HW3 := Lib.hid hF.2
      have HY3 := Lib.hid hF.1
      clear hF hY q0 q1 q2 q3 q4 q5 q6 q7 q8 HW
      have y0 := HY3.out.cell (j := 0) rfl
      have y1 := HY3.out.cell (j := 1) rfl
      obtain ⟨s, hs⟩ : ∃ s, s = (taskO u.j u.i).getD [] := ⟨_, rfl⟩
      obtain ⟨te, hte⟩ : ∃ te, te = taskE u.j u.i := ⟨_, rfl⟩
      have HTS : Hid (Calls Tryd.prog 19 #[.agg #[.string (bs u.j), .int .i64 u.i]] w3 fun r w' => r = .returned (.tuple #[.string (bs s), .int .i64 te]) ∧ Below w3.heap.size w3 w') := Lib.hid (by rw [hs, hte]; exact task_any u.j u.i w3 HJU.out)
      have HIS : Hid (isEnv p u = (u.e && (u.n == []) && decide (te = 0) && (s == p))) := Lib.hid (by
        rw [env_is, hs, hte]
        unfold taskE
        cases (taskO u.j u.i).isSome <;> rfl)
      clear hs hte
      go_upto_region 5 with (go_at_call 19; refine HTS.out.mono ?_; rintro r w4 ⟨rfl, hb⟩; have HW4 := Lib.hid (HW3.out.kept hb); have HY4 := Lib.hid (HY3.out.kept hb); clear hb)
      clear y0 y1
      have y0 := HY4.out.cell (j := 0) rfl
      have y1 := HY4.out.cell (j := 1) rfl
      have y2 := HY4.out.cell (j := 2) rfl
      have y3 := HY4.out.cell (j := 3) rfl
      have y4 := HY4.out.cell (j := 4) rfl
      have y5 := HY4.out.cell (j := 5) rfl
      have y6 := HY4.out.cell (j := 6) rfl
      have y7 := HY4.out.cell (j := 7) rfl
      have y8 := HY4.out.cell (j := 8) rfl
      have hq := bs_beq s p
      have hz := nil_beq u.n
      obtain ⟨q, hqq⟩ : ∃ q, q = (s == p) := ⟨_, rfl⟩
      obtain ⟨z, hzz⟩ : ∃ z, z = (u.n == []) := ⟨_, rfl⟩
      rw [← hqq] at hq HIS
      rw [← hzz] at hz HIS
      have hz2 : (bs u.n).toList.isEmpty = z := by rw [← hz]; cases (bs u.n).toList <;> rfl
      obtain ⟨e, he⟩ : ∃ e, e = u.e := ⟨_, rfl⟩
      rw [← he] at HIS y8
      have HEE := Lib.hid he
      clear hqq hzz he
      by_cases hall : (e && z && decide (te = 0) && q) = true
      · have HR : Hid (envR l p = (u, true)) := Lib.hid (by rw [HUK.out]; exact env_at HKN.out (by rw [← HUK.out, HIS.out]; exact hall) HF.out)
        simp only [Bool.and_eq_true, decide_eq_true_eq] at hall
        obtain ⟨⟨⟨rfl, rfl⟩, rfl⟩, rfl⟩ := hall
        have r0 := HW4.out.br.cell (j := 0) rfl
        have f0 := HW4.out.br.free 0
        have r1 := HW4.out.br.cell (j := 1) rfl
        have f1 := HW4.out.br.free 1
        have r2 := HW4.out.br.cell (j := 2) rfl
        have f2 := HW4.out.br.free 2
        have r3 := HW4.out.br.cell (j := 3) rfl
        have f3 := HW4.out.br.free 3
        have r4 := HW4.out.br.cell (j := 4) rfl
        have f4 := HW4.out.br.free 4
        have r5 := HW4.out.br.cell (j := 5) rfl
        have f5 := HW4.out.br.free 5
        have r6 := HW4.out.br.cell (j := 6) rfl
        have f6 := HW4.out.br.free 6
        have r7 := HW4.out.br.cell (j := 7) rfl
        have f7 := HW4.out.br.free 7
        have r8 := HW4.out.br.cell (j := 8) rfl
        have f8 := HW4.out.br.free 8
        go_wp2
        refine ret_ct rfl rfl rfl (blk_fill9 HW4.out.br rfl) Tryd.underlying45 rfl size_us ?_
        rw [HR.out]
        refine ⟨?_, below_fill9 HW4.out.hb (by have := HXW.out; omega) _ _ _ _ _ _ _ _ _⟩
        have e9 := HEE.out
        show _ = Ending.returned (.tuple #[usV u, .bool true])
        unfold usV
        rw [← e9]
        rfl
      · have HF2 : Hid (∀ j (h : j < l.length), j < k + 1 → isEnv p l[j] = false) := Lib.hid (fun j h hj => by
          by_cases ej : j = k
          · subst ej
            rw [← HUK.out, HIS.out]
            simpa using hall
          · exact HF.out j h (by omega))
        cases e with
        | false =>
          clear hall
          go_wp2
          go_roundw
          case rel => exact ⟨k + 1, by omega, by go_num, HF2, HW4⟩
          case measure => simp [intOf]; omega
        | true =>
          cases z with
          | false =>
            clear hall
            go_wp2
            go_roundw
            case rel => exact ⟨k + 1, by omega, by go_num, HF2, HW4⟩
            case measure => simp [intOf]; omega
          | true =>
            by_cases ht0 : te = 0
            · subst ht0
              have hqf : q = false := by cases q <;> simp_all
              subst hqf
              clear hall
              go_wp2
              go_roundw
              case rel => exact ⟨k + 1, by omega, by go_num, HF2, HW4⟩
              case measure => simp [intOf]; omega
            · have t1 : (te == 0) = false := by simpa using ht0
              clear hall ht0
              go_wp2
              go_roundw
              case rel => exact ⟨k + 1, by omega, by go_num, HF2, HW4⟩
              case measure => simp [intOf]; omega
    · obtain rfl : k = n := by omega
      have HR : Hid (envR l p = (zeroU, false)) := Lib.hid (env_no (fun j h => HF.out j h (by have := HN.out; omega)))
      have r0 := HW.out.br.cell (j := 0) rfl
      have f0 := HW.out.br.free 0
      have r1 := HW.out.br.cell (j := 1) rfl
      have f1 := HW.out.br.free 1
      have r2 := HW.out.br.cell (j := 2) rfl
      have f2 := HW.out.br.free 2
      have r3 := HW.out.br.cell (j := 3) rfl
      have f3 := HW.out.br.free 3
      have r4 := HW.out.br.cell (j := 4) rfl
      have f4 := HW.out.br.free 4
      have r5 := HW.out.br.cell (j := 5) rfl
      have f5 := HW.out.br.free 5
      have r6 := HW.out.br.cell (j := 6) rfl
      have f6 := HW.out.br.free 6
      have r7 := HW.out.br.cell (j := 7) rfl
      have f7 := HW.out.br.free 7
      have r8 := HW.out.br.cell (j := 8) rfl
      have f8 := HW.out.br.free 8
      go_wp2
      refine ret_ct rfl rfl rfl (blk_fill9 HW.out.br rfl) Tryd.underlying45 rfl size_us ?_
      rw [HR.out]
      exact ⟨rfl, below_fill9 HW.out.hb (by have := HXW.out; omega) _ _ _ _ _ _ _ _ _⟩
end Go.Proofs.YtaipldegobjboaaDoor.Ft

namespace Go.Proofs.YtaipldegobjboaaDoor.Ft
open Go.RowKit Go.Proofs.YtaipldegobjboaaDoor Go.Proofs.YtaipldegobjboaaDoor.Ru

def roomX (V : Vw) (p : List UInt8) : Am × Bool := match roomP V p with | some a => (a, true) | none => (Am.zero, false)
theorem room_nil (V : Vw) : roomX V [] = takeR V.cap (inP V.us []) := by
  unfold roomX roomP takeR
  rw [if_pos rfl]
  cases takeP V.cap (inP V.us []) <;> rfl
theorem room_env {V : Vw} {p : List UInt8} (hp : p ≠ []) : roomX V p = if (envR V.us p).2 = true then takeR (envR V.us p).1.a (inP V.us p) else (Am.zero, false) := by
  unfold roomX roomP envR takeR
  rw [if_neg hp]
  cases envP V.us p <;> rfl
/-- what room keeps: the view at X, the result's at X + 1, what there is in all at X + 2 -/
structure RmW (w wx : World) (X : Nat) (C : List Value) (a : Am) : Prop where
  bx : Blk wx X C 40
  br : Blk wx (X + 1) (amC Am.zero) 25
  ba : Blk wx (X + 2) (amC a) 25
  hb : Below w.heap.size w wx
theorem RmW.kept {w wx wy : World} {X : Nat} {C : List Value} {a : Am} (h : RmW w wx X C a) (hb : Below wx.heap.size wx wy) : RmW w wy X C a := ⟨h.bx.kept hb, h.br.kept hb, h.ba.kept hb, below_and h.hb hb⟩

set_option maxRecDepth 100000 in
set_option maxHeartbeats 4000000 in
theorem room_any (V : Vw) (va vu : Value) (p : List UInt8) (w : World) (hv : Vws w V va vu) (hl : V.us.length ≤ 1000) (hj : ∀ u ∈ V.us, u.j.length ≤ 1000000000000000) :
    Calls Tryd.prog 24 #[vwV V va vu, .string (bs p)] w fun r w' => r = .returned (.tuple #[amV (roomX V p).1, .bool (roomX V p).2]) ∧ Below w.heap.size w w' := by
  obtain ⟨⟨pa, ca, rfl⟩, pu, cu, rfl⟩ := hv.slices
  obtain ⟨la, hla⟩ : ∃ la, la = V.at'.length := ⟨_, rfl⟩
  obtain ⟨n, hn⟩ : ∃ n, n = V.us.length := ⟨_, rfl⟩
  have HEV : Hid (∀ w', Below w.heap.size w w' → Calls Tryd.prog 36 #[vwV V (.slice pa la ca) (.slice pu n cu), .string (bs p)] w' fun r w2 => r = .returned (.tuple #[usV (envR V.us p).1, .bool (envR V.us p).2]) ∧ Below w'.heap.size w' w2) := Lib.hid (fun w' hb => by
    rw [hla, hn]
    exact envelope_any V _ _ p w' (hv.below hb) hl hj)
  have HIN : Hid (∀ w', Below w.heap.size w w' → Calls Tryd.prog 38 #[.slice pu n cu, .string (bs p)] w' fun r w2 => ∃ v', r = .returned v' ∧ Usw w2 v' (inP V.us p) ∧ Below w'.heap.size w' w2) := Lib.hid (fun w' hb => by
    rw [hn]
    exact in_any _ V.us p w' (hv.us.below hb) hl)
  have HIL : Hid ((inP V.us p).length ≤ 1000) := Lib.hid (by unfold inP; exact Nat.le_trans (List.length_filter_le _ _) hl)
  rw [← hla, ← hn]
  clear hv hl hla hn hj
  obtain ⟨X, hX⟩ : ∃ X, X = w.heap.size := ⟨_, rfl⟩
  go_enter Tryd.func24, Tryd.ntmps24
  go_upto_region 1 with fail
  obtain ⟨C, hC⟩ : ∃ C, C = vwC V (.slice pa la ca) (.slice pu n cu) := ⟨_, rfl⟩
  refine at_hide (F := fun w' => Blk w' X C 40 ∧ Blk w' (X + 1) (amC Am.zero) 25 ∧ Below w.heap.size w w' ∧ w'.heap.size = X + 2) ⟨by
    rw [hX, hC]; exact (Blk.made w (vwC V (.slice pa la ca) (.slice pu n cu)) _).alloc _, by
    rw [hX]
    have := Blk.made (w.alloc (.cells (vwC V (.slice pa la ca) (.slice pu n cu)).toArray 40)) (amC Am.zero) 25
    rw [show (w.alloc (.cells (vwC V (.slice pa la ca) (.slice pu n cu)).toArray 40)).heap.size = w.heap.size + 1 from by simp] at this
    exact this, below_and (below_alloc _ _) (below_alloc _ _), by rw [hX]; simp⟩ ?_
  intro w1 hF
  rw [← hX]
  have HX1 := Lib.hid hF.1
  have HR1 := Lib.hid hF.2.1
  have HB1 : Hid (Below w.heap.size w w1) := Lib.hid hF.2.2.1
  have HZ1 := Lib.hid hF.2.2.2
  have HC := Lib.hid hC
  have HXW : Hid (w.heap.size ≤ X) := Lib.hid (by omega)
  have c2 := HX1.out.cell (j := 2) (by rw [hC]; rfl)
  have c3 := HX1.out.cell (j := 3) (by rw [hC]; rfl)
  have c4 := HX1.out.cell (j := 4) (by rw [hC]; rfl)
  have c5 := HX1.out.cell (j := 5) (by rw [hC]; rfl)
  clear hF hX hC
  go_upto_region 2 with fail
  refine at_hide (F := fun w' => RmW w w' X C V.cap) ⟨HX1.out.alloc _, HR1.out.alloc _, by
    have := Blk.made w1 (amC V.cap) 25
    rw [HZ1.out] at this; exact this, below_and HB1.out (below_alloc _ _)⟩ ?_
  rw [HZ1.out]
  intro w2 hF
  have HW2 := Lib.hid hF
  clear hF c2 c3 c4 c5 HX1 HR1 HB1 HZ1
  obtain ⟨pe, hpq⟩ : ∃ pe, pe = (bs p).toList.isEmpty := ⟨_, rfl⟩
  have hpe := hpq.symm
  have HPE : Hid ((pe = true → p = []) ∧ (pe = false → p ≠ [])) := Lib.hid (by
    constructor
    · intro e
      by_cases hp : p = []
      · exact hp
      · rw [hpq, bs_cons hp] at e; cases e
    · intro e hp
      rw [hpq, hp, bs_nil] at e; cases e)
  clear hpq
  go_upto_if 12 with fail
  clear hpe
  go_cut [] (fun wx => ∃ a, Hid (roomX V p = takeR a (inP V.us p)) ∧ Hid (RmW w wx X C a))
  case first =>
    cases pe with
    | true =>
      have hp := HPE.out.1 rfl
      have HRM : Hid (roomX V p = takeR V.cap (inP V.us p)) := Lib.hid (by rw [hp]; exact room_nil V)
      clear hp
      go_wp2
      go_meet
      exact ⟨V.cap, HRM, HW2⟩
    | false =>
      have hp := HPE.out.2 rfl
      have HRM := Lib.hid (room_env (V := V) hp)
      clear hp
      obtain ⟨e, he⟩ : ∃ e, e = envR V.us p := ⟨_, rfl⟩
      rw [← he] at HEV HRM
      clear he
      obtain ⟨u, eb⟩ := e
      simp only at HEV HRM
      have c0 := HW2.out.bx.cell (j := 0) (by rw [HC.out]; rfl)
      have c1 := HW2.out.bx.cell (j := 1) (by rw [HC.out]; rfl)
      have c2 := HW2.out.bx.cell (j := 2) (by rw [HC.out]; rfl)
      have c3 := HW2.out.bx.cell (j := 3) (by rw [HC.out]; rfl)
      have c4 := HW2.out.bx.cell (j := 4) (by rw [HC.out]; rfl)
      have c5 := HW2.out.bx.cell (j := 5) (by rw [HC.out]; rfl)
      have c6 := HW2.out.bx.cell (j := 6) (by rw [HC.out]; rfl)
      have c7 := HW2.out.bx.cell (j := 7) (by rw [HC.out]; rfl)
      cases eb with
      | false =>
        have r0 := HW2.out.br.cell (j := 0) rfl
        have r1 := HW2.out.br.cell (j := 1) rfl
        have r2 := HW2.out.br.cell (j := 2) rfl
        have r3 := HW2.out.br.cell (j := 3) rfl
        go_upto_region 4 with (go_at_call 36; refine (HEV.out _ HW2.out.hb).mono ?_; rintro r w3 ⟨rfl, hb⟩; have HW3 := Lib.hid (HW2.out.kept hb); clear hb)
        have HW4 := Lib.hid (HW3.out.kept (below_alloc w3 (.cells (usC u).toArray 45)))
        refine at_hide (F := fun w' => RmW w w' X C V.cap) HW4.out ?_
        intro w4 hF
        have HW5 := Lib.hid hF
        clear hF r0 r1 r2 r3 HW4 HW3 c0 c1 c2 c3 c4 c5 c6 c7
        have r0 := HW5.out.br.cell (j := 0) rfl
        have f0 := HW5.out.br.free 0
        have r1 := HW5.out.br.cell (j := 1) rfl
        have f1 := HW5.out.br.free 1
        have r2 := HW5.out.br.cell (j := 2) rfl
        have f2 := HW5.out.br.free 2
        have r3 := HW5.out.br.cell (j := 3) rfl
        have f3 := HW5.out.br.free 3
        go_wp2
        refine ret_ct rfl rfl rfl (blk_fill4 HW5.out.br) Tryd.underlying25 rfl size_am ?_
        have hrm := HRM.out
        simp only [Bool.false_eq_true, if_false] at hrm
        rw [hrm]
        exact ⟨rfl, below_fill4 HW5.out.hb (by have := HXW.out; omega) _ _ _ _⟩
      | true =>
        go_upto_region 4 with (go_at_call 36; refine (HEV.out _ HW2.out.hb).mono ?_; rintro r w3 ⟨rfl, hb⟩; have HW3 := Lib.hid (HW2.out.kept hb); clear hb)
        obtain ⟨Z, hZ⟩ : ∃ Z, Z = w3.heap.size := ⟨_, rfl⟩
        refine at_hide (F := fun w' => Blk w' Z (usC u) 45 ∧ RmW w w' X C V.cap) ⟨by rw [hZ]; exact Blk.made w3 (usC u) _, HW3.out.kept (below_alloc _ _)⟩ ?_
        rw [← hZ]
        intro w4 hF
        have HW5 := Lib.hid hF.2
        have HZ4 := Lib.hid hF.1
        clear hF c0 c1 c2 c3 c4 c5 c6 c7 hZ HW3
        have z3 := HZ4.out.cell (j := 3) rfl
        have z4 := HZ4.out.cell (j := 4) rfl
        have z5 := HZ4.out.cell (j := 5) rfl
        have z6 := HZ4.out.cell (j := 6) rfl
        have r0 := HW5.out.ba.cell (j := 0) rfl
        have f0 := HW5.out.ba.free 0
        have r1 := HW5.out.ba.cell (j := 1) rfl
        have f1 := HW5.out.ba.free 1
        have r2 := HW5.out.ba.cell (j := 2) rfl
        have f2 := HW5.out.ba.free 2
        have r3 := HW5.out.ba.cell (j := 3) rfl
        have f3 := HW5.out.ba.free 3
        go_wp2
        go_meet
        exact ⟨u.a, Lib.hid (by have hrm := HRM.out; simp only [if_true] at hrm; exact hrm), Lib.hid ⟨blk_off4 HW5.out.bx (by omega), blk_off4 HW5.out.br (by omega), blk_fill4 HW5.out.ba, below_fill4 HW5.out.hb (by have := HXW.out; omega) _ _ _ _⟩⟩
  case rest =>
  obtain ⟨a, HRM, HW⟩ := hcut
  obtain ⟨wq, hwq⟩ : ∃ wq, wq = wc := ⟨_, rfl⟩
  rw [← hwq] at HW ⊢
  clear hwq HW2 HEV
  have HSS : Hid (∀ w', Frp (fun k => k = X + 1) wq w' → w'.cell? ⟨X + 2, 0, none⟩ = some (.int .i64 a.c) ∧ w'.cell? ⟨X + 2, 1, none⟩ = some (.int .i64 a.r) ∧ w'.cell? ⟨X + 2, 2, none⟩ = some (.int .i64 a.d) ∧ w'.cell? ⟨X + 2, 3, none⟩ = some (.int .i64 a.p) ∧ w'.cell? ⟨X, 7, none⟩ = some (.slice pu n cu)) := Lib.hid (fun w' hf => by
    have h1 := HW.out.ba.frp hf (by omega)
    have h2 := HW.out.bx.frp hf (by omega)
    exact ⟨h1.cell (j := 0) rfl, h1.cell (j := 1) rfl, h1.cell (j := 2) rfl, h1.cell (j := 3) rfl, h2.cell (j := 7) (by rw [HC.out]; rfl)⟩)
  have HBW : Hid (∀ w', Frp (fun k => k = X + 1) wq w' → Below w.heap.size w w') := Lib.hid (fun w' hf => HW.out.hb.trans (hf.below (fun k hk => by rw [hk]; have := HXW.out; omega) HW.out.hb.size))
  have HBR : Hid (∀ w', Below wq.heap.size wq w' → Blk w' (X + 1) (amC Am.zero) 25) := Lib.hid (fun w' hb => HW.out.br.kept hb)
  obtain ⟨d, hd⟩ : ∃ d, d = takeR a (inP V.us p) := ⟨_, rfl⟩
  have HTK : Hid (∀ v w', Usw w' v (inP V.us p) → Calls Tryd.prog 37 #[amV a, v] w' fun r w2 => r = .returned (.tuple #[amV d.1, .bool d.2]) ∧ Below w'.heap.size w' w2) := Lib.hid (fun v w' hu => by rw [hd]; exact take_any a v _ w' hu HIL.out)
  rw [← hd] at HRM
  clear hd
  obtain ⟨d1, d2⟩ := d
  simp only at HTK
  go_upto_region 7 with fail
  go_region_held3 (fun w' => w'.cell? ⟨X + 2, 0, none⟩ = some (.int .i64 a.c) ∧ w'.cell? ⟨X + 2, 1, none⟩ = some (.int .i64 a.r) ∧ w'.cell? ⟨X + 2, 2, none⟩ = some (.int .i64 a.d) ∧ w'.cell? ⟨X + 2, 3, none⟩ = some (.int .i64 a.p) ∧ w'.cell? ⟨X, 7, none⟩ = some (.slice pu n cu))
    (refine HSS.out _ ?_ <;> (repeat (first | with_reducible exact Frp.refl _ _ | with_reducible exact HF8.out | with_reducible exact HF7.out | apply frp_drew | apply frp_alloc | apply frp_set)))
    (first
      | (go_at_call 38; refine (HIN.out _ (HBW.out _ (by repeat (first | with_reducible exact Frp.refl _ _ | apply frp_drew | apply frp_alloc)))).mono ?_; rintro r w7 ⟨v7, rfl, hu, hb⟩; have HU7 := Lib.hid hu; have HF7 : Hid (Frp (fun k => k = X + 1) wq w7) := Lib.hid (by refine Frp.next ?_ hb; (repeat (first | with_reducible exact Frp.refl _ _ | apply frp_drew | apply frp_alloc))); have HB7 : Hid (Below wq.heap.size wq w7) := Lib.hid (by refine below_and ?_ hb; (repeat (first | with_reducible exact Below.refl _ _ | apply below_drew'))); clear hb hu)
      | (go_at_call 37; refine (HTK.out _ _ (HU7.out.below (by repeat (first | with_reducible exact Below.refl _ _ | apply below_drew')))).mono ?_; rintro r w8 ⟨rfl, hb⟩; have HF8 : Hid (Frp (fun k => k = X + 1) wq w8) := Lib.hid (by refine Frp.next ?_ hb; (repeat (first | with_reducible exact HF7.out | apply frp_drew | apply frp_alloc))); have HB8 : Hid (Below wq.heap.size wq w8) := Lib.hid (by refine below_and ?_ hb; (repeat (first | with_reducible exact HB7.out | apply below_drew'))); have r0 := (HBR.out _ HB8.out).cell (j := 0) rfl; have r1 := (HBR.out _ HB8.out).cell (j := 1) rfl; have r2 := (HBR.out _ HB8.out).cell (j := 2) rfl; have r3 := (HBR.out _ HB8.out).cell (j := 3) rfl; have f0 := (HBR.out _ HB8.out).free 0; have f1 := (HBR.out _ HB8.out).free 1; have f2 := (HBR.out _ HB8.out).free 2; have f3 := (HBR.out _ HB8.out).free 3; clear hb))
  go_wp2
  refine ret_ct rfl rfl rfl (blk_fill4 (HBR.out _ HB8.out)) Tryd.underlying25 rfl size_am ?_
  rw [HRM.out]
  exact ⟨rfl, below_fill4 (HBW.out _ HF8.out) (by have := HXW.out; omega) _ _ _ _⟩
end Go.Proofs.YtaipldegobjboaaDoor.Ft
