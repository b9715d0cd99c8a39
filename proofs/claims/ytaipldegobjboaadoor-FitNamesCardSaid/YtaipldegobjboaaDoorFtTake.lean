/- FtTake. -/
import Derived.Test.YtaipldegobjboaaDoorMFt1
import Derived.Test.YtaipldegobjboaaDoorMParse
import Derived.Test.YtaipldegobjboaaDoorSub
namespace Go.Proofs.YtaipldegobjboaaDoor.Ft
open Go.RowKit Go.Proofs.YtaipldegobjboaaDoor Go.Proofs.YtaipldegobjboaaDoor.Ru

theorem ret_ct {P : Program} {fn : Func} {R : Ending → World → Prop} {a : Act} {w : World} {p u : Tmp} {ty t : TypeId} {g : Nat} {cs : List Value} {d : TypeDesc} (h : fn.results = #[.cell p ty, .tmp u]) (hd : a.defers = [])
    (hp : a.tmps.getD p undef = .pointer (some ⟨g, 0, none⟩)) (hg : Blk w g cs t) (hu : P.underlying ty = some d) (hs : (match d with | .struct _ | .array _ _ => true | _ => false) = true) (hi : (P.info? ty).map (·.size) = some cs.length)
    (hR : R (.returned (.tuple #[.agg cs.toArray, a.tmps.getD u undef])) w) : bodyPost P fn R .ret a w := by
  refine bodyPost_ret ?_ hd hR
  rw [results_cell_tmp h]
  have h1 : (asAddr (a.tmps.getD p undef)).run P w = .ok ⟨g, 0, none⟩ w := by rw [hp]; rfl
  rw [h1]
  simp only [Result.andThen_ok]
  rw [run_loadVar_row w g t ty cs.toArray (0, 0) d hg hu hs (by simpa using hi)]
  rfl
theorem size_am : (Tryd.prog.info? 25).map (·.size) = some 4 := by kernel_rfl
theorem blk_fill4 {w : World} {g : Nat} {a b c d x y z u : Value} {t : TypeId} (h : Blk w g [a, b, c, d] t) : Blk ((((w.setCell ⟨g, 0, none⟩ x).setCell ⟨g, 1, none⟩ y).setCell ⟨g, 2, none⟩ z).setCell ⟨g, 3, none⟩ u) g [x, y, z, u] t := (((h.set 0 x).set 1 y).set 2 z).set 3 u
theorem blk_off4 {w : World} {g k : Nat} {cs : List Value} {x y z u : Value} {t : TypeId} (h : Blk w k cs t) (hne : k ≠ g) : Blk ((((w.setCell ⟨g, 0, none⟩ x).setCell ⟨g, 1, none⟩ y).setCell ⟨g, 2, none⟩ z).setCell ⟨g, 3, none⟩ u) k cs t := (((h.other (a := ⟨g, 0, none⟩) hne x).other (a := ⟨g, 1, none⟩) hne y).other (a := ⟨g, 2, none⟩) hne z).other (a := ⟨g, 3, none⟩) hne u
theorem below_fill4 {w w1 : World} {n g : Nat} (h : Below n w w1) (hg : n ≤ g) (x y z u : Value) : Below n w ((((w1.setCell ⟨g, 0, none⟩ x).setCell ⟨g, 1, none⟩ y).setCell ⟨g, 2, none⟩ z).setCell ⟨g, 3, none⟩ u) :=
  (((h.setCell (by simpa using hg) _).setCell (by simpa using hg) _).setCell (by simpa using hg) _).setCell (by simpa using hg) _
def takeR (a : Am) (l : List Us) : Am × Bool := match takeP a l with | some r => (r, true) | none => (Am.zero, false)
/-- what take keeps: the amounts at A, the result's at R -/
structure TkW (w wx : World) (A R : Nat) (a : Am) : Prop where
  ba : Blk wx A (amC a) 25
  br : Blk wx R (amC Am.zero) 25
  hb : Below w.heap.size w wx
theorem TkW.kept {w wx wy : World} {A R : Nat} {a : Am} (h : TkW w wx A R a) (hb : Below wx.heap.size wx wy) : TkW w wy A R a := ⟨h.ba.kept hb, h.br.kept hb, below_and h.hb hb⟩

set_option maxRecDepth 100000 in
set_option maxHeartbeats 2000000 in
theorem take_any (a : Am) (v : Value) (l : List Us) (w : World) (hv : Usw w v l) (hl : l.length ≤ 1000) :
    Calls Tryd.prog 37 #[amV a, v] w fun r w' => r = .returned (.tuple #[amV (takeR a l).1, .bool (takeR a l).2]) ∧ Below w.heap.size w w' := by
  have HV := Lib.hid hv
  obtain ⟨p, c, rfl⟩ := hv.slice
  obtain ⟨n, hn⟩ : ∃ n, n = l.length := ⟨_, rfl⟩
  have HN := Lib.hid hn
  rw [← hn]
  have hn63 : (n : Int) ≤ 1000 := by omega
  clear hv hl hn
  go_enter Tryd.func37, Tryd.ntmps37
  go_upto_region 1 with fail
  obtain ⟨A, hA⟩ : ∃ A, A = w.heap.size := ⟨_, rfl⟩
  refine at_hide (F := fun w' => TkW w w' A (A + 1) a) ⟨by rw [hA]; exact Blk.alloc (Blk.made w (amC a) _) _, by
    rw [hA]; have := Blk.made (w.alloc (.cells (amC a).toArray 25)) (amC Am.zero) 25; rw [show (w.alloc (.cells (amC a).toArray 25)).heap.size = w.heap.size + 1 from by simp] at this; exact this, below_and (below_alloc _ _) (below_alloc _ _)⟩ ?_
  rw [← hA]
  intro w1 hF
  have HW1 := Lib.hid hF
  have HAW : Hid (w.heap.size ≤ A) := Lib.hid (by omega)
  clear hF hA
  go_wp2
  go_loopw [12] (fun i wr => ∃ (k : Nat) (cur : Am), k ≤ n ∧ i = .int .i64 (k : Int) ∧ Hid (takeR a l = takeR cur (l.drop k)) ∧ Hid (TkW w wr A (A + 1) cur)) (fun i _ => n - (intOf i).toNat)
  case atStart => exact ⟨0, a, Nat.zero_le _, rfl, Lib.hid rfl, HW1⟩
  case round =>
    obtain ⟨k, cur, hk, rfl, HT, HW⟩ := hrel
    by_cases hlt : k < n
    · have HKN : Hid (k < l.length) := Lib.hid (by have := HN.out; omega)
      obtain ⟨u, hu⟩ : ∃ u, u = l[k]'HKN.out := ⟨_, rfl⟩
      have HLC := Lib.hid ((HV.out.below HW.out.hb).at HKN.out)
      rw [← hu] at HLC
      have HDR : Hid (l.drop k = u :: l.drop (k + 1)) := Lib.hid (by rw [hu]; exact List.drop_eq_getElem_cons HKN.out)
      clear hu
      obtain ⟨b, o, rfl, hcell⟩ := HLC.out
      have q0 := hcell 0 _ rfl
      rw [Nat.add_zero] at q0
      have q1 := hcell 1 _ rfl
      have q2 := hcell 2 _ rfl
      have q3 := hcell 3 _ rfl
      have q4 := hcell 4 _ rfl
      have q5 := hcell 5 _ rfl
      have q6 := hcell 6 _ rfl
      have q7 := hcell 7 _ rfl
      have q8 := hcell 8 _ rfl
      clear hcell HLC
      go_upto_region 4 with fail
      obtain ⟨Y, hY⟩ : ∃ Y, Y = wr.heap.size := ⟨_, rfl⟩
      refine at_hide (F := fun w' => Blk w' Y (usC u) 45 ∧ TkW w w' A (A + 1) cur) ⟨by rw [hY]; exact Blk.made wr (usC u) _, HW.out.kept (below_alloc _ _)⟩ ?_
      rw [← hY]
      intro w3 hF
      have HW3 := Lib.hid hF.2
      have HY3 := Lib.hid hF.1
      clear hF hY q0 q1 q2 q3 q4 q5 q6 q7 q8 HW
      have y3 := HY3.out.cell (j := 3) rfl
      have y4 := HY3.out.cell (j := 4) rfl
      have y5 := HY3.out.cell (j := 5) rfl
      have y6 := HY3.out.cell (j := 6) rfl
      have a0 := HW3.out.ba.cell (j := 0) rfl
      have a1 := HW3.out.ba.cell (j := 1) rfl
      have a2 := HW3.out.ba.cell (j := 2) rfl
      have a3 := HW3.out.ba.cell (j := 3) rfl
      obtain ⟨d, hd⟩ : ∃ d, d = subR cur u.a := ⟨_, rfl⟩
      have HSB : Hid (Calls Tryd.prog 54 #[amV cur, amV u.a] w3 fun e w' => e = .returned (.tuple #[amV d.1, .int .i64 d.2]) ∧ Below w3.heap.size w3 w') := Lib.hid (by rw [hd]; exact sub_any cur u.a w3)
      have HD := Lib.hid hd
      clear hd
      obtain ⟨d1, d2⟩ := d
      simp only at HSB
      go_upto_region 5 with (go_at_call 54; refine HSB.out.mono ?_; rintro r w4 ⟨rfl, hb⟩; have HW4 := Lib.hid (HW3.out.kept hb); clear hb)
      obtain ⟨Z, hZ⟩ : ∃ Z, Z = w4.heap.size := ⟨_, rfl⟩
      refine at_hide (F := fun w' => Blk w' Z (amC d1) 25 ∧ TkW w w' A (A + 1) cur) ⟨by rw [hZ]; exact Blk.made w4 (amC d1) _, HW4.out.kept (below_alloc _ _)⟩ ?_
      rw [← hZ]
      intro w5 hF
      have HW5 := Lib.hid hF.2
      have HZ5 := Lib.hid hF.1
      clear hF hZ y3 y4 y5 y6 a0 a1 a2 a3
      by_cases hd0 : d2 = 0
      · subst hd0
        have HT2 : Hid (takeR a l = takeR d1 (l.drop (k + 1))) := Lib.hid (by
          rw [HT.out, HDR.out]
          have e := HD.out
          unfold takeR
          conv => lhs; unfold takeP
          rw [← e, if_pos rfl])
        have z0 := HZ5.out.cell (j := 0) rfl
        have z1 := HZ5.out.cell (j := 1) rfl
        have z2 := HZ5.out.cell (j := 2) rfl
        have z3 := HZ5.out.cell (j := 3) rfl
        have a0 := HW5.out.ba.cell (j := 0) rfl
        have a1 := HW5.out.ba.cell (j := 1) rfl
        have a2 := HW5.out.ba.cell (j := 2) rfl
        have a3 := HW5.out.ba.cell (j := 3) rfl
        have f0 := HW5.out.ba.free 0
        have f1 := HW5.out.ba.free 1
        have f2 := HW5.out.ba.free 2
        have f3 := HW5.out.ba.free 3
        go_wp2
        refine ⟨⟨k + 1, d1, by omega, by go_num, HT2, Lib.hid ⟨blk_fill4 HW5.out.ba, blk_off4 HW5.out.br (by omega), below_fill4 HW5.out.hb HAW.out _ _ _ _⟩⟩, by simp [intOf]; omega⟩
      · have HT2 : Hid (takeR a l = (Am.zero, false)) := Lib.hid (by
          rw [HT.out, HDR.out]
          have e := HD.out
          unfold takeR
          conv => lhs; unfold takeP
          rw [← e, if_neg hd0])
        have t1 : (d2 != 0) = true := by simpa using hd0
        have a0 := HW5.out.br.cell (j := 0) rfl
        have a1 := HW5.out.br.cell (j := 1) rfl
        have a2 := HW5.out.br.cell (j := 2) rfl
        have a3 := HW5.out.br.cell (j := 3) rfl
        have f0 := HW5.out.br.free 0
        have f1 := HW5.out.br.free 1
        have f2 := HW5.out.br.free 2
        have f3 := HW5.out.br.free 3
        clear hd0
        go_wp2
        refine ret_ct rfl rfl rfl (blk_fill4 HW5.out.br) Tryd.underlying25 rfl size_am ?_
        rw [HT2.out]
        exact ⟨rfl, below_fill4 HW5.out.hb (by have := HAW.out; omega) _ _ _ _⟩
    · obtain rfl : k = n := by omega
      have HT2 : Hid (takeR a l = (cur, true)) := Lib.hid (by rw [HT.out, HN.out, List.drop_length]; rfl)
      have b0 := HW.out.ba.cell (j := 0) rfl
      have b1 := HW.out.ba.cell (j := 1) rfl
      have b2 := HW.out.ba.cell (j := 2) rfl
      have b3 := HW.out.ba.cell (j := 3) rfl
      have a0 := HW.out.br.cell (j := 0) rfl
      have a1 := HW.out.br.cell (j := 1) rfl
      have a2 := HW.out.br.cell (j := 2) rfl
      have a3 := HW.out.br.cell (j := 3) rfl
      have f0 := HW.out.br.free 0
      have f1 := HW.out.br.free 1
      have f2 := HW.out.br.free 2
      have f3 := HW.out.br.free 3
      go_wp2
      refine ret_ct rfl rfl rfl (blk_fill4 HW.out.br) Tryd.underlying25 rfl size_am ?_
      rw [HT2.out]
      exact ⟨rfl, below_fill4 HW.out.hb (by have := HAW.out; omega) _ _ _ _⟩

set_option maxRecDepth 100000 in
set_option maxHeartbeats 1000000 in
theorem in_any (v : Value) (l : List Us) (p : List UInt8) (w : World) (hv : Usw w v l) (hl : l.length ≤ 1000) :
    Calls Tryd.prog 38 #[v, .string (bs p)] w fun r w' => ∃ v', r = .returned v' ∧ Usw w' v' (inP l p) ∧ Below w.heap.size w w' := by
  obtain ⟨w1, hw1⟩ : ∃ w1, w1 = w.alloc (.cells #[.string (bs p)] 9) := ⟨_, rfl⟩
  obtain ⟨X, hX⟩ : ∃ X, X = w.heap.size := ⟨_, rfl⟩
  have HB1 : Hid (Below w.heap.size w w1) := Lib.hid (by rw [hw1]; exact below_alloc _ _)
  have HWH : Hid (Calls Tryd.prog 17 #[v, .func (.func 55) #[] #[ptr X]] w1 fun r w' => ∃ v', r = .returned v' ∧ Usw w' v' (inP l p) ∧ Below w1.heap.size w1 w') := Lib.hid ((where_in v l X p w1 (hv.below HB1.out) (by rw [hw1, hX]; exact (Blk.made w [_] _).cell (j := 0) rfl) hl).mono fun r w' h => by
    obtain ⟨v', h1, h2, h3⟩ := h
    exact ⟨v', h1, usw_own h2, h3⟩)
  clear hv hl
  go_enter Tryd.func38, Tryd.ntmps38
  go_upto_region 1 with fail
  rw [← hw1, ← hX]
  clear hw1 hX
  go_wp2_with (go_at_call 17; refine HWH.out.mono ?_; rintro r w2 ⟨v', rfl, hu, hb⟩; have HU2 := Lib.hid hu; have HB2 := Lib.hid (below_and HB1.out hb); clear hu hb)
  go_ret
  exact ⟨_, rfl, HU2.out, HB2.out⟩

/-! a machine, a need, as values -/
/-- a machine in memory: its name, capacity, what is up; its attributes and uses are slices -/
abbrev vwC (V : Vw) (va vu : Value) : List Value := [.string (bs V.nm), va, .int .i64 V.cap.c, .int .i64 V.cap.r, .int .i64 V.cap.d, .int .i64 V.cap.p, .bool V.up, vu]
abbrev vwV (V : Vw) (va vu : Value) : Value := .agg #[.string (bs V.nm), va, .int .i64 V.cap.c, .int .i64 V.cap.r, .int .i64 V.cap.d, .int .i64 V.cap.p, .bool V.up, vu]
abbrev neC (N : Ne) (vl : Value) : List Value := [.string (bs N.j), .int .i64 N.d, .int .i64 N.a.c, .int .i64 N.a.r, .int .i64 N.a.d, .int .i64 N.a.p, vl, .string (bs N.n)]
abbrev neV (N : Ne) (vl : Value) : Value := .agg #[.string (bs N.j), .int .i64 N.d, .int .i64 N.a.c, .int .i64 N.a.r, .int .i64 N.a.d, .int .i64 N.a.p, vl, .string (bs N.n)]
/-- a machine's lists read so -/
structure Vws (w : World) (V : Vw) (va vu : Value) : Prop where
  at' : Row w va 2 V.at'.length (rwC atC V.at')
  us : Usw w vu V.us
theorem Vws.below {w w' : World} {V : Vw} {va vu : Value} (h : Vws w V va vu) (hb : Below w.heap.size w w') : Vws w' V va vu := ⟨h.at'.below hb, h.us.below hb⟩
theorem Vws.slices {w : World} {V : Vw} {va vu : Value} (h : Vws w V va vu) : (∃ p c, va = .slice p V.at'.length c) ∧ ∃ p c, vu = .slice p V.us.length c := by
  obtain ⟨p, c, hv, -⟩ := h.at'
  exact ⟨⟨p, c, hv⟩, h.us.slice⟩
def Nds (w : World) (N : Ne) (vl : Value) : Prop := Row w vl 6 N.L.length (rwC ndC N.L)
theorem Nds.below {w w' : World} {N : Ne} {vl : Value} (h : Nds w N vl) (hb : Below w.heap.size w w') : Nds w' N vl := Row.below h hb
theorem Nds.slice {w : World} {N : Ne} {vl : Value} (h : Nds w N vl) : ∃ p c, vl = .slice p N.L.length c := by
  obtain ⟨p, c, hv, -⟩ := h
  exact ⟨p, c, hv⟩
end Go.Proofs.YtaipldegobjboaaDoor.Ft
