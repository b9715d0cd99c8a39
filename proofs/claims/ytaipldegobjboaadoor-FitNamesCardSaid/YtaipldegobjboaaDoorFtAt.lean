/- FtAt. -/
import Derived.Test.YtaipldegobjboaaDoorMFt2
import Derived.Test.YtaipldegobjboaaDoorAdd
namespace Go.Proofs.YtaipldegobjboaaDoor.Ft
open Go.RowKit Go.Proofs.YtaipldegobjboaaDoor Go.Proofs.YtaipldegobjboaaDoor.Ru

def OwnU (w : World) (base : Nat) (v : Value) (l : List Us) : Prop := w.ownsRow base 45 9 v l.length (rwC usC l)
theorem OwnU.usw {w : World} {base : Nat} {v : Value} {l : List Us} (h : OwnU w base v l) : Usw w v l := usw_own h
theorem OwnU.kept {w w' : World} {base : Nat} {v : Value} {l : List Us} (h : OwnU w base v l) (hb : Below w.heap.size w w') : OwnU w' base v l := own_fr h (Fr.of_below hb []) (fun _ _ => by simp)
theorem OwnU.fill4 {w : World} {base Z : Nat} {v : Value} {l : List Us} (h : OwnU w base v l) (hz : Z < base) (a b c d : Value) : OwnU ((((w.setCell ⟨Z, 0, none⟩ a).setCell ⟨Z, 1, none⟩ b).setCell ⟨Z, 2, none⟩ c).setCell ⟨Z, 3, none⟩ d) base v l :=
  ownsRow_setCell_below (ownsRow_setCell_below (ownsRow_setCell_below (ownsRow_setCell_below h (a := ⟨Z, 0, none⟩) hz a) (a := ⟨Z, 1, none⟩) hz b) (a := ⟨Z, 2, none⟩) hz c) (a := ⟨Z, 3, none⟩) hz d
theorem addAll_take {l : List Us} {k : Nat} (h : k < l.length) (a : Am) : addAll a (l.take (k + 1)) = (addR (addAll a (l.take k)) l[k].a).1 := by
  unfold addAll
  rw [List.take_succ_eq_append_getElem h, List.foldl_append]
  rfl
theorem at_is (N : Ne) (V : Vw) (p : List UInt8) : atP N V p = if fitsB N.a (roomX V p).1 = true then 2 else if fitsB N.a (addAll (roomX V p).1 (goersP N V p)) = true then 1 else 0 := by
  unfold atP
  have : (roomP V p).getD Am.zero = (roomX V p).1 := by
    unfold roomX
    cases roomP V p <;> rfl
  rw [this]

set_option maxRecDepth 100000 in
set_option maxHeartbeats 1000000 in
theorem goersO_any (N : Ne) (V : Vw) (vl va vu : Value) (p : List UInt8) (w : World) (hn : Nds w N vl) (hv : Vws w V va vu) (hl : V.us.length ≤ 1000) :
    Calls Tryd.prog 13 #[neV N vl, vwV V va vu, .string (bs p)] w fun r w' => ∃ v', r = .returned v' ∧ OwnU w' w.heap.size v' (goersP N V p) ∧ Below w.heap.size w w' := by
  obtain ⟨pn, cn, rfl⟩ := hn.slice
  obtain ⟨⟨pa, ca, rfl⟩, pu, cu, rfl⟩ := hv.slices
  obtain ⟨ln, hln⟩ : ∃ ln, ln = N.L.length := ⟨_, rfl⟩
  obtain ⟨la, hla⟩ : ∃ la, la = V.at'.length := ⟨_, rfl⟩
  obtain ⟨lu, hlu⟩ : ∃ lu, lu = V.us.length := ⟨_, rfl⟩
  have HU : Hid (Usw w (.slice pu lu cu) V.us) := Lib.hid (by rw [hlu]; exact hv.us)
  rw [← hln, ← hla, ← hlu]
  have HL := Lib.hid hl
  clear hn hv hl hln hla hlu
  obtain ⟨X, hX⟩ : ∃ X, X = w.heap.size := ⟨_, rfl⟩
  go_enter Tryd.func13, Tryd.ntmps13
  go_upto_region 1 with fail
  refine at_hide (F := fun w' => Blk w' X (neC N (.slice pn ln cn)) 30 ∧ Blk w' (X + 1) (vwC V (.slice pa la ca) (.slice pu lu cu)) 40 ∧ Blk w' (X + 2) [.string (bs p)] 9 ∧ Below w.heap.size w w') ⟨by
    rw [hX]; exact ((Blk.made w (neC N (.slice pn ln cn)) _).alloc _).alloc _, by
    rw [hX]
    have := (Blk.made (w.alloc (.cells (neC N (.slice pn ln cn)).toArray 30)) (vwC V (.slice pa la ca) (.slice pu lu cu)) 40).alloc (.cells #[.string (bs p)] 9)
    rw [show (w.alloc (.cells (neC N (.slice pn ln cn)).toArray 30)).heap.size = w.heap.size + 1 from by simp] at this
    exact this, by
    rw [hX]
    have := Blk.made ((w.alloc (.cells (neC N (.slice pn ln cn)).toArray 30)).alloc (.cells (vwC V (.slice pa la ca) (.slice pu lu cu)).toArray 40)) [.string (bs p)] 9
    rw [show ((w.alloc (.cells (neC N (.slice pn ln cn)).toArray 30)).alloc (.cells (vwC V (.slice pa la ca) (.slice pu lu cu)).toArray 40)).heap.size = w.heap.size + 2 from by simp] at this
    exact this, below_and (below_and (below_alloc _ _) (below_alloc _ _)) (below_alloc _ _)⟩ ?_
  intro w1 hF
  rw [← hX]
  have HB1 : Hid (Below w.heap.size w w1) := Lib.hid hF.2.2.2
  have c7 := hF.2.1.cell (j := 7) rfl
  have HWH : Hid (Calls Tryd.prog 17 #[.slice pu lu cu, .func (.func 25) #[] #[ptr (X + 2), ptr X]] w1 fun r w' => ∃ v', r = .returned v' ∧ OwnU w' w.heap.size v' (goersP N V p) ∧ Below w1.heap.size w1 w') := Lib.hid ((where_goers _ V.us (X + 2) X N p w1 (HU.out.below HB1.out) (hF.2.2.1.cell (j := 0) rfl) (hF.1.cell (j := 1) rfl) HL.out).mono fun r w' h => by
    obtain ⟨v', h1, h2, h3⟩ := h
    exact ⟨v', h1, own_lower h2 HB1.out.size, h3⟩)
  clear hF hX
  go_wp2_with (go_at_call 17; refine HWH.out.mono ?_; rintro r w2 ⟨v', rfl, hu, hb⟩; have HU2 := Lib.hid hu; have HB2 := Lib.hid (below_and HB1.out hb); clear hu hb)
  go_ret
  exact ⟨_, rfl, HU2.out, HB2.out⟩

structure AtW (w wx : World) (X Z : Nat) (D C : List Value) (a : Am) : Prop where
  bn : Blk wx X D 30
  bv : Blk wx (X + 1) C 40
  bz : Blk wx Z (amC a) 25
  hb : Below w.heap.size w wx
theorem AtW.kept {w wx wy : World} {X Z : Nat} {D C : List Value} {a : Am} (h : AtW w wx X Z D C a) (hb : Below wx.heap.size wx wy) : AtW w wy X Z D C a := ⟨h.bn.kept hb, h.bv.kept hb, h.bz.kept hb, below_and h.hb hb⟩
theorem AtW.fill {w wx : World} {X Z : Nat} {D C : List Value} {a b : Am} (h : AtW w wx X Z D C a) (hz : X + 1 < Z) (hw : w.heap.size ≤ Z) : AtW w ((((wx.setCell ⟨Z, 0, none⟩ (.int .i64 b.c)).setCell ⟨Z, 1, none⟩ (.int .i64 b.r)).setCell ⟨Z, 2, none⟩ (.int .i64 b.d)).setCell ⟨Z, 3, none⟩ (.int .i64 b.p)) X Z D C b :=
  ⟨blk_off4 h.bn (by omega), blk_off4 h.bv (by omega), blk_fill4 h.bz, below_fill4 h.hb hw _ _ _ _⟩

set_option maxRecDepth 100000 in
set_option maxHeartbeats 4000000 in
theorem at_any (N : Ne) (V : Vw) (vl va vu : Value) (p : List UInt8) (w : World) (hn : Nds w N vl) (hv : Vws w V va vu) (hk : VwOk V) :
    Calls Tryd.prog 16 #[neV N vl, vwV V va vu, .string (bs p)] w fun r w' => r = .returned (.int .i64 (atP N V p)) ∧ Below w.heap.size w w' := by
  obtain ⟨pn, cn, rfl⟩ := hn.slice
  obtain ⟨⟨pa, ca, rfl⟩, pu, cu, rfl⟩ := hv.slices
  obtain ⟨ln, hln⟩ : ∃ ln, ln = N.L.length := ⟨_, rfl⟩
  obtain ⟨la, hla⟩ : ∃ la, la = V.at'.length := ⟨_, rfl⟩
  obtain ⟨lu, hlu⟩ : ∃ lu, lu = V.us.length := ⟨_, rfl⟩
  obtain ⟨G, hG⟩ : ∃ G, G = goersP N V p := ⟨_, rfl⟩
  obtain ⟨d, hd⟩ : ∃ d, d = roomX V p := ⟨_, rfl⟩
  have HRM : Hid (∀ w', Below w.heap.size w w' → Calls Tryd.prog 24 #[vwV V (.slice pa la ca) (.slice pu lu cu), .string (bs p)] w' fun r w2 => r = .returned (.tuple #[amV d.1, .bool d.2]) ∧ Below w'.heap.size w' w2) := Lib.hid (fun w' hb => by
    rw [hla, hlu, hd]
    exact room_any V _ _ p w' (hv.below hb) hk.n hk.j)
  have HGO : Hid (∀ w', Below w.heap.size w w' → Calls Tryd.prog 13 #[neV N (.slice pn ln cn), vwV V (.slice pa la ca) (.slice pu lu cu), .string (bs p)] w' fun r w2 => ∃ v' c', r = .returned (.slice v' G.length c') ∧ OwnU w2 w'.heap.size (.slice v' G.length c') G ∧ Below w'.heap.size w' w2) := Lib.hid (fun w' hb => by
    rw [hln, hla, hlu, hG]
    refine (goersO_any N V _ _ _ p w' (hn.below hb) (hv.below hb) hk.n).mono fun r w2 h => ?_
    obtain ⟨v', rfl, h2, h3⟩ := h
    obtain ⟨q, c, rfl⟩ := h2.usw.slice
    exact ⟨q, c, rfl, h2, h3⟩)
  have HAT : Hid (atP N V p = if fitsB N.a d.1 = true then 2 else if fitsB N.a (addAll d.1 G) = true then 1 else 0) := Lib.hid (by rw [hd, hG]; exact at_is N V p)
  have HGL : Hid (G.length ≤ 1000) := Lib.hid (by rw [hG]; exact Nat.le_trans (List.length_filter_le _ _) hk.n)
  rw [← hln, ← hla, ← hlu]
  clear hn hv hk hln hla hlu hG hd
  obtain ⟨d1, d2⟩ := d
  simp only at HRM HAT
  obtain ⟨m, hm⟩ : ∃ m, m = G.length := ⟨_, rfl⟩
  rw [← hm] at HGO HGL
  have HM := Lib.hid hm
  have hm63 : (m : Int) ≤ 1000 := by have := HGL.out; omega
  clear hm
  have HFI : Hid (∀ y w', Calls Tryd.prog 29 #[amV N.a, amV y] w' fun r w2 => r = .returned (.bool (fitsB N.a y)) ∧ Below w'.heap.size w' w2) := Lib.hid (fun y w' => fits_any N.a y w')
  obtain ⟨X, hX⟩ : ∃ X, X = w.heap.size := ⟨_, rfl⟩
  go_enter Tryd.func16, Tryd.ntmps16
  go_upto_region 1 with fail
  obtain ⟨D, hD⟩ : ∃ D, D = neC N (.slice pn ln cn) := ⟨_, rfl⟩
  obtain ⟨C, hC⟩ : ∃ C, C = vwC V (.slice pa la ca) (.slice pu lu cu) := ⟨_, rfl⟩
  refine at_hide (F := fun w' => GeW w w' X D C ∧ w'.heap.size = X + 2) ⟨by rw [hX, hD, hC]; exact GeW.made w N V _ _ _, by rw [hX]; simp⟩ ?_
  intro w1 hF
  rw [← hX]
  have HW1 := Lib.hid hF.1
  have HZ1 := Lib.hid hF.2
  have HC := Lib.hid hC
  have HD := Lib.hid hD
  have HXW : Hid (w.heap.size ≤ X) := Lib.hid (by omega)
  have c0 := HW1.out.bv.cell (j := 0) (by rw [hC]; rfl)
  have c1 := HW1.out.bv.cell (j := 1) (by rw [hC]; rfl)
  have c2 := HW1.out.bv.cell (j := 2) (by rw [hC]; rfl)
  have c3 := HW1.out.bv.cell (j := 3) (by rw [hC]; rfl)
  have c4 := HW1.out.bv.cell (j := 4) (by rw [hC]; rfl)
  have c5 := HW1.out.bv.cell (j := 5) (by rw [hC]; rfl)
  have c6 := HW1.out.bv.cell (j := 6) (by rw [hC]; rfl)
  have c7 := HW1.out.bv.cell (j := 7) (by rw [hC]; rfl)
  clear hF hX hC hD
  go_upto_region 2 with (go_at_call 24; refine (HRM.out _ HW1.out.hb).mono ?_; rintro r w3 ⟨rfl, hb⟩; have HW3 := Lib.hid (HW1.out.kept hb); have HS3 : Hid (X + 2 ≤ w3.heap.size) := Lib.hid (by have := hb.size; rw [HZ1.out] at this; exact this); clear hb)
  obtain ⟨Z, hZ⟩ : ∃ Z, Z = w3.heap.size := ⟨_, rfl⟩
  refine at_hide (F := fun w' => AtW w w' X Z D C d1 ∧ Z < w'.heap.size) ⟨by rw [hZ]; exact ⟨HW3.out.bn.alloc _, HW3.out.bv.alloc _, Blk.made w3 (amC d1) _, below_and HW3.out.hb (below_alloc _ _)⟩, by rw [hZ]; simp⟩ ?_
  rw [← hZ]
  intro w4 hF
  have HW4 := Lib.hid hF.1
  have HZ4 := Lib.hid hF.2
  have HXZ : Hid (X + 1 < Z) := Lib.hid (by have := HS3.out; omega)
  clear hF hZ HW3 HS3 c0 c1 c2 c3 c4 c5 c6 c7 HRM HW1 HZ1
  have z0 := HW4.out.bz.cell (j := 0) (rfl)
  have z1 := HW4.out.bz.cell (j := 1) (rfl)
  have z2 := HW4.out.bz.cell (j := 2) (rfl)
  have z3 := HW4.out.bz.cell (j := 3) (rfl)
  have n2 := HW4.out.bn.cell (j := 2) (by rw [HD.out]; rfl)
  have n3 := HW4.out.bn.cell (j := 3) (by rw [HD.out]; rfl)
  have n4 := HW4.out.bn.cell (j := 4) (by rw [HD.out]; rfl)
  have n5 := HW4.out.bn.cell (j := 5) (by rw [HD.out]; rfl)
  cases hf : fitsB N.a d1 with
  | true =>
    have HF1 := Lib.hid (HFI.out d1)
    rw [hf] at HF1
    rw [hf, if_pos rfl] at HAT
    clear hf
    go_wp2_with (go_at_call 29; refine (HF1.out _).mono ?_; rintro r w5 ⟨rfl, hb⟩; have HW5 := Lib.hid (HW4.out.kept hb); clear hb)
    go_ret
    rw [HAT.out]
    exact ⟨rfl, HW5.out.hb⟩
  | false =>
    have HF1 := Lib.hid (HFI.out d1)
    rw [hf] at HF1
    rw [hf, if_neg (by decide)] at HAT
    clear hf
    go_upto_region 4 with (go_at_call 29; refine (HF1.out _).mono ?_; rintro r w5 ⟨rfl, hb⟩; have HW5 := Lib.hid (HW4.out.kept hb); have HZ5 : Hid (Z < w5.heap.size) := Lib.hid (Nat.lt_of_lt_of_le HZ4.out hb.size); clear hb)
    clear z0 z1 z2 z3 n2 n3 n4 n5 HF1
    have n0 := HW5.out.bn.cell (j := 0) (by rw [HD.out]; rfl)
    have n1 := HW5.out.bn.cell (j := 1) (by rw [HD.out]; rfl)
    have n2 := HW5.out.bn.cell (j := 2) (by rw [HD.out]; rfl)
    have n3 := HW5.out.bn.cell (j := 3) (by rw [HD.out]; rfl)
    have n4 := HW5.out.bn.cell (j := 4) (by rw [HD.out]; rfl)
    have n5 := HW5.out.bn.cell (j := 5) (by rw [HD.out]; rfl)
    have n6 := HW5.out.bn.cell (j := 6) (by rw [HD.out]; rfl)
    have n7 := HW5.out.bn.cell (j := 7) (by rw [HD.out]; rfl)
    have c0 := HW5.out.bv.cell (j := 0) (by rw [HC.out]; rfl)
    have c1 := HW5.out.bv.cell (j := 1) (by rw [HC.out]; rfl)
    have c2 := HW5.out.bv.cell (j := 2) (by rw [HC.out]; rfl)
    have c3 := HW5.out.bv.cell (j := 3) (by rw [HC.out]; rfl)
    have c4 := HW5.out.bv.cell (j := 4) (by rw [HC.out]; rfl)
    have c5 := HW5.out.bv.cell (j := 5) (by rw [HC.out]; rfl)
    have c6 := HW5.out.bv.cell (j := 6) (by rw [HC.out]; rfl)
    have c7 := HW5.out.bv.cell (j := 7) (by rw [HC.out]; rfl)
    go_wp2_with (go_at_call 13; refine (HGO.out _ HW5.out.hb).mono ?_; rintro r w6 ⟨q, cq, rfl, hu, hb⟩; have HU6 := Lib.hid hu; have HW6 := Lib.hid (HW5.out.kept hb); clear hu hb)
    obtain ⟨bb, hbb⟩ : ∃ bb, bb = w5.heap.size := ⟨_, rfl⟩
    rw [← hbb] at HU6 HZ5
    clear hbb n0 n1 n2 n3 n4 n5 n6 n7 c0 c1 c2 c3 c4 c5 c6 c7 HGO HW4 HZ4 HW5
    go_loopw [26] (fun i wr => ∃ k : Nat, k ≤ m ∧ i = .int .i64 (k : Int) ∧ Hid (OwnU wr bb (.slice q m cq) G) ∧ Hid (AtW w wr X Z D C (addAll d1 (G.take k)))) (fun i _ => m - (intOf i).toNat)
    case atStart => exact ⟨0, Nat.zero_le _, rfl, HU6, HW6⟩
    case round =>
      obtain ⟨k, hk, rfl, HU, HW⟩ := hrel
      obtain ⟨cur, hcur⟩ : ∃ cur, cur = addAll d1 (G.take k) := ⟨_, rfl⟩
      by_cases hlt : k < m
      · have HKN : Hid (k < G.length) := Lib.hid (by have := HM.out; omega)
        obtain ⟨u, hu⟩ : ∃ u, u = G[k]'HKN.out := ⟨_, rfl⟩
        have HLC := Lib.hid (HU.out.usw.at HKN.out)
        rw [← hu] at HLC
        have HNX : Hid (addAll d1 (G.take (k + 1)) = (addR cur u.a).1) := Lib.hid (by rw [hu, hcur]; exact addAll_take HKN.out d1)
        rw [← hcur] at HW
        clear hu hcur
        obtain ⟨b, o, rfl, hcell⟩ := HLC.out
        have q0 := hcell 0 _ rfl
        rw [Nat.add_zero] at q0
        have q1 := hcell 1 _ rfl
        have q2 := hcell 2 _ rfl
        have q3 := hcell 3 _ rfl
        have q4 := hcell 4 _ rfl
        have q5 := hcell 5 _ rfl
        have q6 := hcell 6 _ rfl
        have q7 := hcell 7 _ rfl
        have q8 := hcell 8 _ rfl
        clear hcell HLC
        go_upto_region 7 with fail
        obtain ⟨Y, hY⟩ : ∃ Y, Y = wr.heap.size := ⟨_, rfl⟩
        refine at_hide (F := fun w' => Blk w' Y (usC u) 45 ∧ OwnU w' bb (.slice (some ⟨b, o, none⟩) m cq) G ∧ AtW w w' X Z D C cur) ⟨by rw [hY]; exact Blk.made wr (usC u) _, HU.out.kept (below_alloc _ _), HW.out.kept (below_alloc _ _)⟩ ?_
        rw [← hY]
        intro w7 hF
        have HY7 := Lib.hid hF.1
        have HU7 := Lib.hid hF.2.1
        have HW7 := Lib.hid hF.2.2
        clear hF hY q0 q1 q2 q3 q4 q5 q6 q7 q8 HW HU
        have y3 := HY7.out.cell (j := 3) rfl
        have y4 := HY7.out.cell (j := 4) rfl
        have y5 := HY7.out.cell (j := 5) rfl
        have y6 := HY7.out.cell (j := 6) rfl
        have z0 := HW7.out.bz.cell (j := 0) (rfl)
        have z1 := HW7.out.bz.cell (j := 1) (rfl)
        have z2 := HW7.out.bz.cell (j := 2) (rfl)
        have z3 := HW7.out.bz.cell (j := 3) (rfl)
        obtain ⟨e, he⟩ : ∃ e, e = addR cur u.a := ⟨_, rfl⟩
        have HAD : Hid (Calls Tryd.prog 30 #[amV cur, amV u.a] w7 fun r w' => r = .returned (.tuple #[amV e.1, .int .i64 e.2]) ∧ Below w7.heap.size w7 w') := Lib.hid (by rw [he]; exact add_any cur u.a w7)
        rw [← he] at HNX
        clear he
        obtain ⟨e1, e2⟩ := e
        simp only at HAD HNX
        go_wp2_with (go_at_call 30; refine HAD.out.mono ?_; rintro r w8 ⟨rfl, hb⟩; have HU8 := Lib.hid (HU7.out.kept hb); have HW8 := Lib.hid (HW7.out.kept hb); have f0 := HW8.out.bz.free 0; have f1 := HW8.out.bz.free 1; have f2 := HW8.out.bz.free 2; have f3 := HW8.out.bz.free 3; have s0 := HW8.out.bz.cell (j := 0) rfl; have s1 := HW8.out.bz.cell (j := 1) rfl; have s2 := HW8.out.bz.cell (j := 2) rfl; have s3 := HW8.out.bz.cell (j := 3) rfl; clear hb)
        refine ⟨⟨k + 1, by omega, by go_num, Lib.hid (HU8.out.fill4 HZ5.out _ _ _ _), Lib.hid (by rw [HNX.out]; exact HW8.out.fill HXZ.out (by have := HXW.out; have := HXZ.out; omega))⟩, by simp [intOf]; omega⟩
      · obtain rfl : k = m := by omega
        have HCR : Hid (cur = addAll d1 G) := Lib.hid (by rw [hcur, HM.out, List.take_length])
        rw [← hcur] at HW
        rw [← HCR.out] at HAT
        clear hcur HCR
        have z0 := HW.out.bz.cell (j := 0) (rfl)
        have z1 := HW.out.bz.cell (j := 1) (rfl)
        have z2 := HW.out.bz.cell (j := 2) (rfl)
        have z3 := HW.out.bz.cell (j := 3) (rfl)
        have n2 := HW.out.bn.cell (j := 2) (by rw [HD.out]; rfl)
        have n3 := HW.out.bn.cell (j := 3) (by rw [HD.out]; rfl)
        have n4 := HW.out.bn.cell (j := 4) (by rw [HD.out]; rfl)
        have n5 := HW.out.bn.cell (j := 5) (by rw [HD.out]; rfl)
        have HF2 := Lib.hid (HFI.out cur)
        cases hf : fitsB N.a cur with
        | true =>
          rw [hf] at HF2
          rw [hf, if_pos rfl] at HAT
          clear hf
          go_wp2_with (go_at_call 29; refine (HF2.out _).mono ?_; rintro r w9 ⟨rfl, hb⟩; have HW9 := Lib.hid (HW.out.kept hb); clear hb)
          go_ret
          rw [HAT.out]
          exact ⟨rfl, HW9.out.hb⟩
        | false =>
          rw [hf] at HF2
          rw [hf, if_neg (by decide)] at HAT
          clear hf
          go_wp2_with (go_at_call 29; refine (HF2.out _).mono ?_; rintro r w9 ⟨rfl, hb⟩; have HW9 := Lib.hid (HW.out.kept hb); clear hb)
          go_ret
          rw [HAT.out]
          exact ⟨rfl, HW9.out.hb⟩
end Go.Proofs.YtaipldegobjboaaDoor.Ft
