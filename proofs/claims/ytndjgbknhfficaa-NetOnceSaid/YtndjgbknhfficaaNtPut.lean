/- put, Send (written by gennet.py). -/
import Derived.Test.YtndjgbknhfficaaNtBase
namespace Go.Proofs.Ytndjgbknhfficaa.Nt
open Go.RowKit Go.Proofs.Ytndjgbknhfficaa Go.Proofs.Ytndjgbknhfficaa.So

structure PutW (w wx : World) (b mb X : Nat) (last : Int) (E : List En) (C : List Value) : Prop where
  nb : Blk wx b [.map (some mb), .int .u64 last] 59
  mp : NMap Try.prog 25 wx mb (nM E)
  bx : Blk wx X C 32
  fr : Frp (fun k => k = b) w wx
theorem PutW.made {w : World} {b mb : Nat} {last : Int} {E : List En} (h : PNet w b mb last E) (C : List Value) : PutW w (w.alloc (.cells C.toArray 32)) b mb w.heap.size last E C :=
  ⟨h.blk.alloc _, h.map.kept (below_alloc _ _), Blk.made w C _, Frp.of_below (below_alloc _ _) _⟩
theorem PutW.one {w wx : World} {b mb X : Nat} {last : Int} {E : List En} {C : List Value} (h : PutW w wx b mb X last E C) (hne : b ≠ X) (hm : b ≠ mb) (x : Int) : PutW w (wx.setCell ⟨b, 1, none⟩ (.int .u64 x)) b mb X x E C :=
  ⟨h.nb.set 1 _, NMap.fr h.mp ((Fr.refl [b] wx).set (by simp) _) (by simp; exact fun e => hm e.symm), h.bx.other (by exact fun e => hne e.symm) _, h.fr.set rfl _⟩
theorem PutW.two {w wx : World} {b mb X : Nat} {last : Int} {E : List En} {C : List Value} (h : PutW w wx b mb X last E C) (hne : b ≠ X) (hX : w.heap.size ≤ X) (hm : X ≠ mb) (j : Nat) (u : Value) : PutW w (wx.setCell ⟨X, j, none⟩ u) b mb X last E (C.set j u) :=
  ⟨h.nb.other (by exact hne) _, NMap.fr h.mp ((Fr.refl [X] wx).set (by simp) _) (by simp; exact fun e => hm e.symm), h.bx.set j _, h.fr.trans (Q := fun k => k = X) ((Frp.refl (fun k => k = X) wx).set (p := ⟨X, j, none⟩) rfl _) (fun x hx => by subst hx; exact .inr hX)⟩

set_option maxRecDepth 100000 in
set_option maxHeartbeats 4000000 in
theorem put_any {w : World} {b mb : Nat} {last : Int} {E : List En} {k : Nat} (n0 f0 fi sd rc : Int) (bd : List UInt8) (v : Value) (h : PNet w b mb last E) (hi : NI last E k) (hk : k ≤ 4000) (hf : fi = if f0 = 0 then last + 1 else f0) (ho : w.ownsRow 0 5 1 v bd.length (bd.map B)) :
    Calls Try.prog 33 #[ptr b, ltV ⟨n0, f0, sd, rc, bd⟩ v] w fun e w' => e = .returned (.tuple #[.int .u64 (last + 1), .int .i64 0]) ∧ PNet w' b mb (last + 1) (E ++ [⟨⟨last + 1, fi, sd, rc, bd⟩, v⟩]) ∧ Frp (NP b mb) w w' := by
  obtain ⟨p, c, rfl, -, -⟩ := own_slice ho
  obtain ⟨X, hX⟩ : ∃ X, X = w.heap.size := ⟨_, rfl⟩
  have hbX : b ≠ X := by have := h.lt.1; omega
  have hmX : X ≠ mb := by have := h.lt.2; omega
  have hbm := h.ne
  obtain ⟨len, hlen⟩ : ∃ len, len = bd.length := ⟨_, rfl⟩
  have hl0 := hi.last.1
  have hl1 : last ≤ 4000 := by have := hi.last.2; omega
  have hen : E.length ≤ 4000 := by have := hi.len; omega
  have H := Lib.hid h
  have HI := Lib.hid hi
  have HO := Lib.hid ho
  have HLN := Lib.hid hlen
  have HXW : Hid (w.heap.size ≤ X) := Lib.hid (by omega)
  have HWF : Hid ((Lit.int .u64 (last + 1)).wf = true) := Lib.hid (by simp [Lit.wf, IntKind.min, IntKind.max, IntKind.bits, IntKind.signed]; omega)
  have HW0 := Lib.hid (PutW.made h (ltC ⟨n0, f0, sd, rc, bd⟩ (.slice p bd.length c)))
  rw [← hX] at HW0
  have HFI := Lib.hid hf
  rw [← hlen] at HW0 ⊢
  clear h hi ho hlen hf
  go_enter Try.func33, Try.ntmps33
  go_upto_region 1 with fail
  obtain ⟨w1, hw1⟩ : ∃ w1, w1 = w.alloc (.cells #[.int .u64 n0, .int .u64 f0, .int .i64 sd, .int .i64 rc, .slice p len c] 32) := ⟨_, rfl⟩
  have HW1 : Hid (PutW w w1 b mb X last E [.int .u64 n0, .int .u64 f0, .int .i64 sd, .int .i64 rc, .slice p len c]) := Lib.hid (by rw [hw1]; exact HW0.out)
  rw [← hX, ← hw1]
  clear hw1 hX HW0
  have c0 := HW1.out.nb.cell (j := 0) rfl
  have c1 := HW1.out.nb.cell (j := 1) rfl
  have f1 := HW1.out.nb.free 1
  have x1 := HW1.out.bx.cell (j := 1) rfl
  have x0 := HW1.out.bx.cell (j := 0) rfl
  have g0 := HW1.out.bx.free 0
  have g1 := HW1.out.bx.free 1
  obtain ⟨m, hm⟩ : ∃ m, m = E.length := ⟨_, rfl⟩
  have HM : Hid ((nM E).length = m) := Lib.hid (by rw [nM_len, hm])
  rw [← hm] at hen
  clear hm
  go_upto_region 3 with (refine wpList_nlen _ rfl _ _ rfl _ _ Try.underlying57 _ _ rfl HW1.out.mp ?_; rw [HM.out])
  by_cases h0 : f0 = 0
  · have t0 : (f0 == 0) = true := by simpa using h0
    go_upto_region 7 with fail
    obtain ⟨wx, hwx⟩ : ∃ xq, xq = (((w1.setCell ⟨b, 1, none⟩ (.int .u64 (last + 1))).setCell ⟨X, 0, none⟩ (.int .u64 (last + 1))).setCell ⟨X, 1, none⟩ (.int .u64 (last + 1))) := ⟨_, rfl⟩
    have HWX : Hid (PutW w wx b mb X (last + 1) E [.int .u64 (last + 1), .int .u64 (last + 1), .int .i64 sd, .int .i64 rc, .slice p len c]) := Lib.hid (by rw [hwx]; exact ((HW1.out.one hbX hbm (last + 1)).two hbX HXW.out hmX 0 (.int .u64 (last + 1))).two hbX HXW.out hmX 1 (.int .u64 (last + 1)))
    rw [← hwx]
    clear hwx c0 c1 f1 x1 x0 g0 g1
    have HFF : Hid (fi = (last + 1)) := Lib.hid (by rw [HFI.out, if_pos h0])
    have c0 := HWX.out.nb.cell (j := 0) rfl
    have x0 := HWX.out.bx.cell (j := 0) rfl
    have x1 := HWX.out.bx.cell (j := 1) rfl
    have x2 := HWX.out.bx.cell (j := 2) rfl
    have x3 := HWX.out.bx.cell (j := 3) rfl
    have x4 := HWX.out.bx.cell (j := 4) rfl
    obtain ⟨w3, hrun, hm3, hg3⟩ := NMap.store (HWX.out.mp.kept (below_drewN 1)) Try.underlying25 Try.underlying57 (by rw [HM.out]; unfold maxLen; omega) HWF.out (.agg #[.int .u64 (last + 1), .int .u64 (last + 1), .int .i64 sd, .int .i64 rc, .slice p len c])
    have hrun' : (Instr.mapUpdate 57 (.map (some mb)) (.int .u64 (last + 1)) (.agg #[.int .u64 (last + 1), .int .u64 (last + 1), .int .i64 sd, .int .i64 rc, .slice p len c])).run Try.prog wx.drew = .ok () w3 := hrun
    have HM3 := Lib.hid hm3
    have HG3 := Lib.hid hg3
    have y0 : w3.cell? ⟨X, 0, none⟩ = some (.int .u64 (last + 1)) := ((HWX.out.bx.kept (below_drewN 1)).grown hg3 (by simpa using hmX)).cell (j := 0) rfl
    clear hm3 hg3 hrun
    have hfr : Frp (NP b mb) w w3 := ((HWX.out.fr.mono (Q := NP b mb) (fun k hk => .inl hk)).next (below_drewN 1)).grown HG3.out (fun k hk => by cases hk; exact .inl (.inr rfl))
    have hput := nM_put E ⟨⟨last + 1, (last + 1), sd, rc, bd⟩, .slice p len c⟩ (fun x hx => by have := (HI.out.no x hx).2; show x.l.no < last + 1; omega)
    have hfin : PNet w3 b mb (last + 1) (E ++ [⟨⟨last + 1, fi, sd, rc, bd⟩, .slice p len c⟩]) := by
      rw [HFF.out]
      have hm4 := HM3.out
      exact H.out.add hfr ((HWX.out.nb.kept (below_drewN 1)).grown HG3.out (by simpa using hbm)) (by rw [← hput]; exact hm4) (by rw [HLN.out]; exact own_frp HO.out hfr (H.out.ap HO.out))
    have HFIN := Lib.hid (And.intro hfin hfr)
    clear hfr hput hfin
    go_region_with (fail)
    all_goals go_wp2
    all_goals go_ret2
    all_goals exact ⟨rfl, HFIN.out⟩
  · have t0 : (f0 == 0) = false := by simpa using h0
    go_upto_region 7 with fail
    obtain ⟨wx, hwx⟩ : ∃ xq, xq = ((w1.setCell ⟨b, 1, none⟩ (.int .u64 (last + 1))).setCell ⟨X, 0, none⟩ (.int .u64 (last + 1))) := ⟨_, rfl⟩
    have HWX : Hid (PutW w wx b mb X (last + 1) E [.int .u64 (last + 1), .int .u64 f0, .int .i64 sd, .int .i64 rc, .slice p len c]) := Lib.hid (by rw [hwx]; exact (HW1.out.one hbX hbm (last + 1)).two hbX HXW.out hmX 0 (.int .u64 (last + 1)))
    rw [← hwx]
    clear hwx c0 c1 f1 x1 x0 g0 g1
    have HFF : Hid (fi = f0) := Lib.hid (by rw [HFI.out, if_neg h0])
    have c0 := HWX.out.nb.cell (j := 0) rfl
    have x0 := HWX.out.bx.cell (j := 0) rfl
    have x1 := HWX.out.bx.cell (j := 1) rfl
    have x2 := HWX.out.bx.cell (j := 2) rfl
    have x3 := HWX.out.bx.cell (j := 3) rfl
    have x4 := HWX.out.bx.cell (j := 4) rfl
    obtain ⟨w3, hrun, hm3, hg3⟩ := NMap.store (HWX.out.mp.kept (below_drewN 1)) Try.underlying25 Try.underlying57 (by rw [HM.out]; unfold maxLen; omega) HWF.out (.agg #[.int .u64 (last + 1), .int .u64 f0, .int .i64 sd, .int .i64 rc, .slice p len c])
    have hrun' : (Instr.mapUpdate 57 (.map (some mb)) (.int .u64 (last + 1)) (.agg #[.int .u64 (last + 1), .int .u64 f0, .int .i64 sd, .int .i64 rc, .slice p len c])).run Try.prog wx.drew = .ok () w3 := hrun
    have HM3 := Lib.hid hm3
    have HG3 := Lib.hid hg3
    have y0 : w3.cell? ⟨X, 0, none⟩ = some (.int .u64 (last + 1)) := ((HWX.out.bx.kept (below_drewN 1)).grown hg3 (by simpa using hmX)).cell (j := 0) rfl
    clear hm3 hg3 hrun
    have hfr : Frp (NP b mb) w w3 := ((HWX.out.fr.mono (Q := NP b mb) (fun k hk => .inl hk)).next (below_drewN 1)).grown HG3.out (fun k hk => by cases hk; exact .inl (.inr rfl))
    have hput := nM_put E ⟨⟨last + 1, f0, sd, rc, bd⟩, .slice p len c⟩ (fun x hx => by have := (HI.out.no x hx).2; show x.l.no < last + 1; omega)
    have hfin : PNet w3 b mb (last + 1) (E ++ [⟨⟨last + 1, fi, sd, rc, bd⟩, .slice p len c⟩]) := by
      rw [HFF.out]
      have hm4 := HM3.out
      exact H.out.add hfr ((HWX.out.nb.kept (below_drewN 1)).grown HG3.out (by simpa using hbm)) (by rw [← hput]; exact hm4) (by rw [HLN.out]; exact own_frp HO.out hfr (H.out.ap HO.out))
    have HFIN := Lib.hid (And.intro hfin hfr)
    clear hfr hput hfin
    go_region_with (fail)
    all_goals go_wp2
    all_goals go_ret2
    all_goals exact ⟨rfl, HFIN.out⟩
end Go.Proofs.Ytndjgbknhfficaa.Nt
