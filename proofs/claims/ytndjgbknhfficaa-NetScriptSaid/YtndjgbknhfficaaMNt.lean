/- , laid together: NtBase, NtPut, NtSend, NtFind, NtDbl. -/
import Derived.Test.YtndjgbknhfficaaNtMem
import Derived.Laws.ResultCell
import Derived.Laws.Rows
namespace Go.Proofs.Ytndjgbknhfficaa.Nt
open Go.RowKit Go.Proofs.Ytndjgbknhfficaa Go.Proofs.Ytndjgbknhfficaa.So

set_option maxRecDepth 100000 in
set_option maxHeartbeats 2000000 in
theorem none_no {w : World} {b mb : Nat} {last : Int} {E : List En} (h : PNet w b mb last E) : Calls Try.prog 31 #[ptr b] w fun e w' => e = .returned (.bool false) ∧ w = w' := by
  have c0 := h.blk.cell (j := 0) rfl
  clear h
  have he := fun w r => run_eql_map_nil (P := Try.prog) w 57 25 32 r Try.underlying57
  go_enter Try.func31, Try.ntmps31
  go_wp2
  go_ret
  exact ⟨rfl, rfl⟩
set_option maxRecDepth 100000 in
set_option maxHeartbeats 2000000 in
theorem none_nil (w : World) : Calls Try.prog 31 #[.pointer none] w fun e w' => e = .returned (.bool true) ∧ w = w' := by
  go_enter Try.func31, Try.ntmps31
  go_wp2
  go_ret
  exact ⟨rfl, rfl⟩
set_option maxRecDepth 100000 in
set_option maxHeartbeats 2000000 in
theorem none_un (b : Nat) (w : World) (h : w.cell? ⟨b, 0, none⟩ = some (.map none)) : Calls Try.prog 31 #[ptr b] w fun e w' => e = .returned (.bool true) ∧ w = w' := by
  have he := fun w r => run_eql_map_nil (P := Try.prog) w 57 25 32 r Try.underlying57
  go_enter Try.func31, Try.ntmps31
  go_wp2
  go_ret
  exact ⟨rfl, rfl⟩
def nodeB (x : Int) : Bool := decide (0 ≤ x) && decide (x ≤ 63)
set_option maxRecDepth 100000 in
set_option maxHeartbeats 2000000 in
theorem node_any (x : Int) (w : World) : Calls Try.prog 32 #[.int .i64 x] w fun e w' => e = .returned (.bool (nodeB x)) ∧ w = w' := by
  obtain ⟨r, hr⟩ : ∃ r, r = nodeB x := ⟨_, rfl⟩
  rw [← hr]
  have HR := Lib.hid hr
  clear hr
  by_cases h0 : 0 ≤ x
  · have t0 : decide (0 ≤ x) = true := decide_eq_true h0
    by_cases h1 : x ≤ 63
    · have t1 : decide (x ≤ 63) = true := decide_eq_true h1
      go_enter Try.func32, Try.ntmps32
      go_wp2
      go_ret
      exact ⟨by rw [HR.out]; unfold nodeB; rw [t0, t1]; rfl, rfl⟩
    · have t1 : decide (x ≤ 63) = false := decide_eq_false h1
      go_enter Try.func32, Try.ntmps32
      go_wp2
      go_ret
      exact ⟨by rw [HR.out]; unfold nodeB; rw [t0, t1]; rfl, rfl⟩
  · have t0 : decide (0 ≤ x) = false := decide_eq_false h0
    go_enter Try.func32, Try.ntmps32
    go_wp2
    go_ret
    exact ⟨by rw [HR.out]; unfold nodeB; rw [t0]; rfl, rfl⟩
set_option maxRecDepth 100000 in
set_option maxHeartbeats 2000000 in
theorem sent_any {w : World} {b mb : Nat} {last : Int} {E : List En} (h : PNet w b mb last E) : Calls Try.prog 27 #[ptr b] w fun e w' => e = .returned (.int .u64 last) ∧ w = w' := by
  have H := Lib.hid h
  have c1 := h.blk.cell (j := 1) rfl
  clear h
  go_enter Try.func27, Try.ntmps27
  go_wp2_with (go_at_call 31; refine (none_no H.out).mono ?_; rintro e w2 ⟨rfl, rfl⟩)
  go_ret
  exact ⟨rfl, rfl⟩
set_option maxRecDepth 100000 in
set_option maxHeartbeats 2000000 in
theorem new_any (w : World) : Calls Try.prog 8 #[] w fun e w' => ∃ b mb, e = .returned (ptr b) ∧ w.heap.size ≤ b ∧ w.heap.size ≤ mb ∧ PNet w' b mb 0 [] ∧ Below w.heap.size w w' := by
  have hmk := @run_makeMap Try.prog
  go_enter Try.func8, Try.ntmps8
  go_wp2
  go_ret
  refine ⟨w.heap.size + 1, w.heap.size, rfl, by omega, Nat.le_refl _, ⟨?_, ?_, by simp⟩, below_and (below_alloc w _) (below_alloc _ _)⟩
  · have := Blk.made (w.alloc (.map #[] 0)) [.map (some w.heap.size), .int .u64 0] 59
    simpa using this
  · exact (nmap_made w _ _).kept (below_alloc _ _)
end Go.Proofs.Ytndjgbknhfficaa.Nt

namespace Go.Proofs.Ytndjgbknhfficaa.Nt
open Go.RowKit Go.Proofs.Ytndjgbknhfficaa Go.Proofs.Ytndjgbknhfficaa.So

structure PutW (w wx : World) (b mb X : Nat) (last : Int) (E : List En) (C : List Value) : Prop where
  nb : Blk wx b [.map (some mb), .int .u64 last] 59
  mp : NMap Try.prog 25 wx mb (nM E)
  bx : Blk wx X C 32
  fr : Frp (fun k => k = b) w wx
theorem PutW.made {w : World} {b mb : Nat} {last : Int} {E : List En} (h : PNet w b mb last E) (C : List Value) : PutW w (w.alloc (.cells C.toArray 32)) b mb w.heap.size last E C :=
  ⟨h.blk.alloc _, h.map.kept (below_alloc _ _), Blk.made w C _, Frp.of_below (below_alloc _ _) _⟩
theorem PutW.one {w wx : World} {b mb X : Nat} {last : Int} {E : List En} {C : List Value} (h : PutW w wx b mb X last E C) (hne : b ≠ X) (hm : b ≠ mb) (x : Int) : PutW w (wx.setCell ⟨b, 1, none⟩ (.int .u64 x)) b mb X x E C :=
  ⟨h.nb.set 1 _, NMap.fr h.mp ((Fr.refl [b] wx).set (by simp) _) (by simp; exact fun e => hm e.symm), h.bx.other (by exact fun e => hne e.symm) _, h.fr.set rfl _⟩
theorem PutW.two {w wx : World} {b mb X : Nat} {last : Int} {E : List En} {C : List Value} (h : PutW w wx b mb X last E C) (hne : b ≠ X) (hX : w.heap.size ≤ X) (hm : X ≠ mb) (j : Nat) (u : Value) : PutW w (wx.setCell ⟨X, j, none⟩ u) b mb X last E (C.set j u) :=
  ⟨h.nb.other (by exact hne) _, NMap.fr h.mp ((Fr.refl [X] wx).set (by simp) _) (by simp; exact fun e => hm e.symm), h.bx.set j _, h.fr.trans (Q := fun k => k = X) ((Frp.refl (fun k => k = X) wx).set (p := ⟨X, j, none⟩) rfl _) (fun x hx => by subst hx; exact .inr hX)⟩

set_option maxRecDepth 100000 in
set_option maxHeartbeats 4000000 in
theorem put_any {w : World} {b mb : Nat} {last : Int} {E : List En} {k : Nat} (n0 f0 fi sd rc : Int) (bd : List UInt8) (v : Value) (h : PNet w b mb last E) (hi : NI last E k) (hk : k ≤ 4000) (hf : fi = if f0 = 0 then last + 1 else f0) (ho : w.ownsRow 0 5 1 v bd.length (bd.map B)) :
    Calls Try.prog 33 #[ptr b, ltV ⟨n0, f0, sd, rc, bd⟩ v] w fun e w' => e = .returned (.tuple #[.int .u64 (last + 1), .int .i64 0]) ∧ PNet w' b mb (last + 1) (E ++ [⟨⟨last + 1, fi, sd, rc, bd⟩, v⟩]) ∧ Frp (NP b mb) w w' := by
  obtain ⟨p, c, rfl, -, -⟩ := own_slice ho
  obtain ⟨X, hX⟩ : ∃ X, X = w.heap.size := ⟨_, rfl⟩
  have hbX : b ≠ X := by have := h.lt.1; omega
  have hmX : X ≠ mb := by have := h.lt.2; omega
  have hbm := h.ne
  obtain ⟨len, hlen⟩ : ∃ len, len = bd.length := ⟨_, rfl⟩
  have hl0 := hi.last.1
  have hl1 : last ≤ 4000 := by have := hi.last.2; omega
  have hen : E.length ≤ 4000 := by have := hi.len; omega
  have H := Lib.hid h
  have HI := Lib.hid hi
  have HO := Lib.hid ho
  have HLN := Lib.hid hlen
  have HXW : Hid (w.heap.size ≤ X) := Lib.hid (by omega)
  have HWF : Hid ((Lit.int .u64 (last + 1)).wf = true) := Lib.hid (by simp [Lit.wf, IntKind.min, IntKind.max, IntKind.bits, IntKind.signed]; omega)
  have HW0 := Lib.hid (PutW.made h (ltC ⟨n0, f0, sd, rc, bd⟩ (.slice p bd.length c)))
  rw [← hX] at HW0
  have HFI := Lib.hid hf
  rw [← hlen] at HW0 ⊢
  clear h hi ho hlen hf
  go_enter Try.func33, Try.ntmps33
  go_upto_region 1 with fail
  obtain ⟨w1, hw1⟩ : ∃ w1, w1 = w.alloc (.cells #[.int .u64 n0, .int .u64 f0, .int .i64 sd, .int .i64 rc, .slice p len c] 32) := ⟨_, rfl⟩
  have HW1 : Hid (PutW w w1 b mb X last E [.int .u64 n0, .int .u64 f0, .int .i64 sd, .int .i64 rc, .slice p len c]) := Lib.hid (by rw [hw1]; exact HW0.out)
  rw [← hX, ← hw1]
  clear hw1 hX HW0
  have c0 := HW1.out.nb.cell (j := 0) rfl
  have c1 := HW1.out.nb.cell (j := 1) rfl
  have f1 := HW1.out.nb.free 1
  have x1 := HW1.out.bx.cell (j := 1) rfl
  have x0 := HW1.out.bx.cell (j := 0) rfl
  have g0 := HW1.out.bx.free 0
  have g1 := HW1.out.bx.free 1
  obtain ⟨m, hm⟩ : ∃ m, m = E.length := ⟨_, rfl⟩
  have HM : Hid ((nM E).length = m) := Lib.hid (by rw [nM_len, hm])
  rw [← hm] at hen
  clear hm
  go_upto_region 3 with (refine wpList_nlen _ rfl _ _ rfl _ _ Try.underlying57 _ _ rfl HW1.out.mp ?_; rw [HM.out])
  by_cases h0 : f0 = 0
  · have t0 : (f0 == 0) = true := by simpa using h0
    go_upto_region 7 with fail
    obtain ⟨wx, hwx⟩ : ∃ xq, xq = (((w1.setCell ⟨b, 1, none⟩ (.int .u64 (last + 1))).setCell ⟨X, 0, none⟩ (.int .u64 (last + 1))).setCell ⟨X, 1, none⟩ (.int .u64 (last + 1))) := ⟨_, rfl⟩
    have HWX : Hid (PutW w wx b mb X (last + 1) E [.int .u64 (last + 1), .int .u64 (last + 1), .int .i64 sd, .int .i64 rc, .slice p len c]) := Lib.hid (by rw [hwx]; exact ((HW1.out.one hbX hbm (last + 1)).two hbX HXW.out hmX 0 (.int .u64 (last + 1))).two hbX HXW.out hmX 1 (.int .u64 (last + 1)))
    rw [← hwx]
    clear hwx c0 c1 f1 x1 x0 g0 g1
    have HFF : Hid (fi = (last + 1)) := Lib.hid (by rw [HFI.out, if_pos h0])
    have c0 := HWX.out.nb.cell (j := 0) rfl
    have x0 := HWX.out.bx.cell (j := 0) rfl
    have x1 := HWX.out.bx.cell (j := 1) rfl
    have x2 := HWX.out.bx.cell (j := 2) rfl
    have x3 := HWX.out.bx.cell (j := 3) rfl
    have x4 := HWX.out.bx.cell (j := 4) rfl
    obtain ⟨w3, hrun, hm3, hg3⟩ := NMap.store (HWX.out.mp.kept (below_drewN 1)) Try.underlying25 Try.underlying57 (by rw [HM.out]; unfold maxLen; omega) HWF.out (.agg #[.int .u64 (last + 1), .int .u64 (last + 1), .int .i64 sd, .int .i64 rc, .slice p len c])
    have hrun' : (Instr.mapUpdate 57 (.map (some mb)) (.int .u64 (last + 1)) (.agg #[.int .u64 (last + 1), .int .u64 (last + 1), .int .i64 sd, .int .i64 rc, .slice p len c])).run Try.prog wx.drew = .ok () w3 := hrun
    have HM3 := Lib.hid hm3
    have HG3 := Lib.hid hg3
    have y0 : w3.cell? ⟨X, 0, none⟩ = some (.int .u64 (last + 1)) := ((HWX.out.bx.kept (below_drewN 1)).grown hg3 (by simpa using hmX)).cell (j := 0) rfl
    clear hm3 hg3 hrun
    have hfr : Frp (NP b mb) w w3 := ((HWX.out.fr.mono (Q := NP b mb) (fun k hk => .inl hk)).next (below_drewN 1)).grown HG3.out (fun k hk => by cases hk; exact .inl (.inr rfl))
    have hput := nM_put E ⟨⟨last + 1, (last + 1), sd, rc, bd⟩, .slice p len c⟩ (fun x hx => by have := (HI.out.no x hx).2; show x.l.no < last + 1; omega)
    have hfin : PNet w3 b mb (last + 1) (E ++ [⟨⟨last + 1, fi, sd, rc, bd⟩, .slice p len c⟩]) := by
      rw [HFF.out]
      have hm4 := HM3.out
      exact H.out.add hfr ((HWX.out.nb.kept (below_drewN 1)).grown HG3.out (by simpa using hbm)) (by rw [← hput]; exact hm4) (by rw [HLN.out]; exact own_frp HO.out hfr (H.out.ap HO.out))
    have HFIN := Lib.hid (And.intro hfin hfr)
    clear hfr hput hfin
    go_region_with (fail)
    all_goals go_wp2
    all_goals go_ret2
    all_goals exact ⟨rfl, HFIN.out⟩
  · have t0 : (f0 == 0) = false := by simpa using h0
    go_upto_region 7 with fail
    obtain ⟨wx, hwx⟩ : ∃ xq, xq = ((w1.setCell ⟨b, 1, none⟩ (.int .u64 (last + 1))).setCell ⟨X, 0, none⟩ (.int .u64 (last + 1))) := ⟨_, rfl⟩
    have HWX : Hid (PutW w wx b mb X (last + 1) E [.int .u64 (last + 1), .int .u64 f0, .int .i64 sd, .int .i64 rc, .slice p len c]) := Lib.hid (by rw [hwx]; exact (HW1.out.one hbX hbm (last + 1)).two hbX HXW.out hmX 0 (.int .u64 (last + 1)))
    rw [← hwx]
    clear hwx c0 c1 f1 x1 x0 g0 g1
    have HFF : Hid (fi = f0) := Lib.hid (by rw [HFI.out, if_neg h0])
    have c0 := HWX.out.nb.cell (j := 0) rfl
    have x0 := HWX.out.bx.cell (j := 0) rfl
    have x1 := HWX.out.bx.cell (j := 1) rfl
    have x2 := HWX.out.bx.cell (j := 2) rfl
    have x3 := HWX.out.bx.cell (j := 3) rfl
    have x4 := HWX.out.bx.cell (j := 4) rfl
    obtain ⟨w3, hrun, hm3, hg3⟩ := NMap.store (HWX.out.mp.kept (below_drewN 1)) Try.underlying25 Try.underlying57 (by rw [HM.out]; unfold maxLen; omega) HWF.out (.agg #[.int .u64 (last + 1), .int .u64 f0, .int .i64 sd, .int .i64 rc, .slice p len c])
    have hrun' : (Instr.mapUpdate 57 (.map (some mb)) (.int .u64 (last + 1)) (.agg #[.int .u64 (last + 1), .int .u64 f0, .int .i64 sd, .int .i64 rc, .slice p len c])).run Try.prog wx.drew = .ok () w3 := hrun
    have HM3 := Lib.hid hm3
    have HG3 := Lib.hid hg3
    have y0 : w3.cell? ⟨X, 0, none⟩ = some (.int .u64 (last + 1)) := ((HWX.out.bx.kept (below_drewN 1)).grown hg3 (by simpa using hmX)).cell (j := 0) rfl
    clear hm3 hg3 hrun
    have hfr : Frp (NP b mb) w w3 := ((HWX.out.fr.mono (Q := NP b mb) (fun k hk => .inl hk)).next (below_drewN 1)).grown HG3.out (fun k hk => by cases hk; exact .inl (.inr rfl))
    have hput := nM_put E ⟨⟨last + 1, f0, sd, rc, bd⟩, .slice p len c⟩ (fun x hx => by have := (HI.out.no x hx).2; show x.l.no < last + 1; omega)
    have hfin : PNet w3 b mb (last + 1) (E ++ [⟨⟨last + 1, fi, sd, rc, bd⟩, .slice p len c⟩]) := by
      rw [HFF.out]
      have hm4 := HM3.out
      exact H.out.add hfr ((HWX.out.nb.kept (below_drewN 1)).grown HG3.out (by simpa using hbm)) (by rw [← hput]; exact hm4) (by rw [HLN.out]; exact own_frp HO.out hfr (H.out.ap HO.out))
    have HFIN := Lib.hid (And.intro hfin hfr)
    clear hfr hput hfin
    go_region_with (fail)
    all_goals go_wp2
    all_goals go_ret2
    all_goals exact ⟨rfl, HFIN.out⟩
end Go.Proofs.Ytndjgbknhfficaa.Nt

namespace Go.Proofs.Ytndjgbknhfficaa.Nt
open Go.RowKit Go.Proofs.Ytndjgbknhfficaa Go.Proofs.Ytndjgbknhfficaa.So

set_option maxRecDepth 100000 in
set_option maxHeartbeats 2000000 in
theorem send_arg {w : World} {b mb : Nat} {last : Int} {E : List En} (sd rc : Int) (v : Value) (h : PNet w b mb last E) (hn : (nodeB sd && nodeB rc) = false) :
    Calls Try.prog 9 #[ptr b, .int .i64 sd, .int .i64 rc, v] w fun e w' => e = .returned (.tuple #[.int .u64 0, .int .i64 2]) ∧ w = w' := by
  have H := Lib.hid h
  clear h
  cases hs : nodeB sd
  · clear hn
    have HS := Lib.hid hs
    clear hs
    go_enter Try.func9, Try.ntmps9
    go_wp2_with (first | (go_at_call 31; refine (none_no H.out).mono ?_; rintro e w2 ⟨rfl, rfl⟩) | (go_at_call 32; refine (node_any _ _).mono ?_; rw [HS.out]; rintro e w2 ⟨rfl, rfl⟩))
    go_ret2
    exact ⟨rfl, rfl⟩
  · rw [hs] at hn
    have hr : nodeB rc = false := by simpa using hn
    have HS := Lib.hid hs
    have HR := Lib.hid hr
    clear hs hr hn
    go_enter Try.func9, Try.ntmps9
    go_wp2_with (first | (go_at_call 31; refine (none_no H.out).mono ?_; rintro e w2 ⟨rfl, rfl⟩) | (go_at_call 32; refine (node_any sd _).mono ?_; rw [HS.out]; clear HS; rintro e w2 ⟨rfl, rfl⟩) | (go_at_call 32; refine (node_any rc _).mono ?_; rw [HR.out]; clear HR; rintro e w2 ⟨rfl, rfl⟩))
    go_ret2
    exact ⟨rfl, rfl⟩
set_option maxRecDepth 100000 in
set_option maxHeartbeats 2000000 in
theorem send_long {w : World} {b mb : Nat} {last : Int} {E : List En} (sd rc : Int) (v : Value) (bd : List UInt8) (h : PNet w b mb last E) (hv : Rd w v bd) (hn : (nodeB sd && nodeB rc) = true) (hl : 16384 < bd.length) :
    Calls Try.prog 9 #[ptr b, .int .i64 sd, .int .i64 rc, v] w fun e w' => e = .returned (.tuple #[.int .u64 0, .int .i64 3]) ∧ w = w' := by
  have H := Lib.hid h
  clear h
  obtain ⟨hs, hr⟩ : nodeB sd = true ∧ nodeB rc = true := by simpa using hn
  have HS := Lib.hid hs
  have HR := Lib.hid hr
  clear hs hr hn
  obtain ⟨p, c, rfl⟩ : ∃ p c, v = .slice p bd.length c := by obtain ⟨p, c, h⟩ := hv; exact ⟨p, c, h.1⟩
  clear hv
  obtain ⟨n, hn⟩ : ∃ n, n = bd.length := ⟨_, rfl⟩
  rw [← hn] at hl ⊢
  clear hn
  have t1 : (16384 : Int) < (n : Int) := by omega
  go_enter Try.func9, Try.ntmps9
  go_wp2_with (first | (go_at_call 31; refine (none_no H.out).mono ?_; rintro e w2 ⟨rfl, rfl⟩) | (go_at_call 32; refine (node_any sd _).mono ?_; rw [HS.out]; clear HS; rintro e w2 ⟨rfl, rfl⟩) | (go_at_call 32; refine (node_any rc _).mono ?_; rw [HR.out]; clear HR; rintro e w2 ⟨rfl, rfl⟩))
  go_ret2
  exact ⟨rfl, rfl⟩
set_option maxRecDepth 100000 in
set_option maxHeartbeats 2000000 in
theorem send_ok {w : World} {b mb : Nat} {last : Int} {E : List En} {k : Nat} (sd rc : Int) (v : Value) (bd : List UInt8) (h : PNet w b mb last E) (hi : NI last E k) (hk : k ≤ 4000) (hv : Rd w v bd) (hn : (nodeB sd && nodeB rc) = true) (hl : bd.length ≤ 16384) :
    Calls Try.prog 9 #[ptr b, .int .i64 sd, .int .i64 rc, v] w fun e w' => e = .returned (.tuple #[.int .u64 (last + 1), .int .i64 0]) ∧ ∃ v', PNet w' b mb (last + 1) (E ++ [⟨⟨last + 1, last + 1, sd, rc, bd⟩, v'⟩]) ∧ Frp (NP b mb) w w' := by
  have H := Lib.hid h
  obtain ⟨hs, hr⟩ : nodeB sd = true ∧ nodeB rc = true := by simpa using hn
  have HS := Lib.hid hs
  have HR := Lib.hid hr
  clear hs hr hn
  have HCL := Lib.hid (clone_any v bd w hv (by unfold Room; omega))
  obtain ⟨p, c, rfl⟩ : ∃ p c, v = .slice p bd.length c := by obtain ⟨p, c, h⟩ := hv; exact ⟨p, c, h.1⟩
  clear hv
  have HPU := Lib.hid (fun (w' : World) (v' : Value) (h1 : PNet w' b mb last E) (h2 : w'.ownsRow 0 5 1 v' bd.length (bd.map B)) => put_any 0 0 (last + 1) sd rc bd v' h1 hi hk (by rw [if_pos rfl]) h2)
  obtain ⟨n, hn⟩ : ∃ n, n = bd.length := ⟨_, rfl⟩
  have HNN := Lib.hid hn
  rw [← hn] at hl HCL ⊢
  simp only [ltV] at HPU
  clear hn h hi
  have t1 : ¬ (16384 : Int) < (n : Int) := by omega
  go_enter Try.func9, Try.ntmps9
  go_wp2_with (first | (go_at_call 31; refine (none_no H.out).mono ?_; rintro e w2 ⟨rfl, rfl⟩) | (go_at_call 32; refine (node_any sd _).mono ?_; rw [HS.out]; clear HS; rintro e w2 ⟨rfl, rfl⟩) | (go_at_call 32; refine (node_any rc _).mono ?_; rw [HR.out]; clear HR; rintro e w2 ⟨rfl, rfl⟩) | (go_at_call 34; refine HCL.out.mono ?_; rintro e w3 ⟨v', rfl, ho, hb⟩; obtain ⟨p9, c9, rfl, -, -⟩ := own_slice ho; have HO := Lib.hid (So.row_low ho (Nat.zero_le _)); have H3 := Lib.hid (H.out.kept hb); have HB := Lib.hid hb; clear ho hb) | (go_at_call 33; refine (HPU.out _ _ H3.out HO.out).mono ?_; rintro e w4 ⟨rfl, hp, hf⟩; have HP := Lib.hid hp; have HF := Lib.hid hf; clear hp hf))
  go_ret2
  exact ⟨rfl, _, HP.out, (Frp.of_below HB.out (NP b mb)).then HF.out⟩
end Go.Proofs.Ytndjgbknhfficaa.Nt

namespace Go.Proofs.Ytndjgbknhfficaa.Nt
open Go.RowKit Go.Proofs.Ytndjgbknhfficaa Go.Proofs.Ytndjgbknhfficaa.So

theorem zero_run {P : Program} {t : TypeId} {z : Value} (h : (P.info? t).bind (·.zero) = some z) (w : World) : (zeroValue t).run P w = .ok z w := by
  cases hi : P.info? t with
  | none => rw [hi] at h; cases h
  | some i =>
    rw [hi] at h
    have hz : i.zero = some z := h
    simp [zeroValue, typeInfo, hi, hz, Result.andThen]
theorem ret_cell {P : Program} {fn : Func} {R : Ending → World → Prop} {a : Act} {w : World} {p u : Tmp} {ty t : TypeId} {g : Nat} {cs : List Value} {d : TypeDesc} (h : fn.results = #[.cell p ty, .tmp u]) (hd : a.defers = [])
    (hp : a.tmps.getD p undef = .pointer (some ⟨g, 0, none⟩)) (hg : Blk w g cs t) (hu : P.underlying ty = some d) (hs : (match d with | .struct _ | .array _ _ => true | _ => false) = true) (hi : (P.info? ty).map (·.size) = some cs.length)
    (hR : R (.returned (.tuple #[.agg cs.toArray, a.tmps.getD u undef])) w) : bodyPost P fn R .ret a w := by
  refine bodyPost_ret ?_ hd hR
  rw [results_cell_tmp h]
  have h1 : (asAddr (a.tmps.getD p undef)).run P w = .ok ⟨g, 0, none⟩ w := by rw [hp]; rfl
  rw [h1]
  simp only [Result.andThen_ok]
  rw [run_loadVar_row w g t ty cs.toArray (0, 0) d hg hu hs (by simpa using hi)]
  rfl

theorem blk_fill5 {w : World} {g : Nat} {x0 x1 x2 x3 x4 : Value} {t : TypeId} (h : Blk w g [x0, x1, x2, x3, x4] t) (a0 a1 a2 a3 a4 : Value) : Blk (((((w.setCell ⟨g, 0, none⟩ a0).setCell ⟨g, 1, none⟩ a1).setCell ⟨g, 2, none⟩ a2).setCell ⟨g, 3, none⟩ a3).setCell ⟨g, 4, none⟩ a4) g [a0, a1, a2, a3, a4] t := ((((h.set 0 a0).set 1 a1).set 2 a2).set 3 a3).set 4 a4
theorem frp_fill5 (w : World) (g : Nat) (a0 a1 a2 a3 a4 : Value) : Frp (fun k => k = g) w (((((w.setCell ⟨g, 0, none⟩ a0).setCell ⟨g, 1, none⟩ a1).setCell ⟨g, 2, none⟩ a2).setCell ⟨g, 3, none⟩ a3).setCell ⟨g, 4, none⟩ a4) := (((((Frp.refl (fun k => k = g) w).set (p := ⟨g, 0, none⟩) rfl a0).set (p := ⟨g, 1, none⟩) rfl a1).set (p := ⟨g, 2, none⟩) rfl a2).set (p := ⟨g, 3, none⟩) rfl a3).set (p := ⟨g, 4, none⟩) rfl a4
theorem PNet.fill5 {w : World} {b mb g : Nat} {last : Int} {E : List En} {C : List Value} (h : PNet w b mb last E) (hg : Blk w g C 32) (a0 a1 a2 a3 a4 : Value) : PNet (((((w.setCell ⟨g, 0, none⟩ a0).setCell ⟨g, 1, none⟩ a1).setCell ⟨g, 2, none⟩ a2).setCell ⟨g, 3, none⟩ a3).setCell ⟨g, 4, none⟩ a4) b mb last E :=
  h.frp (frp_fill5 w g a0 a1 a2 a3 a4) (fun e => by subst e; exact absurd (blk_ty h.blk hg) (by decide)) (fun e => by subst e; exact blk_nmap hg h.map) (fun e he q hq hqg => by subst hqg; exact own_ty (h.own e he) hg (by decide) hq)
theorem lzero (w : World) : (zeroValue 32).run Try.prog w = .ok zeV w := zero_run (by kernel_rfl) w
def zL : Lt := ⟨0, 0, 0, 0, []⟩
theorem at_hide' {F Q : World → Prop} {w : World} (h : F w) (k : ∀ w', F w' → Q w') : Q w := k w h
set_option maxRecDepth 100000 in
set_option maxHeartbeats 2000000 in
theorem find_no {w : World} {b mb : Nat} {last : Int} {E : List En} (n : Int) (h : PNet w b mb last E) (hw : (Lit.int .u64 n).wf = true) (hg : eget E n = none) :
    Calls Try.prog 35 #[ptr b, .int .u64 n] w fun e w' => e = .returned (.tuple #[zeV, .int .i64 6]) ∧ Below w.heap.size w w' := by
  have HG : Hid ((nM E).get n = none ∧ (nM E).hasK n = false) := Lib.hid ⟨by rw [nM_get, hg]; rfl, by rw [nM_has, hg]; rfl⟩
  clear hg
  have H := Lib.hid h
  have HWF := Lib.hid hw
  have c0 := ((h.kept (below_alloc w (.cells #[.int .u64 0, .int .u64 0, .int .i64 0, .int .i64 0, .slice none 0 0] 32))).blk).cell (j := 0) rfl
  clear h hw
  go_enter Try.func35, Try.ntmps35
  go_wp2_with (first | (go_at_call 31; refine (none_no (by exact H.out.kept (below_alloc _ _))).mono ?_; rintro e w' ⟨rfl, rfl⟩) | (at_lookup; refine wpList_nlook_ok _ rfl _ _ _ rfl 25 32 Try.underlying25 Try.underlying57 (lzero _) mb (nM E) rfl (by exact (H.out.kept (below_alloc _ _)).map) n rfl HWF.out ?_; rw [HG.out.1, HG.out.2]; simp only [Option.getD_some, Option.getD_none]))
  refine ret_cell rfl rfl rfl ((Blk.made w [.int .u64 0, .int .u64 0, .int .i64 0, .int .i64 0, .slice none 0 0] 32).kept (below_alloc _ _)) Try.underlying32 rfl (by kernel_rfl) ?_
  exact ⟨rfl, below_and (below_alloc w _) (below_alloc _ _)⟩
set_option maxRecDepth 100000 in
set_option maxHeartbeats 2000000 in
theorem find_yes {w : World} {b mb : Nat} {last : Int} {E : List En} (n : Int) (x : En) (h : PNet w b mb last E) (hw : (Lit.int .u64 n).wf = true) (hg : eget E n = some x) :
    Calls Try.prog 35 #[ptr b, .int .u64 n] w fun e w' => e = .returned (.tuple #[ltV x.l x.v, .int .i64 0]) ∧ Below w.heap.size w w' := by
  obtain ⟨p, c, hv, -, -⟩ := own_slice (h.own x (eget_mem hg).1)
  obtain ⟨len, hlen⟩ : ∃ len, len = x.l.bd.length := ⟨_, rfl⟩
  rw [← hlen] at hv
  have HG : Hid ((nM E).get n = some (ltV x.l (.slice p len c)) ∧ (nM E).hasK n = true) := Lib.hid ⟨by rw [nM_get, hg, ← hv]; rfl, by rw [nM_has, hg]; rfl⟩
  rw [hv]
  clear hg hv hlen
  have H := Lib.hid h
  have HWF := Lib.hid hw
  have c0 := ((h.kept (below_alloc w (.cells #[.int .u64 0, .int .u64 0, .int .i64 0, .int .i64 0, .slice none 0 0] 32))).blk).cell (j := 0) rfl
  clear h hw
  go_enter Try.func35, Try.ntmps35
  go_wp2_with (first | (go_at_call 31; refine (none_no (by exact H.out.kept (below_alloc _ _))).mono ?_; rintro e w' ⟨rfl, rfl⟩) | (at_lookup; refine wpList_nlook_ok _ rfl _ _ _ rfl 25 32 Try.underlying25 Try.underlying57 (lzero _) mb (nM E) rfl (by exact (H.out.kept (below_alloc _ _)).map) n rfl HWF.out ?_; rw [HG.out.1, HG.out.2]; simp only [Option.getD_some, Option.getD_none]))
  refine ret_cell rfl rfl rfl ((Blk.made w [.int .u64 x.l.no, .int .u64 x.l.fi, .int .i64 x.l.sd, .int .i64 x.l.rc, .slice p len c] 32).kept (below_alloc _ _)) Try.underlying32 rfl (by kernel_rfl) ?_
  exact ⟨rfl, below_and (below_alloc w _) (below_alloc _ _)⟩
set_option maxRecDepth 100000 in
set_option maxHeartbeats 2000000 in
theorem deliver_no {w : World} {b mb : Nat} {last : Int} {E : List En} (n : Int) (h : PNet w b mb last E) (hw : (Lit.int .u64 n).wf = true) (hg : eget E n = none) :
    Calls Try.prog 11 #[ptr b, .int .u64 n] w fun e w' => e = .returned (.tuple #[zeV, .int .i64 6]) ∧ Below w.heap.size w w' := by
  have H := Lib.hid h
  have HWF := Lib.hid hw
  obtain ⟨w0, hw0⟩ : ∃ w0, w0 = w.alloc (.cells #[.int .u64 0, .int .u64 0, .int .i64 0, .int .i64 0, .slice none 0 0] 32) := ⟨_, rfl⟩
  have H0 := Lib.hid (h.kept (below_alloc w (.cells #[.int .u64 0, .int .u64 0, .int .i64 0, .int .i64 0, .slice none 0 0] 32)))
  have HX0 := Lib.hid (Blk.made w [.int .u64 0, .int .u64 0, .int .i64 0, .int .i64 0, .slice none 0 0] 32)
  have HB0 := Lib.hid (below_alloc w (.cells #[.int .u64 0, .int .u64 0, .int .i64 0, .int .i64 0, .slice none 0 0] 32))
  rw [← hw0] at H0 HX0 HB0
  have HFI := Lib.hid (find_no n H0.out hw hg)
  clear h hw hg
  go_enter Try.func11, Try.ntmps11
  go_upto_region 1 with fail
  rw [← hw0]
  obtain ⟨R, hR⟩ : ∃ R, R = w.heap.size := ⟨_, rfl⟩
  rw [← hR] at HX0 HB0 ⊢
  have HRW : Hid (w.heap.size ≤ R) := Lib.hid (by omega)
  have HRR : Hid (R = w.heap.size) := Lib.hid hR
  clear hw0 hR
  go_upto_region 2 with (go_at_call 35; refine HFI.out.mono ?_; rintro e w2 ⟨rfl, hb⟩; have HB2 := Lib.hid hb; have HX2 := Lib.hid (HX0.out.kept hb); have H2 := Lib.hid (H0.out.kept hb); clear hb)
  obtain ⟨w3, hw3⟩ : ∃ w3, w3 = w2.alloc (.cells #[.int .u64 0, .int .u64 0, .int .i64 0, .int .i64 0, .slice none 0 0] 32) := ⟨_, rfl⟩
  obtain ⟨K, hK⟩ : ∃ K, K = w2.heap.size := ⟨_, rfl⟩
  have HB3 : Hid (Below w.heap.size w w3) := Lib.hid (by rw [hw3]; have h1 := HB0.out; rw [HRR.out] at h1; exact below_and (below_and h1 HB2.out) (below_alloc _ _))
  have HK3 : Hid (Blk w3 K [.int .u64 0, .int .u64 0, .int .i64 0, .int .i64 0, .slice none 0 0] 32) := Lib.hid (by rw [hw3, hK]; exact Blk.made w2 [.int .u64 0, .int .u64 0, .int .i64 0, .int .i64 0, .slice none 0 0] 32)
  have HX3 : Hid (Blk w3 R [.int .u64 0, .int .u64 0, .int .i64 0, .int .i64 0, .slice none 0 0] 32) := Lib.hid (by rw [hw3]; exact HX2.out.alloc _)
  have H3 : Hid (PNet w3 b mb last E) := Lib.hid (by rw [hw3]; exact H2.out.kept (below_alloc _ _))
  rw [← hw3, ← hK]
  clear hw3 hK HX2 H2 HB2 HX0 HB0 HFI
  have x0 := HK3.out.cell (j := 0) rfl
  have x1 := HK3.out.cell (j := 1) rfl
  have x2 := HK3.out.cell (j := 2) rfl
  have x3 := HK3.out.cell (j := 3) rfl
  have x4 := HK3.out.cell (j := 4) rfl
  have f0 := HX3.out.free 0
  have f1 := HX3.out.free 1
  have f2 := HX3.out.free 2
  have f3 := HX3.out.free 3
  have f4 := HX3.out.free 4
  have y0 := HX3.out.cell (j := 0) rfl
  have y1 := HX3.out.cell (j := 1) rfl
  have y2 := HX3.out.cell (j := 2) rfl
  have y3 := HX3.out.cell (j := 3) rfl
  have y4 := HX3.out.cell (j := 4) rfl
  go_wp2
  refine ret_cell rfl rfl rfl (blk_fill5 HX3.out _ _ _ _ _) Try.underlying32 rfl (by kernel_rfl) ?_
  refine ⟨rfl, HB3.out.trans ((frp_fill5 w3 R _ _ _ _ _).below (fun k hk => by subst hk; exact HRW.out) HB3.out.size)⟩
set_option maxRecDepth 100000 in
set_option maxHeartbeats 2000000 in
theorem deliver_yes {w : World} {b mb : Nat} {last : Int} {E : List En} (n : Int) (x : En) (h : PNet w b mb last E) (hw : (Lit.int .u64 n).wf = true) (hg : eget E n = some x) :
    Calls Try.prog 11 #[ptr b, .int .u64 n] w fun e w' => e = .returned (.tuple #[ltV x.l x.v, .int .i64 0]) ∧ PNet w' b mb last (edel E n) ∧ Frp (NP b mb) w w' := by
  obtain ⟨p, c, hv, -, -⟩ := own_slice (h.own x (eget_mem hg).1)
  obtain ⟨len, hlen⟩ : ∃ len, len = x.l.bd.length := ⟨_, rfl⟩
  have H := Lib.hid h
  have HWF := Lib.hid hw
  obtain ⟨w0, hw0⟩ : ∃ w0, w0 = w.alloc (.cells #[.int .u64 0, .int .u64 0, .int .i64 0, .int .i64 0, .slice none 0 0] 32) := ⟨_, rfl⟩
  have H0 := Lib.hid (h.kept (below_alloc w (.cells #[.int .u64 0, .int .u64 0, .int .i64 0, .int .i64 0, .slice none 0 0] 32)))
  have HX0 := Lib.hid (Blk.made w [.int .u64 0, .int .u64 0, .int .i64 0, .int .i64 0, .slice none 0 0] 32)
  have HB0 := Lib.hid (below_alloc w (.cells #[.int .u64 0, .int .u64 0, .int .i64 0, .int .i64 0, .slice none 0 0] 32))
  rw [← hw0] at H0 HX0 HB0
  have HFI := Lib.hid (find_yes n x H0.out hw hg)
  rw [hv, ← hlen] at HFI ⊢
  clear hv hlen
  clear h hw hg
  go_enter Try.func11, Try.ntmps11
  go_upto_region 1 with fail
  rw [← hw0]
  obtain ⟨R, hR⟩ : ∃ R, R = w.heap.size := ⟨_, rfl⟩
  rw [← hR] at HX0 HB0 ⊢
  have HRW : Hid (w.heap.size ≤ R) := Lib.hid (by omega)
  have HRR : Hid (R = w.heap.size) := Lib.hid hR
  clear hw0 hR
  go_upto_region 3 with (go_at_call 35; refine HFI.out.mono ?_; rintro e w2 ⟨rfl, hb⟩; have HB2 := Lib.hid hb; have HX2 := Lib.hid (HX0.out.kept hb); have H2 := Lib.hid (H0.out.kept hb); clear hb)
  obtain ⟨w3, hw3⟩ : ∃ w3, w3 = w2.alloc (.cells #[.int .u64 x.l.no, .int .u64 x.l.fi, .int .i64 x.l.sd, .int .i64 x.l.rc, .slice p len c] 32) := ⟨_, rfl⟩
  obtain ⟨K, hK⟩ : ∃ K, K = w2.heap.size := ⟨_, rfl⟩
  have HB3 : Hid (Below w.heap.size w w3) := Lib.hid (by rw [hw3]; have h1 := HB0.out; rw [HRR.out] at h1; exact below_and (below_and h1 HB2.out) (below_alloc _ _))
  have HK3 : Hid (Blk w3 K [.int .u64 x.l.no, .int .u64 x.l.fi, .int .i64 x.l.sd, .int .i64 x.l.rc, .slice p len c] 32) := Lib.hid (by rw [hw3, hK]; exact Blk.made w2 [.int .u64 x.l.no, .int .u64 x.l.fi, .int .i64 x.l.sd, .int .i64 x.l.rc, .slice p len c] 32)
  have HX3 : Hid (Blk w3 R [.int .u64 0, .int .u64 0, .int .i64 0, .int .i64 0, .slice none 0 0] 32) := Lib.hid (by rw [hw3]; exact HX2.out.alloc _)
  have H3 : Hid (PNet w3 b mb last E) := Lib.hid (by rw [hw3]; exact H2.out.kept (below_alloc _ _))
  rw [← hw3, ← hK]
  clear hw3 hK HX2 H2 HB2 HX0 HB0 HFI
  have c0 := H3.out.blk.cell (j := 0) rfl
  go_upto_region 4 with (refine wpList_ndel _ rfl _ _ _ _ rfl 32 Try.underlying25 Try.underlying57 mb (nM E) rfl H3.out.map n rfl HWF.out ?_; intro w8 hp8 hg8; have HP8 := Lib.hid (H3.out.del n hg8 hp8); have HX8 := Lib.hid (HX3.out.grown hg8 (by intro e; cases e; exact blk_nmap HX3.out H3.out.map)); have HK8 := Lib.hid (HK3.out.grown hg8 (by intro e; cases e; exact blk_nmap HK3.out H3.out.map)); clear hp8 hg8)
  have x0 := HK8.out.cell (j := 0) rfl
  have x1 := HK8.out.cell (j := 1) rfl
  have x2 := HK8.out.cell (j := 2) rfl
  have x3 := HK8.out.cell (j := 3) rfl
  have x4 := HK8.out.cell (j := 4) rfl
  have f0 := HX8.out.free 0
  have f1 := HX8.out.free 1
  have f2 := HX8.out.free 2
  have f3 := HX8.out.free 3
  have f4 := HX8.out.free 4
  have y0 := HX8.out.cell (j := 0) rfl
  have y1 := HX8.out.cell (j := 1) rfl
  have y2 := HX8.out.cell (j := 2) rfl
  have y3 := HX8.out.cell (j := 3) rfl
  have y4 := HX8.out.cell (j := 4) rfl
  go_wp2
  refine ret_cell rfl rfl rfl (blk_fill5 HX8.out _ _ _ _ _) Try.underlying32 rfl (by kernel_rfl) ?_
  refine ⟨rfl, HP8.out.1.fill5 HX8.out _ _ _ _ _, (((Frp.of_below HB3.out (NP b mb)).then HP8.out.2).trans (frp_fill5 w8 R _ _ _ _ _) (fun k hk => by subst hk; exact .inr HRW.out))⟩
end Go.Proofs.Ytndjgbknhfficaa.Nt

namespace Go.Proofs.Ytndjgbknhfficaa.Nt
open Go.RowKit Go.Proofs.Ytndjgbknhfficaa Go.Proofs.Ytndjgbknhfficaa.So

set_option maxRecDepth 100000 in
set_option maxHeartbeats 2000000 in
theorem lose_no {w : World} {b mb : Nat} {last : Int} {E : List En} (n : Int) (h : PNet w b mb last E) (hw : (Lit.int .u64 n).wf = true) (hg : eget E n = none) :
    Calls Try.prog 14 #[ptr b, .int .u64 n] w fun e w' => e = .returned (.int .i64 6) ∧ Below w.heap.size w w' := by
  have H := Lib.hid (deliver_no n h hw hg)
  clear h hw hg
  go_enter Try.func14, Try.ntmps14
  go_wp2_with (go_at_call 11; refine H.out.mono ?_; rintro e w2 ⟨rfl, hb⟩; have HB := Lib.hid hb; clear hb H)
  go_ret
  exact ⟨rfl, below_and HB.out (below_alloc _ _)⟩
set_option maxRecDepth 100000 in
set_option maxHeartbeats 2000000 in
theorem lose_yes {w : World} {b mb : Nat} {last : Int} {E : List En} (n : Int) (x : En) (h : PNet w b mb last E) (hw : (Lit.int .u64 n).wf = true) (hg : eget E n = some x) :
    Calls Try.prog 14 #[ptr b, .int .u64 n] w fun e w' => e = .returned (.int .i64 0) ∧ PNet w' b mb last (edel E n) ∧ Frp (NP b mb) w w' := by
  have H := Lib.hid (deliver_yes n x h hw hg)
  obtain ⟨p, c, hv, -, -⟩ := own_slice (h.own x (eget_mem hg).1)
  obtain ⟨len, hlen⟩ : ∃ len, len = x.l.bd.length := ⟨_, rfl⟩
  rw [hv, ← hlen] at H
  clear h hw hg hv hlen
  go_enter Try.func14, Try.ntmps14
  go_wp2_with (go_at_call 11; refine H.out.mono ?_; rintro e w2 ⟨rfl, hp, hf⟩; have HP := Lib.hid hp; have HF := Lib.hid hf; clear hp hf H)
  go_ret
  exact ⟨rfl, HP.out.kept (below_alloc _ _), HF.out.next (below_alloc _ _)⟩
set_option maxRecDepth 100000 in
set_option maxHeartbeats 2000000 in
theorem double_no {w : World} {b mb : Nat} {last : Int} {E : List En} (n : Int) (h : PNet w b mb last E) (hw : (Lit.int .u64 n).wf = true) (hg : eget E n = none) :
    Calls Try.prog 10 #[ptr b, .int .u64 n] w fun e w' => e = .returned (.tuple #[.int .u64 0, .int .i64 6]) ∧ Below w.heap.size w w' := by
  have H := Lib.hid (find_no n h hw hg)
  clear h hw hg
  go_enter Try.func10, Try.ntmps10
  go_wp2_with (go_at_call 35; refine H.out.mono ?_; rintro e w2 ⟨rfl, hb⟩; have HB := Lib.hid hb; clear hb H)
  go_ret2
  exact ⟨rfl, below_and HB.out (below_alloc _ _)⟩
set_option maxRecDepth 100000 in
set_option maxHeartbeats 2000000 in
theorem double_yes {w : World} {b mb : Nat} {last : Int} {E : List En} {k : Nat} (n : Int) (x : En) (h : PNet w b mb last E) (hi : NI last E k) (hk : k ≤ 4000) (hw : (Lit.int .u64 n).wf = true) (hg : eget E n = some x) (hbd : x.l.bd.length ≤ 100000) :
    Calls Try.prog 10 #[ptr b, .int .u64 n] w fun e w' => e = .returned (.tuple #[.int .u64 (last + 1), .int .i64 0]) ∧ ∃ v', PNet w' b mb (last + 1) (E ++ [⟨⟨last + 1, x.l.fi, x.l.sd, x.l.rc, x.l.bd⟩, v'⟩]) ∧ Frp (NP b mb) w w' := by
  have HF := Lib.hid (find_yes n x h hw hg)
  have hme := (eget_mem hg).1
  have hfi := hi.fi x hme
  have hox := h.own x hme
  obtain ⟨p, c, hv, -, -⟩ := own_slice hox
  obtain ⟨len, hlen⟩ : ∃ len, len = x.l.bd.length := ⟨_, rfl⟩
  rw [hv, ← hlen] at HF
  rw [hv] at hox
  have HRD : Hid (Rd w (.slice p x.l.bd.length c) x.l.bd) := Lib.hid (Fresh.rd (base := 0) hox)
  have HCL := Lib.hid (fun (w' : World) (hb : Below w.heap.size w w') => clone_any (.slice p x.l.bd.length c) x.l.bd w' (HRD.out.below hb) (by unfold Room; omega))
  rw [← hlen] at HCL
  have HPU := Lib.hid (fun (w' : World) (v' : Value) (h1 : PNet w' b mb last E) (h2 : w'.ownsRow 0 5 1 v' x.l.bd.length (x.l.bd.map B)) => put_any x.l.no x.l.fi x.l.fi x.l.sd x.l.rc x.l.bd v' h1 hi hk (by rw [if_neg (by omega)]) h2)
  simp only [ltV] at HPU
  have HLN := Lib.hid hlen
  have H := Lib.hid h
  clear h hi hw hg hme hfi hox hv hlen hbd
  go_enter Try.func10, Try.ntmps10
  go_upto_region 2 with (go_at_call 35; refine HF.out.mono ?_; rintro e w2 ⟨rfl, hb⟩; have HB2 := Lib.hid hb; have H2 := Lib.hid (H.out.kept hb); clear hb HF)
  obtain ⟨w3, hw3⟩ : ∃ w3, w3 = w2.alloc (.cells #[.int .u64 x.l.no, .int .u64 x.l.fi, .int .i64 x.l.sd, .int .i64 x.l.rc, .slice p len c] 32) := ⟨_, rfl⟩
  obtain ⟨K, hK⟩ : ∃ K, K = w2.heap.size := ⟨_, rfl⟩
  have HB3 : Hid (Below w.heap.size w w3) := Lib.hid (by rw [hw3]; exact below_and HB2.out (below_alloc _ _))
  have HK3 : Hid (Blk w3 K [.int .u64 x.l.no, .int .u64 x.l.fi, .int .i64 x.l.sd, .int .i64 x.l.rc, .slice p len c] 32) := Lib.hid (by rw [hw3, hK]; exact Blk.made w2 [.int .u64 x.l.no, .int .u64 x.l.fi, .int .i64 x.l.sd, .int .i64 x.l.rc, .slice p len c] 32)
  have H3 : Hid (PNet w3 b mb last E) := Lib.hid (by rw [hw3]; exact H2.out.kept (below_alloc _ _))
  have HKW : Hid (w.heap.size ≤ K) := Lib.hid (by rw [hK]; exact HB2.out.size)
  rw [← hw3, ← hK]
  clear hw3 hK H2 HB2
  have x0 := HK3.out.cell (j := 0) rfl
  have x1 := HK3.out.cell (j := 1) rfl
  have x2 := HK3.out.cell (j := 2) rfl
  have x3 := HK3.out.cell (j := 3) rfl
  have x4 := HK3.out.cell (j := 4) rfl
  go_upto_region 5 with (go_at_call 34; refine (HCL.out _ HB3.out).mono ?_; rintro e w4 ⟨v', rfl, ho, hb⟩; obtain ⟨p9, c9, rfl, -, -⟩ := own_slice ho; have HO4 := Lib.hid (So.row_low ho (Nat.zero_le _)); have H4 := Lib.hid (H3.out.kept hb); have HB4 := Lib.hid (below_and HB3.out hb); have HK4 := Lib.hid (HK3.out.kept hb); have z4 := HK4.out.cell (j := 4) rfl; have g4 := HK4.out.free 4; clear ho hb)
  obtain ⟨w5, hw5⟩ : ∃ w5, w5 = w4.setCell ⟨K, 4, none⟩ (.slice p9 x.l.bd.length c9) := ⟨_, rfl⟩
  have hf5 : Frp (fun q => q = K) w4 w5 := by rw [hw5]; exact (Frp.refl (fun q => q = K) w4).set (p := ⟨K, 4, none⟩) rfl _
  have HK5 : Hid (Blk w5 K [.int .u64 x.l.no, .int .u64 x.l.fi, .int .i64 x.l.sd, .int .i64 x.l.rc, .slice p9 x.l.bd.length c9] 32) := Lib.hid (by rw [hw5]; exact HK4.out.set 4 _)
  have H5 : Hid (PNet w5 b mb last E) := Lib.hid (H4.out.frp hf5 (fun e => by subst e; exact absurd (blk_ty H4.out.blk HK4.out) (by decide)) (fun e => by subst e; exact blk_nmap HK4.out H4.out.map) (fun e he q hq hqg => by subst hqg; exact own_ty (H4.out.own e he) HK4.out (by decide) hq))
  have HO5 : Hid (w5.ownsRow 0 5 1 (.slice p9 x.l.bd.length c9) x.l.bd.length (x.l.bd.map B)) := Lib.hid (own_frp HO4.out hf5 (fun q hq hqg => by subst hqg; exact own_ty HO4.out HK4.out (by decide) hq))
  have HF5 : Hid (Frp (NP b mb) w w5) := Lib.hid ((Frp.of_below HB4.out (NP b mb)).trans hf5 (fun q hq => by subst hq; exact .inr HKW.out))
  rw [← hw5]
  clear hw5 hf5 x0 x1 x2 x3 x4 z4 g4 H4 HO4 HK4 H3 HB3 HK3
  have x0 := HK5.out.cell (j := 0) rfl
  have x1 := HK5.out.cell (j := 1) rfl
  have x2 := HK5.out.cell (j := 2) rfl
  have x3 := HK5.out.cell (j := 3) rfl
  have x4 := HK5.out.cell (j := 4) rfl
  have HP5 := Lib.hid (HPU.out w5 _ H5.out HO5.out)
  go_wp2_with (go_at_call 33; refine HP5.out.mono ?_; rintro e w6 ⟨rfl, hp, hf⟩; have HP := Lib.hid hp; have HF := Lib.hid hf; clear hp hf HP5)
  go_ret2
  exact ⟨rfl, _, HP.out, HF5.out.then HF.out⟩
end Go.Proofs.Ytndjgbknhfficaa.Nt
