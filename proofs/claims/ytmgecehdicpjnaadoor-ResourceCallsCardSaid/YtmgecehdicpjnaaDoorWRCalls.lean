/- the walk of ResourceCalls -/
import Derived.Test.YtmgecehdicpjnaaDoorRLives
import Derived.Test.YtmgecehdicpjnaaDoorRAdd
import Derived.Test.YtmgecehdicpjnaaDoorRSub
import Derived.Test.YtmgecehdicpjnaaDoorRScale
import Derived.Test.YtmgecehdicpjnaaDoorRSum
import Derived.Test.YtmgecehdicpjnaaDoorRShare
import Derived.Test.YtmgecehdicpjnaaDoorRLeast
import Derived.Test.YtmgecehdicpjnaaDoorRMost
import Derived.Test.YtmgecehdicpjnaaDoorLeast
import Derived.Test.YtmgecehdicpjnaaDoorMost
import Derived.Test.YtmgecehdicpjnaaDoorWRSums
import Derived.Test.YtmgecehdicpjnaaDoorWRScale
import Derived.Test.YtmgecehdicpjnaaDoorPast
import Derived.Test.YtmgecehdicpjnaaDoorOpen4
import Derived.Deep.DeepCutAuto
namespace Go.Proofs.YtmgecehdicpjnaaDoor
open Go.RowKit

theorem rsub_val (x y z : Am) (e : Int) (w : World) (h : subR x y = (z, e)) :
    Calls Tryd.prog 23 #[amV x, amV y] w fun e' w' => e' = .returned (.tuple #[amV z, .int .i64 e]) ∧ Below w.heap.size w w' :=
  (rsub_any x y w).mono fun e' w' ⟨h1, h2⟩ => ⟨by rw [h1, h], h2⟩
theorem rscale_val (x z : Am) (n e : Int) (w : World) (hn2 : n ≤ 9223372036854775807) (h : scaleR x n = (z, e)) :
    Calls Tryd.prog 24 #[amV x, .int .i64 n] w fun e' w' => e' = .returned (.tuple #[amV z, .int .i64 e]) ∧ Below w.heap.size w w' :=
  (rscale_any x n w hn2).mono fun e' w' ⟨h1, h2⟩ => ⟨by rw [h1, h], h2⟩
theorem scale_val' (x z : Am) (n e : Int) (w : World) (hn2 : n ≤ 9223372036854775807) (h : scaleR x n = (z, e)) :
    Calls Tryd.prog 15 #[amV x, .int .i64 n] w fun e' w' => e' = .returned (.tuple #[amV z, .int .i64 e]) ∧ Below w.heap.size w w' := by
  by_cases hn : n < 0
  · exact (scale_bad x n w (.inr hn)).mono fun e' w' ⟨h1, h2⟩ => ⟨by rw [h1, h], h2⟩
  · exact scale_val x z n e w (by omega) hn2 h
theorem rsum_val (v : Value) (xs : List Am) (z : Am) (e : Int) (w : World) (h : Ams w v xs) (hr : sumR xs = (z, e)) :
    Calls Tryd.prog 25 #[v] w fun e' w' => e' = .returned (.tuple #[amV z, .int .i64 e]) ∧ Below w.heap.size w w' :=
  (rsum_any v xs w h).mono fun e' w' ⟨h1, h2⟩ => ⟨by rw [h1, hr], h2⟩
theorem share_val (x y : Am) (z e : Int) (w : World) (h : shareR x y = (z, e)) :
    Calls Tryd.prog 20 #[amV x, amV y] w fun e' w' => e' = .returned (.tuple #[.int .i64 z, .int .i64 e]) ∧ Below w.heap.size w w' :=
  (share_any x y w).mono fun e' w' ⟨h1, h2⟩ => ⟨by rw [h1, h], h2⟩
theorem rshare_val (x y : Am) (z e : Int) (w : World) (h : shareR x y = (z, e)) :
    Calls Tryd.prog 26 #[amV x, amV y] w fun e' w' => e' = .returned (.tuple #[.int .i64 z, .int .i64 e]) ∧ Below w.heap.size w w' :=
  (rshare_any x y w).mono fun e' w' ⟨h1, h2⟩ => ⟨by rw [h1, h], h2⟩

structure C9 (w0 : World) (B X Y : Nat) (a b x y : Am) (wx : World) : Prop where
  ba : Blk wx B (amC a) 23
  bb : Blk wx (B + 1) (amC b) 23
  bx : Blk wx X (amC x) 23
  by' : Blk wx Y (amC y) 23
  bel : Below w0.heap.size w0 wx
  ord : w0.heap.size ≤ B ∧ B + 1 < X ∧ X < Y
/-def PX (w4 : World) (B : Nat) (z : Am) (s : Value) (wx : World) : Prop := ∃ X, s = ptr X ∧ B + 1 < X ∧ Blk wx X (amC z) 23 ∧ Below w4.heap.size w4 wx
def PY (w : World) (B X : Nat) (a b z : Am) (s : Value) (wx : World) : Prop := ∃ Y, s = ptr Y ∧ C9 w B X Y a b z z wx
-/
theorem C9.kept {w0 : World} {B X Y : Nat} {a b x y : Am} {w w' : World} (h : C9 w0 B X Y a b x y w) (hb : Below w.heap.size w w') : C9 w0 B X Y a b x y w' :=
  ⟨h.ba.kept hb, h.bb.kept hb, h.bx.kept hb, h.by'.kept hb, below_and h.bel hb, h.ord⟩
theorem blk4 {w : World} {g : Nat} {x z : Am} {t : TypeId} (h : Blk w g (amC x) t) : Blk ((((w.setCell ⟨g, 0, none⟩ (.int .i64 z.c)).setCell ⟨g, 1, none⟩ (.int .i64 z.r)).setCell ⟨g, 2, none⟩ (.int .i64 z.d)).setCell ⟨g, 3, none⟩ (.int .i64 z.p)) g (amC z) t :=
  (((h.set 0 (.int .i64 z.c)).set 1 (.int .i64 z.r)).set 2 (.int .i64 z.d)).set 3 (.int .i64 z.p)
theorem blk4o {w : World} {g k : Nat} {cs : List Value} {z : Am} {t : TypeId} (h : Blk w g cs t) (hk : g ≠ k) : Blk ((((w.setCell ⟨k, 0, none⟩ (.int .i64 z.c)).setCell ⟨k, 1, none⟩ (.int .i64 z.r)).setCell ⟨k, 2, none⟩ (.int .i64 z.d)).setCell ⟨k, 3, none⟩ (.int .i64 z.p)) g cs t :=
  (((h.other (a := ⟨k, 0, none⟩) hk _).other (a := ⟨k, 1, none⟩) hk _).other (a := ⟨k, 2, none⟩) hk _).other (a := ⟨k, 3, none⟩) hk _
theorem bel4 {n : Nat} {a w : World} {k : Nat} {z : Am} (h : Below n a w) (hk : n ≤ k) : Below n a ((((w.setCell ⟨k, 0, none⟩ (.int .i64 z.c)).setCell ⟨k, 1, none⟩ (.int .i64 z.r)).setCell ⟨k, 2, none⟩ (.int .i64 z.d)).setCell ⟨k, 3, none⟩ (.int .i64 z.p)) :=
  (((h.setCell (p := ⟨k, 0, none⟩) hk _).setCell (p := ⟨k, 1, none⟩) hk _).setCell (p := ⟨k, 2, none⟩) hk _).setCell (p := ⟨k, 3, none⟩) hk _
theorem C9.setX {w0 : World} {B X Y : Nat} {a b x y : Am} {w : World} (h : C9 w0 B X Y a b x y w) (z : Am) : C9 w0 B X Y a b z y ((((w.setCell ⟨X, 0, none⟩ (.int .i64 z.c)).setCell ⟨X, 1, none⟩ (.int .i64 z.r)).setCell ⟨X, 2, none⟩ (.int .i64 z.d)).setCell ⟨X, 3, none⟩ (.int .i64 z.p)) := by
  obtain ⟨o1, o2, o3⟩ := h.ord
  exact ⟨blk4o h.ba (by omega), blk4o h.bb (by omega), blk4 h.bx, blk4o h.by' (by omega), bel4 h.bel (by omega), h.ord⟩
theorem C9.setY {w0 : World} {B X Y : Nat} {a b x y : Am} {w : World} (h : C9 w0 B X Y a b x y w) (z : Am) : C9 w0 B X Y a b x z ((((w.setCell ⟨Y, 0, none⟩ (.int .i64 z.c)).setCell ⟨Y, 1, none⟩ (.int .i64 z.r)).setCell ⟨Y, 2, none⟩ (.int .i64 z.d)).setCell ⟨Y, 3, none⟩ (.int .i64 z.p)) := by
  obtain ⟨o1, o2, o3⟩ := h.ord
  exact ⟨blk4o h.ba (by omega), blk4o h.bb (by omega), blk4o h.bx (by omega), blk4 h.by', bel4 h.bel (by omega), h.ord⟩

set_option maxRecDepth 100000 in
set_option maxHeartbeats 8000000 in
theorem app_bel {w w' : World} {n : Nat} {g : Nat} {o : Obj} (hg : (w.alloc o).grownBy w' (Value.slice (some ⟨w.heap.size, 0, none⟩) n g).ownBlock) : Below w.heap.size w w' :=
  (below_alloc w o).trans ((Fr.of_grown hg).below (by simp [Value.ownBlock]) (by simp))
theorem rcalls_any (a b : Am) (n : Int) (v : Value) (xs : List Am) (w : World) (ht : Tab w) (hn2 : n ≤ 9223372036854775807) (hv : Ams w v xs) (hxs : xs.length * 32 ≤ 140737488351232) :
    Calls Tryd.prog 8 #[amV a, amV b, .int .i64 n, v] w fun e w' => e = .returned (.bool true) ∧ Below w.heap.size w w' := by
  obtain ⟨w3, hw3⟩ : ∃ w3, w3 = (w.alloc (.cells #[.int .i64 a.c, .int .i64 a.r, .int .i64 a.d, .int .i64 a.p] 23)).alloc (.cells #[.int .i64 b.c, .int .i64 b.r, .int .i64 b.d, .int .i64 b.p] 23) := ⟨_, rfl⟩
  obtain ⟨B, hB⟩ : ∃ B, B = w.heap.size := ⟨_, rfl⟩
  have B0 : Hid (Blk w3 B (amC a) 23) := Lib.hid (by
    have := (Blk.made w (amC a) 23).alloc (.cells #[.int .i64 b.c, .int .i64 b.r, .int .i64 b.d, .int .i64 b.p] 23)
    rw [hw3, hB]; exact this)
  have B1 : Hid (Blk w3 (B + 1) (amC b) 23) := Lib.hid (by
    have := Blk.made (w.alloc (.cells #[.int .i64 a.c, .int .i64 a.r, .int .i64 a.d, .int .i64 a.p] 23)) (amC b) 23
    rw [hw3, hB]; simpa using this)
  have HBL : Hid (Below w.heap.size w w3) := Lib.hid (by rw [hw3]; exact below_and (below_alloc w _) (below_alloc _ _))
  have HBW : Hid (w.heap.size ≤ B) := Lib.hid (by omega)
  have HT : Hid (Tab w3) := Lib.hid (ht.below HBL.out)
  have HV := Lib.hid hv
  have HXS := Lib.hid hxs
  have HN := Lib.hid hn2
  obtain ⟨p, c, rfl, hpc, hpm⟩ := hv.shape
  obtain ⟨z1, e1, h1⟩ : ∃ z e, addR a b = (z, e) := ⟨_, _, rfl⟩
  obtain ⟨z2, e2, h2⟩ : ∃ z e, subR a b = (z, e) := ⟨_, _, rfl⟩
  obtain ⟨z3, e3, h3⟩ : ∃ z e, scaleR a n = (z, e) := ⟨_, _, rfl⟩
  obtain ⟨z4, e4, h4⟩ : ∃ z e, sumR xs = (z, e) := ⟨_, _, rfl⟩
  obtain ⟨z5, e5, h5⟩ : ∃ z e, shareR a b = (z, e) := ⟨_, _, rfl⟩
  obtain ⟨z6, h6⟩ : ∃ z : Am, z = .of fun k => if b.get k < a.get k then b.get k else a.get k := ⟨_, rfl⟩
  obtain ⟨z7, h7⟩ : ∃ z : Am, z = .of fun k => if a.get k < b.get k then b.get k else a.get k := ⟨_, rfl⟩
  have H1 := Lib.hid h1
  have H2 := Lib.hid h2
  have H3 := Lib.hid h3
  have H4 := Lib.hid h4
  have H5 := Lib.hid h5
  have H6 : Hid (∀ k, k < 4 → z6.get k = if b.get k < a.get k then b.get k else a.get k) := Lib.hid (fun k hk => by rw [h6, Am.of_get _ k hk])
  have H7 : Hid (∀ k, k < 4 → z7.get k = if a.get k < b.get k then b.get k else a.get k) := Lib.hid (fun k hk => by rw [h7, Am.of_get _ k hk])
  clear ht hn2 hv hxs h1 h2 h3 h4 h5 h6 h7 hpc hpm
  go_enter Tryd.func8, Tryd.ntmps8
  go_upto_region 1 with fail
  rw [← hw3, ← hB]
  clear hw3 hB
  go_upto_region 3 with (go_at_call 9; refine (rlives _ HT.out).mono ?_; rintro e' w4 ⟨rfl, hb⟩; have C0 := Lib.hid (B0.out.kept hb); have C1 := Lib.hid (B1.out.kept hb); have HB4 := Lib.hid (below_and HBL.out hb); clear hb)
  have a0 := C0.out.cell (j := 0) rfl; have a1 := C0.out.cell (j := 1) rfl; have a2 := C0.out.cell (j := 2) rfl; have a3 := C0.out.cell (j := 3) rfl
  have b0 := C1.out.cell (j := 0) rfl; have b1 := C1.out.cell (j := 1) rfl; have b2 := C1.out.cell (j := 2) rfl; have b3 := C1.out.cell (j := 3) rfl
  go_upto_region 4 with (go_at_call 17; refine (add_val a b z1 e1 _ H1.out).mono ?_; rintro e' w5 ⟨rfl, hb⟩; have HB5 := Lib.hid hb; clear hb)
  obtain ⟨w6, hw6⟩ : ∃ w6, w6 = w5.alloc (.cells #[.int .i64 z1.c, .int .i64 z1.r, .int .i64 z1.d, .int .i64 z1.p] 23) := ⟨_, rfl⟩
  obtain ⟨X, hX⟩ : ∃ X, X = w5.heap.size := ⟨_, rfl⟩
  have D0 : Hid (Blk w6 B (amC a) 23) := Lib.hid (by rw [hw6]; exact (C0.out.kept HB5.out).alloc _)
  have D1 : Hid (Blk w6 (B + 1) (amC b) 23) := Lib.hid (by rw [hw6]; exact (C1.out.kept HB5.out).alloc _)
  have D2 : Hid (Blk w6 X (amC z1) 23) := Lib.hid (by rw [hw6, hX]; exact Blk.made w5 (amC z1) _)
  have HBD : Hid (Below w.heap.size w w6) := Lib.hid (by rw [hw6]; exact below_and (below_and HB4.out HB5.out) (below_alloc _ _))
  have HX : Hid (B + 1 < X) := Lib.hid (by rw [hX]; have := C1.out.lt; have := HB5.out.size; omega)
  rw [← hw6, ← hX]
  clear hw6 hX a0 a1 a2 a3 b0 b1 b2 b3 C0 C1
  have a0 := D0.out.cell (j := 0) rfl; have a1 := D0.out.cell (j := 1) rfl; have a2 := D0.out.cell (j := 2) rfl; have a3 := D0.out.cell (j := 3) rfl
  have b0 := D1.out.cell (j := 0) rfl; have b1 := D1.out.cell (j := 1) rfl; have b2 := D1.out.cell (j := 2) rfl; have b3 := D1.out.cell (j := 3) rfl
  go_upto_region 5 with (go_at_call 21; refine (radd_val a b z1 e1 _ H1.out).mono ?_; rintro e' w7 ⟨rfl, hb⟩; have HB7 := Lib.hid hb; clear hb)
  obtain ⟨w8, hw8⟩ : ∃ w8, w8 = w7.alloc (.cells #[.int .i64 z1.c, .int .i64 z1.r, .int .i64 z1.d, .int .i64 z1.p] 23) := ⟨_, rfl⟩
  obtain ⟨Y, hY⟩ : ∃ Y, Y = w7.heap.size := ⟨_, rfl⟩
  have HC : Hid (C9 w B X Y a b z1 z1 w8) := Lib.hid (by
    rw [hw8]
    exact ⟨(D0.out.kept HB7.out).alloc _, (D1.out.kept HB7.out).alloc _, (D2.out.kept HB7.out).alloc _, by rw [hY]; exact Blk.made _ (amC z1) _, below_and (below_and HBD.out HB7.out) (below_alloc _ _), HBW.out, HX.out, by rw [hY]; have := D2.out.lt; have := HB7.out.size; omega⟩)
  rw [← hw8, ← hY]
  clear hw8 hY a0 a1 a2 a3 b0 b1 b2 b3 D0 D1 D2 HBD
  have a0 := Past.blk HC.out.ba (j := 0) rfl
  have a1 := Past.blk HC.out.ba (j := 1) rfl
  have a2 := Past.blk HC.out.ba (j := 2) rfl
  have a3 := Past.blk HC.out.ba (j := 3) rfl
  have x0 := Past.blk HC.out.bx (j := 0) rfl
  have x1 := Past.blk HC.out.bx (j := 1) rfl
  have x2 := Past.blk HC.out.bx (j := 2) rfl
  have x3 := Past.blk HC.out.bx (j := 3) rfl
  have y0 := Past.blk HC.out.by' (j := 0) rfl
  have y1 := Past.blk HC.out.by' (j := 1) rfl
  have y2 := Past.blk HC.out.by' (j := 2) rfl
  have y3 := Past.blk HC.out.by' (j := 3) rfl
  refine wp_region_past (by kernel_rfl) (by kernel_rfl) ?_
  repeat (go_big_quiet_step (first
    | (go_at_call 14; exact past_call (check_any a _))
    | (go_at_call 22; exact past_call (rcheck_any a _))))
  refine wpQuiet_nil ?_
  intro _ hw'
  obtain ⟨s, hw''⟩ := hw'
  subst hw''
  obtain ⟨w9, h9, e9⟩ : ∃ w9, Below w8.heap.size w8 w9 ∧ w9 = s.val := ⟨_, s.h, rfl⟩
  rw [← e9]
  have HC1 : Hid (C9 w B X Y a b z1 z1 w9) := Lib.hid (HC.out.kept h9)
  clear HC h9 e9 a0 a1 a2 a3 x0 x1 x2 x3 y0 y1 y2 y3
  have HC := HC1
  clear HC1
  go_upto_region 7 with fail
  have a0 := HC.out.ba.cell (j := 0) rfl; have a1 := HC.out.ba.cell (j := 1) rfl; have a2 := HC.out.ba.cell (j := 2) rfl; have a3 := HC.out.ba.cell (j := 3) rfl
  have b0 := HC.out.bb.cell (j := 0) rfl; have b1 := HC.out.bb.cell (j := 1) rfl; have b2 := HC.out.bb.cell (j := 2) rfl; have b3 := HC.out.bb.cell (j := 3) rfl
  go_upto_region 8 with (first | (go_at_call 18; refine (sub_val a b z2 e2 _ H2.out).mono ?_; rintro e' u10 ⟨rfl, hb⟩; have HD := Lib.hid (HC.out.kept hb); have r0 := HD.out.bx.cell (j := 0) rfl; have r1 := HD.out.bx.cell (j := 1) rfl; have r2 := HD.out.bx.cell (j := 2) rfl; have r3 := HD.out.bx.cell (j := 3) rfl; have f0 := HD.out.bx.free 0; have f1 := HD.out.bx.free 1; have f2 := HD.out.bx.free 2; have f3 := HD.out.bx.free 3; clear hb))
  obtain ⟨v10, hv⟩ : ∃ v10, v10 = ((((u10.setCell ⟨X, 0, none⟩ (.int .i64 z2.c)).setCell ⟨X, 1, none⟩ (.int .i64 z2.r)).setCell ⟨X, 2, none⟩ (.int .i64 z2.d)).setCell ⟨X, 3, none⟩ (.int .i64 z2.p)) := ⟨_, rfl⟩
  have HE : Hid (C9 w B X Y a b z2 z1 v10) := Lib.hid (by rw [hv]; exact HD.out.setX _)
  rw [← hv]
  clear hv HD HC a0 a1 a2 a3 b0 b1 b2 b3 r0 r1 r2 r3 f0 f1 f2 f3
  have HC := HE
  clear HE
  have a0 := HC.out.ba.cell (j := 0) rfl; have a1 := HC.out.ba.cell (j := 1) rfl; have a2 := HC.out.ba.cell (j := 2) rfl; have a3 := HC.out.ba.cell (j := 3) rfl
  have b0 := HC.out.bb.cell (j := 0) rfl; have b1 := HC.out.bb.cell (j := 1) rfl; have b2 := HC.out.bb.cell (j := 2) rfl; have b3 := HC.out.bb.cell (j := 3) rfl
  go_upto_region 9 with (first | (go_at_call 23; refine (rsub_val a b z2 e2 _ H2.out).mono ?_; rintro e' u11 ⟨rfl, hb⟩; have HD := Lib.hid (HC.out.kept hb); have r0 := HD.out.by'.cell (j := 0) rfl; have r1 := HD.out.by'.cell (j := 1) rfl; have r2 := HD.out.by'.cell (j := 2) rfl; have r3 := HD.out.by'.cell (j := 3) rfl; have f0 := HD.out.by'.free 0; have f1 := HD.out.by'.free 1; have f2 := HD.out.by'.free 2; have f3 := HD.out.by'.free 3; clear hb))
  obtain ⟨v11, hv⟩ : ∃ v11, v11 = ((((u11.setCell ⟨Y, 0, none⟩ (.int .i64 z2.c)).setCell ⟨Y, 1, none⟩ (.int .i64 z2.r)).setCell ⟨Y, 2, none⟩ (.int .i64 z2.d)).setCell ⟨Y, 3, none⟩ (.int .i64 z2.p)) := ⟨_, rfl⟩
  have HE : Hid (C9 w B X Y a b z2 z2 v11) := Lib.hid (by rw [hv]; exact HD.out.setY _)
  rw [← hv]
  clear hv HD HC a0 a1 a2 a3 b0 b1 b2 b3 r0 r1 r2 r3 f0 f1 f2 f3
  have HC := HE
  clear HE
  have x0 := HC.out.bx.cell (j := 0) rfl; have x1 := HC.out.bx.cell (j := 1) rfl; have x2 := HC.out.bx.cell (j := 2) rfl; have x3 := HC.out.bx.cell (j := 3) rfl
  have y0 := HC.out.by'.cell (j := 0) rfl; have y1 := HC.out.by'.cell (j := 1) rfl; have y2 := HC.out.by'.cell (j := 2) rfl; have y3 := HC.out.by'.cell (j := 3) rfl
  go_upto_region 11 with fail
  clear x0 x1 x2 x3 y0 y1 y2 y3
  have a0 := HC.out.ba.cell (j := 0) rfl; have a1 := HC.out.ba.cell (j := 1) rfl; have a2 := HC.out.ba.cell (j := 2) rfl; have a3 := HC.out.ba.cell (j := 3) rfl
  go_upto_region 12 with (first | (go_at_call 15; refine (scale_val' a z3 n e3 _ HN.out H3.out).mono ?_; rintro e' u12 ⟨rfl, hb⟩; have HD := Lib.hid (HC.out.kept hb); have r0 := HD.out.bx.cell (j := 0) rfl; have r1 := HD.out.bx.cell (j := 1) rfl; have r2 := HD.out.bx.cell (j := 2) rfl; have r3 := HD.out.bx.cell (j := 3) rfl; have f0 := HD.out.bx.free 0; have f1 := HD.out.bx.free 1; have f2 := HD.out.bx.free 2; have f3 := HD.out.bx.free 3; clear hb))
  obtain ⟨v12, hv⟩ : ∃ v12, v12 = ((((u12.setCell ⟨X, 0, none⟩ (.int .i64 z3.c)).setCell ⟨X, 1, none⟩ (.int .i64 z3.r)).setCell ⟨X, 2, none⟩ (.int .i64 z3.d)).setCell ⟨X, 3, none⟩ (.int .i64 z3.p)) := ⟨_, rfl⟩
  have HE : Hid (C9 w B X Y a b z3 z2 v12) := Lib.hid (by rw [hv]; exact HD.out.setX _)
  rw [← hv]
  clear hv HD HC a0 a1 a2 a3 r0 r1 r2 r3 f0 f1 f2 f3
  have HC := HE
  clear HE
  have a0 := HC.out.ba.cell (j := 0) rfl; have a1 := HC.out.ba.cell (j := 1) rfl; have a2 := HC.out.ba.cell (j := 2) rfl; have a3 := HC.out.ba.cell (j := 3) rfl
  go_upto_region 13 with (first | (go_at_call 24; refine (rscale_val a z3 n e3 _ HN.out H3.out).mono ?_; rintro e' u13 ⟨rfl, hb⟩; have HD := Lib.hid (HC.out.kept hb); have r0 := HD.out.by'.cell (j := 0) rfl; have r1 := HD.out.by'.cell (j := 1) rfl; have r2 := HD.out.by'.cell (j := 2) rfl; have r3 := HD.out.by'.cell (j := 3) rfl; have f0 := HD.out.by'.free 0; have f1 := HD.out.by'.free 1; have f2 := HD.out.by'.free 2; have f3 := HD.out.by'.free 3; clear hb))
  obtain ⟨v13, hv⟩ : ∃ v13, v13 = ((((u13.setCell ⟨Y, 0, none⟩ (.int .i64 z3.c)).setCell ⟨Y, 1, none⟩ (.int .i64 z3.r)).setCell ⟨Y, 2, none⟩ (.int .i64 z3.d)).setCell ⟨Y, 3, none⟩ (.int .i64 z3.p)) := ⟨_, rfl⟩
  have HE : Hid (C9 w B X Y a b z3 z3 v13) := Lib.hid (by rw [hv]; exact HD.out.setY _)
  rw [← hv]
  clear hv HD HC a0 a1 a2 a3 r0 r1 r2 r3 f0 f1 f2 f3
  have HC := HE
  clear HE
  have x0 := HC.out.bx.cell (j := 0) rfl; have x1 := HC.out.bx.cell (j := 1) rfl; have x2 := HC.out.bx.cell (j := 2) rfl; have x3 := HC.out.bx.cell (j := 3) rfl
  have y0 := HC.out.by'.cell (j := 0) rfl; have y1 := HC.out.by'.cell (j := 1) rfl; have y2 := HC.out.by'.cell (j := 2) rfl; have y3 := HC.out.by'.cell (j := 3) rfl
  go_upto_region 15 with fail
  clear x0 x1 x2 x3 y0 y1 y2 y3
  obtain ⟨i0, hi, hz0, hz1, hz2⟩ := info_parts info_am
  have HSRH : Hid (∀ wq, C9 w B X Y a b z3 z3 wq → Src Tryd.prog 4 37 (.slice p xs.length c) xs.length (amsC xs) (wq.alloc (.cells #[] 23))) := Lib.hid (fun wq h => Row.src Tryd.underlying37 ((HV.out.below h.bel).below (below_alloc _ _)))
  have HSZH : Hid (∀ wq, C9 w B X Y a b z3 z3 wq → w.heap.size ≤ wq.heap.size) := Lib.hid (fun wq h => h.bel.size)
  go_upto_region 16 with (first | (at_builtin; refine wpList_app5 rfl _ _ 37 37 rfl w.heap.size 23 i0 (.agg #[.int .i64 0, .int .i64 0, .int .i64 0, .int .i64 0]) 4 32 Tryd.underlying37 hi hz0 hz1 hz2 rfl _ 0 [] rfl (World.ownsRow_made _ #[] 0 (HSZH.out _ HC.out) (by decide) rfl) _ xs.length (amsC xs) rfl (HSRH.out _ HC.out) (by have := HXS.out; unfold maxLen; omega) (by have := HXS.out; omega) (by have := HSZH.out _ HC.out; simp; omega) ?_; intro v7 w7 ho7 hg7 hk7; rw [Nat.zero_add, List.nil_append] at ho7; have HV7 : Hid (Ams w7 v7 xs) := Lib.hid (row_of_owns ho7 (amsC_one xs)); have HC7 := Lib.hid (HC.out.kept (app_bel hg7)); clear ho7 hg7 hk7) | (go_at_call 16; refine (sum_val _ xs z4 e4 _ HV7.out H4.out).mono ?_; rintro e' u14 ⟨rfl, hb⟩; have HD := Lib.hid (HC7.out.kept hb); have r0 := HD.out.bx.cell (j := 0) rfl; have r1 := HD.out.bx.cell (j := 1) rfl; have r2 := HD.out.bx.cell (j := 2) rfl; have r3 := HD.out.bx.cell (j := 3) rfl; have f0 := HD.out.bx.free 0; have f1 := HD.out.bx.free 1; have f2 := HD.out.bx.free 2; have f3 := HD.out.bx.free 3; clear hb))
  obtain ⟨v14, hv⟩ : ∃ v14, v14 = ((((u14.setCell ⟨X, 0, none⟩ (.int .i64 z4.c)).setCell ⟨X, 1, none⟩ (.int .i64 z4.r)).setCell ⟨X, 2, none⟩ (.int .i64 z4.d)).setCell ⟨X, 3, none⟩ (.int .i64 z4.p)) := ⟨_, rfl⟩
  have HE : Hid (C9 w B X Y a b z4 z3 v14) := Lib.hid (by rw [hv]; exact HD.out.setX _)
  rw [← hv]
  clear hv HD HC r0 r1 r2 r3 f0 f1 f2 f3 HC7 HV7
  have HC := HE
  clear HE
  have HVH : Hid (∀ wq, C9 w B X Y a b z4 z3 wq → Ams wq (.slice p xs.length c) xs) := Lib.hid (fun wq h => HV.out.below h.bel)
  go_upto_region 17 with (first | (go_at_call 25; refine (rsum_val _ xs z4 e4 _ (HVH.out _ HC.out) H4.out).mono ?_; rintro e' u15 ⟨rfl, hb⟩; have HD := Lib.hid (HC.out.kept hb); have r0 := HD.out.by'.cell (j := 0) rfl; have r1 := HD.out.by'.cell (j := 1) rfl; have r2 := HD.out.by'.cell (j := 2) rfl; have r3 := HD.out.by'.cell (j := 3) rfl; have f0 := HD.out.by'.free 0; have f1 := HD.out.by'.free 1; have f2 := HD.out.by'.free 2; have f3 := HD.out.by'.free 3; clear hb))
  obtain ⟨v15, hv⟩ : ∃ v15, v15 = ((((u15.setCell ⟨Y, 0, none⟩ (.int .i64 z4.c)).setCell ⟨Y, 1, none⟩ (.int .i64 z4.r)).setCell ⟨Y, 2, none⟩ (.int .i64 z4.d)).setCell ⟨Y, 3, none⟩ (.int .i64 z4.p)) := ⟨_, rfl⟩
  have HE : Hid (C9 w B X Y a b z4 z4 v15) := Lib.hid (by rw [hv]; exact HD.out.setY _)
  rw [← hv]
  clear hv HD HC r0 r1 r2 r3 f0 f1 f2 f3
  have HC := HE
  clear HE
  have x0 := HC.out.bx.cell (j := 0) rfl; have x1 := HC.out.bx.cell (j := 1) rfl; have x2 := HC.out.bx.cell (j := 2) rfl; have x3 := HC.out.bx.cell (j := 3) rfl
  have y0 := HC.out.by'.cell (j := 0) rfl; have y1 := HC.out.by'.cell (j := 1) rfl; have y2 := HC.out.by'.cell (j := 2) rfl; have y3 := HC.out.by'.cell (j := 3) rfl
  go_upto_region 19 with fail
  clear x0 x1 x2 x3 y0 y1 y2 y3
  have a0 := HC.out.ba.cell (j := 0) rfl; have a1 := HC.out.ba.cell (j := 1) rfl; have a2 := HC.out.ba.cell (j := 2) rfl; have a3 := HC.out.ba.cell (j := 3) rfl
  have b0 := HC.out.bb.cell (j := 0) rfl; have b1 := HC.out.bb.cell (j := 1) rfl; have b2 := HC.out.bb.cell (j := 2) rfl; have b3 := HC.out.bb.cell (j := 3) rfl
  go_upto_region 20 with (go_at_call 20; refine (share_val a b z5 e5 _ H5.out).mono ?_; rintro e' u16 ⟨rfl, hb⟩; have HD := Lib.hid (HC.out.kept hb); clear hb)
  clear HC a0 a1 a2 a3 b0 b1 b2 b3
  have HC := HD
  clear HD
  have a0 := HC.out.ba.cell (j := 0) rfl; have a1 := HC.out.ba.cell (j := 1) rfl; have a2 := HC.out.ba.cell (j := 2) rfl; have a3 := HC.out.ba.cell (j := 3) rfl
  have b0 := HC.out.bb.cell (j := 0) rfl; have b1 := HC.out.bb.cell (j := 1) rfl; have b2 := HC.out.bb.cell (j := 2) rfl; have b3 := HC.out.bb.cell (j := 3) rfl
  go_upto_region 21 with (go_at_call 26; refine (rshare_val a b z5 e5 _ H5.out).mono ?_; rintro e' u17 ⟨rfl, hb⟩; have HD := Lib.hid (HC.out.kept hb); clear hb)
  clear HC a0 a1 a2 a3 b0 b1 b2 b3
  have HC := HD
  clear HD
  have a0 := Past.blk HC.out.ba (j := 0) rfl
  have a1 := Past.blk HC.out.ba (j := 1) rfl
  have a2 := Past.blk HC.out.ba (j := 2) rfl
  have a3 := Past.blk HC.out.ba (j := 3) rfl
  have b0 := Past.blk HC.out.bb (j := 0) rfl
  have b1 := Past.blk HC.out.bb (j := 1) rfl
  have b2 := Past.blk HC.out.bb (j := 2) rfl
  have b3 := Past.blk HC.out.bb (j := 3) rfl
  refine wp_region_past (by kernel_rfl) (by kernel_rfl) ?_
  repeat (go_big_quiet_step (first
    | (go_at_call 19; exact past_call (fits_any a b _))
    | (go_at_call 27; exact past_call (rfits_any a b _))
    | (go_at_call 28; exact past_call (least_any a b z6 _ H6.out))
    | (go_at_call 29; exact past_call (rleast_any a b _ z6 H6.out))
    | (go_at_call 30; exact past_call (most_any a b z7 _ H7.out))
    | (go_at_call 31; exact past_call (rmost_any a b _ z7 H7.out))))
  refine wpQuiet_nil ?_
  intro _ hw'
  obtain ⟨s, hw''⟩ := hw'
  subst hw''
  go_wp2
  go_ret
  exact ⟨rfl, below_and HC.out.bel s.h⟩

theorem ams_of : ∀ (es : List (List Value)), (∀ x ∈ es, x.length = 4 ∧ fieldOk Tryd.prog 2 (x.getD 0 undef) ∧ fieldOk Tryd.prog 2 (x.getD 1 undef) ∧ fieldOk Tryd.prog 2 (x.getD 2 undef) ∧ fieldOk Tryd.prog 2 (x.getD 3 undef)) →
    ∃ xs : List Am, es.flatten = amsC xs ∧ xs.length = es.length
  | [], _ => ⟨[], rfl, rfl⟩
  | x :: es, h => by
    obtain ⟨xs, h1, h2⟩ := ams_of es (fun y hy => h y (List.mem_cons_of_mem _ hy))
    obtain ⟨k0, k1, k2, k3, k4⟩ := h x (by simp)
    obtain ⟨a, ha⟩ := am_of x k0 k1 k2 k3 k4
    have hx : x = amC a := by
      have := congrArg (fun v => match v with | Value.agg c => c.toList | _ => []) ha
      simpa using this
    exact ⟨a :: xs, by rw [List.flatten_cons, h1, hx]; rfl, by simp [h2]⟩
theorem resourceCalls_walk (xs ys : List Value) (n : Int) (v : Value) (es : List (List Value)) (w : World) (hl : xs.length = 4) (h0 : fieldOk Tryd.prog 2 (xs.getD 0 undef)) (h1 : fieldOk Tryd.prog 2 (xs.getD 1 undef)) (h2 : fieldOk Tryd.prog 2 (xs.getD 2 undef)) (h3 : fieldOk Tryd.prog 2 (xs.getD 3 undef))
    (kl : ys.length = 4) (k0 : fieldOk Tryd.prog 2 (ys.getD 0 undef)) (k1 : fieldOk Tryd.prog 2 (ys.getD 1 undef)) (k2 : fieldOk Tryd.prog 2 (ys.getD 2 undef)) (k3 : fieldOk Tryd.prog 2 (ys.getD 3 undef)) (hn : (Lit.int .i64 n).wf = true)
    (hv : Row w v 4 es.length es.flatten) (he : ∀ x ∈ es, x.length = 4 ∧ fieldOk Tryd.prog 2 (x.getD 0 undef) ∧ fieldOk Tryd.prog 2 (x.getD 1 undef) ∧ fieldOk Tryd.prog 2 (x.getD 2 undef) ∧ fieldOk Tryd.prog 2 (x.getD 3 undef)) (hs : ∃ a n c, v = .slice a n c ∧ n * 32 ≤ 140737488351232) (ht : Tab w) :
    Calls Tryd.prog 8 #[.agg xs.toArray, .agg ys.toArray, .int .i64 n, v] w fun e w' => e = .returned (.bool true) ∧ Below w.heap.size w w' := by
  obtain ⟨a, ha⟩ := am_of xs hl h0 h1 h2 h3
  obtain ⟨b, hb⟩ := am_of ys kl k0 k1 k2 k3
  obtain ⟨zs, e1, e2⟩ := ams_of es he
  obtain ⟨p, m, c, hvm, hm⟩ := hs
  have hml := row_len hv hvm
  rw [ha, hb]
  refine rcalls_any a b n v zs w ht (i64_wf hn).2 ?_ (by rw [e2, ← hml]; exact hm)
  unfold Ams
  rw [← e1, e2]
  exact hv

end Go.Proofs.YtmgecehdicpjnaaDoor
