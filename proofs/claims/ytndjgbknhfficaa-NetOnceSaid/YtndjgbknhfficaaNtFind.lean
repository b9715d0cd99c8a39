/- find, Deliver, Lose, Double (written by gennet.py). -/
import Derived.Test.YtndjgbknhfficaaNtPut
import Derived.Laws.ResultCell
import Derived.Laws.Rows
namespace Go.Proofs.Ytndjgbknhfficaa.Nt
open Go.RowKit Go.Proofs.Ytndjgbknhfficaa Go.Proofs.Ytndjgbknhfficaa.So

theorem zero_run {P : Program} {t : TypeId} {z : Value} (h : (P.info? t).bind (·.zero) = some z) (w : World) : (zeroValue t).run P w = .ok z w := by
  cases hi : P.info? t with
  | none => rw [hi] at h; cases h
  | some i =>
    rw [hi] at h
    have hz : i.zero = some z := h
    simp [zeroValue, typeInfo, hi, hz, Result.andThen]
theorem ret_cell {P : Program} {fn : Func} {R : Ending → World → Prop} {a : Act} {w : World} {p u : Tmp} {ty t : TypeId} {g : Nat} {cs : List Value} {d : TypeDesc} (h : fn.results = #[.cell p ty, .tmp u]) (hd : a.defers = [])
    (hp : a.tmps.getD p undef = .pointer (some ⟨g, 0, none⟩)) (hg : Blk w g cs t) (hu : P.underlying ty = some d) (hs : (match d with | .struct _ | .array _ _ => true | _ => false) = true) (hi : (P.info? ty).map (·.size) = some cs.length)
    (hR : R (.returned (.tuple #[.agg cs.toArray, a.tmps.getD u undef])) w) : bodyPost P fn R .ret a w := by
  refine bodyPost_ret ?_ hd hR
  rw [results_cell_tmp h]
  have h1 : (asAddr (a.tmps.getD p undef)).run P w = .ok ⟨g, 0, none⟩ w := by rw [hp]; rfl
  rw [h1]
  simp only [Result.andThen_ok]
  rw [run_loadVar_row w g t ty cs.toArray (0, 0) d hg hu hs (by simpa using hi)]
  rfl

theorem blk_fill5 {w : World} {g : Nat} {x0 x1 x2 x3 x4 : Value} {t : TypeId} (h : Blk w g [x0, x1, x2, x3, x4] t) (a0 a1 a2 a3 a4 : Value) : Blk (((((w.setCell ⟨g, 0, none⟩ a0).setCell ⟨g, 1, none⟩ a1).setCell ⟨g, 2, none⟩ a2).setCell ⟨g, 3, none⟩ a3).setCell ⟨g, 4, none⟩ a4) g [a0, a1, a2, a3, a4] t := ((((h.set 0 a0).set 1 a1).set 2 a2).set 3 a3).set 4 a4
theorem frp_fill5 (w : World) (g : Nat) (a0 a1 a2 a3 a4 : Value) : Frp (fun k => k = g) w (((((w.setCell ⟨g, 0, none⟩ a0).setCell ⟨g, 1, none⟩ a1).setCell ⟨g, 2, none⟩ a2).setCell ⟨g, 3, none⟩ a3).setCell ⟨g, 4, none⟩ a4) := (((((Frp.refl (fun k => k = g) w).set (p := ⟨g, 0, none⟩) rfl a0).set (p := ⟨g, 1, none⟩) rfl a1).set (p := ⟨g, 2, none⟩) rfl a2).set (p := ⟨g, 3, none⟩) rfl a3).set (p := ⟨g, 4, none⟩) rfl a4
theorem PNet.fill5 {w : World} {b mb g : Nat} {last : Int} {E : List En} {C : List Value} (h : PNet w b mb last E) (hg : Blk w g C 32) (a0 a1 a2 a3 a4 : Value) : PNet (((((w.setCell ⟨g, 0, none⟩ a0).setCell ⟨g, 1, none⟩ a1).setCell ⟨g, 2, none⟩ a2).setCell ⟨g, 3, none⟩ a3).setCell ⟨g, 4, none⟩ a4) b mb last E :=
  h.frp (frp_fill5 w g a0 a1 a2 a3 a4) (fun e => by subst e; exact absurd (blk_ty h.blk hg) (by decide)) (fun e => by subst e; exact blk_nmap hg h.map) (fun e he q hq hqg => by subst hqg; exact own_ty (h.own e he) hg (by decide) hq)
theorem lzero (w : World) : (zeroValue 32).run Try.prog w = .ok zeV w := zero_run (by kernel_rfl) w
def zL : Lt := ⟨0, 0, 0, 0, []⟩
theorem at_hide' {F Q : World → Prop} {w : World} (h : F w) (k : ∀ w', F w' → Q w') : Q w := k w h
set_option maxRecDepth 100000 in
set_option maxHeartbeats 2000000 in
theorem find_no {w : World} {b mb : Nat} {last : Int} {E : List En} (n : Int) (h : PNet w b mb last E) (hw : (Lit.int .u64 n).wf = true) (hg : eget E n = none) :
    Calls Try.prog 35 #[ptr b, .int .u64 n] w fun e w' => e = .returned (.tuple #[zeV, .int .i64 6]) ∧ Below w.heap.size w w' := by
  have HG : Hid ((nM E).get n = none ∧ (nM E).hasK n = false) := Lib.hid ⟨by rw [nM_get, hg]; rfl, by rw [nM_has, hg]; rfl⟩
  clear hg
  have H := Lib.hid h
  have HWF := Lib.hid hw
  have c0 := ((h.kept (below_alloc w (.cells #[.int .u64 0, .int .u64 0, .int .i64 0, .int .i64 0, .slice none 0 0] 32))).blk).cell (j := 0) rfl
  clear h hw
  go_enter Try.func35, Try.ntmps35
  go_wp2_with (first | (go_at_call 31; refine (none_no (by exact H.out.kept (below_alloc _ _))).mono ?_; rintro e w' ⟨rfl, rfl⟩) | (at_lookup; refine wpList_nlook_ok _ rfl _ _ _ rfl 25 32 Try.underlying25 Try.underlying57 (lzero _) mb (nM E) rfl (by exact (H.out.kept (below_alloc _ _)).map) n rfl HWF.out ?_; rw [HG.out.1, HG.out.2]; simp only [Option.getD_some, Option.getD_none]))
  refine ret_cell rfl rfl rfl ((Blk.made w [.int .u64 0, .int .u64 0, .int .i64 0, .int .i64 0, .slice none 0 0] 32).kept (below_alloc _ _)) Try.underlying32 rfl (by kernel_rfl) ?_
  exact ⟨rfl, below_and (below_alloc w _) (below_alloc _ _)⟩
set_option maxRecDepth 100000 in
set_option maxHeartbeats 2000000 in
theorem find_yes {w : World} {b mb : Nat} {last : Int} {E : List En} (n : Int) (x : En) (h : PNet w b mb last E) (hw : (Lit.int .u64 n).wf = true) (hg : eget E n = some x) :
    Calls Try.prog 35 #[ptr b, .int .u64 n] w fun e w' => e = .returned (.tuple #[ltV x.l x.v, .int .i64 0]) ∧ Below w.heap.size w w' := by
  obtain ⟨p, c, hv, -, -⟩ := own_slice (h.own x (eget_mem hg).1)
  obtain ⟨len, hlen⟩ : ∃ len, len = x.l.bd.length := ⟨_, rfl⟩
  rw [← hlen] at hv
  have HG : Hid ((nM E).get n = some (ltV x.l (.slice p len c)) ∧ (nM E).hasK n = true) := Lib.hid ⟨by rw [nM_get, hg, ← hv]; rfl, by rw [nM_has, hg]; rfl⟩
  rw [hv]
  clear hg hv hlen
  have H := Lib.hid h
  have HWF := Lib.hid hw
  have c0 := ((h.kept (below_alloc w (.cells #[.int .u64 0, .int .u64 0, .int .i64 0, .int .i64 0, .slice none 0 0] 32))).blk).cell (j := 0) rfl
  clear h hw
  go_enter Try.func35, Try.ntmps35
  go_wp2_with (first | (go_at_call 31; refine (none_no (by exact H.out.kept (below_alloc _ _))).mono ?_; rintro e w' ⟨rfl, rfl⟩) | (at_lookup; refine wpList_nlook_ok _ rfl _ _ _ rfl 25 32 Try.underlying25 Try.underlying57 (lzero _) mb (nM E) rfl (by exact (H.out.kept (below_alloc _ _)).map) n rfl HWF.out ?_; rw [HG.out.1, HG.out.2]; simp only [Option.getD_some, Option.getD_none]))
  refine ret_cell rfl rfl rfl ((Blk.made w [.int .u64 x.l.no, .int .u64 x.l.fi, .int .i64 x.l.sd, .int .i64 x.l.rc, .slice p len c] 32).kept (below_alloc _ _)) Try.underlying32 rfl (by kernel_rfl) ?_
  exact ⟨rfl, below_and (below_alloc w _) (below_alloc _ _)⟩
set_option maxRecDepth 100000 in
set_option maxHeartbeats 2000000 in
theorem deliver_no {w : World} {b mb : Nat} {last : Int} {E : List En} (n : Int) (h : PNet w b mb last E) (hw : (Lit.int .u64 n).wf = true) (hg : eget E n = none) :
    Calls Try.prog 11 #[ptr b, .int .u64 n] w fun e w' => e = .returned (.tuple #[zeV, .int .i64 6]) ∧ Below w.heap.size w w' := by
  have H := Lib.hid h
  have HWF := Lib.hid hw
  obtain ⟨w0, hw0⟩ : ∃ w0, w0 = w.alloc (.cells #[.int .u64 0, .int .u64 0, .int .i64 0, .int .i64 0, .slice none 0 0] 32) := ⟨_, rfl⟩
  have H0 := Lib.hid (h.kept (below_alloc w (.cells #[.int .u64 0, .int .u64 0, .int .i64 0, .int .i64 0, .slice none 0 0] 32)))
  have HX0 := Lib.hid (Blk.made w [.int .u64 0, .int .u64 0, .int .i64 0, .int .i64 0, .slice none 0 0] 32)
  have HB0 := Lib.hid (below_alloc w (.cells #[.int .u64 0, .int .u64 0, .int .i64 0, .int .i64 0, .slice none 0 0] 32))
  rw [← hw0] at H0 HX0 HB0
  have HFI := Lib.hid (find_no n H0.out hw hg)
  clear h hw hg
  go_enter Try.func11, Try.ntmps11
  go_upto_region 1 with fail
  rw [← hw0]
  obtain ⟨R, hR⟩ : ∃ R, R = w.heap.size := ⟨_, rfl⟩
  rw [← hR] at HX0 HB0 ⊢
  have HRW : Hid (w.heap.size ≤ R) := Lib.hid (by omega)
  have HRR : Hid (R = w.heap.size) := Lib.hid hR
  clear hw0 hR
  go_upto_region 2 with (go_at_call 35; refine HFI.out.mono ?_; rintro e w2 ⟨rfl, hb⟩; have HB2 := Lib.hid hb; have HX2 := Lib.hid (HX0.out.kept hb); have H2 := Lib.hid (H0.out.kept hb); clear hb)
  obtain ⟨w3, hw3⟩ : ∃ w3, w3 = w2.alloc (.cells #[.int .u64 0, .int .u64 0, .int .i64 0, .int .i64 0, .slice none 0 0] 32) := ⟨_, rfl⟩
  obtain ⟨K, hK⟩ : ∃ K, K = w2.heap.size := ⟨_, rfl⟩
  have HB3 : Hid (Below w.heap.size w w3) := Lib.hid (by rw [hw3]; have h1 := HB0.out; rw [HRR.out] at h1; exact below_and (below_and h1 HB2.out) (below_alloc _ _))
  have HK3 : Hid (Blk w3 K [.int .u64 0, .int .u64 0, .int .i64 0, .int .i64 0, .slice none 0 0] 32) := Lib.hid (by rw [hw3, hK]; exact Blk.made w2 [.int .u64 0, .int .u64 0, .int .i64 0, .int .i64 0, .slice none 0 0] 32)
  have HX3 : Hid (Blk w3 R [.int .u64 0, .int .u64 0, .int .i64 0, .int .i64 0, .slice none 0 0] 32) := Lib.hid (by rw [hw3]; exact HX2.out.alloc _)
  have H3 : Hid (PNet w3 b mb last E) := Lib.hid (by rw [hw3]; exact H2.out.kept (below_alloc _ _))
  rw [← hw3, ← hK]
  clear hw3 hK HX2 H2 HB2 HX0 HB0 HFI
  have x0 := HK3.out.cell (j := 0) rfl
  have x1 := HK3.out.cell (j := 1) rfl
  have x2 := HK3.out.cell (j := 2) rfl
  have x3 := HK3.out.cell (j := 3) rfl
  have x4 := HK3.out.cell (j := 4) rfl
  have f0 := HX3.out.free 0
  have f1 := HX3.out.free 1
  have f2 := HX3.out.free 2
  have f3 := HX3.out.free 3
  have f4 := HX3.out.free 4
  have y0 := HX3.out.cell (j := 0) rfl
  have y1 := HX3.out.cell (j := 1) rfl
  have y2 := HX3.out.cell (j := 2) rfl
  have y3 := HX3.out.cell (j := 3) rfl
  have y4 := HX3.out.cell (j := 4) rfl
  go_wp2
  refine ret_cell rfl rfl rfl (blk_fill5 HX3.out _ _ _ _ _) Try.underlying32 rfl (by kernel_rfl) ?_
  refine ⟨rfl, HB3.out.trans ((frp_fill5 w3 R _ _ _ _ _).below (fun k hk => by subst hk; exact HRW.out) HB3.out.size)⟩
set_option maxRecDepth 100000 in
set_option maxHeartbeats 2000000 in
theorem deliver_yes {w : World} {b mb : Nat} {last : Int} {E : List En} (n : Int) (x : En) (h : PNet w b mb last E) (hw : (Lit.int .u64 n).wf = true) (hg : eget E n = some x) :
    Calls Try.prog 11 #[ptr b, .int .u64 n] w fun e w' => e = .returned (.tuple #[ltV x.l x.v, .int .i64 0]) ∧ PNet w' b mb last (edel E n) ∧ Frp (NP b mb) w w' := by
  obtain ⟨p, c, hv, -, -⟩ := own_slice (h.own x (eget_mem hg).1)
  obtain ⟨len, hlen⟩ : ∃ len, len = x.l.bd.length := ⟨_, rfl⟩
  have H := Lib.hid h
  have HWF := Lib.hid hw
  obtain ⟨w0, hw0⟩ : ∃ w0, w0 = w.alloc (.cells #[.int .u64 0, .int .u64 0, .int .i64 0, .int .i64 0, .slice none 0 0] 32) := ⟨_, rfl⟩
  have H0 := Lib.hid (h.kept (below_alloc w (.cells #[.int .u64 0, .int .u64 0, .int .i64 0, .int .i64 0, .slice none 0 0] 32)))
  have HX0 := Lib.hid (Blk.made w [.int .u64 0, .int .u64 0, .int .i64 0, .int .i64 0, .slice none 0 0] 32)
  have HB0 := Lib.hid (below_alloc w (.cells #[.int .u64 0, .int .u64 0, .int .i64 0, .int .i64 0, .slice none 0 0] 32))
  rw [← hw0] at H0 HX0 HB0
  have HFI := Lib.hid (find_yes n x H0.out hw hg)
  rw [hv, ← hlen] at HFI ⊢
  clear hv hlen
  clear h hw hg
  go_enter Try.func11, Try.ntmps11
  go_upto_region 1 with fail
  rw [← hw0]
  obtain ⟨R, hR⟩ : ∃ R, R = w.heap.size := ⟨_, rfl⟩
  rw [← hR] at HX0 HB0 ⊢
  have HRW : Hid (w.heap.size ≤ R) := Lib.hid (by omega)
  have HRR : Hid (R = w.heap.size) := Lib.hid hR
  clear hw0 hR
  go_upto_region 3 with (go_at_call 35; refine HFI.out.mono ?_; rintro e w2 ⟨rfl, hb⟩; have HB2 := Lib.hid hb; have HX2 := Lib.hid (HX0.out.kept hb); have H2 := Lib.hid (H0.out.kept hb); clear hb)
  obtain ⟨w3, hw3⟩ : ∃ w3, w3 = w2.alloc (.cells #[.int .u64 x.l.no, .int .u64 x.l.fi, .int .i64 x.l.sd, .int .i64 x.l.rc, .slice p len c] 32) := ⟨_, rfl⟩
  obtain ⟨K, hK⟩ : ∃ K, K = w2.heap.size := ⟨_, rfl⟩
  have HB3 : Hid (Below w.heap.size w w3) := Lib.hid (by rw [hw3]; have h1 := HB0.out; rw [HRR.out] at h1; exact below_and (below_and h1 HB2.out) (below_alloc _ _))
  have HK3 : Hid (Blk w3 K [.int .u64 x.l.no, .int .u64 x.l.fi, .int .i64 x.l.sd, .int .i64 x.l.rc, .slice p len c] 32) := Lib.hid (by rw [hw3, hK]; exact Blk.made w2 [.int .u64 x.l.no, .int .u64 x.l.fi, .int .i64 x.l.sd, .int .i64 x.l.rc, .slice p len c] 32)
  have HX3 : Hid (Blk w3 R [.int .u64 0, .int .u64 0, .int .i64 0, .int .i64 0, .slice none 0 0] 32) := Lib.hid (by rw [hw3]; exact HX2.out.alloc _)
  have H3 : Hid (PNet w3 b mb last E) := Lib.hid (by rw [hw3]; exact H2.out.kept (below_alloc _ _))
  rw [← hw3, ← hK]
  clear hw3 hK HX2 H2 HB2 HX0 HB0 HFI
  have c0 := H3.out.blk.cell (j := 0) rfl
  go_upto_region 4 with (refine wpList_ndel _ rfl _ _ _ _ rfl 32 Try.underlying25 Try.underlying57 mb (nM E) rfl H3.out.map n rfl HWF.out ?_; intro w8 hp8 hg8; have HP8 := Lib.hid (H3.out.del n hg8 hp8); have HX8 := Lib.hid (HX3.out.grown hg8 (by intro e; cases e; exact blk_nmap HX3.out H3.out.map)); have HK8 := Lib.hid (HK3.out.grown hg8 (by intro e; cases e; exact blk_nmap HK3.out H3.out.map)); clear hp8 hg8)
  have x0 := HK8.out.cell (j := 0) rfl
  have x1 := HK8.out.cell (j := 1) rfl
  have x2 := HK8.out.cell (j := 2) rfl
  have x3 := HK8.out.cell (j := 3) rfl
  have x4 := HK8.out.cell (j := 4) rfl
  have f0 := HX8.out.free 0
  have f1 := HX8.out.free 1
  have f2 := HX8.out.free 2
  have f3 := HX8.out.free 3
  have f4 := HX8.out.free 4
  have y0 := HX8.out.cell (j := 0) rfl
  have y1 := HX8.out.cell (j := 1) rfl
  have y2 := HX8.out.cell (j := 2) rfl
  have y3 := HX8.out.cell (j := 3) rfl
  have y4 := HX8.out.cell (j := 4) rfl
  go_wp2
  refine ret_cell rfl rfl rfl (blk_fill5 HX8.out _ _ _ _ _) Try.underlying32 rfl (by kernel_rfl) ?_
  refine ⟨rfl, HP8.out.1.fill5 HX8.out _ _ _ _ _, (((Frp.of_below HB3.out (NP b mb)).then HP8.out.2).trans (frp_fill5 w8 R _ _ _ _ _) (fun k hk => by subst hk; exact .inr HRW.out))⟩
end Go.Proofs.Ytndjgbknhfficaa.Nt
