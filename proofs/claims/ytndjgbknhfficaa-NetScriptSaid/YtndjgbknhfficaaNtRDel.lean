/- NtRDel. -/
import Derived.Test.YtndjgbknhfficaaNtRDo
import Derived.Test.YtndjgbknhfficaaCutH
namespace Go.Proofs.Ytndjgbknhfficaa.Nt
open Go.RowKit Go.Proofs.Ytndjgbknhfficaa Go.Proofs.Ytndjgbknhfficaa.So

theorem RTo.fill5 {w w1 : World} {g R : Nat} {v v' : Value} {last : Int} {L : List En} {C : List Value} (h : RTo w w1 g v v' last L) (hR : Blk w1 R C 32) (hlo : w.heap.size ≤ R) (a0 a1 a2 a3 a4 : Value) (hne : v'.ownBlock ≠ some R) (hng : g ≠ R) : RTo w (((((w1.setCell ⟨R, 0, none⟩ a0).setCell ⟨R, 1, none⟩ a1).setCell ⟨R, 2, none⟩ a2).setCell ⟨R, 3, none⟩ a3).setCell ⟨R, 4, none⟩ a4) g v v' last L := by
  have hf := frp_fill5 w1 R a0 a1 a2 a3 a4
  refine ⟨⟨h.n.blk.frp hf hng, own_frp h.n.row hf (fun q hq e => hne (by rw [← e]; exact hq)), fun e he => own_frp (h.n.own e he) hf (fun q hq hh => by subst hh; exact own_ty (h.n.own e he) hR (by decide) hq)⟩, h.fr.trans hf (fun q hq => .inr (by rw [hq]; exact hlo)), h.new⟩
set_option maxRecDepth 100000 in
set_option maxHeartbeats 2000000 in
theorem rdeliver_no {w : World} {g : Nat} {v : Value} {last : Int} {L : List En} (n : Int) (h : RNet w g v last L) (hno : ∀ e ∈ L, e.l.no ≠ n) :
    Calls Try.prog 22 #[ptr g, .int .u64 n] w fun e w' => e = .returned (.tuple #[zeV, .int .i64 6]) ∧ Below w.heap.size w w' := by
  obtain ⟨w0, hw0⟩ : ∃ w0, w0 = w.alloc (.cells #[.int .u64 0, .int .u64 0, .int .i64 0, .int .i64 0, .slice none 0 0] 32) := ⟨_, rfl⟩
  have H0 := Lib.hid (h.kept (below_alloc w (.cells #[.int .u64 0, .int .u64 0, .int .i64 0, .int .i64 0, .slice none 0 0] 32)))
  have HX0 := Lib.hid (Blk.made w [.int .u64 0, .int .u64 0, .int .i64 0, .int .i64 0, .slice none 0 0] 32)
  have HB0 := Lib.hid (below_alloc w (.cells #[.int .u64 0, .int .u64 0, .int .i64 0, .int .i64 0, .slice none 0 0] 32))
  rw [← hw0] at H0 HX0 HB0
  have HFI := Lib.hid (rplace_no n H0.out hno)
  clear h hno
  go_enter Try.func22, Try.ntmps22
  go_upto_region 1 with fail
  rw [← hw0]
  obtain ⟨R, hR⟩ : ∃ R, R = w.heap.size := ⟨_, rfl⟩
  rw [← hR] at HX0 HB0 ⊢
  have HRR : Hid (R = w.heap.size) := Lib.hid hR
  clear hw0 hR
  go_upto_region 3 with (go_at_call 40; refine HFI.out.mono ?_; rintro e w2 ⟨rfl, hb⟩; have HB2 := Lib.hid hb; have HX9 := Lib.hid (HX0.out.kept hb); clear hb)
  have f0 := HX9.out.free 0
  have f1 := HX9.out.free 1
  have f2 := HX9.out.free 2
  have f3 := HX9.out.free 3
  have f4 := HX9.out.free 4
  have y0 := HX9.out.cell (j := 0) rfl
  have y1 := HX9.out.cell (j := 1) rfl
  have y2 := HX9.out.cell (j := 2) rfl
  have y3 := HX9.out.cell (j := 3) rfl
  have y4 := HX9.out.cell (j := 4) rfl
  go_wp2
  refine ret_cell rfl rfl rfl (blk_fill5 HX9.out _ _ _ _ _) Try.underlying32 rfl (by kernel_rfl) ?_
  have h1 := HB0.out
  rw [HRR.out] at h1
  have h3 := below_and h1 HB2.out
  refine ⟨rfl, h3.trans ((frp_fill5 w2 R _ _ _ _ _).below (fun k hk => by subst hk; rw [HRR.out]; exact Nat.le_refl _) h3.size)⟩
set_option maxRecDepth 100000 in
set_option maxHeartbeats 6000000 in
theorem rdeliver_yes {w : World} {g : Nat} {v : Value} {last : Int} {L : List En} (n : Int) (h : RNet w g v last L) (hL : L.length ≤ 4000) (i : Nat) (hi : i < L.length) (x : En) (hx : L[i]'hi = x) (hq : x.l.no = n) (hbf : ∀ j (hj : j < i), (L[j]'(by omega)).l.no ≠ n) :
    Calls Try.prog 22 #[ptr g, .int .u64 n] w fun e w' => e = .returned (.tuple #[ltV x.l x.v, .int .i64 0]) ∧ ∃ v', RTo w w' g v v' last (L.eraseIdx i) := by
  obtain ⟨ix, hix, hz0, hz1, hz2⟩ := info_parts info_let
  obtain ⟨p, c, rfl, hc, hmx⟩ := own_slice h.row
  unfold maxLen at hmx
  obtain ⟨gr, rfl⟩ := own_some h.row (by omega)
  obtain ⟨px, cx, hxv, -, -⟩ := own_slice (h.own x (by rw [← hx]; exact List.getElem_mem _))
  have HC5 : Hid (∀ j u, j < 5 → (enC x)[j]? = some u → ∀ w', Below w.heap.size w w' → w'.cell? ⟨gr, i * 5 + j, none⟩ = some u) := Lib.hid (fun j u hj hu w' hb => own_cell (own_keep h.row hb) (j := i * 5 + j) (by rw [rwC_at enC_len hi hj, hx]; exact hu))
  obtain ⟨lx, hlx⟩ : ∃ lx, lx = x.l.bd.length := ⟨_, rfl⟩
  simp only [enC, ltC, hxv] at HC5
  rw [← hlx] at HC5
  obtain ⟨w0, hw0⟩ : ∃ w0, w0 = w.alloc (.cells #[.int .u64 0, .int .u64 0, .int .i64 0, .int .i64 0, .slice none 0 0] 32) := ⟨_, rfl⟩
  have H0 := Lib.hid (h.kept (below_alloc w (.cells #[.int .u64 0, .int .u64 0, .int .i64 0, .int .i64 0, .slice none 0 0] 32)))
  have HX0 := Lib.hid (Blk.made w [.int .u64 0, .int .u64 0, .int .i64 0, .int .i64 0, .slice none 0 0] 32)
  have HB0 := Lib.hid (below_alloc w (.cells #[.int .u64 0, .int .u64 0, .int .i64 0, .int .i64 0, .slice none 0 0] 32))
  rw [← hw0] at H0 HX0 HB0
  have HPL := Lib.hid (rplace_yes n H0.out i hi (by rw [hx]; exact hq) hbf)
  have H := Lib.hid h
  have HIL : Hid (i < L.length) := Lib.hid hi
  rw [hxv]
  rw [← hlx]
  obtain ⟨m, hm⟩ : ∃ m, m = L.length := ⟨_, rfl⟩
  have HM := Lib.hid hm
  rw [← hm] at hL H H0 hi hc ⊢
  clear h hm hbf hq hxv hlx hx
  have j0 : ¬ (i : Int) < 0 := by omega
  go_enter Try.func22, Try.ntmps22
  go_upto_region 1 with fail
  rw [← hw0]
  obtain ⟨R, hR⟩ : ∃ R, R = w.heap.size := ⟨_, rfl⟩
  rw [← hR] at HX0 HB0 ⊢
  have HRR : Hid (R = w.heap.size) := Lib.hid hR
  clear hw0 hR
  go_upto_region 2 with (go_at_call 40; refine HPL.out.mono ?_; rintro e w2 ⟨rfl, hb⟩; have HB2 : Hid (Below w.heap.size w w2) := Lib.hid (by have h1 := HB0.out; rw [HRR.out] at h1; exact below_and h1 hb); have HX2 := Lib.hid (HX0.out.kept hb); clear hb HPL)
  have c0 := (H.out.kept HB2.out).blk.cell (j := 0) rfl
  have x0 := HC5.out 0 _ (by omega) rfl _ HB2.out
  simp only [Nat.add_zero] at x0
  have x1 := HC5.out 1 _ (by omega) rfl _ HB2.out
  have x2 := HC5.out 2 _ (by omega) rfl _ HB2.out
  have x3 := HC5.out 3 _ (by omega) rfl _ HB2.out
  have x4 := HC5.out 4 _ (by omega) rfl _ HB2.out
  go_upto_region 5 with fail
  obtain ⟨w3, hw3⟩ : ∃ w3, w3 = w2.alloc (.cells #[.int .u64 x.l.no, .int .u64 x.l.fi, .int .i64 x.l.sd, .int .i64 x.l.rc, .slice px lx cx] 32) := ⟨_, rfl⟩
  obtain ⟨K, hK⟩ : ∃ K, K = w2.heap.size := ⟨_, rfl⟩
  have HBW3 : Hid (Below w.heap.size w w3) := Lib.hid (by rw [hw3]; exact below_and HB2.out (below_alloc _ _))
  have HK3 : Hid (Blk w3 K [.int .u64 x.l.no, .int .u64 x.l.fi, .int .i64 x.l.sd, .int .i64 x.l.rc, .slice px lx cx] 32) := Lib.hid (by rw [hw3, hK]; exact Blk.made w2 [.int .u64 x.l.no, .int .u64 x.l.fi, .int .i64 x.l.sd, .int .i64 x.l.rc, .slice px lx cx] 32)
  have HX3 : Hid (Blk w3 R [.int .u64 0, .int .u64 0, .int .i64 0, .int .i64 0, .slice none 0 0] 32) := Lib.hid (by rw [hw3]; exact HX2.out.alloc _)
  have H3 := Lib.hid (H.out.kept HBW3.out)
  have HGK : Hid (K ≠ g ∧ R ≠ g) := Lib.hid (by have h1 := H.out.blk.lt; have h2 := HB2.out.size; have h3 := HRR.out; omega)
  rw [← hw3, ← hK]
  clear hw3 hK c0 x0 x1 x2 x3 x4 HX2 H0 HB0 HC5
  obtain ⟨p, hp⟩ : ∃ p, p = some (⟨gr, 0, none⟩ : Addr) := ⟨_, rfl⟩
  rw [← hp] at H H3 ⊢
  have HPP := Lib.hid hp
  clear hp
  have HSS : Hid (∀ w', Below w3.heap.size w3 w' → w'.cell? ⟨g, 0, none⟩ = some (.slice p m c)) := Lib.hid (fun w' hb => (H3.out.kept hb).blk.cell (j := 0) rfl)
  have b1 : (0 : Int) ≤ (i : Int) := by omega
  have b2 : (i : Int) ≤ (m : Int) := by omega
  have b3 : (i : Int) ≤ (c : Int) := by omega
  have b4 : (0 : Int) ≤ (i : Int) + 1 := by omega
  have b5 : (i : Int) + 1 ≤ (m : Int) := by omega
  have b6 : (m : Int) ≤ (c : Int) := by omega
  have u1 : IntKind.i64.wrap ((i : Int) + 1) = (i : Int) + 1 := by unfold IntKind.wrap; simp [IntKind.bits, IntKind.signed]; omega
  have u2 : ((i : Int) + 1).toNat = i + 1 := by omega
  refine wp_region_noPanic ?_
  refine wp_region_lastH (fun w' => w'.cell? ⟨g, 0, none⟩ = some (.slice p m c)) 19 rfl rfl (by kernel_rfl) (by kernel_rfl) (HSS.out _ (below_drewN 1)) (fun hHeld => ?_)
  have HB1 : Hid (Below w3.heap.size w3 w3.drew) := Lib.hid (below_drewN 1)
  have hS1 : True := trivial
  obtain ⟨wd1, hwd⟩ : ∃ xq, xq = w3.drew := ⟨_, rfl⟩
  rw [← hwd] at hHeld HB1 ⊢
  clear hwd
  refine wpAnyH_take (i := 0) (v := ?v1) rfl (by kernel_rfl) (by kernel_rfl) (by kernel_rfl) (fun _ _ _ h => h) (Or.inl ⟨by rfl, ?hy1⟩) (by assumption) ?rest1
  case hy1 => (intro _ hSw; (try dsimp only at hSw); go_simp; (try with_reducible rfl))
  (try simp only [Act.put]); (try simp only [List.setIfInBounds_toArray]); (try simp only [List.set_cons_succ]); (try simp only [List.set_cons_zero])
  refine wpAnyH_take (i := 2) (v := ?v2) rfl (by kernel_rfl) (by kernel_rfl) (by kernel_rfl) (fun _ _ _ h => h) (Or.inl ⟨by rfl, ?hy2⟩) (by assumption) ?rest2
  case hy2 => (intro _ hSw; (try dsimp only at hSw); go_simp; (try with_reducible rfl))
  (try simp only [Act.put]); (try simp only [List.setIfInBounds_toArray]); (try simp only [List.set_cons_succ]); (try simp only [List.set_cons_zero])
  refine wpAnyH_take (i := 3) (v := ?v3) rfl (by kernel_rfl) (by kernel_rfl) (by kernel_rfl) (fun _ _ _ h => h) (Or.inl ⟨by rfl, ?hy3⟩) (by assumption) ?rest3
  case hy3 => (intro _ hSw; (try dsimp only at hSw); go_simp; (try with_reducible rfl))
  (try simp only [Act.put]); (try simp only [List.setIfInBounds_toArray]); (try simp only [List.set_cons_succ]); (try simp only [List.set_cons_zero])
  refine wpAnyH_take (i := 4) (v := ?v4) rfl (by kernel_rfl) (by kernel_rfl) (by kernel_rfl) (fun _ _ _ h => h) (Or.inl ⟨by rfl, ?hy4⟩) (by assumption) ?rest4
  case hy4 => (intro _ hSw; (try dsimp only at hSw); go_simp; (try with_reducible rfl))
  (try simp only [Act.put]); (try simp only [List.setIfInBounds_toArray]); (try simp only [List.set_cons_succ]); (try simp only [List.set_cons_zero])
  refine wpAnyH_take (i := 5) (v := ?v5) rfl (by kernel_rfl) (by kernel_rfl) (by kernel_rfl) (fun _ _ _ h => h) (Or.inl ⟨by rfl, ?hy5⟩) (by assumption) ?rest5
  case hy5 => (intro _ hSw; (try dsimp only at hSw); go_simp; (try with_reducible rfl))
  (try simp only [Act.put]); (try simp only [List.setIfInBounds_toArray]); (try simp only [List.set_cons_succ]); (try simp only [List.set_cons_zero])
  refine wpAnyH_take (i := 6) (v := ?v6) rfl (by kernel_rfl) (by kernel_rfl) (by kernel_rfl) (fun _ _ _ h => h) (Or.inl ⟨by rfl, ?hy6⟩) (by assumption) ?rest6
  case hy6 => (intro _ hSw; (try dsimp only at hSw); go_simp; (try with_reducible rfl))
  (try simp only [Act.put]); (try simp only [List.setIfInBounds_toArray]); (try simp only [List.set_cons_succ]); (try simp only [List.set_cons_zero])
  refine wpAnyH_take (i := 7) (v := ?v7) rfl (by kernel_rfl) (by kernel_rfl) (by kernel_rfl) (fun _ _ _ h => h) (Or.inl ⟨by rfl, ?hy7⟩) (by assumption) ?rest7
  case hy7 => (intro _ hSw; (try dsimp only at hSw); go_simp; (try with_reducible rfl))
  (try simp only [Act.put]); (try simp only [List.setIfInBounds_toArray]); (try simp only [List.set_cons_succ]); (try simp only [List.set_cons_zero])
  refine wpAnyH_take (i := 9) (v := ?v8) rfl (by kernel_rfl) (by kernel_rfl) (by kernel_rfl) (fun _ _ _ h => h) (Or.inl ⟨by rfl, ?hy8⟩) (by assumption) ?rest8
  case hy8 => (intro _ hSw; (try dsimp only at hSw); go_simp; (try with_reducible rfl))
  (try simp only [Act.put]); (try simp only [List.setIfInBounds_toArray]); (try simp only [List.set_cons_succ]); (try simp only [List.set_cons_zero])
  refine wpAnyH_take (i := 10) (v := ?v9) rfl (by kernel_rfl) (by kernel_rfl) (by kernel_rfl) (fun _ _ _ h => h) (Or.inl ⟨by rfl, ?hy9⟩) (by assumption) ?rest9
  case hy9 => (intro _ hSw; (try dsimp only at hSw); go_simp; (try with_reducible rfl))
  (try simp only [Act.put]); (try simp only [List.setIfInBounds_toArray]); (try simp only [List.set_cons_succ]); (try simp only [List.set_cons_zero])
  refine wpAnyH_take (i := 11) (v := ?v10) rfl (by kernel_rfl) (by kernel_rfl) (by kernel_rfl) (fun _ _ _ h => h) (Or.inl ⟨by rfl, ?hy10⟩) (by assumption) ?rest10
  case hy10 => (intro _ hSw; (try dsimp only at hSw); go_simp; (try with_reducible rfl))
  (try simp only [Act.put]); (try simp only [List.setIfInBounds_toArray]); (try simp only [List.set_cons_succ]); (try simp only [List.set_cons_zero])
  refine wpAnyH_take (i := 12) (v := ?v11) rfl (by kernel_rfl) (by kernel_rfl) (by kernel_rfl) (fun _ _ _ h => h) (Or.inl ⟨by rfl, ?hy11⟩) (by assumption) ?rest11
  case hy11 => (intro _ hSw; (try dsimp only at hSw); go_simp; (try with_reducible rfl))
  (try simp only [Act.put]); (try simp only [List.setIfInBounds_toArray]); (try simp only [List.set_cons_succ]); (try simp only [List.set_cons_zero])
  refine wpAnyH_take (i := 13) (v := ?v12) rfl (by kernel_rfl) (by kernel_rfl) (by kernel_rfl) (fun _ _ _ h => h) (Or.inl ⟨by rfl, ?hy12⟩) (by assumption) ?rest12
  case hy12 => (intro _ hSw; (try dsimp only at hSw); go_simp; (try with_reducible rfl))
  (try simp only [Act.put]); (try simp only [List.setIfInBounds_toArray]); (try simp only [List.set_cons_succ]); (try simp only [List.set_cons_zero])
  refine wpAnyH_take (i := 14) (v := ?v13) rfl (by kernel_rfl) (by kernel_rfl) (by kernel_rfl) (fun _ _ _ h => h) (Or.inl ⟨by rfl, ?hy13⟩) (by assumption) ?rest13
  case hy13 => (intro _ hSw; (try dsimp only at hSw); go_simp; (try with_reducible rfl))
  (try simp only [Act.put]); (try simp only [List.setIfInBounds_toArray]); (try simp only [List.set_cons_succ]); (try simp only [List.set_cons_zero])
  refine wpAnyH_take (i := 15) (v := ?v14) rfl (by kernel_rfl) (by kernel_rfl) (by kernel_rfl) (fun _ _ _ h => h) (Or.inl ⟨by rfl, ?hy14⟩) (by assumption) ?rest14
  case hy14 => (intro _ hSw; (try dsimp only at hSw); go_simp; (try with_reducible rfl))
  (try simp only [Act.put]); (try simp only [List.setIfInBounds_toArray]); (try simp only [List.set_cons_succ]); (try simp only [List.set_cons_zero])
  (try simp only [List.getElem_toArray]); (try simp only [List.getElem_cons_succ]); (try simp only [List.getElem_cons_zero]); (try simp only [List.setIfInBounds_toArray]); (try simp only [List.set_cons_succ, List.set_cons_zero])
  refine wpAnyH_ready (rs := [1]) (by kernel_rfl) (by simp) ?_
  refine (AllReadyH.cons rfl (fun K hK => ?_) AllReadyH.nil)
  (try simp only [List.getElem_toArray]); (try simp only [List.getElem_cons_succ]); (try simp only [List.getElem_cons_zero])
  go_simp
  obtain ⟨w2x, hw2⟩ : ∃ xq, xq = wd1.alloc (.cells #[] 32) := ⟨_, rfl⟩
  obtain ⟨z2, hz2⟩ : ∃ xq, xq = wd1.heap.size := ⟨_, rfl⟩
  have hn2 : Below wd1.heap.size wd1 w2x := by rw [hw2]; exact below_alloc _ _
  have hb2 : Below w3.heap.size w3 w2x := below_and HB1.out hn2
  have HB2 := Lib.hid hb2
  have HO2 : Hid (w2x.ownsRow w3.heap.size 32 5 (.slice (some ⟨z2, 0, none⟩) 0 0) 0 []) := Lib.hid (by rw [hw2, hz2]; exact World.ownsRow_made wd1 #[] 0 HB1.out.size (by decide) rfl)
  rw [← hw2, ← hz2]
  refine hK.out _ _ (HSS.out _ hb2) (fun hS2 => ?_)
  clear hK K hb2 hw2 hz2 hn2 hS1
  (try simp only [Act.put]); (try simp only [List.setIfInBounds_toArray]); (try simp only [List.set_cons_succ]); (try simp only [List.set_cons_zero])
  refine wpAnyH_ready (rs := [8]) (by kernel_rfl) (by simp) ?_
  refine (AllReadyH.cons rfl (fun K hK => ?_) AllReadyH.nil)
  refine step_app rfl (.tmp 22) (.tmp 28) 40 40 rfl w3.heap.size 32 ix zeV 5 56 Try.underlying40 hix hz0 hz1 hz2 rfl (.slice (some ⟨z2, 0, none⟩) 0 0) 0 [] (by rfl) HO2.out (.slice p i c) i (rwC enC (L.take i)) (by rfl) (lt_first H3.out HM.out HB2.out (by omega)) (by unfold maxLen; omega) (by omega) HB2.out.size ?_
  intro v3 w3x ho3 hg3 hn3 hk3
  have HO3 : Hid (w3x.ownsRow w3.heap.size 32 5 v3 i (rwC enC (L.take i))) := Lib.hid (by simpa using ho3)
  have hb3 : Below w3.heap.size w3 w3x := HB2.out.trans ((Fr.of_grown hg3).below (by intro y hy; exact own_lo HO2.out (Option.mem_toList.1 hy)) HB2.out.size)
  have HB3 := Lib.hid hb3
  refine hK.out _ _ (HSS.out _ hb3) (fun hS3 => ?_)
  clear hK K hb3 ho3 hg3 hn3 hk3 hS2
  (try simp only [Act.put]); (try simp only [List.setIfInBounds_toArray]); (try simp only [List.set_cons_succ]); (try simp only [List.set_cons_zero])
  refine wpAnyH_ready (rs := [16]) (by kernel_rfl) (by simp) ?_
  refine (AllReadyH.cons rfl (fun K hK => ?_) AllReadyH.nil)
  refine step_app rfl (.tmp 29) (.tmp 36) 40 40 rfl w3.heap.size 32 ix zeV 5 56 Try.underlying40 hix hz0 hz1 hz2 rfl v3 i (rwC enC (L.take i)) (by rfl) HO3.out (.slice (if c = i + 1 then p else Option.map (fun (x : Addr) => x.add ((i + 1) * 5)) p) (m - (i + 1)) (c - (i + 1))) (m - (i + 1)) (rwC enC (L.drop (i + 1))) (by rfl) (lt_rest H3.out HM.out HB3.out (by omega)) (by unfold maxLen; omega) (by omega) HB3.out.size ?_
  intro v4 w4x ho4 hg4 hn4 hk4
  have HO4 : Hid (w4x.ownsRow w3.heap.size 32 5 v4 (i + (m - (i + 1))) (rwC enC (L.take i) ++ rwC enC (L.drop (i + 1)))) := Lib.hid (by exact ho4)
  have hb4 : Below w3.heap.size w3 w4x := HB3.out.trans ((Fr.of_grown hg4).below (by intro y hy; exact own_lo HO3.out (Option.mem_toList.1 hy)) HB3.out.size)
  have HB4 := Lib.hid hb4
  refine hK.out _ _ (HSS.out _ hb4) (fun hS4 => ?_)
  clear hK K hb4 ho4 hg4 hn4 hk4 hS3
  (try simp only [Act.put]); (try simp only [List.setIfInBounds_toArray]); (try simp only [List.set_cons_succ]); (try simp only [List.set_cons_zero])
  refine wpAnyH_take (i := 17) (v := ?v15) rfl (by kernel_rfl) (by kernel_rfl) (by kernel_rfl) (fun _ _ _ h => h) (Or.inl ⟨by rfl, ?hy15⟩) (by assumption) ?rest15
  case hy15 => (intro _ hSw; (try dsimp only at hSw); go_simp; (try with_reducible rfl))
  (try simp only [Act.put]); (try simp only [List.setIfInBounds_toArray]); (try simp only [List.set_cons_succ]); (try simp only [List.set_cons_zero])
  refine wpAnyH_take (i := 18) (v := ?v16) rfl (by kernel_rfl) (by kernel_rfl) (by kernel_rfl) (fun _ _ _ h => h) (Or.inl ⟨by rfl, ?hy16⟩) (by assumption) ?rest16
  case hy16 => (intro _ hSw; (try dsimp only at hSw); go_simp; (try with_reducible rfl))
  (try simp only [Act.put]); (try simp only [List.setIfInBounds_toArray]); (try simp only [List.set_cons_succ]); (try simp only [List.set_cons_zero])
  refine wpAnyH_done (by kernel_rfl) ?_ _
  refine LastQ.start rfl ?_
  clear hS4 hHeld
  have d1 := HSS.out _ HB4.out
  have f9 := (H3.out.kept HB4.out).blk.free 0
  obtain ⟨p8, c8, hv8, -, -⟩ := own_slice HO4.out
  have HO8 := HO4
  subst hv8
  generalize (if c = i + 1 then p else Option.map (fun (x : Addr) => x.add ((i + 1) * 5)) p) = pp
  go_wp2
  refine NoPanic.normal ?_
  have hle : (L.eraseIdx i).length = i + (m - (i + 1)) := by rw [List.length_eraseIdx_of_lt HIL.out, ← HM.out]; omega
  have ho8 := HO8.out
  rw [rwC_erase] at ho8
  have ho9 : World.ownsRow w4x w.heap.size 32 5 (.slice p8 (i + (m - (i + 1))) c8) (L.eraseIdx i).length (rwC enC (L.eraseIdx i)) := by rw [hle]; exact So.row_low ho8 HBW3.out.size
  refine at_hide' (F := fun w' => RTo w w' g (.slice (some ⟨gr, 0, none⟩) m c) (.slice p8 (i + (m - (i + 1))) c8) last (L.eraseIdx i) ∧ Blk w' K [.int .u64 x.l.no, .int .u64 x.l.fi, .int .i64 x.l.sd, .int .i64 x.l.rc, .slice px lx cx] 32 ∧ Blk w' R [.int .u64 0, .int .u64 0, .int .i64 0, .int .i64 0, .slice none 0 0] 32) ⟨RTo.store (by have h9 := H.out; rw [HPP.out] at h9; exact h9) (below_and HBW3.out HB4.out) ho9 (fun e he => List.mem_of_mem_eraseIdx he), (HK3.out.kept HB4.out).other (a := ⟨g, 0, none⟩) HGK.out.1 _, (HX3.out.kept HB4.out).other (a := ⟨g, 0, none⟩) HGK.out.2 _⟩ ?_
  intro w9 h9
  have HR9 := Lib.hid h9.1
  have HK9 := Lib.hid h9.2.1
  have HX9 := Lib.hid h9.2.2
  have HNR : Hid ((Value.slice p8 (i + (m - (i + 1))) c8).ownBlock ≠ some R) := Lib.hid (fun e => by have h1 := own_lo HO8.out e; have h2 := HX3.out.lt; omega)
  clear h9 ho8 ho9 hle d1 f9
  have x0 := HK9.out.cell (j := 0) rfl
  have x1 := HK9.out.cell (j := 1) rfl
  have x2 := HK9.out.cell (j := 2) rfl
  have x3 := HK9.out.cell (j := 3) rfl
  have x4 := HK9.out.cell (j := 4) rfl
  have f0 := HX9.out.free 0
  have f1 := HX9.out.free 1
  have f2 := HX9.out.free 2
  have f3 := HX9.out.free 3
  have f4 := HX9.out.free 4
  have y0 := HX9.out.cell (j := 0) rfl
  have y1 := HX9.out.cell (j := 1) rfl
  have y2 := HX9.out.cell (j := 2) rfl
  have y3 := HX9.out.cell (j := 3) rfl
  have y4 := HX9.out.cell (j := 4) rfl
  go_wp2
  refine ret_cell rfl rfl rfl (blk_fill5 HX9.out _ _ _ _ _) Try.underlying32 rfl (by kernel_rfl) ?_
  exact ⟨rfl, _, RTo.fill5 HR9.out HX9.out (by rw [HRR.out]; exact Nat.le_refl _) _ _ _ _ _ HNR.out HGK.out.2.symm⟩
set_option maxRecDepth 100000 in
set_option maxHeartbeats 2000000 in
theorem rlose_no {w : World} {g : Nat} {v : Value} {last : Int} {L : List En} (n : Int) (h : RNet w g v last L) (hno : ∀ e ∈ L, e.l.no ≠ n) :
    Calls Try.prog 24 #[ptr g, .int .u64 n] w fun e w' => e = .returned (.int .i64 6) ∧ Below w.heap.size w w' := by
  have H := Lib.hid (rdeliver_no n h hno)
  clear h hno
  go_enter Try.func24, Try.ntmps24
  go_wp2_with (go_at_call 22; refine H.out.mono ?_; rintro e w2 ⟨rfl, hb⟩; have HB := Lib.hid hb; clear hb H)
  go_ret
  exact ⟨rfl, below_and HB.out (below_alloc _ _)⟩
set_option maxRecDepth 100000 in
set_option maxHeartbeats 2000000 in
theorem rlose_yes {w : World} {g : Nat} {v : Value} {last : Int} {L : List En} (n : Int) (h : RNet w g v last L) (hL : L.length ≤ 4000) (i : Nat) (hi : i < L.length) (x : En) (hx : L[i]'hi = x) (hq : x.l.no = n) (hbf : ∀ j (hj : j < i), (L[j]'(by omega)).l.no ≠ n) :
    Calls Try.prog 24 #[ptr g, .int .u64 n] w fun e w' => e = .returned (.int .i64 0) ∧ ∃ v', RTo w w' g v v' last (L.eraseIdx i) := by
  have H := Lib.hid (rdeliver_yes n h hL i hi x hx hq hbf)
  obtain ⟨px, cx, hxv, -, -⟩ := own_slice (h.own x (by rw [← hx]; exact List.getElem_mem _))
  obtain ⟨lx, hlx⟩ : ∃ lx, lx = x.l.bd.length := ⟨_, rfl⟩
  rw [hxv, ← hlx] at H
  clear h hxv hlx hbf hq hx
  go_enter Try.func24, Try.ntmps24
  go_wp2_with (go_at_call 22; refine H.out.mono ?_; rintro e w2 ⟨rfl, hb⟩; have HB := Lib.hid hb; clear hb H)
  go_ret
  obtain ⟨v', h1⟩ := HB.out
  exact ⟨rfl, v', h1.next (below_alloc _ _)⟩
end Go.Proofs.Ytndjgbknhfficaa.Nt
