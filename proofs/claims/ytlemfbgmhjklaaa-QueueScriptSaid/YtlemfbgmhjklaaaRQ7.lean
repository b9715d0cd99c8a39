/- The document's queue: Take (written by gentaker.py). -/
import Derived.Test.YtlemfbgmhjklaaaRQ6
import Derived.Test.YtlemfbgmhjklaaaQRet
namespace Go.Proofs.Ytlemfbgmhjklaaa
open Go.RowKit

theorem strV_one (ns : List ByteArray) : ∀ v ∈ strV ns, v.oneCell' = true := fun v hv => by unfold strV at hv; obtain ⟨x, -, rfl⟩ := List.mem_map.1 hv; rfl
theorem fr_fill (w : World) (g : Nat) (x y z u : Value) : Fr [g] w ((((w.setCell ⟨g, 0, none⟩ x).setCell ⟨g, 1, none⟩ y).setCell ⟨g, 2, none⟩ z).setCell ⟨g, 3, none⟩ u) := ((((Fr.refl [g] w).set (p := ⟨g, 0, none⟩) (by simp) x).set (p := ⟨g, 1, none⟩) (by simp) y).set (p := ⟨g, 2, none⟩) (by simp) z).set (p := ⟨g, 3, none⟩) (by simp) u
theorem RQ.fr {base : Nat} {w w' : World} {g : Nat} {rv : Nat → Value} {vL : Value} {rw : Nat → List ByteArray} {L : List Pend} {S : List Nat} (h : RQ base w g rv vL rw L) (hf : Fr S w w') (hS : ∀ k ∈ S, ¬ Pd g rv vL k) : RQ base w' g rv vL rw L :=
  ⟨h.blk.fr hf (fun hm => hS g hm (.inl rfl)), fun b hb => own_fr (h.rows b hb) hf (fun k hk hm => hS k hm (.inr (.inl ⟨b, hb, hk⟩))), own_fr h.list hf (fun k hk hm => hS k hm (.inr (.inr hk))), h.sep, h.lo⟩

set_option maxRecDepth 100000 in
set_option maxHeartbeats 1000000 in
theorem rtake_none (base g : Nat) (rv : Nat → Value) (vL : Value) (rw : Nat → List ByteArray) (L : List Pend) (w : World) (h : RQ base w g rv vL rw L) (he : ∀ b, b < 4 → rw b = []) :
    Calls Try.prog 22 #[ptr g] w fun e w' => e = .returned (.tuple #[pzv, .bool false]) ∧ Below w.heap.size w w' := by
  have HA := Lib.hid (h.kept (below_alloc w (.cells #[.string ⟨#[]⟩, .int .i64 0, .string ⟨#[]⟩, .int .i64 0] 29)))
  have HR : Hid ((∀ b, b < 4 → rw b = []) ∧ (-1 : Int) = -1 ∨ ∃ b0, b0 < 4 ∧ ∃ u us, rw b0 = u :: us ∧ (∀ b, b < 4 → b0 < b → rw b = []) ∧ (-1 : Int) = firstI L (u, (b0 : Int))) := Lib.hid (.inl ⟨he, rfl⟩)
  clear h he
  go_enter Try.func22, Try.ntmps22
  go_wp2_with (go_at_call 38; refine (rnext_any base g rv vL rw L _ HA.out (-1) HR.out).mono ?_; rintro e w2 ⟨rfl, rfl⟩)
  exact ret_cell rfl rfl rfl (Blk.made w [.string ⟨#[]⟩, .int .i64 0, .string ⟨#[]⟩, .int .i64 0] 29) Try.underlying29 rfl info_pend2 ⟨rfl, below_alloc w _⟩

set_option maxRecDepth 100000 in
set_option maxHeartbeats 4000000 in
theorem rtake_some (base g : Nat) (rv : Nat → Value) (vL : Value) (rw : Nat → List ByteArray) (L : List Pend) (i b0 : Nat) (u : ByteArray) (us : List ByteArray) (w : World) (h : RQ base w g rv vL rw L) (hb0 : b0 < 4) (h1 : rw b0 = u :: us) (h2 : ∀ b, b < 4 → b0 < b → rw b = []) (h3 : firstI L (u, (b0 : Int)) = (i : Int)) (hi : i < L.length) (huu : L[i].user = u) (hbb : L[i].band = (b0 : Int)) (hl : L.length ≤ 100000) (hrl : us.length ≤ 90000) :
    Calls Try.prog 22 #[ptr g] w fun e w' => e = .returned (.tuple #[pval L[i], .bool true]) ∧ ∃ rv' vL', RQ base w' g rv' vL' (leaveW (updV rw b0 (us ++ [u])) (L.eraseIdx i) u b0) (L.eraseIdx i) ∧ RSt w w' g rv vL rv' vL' := by
  obtain ⟨k0, hk0, hy0, hy1, hy2⟩ := info_parts info_str
  obtain ⟨p, c, rfl, -, -⟩ := own_slice h.list
  obtain ⟨y, hy⟩ : ∃ y, y = L[i] := ⟨_, rfl⟩
  rw [← hy] at huu hbb ⊢
  have H := Lib.hid h
  have HY := Lib.hid hy
  have HUU := Lib.hid huu
  have HBB := Lib.hid hbb
  have HR : Hid ((∀ b, b < 4 → rw b = []) ∧ (i : Int) = -1 ∨ ∃ b0, b0 < 4 ∧ ∃ u us, rw b0 = u :: us ∧ (∀ b, b < 4 → b0 < b → rw b = []) ∧ (i : Int) = firstI L (u, (b0 : Int))) := Lib.hid (.inr ⟨b0, hb0, u, us, h1, h2, h3.symm⟩)
  have HRB := Lib.hid h1
  have i1 : ¬ ((i : Int) < 0) := by omega
  have i2 : (i : Int) < (L.length : Int) := by omega
  have i3 : (b0 : Int) < 4 := by omega
  have hrow := h.rows b0 hb0
  rw [h1] at hrow
  obtain ⟨qb, cb, hvb, hcb, -, -⟩ := own_block hrow (by simp)
  have HVB := Lib.hid hvb
  have HROW := Lib.hid hrow
  have i4 : (us.length : Int) + 1 ≤ (cb : Int) := by simp only [List.length_cons] at hcb; omega
  have i5 : (1 : Int) ≤ (us.length : Int) + 1 := by omega
  have i6 : (1 : Int) ≤ (cb : Int) := by omega
  have HPd : Hid (∀ k, w.heap.size ≤ k → ¬ Pd g rv (.slice p L.length c) k) := Lib.hid (fun k hk hp => by
    rcases hp with h4 | ⟨b', hb', h4⟩ | h4
    · have := H.out.blk.lt; omega
    · have := own_hi (H.out.rows b' hb') h4; omega
    · have := own_hi H.out.list h4; omega)
  clear h hy huu hbb h1 h2 h3 hrow hvb
  have HA := Lib.hid (H.out.kept (below_alloc w (.cells #[.string ⟨#[]⟩, .int .i64 0, .string ⟨#[]⟩, .int .i64 0] 29)))
  go_enter Try.func22, Try.ntmps22
  go_upto_region 4 with (go_at_call 38; refine (rnext_any base g rv _ rw L _ HA.out (i : Int) HR.out).mono ?_; rintro e w2 ⟨rfl, rfl⟩)
  obtain ⟨gr, hgr⟩ : ∃ gr, gr = w.heap.size := ⟨_, rfl⟩
  obtain ⟨w2, hw2⟩ : ∃ w2, w2 = w.alloc (.cells #[.string ⟨#[]⟩, .int .i64 0, .string ⟨#[]⟩, .int .i64 0] 29) := ⟨_, rfl⟩
  have HAR : Hid (Blk w2 gr [.string ⟨#[]⟩, .int .i64 0, .string ⟨#[]⟩, .int .i64 0] 29) := Lib.hid (by rw [hw2, hgr]; exact Blk.made w _ _)
  have HAB : Hid (Below w.heap.size w w2) := Lib.hid (by rw [hw2]; exact below_alloc w _)
  have HGR : Hid (g ≠ gr ∧ w.heap.size ≤ gr) := Lib.hid (by have := H.out.blk.lt; omega)
  rw [← hw2] at HA ⊢
  rw [← hgr]
  clear hw2 hgr
  obtain ⟨q, rfl, hcs⟩ := list_cell HA.out hi rfl
  rw [← HY.out] at hcs
  have c0 : w2.cell? ⟨q, i * 4, none⟩ = some (.string y.job) := hcs 0 _ (by omega) rfl
  have c1 : w2.cell? ⟨q, i * 4 + 1, none⟩ = some (.int .i64 y.idx) := hcs 1 _ (by omega) rfl
  have c2 : w2.cell? ⟨q, i * 4 + 2, none⟩ = some (.string y.user) := hcs 2 _ (by omega) rfl
  have c3 : w2.cell? ⟨q, i * 4 + 3, none⟩ = some (.int .i64 y.band) := hcs 3 _ (by omega) rfl
  have e4 := HA.out.cL
  clear hcs
  go_upto_region 5 with fail
  obtain ⟨gd, hgd⟩ : ∃ gd, gd = w2.heap.size := ⟨_, rfl⟩
  obtain ⟨w3, hw3⟩ : ∃ w3, w3 = w2.alloc (.cells #[.string y.job, .int .i64 y.idx, .string y.user, .int .i64 y.band] 29) := ⟨_, rfl⟩
  have H3 := Lib.hid (HA.out.kept (below_alloc w2 (.cells #[.string y.job, .int .i64 y.idx, .string y.user, .int .i64 y.band] 29)))
  have HD3 : Hid (Blk w3 gd (pend y) 29) := Lib.hid (by rw [hw3, hgd]; exact Blk.made w2 (pend y) _)
  have HR3 : Hid (Blk w3 gr [.string ⟨#[]⟩, .int .i64 0, .string ⟨#[]⟩, .int .i64 0] 29) := Lib.hid (by rw [hw3]; exact HAR.out.kept (below_alloc w2 _))
  have HB3 : Hid (Below w.heap.size w w3) := Lib.hid (by rw [hw3]; exact below_and HAB.out (below_alloc w2 _))
  have HGD : Hid (w.heap.size ≤ gd) := Lib.hid (by rw [hgd]; exact HAB.out.size)
  rw [← hw3] at H3
  rw [← hw3, ← hgd]
  clear hw3 hgd c0 c1 c2 c3 e4
  go_upto_region 6 with (go_at_call 39; refine (rcut_any base g i rv _ rw L _ H3.out hi (by omega)).mono ?_; rintro e w4 ⟨rfl, vL4, hq, hs⟩; have H4 := Lib.hid hq; have HT4 := Lib.hid hs; have D4 : Hid (Blk w4 gd (pend y) 29) := Lib.hid (blk_frp HD3.out hs.fr (HPd.out _ HGD.out)); have R4 := Lib.hid (blk_frp HR3.out hs.fr (HPd.out _ HGR.out.2)); clear hq hs)
  have HPN4 : Hid (¬ Pd g rv vL4 gd) := Lib.hid (fun hp => (HT4.out.new gd hp).elim (HPd.out _ HGD.out) (fun h => by have := HD3.out.lt; omega))
  have HPR4 : Hid (¬ Pd g rv vL4 gr) := Lib.hid (fun hp => (HT4.out.new gr hp).elim (HPd.out _ HGR.out.2) (fun h => by have := HR3.out.lt; omega))
  have HGG : Hid (gd ≠ g) := Lib.hid (by have := HGD.out; have := H.out.blk.lt; omega)
  have HB4S : Hid (base ≤ w4.heap.size) := Lib.hid (Nat.le_trans H4.out.lo (Nat.le_of_lt H4.out.blk.lt))
  have D4U : Hid (Blk w4 gd [.string y.job, .int .i64 y.idx, .string u, .int .i64 (b0 : Int)] 29) := Lib.hid (by have := D4.out; unfold pend at this; rw [HUU.out, HBB.out] at this; exact this)
  have HRV : Hid (∀ w', RQ base w' g rv vL4 rw (L.eraseIdx i) → w'.cell? ⟨g, b0, none⟩ = some (.slice (some ⟨qb, 0, none⟩) (us.length + 1) cb)) := Lib.hid (fun w' h' => by have := rv_at h' hb0; rw [HVB.out] at this; exact this)
  have HSRC : Hid (∀ w8 : World, Below w4.heap.size w4 w8 → Src Try.prog 1 43 (.slice (if cb = 1 then some ⟨qb, 0, none⟩ else some ⟨qb, 1, none⟩) us.length (cb - 1)) us.length (strV us) w8) := Lib.hid (fun w8 hb => by
    have hr4 := own_keep (H4.out.rows b0 hb0) hb
    rw [HRB.out, HVB.out] at hr4
    split
    · rename_i he
      have hr0 : us = [] := by simp only [List.length_cons] at hcb; exact List.eq_nil_of_length_eq_zero (by omega)
      subst hr0
      exact src_none Try.underlying43 _ _
    · have h5 := (OwnO.of_own hr4 (by simp)).back (m := 1) (by simp)
      have h6 := h5.src Try.underlying43 (strV_one _)
      simpa [strV] using h6)
  refine wp_region_noPanic ?_
  refine wp_region_lastH (fun w' => w'.cell? ⟨g, b0, none⟩ = some (.slice (some ⟨qb, 0, none⟩) (us.length + 1) cb) ∧ w'.cell? ⟨gd, 2, none⟩ = some (.string u) ∧ w'.cell? ⟨gd, 3, none⟩ = some (.int .i64 (b0 : Int)) ∧ Below w4.heap.size w4 w') 20 rfl rfl (by kernel_rfl) (by kernel_rfl) ⟨HRV.out _ (H4.out.kept (below_drewN 1)), (D4U.out.kept (below_drewN 1)).cell (j := 2) rfl, (D4U.out.kept (below_drewN 1)).cell (j := 3) rfl, below_drewN 1⟩ (fun hHeld => ?_)
  have HB1 : Hid (Below w4.heap.size w4 w4.drew) := Lib.hid (below_drewN 1)
  have HR1 := Lib.hid (H4.out.kept HB1.out)
  have hS1 : True := trivial
  obtain ⟨wd1, hwd⟩ : ∃ x, x = w4.drew := ⟨_, rfl⟩
  rw [← hwd] at hHeld HB1 HR1 ⊢
  clear hwd
  refine wpAnyH_take (i := 0) (v := ?v2) rfl (by kernel_rfl) (by kernel_rfl) (by kernel_rfl) (fun _ _ _ h => h) (Or.inl ⟨by rfl, ?hy2⟩) (by assumption) ?rest2
  case hy2 => (intro _ hSw; (try dsimp only at hSw); obtain ⟨hSa, hSb, hSc, hSd⟩ := hSw; go_simp; (try with_reducible rfl))
  (try simp only [Act.put]); (try simp only [List.setIfInBounds_toArray]); (try simp only [List.set_cons_succ]); (try simp only [List.set_cons_zero])
  refine wpAnyH_take (i := 1) (v := ?v3) rfl (by kernel_rfl) (by kernel_rfl) (by kernel_rfl) (fun _ _ _ h => h) (Or.inl ⟨by rfl, ?hy3⟩) (by assumption) ?rest3
  case hy3 => (intro _ hSw; (try dsimp only at hSw); obtain ⟨hSa, hSb, hSc, hSd⟩ := hSw; go_simp; (try with_reducible rfl))
  (try simp only [Act.put]); (try simp only [List.setIfInBounds_toArray]); (try simp only [List.set_cons_succ]); (try simp only [List.set_cons_zero])
  refine wpAnyH_take (i := 2) (v := ?v4) rfl (by kernel_rfl) (by kernel_rfl) (by kernel_rfl) (fun _ _ _ h => h) (Or.inl ⟨by rfl, ?hy4⟩) (by assumption) ?rest4
  case hy4 => (intro _ hSw; (try dsimp only at hSw); obtain ⟨hSa, hSb, hSc, hSd⟩ := hSw; go_simp; (try with_reducible rfl))
  (try simp only [Act.put]); (try simp only [List.setIfInBounds_toArray]); (try simp only [List.set_cons_succ]); (try simp only [List.set_cons_zero])
  refine wpAnyH_take (i := 4) (v := ?v5) rfl (by kernel_rfl) (by kernel_rfl) (by kernel_rfl) (fun _ _ _ h => h) (Or.inl ⟨by rfl, ?hy5⟩) (by assumption) ?rest5
  case hy5 => (intro _ hSw; (try dsimp only at hSw); obtain ⟨hSa, hSb, hSc, hSd⟩ := hSw; go_simp; (try with_reducible rfl))
  (try simp only [Act.put]); (try simp only [List.setIfInBounds_toArray]); (try simp only [List.set_cons_succ]); (try simp only [List.set_cons_zero])
  refine wpAnyH_take (i := 5) (v := ?v6) rfl (by kernel_rfl) (by kernel_rfl) (by kernel_rfl) (fun _ _ _ h => h) (Or.inl ⟨by rfl, ?hy6⟩) (by assumption) ?rest6
  case hy6 => (intro _ hSw; (try dsimp only at hSw); obtain ⟨hSa, hSb, hSc, hSd⟩ := hSw; go_simp; (try with_reducible rfl))
  (try simp only [Act.put]); (try simp only [List.setIfInBounds_toArray]); (try simp only [List.set_cons_succ]); (try simp only [List.set_cons_zero])
  refine wpAnyH_take (i := 6) (v := ?v7) rfl (by kernel_rfl) (by kernel_rfl) (by kernel_rfl) (fun _ _ _ h => h) (Or.inl ⟨by rfl, ?hy7⟩) (by assumption) ?rest7
  case hy7 => (intro _ hSw; (try dsimp only at hSw); obtain ⟨hSa, hSb, hSc, hSd⟩ := hSw; go_simp; (try with_reducible rfl))
  (try simp only [Act.put]); (try simp only [List.setIfInBounds_toArray]); (try simp only [List.set_cons_succ]); (try simp only [List.set_cons_zero])
  refine wpAnyH_take (i := 7) (v := ?v8) rfl (by kernel_rfl) (by kernel_rfl) (by kernel_rfl) (fun _ _ _ h => h) (Or.inl ⟨by rfl, ?hy8⟩) (by assumption) ?rest8
  case hy8 => (intro _ hSw; (try dsimp only at hSw); obtain ⟨hSa, hSb, hSc, hSd⟩ := hSw; go_simp; (try with_reducible rfl))
  (try simp only [Act.put]); (try simp only [List.setIfInBounds_toArray]); (try simp only [List.set_cons_succ]); (try simp only [List.set_cons_zero])
  refine wpAnyH_take (i := 8) (v := ?v9) rfl (by kernel_rfl) (by kernel_rfl) (by kernel_rfl) (fun _ _ _ h => h) (Or.inl ⟨by rfl, ?hy9⟩) (by assumption) ?rest9
  case hy9 => (intro _ hSw; (try dsimp only at hSw); obtain ⟨hSa, hSb, hSc, hSd⟩ := hSw; go_simp; (try with_reducible rfl))
  (try simp only [Act.put]); (try simp only [List.setIfInBounds_toArray]); (try simp only [List.set_cons_succ]); (try simp only [List.set_cons_zero])
  refine wpAnyH_take (i := 9) (v := ?v10) rfl (by kernel_rfl) (by kernel_rfl) (by kernel_rfl) (fun _ _ _ h => h) (Or.inl ⟨by rfl, ?hy10⟩) (by assumption) ?rest10
  case hy10 => (intro _ hSw; (try dsimp only at hSw); obtain ⟨hSa, hSb, hSc, hSd⟩ := hSw; go_simp; (try with_reducible rfl))
  (try simp only [Act.put]); (try simp only [List.setIfInBounds_toArray]); (try simp only [List.set_cons_succ]); (try simp only [List.set_cons_zero])
  refine wpAnyH_take (i := 10) (v := ?v11) rfl (by kernel_rfl) (by kernel_rfl) (by kernel_rfl) (fun _ _ _ h => h) (Or.inl ⟨by rfl, ?hy11⟩) (by assumption) ?rest11
  case hy11 => (intro _ hSw; (try dsimp only at hSw); obtain ⟨hSa, hSb, hSc, hSd⟩ := hSw; go_simp; (try with_reducible rfl))
  (try simp only [Act.put]); (try simp only [List.setIfInBounds_toArray]); (try simp only [List.set_cons_succ]); (try simp only [List.set_cons_zero])
  refine wpAnyH_take (i := 11) (v := ?v12) rfl (by kernel_rfl) (by kernel_rfl) (by kernel_rfl) (fun _ _ _ h => h) (Or.inl ⟨by rfl, ?hy12⟩) (by assumption) ?rest12
  case hy12 => (intro _ hSw; (try dsimp only at hSw); obtain ⟨hSa, hSb, hSc, hSd⟩ := hSw; go_simp; (try with_reducible rfl))
  (try simp only [Act.put]); (try simp only [List.setIfInBounds_toArray]); (try simp only [List.set_cons_succ]); (try simp only [List.set_cons_zero])
  refine wpAnyH_take (i := 13) (v := ?v13) rfl (by kernel_rfl) (by kernel_rfl) (by kernel_rfl) (fun _ _ _ h => h) (Or.inl ⟨by rfl, ?hy13⟩) (by assumption) ?rest13
  case hy13 => (intro _ hSw; (try dsimp only at hSw); obtain ⟨hSa, hSb, hSc, hSd⟩ := hSw; go_simp; (try with_reducible rfl))
  (try simp only [Act.put]); (try simp only [List.setIfInBounds_toArray]); (try simp only [List.set_cons_succ]); (try simp only [List.set_cons_zero])
  refine wpAnyH_take (i := 14) (v := ?v14) rfl (by kernel_rfl) (by kernel_rfl) (by kernel_rfl) (fun _ _ _ h => h) (Or.inl ⟨by rfl, ?hy14⟩) (by assumption) ?rest14
  case hy14 => (intro _ hSw; (try dsimp only at hSw); obtain ⟨hSa, hSb, hSc, hSd⟩ := hSw; go_simp; (try with_reducible rfl))
  (try simp only [Act.put]); (try simp only [List.setIfInBounds_toArray]); (try simp only [List.set_cons_succ]); (try simp only [List.set_cons_zero])
  refine wpAnyH_take (i := 17) (v := ?v15) rfl (by kernel_rfl) (by kernel_rfl) (by kernel_rfl) (fun _ _ _ h => h) (Or.inl ⟨by rfl, ?hy15⟩) (by assumption) ?rest15
  case hy15 => (intro _ hSw; (try dsimp only at hSw); obtain ⟨hSa, hSb, hSc, hSd⟩ := hSw; go_simp; (try with_reducible rfl))
  (try simp only [Act.put]); (try simp only [List.setIfInBounds_toArray]); (try simp only [List.set_cons_succ]); (try simp only [List.set_cons_zero])
  refine wpAnyH_take (i := 18) (v := ?v16) rfl (by kernel_rfl) (by kernel_rfl) (by kernel_rfl) (fun _ _ _ h => h) (Or.inl ⟨by rfl, ?hy16⟩) (by assumption) ?rest16
  case hy16 => (intro _ hSw; (try dsimp only at hSw); obtain ⟨hSa, hSb, hSc, hSd⟩ := hSw; go_simp; (try with_reducible rfl))
  (try simp only [Act.put]); (try simp only [List.setIfInBounds_toArray]); (try simp only [List.set_cons_succ]); (try simp only [List.set_cons_zero])
  refine wpAnyH_ready (rs := [3, 15]) (by kernel_rfl) (by simp) ?_
  refine (AllReadyH.cons rfl (fun K hK => ?_) (AllReadyH.cons rfl (fun K hK => ?_) AllReadyH.nil))
  · (try simp only [List.getElem_toArray]); (try simp only [List.getElem_cons_succ]); (try simp only [List.getElem_cons_zero])
    go_simp
    obtain ⟨w17x, hw17⟩ : ∃ x, x = wd1.alloc (.cells #[] 9) := ⟨_, rfl⟩
    obtain ⟨z17, hz17⟩ : ∃ x, x = wd1.heap.size := ⟨_, rfl⟩
    have hn17 : Below wd1.heap.size wd1 w17x := by rw [hw17]; exact below_alloc _ _
    have hb17 : Below w4.heap.size w4 w17x := below_and HB1.out hn17
    have HB17 := Lib.hid hb17
    have HO17 : Hid (w17x.ownsRow w4.heap.size 9 1 (.slice (some ⟨z17, 0, none⟩) 0 0) 0 []) := Lib.hid (by rw [hw17, hz17]; exact World.ownsRow_made wd1 #[] 0 HB1.out.size (by decide) rfl)
    rw [← hw17, ← hz17]
    have HR17 := Lib.hid (H4.out.kept hb17)
    have HD17 := Lib.hid (D4U.out.kept hb17)
    refine hK.out _ _ ⟨HRV.out _ HR17.out, HD17.out.cell (j := 2) rfl, HD17.out.cell (j := 3) rfl, hb17⟩ (fun hS17 => ?_)
    clear hK K hb17 hw17 hz17 hn17 hS1
    (try simp only [Act.put]); (try simp only [List.setIfInBounds_toArray]); (try simp only [List.set_cons_succ]); (try simp only [List.set_cons_zero])
    refine wpAnyH_ready (rs := [12, 15]) (by kernel_rfl) (by simp) ?_
    refine (AllReadyH.cons rfl (fun K hK => ?_) (AllReadyH.cons rfl (fun K hK => ?_) AllReadyH.nil))
    · refine step_app rfl (.tmp 24) (.tmp 32) 43 43 rfl w4.heap.size 9 k0 (.string ⟨#[]⟩) 1 16 Try.underlying43 hk0 hy0 hy1 hy2 rfl (.slice (some ⟨z17, 0, none⟩) 0 0) 0 [] (by rfl) HO17.out (.slice (if cb = 1 then some ⟨qb, 0, none⟩ else some ⟨qb, 1, none⟩) us.length (cb - 1)) us.length (strV us) (by rfl) (HSRC.out _ HB17.out) (by unfold maxLen; omega) (by omega) HB17.out.size ?_
      intro v18 w18x ho18 hg18 hn18 hk18
      have HO18 : Hid (w18x.ownsRow w4.heap.size 9 1 v18 us.length (strV us)) := Lib.hid (by simpa using ho18)
      have hb18 : Below w4.heap.size w4 w18x := HB17.out.trans ((Fr.of_grown hg18).below (by intro y hy; exact own_lo HO17.out (Option.mem_toList.1 hy)) HB17.out.size)
      have HB18 := Lib.hid hb18
      have HR18 := Lib.hid (H4.out.kept hb18)
      have HD18 := Lib.hid (D4U.out.kept hb18)
      refine hK.out _ _ ⟨HRV.out _ HR18.out, HD18.out.cell (j := 2) rfl, HD18.out.cell (j := 3) rfl, hb18⟩ (fun hS18 => ?_)
      clear hK K hb18 ho18 hg18 hn18 hk18 hS17
      (try simp only [Act.put]); (try simp only [List.setIfInBounds_toArray]); (try simp only [List.set_cons_succ]); (try simp only [List.set_cons_zero])
      refine wpAnyH_ready (rs := [15]) (by kernel_rfl) (by simp) ?_
      refine (AllReadyH.cons rfl (fun K hK => ?_) AllReadyH.nil)
      (try simp only [List.getElem_toArray]); (try simp only [List.getElem_cons_succ]); (try simp only [List.getElem_cons_zero])
      go_simp
      obtain ⟨w19x, hw19⟩ : ∃ x, x = w18x.alloc (.cells #[.string u] 9) := ⟨_, rfl⟩
      obtain ⟨z19, hz19⟩ : ∃ x, x = w18x.heap.size := ⟨_, rfl⟩
      have hn19 : Below w18x.heap.size w18x w19x := by rw [hw19]; exact below_alloc _ _
      have hb19 : Below w4.heap.size w4 w19x := below_and HB18.out hn19
      have HB19 := Lib.hid hb19
      have HY19 : Hid (Blk w19x z19 [.string u] 9) := Lib.hid (by rw [hw19, hz19]; exact Blk.made w18x [.string u] _)
      have HO19 := Lib.hid (own_fr HO18.out (Fr.of_below hn19 []) (fun _ _ => by simp))
      have HNE19 : Hid (∀ q, (v18 : Value).ownBlock = some q → q ≠ z19) := Lib.hid (fun q hq => by have := own_hi HO18.out hq; omega)
      rw [← hw19, ← hz19]
      have HR19 := Lib.hid (H4.out.kept hb19)
      have HD19 := Lib.hid (D4U.out.kept hb19)
      refine hK.out _ _ ⟨HRV.out _ HR19.out, HD19.out.cell (j := 2) rfl, HD19.out.cell (j := 3) rfl, hb19⟩ (fun hS19 => ?_)
      clear hK K hb19 hw19 hz19 hn19 hS18
      (try simp only [Act.put]); (try simp only [List.setIfInBounds_toArray]); (try simp only [List.set_cons_succ]); (try simp only [List.set_cons_zero])
      refine wpAnyH_ready (rs := [16]) (by kernel_rfl) (by simp) ?_
      refine (AllReadyH.cons rfl (fun K hK => ?_) AllReadyH.nil)
      refine step_app rfl (.tmp 33) (.tmp 36) 43 43 rfl w4.heap.size 9 k0 (.string ⟨#[]⟩) 1 16 Try.underlying43 hk0 hy0 hy1 hy2 rfl v18 us.length (strV us) (by rfl) HO19.out (.slice (some ⟨z19, 0, none⟩) 1 1) 1 [.string u] (by rfl) (src_block Try.underlying43 _ z19 #[.string u] HY19.out rfl (by simp [Value.oneCell'])) (by unfold maxLen; omega) (by omega) HB19.out.size ?_
      intro v20 w20x ho20 hg20 hn20 hk20
      have HO20 : Hid (w20x.ownsRow w4.heap.size 9 1 v20 (us.length + 1) (strV us ++ [.string u])) := Lib.hid (ho20)
      have hb20 : Below w4.heap.size w4 w20x := HB19.out.trans ((Fr.of_grown hg20).below (by intro y hy; exact own_lo HO19.out (Option.mem_toList.1 hy)) HB19.out.size)
      have HB20 := Lib.hid hb20
      have HR20 := Lib.hid (H4.out.kept hb20)
      have HD20 := Lib.hid (D4U.out.kept hb20)
      refine hK.out _ _ ⟨HRV.out _ HR20.out, HD20.out.cell (j := 2) rfl, HD20.out.cell (j := 3) rfl, hb20⟩ (fun hS20 => ?_)
      clear hK K hb20 ho20 hg20 hn20 hk20 hS19
      (try simp only [Act.put]); (try simp only [List.setIfInBounds_toArray]); (try simp only [List.set_cons_succ]); (try simp only [List.set_cons_zero])
      refine wpAnyH_take (i := 19) (v := ?v21) rfl (by kernel_rfl) (by kernel_rfl) (by kernel_rfl) (fun _ _ _ h => h) (Or.inl ⟨by rfl, ?hy21⟩) (by assumption) ?rest21
      case hy21 => (intro _ hSw; (try dsimp only at hSw); obtain ⟨hSa, hSb, hSc, hSd⟩ := hSw; go_simp; (try with_reducible rfl))
      (try simp only [Act.put]); (try simp only [List.setIfInBounds_toArray]); (try simp only [List.set_cons_succ]); (try simp only [List.set_cons_zero])
      refine wpAnyH_done (by kernel_rfl) ?_ _
      refine LastQ.start rfl ?_
      have d4 := HRV.out _ HR20.out
      have f4 := HR20.out.blk.free b0
      clear hS20 hHeld
      obtain ⟨p8, c8, rfl, -, -⟩ := own_slice HO20.out
      generalize (if cb = 1 then some (⟨qb, 0, none⟩ : Addr) else some ⟨qb, 1, none⟩) = pp
      go_wp2
      refine NoPanic.normal ?_
      go_upto_region 7 with fail
      obtain ⟨w9, hw9⟩ : ∃ x, x = w20x.setCell ⟨g, b0, none⟩ (.slice p8 (us.length + 1) c8) := ⟨_, rfl⟩
      have HX := H4.out.setR (ns := us ++ [u]) hb0 HB20.out (by have := HO20.out; exact own_mono (by simpa [strV] using this) HB4S.out) (fun k hk => own_lo HO20.out hk)
      rw [← hw9] at HX
      obtain ⟨rv9, hrv9⟩ : ∃ x, x = updV rv b0 (.slice p8 (us.length + 1) c8) := ⟨_, rfl⟩
      rw [← hrv9] at HX
      obtain ⟨rw9, hrw9⟩ : ∃ x, x = updV rw b0 (us ++ [u]) := ⟨_, rfl⟩
      rw [← hrw9] at HX
      have HRW9 := Lib.hid hrw9
      have hrl9 : (rw9 b0).length ≤ 100000 := by rw [hrw9, updV_same]; simp; omega
      have H9 := Lib.hid HX.1
      have HT9 := Lib.hid HX.2
      have D9 : Hid (Blk w9 gd (pend y) 29) := Lib.hid (by rw [hw9]; exact (D4.out.kept HB20.out).other (a := ⟨g, b0, none⟩) HGG.out _)
      have R9 : Hid (Blk w9 gr [.string ⟨#[]⟩, .int .i64 0, .string ⟨#[]⟩, .int .i64 0] 29) := Lib.hid (by rw [hw9]; exact (R4.out.kept HB20.out).other (a := ⟨g, b0, none⟩) (Ne.symm HGR.out.1) _)
      have HPN9 : Hid (¬ Pd g rv9 vL4 gd) := Lib.hid (fun hp => (HT9.out.new gd hp).elim HPN4.out (fun h => by have := D4.out.lt; omega))
      have HPR9 : Hid (¬ Pd g rv9 vL4 gr) := Lib.hid (fun hp => (HT9.out.new gr hp).elim HPR4.out (fun h => by have := R4.out.lt; omega))
      have n3 : w9.cell? ⟨gd, 3, none⟩ = some (.int .i64 (b0 : Int)) := by rw [← HBB.out]; exact D9.out.cell (j := 3) rfl
      have n2 : w9.cell? ⟨gd, 2, none⟩ = some (.string u) := by rw [← HUU.out]; exact D9.out.cell (j := 2) rfl
      rw [← hw9]
      clear HX hw9 hrv9 hrw9 d4 f4
      go_wp2_with (go_at_call 40; refine (rleave_any base g b0 rv9 vL4 rw9 (L.eraseIdx i) u _ H9.out hb0 hrl9).mono ?_; rintro e wl ⟨rfl, rvl, hq, hs⟩; have HQL := Lib.hid hq; have HSL := Lib.hid hs; have hdl := blk_frp D9.out hs.fr HPN9.out; have hrl := blk_frp R9.out hs.fr HPR9.out; have s0 := hdl.cell (j := 0) rfl; have s1 := hdl.cell (j := 1) rfl; have s2 := hdl.cell (j := 2) rfl; have s3 := hdl.cell (j := 3) rfl; have t0 := hrl.cell (j := 0) rfl; have t1 := hrl.cell (j := 1) rfl; have t2 := hrl.cell (j := 2) rfl; have t3 := hrl.cell (j := 3) rfl; have tf0 := hrl.free 0; have tf1 := hrl.free 1; have tf2 := hrl.free 2; have tf3 := hrl.free 3; have HDL := Lib.hid hdl; have HRL := Lib.hid hrl; clear hq hs hdl hrl)
      have hfr := fr_fill wl gr (.string y.job) (.int .i64 y.idx) (.string y.user) (.int .i64 y.band)
      refine ret_cell rfl rfl rfl (blk_fill HRL.out) Try.underlying29 rfl info_pend2 ⟨rfl, rvl, vL4, ?_, ?_, fun k hk => ?_⟩
      · rw [← HRW9.out]; exact HQL.out.fr hfr (fun k hk hp => by rw [List.mem_singleton.1 hk] at hp; exact (HSL.out.new gr hp).elim HPR9.out (fun h => by have := R9.out.lt; omega))
      · exact ((((RSt.of_below HB3.out g rv _).trans HT4.out).trans HT9.out).trans HSL.out).fr.trans ⟨[gr], hfr, fun x hx => hx⟩ (fun x hx => .inr (by rw [List.mem_singleton.1 hx]; exact HGR.out.2))
      · exact ((((RSt.of_below HB3.out g rv _).trans HT4.out).trans HT9.out).trans HSL.out).new k hk
    · (try simp only [List.getElem_toArray]); (try simp only [List.getElem_cons_succ]); (try simp only [List.getElem_cons_zero])
      go_simp
      obtain ⟨w22x, hw22⟩ : ∃ x, x = w17x.alloc (.cells #[.string u] 9) := ⟨_, rfl⟩
      obtain ⟨z22, hz22⟩ : ∃ x, x = w17x.heap.size := ⟨_, rfl⟩
      have hn22 : Below w17x.heap.size w17x w22x := by rw [hw22]; exact below_alloc _ _
      have hb22 : Below w4.heap.size w4 w22x := below_and HB17.out hn22
      have HB22 := Lib.hid hb22
      have HY22 : Hid (Blk w22x z22 [.string u] 9) := Lib.hid (by rw [hw22, hz22]; exact Blk.made w17x [.string u] _)
      have HO22 := Lib.hid (own_fr HO17.out (Fr.of_below hn22 []) (fun _ _ => by simp))
      have HNE22 : Hid (∀ q, ((.slice (some ⟨z17, 0, none⟩) 0 0) : Value).ownBlock = some q → q ≠ z22) := Lib.hid (fun q hq => by have := own_hi HO17.out hq; omega)
      rw [← hw22, ← hz22]
      have HR22 := Lib.hid (H4.out.kept hb22)
      have HD22 := Lib.hid (D4U.out.kept hb22)
      refine hK.out _ _ ⟨HRV.out _ HR22.out, HD22.out.cell (j := 2) rfl, HD22.out.cell (j := 3) rfl, hb22⟩ (fun hS22 => ?_)
      clear hK K hb22 hw22 hz22 hn22 hS17
      (try simp only [Act.put]); (try simp only [List.setIfInBounds_toArray]); (try simp only [List.set_cons_succ]); (try simp only [List.set_cons_zero])
      refine wpAnyH_ready (rs := [12]) (by kernel_rfl) (by simp) ?_
      refine (AllReadyH.cons rfl (fun K hK => ?_) AllReadyH.nil)
      refine step_app rfl (.tmp 24) (.tmp 32) 43 43 rfl w4.heap.size 9 k0 (.string ⟨#[]⟩) 1 16 Try.underlying43 hk0 hy0 hy1 hy2 rfl (.slice (some ⟨z17, 0, none⟩) 0 0) 0 [] (by rfl) HO22.out (.slice (if cb = 1 then some ⟨qb, 0, none⟩ else some ⟨qb, 1, none⟩) us.length (cb - 1)) us.length (strV us) (by rfl) (HSRC.out _ HB22.out) (by unfold maxLen; omega) (by omega) HB22.out.size ?_
      intro v23 w23x ho23 hg23 hn23 hk23
      have HO23 : Hid (w23x.ownsRow w4.heap.size 9 1 v23 us.length (strV us)) := Lib.hid (by simpa using ho23)
      have hb23 : Below w4.heap.size w4 w23x := HB22.out.trans ((Fr.of_grown hg23).below (by intro y hy; exact own_lo HO22.out (Option.mem_toList.1 hy)) HB22.out.size)
      have HB23 := Lib.hid hb23
      have HY23 := Lib.hid (HY22.out.fr (Fr.of_grown hg23) (fun hm => HNE22.out _ (Option.mem_toList.1 hm) rfl))
      have HNE23 : Hid (∀ q, v23.ownBlock = some q → q ≠ z22) := Lib.hid (fun q hq => by rcases hk23 q hq with h1 | h1; exact HNE22.out q h1; have := HY22.out.lt; omega)
      have HR23 := Lib.hid (H4.out.kept hb23)
      have HD23 := Lib.hid (D4U.out.kept hb23)
      refine hK.out _ _ ⟨HRV.out _ HR23.out, HD23.out.cell (j := 2) rfl, HD23.out.cell (j := 3) rfl, hb23⟩ (fun hS23 => ?_)
      clear hK K hb23 ho23 hg23 hn23 hk23 hS22
      (try simp only [Act.put]); (try simp only [List.setIfInBounds_toArray]); (try simp only [List.set_cons_succ]); (try simp only [List.set_cons_zero])
      refine wpAnyH_ready (rs := [16]) (by kernel_rfl) (by simp) ?_
      refine (AllReadyH.cons rfl (fun K hK => ?_) AllReadyH.nil)
      refine step_app rfl (.tmp 33) (.tmp 36) 43 43 rfl w4.heap.size 9 k0 (.string ⟨#[]⟩) 1 16 Try.underlying43 hk0 hy0 hy1 hy2 rfl v23 us.length (strV us) (by rfl) HO23.out (.slice (some ⟨z22, 0, none⟩) 1 1) 1 [.string u] (by rfl) (src_block Try.underlying43 _ z22 #[.string u] HY23.out rfl (by simp [Value.oneCell'])) (by unfold maxLen; omega) (by omega) HB23.out.size ?_
      intro v24 w24x ho24 hg24 hn24 hk24
      have HO24 : Hid (w24x.ownsRow w4.heap.size 9 1 v24 (us.length + 1) (strV us ++ [.string u])) := Lib.hid (ho24)
      have hb24 : Below w4.heap.size w4 w24x := HB23.out.trans ((Fr.of_grown hg24).below (by intro y hy; exact own_lo HO23.out (Option.mem_toList.1 hy)) HB23.out.size)
      have HB24 := Lib.hid hb24
      have HR24 := Lib.hid (H4.out.kept hb24)
      have HD24 := Lib.hid (D4U.out.kept hb24)
      refine hK.out _ _ ⟨HRV.out _ HR24.out, HD24.out.cell (j := 2) rfl, HD24.out.cell (j := 3) rfl, hb24⟩ (fun hS24 => ?_)
      clear hK K hb24 ho24 hg24 hn24 hk24 hS23
      (try simp only [Act.put]); (try simp only [List.setIfInBounds_toArray]); (try simp only [List.set_cons_succ]); (try simp only [List.set_cons_zero])
      refine wpAnyH_take (i := 19) (v := ?v25) rfl (by kernel_rfl) (by kernel_rfl) (by kernel_rfl) (fun _ _ _ h => h) (Or.inl ⟨by rfl, ?hy25⟩) (by assumption) ?rest25
      case hy25 => (intro _ hSw; (try dsimp only at hSw); obtain ⟨hSa, hSb, hSc, hSd⟩ := hSw; go_simp; (try with_reducible rfl))
      (try simp only [Act.put]); (try simp only [List.setIfInBounds_toArray]); (try simp only [List.set_cons_succ]); (try simp only [List.set_cons_zero])
      refine wpAnyH_done (by kernel_rfl) ?_ _
      refine LastQ.start rfl ?_
      have d4 := HRV.out _ HR24.out
      have f4 := HR24.out.blk.free b0
      clear hS24 hHeld
      obtain ⟨p8, c8, rfl, -, -⟩ := own_slice HO24.out
      generalize (if cb = 1 then some (⟨qb, 0, none⟩ : Addr) else some ⟨qb, 1, none⟩) = pp
      go_wp2
      refine NoPanic.normal ?_
      go_upto_region 7 with fail
      obtain ⟨w9, hw9⟩ : ∃ x, x = w24x.setCell ⟨g, b0, none⟩ (.slice p8 (us.length + 1) c8) := ⟨_, rfl⟩
      have HX := H4.out.setR (ns := us ++ [u]) hb0 HB24.out (by have := HO24.out; exact own_mono (by simpa [strV] using this) HB4S.out) (fun k hk => own_lo HO24.out hk)
      rw [← hw9] at HX
      obtain ⟨rv9, hrv9⟩ : ∃ x, x = updV rv b0 (.slice p8 (us.length + 1) c8) := ⟨_, rfl⟩
      rw [← hrv9] at HX
      obtain ⟨rw9, hrw9⟩ : ∃ x, x = updV rw b0 (us ++ [u]) := ⟨_, rfl⟩
      rw [← hrw9] at HX
      have HRW9 := Lib.hid hrw9
      have hrl9 : (rw9 b0).length ≤ 100000 := by rw [hrw9, updV_same]; simp; omega
      have H9 := Lib.hid HX.1
      have HT9 := Lib.hid HX.2
      have D9 : Hid (Blk w9 gd (pend y) 29) := Lib.hid (by rw [hw9]; exact (D4.out.kept HB24.out).other (a := ⟨g, b0, none⟩) HGG.out _)
      have R9 : Hid (Blk w9 gr [.string ⟨#[]⟩, .int .i64 0, .string ⟨#[]⟩, .int .i64 0] 29) := Lib.hid (by rw [hw9]; exact (R4.out.kept HB24.out).other (a := ⟨g, b0, none⟩) (Ne.symm HGR.out.1) _)
      have HPN9 : Hid (¬ Pd g rv9 vL4 gd) := Lib.hid (fun hp => (HT9.out.new gd hp).elim HPN4.out (fun h => by have := D4.out.lt; omega))
      have HPR9 : Hid (¬ Pd g rv9 vL4 gr) := Lib.hid (fun hp => (HT9.out.new gr hp).elim HPR4.out (fun h => by have := R4.out.lt; omega))
      have n3 : w9.cell? ⟨gd, 3, none⟩ = some (.int .i64 (b0 : Int)) := by rw [← HBB.out]; exact D9.out.cell (j := 3) rfl
      have n2 : w9.cell? ⟨gd, 2, none⟩ = some (.string u) := by rw [← HUU.out]; exact D9.out.cell (j := 2) rfl
      rw [← hw9]
      clear HX hw9 hrv9 hrw9 d4 f4
      go_wp2_with (go_at_call 40; refine (rleave_any base g b0 rv9 vL4 rw9 (L.eraseIdx i) u _ H9.out hb0 hrl9).mono ?_; rintro e wl ⟨rfl, rvl, hq, hs⟩; have HQL := Lib.hid hq; have HSL := Lib.hid hs; have hdl := blk_frp D9.out hs.fr HPN9.out; have hrl := blk_frp R9.out hs.fr HPR9.out; have s0 := hdl.cell (j := 0) rfl; have s1 := hdl.cell (j := 1) rfl; have s2 := hdl.cell (j := 2) rfl; have s3 := hdl.cell (j := 3) rfl; have t0 := hrl.cell (j := 0) rfl; have t1 := hrl.cell (j := 1) rfl; have t2 := hrl.cell (j := 2) rfl; have t3 := hrl.cell (j := 3) rfl; have tf0 := hrl.free 0; have tf1 := hrl.free 1; have tf2 := hrl.free 2; have tf3 := hrl.free 3; have HDL := Lib.hid hdl; have HRL := Lib.hid hrl; clear hq hs hdl hrl)
      have hfr := fr_fill wl gr (.string y.job) (.int .i64 y.idx) (.string y.user) (.int .i64 y.band)
      refine ret_cell rfl rfl rfl (blk_fill HRL.out) Try.underlying29 rfl info_pend2 ⟨rfl, rvl, vL4, ?_, ?_, fun k hk => ?_⟩
      · rw [← HRW9.out]; exact HQL.out.fr hfr (fun k hk hp => by rw [List.mem_singleton.1 hk] at hp; exact (HSL.out.new gr hp).elim HPR9.out (fun h => by have := R9.out.lt; omega))
      · exact ((((RSt.of_below HB3.out g rv _).trans HT4.out).trans HT9.out).trans HSL.out).fr.trans ⟨[gr], hfr, fun x hx => hx⟩ (fun x hx => .inr (by rw [List.mem_singleton.1 hx]; exact HGR.out.2))
      · exact ((((RSt.of_below HB3.out g rv _).trans HT4.out).trans HT9.out).trans HSL.out).new k hk
  · (try simp only [List.getElem_toArray]); (try simp only [List.getElem_cons_succ]); (try simp only [List.getElem_cons_zero])
    go_simp
    obtain ⟨w26x, hw26⟩ : ∃ x, x = wd1.alloc (.cells #[.string u] 9) := ⟨_, rfl⟩
    obtain ⟨z26, hz26⟩ : ∃ x, x = wd1.heap.size := ⟨_, rfl⟩
    have hn26 : Below wd1.heap.size wd1 w26x := by rw [hw26]; exact below_alloc _ _
    have hb26 : Below w4.heap.size w4 w26x := below_and HB1.out hn26
    have HB26 := Lib.hid hb26
    have HY26 : Hid (Blk w26x z26 [.string u] 9) := Lib.hid (by rw [hw26, hz26]; exact Blk.made wd1 [.string u] _)
    rw [← hw26, ← hz26]
    have HR26 := Lib.hid (H4.out.kept hb26)
    have HD26 := Lib.hid (D4U.out.kept hb26)
    refine hK.out _ _ ⟨HRV.out _ HR26.out, HD26.out.cell (j := 2) rfl, HD26.out.cell (j := 3) rfl, hb26⟩ (fun hS26 => ?_)
    clear hK K hb26 hw26 hz26 hn26 hS1
    (try simp only [Act.put]); (try simp only [List.setIfInBounds_toArray]); (try simp only [List.set_cons_succ]); (try simp only [List.set_cons_zero])
    refine wpAnyH_ready (rs := [3]) (by kernel_rfl) (by simp) ?_
    refine (AllReadyH.cons rfl (fun K hK => ?_) AllReadyH.nil)
    (try simp only [List.getElem_toArray]); (try simp only [List.getElem_cons_succ]); (try simp only [List.getElem_cons_zero])
    go_simp
    obtain ⟨w27x, hw27⟩ : ∃ x, x = w26x.alloc (.cells #[] 9) := ⟨_, rfl⟩
    obtain ⟨z27, hz27⟩ : ∃ x, x = w26x.heap.size := ⟨_, rfl⟩
    have hn27 : Below w26x.heap.size w26x w27x := by rw [hw27]; exact below_alloc _ _
    have hb27 : Below w4.heap.size w4 w27x := below_and HB26.out hn27
    have HB27 := Lib.hid hb27
    have HO27 : Hid (w27x.ownsRow w4.heap.size 9 1 (.slice (some ⟨z27, 0, none⟩) 0 0) 0 []) := Lib.hid (by rw [hw27, hz27]; exact World.ownsRow_made w26x #[] 0 HB26.out.size (by decide) rfl)
    have HY27 := Lib.hid (HY26.out.kept hn27)
    have HNE27 : Hid (∀ q, (Value.slice (some ⟨z27, 0, none⟩) 0 0).ownBlock = some q → q ≠ z26) := Lib.hid (fun q hq => by simp [Value.ownBlock] at hq; have := HY26.out.lt; omega)
    rw [← hw27, ← hz27]
    have HR27 := Lib.hid (H4.out.kept hb27)
    have HD27 := Lib.hid (D4U.out.kept hb27)
    refine hK.out _ _ ⟨HRV.out _ HR27.out, HD27.out.cell (j := 2) rfl, HD27.out.cell (j := 3) rfl, hb27⟩ (fun hS27 => ?_)
    clear hK K hb27 hw27 hz27 hn27 hS26
    (try simp only [Act.put]); (try simp only [List.setIfInBounds_toArray]); (try simp only [List.set_cons_succ]); (try simp only [List.set_cons_zero])
    refine wpAnyH_ready (rs := [12]) (by kernel_rfl) (by simp) ?_
    refine (AllReadyH.cons rfl (fun K hK => ?_) AllReadyH.nil)
    refine step_app rfl (.tmp 24) (.tmp 32) 43 43 rfl w4.heap.size 9 k0 (.string ⟨#[]⟩) 1 16 Try.underlying43 hk0 hy0 hy1 hy2 rfl (.slice (some ⟨z27, 0, none⟩) 0 0) 0 [] (by rfl) HO27.out (.slice (if cb = 1 then some ⟨qb, 0, none⟩ else some ⟨qb, 1, none⟩) us.length (cb - 1)) us.length (strV us) (by rfl) (HSRC.out _ HB27.out) (by unfold maxLen; omega) (by omega) HB27.out.size ?_
    intro v28 w28x ho28 hg28 hn28 hk28
    have HO28 : Hid (w28x.ownsRow w4.heap.size 9 1 v28 us.length (strV us)) := Lib.hid (by simpa using ho28)
    have hb28 : Below w4.heap.size w4 w28x := HB27.out.trans ((Fr.of_grown hg28).below (by intro y hy; exact own_lo HO27.out (Option.mem_toList.1 hy)) HB27.out.size)
    have HB28 := Lib.hid hb28
    have HY28 := Lib.hid (HY27.out.fr (Fr.of_grown hg28) (fun hm => HNE27.out _ (Option.mem_toList.1 hm) rfl))
    have HNE28 : Hid (∀ q, v28.ownBlock = some q → q ≠ z26) := Lib.hid (fun q hq => by rcases hk28 q hq with h1 | h1; exact HNE27.out q h1; have := HY27.out.lt; omega)
    have HR28 := Lib.hid (H4.out.kept hb28)
    have HD28 := Lib.hid (D4U.out.kept hb28)
    refine hK.out _ _ ⟨HRV.out _ HR28.out, HD28.out.cell (j := 2) rfl, HD28.out.cell (j := 3) rfl, hb28⟩ (fun hS28 => ?_)
    clear hK K hb28 ho28 hg28 hn28 hk28 hS27
    (try simp only [Act.put]); (try simp only [List.setIfInBounds_toArray]); (try simp only [List.set_cons_succ]); (try simp only [List.set_cons_zero])
    refine wpAnyH_ready (rs := [16]) (by kernel_rfl) (by simp) ?_
    refine (AllReadyH.cons rfl (fun K hK => ?_) AllReadyH.nil)
    refine step_app rfl (.tmp 33) (.tmp 36) 43 43 rfl w4.heap.size 9 k0 (.string ⟨#[]⟩) 1 16 Try.underlying43 hk0 hy0 hy1 hy2 rfl v28 us.length (strV us) (by rfl) HO28.out (.slice (some ⟨z26, 0, none⟩) 1 1) 1 [.string u] (by rfl) (src_block Try.underlying43 _ z26 #[.string u] HY28.out rfl (by simp [Value.oneCell'])) (by unfold maxLen; omega) (by omega) HB28.out.size ?_
    intro v29 w29x ho29 hg29 hn29 hk29
    have HO29 : Hid (w29x.ownsRow w4.heap.size 9 1 v29 (us.length + 1) (strV us ++ [.string u])) := Lib.hid (ho29)
    have hb29 : Below w4.heap.size w4 w29x := HB28.out.trans ((Fr.of_grown hg29).below (by intro y hy; exact own_lo HO28.out (Option.mem_toList.1 hy)) HB28.out.size)
    have HB29 := Lib.hid hb29
    have HR29 := Lib.hid (H4.out.kept hb29)
    have HD29 := Lib.hid (D4U.out.kept hb29)
    refine hK.out _ _ ⟨HRV.out _ HR29.out, HD29.out.cell (j := 2) rfl, HD29.out.cell (j := 3) rfl, hb29⟩ (fun hS29 => ?_)
    clear hK K hb29 ho29 hg29 hn29 hk29 hS28
    (try simp only [Act.put]); (try simp only [List.setIfInBounds_toArray]); (try simp only [List.set_cons_succ]); (try simp only [List.set_cons_zero])
    refine wpAnyH_take (i := 19) (v := ?v30) rfl (by kernel_rfl) (by kernel_rfl) (by kernel_rfl) (fun _ _ _ h => h) (Or.inl ⟨by rfl, ?hy30⟩) (by assumption) ?rest30
    case hy30 => (intro _ hSw; (try dsimp only at hSw); obtain ⟨hSa, hSb, hSc, hSd⟩ := hSw; go_simp; (try with_reducible rfl))
    (try simp only [Act.put]); (try simp only [List.setIfInBounds_toArray]); (try simp only [List.set_cons_succ]); (try simp only [List.set_cons_zero])
    refine wpAnyH_done (by kernel_rfl) ?_ _
    refine LastQ.start rfl ?_
    have d4 := HRV.out _ HR29.out
    have f4 := HR29.out.blk.free b0
    clear hS29 hHeld
    obtain ⟨p8, c8, rfl, -, -⟩ := own_slice HO29.out
    generalize (if cb = 1 then some (⟨qb, 0, none⟩ : Addr) else some ⟨qb, 1, none⟩) = pp
    go_wp2
    refine NoPanic.normal ?_
    go_upto_region 7 with fail
    obtain ⟨w9, hw9⟩ : ∃ x, x = w29x.setCell ⟨g, b0, none⟩ (.slice p8 (us.length + 1) c8) := ⟨_, rfl⟩
    have HX := H4.out.setR (ns := us ++ [u]) hb0 HB29.out (by have := HO29.out; exact own_mono (by simpa [strV] using this) HB4S.out) (fun k hk => own_lo HO29.out hk)
    rw [← hw9] at HX
    obtain ⟨rv9, hrv9⟩ : ∃ x, x = updV rv b0 (.slice p8 (us.length + 1) c8) := ⟨_, rfl⟩
    rw [← hrv9] at HX
    obtain ⟨rw9, hrw9⟩ : ∃ x, x = updV rw b0 (us ++ [u]) := ⟨_, rfl⟩
    rw [← hrw9] at HX
    have HRW9 := Lib.hid hrw9
    have hrl9 : (rw9 b0).length ≤ 100000 := by rw [hrw9, updV_same]; simp; omega
    have H9 := Lib.hid HX.1
    have HT9 := Lib.hid HX.2
    have D9 : Hid (Blk w9 gd (pend y) 29) := Lib.hid (by rw [hw9]; exact (D4.out.kept HB29.out).other (a := ⟨g, b0, none⟩) HGG.out _)
    have R9 : Hid (Blk w9 gr [.string ⟨#[]⟩, .int .i64 0, .string ⟨#[]⟩, .int .i64 0] 29) := Lib.hid (by rw [hw9]; exact (R4.out.kept HB29.out).other (a := ⟨g, b0, none⟩) (Ne.symm HGR.out.1) _)
    have HPN9 : Hid (¬ Pd g rv9 vL4 gd) := Lib.hid (fun hp => (HT9.out.new gd hp).elim HPN4.out (fun h => by have := D4.out.lt; omega))
    have HPR9 : Hid (¬ Pd g rv9 vL4 gr) := Lib.hid (fun hp => (HT9.out.new gr hp).elim HPR4.out (fun h => by have := R4.out.lt; omega))
    have n3 : w9.cell? ⟨gd, 3, none⟩ = some (.int .i64 (b0 : Int)) := by rw [← HBB.out]; exact D9.out.cell (j := 3) rfl
    have n2 : w9.cell? ⟨gd, 2, none⟩ = some (.string u) := by rw [← HUU.out]; exact D9.out.cell (j := 2) rfl
    rw [← hw9]
    clear HX hw9 hrv9 hrw9 d4 f4
    go_wp2_with (go_at_call 40; refine (rleave_any base g b0 rv9 vL4 rw9 (L.eraseIdx i) u _ H9.out hb0 hrl9).mono ?_; rintro e wl ⟨rfl, rvl, hq, hs⟩; have HQL := Lib.hid hq; have HSL := Lib.hid hs; have hdl := blk_frp D9.out hs.fr HPN9.out; have hrl := blk_frp R9.out hs.fr HPR9.out; have s0 := hdl.cell (j := 0) rfl; have s1 := hdl.cell (j := 1) rfl; have s2 := hdl.cell (j := 2) rfl; have s3 := hdl.cell (j := 3) rfl; have t0 := hrl.cell (j := 0) rfl; have t1 := hrl.cell (j := 1) rfl; have t2 := hrl.cell (j := 2) rfl; have t3 := hrl.cell (j := 3) rfl; have tf0 := hrl.free 0; have tf1 := hrl.free 1; have tf2 := hrl.free 2; have tf3 := hrl.free 3; have HDL := Lib.hid hdl; have HRL := Lib.hid hrl; clear hq hs hdl hrl)
    have hfr := fr_fill wl gr (.string y.job) (.int .i64 y.idx) (.string y.user) (.int .i64 y.band)
    refine ret_cell rfl rfl rfl (blk_fill HRL.out) Try.underlying29 rfl info_pend2 ⟨rfl, rvl, vL4, ?_, ?_, fun k hk => ?_⟩
    · rw [← HRW9.out]; exact HQL.out.fr hfr (fun k hk hp => by rw [List.mem_singleton.1 hk] at hp; exact (HSL.out.new gr hp).elim HPR9.out (fun h => by have := R9.out.lt; omega))
    · exact ((((RSt.of_below HB3.out g rv _).trans HT4.out).trans HT9.out).trans HSL.out).fr.trans ⟨[gr], hfr, fun x hx => hx⟩ (fun x hx => .inr (by rw [List.mem_singleton.1 hx]; exact HGR.out.2))
    · exact ((((RSt.of_below HB3.out g rv _).trans HT4.out).trans HT9.out).trans HSL.out).new k hk
end Go.Proofs.Ytlemfbgmhjklaaa
