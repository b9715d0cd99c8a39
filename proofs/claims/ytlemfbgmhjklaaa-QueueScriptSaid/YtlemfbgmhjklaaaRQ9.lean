/- The document's queue: All (written by genrall.py). -/
import Derived.Test.YtlemfbgmhjklaaaRQ8
import Derived.Test.YtlemfbgmhjklaaaQAll
namespace Go.Proofs.Ytlemfbgmhjklaaa
open Go.RowKit

set_option maxRecDepth 100000 in
set_option maxHeartbeats 4000000 in
theorem rmall_any (g : Nat) (P : Nat → Prop) (L : List Pend) (M : List MRow) (w : World) (h : RM w g P L M) (hl : (flatM M).length ≤ 80000) :
    Calls Try.prog 27 #[ptr g] w fun e w' => ∃ o, e = .returned o ∧ w'.ownsRow w.heap.size 29 4 o (flatM M).length (pcells (allM M)) ∧ Below w.heap.size w w' := by
  obtain ⟨j0, hj0, hz0, hz1, hz2⟩ := info_parts info_pend
  obtain ⟨k0, hk0, hy0, hy1, hy2⟩ := info_parts info_str
  have hlen := h.len
  obtain ⟨rv, vL, rw, h1, h2, h3, h4⟩ := h
  obtain ⟨pL, cL, rfl, hcL, -⟩ := own_slice h1.list
  have H := Lib.hid h1
  have HD := Lib.hid h3
  have HMI := Lib.hid h4
  have HL := Lib.hid hl
  have hll : L.length ≤ 80000 := by omega
  have HRL : Hid (∀ b, b < 4 → (rw b).length ≤ 80000) := Lib.hid (fun b hb => by rw [h3.rows b hb]; have := users_len h4 b; omega)
  have z4 := h1.cL
  have z5 : (w.alloc (.cells #[] 29)).cell? ⟨g, 4, none⟩ = _ := (h1.kept (below_alloc w _)).cL
  have HOe : Hid ((w.alloc (.cells #[] 29)).ownsRow w.heap.size 29 4 (.slice (some ⟨w.heap.size, 0, none⟩) 0 0) 0 []) := Lib.hid (World.ownsRow_made w #[] 0 (Nat.le_refl _) (by decide) rfl)
  have HSL : Hid (Src Try.prog 4 22 (.slice pL L.length cL) L.length (pcells L) (w.alloc (.cells #[] 29))) := Lib.hid (Row.src Try.underlying22 (row_of_owns (h1.kept (below_alloc w (.cells #[] 29))).list (pcells_one _)))
  clear h1 h2 h3 h4 hl hlen
  go_enter Try.func27, Try.ntmps27
  go_upto_region 2 with (at_builtin; go_loud (refine wpList_app5 rfl _ _ 22 22 rfl w.heap.size 29 j0 (.agg #[.string ⟨#[]⟩, .int .i64 0, .string ⟨#[]⟩, .int .i64 0]) 4 48 Try.underlying22 hj0 hz0 hz1 hz2 rfl _ 0 [] rfl HOe.out _ L.length _ rfl HSL.out (by unfold maxLen; omega) (by omega) (by simp) ?_; intro o6 w6 ho hg hn; rw [Nat.zero_add, List.nil_append] at ho; have HO6 := Lib.hid ho; have HB6 : Hid (Below w.heap.size w w6) := Lib.hid ((below_alloc w (.cells #[] 29)).trans ((Fr.of_grown hg).below (fun y hy => own_lo HOe.out (Option.mem_toList.1 hy)) (by simp))); obtain ⟨p6, c6, rfl, -, -⟩ := own_slice ho; clear ho hg hn))
  obtain ⟨ob, hob⟩ : ∃ ob, ob = w6.heap.size := ⟨_, rfl⟩
  obtain ⟨w7, hw7⟩ : ∃ w7, w7 = w6.alloc (.cells #[.slice none 0 0, .slice none 0 0, .slice none 0 0, .slice none 0 0, .slice p6 L.length c6] 46) := ⟨_, rfl⟩
  have HX7 : Hid (RQ 0 w7 ob (fun _ => .slice none 0 0) (.slice p6 L.length c6) (fun _ => []) L) := Lib.hid (by
    rw [hw7, hob]
    exact ⟨Blk.made w6 _ _, fun b _ => World.ownsRow_nil _ _ _ _, own_mono (HO6.out.alloc _) (Nat.zero_le _), fun b _ c _ _ k hk => by simp [Value.ownBlock] at hk, Nat.zero_le _⟩)
  have HB7 : Hid (Below w.heap.size w w7) := Lib.hid (by rw [hw7]; exact below_and HB6.out (below_alloc w6 _))
  have HPd7 : Hid (∀ k, Pd ob (fun _ => .slice none 0 0) (.slice p6 L.length c6) k → w.heap.size ≤ k) := Lib.hid (fun k hk => by
    rcases hk with rfl | ⟨b, -, hk⟩ | hk
    · rw [hob]; exact HB6.out.size
    · simp [Value.ownBlock] at hk
    · exact own_lo HO6.out hk)
  rw [← hw7, ← hob]
  clear hw7 hob z4 z5
  go_wp2
  go_loopw [4] (fun o wc => ∃ (k : Nat) (rx : Nat → Value) (rwx : Nat → List ByteArray), k ≤ 4 ∧ o = .int .i64 (k : Int) ∧ Hid (RQ 0 wc ob rx (.slice p6 L.length c6) rwx L) ∧ Hid (∀ b, b < 4 → rwx b = if b < k then rw b else []) ∧ Hid (∀ j, Pd ob rx (.slice p6 L.length c6) j → w.heap.size ≤ j) ∧ Hid (Below w.heap.size w wc)) (fun o _ => 4 - (intOf o).toNat)
  case atStart => exact ⟨0, _, _, by omega, rfl, HX7, Lib.hid (fun b _ => by simp), HPd7, HB7⟩
  case round =>
    obtain ⟨k, rx, rwx, hk, rfl, HX, HRX, HPX, HB⟩ := hrel
    by_cases i4 : k < 4
    · have i5 : (k : Int) < 4 := by omega
      have HK := Lib.hid (H.out.kept HB.out)
      obtain ⟨pk, ck, hvk⟩ := row_shape' (H.out.rows k i4)
      have HRV : Hid (∀ w', RQ 0 w' g rv (.slice pL L.length cL) rw L → w'.cell? ⟨g, k, none⟩ = some (.slice pk (rw k).length ck)) := Lib.hid (fun w' h' => by rw [← hvk]; exact rv_at h' i4)
      have HSRC : Hid (∀ w', Below wr.heap.size wr w' → Src Try.prog 1 43 (.slice pk (rw k).length ck) (rw k).length (strV (rw k)) w') := Lib.hid (fun w' hb => by
        have := (HK.out.kept hb).rows k i4
        rw [hvk] at this
        exact Row.src Try.underlying43 (row_of_owns this (strV_one _)))
      have hrk := HRL.out k i4
      clear hvk
      go_wp2
      refine wp_region_noPanic ?_
      refine wp_region_lastH (fun w' => w'.cell? ⟨g, k, none⟩ = some (.slice pk (rw k).length ck) ∧ Below wr.heap.size wr w') 13 rfl rfl (by kernel_rfl) (by kernel_rfl) ⟨HRV.out _ (HK.out.kept (below_drewN 1)), below_drewN 1⟩ (fun hHeld => ?_)
      have HBa : Hid (Below wr.heap.size wr wr.drew) := Lib.hid (below_drewN 1)
      obtain ⟨wd, hwd⟩ : ∃ x, x = wr.drew := ⟨_, rfl⟩
      rw [← hwd] at hHeld HBa ⊢
      clear hwd
      refine wpAnyH_take (i := 0) (v := ?v1) rfl (by kernel_rfl) (by kernel_rfl) (by kernel_rfl) (fun _ _ _ h => h) (Or.inl ⟨by rfl, ?hy1⟩) (by assumption) ?rest1
      case hy1 => (intro _ hSw; (try dsimp only at hSw); obtain ⟨hSa, hSb⟩ := hSw; go_simp; (try with_reducible rfl))
      (try simp only [Act.put]); (try simp only [List.setIfInBounds_toArray]); (try simp only [List.set_cons_succ]); (try simp only [List.set_cons_zero])
      refine wpAnyH_take (i := 1) (v := ?v2) rfl (by kernel_rfl) (by kernel_rfl) (by kernel_rfl) (fun _ _ _ h => h) (Or.inl ⟨by rfl, ?hy2⟩) (by assumption) ?rest2
      case hy2 => (intro _ hSw; (try dsimp only at hSw); obtain ⟨hSa, hSb⟩ := hSw; go_simp; (try with_reducible rfl))
      (try simp only [Act.put]); (try simp only [List.setIfInBounds_toArray]); (try simp only [List.set_cons_succ]); (try simp only [List.set_cons_zero])
      refine wpAnyH_take (i := 3) (v := ?v3) rfl (by kernel_rfl) (by kernel_rfl) (by kernel_rfl) (fun _ _ _ h => h) (Or.inl ⟨by rfl, ?hy3⟩) (by assumption) ?rest3
      case hy3 => (intro _ hSw; (try dsimp only at hSw); obtain ⟨hSa, hSb⟩ := hSw; go_simp; (try with_reducible rfl))
      (try simp only [Act.put]); (try simp only [List.setIfInBounds_toArray]); (try simp only [List.set_cons_succ]); (try simp only [List.set_cons_zero])
      refine wpAnyH_take (i := 4) (v := ?v4) rfl (by kernel_rfl) (by kernel_rfl) (by kernel_rfl) (fun _ _ _ h => h) (Or.inl ⟨by rfl, ?hy4⟩) (by assumption) ?rest4
      case hy4 => (intro _ hSw; (try dsimp only at hSw); obtain ⟨hSa, hSb⟩ := hSw; go_simp; (try with_reducible rfl))
      (try simp only [Act.put]); (try simp only [List.setIfInBounds_toArray]); (try simp only [List.set_cons_succ]); (try simp only [List.set_cons_zero])
      refine wpAnyH_take (i := 5) (v := ?v5) rfl (by kernel_rfl) (by kernel_rfl) (by kernel_rfl) (fun _ _ _ h => h) (Or.inl ⟨by rfl, ?hy5⟩) (by assumption) ?rest5
      case hy5 => (intro _ hSw; (try dsimp only at hSw); obtain ⟨hSa, hSb⟩ := hSw; go_simp; (try with_reducible rfl))
      (try simp only [Act.put]); (try simp only [List.setIfInBounds_toArray]); (try simp only [List.set_cons_succ]); (try simp only [List.set_cons_zero])
      refine wpAnyH_take (i := 6) (v := ?v6) rfl (by kernel_rfl) (by kernel_rfl) (by kernel_rfl) (fun _ _ _ h => h) (Or.inl ⟨by rfl, ?hy6⟩) (by assumption) ?rest6
      case hy6 => (intro _ hSw; (try dsimp only at hSw); obtain ⟨hSa, hSb⟩ := hSw; go_simp; (try with_reducible rfl))
      (try simp only [Act.put]); (try simp only [List.setIfInBounds_toArray]); (try simp only [List.set_cons_succ]); (try simp only [List.set_cons_zero])
      refine wpAnyH_take (i := 7) (v := ?v7) rfl (by kernel_rfl) (by kernel_rfl) (by kernel_rfl) (fun _ _ _ h => h) (Or.inl ⟨by rfl, ?hy7⟩) (by assumption) ?rest7
      case hy7 => (intro _ hSw; (try dsimp only at hSw); obtain ⟨hSa, hSb⟩ := hSw; go_simp; (try with_reducible rfl))
      (try simp only [Act.put]); (try simp only [List.setIfInBounds_toArray]); (try simp only [List.set_cons_succ]); (try simp only [List.set_cons_zero])
      refine wpAnyH_take (i := 8) (v := ?v8) rfl (by kernel_rfl) (by kernel_rfl) (by kernel_rfl) (fun _ _ _ h => h) (Or.inl ⟨by rfl, ?hy8⟩) (by assumption) ?rest8
      case hy8 => (intro _ hSw; (try dsimp only at hSw); obtain ⟨hSa, hSb⟩ := hSw; go_simp; (try with_reducible rfl))
      (try simp only [Act.put]); (try simp only [List.setIfInBounds_toArray]); (try simp only [List.set_cons_succ]); (try simp only [List.set_cons_zero])
      refine wpAnyH_take (i := 10) (v := ?v9) rfl (by kernel_rfl) (by kernel_rfl) (by kernel_rfl) (fun _ _ _ h => h) (Or.inl ⟨by rfl, ?hy9⟩) (by assumption) ?rest9
      case hy9 => (intro _ hSw; (try dsimp only at hSw); obtain ⟨hSa, hSb⟩ := hSw; go_simp; (try with_reducible rfl))
      (try simp only [Act.put]); (try simp only [List.setIfInBounds_toArray]); (try simp only [List.set_cons_succ]); (try simp only [List.set_cons_zero])
      refine wpAnyH_take (i := 11) (v := ?v10) rfl (by kernel_rfl) (by kernel_rfl) (by kernel_rfl) (fun _ _ _ h => h) (Or.inl ⟨by rfl, ?hy10⟩) (by assumption) ?rest10
      case hy10 => (intro _ hSw; (try dsimp only at hSw); obtain ⟨hSa, hSb⟩ := hSw; go_simp; (try with_reducible rfl))
      (try simp only [Act.put]); (try simp only [List.setIfInBounds_toArray]); (try simp only [List.set_cons_succ]); (try simp only [List.set_cons_zero])
      refine wpAnyH_ready (rs := [2]) (by kernel_rfl) (by simp) ?_
      refine AllReadyH.cons rfl (fun K hK => ?_) AllReadyH.nil
      (try simp only [List.getElem_toArray]); (try simp only [List.getElem_cons_succ]); (try simp only [List.getElem_cons_zero])
      go_simp
      obtain ⟨we, hwe⟩ : ∃ x, x = wd.alloc (.cells #[] 9) := ⟨_, rfl⟩
      obtain ⟨ze, hze⟩ : ∃ x, x = wd.heap.size := ⟨_, rfl⟩
      have hbe : Below wr.heap.size wr we := below_and HBa.out (by rw [hwe]; exact below_alloc _ _)
      have HBe := Lib.hid hbe
      have HOe : Hid (we.ownsRow wr.heap.size 9 1 (.slice (some ⟨ze, 0, none⟩) 0 0) 0 []) := Lib.hid (by rw [hwe, hze]; exact World.ownsRow_made wd #[] 0 HBa.out.size (by decide) rfl)
      rw [← hwe, ← hze]
      refine hK.out _ _ ⟨HRV.out _ (HK.out.kept hbe), hbe⟩ (fun hS1 => ?_)
      clear hK K hbe hwe hze
      (try simp only [Act.put]); (try simp only [List.setIfInBounds_toArray]); (try simp only [List.set_cons_succ]); (try simp only [List.set_cons_zero])
      refine wpAnyH_ready (rs := [9]) (by kernel_rfl) (by simp) ?_
      refine AllReadyH.cons rfl (fun K hK => ?_) AllReadyH.nil
      refine step_app rfl (.tmp 22) (.tmp 28) 43 43 rfl wr.heap.size 9 k0 (.string ⟨#[]⟩) 1 16 Try.underlying43 hk0 hy0 hy1 hy2 rfl (.slice (some ⟨ze, 0, none⟩) 0 0) 0 [] (by rfl) HOe.out (.slice pk (rw k).length ck) (rw k).length (strV (rw k)) (by rfl) (HSRC.out _ HBe.out) (by unfold maxLen; omega) (by omega) HBe.out.size ?_
      intro v8 w8 ho hg hn hk8
      have HO8 : Hid (w8.ownsRow wr.heap.size 9 1 v8 (rw k).length (strV (rw k))) := Lib.hid (by simpa using ho)
      have hb8 : Below wr.heap.size wr w8 := HBe.out.trans ((Fr.of_grown hg).below (by intro y hy; exact own_lo HOe.out (Option.mem_toList.1 hy)) HBe.out.size)
      have HB8 := Lib.hid hb8
      have hx8 := (HX.out.kept hb8).blk.free k
      refine hK.out _ _ ⟨HRV.out _ (HK.out.kept hb8), hb8⟩ (fun hS2 => ?_)
      clear hK K hb8 ho hg hn hk8 hS1
      (try simp only [Act.put]); (try simp only [List.setIfInBounds_toArray]); (try simp only [List.set_cons_succ]); (try simp only [List.set_cons_zero])
      refine wpAnyH_take (i := 12) (v := ?v11) rfl (by kernel_rfl) (by kernel_rfl) (by kernel_rfl) (fun _ _ _ h => h) (Or.inl ⟨by rfl, ?hy11⟩) (by assumption) ?rest11
      case hy11 => (intro _ hSw; (try dsimp only at hSw); obtain ⟨hSa, hSb⟩ := hSw; go_simp; (try with_reducible rfl))
      (try simp only [Act.put]); (try simp only [List.setIfInBounds_toArray]); (try simp only [List.set_cons_succ]); (try simp only [List.set_cons_zero])
      refine wpAnyH_done (by kernel_rfl) ?_ _
      refine LastQ.start rfl ?_
      have d8 : w8.cell? ⟨ob, k, none⟩ = some (rx k) := rv_at (HX.out.kept HB8.out) i4
      clear hS2 hHeld
      obtain ⟨p8, c8, rfl, -, -⟩ := own_slice HO8.out
      go_wp2
      refine NoPanic.normal ?_
      go_wp2
      go_roundw
      case rel =>
        have hs := HX.out.setR (ns := rw k) i4 HB8.out (own_mono HO8.out (Nat.zero_le _)) (fun j hj => own_lo HO8.out hj)
        refine ⟨k + 1, _, _, i4, by go_num, Lib.hid hs.1, Lib.hid (fun b hb => ?_), Lib.hid (fun j hj => (hs.2.new j hj).elim (HPX.out j) (fun h => Nat.le_trans HB.out.size h)), Lib.hid ((below_and HB.out HB8.out).trans ?_)⟩
        · by_cases e : b = k
          · subst e; rw [updV_same, if_pos (by omega)]
          · rw [updV_other _ _ e, HRX.out b hb]
            by_cases e2 : b < k
            · rw [if_pos e2, if_pos (by omega)]
            · rw [if_neg e2, if_neg (by omega)]
        · exact ((Fr.refl [ob] w8).set (p := ⟨ob, k, none⟩) (by simp) _).below (fun x hx => by rw [List.mem_singleton.1 hx]; exact HPX.out ob (.inl rfl)) (below_and HB.out HB8.out).size
      case measure => simp [intOf]; omega
    · obtain rfl : k = 4 := by omega
      have HM2 : Hid (RM wr ob (fun k => w.heap.size ≤ k) L M) := Lib.hid ⟨rx, _, rwx, HX.out, HPX.out, ⟨fun b hb => by rw [HRX.out b hb, if_pos hb]; exact HD.out.rows b hb, HD.out.tasks, HD.out.perm⟩, HMI.out⟩
      have HBW := Lib.hid HB.out
      obtain ⟨p0, hp0⟩ : ∃ p0, p0 = headP M := ⟨_, rfl⟩
      obtain ⟨ok0, hok0⟩ : ∃ ok0, ok0 = headB M := ⟨_, rfl⟩
      have HV : Hid (headV M = .tuple #[pval p0, .bool ok0]) := Lib.hid (by rw [headV_eq, hp0, hok0])
      have HEQ : Hid (allM M = if ok0 = true then p0 :: allM (takeM M) else []) := Lib.hid (by rw [hok0, hp0]; exact allM_eq HMI.out)
      have HLE : Hid ((flatM (takeM M)).length + (if ok0 = true then 1 else 0) = (flatM M).length) := Lib.hid (by rw [hok0]; exact take_len HMI.out)
      clear hp0 hok0 HX HPX HX7 HPd7
      go_wp2_with (go_at_call 22; refine (rmtake_any ob _ L M _ HM2.out HL.out).mono ?_; rw [HV.out]; rintro e w3 ⟨rfl, L3, hq, hf⟩; have HQ3 := Lib.hid hq; have HB3 : Hid (Below w.heap.size w w3) := Lib.hid (HBW.out.trans (hf.below (fun _ h => h) HBW.out.size)); have HS3 := Lib.hid hf.size; clear hq hf)
      obtain ⟨tot, htot⟩ : ∃ tot, tot = (flatM M).length := ⟨_, rfl⟩
      have HTOT := Lib.hid htot
      have htl : tot ≤ 80000 := by have := HL.out; omega
      rw [← htot] at HLE
      clear htot
      have HQ4 : Hid (RM (w3.alloc (.cells (pend p0).toArray 29)) ob (fun k => w.heap.size ≤ k ∧ k ≠ w3.heap.size) L3 (takeM M)) := Lib.hid ((HQ3.out.mono (Q := fun k => w.heap.size ≤ k ∧ k ≠ w3.heap.size) (fun k hk hlt => ⟨hk.elim id (fun h => Nat.le_trans HBW.out.size h), by omega⟩)).kept (below_alloc w3 _))
      have HB8 : Hid (Blk (w3.alloc (.cells (pend p0).toArray 29)) w3.heap.size (pend p0) 29) := Lib.hid (Blk.made w3 (pend p0) _)
      have HB4 : Hid (Below w.heap.size w (w3.alloc (.cells (pend p0).toArray 29))) := Lib.hid (below_and HB3.out (below_alloc w3 _))
      obtain ⟨g8, hg8⟩ : ∃ g8, g8 = w3.heap.size := ⟨_, rfl⟩
      have hgw : w.heap.size ≤ g8 := by rw [hg8]; exact HB3.out.size
      obtain ⟨w4, hw4⟩ : ∃ w4, w4 = w3.alloc (.cells (pend p0).toArray 29) := ⟨_, rfl⟩
      rw [← hw4, ← hg8] at HB8 HQ4
      rw [← hw4] at HB4
      rw [show w3.alloc (.cells #[.string p0.job, .int .i64 p0.idx, .string p0.user, .int .i64 p0.band] 29) = w4 from hw4.symm, ← hg8]
      clear hw4 hg8
      go_loopw [5, 7] (fun o ok wz => ∃ (acc : List Pend) (p : Pend) (bk : Bool) (L' : List Pend) (M' : List MRow), ok = .bool bk ∧ Hid (wz.ownsRow w.heap.size 29 4 o acc.length (pcells acc)) ∧ Hid (Blk wz g8 (pend p) 29) ∧ Hid (RM wz ob (fun k => w.heap.size ≤ k ∧ k ≠ g8 ∧ o.ownBlock ≠ some k) L' M') ∧ Hid (allM M = acc ++ if bk = true then p :: allM M' else []) ∧ acc.length + ((flatM M').length + (if bk = true then 1 else 0)) = tot ∧ Hid (Below w.heap.size w wz) ∧ Hid (o.ownBlock ≠ some g8)) (fun o _ _ => tot + 1 - ownLen o)
      case atStart =>
        exact ⟨[], p0, ok0, L3, takeM M, rfl, Lib.hid (World.ownsRow_nil _ _ _ _), HB8, Lib.hid (HQ4.out.mono (fun k hk _ => ⟨hk.1, hk.2, by simp [Value.ownBlock]⟩)), Lib.hid (by rw [HEQ.out]; rfl), by have := HLE.out; simpa using this, HB4, Lib.hid (by simp [Value.ownBlock])⟩
      case round =>
        obtain ⟨acc, p1, bk, L', M', rfl, HOW, HB8, HQM, HALL, hcnt, HBL, HOG⟩ := hrel
        obtain ⟨pa, ca, rfl, hca, -⟩ := own_slice HOW.out
        cases bk
        · have HEND : Hid (allM M = acc) := Lib.hid (by rw [HALL.out]; simp)
          have HLN : Hid (acc.length = tot) := Lib.hid (by rw [← HEND.out, allM_len HMI.out]; exact HTOT.out.symm)
          go_wp2
          go_ret
          refine ⟨_, rfl, ?_, HBL.out⟩
          rw [← HTOT.out, HEND.out, ← HLN.out]
          exact HOW.out
        · have hacc : acc.length < tot := by simp at hcnt; omega
          have HALL2 : Hid (allM M = acc ++ p1 :: allM M') := Lib.hid (by rw [HALL.out]; simp)
          have HMI' := Lib.hid HQM.out.mi
          obtain ⟨p2, hp2⟩ : ∃ p2, p2 = headP M' := ⟨_, rfl⟩
          obtain ⟨ok2, hok2⟩ : ∃ ok2, ok2 = headB M' := ⟨_, rfl⟩
          have HV2 : Hid (headV M' = .tuple #[pval p2, .bool ok2]) := Lib.hid (by rw [headV_eq, hp2, hok2])
          have HEQ2 : Hid (allM M' = if ok2 = true then p2 :: allM (takeM M') else []) := Lib.hid (by rw [hok2, hp2]; exact allM_eq HMI'.out)
          have HLE2 : Hid ((flatM (takeM M')).length + (if ok2 = true then 1 else 0) = (flatM M').length) := Lib.hid (by rw [hok2]; exact take_len HMI'.out)
          have hM'l : (flatM M').length ≤ 80000 := by simp at hcnt; omega
          have HCNT : Hid (acc.length + ((flatM M').length + 1) = tot) := Lib.hid (by simpa using hcnt)
          have e0 := HB8.out.cell (j := 0) rfl
          have e1 := HB8.out.cell (j := 1) rfl
          have e2 := HB8.out.cell (j := 2) rfl
          have e3 := HB8.out.cell (j := 3) rfl
          have HOA : Hid ((wr.alloc (.cells #[.string p1.job, .int .i64 p1.idx, .string p1.user, .int .i64 p1.band] 29)).ownsRow w.heap.size 29 4 (.slice pa acc.length ca) acc.length (pcells acc)) := Lib.hid (HOW.out.alloc _)
          have HBA : Hid (Blk (wr.alloc (.cells #[.string p1.job, .int .i64 p1.idx, .string p1.user, .int .i64 p1.band] 29)) g8 (pend p1) 29) := Lib.hid (HB8.out.alloc _)
          have HSZW : Hid (w.heap.size ≤ wr.heap.size) := Lib.hid HBL.out.size
          clear hp2 hok2 hcnt
          go_upto_region 10 with (at_builtin; go_loud (refine wpList_app5 rfl _ _ 22 22 rfl w.heap.size 29 j0 (.agg #[.string ⟨#[]⟩, .int .i64 0, .string ⟨#[]⟩, .int .i64 0]) 4 48 Try.underlying22 hj0 hz0 hz1 hz2 rfl _ acc.length (pcells acc) rfl HOA.out _ 1 _ rfl (src_block Try.underlying22 _ _ #[_, _, _, _] (heap_alloc_new _ _) rfl (pend_one p1)) (by unfold maxLen; omega) (by omega) (by have := HSZW.out; simp; omega) ?_; intro o6 w6 ho hg hn; have HO6 := Lib.hid ho; have HG6 := Lib.hid hg; have HN6 := Lib.hid hn; obtain ⟨p6, c6, rfl, -, -⟩ := own_slice ho; have HB9 := Lib.hid (HBA.out.grown hg (fun e => HOG.out (by rw [e]; rfl))); clear ho hg hn))
          have HQ6 : Hid (RM w6 ob (fun k => w.heap.size ≤ k ∧ k ≠ g8 ∧ (Value.slice p6 (acc.length + 1) c6).ownBlock ≠ some k) L' M') := Lib.hid (by
            have h1 := HQM.out.mono (Q := fun k => (w.heap.size ≤ k ∧ k ≠ g8 ∧ (Value.slice pa acc.length ca).ownBlock ≠ some k) ∧ (w.heap.size ≤ k ∧ k ≠ g8 ∧ (Value.slice p6 (acc.length + 1) c6).ownBlock ≠ some k)) (fun k hk hlt => ⟨hk, hk.1, hk.2.1, fun e => by
              rcases HN6.out k e with h | h
              · exact hk.2.2 h
              · have h2 : wr.heap.size + 1 ≤ k := by simpa using h
                omega⟩)
            have h2 := (h1.kept (below_alloc wr _)).fr (Fr.of_grown HG6.out) (fun k hk hP => hP.1.2.2 (Option.mem_toList.1 hk))
            exact h2.mono (fun k hk _ => hk.2))
          have HB6 : Hid (Below w.heap.size w w6) := Lib.hid (HBL.out.trans (((Fr.of_below (below_alloc wr (.cells #[.string p1.job, .int .i64 p1.idx, .string p1.user, .int .i64 p1.band] 29)) _).then (Fr.of_grown HG6.out)).below (fun k hk => own_lo HOA.out (Option.mem_toList.1 hk)) HBL.out.size))
          have HOG9 : Hid ((Value.slice p6 (acc.length + 1) c6).ownBlock ≠ some g8) := Lib.hid (fun e => by
            rcases HN6.out g8 e with h | h
            · exact HOG.out h
            · have h2 : wr.heap.size + 1 ≤ g8 := by simpa using h
              have := HB8.out.lt
              omega)
          clear e0 e1 e2 e3 HQM HB8 HBA HOA HN6 HALL
          go_wp2_with (go_at_call 22; refine (rmtake_any ob (fun k => w.heap.size ≤ k ∧ k ≠ g8 ∧ (Value.slice p6 (acc.length + 1) c6).ownBlock ≠ some k) L' M' _ HQ6.out (by omega)).mono ?_; rw [HV2.out]; rintro e w8 ⟨rfl, L8, hq, hf⟩; have HQ8 := Lib.hid hq; have HB8 : Hid (Below w.heap.size w w8) := Lib.hid (HB6.out.trans (hf.below (fun _ h => h.1) HB6.out.size)); have HBG8 : Hid (Blk w8 g8 (pend p1) 29) := Lib.hid (by obtain ⟨S, hS, hS2⟩ := hf; exact HB9.out.fr hS (fun hm => (hS2 _ hm).2.1 rfl)); have HO8 : Hid (w8.ownsRow w.heap.size 29 4 (Value.slice p6 (acc.length + 1) c6) (acc.length + 1) (pcells acc ++ [.string p1.job, .int .i64 p1.idx, .string p1.user, .int .i64 p1.band])) := Lib.hid (by obtain ⟨S, hS, hS2⟩ := hf; exact own_fr HO6.out hS (fun g hg hm => (hS2 _ hm).2.2 hg)); have g0 := HBG8.out.cell (j := 0) rfl; have g1 := HBG8.out.cell (j := 1) rfl; have g2 := HBG8.out.cell (j := 2) rfl; have g3 := HBG8.out.cell (j := 3) rfl; have gf := HBG8.out.free; clear hq hf)
          go_roundw
          case rel =>
            have hfill : Fr [g8] w8 ((((w8.setCell ⟨g8, 0, none⟩ (.string p2.job)).setCell ⟨g8, 1, none⟩ (.int .i64 p2.idx)).setCell ⟨g8, 2, none⟩ (.string p2.user)).setCell ⟨g8, 3, none⟩ (.int .i64 p2.band)) := fr_fill _ _ _ _ _ _
            refine ⟨acc ++ [p1], p2, ok2, L8, takeM M', rfl, Lib.hid ?_, Lib.hid (blk_fill HBG8.out), Lib.hid ?_, Lib.hid ?_, ?_, Lib.hid (HB8.out.trans (hfill.below (by simpa using hgw) HB8.out.size)), HOG9⟩
            · have := own_fr HO8.out hfill (fun g hg hm => HOG9.out (by rw [← List.mem_singleton.1 hm]; exact hg))
              rw [pcells_append]
              simpa [pcells, pend] using this
            · have h1 := HQ8.out.mono (Q := (fun k => w.heap.size ≤ k ∧ k ≠ g8 ∧ (Value.slice p6 (acc.length + 1) c6).ownBlock ≠ some k)) (fun k hk hlt => hk.elim id (fun h => by
                refine ⟨Nat.le_trans HB6.out.size h, fun e => ?_, fun e => ?_⟩
                · have := HB9.out.lt; omega
                · have := own_hi HO6.out e; omega))
              exact h1.fr hfill (fun k hk hP => hP.2.1 (List.mem_singleton.1 hk))
            · rw [HALL2.out, HEQ2.out]
              simp
            · have h1 := HCNT.out
              have h2 := HLE2.out
              simp only [List.length_append, List.length_cons, List.length_nil]
              omega
          case measure => simp [ownLen]; omega
end Go.Proofs.Ytlemfbgmhjklaaa
