/- The document's queue: Put, walked. -/
import Derived.Test.YtlemfbgmhjklaaaRQ5
import Derived.Test.YtlemfbgmhjklaaaCutH
namespace Go.Proofs.Ytlemfbgmhjklaaa
open Go.RowKit

def putW (rw : Nat → List ByteArray) (L : List Pend) (p : Pend) (b : Nat) : Nat → List ByteArray := if L.any (kf p.key) = true then rw else updV rw b (rw b ++ [p.user])

set_option maxRecDepth 100000 in
set_option maxHeartbeats 1000000 in
theorem rput_bad (base g : Nat) (p : Pend) (w : World) (hb : badP p) :
    Calls Try.prog 21 #[ptr g, pval p] w fun e w' => e = .returned (.int .i64 2) ∧ Below w.heap.size w w' := by
  obtain ⟨j, i, u, d⟩ := p
  unfold badP at hb
  simp only at hb
  by_cases h1 : d < 0
  · clear hb
    go_enter Try.func21, Try.ntmps21
    go_wp2
    go_ret
    exact ⟨rfl, below_alloc _ _⟩
  · by_cases h2 : 3 < d
    · clear hb
      go_enter Try.func21, Try.ntmps21
      go_wp2
      go_ret
      exact ⟨rfl, below_alloc _ _⟩
    · cases h3 : j.toList.isEmpty
      · cases h4 : u.toList.isEmpty
        · have h5 : i < 0 := by simpa [h1, h2, h3, h4] using hb
          clear hb
          go_enter Try.func21, Try.ntmps21
          go_wp2
          go_ret
          exact ⟨rfl, below_alloc _ _⟩
        · clear hb
          go_enter Try.func21, Try.ntmps21
          go_wp2
          go_ret
          exact ⟨rfl, below_alloc _ _⟩
      · clear hb
        go_enter Try.func21, Try.ntmps21
        go_wp2
        go_ret
        exact ⟨rfl, below_alloc _ _⟩

set_option maxRecDepth 100000 in
set_option maxHeartbeats 1000000 in
theorem rput_there (base g : Nat) (rv : Nat → Value) (vL : Value) (rw : Nat → List ByteArray) (L : List Pend) (p : Pend) (w : World) (h : RQ base w g rv vL rw L) (ho : OkP p) (hq : 0 ≤ idxI L p.task) :
    Calls Try.prog 21 #[ptr g, pval p] w fun e w' => e = .returned (.int .i64 7) ∧ Below w.heap.size w w' := by
  have H := Lib.hid h
  obtain ⟨r, hr⟩ : ∃ r, r = idxI L p.task := ⟨_, rfl⟩
  rw [← hr] at hq
  have HR := Lib.hid hr
  clear h hr
  obtain ⟨h1, h2, h3, h4, h5⟩ := ho
  obtain ⟨j, i, u, d⟩ := p
  simp only at h1 h2 h3 h4 h5
  go_enter Try.func21, Try.ntmps21
  go_wp2_with (go_at_call 36; refine (rplace_any base g rv vL rw L (j, i) _ (H.out.kept (below_alloc _ _))).mono ?_; rw [show idxI L (j, i) = r from HR.out.symm]; rintro e w2 ⟨rfl, hb⟩; have HB2 := Lib.hid (below_and (below_alloc _ _) hb); clear hb)
  go_ret
  exact ⟨rfl, HB2.out⟩

set_option maxRecDepth 100000 in
set_option maxHeartbeats 4000000 in
theorem rput_go (base g b : Nat) (rv : Nat → Value) (vL : Value) (rw : Nat → List ByteArray) (L : List Pend) (p : Pend) (w : World) (h : RQ base w g rv vL rw L) (ho : OkP p) (hq : idxI L p.task = -1) (hb4 : b < 4) (hbb : p.band = (b : Int)) (hl : L.length ≤ 100000) (hrl : (rw b).length ≤ 100000) :
    Calls Try.prog 21 #[ptr g, pval p] w fun e w' => e = .returned (.int .i64 0) ∧ ∃ rv' vL', RQ base w' g rv' vL' (putW rw L p b) (L ++ [p]) ∧ RSt w w' g rv vL rv' vL' := by
  obtain ⟨j0, hj0, hz0, hz1, hz2⟩ := info_parts info_pend
  obtain ⟨k0, hk0, hy0, hy1, hy2⟩ := info_parts info_str
  obtain ⟨pL, cL, rfl, -, -⟩ := own_slice h.list
  have H := Lib.hid h
  have HQ := Lib.hid hq
  have HSB : Hid (base ≤ w.heap.size) := Lib.hid (Nat.le_trans h.lo (Nat.le_of_lt h.blk.lt))
  have i1 : (b : Int) < 4 := by omega
  have i2 : ¬ ((b : Int) < 0) := by omega
  have i3 : ¬ (3 < (b : Int)) := by omega
  obtain ⟨-, -, h3, h4, h5⟩ := ho
  obtain ⟨j, i, u, d⟩ := p
  simp only at h3 h4 h5 hbb
  subst hbb
  clear h hq
  cases hany : L.any (kf (u, (b : Int)))
  · have HFI : Hid (firstI L (u, (b : Int)) = -1) := Lib.hid (firstI_any.2 hany)
    have HPW : Hid (putW rw L ⟨j, i, u, (b : Int)⟩ b = updV rw b (rw b ++ [u])) := Lib.hid (by unfold putW; rw [if_neg]; rw [show (Pend.key ⟨j, i, u, (b : Int)⟩) = (u, (b : Int)) from rfl, hany]; simp)
    clear hany
    go_enter Try.func21, Try.ntmps21
    go_upto_region 5 with (go_at_call 36; refine (rplace_any base g rv _ rw L (j, i) _ (H.out.kept (below_alloc _ _))).mono ?_; rw [show idxI L (j, i) = -1 from HQ.out]; rintro e w2 ⟨rfl, hb⟩; have HB := Lib.hid hb; clear hb)
    have HBX : Hid (Blk w2 w.heap.size (pend ⟨j, i, u, (b : Int)⟩) 29) := Lib.hid ((Blk.made w (pend ⟨j, i, u, (b : Int)⟩) _).kept HB.out)
    have HB2 : Hid (Below w.heap.size w w2) := Lib.hid (below_and (below_alloc w _) HB.out)
    obtain ⟨tb, htb⟩ : ∃ tb, tb = w.heap.size := ⟨_, rfl⟩
    rw [← htb] at HBX ⊢
    have HTB := Lib.hid htb
    clear htb HB
    have H2 := Lib.hid (H.out.kept HB2.out)
    have x1 := HBX.out.cell (j := 0) rfl
    have x2 := HBX.out.cell (j := 1) rfl
    have x3 := HBX.out.cell (j := 2) rfl
    have x4 := HBX.out.cell (j := 3) rfl
    have y1 := (HBX.out.alloc (.cells #[.string u] 9)).cell (j := 0) rfl
    have y3 := (HBX.out.alloc (.cells #[.string u] 9)).cell (j := 2) rfl
    have y4 := (HBX.out.alloc (.cells #[.string u] 9)).cell (j := 3) rfl
    have hrow := H2.out.rows b hb4
    obtain ⟨ns, hns⟩ : ∃ ns, ns = rw b := ⟨_, rfl⟩
    rw [← hns] at hrow HPW hrl
    obtain ⟨pb, cc, hvb⟩ := row_shape' hrow
    have z1 := rv_at H2.out hb4
    have z2 := rv_at (H2.out.kept (below_alloc w2 (.cells #[.string u] 9))) hb4
    rw [hvb] at z1 z2
    have HVB := Lib.hid hvb
    have HRW : Hid (((w2.alloc (.cells #[.string u] 9)).drew).ownsRow base 9 1 (.slice pb ns.length cc) ns.length (strV ns)) := Lib.hid (by rw [← hvb]; exact own_keep hrow (below_ad w2 _))
    have HSR : Hid (Src Try.prog 1 43 (.slice (some ⟨w2.heap.size, 0, none⟩) 1 1) 1 [.string u] ((w2.alloc (.cells #[.string u] 9)).drew)) := Lib.hid (src_block Try.underlying43 ((w2.alloc (.cells #[.string u] 9)).drew) _ #[.string u] (heap_alloc_new w2 _) rfl (by simp [Value.oneCell']))
    have HS2 : Hid (base ≤ w2.heap.size) := Lib.hid (Nat.le_trans HSB.out HB2.out.size)
    have HGC : Hid (∀ w6 : World, ((w2.alloc (.cells #[.string u] 9)).drew).grownBy w6 (Value.slice pb ns.length cc).ownBlock → Blk w6 tb (pend ⟨j, i, u, (b : Int)⟩) 29 ∧ w6.cell? ⟨g, b, none⟩ = some (.slice pb ns.length cc) ∧ w6.frozen? ⟨g, b, none⟩ = false) := Lib.hid (fun w6 hg => by
      have hbx := HBX.out.kept (below_ad w2 (.cells #[.string u] 9))
      have hk := H2.out.kept (below_ad w2 (.cells #[.string u] 9))
      have hg6 := hk.blk.grown hg (by rw [← HVB.out]; exact fun e => hk.neR hb4 e.symm)
      refine ⟨hbx.grown hg (fun e => own_ty HRW.out hbx (by decide) e.symm), ?_, hg6.free b⟩
      have := hg6.cell (j := b) (u := rv b) (by obtain rfl | rfl | rfl | rfl : b = 0 ∨ b = 1 ∨ b = 2 ∨ b = 3 := (by omega) <;> rfl)
      rw [HVB.out] at this
      exact this)
    clear hrow hns hvb
    go_wp2_with (go_at_call 37; refine (rfirst_any base g rv _ rw L u (b : Int) _ H2.out).mono ?_; rw [HFI.out]; rintro e w3 ⟨rfl, rfl⟩)
    refine wp_region_noPanic ?_
    refine wp_region_lastH (fun w' => (w'.cell? ⟨tb, 3, none⟩ = some (.int .i64 (b : Int)) ∧ w'.cell? ⟨tb, 2, none⟩ = some (.string u) ∧ w'.cell? ⟨g, b, none⟩ = some (.slice pb ns.length cc))) 17 rfl rfl (by kernel_rfl) (by kernel_rfl) ⟨x4, x3, z1⟩ (fun hHeld => ?_)
    refine wpAnyH_take (i := 0) (v := ?v0) rfl (by kernel_rfl) (by kernel_rfl) (by kernel_rfl) (fun _ _ _ h => h) (Or.inl ⟨by rfl, ?hy0⟩) (by assumption) ?rest0
    case hy0 => (intro _ hSw; (try dsimp only at hSw); obtain ⟨hSa, hSb, hSc⟩ := hSw; go_simp; (try with_reducible rfl))
    (try simp only [Act.put]); (try simp only [List.setIfInBounds_toArray]); (try simp only [List.set_cons_succ]); (try simp only [List.set_cons_zero])
    refine wpAnyH_take (i := 1) (v := ?v1) rfl (by kernel_rfl) (by kernel_rfl) (by kernel_rfl) (fun _ _ _ h => h) (Or.inl ⟨by rfl, ?hy1⟩) (by assumption) ?rest1
    case hy1 => (intro _ hSw; (try dsimp only at hSw); obtain ⟨hSa, hSb, hSc⟩ := hSw; go_simp; (try with_reducible rfl))
    (try simp only [Act.put]); (try simp only [List.setIfInBounds_toArray]); (try simp only [List.set_cons_succ]); (try simp only [List.set_cons_zero])
    refine wpAnyH_take (i := 2) (v := ?v2) rfl (by kernel_rfl) (by kernel_rfl) (by kernel_rfl) (fun _ _ _ h => h) (Or.inl ⟨by rfl, ?hy2⟩) (by assumption) ?rest2
    case hy2 => (intro _ hSw; (try dsimp only at hSw); obtain ⟨hSa, hSb, hSc⟩ := hSw; go_simp; (try with_reducible rfl))
    (try simp only [Act.put]); (try simp only [List.setIfInBounds_toArray]); (try simp only [List.set_cons_succ]); (try simp only [List.set_cons_zero])
    refine wpAnyH_take (i := 3) (v := ?v3) rfl (by kernel_rfl) (by kernel_rfl) (by kernel_rfl) (fun _ _ _ h => h) (Or.inl ⟨by rfl, ?hy3⟩) (by assumption) ?rest3
    case hy3 => (intro _ hSw; (try dsimp only at hSw); obtain ⟨hSa, hSb, hSc⟩ := hSw; go_simp; (try with_reducible rfl))
    (try simp only [Act.put]); (try simp only [List.setIfInBounds_toArray]); (try simp only [List.set_cons_succ]); (try simp only [List.set_cons_zero])
    refine wpAnyH_take (i := 4) (v := ?v4) rfl (by kernel_rfl) (by kernel_rfl) (by kernel_rfl) (fun _ _ _ h => h) (Or.inl ⟨by rfl, ?hy4⟩) (by assumption) ?rest4
    case hy4 => (intro _ hSw; (try dsimp only at hSw); obtain ⟨hSa, hSb, hSc⟩ := hSw; go_simp; (try with_reducible rfl))
    (try simp only [Act.put]); (try simp only [List.setIfInBounds_toArray]); (try simp only [List.set_cons_succ]); (try simp only [List.set_cons_zero])
    refine wpAnyH_take (i := 5) (v := ?v5) rfl (by kernel_rfl) (by kernel_rfl) (by kernel_rfl) (fun _ _ _ h => h) (Or.inl ⟨by rfl, ?hy5⟩) (by assumption) ?rest5
    case hy5 => (intro _ hSw; (try dsimp only at hSw); obtain ⟨hSa, hSb, hSc⟩ := hSw; go_simp; (try with_reducible rfl))
    (try simp only [Act.put]); (try simp only [List.setIfInBounds_toArray]); (try simp only [List.set_cons_succ]); (try simp only [List.set_cons_zero])
    refine wpAnyH_take (i := 6) (v := ?v6) rfl (by kernel_rfl) (by kernel_rfl) (by kernel_rfl) (fun _ _ _ h => h) (Or.inl ⟨by rfl, ?hy6⟩) (by assumption) ?rest6
    case hy6 => (intro _ hSw; (try dsimp only at hSw); obtain ⟨hSa, hSb, hSc⟩ := hSw; go_simp; (try with_reducible rfl))
    (try simp only [Act.put]); (try simp only [List.setIfInBounds_toArray]); (try simp only [List.set_cons_succ]); (try simp only [List.set_cons_zero])
    refine wpAnyH_take (i := 7) (v := ?v7) rfl (by kernel_rfl) (by kernel_rfl) (by kernel_rfl) (fun _ _ _ h => h) (Or.inl ⟨by rfl, ?hy7⟩) (by assumption) ?rest7
    case hy7 => (intro _ hSw; (try dsimp only at hSw); obtain ⟨hSa, hSb, hSc⟩ := hSw; go_simp; (try with_reducible rfl))
    (try simp only [Act.put]); (try simp only [List.setIfInBounds_toArray]); (try simp only [List.set_cons_succ]); (try simp only [List.set_cons_zero])
    refine wpAnyH_take (i := 8) (v := ?v8) rfl (by kernel_rfl) (by kernel_rfl) (by kernel_rfl) (fun _ _ _ h => h) (Or.inl ⟨by rfl, ?hy8⟩) (by assumption) ?rest8
    case hy8 => (intro _ hSw; (try dsimp only at hSw); obtain ⟨hSa, hSb, hSc⟩ := hSw; go_simp; (try with_reducible rfl))
    (try simp only [Act.put]); (try simp only [List.setIfInBounds_toArray]); (try simp only [List.set_cons_succ]); (try simp only [List.set_cons_zero])
    refine wpAnyH_take (i := 9) (v := ?v9) rfl (by kernel_rfl) (by kernel_rfl) (by kernel_rfl) (fun _ _ _ h => h) (Or.inl ⟨by rfl, ?hy9⟩) (by assumption) ?rest9
    case hy9 => (intro _ hSw; (try dsimp only at hSw); obtain ⟨hSa, hSb, hSc⟩ := hSw; go_simp; (try with_reducible rfl))
    (try simp only [Act.put]); (try simp only [List.setIfInBounds_toArray]); (try simp only [List.set_cons_succ]); (try simp only [List.set_cons_zero])
    refine wpAnyH_take (i := 10) (v := ?v10) rfl (by kernel_rfl) (by kernel_rfl) (by kernel_rfl) (fun _ _ _ h => h) (Or.inl ⟨by rfl, ?hy10⟩) (by assumption) ?rest10
    case hy10 => (intro _ hSw; (try dsimp only at hSw); obtain ⟨hSa, hSb, hSc⟩ := hSw; go_simp; (try with_reducible rfl))
    (try simp only [Act.put]); (try simp only [List.setIfInBounds_toArray]); (try simp only [List.set_cons_succ]); (try simp only [List.set_cons_zero])
    refine wpAnyH_take (i := 11) (v := ?v11) rfl (by kernel_rfl) (by kernel_rfl) (by kernel_rfl) (fun _ _ _ h => h) (Or.inl ⟨by rfl, ?hy11⟩) (by assumption) ?rest11
    case hy11 => (intro _ hSw; (try dsimp only at hSw); obtain ⟨hSa, hSb, hSc⟩ := hSw; go_simp; (try with_reducible rfl))
    (try simp only [Act.put]); (try simp only [List.setIfInBounds_toArray]); (try simp only [List.set_cons_succ]); (try simp only [List.set_cons_zero])
    refine wpAnyH_take (i := 14) (v := ?v14) rfl (by kernel_rfl) (by kernel_rfl) (by kernel_rfl) (fun _ _ _ h => h) (Or.inl ⟨by rfl, ?hy14⟩) (by assumption) ?rest14
    case hy14 => (intro _ hSw; (try dsimp only at hSw); obtain ⟨hSa, hSb, hSc⟩ := hSw; go_simp; (try with_reducible rfl))
    (try simp only [Act.put]); (try simp only [List.setIfInBounds_toArray]); (try simp only [List.set_cons_succ]); (try simp only [List.set_cons_zero])
    refine wpAnyH_take (i := 15) (v := ?v15) rfl (by kernel_rfl) (by kernel_rfl) (by kernel_rfl) (fun _ _ _ h => h) (Or.inl ⟨by rfl, ?hy15⟩) (by assumption) ?rest15
    case hy15 => (intro _ hSw; (try dsimp only at hSw); obtain ⟨hSa, hSb, hSc⟩ := hSw; go_simp; (try with_reducible rfl))
    (try simp only [Act.put]); (try simp only [List.setIfInBounds_toArray]); (try simp only [List.set_cons_succ]); (try simp only [List.set_cons_zero])
    refine wpAnyH_ready (rs := [12]) (by kernel_rfl) (by simp) ?_
    refine AllReadyH.cons rfl (fun K hK => ?_) AllReadyH.nil
    (try simp only [List.getElem_toArray]); (try simp only [List.getElem_cons_succ]); (try simp only [List.getElem_cons_zero])
    go_simp
    refine hK.out _ _ ⟨y4, y3, z2⟩ (fun hS1 => ?_)
    clear hK K
    (try simp only [Act.put]); (try simp only [List.setIfInBounds_toArray]); (try simp only [List.set_cons_succ]); (try simp only [List.set_cons_zero])
    refine wpAnyH_ready (rs := [13]) (by kernel_rfl) (by simp) ?_
    refine AllReadyH.cons rfl (fun K hK => ?_) AllReadyH.nil
    refine step_app rfl (.tmp 51) (.tmp 54) 43 43 rfl base 9 k0 (.string ⟨#[]⟩) 1 16 Try.underlying43 hk0 hy0 hy1 hy2 rfl (.slice pb ns.length cc) ns.length (strV ns) (by rfl) HRW.out (.slice (some ⟨w2.heap.size, 0, none⟩) 1 1) 1 [.string u] (by rfl) HSR.out (by unfold maxLen; omega) (by omega) (by have := HS2.out; simp; omega) ?_
    intro v6 w6 ho hg hn hk
    obtain ⟨gb, g1, g2⟩ := HGC.out w6 hg
    have b1 := gb.cell (j := 0) rfl
    have b2 := gb.cell (j := 1) rfl
    have b3 := gb.cell (j := 2) rfl
    have b4 := gb.cell (j := 3) rfl
    have HO6 := Lib.hid ho
    have HG6 := Lib.hid hg
    have HK6 := Lib.hid hk
    have HBX6 := Lib.hid gb
    refine hK.out _ _ ⟨b4, b3, g1⟩ (fun hS2 => ?_)
    clear hK K ho hg hn hk gb hS1
    (try simp only [Act.put]); (try simp only [List.setIfInBounds_toArray]); (try simp only [List.set_cons_succ]); (try simp only [List.set_cons_zero])
    refine wpAnyH_take (i := 16) (v := ?v16) rfl (by kernel_rfl) (by kernel_rfl) (by kernel_rfl) (fun _ _ _ h => h) (Or.inl ⟨by rfl, ?hy16⟩) (by assumption) ?rest16
    case hy16 => (intro _ hSw; (try dsimp only at hSw); obtain ⟨hSa, hSb, hSc⟩ := hSw; go_simp; (try with_reducible rfl))
    (try simp only [Act.put]); (try simp only [List.setIfInBounds_toArray]); (try simp only [List.set_cons_succ]); (try simp only [List.set_cons_zero])
    refine wpAnyH_done (by kernel_rfl) ?_ _
    refine LastQ.start rfl ?_
    clear hS2 hHeld
    obtain ⟨p6, c6, rfl, -, -⟩ := own_slice HO6.out
    go_wp2
    refine NoPanic.normal ?_
    go_wp2
    have HTG : tb ≠ g := fun e => by have h1 := HTB.out; have h2 := H.out.blk.lt; omega
    have HR7 : Hid (RQ base (w6.setCell ⟨g, b, none⟩ (.slice p6 (ns.length + 1) c6)) g (updV rv b (.slice p6 (ns.length + 1) c6)) (.slice pL L.length cL) (updV rw b (ns ++ [u])) L ∧ RSt w2 (w6.setCell ⟨g, b, none⟩ (.slice p6 (ns.length + 1) c6)) g rv (.slice pL L.length cL) (updV rv b (.slice p6 (ns.length + 1) c6)) (.slice pL L.length cL)) := Lib.hid (H2.out.growR (ns := ns ++ [u]) hb4 (below_ad w2 (.cells #[.string u] 9)) (by have := HO6.out; simpa [strV] using this) (by rw [HVB.out]; exact HG6.out) (by rw [HVB.out]; exact HK6.out))
    have HBX7 := Lib.hid (HBX6.out.other (a := ⟨g, b, none⟩) HTG (.slice p6 (ns.length + 1) c6))
    rw [← HPW.out] at HR7
    obtain ⟨w7, hw7⟩ : ∃ w7, w7 = w6.setCell ⟨g, b, none⟩ (.slice p6 (ns.length + 1) c6) := ⟨_, rfl⟩
    obtain ⟨rv7, hrv7⟩ : ∃ rv7, rv7 = updV rv b (.slice p6 (ns.length + 1) c6) := ⟨_, rfl⟩
    obtain ⟨rw7, hrw7⟩ : ∃ rw7, rw7 = putW rw L (⟨j, i, u, (b : Int)⟩ : Pend) b := ⟨_, rfl⟩
    rw [← hw7, ← hrv7, ← hrw7] at HR7
    rw [← hw7] at HBX7 ⊢
    have HRW7 := Lib.hid hrw7
    have HT7 : Hid (RSt w w7 g rv (.slice pL L.length cL) rv7 (.slice pL L.length cL)) := Lib.hid ((RSt.of_below HB2.out g rv _).trans HR7.out.2)
    have H7 := Lib.hid HR7.out.1
    clear HR7 hw7 hrv7 hrw7 g1 g2 b1 b2 b3 b4 x1 x2 x3 x4 y1 y3 y4 z1 z2 HTG HPW HO6 HG6 HK6 HBX6 HGC HRW HSR HVB
    have c4 := H7.out.cL
    have c5 : (w7.alloc (.cells #[.string j, .int .i64 i, .string u, .int .i64 (b : Int)] 29)).cell? ⟨g, 4, none⟩ = some (.slice pL L.length cL) := (H7.out.kept (below_alloc w7 _)).cL
    have x1 := HBX7.out.cell (j := 0) rfl
    have x2 := HBX7.out.cell (j := 1) rfl
    have x3 := HBX7.out.cell (j := 2) rfl
    have x4 := HBX7.out.cell (j := 3) rfl
    have o1 : Hid (((w7.alloc (.cells #[.string j, .int .i64 i, .string u, .int .i64 (b : Int)] 29)).drew).ownsRow base 29 4 (.slice pL L.length cL) L.length (pcells L)) := Lib.hid (own_keep H7.out.list (below_ad w7 _))
    have o2 : Hid (Src Try.prog 4 22 (.slice (some ⟨w7.heap.size, 0, none⟩) 1 1) 1 (pend (⟨j, i, u, (b : Int)⟩ : Pend)) ((w7.alloc (.cells #[.string j, .int .i64 i, .string u, .int .i64 (b : Int)] 29)).drew)) := Lib.hid (src_block Try.underlying22 ((w7.alloc (.cells #[.string j, .int .i64 i, .string u, .int .i64 (b : Int)] 29)).drew) _ #[.string j, .int .i64 i, .string u, .int .i64 (b : Int)] (heap_alloc_new w7 _) rfl (pend_one (⟨j, i, u, (b : Int)⟩ : Pend)))
    have HS7 : Hid (base ≤ w7.heap.size) := Lib.hid (Nat.le_trans H7.out.lo (Nat.le_of_lt H7.out.blk.lt))
    have HK7 : Hid (RQ base ((w7.alloc (.cells #[.string j, .int .i64 i, .string u, .int .i64 (b : Int)] 29)).drew) g rv7 (.slice pL L.length cL) rw7 L) := Lib.hid (H7.out.kept (below_ad w7 _))
    go_region_law (refine step_app rfl (.tmp 63) (.tmp 65) 22 22 rfl base 29 j0 pzv 4 48 Try.underlying22 hj0 hz0 hz1 hz2 rfl (.slice pL L.length cL) L.length (pcells L) (by simp [Act.eval, Act.put]) o1.out (.slice (some ⟨w7.heap.size, 0, none⟩) 1 1) 1 (pend (⟨j, i, u, (b : Int)⟩ : Pend)) (by simp [Act.eval, Act.put]) o2.out (by unfold maxLen; omega) (by omega) (by have := HS7.out; simp; omega) ?_; intro v9 w9 ho hg hn hk; have HB9 : Hid (Blk w9 g [rv7 0, rv7 1, rv7 2, rv7 3, .slice pL L.length cL] 46) := Lib.hid (HK7.out.blk.grown hg (fun e => HK7.out.neL e.symm)); have g1 := HB9.out.cell (j := 4) rfl; have g2 := HB9.out.free 4; obtain ⟨p9, c9, rfl, -, -⟩ := own_slice ho; have HO9 := Lib.hid ho; have HG9 := Lib.hid hg; have HN9 := Lib.hid hk; clear ho hg hn hk)
    all_goals go_wp2
    all_goals go_ret
    all_goals (
      have h9 := H7.out.growL (L' := L ++ [(⟨j, i, u, (b : Int)⟩ : Pend)]) (below_ad w7 (.cells #[.string j, .int .i64 i, .string u, .int .i64 (b : Int)] 29)) (v := .slice p9 (L.length + 1) c9) (w9 := w9) (by have := HO9.out; simpa [pcells] using this) HG9.out HN9.out
      exact ⟨rfl, rv7, _, by rw [← HRW7.out]; exact h9.1, HT7.out.trans h9.2⟩)
  · have HFI : Hid (0 ≤ firstI L (u, (b : Int))) := Lib.hid (firstI_any.1 hany)
    obtain ⟨rw7, hrw7⟩ : ∃ rw7, rw7 = putW rw L (⟨j, i, u, (b : Int)⟩ : Pend) b := ⟨_, rfl⟩
    have HRW7 := Lib.hid hrw7
    have HPW : Hid (rw = rw7) := Lib.hid (by rw [hrw7]; unfold putW; rw [if_pos (show L.any (kf (Pend.key (⟨j, i, u, (b : Int)⟩ : Pend))) = true from hany)])
    obtain ⟨fi, hfi⟩ : ∃ fi, fi = firstI L (u, (b : Int)) := ⟨_, rfl⟩
    rw [← hfi] at HFI
    have hfi0 := HFI.out
    have HF := Lib.hid hfi
    clear hany hrw7 hfi
    go_enter Try.func21, Try.ntmps21
    go_upto_region 5 with (go_at_call 36; refine (rplace_any base g rv _ rw L (j, i) _ (H.out.kept (below_alloc _ _))).mono ?_; rw [show idxI L (j, i) = -1 from HQ.out]; rintro e w2 ⟨rfl, hb⟩; have HB := Lib.hid hb; clear hb)
    have HBX : Hid (Blk w2 w.heap.size (pend (⟨j, i, u, (b : Int)⟩ : Pend)) 29) := Lib.hid ((Blk.made w (pend (⟨j, i, u, (b : Int)⟩ : Pend)) _).kept HB.out)
    have HB2 : Hid (Below w.heap.size w w2) := Lib.hid (below_and (below_alloc w _) HB.out)
    obtain ⟨tb, htb⟩ : ∃ tb, tb = w.heap.size := ⟨_, rfl⟩
    rw [← htb] at HBX ⊢
    have HTB := Lib.hid htb
    clear htb HB
    have H2 := Lib.hid (H.out.kept HB2.out)
    have x1 := HBX.out.cell (j := 0) rfl
    have x2 := HBX.out.cell (j := 1) rfl
    have x3 := HBX.out.cell (j := 2) rfl
    have x4 := HBX.out.cell (j := 3) rfl
    go_upto_region 7 with (go_at_call 37; refine (rfirst_any base g rv _ rw L u (b : Int) _ H2.out).mono ?_; rw [← HF.out]; rintro e w3 ⟨rfl, rfl⟩)
    obtain ⟨w7, hw7⟩ : ∃ w7, w7 = w2 := ⟨_, rfl⟩
    obtain ⟨rv7, hrv7⟩ : ∃ rv7, rv7 = rv := ⟨_, rfl⟩
    rw [← hw7, ← hrv7] at H2
    rw [← hw7] at HBX ⊢
    have H7 : Hid (RQ base w7 g rv7 (.slice pL L.length cL) rw7 L) := Lib.hid (by rw [← HPW.out]; exact H2.out)
    have HBX7 := HBX
    have HT7 : Hid (RSt w w7 g rv (.slice pL L.length cL) rv7 (.slice pL L.length cL)) := Lib.hid (by rw [hw7, hrv7]; exact (RSt.of_below HB2.out g rv _))
    clear hw7 hrv7 x1 x2 x3 x4 HBX
    have c4 := H7.out.cL
    have c5 : (w7.alloc (.cells #[.string j, .int .i64 i, .string u, .int .i64 (b : Int)] 29)).cell? ⟨g, 4, none⟩ = some (.slice pL L.length cL) := (H7.out.kept (below_alloc w7 _)).cL
    have x1 := HBX7.out.cell (j := 0) rfl
    have x2 := HBX7.out.cell (j := 1) rfl
    have x3 := HBX7.out.cell (j := 2) rfl
    have x4 := HBX7.out.cell (j := 3) rfl
    have o1 : Hid (((w7.alloc (.cells #[.string j, .int .i64 i, .string u, .int .i64 (b : Int)] 29)).drew).ownsRow base 29 4 (.slice pL L.length cL) L.length (pcells L)) := Lib.hid (own_keep H7.out.list (below_ad w7 _))
    have o2 : Hid (Src Try.prog 4 22 (.slice (some ⟨w7.heap.size, 0, none⟩) 1 1) 1 (pend (⟨j, i, u, (b : Int)⟩ : Pend)) ((w7.alloc (.cells #[.string j, .int .i64 i, .string u, .int .i64 (b : Int)] 29)).drew)) := Lib.hid (src_block Try.underlying22 ((w7.alloc (.cells #[.string j, .int .i64 i, .string u, .int .i64 (b : Int)] 29)).drew) _ #[.string j, .int .i64 i, .string u, .int .i64 (b : Int)] (heap_alloc_new w7 _) rfl (pend_one (⟨j, i, u, (b : Int)⟩ : Pend)))
    have HS7 : Hid (base ≤ w7.heap.size) := Lib.hid (Nat.le_trans H7.out.lo (Nat.le_of_lt H7.out.blk.lt))
    have HK7 : Hid (RQ base ((w7.alloc (.cells #[.string j, .int .i64 i, .string u, .int .i64 (b : Int)] 29)).drew) g rv7 (.slice pL L.length cL) rw7 L) := Lib.hid (H7.out.kept (below_ad w7 _))
    go_region_law (refine step_app rfl (.tmp 63) (.tmp 65) 22 22 rfl base 29 j0 pzv 4 48 Try.underlying22 hj0 hz0 hz1 hz2 rfl (.slice pL L.length cL) L.length (pcells L) (by simp [Act.eval, Act.put]) o1.out (.slice (some ⟨w7.heap.size, 0, none⟩) 1 1) 1 (pend (⟨j, i, u, (b : Int)⟩ : Pend)) (by simp [Act.eval, Act.put]) o2.out (by unfold maxLen; omega) (by omega) (by have := HS7.out; simp; omega) ?_; intro v9 w9 ho hg hn hk; have HB9 : Hid (Blk w9 g [rv7 0, rv7 1, rv7 2, rv7 3, .slice pL L.length cL] 46) := Lib.hid (HK7.out.blk.grown hg (fun e => HK7.out.neL e.symm)); have g1 := HB9.out.cell (j := 4) rfl; have g2 := HB9.out.free 4; obtain ⟨p9, c9, rfl, -, -⟩ := own_slice ho; have HO9 := Lib.hid ho; have HG9 := Lib.hid hg; have HN9 := Lib.hid hk; clear ho hg hn hk)
    all_goals go_wp2
    all_goals go_ret
    all_goals (
      have h9 := H7.out.growL (L' := L ++ [(⟨j, i, u, (b : Int)⟩ : Pend)]) (below_ad w7 (.cells #[.string j, .int .i64 i, .string u, .int .i64 (b : Int)] 29)) (v := .slice p9 (L.length + 1) c9) (w9 := w9) (by have := HO9.out; simpa [pcells] using this) HG9.out HN9.out
      exact ⟨rfl, rv7, _, by rw [← HRW7.out]; exact h9.1, HT7.out.trans h9.2⟩)
end Go.Proofs.Ytlemfbgmhjklaaa
