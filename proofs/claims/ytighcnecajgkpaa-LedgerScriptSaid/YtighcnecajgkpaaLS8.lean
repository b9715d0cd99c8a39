/- Texts of one proof, laid together: RTakeOk. No condition of ours. -/
import Derived.Test.YtighcnecajgkpaaLS7
namespace Go.Proofs.Ytighcnecajgkpaa
open Go.RowKit


set_option maxRecDepth 100000 in
set_option maxHeartbeats 8000000 in
theorem rtake_ok_in (base g : Nat) (v : Value) (cap : Am) (L : List Ent) (s t : ByteArray) (a : Am) (w : World) (h : RLed base w g v cap L) (h1 : 1 ≤ s.size) (h2 : s.size ≤ 64) (ha : a.okB = true) (hp1 : plc L s = none) (ht : t.toList.isEmpty = false) (k : Nat) (hk : k < L.length) (y : Ent) (hy : y = L[k]) (hp2 : plc L t = some k) (hyi : y.i.toList.isEmpty = true) (z : Am) (hr : ∀ w, RLed base w g v cap L → Calls Try.prog 36 #[ptr g, .string t, .string ⟨#[]⟩] w fun e w' => e = .returned (.agg #[.int .i64 z.c, .int .i64 z.r, .int .i64 z.d, .int .i64 z.p]) ∧ Below w.heap.size w w') (hf : fitsB a z = true) (hl : L.length ≤ 100000) (hbs : base ≤ w.heap.size) (i0 : Nat) (hi0 : i0 ≤ L.length) (hls : ∀ j (h : j < L.length), j < i0 → Op.bytesLess L[j].n.toList s.toList = true) (hge : ∀ h : i0 < L.length, Op.bytesLess L[i0].n.toList s.toList = false) :
    Calls Try.prog 38 #[ptr g, .string s, .string t, amV a] w fun e w' => e = .returned (.int .i64 0) ∧ ∃ v', RLed base w' g v' cap (L.take i0 ++ ⟨s, t, a⟩ :: L.drop i0) ∧ RStep w w' g v v' := by
  obtain ⟨i0x, hi, hz0, hz1, hz2⟩ := info_parts info_ent
  obtain ⟨p, c, rfl, hc, hm⟩ := h.shape
  have hml : maxLen ≤ 9223372036854775807 := by decide
  obtain ⟨q0, rfl, hcs⟩ := h.at hk
  have i2 : (k : Int) < (L.length : Int) := by omega
  have i3 : ¬ ((k : Int) < 0) := by omega
  have i4 : (0 : Int) ≤ (k : Int) := by omega
  have HCS := Lib.hid hcs
  rw [← hy] at HCS
  have HYY := Lib.hid hy
  obtain ⟨w3, hw3⟩ : ∃ w3, w3 = w.alloc (.cells #[.int .i64 a.c, .int .i64 a.r, .int .i64 a.d, .int .i64 a.p] 28) := ⟨_, rfl⟩
  obtain ⟨B, hB⟩ : ∃ B, B = w.heap.size := ⟨_, rfl⟩
  have S3 : Hid (Blk w3 B (amC a) 28) := Lib.hid (by rw [hw3, hB]; exact Blk.made w (amC a) _)
  have HB3 : Hid (Below w.heap.size w w3) := Lib.hid (by rw [hw3]; exact below_alloc w _)
  have H3 := Lib.hid (h.kept HB3.out)
  have a0 := S3.out.cell (j := 0) rfl
  have a1 := S3.out.cell (j := 1) rfl
  have a2 := S3.out.cell (j := 2) rfl
  have a3 := S3.out.cell (j := 3) rfl
  have d1 : ¬ ((s.size : Int) < 1) := by omega
  have d2 : ¬ ((64 : Int) < (s.size : Int)) := by omega
  have HC := Lib.hid (Am.chk_yes ha)
  have HP1 : Hid (∀ w, RLed base w g (.slice (some ⟨q0, 0, none⟩) L.length c) cap L → Calls Try.prog 35 #[ptr g, .string s] w fun e w' => e = .returned (.int .i64 (-1)) ∧ Below w.heap.size w w') := Lib.hid (fun w h => by have := place_any base g _ cap L s w h; unfold plcI at this; rw [hp1] at this; exact this)
  have HP2 : Hid (∀ w, RLed base w g (.slice (some ⟨q0, 0, none⟩) L.length c) cap L → Calls Try.prog 35 #[ptr g, .string t] w fun e w' => e = .returned (.int .i64 (k : Int)) ∧ Below w.heap.size w w') := Lib.hid (fun w h => by have := place_any base g _ cap L t w h; unfold plcI at this; rw [hp2] at this; exact this)
  have HI0 := Lib.hid hi0
  have HL := Lib.hid hl
  have HBS := Lib.hid hbs
  have HLS := Lib.hid hls
  have HGE := Lib.hid hge
  have HRM := Lib.hid hr
  have HF := Lib.hid hf
  clear h h1 h2 ha hp1 hr hf hls hge hi0 hl hbs hp2 hcs hy
  go_enter Try.func38, Try.ntmps38
  go_upto_region 1 with fail
  rw [← hw3, ← hB]
  clear hw3 hB
  go_wp2_with (first | (go_at_call 34; refine (rcheck_any a _).mono ?_; rw [HC.out]; rintro e w4 ⟨rfl, hb⟩; have S4 := Lib.hid (S3.out.kept hb); have HB4 := Lib.hid (below_and HB3.out hb); have H4 := Lib.hid (H3.out.kept hb); clear hb a0 a1 a2 a3) | fail)
  refine (HP1.out _ H4.out).mono ?_
  rintro e w5 ⟨rfl, hb⟩
  have S5 := Lib.hid (S4.out.kept hb)
  have HB5 := Lib.hid (below_and HB4.out hb)
  have H5 := Lib.hid (H4.out.kept hb)
  clear hb
  go_upto_region 7 with (first | (go_at_call 35; refine (HP2.out _ H5.out).mono ?_; rintro e w6 ⟨rfl, hb⟩; have S6 := Lib.hid (S5.out.kept hb); have HB6 := Lib.hid (below_and HB5.out hb); have H6 := Lib.hid (H5.out.kept hb); clear hb))
  have x4 := H6.out.blk.cell (j := 4) rfl
  have x1 : w6.cell? ⟨q0, k * 6 + 1, none⟩ = some (.string y.i) := own_cell H6.out.row (by rw [entsC_at L k hk 1 (by omega), ← HYY.out]; rfl)
  have e0 : ∀ y : Past w6, y.val.cell? ⟨B, 0, none⟩ = some (.int .i64 a.c) := Past.blk S6.out (j := 0) rfl
  have e1 : ∀ y : Past w6, y.val.cell? ⟨B, 1, none⟩ = some (.int .i64 a.r) := Past.blk S6.out (j := 1) rfl
  have e2 : ∀ y : Past w6, y.val.cell? ⟨B, 2, none⟩ = some (.int .i64 a.d) := Past.blk S6.out (j := 2) rfl
  have e3 : ∀ y : Past w6, y.val.cell? ⟨B, 3, none⟩ = some (.int .i64 a.p) := Past.blk S6.out (j := 3) rfl
  go_wp2
  refine wp_region_past (by kernel_rfl) (by kernel_rfl) ?_
  repeat (go_big_quiet_step (first | (go_at_call 36; exact past_call (HRM.out _ (H6.out.kept (Past.h _)))) | (go_at_call 51; exact past_call (rfits_val HF.out _))))
  refine wpQuiet_nil ?_
  intro _ hw'
  obtain ⟨s9, hw''⟩ := hw'
  subst hw''
  obtain ⟨w7, h9, e9⟩ : ∃ w7, Below w6.heap.size w6 w7 ∧ w7 = s9.val := ⟨_, s9.h, rfl⟩
  rw [← e9]
  have H7 := Lib.hid (H6.out.kept h9)
  have S7 := Lib.hid (S6.out.kept h9)
  have HB7 := Lib.hid (below_and HB6.out h9)
  clear h9 e9 e0 e1 e2 e3
  go_wp2
  go_loop [10] (fun x => ∃ k : Nat, k ≤ i0 ∧ x = .int .i64 (k : Int)) (fun x => i0 - (intOf x).toNat)
  case atStart => exact ⟨0, Nat.zero_le _, rfl⟩
  case round =>
    obtain ⟨kk, hkk, rfl⟩ := hrel
    have x4 := H7.out.blk.cell (j := 4) rfl
    by_cases hlt : kk < i0
    · have i5 : (kk : Int) < (L.length : Int) := by have := HI0.out; omega
      have i6 : (0 : Int) ≤ (kk : Int) := by omega
      have hkl : kk < L.length := by have := HI0.out; omega
      obtain ⟨nm, hnm⟩ : ∃ nm, nm = L[kk].n := ⟨_, rfl⟩
      have x0 : w7.cell? ⟨q0, kk * 6, none⟩ = some (.string nm) := own_cell H7.out.row (by rw [show kk * 6 = kk * 6 + 0 from rfl, entsC_at L kk hkl 0 (by omega), hnm]; rfl)
      have t1 : Op.bytesLess nm.toList s.toList = true := by rw [hnm]; exact HLS.out kk hkl hlt
      clear hnm
      go_wp2
      go_round
      case rel => exact ⟨kk + 1, hlt, by go_num⟩
      case measure => simp [intOf]; omega
    · obtain rfl : kk = i0 := by omega
      have HKK : kk = kk := rfl
      have b1 : (0 : Int) ≤ (kk : Int) := by omega
      have b2 : (kk : Int) ≤ (L.length : Int) := by have := HI0.out; omega
      have b6 : (L.length : Int) ≤ (c : Int) := by omega
      have b3 : (kk : Int) ≤ (c : Int) := by omega
      by_cases hin : kk < L.length
      · have i5 : (kk : Int) < (L.length : Int) := by omega
        obtain ⟨nm, hnm⟩ : ∃ nm, nm = L[kk].n := ⟨_, rfl⟩
        have x0 : w7.cell? ⟨q0, kk * 6, none⟩ = some (.string nm) := own_cell H7.out.row (by rw [show kk * 6 = kk * 6 + 0 from rfl, entsC_at L kk hin 0 (by omega), hnm]; rfl)
        have t1 : Op.bytesLess nm.toList s.toList = false := by rw [hnm]; exact HGE.out hin
        clear hnm
        go_wp2
        refine wp_region_noPanic ?_
        refine wp_region_lastH (fun w' => w'.cell? ⟨g, 4, none⟩ = some (.slice (some ⟨q0, 0, none⟩) L.length c) ∧ w'.cell? ⟨B, 0, none⟩ = some (.int .i64 a.c) ∧ w'.cell? ⟨B, 1, none⟩ = some (.int .i64 a.r) ∧ w'.cell? ⟨B, 2, none⟩ = some (.int .i64 a.d) ∧ w'.cell? ⟨B, 3, none⟩ = some (.int .i64 a.p) ∧ Below w7.heap.size w7 w') 24 rfl rfl (by kernel_rfl) (by kernel_rfl) ⟨H7.out.blk.cell (j := 4) rfl, S7.out.cell (j := 0) rfl, S7.out.cell (j := 1) rfl, S7.out.cell (j := 2) rfl, S7.out.cell (j := 3) rfl, bl_drew (Below.refl _ _)⟩ (fun hHeld => ?_)
        have HB1 : Hid (Below w7.heap.size w7 w7.drew) := Lib.hid (bl_drew (Below.refl _ _))
        have HR1 := Lib.hid (H7.out.kept HB1.out)
        have hS1 : True := trivial
        obtain ⟨wd1, hwd⟩ : ∃ x, x = w7.drew := ⟨_, rfl⟩
        rw [← hwd] at hHeld HB1 HR1 ⊢
        clear hwd
        refine wpAnyH_take (i := 0) (v := ?v2) rfl (by kernel_rfl) (by kernel_rfl) (by kernel_rfl) (fun _ _ _ h => h) (Or.inl ⟨by rfl, ?hy2⟩) (by assumption) ?rest2
        case hy2 => (intro _ hSw; (try dsimp only at hSw); go_simp; (try with_reducible rfl))
        (try simp only [Act.put]); (try simp only [List.setIfInBounds_toArray]); (try simp only [List.set_cons_succ]); (try simp only [List.set_cons_zero])
        refine wpAnyH_take (i := 2) (v := ?v3) rfl (by kernel_rfl) (by kernel_rfl) (by kernel_rfl) (fun _ _ _ h => h) (Or.inl ⟨by rfl, ?hy3⟩) (by assumption) ?rest3
        case hy3 => (intro _ hSw; (try dsimp only at hSw); go_simp; (try with_reducible rfl))
        (try simp only [Act.put]); (try simp only [List.setIfInBounds_toArray]); (try simp only [List.set_cons_succ]); (try simp only [List.set_cons_zero])
        refine wpAnyH_take (i := 3) (v := ?v4) rfl (by kernel_rfl) (by kernel_rfl) (by kernel_rfl) (fun _ _ _ h => h) (Or.inl ⟨by rfl, ?hy4⟩) (by assumption) ?rest4
        case hy4 => (intro _ hSw; (try dsimp only at hSw); go_simp; (try with_reducible rfl))
        (try simp only [Act.put]); (try simp only [List.setIfInBounds_toArray]); (try simp only [List.set_cons_succ]); (try simp only [List.set_cons_zero])
        refine wpAnyH_take (i := 4) (v := ?v5) rfl (by kernel_rfl) (by kernel_rfl) (by kernel_rfl) (fun _ _ _ h => h) (Or.inl ⟨by rfl, ?hy5⟩) (by assumption) ?rest5
        case hy5 => (intro _ hSw; (try dsimp only at hSw); go_simp; (try with_reducible rfl))
        (try simp only [Act.put]); (try simp only [List.setIfInBounds_toArray]); (try simp only [List.set_cons_succ]); (try simp only [List.set_cons_zero])
        refine wpAnyH_take (i := 5) (v := ?v6) rfl (by kernel_rfl) (by kernel_rfl) (by kernel_rfl) (fun _ _ _ h => h) (Or.inl ⟨by rfl, ?hy6⟩) (by assumption) ?rest6
        case hy6 => (intro _ hSw; (try dsimp only at hSw); go_simp; (try with_reducible rfl))
        (try simp only [Act.put]); (try simp only [List.setIfInBounds_toArray]); (try simp only [List.set_cons_succ]); (try simp only [List.set_cons_zero])
        refine wpAnyH_take (i := 6) (v := ?v7) rfl (by kernel_rfl) (by kernel_rfl) (by kernel_rfl) (fun _ _ _ h => h) (Or.inl ⟨by rfl, ?hy7⟩) (by assumption) ?rest7
        case hy7 => (intro _ hSw; (try dsimp only at hSw); go_simp; (try with_reducible rfl))
        (try simp only [Act.put]); (try simp only [List.setIfInBounds_toArray]); (try simp only [List.set_cons_succ]); (try simp only [List.set_cons_zero])
        refine wpAnyH_take (i := 7) (v := ?v8) rfl (by kernel_rfl) (by kernel_rfl) (by kernel_rfl) (fun _ _ _ h => h) (Or.inl ⟨by rfl, ?hy8⟩) (by assumption) ?rest8
        case hy8 => (intro _ hSw; (try dsimp only at hSw); go_simp; (try with_reducible rfl))
        (try simp only [Act.put]); (try simp only [List.setIfInBounds_toArray]); (try simp only [List.set_cons_succ]); (try simp only [List.set_cons_zero])
        refine wpAnyH_take (i := 9) (v := ?v9) rfl (by kernel_rfl) (by kernel_rfl) (by kernel_rfl) (fun _ _ _ h => h) (Or.inl ⟨by rfl, ?hy9⟩) (by assumption) ?rest9
        case hy9 => (intro _ hSw; (try dsimp only at hSw); go_simp; (try with_reducible rfl))
        (try simp only [Act.put]); (try simp only [List.setIfInBounds_toArray]); (try simp only [List.set_cons_succ]); (try simp only [List.set_cons_zero])
        refine wpAnyH_take (i := 10) (v := ?v10) rfl (by kernel_rfl) (by kernel_rfl) (by kernel_rfl) (fun _ _ _ h => h) (Or.inl ⟨by rfl, ?hy10⟩) (by assumption) ?rest10
        case hy10 => (intro _ hSw; (try dsimp only at hSw); go_simp; (try with_reducible rfl))
        (try simp only [Act.put]); (try simp only [List.setIfInBounds_toArray]); (try simp only [List.set_cons_succ]); (try simp only [List.set_cons_zero])
        refine wpAnyH_take (i := 11) (v := ?v11) rfl (by kernel_rfl) (by kernel_rfl) (by kernel_rfl) (fun _ _ _ h => h) (Or.inl ⟨by rfl, ?hy11⟩) (by assumption) ?rest11
        case hy11 => (intro _ hSw; (try dsimp only at hSw); go_simp; (try with_reducible rfl))
        (try simp only [Act.put]); (try simp only [List.setIfInBounds_toArray]); (try simp only [List.set_cons_succ]); (try simp only [List.set_cons_zero])
        refine wpAnyH_take (i := 12) (v := ?v12) rfl (by kernel_rfl) (by kernel_rfl) (by kernel_rfl) (fun _ _ _ h => h) (Or.inl ⟨by rfl, ?hy12⟩) (by assumption) ?rest12
        case hy12 => (intro _ hSw; (try dsimp only at hSw); go_simp; (try with_reducible rfl))
        (try simp only [Act.put]); (try simp only [List.setIfInBounds_toArray]); (try simp only [List.set_cons_succ]); (try simp only [List.set_cons_zero])
        refine wpAnyH_take (i := 15) (v := ?v13) rfl (by kernel_rfl) (by kernel_rfl) (by kernel_rfl) (fun _ _ _ h => h) (Or.inl ⟨by rfl, ?hy13⟩) (by assumption) ?rest13
        case hy13 => (intro _ hSw; (try dsimp only at hSw); go_simp; (try with_reducible rfl))
        (try simp only [Act.put]); (try simp only [List.setIfInBounds_toArray]); (try simp only [List.set_cons_succ]); (try simp only [List.set_cons_zero])
        refine wpAnyH_take (i := 16) (v := ?v14) rfl (by kernel_rfl) (by kernel_rfl) (by kernel_rfl) (fun _ _ _ h => h) (Or.inl ⟨by rfl, ?hy14⟩) (by assumption) ?rest14
        case hy14 => (intro _ hSw; (try dsimp only at hSw); go_simp; (try with_reducible rfl))
        (try simp only [Act.put]); (try simp only [List.setIfInBounds_toArray]); (try simp only [List.set_cons_succ]); (try simp only [List.set_cons_zero])
        refine wpAnyH_take (i := 17) (v := ?v15) rfl (by kernel_rfl) (by kernel_rfl) (by kernel_rfl) (fun _ _ _ h => h) (Or.inl ⟨by rfl, ?hy15⟩) (by assumption) ?rest15
        case hy15 => (intro _ hSw; (try dsimp only at hSw); go_simp; (try with_reducible rfl))
        (try simp only [Act.put]); (try simp only [List.setIfInBounds_toArray]); (try simp only [List.set_cons_succ]); (try simp only [List.set_cons_zero])
        refine wpAnyH_take (i := 18) (v := ?v16) rfl (by kernel_rfl) (by kernel_rfl) (by kernel_rfl) (fun _ _ _ h => h) (Or.inl ⟨by rfl, ?hy16⟩) (by assumption) ?rest16
        case hy16 => (intro _ hSw; (try dsimp only at hSw); go_simp; (try with_reducible rfl))
        (try simp only [Act.put]); (try simp only [List.setIfInBounds_toArray]); (try simp only [List.set_cons_succ]); (try simp only [List.set_cons_zero])
        refine wpAnyH_take (i := 19) (v := ?v17) rfl (by kernel_rfl) (by kernel_rfl) (by kernel_rfl) (fun _ _ _ h => h) (Or.inl ⟨by rfl, ?hy17⟩) (by assumption) ?rest17
        case hy17 => (intro _ hSw; (try dsimp only at hSw); go_simp; (try with_reducible rfl))
        (try simp only [Act.put]); (try simp only [List.setIfInBounds_toArray]); (try simp only [List.set_cons_succ]); (try simp only [List.set_cons_zero])
        refine wpAnyH_take (i := 20) (v := ?v18) rfl (by kernel_rfl) (by kernel_rfl) (by kernel_rfl) (fun _ _ _ h => h) (Or.inl ⟨by rfl, ?hy18⟩) (by assumption) ?rest18
        case hy18 => (intro _ hSw; (try dsimp only at hSw); go_simp; (try with_reducible rfl))
        (try simp only [Act.put]); (try simp only [List.setIfInBounds_toArray]); (try simp only [List.set_cons_succ]); (try simp only [List.set_cons_zero])
        refine wpAnyH_ready (rs := [1, 13]) (by kernel_rfl) (by simp) ?_
        refine (AllReadyH.cons rfl (fun K hK => ?_) (AllReadyH.cons rfl (fun K hK => ?_) AllReadyH.nil))
        · (try simp only [List.getElem_toArray]); (try simp only [List.getElem_cons_succ]); (try simp only [List.getElem_cons_zero])
          go_simp
          obtain ⟨w19x, hw19⟩ : ∃ x, x = wd1.alloc (.cells #[] 48) := ⟨_, rfl⟩
          obtain ⟨z19, hz19⟩ : ∃ x, x = wd1.heap.size := ⟨_, rfl⟩
          have hn19 : Below wd1.heap.size wd1 w19x := by rw [hw19]; exact below_alloc _ _
          have hb19 : Below w7.heap.size w7 w19x := below_and HB1.out hn19
          have HB19 := Lib.hid hb19
          have HO19 : Hid (w19x.ownsRow w7.heap.size 48 6 (.slice (some ⟨z19, 0, none⟩) 0 0) 0 []) := Lib.hid (by rw [hw19, hz19]; exact World.ownsRow_made wd1 #[] 0 HB1.out.size (by decide) rfl)
          rw [← hw19, ← hz19]
          have HR19 := Lib.hid (H7.out.kept hb19)
          have HS19 := Lib.hid (S7.out.kept hb19)
          refine hK.out _ _ ⟨HR19.out.blk.cell (j := 4) rfl, HS19.out.cell (j := 0) rfl, HS19.out.cell (j := 1) rfl, HS19.out.cell (j := 2) rfl, HS19.out.cell (j := 3) rfl, hb19⟩ (fun hS19 => ?_)
          clear hK K hb19 hw19 hz19 hn19 hS1
          (try simp only [Act.put]); (try simp only [List.setIfInBounds_toArray]); (try simp only [List.set_cons_succ]); (try simp only [List.set_cons_zero])
          refine wpAnyH_ready (rs := [8, 13]) (by kernel_rfl) (by simp) ?_
          refine (AllReadyH.cons rfl (fun K hK => ?_) (AllReadyH.cons rfl (fun K hK => ?_) AllReadyH.nil))
          · refine step_app rfl (.tmp 72) (.tmp 78) 56 56 rfl w7.heap.size 48 i0x (entV zE) 6 64 Try.underlying56 hi hz0 hz1 hz2 rfl (.slice (some ⟨z19, 0, none⟩) 0 0) 0 [] (by rfl) HO19.out (.slice (some ⟨q0, 0, none⟩) kk c) kk (entsC (L.take kk)) (by rfl) (Row.src Try.underlying56 (by have := row_part HR19.out.row (entsC_one L) (o := 0) (m := kk) (c' := c) (by have := HI0.out; omega) (by have := HI0.out; omega) hm (some ⟨q0, 0, none⟩) (by simp) (fun _ => by simp); rw [entsC_first HI0.out] at this; exact this)) (by have := HL.out; have := HI0.out; unfold maxLen; omega) (by have := HL.out; have := HI0.out; omega) HB19.out.size ?_
            intro v20 w20x ho20 hg20 hn20 hk20
            have HO20 : Hid (w20x.ownsRow w7.heap.size 48 6 v20 kk (entsC (L.take kk))) := Lib.hid (by simpa using ho20)
            have hb20 : Below w7.heap.size w7 w20x := HB19.out.trans ((Fr.of_grown hg20).below (by intro y hy; exact own_base HO19.out (Option.mem_toList.1 hy)) HB19.out.size)
            have HB20 := Lib.hid hb20
            have HR20 := Lib.hid (H7.out.kept hb20)
            have HS20 := Lib.hid (S7.out.kept hb20)
            refine hK.out _ _ ⟨HR20.out.blk.cell (j := 4) rfl, HS20.out.cell (j := 0) rfl, HS20.out.cell (j := 1) rfl, HS20.out.cell (j := 2) rfl, HS20.out.cell (j := 3) rfl, hb20⟩ (fun hS20 => ?_)
            clear hK K hb20 ho20 hg20 hn20 hk20 hS19
            (try simp only [Act.put]); (try simp only [List.setIfInBounds_toArray]); (try simp only [List.set_cons_succ]); (try simp only [List.set_cons_zero])
            refine wpAnyH_ready (rs := [13]) (by kernel_rfl) (by simp) ?_
            refine (AllReadyH.cons rfl (fun K hK => ?_) AllReadyH.nil)
            (try simp only [List.getElem_toArray]); (try simp only [List.getElem_cons_succ]); (try simp only [List.getElem_cons_zero])
            go_simp
            obtain ⟨w21x, hw21⟩ : ∃ x, x = w20x.alloc (.cells #[.string s, .string t, .int .i64 a.c, .int .i64 a.r, .int .i64 a.d, .int .i64 a.p] 48) := ⟨_, rfl⟩
            obtain ⟨z21, hz21⟩ : ∃ x, x = w20x.heap.size := ⟨_, rfl⟩
            have hn21 : Below w20x.heap.size w20x w21x := by rw [hw21]; exact below_alloc _ _
            have hb21 : Below w7.heap.size w7 w21x := below_and HB20.out hn21
            have HB21 := Lib.hid hb21
            have HY21 : Hid (Blk w21x z21 (entC ⟨s, t, a⟩) 48) := Lib.hid (by rw [hw21, hz21]; exact Blk.made w20x (entC ⟨s, t, a⟩) _)
            have HO21 := Lib.hid (own_fr HO20.out (Fr.of_below hn21 []) (fun _ _ => by simp))
            have HNE21 : Hid (∀ q, (v20 : Value).ownBlock = some q → q ≠ z21) := Lib.hid (fun q hq => by have := own_lt HO20.out hq; omega)
            rw [← hw21, ← hz21]
            have HR21 := Lib.hid (H7.out.kept hb21)
            have HS21 := Lib.hid (S7.out.kept hb21)
            refine hK.out _ _ ⟨HR21.out.blk.cell (j := 4) rfl, HS21.out.cell (j := 0) rfl, HS21.out.cell (j := 1) rfl, HS21.out.cell (j := 2) rfl, HS21.out.cell (j := 3) rfl, hb21⟩ (fun hS21 => ?_)
            clear hK K hb21 hw21 hz21 hn21 hS20
            (try simp only [Act.put]); (try simp only [List.setIfInBounds_toArray]); (try simp only [List.set_cons_succ]); (try simp only [List.set_cons_zero])
            refine wpAnyH_ready (rs := [14]) (by kernel_rfl) (by simp) ?_
            refine (AllReadyH.cons rfl (fun K hK => ?_) AllReadyH.nil)
            refine step_app rfl (.tmp 79) (.tmp 84) 56 56 rfl w7.heap.size 48 i0x (entV zE) 6 64 Try.underlying56 hi hz0 hz1 hz2 rfl v20 kk (entsC (L.take kk)) (by rfl) HO21.out (.slice (some ⟨z21, 0, none⟩) 1 1) 1 (entC ⟨s, t, a⟩) (by rfl) (src_block Try.underlying56 _ z21 (entC ⟨s, t, a⟩).toArray HY21.out rfl (entC_one ⟨s, t, a⟩)) (by have := HL.out; have := HI0.out; unfold maxLen; omega) (by have := HL.out; have := HI0.out; omega) HB21.out.size ?_
            intro v22 w22x ho22 hg22 hn22 hk22
            have HO22 : Hid (w22x.ownsRow w7.heap.size 48 6 v22 (kk + 1) (entsC (L.take kk) ++ entC ⟨s, t, a⟩)) := Lib.hid (ho22)
            have hb22 : Below w7.heap.size w7 w22x := HB21.out.trans ((Fr.of_grown hg22).below (by intro y hy; exact own_base HO21.out (Option.mem_toList.1 hy)) HB21.out.size)
            have HB22 := Lib.hid hb22
            have HR22 := Lib.hid (H7.out.kept hb22)
            have HS22 := Lib.hid (S7.out.kept hb22)
            refine hK.out _ _ ⟨HR22.out.blk.cell (j := 4) rfl, HS22.out.cell (j := 0) rfl, HS22.out.cell (j := 1) rfl, HS22.out.cell (j := 2) rfl, HS22.out.cell (j := 3) rfl, hb22⟩ (fun hS22 => ?_)
            clear hK K hb22 ho22 hg22 hn22 hk22 hS21
            (try simp only [Act.put]); (try simp only [List.setIfInBounds_toArray]); (try simp only [List.set_cons_succ]); (try simp only [List.set_cons_zero])
            refine wpAnyH_ready (rs := [21]) (by kernel_rfl) (by simp) ?_
            refine (AllReadyH.cons rfl (fun K hK => ?_) AllReadyH.nil)
            refine step_app rfl (.tmp 85) (.tmp 91) 56 56 rfl w7.heap.size 48 i0x (entV zE) 6 64 Try.underlying56 hi hz0 hz1 hz2 rfl v22 (kk + 1) (entsC (L.take kk) ++ entC ⟨s, t, a⟩) (by rfl) HO22.out (.slice (if c = kk then some ⟨q0, 0, none⟩ else some ⟨q0, kk * 6, none⟩) (L.length - kk) (c - kk)) (L.length - kk) (entsC (L.drop kk)) (by rfl) (Row.src Try.underlying56 (by have := row_part HR22.out.row (entsC_one L) (o := kk) (m := L.length - kk) (c' := c - kk) (by have := HI0.out; omega) (by omega) (by omega) (if c = kk then some ⟨q0, 0, none⟩ else some ⟨q0, kk * 6, none⟩) (by split <;> simp) (fun _ => by rw [if_neg (by have := HI0.out; omega)]); rw [entsC_from HI0.out] at this; exact this)) (by have := HL.out; have := HI0.out; unfold maxLen; omega) (by have := HL.out; have := HI0.out; omega) HB22.out.size ?_
            intro v23 w23x ho23 hg23 hn23 hk23
            have HO23 : Hid (w23x.ownsRow w7.heap.size 48 6 v23 (kk + 1 + (L.length - kk)) (entsC (L.take kk) ++ entC ⟨s, t, a⟩ ++ entsC (L.drop kk))) := Lib.hid (ho23)
            have hb23 : Below w7.heap.size w7 w23x := HB22.out.trans ((Fr.of_grown hg23).below (by intro y hy; exact own_base HO22.out (Option.mem_toList.1 hy)) HB22.out.size)
            have HB23 := Lib.hid hb23
            have HR23 := Lib.hid (H7.out.kept hb23)
            have HS23 := Lib.hid (S7.out.kept hb23)
            refine hK.out _ _ ⟨HR23.out.blk.cell (j := 4) rfl, HS23.out.cell (j := 0) rfl, HS23.out.cell (j := 1) rfl, HS23.out.cell (j := 2) rfl, HS23.out.cell (j := 3) rfl, hb23⟩ (fun hS23 => ?_)
            clear hK K hb23 ho23 hg23 hn23 hk23 hS22
            (try simp only [Act.put]); (try simp only [List.setIfInBounds_toArray]); (try simp only [List.set_cons_succ]); (try simp only [List.set_cons_zero])
            refine wpAnyH_take (i := 22) (v := ?v24) rfl (by kernel_rfl) (by kernel_rfl) (by kernel_rfl) (fun _ _ _ h => h) (Or.inl ⟨by rfl, ?hy24⟩) (by assumption) ?rest24
            case hy24 => (intro _ hSw; (try dsimp only at hSw); go_simp; (try with_reducible rfl))
            (try simp only [Act.put]); (try simp only [List.setIfInBounds_toArray]); (try simp only [List.set_cons_succ]); (try simp only [List.set_cons_zero])
            refine wpAnyH_take (i := 23) (v := ?v25) rfl (by kernel_rfl) (by kernel_rfl) (by kernel_rfl) (fun _ _ _ h => h) (Or.inl ⟨by rfl, ?hy25⟩) (by assumption) ?rest25
            case hy25 => (intro _ hSw; (try dsimp only at hSw); go_simp; (try with_reducible rfl))
            (try simp only [Act.put]); (try simp only [List.setIfInBounds_toArray]); (try simp only [List.set_cons_succ]); (try simp only [List.set_cons_zero])
            refine wpAnyH_done (by kernel_rfl) ?_ _
            refine LastQ.start rfl ?_
            have d4 := HR23.out.blk.cell (j := 4) rfl
            have f4 := HR23.out.blk.free 4
            clear hS23 hHeld
            obtain ⟨p8, c8, rfl, -, -⟩ := own_slice HO23.out
            generalize (if c = kk then some (⟨q0, 0, none⟩ : Addr) else some ⟨q0, kk * 6, none⟩) = pp
            go_wp2
            refine NoPanic.normal ?_
            go_wp2
            go_ret
            have e1 : entsC (L.take kk) ++ entC ⟨s, t, a⟩ ++ entsC (L.drop kk) = entsC (L.take kk ++ ⟨s, t, a⟩ :: L.drop kk) := by unfold entsC; rw [List.flatMap_append, List.flatMap_cons, List.append_assoc]
            have e2 : kk + 1 + (L.length - kk) = (L.take kk ++ (⟨s, t, a⟩ : Ent) :: L.drop kk).length := by have := HI0.out; rw [List.length_append, List.length_cons, List.length_take, List.length_drop]; omega
            have ho := HO23.out
            have hgz : g < w7.heap.size := H7.out.blk.lt
            have hs7 := HB7.out.size
            have hbs := HBS.out
            refine ⟨rfl, _, ⟨HR23.out.blk.set 4 _, own_mono (b := w7.heap.size) ?_ (by omega), fun hq => ?_⟩, ⟨?_, fun y hy => ?_⟩⟩
            · have h5 := own_fr ho ((Fr.refl [g] w23x).set (p := ⟨g, 4, none⟩) (by simp) (.slice p8 (kk + 1 + (L.length - kk)) c8)) (fun y hy => by have := own_base ho hy; simp; omega)
              rw [e1] at h5
              try rw [← e2]
              exact h5
            · have := own_base ho hq; omega
            · exact ((Fr.of_below HB7.out _).then (Fr.of_below HB23.out _)).set (p := ⟨g, 4, none⟩) (by simp) _
            · have := own_base ho hy; exact .inr (by omega)
          · (try simp only [List.getElem_toArray]); (try simp only [List.getElem_cons_succ]); (try simp only [List.getElem_cons_zero])
            go_simp
            obtain ⟨w26x, hw26⟩ : ∃ x, x = w19x.alloc (.cells #[.string s, .string t, .int .i64 a.c, .int .i64 a.r, .int .i64 a.d, .int .i64 a.p] 48) := ⟨_, rfl⟩
            obtain ⟨z26, hz26⟩ : ∃ x, x = w19x.heap.size := ⟨_, rfl⟩
            have hn26 : Below w19x.heap.size w19x w26x := by rw [hw26]; exact below_alloc _ _
            have hb26 : Below w7.heap.size w7 w26x := below_and HB19.out hn26
            have HB26 := Lib.hid hb26
            have HY26 : Hid (Blk w26x z26 (entC ⟨s, t, a⟩) 48) := Lib.hid (by rw [hw26, hz26]; exact Blk.made w19x (entC ⟨s, t, a⟩) _)
            have HO26 := Lib.hid (own_fr HO19.out (Fr.of_below hn26 []) (fun _ _ => by simp))
            have HNE26 : Hid (∀ q, ((.slice (some ⟨z19, 0, none⟩) 0 0) : Value).ownBlock = some q → q ≠ z26) := Lib.hid (fun q hq => by have := own_lt HO19.out hq; omega)
            rw [← hw26, ← hz26]
            have HR26 := Lib.hid (H7.out.kept hb26)
            have HS26 := Lib.hid (S7.out.kept hb26)
            refine hK.out _ _ ⟨HR26.out.blk.cell (j := 4) rfl, HS26.out.cell (j := 0) rfl, HS26.out.cell (j := 1) rfl, HS26.out.cell (j := 2) rfl, HS26.out.cell (j := 3) rfl, hb26⟩ (fun hS26 => ?_)
            clear hK K hb26 hw26 hz26 hn26 hS19
            (try simp only [Act.put]); (try simp only [List.setIfInBounds_toArray]); (try simp only [List.set_cons_succ]); (try simp only [List.set_cons_zero])
            refine wpAnyH_ready (rs := [8]) (by kernel_rfl) (by simp) ?_
            refine (AllReadyH.cons rfl (fun K hK => ?_) AllReadyH.nil)
            refine step_app rfl (.tmp 72) (.tmp 78) 56 56 rfl w7.heap.size 48 i0x (entV zE) 6 64 Try.underlying56 hi hz0 hz1 hz2 rfl (.slice (some ⟨z19, 0, none⟩) 0 0) 0 [] (by rfl) HO26.out (.slice (some ⟨q0, 0, none⟩) kk c) kk (entsC (L.take kk)) (by rfl) (Row.src Try.underlying56 (by have := row_part HR26.out.row (entsC_one L) (o := 0) (m := kk) (c' := c) (by have := HI0.out; omega) (by have := HI0.out; omega) hm (some ⟨q0, 0, none⟩) (by simp) (fun _ => by simp); rw [entsC_first HI0.out] at this; exact this)) (by have := HL.out; have := HI0.out; unfold maxLen; omega) (by have := HL.out; have := HI0.out; omega) HB26.out.size ?_
            intro v27 w27x ho27 hg27 hn27 hk27
            have HO27 : Hid (w27x.ownsRow w7.heap.size 48 6 v27 kk (entsC (L.take kk))) := Lib.hid (by simpa using ho27)
            have hb27 : Below w7.heap.size w7 w27x := HB26.out.trans ((Fr.of_grown hg27).below (by intro y hy; exact own_base HO26.out (Option.mem_toList.1 hy)) HB26.out.size)
            have HB27 := Lib.hid hb27
            have HY27 := Lib.hid (HY26.out.fr (Fr.of_grown hg27) (fun hm => HNE26.out _ (Option.mem_toList.1 hm) rfl))
            have HNE27 : Hid (∀ q, v27.ownBlock = some q → q ≠ z26) := Lib.hid (fun q hq => by rcases hk27 q hq with h1 | h1; exact HNE26.out q h1; have := HY26.out.lt; omega)
            have HR27 := Lib.hid (H7.out.kept hb27)
            have HS27 := Lib.hid (S7.out.kept hb27)
            refine hK.out _ _ ⟨HR27.out.blk.cell (j := 4) rfl, HS27.out.cell (j := 0) rfl, HS27.out.cell (j := 1) rfl, HS27.out.cell (j := 2) rfl, HS27.out.cell (j := 3) rfl, hb27⟩ (fun hS27 => ?_)
            clear hK K hb27 ho27 hg27 hn27 hk27 hS26
            (try simp only [Act.put]); (try simp only [List.setIfInBounds_toArray]); (try simp only [List.set_cons_succ]); (try simp only [List.set_cons_zero])
            refine wpAnyH_ready (rs := [14]) (by kernel_rfl) (by simp) ?_
            refine (AllReadyH.cons rfl (fun K hK => ?_) AllReadyH.nil)
            refine step_app rfl (.tmp 79) (.tmp 84) 56 56 rfl w7.heap.size 48 i0x (entV zE) 6 64 Try.underlying56 hi hz0 hz1 hz2 rfl v27 kk (entsC (L.take kk)) (by rfl) HO27.out (.slice (some ⟨z26, 0, none⟩) 1 1) 1 (entC ⟨s, t, a⟩) (by rfl) (src_block Try.underlying56 _ z26 (entC ⟨s, t, a⟩).toArray HY27.out rfl (entC_one ⟨s, t, a⟩)) (by have := HL.out; have := HI0.out; unfold maxLen; omega) (by have := HL.out; have := HI0.out; omega) HB27.out.size ?_
            intro v28 w28x ho28 hg28 hn28 hk28
            have HO28 : Hid (w28x.ownsRow w7.heap.size 48 6 v28 (kk + 1) (entsC (L.take kk) ++ entC ⟨s, t, a⟩)) := Lib.hid (ho28)
            have hb28 : Below w7.heap.size w7 w28x := HB27.out.trans ((Fr.of_grown hg28).below (by intro y hy; exact own_base HO27.out (Option.mem_toList.1 hy)) HB27.out.size)
            have HB28 := Lib.hid hb28
            have HR28 := Lib.hid (H7.out.kept hb28)
            have HS28 := Lib.hid (S7.out.kept hb28)
            refine hK.out _ _ ⟨HR28.out.blk.cell (j := 4) rfl, HS28.out.cell (j := 0) rfl, HS28.out.cell (j := 1) rfl, HS28.out.cell (j := 2) rfl, HS28.out.cell (j := 3) rfl, hb28⟩ (fun hS28 => ?_)
            clear hK K hb28 ho28 hg28 hn28 hk28 hS27
            (try simp only [Act.put]); (try simp only [List.setIfInBounds_toArray]); (try simp only [List.set_cons_succ]); (try simp only [List.set_cons_zero])
            refine wpAnyH_ready (rs := [21]) (by kernel_rfl) (by simp) ?_
            refine (AllReadyH.cons rfl (fun K hK => ?_) AllReadyH.nil)
            refine step_app rfl (.tmp 85) (.tmp 91) 56 56 rfl w7.heap.size 48 i0x (entV zE) 6 64 Try.underlying56 hi hz0 hz1 hz2 rfl v28 (kk + 1) (entsC (L.take kk) ++ entC ⟨s, t, a⟩) (by rfl) HO28.out (.slice (if c = kk then some ⟨q0, 0, none⟩ else some ⟨q0, kk * 6, none⟩) (L.length - kk) (c - kk)) (L.length - kk) (entsC (L.drop kk)) (by rfl) (Row.src Try.underlying56 (by have := row_part HR28.out.row (entsC_one L) (o := kk) (m := L.length - kk) (c' := c - kk) (by have := HI0.out; omega) (by omega) (by omega) (if c = kk then some ⟨q0, 0, none⟩ else some ⟨q0, kk * 6, none⟩) (by split <;> simp) (fun _ => by rw [if_neg (by have := HI0.out; omega)]); rw [entsC_from HI0.out] at this; exact this)) (by have := HL.out; have := HI0.out; unfold maxLen; omega) (by have := HL.out; have := HI0.out; omega) HB28.out.size ?_
            intro v29 w29x ho29 hg29 hn29 hk29
            have HO29 : Hid (w29x.ownsRow w7.heap.size 48 6 v29 (kk + 1 + (L.length - kk)) (entsC (L.take kk) ++ entC ⟨s, t, a⟩ ++ entsC (L.drop kk))) := Lib.hid (ho29)
            have hb29 : Below w7.heap.size w7 w29x := HB28.out.trans ((Fr.of_grown hg29).below (by intro y hy; exact own_base HO28.out (Option.mem_toList.1 hy)) HB28.out.size)
            have HB29 := Lib.hid hb29
            have HR29 := Lib.hid (H7.out.kept hb29)
            have HS29 := Lib.hid (S7.out.kept hb29)
            refine hK.out _ _ ⟨HR29.out.blk.cell (j := 4) rfl, HS29.out.cell (j := 0) rfl, HS29.out.cell (j := 1) rfl, HS29.out.cell (j := 2) rfl, HS29.out.cell (j := 3) rfl, hb29⟩ (fun hS29 => ?_)
            clear hK K hb29 ho29 hg29 hn29 hk29 hS28
            (try simp only [Act.put]); (try simp only [List.setIfInBounds_toArray]); (try simp only [List.set_cons_succ]); (try simp only [List.set_cons_zero])
            refine wpAnyH_take (i := 22) (v := ?v30) rfl (by kernel_rfl) (by kernel_rfl) (by kernel_rfl) (fun _ _ _ h => h) (Or.inl ⟨by rfl, ?hy30⟩) (by assumption) ?rest30
            case hy30 => (intro _ hSw; (try dsimp only at hSw); go_simp; (try with_reducible rfl))
            (try simp only [Act.put]); (try simp only [List.setIfInBounds_toArray]); (try simp only [List.set_cons_succ]); (try simp only [List.set_cons_zero])
            refine wpAnyH_take (i := 23) (v := ?v31) rfl (by kernel_rfl) (by kernel_rfl) (by kernel_rfl) (fun _ _ _ h => h) (Or.inl ⟨by rfl, ?hy31⟩) (by assumption) ?rest31
            case hy31 => (intro _ hSw; (try dsimp only at hSw); go_simp; (try with_reducible rfl))
            (try simp only [Act.put]); (try simp only [List.setIfInBounds_toArray]); (try simp only [List.set_cons_succ]); (try simp only [List.set_cons_zero])
            refine wpAnyH_done (by kernel_rfl) ?_ _
            refine LastQ.start rfl ?_
            have d4 := HR29.out.blk.cell (j := 4) rfl
            have f4 := HR29.out.blk.free 4
            clear hS29 hHeld
            obtain ⟨p8, c8, rfl, -, -⟩ := own_slice HO29.out
            generalize (if c = kk then some (⟨q0, 0, none⟩ : Addr) else some ⟨q0, kk * 6, none⟩) = pp
            go_wp2
            refine NoPanic.normal ?_
            go_wp2
            go_ret
            have e1 : entsC (L.take kk) ++ entC ⟨s, t, a⟩ ++ entsC (L.drop kk) = entsC (L.take kk ++ ⟨s, t, a⟩ :: L.drop kk) := by unfold entsC; rw [List.flatMap_append, List.flatMap_cons, List.append_assoc]
            have e2 : kk + 1 + (L.length - kk) = (L.take kk ++ (⟨s, t, a⟩ : Ent) :: L.drop kk).length := by have := HI0.out; rw [List.length_append, List.length_cons, List.length_take, List.length_drop]; omega
            have ho := HO29.out
            have hgz : g < w7.heap.size := H7.out.blk.lt
            have hs7 := HB7.out.size
            have hbs := HBS.out
            refine ⟨rfl, _, ⟨HR29.out.blk.set 4 _, own_mono (b := w7.heap.size) ?_ (by omega), fun hq => ?_⟩, ⟨?_, fun y hy => ?_⟩⟩
            · have h5 := own_fr ho ((Fr.refl [g] w29x).set (p := ⟨g, 4, none⟩) (by simp) (.slice p8 (kk + 1 + (L.length - kk)) c8)) (fun y hy => by have := own_base ho hy; simp; omega)
              rw [e1] at h5
              try rw [← e2]
              exact h5
            · have := own_base ho hq; omega
            · exact ((Fr.of_below HB7.out _).then (Fr.of_below HB29.out _)).set (p := ⟨g, 4, none⟩) (by simp) _
            · have := own_base ho hy; exact .inr (by omega)
        · (try simp only [List.getElem_toArray]); (try simp only [List.getElem_cons_succ]); (try simp only [List.getElem_cons_zero])
          go_simp
          obtain ⟨w32x, hw32⟩ : ∃ x, x = wd1.alloc (.cells #[.string s, .string t, .int .i64 a.c, .int .i64 a.r, .int .i64 a.d, .int .i64 a.p] 48) := ⟨_, rfl⟩
          obtain ⟨z32, hz32⟩ : ∃ x, x = wd1.heap.size := ⟨_, rfl⟩
          have hn32 : Below wd1.heap.size wd1 w32x := by rw [hw32]; exact below_alloc _ _
          have hb32 : Below w7.heap.size w7 w32x := below_and HB1.out hn32
          have HB32 := Lib.hid hb32
          have HY32 : Hid (Blk w32x z32 (entC ⟨s, t, a⟩) 48) := Lib.hid (by rw [hw32, hz32]; exact Blk.made wd1 (entC ⟨s, t, a⟩) _)
          rw [← hw32, ← hz32]
          have HR32 := Lib.hid (H7.out.kept hb32)
          have HS32 := Lib.hid (S7.out.kept hb32)
          refine hK.out _ _ ⟨HR32.out.blk.cell (j := 4) rfl, HS32.out.cell (j := 0) rfl, HS32.out.cell (j := 1) rfl, HS32.out.cell (j := 2) rfl, HS32.out.cell (j := 3) rfl, hb32⟩ (fun hS32 => ?_)
          clear hK K hb32 hw32 hz32 hn32 hS1
          (try simp only [Act.put]); (try simp only [List.setIfInBounds_toArray]); (try simp only [List.set_cons_succ]); (try simp only [List.set_cons_zero])
          refine wpAnyH_ready (rs := [1]) (by kernel_rfl) (by simp) ?_
          refine (AllReadyH.cons rfl (fun K hK => ?_) AllReadyH.nil)
          (try simp only [List.getElem_toArray]); (try simp only [List.getElem_cons_succ]); (try simp only [List.getElem_cons_zero])
          go_simp
          obtain ⟨w33x, hw33⟩ : ∃ x, x = w32x.alloc (.cells #[] 48) := ⟨_, rfl⟩
          obtain ⟨z33, hz33⟩ : ∃ x, x = w32x.heap.size := ⟨_, rfl⟩
          have hn33 : Below w32x.heap.size w32x w33x := by rw [hw33]; exact below_alloc _ _
          have hb33 : Below w7.heap.size w7 w33x := below_and HB32.out hn33
          have HB33 := Lib.hid hb33
          have HO33 : Hid (w33x.ownsRow w7.heap.size 48 6 (.slice (some ⟨z33, 0, none⟩) 0 0) 0 []) := Lib.hid (by rw [hw33, hz33]; exact World.ownsRow_made w32x #[] 0 HB32.out.size (by decide) rfl)
          have HY33 := Lib.hid (HY32.out.kept hn33)
          have HNE33 : Hid (∀ q, (Value.slice (some ⟨z33, 0, none⟩) 0 0).ownBlock = some q → q ≠ z32) := Lib.hid (fun q hq => by simp [Value.ownBlock] at hq; have := HY32.out.lt; omega)
          rw [← hw33, ← hz33]
          have HR33 := Lib.hid (H7.out.kept hb33)
          have HS33 := Lib.hid (S7.out.kept hb33)
          refine hK.out _ _ ⟨HR33.out.blk.cell (j := 4) rfl, HS33.out.cell (j := 0) rfl, HS33.out.cell (j := 1) rfl, HS33.out.cell (j := 2) rfl, HS33.out.cell (j := 3) rfl, hb33⟩ (fun hS33 => ?_)
          clear hK K hb33 hw33 hz33 hn33 hS32
          (try simp only [Act.put]); (try simp only [List.setIfInBounds_toArray]); (try simp only [List.set_cons_succ]); (try simp only [List.set_cons_zero])
          refine wpAnyH_ready (rs := [8]) (by kernel_rfl) (by simp) ?_
          refine (AllReadyH.cons rfl (fun K hK => ?_) AllReadyH.nil)
          refine step_app rfl (.tmp 72) (.tmp 78) 56 56 rfl w7.heap.size 48 i0x (entV zE) 6 64 Try.underlying56 hi hz0 hz1 hz2 rfl (.slice (some ⟨z33, 0, none⟩) 0 0) 0 [] (by rfl) HO33.out (.slice (some ⟨q0, 0, none⟩) kk c) kk (entsC (L.take kk)) (by rfl) (Row.src Try.underlying56 (by have := row_part HR33.out.row (entsC_one L) (o := 0) (m := kk) (c' := c) (by have := HI0.out; omega) (by have := HI0.out; omega) hm (some ⟨q0, 0, none⟩) (by simp) (fun _ => by simp); rw [entsC_first HI0.out] at this; exact this)) (by have := HL.out; have := HI0.out; unfold maxLen; omega) (by have := HL.out; have := HI0.out; omega) HB33.out.size ?_
          intro v34 w34x ho34 hg34 hn34 hk34
          have HO34 : Hid (w34x.ownsRow w7.heap.size 48 6 v34 kk (entsC (L.take kk))) := Lib.hid (by simpa using ho34)
          have hb34 : Below w7.heap.size w7 w34x := HB33.out.trans ((Fr.of_grown hg34).below (by intro y hy; exact own_base HO33.out (Option.mem_toList.1 hy)) HB33.out.size)
          have HB34 := Lib.hid hb34
          have HY34 := Lib.hid (HY33.out.fr (Fr.of_grown hg34) (fun hm => HNE33.out _ (Option.mem_toList.1 hm) rfl))
          have HNE34 : Hid (∀ q, v34.ownBlock = some q → q ≠ z32) := Lib.hid (fun q hq => by rcases hk34 q hq with h1 | h1; exact HNE33.out q h1; have := HY33.out.lt; omega)
          have HR34 := Lib.hid (H7.out.kept hb34)
          have HS34 := Lib.hid (S7.out.kept hb34)
          refine hK.out _ _ ⟨HR34.out.blk.cell (j := 4) rfl, HS34.out.cell (j := 0) rfl, HS34.out.cell (j := 1) rfl, HS34.out.cell (j := 2) rfl, HS34.out.cell (j := 3) rfl, hb34⟩ (fun hS34 => ?_)
          clear hK K hb34 ho34 hg34 hn34 hk34 hS33
          (try simp only [Act.put]); (try simp only [List.setIfInBounds_toArray]); (try simp only [List.set_cons_succ]); (try simp only [List.set_cons_zero])
          refine wpAnyH_ready (rs := [14]) (by kernel_rfl) (by simp) ?_
          refine (AllReadyH.cons rfl (fun K hK => ?_) AllReadyH.nil)
          refine step_app rfl (.tmp 79) (.tmp 84) 56 56 rfl w7.heap.size 48 i0x (entV zE) 6 64 Try.underlying56 hi hz0 hz1 hz2 rfl v34 kk (entsC (L.take kk)) (by rfl) HO34.out (.slice (some ⟨z32, 0, none⟩) 1 1) 1 (entC ⟨s, t, a⟩) (by rfl) (src_block Try.underlying56 _ z32 (entC ⟨s, t, a⟩).toArray HY34.out rfl (entC_one ⟨s, t, a⟩)) (by have := HL.out; have := HI0.out; unfold maxLen; omega) (by have := HL.out; have := HI0.out; omega) HB34.out.size ?_
          intro v35 w35x ho35 hg35 hn35 hk35
          have HO35 : Hid (w35x.ownsRow w7.heap.size 48 6 v35 (kk + 1) (entsC (L.take kk) ++ entC ⟨s, t, a⟩)) := Lib.hid (ho35)
          have hb35 : Below w7.heap.size w7 w35x := HB34.out.trans ((Fr.of_grown hg35).below (by intro y hy; exact own_base HO34.out (Option.mem_toList.1 hy)) HB34.out.size)
          have HB35 := Lib.hid hb35
          have HR35 := Lib.hid (H7.out.kept hb35)
          have HS35 := Lib.hid (S7.out.kept hb35)
          refine hK.out _ _ ⟨HR35.out.blk.cell (j := 4) rfl, HS35.out.cell (j := 0) rfl, HS35.out.cell (j := 1) rfl, HS35.out.cell (j := 2) rfl, HS35.out.cell (j := 3) rfl, hb35⟩ (fun hS35 => ?_)
          clear hK K hb35 ho35 hg35 hn35 hk35 hS34
          (try simp only [Act.put]); (try simp only [List.setIfInBounds_toArray]); (try simp only [List.set_cons_succ]); (try simp only [List.set_cons_zero])
          refine wpAnyH_ready (rs := [21]) (by kernel_rfl) (by simp) ?_
          refine (AllReadyH.cons rfl (fun K hK => ?_) AllReadyH.nil)
          refine step_app rfl (.tmp 85) (.tmp 91) 56 56 rfl w7.heap.size 48 i0x (entV zE) 6 64 Try.underlying56 hi hz0 hz1 hz2 rfl v35 (kk + 1) (entsC (L.take kk) ++ entC ⟨s, t, a⟩) (by rfl) HO35.out (.slice (if c = kk then some ⟨q0, 0, none⟩ else some ⟨q0, kk * 6, none⟩) (L.length - kk) (c - kk)) (L.length - kk) (entsC (L.drop kk)) (by rfl) (Row.src Try.underlying56 (by have := row_part HR35.out.row (entsC_one L) (o := kk) (m := L.length - kk) (c' := c - kk) (by have := HI0.out; omega) (by omega) (by omega) (if c = kk then some ⟨q0, 0, none⟩ else some ⟨q0, kk * 6, none⟩) (by split <;> simp) (fun _ => by rw [if_neg (by have := HI0.out; omega)]); rw [entsC_from HI0.out] at this; exact this)) (by have := HL.out; have := HI0.out; unfold maxLen; omega) (by have := HL.out; have := HI0.out; omega) HB35.out.size ?_
          intro v36 w36x ho36 hg36 hn36 hk36
          have HO36 : Hid (w36x.ownsRow w7.heap.size 48 6 v36 (kk + 1 + (L.length - kk)) (entsC (L.take kk) ++ entC ⟨s, t, a⟩ ++ entsC (L.drop kk))) := Lib.hid (ho36)
          have hb36 : Below w7.heap.size w7 w36x := HB35.out.trans ((Fr.of_grown hg36).below (by intro y hy; exact own_base HO35.out (Option.mem_toList.1 hy)) HB35.out.size)
          have HB36 := Lib.hid hb36
          have HR36 := Lib.hid (H7.out.kept hb36)
          have HS36 := Lib.hid (S7.out.kept hb36)
          refine hK.out _ _ ⟨HR36.out.blk.cell (j := 4) rfl, HS36.out.cell (j := 0) rfl, HS36.out.cell (j := 1) rfl, HS36.out.cell (j := 2) rfl, HS36.out.cell (j := 3) rfl, hb36⟩ (fun hS36 => ?_)
          clear hK K hb36 ho36 hg36 hn36 hk36 hS35
          (try simp only [Act.put]); (try simp only [List.setIfInBounds_toArray]); (try simp only [List.set_cons_succ]); (try simp only [List.set_cons_zero])
          refine wpAnyH_take (i := 22) (v := ?v37) rfl (by kernel_rfl) (by kernel_rfl) (by kernel_rfl) (fun _ _ _ h => h) (Or.inl ⟨by rfl, ?hy37⟩) (by assumption) ?rest37
          case hy37 => (intro _ hSw; (try dsimp only at hSw); go_simp; (try with_reducible rfl))
          (try simp only [Act.put]); (try simp only [List.setIfInBounds_toArray]); (try simp only [List.set_cons_succ]); (try simp only [List.set_cons_zero])
          refine wpAnyH_take (i := 23) (v := ?v38) rfl (by kernel_rfl) (by kernel_rfl) (by kernel_rfl) (fun _ _ _ h => h) (Or.inl ⟨by rfl, ?hy38⟩) (by assumption) ?rest38
          case hy38 => (intro _ hSw; (try dsimp only at hSw); go_simp; (try with_reducible rfl))
          (try simp only [Act.put]); (try simp only [List.setIfInBounds_toArray]); (try simp only [List.set_cons_succ]); (try simp only [List.set_cons_zero])
          refine wpAnyH_done (by kernel_rfl) ?_ _
          refine LastQ.start rfl ?_
          have d4 := HR36.out.blk.cell (j := 4) rfl
          have f4 := HR36.out.blk.free 4
          clear hS36 hHeld
          obtain ⟨p8, c8, rfl, -, -⟩ := own_slice HO36.out
          generalize (if c = kk then some (⟨q0, 0, none⟩ : Addr) else some ⟨q0, kk * 6, none⟩) = pp
          go_wp2
          refine NoPanic.normal ?_
          go_wp2
          go_ret
          have e1 : entsC (L.take kk) ++ entC ⟨s, t, a⟩ ++ entsC (L.drop kk) = entsC (L.take kk ++ ⟨s, t, a⟩ :: L.drop kk) := by unfold entsC; rw [List.flatMap_append, List.flatMap_cons, List.append_assoc]
          have e2 : kk + 1 + (L.length - kk) = (L.take kk ++ (⟨s, t, a⟩ : Ent) :: L.drop kk).length := by have := HI0.out; rw [List.length_append, List.length_cons, List.length_take, List.length_drop]; omega
          have ho := HO36.out
          have hgz : g < w7.heap.size := H7.out.blk.lt
          have hs7 := HB7.out.size
          have hbs := HBS.out
          refine ⟨rfl, _, ⟨HR36.out.blk.set 4 _, own_mono (b := w7.heap.size) ?_ (by omega), fun hq => ?_⟩, ⟨?_, fun y hy => ?_⟩⟩
          · have h5 := own_fr ho ((Fr.refl [g] w36x).set (p := ⟨g, 4, none⟩) (by simp) (.slice p8 (kk + 1 + (L.length - kk)) c8)) (fun y hy => by have := own_base ho hy; simp; omega)
            rw [e1] at h5
            try rw [← e2]
            exact h5
          · have := own_base ho hq; omega
          · exact ((Fr.of_below HB7.out _).then (Fr.of_below HB36.out _)).set (p := ⟨g, 4, none⟩) (by simp) _
          · have := own_base ho hy; exact .inr (by omega)
      · have i5 : ¬ (kk : Int) < (L.length : Int) := by omega
        go_wp2
        refine wp_region_noPanic ?_
        refine wp_region_lastH (fun w' => w'.cell? ⟨g, 4, none⟩ = some (.slice (some ⟨q0, 0, none⟩) L.length c) ∧ w'.cell? ⟨B, 0, none⟩ = some (.int .i64 a.c) ∧ w'.cell? ⟨B, 1, none⟩ = some (.int .i64 a.r) ∧ w'.cell? ⟨B, 2, none⟩ = some (.int .i64 a.d) ∧ w'.cell? ⟨B, 3, none⟩ = some (.int .i64 a.p) ∧ Below w7.heap.size w7 w') 24 rfl rfl (by kernel_rfl) (by kernel_rfl) ⟨H7.out.blk.cell (j := 4) rfl, S7.out.cell (j := 0) rfl, S7.out.cell (j := 1) rfl, S7.out.cell (j := 2) rfl, S7.out.cell (j := 3) rfl, bl_drew (Below.refl _ _)⟩ (fun hHeld => ?_)
        have HB39 : Hid (Below w7.heap.size w7 w7.drew) := Lib.hid (bl_drew (Below.refl _ _))
        have HR39 := Lib.hid (H7.out.kept HB39.out)
        have hS39 : True := trivial
        obtain ⟨wd39, hwd⟩ : ∃ x, x = w7.drew := ⟨_, rfl⟩
        rw [← hwd] at hHeld HB39 HR39 ⊢
        clear hwd
        refine wpAnyH_take (i := 0) (v := ?v40) rfl (by kernel_rfl) (by kernel_rfl) (by kernel_rfl) (fun _ _ _ h => h) (Or.inl ⟨by rfl, ?hy40⟩) (by assumption) ?rest40
        case hy40 => (intro _ hSw; (try dsimp only at hSw); go_simp; (try with_reducible rfl))
        (try simp only [Act.put]); (try simp only [List.setIfInBounds_toArray]); (try simp only [List.set_cons_succ]); (try simp only [List.set_cons_zero])
        refine wpAnyH_take (i := 2) (v := ?v41) rfl (by kernel_rfl) (by kernel_rfl) (by kernel_rfl) (fun _ _ _ h => h) (Or.inl ⟨by rfl, ?hy41⟩) (by assumption) ?rest41
        case hy41 => (intro _ hSw; (try dsimp only at hSw); go_simp; (try with_reducible rfl))
        (try simp only [Act.put]); (try simp only [List.setIfInBounds_toArray]); (try simp only [List.set_cons_succ]); (try simp only [List.set_cons_zero])
        refine wpAnyH_take (i := 3) (v := ?v42) rfl (by kernel_rfl) (by kernel_rfl) (by kernel_rfl) (fun _ _ _ h => h) (Or.inl ⟨by rfl, ?hy42⟩) (by assumption) ?rest42
        case hy42 => (intro _ hSw; (try dsimp only at hSw); go_simp; (try with_reducible rfl))
        (try simp only [Act.put]); (try simp only [List.setIfInBounds_toArray]); (try simp only [List.set_cons_succ]); (try simp only [List.set_cons_zero])
        refine wpAnyH_take (i := 4) (v := ?v43) rfl (by kernel_rfl) (by kernel_rfl) (by kernel_rfl) (fun _ _ _ h => h) (Or.inl ⟨by rfl, ?hy43⟩) (by assumption) ?rest43
        case hy43 => (intro _ hSw; (try dsimp only at hSw); go_simp; (try with_reducible rfl))
        (try simp only [Act.put]); (try simp only [List.setIfInBounds_toArray]); (try simp only [List.set_cons_succ]); (try simp only [List.set_cons_zero])
        refine wpAnyH_take (i := 5) (v := ?v44) rfl (by kernel_rfl) (by kernel_rfl) (by kernel_rfl) (fun _ _ _ h => h) (Or.inl ⟨by rfl, ?hy44⟩) (by assumption) ?rest44
        case hy44 => (intro _ hSw; (try dsimp only at hSw); go_simp; (try with_reducible rfl))
        (try simp only [Act.put]); (try simp only [List.setIfInBounds_toArray]); (try simp only [List.set_cons_succ]); (try simp only [List.set_cons_zero])
        refine wpAnyH_take (i := 6) (v := ?v45) rfl (by kernel_rfl) (by kernel_rfl) (by kernel_rfl) (fun _ _ _ h => h) (Or.inl ⟨by rfl, ?hy45⟩) (by assumption) ?rest45
        case hy45 => (intro _ hSw; (try dsimp only at hSw); go_simp; (try with_reducible rfl))
        (try simp only [Act.put]); (try simp only [List.setIfInBounds_toArray]); (try simp only [List.set_cons_succ]); (try simp only [List.set_cons_zero])
        refine wpAnyH_take (i := 7) (v := ?v46) rfl (by kernel_rfl) (by kernel_rfl) (by kernel_rfl) (fun _ _ _ h => h) (Or.inl ⟨by rfl, ?hy46⟩) (by assumption) ?rest46
        case hy46 => (intro _ hSw; (try dsimp only at hSw); go_simp; (try with_reducible rfl))
        (try simp only [Act.put]); (try simp only [List.setIfInBounds_toArray]); (try simp only [List.set_cons_succ]); (try simp only [List.set_cons_zero])
        refine wpAnyH_take (i := 9) (v := ?v47) rfl (by kernel_rfl) (by kernel_rfl) (by kernel_rfl) (fun _ _ _ h => h) (Or.inl ⟨by rfl, ?hy47⟩) (by assumption) ?rest47
        case hy47 => (intro _ hSw; (try dsimp only at hSw); go_simp; (try with_reducible rfl))
        (try simp only [Act.put]); (try simp only [List.setIfInBounds_toArray]); (try simp only [List.set_cons_succ]); (try simp only [List.set_cons_zero])
        refine wpAnyH_take (i := 10) (v := ?v48) rfl (by kernel_rfl) (by kernel_rfl) (by kernel_rfl) (fun _ _ _ h => h) (Or.inl ⟨by rfl, ?hy48⟩) (by assumption) ?rest48
        case hy48 => (intro _ hSw; (try dsimp only at hSw); go_simp; (try with_reducible rfl))
        (try simp only [Act.put]); (try simp only [List.setIfInBounds_toArray]); (try simp only [List.set_cons_succ]); (try simp only [List.set_cons_zero])
        refine wpAnyH_take (i := 11) (v := ?v49) rfl (by kernel_rfl) (by kernel_rfl) (by kernel_rfl) (fun _ _ _ h => h) (Or.inl ⟨by rfl, ?hy49⟩) (by assumption) ?rest49
        case hy49 => (intro _ hSw; (try dsimp only at hSw); go_simp; (try with_reducible rfl))
        (try simp only [Act.put]); (try simp only [List.setIfInBounds_toArray]); (try simp only [List.set_cons_succ]); (try simp only [List.set_cons_zero])
        refine wpAnyH_take (i := 12) (v := ?v50) rfl (by kernel_rfl) (by kernel_rfl) (by kernel_rfl) (fun _ _ _ h => h) (Or.inl ⟨by rfl, ?hy50⟩) (by assumption) ?rest50
        case hy50 => (intro _ hSw; (try dsimp only at hSw); go_simp; (try with_reducible rfl))
        (try simp only [Act.put]); (try simp only [List.setIfInBounds_toArray]); (try simp only [List.set_cons_succ]); (try simp only [List.set_cons_zero])
        refine wpAnyH_take (i := 15) (v := ?v51) rfl (by kernel_rfl) (by kernel_rfl) (by kernel_rfl) (fun _ _ _ h => h) (Or.inl ⟨by rfl, ?hy51⟩) (by assumption) ?rest51
        case hy51 => (intro _ hSw; (try dsimp only at hSw); go_simp; (try with_reducible rfl))
        (try simp only [Act.put]); (try simp only [List.setIfInBounds_toArray]); (try simp only [List.set_cons_succ]); (try simp only [List.set_cons_zero])
        refine wpAnyH_take (i := 16) (v := ?v52) rfl (by kernel_rfl) (by kernel_rfl) (by kernel_rfl) (fun _ _ _ h => h) (Or.inl ⟨by rfl, ?hy52⟩) (by assumption) ?rest52
        case hy52 => (intro _ hSw; (try dsimp only at hSw); go_simp; (try with_reducible rfl))
        (try simp only [Act.put]); (try simp only [List.setIfInBounds_toArray]); (try simp only [List.set_cons_succ]); (try simp only [List.set_cons_zero])
        refine wpAnyH_take (i := 17) (v := ?v53) rfl (by kernel_rfl) (by kernel_rfl) (by kernel_rfl) (fun _ _ _ h => h) (Or.inl ⟨by rfl, ?hy53⟩) (by assumption) ?rest53
        case hy53 => (intro _ hSw; (try dsimp only at hSw); go_simp; (try with_reducible rfl))
        (try simp only [Act.put]); (try simp only [List.setIfInBounds_toArray]); (try simp only [List.set_cons_succ]); (try simp only [List.set_cons_zero])
        refine wpAnyH_take (i := 18) (v := ?v54) rfl (by kernel_rfl) (by kernel_rfl) (by kernel_rfl) (fun _ _ _ h => h) (Or.inl ⟨by rfl, ?hy54⟩) (by assumption) ?rest54
        case hy54 => (intro _ hSw; (try dsimp only at hSw); go_simp; (try with_reducible rfl))
        (try simp only [Act.put]); (try simp only [List.setIfInBounds_toArray]); (try simp only [List.set_cons_succ]); (try simp only [List.set_cons_zero])
        refine wpAnyH_take (i := 19) (v := ?v55) rfl (by kernel_rfl) (by kernel_rfl) (by kernel_rfl) (fun _ _ _ h => h) (Or.inl ⟨by rfl, ?hy55⟩) (by assumption) ?rest55
        case hy55 => (intro _ hSw; (try dsimp only at hSw); go_simp; (try with_reducible rfl))
        (try simp only [Act.put]); (try simp only [List.setIfInBounds_toArray]); (try simp only [List.set_cons_succ]); (try simp only [List.set_cons_zero])
        refine wpAnyH_take (i := 20) (v := ?v56) rfl (by kernel_rfl) (by kernel_rfl) (by kernel_rfl) (fun _ _ _ h => h) (Or.inl ⟨by rfl, ?hy56⟩) (by assumption) ?rest56
        case hy56 => (intro _ hSw; (try dsimp only at hSw); go_simp; (try with_reducible rfl))
        (try simp only [Act.put]); (try simp only [List.setIfInBounds_toArray]); (try simp only [List.set_cons_succ]); (try simp only [List.set_cons_zero])
        refine wpAnyH_ready (rs := [1, 13]) (by kernel_rfl) (by simp) ?_
        refine (AllReadyH.cons rfl (fun K hK => ?_) (AllReadyH.cons rfl (fun K hK => ?_) AllReadyH.nil))
        · (try simp only [List.getElem_toArray]); (try simp only [List.getElem_cons_succ]); (try simp only [List.getElem_cons_zero])
          go_simp
          obtain ⟨w57x, hw57⟩ : ∃ x, x = wd39.alloc (.cells #[] 48) := ⟨_, rfl⟩
          obtain ⟨z57, hz57⟩ : ∃ x, x = wd39.heap.size := ⟨_, rfl⟩
          have hn57 : Below wd39.heap.size wd39 w57x := by rw [hw57]; exact below_alloc _ _
          have hb57 : Below w7.heap.size w7 w57x := below_and HB39.out hn57
          have HB57 := Lib.hid hb57
          have HO57 : Hid (w57x.ownsRow w7.heap.size 48 6 (.slice (some ⟨z57, 0, none⟩) 0 0) 0 []) := Lib.hid (by rw [hw57, hz57]; exact World.ownsRow_made wd39 #[] 0 HB39.out.size (by decide) rfl)
          rw [← hw57, ← hz57]
          have HR57 := Lib.hid (H7.out.kept hb57)
          have HS57 := Lib.hid (S7.out.kept hb57)
          refine hK.out _ _ ⟨HR57.out.blk.cell (j := 4) rfl, HS57.out.cell (j := 0) rfl, HS57.out.cell (j := 1) rfl, HS57.out.cell (j := 2) rfl, HS57.out.cell (j := 3) rfl, hb57⟩ (fun hS57 => ?_)
          clear hK K hb57 hw57 hz57 hn57 hS39
          (try simp only [Act.put]); (try simp only [List.setIfInBounds_toArray]); (try simp only [List.set_cons_succ]); (try simp only [List.set_cons_zero])
          refine wpAnyH_ready (rs := [8, 13]) (by kernel_rfl) (by simp) ?_
          refine (AllReadyH.cons rfl (fun K hK => ?_) (AllReadyH.cons rfl (fun K hK => ?_) AllReadyH.nil))
          · refine step_app rfl (.tmp 72) (.tmp 78) 56 56 rfl w7.heap.size 48 i0x (entV zE) 6 64 Try.underlying56 hi hz0 hz1 hz2 rfl (.slice (some ⟨z57, 0, none⟩) 0 0) 0 [] (by rfl) HO57.out (.slice (some ⟨q0, 0, none⟩) kk c) kk (entsC (L.take kk)) (by rfl) (Row.src Try.underlying56 (by have := row_part HR57.out.row (entsC_one L) (o := 0) (m := kk) (c' := c) (by have := HI0.out; omega) (by have := HI0.out; omega) hm (some ⟨q0, 0, none⟩) (by simp) (fun _ => by simp); rw [entsC_first HI0.out] at this; exact this)) (by have := HL.out; have := HI0.out; unfold maxLen; omega) (by have := HL.out; have := HI0.out; omega) HB57.out.size ?_
            intro v58 w58x ho58 hg58 hn58 hk58
            have HO58 : Hid (w58x.ownsRow w7.heap.size 48 6 v58 kk (entsC (L.take kk))) := Lib.hid (by simpa using ho58)
            have hb58 : Below w7.heap.size w7 w58x := HB57.out.trans ((Fr.of_grown hg58).below (by intro y hy; exact own_base HO57.out (Option.mem_toList.1 hy)) HB57.out.size)
            have HB58 := Lib.hid hb58
            have HR58 := Lib.hid (H7.out.kept hb58)
            have HS58 := Lib.hid (S7.out.kept hb58)
            refine hK.out _ _ ⟨HR58.out.blk.cell (j := 4) rfl, HS58.out.cell (j := 0) rfl, HS58.out.cell (j := 1) rfl, HS58.out.cell (j := 2) rfl, HS58.out.cell (j := 3) rfl, hb58⟩ (fun hS58 => ?_)
            clear hK K hb58 ho58 hg58 hn58 hk58 hS57
            (try simp only [Act.put]); (try simp only [List.setIfInBounds_toArray]); (try simp only [List.set_cons_succ]); (try simp only [List.set_cons_zero])
            refine wpAnyH_ready (rs := [13]) (by kernel_rfl) (by simp) ?_
            refine (AllReadyH.cons rfl (fun K hK => ?_) AllReadyH.nil)
            (try simp only [List.getElem_toArray]); (try simp only [List.getElem_cons_succ]); (try simp only [List.getElem_cons_zero])
            go_simp
            obtain ⟨w59x, hw59⟩ : ∃ x, x = w58x.alloc (.cells #[.string s, .string t, .int .i64 a.c, .int .i64 a.r, .int .i64 a.d, .int .i64 a.p] 48) := ⟨_, rfl⟩
            obtain ⟨z59, hz59⟩ : ∃ x, x = w58x.heap.size := ⟨_, rfl⟩
            have hn59 : Below w58x.heap.size w58x w59x := by rw [hw59]; exact below_alloc _ _
            have hb59 : Below w7.heap.size w7 w59x := below_and HB58.out hn59
            have HB59 := Lib.hid hb59
            have HY59 : Hid (Blk w59x z59 (entC ⟨s, t, a⟩) 48) := Lib.hid (by rw [hw59, hz59]; exact Blk.made w58x (entC ⟨s, t, a⟩) _)
            have HO59 := Lib.hid (own_fr HO58.out (Fr.of_below hn59 []) (fun _ _ => by simp))
            have HNE59 : Hid (∀ q, (v58 : Value).ownBlock = some q → q ≠ z59) := Lib.hid (fun q hq => by have := own_lt HO58.out hq; omega)
            rw [← hw59, ← hz59]
            have HR59 := Lib.hid (H7.out.kept hb59)
            have HS59 := Lib.hid (S7.out.kept hb59)
            refine hK.out _ _ ⟨HR59.out.blk.cell (j := 4) rfl, HS59.out.cell (j := 0) rfl, HS59.out.cell (j := 1) rfl, HS59.out.cell (j := 2) rfl, HS59.out.cell (j := 3) rfl, hb59⟩ (fun hS59 => ?_)
            clear hK K hb59 hw59 hz59 hn59 hS58
            (try simp only [Act.put]); (try simp only [List.setIfInBounds_toArray]); (try simp only [List.set_cons_succ]); (try simp only [List.set_cons_zero])
            refine wpAnyH_ready (rs := [14]) (by kernel_rfl) (by simp) ?_
            refine (AllReadyH.cons rfl (fun K hK => ?_) AllReadyH.nil)
            refine step_app rfl (.tmp 79) (.tmp 84) 56 56 rfl w7.heap.size 48 i0x (entV zE) 6 64 Try.underlying56 hi hz0 hz1 hz2 rfl v58 kk (entsC (L.take kk)) (by rfl) HO59.out (.slice (some ⟨z59, 0, none⟩) 1 1) 1 (entC ⟨s, t, a⟩) (by rfl) (src_block Try.underlying56 _ z59 (entC ⟨s, t, a⟩).toArray HY59.out rfl (entC_one ⟨s, t, a⟩)) (by have := HL.out; have := HI0.out; unfold maxLen; omega) (by have := HL.out; have := HI0.out; omega) HB59.out.size ?_
            intro v60 w60x ho60 hg60 hn60 hk60
            have HO60 : Hid (w60x.ownsRow w7.heap.size 48 6 v60 (kk + 1) (entsC (L.take kk) ++ entC ⟨s, t, a⟩)) := Lib.hid (ho60)
            have hb60 : Below w7.heap.size w7 w60x := HB59.out.trans ((Fr.of_grown hg60).below (by intro y hy; exact own_base HO59.out (Option.mem_toList.1 hy)) HB59.out.size)
            have HB60 := Lib.hid hb60
            have HR60 := Lib.hid (H7.out.kept hb60)
            have HS60 := Lib.hid (S7.out.kept hb60)
            refine hK.out _ _ ⟨HR60.out.blk.cell (j := 4) rfl, HS60.out.cell (j := 0) rfl, HS60.out.cell (j := 1) rfl, HS60.out.cell (j := 2) rfl, HS60.out.cell (j := 3) rfl, hb60⟩ (fun hS60 => ?_)
            clear hK K hb60 ho60 hg60 hn60 hk60 hS59
            (try simp only [Act.put]); (try simp only [List.setIfInBounds_toArray]); (try simp only [List.set_cons_succ]); (try simp only [List.set_cons_zero])
            refine wpAnyH_ready (rs := [21]) (by kernel_rfl) (by simp) ?_
            refine (AllReadyH.cons rfl (fun K hK => ?_) AllReadyH.nil)
            refine step_app rfl (.tmp 85) (.tmp 91) 56 56 rfl w7.heap.size 48 i0x (entV zE) 6 64 Try.underlying56 hi hz0 hz1 hz2 rfl v60 (kk + 1) (entsC (L.take kk) ++ entC ⟨s, t, a⟩) (by rfl) HO60.out (.slice (if c = kk then some ⟨q0, 0, none⟩ else some ⟨q0, kk * 6, none⟩) (L.length - kk) (c - kk)) (L.length - kk) (entsC (L.drop kk)) (by rfl) (Row.src Try.underlying56 (by have := row_part HR60.out.row (entsC_one L) (o := kk) (m := L.length - kk) (c' := c - kk) (by have := HI0.out; omega) (by omega) (by omega) (if c = kk then some ⟨q0, 0, none⟩ else some ⟨q0, kk * 6, none⟩) (by split <;> simp) (fun _ => by rw [if_neg (by have := HI0.out; omega)]); rw [entsC_from HI0.out] at this; exact this)) (by have := HL.out; have := HI0.out; unfold maxLen; omega) (by have := HL.out; have := HI0.out; omega) HB60.out.size ?_
            intro v61 w61x ho61 hg61 hn61 hk61
            have HO61 : Hid (w61x.ownsRow w7.heap.size 48 6 v61 (kk + 1 + (L.length - kk)) (entsC (L.take kk) ++ entC ⟨s, t, a⟩ ++ entsC (L.drop kk))) := Lib.hid (ho61)
            have hb61 : Below w7.heap.size w7 w61x := HB60.out.trans ((Fr.of_grown hg61).below (by intro y hy; exact own_base HO60.out (Option.mem_toList.1 hy)) HB60.out.size)
            have HB61 := Lib.hid hb61
            have HR61 := Lib.hid (H7.out.kept hb61)
            have HS61 := Lib.hid (S7.out.kept hb61)
            refine hK.out _ _ ⟨HR61.out.blk.cell (j := 4) rfl, HS61.out.cell (j := 0) rfl, HS61.out.cell (j := 1) rfl, HS61.out.cell (j := 2) rfl, HS61.out.cell (j := 3) rfl, hb61⟩ (fun hS61 => ?_)
            clear hK K hb61 ho61 hg61 hn61 hk61 hS60
            (try simp only [Act.put]); (try simp only [List.setIfInBounds_toArray]); (try simp only [List.set_cons_succ]); (try simp only [List.set_cons_zero])
            refine wpAnyH_take (i := 22) (v := ?v62) rfl (by kernel_rfl) (by kernel_rfl) (by kernel_rfl) (fun _ _ _ h => h) (Or.inl ⟨by rfl, ?hy62⟩) (by assumption) ?rest62
            case hy62 => (intro _ hSw; (try dsimp only at hSw); go_simp; (try with_reducible rfl))
            (try simp only [Act.put]); (try simp only [List.setIfInBounds_toArray]); (try simp only [List.set_cons_succ]); (try simp only [List.set_cons_zero])
            refine wpAnyH_take (i := 23) (v := ?v63) rfl (by kernel_rfl) (by kernel_rfl) (by kernel_rfl) (fun _ _ _ h => h) (Or.inl ⟨by rfl, ?hy63⟩) (by assumption) ?rest63
            case hy63 => (intro _ hSw; (try dsimp only at hSw); go_simp; (try with_reducible rfl))
            (try simp only [Act.put]); (try simp only [List.setIfInBounds_toArray]); (try simp only [List.set_cons_succ]); (try simp only [List.set_cons_zero])
            refine wpAnyH_done (by kernel_rfl) ?_ _
            refine LastQ.start rfl ?_
            have d4 := HR61.out.blk.cell (j := 4) rfl
            have f4 := HR61.out.blk.free 4
            clear hS61 hHeld
            obtain ⟨p8, c8, rfl, -, -⟩ := own_slice HO61.out
            generalize (if c = kk then some (⟨q0, 0, none⟩ : Addr) else some ⟨q0, kk * 6, none⟩) = pp
            go_wp2
            refine NoPanic.normal ?_
            go_wp2
            go_ret
            have e1 : entsC (L.take kk) ++ entC ⟨s, t, a⟩ ++ entsC (L.drop kk) = entsC (L.take kk ++ ⟨s, t, a⟩ :: L.drop kk) := by unfold entsC; rw [List.flatMap_append, List.flatMap_cons, List.append_assoc]
            have e2 : kk + 1 + (L.length - kk) = (L.take kk ++ (⟨s, t, a⟩ : Ent) :: L.drop kk).length := by have := HI0.out; rw [List.length_append, List.length_cons, List.length_take, List.length_drop]; omega
            have ho := HO61.out
            have hgz : g < w7.heap.size := H7.out.blk.lt
            have hs7 := HB7.out.size
            have hbs := HBS.out
            refine ⟨rfl, _, ⟨HR61.out.blk.set 4 _, own_mono (b := w7.heap.size) ?_ (by omega), fun hq => ?_⟩, ⟨?_, fun y hy => ?_⟩⟩
            · have h5 := own_fr ho ((Fr.refl [g] w61x).set (p := ⟨g, 4, none⟩) (by simp) (.slice p8 (kk + 1 + (L.length - kk)) c8)) (fun y hy => by have := own_base ho hy; simp; omega)
              rw [e1] at h5
              try rw [← e2]
              exact h5
            · have := own_base ho hq; omega
            · exact ((Fr.of_below HB7.out _).then (Fr.of_below HB61.out _)).set (p := ⟨g, 4, none⟩) (by simp) _
            · have := own_base ho hy; exact .inr (by omega)
          · (try simp only [List.getElem_toArray]); (try simp only [List.getElem_cons_succ]); (try simp only [List.getElem_cons_zero])
            go_simp
            obtain ⟨w64x, hw64⟩ : ∃ x, x = w57x.alloc (.cells #[.string s, .string t, .int .i64 a.c, .int .i64 a.r, .int .i64 a.d, .int .i64 a.p] 48) := ⟨_, rfl⟩
            obtain ⟨z64, hz64⟩ : ∃ x, x = w57x.heap.size := ⟨_, rfl⟩
            have hn64 : Below w57x.heap.size w57x w64x := by rw [hw64]; exact below_alloc _ _
            have hb64 : Below w7.heap.size w7 w64x := below_and HB57.out hn64
            have HB64 := Lib.hid hb64
            have HY64 : Hid (Blk w64x z64 (entC ⟨s, t, a⟩) 48) := Lib.hid (by rw [hw64, hz64]; exact Blk.made w57x (entC ⟨s, t, a⟩) _)
            have HO64 := Lib.hid (own_fr HO57.out (Fr.of_below hn64 []) (fun _ _ => by simp))
            have HNE64 : Hid (∀ q, ((.slice (some ⟨z57, 0, none⟩) 0 0) : Value).ownBlock = some q → q ≠ z64) := Lib.hid (fun q hq => by have := own_lt HO57.out hq; omega)
            rw [← hw64, ← hz64]
            have HR64 := Lib.hid (H7.out.kept hb64)
            have HS64 := Lib.hid (S7.out.kept hb64)
            refine hK.out _ _ ⟨HR64.out.blk.cell (j := 4) rfl, HS64.out.cell (j := 0) rfl, HS64.out.cell (j := 1) rfl, HS64.out.cell (j := 2) rfl, HS64.out.cell (j := 3) rfl, hb64⟩ (fun hS64 => ?_)
            clear hK K hb64 hw64 hz64 hn64 hS57
            (try simp only [Act.put]); (try simp only [List.setIfInBounds_toArray]); (try simp only [List.set_cons_succ]); (try simp only [List.set_cons_zero])
            refine wpAnyH_ready (rs := [8]) (by kernel_rfl) (by simp) ?_
            refine (AllReadyH.cons rfl (fun K hK => ?_) AllReadyH.nil)
            refine step_app rfl (.tmp 72) (.tmp 78) 56 56 rfl w7.heap.size 48 i0x (entV zE) 6 64 Try.underlying56 hi hz0 hz1 hz2 rfl (.slice (some ⟨z57, 0, none⟩) 0 0) 0 [] (by rfl) HO64.out (.slice (some ⟨q0, 0, none⟩) kk c) kk (entsC (L.take kk)) (by rfl) (Row.src Try.underlying56 (by have := row_part HR64.out.row (entsC_one L) (o := 0) (m := kk) (c' := c) (by have := HI0.out; omega) (by have := HI0.out; omega) hm (some ⟨q0, 0, none⟩) (by simp) (fun _ => by simp); rw [entsC_first HI0.out] at this; exact this)) (by have := HL.out; have := HI0.out; unfold maxLen; omega) (by have := HL.out; have := HI0.out; omega) HB64.out.size ?_
            intro v65 w65x ho65 hg65 hn65 hk65
            have HO65 : Hid (w65x.ownsRow w7.heap.size 48 6 v65 kk (entsC (L.take kk))) := Lib.hid (by simpa using ho65)
            have hb65 : Below w7.heap.size w7 w65x := HB64.out.trans ((Fr.of_grown hg65).below (by intro y hy; exact own_base HO64.out (Option.mem_toList.1 hy)) HB64.out.size)
            have HB65 := Lib.hid hb65
            have HY65 := Lib.hid (HY64.out.fr (Fr.of_grown hg65) (fun hm => HNE64.out _ (Option.mem_toList.1 hm) rfl))
            have HNE65 : Hid (∀ q, v65.ownBlock = some q → q ≠ z64) := Lib.hid (fun q hq => by rcases hk65 q hq with h1 | h1; exact HNE64.out q h1; have := HY64.out.lt; omega)
            have HR65 := Lib.hid (H7.out.kept hb65)
            have HS65 := Lib.hid (S7.out.kept hb65)
            refine hK.out _ _ ⟨HR65.out.blk.cell (j := 4) rfl, HS65.out.cell (j := 0) rfl, HS65.out.cell (j := 1) rfl, HS65.out.cell (j := 2) rfl, HS65.out.cell (j := 3) rfl, hb65⟩ (fun hS65 => ?_)
            clear hK K hb65 ho65 hg65 hn65 hk65 hS64
            (try simp only [Act.put]); (try simp only [List.setIfInBounds_toArray]); (try simp only [List.set_cons_succ]); (try simp only [List.set_cons_zero])
            refine wpAnyH_ready (rs := [14]) (by kernel_rfl) (by simp) ?_
            refine (AllReadyH.cons rfl (fun K hK => ?_) AllReadyH.nil)
            refine step_app rfl (.tmp 79) (.tmp 84) 56 56 rfl w7.heap.size 48 i0x (entV zE) 6 64 Try.underlying56 hi hz0 hz1 hz2 rfl v65 kk (entsC (L.take kk)) (by rfl) HO65.out (.slice (some ⟨z64, 0, none⟩) 1 1) 1 (entC ⟨s, t, a⟩) (by rfl) (src_block Try.underlying56 _ z64 (entC ⟨s, t, a⟩).toArray HY65.out rfl (entC_one ⟨s, t, a⟩)) (by have := HL.out; have := HI0.out; unfold maxLen; omega) (by have := HL.out; have := HI0.out; omega) HB65.out.size ?_
            intro v66 w66x ho66 hg66 hn66 hk66
            have HO66 : Hid (w66x.ownsRow w7.heap.size 48 6 v66 (kk + 1) (entsC (L.take kk) ++ entC ⟨s, t, a⟩)) := Lib.hid (ho66)
            have hb66 : Below w7.heap.size w7 w66x := HB65.out.trans ((Fr.of_grown hg66).below (by intro y hy; exact own_base HO65.out (Option.mem_toList.1 hy)) HB65.out.size)
            have HB66 := Lib.hid hb66
            have HR66 := Lib.hid (H7.out.kept hb66)
            have HS66 := Lib.hid (S7.out.kept hb66)
            refine hK.out _ _ ⟨HR66.out.blk.cell (j := 4) rfl, HS66.out.cell (j := 0) rfl, HS66.out.cell (j := 1) rfl, HS66.out.cell (j := 2) rfl, HS66.out.cell (j := 3) rfl, hb66⟩ (fun hS66 => ?_)
            clear hK K hb66 ho66 hg66 hn66 hk66 hS65
            (try simp only [Act.put]); (try simp only [List.setIfInBounds_toArray]); (try simp only [List.set_cons_succ]); (try simp only [List.set_cons_zero])
            refine wpAnyH_ready (rs := [21]) (by kernel_rfl) (by simp) ?_
            refine (AllReadyH.cons rfl (fun K hK => ?_) AllReadyH.nil)
            refine step_app rfl (.tmp 85) (.tmp 91) 56 56 rfl w7.heap.size 48 i0x (entV zE) 6 64 Try.underlying56 hi hz0 hz1 hz2 rfl v66 (kk + 1) (entsC (L.take kk) ++ entC ⟨s, t, a⟩) (by rfl) HO66.out (.slice (if c = kk then some ⟨q0, 0, none⟩ else some ⟨q0, kk * 6, none⟩) (L.length - kk) (c - kk)) (L.length - kk) (entsC (L.drop kk)) (by rfl) (Row.src Try.underlying56 (by have := row_part HR66.out.row (entsC_one L) (o := kk) (m := L.length - kk) (c' := c - kk) (by have := HI0.out; omega) (by omega) (by omega) (if c = kk then some ⟨q0, 0, none⟩ else some ⟨q0, kk * 6, none⟩) (by split <;> simp) (fun _ => by rw [if_neg (by have := HI0.out; omega)]); rw [entsC_from HI0.out] at this; exact this)) (by have := HL.out; have := HI0.out; unfold maxLen; omega) (by have := HL.out; have := HI0.out; omega) HB66.out.size ?_
            intro v67 w67x ho67 hg67 hn67 hk67
            have HO67 : Hid (w67x.ownsRow w7.heap.size 48 6 v67 (kk + 1 + (L.length - kk)) (entsC (L.take kk) ++ entC ⟨s, t, a⟩ ++ entsC (L.drop kk))) := Lib.hid (ho67)
            have hb67 : Below w7.heap.size w7 w67x := HB66.out.trans ((Fr.of_grown hg67).below (by intro y hy; exact own_base HO66.out (Option.mem_toList.1 hy)) HB66.out.size)
            have HB67 := Lib.hid hb67
            have HR67 := Lib.hid (H7.out.kept hb67)
            have HS67 := Lib.hid (S7.out.kept hb67)
            refine hK.out _ _ ⟨HR67.out.blk.cell (j := 4) rfl, HS67.out.cell (j := 0) rfl, HS67.out.cell (j := 1) rfl, HS67.out.cell (j := 2) rfl, HS67.out.cell (j := 3) rfl, hb67⟩ (fun hS67 => ?_)
            clear hK K hb67 ho67 hg67 hn67 hk67 hS66
            (try simp only [Act.put]); (try simp only [List.setIfInBounds_toArray]); (try simp only [List.set_cons_succ]); (try simp only [List.set_cons_zero])
            refine wpAnyH_take (i := 22) (v := ?v68) rfl (by kernel_rfl) (by kernel_rfl) (by kernel_rfl) (fun _ _ _ h => h) (Or.inl ⟨by rfl, ?hy68⟩) (by assumption) ?rest68
            case hy68 => (intro _ hSw; (try dsimp only at hSw); go_simp; (try with_reducible rfl))
            (try simp only [Act.put]); (try simp only [List.setIfInBounds_toArray]); (try simp only [List.set_cons_succ]); (try simp only [List.set_cons_zero])
            refine wpAnyH_take (i := 23) (v := ?v69) rfl (by kernel_rfl) (by kernel_rfl) (by kernel_rfl) (fun _ _ _ h => h) (Or.inl ⟨by rfl, ?hy69⟩) (by assumption) ?rest69
            case hy69 => (intro _ hSw; (try dsimp only at hSw); go_simp; (try with_reducible rfl))
            (try simp only [Act.put]); (try simp only [List.setIfInBounds_toArray]); (try simp only [List.set_cons_succ]); (try simp only [List.set_cons_zero])
            refine wpAnyH_done (by kernel_rfl) ?_ _
            refine LastQ.start rfl ?_
            have d4 := HR67.out.blk.cell (j := 4) rfl
            have f4 := HR67.out.blk.free 4
            clear hS67 hHeld
            obtain ⟨p8, c8, rfl, -, -⟩ := own_slice HO67.out
            generalize (if c = kk then some (⟨q0, 0, none⟩ : Addr) else some ⟨q0, kk * 6, none⟩) = pp
            go_wp2
            refine NoPanic.normal ?_
            go_wp2
            go_ret
            have e1 : entsC (L.take kk) ++ entC ⟨s, t, a⟩ ++ entsC (L.drop kk) = entsC (L.take kk ++ ⟨s, t, a⟩ :: L.drop kk) := by unfold entsC; rw [List.flatMap_append, List.flatMap_cons, List.append_assoc]
            have e2 : kk + 1 + (L.length - kk) = (L.take kk ++ (⟨s, t, a⟩ : Ent) :: L.drop kk).length := by have := HI0.out; rw [List.length_append, List.length_cons, List.length_take, List.length_drop]; omega
            have ho := HO67.out
            have hgz : g < w7.heap.size := H7.out.blk.lt
            have hs7 := HB7.out.size
            have hbs := HBS.out
            refine ⟨rfl, _, ⟨HR67.out.blk.set 4 _, own_mono (b := w7.heap.size) ?_ (by omega), fun hq => ?_⟩, ⟨?_, fun y hy => ?_⟩⟩
            · have h5 := own_fr ho ((Fr.refl [g] w67x).set (p := ⟨g, 4, none⟩) (by simp) (.slice p8 (kk + 1 + (L.length - kk)) c8)) (fun y hy => by have := own_base ho hy; simp; omega)
              rw [e1] at h5
              try rw [← e2]
              exact h5
            · have := own_base ho hq; omega
            · exact ((Fr.of_below HB7.out _).then (Fr.of_below HB67.out _)).set (p := ⟨g, 4, none⟩) (by simp) _
            · have := own_base ho hy; exact .inr (by omega)
        · (try simp only [List.getElem_toArray]); (try simp only [List.getElem_cons_succ]); (try simp only [List.getElem_cons_zero])
          go_simp
          obtain ⟨w70x, hw70⟩ : ∃ x, x = wd39.alloc (.cells #[.string s, .string t, .int .i64 a.c, .int .i64 a.r, .int .i64 a.d, .int .i64 a.p] 48) := ⟨_, rfl⟩
          obtain ⟨z70, hz70⟩ : ∃ x, x = wd39.heap.size := ⟨_, rfl⟩
          have hn70 : Below wd39.heap.size wd39 w70x := by rw [hw70]; exact below_alloc _ _
          have hb70 : Below w7.heap.size w7 w70x := below_and HB39.out hn70
          have HB70 := Lib.hid hb70
          have HY70 : Hid (Blk w70x z70 (entC ⟨s, t, a⟩) 48) := Lib.hid (by rw [hw70, hz70]; exact Blk.made wd39 (entC ⟨s, t, a⟩) _)
          rw [← hw70, ← hz70]
          have HR70 := Lib.hid (H7.out.kept hb70)
          have HS70 := Lib.hid (S7.out.kept hb70)
          refine hK.out _ _ ⟨HR70.out.blk.cell (j := 4) rfl, HS70.out.cell (j := 0) rfl, HS70.out.cell (j := 1) rfl, HS70.out.cell (j := 2) rfl, HS70.out.cell (j := 3) rfl, hb70⟩ (fun hS70 => ?_)
          clear hK K hb70 hw70 hz70 hn70 hS39
          (try simp only [Act.put]); (try simp only [List.setIfInBounds_toArray]); (try simp only [List.set_cons_succ]); (try simp only [List.set_cons_zero])
          refine wpAnyH_ready (rs := [1]) (by kernel_rfl) (by simp) ?_
          refine (AllReadyH.cons rfl (fun K hK => ?_) AllReadyH.nil)
          (try simp only [List.getElem_toArray]); (try simp only [List.getElem_cons_succ]); (try simp only [List.getElem_cons_zero])
          go_simp
          obtain ⟨w71x, hw71⟩ : ∃ x, x = w70x.alloc (.cells #[] 48) := ⟨_, rfl⟩
          obtain ⟨z71, hz71⟩ : ∃ x, x = w70x.heap.size := ⟨_, rfl⟩
          have hn71 : Below w70x.heap.size w70x w71x := by rw [hw71]; exact below_alloc _ _
          have hb71 : Below w7.heap.size w7 w71x := below_and HB70.out hn71
          have HB71 := Lib.hid hb71
          have HO71 : Hid (w71x.ownsRow w7.heap.size 48 6 (.slice (some ⟨z71, 0, none⟩) 0 0) 0 []) := Lib.hid (by rw [hw71, hz71]; exact World.ownsRow_made w70x #[] 0 HB70.out.size (by decide) rfl)
          have HY71 := Lib.hid (HY70.out.kept hn71)
          have HNE71 : Hid (∀ q, (Value.slice (some ⟨z71, 0, none⟩) 0 0).ownBlock = some q → q ≠ z70) := Lib.hid (fun q hq => by simp [Value.ownBlock] at hq; have := HY70.out.lt; omega)
          rw [← hw71, ← hz71]
          have HR71 := Lib.hid (H7.out.kept hb71)
          have HS71 := Lib.hid (S7.out.kept hb71)
          refine hK.out _ _ ⟨HR71.out.blk.cell (j := 4) rfl, HS71.out.cell (j := 0) rfl, HS71.out.cell (j := 1) rfl, HS71.out.cell (j := 2) rfl, HS71.out.cell (j := 3) rfl, hb71⟩ (fun hS71 => ?_)
          clear hK K hb71 hw71 hz71 hn71 hS70
          (try simp only [Act.put]); (try simp only [List.setIfInBounds_toArray]); (try simp only [List.set_cons_succ]); (try simp only [List.set_cons_zero])
          refine wpAnyH_ready (rs := [8]) (by kernel_rfl) (by simp) ?_
          refine (AllReadyH.cons rfl (fun K hK => ?_) AllReadyH.nil)
          refine step_app rfl (.tmp 72) (.tmp 78) 56 56 rfl w7.heap.size 48 i0x (entV zE) 6 64 Try.underlying56 hi hz0 hz1 hz2 rfl (.slice (some ⟨z71, 0, none⟩) 0 0) 0 [] (by rfl) HO71.out (.slice (some ⟨q0, 0, none⟩) kk c) kk (entsC (L.take kk)) (by rfl) (Row.src Try.underlying56 (by have := row_part HR71.out.row (entsC_one L) (o := 0) (m := kk) (c' := c) (by have := HI0.out; omega) (by have := HI0.out; omega) hm (some ⟨q0, 0, none⟩) (by simp) (fun _ => by simp); rw [entsC_first HI0.out] at this; exact this)) (by have := HL.out; have := HI0.out; unfold maxLen; omega) (by have := HL.out; have := HI0.out; omega) HB71.out.size ?_
          intro v72 w72x ho72 hg72 hn72 hk72
          have HO72 : Hid (w72x.ownsRow w7.heap.size 48 6 v72 kk (entsC (L.take kk))) := Lib.hid (by simpa using ho72)
          have hb72 : Below w7.heap.size w7 w72x := HB71.out.trans ((Fr.of_grown hg72).below (by intro y hy; exact own_base HO71.out (Option.mem_toList.1 hy)) HB71.out.size)
          have HB72 := Lib.hid hb72
          have HY72 := Lib.hid (HY71.out.fr (Fr.of_grown hg72) (fun hm => HNE71.out _ (Option.mem_toList.1 hm) rfl))
          have HNE72 : Hid (∀ q, v72.ownBlock = some q → q ≠ z70) := Lib.hid (fun q hq => by rcases hk72 q hq with h1 | h1; exact HNE71.out q h1; have := HY71.out.lt; omega)
          have HR72 := Lib.hid (H7.out.kept hb72)
          have HS72 := Lib.hid (S7.out.kept hb72)
          refine hK.out _ _ ⟨HR72.out.blk.cell (j := 4) rfl, HS72.out.cell (j := 0) rfl, HS72.out.cell (j := 1) rfl, HS72.out.cell (j := 2) rfl, HS72.out.cell (j := 3) rfl, hb72⟩ (fun hS72 => ?_)
          clear hK K hb72 ho72 hg72 hn72 hk72 hS71
          (try simp only [Act.put]); (try simp only [List.setIfInBounds_toArray]); (try simp only [List.set_cons_succ]); (try simp only [List.set_cons_zero])
          refine wpAnyH_ready (rs := [14]) (by kernel_rfl) (by simp) ?_
          refine (AllReadyH.cons rfl (fun K hK => ?_) AllReadyH.nil)
          refine step_app rfl (.tmp 79) (.tmp 84) 56 56 rfl w7.heap.size 48 i0x (entV zE) 6 64 Try.underlying56 hi hz0 hz1 hz2 rfl v72 kk (entsC (L.take kk)) (by rfl) HO72.out (.slice (some ⟨z70, 0, none⟩) 1 1) 1 (entC ⟨s, t, a⟩) (by rfl) (src_block Try.underlying56 _ z70 (entC ⟨s, t, a⟩).toArray HY72.out rfl (entC_one ⟨s, t, a⟩)) (by have := HL.out; have := HI0.out; unfold maxLen; omega) (by have := HL.out; have := HI0.out; omega) HB72.out.size ?_
          intro v73 w73x ho73 hg73 hn73 hk73
          have HO73 : Hid (w73x.ownsRow w7.heap.size 48 6 v73 (kk + 1) (entsC (L.take kk) ++ entC ⟨s, t, a⟩)) := Lib.hid (ho73)
          have hb73 : Below w7.heap.size w7 w73x := HB72.out.trans ((Fr.of_grown hg73).below (by intro y hy; exact own_base HO72.out (Option.mem_toList.1 hy)) HB72.out.size)
          have HB73 := Lib.hid hb73
          have HR73 := Lib.hid (H7.out.kept hb73)
          have HS73 := Lib.hid (S7.out.kept hb73)
          refine hK.out _ _ ⟨HR73.out.blk.cell (j := 4) rfl, HS73.out.cell (j := 0) rfl, HS73.out.cell (j := 1) rfl, HS73.out.cell (j := 2) rfl, HS73.out.cell (j := 3) rfl, hb73⟩ (fun hS73 => ?_)
          clear hK K hb73 ho73 hg73 hn73 hk73 hS72
          (try simp only [Act.put]); (try simp only [List.setIfInBounds_toArray]); (try simp only [List.set_cons_succ]); (try simp only [List.set_cons_zero])
          refine wpAnyH_ready (rs := [21]) (by kernel_rfl) (by simp) ?_
          refine (AllReadyH.cons rfl (fun K hK => ?_) AllReadyH.nil)
          refine step_app rfl (.tmp 85) (.tmp 91) 56 56 rfl w7.heap.size 48 i0x (entV zE) 6 64 Try.underlying56 hi hz0 hz1 hz2 rfl v73 (kk + 1) (entsC (L.take kk) ++ entC ⟨s, t, a⟩) (by rfl) HO73.out (.slice (if c = kk then some ⟨q0, 0, none⟩ else some ⟨q0, kk * 6, none⟩) (L.length - kk) (c - kk)) (L.length - kk) (entsC (L.drop kk)) (by rfl) (Row.src Try.underlying56 (by have := row_part HR73.out.row (entsC_one L) (o := kk) (m := L.length - kk) (c' := c - kk) (by have := HI0.out; omega) (by omega) (by omega) (if c = kk then some ⟨q0, 0, none⟩ else some ⟨q0, kk * 6, none⟩) (by split <;> simp) (fun _ => by rw [if_neg (by have := HI0.out; omega)]); rw [entsC_from HI0.out] at this; exact this)) (by have := HL.out; have := HI0.out; unfold maxLen; omega) (by have := HL.out; have := HI0.out; omega) HB73.out.size ?_
          intro v74 w74x ho74 hg74 hn74 hk74
          have HO74 : Hid (w74x.ownsRow w7.heap.size 48 6 v74 (kk + 1 + (L.length - kk)) (entsC (L.take kk) ++ entC ⟨s, t, a⟩ ++ entsC (L.drop kk))) := Lib.hid (ho74)
          have hb74 : Below w7.heap.size w7 w74x := HB73.out.trans ((Fr.of_grown hg74).below (by intro y hy; exact own_base HO73.out (Option.mem_toList.1 hy)) HB73.out.size)
          have HB74 := Lib.hid hb74
          have HR74 := Lib.hid (H7.out.kept hb74)
          have HS74 := Lib.hid (S7.out.kept hb74)
          refine hK.out _ _ ⟨HR74.out.blk.cell (j := 4) rfl, HS74.out.cell (j := 0) rfl, HS74.out.cell (j := 1) rfl, HS74.out.cell (j := 2) rfl, HS74.out.cell (j := 3) rfl, hb74⟩ (fun hS74 => ?_)
          clear hK K hb74 ho74 hg74 hn74 hk74 hS73
          (try simp only [Act.put]); (try simp only [List.setIfInBounds_toArray]); (try simp only [List.set_cons_succ]); (try simp only [List.set_cons_zero])
          refine wpAnyH_take (i := 22) (v := ?v75) rfl (by kernel_rfl) (by kernel_rfl) (by kernel_rfl) (fun _ _ _ h => h) (Or.inl ⟨by rfl, ?hy75⟩) (by assumption) ?rest75
          case hy75 => (intro _ hSw; (try dsimp only at hSw); go_simp; (try with_reducible rfl))
          (try simp only [Act.put]); (try simp only [List.setIfInBounds_toArray]); (try simp only [List.set_cons_succ]); (try simp only [List.set_cons_zero])
          refine wpAnyH_take (i := 23) (v := ?v76) rfl (by kernel_rfl) (by kernel_rfl) (by kernel_rfl) (fun _ _ _ h => h) (Or.inl ⟨by rfl, ?hy76⟩) (by assumption) ?rest76
          case hy76 => (intro _ hSw; (try dsimp only at hSw); go_simp; (try with_reducible rfl))
          (try simp only [Act.put]); (try simp only [List.setIfInBounds_toArray]); (try simp only [List.set_cons_succ]); (try simp only [List.set_cons_zero])
          refine wpAnyH_done (by kernel_rfl) ?_ _
          refine LastQ.start rfl ?_
          have d4 := HR74.out.blk.cell (j := 4) rfl
          have f4 := HR74.out.blk.free 4
          clear hS74 hHeld
          obtain ⟨p8, c8, rfl, -, -⟩ := own_slice HO74.out
          generalize (if c = kk then some (⟨q0, 0, none⟩ : Addr) else some ⟨q0, kk * 6, none⟩) = pp
          go_wp2
          refine NoPanic.normal ?_
          go_wp2
          go_ret
          have e1 : entsC (L.take kk) ++ entC ⟨s, t, a⟩ ++ entsC (L.drop kk) = entsC (L.take kk ++ ⟨s, t, a⟩ :: L.drop kk) := by unfold entsC; rw [List.flatMap_append, List.flatMap_cons, List.append_assoc]
          have e2 : kk + 1 + (L.length - kk) = (L.take kk ++ (⟨s, t, a⟩ : Ent) :: L.drop kk).length := by have := HI0.out; rw [List.length_append, List.length_cons, List.length_take, List.length_drop]; omega
          have ho := HO74.out
          have hgz : g < w7.heap.size := H7.out.blk.lt
          have hs7 := HB7.out.size
          have hbs := HBS.out
          refine ⟨rfl, _, ⟨HR74.out.blk.set 4 _, own_mono (b := w7.heap.size) ?_ (by omega), fun hq => ?_⟩, ⟨?_, fun y hy => ?_⟩⟩
          · have h5 := own_fr ho ((Fr.refl [g] w74x).set (p := ⟨g, 4, none⟩) (by simp) (.slice p8 (kk + 1 + (L.length - kk)) c8)) (fun y hy => by have := own_base ho hy; simp; omega)
            rw [e1] at h5
            try rw [← e2]
            exact h5
          · have := own_base ho hq; omega
          · exact ((Fr.of_below HB7.out _).then (Fr.of_below HB74.out _)).set (p := ⟨g, 4, none⟩) (by simp) _
          · have := own_base ho hy; exact .inr (by omega)

set_option maxRecDepth 100000 in
set_option maxHeartbeats 8000000 in
theorem rtake_ok_top (base g : Nat) (v : Value) (cap : Am) (L : List Ent) (s t : ByteArray) (a : Am) (w : World) (h : RLed base w g v cap L) (h1 : 1 ≤ s.size) (h2 : s.size ≤ 64) (ha : a.okB = true) (hp1 : plc L s = none) (ht : t.toList.isEmpty = true) (hblk : ∀ p n c, v = .slice p n c → ∃ q, p = some ⟨q, 0, none⟩) (z : Am) (hr : ∀ w, RLed base w g v cap L → Calls Try.prog 36 #[ptr g, .string t, .string ⟨#[]⟩] w fun e w' => e = .returned (.agg #[.int .i64 z.c, .int .i64 z.r, .int .i64 z.d, .int .i64 z.p]) ∧ Below w.heap.size w w') (hf : fitsB a z = true) (hl : L.length ≤ 100000) (hbs : base ≤ w.heap.size) (i0 : Nat) (hi0 : i0 ≤ L.length) (hls : ∀ j (h : j < L.length), j < i0 → Op.bytesLess L[j].n.toList s.toList = true) (hge : ∀ h : i0 < L.length, Op.bytesLess L[i0].n.toList s.toList = false) :
    Calls Try.prog 38 #[ptr g, .string s, .string t, amV a] w fun e w' => e = .returned (.int .i64 0) ∧ ∃ v', RLed base w' g v' cap (L.take i0 ++ ⟨s, t, a⟩ :: L.drop i0) ∧ RStep w w' g v v' := by
  obtain ⟨i0x, hi, hz0, hz1, hz2⟩ := info_parts info_ent
  obtain ⟨p, c, rfl, hc, hm⟩ := h.shape
  have hml : maxLen ≤ 9223372036854775807 := by decide
  obtain ⟨q0, rfl⟩ : ∃ q0, p = some ⟨q0, 0, none⟩ := hblk _ _ _ rfl
  obtain ⟨w3, hw3⟩ : ∃ w3, w3 = w.alloc (.cells #[.int .i64 a.c, .int .i64 a.r, .int .i64 a.d, .int .i64 a.p] 28) := ⟨_, rfl⟩
  obtain ⟨B, hB⟩ : ∃ B, B = w.heap.size := ⟨_, rfl⟩
  have S3 : Hid (Blk w3 B (amC a) 28) := Lib.hid (by rw [hw3, hB]; exact Blk.made w (amC a) _)
  have HB3 : Hid (Below w.heap.size w w3) := Lib.hid (by rw [hw3]; exact below_alloc w _)
  have H3 := Lib.hid (h.kept HB3.out)
  have a0 := S3.out.cell (j := 0) rfl
  have a1 := S3.out.cell (j := 1) rfl
  have a2 := S3.out.cell (j := 2) rfl
  have a3 := S3.out.cell (j := 3) rfl
  have d1 : ¬ ((s.size : Int) < 1) := by omega
  have d2 : ¬ ((64 : Int) < (s.size : Int)) := by omega
  have HC := Lib.hid (Am.chk_yes ha)
  have HP1 : Hid (∀ w, RLed base w g (.slice (some ⟨q0, 0, none⟩) L.length c) cap L → Calls Try.prog 35 #[ptr g, .string s] w fun e w' => e = .returned (.int .i64 (-1)) ∧ Below w.heap.size w w') := Lib.hid (fun w h => by have := place_any base g _ cap L s w h; unfold plcI at this; rw [hp1] at this; exact this)
  have HI0 := Lib.hid hi0
  have HL := Lib.hid hl
  have HBS := Lib.hid hbs
  have HLS := Lib.hid hls
  have HGE := Lib.hid hge
  have HRM := Lib.hid hr
  have HF := Lib.hid hf
  clear h h1 h2 ha hp1 hr hf hls hge hi0 hl hbs hblk
  go_enter Try.func38, Try.ntmps38
  go_upto_region 1 with fail
  rw [← hw3, ← hB]
  clear hw3 hB
  go_wp2_with (first | (go_at_call 34; refine (rcheck_any a _).mono ?_; rw [HC.out]; rintro e w4 ⟨rfl, hb⟩; have S4 := Lib.hid (S3.out.kept hb); have HB4 := Lib.hid (below_and HB3.out hb); have H4 := Lib.hid (H3.out.kept hb); clear hb a0 a1 a2 a3) | fail)
  refine (HP1.out _ H4.out).mono ?_
  rintro e w5 ⟨rfl, hb⟩
  have S5 := Lib.hid (S4.out.kept hb)
  have HB5 := Lib.hid (below_and HB4.out hb)
  have H5 := Lib.hid (H4.out.kept hb)
  clear hb
  obtain ⟨w6, hw6⟩ : ∃ w6, w6 = w5 := ⟨_, rfl⟩
  rw [← hw6] at S5 HB5 H5 ⊢
  have S6 := S5
  have HB6 := HB5
  have H6 := H5
  clear hw6 S5 HB5 H5
  have e0 : ∀ y : Past w6, y.val.cell? ⟨B, 0, none⟩ = some (.int .i64 a.c) := Past.blk S6.out (j := 0) rfl
  have e1 : ∀ y : Past w6, y.val.cell? ⟨B, 1, none⟩ = some (.int .i64 a.r) := Past.blk S6.out (j := 1) rfl
  have e2 : ∀ y : Past w6, y.val.cell? ⟨B, 2, none⟩ = some (.int .i64 a.d) := Past.blk S6.out (j := 2) rfl
  have e3 : ∀ y : Past w6, y.val.cell? ⟨B, 3, none⟩ = some (.int .i64 a.p) := Past.blk S6.out (j := 3) rfl
  go_wp2
  refine wp_region_past (by kernel_rfl) (by kernel_rfl) ?_
  repeat (go_big_quiet_step (first | (go_at_call 36; exact past_call (HRM.out _ (H6.out.kept (Past.h _)))) | (go_at_call 51; exact past_call (rfits_val HF.out _))))
  refine wpQuiet_nil ?_
  intro _ hw'
  obtain ⟨s9, hw''⟩ := hw'
  subst hw''
  obtain ⟨w7, h9, e9⟩ : ∃ w7, Below w6.heap.size w6 w7 ∧ w7 = s9.val := ⟨_, s9.h, rfl⟩
  rw [← e9]
  have H7 := Lib.hid (H6.out.kept h9)
  have S7 := Lib.hid (S6.out.kept h9)
  have HB7 := Lib.hid (below_and HB6.out h9)
  clear h9 e9 e0 e1 e2 e3
  go_wp2
  go_loop [10] (fun x => ∃ k : Nat, k ≤ i0 ∧ x = .int .i64 (k : Int)) (fun x => i0 - (intOf x).toNat)
  case atStart => exact ⟨0, Nat.zero_le _, rfl⟩
  case round =>
    obtain ⟨kk, hkk, rfl⟩ := hrel
    have x4 := H7.out.blk.cell (j := 4) rfl
    by_cases hlt : kk < i0
    · have i5 : (kk : Int) < (L.length : Int) := by have := HI0.out; omega
      have i6 : (0 : Int) ≤ (kk : Int) := by omega
      have hkl : kk < L.length := by have := HI0.out; omega
      obtain ⟨nm, hnm⟩ : ∃ nm, nm = L[kk].n := ⟨_, rfl⟩
      have x0 : w7.cell? ⟨q0, kk * 6, none⟩ = some (.string nm) := own_cell H7.out.row (by rw [show kk * 6 = kk * 6 + 0 from rfl, entsC_at L kk hkl 0 (by omega), hnm]; rfl)
      have t1 : Op.bytesLess nm.toList s.toList = true := by rw [hnm]; exact HLS.out kk hkl hlt
      clear hnm
      go_wp2
      go_round
      case rel => exact ⟨kk + 1, hlt, by go_num⟩
      case measure => simp [intOf]; omega
    · obtain rfl : kk = i0 := by omega
      have HKK : kk = kk := rfl
      have b1 : (0 : Int) ≤ (kk : Int) := by omega
      have b2 : (kk : Int) ≤ (L.length : Int) := by have := HI0.out; omega
      have b6 : (L.length : Int) ≤ (c : Int) := by omega
      have b3 : (kk : Int) ≤ (c : Int) := by omega
      by_cases hin : kk < L.length
      · have i5 : (kk : Int) < (L.length : Int) := by omega
        obtain ⟨nm, hnm⟩ : ∃ nm, nm = L[kk].n := ⟨_, rfl⟩
        have x0 : w7.cell? ⟨q0, kk * 6, none⟩ = some (.string nm) := own_cell H7.out.row (by rw [show kk * 6 = kk * 6 + 0 from rfl, entsC_at L kk hin 0 (by omega), hnm]; rfl)
        have t1 : Op.bytesLess nm.toList s.toList = false := by rw [hnm]; exact HGE.out hin
        clear hnm
        go_wp2
        refine wp_region_noPanic ?_
        refine wp_region_lastH (fun w' => w'.cell? ⟨g, 4, none⟩ = some (.slice (some ⟨q0, 0, none⟩) L.length c) ∧ w'.cell? ⟨B, 0, none⟩ = some (.int .i64 a.c) ∧ w'.cell? ⟨B, 1, none⟩ = some (.int .i64 a.r) ∧ w'.cell? ⟨B, 2, none⟩ = some (.int .i64 a.d) ∧ w'.cell? ⟨B, 3, none⟩ = some (.int .i64 a.p) ∧ Below w7.heap.size w7 w') 24 rfl rfl (by kernel_rfl) (by kernel_rfl) ⟨H7.out.blk.cell (j := 4) rfl, S7.out.cell (j := 0) rfl, S7.out.cell (j := 1) rfl, S7.out.cell (j := 2) rfl, S7.out.cell (j := 3) rfl, bl_drew (Below.refl _ _)⟩ (fun hHeld => ?_)
        have HB1 : Hid (Below w7.heap.size w7 w7.drew) := Lib.hid (bl_drew (Below.refl _ _))
        have HR1 := Lib.hid (H7.out.kept HB1.out)
        have hS1 : True := trivial
        obtain ⟨wd1, hwd⟩ : ∃ x, x = w7.drew := ⟨_, rfl⟩
        rw [← hwd] at hHeld HB1 HR1 ⊢
        clear hwd
        refine wpAnyH_take (i := 0) (v := ?v2) rfl (by kernel_rfl) (by kernel_rfl) (by kernel_rfl) (fun _ _ _ h => h) (Or.inl ⟨by rfl, ?hy2⟩) (by assumption) ?rest2
        case hy2 => (intro _ hSw; (try dsimp only at hSw); go_simp; (try with_reducible rfl))
        (try simp only [Act.put]); (try simp only [List.setIfInBounds_toArray]); (try simp only [List.set_cons_succ]); (try simp only [List.set_cons_zero])
        refine wpAnyH_take (i := 2) (v := ?v3) rfl (by kernel_rfl) (by kernel_rfl) (by kernel_rfl) (fun _ _ _ h => h) (Or.inl ⟨by rfl, ?hy3⟩) (by assumption) ?rest3
        case hy3 => (intro _ hSw; (try dsimp only at hSw); go_simp; (try with_reducible rfl))
        (try simp only [Act.put]); (try simp only [List.setIfInBounds_toArray]); (try simp only [List.set_cons_succ]); (try simp only [List.set_cons_zero])
        refine wpAnyH_take (i := 3) (v := ?v4) rfl (by kernel_rfl) (by kernel_rfl) (by kernel_rfl) (fun _ _ _ h => h) (Or.inl ⟨by rfl, ?hy4⟩) (by assumption) ?rest4
        case hy4 => (intro _ hSw; (try dsimp only at hSw); go_simp; (try with_reducible rfl))
        (try simp only [Act.put]); (try simp only [List.setIfInBounds_toArray]); (try simp only [List.set_cons_succ]); (try simp only [List.set_cons_zero])
        refine wpAnyH_take (i := 4) (v := ?v5) rfl (by kernel_rfl) (by kernel_rfl) (by kernel_rfl) (fun _ _ _ h => h) (Or.inl ⟨by rfl, ?hy5⟩) (by assumption) ?rest5
        case hy5 => (intro _ hSw; (try dsimp only at hSw); go_simp; (try with_reducible rfl))
        (try simp only [Act.put]); (try simp only [List.setIfInBounds_toArray]); (try simp only [List.set_cons_succ]); (try simp only [List.set_cons_zero])
        refine wpAnyH_take (i := 5) (v := ?v6) rfl (by kernel_rfl) (by kernel_rfl) (by kernel_rfl) (fun _ _ _ h => h) (Or.inl ⟨by rfl, ?hy6⟩) (by assumption) ?rest6
        case hy6 => (intro _ hSw; (try dsimp only at hSw); go_simp; (try with_reducible rfl))
        (try simp only [Act.put]); (try simp only [List.setIfInBounds_toArray]); (try simp only [List.set_cons_succ]); (try simp only [List.set_cons_zero])
        refine wpAnyH_take (i := 6) (v := ?v7) rfl (by kernel_rfl) (by kernel_rfl) (by kernel_rfl) (fun _ _ _ h => h) (Or.inl ⟨by rfl, ?hy7⟩) (by assumption) ?rest7
        case hy7 => (intro _ hSw; (try dsimp only at hSw); go_simp; (try with_reducible rfl))
        (try simp only [Act.put]); (try simp only [List.setIfInBounds_toArray]); (try simp only [List.set_cons_succ]); (try simp only [List.set_cons_zero])
        refine wpAnyH_take (i := 7) (v := ?v8) rfl (by kernel_rfl) (by kernel_rfl) (by kernel_rfl) (fun _ _ _ h => h) (Or.inl ⟨by rfl, ?hy8⟩) (by assumption) ?rest8
        case hy8 => (intro _ hSw; (try dsimp only at hSw); go_simp; (try with_reducible rfl))
        (try simp only [Act.put]); (try simp only [List.setIfInBounds_toArray]); (try simp only [List.set_cons_succ]); (try simp only [List.set_cons_zero])
        refine wpAnyH_take (i := 9) (v := ?v9) rfl (by kernel_rfl) (by kernel_rfl) (by kernel_rfl) (fun _ _ _ h => h) (Or.inl ⟨by rfl, ?hy9⟩) (by assumption) ?rest9
        case hy9 => (intro _ hSw; (try dsimp only at hSw); go_simp; (try with_reducible rfl))
        (try simp only [Act.put]); (try simp only [List.setIfInBounds_toArray]); (try simp only [List.set_cons_succ]); (try simp only [List.set_cons_zero])
        refine wpAnyH_take (i := 10) (v := ?v10) rfl (by kernel_rfl) (by kernel_rfl) (by kernel_rfl) (fun _ _ _ h => h) (Or.inl ⟨by rfl, ?hy10⟩) (by assumption) ?rest10
        case hy10 => (intro _ hSw; (try dsimp only at hSw); go_simp; (try with_reducible rfl))
        (try simp only [Act.put]); (try simp only [List.setIfInBounds_toArray]); (try simp only [List.set_cons_succ]); (try simp only [List.set_cons_zero])
        refine wpAnyH_take (i := 11) (v := ?v11) rfl (by kernel_rfl) (by kernel_rfl) (by kernel_rfl) (fun _ _ _ h => h) (Or.inl ⟨by rfl, ?hy11⟩) (by assumption) ?rest11
        case hy11 => (intro _ hSw; (try dsimp only at hSw); go_simp; (try with_reducible rfl))
        (try simp only [Act.put]); (try simp only [List.setIfInBounds_toArray]); (try simp only [List.set_cons_succ]); (try simp only [List.set_cons_zero])
        refine wpAnyH_take (i := 12) (v := ?v12) rfl (by kernel_rfl) (by kernel_rfl) (by kernel_rfl) (fun _ _ _ h => h) (Or.inl ⟨by rfl, ?hy12⟩) (by assumption) ?rest12
        case hy12 => (intro _ hSw; (try dsimp only at hSw); go_simp; (try with_reducible rfl))
        (try simp only [Act.put]); (try simp only [List.setIfInBounds_toArray]); (try simp only [List.set_cons_succ]); (try simp only [List.set_cons_zero])
        refine wpAnyH_take (i := 15) (v := ?v13) rfl (by kernel_rfl) (by kernel_rfl) (by kernel_rfl) (fun _ _ _ h => h) (Or.inl ⟨by rfl, ?hy13⟩) (by assumption) ?rest13
        case hy13 => (intro _ hSw; (try dsimp only at hSw); go_simp; (try with_reducible rfl))
        (try simp only [Act.put]); (try simp only [List.setIfInBounds_toArray]); (try simp only [List.set_cons_succ]); (try simp only [List.set_cons_zero])
        refine wpAnyH_take (i := 16) (v := ?v14) rfl (by kernel_rfl) (by kernel_rfl) (by kernel_rfl) (fun _ _ _ h => h) (Or.inl ⟨by rfl, ?hy14⟩) (by assumption) ?rest14
        case hy14 => (intro _ hSw; (try dsimp only at hSw); go_simp; (try with_reducible rfl))
        (try simp only [Act.put]); (try simp only [List.setIfInBounds_toArray]); (try simp only [List.set_cons_succ]); (try simp only [List.set_cons_zero])
        refine wpAnyH_take (i := 17) (v := ?v15) rfl (by kernel_rfl) (by kernel_rfl) (by kernel_rfl) (fun _ _ _ h => h) (Or.inl ⟨by rfl, ?hy15⟩) (by assumption) ?rest15
        case hy15 => (intro _ hSw; (try dsimp only at hSw); go_simp; (try with_reducible rfl))
        (try simp only [Act.put]); (try simp only [List.setIfInBounds_toArray]); (try simp only [List.set_cons_succ]); (try simp only [List.set_cons_zero])
        refine wpAnyH_take (i := 18) (v := ?v16) rfl (by kernel_rfl) (by kernel_rfl) (by kernel_rfl) (fun _ _ _ h => h) (Or.inl ⟨by rfl, ?hy16⟩) (by assumption) ?rest16
        case hy16 => (intro _ hSw; (try dsimp only at hSw); go_simp; (try with_reducible rfl))
        (try simp only [Act.put]); (try simp only [List.setIfInBounds_toArray]); (try simp only [List.set_cons_succ]); (try simp only [List.set_cons_zero])
        refine wpAnyH_take (i := 19) (v := ?v17) rfl (by kernel_rfl) (by kernel_rfl) (by kernel_rfl) (fun _ _ _ h => h) (Or.inl ⟨by rfl, ?hy17⟩) (by assumption) ?rest17
        case hy17 => (intro _ hSw; (try dsimp only at hSw); go_simp; (try with_reducible rfl))
        (try simp only [Act.put]); (try simp only [List.setIfInBounds_toArray]); (try simp only [List.set_cons_succ]); (try simp only [List.set_cons_zero])
        refine wpAnyH_take (i := 20) (v := ?v18) rfl (by kernel_rfl) (by kernel_rfl) (by kernel_rfl) (fun _ _ _ h => h) (Or.inl ⟨by rfl, ?hy18⟩) (by assumption) ?rest18
        case hy18 => (intro _ hSw; (try dsimp only at hSw); go_simp; (try with_reducible rfl))
        (try simp only [Act.put]); (try simp only [List.setIfInBounds_toArray]); (try simp only [List.set_cons_succ]); (try simp only [List.set_cons_zero])
        refine wpAnyH_ready (rs := [1, 13]) (by kernel_rfl) (by simp) ?_
        refine (AllReadyH.cons rfl (fun K hK => ?_) (AllReadyH.cons rfl (fun K hK => ?_) AllReadyH.nil))
        · (try simp only [List.getElem_toArray]); (try simp only [List.getElem_cons_succ]); (try simp only [List.getElem_cons_zero])
          go_simp
          obtain ⟨w19x, hw19⟩ : ∃ x, x = wd1.alloc (.cells #[] 48) := ⟨_, rfl⟩
          obtain ⟨z19, hz19⟩ : ∃ x, x = wd1.heap.size := ⟨_, rfl⟩
          have hn19 : Below wd1.heap.size wd1 w19x := by rw [hw19]; exact below_alloc _ _
          have hb19 : Below w7.heap.size w7 w19x := below_and HB1.out hn19
          have HB19 := Lib.hid hb19
          have HO19 : Hid (w19x.ownsRow w7.heap.size 48 6 (.slice (some ⟨z19, 0, none⟩) 0 0) 0 []) := Lib.hid (by rw [hw19, hz19]; exact World.ownsRow_made wd1 #[] 0 HB1.out.size (by decide) rfl)
          rw [← hw19, ← hz19]
          have HR19 := Lib.hid (H7.out.kept hb19)
          have HS19 := Lib.hid (S7.out.kept hb19)
          refine hK.out _ _ ⟨HR19.out.blk.cell (j := 4) rfl, HS19.out.cell (j := 0) rfl, HS19.out.cell (j := 1) rfl, HS19.out.cell (j := 2) rfl, HS19.out.cell (j := 3) rfl, hb19⟩ (fun hS19 => ?_)
          clear hK K hb19 hw19 hz19 hn19 hS1
          (try simp only [Act.put]); (try simp only [List.setIfInBounds_toArray]); (try simp only [List.set_cons_succ]); (try simp only [List.set_cons_zero])
          refine wpAnyH_ready (rs := [8, 13]) (by kernel_rfl) (by simp) ?_
          refine (AllReadyH.cons rfl (fun K hK => ?_) (AllReadyH.cons rfl (fun K hK => ?_) AllReadyH.nil))
          · refine step_app rfl (.tmp 72) (.tmp 78) 56 56 rfl w7.heap.size 48 i0x (entV zE) 6 64 Try.underlying56 hi hz0 hz1 hz2 rfl (.slice (some ⟨z19, 0, none⟩) 0 0) 0 [] (by rfl) HO19.out (.slice (some ⟨q0, 0, none⟩) kk c) kk (entsC (L.take kk)) (by rfl) (Row.src Try.underlying56 (by have := row_part HR19.out.row (entsC_one L) (o := 0) (m := kk) (c' := c) (by have := HI0.out; omega) (by have := HI0.out; omega) hm (some ⟨q0, 0, none⟩) (by simp) (fun _ => by simp); rw [entsC_first HI0.out] at this; exact this)) (by have := HL.out; have := HI0.out; unfold maxLen; omega) (by have := HL.out; have := HI0.out; omega) HB19.out.size ?_
            intro v20 w20x ho20 hg20 hn20 hk20
            have HO20 : Hid (w20x.ownsRow w7.heap.size 48 6 v20 kk (entsC (L.take kk))) := Lib.hid (by simpa using ho20)
            have hb20 : Below w7.heap.size w7 w20x := HB19.out.trans ((Fr.of_grown hg20).below (by intro y hy; exact own_base HO19.out (Option.mem_toList.1 hy)) HB19.out.size)
            have HB20 := Lib.hid hb20
            have HR20 := Lib.hid (H7.out.kept hb20)
            have HS20 := Lib.hid (S7.out.kept hb20)
            refine hK.out _ _ ⟨HR20.out.blk.cell (j := 4) rfl, HS20.out.cell (j := 0) rfl, HS20.out.cell (j := 1) rfl, HS20.out.cell (j := 2) rfl, HS20.out.cell (j := 3) rfl, hb20⟩ (fun hS20 => ?_)
            clear hK K hb20 ho20 hg20 hn20 hk20 hS19
            (try simp only [Act.put]); (try simp only [List.setIfInBounds_toArray]); (try simp only [List.set_cons_succ]); (try simp only [List.set_cons_zero])
            refine wpAnyH_ready (rs := [13]) (by kernel_rfl) (by simp) ?_
            refine (AllReadyH.cons rfl (fun K hK => ?_) AllReadyH.nil)
            (try simp only [List.getElem_toArray]); (try simp only [List.getElem_cons_succ]); (try simp only [List.getElem_cons_zero])
            go_simp
            obtain ⟨w21x, hw21⟩ : ∃ x, x = w20x.alloc (.cells #[.string s, .string t, .int .i64 a.c, .int .i64 a.r, .int .i64 a.d, .int .i64 a.p] 48) := ⟨_, rfl⟩
            obtain ⟨z21, hz21⟩ : ∃ x, x = w20x.heap.size := ⟨_, rfl⟩
            have hn21 : Below w20x.heap.size w20x w21x := by rw [hw21]; exact below_alloc _ _
            have hb21 : Below w7.heap.size w7 w21x := below_and HB20.out hn21
            have HB21 := Lib.hid hb21
            have HY21 : Hid (Blk w21x z21 (entC ⟨s, t, a⟩) 48) := Lib.hid (by rw [hw21, hz21]; exact Blk.made w20x (entC ⟨s, t, a⟩) _)
            have HO21 := Lib.hid (own_fr HO20.out (Fr.of_below hn21 []) (fun _ _ => by simp))
            have HNE21 : Hid (∀ q, (v20 : Value).ownBlock = some q → q ≠ z21) := Lib.hid (fun q hq => by have := own_lt HO20.out hq; omega)
            rw [← hw21, ← hz21]
            have HR21 := Lib.hid (H7.out.kept hb21)
            have HS21 := Lib.hid (S7.out.kept hb21)
            refine hK.out _ _ ⟨HR21.out.blk.cell (j := 4) rfl, HS21.out.cell (j := 0) rfl, HS21.out.cell (j := 1) rfl, HS21.out.cell (j := 2) rfl, HS21.out.cell (j := 3) rfl, hb21⟩ (fun hS21 => ?_)
            clear hK K hb21 hw21 hz21 hn21 hS20
            (try simp only [Act.put]); (try simp only [List.setIfInBounds_toArray]); (try simp only [List.set_cons_succ]); (try simp only [List.set_cons_zero])
            refine wpAnyH_ready (rs := [14]) (by kernel_rfl) (by simp) ?_
            refine (AllReadyH.cons rfl (fun K hK => ?_) AllReadyH.nil)
            refine step_app rfl (.tmp 79) (.tmp 84) 56 56 rfl w7.heap.size 48 i0x (entV zE) 6 64 Try.underlying56 hi hz0 hz1 hz2 rfl v20 kk (entsC (L.take kk)) (by rfl) HO21.out (.slice (some ⟨z21, 0, none⟩) 1 1) 1 (entC ⟨s, t, a⟩) (by rfl) (src_block Try.underlying56 _ z21 (entC ⟨s, t, a⟩).toArray HY21.out rfl (entC_one ⟨s, t, a⟩)) (by have := HL.out; have := HI0.out; unfold maxLen; omega) (by have := HL.out; have := HI0.out; omega) HB21.out.size ?_
            intro v22 w22x ho22 hg22 hn22 hk22
            have HO22 : Hid (w22x.ownsRow w7.heap.size 48 6 v22 (kk + 1) (entsC (L.take kk) ++ entC ⟨s, t, a⟩)) := Lib.hid (ho22)
            have hb22 : Below w7.heap.size w7 w22x := HB21.out.trans ((Fr.of_grown hg22).below (by intro y hy; exact own_base HO21.out (Option.mem_toList.1 hy)) HB21.out.size)
            have HB22 := Lib.hid hb22
            have HR22 := Lib.hid (H7.out.kept hb22)
            have HS22 := Lib.hid (S7.out.kept hb22)
            refine hK.out _ _ ⟨HR22.out.blk.cell (j := 4) rfl, HS22.out.cell (j := 0) rfl, HS22.out.cell (j := 1) rfl, HS22.out.cell (j := 2) rfl, HS22.out.cell (j := 3) rfl, hb22⟩ (fun hS22 => ?_)
            clear hK K hb22 ho22 hg22 hn22 hk22 hS21
            (try simp only [Act.put]); (try simp only [List.setIfInBounds_toArray]); (try simp only [List.set_cons_succ]); (try simp only [List.set_cons_zero])
            refine wpAnyH_ready (rs := [21]) (by kernel_rfl) (by simp) ?_
            refine (AllReadyH.cons rfl (fun K hK => ?_) AllReadyH.nil)
            refine step_app rfl (.tmp 85) (.tmp 91) 56 56 rfl w7.heap.size 48 i0x (entV zE) 6 64 Try.underlying56 hi hz0 hz1 hz2 rfl v22 (kk + 1) (entsC (L.take kk) ++ entC ⟨s, t, a⟩) (by rfl) HO22.out (.slice (if c = kk then some ⟨q0, 0, none⟩ else some ⟨q0, kk * 6, none⟩) (L.length - kk) (c - kk)) (L.length - kk) (entsC (L.drop kk)) (by rfl) (Row.src Try.underlying56 (by have := row_part HR22.out.row (entsC_one L) (o := kk) (m := L.length - kk) (c' := c - kk) (by have := HI0.out; omega) (by omega) (by omega) (if c = kk then some ⟨q0, 0, none⟩ else some ⟨q0, kk * 6, none⟩) (by split <;> simp) (fun _ => by rw [if_neg (by have := HI0.out; omega)]); rw [entsC_from HI0.out] at this; exact this)) (by have := HL.out; have := HI0.out; unfold maxLen; omega) (by have := HL.out; have := HI0.out; omega) HB22.out.size ?_
            intro v23 w23x ho23 hg23 hn23 hk23
            have HO23 : Hid (w23x.ownsRow w7.heap.size 48 6 v23 (kk + 1 + (L.length - kk)) (entsC (L.take kk) ++ entC ⟨s, t, a⟩ ++ entsC (L.drop kk))) := Lib.hid (ho23)
            have hb23 : Below w7.heap.size w7 w23x := HB22.out.trans ((Fr.of_grown hg23).below (by intro y hy; exact own_base HO22.out (Option.mem_toList.1 hy)) HB22.out.size)
            have HB23 := Lib.hid hb23
            have HR23 := Lib.hid (H7.out.kept hb23)
            have HS23 := Lib.hid (S7.out.kept hb23)
            refine hK.out _ _ ⟨HR23.out.blk.cell (j := 4) rfl, HS23.out.cell (j := 0) rfl, HS23.out.cell (j := 1) rfl, HS23.out.cell (j := 2) rfl, HS23.out.cell (j := 3) rfl, hb23⟩ (fun hS23 => ?_)
            clear hK K hb23 ho23 hg23 hn23 hk23 hS22
            (try simp only [Act.put]); (try simp only [List.setIfInBounds_toArray]); (try simp only [List.set_cons_succ]); (try simp only [List.set_cons_zero])
            refine wpAnyH_take (i := 22) (v := ?v24) rfl (by kernel_rfl) (by kernel_rfl) (by kernel_rfl) (fun _ _ _ h => h) (Or.inl ⟨by rfl, ?hy24⟩) (by assumption) ?rest24
            case hy24 => (intro _ hSw; (try dsimp only at hSw); go_simp; (try with_reducible rfl))
            (try simp only [Act.put]); (try simp only [List.setIfInBounds_toArray]); (try simp only [List.set_cons_succ]); (try simp only [List.set_cons_zero])
            refine wpAnyH_take (i := 23) (v := ?v25) rfl (by kernel_rfl) (by kernel_rfl) (by kernel_rfl) (fun _ _ _ h => h) (Or.inl ⟨by rfl, ?hy25⟩) (by assumption) ?rest25
            case hy25 => (intro _ hSw; (try dsimp only at hSw); go_simp; (try with_reducible rfl))
            (try simp only [Act.put]); (try simp only [List.setIfInBounds_toArray]); (try simp only [List.set_cons_succ]); (try simp only [List.set_cons_zero])
            refine wpAnyH_done (by kernel_rfl) ?_ _
            refine LastQ.start rfl ?_
            have d4 := HR23.out.blk.cell (j := 4) rfl
            have f4 := HR23.out.blk.free 4
            clear hS23 hHeld
            obtain ⟨p8, c8, rfl, -, -⟩ := own_slice HO23.out
            generalize (if c = kk then some (⟨q0, 0, none⟩ : Addr) else some ⟨q0, kk * 6, none⟩) = pp
            go_wp2
            refine NoPanic.normal ?_
            go_wp2
            go_ret
            have e1 : entsC (L.take kk) ++ entC ⟨s, t, a⟩ ++ entsC (L.drop kk) = entsC (L.take kk ++ ⟨s, t, a⟩ :: L.drop kk) := by unfold entsC; rw [List.flatMap_append, List.flatMap_cons, List.append_assoc]
            have e2 : kk + 1 + (L.length - kk) = (L.take kk ++ (⟨s, t, a⟩ : Ent) :: L.drop kk).length := by have := HI0.out; rw [List.length_append, List.length_cons, List.length_take, List.length_drop]; omega
            have ho := HO23.out
            have hgz : g < w7.heap.size := H7.out.blk.lt
            have hs7 := HB7.out.size
            have hbs := HBS.out
            refine ⟨rfl, _, ⟨HR23.out.blk.set 4 _, own_mono (b := w7.heap.size) ?_ (by omega), fun hq => ?_⟩, ⟨?_, fun y hy => ?_⟩⟩
            · have h5 := own_fr ho ((Fr.refl [g] w23x).set (p := ⟨g, 4, none⟩) (by simp) (.slice p8 (kk + 1 + (L.length - kk)) c8)) (fun y hy => by have := own_base ho hy; simp; omega)
              rw [e1] at h5
              try rw [← e2]
              exact h5
            · have := own_base ho hq; omega
            · exact ((Fr.of_below HB7.out _).then (Fr.of_below HB23.out _)).set (p := ⟨g, 4, none⟩) (by simp) _
            · have := own_base ho hy; exact .inr (by omega)
          · (try simp only [List.getElem_toArray]); (try simp only [List.getElem_cons_succ]); (try simp only [List.getElem_cons_zero])
            go_simp
            obtain ⟨w26x, hw26⟩ : ∃ x, x = w19x.alloc (.cells #[.string s, .string t, .int .i64 a.c, .int .i64 a.r, .int .i64 a.d, .int .i64 a.p] 48) := ⟨_, rfl⟩
            obtain ⟨z26, hz26⟩ : ∃ x, x = w19x.heap.size := ⟨_, rfl⟩
            have hn26 : Below w19x.heap.size w19x w26x := by rw [hw26]; exact below_alloc _ _
            have hb26 : Below w7.heap.size w7 w26x := below_and HB19.out hn26
            have HB26 := Lib.hid hb26
            have HY26 : Hid (Blk w26x z26 (entC ⟨s, t, a⟩) 48) := Lib.hid (by rw [hw26, hz26]; exact Blk.made w19x (entC ⟨s, t, a⟩) _)
            have HO26 := Lib.hid (own_fr HO19.out (Fr.of_below hn26 []) (fun _ _ => by simp))
            have HNE26 : Hid (∀ q, ((.slice (some ⟨z19, 0, none⟩) 0 0) : Value).ownBlock = some q → q ≠ z26) := Lib.hid (fun q hq => by have := own_lt HO19.out hq; omega)
            rw [← hw26, ← hz26]
            have HR26 := Lib.hid (H7.out.kept hb26)
            have HS26 := Lib.hid (S7.out.kept hb26)
            refine hK.out _ _ ⟨HR26.out.blk.cell (j := 4) rfl, HS26.out.cell (j := 0) rfl, HS26.out.cell (j := 1) rfl, HS26.out.cell (j := 2) rfl, HS26.out.cell (j := 3) rfl, hb26⟩ (fun hS26 => ?_)
            clear hK K hb26 hw26 hz26 hn26 hS19
            (try simp only [Act.put]); (try simp only [List.setIfInBounds_toArray]); (try simp only [List.set_cons_succ]); (try simp only [List.set_cons_zero])
            refine wpAnyH_ready (rs := [8]) (by kernel_rfl) (by simp) ?_
            refine (AllReadyH.cons rfl (fun K hK => ?_) AllReadyH.nil)
            refine step_app rfl (.tmp 72) (.tmp 78) 56 56 rfl w7.heap.size 48 i0x (entV zE) 6 64 Try.underlying56 hi hz0 hz1 hz2 rfl (.slice (some ⟨z19, 0, none⟩) 0 0) 0 [] (by rfl) HO26.out (.slice (some ⟨q0, 0, none⟩) kk c) kk (entsC (L.take kk)) (by rfl) (Row.src Try.underlying56 (by have := row_part HR26.out.row (entsC_one L) (o := 0) (m := kk) (c' := c) (by have := HI0.out; omega) (by have := HI0.out; omega) hm (some ⟨q0, 0, none⟩) (by simp) (fun _ => by simp); rw [entsC_first HI0.out] at this; exact this)) (by have := HL.out; have := HI0.out; unfold maxLen; omega) (by have := HL.out; have := HI0.out; omega) HB26.out.size ?_
            intro v27 w27x ho27 hg27 hn27 hk27
            have HO27 : Hid (w27x.ownsRow w7.heap.size 48 6 v27 kk (entsC (L.take kk))) := Lib.hid (by simpa using ho27)
            have hb27 : Below w7.heap.size w7 w27x := HB26.out.trans ((Fr.of_grown hg27).below (by intro y hy; exact own_base HO26.out (Option.mem_toList.1 hy)) HB26.out.size)
            have HB27 := Lib.hid hb27
            have HY27 := Lib.hid (HY26.out.fr (Fr.of_grown hg27) (fun hm => HNE26.out _ (Option.mem_toList.1 hm) rfl))
            have HNE27 : Hid (∀ q, v27.ownBlock = some q → q ≠ z26) := Lib.hid (fun q hq => by rcases hk27 q hq with h1 | h1; exact HNE26.out q h1; have := HY26.out.lt; omega)
            have HR27 := Lib.hid (H7.out.kept hb27)
            have HS27 := Lib.hid (S7.out.kept hb27)
            refine hK.out _ _ ⟨HR27.out.blk.cell (j := 4) rfl, HS27.out.cell (j := 0) rfl, HS27.out.cell (j := 1) rfl, HS27.out.cell (j := 2) rfl, HS27.out.cell (j := 3) rfl, hb27⟩ (fun hS27 => ?_)
            clear hK K hb27 ho27 hg27 hn27 hk27 hS26
            (try simp only [Act.put]); (try simp only [List.setIfInBounds_toArray]); (try simp only [List.set_cons_succ]); (try simp only [List.set_cons_zero])
            refine wpAnyH_ready (rs := [14]) (by kernel_rfl) (by simp) ?_
            refine (AllReadyH.cons rfl (fun K hK => ?_) AllReadyH.nil)
            refine step_app rfl (.tmp 79) (.tmp 84) 56 56 rfl w7.heap.size 48 i0x (entV zE) 6 64 Try.underlying56 hi hz0 hz1 hz2 rfl v27 kk (entsC (L.take kk)) (by rfl) HO27.out (.slice (some ⟨z26, 0, none⟩) 1 1) 1 (entC ⟨s, t, a⟩) (by rfl) (src_block Try.underlying56 _ z26 (entC ⟨s, t, a⟩).toArray HY27.out rfl (entC_one ⟨s, t, a⟩)) (by have := HL.out; have := HI0.out; unfold maxLen; omega) (by have := HL.out; have := HI0.out; omega) HB27.out.size ?_
            intro v28 w28x ho28 hg28 hn28 hk28
            have HO28 : Hid (w28x.ownsRow w7.heap.size 48 6 v28 (kk + 1) (entsC (L.take kk) ++ entC ⟨s, t, a⟩)) := Lib.hid (ho28)
            have hb28 : Below w7.heap.size w7 w28x := HB27.out.trans ((Fr.of_grown hg28).below (by intro y hy; exact own_base HO27.out (Option.mem_toList.1 hy)) HB27.out.size)
            have HB28 := Lib.hid hb28
            have HR28 := Lib.hid (H7.out.kept hb28)
            have HS28 := Lib.hid (S7.out.kept hb28)
            refine hK.out _ _ ⟨HR28.out.blk.cell (j := 4) rfl, HS28.out.cell (j := 0) rfl, HS28.out.cell (j := 1) rfl, HS28.out.cell (j := 2) rfl, HS28.out.cell (j := 3) rfl, hb28⟩ (fun hS28 => ?_)
            clear hK K hb28 ho28 hg28 hn28 hk28 hS27
            (try simp only [Act.put]); (try simp only [List.setIfInBounds_toArray]); (try simp only [List.set_cons_succ]); (try simp only [List.set_cons_zero])
            refine wpAnyH_ready (rs := [21]) (by kernel_rfl) (by simp) ?_
            refine (AllReadyH.cons rfl (fun K hK => ?_) AllReadyH.nil)
            refine step_app rfl (.tmp 85) (.tmp 91) 56 56 rfl w7.heap.size 48 i0x (entV zE) 6 64 Try.underlying56 hi hz0 hz1 hz2 rfl v28 (kk + 1) (entsC (L.take kk) ++ entC ⟨s, t, a⟩) (by rfl) HO28.out (.slice (if c = kk then some ⟨q0, 0, none⟩ else some ⟨q0, kk * 6, none⟩) (L.length - kk) (c - kk)) (L.length - kk) (entsC (L.drop kk)) (by rfl) (Row.src Try.underlying56 (by have := row_part HR28.out.row (entsC_one L) (o := kk) (m := L.length - kk) (c' := c - kk) (by have := HI0.out; omega) (by omega) (by omega) (if c = kk then some ⟨q0, 0, none⟩ else some ⟨q0, kk * 6, none⟩) (by split <;> simp) (fun _ => by rw [if_neg (by have := HI0.out; omega)]); rw [entsC_from HI0.out] at this; exact this)) (by have := HL.out; have := HI0.out; unfold maxLen; omega) (by have := HL.out; have := HI0.out; omega) HB28.out.size ?_
            intro v29 w29x ho29 hg29 hn29 hk29
            have HO29 : Hid (w29x.ownsRow w7.heap.size 48 6 v29 (kk + 1 + (L.length - kk)) (entsC (L.take kk) ++ entC ⟨s, t, a⟩ ++ entsC (L.drop kk))) := Lib.hid (ho29)
            have hb29 : Below w7.heap.size w7 w29x := HB28.out.trans ((Fr.of_grown hg29).below (by intro y hy; exact own_base HO28.out (Option.mem_toList.1 hy)) HB28.out.size)
            have HB29 := Lib.hid hb29
            have HR29 := Lib.hid (H7.out.kept hb29)
            have HS29 := Lib.hid (S7.out.kept hb29)
            refine hK.out _ _ ⟨HR29.out.blk.cell (j := 4) rfl, HS29.out.cell (j := 0) rfl, HS29.out.cell (j := 1) rfl, HS29.out.cell (j := 2) rfl, HS29.out.cell (j := 3) rfl, hb29⟩ (fun hS29 => ?_)
            clear hK K hb29 ho29 hg29 hn29 hk29 hS28
            (try simp only [Act.put]); (try simp only [List.setIfInBounds_toArray]); (try simp only [List.set_cons_succ]); (try simp only [List.set_cons_zero])
            refine wpAnyH_take (i := 22) (v := ?v30) rfl (by kernel_rfl) (by kernel_rfl) (by kernel_rfl) (fun _ _ _ h => h) (Or.inl ⟨by rfl, ?hy30⟩) (by assumption) ?rest30
            case hy30 => (intro _ hSw; (try dsimp only at hSw); go_simp; (try with_reducible rfl))
            (try simp only [Act.put]); (try simp only [List.setIfInBounds_toArray]); (try simp only [List.set_cons_succ]); (try simp only [List.set_cons_zero])
            refine wpAnyH_take (i := 23) (v := ?v31) rfl (by kernel_rfl) (by kernel_rfl) (by kernel_rfl) (fun _ _ _ h => h) (Or.inl ⟨by rfl, ?hy31⟩) (by assumption) ?rest31
            case hy31 => (intro _ hSw; (try dsimp only at hSw); go_simp; (try with_reducible rfl))
            (try simp only [Act.put]); (try simp only [List.setIfInBounds_toArray]); (try simp only [List.set_cons_succ]); (try simp only [List.set_cons_zero])
            refine wpAnyH_done (by kernel_rfl) ?_ _
            refine LastQ.start rfl ?_
            have d4 := HR29.out.blk.cell (j := 4) rfl
            have f4 := HR29.out.blk.free 4
            clear hS29 hHeld
            obtain ⟨p8, c8, rfl, -, -⟩ := own_slice HO29.out
            generalize (if c = kk then some (⟨q0, 0, none⟩ : Addr) else some ⟨q0, kk * 6, none⟩) = pp
            go_wp2
            refine NoPanic.normal ?_
            go_wp2
            go_ret
            have e1 : entsC (L.take kk) ++ entC ⟨s, t, a⟩ ++ entsC (L.drop kk) = entsC (L.take kk ++ ⟨s, t, a⟩ :: L.drop kk) := by unfold entsC; rw [List.flatMap_append, List.flatMap_cons, List.append_assoc]
            have e2 : kk + 1 + (L.length - kk) = (L.take kk ++ (⟨s, t, a⟩ : Ent) :: L.drop kk).length := by have := HI0.out; rw [List.length_append, List.length_cons, List.length_take, List.length_drop]; omega
            have ho := HO29.out
            have hgz : g < w7.heap.size := H7.out.blk.lt
            have hs7 := HB7.out.size
            have hbs := HBS.out
            refine ⟨rfl, _, ⟨HR29.out.blk.set 4 _, own_mono (b := w7.heap.size) ?_ (by omega), fun hq => ?_⟩, ⟨?_, fun y hy => ?_⟩⟩
            · have h5 := own_fr ho ((Fr.refl [g] w29x).set (p := ⟨g, 4, none⟩) (by simp) (.slice p8 (kk + 1 + (L.length - kk)) c8)) (fun y hy => by have := own_base ho hy; simp; omega)
              rw [e1] at h5
              try rw [← e2]
              exact h5
            · have := own_base ho hq; omega
            · exact ((Fr.of_below HB7.out _).then (Fr.of_below HB29.out _)).set (p := ⟨g, 4, none⟩) (by simp) _
            · have := own_base ho hy; exact .inr (by omega)
        · (try simp only [List.getElem_toArray]); (try simp only [List.getElem_cons_succ]); (try simp only [List.getElem_cons_zero])
          go_simp
          obtain ⟨w32x, hw32⟩ : ∃ x, x = wd1.alloc (.cells #[.string s, .string t, .int .i64 a.c, .int .i64 a.r, .int .i64 a.d, .int .i64 a.p] 48) := ⟨_, rfl⟩
          obtain ⟨z32, hz32⟩ : ∃ x, x = wd1.heap.size := ⟨_, rfl⟩
          have hn32 : Below wd1.heap.size wd1 w32x := by rw [hw32]; exact below_alloc _ _
          have hb32 : Below w7.heap.size w7 w32x := below_and HB1.out hn32
          have HB32 := Lib.hid hb32
          have HY32 : Hid (Blk w32x z32 (entC ⟨s, t, a⟩) 48) := Lib.hid (by rw [hw32, hz32]; exact Blk.made wd1 (entC ⟨s, t, a⟩) _)
          rw [← hw32, ← hz32]
          have HR32 := Lib.hid (H7.out.kept hb32)
          have HS32 := Lib.hid (S7.out.kept hb32)
          refine hK.out _ _ ⟨HR32.out.blk.cell (j := 4) rfl, HS32.out.cell (j := 0) rfl, HS32.out.cell (j := 1) rfl, HS32.out.cell (j := 2) rfl, HS32.out.cell (j := 3) rfl, hb32⟩ (fun hS32 => ?_)
          clear hK K hb32 hw32 hz32 hn32 hS1
          (try simp only [Act.put]); (try simp only [List.setIfInBounds_toArray]); (try simp only [List.set_cons_succ]); (try simp only [List.set_cons_zero])
          refine wpAnyH_ready (rs := [1]) (by kernel_rfl) (by simp) ?_
          refine (AllReadyH.cons rfl (fun K hK => ?_) AllReadyH.nil)
          (try simp only [List.getElem_toArray]); (try simp only [List.getElem_cons_succ]); (try simp only [List.getElem_cons_zero])
          go_simp
          obtain ⟨w33x, hw33⟩ : ∃ x, x = w32x.alloc (.cells #[] 48) := ⟨_, rfl⟩
          obtain ⟨z33, hz33⟩ : ∃ x, x = w32x.heap.size := ⟨_, rfl⟩
          have hn33 : Below w32x.heap.size w32x w33x := by rw [hw33]; exact below_alloc _ _
          have hb33 : Below w7.heap.size w7 w33x := below_and HB32.out hn33
          have HB33 := Lib.hid hb33
          have HO33 : Hid (w33x.ownsRow w7.heap.size 48 6 (.slice (some ⟨z33, 0, none⟩) 0 0) 0 []) := Lib.hid (by rw [hw33, hz33]; exact World.ownsRow_made w32x #[] 0 HB32.out.size (by decide) rfl)
          have HY33 := Lib.hid (HY32.out.kept hn33)
          have HNE33 : Hid (∀ q, (Value.slice (some ⟨z33, 0, none⟩) 0 0).ownBlock = some q → q ≠ z32) := Lib.hid (fun q hq => by simp [Value.ownBlock] at hq; have := HY32.out.lt; omega)
          rw [← hw33, ← hz33]
          have HR33 := Lib.hid (H7.out.kept hb33)
          have HS33 := Lib.hid (S7.out.kept hb33)
          refine hK.out _ _ ⟨HR33.out.blk.cell (j := 4) rfl, HS33.out.cell (j := 0) rfl, HS33.out.cell (j := 1) rfl, HS33.out.cell (j := 2) rfl, HS33.out.cell (j := 3) rfl, hb33⟩ (fun hS33 => ?_)
          clear hK K hb33 hw33 hz33 hn33 hS32
          (try simp only [Act.put]); (try simp only [List.setIfInBounds_toArray]); (try simp only [List.set_cons_succ]); (try simp only [List.set_cons_zero])
          refine wpAnyH_ready (rs := [8]) (by kernel_rfl) (by simp) ?_
          refine (AllReadyH.cons rfl (fun K hK => ?_) AllReadyH.nil)
          refine step_app rfl (.tmp 72) (.tmp 78) 56 56 rfl w7.heap.size 48 i0x (entV zE) 6 64 Try.underlying56 hi hz0 hz1 hz2 rfl (.slice (some ⟨z33, 0, none⟩) 0 0) 0 [] (by rfl) HO33.out (.slice (some ⟨q0, 0, none⟩) kk c) kk (entsC (L.take kk)) (by rfl) (Row.src Try.underlying56 (by have := row_part HR33.out.row (entsC_one L) (o := 0) (m := kk) (c' := c) (by have := HI0.out; omega) (by have := HI0.out; omega) hm (some ⟨q0, 0, none⟩) (by simp) (fun _ => by simp); rw [entsC_first HI0.out] at this; exact this)) (by have := HL.out; have := HI0.out; unfold maxLen; omega) (by have := HL.out; have := HI0.out; omega) HB33.out.size ?_
          intro v34 w34x ho34 hg34 hn34 hk34
          have HO34 : Hid (w34x.ownsRow w7.heap.size 48 6 v34 kk (entsC (L.take kk))) := Lib.hid (by simpa using ho34)
          have hb34 : Below w7.heap.size w7 w34x := HB33.out.trans ((Fr.of_grown hg34).below (by intro y hy; exact own_base HO33.out (Option.mem_toList.1 hy)) HB33.out.size)
          have HB34 := Lib.hid hb34
          have HY34 := Lib.hid (HY33.out.fr (Fr.of_grown hg34) (fun hm => HNE33.out _ (Option.mem_toList.1 hm) rfl))
          have HNE34 : Hid (∀ q, v34.ownBlock = some q → q ≠ z32) := Lib.hid (fun q hq => by rcases hk34 q hq with h1 | h1; exact HNE33.out q h1; have := HY33.out.lt; omega)
          have HR34 := Lib.hid (H7.out.kept hb34)
          have HS34 := Lib.hid (S7.out.kept hb34)
          refine hK.out _ _ ⟨HR34.out.blk.cell (j := 4) rfl, HS34.out.cell (j := 0) rfl, HS34.out.cell (j := 1) rfl, HS34.out.cell (j := 2) rfl, HS34.out.cell (j := 3) rfl, hb34⟩ (fun hS34 => ?_)
          clear hK K hb34 ho34 hg34 hn34 hk34 hS33
          (try simp only [Act.put]); (try simp only [List.setIfInBounds_toArray]); (try simp only [List.set_cons_succ]); (try simp only [List.set_cons_zero])
          refine wpAnyH_ready (rs := [14]) (by kernel_rfl) (by simp) ?_
          refine (AllReadyH.cons rfl (fun K hK => ?_) AllReadyH.nil)
          refine step_app rfl (.tmp 79) (.tmp 84) 56 56 rfl w7.heap.size 48 i0x (entV zE) 6 64 Try.underlying56 hi hz0 hz1 hz2 rfl v34 kk (entsC (L.take kk)) (by rfl) HO34.out (.slice (some ⟨z32, 0, none⟩) 1 1) 1 (entC ⟨s, t, a⟩) (by rfl) (src_block Try.underlying56 _ z32 (entC ⟨s, t, a⟩).toArray HY34.out rfl (entC_one ⟨s, t, a⟩)) (by have := HL.out; have := HI0.out; unfold maxLen; omega) (by have := HL.out; have := HI0.out; omega) HB34.out.size ?_
          intro v35 w35x ho35 hg35 hn35 hk35
          have HO35 : Hid (w35x.ownsRow w7.heap.size 48 6 v35 (kk + 1) (entsC (L.take kk) ++ entC ⟨s, t, a⟩)) := Lib.hid (ho35)
          have hb35 : Below w7.heap.size w7 w35x := HB34.out.trans ((Fr.of_grown hg35).below (by intro y hy; exact own_base HO34.out (Option.mem_toList.1 hy)) HB34.out.size)
          have HB35 := Lib.hid hb35
          have HR35 := Lib.hid (H7.out.kept hb35)
          have HS35 := Lib.hid (S7.out.kept hb35)
          refine hK.out _ _ ⟨HR35.out.blk.cell (j := 4) rfl, HS35.out.cell (j := 0) rfl, HS35.out.cell (j := 1) rfl, HS35.out.cell (j := 2) rfl, HS35.out.cell (j := 3) rfl, hb35⟩ (fun hS35 => ?_)
          clear hK K hb35 ho35 hg35 hn35 hk35 hS34
          (try simp only [Act.put]); (try simp only [List.setIfInBounds_toArray]); (try simp only [List.set_cons_succ]); (try simp only [List.set_cons_zero])
          refine wpAnyH_ready (rs := [21]) (by kernel_rfl) (by simp) ?_
          refine (AllReadyH.cons rfl (fun K hK => ?_) AllReadyH.nil)
          refine step_app rfl (.tmp 85) (.tmp 91) 56 56 rfl w7.heap.size 48 i0x (entV zE) 6 64 Try.underlying56 hi hz0 hz1 hz2 rfl v35 (kk + 1) (entsC (L.take kk) ++ entC ⟨s, t, a⟩) (by rfl) HO35.out (.slice (if c = kk then some ⟨q0, 0, none⟩ else some ⟨q0, kk * 6, none⟩) (L.length - kk) (c - kk)) (L.length - kk) (entsC (L.drop kk)) (by rfl) (Row.src Try.underlying56 (by have := row_part HR35.out.row (entsC_one L) (o := kk) (m := L.length - kk) (c' := c - kk) (by have := HI0.out; omega) (by omega) (by omega) (if c = kk then some ⟨q0, 0, none⟩ else some ⟨q0, kk * 6, none⟩) (by split <;> simp) (fun _ => by rw [if_neg (by have := HI0.out; omega)]); rw [entsC_from HI0.out] at this; exact this)) (by have := HL.out; have := HI0.out; unfold maxLen; omega) (by have := HL.out; have := HI0.out; omega) HB35.out.size ?_
          intro v36 w36x ho36 hg36 hn36 hk36
          have HO36 : Hid (w36x.ownsRow w7.heap.size 48 6 v36 (kk + 1 + (L.length - kk)) (entsC (L.take kk) ++ entC ⟨s, t, a⟩ ++ entsC (L.drop kk))) := Lib.hid (ho36)
          have hb36 : Below w7.heap.size w7 w36x := HB35.out.trans ((Fr.of_grown hg36).below (by intro y hy; exact own_base HO35.out (Option.mem_toList.1 hy)) HB35.out.size)
          have HB36 := Lib.hid hb36
          have HR36 := Lib.hid (H7.out.kept hb36)
          have HS36 := Lib.hid (S7.out.kept hb36)
          refine hK.out _ _ ⟨HR36.out.blk.cell (j := 4) rfl, HS36.out.cell (j := 0) rfl, HS36.out.cell (j := 1) rfl, HS36.out.cell (j := 2) rfl, HS36.out.cell (j := 3) rfl, hb36⟩ (fun hS36 => ?_)
          clear hK K hb36 ho36 hg36 hn36 hk36 hS35
          (try simp only [Act.put]); (try simp only [List.setIfInBounds_toArray]); (try simp only [List.set_cons_succ]); (try simp only [List.set_cons_zero])
          refine wpAnyH_take (i := 22) (v := ?v37) rfl (by kernel_rfl) (by kernel_rfl) (by kernel_rfl) (fun _ _ _ h => h) (Or.inl ⟨by rfl, ?hy37⟩) (by assumption) ?rest37
          case hy37 => (intro _ hSw; (try dsimp only at hSw); go_simp; (try with_reducible rfl))
          (try simp only [Act.put]); (try simp only [List.setIfInBounds_toArray]); (try simp only [List.set_cons_succ]); (try simp only [List.set_cons_zero])
          refine wpAnyH_take (i := 23) (v := ?v38) rfl (by kernel_rfl) (by kernel_rfl) (by kernel_rfl) (fun _ _ _ h => h) (Or.inl ⟨by rfl, ?hy38⟩) (by assumption) ?rest38
          case hy38 => (intro _ hSw; (try dsimp only at hSw); go_simp; (try with_reducible rfl))
          (try simp only [Act.put]); (try simp only [List.setIfInBounds_toArray]); (try simp only [List.set_cons_succ]); (try simp only [List.set_cons_zero])
          refine wpAnyH_done (by kernel_rfl) ?_ _
          refine LastQ.start rfl ?_
          have d4 := HR36.out.blk.cell (j := 4) rfl
          have f4 := HR36.out.blk.free 4
          clear hS36 hHeld
          obtain ⟨p8, c8, rfl, -, -⟩ := own_slice HO36.out
          generalize (if c = kk then some (⟨q0, 0, none⟩ : Addr) else some ⟨q0, kk * 6, none⟩) = pp
          go_wp2
          refine NoPanic.normal ?_
          go_wp2
          go_ret
          have e1 : entsC (L.take kk) ++ entC ⟨s, t, a⟩ ++ entsC (L.drop kk) = entsC (L.take kk ++ ⟨s, t, a⟩ :: L.drop kk) := by unfold entsC; rw [List.flatMap_append, List.flatMap_cons, List.append_assoc]
          have e2 : kk + 1 + (L.length - kk) = (L.take kk ++ (⟨s, t, a⟩ : Ent) :: L.drop kk).length := by have := HI0.out; rw [List.length_append, List.length_cons, List.length_take, List.length_drop]; omega
          have ho := HO36.out
          have hgz : g < w7.heap.size := H7.out.blk.lt
          have hs7 := HB7.out.size
          have hbs := HBS.out
          refine ⟨rfl, _, ⟨HR36.out.blk.set 4 _, own_mono (b := w7.heap.size) ?_ (by omega), fun hq => ?_⟩, ⟨?_, fun y hy => ?_⟩⟩
          · have h5 := own_fr ho ((Fr.refl [g] w36x).set (p := ⟨g, 4, none⟩) (by simp) (.slice p8 (kk + 1 + (L.length - kk)) c8)) (fun y hy => by have := own_base ho hy; simp; omega)
            rw [e1] at h5
            try rw [← e2]
            exact h5
          · have := own_base ho hq; omega
          · exact ((Fr.of_below HB7.out _).then (Fr.of_below HB36.out _)).set (p := ⟨g, 4, none⟩) (by simp) _
          · have := own_base ho hy; exact .inr (by omega)
      · have i5 : ¬ (kk : Int) < (L.length : Int) := by omega
        go_wp2
        refine wp_region_noPanic ?_
        refine wp_region_lastH (fun w' => w'.cell? ⟨g, 4, none⟩ = some (.slice (some ⟨q0, 0, none⟩) L.length c) ∧ w'.cell? ⟨B, 0, none⟩ = some (.int .i64 a.c) ∧ w'.cell? ⟨B, 1, none⟩ = some (.int .i64 a.r) ∧ w'.cell? ⟨B, 2, none⟩ = some (.int .i64 a.d) ∧ w'.cell? ⟨B, 3, none⟩ = some (.int .i64 a.p) ∧ Below w7.heap.size w7 w') 24 rfl rfl (by kernel_rfl) (by kernel_rfl) ⟨H7.out.blk.cell (j := 4) rfl, S7.out.cell (j := 0) rfl, S7.out.cell (j := 1) rfl, S7.out.cell (j := 2) rfl, S7.out.cell (j := 3) rfl, bl_drew (Below.refl _ _)⟩ (fun hHeld => ?_)
        have HB39 : Hid (Below w7.heap.size w7 w7.drew) := Lib.hid (bl_drew (Below.refl _ _))
        have HR39 := Lib.hid (H7.out.kept HB39.out)
        have hS39 : True := trivial
        obtain ⟨wd39, hwd⟩ : ∃ x, x = w7.drew := ⟨_, rfl⟩
        rw [← hwd] at hHeld HB39 HR39 ⊢
        clear hwd
        refine wpAnyH_take (i := 0) (v := ?v40) rfl (by kernel_rfl) (by kernel_rfl) (by kernel_rfl) (fun _ _ _ h => h) (Or.inl ⟨by rfl, ?hy40⟩) (by assumption) ?rest40
        case hy40 => (intro _ hSw; (try dsimp only at hSw); go_simp; (try with_reducible rfl))
        (try simp only [Act.put]); (try simp only [List.setIfInBounds_toArray]); (try simp only [List.set_cons_succ]); (try simp only [List.set_cons_zero])
        refine wpAnyH_take (i := 2) (v := ?v41) rfl (by kernel_rfl) (by kernel_rfl) (by kernel_rfl) (fun _ _ _ h => h) (Or.inl ⟨by rfl, ?hy41⟩) (by assumption) ?rest41
        case hy41 => (intro _ hSw; (try dsimp only at hSw); go_simp; (try with_reducible rfl))
        (try simp only [Act.put]); (try simp only [List.setIfInBounds_toArray]); (try simp only [List.set_cons_succ]); (try simp only [List.set_cons_zero])
        refine wpAnyH_take (i := 3) (v := ?v42) rfl (by kernel_rfl) (by kernel_rfl) (by kernel_rfl) (fun _ _ _ h => h) (Or.inl ⟨by rfl, ?hy42⟩) (by assumption) ?rest42
        case hy42 => (intro _ hSw; (try dsimp only at hSw); go_simp; (try with_reducible rfl))
        (try simp only [Act.put]); (try simp only [List.setIfInBounds_toArray]); (try simp only [List.set_cons_succ]); (try simp only [List.set_cons_zero])
        refine wpAnyH_take (i := 4) (v := ?v43) rfl (by kernel_rfl) (by kernel_rfl) (by kernel_rfl) (fun _ _ _ h => h) (Or.inl ⟨by rfl, ?hy43⟩) (by assumption) ?rest43
        case hy43 => (intro _ hSw; (try dsimp only at hSw); go_simp; (try with_reducible rfl))
        (try simp only [Act.put]); (try simp only [List.setIfInBounds_toArray]); (try simp only [List.set_cons_succ]); (try simp only [List.set_cons_zero])
        refine wpAnyH_take (i := 5) (v := ?v44) rfl (by kernel_rfl) (by kernel_rfl) (by kernel_rfl) (fun _ _ _ h => h) (Or.inl ⟨by rfl, ?hy44⟩) (by assumption) ?rest44
        case hy44 => (intro _ hSw; (try dsimp only at hSw); go_simp; (try with_reducible rfl))
        (try simp only [Act.put]); (try simp only [List.setIfInBounds_toArray]); (try simp only [List.set_cons_succ]); (try simp only [List.set_cons_zero])
        refine wpAnyH_take (i := 6) (v := ?v45) rfl (by kernel_rfl) (by kernel_rfl) (by kernel_rfl) (fun _ _ _ h => h) (Or.inl ⟨by rfl, ?hy45⟩) (by assumption) ?rest45
        case hy45 => (intro _ hSw; (try dsimp only at hSw); go_simp; (try with_reducible rfl))
        (try simp only [Act.put]); (try simp only [List.setIfInBounds_toArray]); (try simp only [List.set_cons_succ]); (try simp only [List.set_cons_zero])
        refine wpAnyH_take (i := 7) (v := ?v46) rfl (by kernel_rfl) (by kernel_rfl) (by kernel_rfl) (fun _ _ _ h => h) (Or.inl ⟨by rfl, ?hy46⟩) (by assumption) ?rest46
        case hy46 => (intro _ hSw; (try dsimp only at hSw); go_simp; (try with_reducible rfl))
        (try simp only [Act.put]); (try simp only [List.setIfInBounds_toArray]); (try simp only [List.set_cons_succ]); (try simp only [List.set_cons_zero])
        refine wpAnyH_take (i := 9) (v := ?v47) rfl (by kernel_rfl) (by kernel_rfl) (by kernel_rfl) (fun _ _ _ h => h) (Or.inl ⟨by rfl, ?hy47⟩) (by assumption) ?rest47
        case hy47 => (intro _ hSw; (try dsimp only at hSw); go_simp; (try with_reducible rfl))
        (try simp only [Act.put]); (try simp only [List.setIfInBounds_toArray]); (try simp only [List.set_cons_succ]); (try simp only [List.set_cons_zero])
        refine wpAnyH_take (i := 10) (v := ?v48) rfl (by kernel_rfl) (by kernel_rfl) (by kernel_rfl) (fun _ _ _ h => h) (Or.inl ⟨by rfl, ?hy48⟩) (by assumption) ?rest48
        case hy48 => (intro _ hSw; (try dsimp only at hSw); go_simp; (try with_reducible rfl))
        (try simp only [Act.put]); (try simp only [List.setIfInBounds_toArray]); (try simp only [List.set_cons_succ]); (try simp only [List.set_cons_zero])
        refine wpAnyH_take (i := 11) (v := ?v49) rfl (by kernel_rfl) (by kernel_rfl) (by kernel_rfl) (fun _ _ _ h => h) (Or.inl ⟨by rfl, ?hy49⟩) (by assumption) ?rest49
        case hy49 => (intro _ hSw; (try dsimp only at hSw); go_simp; (try with_reducible rfl))
        (try simp only [Act.put]); (try simp only [List.setIfInBounds_toArray]); (try simp only [List.set_cons_succ]); (try simp only [List.set_cons_zero])
        refine wpAnyH_take (i := 12) (v := ?v50) rfl (by kernel_rfl) (by kernel_rfl) (by kernel_rfl) (fun _ _ _ h => h) (Or.inl ⟨by rfl, ?hy50⟩) (by assumption) ?rest50
        case hy50 => (intro _ hSw; (try dsimp only at hSw); go_simp; (try with_reducible rfl))
        (try simp only [Act.put]); (try simp only [List.setIfInBounds_toArray]); (try simp only [List.set_cons_succ]); (try simp only [List.set_cons_zero])
        refine wpAnyH_take (i := 15) (v := ?v51) rfl (by kernel_rfl) (by kernel_rfl) (by kernel_rfl) (fun _ _ _ h => h) (Or.inl ⟨by rfl, ?hy51⟩) (by assumption) ?rest51
        case hy51 => (intro _ hSw; (try dsimp only at hSw); go_simp; (try with_reducible rfl))
        (try simp only [Act.put]); (try simp only [List.setIfInBounds_toArray]); (try simp only [List.set_cons_succ]); (try simp only [List.set_cons_zero])
        refine wpAnyH_take (i := 16) (v := ?v52) rfl (by kernel_rfl) (by kernel_rfl) (by kernel_rfl) (fun _ _ _ h => h) (Or.inl ⟨by rfl, ?hy52⟩) (by assumption) ?rest52
        case hy52 => (intro _ hSw; (try dsimp only at hSw); go_simp; (try with_reducible rfl))
        (try simp only [Act.put]); (try simp only [List.setIfInBounds_toArray]); (try simp only [List.set_cons_succ]); (try simp only [List.set_cons_zero])
        refine wpAnyH_take (i := 17) (v := ?v53) rfl (by kernel_rfl) (by kernel_rfl) (by kernel_rfl) (fun _ _ _ h => h) (Or.inl ⟨by rfl, ?hy53⟩) (by assumption) ?rest53
        case hy53 => (intro _ hSw; (try dsimp only at hSw); go_simp; (try with_reducible rfl))
        (try simp only [Act.put]); (try simp only [List.setIfInBounds_toArray]); (try simp only [List.set_cons_succ]); (try simp only [List.set_cons_zero])
        refine wpAnyH_take (i := 18) (v := ?v54) rfl (by kernel_rfl) (by kernel_rfl) (by kernel_rfl) (fun _ _ _ h => h) (Or.inl ⟨by rfl, ?hy54⟩) (by assumption) ?rest54
        case hy54 => (intro _ hSw; (try dsimp only at hSw); go_simp; (try with_reducible rfl))
        (try simp only [Act.put]); (try simp only [List.setIfInBounds_toArray]); (try simp only [List.set_cons_succ]); (try simp only [List.set_cons_zero])
        refine wpAnyH_take (i := 19) (v := ?v55) rfl (by kernel_rfl) (by kernel_rfl) (by kernel_rfl) (fun _ _ _ h => h) (Or.inl ⟨by rfl, ?hy55⟩) (by assumption) ?rest55
        case hy55 => (intro _ hSw; (try dsimp only at hSw); go_simp; (try with_reducible rfl))
        (try simp only [Act.put]); (try simp only [List.setIfInBounds_toArray]); (try simp only [List.set_cons_succ]); (try simp only [List.set_cons_zero])
        refine wpAnyH_take (i := 20) (v := ?v56) rfl (by kernel_rfl) (by kernel_rfl) (by kernel_rfl) (fun _ _ _ h => h) (Or.inl ⟨by rfl, ?hy56⟩) (by assumption) ?rest56
        case hy56 => (intro _ hSw; (try dsimp only at hSw); go_simp; (try with_reducible rfl))
        (try simp only [Act.put]); (try simp only [List.setIfInBounds_toArray]); (try simp only [List.set_cons_succ]); (try simp only [List.set_cons_zero])
        refine wpAnyH_ready (rs := [1, 13]) (by kernel_rfl) (by simp) ?_
        refine (AllReadyH.cons rfl (fun K hK => ?_) (AllReadyH.cons rfl (fun K hK => ?_) AllReadyH.nil))
        · (try simp only [List.getElem_toArray]); (try simp only [List.getElem_cons_succ]); (try simp only [List.getElem_cons_zero])
          go_simp
          obtain ⟨w57x, hw57⟩ : ∃ x, x = wd39.alloc (.cells #[] 48) := ⟨_, rfl⟩
          obtain ⟨z57, hz57⟩ : ∃ x, x = wd39.heap.size := ⟨_, rfl⟩
          have hn57 : Below wd39.heap.size wd39 w57x := by rw [hw57]; exact below_alloc _ _
          have hb57 : Below w7.heap.size w7 w57x := below_and HB39.out hn57
          have HB57 := Lib.hid hb57
          have HO57 : Hid (w57x.ownsRow w7.heap.size 48 6 (.slice (some ⟨z57, 0, none⟩) 0 0) 0 []) := Lib.hid (by rw [hw57, hz57]; exact World.ownsRow_made wd39 #[] 0 HB39.out.size (by decide) rfl)
          rw [← hw57, ← hz57]
          have HR57 := Lib.hid (H7.out.kept hb57)
          have HS57 := Lib.hid (S7.out.kept hb57)
          refine hK.out _ _ ⟨HR57.out.blk.cell (j := 4) rfl, HS57.out.cell (j := 0) rfl, HS57.out.cell (j := 1) rfl, HS57.out.cell (j := 2) rfl, HS57.out.cell (j := 3) rfl, hb57⟩ (fun hS57 => ?_)
          clear hK K hb57 hw57 hz57 hn57 hS39
          (try simp only [Act.put]); (try simp only [List.setIfInBounds_toArray]); (try simp only [List.set_cons_succ]); (try simp only [List.set_cons_zero])
          refine wpAnyH_ready (rs := [8, 13]) (by kernel_rfl) (by simp) ?_
          refine (AllReadyH.cons rfl (fun K hK => ?_) (AllReadyH.cons rfl (fun K hK => ?_) AllReadyH.nil))
          · refine step_app rfl (.tmp 72) (.tmp 78) 56 56 rfl w7.heap.size 48 i0x (entV zE) 6 64 Try.underlying56 hi hz0 hz1 hz2 rfl (.slice (some ⟨z57, 0, none⟩) 0 0) 0 [] (by rfl) HO57.out (.slice (some ⟨q0, 0, none⟩) kk c) kk (entsC (L.take kk)) (by rfl) (Row.src Try.underlying56 (by have := row_part HR57.out.row (entsC_one L) (o := 0) (m := kk) (c' := c) (by have := HI0.out; omega) (by have := HI0.out; omega) hm (some ⟨q0, 0, none⟩) (by simp) (fun _ => by simp); rw [entsC_first HI0.out] at this; exact this)) (by have := HL.out; have := HI0.out; unfold maxLen; omega) (by have := HL.out; have := HI0.out; omega) HB57.out.size ?_
            intro v58 w58x ho58 hg58 hn58 hk58
            have HO58 : Hid (w58x.ownsRow w7.heap.size 48 6 v58 kk (entsC (L.take kk))) := Lib.hid (by simpa using ho58)
            have hb58 : Below w7.heap.size w7 w58x := HB57.out.trans ((Fr.of_grown hg58).below (by intro y hy; exact own_base HO57.out (Option.mem_toList.1 hy)) HB57.out.size)
            have HB58 := Lib.hid hb58
            have HR58 := Lib.hid (H7.out.kept hb58)
            have HS58 := Lib.hid (S7.out.kept hb58)
            refine hK.out _ _ ⟨HR58.out.blk.cell (j := 4) rfl, HS58.out.cell (j := 0) rfl, HS58.out.cell (j := 1) rfl, HS58.out.cell (j := 2) rfl, HS58.out.cell (j := 3) rfl, hb58⟩ (fun hS58 => ?_)
            clear hK K hb58 ho58 hg58 hn58 hk58 hS57
            (try simp only [Act.put]); (try simp only [List.setIfInBounds_toArray]); (try simp only [List.set_cons_succ]); (try simp only [List.set_cons_zero])
            refine wpAnyH_ready (rs := [13]) (by kernel_rfl) (by simp) ?_
            refine (AllReadyH.cons rfl (fun K hK => ?_) AllReadyH.nil)
            (try simp only [List.getElem_toArray]); (try simp only [List.getElem_cons_succ]); (try simp only [List.getElem_cons_zero])
            go_simp
            obtain ⟨w59x, hw59⟩ : ∃ x, x = w58x.alloc (.cells #[.string s, .string t, .int .i64 a.c, .int .i64 a.r, .int .i64 a.d, .int .i64 a.p] 48) := ⟨_, rfl⟩
            obtain ⟨z59, hz59⟩ : ∃ x, x = w58x.heap.size := ⟨_, rfl⟩
            have hn59 : Below w58x.heap.size w58x w59x := by rw [hw59]; exact below_alloc _ _
            have hb59 : Below w7.heap.size w7 w59x := below_and HB58.out hn59
            have HB59 := Lib.hid hb59
            have HY59 : Hid (Blk w59x z59 (entC ⟨s, t, a⟩) 48) := Lib.hid (by rw [hw59, hz59]; exact Blk.made w58x (entC ⟨s, t, a⟩) _)
            have HO59 := Lib.hid (own_fr HO58.out (Fr.of_below hn59 []) (fun _ _ => by simp))
            have HNE59 : Hid (∀ q, (v58 : Value).ownBlock = some q → q ≠ z59) := Lib.hid (fun q hq => by have := own_lt HO58.out hq; omega)
            rw [← hw59, ← hz59]
            have HR59 := Lib.hid (H7.out.kept hb59)
            have HS59 := Lib.hid (S7.out.kept hb59)
            refine hK.out _ _ ⟨HR59.out.blk.cell (j := 4) rfl, HS59.out.cell (j := 0) rfl, HS59.out.cell (j := 1) rfl, HS59.out.cell (j := 2) rfl, HS59.out.cell (j := 3) rfl, hb59⟩ (fun hS59 => ?_)
            clear hK K hb59 hw59 hz59 hn59 hS58
            (try simp only [Act.put]); (try simp only [List.setIfInBounds_toArray]); (try simp only [List.set_cons_succ]); (try simp only [List.set_cons_zero])
            refine wpAnyH_ready (rs := [14]) (by kernel_rfl) (by simp) ?_
            refine (AllReadyH.cons rfl (fun K hK => ?_) AllReadyH.nil)
            refine step_app rfl (.tmp 79) (.tmp 84) 56 56 rfl w7.heap.size 48 i0x (entV zE) 6 64 Try.underlying56 hi hz0 hz1 hz2 rfl v58 kk (entsC (L.take kk)) (by rfl) HO59.out (.slice (some ⟨z59, 0, none⟩) 1 1) 1 (entC ⟨s, t, a⟩) (by rfl) (src_block Try.underlying56 _ z59 (entC ⟨s, t, a⟩).toArray HY59.out rfl (entC_one ⟨s, t, a⟩)) (by have := HL.out; have := HI0.out; unfold maxLen; omega) (by have := HL.out; have := HI0.out; omega) HB59.out.size ?_
            intro v60 w60x ho60 hg60 hn60 hk60
            have HO60 : Hid (w60x.ownsRow w7.heap.size 48 6 v60 (kk + 1) (entsC (L.take kk) ++ entC ⟨s, t, a⟩)) := Lib.hid (ho60)
            have hb60 : Below w7.heap.size w7 w60x := HB59.out.trans ((Fr.of_grown hg60).below (by intro y hy; exact own_base HO59.out (Option.mem_toList.1 hy)) HB59.out.size)
            have HB60 := Lib.hid hb60
            have HR60 := Lib.hid (H7.out.kept hb60)
            have HS60 := Lib.hid (S7.out.kept hb60)
            refine hK.out _ _ ⟨HR60.out.blk.cell (j := 4) rfl, HS60.out.cell (j := 0) rfl, HS60.out.cell (j := 1) rfl, HS60.out.cell (j := 2) rfl, HS60.out.cell (j := 3) rfl, hb60⟩ (fun hS60 => ?_)
            clear hK K hb60 ho60 hg60 hn60 hk60 hS59
            (try simp only [Act.put]); (try simp only [List.setIfInBounds_toArray]); (try simp only [List.set_cons_succ]); (try simp only [List.set_cons_zero])
            refine wpAnyH_ready (rs := [21]) (by kernel_rfl) (by simp) ?_
            refine (AllReadyH.cons rfl (fun K hK => ?_) AllReadyH.nil)
            refine step_app rfl (.tmp 85) (.tmp 91) 56 56 rfl w7.heap.size 48 i0x (entV zE) 6 64 Try.underlying56 hi hz0 hz1 hz2 rfl v60 (kk + 1) (entsC (L.take kk) ++ entC ⟨s, t, a⟩) (by rfl) HO60.out (.slice (if c = kk then some ⟨q0, 0, none⟩ else some ⟨q0, kk * 6, none⟩) (L.length - kk) (c - kk)) (L.length - kk) (entsC (L.drop kk)) (by rfl) (Row.src Try.underlying56 (by have := row_part HR60.out.row (entsC_one L) (o := kk) (m := L.length - kk) (c' := c - kk) (by have := HI0.out; omega) (by omega) (by omega) (if c = kk then some ⟨q0, 0, none⟩ else some ⟨q0, kk * 6, none⟩) (by split <;> simp) (fun _ => by rw [if_neg (by have := HI0.out; omega)]); rw [entsC_from HI0.out] at this; exact this)) (by have := HL.out; have := HI0.out; unfold maxLen; omega) (by have := HL.out; have := HI0.out; omega) HB60.out.size ?_
            intro v61 w61x ho61 hg61 hn61 hk61
            have HO61 : Hid (w61x.ownsRow w7.heap.size 48 6 v61 (kk + 1 + (L.length - kk)) (entsC (L.take kk) ++ entC ⟨s, t, a⟩ ++ entsC (L.drop kk))) := Lib.hid (ho61)
            have hb61 : Below w7.heap.size w7 w61x := HB60.out.trans ((Fr.of_grown hg61).below (by intro y hy; exact own_base HO60.out (Option.mem_toList.1 hy)) HB60.out.size)
            have HB61 := Lib.hid hb61
            have HR61 := Lib.hid (H7.out.kept hb61)
            have HS61 := Lib.hid (S7.out.kept hb61)
            refine hK.out _ _ ⟨HR61.out.blk.cell (j := 4) rfl, HS61.out.cell (j := 0) rfl, HS61.out.cell (j := 1) rfl, HS61.out.cell (j := 2) rfl, HS61.out.cell (j := 3) rfl, hb61⟩ (fun hS61 => ?_)
            clear hK K hb61 ho61 hg61 hn61 hk61 hS60
            (try simp only [Act.put]); (try simp only [List.setIfInBounds_toArray]); (try simp only [List.set_cons_succ]); (try simp only [List.set_cons_zero])
            refine wpAnyH_take (i := 22) (v := ?v62) rfl (by kernel_rfl) (by kernel_rfl) (by kernel_rfl) (fun _ _ _ h => h) (Or.inl ⟨by rfl, ?hy62⟩) (by assumption) ?rest62
            case hy62 => (intro _ hSw; (try dsimp only at hSw); go_simp; (try with_reducible rfl))
            (try simp only [Act.put]); (try simp only [List.setIfInBounds_toArray]); (try simp only [List.set_cons_succ]); (try simp only [List.set_cons_zero])
            refine wpAnyH_take (i := 23) (v := ?v63) rfl (by kernel_rfl) (by kernel_rfl) (by kernel_rfl) (fun _ _ _ h => h) (Or.inl ⟨by rfl, ?hy63⟩) (by assumption) ?rest63
            case hy63 => (intro _ hSw; (try dsimp only at hSw); go_simp; (try with_reducible rfl))
            (try simp only [Act.put]); (try simp only [List.setIfInBounds_toArray]); (try simp only [List.set_cons_succ]); (try simp only [List.set_cons_zero])
            refine wpAnyH_done (by kernel_rfl) ?_ _
            refine LastQ.start rfl ?_
            have d4 := HR61.out.blk.cell (j := 4) rfl
            have f4 := HR61.out.blk.free 4
            clear hS61 hHeld
            obtain ⟨p8, c8, rfl, -, -⟩ := own_slice HO61.out
            generalize (if c = kk then some (⟨q0, 0, none⟩ : Addr) else some ⟨q0, kk * 6, none⟩) = pp
            go_wp2
            refine NoPanic.normal ?_
            go_wp2
            go_ret
            have e1 : entsC (L.take kk) ++ entC ⟨s, t, a⟩ ++ entsC (L.drop kk) = entsC (L.take kk ++ ⟨s, t, a⟩ :: L.drop kk) := by unfold entsC; rw [List.flatMap_append, List.flatMap_cons, List.append_assoc]
            have e2 : kk + 1 + (L.length - kk) = (L.take kk ++ (⟨s, t, a⟩ : Ent) :: L.drop kk).length := by have := HI0.out; rw [List.length_append, List.length_cons, List.length_take, List.length_drop]; omega
            have ho := HO61.out
            have hgz : g < w7.heap.size := H7.out.blk.lt
            have hs7 := HB7.out.size
            have hbs := HBS.out
            refine ⟨rfl, _, ⟨HR61.out.blk.set 4 _, own_mono (b := w7.heap.size) ?_ (by omega), fun hq => ?_⟩, ⟨?_, fun y hy => ?_⟩⟩
            · have h5 := own_fr ho ((Fr.refl [g] w61x).set (p := ⟨g, 4, none⟩) (by simp) (.slice p8 (kk + 1 + (L.length - kk)) c8)) (fun y hy => by have := own_base ho hy; simp; omega)
              rw [e1] at h5
              try rw [← e2]
              exact h5
            · have := own_base ho hq; omega
            · exact ((Fr.of_below HB7.out _).then (Fr.of_below HB61.out _)).set (p := ⟨g, 4, none⟩) (by simp) _
            · have := own_base ho hy; exact .inr (by omega)
          · (try simp only [List.getElem_toArray]); (try simp only [List.getElem_cons_succ]); (try simp only [List.getElem_cons_zero])
            go_simp
            obtain ⟨w64x, hw64⟩ : ∃ x, x = w57x.alloc (.cells #[.string s, .string t, .int .i64 a.c, .int .i64 a.r, .int .i64 a.d, .int .i64 a.p] 48) := ⟨_, rfl⟩
            obtain ⟨z64, hz64⟩ : ∃ x, x = w57x.heap.size := ⟨_, rfl⟩
            have hn64 : Below w57x.heap.size w57x w64x := by rw [hw64]; exact below_alloc _ _
            have hb64 : Below w7.heap.size w7 w64x := below_and HB57.out hn64
            have HB64 := Lib.hid hb64
            have HY64 : Hid (Blk w64x z64 (entC ⟨s, t, a⟩) 48) := Lib.hid (by rw [hw64, hz64]; exact Blk.made w57x (entC ⟨s, t, a⟩) _)
            have HO64 := Lib.hid (own_fr HO57.out (Fr.of_below hn64 []) (fun _ _ => by simp))
            have HNE64 : Hid (∀ q, ((.slice (some ⟨z57, 0, none⟩) 0 0) : Value).ownBlock = some q → q ≠ z64) := Lib.hid (fun q hq => by have := own_lt HO57.out hq; omega)
            rw [← hw64, ← hz64]
            have HR64 := Lib.hid (H7.out.kept hb64)
            have HS64 := Lib.hid (S7.out.kept hb64)
            refine hK.out _ _ ⟨HR64.out.blk.cell (j := 4) rfl, HS64.out.cell (j := 0) rfl, HS64.out.cell (j := 1) rfl, HS64.out.cell (j := 2) rfl, HS64.out.cell (j := 3) rfl, hb64⟩ (fun hS64 => ?_)
            clear hK K hb64 hw64 hz64 hn64 hS57
            (try simp only [Act.put]); (try simp only [List.setIfInBounds_toArray]); (try simp only [List.set_cons_succ]); (try simp only [List.set_cons_zero])
            refine wpAnyH_ready (rs := [8]) (by kernel_rfl) (by simp) ?_
            refine (AllReadyH.cons rfl (fun K hK => ?_) AllReadyH.nil)
            refine step_app rfl (.tmp 72) (.tmp 78) 56 56 rfl w7.heap.size 48 i0x (entV zE) 6 64 Try.underlying56 hi hz0 hz1 hz2 rfl (.slice (some ⟨z57, 0, none⟩) 0 0) 0 [] (by rfl) HO64.out (.slice (some ⟨q0, 0, none⟩) kk c) kk (entsC (L.take kk)) (by rfl) (Row.src Try.underlying56 (by have := row_part HR64.out.row (entsC_one L) (o := 0) (m := kk) (c' := c) (by have := HI0.out; omega) (by have := HI0.out; omega) hm (some ⟨q0, 0, none⟩) (by simp) (fun _ => by simp); rw [entsC_first HI0.out] at this; exact this)) (by have := HL.out; have := HI0.out; unfold maxLen; omega) (by have := HL.out; have := HI0.out; omega) HB64.out.size ?_
            intro v65 w65x ho65 hg65 hn65 hk65
            have HO65 : Hid (w65x.ownsRow w7.heap.size 48 6 v65 kk (entsC (L.take kk))) := Lib.hid (by simpa using ho65)
            have hb65 : Below w7.heap.size w7 w65x := HB64.out.trans ((Fr.of_grown hg65).below (by intro y hy; exact own_base HO64.out (Option.mem_toList.1 hy)) HB64.out.size)
            have HB65 := Lib.hid hb65
            have HY65 := Lib.hid (HY64.out.fr (Fr.of_grown hg65) (fun hm => HNE64.out _ (Option.mem_toList.1 hm) rfl))
            have HNE65 : Hid (∀ q, v65.ownBlock = some q → q ≠ z64) := Lib.hid (fun q hq => by rcases hk65 q hq with h1 | h1; exact HNE64.out q h1; have := HY64.out.lt; omega)
            have HR65 := Lib.hid (H7.out.kept hb65)
            have HS65 := Lib.hid (S7.out.kept hb65)
            refine hK.out _ _ ⟨HR65.out.blk.cell (j := 4) rfl, HS65.out.cell (j := 0) rfl, HS65.out.cell (j := 1) rfl, HS65.out.cell (j := 2) rfl, HS65.out.cell (j := 3) rfl, hb65⟩ (fun hS65 => ?_)
            clear hK K hb65 ho65 hg65 hn65 hk65 hS64
            (try simp only [Act.put]); (try simp only [List.setIfInBounds_toArray]); (try simp only [List.set_cons_succ]); (try simp only [List.set_cons_zero])
            refine wpAnyH_ready (rs := [14]) (by kernel_rfl) (by simp) ?_
            refine (AllReadyH.cons rfl (fun K hK => ?_) AllReadyH.nil)
            refine step_app rfl (.tmp 79) (.tmp 84) 56 56 rfl w7.heap.size 48 i0x (entV zE) 6 64 Try.underlying56 hi hz0 hz1 hz2 rfl v65 kk (entsC (L.take kk)) (by rfl) HO65.out (.slice (some ⟨z64, 0, none⟩) 1 1) 1 (entC ⟨s, t, a⟩) (by rfl) (src_block Try.underlying56 _ z64 (entC ⟨s, t, a⟩).toArray HY65.out rfl (entC_one ⟨s, t, a⟩)) (by have := HL.out; have := HI0.out; unfold maxLen; omega) (by have := HL.out; have := HI0.out; omega) HB65.out.size ?_
            intro v66 w66x ho66 hg66 hn66 hk66
            have HO66 : Hid (w66x.ownsRow w7.heap.size 48 6 v66 (kk + 1) (entsC (L.take kk) ++ entC ⟨s, t, a⟩)) := Lib.hid (ho66)
            have hb66 : Below w7.heap.size w7 w66x := HB65.out.trans ((Fr.of_grown hg66).below (by intro y hy; exact own_base HO65.out (Option.mem_toList.1 hy)) HB65.out.size)
            have HB66 := Lib.hid hb66
            have HR66 := Lib.hid (H7.out.kept hb66)
            have HS66 := Lib.hid (S7.out.kept hb66)
            refine hK.out _ _ ⟨HR66.out.blk.cell (j := 4) rfl, HS66.out.cell (j := 0) rfl, HS66.out.cell (j := 1) rfl, HS66.out.cell (j := 2) rfl, HS66.out.cell (j := 3) rfl, hb66⟩ (fun hS66 => ?_)
            clear hK K hb66 ho66 hg66 hn66 hk66 hS65
            (try simp only [Act.put]); (try simp only [List.setIfInBounds_toArray]); (try simp only [List.set_cons_succ]); (try simp only [List.set_cons_zero])
            refine wpAnyH_ready (rs := [21]) (by kernel_rfl) (by simp) ?_
            refine (AllReadyH.cons rfl (fun K hK => ?_) AllReadyH.nil)
            refine step_app rfl (.tmp 85) (.tmp 91) 56 56 rfl w7.heap.size 48 i0x (entV zE) 6 64 Try.underlying56 hi hz0 hz1 hz2 rfl v66 (kk + 1) (entsC (L.take kk) ++ entC ⟨s, t, a⟩) (by rfl) HO66.out (.slice (if c = kk then some ⟨q0, 0, none⟩ else some ⟨q0, kk * 6, none⟩) (L.length - kk) (c - kk)) (L.length - kk) (entsC (L.drop kk)) (by rfl) (Row.src Try.underlying56 (by have := row_part HR66.out.row (entsC_one L) (o := kk) (m := L.length - kk) (c' := c - kk) (by have := HI0.out; omega) (by omega) (by omega) (if c = kk then some ⟨q0, 0, none⟩ else some ⟨q0, kk * 6, none⟩) (by split <;> simp) (fun _ => by rw [if_neg (by have := HI0.out; omega)]); rw [entsC_from HI0.out] at this; exact this)) (by have := HL.out; have := HI0.out; unfold maxLen; omega) (by have := HL.out; have := HI0.out; omega) HB66.out.size ?_
            intro v67 w67x ho67 hg67 hn67 hk67
            have HO67 : Hid (w67x.ownsRow w7.heap.size 48 6 v67 (kk + 1 + (L.length - kk)) (entsC (L.take kk) ++ entC ⟨s, t, a⟩ ++ entsC (L.drop kk))) := Lib.hid (ho67)
            have hb67 : Below w7.heap.size w7 w67x := HB66.out.trans ((Fr.of_grown hg67).below (by intro y hy; exact own_base HO66.out (Option.mem_toList.1 hy)) HB66.out.size)
            have HB67 := Lib.hid hb67
            have HR67 := Lib.hid (H7.out.kept hb67)
            have HS67 := Lib.hid (S7.out.kept hb67)
            refine hK.out _ _ ⟨HR67.out.blk.cell (j := 4) rfl, HS67.out.cell (j := 0) rfl, HS67.out.cell (j := 1) rfl, HS67.out.cell (j := 2) rfl, HS67.out.cell (j := 3) rfl, hb67⟩ (fun hS67 => ?_)
            clear hK K hb67 ho67 hg67 hn67 hk67 hS66
            (try simp only [Act.put]); (try simp only [List.setIfInBounds_toArray]); (try simp only [List.set_cons_succ]); (try simp only [List.set_cons_zero])
            refine wpAnyH_take (i := 22) (v := ?v68) rfl (by kernel_rfl) (by kernel_rfl) (by kernel_rfl) (fun _ _ _ h => h) (Or.inl ⟨by rfl, ?hy68⟩) (by assumption) ?rest68
            case hy68 => (intro _ hSw; (try dsimp only at hSw); go_simp; (try with_reducible rfl))
            (try simp only [Act.put]); (try simp only [List.setIfInBounds_toArray]); (try simp only [List.set_cons_succ]); (try simp only [List.set_cons_zero])
            refine wpAnyH_take (i := 23) (v := ?v69) rfl (by kernel_rfl) (by kernel_rfl) (by kernel_rfl) (fun _ _ _ h => h) (Or.inl ⟨by rfl, ?hy69⟩) (by assumption) ?rest69
            case hy69 => (intro _ hSw; (try dsimp only at hSw); go_simp; (try with_reducible rfl))
            (try simp only [Act.put]); (try simp only [List.setIfInBounds_toArray]); (try simp only [List.set_cons_succ]); (try simp only [List.set_cons_zero])
            refine wpAnyH_done (by kernel_rfl) ?_ _
            refine LastQ.start rfl ?_
            have d4 := HR67.out.blk.cell (j := 4) rfl
            have f4 := HR67.out.blk.free 4
            clear hS67 hHeld
            obtain ⟨p8, c8, rfl, -, -⟩ := own_slice HO67.out
            generalize (if c = kk then some (⟨q0, 0, none⟩ : Addr) else some ⟨q0, kk * 6, none⟩) = pp
            go_wp2
            refine NoPanic.normal ?_
            go_wp2
            go_ret
            have e1 : entsC (L.take kk) ++ entC ⟨s, t, a⟩ ++ entsC (L.drop kk) = entsC (L.take kk ++ ⟨s, t, a⟩ :: L.drop kk) := by unfold entsC; rw [List.flatMap_append, List.flatMap_cons, List.append_assoc]
            have e2 : kk + 1 + (L.length - kk) = (L.take kk ++ (⟨s, t, a⟩ : Ent) :: L.drop kk).length := by have := HI0.out; rw [List.length_append, List.length_cons, List.length_take, List.length_drop]; omega
            have ho := HO67.out
            have hgz : g < w7.heap.size := H7.out.blk.lt
            have hs7 := HB7.out.size
            have hbs := HBS.out
            refine ⟨rfl, _, ⟨HR67.out.blk.set 4 _, own_mono (b := w7.heap.size) ?_ (by omega), fun hq => ?_⟩, ⟨?_, fun y hy => ?_⟩⟩
            · have h5 := own_fr ho ((Fr.refl [g] w67x).set (p := ⟨g, 4, none⟩) (by simp) (.slice p8 (kk + 1 + (L.length - kk)) c8)) (fun y hy => by have := own_base ho hy; simp; omega)
              rw [e1] at h5
              try rw [← e2]
              exact h5
            · have := own_base ho hq; omega
            · exact ((Fr.of_below HB7.out _).then (Fr.of_below HB67.out _)).set (p := ⟨g, 4, none⟩) (by simp) _
            · have := own_base ho hy; exact .inr (by omega)
        · (try simp only [List.getElem_toArray]); (try simp only [List.getElem_cons_succ]); (try simp only [List.getElem_cons_zero])
          go_simp
          obtain ⟨w70x, hw70⟩ : ∃ x, x = wd39.alloc (.cells #[.string s, .string t, .int .i64 a.c, .int .i64 a.r, .int .i64 a.d, .int .i64 a.p] 48) := ⟨_, rfl⟩
          obtain ⟨z70, hz70⟩ : ∃ x, x = wd39.heap.size := ⟨_, rfl⟩
          have hn70 : Below wd39.heap.size wd39 w70x := by rw [hw70]; exact below_alloc _ _
          have hb70 : Below w7.heap.size w7 w70x := below_and HB39.out hn70
          have HB70 := Lib.hid hb70
          have HY70 : Hid (Blk w70x z70 (entC ⟨s, t, a⟩) 48) := Lib.hid (by rw [hw70, hz70]; exact Blk.made wd39 (entC ⟨s, t, a⟩) _)
          rw [← hw70, ← hz70]
          have HR70 := Lib.hid (H7.out.kept hb70)
          have HS70 := Lib.hid (S7.out.kept hb70)
          refine hK.out _ _ ⟨HR70.out.blk.cell (j := 4) rfl, HS70.out.cell (j := 0) rfl, HS70.out.cell (j := 1) rfl, HS70.out.cell (j := 2) rfl, HS70.out.cell (j := 3) rfl, hb70⟩ (fun hS70 => ?_)
          clear hK K hb70 hw70 hz70 hn70 hS39
          (try simp only [Act.put]); (try simp only [List.setIfInBounds_toArray]); (try simp only [List.set_cons_succ]); (try simp only [List.set_cons_zero])
          refine wpAnyH_ready (rs := [1]) (by kernel_rfl) (by simp) ?_
          refine (AllReadyH.cons rfl (fun K hK => ?_) AllReadyH.nil)
          (try simp only [List.getElem_toArray]); (try simp only [List.getElem_cons_succ]); (try simp only [List.getElem_cons_zero])
          go_simp
          obtain ⟨w71x, hw71⟩ : ∃ x, x = w70x.alloc (.cells #[] 48) := ⟨_, rfl⟩
          obtain ⟨z71, hz71⟩ : ∃ x, x = w70x.heap.size := ⟨_, rfl⟩
          have hn71 : Below w70x.heap.size w70x w71x := by rw [hw71]; exact below_alloc _ _
          have hb71 : Below w7.heap.size w7 w71x := below_and HB70.out hn71
          have HB71 := Lib.hid hb71
          have HO71 : Hid (w71x.ownsRow w7.heap.size 48 6 (.slice (some ⟨z71, 0, none⟩) 0 0) 0 []) := Lib.hid (by rw [hw71, hz71]; exact World.ownsRow_made w70x #[] 0 HB70.out.size (by decide) rfl)
          have HY71 := Lib.hid (HY70.out.kept hn71)
          have HNE71 : Hid (∀ q, (Value.slice (some ⟨z71, 0, none⟩) 0 0).ownBlock = some q → q ≠ z70) := Lib.hid (fun q hq => by simp [Value.ownBlock] at hq; have := HY70.out.lt; omega)
          rw [← hw71, ← hz71]
          have HR71 := Lib.hid (H7.out.kept hb71)
          have HS71 := Lib.hid (S7.out.kept hb71)
          refine hK.out _ _ ⟨HR71.out.blk.cell (j := 4) rfl, HS71.out.cell (j := 0) rfl, HS71.out.cell (j := 1) rfl, HS71.out.cell (j := 2) rfl, HS71.out.cell (j := 3) rfl, hb71⟩ (fun hS71 => ?_)
          clear hK K hb71 hw71 hz71 hn71 hS70
          (try simp only [Act.put]); (try simp only [List.setIfInBounds_toArray]); (try simp only [List.set_cons_succ]); (try simp only [List.set_cons_zero])
          refine wpAnyH_ready (rs := [8]) (by kernel_rfl) (by simp) ?_
          refine (AllReadyH.cons rfl (fun K hK => ?_) AllReadyH.nil)
          refine step_app rfl (.tmp 72) (.tmp 78) 56 56 rfl w7.heap.size 48 i0x (entV zE) 6 64 Try.underlying56 hi hz0 hz1 hz2 rfl (.slice (some ⟨z71, 0, none⟩) 0 0) 0 [] (by rfl) HO71.out (.slice (some ⟨q0, 0, none⟩) kk c) kk (entsC (L.take kk)) (by rfl) (Row.src Try.underlying56 (by have := row_part HR71.out.row (entsC_one L) (o := 0) (m := kk) (c' := c) (by have := HI0.out; omega) (by have := HI0.out; omega) hm (some ⟨q0, 0, none⟩) (by simp) (fun _ => by simp); rw [entsC_first HI0.out] at this; exact this)) (by have := HL.out; have := HI0.out; unfold maxLen; omega) (by have := HL.out; have := HI0.out; omega) HB71.out.size ?_
          intro v72 w72x ho72 hg72 hn72 hk72
          have HO72 : Hid (w72x.ownsRow w7.heap.size 48 6 v72 kk (entsC (L.take kk))) := Lib.hid (by simpa using ho72)
          have hb72 : Below w7.heap.size w7 w72x := HB71.out.trans ((Fr.of_grown hg72).below (by intro y hy; exact own_base HO71.out (Option.mem_toList.1 hy)) HB71.out.size)
          have HB72 := Lib.hid hb72
          have HY72 := Lib.hid (HY71.out.fr (Fr.of_grown hg72) (fun hm => HNE71.out _ (Option.mem_toList.1 hm) rfl))
          have HNE72 : Hid (∀ q, v72.ownBlock = some q → q ≠ z70) := Lib.hid (fun q hq => by rcases hk72 q hq with h1 | h1; exact HNE71.out q h1; have := HY71.out.lt; omega)
          have HR72 := Lib.hid (H7.out.kept hb72)
          have HS72 := Lib.hid (S7.out.kept hb72)
          refine hK.out _ _ ⟨HR72.out.blk.cell (j := 4) rfl, HS72.out.cell (j := 0) rfl, HS72.out.cell (j := 1) rfl, HS72.out.cell (j := 2) rfl, HS72.out.cell (j := 3) rfl, hb72⟩ (fun hS72 => ?_)
          clear hK K hb72 ho72 hg72 hn72 hk72 hS71
          (try simp only [Act.put]); (try simp only [List.setIfInBounds_toArray]); (try simp only [List.set_cons_succ]); (try simp only [List.set_cons_zero])
          refine wpAnyH_ready (rs := [14]) (by kernel_rfl) (by simp) ?_
          refine (AllReadyH.cons rfl (fun K hK => ?_) AllReadyH.nil)
          refine step_app rfl (.tmp 79) (.tmp 84) 56 56 rfl w7.heap.size 48 i0x (entV zE) 6 64 Try.underlying56 hi hz0 hz1 hz2 rfl v72 kk (entsC (L.take kk)) (by rfl) HO72.out (.slice (some ⟨z70, 0, none⟩) 1 1) 1 (entC ⟨s, t, a⟩) (by rfl) (src_block Try.underlying56 _ z70 (entC ⟨s, t, a⟩).toArray HY72.out rfl (entC_one ⟨s, t, a⟩)) (by have := HL.out; have := HI0.out; unfold maxLen; omega) (by have := HL.out; have := HI0.out; omega) HB72.out.size ?_
          intro v73 w73x ho73 hg73 hn73 hk73
          have HO73 : Hid (w73x.ownsRow w7.heap.size 48 6 v73 (kk + 1) (entsC (L.take kk) ++ entC ⟨s, t, a⟩)) := Lib.hid (ho73)
          have hb73 : Below w7.heap.size w7 w73x := HB72.out.trans ((Fr.of_grown hg73).below (by intro y hy; exact own_base HO72.out (Option.mem_toList.1 hy)) HB72.out.size)
          have HB73 := Lib.hid hb73
          have HR73 := Lib.hid (H7.out.kept hb73)
          have HS73 := Lib.hid (S7.out.kept hb73)
          refine hK.out _ _ ⟨HR73.out.blk.cell (j := 4) rfl, HS73.out.cell (j := 0) rfl, HS73.out.cell (j := 1) rfl, HS73.out.cell (j := 2) rfl, HS73.out.cell (j := 3) rfl, hb73⟩ (fun hS73 => ?_)
          clear hK K hb73 ho73 hg73 hn73 hk73 hS72
          (try simp only [Act.put]); (try simp only [List.setIfInBounds_toArray]); (try simp only [List.set_cons_succ]); (try simp only [List.set_cons_zero])
          refine wpAnyH_ready (rs := [21]) (by kernel_rfl) (by simp) ?_
          refine (AllReadyH.cons rfl (fun K hK => ?_) AllReadyH.nil)
          refine step_app rfl (.tmp 85) (.tmp 91) 56 56 rfl w7.heap.size 48 i0x (entV zE) 6 64 Try.underlying56 hi hz0 hz1 hz2 rfl v73 (kk + 1) (entsC (L.take kk) ++ entC ⟨s, t, a⟩) (by rfl) HO73.out (.slice (if c = kk then some ⟨q0, 0, none⟩ else some ⟨q0, kk * 6, none⟩) (L.length - kk) (c - kk)) (L.length - kk) (entsC (L.drop kk)) (by rfl) (Row.src Try.underlying56 (by have := row_part HR73.out.row (entsC_one L) (o := kk) (m := L.length - kk) (c' := c - kk) (by have := HI0.out; omega) (by omega) (by omega) (if c = kk then some ⟨q0, 0, none⟩ else some ⟨q0, kk * 6, none⟩) (by split <;> simp) (fun _ => by rw [if_neg (by have := HI0.out; omega)]); rw [entsC_from HI0.out] at this; exact this)) (by have := HL.out; have := HI0.out; unfold maxLen; omega) (by have := HL.out; have := HI0.out; omega) HB73.out.size ?_
          intro v74 w74x ho74 hg74 hn74 hk74
          have HO74 : Hid (w74x.ownsRow w7.heap.size 48 6 v74 (kk + 1 + (L.length - kk)) (entsC (L.take kk) ++ entC ⟨s, t, a⟩ ++ entsC (L.drop kk))) := Lib.hid (ho74)
          have hb74 : Below w7.heap.size w7 w74x := HB73.out.trans ((Fr.of_grown hg74).below (by intro y hy; exact own_base HO73.out (Option.mem_toList.1 hy)) HB73.out.size)
          have HB74 := Lib.hid hb74
          have HR74 := Lib.hid (H7.out.kept hb74)
          have HS74 := Lib.hid (S7.out.kept hb74)
          refine hK.out _ _ ⟨HR74.out.blk.cell (j := 4) rfl, HS74.out.cell (j := 0) rfl, HS74.out.cell (j := 1) rfl, HS74.out.cell (j := 2) rfl, HS74.out.cell (j := 3) rfl, hb74⟩ (fun hS74 => ?_)
          clear hK K hb74 ho74 hg74 hn74 hk74 hS73
          (try simp only [Act.put]); (try simp only [List.setIfInBounds_toArray]); (try simp only [List.set_cons_succ]); (try simp only [List.set_cons_zero])
          refine wpAnyH_take (i := 22) (v := ?v75) rfl (by kernel_rfl) (by kernel_rfl) (by kernel_rfl) (fun _ _ _ h => h) (Or.inl ⟨by rfl, ?hy75⟩) (by assumption) ?rest75
          case hy75 => (intro _ hSw; (try dsimp only at hSw); go_simp; (try with_reducible rfl))
          (try simp only [Act.put]); (try simp only [List.setIfInBounds_toArray]); (try simp only [List.set_cons_succ]); (try simp only [List.set_cons_zero])
          refine wpAnyH_take (i := 23) (v := ?v76) rfl (by kernel_rfl) (by kernel_rfl) (by kernel_rfl) (fun _ _ _ h => h) (Or.inl ⟨by rfl, ?hy76⟩) (by assumption) ?rest76
          case hy76 => (intro _ hSw; (try dsimp only at hSw); go_simp; (try with_reducible rfl))
          (try simp only [Act.put]); (try simp only [List.setIfInBounds_toArray]); (try simp only [List.set_cons_succ]); (try simp only [List.set_cons_zero])
          refine wpAnyH_done (by kernel_rfl) ?_ _
          refine LastQ.start rfl ?_
          have d4 := HR74.out.blk.cell (j := 4) rfl
          have f4 := HR74.out.blk.free 4
          clear hS74 hHeld
          obtain ⟨p8, c8, rfl, -, -⟩ := own_slice HO74.out
          generalize (if c = kk then some (⟨q0, 0, none⟩ : Addr) else some ⟨q0, kk * 6, none⟩) = pp
          go_wp2
          refine NoPanic.normal ?_
          go_wp2
          go_ret
          have e1 : entsC (L.take kk) ++ entC ⟨s, t, a⟩ ++ entsC (L.drop kk) = entsC (L.take kk ++ ⟨s, t, a⟩ :: L.drop kk) := by unfold entsC; rw [List.flatMap_append, List.flatMap_cons, List.append_assoc]
          have e2 : kk + 1 + (L.length - kk) = (L.take kk ++ (⟨s, t, a⟩ : Ent) :: L.drop kk).length := by have := HI0.out; rw [List.length_append, List.length_cons, List.length_take, List.length_drop]; omega
          have ho := HO74.out
          have hgz : g < w7.heap.size := H7.out.blk.lt
          have hs7 := HB7.out.size
          have hbs := HBS.out
          refine ⟨rfl, _, ⟨HR74.out.blk.set 4 _, own_mono (b := w7.heap.size) ?_ (by omega), fun hq => ?_⟩, ⟨?_, fun y hy => ?_⟩⟩
          · have h5 := own_fr ho ((Fr.refl [g] w74x).set (p := ⟨g, 4, none⟩) (by simp) (.slice p8 (kk + 1 + (L.length - kk)) c8)) (fun y hy => by have := own_base ho hy; simp; omega)
            rw [e1] at h5
            try rw [← e2]
            exact h5
          · have := own_base ho hq; omega
          · exact ((Fr.of_below HB7.out _).then (Fr.of_below HB74.out _)).set (p := ⟨g, 4, none⟩) (by simp) _
          · have := own_base ho hy; exact .inr (by omega)
end Go.Proofs.Ytighcnecajgkpaa
