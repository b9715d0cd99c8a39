/- Texts of one proof, laid together: RTakeNil, RStep, Texts, LedSame. No condition of ours. -/
import Derived.Test.YtighcnecajgkpaaLS8
import Derived.Sort.Walk0
import Derived.Deep.QuietTactic
import Derived.BigQuiet
namespace Go.Proofs.Ytighcnecajgkpaa
open Go.RowKit

set_option maxRecDepth 100000 in
set_option maxHeartbeats 8000000 in
theorem rtake_ok_nil (base g : Nat) (cap : Am) (s t : ByteArray) (a : Am) (w : World) (h : RLed base w g (.slice none 0 0) cap []) (h1 : 1 ≤ s.size) (h2 : s.size ≤ 64) (ha : a.okB = true) (ht : t.toList.isEmpty = true)  (z : Am) (hr : ∀ w, RLed base w g (.slice none 0 0) cap [] → Calls Try.prog 36 #[ptr g, .string t, .string ⟨#[]⟩] w fun e w' => e = .returned (.agg #[.int .i64 z.c, .int .i64 z.r, .int .i64 z.d, .int .i64 z.p]) ∧ Below w.heap.size w w') (hf : fitsB a z = true) (hbs : base ≤ w.heap.size) :
    Calls Try.prog 38 #[ptr g, .string s, .string t, amV a] w fun e w' => e = .returned (.int .i64 0) ∧ ∃ v', RLed base w' g v' cap [⟨s, t, a⟩] ∧ RStep w w' g (.slice none 0 0) v' := by
  obtain ⟨i0x, hi, hz0, hz1, hz2⟩ := info_parts info_ent
  have hp1 : plc [] s = none := rfl
  have HI0 : Hid (0 ≤ ([] : List Ent).length) := Lib.hid (Nat.zero_le _)
  have HL : Hid (([] : List Ent).length ≤ 100000) := Lib.hid (Nat.zero_le _)
  obtain ⟨w3, hw3⟩ : ∃ w3, w3 = w.alloc (.cells #[.int .i64 a.c, .int .i64 a.r, .int .i64 a.d, .int .i64 a.p] 28) := ⟨_, rfl⟩
  obtain ⟨B, hB⟩ : ∃ B, B = w.heap.size := ⟨_, rfl⟩
  have S3 : Hid (Blk w3 B (amC a) 28) := Lib.hid (by rw [hw3, hB]; exact Blk.made w (amC a) _)
  have HB3 : Hid (Below w.heap.size w w3) := Lib.hid (by rw [hw3]; exact below_alloc w _)
  have H3 := Lib.hid (h.kept HB3.out)
  have a0 := S3.out.cell (j := 0) rfl
  have a1 := S3.out.cell (j := 1) rfl
  have a2 := S3.out.cell (j := 2) rfl
  have a3 := S3.out.cell (j := 3) rfl
  have d1 : ¬ ((s.size : Int) < 1) := by omega
  have d2 : ¬ ((64 : Int) < (s.size : Int)) := by omega
  have HC := Lib.hid (Am.chk_yes ha)
  have HP1 : Hid (∀ w, RLed base w g (.slice none 0 0) cap [] → Calls Try.prog 35 #[ptr g, .string s] w fun e w' => e = .returned (.int .i64 (-1)) ∧ Below w.heap.size w w') := Lib.hid (fun w h => by have := place_any base g _ cap [] s w h; unfold plcI at this; rw [hp1] at this; exact this)
  have HBS := Lib.hid hbs
  have HRM := Lib.hid hr
  have HF := Lib.hid hf
  clear h h1 h2 ha hp1 hr hf hbs
  go_enter Try.func38, Try.ntmps38
  go_upto_region 1 with fail
  rw [← hw3, ← hB]
  clear hw3 hB
  go_wp2_with (first | (go_at_call 34; refine (rcheck_any a _).mono ?_; rw [HC.out]; rintro e w4 ⟨rfl, hb⟩; have S4 := Lib.hid (S3.out.kept hb); have HB4 := Lib.hid (below_and HB3.out hb); have H4 := Lib.hid (H3.out.kept hb); clear hb a0 a1 a2 a3) | fail)
  refine (HP1.out _ H4.out).mono ?_
  rintro e w5 ⟨rfl, hb⟩
  have S5 := Lib.hid (S4.out.kept hb)
  have HB5 := Lib.hid (below_and HB4.out hb)
  have H5 := Lib.hid (H4.out.kept hb)
  clear hb
  obtain ⟨w6, hw6⟩ : ∃ w6, w6 = w5 := ⟨_, rfl⟩
  rw [← hw6] at S5 HB5 H5 ⊢
  have S6 := S5
  have HB6 := HB5
  have H6 := H5
  clear hw6 S5 HB5 H5
  have e0 : ∀ y : Past w6, y.val.cell? ⟨B, 0, none⟩ = some (.int .i64 a.c) := Past.blk S6.out (j := 0) rfl
  have e1 : ∀ y : Past w6, y.val.cell? ⟨B, 1, none⟩ = some (.int .i64 a.r) := Past.blk S6.out (j := 1) rfl
  have e2 : ∀ y : Past w6, y.val.cell? ⟨B, 2, none⟩ = some (.int .i64 a.d) := Past.blk S6.out (j := 2) rfl
  have e3 : ∀ y : Past w6, y.val.cell? ⟨B, 3, none⟩ = some (.int .i64 a.p) := Past.blk S6.out (j := 3) rfl
  go_wp2
  refine wp_region_past (by kernel_rfl) (by kernel_rfl) ?_
  repeat (go_big_quiet_step (first | (go_at_call 36; exact past_call (HRM.out _ (H6.out.kept (Past.h _)))) | (go_at_call 51; exact past_call (rfits_val HF.out _))))
  refine wpQuiet_nil ?_
  intro _ hw'
  obtain ⟨s9, hw''⟩ := hw'
  subst hw''
  obtain ⟨w7, h9, e9⟩ : ∃ w7, Below w6.heap.size w6 w7 ∧ w7 = s9.val := ⟨_, s9.h, rfl⟩
  rw [← e9]
  have H7 := Lib.hid (H6.out.kept h9)
  have S7 := Lib.hid (S6.out.kept h9)
  have HB7 := Lib.hid (below_and HB6.out h9)
  clear h9 e9 e0 e1 e2 e3
  go_wp2
  go_loop [10] (fun x => x = .int .i64 0) (fun x => 0)
  case atStart => rfl
  case round =>
    obtain rfl := hrel
    have x4 := H7.out.blk.cell (j := 4) rfl
    go_wp2
    refine wp_region_noPanic ?_
    refine wp_region_lastH (fun w' => w'.cell? ⟨g, 4, none⟩ = some (.slice none 0 0) ∧ w'.cell? ⟨B, 0, none⟩ = some (.int .i64 a.c) ∧ w'.cell? ⟨B, 1, none⟩ = some (.int .i64 a.r) ∧ w'.cell? ⟨B, 2, none⟩ = some (.int .i64 a.d) ∧ w'.cell? ⟨B, 3, none⟩ = some (.int .i64 a.p) ∧ Below w7.heap.size w7 w') 24 rfl rfl (by kernel_rfl) (by kernel_rfl) ⟨H7.out.blk.cell (j := 4) rfl, S7.out.cell (j := 0) rfl, S7.out.cell (j := 1) rfl, S7.out.cell (j := 2) rfl, S7.out.cell (j := 3) rfl, bl_drew (Below.refl _ _)⟩ (fun hHeld => ?_)
    have HB77 : Hid (Below w7.heap.size w7 w7.drew) := Lib.hid (bl_drew (Below.refl _ _))
    have HR77 := Lib.hid (H7.out.kept HB77.out)
    have hS77 : True := trivial
    obtain ⟨wd77, hwd⟩ : ∃ x, x = w7.drew := ⟨_, rfl⟩
    rw [← hwd] at hHeld HB77 HR77 ⊢
    clear hwd
    refine wpAnyH_take (i := 0) (v := ?v78) rfl (by kernel_rfl) (by kernel_rfl) (by kernel_rfl) (fun _ _ _ h => h) (Or.inl ⟨by rfl, ?hy78⟩) (by assumption) ?rest78
    case hy78 => (intro _ hSw; (try dsimp only at hSw); go_simp; (try with_reducible rfl))
    (try simp only [Act.put]); (try simp only [List.setIfInBounds_toArray]); (try simp only [List.set_cons_succ]); (try simp only [List.set_cons_zero])
    refine wpAnyH_take (i := 2) (v := ?v79) rfl (by kernel_rfl) (by kernel_rfl) (by kernel_rfl) (fun _ _ _ h => h) (Or.inl ⟨by rfl, ?hy79⟩) (by assumption) ?rest79
    case hy79 => (intro _ hSw; (try dsimp only at hSw); go_simp; (try with_reducible rfl))
    (try simp only [Act.put]); (try simp only [List.setIfInBounds_toArray]); (try simp only [List.set_cons_succ]); (try simp only [List.set_cons_zero])
    refine wpAnyH_take (i := 3) (v := ?v80) rfl (by kernel_rfl) (by kernel_rfl) (by kernel_rfl) (fun _ _ _ h => h) (Or.inl ⟨by rfl, ?hy80⟩) (by assumption) ?rest80
    case hy80 => (intro _ hSw; (try dsimp only at hSw); go_simp; (try with_reducible rfl))
    (try simp only [Act.put]); (try simp only [List.setIfInBounds_toArray]); (try simp only [List.set_cons_succ]); (try simp only [List.set_cons_zero])
    refine wpAnyH_take (i := 4) (v := ?v81) rfl (by kernel_rfl) (by kernel_rfl) (by kernel_rfl) (fun _ _ _ h => h) (Or.inl ⟨by rfl, ?hy81⟩) (by assumption) ?rest81
    case hy81 => (intro _ hSw; (try dsimp only at hSw); go_simp; (try with_reducible rfl))
    (try simp only [Act.put]); (try simp only [List.setIfInBounds_toArray]); (try simp only [List.set_cons_succ]); (try simp only [List.set_cons_zero])
    refine wpAnyH_take (i := 5) (v := ?v82) rfl (by kernel_rfl) (by kernel_rfl) (by kernel_rfl) (fun _ _ _ h => h) (Or.inl ⟨by rfl, ?hy82⟩) (by assumption) ?rest82
    case hy82 => (intro _ hSw; (try dsimp only at hSw); go_simp; (try with_reducible rfl))
    (try simp only [Act.put]); (try simp only [List.setIfInBounds_toArray]); (try simp only [List.set_cons_succ]); (try simp only [List.set_cons_zero])
    refine wpAnyH_take (i := 6) (v := ?v83) rfl (by kernel_rfl) (by kernel_rfl) (by kernel_rfl) (fun _ _ _ h => h) (Or.inl ⟨by rfl, ?hy83⟩) (by assumption) ?rest83
    case hy83 => (intro _ hSw; (try dsimp only at hSw); go_simp; (try with_reducible rfl))
    (try simp only [Act.put]); (try simp only [List.setIfInBounds_toArray]); (try simp only [List.set_cons_succ]); (try simp only [List.set_cons_zero])
    refine wpAnyH_take (i := 7) (v := ?v84) rfl (by kernel_rfl) (by kernel_rfl) (by kernel_rfl) (fun _ _ _ h => h) (Or.inl ⟨by rfl, ?hy84⟩) (by assumption) ?rest84
    case hy84 => (intro _ hSw; (try dsimp only at hSw); go_simp; (try with_reducible rfl))
    (try simp only [Act.put]); (try simp only [List.setIfInBounds_toArray]); (try simp only [List.set_cons_succ]); (try simp only [List.set_cons_zero])
    refine wpAnyH_take (i := 9) (v := ?v85) rfl (by kernel_rfl) (by kernel_rfl) (by kernel_rfl) (fun _ _ _ h => h) (Or.inl ⟨by rfl, ?hy85⟩) (by assumption) ?rest85
    case hy85 => (intro _ hSw; (try dsimp only at hSw); go_simp; (try with_reducible rfl))
    (try simp only [Act.put]); (try simp only [List.setIfInBounds_toArray]); (try simp only [List.set_cons_succ]); (try simp only [List.set_cons_zero])
    refine wpAnyH_take (i := 10) (v := ?v86) rfl (by kernel_rfl) (by kernel_rfl) (by kernel_rfl) (fun _ _ _ h => h) (Or.inl ⟨by rfl, ?hy86⟩) (by assumption) ?rest86
    case hy86 => (intro _ hSw; (try dsimp only at hSw); go_simp; (try with_reducible rfl))
    (try simp only [Act.put]); (try simp only [List.setIfInBounds_toArray]); (try simp only [List.set_cons_succ]); (try simp only [List.set_cons_zero])
    refine wpAnyH_take (i := 11) (v := ?v87) rfl (by kernel_rfl) (by kernel_rfl) (by kernel_rfl) (fun _ _ _ h => h) (Or.inl ⟨by rfl, ?hy87⟩) (by assumption) ?rest87
    case hy87 => (intro _ hSw; (try dsimp only at hSw); go_simp; (try with_reducible rfl))
    (try simp only [Act.put]); (try simp only [List.setIfInBounds_toArray]); (try simp only [List.set_cons_succ]); (try simp only [List.set_cons_zero])
    refine wpAnyH_take (i := 12) (v := ?v88) rfl (by kernel_rfl) (by kernel_rfl) (by kernel_rfl) (fun _ _ _ h => h) (Or.inl ⟨by rfl, ?hy88⟩) (by assumption) ?rest88
    case hy88 => (intro _ hSw; (try dsimp only at hSw); go_simp; (try with_reducible rfl))
    (try simp only [Act.put]); (try simp only [List.setIfInBounds_toArray]); (try simp only [List.set_cons_succ]); (try simp only [List.set_cons_zero])
    refine wpAnyH_take (i := 15) (v := ?v89) rfl (by kernel_rfl) (by kernel_rfl) (by kernel_rfl) (fun _ _ _ h => h) (Or.inl ⟨by rfl, ?hy89⟩) (by assumption) ?rest89
    case hy89 => (intro _ hSw; (try dsimp only at hSw); go_simp; (try with_reducible rfl))
    (try simp only [Act.put]); (try simp only [List.setIfInBounds_toArray]); (try simp only [List.set_cons_succ]); (try simp only [List.set_cons_zero])
    refine wpAnyH_take (i := 16) (v := ?v90) rfl (by kernel_rfl) (by kernel_rfl) (by kernel_rfl) (fun _ _ _ h => h) (Or.inl ⟨by rfl, ?hy90⟩) (by assumption) ?rest90
    case hy90 => (intro _ hSw; (try dsimp only at hSw); go_simp; (try with_reducible rfl))
    (try simp only [Act.put]); (try simp only [List.setIfInBounds_toArray]); (try simp only [List.set_cons_succ]); (try simp only [List.set_cons_zero])
    refine wpAnyH_take (i := 17) (v := ?v91) rfl (by kernel_rfl) (by kernel_rfl) (by kernel_rfl) (fun _ _ _ h => h) (Or.inl ⟨by rfl, ?hy91⟩) (by assumption) ?rest91
    case hy91 => (intro _ hSw; (try dsimp only at hSw); go_simp; (try with_reducible rfl))
    (try simp only [Act.put]); (try simp only [List.setIfInBounds_toArray]); (try simp only [List.set_cons_succ]); (try simp only [List.set_cons_zero])
    refine wpAnyH_take (i := 18) (v := ?v92) rfl (by kernel_rfl) (by kernel_rfl) (by kernel_rfl) (fun _ _ _ h => h) (Or.inl ⟨by rfl, ?hy92⟩) (by assumption) ?rest92
    case hy92 => (intro _ hSw; (try dsimp only at hSw); go_simp; (try with_reducible rfl))
    (try simp only [Act.put]); (try simp only [List.setIfInBounds_toArray]); (try simp only [List.set_cons_succ]); (try simp only [List.set_cons_zero])
    refine wpAnyH_take (i := 19) (v := ?v93) rfl (by kernel_rfl) (by kernel_rfl) (by kernel_rfl) (fun _ _ _ h => h) (Or.inl ⟨by rfl, ?hy93⟩) (by assumption) ?rest93
    case hy93 => (intro _ hSw; (try dsimp only at hSw); go_simp; (try with_reducible rfl))
    (try simp only [Act.put]); (try simp only [List.setIfInBounds_toArray]); (try simp only [List.set_cons_succ]); (try simp only [List.set_cons_zero])
    refine wpAnyH_take (i := 20) (v := ?v94) rfl (by kernel_rfl) (by kernel_rfl) (by kernel_rfl) (fun _ _ _ h => h) (Or.inl ⟨by rfl, ?hy94⟩) (by assumption) ?rest94
    case hy94 => (intro _ hSw; (try dsimp only at hSw); go_simp; (try with_reducible rfl))
    (try simp only [Act.put]); (try simp only [List.setIfInBounds_toArray]); (try simp only [List.set_cons_succ]); (try simp only [List.set_cons_zero])
    refine wpAnyH_ready (rs := [1, 13]) (by kernel_rfl) (by simp) ?_
    refine (AllReadyH.cons rfl (fun K hK => ?_) (AllReadyH.cons rfl (fun K hK => ?_) AllReadyH.nil))
    · (try simp only [List.getElem_toArray]); (try simp only [List.getElem_cons_succ]); (try simp only [List.getElem_cons_zero])
      go_simp
      obtain ⟨w95x, hw95⟩ : ∃ x, x = wd77.alloc (.cells #[] 48) := ⟨_, rfl⟩
      obtain ⟨z95, hz95⟩ : ∃ x, x = wd77.heap.size := ⟨_, rfl⟩
      have hn95 : Below wd77.heap.size wd77 w95x := by rw [hw95]; exact below_alloc _ _
      have hb95 : Below w7.heap.size w7 w95x := below_and HB77.out hn95
      have HB95 := Lib.hid hb95
      have HO95 : Hid (w95x.ownsRow w7.heap.size 48 6 (.slice (some ⟨z95, 0, none⟩) 0 0) 0 []) := Lib.hid (by rw [hw95, hz95]; exact World.ownsRow_made wd77 #[] 0 HB77.out.size (by decide) rfl)
      rw [← hw95, ← hz95]
      have HR95 := Lib.hid (H7.out.kept hb95)
      have HS95 := Lib.hid (S7.out.kept hb95)
      refine hK.out _ _ ⟨HR95.out.blk.cell (j := 4) rfl, HS95.out.cell (j := 0) rfl, HS95.out.cell (j := 1) rfl, HS95.out.cell (j := 2) rfl, HS95.out.cell (j := 3) rfl, hb95⟩ (fun hS95 => ?_)
      clear hK K hb95 hw95 hz95 hn95 hS77
      (try simp only [Act.put]); (try simp only [List.setIfInBounds_toArray]); (try simp only [List.set_cons_succ]); (try simp only [List.set_cons_zero])
      refine wpAnyH_ready (rs := [8, 13]) (by kernel_rfl) (by simp) ?_
      refine (AllReadyH.cons rfl (fun K hK => ?_) (AllReadyH.cons rfl (fun K hK => ?_) AllReadyH.nil))
      · refine step_app rfl (.tmp 72) (.tmp 78) 56 56 rfl w7.heap.size 48 i0x (entV zE) 6 64 Try.underlying56 hi hz0 hz1 hz2 rfl (.slice (some ⟨z95, 0, none⟩) 0 0) 0 [] (by rfl) HO95.out (.slice none 0 0) 0 (entsC (([] : List Ent).take 0)) (by rfl) (Row.src Try.underlying56 (row_nil _ 6)) (by have := HL.out; have := HI0.out; unfold maxLen; omega) (by have := HL.out; have := HI0.out; omega) HB95.out.size ?_
        intro v96 w96x ho96 hg96 hn96 hk96
        have HO96 : Hid (w96x.ownsRow w7.heap.size 48 6 v96 0 (entsC (([] : List Ent).take 0))) := Lib.hid (by simpa using ho96)
        have hb96 : Below w7.heap.size w7 w96x := HB95.out.trans ((Fr.of_grown hg96).below (by intro y hy; exact own_base HO95.out (Option.mem_toList.1 hy)) HB95.out.size)
        have HB96 := Lib.hid hb96
        have HR96 := Lib.hid (H7.out.kept hb96)
        have HS96 := Lib.hid (S7.out.kept hb96)
        refine hK.out _ _ ⟨HR96.out.blk.cell (j := 4) rfl, HS96.out.cell (j := 0) rfl, HS96.out.cell (j := 1) rfl, HS96.out.cell (j := 2) rfl, HS96.out.cell (j := 3) rfl, hb96⟩ (fun hS96 => ?_)
        clear hK K hb96 ho96 hg96 hn96 hk96 hS95
        (try simp only [Act.put]); (try simp only [List.setIfInBounds_toArray]); (try simp only [List.set_cons_succ]); (try simp only [List.set_cons_zero])
        refine wpAnyH_ready (rs := [13]) (by kernel_rfl) (by simp) ?_
        refine (AllReadyH.cons rfl (fun K hK => ?_) AllReadyH.nil)
        (try simp only [List.getElem_toArray]); (try simp only [List.getElem_cons_succ]); (try simp only [List.getElem_cons_zero])
        go_simp
        obtain ⟨w97x, hw97⟩ : ∃ x, x = w96x.alloc (.cells #[.string s, .string t, .int .i64 a.c, .int .i64 a.r, .int .i64 a.d, .int .i64 a.p] 48) := ⟨_, rfl⟩
        obtain ⟨z97, hz97⟩ : ∃ x, x = w96x.heap.size := ⟨_, rfl⟩
        have hn97 : Below w96x.heap.size w96x w97x := by rw [hw97]; exact below_alloc _ _
        have hb97 : Below w7.heap.size w7 w97x := below_and HB96.out hn97
        have HB97 := Lib.hid hb97
        have HY97 : Hid (Blk w97x z97 (entC ⟨s, t, a⟩) 48) := Lib.hid (by rw [hw97, hz97]; exact Blk.made w96x (entC ⟨s, t, a⟩) _)
        have HO97 := Lib.hid (own_fr HO96.out (Fr.of_below hn97 []) (fun _ _ => by simp))
        have HNE97 : Hid (∀ q, (v96 : Value).ownBlock = some q → q ≠ z97) := Lib.hid (fun q hq => by have := own_lt HO96.out hq; omega)
        rw [← hw97, ← hz97]
        have HR97 := Lib.hid (H7.out.kept hb97)
        have HS97 := Lib.hid (S7.out.kept hb97)
        refine hK.out _ _ ⟨HR97.out.blk.cell (j := 4) rfl, HS97.out.cell (j := 0) rfl, HS97.out.cell (j := 1) rfl, HS97.out.cell (j := 2) rfl, HS97.out.cell (j := 3) rfl, hb97⟩ (fun hS97 => ?_)
        clear hK K hb97 hw97 hz97 hn97 hS96
        (try simp only [Act.put]); (try simp only [List.setIfInBounds_toArray]); (try simp only [List.set_cons_succ]); (try simp only [List.set_cons_zero])
        refine wpAnyH_ready (rs := [14]) (by kernel_rfl) (by simp) ?_
        refine (AllReadyH.cons rfl (fun K hK => ?_) AllReadyH.nil)
        refine step_app rfl (.tmp 79) (.tmp 84) 56 56 rfl w7.heap.size 48 i0x (entV zE) 6 64 Try.underlying56 hi hz0 hz1 hz2 rfl v96 0 (entsC (([] : List Ent).take 0)) (by rfl) HO97.out (.slice (some ⟨z97, 0, none⟩) 1 1) 1 (entC ⟨s, t, a⟩) (by rfl) (src_block Try.underlying56 _ z97 (entC ⟨s, t, a⟩).toArray HY97.out rfl (entC_one ⟨s, t, a⟩)) (by have := HL.out; have := HI0.out; unfold maxLen; omega) (by have := HL.out; have := HI0.out; omega) HB97.out.size ?_
        intro v98 w98x ho98 hg98 hn98 hk98
        have HO98 : Hid (w98x.ownsRow w7.heap.size 48 6 v98 (0 + 1) (entsC (([] : List Ent).take 0) ++ entC ⟨s, t, a⟩)) := Lib.hid (ho98)
        have hb98 : Below w7.heap.size w7 w98x := HB97.out.trans ((Fr.of_grown hg98).below (by intro y hy; exact own_base HO97.out (Option.mem_toList.1 hy)) HB97.out.size)
        have HB98 := Lib.hid hb98
        have HR98 := Lib.hid (H7.out.kept hb98)
        have HS98 := Lib.hid (S7.out.kept hb98)
        refine hK.out _ _ ⟨HR98.out.blk.cell (j := 4) rfl, HS98.out.cell (j := 0) rfl, HS98.out.cell (j := 1) rfl, HS98.out.cell (j := 2) rfl, HS98.out.cell (j := 3) rfl, hb98⟩ (fun hS98 => ?_)
        clear hK K hb98 ho98 hg98 hn98 hk98 hS97
        (try simp only [Act.put]); (try simp only [List.setIfInBounds_toArray]); (try simp only [List.set_cons_succ]); (try simp only [List.set_cons_zero])
        refine wpAnyH_ready (rs := [21]) (by kernel_rfl) (by simp) ?_
        refine (AllReadyH.cons rfl (fun K hK => ?_) AllReadyH.nil)
        refine step_app rfl (.tmp 85) (.tmp 91) 56 56 rfl w7.heap.size 48 i0x (entV zE) 6 64 Try.underlying56 hi hz0 hz1 hz2 rfl v98 (0 + 1) (entsC (([] : List Ent).take 0) ++ entC ⟨s, t, a⟩) (by rfl) HO98.out (.slice none 0 0) (([] : List Ent).length - 0) (entsC (([] : List Ent).drop 0)) (by rfl) (Row.src Try.underlying56 (row_nil _ 6)) (by have := HL.out; have := HI0.out; unfold maxLen; omega) (by have := HL.out; have := HI0.out; omega) HB98.out.size ?_
        intro v99 w99x ho99 hg99 hn99 hk99
        have HO99 : Hid (w99x.ownsRow w7.heap.size 48 6 v99 (0 + 1 + (([] : List Ent).length - 0)) (entsC (([] : List Ent).take 0) ++ entC ⟨s, t, a⟩ ++ entsC (([] : List Ent).drop 0))) := Lib.hid (ho99)
        have hb99 : Below w7.heap.size w7 w99x := HB98.out.trans ((Fr.of_grown hg99).below (by intro y hy; exact own_base HO98.out (Option.mem_toList.1 hy)) HB98.out.size)
        have HB99 := Lib.hid hb99
        have HR99 := Lib.hid (H7.out.kept hb99)
        have HS99 := Lib.hid (S7.out.kept hb99)
        refine hK.out _ _ ⟨HR99.out.blk.cell (j := 4) rfl, HS99.out.cell (j := 0) rfl, HS99.out.cell (j := 1) rfl, HS99.out.cell (j := 2) rfl, HS99.out.cell (j := 3) rfl, hb99⟩ (fun hS99 => ?_)
        clear hK K hb99 ho99 hg99 hn99 hk99 hS98
        (try simp only [Act.put]); (try simp only [List.setIfInBounds_toArray]); (try simp only [List.set_cons_succ]); (try simp only [List.set_cons_zero])
        refine wpAnyH_take (i := 22) (v := ?v100) rfl (by kernel_rfl) (by kernel_rfl) (by kernel_rfl) (fun _ _ _ h => h) (Or.inl ⟨by rfl, ?hy100⟩) (by assumption) ?rest100
        case hy100 => (intro _ hSw; (try dsimp only at hSw); go_simp; (try with_reducible rfl))
        (try simp only [Act.put]); (try simp only [List.setIfInBounds_toArray]); (try simp only [List.set_cons_succ]); (try simp only [List.set_cons_zero])
        refine wpAnyH_take (i := 23) (v := ?v101) rfl (by kernel_rfl) (by kernel_rfl) (by kernel_rfl) (fun _ _ _ h => h) (Or.inl ⟨by rfl, ?hy101⟩) (by assumption) ?rest101
        case hy101 => (intro _ hSw; (try dsimp only at hSw); go_simp; (try with_reducible rfl))
        (try simp only [Act.put]); (try simp only [List.setIfInBounds_toArray]); (try simp only [List.set_cons_succ]); (try simp only [List.set_cons_zero])
        refine wpAnyH_done (by kernel_rfl) ?_ _
        refine LastQ.start rfl ?_
        have d4 := HR99.out.blk.cell (j := 4) rfl
        have f4 := HR99.out.blk.free 4
        clear hS99 hHeld
        obtain ⟨p8, c8, rfl, -, -⟩ := own_slice HO99.out
        go_wp2
        refine NoPanic.normal ?_
        go_wp2
        go_ret
        have e1 : entsC (([] : List Ent).take 0) ++ entC ⟨s, t, a⟩ ++ entsC (([] : List Ent).drop 0) = entsC (([] : List Ent).take 0 ++ ⟨s, t, a⟩ :: ([] : List Ent).drop 0) := by unfold entsC; rw [List.flatMap_append, List.flatMap_cons, List.append_assoc]
        have e2 : 0 + 1 + (([] : List Ent).length - 0) = (([] : List Ent).take 0 ++ (⟨s, t, a⟩ : Ent) :: ([] : List Ent).drop 0).length := by have := HI0.out; rw [List.length_append, List.length_cons, List.length_take, List.length_drop]; omega
        have ho := HO99.out
        have hgz : g < w7.heap.size := H7.out.blk.lt
        have hs7 := HB7.out.size
        have hbs := HBS.out
        refine ⟨rfl, _, ⟨HR99.out.blk.set 4 _, own_mono (b := w7.heap.size) ?_ (by omega), fun hq => ?_⟩, ⟨?_, fun y hy => ?_⟩⟩
        · have h5 := own_fr ho ((Fr.refl [g] w99x).set (p := ⟨g, 4, none⟩) (by simp) (.slice p8 (0 + 1 + (([] : List Ent).length - 0)) c8)) (fun y hy => by have := own_base ho hy; simp; omega)
          rw [e1] at h5
          try rw [← e2]
          exact h5
        · have := own_base ho hq; omega
        · exact ((Fr.of_below HB7.out _).then (Fr.of_below HB99.out _)).set (p := ⟨g, 4, none⟩) (by simp) _
        · have := own_base ho hy; exact .inr (by omega)
      · (try simp only [List.getElem_toArray]); (try simp only [List.getElem_cons_succ]); (try simp only [List.getElem_cons_zero])
        go_simp
        obtain ⟨w102x, hw102⟩ : ∃ x, x = w95x.alloc (.cells #[.string s, .string t, .int .i64 a.c, .int .i64 a.r, .int .i64 a.d, .int .i64 a.p] 48) := ⟨_, rfl⟩
        obtain ⟨z102, hz102⟩ : ∃ x, x = w95x.heap.size := ⟨_, rfl⟩
        have hn102 : Below w95x.heap.size w95x w102x := by rw [hw102]; exact below_alloc _ _
        have hb102 : Below w7.heap.size w7 w102x := below_and HB95.out hn102
        have HB102 := Lib.hid hb102
        have HY102 : Hid (Blk w102x z102 (entC ⟨s, t, a⟩) 48) := Lib.hid (by rw [hw102, hz102]; exact Blk.made w95x (entC ⟨s, t, a⟩) _)
        have HO102 := Lib.hid (own_fr HO95.out (Fr.of_below hn102 []) (fun _ _ => by simp))
        have HNE102 : Hid (∀ q, ((.slice (some ⟨z95, 0, none⟩) 0 0) : Value).ownBlock = some q → q ≠ z102) := Lib.hid (fun q hq => by have := own_lt HO95.out hq; omega)
        rw [← hw102, ← hz102]
        have HR102 := Lib.hid (H7.out.kept hb102)
        have HS102 := Lib.hid (S7.out.kept hb102)
        refine hK.out _ _ ⟨HR102.out.blk.cell (j := 4) rfl, HS102.out.cell (j := 0) rfl, HS102.out.cell (j := 1) rfl, HS102.out.cell (j := 2) rfl, HS102.out.cell (j := 3) rfl, hb102⟩ (fun hS102 => ?_)
        clear hK K hb102 hw102 hz102 hn102 hS95
        (try simp only [Act.put]); (try simp only [List.setIfInBounds_toArray]); (try simp only [List.set_cons_succ]); (try simp only [List.set_cons_zero])
        refine wpAnyH_ready (rs := [8]) (by kernel_rfl) (by simp) ?_
        refine (AllReadyH.cons rfl (fun K hK => ?_) AllReadyH.nil)
        refine step_app rfl (.tmp 72) (.tmp 78) 56 56 rfl w7.heap.size 48 i0x (entV zE) 6 64 Try.underlying56 hi hz0 hz1 hz2 rfl (.slice (some ⟨z95, 0, none⟩) 0 0) 0 [] (by rfl) HO102.out (.slice none 0 0) 0 (entsC (([] : List Ent).take 0)) (by rfl) (Row.src Try.underlying56 (row_nil _ 6)) (by have := HL.out; have := HI0.out; unfold maxLen; omega) (by have := HL.out; have := HI0.out; omega) HB102.out.size ?_
        intro v103 w103x ho103 hg103 hn103 hk103
        have HO103 : Hid (w103x.ownsRow w7.heap.size 48 6 v103 0 (entsC (([] : List Ent).take 0))) := Lib.hid (by simpa using ho103)
        have hb103 : Below w7.heap.size w7 w103x := HB102.out.trans ((Fr.of_grown hg103).below (by intro y hy; exact own_base HO102.out (Option.mem_toList.1 hy)) HB102.out.size)
        have HB103 := Lib.hid hb103
        have HY103 := Lib.hid (HY102.out.fr (Fr.of_grown hg103) (fun hm => HNE102.out _ (Option.mem_toList.1 hm) rfl))
        have HNE103 : Hid (∀ q, v103.ownBlock = some q → q ≠ z102) := Lib.hid (fun q hq => by rcases hk103 q hq with h1 | h1; exact HNE102.out q h1; have := HY102.out.lt; omega)
        have HR103 := Lib.hid (H7.out.kept hb103)
        have HS103 := Lib.hid (S7.out.kept hb103)
        refine hK.out _ _ ⟨HR103.out.blk.cell (j := 4) rfl, HS103.out.cell (j := 0) rfl, HS103.out.cell (j := 1) rfl, HS103.out.cell (j := 2) rfl, HS103.out.cell (j := 3) rfl, hb103⟩ (fun hS103 => ?_)
        clear hK K hb103 ho103 hg103 hn103 hk103 hS102
        (try simp only [Act.put]); (try simp only [List.setIfInBounds_toArray]); (try simp only [List.set_cons_succ]); (try simp only [List.set_cons_zero])
        refine wpAnyH_ready (rs := [14]) (by kernel_rfl) (by simp) ?_
        refine (AllReadyH.cons rfl (fun K hK => ?_) AllReadyH.nil)
        refine step_app rfl (.tmp 79) (.tmp 84) 56 56 rfl w7.heap.size 48 i0x (entV zE) 6 64 Try.underlying56 hi hz0 hz1 hz2 rfl v103 0 (entsC (([] : List Ent).take 0)) (by rfl) HO103.out (.slice (some ⟨z102, 0, none⟩) 1 1) 1 (entC ⟨s, t, a⟩) (by rfl) (src_block Try.underlying56 _ z102 (entC ⟨s, t, a⟩).toArray HY103.out rfl (entC_one ⟨s, t, a⟩)) (by have := HL.out; have := HI0.out; unfold maxLen; omega) (by have := HL.out; have := HI0.out; omega) HB103.out.size ?_
        intro v104 w104x ho104 hg104 hn104 hk104
        have HO104 : Hid (w104x.ownsRow w7.heap.size 48 6 v104 (0 + 1) (entsC (([] : List Ent).take 0) ++ entC ⟨s, t, a⟩)) := Lib.hid (ho104)
        have hb104 : Below w7.heap.size w7 w104x := HB103.out.trans ((Fr.of_grown hg104).below (by intro y hy; exact own_base HO103.out (Option.mem_toList.1 hy)) HB103.out.size)
        have HB104 := Lib.hid hb104
        have HR104 := Lib.hid (H7.out.kept hb104)
        have HS104 := Lib.hid (S7.out.kept hb104)
        refine hK.out _ _ ⟨HR104.out.blk.cell (j := 4) rfl, HS104.out.cell (j := 0) rfl, HS104.out.cell (j := 1) rfl, HS104.out.cell (j := 2) rfl, HS104.out.cell (j := 3) rfl, hb104⟩ (fun hS104 => ?_)
        clear hK K hb104 ho104 hg104 hn104 hk104 hS103
        (try simp only [Act.put]); (try simp only [List.setIfInBounds_toArray]); (try simp only [List.set_cons_succ]); (try simp only [List.set_cons_zero])
        refine wpAnyH_ready (rs := [21]) (by kernel_rfl) (by simp) ?_
        refine (AllReadyH.cons rfl (fun K hK => ?_) AllReadyH.nil)
        refine step_app rfl (.tmp 85) (.tmp 91) 56 56 rfl w7.heap.size 48 i0x (entV zE) 6 64 Try.underlying56 hi hz0 hz1 hz2 rfl v104 (0 + 1) (entsC (([] : List Ent).take 0) ++ entC ⟨s, t, a⟩) (by rfl) HO104.out (.slice none 0 0) (([] : List Ent).length - 0) (entsC (([] : List Ent).drop 0)) (by rfl) (Row.src Try.underlying56 (row_nil _ 6)) (by have := HL.out; have := HI0.out; unfold maxLen; omega) (by have := HL.out; have := HI0.out; omega) HB104.out.size ?_
        intro v105 w105x ho105 hg105 hn105 hk105
        have HO105 : Hid (w105x.ownsRow w7.heap.size 48 6 v105 (0 + 1 + (([] : List Ent).length - 0)) (entsC (([] : List Ent).take 0) ++ entC ⟨s, t, a⟩ ++ entsC (([] : List Ent).drop 0))) := Lib.hid (ho105)
        have hb105 : Below w7.heap.size w7 w105x := HB104.out.trans ((Fr.of_grown hg105).below (by intro y hy; exact own_base HO104.out (Option.mem_toList.1 hy)) HB104.out.size)
        have HB105 := Lib.hid hb105
        have HR105 := Lib.hid (H7.out.kept hb105)
        have HS105 := Lib.hid (S7.out.kept hb105)
        refine hK.out _ _ ⟨HR105.out.blk.cell (j := 4) rfl, HS105.out.cell (j := 0) rfl, HS105.out.cell (j := 1) rfl, HS105.out.cell (j := 2) rfl, HS105.out.cell (j := 3) rfl, hb105⟩ (fun hS105 => ?_)
        clear hK K hb105 ho105 hg105 hn105 hk105 hS104
        (try simp only [Act.put]); (try simp only [List.setIfInBounds_toArray]); (try simp only [List.set_cons_succ]); (try simp only [List.set_cons_zero])
        refine wpAnyH_take (i := 22) (v := ?v106) rfl (by kernel_rfl) (by kernel_rfl) (by kernel_rfl) (fun _ _ _ h => h) (Or.inl ⟨by rfl, ?hy106⟩) (by assumption) ?rest106
        case hy106 => (intro _ hSw; (try dsimp only at hSw); go_simp; (try with_reducible rfl))
        (try simp only [Act.put]); (try simp only [List.setIfInBounds_toArray]); (try simp only [List.set_cons_succ]); (try simp only [List.set_cons_zero])
        refine wpAnyH_take (i := 23) (v := ?v107) rfl (by kernel_rfl) (by kernel_rfl) (by kernel_rfl) (fun _ _ _ h => h) (Or.inl ⟨by rfl, ?hy107⟩) (by assumption) ?rest107
        case hy107 => (intro _ hSw; (try dsimp only at hSw); go_simp; (try with_reducible rfl))
        (try simp only [Act.put]); (try simp only [List.setIfInBounds_toArray]); (try simp only [List.set_cons_succ]); (try simp only [List.set_cons_zero])
        refine wpAnyH_done (by kernel_rfl) ?_ _
        refine LastQ.start rfl ?_
        have d4 := HR105.out.blk.cell (j := 4) rfl
        have f4 := HR105.out.blk.free 4
        clear hS105 hHeld
        obtain ⟨p8, c8, rfl, -, -⟩ := own_slice HO105.out
        go_wp2
        refine NoPanic.normal ?_
        go_wp2
        go_ret
        have e1 : entsC (([] : List Ent).take 0) ++ entC ⟨s, t, a⟩ ++ entsC (([] : List Ent).drop 0) = entsC (([] : List Ent).take 0 ++ ⟨s, t, a⟩ :: ([] : List Ent).drop 0) := by unfold entsC; rw [List.flatMap_append, List.flatMap_cons, List.append_assoc]
        have e2 : 0 + 1 + (([] : List Ent).length - 0) = (([] : List Ent).take 0 ++ (⟨s, t, a⟩ : Ent) :: ([] : List Ent).drop 0).length := by have := HI0.out; rw [List.length_append, List.length_cons, List.length_take, List.length_drop]; omega
        have ho := HO105.out
        have hgz : g < w7.heap.size := H7.out.blk.lt
        have hs7 := HB7.out.size
        have hbs := HBS.out
        refine ⟨rfl, _, ⟨HR105.out.blk.set 4 _, own_mono (b := w7.heap.size) ?_ (by omega), fun hq => ?_⟩, ⟨?_, fun y hy => ?_⟩⟩
        · have h5 := own_fr ho ((Fr.refl [g] w105x).set (p := ⟨g, 4, none⟩) (by simp) (.slice p8 (0 + 1 + (([] : List Ent).length - 0)) c8)) (fun y hy => by have := own_base ho hy; simp; omega)
          rw [e1] at h5
          try rw [← e2]
          exact h5
        · have := own_base ho hq; omega
        · exact ((Fr.of_below HB7.out _).then (Fr.of_below HB105.out _)).set (p := ⟨g, 4, none⟩) (by simp) _
        · have := own_base ho hy; exact .inr (by omega)
    · (try simp only [List.getElem_toArray]); (try simp only [List.getElem_cons_succ]); (try simp only [List.getElem_cons_zero])
      go_simp
      obtain ⟨w108x, hw108⟩ : ∃ x, x = wd77.alloc (.cells #[.string s, .string t, .int .i64 a.c, .int .i64 a.r, .int .i64 a.d, .int .i64 a.p] 48) := ⟨_, rfl⟩
      obtain ⟨z108, hz108⟩ : ∃ x, x = wd77.heap.size := ⟨_, rfl⟩
      have hn108 : Below wd77.heap.size wd77 w108x := by rw [hw108]; exact below_alloc _ _
      have hb108 : Below w7.heap.size w7 w108x := below_and HB77.out hn108
      have HB108 := Lib.hid hb108
      have HY108 : Hid (Blk w108x z108 (entC ⟨s, t, a⟩) 48) := Lib.hid (by rw [hw108, hz108]; exact Blk.made wd77 (entC ⟨s, t, a⟩) _)
      rw [← hw108, ← hz108]
      have HR108 := Lib.hid (H7.out.kept hb108)
      have HS108 := Lib.hid (S7.out.kept hb108)
      refine hK.out _ _ ⟨HR108.out.blk.cell (j := 4) rfl, HS108.out.cell (j := 0) rfl, HS108.out.cell (j := 1) rfl, HS108.out.cell (j := 2) rfl, HS108.out.cell (j := 3) rfl, hb108⟩ (fun hS108 => ?_)
      clear hK K hb108 hw108 hz108 hn108 hS77
      (try simp only [Act.put]); (try simp only [List.setIfInBounds_toArray]); (try simp only [List.set_cons_succ]); (try simp only [List.set_cons_zero])
      refine wpAnyH_ready (rs := [1]) (by kernel_rfl) (by simp) ?_
      refine (AllReadyH.cons rfl (fun K hK => ?_) AllReadyH.nil)
      (try simp only [List.getElem_toArray]); (try simp only [List.getElem_cons_succ]); (try simp only [List.getElem_cons_zero])
      go_simp
      obtain ⟨w109x, hw109⟩ : ∃ x, x = w108x.alloc (.cells #[] 48) := ⟨_, rfl⟩
      obtain ⟨z109, hz109⟩ : ∃ x, x = w108x.heap.size := ⟨_, rfl⟩
      have hn109 : Below w108x.heap.size w108x w109x := by rw [hw109]; exact below_alloc _ _
      have hb109 : Below w7.heap.size w7 w109x := below_and HB108.out hn109
      have HB109 := Lib.hid hb109
      have HO109 : Hid (w109x.ownsRow w7.heap.size 48 6 (.slice (some ⟨z109, 0, none⟩) 0 0) 0 []) := Lib.hid (by rw [hw109, hz109]; exact World.ownsRow_made w108x #[] 0 HB108.out.size (by decide) rfl)
      have HY109 := Lib.hid (HY108.out.kept hn109)
      have HNE109 : Hid (∀ q, (Value.slice (some ⟨z109, 0, none⟩) 0 0).ownBlock = some q → q ≠ z108) := Lib.hid (fun q hq => by simp [Value.ownBlock] at hq; have := HY108.out.lt; omega)
      rw [← hw109, ← hz109]
      have HR109 := Lib.hid (H7.out.kept hb109)
      have HS109 := Lib.hid (S7.out.kept hb109)
      refine hK.out _ _ ⟨HR109.out.blk.cell (j := 4) rfl, HS109.out.cell (j := 0) rfl, HS109.out.cell (j := 1) rfl, HS109.out.cell (j := 2) rfl, HS109.out.cell (j := 3) rfl, hb109⟩ (fun hS109 => ?_)
      clear hK K hb109 hw109 hz109 hn109 hS108
      (try simp only [Act.put]); (try simp only [List.setIfInBounds_toArray]); (try simp only [List.set_cons_succ]); (try simp only [List.set_cons_zero])
      refine wpAnyH_ready (rs := [8]) (by kernel_rfl) (by simp) ?_
      refine (AllReadyH.cons rfl (fun K hK => ?_) AllReadyH.nil)
      refine step_app rfl (.tmp 72) (.tmp 78) 56 56 rfl w7.heap.size 48 i0x (entV zE) 6 64 Try.underlying56 hi hz0 hz1 hz2 rfl (.slice (some ⟨z109, 0, none⟩) 0 0) 0 [] (by rfl) HO109.out (.slice none 0 0) 0 (entsC (([] : List Ent).take 0)) (by rfl) (Row.src Try.underlying56 (row_nil _ 6)) (by have := HL.out; have := HI0.out; unfold maxLen; omega) (by have := HL.out; have := HI0.out; omega) HB109.out.size ?_
      intro v110 w110x ho110 hg110 hn110 hk110
      have HO110 : Hid (w110x.ownsRow w7.heap.size 48 6 v110 0 (entsC (([] : List Ent).take 0))) := Lib.hid (by simpa using ho110)
      have hb110 : Below w7.heap.size w7 w110x := HB109.out.trans ((Fr.of_grown hg110).below (by intro y hy; exact own_base HO109.out (Option.mem_toList.1 hy)) HB109.out.size)
      have HB110 := Lib.hid hb110
      have HY110 := Lib.hid (HY109.out.fr (Fr.of_grown hg110) (fun hm => HNE109.out _ (Option.mem_toList.1 hm) rfl))
      have HNE110 : Hid (∀ q, v110.ownBlock = some q → q ≠ z108) := Lib.hid (fun q hq => by rcases hk110 q hq with h1 | h1; exact HNE109.out q h1; have := HY109.out.lt; omega)
      have HR110 := Lib.hid (H7.out.kept hb110)
      have HS110 := Lib.hid (S7.out.kept hb110)
      refine hK.out _ _ ⟨HR110.out.blk.cell (j := 4) rfl, HS110.out.cell (j := 0) rfl, HS110.out.cell (j := 1) rfl, HS110.out.cell (j := 2) rfl, HS110.out.cell (j := 3) rfl, hb110⟩ (fun hS110 => ?_)
      clear hK K hb110 ho110 hg110 hn110 hk110 hS109
      (try simp only [Act.put]); (try simp only [List.setIfInBounds_toArray]); (try simp only [List.set_cons_succ]); (try simp only [List.set_cons_zero])
      refine wpAnyH_ready (rs := [14]) (by kernel_rfl) (by simp) ?_
      refine (AllReadyH.cons rfl (fun K hK => ?_) AllReadyH.nil)
      refine step_app rfl (.tmp 79) (.tmp 84) 56 56 rfl w7.heap.size 48 i0x (entV zE) 6 64 Try.underlying56 hi hz0 hz1 hz2 rfl v110 0 (entsC (([] : List Ent).take 0)) (by rfl) HO110.out (.slice (some ⟨z108, 0, none⟩) 1 1) 1 (entC ⟨s, t, a⟩) (by rfl) (src_block Try.underlying56 _ z108 (entC ⟨s, t, a⟩).toArray HY110.out rfl (entC_one ⟨s, t, a⟩)) (by have := HL.out; have := HI0.out; unfold maxLen; omega) (by have := HL.out; have := HI0.out; omega) HB110.out.size ?_
      intro v111 w111x ho111 hg111 hn111 hk111
      have HO111 : Hid (w111x.ownsRow w7.heap.size 48 6 v111 (0 + 1) (entsC (([] : List Ent).take 0) ++ entC ⟨s, t, a⟩)) := Lib.hid (ho111)
      have hb111 : Below w7.heap.size w7 w111x := HB110.out.trans ((Fr.of_grown hg111).below (by intro y hy; exact own_base HO110.out (Option.mem_toList.1 hy)) HB110.out.size)
      have HB111 := Lib.hid hb111
      have HR111 := Lib.hid (H7.out.kept hb111)
      have HS111 := Lib.hid (S7.out.kept hb111)
      refine hK.out _ _ ⟨HR111.out.blk.cell (j := 4) rfl, HS111.out.cell (j := 0) rfl, HS111.out.cell (j := 1) rfl, HS111.out.cell (j := 2) rfl, HS111.out.cell (j := 3) rfl, hb111⟩ (fun hS111 => ?_)
      clear hK K hb111 ho111 hg111 hn111 hk111 hS110
      (try simp only [Act.put]); (try simp only [List.setIfInBounds_toArray]); (try simp only [List.set_cons_succ]); (try simp only [List.set_cons_zero])
      refine wpAnyH_ready (rs := [21]) (by kernel_rfl) (by simp) ?_
      refine (AllReadyH.cons rfl (fun K hK => ?_) AllReadyH.nil)
      refine step_app rfl (.tmp 85) (.tmp 91) 56 56 rfl w7.heap.size 48 i0x (entV zE) 6 64 Try.underlying56 hi hz0 hz1 hz2 rfl v111 (0 + 1) (entsC (([] : List Ent).take 0) ++ entC ⟨s, t, a⟩) (by rfl) HO111.out (.slice none 0 0) (([] : List Ent).length - 0) (entsC (([] : List Ent).drop 0)) (by rfl) (Row.src Try.underlying56 (row_nil _ 6)) (by have := HL.out; have := HI0.out; unfold maxLen; omega) (by have := HL.out; have := HI0.out; omega) HB111.out.size ?_
      intro v112 w112x ho112 hg112 hn112 hk112
      have HO112 : Hid (w112x.ownsRow w7.heap.size 48 6 v112 (0 + 1 + (([] : List Ent).length - 0)) (entsC (([] : List Ent).take 0) ++ entC ⟨s, t, a⟩ ++ entsC (([] : List Ent).drop 0))) := Lib.hid (ho112)
      have hb112 : Below w7.heap.size w7 w112x := HB111.out.trans ((Fr.of_grown hg112).below (by intro y hy; exact own_base HO111.out (Option.mem_toList.1 hy)) HB111.out.size)
      have HB112 := Lib.hid hb112
      have HR112 := Lib.hid (H7.out.kept hb112)
      have HS112 := Lib.hid (S7.out.kept hb112)
      refine hK.out _ _ ⟨HR112.out.blk.cell (j := 4) rfl, HS112.out.cell (j := 0) rfl, HS112.out.cell (j := 1) rfl, HS112.out.cell (j := 2) rfl, HS112.out.cell (j := 3) rfl, hb112⟩ (fun hS112 => ?_)
      clear hK K hb112 ho112 hg112 hn112 hk112 hS111
      (try simp only [Act.put]); (try simp only [List.setIfInBounds_toArray]); (try simp only [List.set_cons_succ]); (try simp only [List.set_cons_zero])
      refine wpAnyH_take (i := 22) (v := ?v113) rfl (by kernel_rfl) (by kernel_rfl) (by kernel_rfl) (fun _ _ _ h => h) (Or.inl ⟨by rfl, ?hy113⟩) (by assumption) ?rest113
      case hy113 => (intro _ hSw; (try dsimp only at hSw); go_simp; (try with_reducible rfl))
      (try simp only [Act.put]); (try simp only [List.setIfInBounds_toArray]); (try simp only [List.set_cons_succ]); (try simp only [List.set_cons_zero])
      refine wpAnyH_take (i := 23) (v := ?v114) rfl (by kernel_rfl) (by kernel_rfl) (by kernel_rfl) (fun _ _ _ h => h) (Or.inl ⟨by rfl, ?hy114⟩) (by assumption) ?rest114
      case hy114 => (intro _ hSw; (try dsimp only at hSw); go_simp; (try with_reducible rfl))
      (try simp only [Act.put]); (try simp only [List.setIfInBounds_toArray]); (try simp only [List.set_cons_succ]); (try simp only [List.set_cons_zero])
      refine wpAnyH_done (by kernel_rfl) ?_ _
      refine LastQ.start rfl ?_
      have d4 := HR112.out.blk.cell (j := 4) rfl
      have f4 := HR112.out.blk.free 4
      clear hS112 hHeld
      obtain ⟨p8, c8, rfl, -, -⟩ := own_slice HO112.out
      go_wp2
      refine NoPanic.normal ?_
      go_wp2
      go_ret
      have e1 : entsC (([] : List Ent).take 0) ++ entC ⟨s, t, a⟩ ++ entsC (([] : List Ent).drop 0) = entsC (([] : List Ent).take 0 ++ ⟨s, t, a⟩ :: ([] : List Ent).drop 0) := by unfold entsC; rw [List.flatMap_append, List.flatMap_cons, List.append_assoc]
      have e2 : 0 + 1 + (([] : List Ent).length - 0) = (([] : List Ent).take 0 ++ (⟨s, t, a⟩ : Ent) :: ([] : List Ent).drop 0).length := by have := HI0.out; rw [List.length_append, List.length_cons, List.length_take, List.length_drop]; omega
      have ho := HO112.out
      have hgz : g < w7.heap.size := H7.out.blk.lt
      have hs7 := HB7.out.size
      have hbs := HBS.out
      refine ⟨rfl, _, ⟨HR112.out.blk.set 4 _, own_mono (b := w7.heap.size) ?_ (by omega), fun hq => ?_⟩, ⟨?_, fun y hy => ?_⟩⟩
      · have h5 := own_fr ho ((Fr.refl [g] w112x).set (p := ⟨g, 4, none⟩) (by simp) (.slice p8 (0 + 1 + (([] : List Ent).length - 0)) c8)) (fun y hy => by have := own_base ho hy; simp; omega)
        rw [e1] at h5
        try rw [← e2]
        exact h5
      · have := own_base ho hq; omega
      · exact ((Fr.of_below HB7.out _).then (Fr.of_below HB112.out _)).set (p := ⟨g, 4, none⟩) (by simp) _
      · have := own_base ho hy; exact .inr (by omega)
end Go.Proofs.Ytighcnecajgkpaa
namespace Go.Proofs.Ytighcnecajgkpaa
open Go.RowKit

theorem less_before : ∀ a b : List UInt8, Op.bytesLess a b = bytesBefore a b
  | [], [] => rfl
  | [], _ :: _ => rfl
  | _ :: _, [] => rfl
  | x :: a, y :: b => by
    show (x < y || (x == y && Op.bytesLess a b)) = (x < y || (x == y && bytesBefore a b))
    rw [less_before a b]
theorem before_total : ∀ a b : List UInt8, bytesBefore a b = false → a ≠ b → bytesBefore b a = true
  | [], [], _, h => absurd rfl h
  | [], _ :: _, h, _ => by cases h
  | _ :: _, [], _, _ => rfl
  | x :: a, y :: b, h, hne => by
    have h' : (decide (x < y) || (x == y && bytesBefore a b)) = false := h
    simp only [Bool.or_eq_false_iff, decide_eq_false_iff_not, Bool.and_eq_false_iff] at h'
    show (decide (y < x) || (y == x && bytesBefore b a)) = true
    by_cases hxy : x = y
    · subst hxy
      have h2 : bytesBefore a b = false := by rcases h'.2 with h3 | h3; simp at h3; exact h3
      have := before_total a b h2 (fun e => hne (by rw [e]))
      simp [this]
    · have : y < x := by
        rcases Nat.lt_trichotomy y.toNat x.toNat with h3 | h3 | h3
        · exact UInt8.lt_iff_toNat_lt.2 h3
        · exact absurd (UInt8.toNat_inj.1 h3.symm) hxy
        · exact absurd (UInt8.lt_iff_toNat_lt.2 h3) h'.1
      simp [this]
theorem before_asymm {a b : List UInt8} (h : bytesBefore a b = true) : bytesBefore b a = false := by
  cases h2 : bytesBefore b a
  · rfl
  · exact absurd (List.lt_trans ((before_lt _ _).1 h) ((before_lt _ _).1 h2)) (List.lt_irrefl _)
theorem ins_at (x : Ent) : ∀ (L : List Ent) (i : Nat), i ≤ L.length → (∀ j (h : j < L.length), j < i → bytesBefore x.key L[j].key = false) → (∀ h : i < L.length, bytesBefore x.key L[i].key = true) → insE x L = L.take i ++ x :: L.drop i
  | [], i, hi, _, _ => by
    obtain rfl : i = 0 := by simpa using hi
    rfl
  | y :: L, 0, _, _, h => by
    have h1 : bytesBefore x.key y.key = true := h (by simp)
    show (if bytesBefore x.key y.key then x :: y :: L else y :: insE x L) = x :: y :: L
    rw [if_pos h1]
  | y :: L, i + 1, hi, hb, h => by
    have h1 : bytesBefore x.key y.key = false := hb 0 (by simp) (by omega)
    show (if bytesBefore x.key y.key then x :: y :: L else y :: insE x L) = y :: (L.take i ++ x :: L.drop i)
    rw [if_neg (by rw [h1]; decide), ins_at x L i (by simpa using hi) (fun j hj hji => hb (j + 1) (by simpa using hj) (by omega)) (fun hh => h (by simpa using hh))]
def insI (L : List Ent) (s : ByteArray) : Nat := L.findIdx fun e => !Op.bytesLess e.n.toList s.toList
theorem insI_le (L : List Ent) (s : ByteArray) : insI L s ≤ L.length := List.findIdx_le_length
theorem insI_lt {L : List Ent} {s : ByteArray} {j : Nat} (h : j < L.length) (hj : j < insI L s) : Op.bytesLess L[j].n.toList s.toList = true := by
  have := List.not_of_lt_findIdx hj
  simpa using this
theorem insI_at {L : List Ent} {s : ByteArray} (h : insI L s < L.length) : Op.bytesLess L[insI L s].n.toList s.toList = false := by
  have : (fun e : Ent => !Op.bytesLess e.n.toList s.toList) L[insI L s] = true := List.findIdx_getElem (w := h)
  simpa using this
theorem put_ins {L : List Ent} {s t : ByteArray} {a : Am} (hf : fnd L s.data.toList = none) : putE L ⟨s, t, a⟩ = L.take (insI L s) ++ ⟨s, t, a⟩ :: L.drop (insI L s) := by
  have hn := fnd_none hf
  have hr : rem L (⟨s, t, a⟩ : Ent).key = L := by
    unfold rem
    rw [List.filter_eq_self]
    intro e he
    have h1 := hn e he
    have h2 : (⟨s, t, a⟩ : Ent).key = s.data.toList := rfl
    rw [h2]
    simpa using h1
  unfold putE
  rw [hr]
  have hk : ∀ (e : Ent), Op.bytesLess e.n.toList s.toList = bytesBefore e.key s.data.toList := fun e => by rw [less_before, tl_key, Lib.toList_data s]
  refine ins_at _ L _ (insI_le L s) (fun j hj hji => ?_) (fun hh => ?_)
  · have h1 := insI_lt hj hji
    rw [hk] at h1
    exact before_asymm h1
  · have h1 := insI_at hh
    rw [hk] at h1
    exact before_total _ _ h1 (hn _ (List.getElem_mem hh))
theorem put_set {L : List Ent} (hr : Rise L) {k : Nat} (hk : k < L.length) (a : Am) : putE L ⟨L[k].n, L[k].i, a⟩ = L.set k ⟨L[k].n, L[k].i, a⟩ := by
  have hp := List.pairwise_iff_getElem.1 hr
  have hkey : (⟨L[k].n, L[k].i, a⟩ : Ent).key = L[k].key := rfl
  unfold putE
  rw [hkey, rem_erase L k hk hr.apart]
  have hlen : (L.eraseIdx k).length = L.length - 1 := List.length_eraseIdx_of_lt hk
  rw [ins_at _ (L.eraseIdx k) k (by omega) (fun j hj hjk => ?_) (fun hh => ?_)]
  · rw [List.eraseIdx_eq_take_drop_succ, List.take_left' (by rw [List.length_take]; omega), List.drop_left' (by rw [List.length_take]; omega), List.set_eq_take_append_cons_drop, if_pos hk]
  · rw [List.getElem_eraseIdx, dif_pos hjk]
    exact before_asymm ((before_lt _ _).2 (hp j k (by omega) hk hjk))
  · rw [List.getElem_eraseIdx, dif_neg (by omega)]
    exact (before_lt _ _).2 (hp k (k + 1) hk (by omega) (by omega))

theorem rstay {base : Nat} {w w' : World} {g : Nat} {v : Value} {cap : Am} {L : List Ent} (h : RLed base w g v cap L) (hb : Below w.heap.size w w') : ∃ v', RLed base w' g v' cap L ∧ RStep w w' g v v' := ⟨v, h.kept hb, .of_below hb⟩
theorem empty_nil {s : ByteArray} : s.toList.isEmpty = true ↔ s.toList = [] := List.isEmpty_iff
theorem empty_not {s : ByteArray} (h : ¬ s.toList = []) : s.toList.isEmpty = false := by
  cases hq : s.toList.isEmpty
  · rfl
  · exact absurd (List.isEmpty_iff.1 hq) h
theorem rtake_all (base g : Nat) (v : Value) (cap : Am) (L : List Ent) (s t : ByteArray) (a : Am) (w : World) (h : RLed base w g v cap L) (hI : Inv cap L) (hl : L.length ≤ 100000) (hbs : base ≤ w.heap.size) :
    Calls Try.prog 38 #[ptr g, .string s, .string t, amV a] w fun e w' => e = .returned (.int .i64 (takeP cap L s t a).1) ∧ ∃ v', RLed base w' g v' cap (takeP cap L s t a).2 ∧ RStep w w' g v v' := by
  have low : ∀ r : Int, takeP cap L s t a = (r, L) → (Calls Try.prog 38 #[ptr g, .string s, .string t, amV a] w fun e w' => e = .returned (.int .i64 r) ∧ Below w.heap.size w w') →
      Calls Try.prog 38 #[ptr g, .string s, .string t, amV a] w fun e w' => e = .returned (.int .i64 (takeP cap L s t a).1) ∧ ∃ v', RLed base w' g v' cap (takeP cap L s t a).2 ∧ RStep w w' g v v' := fun r e hc => by
    rw [e]
    exact hc.mono fun e w' ⟨h1, h2⟩ => ⟨h1, rstay h h2⟩
  by_cases h1 : s.size < 1 ∨ 64 < s.size
  · exact low 2 (by unfold takeP; rw [if_pos (by omega)]) (rtake_len base g v cap L s t a w h (by omega))
  have h1a : 1 ≤ s.size := by omega
  have h1b : s.size ≤ 64 := by omega
  cases ha : a.okB with
  | false => exact low 2 (by unfold takeP; rw [if_pos (.inr (.inr ha))]) (rtake_bad base g v cap L s t a w h h1a h1b ha)
  | true =>
  have hc : ¬ (s.size < 1 ∨ 64 < s.size ∨ a.okB = false) := by
    rintro (h3 | h3 | h3)
    · omega
    · omega
    · rw [ha] at h3; cases h3
  cases hp1 : plc L s with
  | some k =>
    obtain ⟨_, _, hf⟩ := plc_some hp1
    exact low 7 (by unfold takeP; rw [if_neg hc, hf]) (rtake_there base g v cap L s t a w h h1a h1b ha k hp1)
  | none =>
  have hf1 := plc_none hp1
  by_cases ht : t.toList = []
  · have hr : ∀ w, RLed base w g v cap L → Calls Try.prog 36 #[ptr g, .string t, .string ⟨#[]⟩] w fun e w' => e = .returned (amV (roomP cap L t ⟨#[]⟩)) ∧ Below w.heap.size w w' :=
      fun w h => rroom_top base g v cap L t ⟨#[]⟩ w h hI.oks (hI.fit2 _ _) hl (empty_nil.2 ht) _ _ (sub_pair _ _)
    cases hf : fitsB a (roomP cap L t ⟨#[]⟩) with
    | false => exact low 14 (by unfold takeP; rw [if_neg hc, hf1]; simp only; rw [if_pos ht, if_neg (by rw [hf]; decide)]) (rtake_nofit_top base g v cap L s t a w h h1a h1b ha hp1 (empty_nil.2 ht) _ hr hf)
    | true =>
      have e : takeP cap L s t a = (0, L.take (insI L s) ++ ⟨s, t, a⟩ :: L.drop (insI L s)) := by
        unfold takeP
        rw [if_neg hc, hf1]
        simp only
        rw [if_pos ht, if_pos hf, put_ins hf1]
      rw [e]
      rcases h.row.2 with ⟨hv, hn⟩ | ⟨q, cc, cur, hv, -⟩
      · obtain rfl : L = [] := List.length_eq_zero_iff.1 hn
        subst hv
        exact rtake_ok_nil base g cap s t a w h h1a h1b ha (empty_nil.2 ht) _ hr hf hbs
      · exact rtake_ok_top base g v cap L s t a w h h1a h1b ha hp1 (empty_nil.2 ht) (fun p n c hpc => by rw [hv] at hpc; simp only [Value.slice.injEq] at hpc; exact ⟨q, hpc.1.symm⟩) _ hr hf hl hbs (insI L s) (insI_le L s) (fun j hj hji => insI_lt hj hji) (fun hh => insI_at hh)
  · have htn := empty_not ht
    cases hp2 : plc L t with
    | none => exact low 6 (by unfold takeP; rw [if_neg hc, hf1]; simp only; rw [if_neg ht, plc_none hp2]) (rtake_none base g v cap L s t a w h h1a h1b ha hp1 htn hp2)
    | some k =>
      obtain ⟨hk, hkn, hf2⟩ := plc_some hp2
      by_cases hyi : L[k].i.toList = []
      · have hr : ∀ w, RLed base w g v cap L → Calls Try.prog 36 #[ptr g, .string t, .string ⟨#[]⟩] w fun e w' => e = .returned (amV (roomP L[k].a L t ⟨#[]⟩)) ∧ Below w.heap.size w w' :=
          fun w h => rroom_in base g v cap L t ⟨#[]⟩ w h hI.oks (hI.fit2 _ _) hl htn k hk hp2 _ _ (sub_pair _ _)
        cases hf : fitsB a (roomP L[k].a L t ⟨#[]⟩) with
        | false => exact low 14 (by unfold takeP; rw [if_neg hc, hf1]; simp only; rw [if_neg ht, hf2]; simp only; rw [if_pos hyi, if_neg (by rw [hf]; decide)]) (rtake_nofit_in base g v cap L s t a w h h1a h1b ha hp1 htn k hk _ rfl hp2 (empty_nil.2 hyi) _ hr hf)
        | true =>
          have e : takeP cap L s t a = (0, L.take (insI L s) ++ ⟨s, t, a⟩ :: L.drop (insI L s)) := by
            unfold takeP
            rw [if_neg hc, hf1]
            simp only
            rw [if_neg ht, hf2]
            simp only
            rw [if_pos hyi, if_pos hf, put_ins hf1]
          rw [e]
          exact rtake_ok_in base g v cap L s t a w h h1a h1b ha hp1 htn k hk _ rfl hp2 (empty_nil.2 hyi) _ hr hf hl hbs (insI L s) (insI_le L s) (fun j hj hji => insI_lt hj hji) (fun hh => insI_at hh)
      · exact low 13 (by unfold takeP; rw [if_neg hc, hf1]; simp only; rw [if_neg ht, hf2]; simp only; rw [if_neg hyi]) (rtake_state base g v cap L s t a w h h1a h1b ha hp1 htn k hk _ rfl hp2 (empty_not hyi))

theorem rresize_all (base g : Nat) (v : Value) (cap : Am) (L : List Ent) (s : ByteArray) (a : Am) (w : World) (h : RLed base w g v cap L) (hI : Inv cap L) (hl : L.length ≤ 100000) :
    Calls Try.prog 40 #[ptr g, .string s, amV a] w fun e w' => e = .returned (.int .i64 (resizeP cap L s a).1) ∧ ∃ v', RLed base w' g v' cap (resizeP cap L s a).2 ∧ RStep w w' g v v' := by
  have low : ∀ r : Int, resizeP cap L s a = (r, L) → (Calls Try.prog 40 #[ptr g, .string s, amV a] w fun e w' => e = .returned (.int .i64 r) ∧ Below w.heap.size w w') →
      Calls Try.prog 40 #[ptr g, .string s, amV a] w fun e w' => e = .returned (.int .i64 (resizeP cap L s a).1) ∧ ∃ v', RLed base w' g v' cap (resizeP cap L s a).2 ∧ RStep w w' g v v' := fun r e hc => by
    rw [e]
    exact hc.mono fun e w' ⟨h1, h2⟩ => ⟨h1, rstay h h2⟩
  cases hp : plc L s with
  | none => exact low 6 (by unfold resizeP; rw [plc_none hp]) (rresize_none base g v cap L s a w h hp)
  | some k =>
  obtain ⟨hk, hkn, hf0⟩ := plc_some hp
  cases ha : a.okB with
  | false => exact low 2 (by unfold resizeP; rw [hf0]; simp only; rw [if_pos ha]) (rresize_bad base g v cap L s a w h k hp ha)
  | true =>
  have hna : ¬ a.okB = false := by rw [ha]; decide
  have hu : sumA (inR s) L = sumA (inB s ⟨#[]⟩) L := (inB_nil hI s).symm
  cases h1 : fitsB (sumA (inR s) L) a with
  | false => exact low 13 (by unfold resizeP; rw [hf0]; simp only; rw [if_neg hna, if_pos h1]) (rresize_state base g v cap L s a w h k hp ha hI.oks hl (hI.fit2 _ _) _ hu h1)
  | true =>
  have hn1 : ¬ fitsB (sumA (inR s) L) a = false := by rw [h1]; decide
  have hset := put_set hI.rise hk a
  by_cases hxi : L[k].i.toList = []
  · have hr : ∀ w, RLed base w g v cap L → Calls Try.prog 36 #[ptr g, .string L[k].i, .string s] w fun e w' => e = .returned (amV (roomP cap L L[k].i s)) ∧ Below w.heap.size w w' :=
      fun w h => rroom_top base g v cap L L[k].i s w h hI.oks (hI.fit2 _ _) hl (empty_nil.2 hxi) _ _ (sub_pair _ _)
    cases hf : fitsB a (roomP cap L L[k].i s) with
    | false => exact low 14 (by unfold resizeP; rw [hf0]; simp only; rw [if_neg hna, if_neg hn1, if_pos hxi, if_neg (by rw [hf]; decide)]) (rresize_nofit base g v cap L s a w h k hp ha hI.oks hl (hI.fit2 _ _) _ hu hk _ rfl h1 _ hr hf)
    | true =>
      have e : resizeP cap L s a = (0, L.set k ⟨L[k].n, L[k].i, a⟩) := by unfold resizeP; rw [hf0]; simp only; rw [if_neg hna, if_neg hn1, if_pos hxi, if_pos hf, hset]
      rw [e]
      exact (rresize_ok base g v cap L s a w h k hp ha hI.oks hl (hI.fit2 _ _) _ hu hk _ rfl h1 _ hr hf).mono fun e w' ⟨h1, h2, h3⟩ => ⟨h1, v, h2, h3⟩
  · obtain ⟨y, hy, hyn, -⟩ := hI.par L[k] (List.getElem_mem hk) hxi
    have hfy : fnd L L[k].i.data.toList = some y := by
      have := fnd_of hI.rise.apart hy
      rw [key_of hyn] at this
      exact this
    obtain ⟨k2, hp2⟩ := plc_of.2 (by rw [hfy]; rfl : (fnd L L[k].i.data.toList).isSome = true)
    obtain ⟨hk2, -, hf2⟩ := plc_some hp2
    rw [hfy] at hf2
    obtain rfl := Option.some.inj hf2
    have hr : ∀ w, RLed base w g v cap L → Calls Try.prog 36 #[ptr g, .string L[k].i, .string s] w fun e w' => e = .returned (amV (roomP L[k2].a L L[k].i s)) ∧ Below w.heap.size w w' :=
      fun w h => rroom_in base g v cap L L[k].i s w h hI.oks (hI.fit2 _ _) hl (empty_not hxi) k2 hk2 hp2 _ _ (sub_pair _ _)
    cases hf : fitsB a (roomP L[k2].a L L[k].i s) with
    | false => exact low 14 (by unfold resizeP; rw [hf0]; simp only; rw [if_neg hna, if_neg hn1, if_neg hxi, hfy]; simp only; rw [if_neg (by rw [hf]; decide)]) (rresize_nofit base g v cap L s a w h k hp ha hI.oks hl (hI.fit2 _ _) _ hu hk _ rfl h1 _ hr hf)
    | true =>
      have e : resizeP cap L s a = (0, L.set k ⟨L[k].n, L[k].i, a⟩) := by unfold resizeP; rw [hf0]; simp only; rw [if_neg hna, if_neg hn1, if_neg hxi, hfy]; simp only; rw [if_pos hf, hset]
      rw [e]
      exact (rresize_ok base g v cap L s a w h k hp ha hI.oks hl (hI.fit2 _ _) _ hu hk _ rfl h1 _ hr hf).mono fun e w' ⟨h1, h2, h3⟩ => ⟨h1, v, h2, h3⟩
end Go.Proofs.Ytighcnecajgkpaa
namespace Go.Proofs.Ytighcnecajgkpaa
open Go.RowKit

def sameT (a b : List ByteArray) : Bool := a.map (·.data.toList) == b.map (·.data.toList)

theorem sameT_len {a b : List ByteArray} (h : a.length ≠ b.length) : sameT a b = false := by
  unfold sameT
  rw [beq_eq_false_iff_ne]
  intro e
  have := congrArg List.length e
  simp at this
  exact h this
theorem sameT_ne {a b : List ByteArray} {k : Nat} (h1 : k < a.length) (h2 : k < b.length) (h : (a[k].data.toList == b[k].data.toList) = false) : sameT a b = false := by
  unfold sameT
  rw [beq_eq_false_iff_ne] at *
  intro e
  have := congrArg (fun l : List (List UInt8) => l[k]?) e
  simp [h1, h2] at this
  exact h (by rw [this])
theorem sameT_all {a b : List ByteArray} (hl : a.length = b.length) (h : ∀ k (h1 : k < a.length) (h2 : k < b.length), a[k].data.toList = b[k].data.toList) : sameT a b = true := by
  unfold sameT
  rw [beq_iff_eq]
  apply List.ext_getElem (by simpa using hl)
  intro i h1 h2
  simp at h1 h2
  simp only [List.getElem_map]
  exact h i h1 h2

set_option maxRecDepth 100000 in
set_option maxHeartbeats 600000 in
theorem sametexts_any (v1 v2 : Value) (a b : List ByteArray) (w : World) (h1 : Texts w v1 a) (h2 : Texts w v2 b) :
    Calls Try.prog 19 #[v1, v2] w fun e w' => e = .returned (.bool (sameT a b)) ∧ Below w.heap.size w w' := by
  obtain ⟨p1, c1, rfl, l1, m1, hat1⟩ := h1.parts
  obtain ⟨p2, c2, rfl, l2, m2, hat2⟩ := h2.parts
  have hml : maxLen ≤ 9223372036854775807 := by decide
  have H1 := Lib.hid hat1
  have H2 := Lib.hid hat2
  clear h1 h2 hat1 hat2
  go_enter Try.func19, Try.ntmps19
  by_cases hl : a.length = b.length
  · have q0 : ((a.length : Int) == (b.length : Int)) = true := by simp; omega
    go_wp2
    go_loopw [5] (fun i wc => ∃ k : Nat, k ≤ a.length ∧ i = .int .i64 (k : Int) ∧ Hid (Below w.heap.size w wc) ∧ Hid (∀ j (h1 : j < a.length) (h2 : j < b.length), j < k → a[j].data.toList = b[j].data.toList)) (fun i _ => a.length - (intOf i).toNat)
    case atStart => exact ⟨0, Nat.zero_le _, rfl, Below.refl _ _, fun j _ _ h => by omega⟩
    case round =>
      obtain ⟨k, hk, rfl, HB, hall⟩ := hrel
      by_cases hlt : k < a.length
      · obtain ⟨b1, o1, rfl, e1⟩ := H1.out k hlt
        obtain ⟨b2, o2, rfl, e2⟩ := H2.out k (by omega)
        have e1 := cell_kept e1 HB.out
        have e2 := cell_kept e2 HB.out
        cases hq : (a[k].data.toList == b[k].data.toList)
        · have t1 : (a[k].toList == b[k].toList) = false := by rw [Lib.toList_data, Lib.toList_data]; exact hq
          have HS := Lib.hid (sameT_ne hlt (by omega) hq)
          clear hq
          go_wp2
          go_quiet (fail)
          go_wp2
          go_ret
          exact ⟨ret_bool HS.out.symm, Below.drewN' HB.out nq⟩
        · have t1 : (a[k].toList == b[k].toList) = true := by rw [Lib.toList_data, Lib.toList_data]; exact hq
          have HN : Hid (∀ j (h1 : j < a.length) (h2 : j < b.length), j < k + 1 → a[j].data.toList = b[j].data.toList) := Lib.hid fun j h1 h2 h3 => by
            by_cases h4 : j < k
            · exact hall.out j h1 h2 h4
            · obtain rfl : j = k := by omega
              simpa using hq
          clear hq
          go_wp2
          go_quiet (fail)
          go_wp2
          go_roundw
          case rel => exact ⟨k + 1, hlt, by go_num, Below.drewN' HB.out nq, HN⟩
          case measure => simp [intOf]; omega
      · have HS := Lib.hid (sameT_all hl (fun k h1 h2 => hall.out k h1 h2 (by omega)))
        go_wp2
        go_ret
        exact ⟨ret_bool HS.out.symm, HB.out⟩
  · have q0 : ((a.length : Int) == (b.length : Int)) = false := by simp; omega
    have HS := Lib.hid (sameT_len hl)
    go_wp2
    go_ret
    exact ⟨ret_bool HS.out.symm, Below.refl _ _⟩
end Go.Proofs.Ytighcnecajgkpaa
namespace Go.Proofs.Ytighcnecajgkpaa
open Go.RowKit

theorem plc_get {L : List Ent} {s : ByteArray} : getP L s = (if (plc L s).isSome then (0, L) else (6, L)) := by
  unfold getP
  cases h : plc L s with
  | none => rw [plc_none h]; rfl
  | some k => obtain ⟨_, _, h1⟩ := plc_some h; rw [h1]; rfl
theorem rget_all (base g : Nat) (v : Value) (cap : Am) (L : List Ent) (s : ByteArray) (w : World) (h : RLed base w g v cap L) :
    Calls Try.prog 23 #[ptr g, .string s] w fun e w' => e = .returned (.tuple #[entV ((fnd L s.data.toList).getD zE), .int .i64 (getP L s).1]) ∧ Below w.heap.size w w' := by
  cases hp : plc L s with
  | none =>
    rw [plc_get, hp, plc_none hp]
    exact rget_no base g v cap L s w h hp
  | some k =>
    obtain ⟨hk, -, hf⟩ := plc_some hp
    rw [plc_get, hp, hf]
    exact rget_yes base g v cap L s w h k hk hp

set_option maxRecDepth 100000 in
set_option maxHeartbeats 2000000 in
theorem should_all (base g : Nat) (v : Value) (cap : Am) (L : List Ent) (k : Int) (s t : ByteArray) (a : Am) (w : World) (h : RLed base w g v cap L) (hI : Inv cap L) (hl : L.length ≤ 100000) (hbs : base ≤ w.heap.size) :
    Calls Try.prog 17 #[ptr g, .agg #[.int .i64 k, .string s, .string t, .int .i64 a.c, .int .i64 a.r, .int .i64 a.d, .int .i64 a.p]] w fun e w' => e = .returned (.int .i64 (stepP cap L k s t a).1) ∧ ∃ v', RLed base w' g v' cap (stepP cap L k s t a).2 ∧ RStep w w' g v v' := by
  obtain ⟨w3, hw3⟩ : ∃ w3, w3 = w.alloc (.cells #[.int .i64 k, .string s, .string t, .int .i64 a.c, .int .i64 a.r, .int .i64 a.d, .int .i64 a.p] 40) := ⟨_, rfl⟩
  obtain ⟨B, hB⟩ : ∃ B, B = w.heap.size := ⟨_, rfl⟩
  have S0 : Hid (Blk w3 B (actC k s t a) 40) := Lib.hid (by rw [hw3, hB]; exact Blk.made w (actC k s t a) _)
  have HBL : Hid (Below w.heap.size w w3) := Lib.hid (by rw [hw3]; exact below_alloc w _)
  have h3 := h.kept HBL.out
  have hbs3 : base ≤ w3.heap.size := by have := HBL.out.size; omega
  have c0 := S0.out.cell (j := 0) rfl
  have c1 := S0.out.cell (j := 1) rfl
  have c2 := S0.out.cell (j := 2) rfl
  have c3 := S0.out.cell (j := 3) rfl
  have c4 := S0.out.cell (j := 4) rfl
  have c5 := S0.out.cell (j := 5) rfl
  have c6 := S0.out.cell (j := 6) rfl
  have hq0 := Int.emod_nonneg k (show (4 : Int) ≠ 0 by omega)
  have hq4 := Int.emod_lt_of_pos k (show (0 : Int) < 4 by omega)
  obtain ⟨r, hr⟩ : ∃ r, r = stepP cap L k s t a := ⟨_, rfl⟩
  have lift : ∀ (w' : World) (v' : Value), RStep w3 w' g v v' → RStep w w' g v v' := fun w' v' hs => ⟨(Fr.of_below HBL.out _).then hs.fr, fun y hy => by rcases hs.new y hy with h1 | h1; exact .inl h1; have := HBL.out.size; exact .inr (by omega)⟩
  have HLF := Lib.hid lift
  have T0 : Hid (k % 4 = 0 → Calls Try.prog 38 #[ptr g, .string s, .string t, amV a] w3 fun e w' => e = .returned (.int .i64 r.1) ∧ ∃ v', RLed base w' g v' cap r.2 ∧ RStep w3 w' g v v') := Lib.hid (fun hk => by
    rw [hr]; unfold stepP; rw [if_pos hk]; exact rtake_all base g v cap L s t a w3 h3 hI hl hbs3)
  have T1 : Hid (k % 4 = 1 → Calls Try.prog 39 #[ptr g, .string s] w3 fun e w' => e = .returned (.int .i64 r.1) ∧ ∃ v', RLed base w' g v' cap r.2 ∧ RStep w3 w' g v v') := Lib.hid (fun hk => by
    rw [hr]; unfold stepP; rw [if_neg (by omega), if_pos hk]; exact rgive_all base g v cap L s w3 h3 hI hl hbs3)
  have T2 : Hid (k % 4 = 2 → Calls Try.prog 40 #[ptr g, .string s, amV a] w3 fun e w' => e = .returned (.int .i64 r.1) ∧ ∃ v', RLed base w' g v' cap r.2 ∧ RStep w3 w' g v v') := Lib.hid (fun hk => by
    rw [hr]; unfold stepP; rw [if_neg (by omega), if_neg (by omega), if_pos hk]; exact rresize_all base g v cap L s a w3 h3 hI hl)
  have T3 : Hid (k % 4 = 3 → ∃ x : Ent, Calls Try.prog 23 #[ptr g, .string s] w3 fun e w' => e = .returned (.tuple #[entV x, .int .i64 r.1]) ∧ RLed base w' g v cap r.2 ∧ Below w3.heap.size w3 w') := Lib.hid (fun hk => by
    have hr2 : stepP cap L k s t a = getP L s := by unfold stepP; rw [if_neg (by omega), if_neg (by omega), if_neg (by omega)]
    have hr3 : (getP L s).2 = L := by unfold getP; split <;> rfl
    rw [hr, hr2, hr3]
    exact ⟨_, (rget_all base g v cap L s w3 h3).mono fun e w' ⟨h1, h2⟩ => ⟨h1, h3.kept h2, h2⟩⟩)
  have HPK := Lib.hid (pickn_any k 4 w3 (by omega) (by omega))
  rw [← hr]
  generalize k % 4 = q at hq0 hq4 HPK T0 T1 T2 T3
  clear h h3 hI hl hr lift hbs hbs3
  obtain rfl | rfl | rfl | rfl : q = 0 ∨ q = 1 ∨ q = 2 ∨ q = 3 := by omega
  · have TT := Lib.hid (T0.out rfl)
    clear T0 T1 T2 T3
    go_enter Try.func17, Try.ntmps17
    go_upto_region 1 with fail
    rw [← hw3, ← hB]
    clear hw3 hB
    go_wp2_with (first
      | (go_at_call 37; refine HPK.out.mono ?_; rintro e w4 ⟨rfl, rfl⟩)
      | (go_at_call 38; refine TT.out.mono ?_; rintro e w4 ⟨rfl, v', hl, hf⟩; have H4 := Lib.hid hl; have F4 := Lib.hid hf; clear hl hf))
    go_ret
    exact ⟨rfl, v', H4.out, HLF.out _ _ F4.out⟩
  · have TT := Lib.hid (T1.out rfl)
    clear T0 T1 T2 T3
    go_enter Try.func17, Try.ntmps17
    go_upto_region 1 with fail
    rw [← hw3, ← hB]
    clear hw3 hB
    go_wp2_with (first
      | (go_at_call 37; refine HPK.out.mono ?_; rintro e w4 ⟨rfl, rfl⟩)
      | (go_at_call 39; refine TT.out.mono ?_; rintro e w4 ⟨rfl, v', hl, hf⟩; have H4 := Lib.hid hl; have F4 := Lib.hid hf; clear hl hf))
    go_ret
    exact ⟨rfl, v', H4.out, HLF.out _ _ F4.out⟩
  · have TT := Lib.hid (T2.out rfl)
    clear T0 T1 T2 T3
    go_enter Try.func17, Try.ntmps17
    go_upto_region 1 with fail
    rw [← hw3, ← hB]
    clear hw3 hB
    go_wp2_with (first
      | (go_at_call 37; refine HPK.out.mono ?_; rintro e w4 ⟨rfl, rfl⟩)
      | (go_at_call 40; refine TT.out.mono ?_; rintro e w4 ⟨rfl, v', hl, hf⟩; have H4 := Lib.hid hl; have F4 := Lib.hid hf; clear hl hf))
    go_ret
    exact ⟨rfl, v', H4.out, HLF.out _ _ F4.out⟩
  · obtain ⟨x, hT⟩ := T3.out rfl
    have TT := Lib.hid hT
    clear T0 T1 T2 T3 hT
    go_enter Try.func17, Try.ntmps17
    go_upto_region 1 with fail
    rw [← hw3, ← hB]
    clear hw3 hB
    go_wp2_with (first
      | (go_at_call 37; refine HPK.out.mono ?_; rintro e w4 ⟨rfl, rfl⟩)
      | (go_at_call 23; refine TT.out.mono ?_; rintro e w4 ⟨rfl, hl, hb⟩; have H4 := Lib.hid hl; have HB4 := Lib.hid (below_and HBL.out hb); clear hl hb))
    go_ret
    exact ⟨rfl, v, H4.out.kept (below_alloc _ _), .of_below (below_and HB4.out (below_alloc _ _))⟩

/-! same -/
def S21 (ga k g q0 c gp gq : Nat) (L : List Ent) (x : Ent) (z : Am) (w' : World) : Prop := w'.cell? ⟨ga, k * 6, none⟩ = some (.string x.n) ∧ w'.cell? ⟨ga, k * 6 + 1, none⟩ = some (.string x.i) ∧ w'.cell? ⟨ga, k * 6 + 2, none⟩ = some (.int .i64 x.a.c) ∧ w'.cell? ⟨ga, k * 6 + 3, none⟩ = some (.int .i64 x.a.r) ∧ w'.cell? ⟨ga, k * 6 + 4, none⟩ = some (.int .i64 x.a.d) ∧ w'.cell? ⟨ga, k * 6 + 5, none⟩ = some (.int .i64 x.a.p) ∧ w'.cell? ⟨g, 4, none⟩ = some ((.slice (some ⟨q0, 0, none⟩) L.length c)) ∧ w'.cell? ⟨q0, k * 6, none⟩ = some (.string x.n) ∧ w'.cell? ⟨q0, k * 6 + 1, none⟩ = some (.string x.i) ∧ w'.cell? ⟨q0, k * 6 + 2, none⟩ = some (.int .i64 x.a.c) ∧ w'.cell? ⟨q0, k * 6 + 3, none⟩ = some (.int .i64 x.a.r) ∧ w'.cell? ⟨q0, k * 6 + 4, none⟩ = some (.int .i64 x.a.d) ∧ w'.cell? ⟨q0, k * 6 + 5, none⟩ = some (.int .i64 x.a.p) ∧ w'.cell? ⟨gp, 0, none⟩ = some (.int .i64 z.c) ∧ w'.cell? ⟨gp, 1, none⟩ = some (.int .i64 z.r) ∧ w'.cell? ⟨gp, 2, none⟩ = some (.int .i64 z.d) ∧ w'.cell? ⟨gp, 3, none⟩ = some (.int .i64 z.p) ∧ w'.cell? ⟨gq, 0, none⟩ = some (.int .i64 z.c) ∧ w'.cell? ⟨gq, 1, none⟩ = some (.int .i64 z.r) ∧ w'.cell? ⟨gq, 2, none⟩ = some (.int .i64 z.d) ∧ w'.cell? ⟨gq, 3, none⟩ = some (.int .i64 z.p)
theorem S21.kept {ga k g q0 c gp gq : Nat} {L : List Ent} {x : Ent} {z : Am} {w w' : World} (h : S21 ga k g q0 c gp gq L x z w) (hb : Below w.heap.size w w') : S21 ga k g q0 c gp gq L x z w' :=
  ⟨cell_kept h.1 hb, cell_kept h.2.1 hb, cell_kept h.2.2.1 hb, cell_kept h.2.2.2.1 hb, cell_kept h.2.2.2.2.1 hb, cell_kept h.2.2.2.2.2.1 hb, cell_kept h.2.2.2.2.2.2.1 hb, cell_kept h.2.2.2.2.2.2.2.1 hb, cell_kept h.2.2.2.2.2.2.2.2.1 hb, cell_kept h.2.2.2.2.2.2.2.2.2.1 hb, cell_kept h.2.2.2.2.2.2.2.2.2.2.1 hb, cell_kept h.2.2.2.2.2.2.2.2.2.2.2.1 hb, cell_kept h.2.2.2.2.2.2.2.2.2.2.2.2.1 hb, cell_kept h.2.2.2.2.2.2.2.2.2.2.2.2.2.1 hb, cell_kept h.2.2.2.2.2.2.2.2.2.2.2.2.2.2.1 hb, cell_kept h.2.2.2.2.2.2.2.2.2.2.2.2.2.2.2.1 hb, cell_kept h.2.2.2.2.2.2.2.2.2.2.2.2.2.2.2.2.1 hb, cell_kept h.2.2.2.2.2.2.2.2.2.2.2.2.2.2.2.2.2.1 hb, cell_kept h.2.2.2.2.2.2.2.2.2.2.2.2.2.2.2.2.2.2.1 hb, cell_kept h.2.2.2.2.2.2.2.2.2.2.2.2.2.2.2.2.2.2.2.1 hb, cell_kept h.2.2.2.2.2.2.2.2.2.2.2.2.2.2.2.2.2.2.2.2 hb⟩
theorem inL_texts (s : ByteArray) (L : List Ent) : inL s L = ((L.filter fun x => inP s x).map Ent.n).map Value.string := by
  unfold inL
  rw [List.map_map]
  rfl
theorem texts_in {w : World} {base : Nat} {v : Value} {s : ByteArray} {L : List Ent} (h : w.ownsRow base 9 1 v (inL s L).length (inL s L)) : Texts w v ((L.filter fun x => inP s x).map Ent.n) := by
  have h1 := row_of_owns h (fun u hu => by rw [inL_texts] at hu; obtain ⟨y, -, rfl⟩ := List.mem_map.1 hu; rfl)
  unfold Texts
  rw [inL_texts] at h1
  simpa using h1
theorem sametexts_in {v1 v2 : Value} {w : World} {b1 b2 : Nat} {s : ByteArray} {L : List Ent} (h1 : w.ownsRow b1 9 1 v1 (inL s L).length (inL s L)) (h2 : w.ownsRow b2 9 1 v2 (inL s L).length (inL s L)) :
    Calls Try.prog 19 #[v1, v2] w fun e w' => e = .returned (.bool true) ∧ Below w.heap.size w w' := by
  have := sametexts_any v1 v2 _ _ w (texts_in h1) (texts_in h2)
  rw [show ∀ a : List ByteArray, sameT a a = true from fun a => by unfold sameT; simp] at this
  exact this

set_option maxRecDepth 100000 in
set_option maxHeartbeats 8000000 in
theorem same_made (b mb base g : Nat) (v : Value) (cap : Am) (L : List Ent) (w : World) (h : Led w b mb cap L) (hr : RLed base w g v cap L) (hI : Inv cap L) (hl : L.length ≤ 100000) :
    Calls Try.prog 18 #[ptr b, ptr g] w fun e w' => e = .returned (.bool true) ∧ Below w.heap.size w w' := by
  obtain ⟨pv, c, rfl, hc, hm⟩ := hr.shape
  have hml : maxLen ≤ 9223372036854775807 := by decide
  obtain ⟨zf, hzf⟩ : ∃ zf, zf = (subR cap (sumA (inB ⟨#[]⟩ ⟨#[]⟩) L)).1 := ⟨_, rfl⟩
  have hzf2 : subR cap (sumA (inB ⟨#[]⟩ ⟨#[]⟩) L) = (zf, (subR cap (sumA (inB ⟨#[]⟩ ⟨#[]⟩) L)).2) := by rw [hzf]
  have HNM : Hid (∀ e ∈ L, e.n.size ≤ maxLen) := Lib.hid hI.size
  have HEN : Hid (∀ w, Led w b mb cap L → Calls Try.prog 24 #[ptr b] w fun e w' => ∃ v, e = .returned v ∧ w'.ownsRow w.heap.size 48 6 v L.length (entsC L) ∧ Below w.heap.size w w') := Lib.hid (fun w h => entries_made b mb cap L w h hI.rise hI.size hl)
  have HFP : Hid (∀ w, Led w b mb cap L → Calls Try.prog 13 #[ptr b] w fun e w' => e = .returned (.agg #[.int .i64 zf.c, .int .i64 zf.r, .int .i64 zf.d, .int .i64 zf.p]) ∧ Below w.heap.size w w') := Lib.hid (fun w h => free_made b mb cap L w h hI.rise.apart hI.oks (hI.fit2 _ _) zf _ hzf2)
  have HFR : Hid (∀ w, RLed base w g (.slice pv L.length c) cap L → Calls Try.prog 41 #[ptr g] w fun e w' => e = .returned (.agg #[.int .i64 zf.c, .int .i64 zf.r, .int .i64 zf.d, .int .i64 zf.p]) ∧ Below w.heap.size w w') := Lib.hid (fun w h => rfree_any base g _ cap L w h hI.oks (hI.fit2 _ _) hl zf _ hzf2)
  have H := Lib.hid h
  have HR := Lib.hid hr
  have HI := Lib.hid hI
  have HL := Lib.hid hl
  clear h hr hI hl hzf hzf2
  go_enter Try.func18, Try.ntmps18
  go_upto_region 2 with (go_at_call 24; refine (HEN.out _ H.out).mono ?_; rintro e w3 ⟨v3, rfl, ho, hb⟩; obtain ⟨p3, c3, rfl, hc3, hm3⟩ := own_slice ho; have HO := Lib.hid ho; have HB3 := Lib.hid hb; have H3 := Lib.hid (H.out.kept hb); have HR3 := Lib.hid (HR.out.kept hb); clear ho hb)
  have r0 : ∀ y : Past w3, y.val.cell? ⟨g, 0, none⟩ = some (.int .i64 cap.c) := Past.blk HR3.out.blk (j := 0) rfl
  have r1 : ∀ y : Past w3, y.val.cell? ⟨g, 1, none⟩ = some (.int .i64 cap.r) := Past.blk HR3.out.blk (j := 1) rfl
  have r2 : ∀ y : Past w3, y.val.cell? ⟨g, 2, none⟩ = some (.int .i64 cap.d) := Past.blk HR3.out.blk (j := 2) rfl
  have r3 : ∀ y : Past w3, y.val.cell? ⟨g, 3, none⟩ = some (.int .i64 cap.p) := Past.blk HR3.out.blk (j := 3) rfl
  have r4 : ∀ y : Past w3, y.val.cell? ⟨g, 4, none⟩ = some (.slice pv L.length c) := Past.blk HR3.out.blk (j := 4) rfl
  go_wp2
  refine wp_region_past (by kernel_rfl) (by kernel_rfl) ?_
  repeat (go_big_quiet_step (first
    | (go_at_call 25; exact past_call (lcap_lit b mb cap L _ (H3.out.kept (Past.h _))))
    | (go_at_call 13; exact past_call (HFP.out _ (H3.out.kept (Past.h _))))
    | (go_at_call 41; exact past_call (HFR.out _ (HR3.out.kept (Past.h _))))))
  refine wpQuiet_nil ?_
  intro _ hw'
  obtain ⟨s9, hw''⟩ := hw'
  subst hw''
  obtain ⟨w4, h9, e9⟩ : ∃ w4, Below w3.heap.size w3 w4 ∧ w4 = s9.val := ⟨_, s9.h, rfl⟩
  rw [← e9]
  have HB4 := Lib.hid (below_and HB3.out h9)
  have H4 := Lib.hid (H3.out.kept h9)
  have HR4 := Lib.hid (HR3.out.kept h9)
  have HO4 := Lib.hid (own_fr HO.out (Fr.of_below h9 []) (fun _ _ => by simp))
  clear h9 e9 r0 r1 r2 r3 r4
  go_wp2
  go_loopw [6] (fun i wr => ∃ k : Nat, k ≤ L.length ∧ i = .int .i64 (k : Int) ∧ Hid (Below w4.heap.size w4 wr)) (fun i _ => L.length - (intOf i).toNat)
  case atStart => exact ⟨0, Nat.zero_le _, rfl, Lib.hid (Below.refl _ _)⟩
  case round =>
    obtain ⟨k, hk, rfl, HB⟩ := hrel
    by_cases hlt : k < L.length
    · obtain ⟨ga, ca, ea, -, -, -⟩ := own_block HO4.out (by omega)
      simp only [Value.slice.injEq] at ea
      obtain ⟨rfl, -, rfl⟩ := ea
      obtain ⟨q0, rfl, hcs⟩ := HR4.out.at hlt
      obtain ⟨x, hx⟩ : ∃ x, x = L[k] := ⟨_, rfl⟩
      have hxm : x ∈ L := by rw [hx]; exact List.getElem_mem hlt
      have hfx := fnd_of HI.out.rise.apart hxm
      obtain ⟨z, hz⟩ : ∃ z, z = (subR x.a (sumA (inB x.n ⟨#[]⟩) L)).1 := ⟨_, rfl⟩
      have hz2 : subR x.a (sumA (inB x.n ⟨#[]⟩) L) = (z, (subR x.a (sumA (inB x.n ⟨#[]⟩) L)).2) := by rw [hz]
      have hxn := size_list (HI.out.nm x hxm).1
      have HLP : Hid (∀ w, Led w b mb cap L → Calls Try.prog 10 #[ptr b, .string x.n] w fun e w' => e = .returned (.tuple #[.agg #[.int .i64 z.c, .int .i64 z.r, .int .i64 z.d, .int .i64 z.p], .int .i64 0]) ∧ Below w.heap.size w w') := Lib.hid (fun w h => left_yes b mb cap L x.n x w h (HNM.out x hxm) hxn hfx HI.out.rise.apart HI.out.oks (HI.out.fit2 _ _) z _ hz2)
      obtain ⟨k2, hp2⟩ := plc_of.2 (by rw [show fnd L x.n.data.toList = some x from hfx]; rfl : (fnd L x.n.data.toList).isSome = true)
      obtain ⟨hk2, -, hf2⟩ := plc_some hp2
      have hx2 : L[k2] = x := by rw [show fnd L x.n.data.toList = some x from hfx] at hf2; exact (Option.some.inj hf2).symm
      have HLR : Hid (∀ w, RLed base w g (.slice (some ⟨q0, 0, none⟩) L.length c) cap L → Calls Try.prog 15 #[ptr g, .string x.n] w fun e w' => e = .returned (.tuple #[.agg #[.int .i64 z.c, .int .i64 z.r, .int .i64 z.d, .int .i64 z.p], .int .i64 0]) ∧ Below w.heap.size w w') := Lib.hid (fun w h => rleft_yes base g _ cap L x.n w h HI.out.oks (HI.out.fit2 _ _) HL.out (empty_not hxn) k2 hk2 hp2 z _ (by rw [hx2]; exact hz2))
      have HWR := Lib.hid (H4.out.kept HB.out)
      have HRR := Lib.hid (HR4.out.kept HB.out)
      have HOR := Lib.hid (own_fr HO4.out (Fr.of_below HB.out []) (fun _ _ => by simp))
      have e0 : wr.cell? ⟨ga, k * 6, none⟩ = some (.string x.n) := own_cell HOR.out (by rw [show k * 6 = k * 6 + 0 from rfl, entsC_at L k hlt 0 (by omega), ← hx]; rfl)
      have i1 : (k : Int) < (L.length : Int) := by omega
      have i2 : (k : Int) < (c : Int) := by omega
      have HX := Lib.hid hx
      clear hcs hx hxm hfx hz hz2 hxn hp2 hf2 hx2
      go_upto_region 8 with (go_at_call 10; refine (HLP.out _ HWR.out).mono ?_; rintro e w5 ⟨rfl, hb⟩; have HB5 := Lib.hid hb; clear hb)
      obtain ⟨w6, hw6⟩ : ∃ w6, w6 = w5.alloc (.cells #[.int .i64 z.c, .int .i64 z.r, .int .i64 z.d, .int .i64 z.p] 28) := ⟨_, rfl⟩
      obtain ⟨gp, hgp⟩ : ∃ gp, gp = w5.heap.size := ⟨_, rfl⟩
      have hb6 : Below wr.heap.size wr w6 := by rw [hw6]; exact below_and HB5.out (below_alloc _ _)
      have HP6 : Hid (Blk w6 gp (amC z) 28) := Lib.hid (by rw [hw6, hgp]; exact Blk.made w5 (amC z) _)
      have HBW6 := Lib.hid hb6
      have HR6 := Lib.hid (HRR.out.kept hb6)
      have e06 := cell_kept e0 hb6
      rw [← hw6, ← hgp]
      clear hw6 hgp hb6 e0
      go_upto_region 9 with (go_at_call 15; refine (HLR.out _ HR6.out).mono ?_; rintro e w7 ⟨rfl, hb⟩; have HB7 := Lib.hid hb; clear hb)
      obtain ⟨w8, hw8⟩ : ∃ w8, w8 = w7.alloc (.cells #[.int .i64 z.c, .int .i64 z.r, .int .i64 z.d, .int .i64 z.p] 28) := ⟨_, rfl⟩
      obtain ⟨gq, hgq⟩ : ∃ gq, gq = w7.heap.size := ⟨_, rfl⟩
      have hb8 : Below w6.heap.size w6 w8 := by rw [hw8]; exact below_and HB7.out (below_alloc _ _)
      have hq8 : Blk w8 gq (amC z) 28 := by rw [hw8, hgq]; exact Blk.made w7 (amC z) _
      have hp8 := HP6.out.kept hb8
      have hbw8 := below_and HBW6.out hb8
      have HW8 := Lib.hid (HWR.out.kept hbw8)
      have HR8 := Lib.hid (HRR.out.kept hbw8)
      have HO8 := Lib.hid (own_fr HOR.out (Fr.of_below hbw8 []) (fun _ _ => by simp))
      have HBR : Hid (Below w4.heap.size w4 w8) := Lib.hid (below_and HB.out hbw8)
      have hea : ∀ j u, j < 6 → (entC x)[j]? = some u → w8.cell? ⟨ga, k * 6 + j, none⟩ = some u := fun j u hj hu => own_cell HO8.out (by rw [entsC_at L k hlt j hj, ← HX.out]; exact hu)
      have heq : ∀ j u, j < 6 → (entC x)[j]? = some u → w8.cell? ⟨q0, k * 6 + j, none⟩ = some u := fun j u hj hu => own_cell HR8.out.row (by rw [entsC_at L k hlt j hj, ← HX.out]; exact hu)
      have HE : Hid (S21 ga k g q0 c gp gq L x z w8) := Lib.hid ⟨hea 0 _ (by omega) rfl, hea 1 _ (by omega) rfl, hea 2 _ (by omega) rfl, hea 3 _ (by omega) rfl, hea 4 _ (by omega) rfl, hea 5 _ (by omega) rfl, HR8.out.blk.cell (j := 4) rfl, heq 0 _ (by omega) rfl, heq 1 _ (by omega) rfl, heq 2 _ (by omega) rfl, heq 3 _ (by omega) rfl, heq 4 _ (by omega) rfl, heq 5 _ (by omega) rfl, hp8.cell (j := 0) rfl, hp8.cell (j := 1) rfl, hp8.cell (j := 2) rfl, hp8.cell (j := 3) rfl, hq8.cell (j := 0) rfl, hq8.cell (j := 1) rfl, hq8.cell (j := 2) rfl, hq8.cell (j := 3) rfl⟩
      have HIP : Hid (∀ w, Led w b mb cap L → Calls Try.prog 20 #[ptr b, .string x.n] w fun e w' => ∃ v, e = .returned v ∧ w'.ownsRow w.heap.size 9 1 v (inL x.n L).length (inL x.n L) ∧ Below w.heap.size w w') := Lib.hid (fun w h => in_made b mb cap L x.n w h HI.out.rise HNM.out HL.out)
      have HIR : Hid (∀ w, RLed base w g (.slice (some ⟨q0, 0, none⟩) L.length c) cap L → Calls Try.prog 21 #[ptr g, .string x.n] w fun e w' => ∃ v, e = .returned v ∧ w'.ownsRow w.heap.size 9 1 v (inL x.n L).length (inL x.n L) ∧ Below w.heap.size w w') := Lib.hid (fun w h => rin_any base g _ cap L x.n w h HL.out)
      rw [← hw8, ← hgq]
      clear hw8 hgq hb8 hq8 hp8 hbw8 hea heq e06 HP6 HBW6 HR6 HLP HLR
      go_wp2
      go_region_held3 (fun w' => w'.cell? ⟨ga, k * 6, none⟩ = some (.string x.n) ∧ w'.cell? ⟨ga, k * 6 + 1, none⟩ = some (.string x.i) ∧ w'.cell? ⟨ga, k * 6 + 2, none⟩ = some (.int .i64 x.a.c) ∧ w'.cell? ⟨ga, k * 6 + 3, none⟩ = some (.int .i64 x.a.r) ∧ w'.cell? ⟨ga, k * 6 + 4, none⟩ = some (.int .i64 x.a.d) ∧ w'.cell? ⟨ga, k * 6 + 5, none⟩ = some (.int .i64 x.a.p) ∧ w'.cell? ⟨g, 4, none⟩ = some ((.slice (some ⟨q0, 0, none⟩) L.length c)) ∧ w'.cell? ⟨q0, k * 6, none⟩ = some (.string x.n) ∧ w'.cell? ⟨q0, k * 6 + 1, none⟩ = some (.string x.i) ∧ w'.cell? ⟨q0, k * 6 + 2, none⟩ = some (.int .i64 x.a.c) ∧ w'.cell? ⟨q0, k * 6 + 3, none⟩ = some (.int .i64 x.a.r) ∧ w'.cell? ⟨q0, k * 6 + 4, none⟩ = some (.int .i64 x.a.d) ∧ w'.cell? ⟨q0, k * 6 + 5, none⟩ = some (.int .i64 x.a.p) ∧ w'.cell? ⟨gp, 0, none⟩ = some (.int .i64 z.c) ∧ w'.cell? ⟨gp, 1, none⟩ = some (.int .i64 z.r) ∧ w'.cell? ⟨gp, 2, none⟩ = some (.int .i64 z.d) ∧ w'.cell? ⟨gp, 3, none⟩ = some (.int .i64 z.p) ∧ w'.cell? ⟨gq, 0, none⟩ = some (.int .i64 z.c) ∧ w'.cell? ⟨gq, 1, none⟩ = some (.int .i64 z.r) ∧ w'.cell? ⟨gq, 2, none⟩ = some (.int .i64 z.d) ∧ w'.cell? ⟨gq, 3, none⟩ = some (.int .i64 z.p))
        (refine HE.out.kept ?_ <;> (repeat (first | with_reducible exact Below.refl _ _ | with_reducible exact HBc.out | with_reducible exact HBb.out | with_reducible exact HBa.out | apply bl_drew | with_reducible (refine below_and ?_ (below_alloc _ _)))))
        (first
          | (go_at_call 20; refine (HIP.out _ (HW8.out.kept (by (repeat (first | with_reducible exact Below.refl _ _ | with_reducible exact HBc.out | with_reducible exact HBb.out | with_reducible exact HBa.out | apply bl_drew | with_reducible (refine below_and ?_ (below_alloc _ _))))))).mono ?_; rintro e wa ⟨va, rfl, ho, hb⟩; have HBa : Hid (Below w8.heap.size w8 wa) := Lib.hid (by refine below_and ?_ hb; (repeat (first | with_reducible exact Below.refl _ _ | with_reducible exact HBc.out | with_reducible exact HBb.out | with_reducible exact HBa.out | apply bl_drew | with_reducible (refine below_and ?_ (below_alloc _ _))))); have HOa := Lib.hid ho; clear ho hb)
          | (go_at_call 21; refine (HIR.out _ (HR8.out.kept (by (repeat (first | with_reducible exact Below.refl _ _ | with_reducible exact HBc.out | with_reducible exact HBb.out | with_reducible exact HBa.out | apply bl_drew | with_reducible (refine below_and ?_ (below_alloc _ _))))))).mono ?_; rintro e wb ⟨vb, rfl, ho, hb⟩; have HBb : Hid (Below w8.heap.size w8 wb) := Lib.hid (by refine below_and ?_ hb; (repeat (first | with_reducible exact Below.refl _ _ | with_reducible exact HBc.out | with_reducible exact HBb.out | with_reducible exact HBa.out | apply bl_drew | with_reducible (refine below_and ?_ (below_alloc _ _))))); have HOb := Lib.hid ho; have HOab := Lib.hid (own_fr HOa.out (Fr.of_below hb []) (fun _ _ => by simp)); clear ho hb)
          | (go_at_call 19; refine (sametexts_in HOab.out HOb.out).mono ?_; rintro e wc ⟨rfl, hb⟩; have HBc : Hid (Below w8.heap.size w8 wc) := Lib.hid (by refine below_and ?_ hb; (repeat (first | with_reducible exact Below.refl _ _ | with_reducible exact HBc.out | with_reducible exact HBb.out | with_reducible exact HBa.out | apply bl_drew | with_reducible (refine below_and ?_ (below_alloc _ _))))); clear hb))
      all_goals go_wp2
      all_goals go_roundw
      all_goals first
        | exact ⟨k + 1, hlt, by go_num, Lib.hid (below_and HBR.out HBc.out)⟩
        | (simp [intOf]; omega)
    · obtain rfl : k = L.length := by omega
      go_wp2
      go_ret
      exact ⟨rfl, below_and HB4.out HB.out⟩
end Go.Proofs.Ytighcnecajgkpaa
