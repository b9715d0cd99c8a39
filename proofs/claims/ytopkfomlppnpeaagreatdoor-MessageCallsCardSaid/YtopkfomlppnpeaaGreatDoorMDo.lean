/- , laid together: MsDRf, MsDOne. -/
import Derived.Test.YtopkfomlppnpeaaGreatDoorMDf
import Derived.Deep.RegionHeld3
import Derived.Deep.RegionLaw
import Derived.Test.YtopkfomlppnpeaaGreatDoorMFr
namespace Go.Proofs.YtopkfomlppnpeaaGreatDoor.Ms
open Go.RowKit Go.Proofs.YtopkfomlppnpeaaGreatDoor

theorem num4_take (l : List UInt8) : num4 (l.take 4) = num4 l := by
  unfold num4
  match l with
  | [] => rfl
  | [_] => rfl
  | [_, _] => rfl
  | [_, _, _] => rfl
  | _ :: _ :: _ :: _ :: _ => rfl
theorem rd_mid {w : World} {g o n c m k : Nat} {l : List UInt8} (h : Rd w (.slice (some ⟨g, o, none⟩) n c) l) (hn : m + k ≤ n) (hk : 0 < k) : Rd w (.slice (some ⟨g, o + m, none⟩) k (c - m)) ((l.drop m).take k) := by
  obtain ⟨p1, c1, hv, h1, h2, h3, h4, h5, h6⟩ := h
  simp only [Value.slice.injEq] at hv
  obtain ⟨rfl, hl, rfl⟩ := hv
  have hlen : ((l.drop m).take k).length = k := by rw [List.length_take, List.length_drop]; omega
  refine ⟨_, _, by rw [hlen], by rw [hlen]; omega, by omega, by simp, bytes_one _, fun e => ?_, .inr ⟨g, o + m, rfl, fun j u hj => ?_⟩⟩
  · cases e
  · rcases h6 with h6 | ⟨b', o', h7, h8⟩
    · have : l = [] := by simpa using h6
      subst this; simp at hlen; omega
    · cases h7
      rw [Nat.add_assoc]
      refine h8 (m + j) u ?_
      rw [List.getElem?_map] at hj ⊢
      rw [List.getElem?_take] at hj
      split at hj
      · rw [List.getElem?_drop] at hj; exact hj
      · cases hj
set_option maxRecDepth 100000 in
set_option maxHeartbeats 2000000 in
theorem rfread_any (v : Value) (b : List UInt8) (w : World) (h : Rd w v b) (hl : b.length ≤ 1000000000) : Calls Tryz.prog 106 #[v] w (RdF b w) := by
  obtain ⟨i0, hi, hz0, hz1, hz2⟩ := info_parts Tryz.uinfo
  obtain ⟨p, c, rfl⟩ := rd_slice h
  obtain ⟨n, hn⟩ : ∃ n, n = b.length := ⟨_, rfl⟩
  have hc : (n : Int) ≤ (c : Int) := by obtain ⟨_, _, h1, h2, -⟩ := h; simp at h1; omega
  have HN := Lib.hid hn
  obtain ⟨X, hX⟩ : ∃ X, X = w.heap.size := ⟨_, rfl⟩
  obtain ⟨w1, hw1⟩ : ∃ w1, w1 = w.alloc (.cells #[.int .u8 0, .slice none 0 0] 79) := ⟨_, rfl⟩
  have HX1 : Hid (Blk w1 X [.int .u8 0, .slice none 0 0] 79) := Lib.hid (by rw [hw1, hX]; exact Blk.made w [.int .u8 0, .slice none 0 0] _)
  have HF1 : Hid (Frp (fun k => k = X) w w1) := Lib.hid (by rw [hw1]; exact Frp.of_below (below_alloc _ _) _)
  have HR1 : Hid (Rd w1 (.slice p n c) b) := Lib.hid (by rw [hw1, hn]; exact h.below (below_alloc _ _))
  have HXX := Lib.hid hX
  have HGL := Lib.hid (fun (g o : Nat) (e : p = some ⟨g, o, none⟩) (hb : b ≠ []) => (by subst e; obtain ⟨g', o', h1, h2⟩ := rd_at (p := some ⟨g, o, none⟩) (by have h9 := h; exact h9) hb; cases h1; exact World.block_lt_of_cell? w _ (h2 0 (by cases b <;> simp_all)) : g < w.heap.size))
  have HP := Lib.hid (rd_at (p := p) (n := n) (c := c) (l := b) (by have h9 := HR1.out; exact h9))
  rw [← hn] at hl ⊢
  clear h hn
  go_enter Tryz.func106, Tryz.ntmps106
  go_upto_region 1 with fail
  rw [← hw1, ← hX]
  clear hw1 hX
  have f1_0 := HX1.out.free 0
  have f1_1 := HX1.out.free 1
  have y1_0 := HX1.out.cell (j := 0) rfl
  have y1_1 := HX1.out.cell (j := 1) rfl
  by_cases h8 : n < 8
  · have t0 : (n : Int) < 8 := by omega
    have HQ : Hid (frd b = (0, [], 0, 4)) := Lib.hid (by unfold frd; rw [if_pos (by have := HN.out; omega)])
    go_wp2
    refine ret_cell3 rfl rfl rfl ((HX1.out.set 0 (.int .u8 0)).set 1 (.slice none 0 0)) Tryz.underlying79 rfl (by kernel_rfl) ?_
    unfold RdF
    rw [HQ.out]
    exact ⟨(Frp.set (p := ⟨X, 1, none⟩) (Frp.set (p := ⟨X, 0, none⟩) HF1.out rfl _) rfl _).below (fun k hk => by rw [hk, HXX.out]; exact Nat.le_refl _) (Nat.le_refl _), fun _ => rfl, fun h9 => absurd h9 (by decide)⟩
  have t0 : ¬ (n : Int) < 8 := by omega
  have HL := Lib.hid hl
  obtain ⟨s, hs⟩ : ∃ s, s = more 0 (b.take 4) := ⟨_, rfl⟩
  have hR4 : Rd w1 (.slice p 4 c) (b.take 4) := by
    have h9 := HR1.out
    unfold Rd at h9
    rw [← HN.out] at h9
    have h7 := row_first h9 (m := 4) (by omega)
    unfold Rd
    rw [List.length_take, show min 4 b.length = 4 from by have := HN.out; omega, List.map_take]
    exact h7
  have HS : Hid (Calls Tryz.prog 134 #[.slice p 4 c] w1 fun e w' => e = .returned (.int .u32 s) ∧ w1 = w') := Lib.hid (by rw [hs]; exact rsum_any _ _ _ hR4)
  have hat := HP.out (fun e => by have h9 := HN.out; rw [e] at h9; simp at h9; omega)
  obtain ⟨g, o, rfl, hat⟩ := hat
  have HGX : Hid (g ≠ X) := Lib.hid (fun e => by have h9 := HGL.out g o rfl (fun e => by have h9 := HN.out; rw [e] at h9; simp at h9; omega); have := HXX.out; omega)
  clear HGL
  obtain ⟨c0, hc0⟩ : ∃ x : UInt8, x = b.getD 0 0 := ⟨_, rfl⟩
  have HC0 := Lib.hid hc0
  have HSS : Hid (∀ w', Frp (fun k => k = X) w1 w' → w'.cell? ⟨g, o, none⟩ = some (.int .u8 (c0.toNat : Int))) := Lib.hid (fun w' hf => by have h9 := cell_frp (hat 0 (by have := HN.out; omega)) hf HGX.out; rw [← hc0, Nat.add_zero] at h9; exact h9)
  clear hc0
  obtain ⟨k, hk⟩ : ∃ k, k = len3 b := ⟨_, rfl⟩
  obtain ⟨c1, hc1⟩ : ∃ x : Nat, x = (b.getD 1 0).toNat := ⟨_, rfl⟩
  obtain ⟨c2, hc2⟩ : ∃ x : Nat, x = (b.getD 2 0).toNat := ⟨_, rfl⟩
  obtain ⟨c3, hc3⟩ : ∃ x : Nat, x = (b.getD 3 0).toNat := ⟨_, rfl⟩
  have l1 : c1 < 256 := by rw [hc1]; exact UInt8.toNat_lt _
  have l2 : c2 < 256 := by rw [hc2]; exact UInt8.toNat_lt _
  have l3 : c3 < 256 := by rw [hc3]; exact UInt8.toNat_lt _
  have h1 := fun (s : Past w1) => cell_kept (hat 1 (by have := HN.out; omega)) s.h
  have h2 := fun (s : Past w1) => cell_kept (hat 2 (by have := HN.out; omega)) s.h
  have h3 := fun (s : Past w1) => cell_kept (hat 3 (by have := HN.out; omega)) s.h
  simp only [← hc1] at h1
  simp only [← hc2] at h2
  simp only [← hc3] at h3
  have HK : Hid (k = c1 + c2 * 256 + c3 * 65536) := Lib.hid (by rw [hk, hc1, hc2, hc3]; rfl)
  have HBV : Hid ((c1 : Int) + (c2 : Int) * 256 + (c3 : Int) * 65536 = (k : Int)) := Lib.hid (by have := HK.out; omega)
  have HSE := Lib.hid hs
  have HKE := Lib.hid hk
  have HKL : Hid (k < 16777216) := Lib.hid (by have := HK.out; omega)
  clear hR4 hat hc1 hc2 hc3 hs hk
  go_upto_region 4 with (go_at_call 134; refine HS.out.mono ?_; rintro e w2 ⟨rfl, rfl⟩)
  refine wp_region_past (by kernel_rfl) (by kernel_rfl) ?_
  repeat (go_big_quiet_step (fail))
  refine wpQuiet_nil ?_
  intro _ hw'
  obtain ⟨s9, hw''⟩ := hw'
  subst hw''
  obtain ⟨w2, h9, e9⟩ : ∃ w2, Below w1.heap.size w1 w2 ∧ w2 = s9.val := ⟨_, s9.h, rfl⟩
  rw [← e9, HBV.out]
  have HB12 := Lib.hid h9
  have HX2 := Lib.hid (HX1.out.kept HB12.out)
  have HF2 := Lib.hid (HF1.out.next HB12.out)
  have HR2 := Lib.hid (HR1.out.below HB12.out)
  clear h9 e9 h1 h2 h3 f1_0 f1_1 y1_0 y1_1 HBV HS HK l1 l2 l3
  have f2_0 := HX2.out.free 0
  have f2_1 := HX2.out.free 1
  have y2_0 := HX2.out.cell (j := 0) rfl
  have y2_1 := HX2.out.cell (j := 1) rfl
  obtain ⟨t, ht⟩ : ∃ t, t = num4 (b.drop 4) := ⟨_, rfl⟩
  have HG : Hid (Calls Tryz.prog 135 #[.slice (some ⟨g, o + 4, none⟩) 4 (c - 4 : Nat)] w2 fun e w' => e = .returned (.int .u32 t) ∧ Below w2.heap.size w2 w') := Lib.hid (by
    have h9 := rd_mid (m := 4) (k := 4) HR2.out (by omega) (by omega)
    have h8 := rnumber4_any _ _ _ h9 (by rw [List.length_take, List.length_drop]; have := HN.out; omega) (by rw [List.length_take]; omega)
    rw [num4_take, ← ht] at h8
    exact h8)
  have HT := Lib.hid ht
  clear ht
  have hk8 : k < 16777216 := HKL.out
  clear HP
  have NT : Hid (t ≠ s → frd b = (0, [], 0, 5)) := Lib.hid (fun h => by unfold frd; rw [if_neg (by have := HN.out; omega), if_pos (.inl (by rw [← HT.out, ← HSE.out]; exact h))])
  have NK : Hid (t = s → 1048576 < k → frd b = (0, [], 0, 5)) := Lib.hid (fun _ h => by unfold frd; rw [if_neg (by have := HN.out; omega), if_pos (.inr (by rw [← HKE.out]; exact h))])
  have NC : Hid (t = s → ¬ 1048576 < k → n < 12 + k → frd b = (0, [], 0, 4)) := Lib.hid (fun h1 h2 h3 => by unfold frd; rw [if_neg (by have := HN.out; omega), if_neg (by rw [← HT.out, ← HSE.out, ← HKE.out, h1]; simp; omega), if_pos (by rw [← HKE.out, ← HN.out]; exact h3)])
  have ND : Hid (t = s → ¬ 1048576 < k → ¬ n < 12 + k → num4 (b.drop (8 + k)) ≠ more s ((b.drop 8).take k) → frd b = (0, [], 0, 5)) := Lib.hid (fun h1 h2 h3 h4 => by unfold frd; rw [if_neg (by have := HN.out; omega), if_neg (by rw [← HT.out, ← HSE.out, ← HKE.out, h1]; simp; omega), if_neg (by rw [← HKE.out, ← HN.out]; exact h3), if_pos (by rw [← HKE.out, ← HSE.out]; exact h4)])
  have NE : Hid (t = s → ¬ 1048576 < k → ¬ n < 12 + k → num4 (b.drop (8 + k)) = more s ((b.drop 8).take k) → frd b = (b.getD 0 0, (b.drop 8).take k, 12 + k, 0)) := Lib.hid (fun h1 h2 h3 h4 => by unfold frd; rw [if_neg (by have := HN.out; omega), if_neg (by rw [← HT.out, ← HSE.out, ← HKE.out, h1]; simp; omega), if_neg (by rw [← HKE.out, ← HN.out]; exact h3), if_neg (by rw [← HKE.out, ← HSE.out, h4]; exact fun h => h rfl), ← HKE.out])
  clear HT
  by_cases hts : t = s
  rotate_left
  · have HQ := Lib.hid (NT.out hts)
    have t1 : ((s : Int) != (t : Int)) = true := by simp; omega
    have t2 : (s != t) = true := by simp; omega
    clear NT NK NC ND NE
    go_wp2_with (go_at_call 135; refine HG.out.mono ?_; rintro e w3 ⟨rfl, hb⟩; have HB23 := Lib.hid hb; clear hb; have HX3 := Lib.hid (HX2.out.kept HB23.out); have HF3 := Lib.hid (HF2.out.next HB23.out); have HR3 := Lib.hid (HR2.out.below HB23.out); have f3_0 := HX3.out.free 0; have f3_1 := HX3.out.free 1; have y3_0 := HX3.out.cell (j := 0) rfl; have y3_1 := HX3.out.cell (j := 1) rfl)
    refine ret_cell3 rfl rfl rfl ((HX3.out.set 0 (.int .u8 0)).set 1 (.slice none 0 0)) Tryz.underlying79 rfl (by kernel_rfl) ?_
    unfold RdF
    rw [HQ.out]
    exact ⟨(Frp.set (p := ⟨X, 1, none⟩) (Frp.set (p := ⟨X, 0, none⟩) HF3.out rfl _) rfl _).below (fun k hk => by rw [hk, HXX.out]; exact Nat.le_refl _) (Nat.le_refl _), fun _ => rfl, fun h9 => absurd h9 (by decide)⟩
  subst hts
  have t1 : ((t : Int) != (t : Int)) = false := by simp
  have t2 : (t != t) = false := by simp
  by_cases hkk : 1048576 < k
  · have HQ := Lib.hid (NK.out rfl hkk)
    have t3 : (1048576 : Int) < (k : Int) := by omega
    clear NT NK NC ND NE
    go_wp2_with (go_at_call 135; refine HG.out.mono ?_; rintro e w3 ⟨rfl, hb⟩; have HB23 := Lib.hid hb; clear hb; have HX3 := Lib.hid (HX2.out.kept HB23.out); have HF3 := Lib.hid (HF2.out.next HB23.out); have HR3 := Lib.hid (HR2.out.below HB23.out); have f3_0 := HX3.out.free 0; have f3_1 := HX3.out.free 1; have y3_0 := HX3.out.cell (j := 0) rfl; have y3_1 := HX3.out.cell (j := 1) rfl)
    refine ret_cell3 rfl rfl rfl ((HX3.out.set 0 (.int .u8 0)).set 1 (.slice none 0 0)) Tryz.underlying79 rfl (by kernel_rfl) ?_
    unfold RdF
    rw [HQ.out]
    exact ⟨(Frp.set (p := ⟨X, 1, none⟩) (Frp.set (p := ⟨X, 0, none⟩) HF3.out rfl _) rfl _).below (fun k hk => by rw [hk, HXX.out]; exact Nat.le_refl _) (Nat.le_refl _), fun _ => rfl, fun h9 => absurd h9 (by decide)⟩
  have t3 : ¬ (1048576 : Int) < (k : Int) := by omega
  by_cases hnk : n < 12 + k
  · have HQ := Lib.hid (NC.out rfl hkk hnk)
    have t4 : (n : Int) < (k : Int) + 12 := by omega
    clear NT NK NC ND NE
    go_wp2_with (go_at_call 135; refine HG.out.mono ?_; rintro e w3 ⟨rfl, hb⟩; have HB23 := Lib.hid hb; clear hb; have HX3 := Lib.hid (HX2.out.kept HB23.out); have HF3 := Lib.hid (HF2.out.next HB23.out); have HR3 := Lib.hid (HR2.out.below HB23.out); have f3_0 := HX3.out.free 0; have f3_1 := HX3.out.free 1; have y3_0 := HX3.out.cell (j := 0) rfl; have y3_1 := HX3.out.cell (j := 1) rfl)
    refine ret_cell3 rfl rfl rfl ((HX3.out.set 0 (.int .u8 0)).set 1 (.slice none 0 0)) Tryz.underlying79 rfl (by kernel_rfl) ?_
    unfold RdF
    rw [HQ.out]
    exact ⟨(Frp.set (p := ⟨X, 1, none⟩) (Frp.set (p := ⟨X, 0, none⟩) HF3.out rfl _) rfl _).below (fun k hk => by rw [hk, HXX.out]; exact Nat.le_refl _) (Nat.le_refl _), fun _ => rfl, fun h9 => absurd h9 (by decide)⟩
  have t4 : ¬ (n : Int) < (k : Int) + 12 := by omega
  have HD := Lib.hid (ND.out rfl hkk hnk)
  have HE := Lib.hid (NE.out rfl hkk hnk)
  clear NT NK NC ND NE
  go_upto_region 9 with (go_at_call 135; refine HG.out.mono ?_; rintro e w3 ⟨rfl, hb⟩; have HB23 := Lib.hid hb; clear hb; have HX3 := Lib.hid (HX2.out.kept HB23.out); have HF3 := Lib.hid (HF2.out.next HB23.out); have HR3 := Lib.hid (HR2.out.below HB23.out); have f3_0 := HX3.out.free 0; have f3_1 := HX3.out.free 1; have y3_0 := HX3.out.cell (j := 0) rfl; have y3_1 := HX3.out.cell (j := 1) rfl)
  obtain ⟨bd, hbd⟩ : ∃ bd, bd = (b.drop 8).take k := ⟨_, rfl⟩
  rw [← hbd] at HD HE
  have HBL : Hid (bd.length = k) := Lib.hid (by rw [hbd, List.length_take, List.length_drop]; have := HN.out; omega)
  have HSR : Hid (∀ w' L, L = k → Below w3.heap.size w3 w' → Src Tryz.prog 1 23 (.slice (some ⟨g, o + 8, none⟩) L (c - 8)) L (bd.map B) w') := Lib.hid (fun w' L hL hb => by
    subst hL
    have h9 := rd_cut (k := 8) (by have h9 := HR3.out; rw [HN.out] at h9; exact h9) (by have := HN.out; omega)
    rw [← HN.out] at h9
    unfold cutP at h9
    rw [if_neg (by omega)] at h9
    simp only [Option.map_some, add_off] at h9
    have h8 : Row w3 (.slice (some ⟨g, o + 8, none⟩) (n - 8) (c - 8)) 1 (n - 8) ((b.drop 8).map B) := by unfold Rd at h9; rw [List.length_drop, ← HN.out] at h9; exact h9
    have h7 := row_first h8 (m := L) (by omega)
    have h6 : Rd w3 (.slice (some ⟨g, o + 8, none⟩) L (c - 8)) bd := by unfold Rd; rw [HBL.out, hbd, List.map_take]; rw [Nat.mul_one] at h7; exact h7
    have h5 := (h6.below hb).src Tryz.underlying23
    rw [HBL.out] at h5
    exact h5)
  clear hbd
  have c5 : ¬ c = 8 := by omega
  have c6 : (8 + (k : Int)) ≤ (n : Int) := by omega
  have c7 : (0 : Int) ≤ 8 + (k : Int) := by omega
  have c8 : (0 : Int) < (n : Int) := by omega
  have c9 : 0 < n := by omega
  go_upto_region 10 with (at_builtin; refine wpList_app _ rfl _ _ 23 23 rfl w3.heap.size 5 i0 (.int .u8 0) 1 1 Tryz.underlying23 hi hz0 hz1 hz2 rfl (.slice (some ⟨w3.heap.size, 0, none⟩) 0 0) 0 [] rfl (own_none w3) _ _ (bd.map B) rfl (HSR.out _ _ (by omega) (below_alloc _ _)) (by unfold maxLen; omega) (by omega) (by simp) ?_; intro v4 w4 ho hg _; rw [List.nil_append, show 0 + (8 + k - 8) = k by omega] at ho; obtain ⟨p4, d4, rfl, -, -⟩ := own_slice ho; have HB34 : Hid (Below w3.heap.size w3 w4) := Lib.hid ((Frp.grown (P := fun _ => False) (Frp.of_below (below_alloc w3 _) _) hg (by intro k hk; right; cases hk; exact Nat.le_refl _)).below (fun k hk => hk.elim) (Nat.le_refl _)); have HO4 : Hid (Fresh w3.heap.size w4 (.slice p4 k d4) bd) := Lib.hid (by unfold Fresh; rw [HBL.out]; exact ho); clear ho hg)
  have HX4 := Lib.hid (HX3.out.kept HB34.out)
  have HF4 := Lib.hid (HF3.out.next HB34.out)
  have HR4 := Lib.hid (HR3.out.below HB34.out)
  have HF14 : Hid (Frp (fun k => k = X) w1 w4) := Lib.hid (((Frp.of_below HB12.out _).next HB23.out).next HB34.out)
  obtain ⟨z, hz⟩ : ∃ z, z = num4 (b.drop (8 + k)) := ⟨_, rfl⟩
  obtain ⟨y, hy⟩ : ∃ y, y = more t bd := ⟨_, rfl⟩
  rw [← hz, ← hy] at HD HE
  have HG2 : Hid (∀ (s : Past w4) (L : Nat), L = 4 → Calls Tryz.prog 135 #[.slice (some ⟨g, o + (8 + k), none⟩) L (c - (8 + k) : Nat)] s.val fun e w' => e = .returned (.int .u32 z) ∧ Below s.val.heap.size s.val w') := Lib.hid (fun s L hL => by
    subst hL
    have h9 := rd_mid (m := 8 + k) (k := 4) (HR4.out.below s.h) (by omega) (by omega)
    have h8 := rnumber4_any _ _ _ h9 (by rw [List.length_take, List.length_drop]; have := HN.out; omega) (by rw [List.length_take]; omega)
    rw [num4_take, ← hz] at h8
    exact h8)
  have HM : Hid (∀ s : Past w4, Calls Tryz.prog 136 #[.int .u32 t, .slice p4 k d4] s.val fun e w' => e = .returned (.int .u32 y) ∧ Below s.val.heap.size s.val w') := Lib.hid (fun s => by
    rw [hy]
    exact (rmore_any t _ bd s.val (by rw [HSE.out]; exact more_lt (by omega) _) (HO4.out.rd.below s.h)).mono fun e w' h9 => ⟨h9.1, by rw [← h9.2]; exact Below.refl _ _⟩)
  clear hz hy
  have ca : ¬ c = 8 + k := by omega
  refine wp_region_past (by kernel_rfl) (by kernel_rfl) ?_
  repeat (go_big_quiet_step (first | (go_at_call 136; exact past_call (HM.out _)) | (go_at_call 135; exact past_call (HG2.out _ _ (by omega)))))
  refine wpQuiet_nil ?_
  intro _ hw'
  obtain ⟨sz, hw''⟩ := hw'
  subst hw''
  obtain ⟨w5, h9, e9⟩ : ∃ w5, Below w4.heap.size w4 w5 ∧ w5 = sz.val := ⟨_, sz.h, rfl⟩
  rw [← e9]
  have HB45 := Lib.hid h9
  have HX5 := Lib.hid (HX4.out.kept HB45.out)
  have HF5 := Lib.hid (HF4.out.next HB45.out)
  have HR5 := Lib.hid (HR4.out.below HB45.out)
  have HF15 := Lib.hid (HF14.out.next HB45.out)
  have HO5 : Hid (Fresh w3.heap.size w5 (.slice p4 k d4) bd) := Lib.hid (own_keep HO4.out HB45.out)
  clear h9 e9 HG2 HM
  have f5_0 := HX5.out.free 0
  have f5_1 := HX5.out.free 1
  have y5_0 := HX5.out.cell (j := 0) rfl
  have y5_1 := HX5.out.cell (j := 1) rfl
  by_cases hzy : z = y
  rotate_left
  · have HQ := Lib.hid (HD.out hzy)
    have t5 : ((y : Int) != (z : Int)) = true := by simp; omega
    have t6 : (y != z) = true := by simp; omega
    clear HD HE
    go_wp2
    refine ret_cell3 rfl rfl rfl ((HX5.out.set 0 (.int .u8 0)).set 1 (.slice none 0 0)) Tryz.underlying79 rfl (by kernel_rfl) ?_
    unfold RdF
    rw [HQ.out]
    exact ⟨(Frp.set (p := ⟨X, 1, none⟩) (Frp.set (p := ⟨X, 0, none⟩) HF5.out rfl _) rfl _).below (fun k hk => by rw [hk, HXX.out]; exact Nat.le_refl _) (Nat.le_refl _), fun _ => rfl, fun h9 => absurd h9 (by decide)⟩
  subst hzy
  have t5 : ((z : Int) != (z : Int)) = false := by simp
  have t6 : (z != z) = false := by simp
  have HQ := Lib.hid (HE.out rfl)
  rw [← HC0.out] at HQ
  clear HD HE
  have hb0 := HSS.out w5 HF15.out
  go_wp2
  refine ret_cell3 rfl rfl rfl ((HX5.out.set 0 (.int .u8 (c0.toNat : Int))).set 1 (.slice p4 k d4)) Tryz.underlying79 rfl (by kernel_rfl) ?_
  unfold RdF
  rw [HQ.out]
  exact ⟨(frp_setX (frp_setX HF5.out 0 _) 1 _).below (fun k hk => by rw [hk, HXX.out]; exact Nat.le_refl _) (Nat.le_refl _), fun h9 => absurd rfl h9, fun _ => ⟨_, (by rw [show ((12 + k : Nat) : Int) = (k : Int) + 12 by omega]; rfl), own_mono (own_frp HO5.out (frp_setX (frp_setX (Frp.refl _ w5) 0 _) 1 _) (fun g hg hX => own_ty HO5.out HX5.out (by decide) (by rw [← hX]; exact hg))) HF3.out.size⟩⟩
end Go.Proofs.YtopkfomlppnpeaaGreatDoor.Ms

namespace Go.Proofs.YtopkfomlppnpeaaGreatDoor.Ms
open Go.RowKit Go.Proofs.YtopkfomlppnpeaaGreatDoor

def OnF (b : List UInt8) (k : UInt8) (w : World) (e : Ending) (w' : World) : Prop := Below w.heap.size w w' ∧ ((opn b [k]).2.2 ≠ 0 → e = .returned (.tuple #[.slice none 0 0, .int .i64 ((opn b [k]).2.2 : Nat)])) ∧ ((opn b [k]).2.2 = 0 → ∃ vb, e = .returned (.tuple #[vb, .int .i64 0]) ∧ Fresh w.heap.size w' vb (opn b [k]).2.1 ∧ ∀ c, vb.ownBlock = some c → c + 1 < w'.heap.size)
set_option maxRecDepth 100000 in
set_option maxHeartbeats 2000000 in
theorem rone_any (v : Value) (b : List UInt8) (k : UInt8) (w : World) (h : Rd w v b) (hl : b.length ≤ 1000000000) : Calls Tryz.prog 97 #[v, .int .u8 (k.toNat : Int)] w (OnF b k w) := by
  obtain ⟨p, c, rfl⟩ := rd_slice h
  obtain ⟨n, hn⟩ : ∃ n, n = b.length := ⟨_, rfl⟩
  have HN := Lib.hid hn
  have HCR : Hid (Calls Tryz.prog 106 #[.slice p n c] w (RdF b w)) := Lib.hid (by rw [hn]; exact rfread_any _ b w h hl)
  rw [← hn] at hl ⊢
  clear h hn
  obtain ⟨kd, bd, len, er, hfr⟩ : ∃ kd bd len er, frd b = (kd, bd, len, er) := ⟨_, _, _, _, rfl⟩
  have HFR := Lib.hid hfr
  by_cases he : er = 0
  rotate_left
  · have HE0 : Hid (er ≠ 0) := Lib.hid he
    have HQ : Hid (opn b [k] = (0, [], er)) := Lib.hid (by unfold opn; rw [HFR.out, if_pos he])
    have HC2 : Hid (Calls Tryz.prog 106 #[.slice p n c] w fun e w' => e = .returned (.tuple #[.agg #[.int .u8 0, .slice none 0 0], .int .i64 0, .int .i64 er]) ∧ Below w.heap.size w w') := Lib.hid (HCR.out.mono fun e w' h9 => by unfold RdF at h9; rw [HFR.out] at h9; exact ⟨h9.2.1 he, h9.1⟩)
    have t0 : ((er : Int) != 0) = true := by simp; omega
    have t1 : (er != 0) = true := by simp; omega
    clear hfr HFR HCR he
    go_enter Tryz.func97, Tryz.ntmps97
    go_upto_region 2 with (go_at_call 106; refine HC2.out.mono ?_; rintro e w2 ⟨rfl, hb⟩; have HB2 := Lib.hid hb; clear hb)
    obtain ⟨w3, hw3⟩ : ∃ w3, w3 = w2.alloc (.cells #[.int .u8 0, .slice none 0 0] 79) := ⟨_, rfl⟩
    have HB3 : Hid (Below w.heap.size w w3) := Lib.hid (by rw [hw3]; exact below_and HB2.out (below_alloc _ _))
    rw [← hw3]
    clear hw3
    go_wp2
    go_ret2
    unfold OnF
    rw [HQ.out]
    exact ⟨HB3.out, fun _ => rfl, fun h9 => absurd h9 HE0.out⟩
  subst he
  obtain ⟨bn, hbn⟩ : ∃ bn, bn = bd.length := ⟨_, rfl⟩
  have HBN := Lib.hid hbn
  have HC2 : Hid (Calls Tryz.prog 106 #[.slice p n c] w fun e w' => ∃ p2 c2, e = .returned (.tuple #[.agg #[.int .u8 (kd.toNat : Int), .slice p2 bn c2], .int .i64 len, .int .i64 0]) ∧ Fresh w.heap.size w' (.slice p2 bn c2) bd ∧ Below w.heap.size w w') := Lib.hid (HCR.out.mono fun e w' h9 => by
    unfold RdF at h9
    rw [HFR.out] at h9
    obtain ⟨h1, -, h3⟩ := h9
    obtain ⟨vb, h4, h5⟩ := h3 rfl
    obtain ⟨p2, c2, rfl⟩ := fresh_slice h5
    rw [← hbn] at h4 h5
    exact ⟨p2, c2, h4, h5, h1⟩)
  clear hbn HCR hfr
  by_cases hnl : len = n
  rotate_left
  · have HQ : Hid (opn b [k] = (0, [], 5)) := Lib.hid (by unfold opn; rw [HFR.out, if_neg (by simp), if_pos (.inl (by rw [← HN.out]; exact hnl))])
    have t3 : ((len : Int) != (n : Int)) = true := by simp; omega
    have t4 : (len != n) = true := by simp; omega
    go_enter Tryz.func97, Tryz.ntmps97
    go_upto_region 2 with (go_at_call 106; refine HC2.out.mono ?_; rintro e w2 ⟨p2, c2, rfl, hfs, hb⟩; have HB2 := Lib.hid hb; have HO2 := Lib.hid hfs; clear hb hfs)
    obtain ⟨Y, hY⟩ : ∃ Y, Y = w2.heap.size := ⟨_, rfl⟩
    obtain ⟨w3, hw3⟩ : ∃ w3, w3 = w2.alloc (.cells #[.int .u8 (kd.toNat : Int), .slice p2 bn c2] 79) := ⟨_, rfl⟩
    have HY3 : Hid (Blk w3 Y [.int .u8 (kd.toNat : Int), .slice p2 bn c2] 79) := Lib.hid (by rw [hw3, hY]; exact Blk.made w2 [_, _] _)
    have HB3 : Hid (Below w.heap.size w w3) := Lib.hid (by rw [hw3]; exact below_and HB2.out (below_alloc _ _))
    have HO3 : Hid (Fresh w.heap.size w3 (.slice p2 bn c2) bd) := Lib.hid (by rw [hw3]; exact own_keep HO2.out (below_alloc _ _))
    have HOH : Hid (∀ g, (Value.slice p2 bn c2).ownBlock = some g → g + 1 < w3.heap.size) := Lib.hid (by intro g hg; have h9 := own_hi HO2.out hg; rw [hw3]; simp; omega)
    rw [← hw3, ← hY]
    clear hw3 hY
    have y0 := HY3.out.cell (j := 0) rfl
    have y1 := HY3.out.cell (j := 1) rfl
    go_wp2
    go_ret2
    unfold OnF
    rw [HQ.out]
    exact ⟨HB3.out, fun _ => rfl, fun h9 => absurd h9 (by decide)⟩
  have HLN : Hid (len = b.length) := Lib.hid (by rw [hnl]; exact HN.out)
  have t3 : ((len : Int) != (n : Int)) = false := by simp; omega
  have t4 : (len != n) = false := by simp; omega
  subst hnl
  by_cases hkk : kd = k
  rotate_left
  · have HQ : Hid (opn b [k] = (0, [], 5)) := Lib.hid (by unfold opn; rw [HFR.out, if_neg (by simp), if_pos (.inr (by simp; exact fun e => hkk e.symm))])
    have t5 : ((kd.toNat : Int) != (k.toNat : Int)) = true := by
      rw [bne_iff_ne]
      intro e
      exact hkk (UInt8.toNat_inj.1 (by omega))
    have t6 : (kd.toNat != k.toNat) = true := by
      rw [bne_iff_ne]
      intro e
      exact hkk (UInt8.toNat_inj.1 e)
    go_enter Tryz.func97, Tryz.ntmps97
    go_upto_region 2 with (go_at_call 106; refine HC2.out.mono ?_; rintro e w2 ⟨p2, c2, rfl, hfs, hb⟩; have HB2 := Lib.hid hb; have HO2 := Lib.hid hfs; clear hb hfs)
    obtain ⟨Y, hY⟩ : ∃ Y, Y = w2.heap.size := ⟨_, rfl⟩
    obtain ⟨w3, hw3⟩ : ∃ w3, w3 = w2.alloc (.cells #[.int .u8 (kd.toNat : Int), .slice p2 bn c2] 79) := ⟨_, rfl⟩
    have HY3 : Hid (Blk w3 Y [.int .u8 (kd.toNat : Int), .slice p2 bn c2] 79) := Lib.hid (by rw [hw3, hY]; exact Blk.made w2 [_, _] _)
    have HB3 : Hid (Below w.heap.size w w3) := Lib.hid (by rw [hw3]; exact below_and HB2.out (below_alloc _ _))
    have HO3 : Hid (Fresh w.heap.size w3 (.slice p2 bn c2) bd) := Lib.hid (by rw [hw3]; exact own_keep HO2.out (below_alloc _ _))
    have HOH : Hid (∀ g, (Value.slice p2 bn c2).ownBlock = some g → g + 1 < w3.heap.size) := Lib.hid (by intro g hg; have h9 := own_hi HO2.out hg; rw [hw3]; simp; omega)
    rw [← hw3, ← hY]
    clear hw3 hY
    have y0 := HY3.out.cell (j := 0) rfl
    have y1 := HY3.out.cell (j := 1) rfl
    go_wp2
    go_ret2
    unfold OnF
    rw [HQ.out]
    exact ⟨HB3.out, fun _ => rfl, fun h9 => absurd h9 (by decide)⟩
  subst hkk
  have HQ : Hid (opn b [kd] = (kd, bd, 0)) := Lib.hid (by unfold opn; rw [HFR.out, if_neg (by simp), if_neg (by rw [← HLN.out]; simp)])
  have t5 : ((kd.toNat : Int) != (kd.toNat : Int)) = false := by simp
  have t6 : (kd.toNat != kd.toNat) = false := by simp
  go_enter Tryz.func97, Tryz.ntmps97
  go_upto_region 2 with (go_at_call 106; refine HC2.out.mono ?_; rintro e w2 ⟨p2, c2, rfl, hfs, hb⟩; have HB2 := Lib.hid hb; have HO2 := Lib.hid hfs; clear hb hfs)
  obtain ⟨Y, hY⟩ : ∃ Y, Y = w2.heap.size := ⟨_, rfl⟩
  obtain ⟨w3, hw3⟩ : ∃ w3, w3 = w2.alloc (.cells #[.int .u8 (kd.toNat : Int), .slice p2 bn c2] 79) := ⟨_, rfl⟩
  have HY3 : Hid (Blk w3 Y [.int .u8 (kd.toNat : Int), .slice p2 bn c2] 79) := Lib.hid (by rw [hw3, hY]; exact Blk.made w2 [_, _] _)
  have HB3 : Hid (Below w.heap.size w w3) := Lib.hid (by rw [hw3]; exact below_and HB2.out (below_alloc _ _))
  have HO3 : Hid (Fresh w.heap.size w3 (.slice p2 bn c2) bd) := Lib.hid (by rw [hw3]; exact own_keep HO2.out (below_alloc _ _))
  have HOH : Hid (∀ g, (Value.slice p2 bn c2).ownBlock = some g → g + 1 < w3.heap.size) := Lib.hid (by intro g hg; have h9 := own_hi HO2.out hg; rw [hw3]; simp; omega)
  rw [← hw3, ← hY]
  clear hw3 hY
  have y0 := HY3.out.cell (j := 0) rfl
  have y1 := HY3.out.cell (j := 1) rfl
  go_wp2
  go_ret2
  unfold OnF
  rw [HQ.out]
  exact ⟨HB3.out, fun h9 => absurd rfl h9, fun _ => ⟨_, rfl, HO3.out, HOH.out⟩⟩
set_option maxRecDepth 100000 in
set_option maxHeartbeats 2000000 in
theorem rkind_any (v : Value) (b : List UInt8) (w : World) (h : Rd w v b) (hl : b.length ≤ 1000000000) : Calls Tryz.prog 24 #[v] w fun e w' => e = .returned (.tuple #[.int .u8 ((opn b [3, 4]).1.toNat : Nat), .int .i64 ((opn b [3, 4]).2.2 : Nat)]) ∧ Below w.heap.size w w' := by
  obtain ⟨p, c, rfl⟩ := rd_slice h
  obtain ⟨n, hn⟩ : ∃ n, n = b.length := ⟨_, rfl⟩
  have HN := Lib.hid hn
  have HCR : Hid (Calls Tryz.prog 106 #[.slice p n c] w (RdF b w)) := Lib.hid (by rw [hn]; exact rfread_any _ b w h hl)
  rw [← hn] at hl ⊢
  clear h hn
  obtain ⟨kd, bd, len, er, hfr⟩ : ∃ kd bd len er, frd b = (kd, bd, len, er) := ⟨_, _, _, _, rfl⟩
  have HFR := Lib.hid hfr
  by_cases he : er = 0
  rotate_left
  · have HQ : Hid (opn b [3, 4] = (0, [], er)) := Lib.hid (by unfold opn; rw [HFR.out, if_pos he])
    have HC2 : Hid (Calls Tryz.prog 106 #[.slice p n c] w fun e w' => e = .returned (.tuple #[.agg #[.int .u8 0, .slice none 0 0], .int .i64 0, .int .i64 er]) ∧ Below w.heap.size w w') := Lib.hid (HCR.out.mono fun e w' h9 => by unfold RdF at h9; rw [HFR.out] at h9; exact ⟨h9.2.1 he, h9.1⟩)
    have t0 : ((er : Int) != 0) = true := by simp; omega
    have t1 : (er != 0) = true := by simp; omega
    clear hfr HFR HCR he
    go_enter Tryz.func24, Tryz.ntmps24
    go_upto_region 2 with (go_at_call 106; refine HC2.out.mono ?_; rintro e w2 ⟨rfl, hb⟩; have HB2 := Lib.hid hb; clear hb)
    obtain ⟨w3, hw3⟩ : ∃ w3, w3 = w2.alloc (.cells #[.int .u8 0, .slice none 0 0] 79) := ⟨_, rfl⟩
    have HB3 : Hid (Below w.heap.size w w3) := Lib.hid (by rw [hw3]; exact below_and HB2.out (below_alloc _ _))
    rw [← hw3]
    clear hw3
    go_wp2
    go_ret2
    rw [HQ.out]
    exact ⟨rfl, HB3.out⟩
  subst he
  obtain ⟨bn, hbn⟩ : ∃ bn, bn = bd.length := ⟨_, rfl⟩
  have HBN := Lib.hid hbn
  have HC2 : Hid (Calls Tryz.prog 106 #[.slice p n c] w fun e w' => ∃ p2 c2, e = .returned (.tuple #[.agg #[.int .u8 (kd.toNat : Int), .slice p2 bn c2], .int .i64 len, .int .i64 0]) ∧ Fresh w.heap.size w' (.slice p2 bn c2) bd ∧ Below w.heap.size w w') := Lib.hid (HCR.out.mono fun e w' h9 => by
    unfold RdF at h9
    rw [HFR.out] at h9
    obtain ⟨h1, -, h3⟩ := h9
    obtain ⟨vb, h4, h5⟩ := h3 rfl
    obtain ⟨p2, c2, rfl⟩ := fresh_slice h5
    rw [← hbn] at h4 h5
    exact ⟨p2, c2, h4, h5, h1⟩)
  clear hbn HCR hfr
  by_cases hnl : len = n
  rotate_left
  · have HQ : Hid (opn b [3, 4] = (0, [], 5)) := Lib.hid (by unfold opn; rw [HFR.out, if_neg (by simp), if_pos (.inl (by rw [← HN.out]; exact hnl))])
    have t3 : ((len : Int) != (n : Int)) = true := by simp; omega
    have t4 : (len != n) = true := by simp; omega
    go_enter Tryz.func24, Tryz.ntmps24
    go_upto_region 2 with (go_at_call 106; refine HC2.out.mono ?_; rintro e w2 ⟨p2, c2, rfl, hfs, hb⟩; have HB2 := Lib.hid hb; have HO2 := Lib.hid hfs; clear hb hfs)
    obtain ⟨Y, hY⟩ : ∃ Y, Y = w2.heap.size := ⟨_, rfl⟩
    obtain ⟨w3, hw3⟩ : ∃ w3, w3 = w2.alloc (.cells #[.int .u8 (kd.toNat : Int), .slice p2 bn c2] 79) := ⟨_, rfl⟩
    have HY3 : Hid (Blk w3 Y [.int .u8 (kd.toNat : Int), .slice p2 bn c2] 79) := Lib.hid (by rw [hw3, hY]; exact Blk.made w2 [_, _] _)
    have HB3 : Hid (Below w.heap.size w w3) := Lib.hid (by rw [hw3]; exact below_and HB2.out (below_alloc _ _))
    have HO3 : Hid (Fresh w.heap.size w3 (.slice p2 bn c2) bd) := Lib.hid (by rw [hw3]; exact own_keep HO2.out (below_alloc _ _))
    have HOH : Hid (∀ g, (Value.slice p2 bn c2).ownBlock = some g → g + 1 < w3.heap.size) := Lib.hid (by intro g hg; have h9 := own_hi HO2.out hg; rw [hw3]; simp; omega)
    rw [← hw3, ← hY]
    clear hw3 hY
    have y0 := HY3.out.cell (j := 0) rfl
    have y1 := HY3.out.cell (j := 1) rfl
    go_wp2
    go_ret2
    rw [HQ.out]
    exact ⟨rfl, HB3.out⟩
  have HLN : Hid (len = b.length) := Lib.hid (by rw [hnl]; exact HN.out)
  have t3 : ((len : Int) != (n : Int)) = false := by simp; omega
  have t4 : (len != n) = false := by simp; omega
  subst hnl
  by_cases hk3 : kd = 3
  · have HQ : Hid (opn b [3, 4] = (3, bd, 0)) := Lib.hid (by unfold opn; rw [HFR.out, hk3, if_neg (by simp), if_neg (by rw [← HLN.out]; simp)])
    have t5 : (kd.toNat : Int) = 3 := by rw [hk3]; rfl
    rw [t5] at HC2
    clear t5 hk3
    go_enter Tryz.func24, Tryz.ntmps24
    go_upto_region 2 with (go_at_call 106; refine HC2.out.mono ?_; rintro e w2 ⟨p2, c2, rfl, hfs, hb⟩; have HB2 := Lib.hid hb; have HO2 := Lib.hid hfs; clear hb hfs)
    obtain ⟨Y, hY⟩ : ∃ Y, Y = w2.heap.size := ⟨_, rfl⟩
    obtain ⟨w3, hw3⟩ : ∃ w3, w3 = w2.alloc (.cells #[.int .u8 3, .slice p2 bn c2] 79) := ⟨_, rfl⟩
    have HY3 : Hid (Blk w3 Y [.int .u8 3, .slice p2 bn c2] 79) := Lib.hid (by rw [hw3, hY]; exact Blk.made w2 [_, _] _)
    have HB3 : Hid (Below w.heap.size w w3) := Lib.hid (by rw [hw3]; exact below_and HB2.out (below_alloc _ _))
    have HO3 : Hid (Fresh w.heap.size w3 (.slice p2 bn c2) bd) := Lib.hid (by rw [hw3]; exact own_keep HO2.out (below_alloc _ _))
    have HOH : Hid (∀ g, (Value.slice p2 bn c2).ownBlock = some g → g + 1 < w3.heap.size) := Lib.hid (by intro g hg; have h9 := own_hi HO2.out hg; rw [hw3]; simp; omega)
    rw [← hw3, ← hY]
    clear hw3 hY
    have y0 := HY3.out.cell (j := 0) rfl
    have y1 := HY3.out.cell (j := 1) rfl
    go_wp2
    go_ret2
    rw [HQ.out]
    exact ⟨rfl, HB3.out⟩
  by_cases hk4 : kd = 4
  · have HQ : Hid (opn b [3, 4] = (4, bd, 0)) := Lib.hid (by unfold opn; rw [HFR.out, hk4, if_neg (by simp), if_neg (by rw [← HLN.out]; simp)])
    have t5 : (kd.toNat : Int) = 4 := by rw [hk4]; rfl
    rw [t5] at HC2
    clear t5 hk4 hk3
    go_enter Tryz.func24, Tryz.ntmps24
    go_upto_region 2 with (go_at_call 106; refine HC2.out.mono ?_; rintro e w2 ⟨p2, c2, rfl, hfs, hb⟩; have HB2 := Lib.hid hb; have HO2 := Lib.hid hfs; clear hb hfs)
    obtain ⟨Y, hY⟩ : ∃ Y, Y = w2.heap.size := ⟨_, rfl⟩
    obtain ⟨w3, hw3⟩ : ∃ w3, w3 = w2.alloc (.cells #[.int .u8 4, .slice p2 bn c2] 79) := ⟨_, rfl⟩
    have HY3 : Hid (Blk w3 Y [.int .u8 4, .slice p2 bn c2] 79) := Lib.hid (by rw [hw3, hY]; exact Blk.made w2 [_, _] _)
    have HB3 : Hid (Below w.heap.size w w3) := Lib.hid (by rw [hw3]; exact below_and HB2.out (below_alloc _ _))
    have HO3 : Hid (Fresh w.heap.size w3 (.slice p2 bn c2) bd) := Lib.hid (by rw [hw3]; exact own_keep HO2.out (below_alloc _ _))
    have HOH : Hid (∀ g, (Value.slice p2 bn c2).ownBlock = some g → g + 1 < w3.heap.size) := Lib.hid (by intro g hg; have h9 := own_hi HO2.out hg; rw [hw3]; simp; omega)
    rw [← hw3, ← hY]
    clear hw3 hY
    have y0 := HY3.out.cell (j := 0) rfl
    have y1 := HY3.out.cell (j := 1) rfl
    go_wp2
    go_ret2
    rw [HQ.out]
    exact ⟨rfl, HB3.out⟩
  have HQ : Hid (opn b [3, 4] = (0, [], 5)) := Lib.hid (by unfold opn; rw [HFR.out, if_neg (by simp), if_pos (.inr (by simp; exact ⟨fun e => hk3 e.symm, fun e => hk4 e.symm⟩))])
  have t5 : ((kd.toNat : Int) != 3) = true := by
    rw [bne_iff_ne]
    intro e
    exact hk3 (UInt8.toNat_inj.1 (show kd.toNat = 3 by omega))
  have t6 : ((kd.toNat : Int) != 4) = true := by
    rw [bne_iff_ne]
    intro e
    exact hk4 (UInt8.toNat_inj.1 (show kd.toNat = 4 by omega))
  go_enter Tryz.func24, Tryz.ntmps24
  go_upto_region 2 with (go_at_call 106; refine HC2.out.mono ?_; rintro e w2 ⟨p2, c2, rfl, hfs, hb⟩; have HB2 := Lib.hid hb; have HO2 := Lib.hid hfs; clear hb hfs)
  obtain ⟨Y, hY⟩ : ∃ Y, Y = w2.heap.size := ⟨_, rfl⟩
  obtain ⟨w3, hw3⟩ : ∃ w3, w3 = w2.alloc (.cells #[.int .u8 (kd.toNat : Int), .slice p2 bn c2] 79) := ⟨_, rfl⟩
  have HY3 : Hid (Blk w3 Y [.int .u8 (kd.toNat : Int), .slice p2 bn c2] 79) := Lib.hid (by rw [hw3, hY]; exact Blk.made w2 [_, _] _)
  have HB3 : Hid (Below w.heap.size w w3) := Lib.hid (by rw [hw3]; exact below_and HB2.out (below_alloc _ _))
  have HO3 : Hid (Fresh w.heap.size w3 (.slice p2 bn c2) bd) := Lib.hid (by rw [hw3]; exact own_keep HO2.out (below_alloc _ _))
  have HOH : Hid (∀ g, (Value.slice p2 bn c2).ownBlock = some g → g + 1 < w3.heap.size) := Lib.hid (by intro g hg; have h9 := own_hi HO2.out hg; rw [hw3]; simp; omega)
  rw [← hw3, ← hY]
  clear hw3 hY
  have y0 := HY3.out.cell (j := 0) rfl
  have y1 := HY3.out.cell (j := 1) rfl
  go_wp2
  go_ret2
  rw [HQ.out]
  exact ⟨rfl, HB3.out⟩
end Go.Proofs.YtopkfomlppnpeaaGreatDoor.Ms
