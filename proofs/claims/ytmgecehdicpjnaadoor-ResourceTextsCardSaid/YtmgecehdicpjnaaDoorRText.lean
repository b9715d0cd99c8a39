/- The document's Text. -/
import Derived.Test.YtmgecehdicpjnaaDoorRPart
namespace Go.Proofs.YtmgecehdicpjnaaDoor
open Go.RowKit

theorem rtx_len {x : Am} (hx : x.okB = true) : ∀ k, k ≤ 4 → (rtx x k).size ≤ 41 * k
  | 0, _ => Nat.le_refl _
  | k + 1, hk => by
    have ih := rtx_len hx k (by omega)
    have h1 := part_le hx (k := k) (by omega)
    have h2 : (partB x k).data.toList.length = (partB x k).size := by simp
    unfold rtx
    split
    · omega
    · rw [ByteArray.size_append]
      split
      · have : (ByteArray.empty : ByteArray).size = 0 := rfl
        omega
      · rw [ByteArray.size_append]
        have : (⟨#[32]⟩ : ByteArray).size = 1 := rfl
        omega

set_option maxRecDepth 100000 in
set_option maxHeartbeats 1000000 in
theorem rtext_bad (x : Am) (w : World) (hx : x.okB = false) :
    Calls Tryd.prog 11 #[amV x] w fun e w' => e = .returned (.tuple #[.string ⟨#[]⟩, .int .i64 2]) ∧ Below w.heap.size w w' := by
  have HA := Lib.hid hx
  obtain ⟨w3, hw3⟩ : ∃ w3, w3 = w.alloc (.cells #[.int .i64 x.c, .int .i64 x.r, .int .i64 x.d, .int .i64 x.p] 23) := ⟨_, rfl⟩
  obtain ⟨B, hB⟩ : ∃ B, B = w.heap.size := ⟨_, rfl⟩
  have B0 : Hid (Blk w3 B (amC x) 23) := Lib.hid (by rw [hw3, hB]; exact Blk.made w (amC x) _)
  have HBL : Hid (Below w.heap.size w w3) := Lib.hid (by rw [hw3]; exact below_alloc w _)
  have c0 := B0.out.cell (j := 0) rfl
  have c1 := B0.out.cell (j := 1) rfl
  have c2 := B0.out.cell (j := 2) rfl
  have c3 := B0.out.cell (j := 3) rfl
  clear hx
  go_enter Tryd.func11, Tryd.ntmps11
  go_upto_region 1 with fail
  rw [← hw3, ← hB]
  clear hw3 hB
  go_wp2_with (go_at_call 37; refine (wrong_one w3 x).mono ?_; rw [HA.out]; rintro e ws ⟨rfl, hb⟩; have HBS := Lib.hid (below_and HBL.out hb); clear hb)
  go_ret2
  exact ⟨rfl, HBS.out⟩

set_option maxRecDepth 100000 in
set_option maxHeartbeats 2000000 in
theorem rtext_good (x : Am) (w : World) (hx : x.okB = true) :
    Calls Tryd.prog 11 #[amV x] w fun e w' => e = .returned (.tuple #[.string ⟨(textS x).toArray⟩, .int .i64 0]) ∧ Below w.heap.size w w' := by
  have HA := Lib.hid hx
  obtain ⟨w3, hw3⟩ : ∃ w3, w3 = w.alloc (.cells #[.int .i64 x.c, .int .i64 x.r, .int .i64 x.d, .int .i64 x.p] 23) := ⟨_, rfl⟩
  obtain ⟨B, hB⟩ : ∃ B, B = w.heap.size := ⟨_, rfl⟩
  have B0 : Hid (Blk w3 B (amC x) 23) := Lib.hid (by rw [hw3, hB]; exact Blk.made w (amC x) _)
  have HBL : Hid (Below w.heap.size w w3) := Lib.hid (by rw [hw3]; exact below_alloc w _)
  have c0 := B0.out.cell (j := 0) rfl
  have c1 := B0.out.cell (j := 1) rfl
  have c2 := B0.out.cell (j := 2) rfl
  have c3 := B0.out.cell (j := 3) rfl
  clear hx
  go_enter Tryd.func11, Tryd.ntmps11
  go_upto_region 1 with fail
  rw [← hw3, ← hB]
  clear hw3 hB
  go_wp2_with (first
    | (go_at_call 37; refine (wrong_one w3 x).mono ?_; rw [HA.out]; rintro e ws ⟨rfl, hb⟩; have hb0 := B0.out.kept hb; have HBS := Lib.hid (below_and HBL.out hb); clear c0 c1 c2 c3; have c0 := hb0.cell (j := 0) rfl; have c1 := hb0.cell (j := 1) rfl; have c2 := hb0.cell (j := 2) rfl; have c3 := hb0.cell (j := 3) rfl; clear hb hb0)
    | (go_at_call 38; refine (four_any x _).mono ?_; rintro e wa ⟨g, rfl, -, hg, hb⟩; have HG := Lib.hid hg; have HBa := Lib.hid (below_and HBS.out hb); clear hb hg c0 c1 c2 c3))
  go_loopw [4, 6] (fun s i wc => ∃ k : Nat, k ≤ 4 ∧ i = .int .i64 (k : Int) ∧ s = .string (rtx x k) ∧ Hid (Below wa.heap.size wa wc)) (fun _ i _ => 4 - (intOf i).toNat)
  case atStart => exact ⟨0, Nat.zero_le _, rfl, rfl, Lib.hid (Below.refl _ _)⟩
  case round =>
    obtain ⟨k, hk, rfl, rfl, HB⟩ := hrel
    by_cases hlt : k < 4
    · have i0 : (0 : Int) ≤ (k : Int) := by omega
      have i1 : (k : Int) < 4 := by omega
      have HGR := Lib.hid (HG.out.kept HB.out)
      have hcx := HGR.out.cell (amC_get x hlt)
      obtain ⟨p, hp⟩ : ∃ p, p = x.get k := ⟨_, rfl⟩
      have p0 : 0 ≤ p ∧ p ≤ 1099511627776 := by rw [hp]; exact ok_get HA.out hlt
      obtain ⟨p1, p2⟩ := p0
      rw [← hp] at hcx
      have HP := Lib.hid hp
      by_cases hz : p = 0
      · have HT : Hid (rtx x (k + 1) = rtx x k) := Lib.hid (by show (if x.get k = 0 then _ else _) = _; rw [if_pos (by omega)])
        have e0 : (p == 0) = true := by simpa using hz
        obtain ⟨T, hT⟩ : ∃ T, T = rtx x k := ⟨_, rfl⟩
        rw [← hT]
        have HTT := Lib.hid hT
        clear hz hp hT
        go_wp2
        go_roundw
        case rel => exact ⟨k + 1, by omega, by go_num, by rw [HT.out, HTT.out], HB⟩
        case measure => simp [intOf]; omega
      · have e0 : (p == 0) = false := by simpa using hz
        have hnl := nmS_size k
        have hrl := rtx_len HA.out k (by omega)
        obtain ⟨nm, hnm⟩ : ∃ nm, nm = nmS k := ⟨_, rfl⟩
        rw [← hnm] at hnl
        obtain ⟨T, hT⟩ : ∃ T, T = rtx x k := ⟨_, rfl⟩
        rw [← hT] at hrl ⊢
        obtain ⟨u, hu⟩ : ∃ u : Nat, p = (u : Int) := ⟨p.toNat, by omega⟩
        obtain ⟨D, hD⟩ : ∃ D : ByteArray, D = ⟨(Lib.decDigits u).toArray⟩ := ⟨_, rfl⟩
        have hDl : D.size ≤ 21 := by rw [hD]; show (Lib.decDigits u).toArray.size ≤ 21; simpa using dec_len u (by omega)
        obtain ⟨S1, hS1⟩ : ∃ S1 : ByteArray, S1 = if T = ByteArray.empty then ByteArray.empty else T ++ ⟨#[32]⟩ := ⟨_, rfl⟩
        have hs1 : S1.size ≤ 170 := by
          rw [hS1]
          split
          · show 0 ≤ 170; omega
          · rw [ByteArray.size_append]; show T.size + 1 ≤ _; omega
        obtain ⟨S2, hS2⟩ : ∃ S2 : ByteArray, S2 = S1 ++ nm := ⟨_, rfl⟩
        have hs2 : S2.size ≤ 175 := by rw [hS2, ByteArray.size_append]; omega
        obtain ⟨S3, hS3⟩ : ∃ S3 : ByteArray, S3 = S2 ++ ⟨#[61]⟩ := ⟨_, rfl⟩
        have hs3 : S3.size ≤ 176 := by rw [hS3, ByteArray.size_append]; show S2.size + 1 ≤ _; omega
        have HT : Hid (rtx x (k + 1) = S3 ++ D) := Lib.hid (by
          show (if x.get k = 0 then _ else _) = _
          rw [if_neg (by omega), ← hT, ← hS1, hS3, hS2, hnm, hD]
          unfold partB
          rw [← hp, hu, Lib.itoa_nonneg]
          rw [ByteArray.append_assoc, ByteArray.append_assoc, ByteArray.append_assoc]
          )
        have hadd2 : ∀ w, (Op.stringOp .add S1 nm).run Tryd.prog w = .ok (.string S2) w := fun w => by
          rw [hS2]; exact run_string_add_sum w S1 nm (by omega)
        have hadd3 : ∀ w, (Op.stringOp .add S2 ⟨#[61]⟩).run Tryd.prog w = .ok (.string S3) w := fun w => by
          rw [hS3]; exact run_string_add_sum w S2 ⟨#[61]⟩ (by show S2.size + 1 ≤ _; omega)
        have hadd4 : ∀ w, (Op.stringOp .add S3 D).run Tryd.prog w = .ok (.string (S3 ++ D)) w := fun w =>
          run_string_add_sum w S3 D (by omega)
        have HDG : Hid (∀ w, Calls Tryd.prog 40 #[.int .i64 p] w fun e w' => e = .returned (.string D) ∧ Below w.heap.size w w') := Lib.hid (fun w => by rw [hu, hD]; exact rdigits_any u (by omega) w)
        have HNM := Lib.hid hnm
        have HTT := Lib.hid hT
        have HBq : Hid (Below wa.heap.size wa wr.drew) := Lib.hid (bl_drew HB.out)
        have hcq := cell_kept hcx (below_drewN 1)
        by_cases hte : T = ByteArray.empty
        · have HS1 : S1 = T := by rw [hS1, if_pos hte, hte]
          subst HS1
          have t1 : S1.toList.isEmpty = true := by rw [Lib.toList_data, hte]; rfl
          have t2 : S1.toList = [] := by rw [Lib.toList_data, hte]; rfl
          clear hnm hp hT hu hD hS1 hS2 hS3 hte hz
          go_wp2
          go_region_with (first
            | (go_at_call 39; refine (keys_any _).mono ?_; rintro e w1 ⟨g2, rfl, -, hg2, hb⟩; have hc2 := hg2.cell (keysC_get hlt); rw [← HNM.out] at hc2; have hcr := cell_kept hcq hb; have HBn := Lib.hid (below_and HBq.out hb); clear HBq hcq; have HBq := HBn; have hcq := hcr; clear HBn hcr hg2 hb)
            | (go_at_call 40; refine (HDG.out _).mono ?_; rintro e w1 ⟨rfl, hb⟩; (try (have hc3 := cell_kept hc2 hb)); have hcr := cell_kept hcq hb; have HBn := Lib.hid (below_and HBq.out hb); clear HBq hcq; have HBq := HBn; have hcq := hcr; clear HBn hcr hb))
          all_goals go_wp2
          all_goals go_roundw
          all_goals first
            | (case rel => exact ⟨k + 1, by omega, by go_num, by rw [HT.out], HBq⟩)
            | (case measure => simp [intOf]; omega)
        · have t1 : T.toList.isEmpty = false := by
            rw [Lib.toList_data]
            cases h : T.data.toList with
            | nil => exact absurd (ba_ext (by rw [h]; rfl)) hte
            | cons => rfl
          have t2 : ¬ T.toList = [] := by simpa using t1
          rw [if_neg hte] at hS1
          have hadd1 : ∀ w, (Op.stringOp .add T ⟨#[32]⟩).run Tryd.prog w = .ok (.string S1) w := fun w => by
            rw [hS1]; exact run_string_add_sum w T ⟨#[32]⟩ (by show T.size + 1 ≤ _; omega)
          clear hnm hp hT hu hD hS1 hS2 hS3 hte hz
          go_wp2
          go_region_with (first
            | (go_at_call 39; refine (keys_any _).mono ?_; rintro e w1 ⟨g2, rfl, -, hg2, hb⟩; have hc2 := hg2.cell (keysC_get hlt); rw [← HNM.out] at hc2; have hcr := cell_kept hcq hb; have HBn := Lib.hid (below_and HBq.out hb); clear HBq hcq; have HBq := HBn; have hcq := hcr; clear HBn hcr hg2 hb)
            | (go_at_call 40; refine (HDG.out _).mono ?_; rintro e w1 ⟨rfl, hb⟩; (try (have hc3 := cell_kept hc2 hb)); have hcr := cell_kept hcq hb; have HBn := Lib.hid (below_and HBq.out hb); clear HBq hcq; have HBq := HBn; have hcq := hcr; clear HBn hcr hb))
          all_goals go_wp2
          all_goals go_roundw
          all_goals first
            | (case rel => exact ⟨k + 1, by omega, by go_num, by rw [HT.out], HBq⟩)
            | (case measure => simp [intOf]; omega)
    · obtain rfl : k = 4 := by omega
      have HX := Lib.hid (rtx_text HA.out)
      obtain ⟨T, hT⟩ : ∃ T, T = rtx x 4 := ⟨_, rfl⟩
      rw [← hT]
      rw [← hT] at HX
      have HBE := Lib.hid (below_and HBa.out HB.out)
      clear hT
      by_cases hte : T = ByteArray.empty
      · have t1 : T.toList.isEmpty = true := by rw [Lib.toList_data, hte]; rfl
        have t2 : T.toList = [] := by rw [Lib.toList_data, hte]; rfl
        have HE : Hid (textS x = [110, 111, 110, 101]) := Lib.hid (by rw [HX.out, if_pos hte])
        clear hte
        go_wp2
        go_ret2
        exact ⟨by rw [HE.out]; rfl, HBE.out⟩
      · have t1 : T.toList.isEmpty = false := by
          rw [Lib.toList_data]
          cases h : T.data.toList with
          | nil => exact absurd (ba_ext (by rw [h]; rfl)) hte
          | cons => rfl
        have t2 : ¬ T.toList = [] := by simpa using t1
        have HE : Hid (T = ⟨(textS x).toArray⟩) := Lib.hid (by rw [HX.out, if_neg hte])
        clear hte
        go_wp2
        go_ret2
        exact ⟨by rw [← HE.out]; rfl, HBE.out⟩
/-- what the document's Text answers -/
theorem rtext_any (x : Am) (w : World) : Calls Tryd.prog 11 #[amV x] w fun e w' => e = .returned (.tuple #[.string (if x.okB then ⟨(textS x).toArray⟩ else ⟨#[]⟩), .int .i64 (if x.okB then 0 else 2)]) ∧ Below w.heap.size w w' := by
  cases h : x.okB
  · exact rtext_bad x w h
  · exact rtext_good x w h
end Go.Proofs.YtmgecehdicpjnaaDoor
