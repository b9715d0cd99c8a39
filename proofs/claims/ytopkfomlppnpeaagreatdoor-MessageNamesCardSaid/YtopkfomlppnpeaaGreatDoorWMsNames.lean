/- WMsNames. -/
import Derived.Test.YtopkfomlppnpeaaGreatDoorMsLives
namespace Go.Proofs.YtopkfomlppnpeaaGreatDoor.Ms
open Go.RowKit Go.Proofs.YtopkfomlppnpeaaGreatDoor

def pl2 : Po := ⟨1, 0, 0, 0, 5, [], [], [], 0⟩
def el3 : El := ⟨[119, 101, 98], 0, 0, ⟨1, 0, 0, 0⟩, [], 0, 0⟩
def pl3 : Po := ⟨1, 1, 0, 0, 5, [], [el3], [], 0⟩
theorem chk2 : checkP pl2 = false := by kernel_rfl
theorem chk3 : checkP pl3 = false := by kernel_rfl
theorem bp1_20 : bp1[20]? = some 60 := by kernel_rfl
theorem rr1 : (readR bp1).2 = 5 := by kernel_rfl
theorem rr2 : (readR (bp1.take 9)).2 = 4 := by kernel_rfl
theorem rr3 : (readR (bp1.set 20 61)).2 = 5 := by kernel_rfl
theorem pow2 (w : World) : PoW w pl2 (.slice none 0 0) (.slice none 0 0) (.slice none 0 0) := ⟨fun x hx => by simp [pl2] at hx, fun x hx => by simp [pl2] at hx, fun x hx => by simp [pl2] at hx, by unfold u64B i64B pl2; simp, row_nil w 5, row_nil w 8, row_nil w 3, fun x hx => by simp [pl2] at hx, fun x hx => by simp [pl2] at hx, fun x hx => by simp [pl2] at hx⟩
theorem row3 {w : World} {g : Nat} (h : Blk w g (staC el3) 39) : Row w (.slice (some ⟨g, 0, none⟩) 1 1) 8 1 (rwC staC [el3]) := by
  refine ⟨some ⟨g, 0, none⟩, 1, rfl, Nat.le_refl _, by unfold maxLen; omega, rfl, rwC_one (fun u => by intro v hv; simp at hv; rcases hv with rfl | rfl | rfl | rfl | rfl | rfl | rfl | rfl <;> rfl) _, by simp, .inr ⟨g, 0, rfl, fun j u hj => ?_⟩⟩
  rw [Nat.zero_add]
  rw [rwC_cons, rwC_nil, List.append_nil] at hj
  exact h.cell hj
theorem pow3 {w : World} {g : Nat} (h : Blk w g (staC el3) 39) : PoW w pl3 (.slice none 0 0) (.slice (some ⟨g, 0, none⟩) 1 1) (.slice none 0 0) := by
  have h1 : ∀ x ∈ pl3.T, x = el3 := fun x hx => by simpa [pl3] using hx
  exact ⟨fun x hx => by simp [pl3] at hx, fun x hx => by rw [h1 x hx]; exact ⟨rfl, rfl⟩, fun x hx => by simp [pl3] at hx, by unfold u64B i64B pl3; simp, row_nil w 5, row3 h, row_nil w 3, fun x hx => by simp [pl3] at hx, fun x hx => by rw [h1 x hx]; exact ⟨by simp [el3], by simp [el3], by simp [el3], by simp [el3]⟩, fun x hx => by simp [pl3] at hx⟩
theorem set_one : ∀ u ∈ (bp1.map B).set 20 (.int .u8 61), u.oneCell' = true := by
  intro u hu
  rcases List.mem_or_eq_of_mem_set hu with h | rfl
  · exact bytes_one _ u h
  · rfl
theorem readR_bad (v : Value) (b : List UInt8) (w : World) (n : Nat) (h : Rd w v b) (hl : b.length ≤ 1000000000) (hE : ErrV w) (hr : (readR b).2 = n) (hn : n ≠ 0) : Calls Tryz.prog 9 #[v] w fun e w' => e = .returned (.tuple #[.agg #[.int .u64 0, .int .u64 0, .int .u64 0, .int .i64 0, .slice none 0 0, .slice none 0 0, .slice none 0 0], .int .i64 (n : Int)]) ∧ Below w.heap.size w w' := by
  refine (readR_any v b w h hl hE).mono fun e w' h9 => ?_
  unfold readRF at h9
  rw [hr] at h9
  exact ⟨h9.2.1 hn, h9.1⟩
set_option maxRecDepth 100000 in
set_option maxHeartbeats 4000000 in
theorem messageNames_walk (w : World) (hE : ErrV w) : Calls Tryz.prog 3 #[] w fun e w' => e = .returned (.bool true) ∧ Below w.heap.size w w' := by
  have HEV := Lib.hid hE
  clear hE
  go_enter Tryz.func3, Tryz.ntmps3
  go_upto_region 3 with (go_at_call 6; refine (lives_any _ HEV.out).mono ?_; rintro e w1 ⟨rfl, hb⟩; have HB1 := Lib.hid hb; clear hb)
  go_upto_region 4 with (first | (go_at_call 7; refine (appendP_yes pl1 _ _ _ _ [] _ (pow1 w2) (HEV.out.below HB2.out) chk1 (rd_nil _) (by simp)).mono ?_; rintro e w3 ⟨v3, rfl, hf, hb⟩; have HB3 := Lib.hid (below_and HB2.out hb); obtain ⟨g, c, e3, hc, -⟩ : ∃ g c, v3 = .slice (some ⟨g, 0, none⟩) 21 c ∧ 21 ≤ c ∧ True := (by obtain ⟨g, c, h9, h8, -⟩ := own_block hf (by have h7 := bp1_len; unfold bp1 at h7; simp only [List.nil_append]; omega); exact ⟨g, c, h9.trans (congrArg (fun n => Value.slice (some ⟨g, 0, none⟩) n c) bp1_len), by have h7 := bp1_len; unfold bp1 at h7; simp only [List.nil_append] at h8; omega, trivial⟩); subst e3; have HC := Lib.hid hc; have HO3 : Hid (w3.ownsRow w2.heap.size 5 1 (.slice (some ⟨g, 0, none⟩) 21 c) 21 (bp1.map B)) := Lib.hid (by have h9 := hf; unfold Fresh at h9; have h8 : ([] ++ frm 3 (bodyP pl1)).length = 21 := bp1_len; rw [h8] at h9; exact h9); clear hf hb hc) | (go_at_call 8; refine (plain_any _).mono ?_; rintro e w2 ⟨rfl, hb⟩; have HB2 := Lib.hid (below_and HB1.out hb); clear hb))
  go_upto_region 5 with (go_at_call 7; refine (appendP_no pl2 _ _ _ _ _ (pow2 w3) (HEV.out.below HB3.out) chk2).mono ?_; rintro e w4 ⟨rfl, hb⟩; have HB4 := Lib.hid (below_and HB3.out hb); have HO4 := Lib.hid (own_keep HO3.out hb); clear hb)
  skip
  go_upto_region 6 with (go_at_call 7; refine (appendP_no pl3 _ _ _ _ _ (pow3 (Blk.made w4 [.string ⟨#[119, 101, 98]⟩, .int .i64 0, .int .u64 0, .int .i64 1, .int .i64 0, .int .i64 0, .int .i64 0, .string ⟨#[]⟩] _)) (HEV.out.below (below_and HB4.out (below_alloc _ _))) chk3).mono ?_; rintro e w5 ⟨rfl, hb⟩; have HB5 := Lib.hid (below_and HB4.out (below_and (below_alloc _ _) hb)); have HO5 := Lib.hid (own_keep (own_keep HO4.out (below_alloc _ _)) hb); clear hb)
  have HRD : Hid (∀ w', w'.ownsRow w2.heap.size 5 1 (.slice (some ⟨g, 0, none⟩) 21 c) 21 (bp1.map B) → Rd w' (.slice (some ⟨g, 0, none⟩) 21 c) bp1) := Lib.hid (fun w' h => by have h9 := row_of_owns h (bytes_one _); unfold Rd; rw [bp1_len]; exact h9)
  have HRR1 := Lib.hid (readR_bad _ bp1 w5 5 (HRD.out w5 HO5.out) (by rw [bp1_len]; omega) (HEV.out.below HB5.out) rr1 (by decide))
  go_upto_region 7 with (go_at_call 9; refine HRR1.out.mono ?_; rintro e w6 ⟨rfl, hb⟩; have HBa1 := Lib.hid (below_and HB5.out hb); have HOa1 := Lib.hid (own_keep HO5.out hb); clear hb)
  obtain ⟨w7, hz⟩ : ∃ z, z = w6.alloc (.cells #[.int .u64 0, .int .u64 0, .int .u64 0, .int .i64 0, .slice none 0 0, .slice none 0 0, .slice none 0 0] 44) := ⟨_, rfl⟩
  have HB11 : Hid (Below w.heap.size w w7) := Lib.hid (by rw [hz]; exact below_and HBa1.out (below_alloc _ _))
  have HO11 : Hid (w7.ownsRow w2.heap.size 5 1 (.slice (some ⟨g, 0, none⟩) 21 c) 21 (bp1.map B)) := Lib.hid (by rw [hz]; exact own_keep HOa1.out (below_alloc _ _))
  rw [← hz]
  clear hz
  have HRR2 := Lib.hid (readR_bad (.slice (some ⟨g, 0, none⟩) 9 c) (bp1.take 9) w7 4 (by have h9 := row_first (show Row w7 (.slice (some ⟨g, 0, none⟩) 21 c) 1 21 (bp1.map B) from row_of_owns HO11.out (bytes_one _)) (m := 9) (by omega); unfold Rd; rw [List.length_take, bp1_len, List.map_take]; exact h9) (by rw [List.length_take]; omega) (HEV.out.below HB11.out) rr2 (by decide))
  have c1 : (9 : Int) ≤ (c : Int) := by have := HC.out; omega
  have c2 : 9 ≤ c := by have := HC.out; omega
  go_upto_region 8 with (go_at_call 9; refine HRR2.out.mono ?_; rintro e w8 ⟨rfl, hb⟩; have HBa2 := Lib.hid (below_and HB11.out hb); have HOa2 := Lib.hid (own_keep HO11.out hb); clear hb)
  obtain ⟨w9, hz⟩ : ∃ z, z = w8.alloc (.cells #[.int .u64 0, .int .u64 0, .int .u64 0, .int .i64 0, .slice none 0 0, .slice none 0 0, .slice none 0 0] 44) := ⟨_, rfl⟩
  have HB12 : Hid (Below w.heap.size w w9) := Lib.hid (by rw [hz]; exact below_and HBa2.out (below_alloc _ _))
  have HO12 : Hid (w9.ownsRow w2.heap.size 5 1 (.slice (some ⟨g, 0, none⟩) 21 c) 21 (bp1.map B)) := Lib.hid (by rw [hz]; exact own_keep HOa2.out (below_alloc _ _))
  rw [← hz]
  clear hz
  have y0 : w9.cell? ⟨g, 20, none⟩ = some (.int .u8 60) := own_cell HO12.out (j := 20) (by rw [List.getElem?_map, bp1_20]; rfl)
  have f0 := own_free HO12.out 20
  have b0 : bits .xor .u8 60 1 = 61 := by kernel_rfl
  go_upto_region 9 with fail
  obtain ⟨wA, hwA⟩ : ∃ z, z = w9.setCell ⟨g, 20, none⟩ (.int .u8 61) := ⟨_, rfl⟩
  have HBA : Hid (Below w.heap.size w wA) := Lib.hid (by rw [hwA]; exact HB12.out.trans ((Frp.set (P := fun k => k = g) (Frp.refl _ w9) (p := ⟨g, 20, none⟩) rfl _).below (fun k hk => by have h9 := own_lo HO12.out (g := g) rfl; have := HB2.out.size; omega) HB12.out.size))
  have HRA : Hid (Rd wA (.slice (some ⟨g, 0, none⟩) 21 c) (bp1.set 20 61)) := Lib.hid (by
    have h9 := row_of_owns (own_set HO12.out (k := 20) (by omega) (.int .u8 61)) set_one
    rw [hwA]
    unfold Rd
    rw [List.length_set, bp1_len, List.map_set]
    exact h9)
  rw [← hwA]
  clear hwA y0 f0
  have HRR3 := Lib.hid (readR_bad _ (bp1.set 20 61) wA 5 HRA.out (by rw [List.length_set, bp1_len]; omega) (HEV.out.below HBA.out) rr3 (by decide))
  go_upto_region 10 with (go_at_call 9; refine HRR3.out.mono ?_; rintro e wB ⟨rfl, hb⟩; have HBB := Lib.hid (below_and HBA.out hb); clear hb)
  obtain ⟨wC, hz⟩ : ∃ z, z = wB.alloc (.cells #[.int .u64 0, .int .u64 0, .int .u64 0, .int .i64 0, .slice none 0 0, .slice none 0 0, .slice none 0 0] 44) := ⟨_, rfl⟩
  have HBC : Hid (Below w.heap.size w wC) := Lib.hid (by rw [hz]; exact below_and HBB.out (below_alloc _ _))
  rw [← hz]
  clear hz
  go_wp2
  go_ret
  exact ⟨rfl, HBC.out⟩
end Go.Proofs.YtopkfomlppnpeaaGreatDoor.Ms
