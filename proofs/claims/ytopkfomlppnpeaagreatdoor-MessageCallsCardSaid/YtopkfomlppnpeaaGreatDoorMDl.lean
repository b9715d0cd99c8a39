/- , laid together: RDigits0, MsDLs. -/
import Derived.Test.YtopkfomlppnpeaaGreatDoorMDp
import Derived.Test.YtopkfomlppnpeaaGreatDoorMOp
import Derived.Deep.RegionWith
namespace Go.Proofs.YtopkfomlppnpeaaGreatDoor
open Go.RowKit

theorem Ms.dig_sm : ∀ v, v < 10 → Ms.dgt (UInt8.ofNat (48 + v)) = true ∧ (UInt8.ofNat (48 + v)).toNat = 48 + v := by decide
theorem rd_one (w : World) (c : UInt8) (n : Int) (hn : n = (c.toNat : Int)) : Rd (w.alloc (.cells #[.int .u8 n] 5)) (.slice (some ⟨w.heap.size, 0, none⟩) 1 1) [c] := by
  subst hn
  exact row_block (us := [B c]) (heap_alloc_new w _) (by simp [maxLen]) (by intro u hu; simp at hu; subst hu; rfl)
theorem conv_one (w : World) (c : UInt8) (n : Int) (hn : n = (c.toNat : Int)) : (convert 23 9 (.slice (some ⟨w.heap.size, 0, none⟩) 1 1)).run Tryz.prog (w.alloc (.cells #[.int .u8 n] 5)) = .ok (.string ⟨#[c]⟩) (w.alloc (.cells #[.int .u8 n] 5)) :=
  run_str (rd_one w c n hn) Tryz.underlying23 Tryz.underlying5 9 Tryz.underlying9

theorem dec_len (u : Nat) (hu : u ≤ 1099511627776) : (Lib.decDigits u).length ≤ 21 := by
  have := Lib.itoa_length_le (u : Int) (by omega) (by omega)
  rwa [Lib.itoa_nonneg] at this

set_option maxRecDepth 100000 in
set_option maxHeartbeats 1000000 in
theorem rdigits_any (u : Nat) : u ≤ 1099511627776 → ∀ w, Calls Tryz.prog 152 #[.int .i64 (u : Int)] w fun e w' => e = .returned (.string ⟨(Lib.decDigits u).toArray⟩) ∧ Below w.heap.size w w' := by
  induction u using Nat.strongRecOn with
  | _ u ih =>
    intro hu w
    by_cases h : u < 10
    · have hk := (Ms.dig_sm u h).2
      obtain ⟨c, hc⟩ : ∃ c, c = UInt8.ofNat (48 + u) := ⟨_, rfl⟩
      rw [← hc] at hk
      have HD : Hid (Lib.decDigits u = [c]) := Lib.hid (by rw [Lib.decDigits, dif_pos h, hc])
      have hcv := fun w => conv_one w c (48 + (u : Int)) (by rw [hk]; omega)
      have s1 : IntKind.i64.wrap (48 + (u : Int)) = 48 + (u : Int) := IntWalk.i64_in _ (by omega)
      have s2 : IntKind.u8.wrap (48 + (u : Int)) = 48 + (u : Int) := IntWalk.u8_in _ (by omega)
      have d1 : decide ((u : Int) < 10) = true := by simp; omega
      clear ih hk hc
      go_enter Tryz.func152, Tryz.ntmps152
      go_wp2_with fail
      go_ret
      exact ⟨by rw [HD.out]; rfl, below_alloc w _⟩
    · have hk := (Ms.dig_sm (u % 10) (by omega)).2
      obtain ⟨c, hc⟩ : ∃ c, c = UInt8.ofNat (48 + u % 10) := ⟨_, rfl⟩
      obtain ⟨sQ, hsQ⟩ : ∃ sQ : ByteArray, sQ = ⟨(Lib.decDigits (u / 10)).toArray⟩ := ⟨_, rfl⟩
      have HD : Hid ((⟨(Lib.decDigits u).toArray⟩ : ByteArray) = sQ ++ ⟨#[c]⟩) := Lib.hid (by
        rw [Lib.decDigits, dif_neg h, hsQ, hc]
        apply ByteArray.ext
        simp [ByteArray.data_append])
      have hln : sQ.size ≤ 21 := by rw [hsQ]; show (Lib.decDigits (u / 10)).toArray.size ≤ 21; simpa using dec_len (u / 10) (by omega)
      obtain ⟨q, hq⟩ : ∃ q : Int, q = ((u / 10 : Nat) : Int) := ⟨_, rfl⟩
      obtain ⟨d, hd⟩ : ∃ d : Int, d = ((u % 10 : Nat) : Int) := ⟨_, rfl⟩
      have HI : Hid (∀ w, Calls Tryz.prog 152 #[.int .i64 q] w fun e w' => e = .returned (.string sQ) ∧ Below w.heap.size w w') := Lib.hid (fun w => by rw [hq, hsQ]; exact ih (u / 10) (by omega) (by omega) w)
      have hb0 : 0 ≤ d ∧ d ≤ 9 := by omega
      have HCV : Hid (∀ w : World, (convert 23 9 (.slice (some ⟨w.heap.size, 0, none⟩) 1 1)).run Tryz.prog (w.alloc (.cells #[.int .u8 (48 + d)] 5)) = .ok (.string ⟨#[c]⟩) (w.alloc (.cells #[.int .u8 (48 + d)] 5))) := Lib.hid (fun w => conv_one w c (48 + d) (by rw [hc, hk]; omega))
      have HRD : Hid (∀ w w' : World, Below (w.alloc (.cells #[.int .u8 (48 + d)] 5)).heap.size (w.alloc (.cells #[.int .u8 (48 + d)] 5)) w' → (convert 23 9 (.slice (some ⟨w.heap.size, 0, none⟩) 1 1)).run Tryz.prog w' = .ok (.string ⟨#[c]⟩) w') := Lib.hid (fun w w' hb => run_str ((rd_one w c (48 + d) (by rw [hc, hk]; omega)).below hb) Tryz.underlying23 Tryz.underlying5 9 Tryz.underlying9)
      have u1 : IntKind.i64.wrap ((u : Int).tdiv 10) = q := by rw [Int.tdiv_eq_ediv_of_nonneg (by omega), IntKind.wrap_i64, hq]; omega
      have u1' : wrap64 ((u : Int).tdiv 10) = q := by rw [← IntWalk.i64_left]; exact u1
      have u1q : IntKind.i64.wrap ((u : Int) / 10) = q := by rw [IntKind.wrap_i64, hq]; omega
      have u2 : (u : Int).tmod 10 = d := by rw [IntWalk.rem_in _ _ (by omega), hd]; omega
      have u3 : IntKind.i64.wrap d = d := IntWalk.i64_in _ (by omega)
      have s1 : IntKind.i64.wrap (48 + d) = 48 + d := IntWalk.i64_in _ (by omega)
      have s2 : IntKind.u8.wrap (48 + d) = 48 + d := IntWalk.u8_in _ (by omega)
      have hadd : ∀ w, (Op.stringOp .add sQ ⟨#[c]⟩).run Tryz.prog w = .ok (.string (sQ ++ ⟨#[c]⟩)) w := fun w => run_string_add_sum w sQ ⟨#[c]⟩ (by show sQ.size + 1 ≤ _; omega)
      have d1 : decide ((u : Int) < 10) = false := by simp; omega
      have c1 : (convert 23 9 (.slice (some ⟨w.heap.size, 0, none⟩) 1 1)).run Tryz.prog (w.drew.alloc (.cells #[.int .u8 (48 + d)] 5)) = .ok (.string ⟨#[c]⟩) (w.drew.alloc (.cells #[.int .u8 (48 + d)] 5)) := HCV.out w.drew
      have c2 : (convert 23 9 (.slice (some ⟨w.heap.size, 0, none⟩) 1 1)).run Tryz.prog (w.alloc (.cells #[.int .u8 (48 + d)] 5)).drew = .ok (.string ⟨#[c]⟩) (w.alloc (.cells #[.int .u8 (48 + d)] 5)).drew := HCV.out w.drew
      have H0 : Hid (Below w.heap.size w w.drew) := Lib.hid (Ms.below_dr (Below.refl _ _))
      clear ih hk hc hsQ hq hd hln hb0 h hu
      go_enter Tryz.func152, Tryz.ntmps152
      go_wp2_with fail
      go_region_with (first
        | (go_at_call 152; refine (HI.out _).mono ?_; rintro e w1 ⟨rfl, hb⟩; have k1 := HCV.out w1; have HB1 : Hid (Below w.heap.size w w1) := Lib.hid (by refine below_and ?_ hb; (repeat (first | exact Below.refl _ _ | apply Ms.below_dr | (refine below_and ?_ (below_alloc _ _))))); (first | (have k2 : (convert 23 9 (.slice (some ⟨w.heap.size, 0, none⟩) 1 1)).run Tryz.prog w1 = .ok (.string ⟨#[c]⟩) w1 := HRD.out w.drew w1 hb) | skip); clear hb))
      all_goals go_wp2_with fail
      all_goals go_ret
      all_goals exact ⟨by rw [HD.out]; rfl, by first | exact HB1.out | exact below_and HB1.out (below_alloc _ _)⟩

end Go.Proofs.YtopkfomlppnpeaaGreatDoor

namespace Go.Proofs.YtopkfomlppnpeaaGreatDoor.Ms
open Go.RowKit Go.Proofs.YtopkfomlppnpeaaGreatDoor

def TkD (j : List UInt8) (i : Int) (e : Ending) : Prop := ∃ s : ByteArray, e = .returned (.tuple #[.string s, .int .i64 (if tkB j i then 0 else 2)])
theorem tkB_eq (j : List UInt8) (i : Int) : tkB j i = (specB j && decide (0 ≤ i) && decide (i < 64)) := by
  unfold tkB taskO
  by_cases h : specB j = true ∧ 0 ≤ i ∧ i < 64
  · rw [if_pos h]; simp [h.1, h.2.1, h.2.2]
  · rw [if_neg h]
    cases hs : specB j
    · rfl
    · simp only [hs, true_and] at h
      by_cases h0 : 0 ≤ i
      · rw [decide_eq_false (p := i < 64) (fun h9 => h ⟨h0, h9⟩)]; simp
      · rw [decide_eq_false h0]; rfl
set_option maxRecDepth 100000 in
set_option maxHeartbeats 2000000 in
theorem rTask_any (j : List UInt8) (i : Int) (w : World) (hj : j.length ≤ 140737488351232) : Calls Tryz.prog 125 #[.agg #[.string (bs j), .int .i64 i]] w fun e w' => TkD j i e ∧ Below w.heap.size w w' := by
  obtain ⟨X, hX⟩ : ∃ X, X = w.heap.size := ⟨_, rfl⟩
  obtain ⟨w1, hw1⟩ : ∃ w1, w1 = w.alloc (.cells #[.string (bs j), .int .i64 i] 35) := ⟨_, rfl⟩
  have HX1 : Hid (Blk w1 X [.string (bs j), .int .i64 i] 35) := Lib.hid (by rw [hw1, hX]; exact Blk.made w [.string (bs j), .int .i64 i] _)
  have HB1 : Hid (Below w.heap.size w w1) := Lib.hid (by rw [hw1]; exact below_alloc _ _)
  have HNM := Lib.hid (fun w' => rname12_any j w' hj)
  obtain ⟨sp, hsp⟩ : ∃ sp, sp = specB j := ⟨_, rfl⟩
  rw [← hsp] at HNM
  have HTK : Hid (tkB j i = (sp && decide (0 ≤ i) && decide (i < 64))) := Lib.hid (by rw [hsp]; exact tkB_eq j i)
  have HJL := Lib.hid hj
  clear hsp hj
  go_enter Tryz.func125, Tryz.ntmps125
  go_upto_region 1 with fail
  rw [← hw1, ← hX]
  clear hw1 hX
  have x0 := HX1.out.cell (j := 0) rfl
  have x1 := HX1.out.cell (j := 1) rfl
  cases sp
  · have HQ : Hid (tkB j i = false) := Lib.hid (by rw [HTK.out]; rfl)
    go_wp2_with (go_at_call 151; refine (HNM.out _).mono ?_; rintro e w2 ⟨rfl, rfl⟩)
    go_ret2
    exact ⟨⟨_, by rw [HQ.out]; rfl⟩, HB1.out⟩
  by_cases h0 : 0 ≤ i
  rotate_left
  · have HQ : Hid (tkB j i = false) := Lib.hid (by rw [HTK.out, decide_eq_false h0]; rfl)
    have d1 : i < 0 := by omega
    go_wp2_with (go_at_call 151; refine (HNM.out _).mono ?_; rintro e w2 ⟨rfl, rfl⟩)
    go_ret2
    exact ⟨⟨_, by rw [HQ.out]; rfl⟩, HB1.out⟩
  by_cases h64 : i < 64
  rotate_left
  · have HQ : Hid (tkB j i = false) := Lib.hid (by rw [HTK.out, decide_eq_false h64]; simp)
    have d1 : ¬ i < 0 := by omega
    have d2 : 64 ≤ i := by omega
    go_wp2_with (go_at_call 151; refine (HNM.out _).mono ?_; rintro e w2 ⟨rfl, rfl⟩)
    go_ret2
    exact ⟨⟨_, by rw [HQ.out]; rfl⟩, HB1.out⟩
  have HQ : Hid (tkB j i = true) := Lib.hid (by rw [HTK.out, decide_eq_true h0, decide_eq_true h64]; rfl)
  have d1 : ¬ i < 0 := by omega
  have d2 : ¬ 64 ≤ i := by omega
  obtain ⟨u, rfl⟩ : ∃ u : Nat, (u : Int) = i := ⟨i.toNat, by omega⟩
  have hu : u < 64 := by omega
  go_upto_region 3 with (go_at_call 151; refine (HNM.out _).mono ?_; rintro e w2 ⟨rfl, rfl⟩)
  have p0 := Past.blk HX1.out (j := 0) rfl
  have p1 := Past.blk HX1.out (j := 1) rfl
  have HDG : Hid (∀ s : Past w1, Calls Tryz.prog 152 #[.int .i64 (u : Int)] s.val fun e w' => e = .returned (.string ⟨(Lib.decDigits u).toArray⟩) ∧ Below s.val.heap.size s.val w') := Lib.hid (fun s => rdigits_any u (by omega) s.val)
  obtain ⟨dg, hdg⟩ : ∃ dg : List UInt8, dg = Lib.decDigits u := ⟨_, rfl⟩
  have HJ : Hid (j.length + 1 + dg.length ≤ 200000000000000) := Lib.hid (by have h9 := dec_len u (by omega); rw [← hdg] at h9; have := HJL.out; omega)
  rw [← hdg] at HDG
  clear hdg
  have hadd1 : ∀ w, (Op.stringOp .add (bs j) ⟨#[46]⟩).run Tryz.prog w = .ok (.string (bs (j ++ [46]))) w := fun w => add_bs j [46] (by have := HJ.out; simp; omega) w
  have hadd2 : ∀ w, (Op.stringOp .add (bs (j ++ [46])) ⟨dg.toArray⟩).run Tryz.prog w = .ok (.string (bs (j ++ [46] ++ dg))) w := fun w => add_bs (j ++ [46]) dg (by have := HJ.out; simp; omega) w
  refine wp_region_past (by kernel_rfl) (by kernel_rfl) ?_
  repeat (go_big_quiet_step ((go_at_call 152; exact past_call (HDG.out _))))
  refine wpQuiet_nil ?_
  intro _ hw'
  obtain ⟨s9, hw''⟩ := hw'
  subst hw''
  obtain ⟨w9, h9, e9⟩ : ∃ w9, Below w1.heap.size w1 w9 ∧ w9 = s9.val := ⟨_, s9.h, rfl⟩
  rw [← e9]
  have HB9 := Lib.hid (below_and HB1.out h9)
  go_wp2
  go_ret2
  exact ⟨⟨_, by rw [HQ.out]; rfl⟩, HB9.out⟩
set_option maxRecDepth 100000 in
set_option maxHeartbeats 2000000 in
theorem rtask_any (j : List UInt8) (i n : Int) (w : World) (hj : j.length ≤ 140737488351232) : Calls Tryz.prog 69 #[.agg #[.string (bs j), .int .i64 i], .int .u64 n] w fun e w' => e = .returned (.bool (tkB j i && decide (0 < n))) ∧ Below w.heap.size w w' := by
  obtain ⟨er, her⟩ : ∃ er : Int, er = if tkB j i then 0 else 2 := ⟨_, rfl⟩
  have HTA := Lib.hid (fun w' => rTask_any j i w' hj)
  unfold TkD at HTA
  rw [← her] at HTA
  obtain ⟨z, hz⟩ : ∃ z, z = decide (0 < n) := ⟨_, rfl⟩
  have hz2 : decide (0 < n) = z := hz.symm
  have HQ : Hid (((er == 0) && z) = (tkB j i && decide (0 < n))) := Lib.hid (by rw [her, hz]; cases tkB j i <;> rfl)
  have HER : Hid (er = 0 ∨ er = 2) := Lib.hid (by rw [her]; split <;> simp)
  clear her hz hj
  have x0 := (Blk.made w [.string (bs j), .int .i64 i] 35).cell (j := 0) rfl
  have x1 := (Blk.made w [.string (bs j), .int .i64 i] 35).cell (j := 1) rfl
  rcases HER.out with rfl | rfl
  · go_enter Tryz.func69, Tryz.ntmps69
    go_wp2_with (go_at_call 125; refine (HTA.out _).mono ?_; rintro e w5 ⟨⟨s, rfl⟩, hb⟩; have HB5 := Lib.hid (below_and (below_alloc w (.cells #[.string (bs j), .int .i64 i] 35)) hb); clear hb)
    go_ret
    exact ⟨ret_bool HQ.out, HB5.out⟩
  · go_enter Tryz.func69, Tryz.ntmps69
    go_wp2_with (go_at_call 125; refine (HTA.out _).mono ?_; rintro e w5 ⟨⟨s, rfl⟩, hb⟩; have HB5 := Lib.hid (below_and (below_alloc w (.cells #[.string (bs j), .int .i64 i] 35)) hb); clear hb)
    go_ret
    exact ⟨ret_bool HQ.out, HB5.out⟩
end Go.Proofs.YtopkfomlppnpeaaGreatDoor.Ms
