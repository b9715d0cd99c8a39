/- RdDec. -/
import Derived.Test.YtdemkfhkibmbnaaGreatDoorM00
import Derived.Test.YtdemkfhkibmbnaaGreatDoorM11
import Derived.Deep.RegionWith
import Derived.Lib.ItoaLen
set_option maxRecDepth 100000
set_option maxHeartbeats 8000000
namespace Go.Proofs.YtdemkfhkibmbnaaGreatDoor.Ru
open Go.RowKit Go.Proofs.YtdemkfhkibmbnaaGreatDoor
theorem ddrew {n : Nat} {a w : World} (h : Below n a w) : Below n a w.drew := Below.drewN' h 1
theorem drd_one (w : World) (c : UInt8) (n : Int) (hn : n = (c.toNat : Int)) : Rd (w.alloc (.cells #[.int .u8 n] 5)) (.slice (some ⟨w.heap.size, 0, none⟩) 1 1) [c] := by
 subst hn; exact row_block (us := [B c]) (heap_alloc_new w _) (by simp [maxLen]) (by intro u hu; simp at hu; subst hu; rfl)
theorem dconv_one (w : World) (c : UInt8) (n : Int) (hn : n = (c.toNat : Int)) : (convert 94 9 (.slice (some ⟨w.heap.size, 0, none⟩) 1 1)).run Tryz.prog (w.alloc (.cells #[.int .u8 n] 5)) = .ok (.string ⟨#[c]⟩) (w.alloc (.cells #[.int .u8 n] 5)) :=
 run_str (drd_one w c n hn) Tryz.underlying94 Tryz.underlying5 9 Tryz.underlying9
theorem ddec_len (u : Nat) (hu : u ≤ 1099511627776) : (Lib.decDigits u).length ≤ 21 := by
 have := Lib.itoa_length_le (u : Int) (by omega) (by omega)
 rwa [Lib.itoa_nonneg] at this
theorem dnum_any (u : Nat) : u ≤ 1099511627776 → ∀ w, Calls Tryz.prog 95 #[.int .i64 (u : Int)] w fun e w' => e = .returned (.string ⟨(Lib.decDigits u).toArray⟩) ∧ Below w.heap.size w w' := by
 induction u using Nat.strongRecOn with
 | _ u ih =>
  intro hu w
  by_cases h : u < 10
  ·have hk := (dig_one u h).2
   obtain ⟨c, hc⟩ : ∃ c, c = UInt8.ofNat (48 + u) := ⟨_, rfl⟩; rw [← hc] at hk; have HD : Hid (Lib.decDigits u = [c]) := zz (by rw [Lib.decDigits, dif_pos h, hc])
   have hcv := fun w => dconv_one w c (48 + (u : Int)) (by rw [hk]; omega)
   have s1 : IntKind.i64.wrap (48 + (u : Int)) = 48 + (u : Int) := IntWalk.i64_in _ (by omega); have s2 : IntKind.u8.wrap (48 + (u : Int)) = 48 + (u : Int) := IntWalk.u8_in _ (by omega); have d1 : decide ((u : Int) < 10) = true := by simp; omega
   clear ih hk hc; go_enter Tryz.func95, Tryz.ntmps95; go_wp2_with fail; go_ret; exact ⟨by rw [HD.o]; rfl, below_alloc w _⟩
  ·have hk := (dig_one (u % 10) (by omega)).2
   obtain ⟨c, hc⟩ : ∃ c, c = UInt8.ofNat (48 + u % 10) := ⟨_, rfl⟩; obtain ⟨sQ, hsQ⟩ : ∃ sQ : ByteArray, sQ = ⟨(Lib.decDigits (u / 10)).toArray⟩ := ⟨_, rfl⟩
   have HD : Hid ((⟨(Lib.decDigits u).toArray⟩ : ByteArray) = sQ ++ ⟨#[c]⟩) := zz (by
    rw [Lib.decDigits, dif_neg h, hsQ, hc]
    apply ByteArray.ext
    simp [ByteArray.data_append])
   have hln : sQ.size ≤ 21 := by rw [hsQ]; show (Lib.decDigits (u / 10)).toArray.size ≤ 21; simpa using ddec_len (u / 10) (by omega)
   obtain ⟨q, hq⟩ : ∃ q : Int, q = ((u / 10 : Nat) : Int) := ⟨_, rfl⟩; obtain ⟨d, hd⟩ : ∃ d : Int, d = ((u % 10 : Nat) : Int) := ⟨_, rfl⟩; have HI : Hid (∀ w, Calls Tryz.prog 95 #[.int .i64 q] w fun e w' => e = .returned (.string sQ) ∧ Below w.heap.size w w') := zz (fun w => by rw [hq, hsQ]; exact ih (u / 10) (by omega) (by omega) w); have hb0 : 0 ≤ d ∧ d ≤ 9 := by omega
   have HCV : Hid (∀ w : World, (convert 94 9 (.slice (some ⟨w.heap.size, 0, none⟩) 1 1)).run Tryz.prog (w.alloc (.cells #[.int .u8 (48 + d)] 5)) = .ok (.string ⟨#[c]⟩) (w.alloc (.cells #[.int .u8 (48 + d)] 5))) := zz (fun w => dconv_one w c (48 + d) (by rw [hc, hk]; omega)); have HRD : Hid (∀ w w' : World, Below (w.alloc (.cells #[.int .u8 (48 + d)] 5)).heap.size (w.alloc (.cells #[.int .u8 (48 + d)] 5)) w' → (convert 94 9 (.slice (some ⟨w.heap.size, 0, none⟩) 1 1)).run Tryz.prog w' = .ok (.string ⟨#[c]⟩) w') := zz (fun w w' hb => run_str ((drd_one w c (48 + d) (by rw [hc, hk]; omega)).below hb) Tryz.underlying94 Tryz.underlying5 9 Tryz.underlying9); have u1 : IntKind.i64.wrap ((u : Int).tdiv 10) = q := by rw [Int.tdiv_eq_ediv_of_nonneg (by omega), IntKind.wrap_i64, hq]; omega
   have u1' : wrap64 ((u : Int).tdiv 10) = q := by rw [← IntWalk.i64_left]; exact u1
   have u1q : IntKind.i64.wrap ((u : Int) / 10) = q := by rw [IntKind.wrap_i64, hq]; omega
   have u2 : (u : Int).tmod 10 = d := by rw [IntWalk.rem_in _ _ (by omega), hd]; omega
   have u3 : IntKind.i64.wrap d = d := IntWalk.i64_in _ (by omega); have s1 : IntKind.i64.wrap (48 + d) = 48 + d := IntWalk.i64_in _ (by omega); have s2 : IntKind.u8.wrap (48 + d) = 48 + d := IntWalk.u8_in _ (by omega)
   have hadd : ∀ w, (Op.stringOp .add sQ ⟨#[c]⟩).run Tryz.prog w = .ok (.string (sQ ++ ⟨#[c]⟩)) w := fun w => run_string_add_sum w sQ ⟨#[c]⟩ (by show sQ.size + 1 ≤ _; omega)
   have d1 : decide ((u : Int) < 10) = false := by simp; omega
   have c1 : (convert 94 9 (.slice (some ⟨w.heap.size, 0, none⟩) 1 1)).run Tryz.prog (w.drew.alloc (.cells #[.int .u8 (48 + d)] 5)) = .ok (.string ⟨#[c]⟩) (w.drew.alloc (.cells #[.int .u8 (48 + d)] 5)) := HCV.o w.drew; have c2 : (convert 94 9 (.slice (some ⟨w.heap.size, 0, none⟩) 1 1)).run Tryz.prog (w.alloc (.cells #[.int .u8 (48 + d)] 5)).drew = .ok (.string ⟨#[c]⟩) (w.alloc (.cells #[.int .u8 (48 + d)] 5)).drew := HCV.o w.drew; have H0 : Hid (Below w.heap.size w w.drew) := zz (ddrew (Below.refl _ _)); clear ih hk hc hsQ hq hd hln hb0 h hu; go_enter Tryz.func95, Tryz.ntmps95; go_wp2_with fail
   go_region_with (first
    | (go_at_call 95; refine (HI.o _).mono ?_; rintro e w1 ⟨rfl, hb⟩; have k1 := HCV.o w1; have HB1 : Hid (Below w.heap.size w w1) := zz (by refine below_and ?_ hb; (repeat (first | exact Below.refl _ _ | apply ddrew | (refine below_and ?_ (below_alloc _ _))))); (first | (have k2 : (convert 94 9 (.slice (some ⟨w.heap.size, 0, none⟩) 1 1)).run Tryz.prog w1 = .ok (.string ⟨#[c]⟩) w1 := HRD.o w.drew w1 hb) | skip); clear hb))
   all_goals go_wp2_with fail
   all_goals go_ret
   all_goals exact ⟨by rw [HD.o]; rfl, by first | exact HB1.o | exact below_and HB1.o (below_alloc _ _)⟩
