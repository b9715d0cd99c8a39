/- WireOne, walked -/
import Derived.Test.YtchaigaechmbnaaWReads
import Derived.Test.YtchaigaechmbnaaPlain2
import Derived.Deep.RegionHeld3
namespace Go.Proofs.Ytchaigaechmbnaa
open Go.RowKit

theorem own_none' (w : World) : (w.alloc (.cells #[] 5)).ownsRow w.heap.size 5 1 (.slice (some ⟨w.heap.size, 0, none⟩) 0 0) 0 [] := own_none w

set_option maxRecDepth 100000 in
set_option maxHeartbeats 400000 in
theorem wireOne_bad (v : Value) (l : List UInt8) (w : World) (h : Rd w v l) (hl : l.length ≤ 140737488351232) (hr : (Wire.read l).2.2 ≠ 0) :
    Calls Try.prog 4 #[v] w fun e w' => e = .returned (.bool true) ∧ Below w.heap.size w w' := by
  obtain ⟨i0, hi, hz0, hz1, hz2⟩ := info_parts Try.uinfo
  have HV := Lib.hid h
  have HL := Lib.hid (room_reach hl)
  have h2 := Wire.read_err hr
  have t1 : (((Wire.read l).2.2 : Int) != 0) = true := by simp; omega
  have t2 : (((Wire.read l).1 : Int) == 0) = true := by simp [h2.1]
  have t3 : (((Wire.read l).2.1 : Int) == 0) = true := by simp [h2.2]
  clear h hl hr h2
  go_enter Try.func4, Try.ntmps4
  go_wp2_with fail
  refine (lives_any w).mono ?_
  rintro e w1 ⟨rfl, hb⟩
  have HB1 := Lib.hid hb
  clear hb
  go_wp2_with (at_builtin; refine wpList_app _ rfl _ _ 22 22 rfl w1.heap.size 5 i0 (.int .u8 0) 1 1 Try.underlying22 hi hz0 hz1 hz2 rfl _ 0 [] rfl (own_none _) _ l.length (l.map B) rfl ((HV.out.below HB1.out).lit0) HL.out.h630 HL.out.bytes0 (by simp) ?_; intro v2 w2 hown' hgrow hnil; have HF2 := Lib.hid (fresh_zero hown'); have HB2 := Lib.hid (below_and HB1.out (below_grown ((Below.refl _ _).alloc (Nat.le_refl _) _) (by simp) (own_none _) hgrow)); clear hown' hgrow hnil)
  refine (opq (read_any v2 l w2 HF2.out.rd)).mono ?_
  rintro e w3 ⟨rfl, hb⟩
  have HB3 := Lib.hid (below_and HB2.out hb)
  clear hb HF2 HB2 HB1
  go_wp2_with fail
  go_ret
  exact ⟨rfl, HB3.out⟩

/-- the first part of a slice -/
theorem rd_first {w : World} {p : Option Addr} {n c k : Nat} {l : List UInt8} (h : Rd w (.slice p n c) l) (hk : k ≤ l.length) : Rd w (.slice p k c) (l.take k) := by
  obtain ⟨p1, c1, hv, h1, h2, h3, h4, h5, h6⟩ := h
  simp only [Value.slice.injEq] at hv
  obtain ⟨rfl, hn, rfl⟩ := hv
  have hlen : (l.take k).length = k := by simp; omega
  refine ⟨p, c, by rw [hlen], by rw [hlen]; omega, h2, by simp, bytes_one _, ?_, ?_⟩
  · intro hp
    have := h5 hp
    rw [hlen]; omega
  · rcases h6 with h6 | ⟨b, o, hp, ha⟩
    · left
      have : l = [] := by simpa using h6
      rw [this]; simp
    · refine .inr ⟨b, o, hp, fun i u hi => ha i u ?_⟩
      rw [List.map_take, List.getElem?_take] at hi
      split at hi
      · exact hi
      · simp at hi

set_option maxRecDepth 100000 in
set_option maxHeartbeats 400000 in
theorem wireOne_good (p : Option Addr) (n c : Nat) (l : List UInt8) (w : World) (h : Rd w (.slice p n c) l) (hn : n = l.length) (hl : l.length ≤ 140737488351232) (hr : (Wire.read l).2.2 = 0) :
    Calls Try.prog 4 #[.slice p n c] w fun e w' => e = .returned (.bool true) ∧ Below w.heap.size w w' := by
  subst hn
  obtain ⟨i0, hi, hz0, hz1, hz2⟩ := info_parts Try.uinfo
  have HV := Lib.hid h
  have HL := Lib.hid (room_reach hl)
  have h2 := Wire.read_le hr
  have HE := Lib.hid (Wire.read_enc hr)
  have hlc : l.length ≤ c := by obtain ⟨_, _, hv, h1, _⟩ := h; simp only [Value.slice.injEq] at hv; omega
  obtain ⟨k, hk⟩ : ∃ k, k = (Wire.read l).2.1 := ⟨_, rfl⟩
  obtain ⟨x, hx⟩ : ∃ x, x = (Wire.read l).1 := ⟨_, rfl⟩
  have hxl := Wire.read_lt l
  have hrd : Wire.read l = (x, k, 0) := by rw [hk, hx, ← hr]
  have HR := Lib.hid hrd
  rw [← hk] at h2
  rw [← hx] at hxl
  rw [← hk, ← hx] at HE
  have HX := Lib.hid hxl
  have b1 : (1 : Int) ≤ (k : Int) := by omega
  have b2 : (k : Int) ≤ (l.length : Int) := by omega
  have b3 : (k : Int) ≤ (c : Int) := by omega
  have d1 : decide ((1 : Int) ≤ (k : Int)) = true := by simp; omega
  have d2 : decide (k ≤ l.length) = true := by simp; omega
  have HK := Lib.hid h2.2
  clear h hl hr h2 hk hx hrd hxl
  go_enter Try.func4, Try.ntmps4
  go_wp2_with fail
  refine (lives_any w).mono ?_
  rintro e w1 ⟨rfl, hb⟩
  have HB1 := Lib.hid hb
  clear hb
  go_wp2_with (at_builtin; refine wpList_app _ rfl _ _ 22 22 rfl w1.heap.size 5 i0 (.int .u8 0) 1 1 Try.underlying22 hi hz0 hz1 hz2 rfl _ 0 [] rfl (own_none _) _ l.length (l.map B) rfl ((HV.out.below HB1.out).lit0) HL.out.h630 HL.out.bytes0 (by simp) ?_; intro v2 w2 hown' hgrow hnil; have HF2 := Lib.hid (fresh_zero hown'); have HB2 := Lib.hid (below_and HB1.out (below_grown ((Below.refl _ _).alloc (Nat.le_refl _) _) (by simp) (own_none _) hgrow)); clear hown' hgrow hnil)
  refine (opq (read_any v2 l w2 HF2.out.rd)).mono ?_
  rw [HR.out]
  rintro e w3 ⟨rfl, hb⟩
  have HB3 := Lib.hid (below_and HB2.out hb)
  clear hb HF2 HB2 HB1
  go_wp2_with fail
  go_region_held3 (fun w' => AnyW w') (exact anyW _) (first
    | (go_at_call 16; refine (appendUint_any _ [] x _ (rd_nil _) (by unfold Room; decide) HX.out).mono ?_; rintro e w4 ⟨v4, rfl, hf, hb⟩; have HF4 := Lib.hid hf.rd; have HB4 := Lib.hid (below_and HB3.out.drew hb); clear hf hb)
    | (go_at_call 15; refine (opq (same_any _ _ _ _ _ HF4.out (rd_first (HV.out.below HB4.out) HK.out))).mono ?_; rw [List.nil_append, HE.out, beq_self_eq_true]; rintro e w5 ⟨rfl, hb⟩; have HB5 := Lib.hid (below_and HB4.out hb); clear hb))
  all_goals go_wp2
  all_goals go_ret
  all_goals exact ⟨rfl, HB5.out⟩
theorem wireOne_walk (v : Value) (l : List UInt8) (w : World) (h : Rd w v l) (hl : l.length ≤ 140737488351232) :
    Calls Try.prog 4 #[v] w fun e w' => e = .returned (.bool true) ∧ Below w.heap.size w w' := by
  by_cases hr : (Wire.read l).2.2 = 0
  · obtain ⟨p, c, rfl, -⟩ := h.parts
    exact wireOne_good p l.length c l w h rfl hl hr
  · exact wireOne_bad v l w h hl hr
end Go.Proofs.Ytchaigaechmbnaa
