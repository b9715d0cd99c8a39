/- NtLives. -/
import Derived.Test.YtndjgbknhfficaaNtOn
import Derived.Lib.SlBytesConst
namespace Go.Proofs.Ytndjgbknhfficaa.Nt
open Go.RowKit Go.Proofs.Ytndjgbknhfficaa Go.Proofs.Ytndjgbknhfficaa.So

set_option maxRecDepth 100000 in
set_option maxHeartbeats 2000000 in
theorem nlives (w : World) : Calls Try.prog 7 #[] w fun e w' => e = .returned (.bool true) ∧ Below w.heap.size w w' := by
  have hcv := fun (w : World) (C : Array Value) (n c : Nat) => Lib.run_convert_bytes_const (P := Try.prog) w 29 5 C n c Try.underlying29 Try.underlying5
  have HB0 : Hid (Below w.heap.size w w) := Lib.hid (Below.refl _ _)
  go_enter Try.func7, Try.ntmps7
  go_upto_region 6 with (first | (go_at_call 8; refine (new_any _).mono ?_; rintro e wn ⟨b, mb, rfl, hb1, hb2, hp, hb⟩; have HN := Lib.hid (ON.of_new HB0.out hb1 hb2 hp hb); clear hb1 hb2 hp hb) | (go_at_call 9; refine (one_sendA HN.out).mono ?_; rintro e wa ⟨rfl, ua, ha⟩; have HA := Lib.hid ha; clear ha HN) | (go_at_call 9; refine (one_sendB HA.out).mono ?_; rintro e wb ⟨rfl, ub, ha⟩; have HB := Lib.hid ha; clear ha HA) | (go_at_call 10; refine (one_double HB.out).mono ?_; rintro e wd ⟨rfl, ud, ha⟩; have HD := Lib.hid ha; clear ha HB) | (go_at_call 30; refine (flight_any HD.out.p (ni3 ua ub ud) (by omega) (by intro e he; simp at he; rcases he with rfl | rfl | rfl <;> simp)).mono ?_; rintro e wf ⟨vf, Ls, rfl, hl, hr, hb⟩; have HF := Lib.hid (And.intro hl hr); have HE := Lib.hid (HD.out.kept hb).bel; clear hl hr hb HD))
  obtain ⟨a1, a2, a3, hls⟩ : ∃ a b c : En, Ls = [a, b, c] := by
    have h9 := congrArg List.length HF.out.1
    simp only [List.length_map, List.length_cons, List.length_nil] at h9
    match Ls, h9 with | [a, b, c], _ => exact ⟨a, b, c, rfl⟩
  subst hls
  have h3 : a3.l = ⟨3, 1, 0, 1, [97]⟩ := by have h9 := HF.out.1; simp at h9; exact h9.2.2
  have hr := HF.out.2.row
  obtain ⟨p, c, hv, hc1, hc2⟩ := own_slice hr
  rw [hv] at hr
  obtain ⟨g, rfl⟩ := own_some hr (by simp)
  have c10 := own_cell hr (j := 10) (u := .int .u64 3) (by simp [rwC, enC, ltC, h3])
  have c11 := own_cell hr (j := 11) (u := .int .u64 1) (by simp [rwC, enC, ltC, h3])
  subst hv
  clear h3 hr HF
  go_wp2
  go_ret
  exact ⟨rfl, HE.out⟩
end Go.Proofs.Ytndjgbknhfficaa.Nt
