/- Send, find, Deliver, Lose, Double (written by gennet.py). -/
import Derived.Test.YtndjgbknhfficaaNtPut
namespace Go.Proofs.Ytndjgbknhfficaa.Nt
open Go.RowKit Go.Proofs.Ytndjgbknhfficaa Go.Proofs.Ytndjgbknhfficaa.So

set_option maxRecDepth 100000 in
set_option maxHeartbeats 2000000 in
theorem send_arg {w : World} {b mb : Nat} {last : Int} {E : List En} (sd rc : Int) (v : Value) (h : PNet w b mb last E) (hn : (nodeB sd && nodeB rc) = false) :
    Calls Try.prog 9 #[ptr b, .int .i64 sd, .int .i64 rc, v] w fun e w' => e = .returned (.tuple #[.int .u64 0, .int .i64 2]) ∧ w = w' := by
  have H := Lib.hid h
  clear h
  cases hs : nodeB sd
  · clear hn
    have HS := Lib.hid hs
    clear hs
    go_enter Try.func9, Try.ntmps9
    go_wp2_with (first | (go_at_call 31; refine (none_no H.out).mono ?_; rintro e w2 ⟨rfl, rfl⟩) | (go_at_call 32; refine (node_any _ _).mono ?_; rw [HS.out]; rintro e w2 ⟨rfl, rfl⟩))
    go_ret2
    exact ⟨rfl, rfl⟩
  · rw [hs] at hn
    have hr : nodeB rc = false := by simpa using hn
    have HS := Lib.hid hs
    have HR := Lib.hid hr
    clear hs hr hn
    go_enter Try.func9, Try.ntmps9
    go_wp2_with (first | (go_at_call 31; refine (none_no H.out).mono ?_; rintro e w2 ⟨rfl, rfl⟩) | (go_at_call 32; refine (node_any sd _).mono ?_; rw [HS.out]; clear HS; rintro e w2 ⟨rfl, rfl⟩) | (go_at_call 32; refine (node_any rc _).mono ?_; rw [HR.out]; clear HR; rintro e w2 ⟨rfl, rfl⟩))
    go_ret2
    exact ⟨rfl, rfl⟩
set_option maxRecDepth 100000 in
set_option maxHeartbeats 2000000 in
theorem send_long {w : World} {b mb : Nat} {last : Int} {E : List En} (sd rc : Int) (v : Value) (bd : List UInt8) (h : PNet w b mb last E) (hv : Rd w v bd) (hn : (nodeB sd && nodeB rc) = true) (hl : 16384 < bd.length) :
    Calls Try.prog 9 #[ptr b, .int .i64 sd, .int .i64 rc, v] w fun e w' => e = .returned (.tuple #[.int .u64 0, .int .i64 3]) ∧ w = w' := by
  have H := Lib.hid h
  clear h
  obtain ⟨hs, hr⟩ : nodeB sd = true ∧ nodeB rc = true := by simpa using hn
  have HS := Lib.hid hs
  have HR := Lib.hid hr
  clear hs hr hn
  obtain ⟨p, c, rfl⟩ : ∃ p c, v = .slice p bd.length c := by obtain ⟨p, c, h⟩ := hv; exact ⟨p, c, h.1⟩
  clear hv
  obtain ⟨n, hn⟩ : ∃ n, n = bd.length := ⟨_, rfl⟩
  rw [← hn] at hl ⊢
  clear hn
  have t1 : (16384 : Int) < (n : Int) := by omega
  go_enter Try.func9, Try.ntmps9
  go_wp2_with (first | (go_at_call 31; refine (none_no H.out).mono ?_; rintro e w2 ⟨rfl, rfl⟩) | (go_at_call 32; refine (node_any sd _).mono ?_; rw [HS.out]; clear HS; rintro e w2 ⟨rfl, rfl⟩) | (go_at_call 32; refine (node_any rc _).mono ?_; rw [HR.out]; clear HR; rintro e w2 ⟨rfl, rfl⟩))
  go_ret2
  exact ⟨rfl, rfl⟩
set_option maxRecDepth 100000 in
set_option maxHeartbeats 2000000 in
theorem send_ok {w : World} {b mb : Nat} {last : Int} {E : List En} {k : Nat} (sd rc : Int) (v : Value) (bd : List UInt8) (h : PNet w b mb last E) (hi : NI last E k) (hk : k ≤ 4000) (hv : Rd w v bd) (hn : (nodeB sd && nodeB rc) = true) (hl : bd.length ≤ 16384) :
    Calls Try.prog 9 #[ptr b, .int .i64 sd, .int .i64 rc, v] w fun e w' => e = .returned (.tuple #[.int .u64 (last + 1), .int .i64 0]) ∧ ∃ v', PNet w' b mb (last + 1) (E ++ [⟨⟨last + 1, last + 1, sd, rc, bd⟩, v'⟩]) ∧ Frp (NP b mb) w w' := by
  have H := Lib.hid h
  obtain ⟨hs, hr⟩ : nodeB sd = true ∧ nodeB rc = true := by simpa using hn
  have HS := Lib.hid hs
  have HR := Lib.hid hr
  clear hs hr hn
  have HCL := Lib.hid (clone_any v bd w hv (by unfold Room; omega))
  obtain ⟨p, c, rfl⟩ : ∃ p c, v = .slice p bd.length c := by obtain ⟨p, c, h⟩ := hv; exact ⟨p, c, h.1⟩
  clear hv
  have HPU := Lib.hid (fun (w' : World) (v' : Value) (h1 : PNet w' b mb last E) (h2 : w'.ownsRow 0 5 1 v' bd.length (bd.map B)) => put_any 0 0 (last + 1) sd rc bd v' h1 hi hk (by rw [if_pos rfl]) h2)
  obtain ⟨n, hn⟩ : ∃ n, n = bd.length := ⟨_, rfl⟩
  have HNN := Lib.hid hn
  rw [← hn] at hl HCL ⊢
  simp only [ltV] at HPU
  clear hn h hi
  have t1 : ¬ (16384 : Int) < (n : Int) := by omega
  go_enter Try.func9, Try.ntmps9
  go_wp2_with (first | (go_at_call 31; refine (none_no H.out).mono ?_; rintro e w2 ⟨rfl, rfl⟩) | (go_at_call 32; refine (node_any sd _).mono ?_; rw [HS.out]; clear HS; rintro e w2 ⟨rfl, rfl⟩) | (go_at_call 32; refine (node_any rc _).mono ?_; rw [HR.out]; clear HR; rintro e w2 ⟨rfl, rfl⟩) | (go_at_call 34; refine HCL.out.mono ?_; rintro e w3 ⟨v', rfl, ho, hb⟩; obtain ⟨p9, c9, rfl, -, -⟩ := own_slice ho; have HO := Lib.hid (So.row_low ho (Nat.zero_le _)); have H3 := Lib.hid (H.out.kept hb); have HB := Lib.hid hb; clear ho hb) | (go_at_call 33; refine (HPU.out _ _ H3.out HO.out).mono ?_; rintro e w4 ⟨rfl, hp, hf⟩; have HP := Lib.hid hp; have HF := Lib.hid hf; clear hp hf))
  go_ret2
  exact ⟨rfl, _, HP.out, (Frp.of_below HB.out (NP b mb)).then HF.out⟩
end Go.Proofs.Ytndjgbknhfficaa.Nt
