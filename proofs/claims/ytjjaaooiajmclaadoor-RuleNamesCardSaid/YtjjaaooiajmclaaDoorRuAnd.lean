/- The parser: and, or, not, walked (written by gennot.py). -/
import Derived.Test.YtjjaaooiajmclaaDoorRuPairs
import Derived.Test.YtjjaaooiajmclaaDoorRuNotP
namespace Go.Proofs.YtjjaaooiajmclaaDoor.Ru
open Go.RowKit Go.Proofs.YtjjaaooiajmclaaDoor

theorem out_of {base : Nat} {w w' : World} {b : Nat} {s : ByteArray} {d : Int} {R : PR} {j : Int} (h : OutS base w w' b s d R j) : Out base w w' b s d R (.returned (.int .i64 j)) := by
  cases R with
  | ok q => obtain ⟨rfl, h2, h3⟩ := h; exact ⟨rfl, h2, h3⟩
  | error e => exact ⟨⟨j, rfl⟩, h.1, h.2⟩
theorem is_at (base b : Nat) (s : ByteArray) (k : Nat) (d n : Int) (v : Value) (L : List Nd) (e a : Int) (p : ByteArray) (w : World) (hk : k ≤ s.size) (h : Prs base w b s (skip s k) d n v L e a) (hp : p.size ≤ 100) :
    Calls Tryd.prog 27 #[ptr b, .string p] w fun r w' => r = .returned (.bool (isB s p k)) ∧ Prs base w' b s (isK s p k) d n v L e a ∧ Onb b w w' := by
  have := is_any base b s (skip s k) d n v L e a p w h hp
  rw [(isB_skip hk).1, (isB_skip hk).2] at this
  exact this

set_option maxRecDepth 100000 in
set_option maxHeartbeats 4000000 in
theorem and_any (base b : Nat) (s : ByteArray) (m d : Nat) (nx : Ps → PR) (hg : Rd base b s m 30 d nx) (he : RdE base b s 30) (hk : Kp s.size m nx) : Rd base b s m 21 d (pairsP s.size 38 8 nx) := by
  unfold Rd
  intro k n v L w h hn hl hm hbase hv
  have HC : Hid (Calls Tryd.prog 20 #[ptr b, .string ⟨#[38]⟩, .int .i64 8, .func (.func 30) #[ptr b] #[]] w fun r w' => ∃ j : Int, r = .returned (.int .i64 j) ∧ OutS base w w' b s d (pairsP s.size 38 8 nx ⟨n, L, rest s k⟩) j) := Lib.hid ((pairs_and base b s m d nx hg he hk k n v L w h hn hl hm hbase hv).mono fun r w' hq => out_j hq)
  clear h hg he hk hn hl hm hbase hv
  go_enter Tryd.func21, Tryd.ntmps21
  go_wp2_with (go_at_call 20; refine HC.out.mono ?_; rintro r w2 ⟨j, rfl, hq⟩; have HQ := Lib.hid hq; clear hq)
  go_ret
  exact out_of HQ.out

set_option maxRecDepth 100000 in
set_option maxHeartbeats 4000000 in
theorem and_err (base b : Nat) (s : ByteArray) (he : RdE base b s 30) : RdE base b s 21 := by
  unfold RdE
  intro k d n v L e a w h h0 hbase
  have HC : Hid (Calls Tryd.prog 30 #[ptr b] w fun r w' => ∃ j : Int, r = .returned (.int .i64 j) ∧ OutS base w w' b s 0 (.error (e, a)) j) := Lib.hid ((he k d n v L e a w h h0 hbase).mono fun r w' hq => out_j hq)
  have HP : Hid (Calls Tryd.prog 20 #[ptr b, .string ⟨#[38]⟩, .int .i64 8, .func (.func 30) #[ptr b] #[]] w fun r w' => ∃ j : Int, r = .returned (.int .i64 j) ∧ OutS base w w' b s 0 (.error (e, a)) j) := Lib.hid (by
    have t1 : (e == 0) = false := by simpa using h0
    clear h he hbase
    go_enter Tryd.func20, Tryd.ntmps20
    go_upto_region 2 with (go_at_call 30; refine HC.out.mono ?_; rintro r w2 ⟨j, rfl, hq⟩; have HQ := Lib.hid hq; clear hq)
    go_loopw [9] (fun s9 wr => ∃ j : Int, s9 = .int .i64 j ∧ Hid (OutS base w wr b s 0 (.error (e, a)) j)) (fun _ wr => 0)
    case atStart => exact ⟨j, rfl, HQ⟩
    case round =>
      clear HQ
      obtain ⟨left, rfl, hps⟩ := hrel
      obtain ⟨⟨k6, d6, n6, v6, L6, hp6⟩, hb6⟩ := hps.out
      simp only at hp6
      have c5 := hp6.c5
      have c6 := hp6.c6
      clear hp6 hb6
      go_wp2
      go_ret
      exact ⟨left, rfl, hps.out⟩)
  clear HC h h0 he hbase
  go_enter Tryd.func21, Tryd.ntmps21
  go_wp2_with (go_at_call 20; refine HP.out.mono ?_; rintro r w2 ⟨j, rfl, hq⟩; have HQ := Lib.hid hq; clear hq)
  go_ret
  exact out_of HQ.out

set_option maxRecDepth 100000 in
set_option maxHeartbeats 4000000 in
theorem or_any (base b : Nat) (s : ByteArray) (m d : Nat) (nx : Ps → PR) (hg : Rd base b s m 21 d nx) (he : RdE base b s 21) (hk : Kp s.size m nx) : Rd base b s m 13 d (pairsP s.size 124 9 nx) := by
  unfold Rd
  intro k n v L w h hn hl hm hbase hv
  have HC : Hid (Calls Tryd.prog 20 #[ptr b, .string ⟨#[124]⟩, .int .i64 9, .func (.func 21) #[ptr b] #[]] w fun r w' => ∃ j : Int, r = .returned (.int .i64 j) ∧ OutS base w w' b s d (pairsP s.size 124 9 nx ⟨n, L, rest s k⟩) j) := Lib.hid ((pairs_or base b s m d nx hg he hk k n v L w h hn hl hm hbase hv).mono fun r w' hq => out_j hq)
  clear h hg he hk hn hl hm hbase hv
  go_enter Tryd.func13, Tryd.ntmps13
  go_wp2_with (go_at_call 20; refine HC.out.mono ?_; rintro r w2 ⟨j, rfl, hq⟩; have HQ := Lib.hid hq; clear hq)
  go_ret
  exact out_of HQ.out

set_option maxRecDepth 100000 in
set_option maxHeartbeats 4000000 in
theorem or_err (base b : Nat) (s : ByteArray) (he : RdE base b s 21) : RdE base b s 13 := by
  unfold RdE
  intro k d n v L e a w h h0 hbase
  have HC : Hid (Calls Tryd.prog 21 #[ptr b] w fun r w' => ∃ j : Int, r = .returned (.int .i64 j) ∧ OutS base w w' b s 0 (.error (e, a)) j) := Lib.hid ((he k d n v L e a w h h0 hbase).mono fun r w' hq => out_j hq)
  have HP : Hid (Calls Tryd.prog 20 #[ptr b, .string ⟨#[124]⟩, .int .i64 9, .func (.func 21) #[ptr b] #[]] w fun r w' => ∃ j : Int, r = .returned (.int .i64 j) ∧ OutS base w w' b s 0 (.error (e, a)) j) := Lib.hid (by
    have t1 : (e == 0) = false := by simpa using h0
    clear h he hbase
    go_enter Tryd.func20, Tryd.ntmps20
    go_upto_region 2 with (go_at_call 21; refine HC.out.mono ?_; rintro r w2 ⟨j, rfl, hq⟩; have HQ := Lib.hid hq; clear hq)
    go_loopw [9] (fun s9 wr => ∃ j : Int, s9 = .int .i64 j ∧ Hid (OutS base w wr b s 0 (.error (e, a)) j)) (fun _ wr => 0)
    case atStart => exact ⟨j, rfl, HQ⟩
    case round =>
      clear HQ
      obtain ⟨left, rfl, hps⟩ := hrel
      obtain ⟨⟨k6, d6, n6, v6, L6, hp6⟩, hb6⟩ := hps.out
      simp only at hp6
      have c5 := hp6.c5
      have c6 := hp6.c6
      clear hp6 hb6
      go_wp2
      go_ret
      exact ⟨left, rfl, hps.out⟩)
  clear HC h h0 he hbase
  go_enter Tryd.func13, Tryd.ntmps13
  go_wp2_with (go_at_call 20; refine HP.out.mono ?_; rintro r w2 ⟨j, rfl, hq⟩; have HQ := Lib.hid hq; clear hq)
  go_ret
  exact out_of HQ.out

theorem out_trans {base : Nat} {w w1 w' : World} {b : Nat} {s : ByteArray} {d : Int} {R : PR} {r : Ending} (h1 : Below base w w1) (h : Out base w1 w' b s d R r) : Out base w w' b s d R r := by
  cases R with
  | ok q => exact ⟨h.1, h.2.1, h1.trans h.2.2⟩
  | error e => exact ⟨h.1, h.2.1, h1.trans h.2.2⟩

set_option maxRecDepth 100000 in
set_option maxHeartbeats 2000000 in
theorem not_err (base b : Nat) (s : ByteArray) : RdE base b s 30 := by
  unfold RdE
  intro k d n v L e a w h h0 hbase
  have H := Lib.hid h
  have HBS := Lib.hid hbase
  have t1 : (e == 0) = false := by simpa using h0
  clear h hbase
  go_enter Tryd.func30, Tryd.ntmps30
  go_upto_region 2 with (go_at_call 14; refine (blanks_any base b s k d n v L e a _ H.out).mono ?_; rintro r w2 ⟨rfl, h2, hf⟩; have H2 := Lib.hid h2; have HO2 : Hid (Onb b w w2) := Lib.hid hf; clear h2 hf)
  have c1 := H2.out.c1
  have c5 := H2.out.c5
  have c6 := H2.out.c6
  go_wp2
  go_ret
  exact out_err rfl H2.out (onb_below HO2.out H.out.hb HBS.out) _

end Go.Proofs.YtjjaaooiajmclaaDoor.Ru
