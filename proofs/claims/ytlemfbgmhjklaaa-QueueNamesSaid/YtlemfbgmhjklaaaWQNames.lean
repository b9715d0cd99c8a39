/- The walk of QueueNames. -/
import Derived.Test.YtlemfbgmhjklaaaQLives
namespace Go.Proofs.Ytlemfbgmhjklaaa
open Go.RowKit

def pd0 : Pend := ⟨⟨#[100]⟩, 0, ⟨#[100, 97, 110]⟩, 1⟩
def qT1 : List MRow := [(pa0.key, [pa0, pa1]), (pb0.key, [pb0])]
def qT2 : List MRow := [(pb0.key, [pb0]), (pa0.key, [pa1])]
def qT3 : List MRow := [(pb0.key, [pb0]), (pa0.key, [pa1]), (pd0.key, [pd0])]
def qT4 : List MRow := [(pa0.key, [pa1]), (pd0.key, [pd0])]
def tb : Tid := (⟨#[98]⟩, 0)
theorem qn1 : headV exM = .tuple #[.agg #[.string ⟨#[99]⟩, .int .i64 0, .string ⟨#[99, 121]⟩, .int .i64 2], .bool true] ∧ takeM exM = qT1 := ⟨by kernel_rfl, by kernel_rfl⟩
theorem qn2 : headV qT1 = .tuple #[.agg #[.string ⟨#[97]⟩, .int .i64 0, .string ⟨#[97, 110, 110]⟩, .int .i64 1], .bool true] ∧ takeM qT1 = qT2 := ⟨by kernel_rfl, by kernel_rfl⟩
theorem qn3 : putE qT2 pd0 = 0 ∧ putS qT2 pd0 = qT3 := ⟨by kernel_rfl, by kernel_rfl⟩
theorem qn4 : allM qT3 = [pb0, pa1, pd0] := by kernel_rfl
theorem qn5 : toldS [pb0, pa1, pd0] = ⟨#[98, 48, 97, 49, 100, 48]⟩ := by kernel_rfl
theorem qn6 : (if hasM qT3 tb = true then (0 : Int) else 6) = 0 ∧ dropM qT3 tb = qT4 := ⟨by kernel_rfl, by kernel_rfl⟩
theorem qn7 : (if hasM qT4 tb = true then (0 : Int) else 6) = 6 ∧ dropM qT4 tb = qT4 := ⟨by kernel_rfl, by kernel_rfl⟩
theorem qn8 : headV qT4 = .tuple #[.agg #[.string ⟨#[97]⟩, .int .i64 1, .string ⟨#[97, 110, 110]⟩, .int .i64 1], .bool true] := by kernel_rfl

theorem Qm.keep {Q : Nat → Prop} {w w' : World} {b : Nat} {N : Int} {M : List MRow} (h : Qm w' b (fun k => Q k ∨ w.heap.size ≤ k) N M) (hQ : ∀ k, w.heap.size ≤ k → Q k) : Qm w' b Q N M :=
  h.mono (fun k hk _ => hk.elim id (hQ k))
theorem Blk.frp {Q : Nat → Prop} {w w' : World} {g : Nat} {cs : List Value} {t : TypeId} (h : Blk w g cs t) (hf : Frp Q w w') (hg : ¬ Q g) : Blk w' g cs t := by
  obtain ⟨S, hS, hS2⟩ := hf
  exact h.fr hS (fun hm => hg (hS2 _ hm))

set_option maxRecDepth 100000 in
set_option maxHeartbeats 2000000 in
theorem queueNames_walk (w : World) :
    Calls Try.prog 4 #[] w fun e w' => e = .returned (.bool true) ∧ Below w.heap.size w w' := by
  obtain ⟨ts, hts⟩ : ∃ ts, ts = toldS [pb0, pa1, pd0] := ⟨_, rfl⟩
  have tq : (ts.toList == [98, 48, 97, 49, 100, 48]) = true := by rw [hts, qn5]; kernel_rfl
  have HTS := Lib.hid hts
  clear hts
  go_enter Try.func4, Try.ntmps4
  go_upto_region 5 with (first
    | (go_at_call 8; refine (qlives _).mono ?_; rintro e w1 ⟨rfl, hb⟩; have HB1 := Lib.hid hb; clear hb)
    | (go_at_call 13; refine (example_any _).mono ?_; rintro e w2 ⟨b, rfl, hb1, hq, hb⟩; have HQ2 : Hid (Qm w2 b (fun k => w.heap.size ≤ k) 4 exM) := Lib.hid (hq.mono (fun k hk _ => Nat.le_trans HB1.out.size hk)); have HB2 := Lib.hid (below_and HB1.out hb); clear hq hb)
    | (go_at_call 14; refine (qtake_any b _ _ exM _ HQ2.out (by decide) (by decide)).mono ?_; rw [qn1.1, qn1.2]; rintro e w3 ⟨rfl, hq, hf⟩; have HQ3 := Lib.hid (hq.next HB2.out); have HB3 := Lib.hid (hf.next HB2.out); clear hq hf))
  obtain ⟨a, ha⟩ : ∃ a, a = w3.heap.size := ⟨_, rfl⟩
  obtain ⟨w4, hw4⟩ : ∃ w4, w4 = w3.alloc (.cells #[.string ⟨#[99]⟩, .int .i64 0, .string ⟨#[99, 121]⟩, .int .i64 2] 29) := ⟨_, rfl⟩
  have HA4 : Hid (Blk w4 a (pend pc0) 29) := Lib.hid (by rw [hw4, ha]; exact Blk.made w3 (pend pc0) _)
  have HB4 : Hid (Below w.heap.size w w4) := Lib.hid (by rw [hw4]; exact below_and HB3.out (below_alloc w3 _))
  have HQ4 : Hid (Qm w4 b (fun k => w.heap.size ≤ k ∧ k ≠ a) 5 qT1) := Lib.hid (by
    rw [hw4]
    exact (HQ3.out.mono (Q := (fun k => w.heap.size ≤ k ∧ k ≠ a)) (fun k hk hlt => ⟨hk, by omega⟩)).kept (below_alloc w3 _))
  have hal : a < w4.heap.size := HA4.out.lt
  rw [← hw4, ← ha]
  clear hw4 ha
  go_upto_region 6 with (go_at_call 14; refine (qtake_any b _ _ qT1 _ HQ4.out (by decide) (by decide)).mono ?_; rw [qn2.1, qn2.2]; rintro e w5 ⟨rfl, hq, hf⟩; have HQ5 := Lib.hid (hq.keep (Q := (fun k => w.heap.size ≤ k ∧ k ≠ a)) (fun k hk => ⟨Nat.le_trans HB4.out.size hk, by omega⟩)); have HB5 : Hid (Below w.heap.size w w5) := Lib.hid (HB4.out.trans (hf.below (fun _ h => h.1) HB4.out.size)); have HA5 := Lib.hid (HA4.out.frp hf (fun h => h.2 rfl)); clear hq hf)
  obtain ⟨c, hc⟩ : ∃ c, c = w5.heap.size := ⟨_, rfl⟩
  obtain ⟨w6, hw6⟩ : ∃ w6, w6 = w5.alloc (.cells #[.string ⟨#[97]⟩, .int .i64 0, .string ⟨#[97, 110, 110]⟩, .int .i64 1] 29) := ⟨_, rfl⟩
  have HC6 : Hid (Blk w6 c (pend pa0) 29) := Lib.hid (by rw [hw6, hc]; exact Blk.made w5 (pend pa0) _)
  have HA6 : Hid (Blk w6 a (pend pc0) 29) := Lib.hid (by rw [hw6]; exact HA5.out.alloc _)
  have HB6 : Hid (Below w.heap.size w w6) := Lib.hid (by rw [hw6]; exact below_and HB5.out (below_alloc w5 _))
  have HQ6 : Hid (Qm w6 b (fun k => w.heap.size ≤ k ∧ k ≠ a ∧ k ≠ c) 6 qT2) := Lib.hid (by
    rw [hw6]
    exact (HQ5.out.mono (Q := (fun k => w.heap.size ≤ k ∧ k ≠ a ∧ k ≠ c)) (fun k hk hlt => ⟨hk.1, hk.2, by omega⟩)).kept (below_alloc w5 _))
  have hal6 := HA6.out.lt
  have hcl6 := HC6.out.lt
  rw [← hw6, ← hc]
  clear hw6 hc hal
  have e0 := HA6.out.cell (j := 0) (u := .string ⟨#[99]⟩) rfl
  have e1 := HC6.out.cell (j := 0) (u := .string ⟨#[97]⟩) rfl
  go_upto_region 7 with (first
    | (go_at_call 15; refine (p_any _ _ _ _ _).mono ?_; rintro e w7 ⟨rfl, hb⟩; have HQ7 := Lib.hid (HQ6.out.kept hb); have HB7 := Lib.hid (below_and HB6.out hb); have hal7 := Nat.lt_of_lt_of_le hal6 hb.size; have hcl7 := Nat.lt_of_lt_of_le hcl6 hb.size; clear hb)
    | (go_at_call 10; refine (qput_any b _ _ qT2 pd0 _ HQ7.out (by decide) (by decide)).mono ?_; rw [qn3.1, qn3.2]; rintro e w8 ⟨rfl, hq, hf⟩; have HQ8 := Lib.hid (hq.keep (Q := (fun k => w.heap.size ≤ k ∧ k ≠ a ∧ k ≠ c)) (fun k hk => ⟨Nat.le_trans HB7.out.size hk, by omega, by omega⟩)); have HB8 : Hid (Below w.heap.size w w8) := Lib.hid (HB7.out.trans (hf.below (fun _ h => h.1) HB7.out.size)); clear hq hf)
    | (go_at_call 11; refine (all_any b _ _ qT3 _ HQ8.out (by decide) (by decide)).mono ?_; rw [qn4]; rintro e w9 ⟨o, rfl, ho, hb⟩; have HO9 := Lib.hid ho; have HQ9 := Lib.hid (HQ8.out.kept hb); have HB9 := Lib.hid (below_and HB8.out hb); clear ho hb)
    | (go_at_call 16; refine (told_any _ _ [pb0, pa1, pd0] _ HO9.out (by decide) (by decide)).mono ?_; rw [← HTS.out]; rintro e w10 ⟨rfl, hb⟩; have HQ10 := Lib.hid (HQ9.out.kept hb); have HB10 := Lib.hid (below_and HB9.out hb); clear hb))
  clear e0 e1
  go_upto_region 8 with (first
    | (go_at_call 17; refine (qdrop_any b _ _ qT4 tb _ HQ11.out (by decide)).mono ?_; rw [qn7.1, qn7.2]; rintro e w12 ⟨rfl, hq, hf⟩; have HQ12 := Lib.hid (hq.next HB11.out); have HB12 := Lib.hid (hf.next HB11.out); clear hq hf)
    | (go_at_call 17; refine (qdrop_any b _ _ qT3 tb _ HQ10.out (by decide)).mono ?_; rw [qn6.1, qn6.2]; rintro e w11 ⟨rfl, hq, hf⟩; have HQ11 := Lib.hid (hq.mono (Q := fun k => w.heap.size ≤ k) (fun k hk _ => hk.elim (fun h => h.1) (fun h => Nat.le_trans HB10.out.size h))); have HB11 : Hid (Below w.heap.size w w11) := Lib.hid (HB10.out.trans (hf.below (fun _ h => h.1) HB10.out.size)); clear hq hf))
  go_wp2_with (first
    | (go_at_call 18; refine (qpeek_any b _ _ qT4 _ HQ12.out).mono ?_; rw [qn8]; rintro e w13 ⟨rfl, hb⟩; have HQ13 := Lib.hid (HQ12.out.kept (below_and hb (below_alloc w13 (.cells #[.string ⟨#[97]⟩, .int .i64 1, .string ⟨#[97, 110, 110]⟩, .int .i64 1] 29)))); have HB13 := Lib.hid (below_and HB12.out (below_and hb (below_alloc w13 (.cells #[.string ⟨#[97]⟩, .int .i64 1, .string ⟨#[97, 110, 110]⟩, .int .i64 1] 29)))); clear hb)
    | (go_at_call 19; refine (qlen_any b _ _ qT4 _ HQ13.out (by decide)).mono ?_; rw [show (flatM qT4).length = 2 from rfl]; rintro e w14 ⟨rfl, rfl⟩))
  go_ret
  exact ⟨rfl, HB13.out⟩
end Go.Proofs.Ytlemfbgmhjklaaa
