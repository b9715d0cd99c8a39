/- , laid together: MsBk, MsBkL, MsLives, Pick, MsBrk. -/
import Derived.Test.YtopkfomlppnpeaaGreatDoorMsRead
import Derived.Test.YtopkfomlppnpeaaGreatDoorMsFrm
import Derived.Test.YtopkfomlppnpeaaGreatDoorMFt
import Derived.Test.YtopkfomlppnpeaaGreatDoorMSame
import Derived.Test.YtopkfomlppnpeaaGreatDoorMFr
import Derived.Test.YtopkfomlppnpeaaGreatDoorLib2
import Derived.Deep.RegionHeld3
namespace Go.Proofs.YtopkfomlppnpeaaGreatDoor.Ms
open Go.RowKit Go.Proofs.YtopkfomlppnpeaaGreatDoor

end Go.Proofs.YtopkfomlppnpeaaGreatDoor.Ms

namespace Go.Proofs.YtopkfomlppnpeaaGreatDoor.Ms
open Go.RowKit Go.Proofs.YtopkfomlppnpeaaGreatDoor

/-- a letter that is cut is short, one that is turned is bad -/
structure Brk (rd : List UInt8 → Nat) (l : List UInt8) : Prop where
  lo : 12 ≤ l.length
  hi : l.length ≤ 2000000
  cut : ∀ i, i < l.length → rd (l.take i) = 4
  turn : ∀ j (hj : j < l.length) (c : UInt8), c ≠ l[j] → rd (l.set j c) = 5
end Go.Proofs.YtopkfomlppnpeaaGreatDoor.Ms

namespace Go.Proofs.YtopkfomlppnpeaaGreatDoor.Ms
open Go.RowKit Go.Proofs.YtopkfomlppnpeaaGreatDoor

def pl1 : Po := ⟨1, 1, 0, 0, 5, [], [], [], 0⟩
def bp1 : List UInt8 := frm 3 (bodyP pl1)
theorem bp1_len : bp1.length = 21 := by kernel_rfl
theorem chk1 : checkP pl1 = true := by kernel_rfl
theorem readP1 : readP bp1 = (pl1, 0) := by kernel_rfl
theorem opn1 : (opn bp1 [3, 4]).1 = 3 ∧ (opn bp1 [3, 4]).2.2 = 0 := ⟨by kernel_rfl, by kernel_rfl⟩
theorem rd_nil (w : World) : Rd w (.slice none 0 0) [] := ⟨none, 0, rfl, Nat.le_refl _, by unfold maxLen; omega, rfl, bytes_one _, fun _ => ⟨rfl, rfl⟩, .inl rfl⟩
theorem row_nil (w : World) (n : Nat) : Row w (.slice none 0 0) n 0 [] := ⟨none, 0, rfl, Nat.le_refl _, by unfold maxLen; omega, by simp, fun u hu => by simp at hu, fun _ => ⟨rfl, rfl⟩, .inl rfl⟩
theorem pow1 (w : World) : PoW w pl1 (.slice none 0 0) (.slice none 0 0) (.slice none 0 0) := ⟨fun x hx => by simp [pl1] at hx, fun x hx => by simp [pl1] at hx, fun x hx => by simp [pl1] at hx, by unfold u64B i64B pl1; simp, row_nil w 5, row_nil w 8, row_nil w 3, fun x hx => by simp [pl1] at hx, fun x hx => by simp [pl1] at hx, fun x hx => by simp [pl1] at hx⟩
set_option maxRecDepth 100000 in
set_option maxHeartbeats 2000000 in
theorem plain_any (w : World) : Calls Tryz.prog 8 #[] w fun e w' => e = .returned (.agg #[.int .u64 1, .int .u64 1, .int .u64 0, .int .i64 0, .int .i64 5, .slice none 0 0, .slice none 0 0, .slice none 0 0, .int .u64 0]) ∧ Below w.heap.size w w' := by
  obtain ⟨X, hX⟩ : ∃ X, X = w.heap.size := ⟨_, rfl⟩
  obtain ⟨w1, hw1⟩ : ∃ w1, w1 = w.alloc (.cells #[.int .u64 0, .int .u64 0, .int .u64 0, .int .i64 0, .int .i64 0, .slice none 0 0, .slice none 0 0, .slice none 0 0, .int .u64 0] 32) := ⟨_, rfl⟩
  have HX : Hid (Blk w1 X [.int .u64 0, .int .u64 0, .int .u64 0, .int .i64 0, .int .i64 0, .slice none 0 0, .slice none 0 0, .slice none 0 0, .int .u64 0] 32) := Lib.hid (by rw [hw1, hX]; exact Blk.made w [.int .u64 0, .int .u64 0, .int .u64 0, .int .i64 0, .int .i64 0, .slice none 0 0, .slice none 0 0, .slice none 0 0, .int .u64 0] _)
  have HB : Hid (Below w.heap.size w w1) := Lib.hid (by rw [hw1]; exact below_alloc _ _)
  have HXE := Lib.hid hX
  go_enter Tryz.func8, Tryz.ntmps8
  go_upto_region 1 with fail
  rw [← hw1, ← hX]
  clear hw1 hX
  have f0 := HX.out.free 0
  have f1 := HX.out.free 1
  have f2 := HX.out.free 2
  have f3 := HX.out.free 3
  have f4 := HX.out.free 4
  have f5 := HX.out.free 5
  have f6 := HX.out.free 6
  have f7 := HX.out.free 7
  have f8 := HX.out.free 8
  have y0 := HX.out.cell (j := 0) rfl
  have y1 := HX.out.cell (j := 1) rfl
  have y2 := HX.out.cell (j := 2) rfl
  have y3 := HX.out.cell (j := 3) rfl
  have y4 := HX.out.cell (j := 4) rfl
  have y5 := HX.out.cell (j := 5) rfl
  have y6 := HX.out.cell (j := 6) rfl
  have y7 := HX.out.cell (j := 7) rfl
  have y8 := HX.out.cell (j := 8) rfl
  go_wp2
  refine ret_cell1 rfl rfl rfl (Blk.set (Blk.set (Blk.set (Blk.set (Blk.set (Blk.set (Blk.set (Blk.set (Blk.set HX.out 0 (.int .u64 1)) 1 (.int .u64 1)) 2 (.int .u64 0)) 3 (.int .i64 0)) 4 (.int .i64 5)) 5 (.slice none 0 0)) 6 (.slice none 0 0)) 7 (.slice none 0 0)) 8 (.int .u64 0)) Tryz.underlying32 rfl (by kernel_rfl) ?_
  exact ⟨rfl, (frp_setX (frp_setX (frp_setX (frp_setX (frp_setX (frp_setX (frp_setX (frp_setX (frp_setX (Frp.of_below HB.out (fun k => k = X)) 0 (.int .u64 1)) 1 (.int .u64 1)) 2 (.int .u64 0)) 3 (.int .i64 0)) 4 (.int .i64 5)) 5 (.slice none 0 0)) 6 (.slice none 0 0)) 7 (.slice none 0 0)) 8 (.int .u64 0)).below (fun k hk => by rw [hk, HXE.out]; exact Nat.le_refl _) (Nat.le_refl _)⟩
set_option maxRecDepth 100000 in
set_option maxHeartbeats 4000000 in
theorem lives_any (w : World) (hE : ErrV w) : Calls Tryz.prog 6 #[] w fun e w' => e = .returned (.bool true) ∧ Below w.heap.size w w' := by
  have HEV := Lib.hid hE
  clear hE
  go_enter Tryz.func6, Tryz.ntmps6
  go_upto_region 2 with (first | (go_at_call 7; refine (appendP_yes pl1 _ _ _ _ [] _ (pow1 w2) (HEV.out.below HB2.out) chk1 (rd_nil _) (by simp)).mono ?_; rintro e w3 ⟨v3, rfl, hf, hb⟩; have HB3 := Lib.hid (below_and HB2.out hb); obtain ⟨p3, c3, e3⟩ : ∃ p c, v3 = .slice p 21 c := (by obtain ⟨p, c, h9⟩ := fresh_slice hf; exact ⟨p, c, h9.trans (congrArg (fun n => Value.slice p n c) bp1_len)⟩); subst e3; have HF3 : Hid (Rd w3 (.slice p3 21 c3) bp1) := Lib.hid (by have h9 := hf.rd; exact h9); clear hf hb) | (go_at_call 8; refine (plain_any _).mono ?_; rintro e w2 ⟨rfl, hb⟩; have HB2 := Lib.hid hb; clear hb))
  have HRD := Lib.hid ((readP_any _ bp1 w3 HF3.out (by rw [bp1_len]; omega) (HEV.out.below HB3.out)).mono (R' := fun e w' => ∃ pk ck pt ct ps cs, e = .returned (.tuple #[.agg #[.int .u64 1, .int .u64 1, .int .u64 0, .int .i64 0, .int .i64 5, .slice pk 0 ck, .slice pt 0 ct, .slice ps 0 cs, .int .u64 0], .int .i64 0]) ∧ PoW w' pl1 (.slice pk 0 ck) (.slice pt 0 ct) (.slice ps 0 cs) ∧ Below w3.heap.size w3 w') fun e w' h9 => by
    unfold readPF at h9
    rw [readP1] at h9
    obtain ⟨h1, -, h3⟩ := h9
    obtain ⟨vk, vt, vs, h4, h5⟩ := h3 rfl
    obtain ⟨pk, ck, rfl, -⟩ := row_el h5.k
    obtain ⟨pt, ct, rfl, -⟩ := row_el h5.t
    obtain ⟨ps, cs, rfl, -⟩ := row_el h5.s
    exact ⟨pk, ck, pt, ct, ps, cs, h4, h5, h1⟩)
  go_upto_region 3 with (go_at_call 19; refine HRD.out.mono ?_; rintro e w4 ⟨pk, ck, pt, ct, ps, cs, rfl, hp, hb⟩; have HB34 := Lib.hid hb; have HP4 := Lib.hid hp; have HB4 := Lib.hid (below_and HB3.out hb); clear hb hp)
  obtain ⟨X, hX⟩ : ∃ X, X = w4.heap.size := ⟨_, rfl⟩
  obtain ⟨w5, hw5⟩ : ∃ w5, w5 = w4.alloc (.cells #[.int .u64 1, .int .u64 1, .int .u64 0, .int .i64 0, .int .i64 5, .slice pk 0 ck, .slice pt 0 ct, .slice ps 0 cs, .int .u64 0] 32) := ⟨_, rfl⟩
  have HX5 : Hid (Blk w5 X [.int .u64 1, .int .u64 1, .int .u64 0, .int .i64 0, .int .i64 5, .slice pk 0 ck, .slice pt 0 ct, .slice ps 0 cs, .int .u64 0] 32) := Lib.hid (by rw [hw5, hX]; exact Blk.made w4 [.int .u64 1, .int .u64 1, .int .u64 0, .int .i64 0, .int .i64 5, .slice pk 0 ck, .slice pt 0 ct, .slice ps 0 cs, .int .u64 0] _)
  have HB45 : Hid (Below w4.heap.size w4 w5) := Lib.hid (by rw [hw5]; exact below_alloc _ _)
  have HB5 := Lib.hid (below_and HB4.out HB45.out)
  have HP5 := Lib.hid (HP4.out.below HB45.out)
  rw [← hw5, ← hX]
  clear hw5 hX
  have HK5 := Lib.hid ((kind_any _ bp1 w5 ((HF3.out.below HB34.out).below HB45.out) (by rw [bp1_len]; omega)).mono (R' := fun e w' => e = .returned (.tuple #[.int .u8 3, .int .i64 0]) ∧ Below w5.heap.size w5 w') fun e w' h9 => by rw [opn1.1, opn1.2] at h9; exact h9)
  go_upto_region 4 with (go_at_call 23; refine HK5.out.mono ?_; rintro e w6 ⟨rfl, hb⟩; have HB56 := Lib.hid hb; clear hb)
  have HX6 := Lib.hid (HX5.out.kept HB56.out)
  have HB6 := Lib.hid (below_and HB5.out HB56.out)
  have HP6 := Lib.hid (HP5.out.below HB56.out)
  have p0 := Past.blk HX6.out (j := 0) rfl
  have p1 := Past.blk HX6.out (j := 1) rfl
  have p2 := Past.blk HX6.out (j := 2) rfl
  have p3 := Past.blk HX6.out (j := 3) rfl
  have p4 := Past.blk HX6.out (j := 4) rfl
  have p5 := Past.blk HX6.out (j := 5) rfl
  have p6 := Past.blk HX6.out (j := 6) rfl
  have p7 := Past.blk HX6.out (j := 7) rfl
  have p8 := Past.blk HX6.out (j := 8) rfl
  have HPL : Hid (∀ s : Past w6, Calls Tryz.prog 8 #[] s.val fun e w' => e = .returned (.agg #[.int .u64 1, .int .u64 1, .int .u64 0, .int .i64 0, .int .i64 5, .slice none 0 0, .slice none 0 0, .slice none 0 0, .int .u64 0]) ∧ Below s.val.heap.size s.val w') := Lib.hid (fun s => plain_any s.val)
  have HSM : Hid (∀ s : Past w6, Calls Tryz.prog 21 #[.agg #[.int .u64 1, .int .u64 1, .int .u64 0, .int .i64 0, .int .i64 5, .slice pk 0 ck, .slice pt 0 ct, .slice ps 0 cs, .int .u64 0], .agg #[.int .u64 1, .int .u64 1, .int .u64 0, .int .i64 0, .int .i64 5, .slice none 0 0, .slice none 0 0, .slice none 0 0, .int .u64 0]] s.val fun e w' => e = .returned (.bool true) ∧ Below s.val.heap.size s.val w') := Lib.hid (fun s => sameP_any pl1 _ _ _ _ _ _ s.val (HP6.out.below s.h) (pow1 _) (by simp [pl1]) (by simp [pl1]) (by simp [pl1]))
  refine wp_region_past (by kernel_rfl) (by kernel_rfl) ?_
  repeat (go_big_quiet_step (first | (go_at_call 21; exact past_call (HSM.out _)) | (go_at_call 8; exact past_call (HPL.out _))))
  refine wpQuiet_nil ?_
  intro _ hw'
  obtain ⟨s9, hw''⟩ := hw'
  subst hw''
  obtain ⟨w9, h9, e9⟩ : ∃ w9, Below w6.heap.size w6 w9 ∧ w9 = s9.val := ⟨_, s9.h, rfl⟩
  rw [← e9]
  have HB9 := Lib.hid (below_and HB6.out h9)
  go_wp2
  go_ret
  exact ⟨rfl, HB9.out⟩
end Go.Proofs.YtopkfomlppnpeaaGreatDoor.Ms

namespace Go.Proofs.YtopkfomlppnpeaaGreatDoor
open Go.RowKit

end Go.Proofs.YtopkfomlppnpeaaGreatDoor

namespace Go.Proofs.YtopkfomlppnpeaaGreatDoor.Ms
open Go.RowKit Go.Proofs.YtopkfomlppnpeaaGreatDoor

set_option maxRecDepth 100000 in
set_option maxHeartbeats 4000000 in
theorem smallPR_any (p : Po) (r : Rp) (q0 q1 q2 q3 q4 q5 : Option Addr) (n0 c0 n1 c1 n2 c2 n3 c3 n4 c4 n5 c5 : Nat) (w : World) (z : Bool) (hz : z = decide (n0 ≤ 300 ∧ n1 ≤ 300 ∧ n2 ≤ 300 ∧ n3 ≤ 300 ∧ n4 ≤ 300 ∧ n5 ≤ 300)) : Calls Tryz.prog 10 #[.agg #[.int .u64 p.ep, .int .u64 p.sq, .int .u64 p.bo, .int .i64 p.at_, .int .i64 p.le, .slice q0 n0 c0, .slice q1 n1 c1, .slice q2 n2 c2, .int .u64 p.se], .agg #[.int .u64 r.ep, .int .u64 r.sq, .int .u64 r.bo, .int .i64 r.at_, .slice q3 n3 c3, .slice q4 n4 c4, .slice q5 n5 c5]] w fun e w' => e = .returned (.bool z) ∧ Below w.heap.size w w' := by
  obtain ⟨X, hX⟩ : ∃ X, X = w.heap.size := ⟨_, rfl⟩
  obtain ⟨w2, hw2⟩ : ∃ w2, w2 = (w.alloc (.cells #[.int .u64 p.ep, .int .u64 p.sq, .int .u64 p.bo, .int .i64 p.at_, .int .i64 p.le, .slice q0 n0 c0, .slice q1 n1 c1, .slice q2 n2 c2, .int .u64 p.se] 32)).alloc (.cells #[.int .u64 r.ep, .int .u64 r.sq, .int .u64 r.bo, .int .i64 r.at_, .slice q3 n3 c3, .slice q4 n4 c4, .slice q5 n5 c5] 44) := ⟨_, rfl⟩
  have HX : Hid (Blk w2 X [.int .u64 p.ep, .int .u64 p.sq, .int .u64 p.bo, .int .i64 p.at_, .int .i64 p.le, .slice q0 n0 c0, .slice q1 n1 c1, .slice q2 n2 c2, .int .u64 p.se] 32) := Lib.hid (by rw [hw2, hX]; exact (Blk.made w [.int .u64 p.ep, .int .u64 p.sq, .int .u64 p.bo, .int .i64 p.at_, .int .i64 p.le, .slice q0 n0 c0, .slice q1 n1 c1, .slice q2 n2 c2, .int .u64 p.se] _).alloc _)
  have HY : Hid (Blk w2 (X + 1) [.int .u64 r.ep, .int .u64 r.sq, .int .u64 r.bo, .int .i64 r.at_, .slice q3 n3 c3, .slice q4 n4 c4, .slice q5 n5 c5] 44) := Lib.hid (by rw [hw2, hX]; have := Blk.made (w.alloc (.cells #[.int .u64 p.ep, .int .u64 p.sq, .int .u64 p.bo, .int .i64 p.at_, .int .i64 p.le, .slice q0 n0 c0, .slice q1 n1 c1, .slice q2 n2 c2, .int .u64 p.se] 32)) [.int .u64 r.ep, .int .u64 r.sq, .int .u64 r.bo, .int .i64 r.at_, .slice q3 n3 c3, .slice q4 n4 c4, .slice q5 n5 c5] 44; simpa using this)
  have HB : Hid (Below w.heap.size w w2) := Lib.hid (by rw [hw2]; exact below_and (below_alloc _ _) (below_alloc _ _))
  have hs1 : (w.alloc (.cells #[.int .u64 p.ep, .int .u64 p.sq, .int .u64 p.bo, .int .i64 p.at_, .int .i64 p.le, .slice q0 n0 c0, .slice q1 n1 c1, .slice q2 n2 c2, .int .u64 p.se] 32)).heap.size = X + 1 := by rw [hX]; simp
  go_enter Tryz.func10, Tryz.ntmps10
  go_upto_region 1 with fail
  (try rw [hs1])
  rw [← hw2, ← hX]
  clear hw2 hX hs1
  have x5 := HX.out.cell (j := 5) rfl
  have x6 := HX.out.cell (j := 6) rfl
  have x7 := HX.out.cell (j := 7) rfl
  have y4 := HY.out.cell (j := 4) rfl
  have y5 := HY.out.cell (j := 5) rfl
  have y6 := HY.out.cell (j := 6) rfl
  by_cases g0 : n0 ≤ 300
  rotate_left
  · have d0 : ¬ (n0 : Int) ≤ 300 := by omega
    obtain rfl : z = false := by rw [hz]; simp; omega
    clear hz
    go_wp2
    go_ret
    exact ⟨rfl, HB.out⟩
  have d0 : (n0 : Int) ≤ 300 := by omega
  by_cases g1 : n1 ≤ 300
  rotate_left
  · have d1 : ¬ (n1 : Int) ≤ 300 := by omega
    obtain rfl : z = false := by rw [hz]; simp; omega
    clear hz
    go_wp2
    go_ret
    exact ⟨rfl, HB.out⟩
  have d1 : (n1 : Int) ≤ 300 := by omega
  by_cases g2 : n2 ≤ 300
  rotate_left
  · have d2 : ¬ (n2 : Int) ≤ 300 := by omega
    obtain rfl : z = false := by rw [hz]; simp; omega
    clear hz
    go_wp2
    go_ret
    exact ⟨rfl, HB.out⟩
  have d2 : (n2 : Int) ≤ 300 := by omega
  by_cases g3 : n3 ≤ 300
  rotate_left
  · have d3 : ¬ (n3 : Int) ≤ 300 := by omega
    obtain rfl : z = false := by rw [hz]; simp; omega
    clear hz
    go_wp2
    go_ret
    exact ⟨rfl, HB.out⟩
  have d3 : (n3 : Int) ≤ 300 := by omega
  by_cases g4 : n4 ≤ 300
  rotate_left
  · have d4 : ¬ (n4 : Int) ≤ 300 := by omega
    obtain rfl : z = false := by rw [hz]; simp; omega
    clear hz
    go_wp2
    go_ret
    exact ⟨rfl, HB.out⟩
  have d4 : (n4 : Int) ≤ 300 := by omega
  by_cases g5 : n5 ≤ 300
  rotate_left
  · have d5 : ¬ (n5 : Int) ≤ 300 := by omega
    obtain rfl : z = false := by rw [hz]; simp; omega
    clear hz
    go_wp2
    go_ret
    exact ⟨rfl, HB.out⟩
  have d5 : (n5 : Int) ≤ 300 := by omega
  obtain rfl : z = true := by rw [hz]; simp; omega
  clear hz
  go_wp2
  go_ret
  exact ⟨rfl, HB.out⟩
end Go.Proofs.YtopkfomlppnpeaaGreatDoor.Ms
