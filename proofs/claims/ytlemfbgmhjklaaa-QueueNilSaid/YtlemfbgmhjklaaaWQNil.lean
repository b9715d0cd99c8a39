/- The walk of QueueNil. -/
import Derived.Test.YtlemfbgmhjklaaaQOff
import Derived.Test.YtlemfbgmhjklaaaOpen5
namespace Go.Proofs.Ytlemfbgmhjklaaa
open Go.RowKit

/-- the act's box and both queues, in a later world -/
structure Kn (w0 : World) (B : Nat) (k : Int) (j : ByteArray) (i : Int) (u : ByteArray) (d : Int) (w : World) : Prop where
  blk : Blk w B [.int .i64 k, .string j, .int .i64 i, .string u, .int .i64 d] 48
  q : Blk w (B + 1) [.slice none 0 0, .int .u64 0, .bool false] 57
  l : Blk w (B + 1 + 1) [.pointer none, .pointer (some ⟨B + 1, 0, none⟩)] 24
  bel : Below w0.heap.size w0 w
theorem Kn.next {w0 : World} {B : Nat} {k : Int} {j : ByteArray} {i : Int} {u : ByteArray} {d : Int} {w w' : World} (h : Kn w0 B k j i u d w) (hb : Below w.heap.size w w') : Kn w0 B k j i u d w' :=
  ⟨h.blk.kept hb, h.q.kept hb, h.l.kept hb, below_and h.bel hb⟩
section
variable {w0 : World} {B : Nat} {k : Int} {j : ByteArray} {i : Int} {u : ByteArray} {d : Int} {w : World}
theorem Kn.b1 (h : Kn w0 B k j i u d w) : w.cell? ⟨B, 1, none⟩ = some (.string j) := h.blk.cell (j := 1) rfl
theorem Kn.b2 (h : Kn w0 B k j i u d w) : w.cell? ⟨B, 2, none⟩ = some (.int .i64 i) := h.blk.cell (j := 2) rfl
theorem Kn.b3 (h : Kn w0 B k j i u d w) : w.cell? ⟨B, 3, none⟩ = some (.string u) := h.blk.cell (j := 3) rfl
theorem Kn.b4 (h : Kn w0 B k j i u d w) : w.cell? ⟨B, 4, none⟩ = some (.int .i64 d) := h.blk.cell (j := 4) rfl
theorem Kn.l0 (h : Kn w0 B k j i u d w) : w.cell? ⟨B + 1 + 1, 0, none⟩ = some (.pointer none) := h.l.cell (j := 0) rfl
theorem Kn.l1 (h : Kn w0 B k j i u d w) : w.cell? ⟨B + 1 + 1, 1, none⟩ = some (.pointer (some ⟨B + 1, 0, none⟩)) := h.l.cell (j := 1) rfl
theorem Kn.n0 (_ : Kn w0 B k j i u d w) : Nq w (.pointer none) := .inl rfl
theorem Kn.n1 (h : Kn w0 B k j i u d w) : Nq w (ptr (B + 1)) := .inr ⟨_, rfl, h.q⟩
end

set_option maxRecDepth 100000 in
set_option maxHeartbeats 2000000 in
theorem queueNil_go (k i d : Int) (j u : ByteArray) (w : World) :
    Calls Try.prog 6 #[.agg #[.int .i64 k, .string j, .int .i64 i, .string u, .int .i64 d]] w fun e w' => e = .returned (.bool true) ∧ Below w.heap.size w w' := by
  go_enter Try.func6, Try.ntmps6
  obtain ⟨w3, hw3⟩ : ∃ w3, w3 = (((w.alloc (.cells #[.int .i64 k, .string j, .int .i64 i, .string u, .int .i64 d] 48)).alloc (.cells #[.slice none 0 0, .int .u64 0, .bool false] 57)).alloc (.cells #[.pointer none, .pointer (some ⟨w.heap.size + 1, 0, none⟩)] 24)) := ⟨_, rfl⟩
  have K0 : Hid (Kn w w.heap.size k j i u d w3) := Lib.hid (by
    rw [hw3]
    refine ⟨((Blk.made w [.int .i64 k, .string j, .int .i64 i, .string u, .int .i64 d] _).alloc _).alloc _, ?_, ?_, below_and (below_and (below_alloc w _) (below_alloc _ _)) (below_alloc _ _)⟩
    · have := (Blk.made (w.alloc (.cells #[.int .i64 k, .string j, .int .i64 i, .string u, .int .i64 d] 48)) [.slice none 0 0, .int .u64 0, .bool false] 57).alloc (.cells #[.pointer none, .pointer (some ⟨w.heap.size + 1, 0, none⟩)] 24)
      simpa using this
    · have := Blk.made ((w.alloc (.cells #[.int .i64 k, .string j, .int .i64 i, .string u, .int .i64 d] 48)).alloc (.cells #[.slice none 0 0, .int .u64 0, .bool false] 57)) [.pointer none, .pointer (some ⟨w.heap.size + 1, 0, none⟩)] 24
      simpa using this)
  obtain ⟨B, hB⟩ : ∃ B, B = w.heap.size := ⟨_, rfl⟩
  go_wp2
  rw [← hw3]
  rw [← hB] at K0 ⊢
  clear hw3 hB
  go_loopw [4] (fun o wc => ∃ q : Nat, q ≤ 2 ∧ o = .int .i64 (q : Int) ∧ Hid (Kn w B k j i u d wc)) (fun o _ => 2 - (intOf o).toNat)
  case atStart => exact ⟨0, by omega, rfl, K0⟩
  case round =>
    obtain ⟨q, hq, rfl, KP⟩ := hrel
    have l0 := KP.out.l0
    have l1 := KP.out.l1
    obtain rfl | rfl | rfl : q = 0 ∨ q = 1 ∨ q = 2 := by omega
    · have NN := Lib.hid KP.out.n0
      go_wp2_with (first
        | (go_at_call 14; refine (take_not _ _ NN.out).mono ?_; rintro e w4 ⟨rfl, hb⟩; have Z1 := Lib.hid (Blk.made w4 [.string ⟨#[]⟩, .int .i64 0, .string ⟨#[]⟩, .int .i64 0] 29); have K1 := Lib.hid (KP.out.next (below_and hb (below_alloc w4 (.cells #[.string ⟨#[]⟩, .int .i64 0, .string ⟨#[]⟩, .int .i64 0] 29)))); clear hb)
        | (go_at_call 18; refine (peek_not _ _ K1.out.n0).mono ?_; rintro e w5 ⟨rfl, hb⟩; have Z1b := Lib.hid (Z1.out.kept (below_and hb (below_alloc w5 (.cells #[.string ⟨#[]⟩, .int .i64 0, .string ⟨#[]⟩, .int .i64 0] 29)))); have Z2 := Lib.hid (Blk.made w5 [.string ⟨#[]⟩, .int .i64 0, .string ⟨#[]⟩, .int .i64 0] 29); have K2 := Lib.hid (K1.out.next (below_and hb (below_alloc w5 (.cells #[.string ⟨#[]⟩, .int .i64 0, .string ⟨#[]⟩, .int .i64 0] 29)))); have e1 := K2.out.b1; have e2 := K2.out.b2; have e3 := K2.out.b3; have e4 := K2.out.b4; clear hb)
        | (go_at_call 10; refine (put_not _ ⟨j, i, u, d⟩ _ K2.out.n0).mono ?_; rintro e w6 ⟨rfl, hb⟩; have Z1c := Z1b.out.kept hb; have Z2c := Z2.out.kept hb; have y10 := Z1c.cell (j := 0) rfl; have y11 := Z1c.cell (j := 1) rfl; have y12 := Z1c.cell (j := 2) rfl; have y13 := Z1c.cell (j := 3) rfl; have y20 := Z2c.cell (j := 0) rfl; have y21 := Z2c.cell (j := 1) rfl; have y22 := Z2c.cell (j := 2) rfl; have y23 := Z2c.cell (j := 3) rfl; have K3 := Lib.hid (K2.out.next hb); have g1 := K3.out.b1; have g2 := K3.out.b2; clear hb)
        | (go_at_call 17; refine (drop_not _ j i _ K3.out.n0).mono ?_; rintro e w7 ⟨rfl, hb⟩; have K4 := Lib.hid (K3.out.next hb); have h1 := K4.out.b1; have h2 := K4.out.b2; clear hb)
        | (go_at_call 25; refine (has_not _ j i _ K4.out.n0).mono ?_; rintro e w8 ⟨rfl, hb⟩; have K5 := Lib.hid (K4.out.next hb); clear hb)
        | (go_at_call 19; refine (len_not _ _ K5.out.n0).mono ?_; rintro e w9 ⟨rfl, rfl⟩)
        | (go_at_call 11; refine (all_not _ _ K5.out.n0).mono ?_; rintro e w9 ⟨rfl, rfl⟩))
      exact ⟨⟨1, by omega, by go_num, K5⟩, by simp [intOf]⟩
    · have NN := Lib.hid KP.out.n1
      go_wp2_with (first
        | (go_at_call 14; refine (take_not _ _ NN.out).mono ?_; rintro e w4 ⟨rfl, hb⟩; have Z1 := Lib.hid (Blk.made w4 [.string ⟨#[]⟩, .int .i64 0, .string ⟨#[]⟩, .int .i64 0] 29); have K1 := Lib.hid (KP.out.next (below_and hb (below_alloc w4 (.cells #[.string ⟨#[]⟩, .int .i64 0, .string ⟨#[]⟩, .int .i64 0] 29)))); clear hb)
        | (go_at_call 18; refine (peek_not _ _ K1.out.n1).mono ?_; rintro e w5 ⟨rfl, hb⟩; have Z1b := Lib.hid (Z1.out.kept (below_and hb (below_alloc w5 (.cells #[.string ⟨#[]⟩, .int .i64 0, .string ⟨#[]⟩, .int .i64 0] 29)))); have Z2 := Lib.hid (Blk.made w5 [.string ⟨#[]⟩, .int .i64 0, .string ⟨#[]⟩, .int .i64 0] 29); have K2 := Lib.hid (K1.out.next (below_and hb (below_alloc w5 (.cells #[.string ⟨#[]⟩, .int .i64 0, .string ⟨#[]⟩, .int .i64 0] 29)))); have e1 := K2.out.b1; have e2 := K2.out.b2; have e3 := K2.out.b3; have e4 := K2.out.b4; clear hb)
        | (go_at_call 10; refine (put_not _ ⟨j, i, u, d⟩ _ K2.out.n1).mono ?_; rintro e w6 ⟨rfl, hb⟩; have Z1c := Z1b.out.kept hb; have Z2c := Z2.out.kept hb; have y10 := Z1c.cell (j := 0) rfl; have y11 := Z1c.cell (j := 1) rfl; have y12 := Z1c.cell (j := 2) rfl; have y13 := Z1c.cell (j := 3) rfl; have y20 := Z2c.cell (j := 0) rfl; have y21 := Z2c.cell (j := 1) rfl; have y22 := Z2c.cell (j := 2) rfl; have y23 := Z2c.cell (j := 3) rfl; have K3 := Lib.hid (K2.out.next hb); have g1 := K3.out.b1; have g2 := K3.out.b2; clear hb)
        | (go_at_call 17; refine (drop_not _ j i _ K3.out.n1).mono ?_; rintro e w7 ⟨rfl, hb⟩; have K4 := Lib.hid (K3.out.next hb); have h1 := K4.out.b1; have h2 := K4.out.b2; clear hb)
        | (go_at_call 25; refine (has_not _ j i _ K4.out.n1).mono ?_; rintro e w8 ⟨rfl, hb⟩; have K5 := Lib.hid (K4.out.next hb); clear hb)
        | (go_at_call 19; refine (len_not _ _ K5.out.n1).mono ?_; rintro e w9 ⟨rfl, rfl⟩)
        | (go_at_call 11; refine (all_not _ _ K5.out.n1).mono ?_; rintro e w9 ⟨rfl, rfl⟩))
      exact ⟨⟨2, by omega, by go_num, K5⟩, by simp [intOf]⟩
    · go_wp2_with (go_at_call 8; refine (qlives _).mono ?_; rintro e w4 ⟨rfl, hb⟩; have HB4 := Lib.hid (below_and KP.out.bel hb); clear hb)
      go_ret
      exact ⟨rfl, HB4.out⟩

theorem queueNil_walk (cs : List Value) (w : World) (h : Leaves Try.prog [3, 9, 3, 9, 3] cs) :
    Calls Try.prog 6 #[.agg cs.toArray] w fun e w' => e = .returned (.bool true) ∧ Below w.heap.size w w' := by
  match cs, h.1, h.2 with
  | [v, v0, v1, v2, v3], _, hv =>
    obtain ⟨k, rfl, -⟩ := fieldOk.int (v := v) (hv 0 _ rfl) Try.underlying3
    obtain ⟨j, rfl, -⟩ := fieldOk.str (v := v0) (hv 1 _ rfl) Try.underlying9
    obtain ⟨i, rfl, -⟩ := fieldOk.int (v := v1) (hv 2 _ rfl) Try.underlying3
    obtain ⟨u, rfl, -⟩ := fieldOk.str (v := v2) (hv 3 _ rfl) Try.underlying9
    obtain ⟨d, rfl, -⟩ := fieldOk.int (v := v3) (hv 4 _ rfl) Try.underlying3
    exact queueNil_go k i d j u w
end Go.Proofs.Ytlemfbgmhjklaaa
