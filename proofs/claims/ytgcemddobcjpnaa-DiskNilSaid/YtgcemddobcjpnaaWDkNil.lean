/- The walk of DiskNil (written by gendnil.py). -/
import Derived.Test.YtgcemddobcjpnaaDkOff
import Derived.Test.YtgcemddobcjpnaaDlv
namespace Go.Proofs.Ytgcemddobcjpnaa
open Go.RowKit

abbrev zDk : List Value := [.map none, .int .i64 0, .bool false, .int .i64 0, .bool false, .int .i64 0]
structure Kd (w0 : World) (B : Nat) (w : World) : Prop where
  q : Blk w B zDk 54
  l : Blk w (B + 1) [.pointer none, ptr B] 23
  bel : Below w0.heap.size w0 w
theorem Kd.next {w0 : World} {B : Nat} {w w' : World} (h : Kd w0 B w) (hb : Below w.heap.size w w') : Kd w0 B w' := ⟨h.q.kept hb, h.l.kept hb, below_and h.bel hb⟩
theorem Kd.l0 {w0 : World} {B : Nat} {w : World} (h : Kd w0 B w) : w.cell? ⟨B + 1, 0, none⟩ = some (.pointer none) := h.l.cell (j := 0) rfl
theorem Kd.l1 {w0 : World} {B : Nat} {w : World} (h : Kd w0 B w) : w.cell? ⟨B + 1, 1, none⟩ = some (ptr B) := h.l.cell (j := 1) rfl
theorem Kd.n0 {w0 : World} {B : Nat} {w : World} (_ : Kd w0 B w) : Nd w none := .inl rfl
theorem Kd.n1 {w0 : World} {B : Nat} {w : World} (h : Kd w0 B w) : Nd w (some ⟨B, 0, none⟩) := .inr ⟨_, rfl, h.q.cell (j := 0) rfl⟩

set_option maxRecDepth 100000 in
set_option maxHeartbeats 4000000 in
theorem diskNil_walk (s : ByteArray) (v : Value) (n : Int) (w : World) :
    Calls Try.prog 5 #[.string s, v, .int .i64 n] w fun e w' => e = .returned (.bool true) ∧ Below w.heap.size w w' := by
  go_enter Try.func5, Try.ntmps5
  obtain ⟨w3, hw3⟩ : ∃ w3, w3 = ((w.alloc (.cells #[.map none, .int .i64 0, .bool false, .int .i64 0, .bool false, .int .i64 0] 54)).alloc (.cells #[.pointer none, .pointer (some ⟨w.heap.size, 0, none⟩)] 23)) := ⟨_, rfl⟩
  have K0 : Hid (Kd w w.heap.size w3) := Lib.hid (by
    rw [hw3]
    refine ⟨(Blk.made w zDk _).alloc _, ?_, below_and (below_alloc w _) (below_alloc _ _)⟩
    have := Blk.made (w.alloc (.cells #[.map none, .int .i64 0, .bool false, .int .i64 0, .bool false, .int .i64 0] 54)) [.pointer none, ptr w.heap.size] 23
    simpa using this)
  obtain ⟨B, hB⟩ : ∃ B, B = w.heap.size := ⟨_, rfl⟩
  go_wp2
  rw [← hw3]
  rw [← hB] at K0 ⊢
  clear hw3 hB
  go_loopw [8] (fun o wc => ∃ q : Nat, q ≤ 2 ∧ o = .int .i64 (q : Int) ∧ Hid (Kd w B wc)) (fun o _ => 2 - (intOf o).toNat)
  case atStart => exact ⟨0, by omega, rfl, K0⟩
  case round =>
    clear K0
    obtain ⟨q, hq, rfl, K0⟩ := hrel
    have l0 := K0.out.l0
    have l1 := K0.out.l1
    obtain rfl | rfl | rfl : q = 0 ∨ q = 1 ∨ q = 2 := by omega
    · go_wp2_with (first
        | (go_at_call 14; refine (read_not _ s _ (Kd.n0 K0.out)).mono ?_; rintro e w4 ⟨rfl, hb⟩; have K1 := Lib.hid (K0.out.next hb); clear hb)
        | (go_at_call 15; refine (synced_not _ s _ (Kd.n0 K1.out)).mono ?_; rintro e w5 ⟨rfl, hb⟩; have K2 := Lib.hid (K1.out.next hb); clear hb)
        | (go_at_call 10; refine (make_not _ s _ (Kd.n0 K2.out)).mono ?_; rintro e w6 ⟨rfl, hb⟩; have K3 := Lib.hid (K2.out.next hb); clear hb)
        | (go_at_call 11; refine (append_not _ s v _ (Kd.n0 K3.out)).mono ?_; rintro e w7 ⟨rfl, hb⟩; have K4 := Lib.hid (K3.out.next hb); clear hb)
        | (go_at_call 12; refine (sync_not _ s _ (Kd.n0 K4.out)).mono ?_; rintro e w8 ⟨rfl, hb⟩; have K5 := Lib.hid (K4.out.next hb); clear hb)
        | (go_at_call 19; refine (rename_not _ s s _ (Kd.n0 K5.out)).mono ?_; rintro e w9 ⟨rfl, hb⟩; have K6 := Lib.hid (K5.out.next hb); clear hb)
        | (go_at_call 26; refine (remove_not _ s _ (Kd.n0 K6.out)).mono ?_; rintro e w10 ⟨rfl, hb⟩; have K7 := Lib.hid (K6.out.next hb); clear hb)
        | (go_at_call 16; refine (fuse_not _ n _ (Kd.n0 K7.out)).mono ?_; rintro e w37 ⟨rfl, rfl⟩)
        | (go_at_call 27; refine (free_not _ _ (Kd.n0 K7.out)).mono ?_; rintro e w38 ⟨rfl, rfl⟩)
        | (go_at_call 13; refine (crash_not _ _ _ (Kd.n0 (K7.out.next (below_alloc _ _)))).mono ?_; rintro e w30 ⟨rfl, rfl⟩; have K8 := Lib.hid (K7.out.next (below_alloc _ (.cells #[.int .i64 n] 3))))
        | (go_at_call 22; refine (turn_not _ s n 1 _ (Kd.n0 K8.out)).mono ?_; rintro e w40 ⟨rfl, rfl⟩)
        | (go_at_call 21; refine (names_not _ _ (Kd.n0 K8.out)).mono ?_; rintro e w41 ⟨rfl, rfl⟩)
        | (go_at_call 17; refine (on_not _ _ (Kd.n0 K8.out)).mono ?_; rintro e w42 ⟨rfl, rfl⟩)
        | (go_at_call 18; refine (left_not _ _ (Kd.n0 K8.out)).mono ?_; rintro e w43 ⟨rfl, rfl⟩)
        | (go_at_call 28; refine (steps_not _ _ (Kd.n0 K8.out)).mono ?_; rintro e w44 ⟨rfl, rfl⟩))
      exact ⟨⟨1, by omega, by go_num, K8⟩, by simp [intOf]⟩
    · go_wp2_with (first
        | (go_at_call 14; refine (read_not _ s _ (Kd.n1 K0.out)).mono ?_; rintro e w4 ⟨rfl, hb⟩; have K1 := Lib.hid (K0.out.next hb); clear hb)
        | (go_at_call 15; refine (synced_not _ s _ (Kd.n1 K1.out)).mono ?_; rintro e w5 ⟨rfl, hb⟩; have K2 := Lib.hid (K1.out.next hb); clear hb)
        | (go_at_call 10; refine (make_not _ s _ (Kd.n1 K2.out)).mono ?_; rintro e w6 ⟨rfl, hb⟩; have K3 := Lib.hid (K2.out.next hb); clear hb)
        | (go_at_call 11; refine (append_not _ s v _ (Kd.n1 K3.out)).mono ?_; rintro e w7 ⟨rfl, hb⟩; have K4 := Lib.hid (K3.out.next hb); clear hb)
        | (go_at_call 12; refine (sync_not _ s _ (Kd.n1 K4.out)).mono ?_; rintro e w8 ⟨rfl, hb⟩; have K5 := Lib.hid (K4.out.next hb); clear hb)
        | (go_at_call 19; refine (rename_not _ s s _ (Kd.n1 K5.out)).mono ?_; rintro e w9 ⟨rfl, hb⟩; have K6 := Lib.hid (K5.out.next hb); clear hb)
        | (go_at_call 26; refine (remove_not _ s _ (Kd.n1 K6.out)).mono ?_; rintro e w10 ⟨rfl, hb⟩; have K7 := Lib.hid (K6.out.next hb); clear hb)
        | (go_at_call 16; refine (fuse_not _ n _ (Kd.n1 K7.out)).mono ?_; rintro e w37 ⟨rfl, rfl⟩)
        | (go_at_call 27; refine (free_not _ _ (Kd.n1 K7.out)).mono ?_; rintro e w38 ⟨rfl, rfl⟩)
        | (go_at_call 13; refine (crash_not _ _ _ (Kd.n1 (K7.out.next (below_alloc _ _)))).mono ?_; rintro e w30 ⟨rfl, rfl⟩; have K8 := Lib.hid (K7.out.next (below_alloc _ (.cells #[.int .i64 n] 3))))
        | (go_at_call 22; refine (turn_not _ s n 1 _ (Kd.n1 K8.out)).mono ?_; rintro e w40 ⟨rfl, rfl⟩)
        | (go_at_call 21; refine (names_not _ _ (Kd.n1 K8.out)).mono ?_; rintro e w41 ⟨rfl, rfl⟩)
        | (go_at_call 17; refine (on_not _ _ (Kd.n1 K8.out)).mono ?_; rintro e w42 ⟨rfl, rfl⟩)
        | (go_at_call 18; refine (left_not _ _ (Kd.n1 K8.out)).mono ?_; rintro e w43 ⟨rfl, rfl⟩)
        | (go_at_call 28; refine (steps_not _ _ (Kd.n1 K8.out)).mono ?_; rintro e w44 ⟨rfl, rfl⟩))
      exact ⟨⟨2, by omega, by go_num, K8⟩, by simp [intOf]⟩
    · go_wp2_with (go_at_call 8; refine (dlives _).mono ?_; rintro e w4 ⟨rfl, hb⟩; have HB4 := Lib.hid (below_and K0.out.bel hb); clear hb)
      go_ret
      exact ⟨rfl, HB4.out⟩
end Go.Proofs.Ytgcemddobcjpnaa
