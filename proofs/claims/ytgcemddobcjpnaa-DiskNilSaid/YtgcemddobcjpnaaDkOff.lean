/- A disk that is not there, or that nobody made: every call refuses (written by gendoff.py). -/
import Derived.Test.YtgcemddobcjpnaaDk1
namespace Go.Proofs.Ytgcemddobcjpnaa
open Go.RowKit

def Nd (w : World) (v : Option Addr) : Prop := v = none ∨ ∃ b, v = some ⟨b, 0, none⟩ ∧ w.cell? ⟨b, 0, none⟩ = some (.map none)
theorem Nd.kept {w w' : World} {v : Option Addr} (h : Nd w v) (hb : Below w.heap.size w w') : Nd w' v := by
  rcases h with h | ⟨b, h1, h2⟩
  · exact .inl h
  · exact .inr ⟨b, h1, cell_kept h2 hb⟩
theorem none_not (v : Option Addr) (w : World) (h : Nd w v) : Calls Try.prog 40 #[.pointer v] w fun e w' => e = .returned (.bool true) ∧ w = w' := by
  rcases h with rfl | ⟨b, rfl, h2⟩
  · exact none_nil w
  · exact none_unmade b w h2
theorem bel_a {w0 w : World} (h : Below w0.heap.size w0 w) (o : Obj) : Below w0.heap.size w0 (w.alloc o) := below_and h (below_alloc w o)
set_option maxRecDepth 100000 in
set_option maxHeartbeats 1000000 in
theorem asked_not (v : Option Addr) (l : Value) (w : World) (h : Nd w v) : Calls Try.prog 33 #[.pointer v, l] w fun e w' => e = .returned (.int .i64 1) ∧ w = w' := by
  have HN := Lib.hid h
  clear h
  go_enter Try.func33, Try.ntmps33
  go_wp2_with (go_at_call 40; have _t := HN; clear _t; refine (none_not _ _ HN.out).mono ?_; rintro e w4 ⟨rfl, rfl⟩)
  go_ret
  exact ⟨rfl, rfl⟩
set_option maxRecDepth 100000 in
set_option maxHeartbeats 1000000 in
theorem find_not (v : Option Addr) (s : ByteArray) (w : World) (h : Nd w v) : Calls Try.prog 36 #[.pointer v, .string s] w fun e w' => e = .returned (.tuple #[.pointer none, .int .i64 1]) ∧ Below w.heap.size w w' := by
  have HN := Lib.hid h
  clear h
  go_enter Try.func36, Try.ntmps36
  go_wp2_with (go_at_call 33; refine (asked_not _ _ _ (HN.out.kept (bel_a (Below.refl _ _) _))).mono ?_; rintro e w4 ⟨rfl, rfl⟩)
  go_ret2
  exact ⟨rfl, bel_a (Below.refl _ _) _⟩
set_option maxRecDepth 100000 in
set_option maxHeartbeats 1000000 in
theorem make_not (v : Option Addr) (s : ByteArray) (w : World) (h : Nd w v) : Calls Try.prog 10 #[.pointer v, .string s] w fun e w' => e = .returned (.int .i64 1) ∧ Below w.heap.size w w' := by
  have HN := Lib.hid h
  clear h
  go_enter Try.func10, Try.ntmps10
  go_wp2_with (go_at_call 33; refine (asked_not _ _ _ (HN.out.kept (bel_a (bel_a (bel_a (Below.refl _ _) _) _) _))).mono ?_; rintro e w4 ⟨rfl, rfl⟩)
  go_ret
  exact ⟨rfl, bel_a (bel_a (bel_a (Below.refl _ _) _) _) _⟩
set_option maxRecDepth 100000 in
set_option maxHeartbeats 1000000 in
theorem append_not (v : Option Addr) (s : ByteArray) (u : Value) (w : World) (h : Nd w v) : Calls Try.prog 11 #[.pointer v, .string s, u] w fun e w' => e = .returned (.int .i64 1) ∧ Below w.heap.size w w' := by
  have HN := Lib.hid h
  clear h
  go_enter Try.func11, Try.ntmps11
  go_wp2_with (go_at_call 36; refine (find_not _ _ _ (HN.out.kept (bel_a (Below.refl _ _) _))).mono ?_; rintro e w4 ⟨rfl, hb⟩; have HB := Lib.hid hb; clear hb)
  go_ret
  exact ⟨rfl, below_and (below_and (below_alloc w _) HB.out) (below_alloc _ _)⟩
set_option maxRecDepth 100000 in
set_option maxHeartbeats 1000000 in
theorem sync_not (v : Option Addr) (s : ByteArray) (w : World) (h : Nd w v) : Calls Try.prog 12 #[.pointer v, .string s] w fun e w' => e = .returned (.int .i64 1) ∧ Below w.heap.size w w' := by
  have HN := Lib.hid h
  clear h
  go_enter Try.func12, Try.ntmps12
  go_wp2_with (go_at_call 36; refine (find_not _ _ _ (HN.out.kept (Below.refl _ _))).mono ?_; rintro e w4 ⟨rfl, hb⟩; have HB := Lib.hid hb; clear hb)
  go_ret
  exact ⟨rfl, below_and HB.out (below_alloc _ _)⟩
set_option maxRecDepth 100000 in
set_option maxHeartbeats 1000000 in
theorem rename_not (v : Option Addr) (s : ByteArray) (t : ByteArray) (w : World) (h : Nd w v) : Calls Try.prog 19 #[.pointer v, .string s, .string t] w fun e w' => e = .returned (.int .i64 1) ∧ Below w.heap.size w w' := by
  have HN := Lib.hid h
  clear h
  go_enter Try.func19, Try.ntmps19
  go_wp2_with (go_at_call 33; refine (asked_not _ _ _ (HN.out.kept (bel_a (bel_a (bel_a (bel_a (Below.refl _ _) _) _) _) _))).mono ?_; rintro e w4 ⟨rfl, rfl⟩)
  go_ret
  exact ⟨rfl, bel_a (bel_a (bel_a (bel_a (Below.refl _ _) _) _) _) _⟩
set_option maxRecDepth 100000 in
set_option maxHeartbeats 1000000 in
theorem remove_not (v : Option Addr) (s : ByteArray) (w : World) (h : Nd w v) : Calls Try.prog 26 #[.pointer v, .string s] w fun e w' => e = .returned (.int .i64 1) ∧ Below w.heap.size w w' := by
  have HN := Lib.hid h
  clear h
  go_enter Try.func26, Try.ntmps26
  go_wp2_with (go_at_call 36; refine (find_not _ _ _ (HN.out.kept (bel_a (bel_a (Below.refl _ _) _) _))).mono ?_; rintro e w4 ⟨rfl, hb⟩; have HB := Lib.hid hb; clear hb)
  go_ret
  exact ⟨rfl, below_and (bel_a (bel_a (Below.refl _ _) _) _) HB.out⟩
set_option maxRecDepth 100000 in
set_option maxHeartbeats 1000000 in
theorem fuse_not (v : Option Addr) (n : Int) (w : World) (h : Nd w v) : Calls Try.prog 16 #[.pointer v, .int .i64 n] w fun e w' => e = .returned (.int .i64 1) ∧ w = w' := by
  have HN := Lib.hid h
  clear h
  go_enter Try.func16, Try.ntmps16
  go_wp2_with (go_at_call 33; refine (asked_not _ _ _ (HN.out.kept (Below.refl _ _))).mono ?_; rintro e w4 ⟨rfl, rfl⟩)
  go_ret
  exact ⟨rfl, rfl⟩
set_option maxRecDepth 100000 in
set_option maxHeartbeats 1000000 in
theorem free_not (v : Option Addr) (w : World) (h : Nd w v) : Calls Try.prog 27 #[.pointer v] w fun e w' => e = .returned (.int .i64 1) ∧ w = w' := by
  have HN := Lib.hid h
  clear h
  go_enter Try.func27, Try.ntmps27
  go_wp2_with (go_at_call 40; have _t := HN; clear _t; refine (none_not _ _ HN.out).mono ?_; rintro e w4 ⟨rfl, rfl⟩)
  go_ret
  exact ⟨rfl, rfl⟩
set_option maxRecDepth 100000 in
set_option maxHeartbeats 1000000 in
theorem crash_not (v : Option Addr) (u : Value) (w : World) (h : Nd w v) : Calls Try.prog 13 #[.pointer v, u] w fun e w' => e = .returned (.int .i64 1) ∧ w = w' := by
  have HN := Lib.hid h
  clear h
  go_enter Try.func13, Try.ntmps13
  go_wp2_with (go_at_call 40; have _t := HN; clear _t; refine (none_not _ _ HN.out).mono ?_; rintro e w4 ⟨rfl, rfl⟩)
  go_ret
  exact ⟨rfl, rfl⟩
set_option maxRecDepth 100000 in
set_option maxHeartbeats 1000000 in
theorem turn_not (v : Option Addr) (s : ByteArray) (n : Int) (c : Int) (w : World) (h : Nd w v) : Calls Try.prog 22 #[.pointer v, .string s, .int .i64 n, .int .u8 c] w fun e w' => e = .returned (.int .i64 1) ∧ w = w' := by
  have HN := Lib.hid h
  clear h
  go_enter Try.func22, Try.ntmps22
  go_wp2_with (go_at_call 40; have _t := HN; clear _t; refine (none_not _ _ HN.out).mono ?_; rintro e w4 ⟨rfl, rfl⟩)
  go_ret
  exact ⟨rfl, rfl⟩
set_option maxRecDepth 100000 in
set_option maxHeartbeats 1000000 in
theorem read_not (v : Option Addr) (s : ByteArray) (w : World) (h : Nd w v) : Calls Try.prog 14 #[.pointer v, .string s] w fun e w' => e = .returned (.tuple #[.slice none 0 0, .int .i64 1]) ∧ Below w.heap.size w w' := by
  have HN := Lib.hid h
  clear h
  go_enter Try.func14, Try.ntmps14
  go_wp2_with (go_at_call 36; refine (find_not _ _ _ (HN.out.kept (Below.refl _ _))).mono ?_; rintro e w4 ⟨rfl, hb⟩; have HB := Lib.hid hb; clear hb)
  go_ret2
  exact ⟨rfl, HB.out⟩
set_option maxRecDepth 100000 in
set_option maxHeartbeats 1000000 in
theorem synced_not (v : Option Addr) (s : ByteArray) (w : World) (h : Nd w v) : Calls Try.prog 15 #[.pointer v, .string s] w fun e w' => e = .returned (.tuple #[.int .i64 0, .int .i64 1]) ∧ Below w.heap.size w w' := by
  have HN := Lib.hid h
  clear h
  go_enter Try.func15, Try.ntmps15
  go_wp2_with (go_at_call 36; refine (find_not _ _ _ (HN.out.kept (Below.refl _ _))).mono ?_; rintro e w4 ⟨rfl, hb⟩; have HB := Lib.hid hb; clear hb)
  go_ret2
  exact ⟨rfl, HB.out⟩
set_option maxRecDepth 100000 in
set_option maxHeartbeats 1000000 in
theorem names_not (v : Option Addr) (w : World) (h : Nd w v) : Calls Try.prog 21 #[.pointer v] w fun e w' => e = .returned (.slice none 0 0) ∧ w = w' := by
  have HN := Lib.hid h
  clear h
  go_enter Try.func21, Try.ntmps21
  go_wp2_with (go_at_call 33; refine (asked_not _ _ _ (HN.out.kept (Below.refl _ _))).mono ?_; rintro e w4 ⟨rfl, rfl⟩)
  go_ret
  exact ⟨rfl, rfl⟩
set_option maxRecDepth 100000 in
set_option maxHeartbeats 1000000 in
theorem on_not (v : Option Addr) (w : World) (h : Nd w v) : Calls Try.prog 17 #[.pointer v] w fun e w' => e = .returned (.bool false) ∧ w = w' := by
  have HN := Lib.hid h
  clear h
  go_enter Try.func17, Try.ntmps17
  go_wp2_with (go_at_call 40; have _t := HN; clear _t; refine (none_not _ _ HN.out).mono ?_; rintro e w4 ⟨rfl, rfl⟩)
  go_ret
  exact ⟨rfl, rfl⟩
set_option maxRecDepth 100000 in
set_option maxHeartbeats 1000000 in
theorem left_not (v : Option Addr) (w : World) (h : Nd w v) : Calls Try.prog 18 #[.pointer v] w fun e w' => e = .returned (.int .i64 0) ∧ w = w' := by
  have HN := Lib.hid h
  clear h
  go_enter Try.func18, Try.ntmps18
  go_wp2_with (go_at_call 33; refine (asked_not _ _ _ (HN.out.kept (Below.refl _ _))).mono ?_; rintro e w4 ⟨rfl, rfl⟩)
  go_ret
  exact ⟨rfl, rfl⟩
set_option maxRecDepth 100000 in
set_option maxHeartbeats 1000000 in
theorem steps_not (v : Option Addr) (w : World) (h : Nd w v) : Calls Try.prog 28 #[.pointer v] w fun e w' => e = .returned (.int .i64 0) ∧ w = w' := by
  have HN := Lib.hid h
  clear h
  go_enter Try.func28, Try.ntmps28
  go_wp2_with (go_at_call 40; have _t := HN; clear _t; refine (none_not _ _ HN.out).mono ?_; rintro e w4 ⟨rfl, rfl⟩)
  go_ret
  exact ⟨rfl, rfl⟩
end Go.Proofs.Ytgcemddobcjpnaa
