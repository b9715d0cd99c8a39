/- A table that is not there, or that nobody made, refuses every call. -/
import Derived.Test.YtmgcigohfccgeaaLTab
namespace Go.Proofs.Ytmgcigohfccgeaa
open Go.RowKit

/-- no table: nil, or one that nobody made -/
def Nt (w : World) (v : Value) : Prop := v = .pointer none ∨ ∃ b, v = ptr b ∧ Blk w b [.int .i64 0, .int .i64 0, .int .i64 0, .map none] 71
theorem Nt.kept {w w' : World} {v : Value} (h : Nt w v) (hb : Below w.heap.size w w') : Nt w' v := h.imp (fun e => e) (fun ⟨b, e, k⟩ => ⟨b, e, k.kept hb⟩)

set_option maxRecDepth 100000 in
set_option maxHeartbeats 400000 in
theorem tnone_not (v : Value) (w : World) (h : Nt w v) :
    Calls Try.prog 57 #[v] w fun e w' => e = .returned (.bool true) ∧ w = w' := by
  rcases h with rfl | ⟨b, rfl, hb⟩
  · go_enter Try.func57, Try.ntmps57
    go_wp2
    go_ret
    exact ⟨rfl, rfl⟩
  · have c1 := hb.cell (j := 1) rfl
    clear hb
    go_enter Try.func57, Try.ntmps57
    go_wp2
    go_ret
    exact ⟨rfl, rfl⟩

set_option maxRecDepth 100000 in
set_option maxHeartbeats 1000000 in
theorem tfind_not (v : Value) (s : ByteArray) (w : World) (h : Nt w v) :
    Calls Try.prog 58 #[v, .string s] w fun e w' => e = .returned (.tuple #[hv 0 0 0, .int .i64 1]) ∧ Below w.heap.size w w' := by
  have H := Lib.hid h
  clear h
  go_enter Try.func58, Try.ntmps58
  go_wp2_with (go_at_call 57; refine (tnone_not v _ (by exact H.out.kept (below_alloc _ _))).mono ?_; rintro e w' ⟨rfl, rfl⟩)
  refine bodyPost_ret (results_row_tmp rfl _ _ w.heap.size 91 #[.int .u64 0, .int .i64 0, .int .i64 0] (0, 0) _ rfl (Blk.made w [.int .u64 0, .int .i64 0, .int .i64 0] 91) Try.underlying91 rfl (by kernel_rfl)) rfl ?_
  exact ⟨rfl, below_alloc w _⟩

set_option maxRecDepth 100000 in
set_option maxHeartbeats 1000000 in
theorem techo_not (v : Value) (s : ByteArray) (w : World) (h : Nt w v) :
    Calls Try.prog 37 #[v, .string s] w fun e w' => e = .returned (.tuple #[.int .u64 0, .int .i64 0, .int .i64 1]) ∧ Below w.heap.size w w' := by
  have H := Lib.hid h
  clear h
  go_enter Try.func37, Try.ntmps37
  go_wp2_with (go_at_call 58; refine (tfind_not v _ _ H.out).mono ?_; rintro e w1 ⟨rfl, hb⟩; have HB := Lib.hid hb; clear hb)
  all_goals go_quiet (fail)
  all_goals go_wp2
  all_goals go_ret3
  all_goals exact ⟨rfl, Below.drewN' (below_and HB.out (below_alloc _ _)) _⟩

set_option maxRecDepth 100000 in
set_option maxHeartbeats 1000000 in
theorem tsure_not (v : Value) (s : ByteArray) (w : World) (h : Nt w v) :
    Calls Try.prog 20 #[v, .string s] w fun e w' => e = .returned (.tuple #[.bool false, .int .i64 1]) ∧ Below w.heap.size w w' := by
  have H := Lib.hid h
  clear h
  go_enter Try.func20, Try.ntmps20
  go_wp2_with (go_at_call 58; refine (tfind_not v _ _ H.out).mono ?_; rintro e w1 ⟨rfl, hb⟩; have HB := Lib.hid hb; clear hb)
  go_ret2
  exact ⟨rfl, below_and HB.out (below_alloc _ _)⟩

set_option maxRecDepth 100000 in
set_option maxHeartbeats 1000000 in
theorem tleft_not (v : Value) (s : ByteArray) (w : World) (h : Nt w v) :
    Calls Try.prog 50 #[v, .string s] w fun e w' => e = .returned (.tuple #[.int .i64 0, .int .i64 1]) ∧ Below w.heap.size w w' := by
  have H := Lib.hid h
  clear h
  go_enter Try.func50, Try.ntmps50
  go_wp2_with (go_at_call 58; refine (tfind_not v _ _ H.out).mono ?_; rintro e w1 ⟨rfl, hb⟩; have HB := Lib.hid hb; clear hb)
  go_ret2
  exact ⟨rfl, below_and HB.out (below_alloc _ _)⟩

set_option maxRecDepth 100000 in
set_option maxHeartbeats 1000000 in
theorem tadd_not (v : Value) (s : ByteArray) (w : World) (h : Nt w v) :
    Calls Try.prog 16 #[v, .string s] w fun e w' => e = .returned (.int .i64 1) ∧ w = w' := by
  have H := Lib.hid h
  clear h
  go_enter Try.func16, Try.ntmps16
  go_wp2_with (go_at_call 57; refine (tnone_not v _ H.out).mono ?_; rintro e w1 ⟨rfl, rfl⟩)
  go_ret
  exact ⟨rfl, rfl⟩

set_option maxRecDepth 100000 in
set_option maxHeartbeats 1000000 in
theorem theard_not (v : Value) (s : ByteArray) (bt n : Int) (w : World) (h : Nt w v) :
    Calls Try.prog 18 #[v, .string s, .int .u64 bt, .int .i64 n] w fun e w' => e = .returned (.int .i64 1) ∧ Below w.heap.size w w' := by
  have H := Lib.hid h
  clear h
  go_enter Try.func18, Try.ntmps18
  go_wp2_with (go_at_call 58; refine (tfind_not v _ _ H.out).mono ?_; rintro e w1 ⟨rfl, hb⟩; have HB := Lib.hid hb; clear hb)
  go_ret
  exact ⟨rfl, below_and HB.out (below_alloc _ _)⟩

set_option maxRecDepth 100000 in
set_option maxHeartbeats 1000000 in
theorem ttick_not (v : Value) (n : Int) (w : World) (h : Nt w v) :
    Calls Try.prog 19 #[v, .int .i64 n] w fun e w' => e = .returned (.int .i64 1) ∧ w = w' := by
  have H := Lib.hid h
  clear h
  go_enter Try.func19, Try.ntmps19
  go_wp2_with (go_at_call 57; refine (tnone_not v _ H.out).mono ?_; rintro e w1 ⟨rfl, rfl⟩)
  go_ret
  exact ⟨rfl, rfl⟩

set_option maxRecDepth 100000 in
set_option maxHeartbeats 1000000 in
theorem tnow_not (v : Value) (w : World) (h : Nt w v) :
    Calls Try.prog 38 #[v] w fun e w' => e = .returned (.int .i64 0) ∧ w = w' := by
  have H := Lib.hid h
  clear h
  go_enter Try.func38, Try.ntmps38
  go_wp2_with (go_at_call 57; refine (tnone_not v _ H.out).mono ?_; rintro e w1 ⟨rfl, rfl⟩)
  go_ret
  exact ⟨rfl, rfl⟩
set_option maxRecDepth 100000 in
set_option maxHeartbeats 1000000 in
theorem tlease_not (v : Value) (w : World) (h : Nt w v) :
    Calls Try.prog 39 #[v] w fun e w' => e = .returned (.int .i64 0) ∧ w = w' := by
  have H := Lib.hid h
  clear h
  go_enter Try.func39, Try.ntmps39
  go_wp2_with (go_at_call 57; refine (tnone_not v _ H.out).mono ?_; rintro e w1 ⟨rfl, rfl⟩)
  go_ret
  exact ⟨rfl, rfl⟩
set_option maxRecDepth 100000 in
set_option maxHeartbeats 1000000 in
theorem tnames_not (v : Value) (w : World) (h : Nt w v) :
    Calls Try.prog 45 #[v] w fun e w' => e = .returned (.slice none 0 0) ∧ w = w' := by
  have H := Lib.hid h
  clear h
  go_enter Try.func45, Try.ntmps45
  go_wp2_with (go_at_call 57; refine (tnone_not v _ H.out).mono ?_; rintro e w1 ⟨rfl, rfl⟩)
  go_ret
  exact ⟨rfl, rfl⟩

set_option maxRecDepth 100000 in
set_option maxHeartbeats 1000000 in
theorem tindex_nil (f : Value) (w : World) :
    Calls Try.prog 79 #[.slice none 0 0, f] w fun e w' => e = .returned (.int .i64 (-1)) ∧ w = w' := by
  go_enter Try.func79, Try.ntmps79
  go_wp2
  go_loop [8] (fun i => i = .int .i64 0) (fun i => 0)
  case atStart => rfl
  case round =>
    obtain rfl := hrel
    go_wp2
    go_ret
    exact ⟨rfl, rfl⟩
set_option maxRecDepth 100000 in
set_option maxHeartbeats 1000000 in
theorem tdelete_nil (f : Value) (w : World) :
    Calls Try.prog 65 #[.slice none 0 0, f] w fun e w' => e = .returned (.slice none 0 0) ∧ w = w' := by
  go_enter Try.func65, Try.ntmps65
  go_wp2_with (go_at_call 79; refine (tindex_nil _ _).mono ?_; rintro e w1 ⟨rfl, rfl⟩)
  go_ret
  exact ⟨rfl, rfl⟩
set_option maxRecDepth 100000 in
set_option maxHeartbeats 1000000 in
theorem tover_not (v : Value) (w : World) (h : Nt w v) :
    Calls Try.prog 36 #[v] w fun e w' => e = .returned (.slice none 0 0) ∧ Below w.heap.size w w' := by
  have H : Hid (Nt (w.alloc (.cells #[v] 28)) v) := Lib.hid (h.kept (below_alloc w _))
  have hv : v = .pointer none ∨ ∃ b, v = ptr b := h.imp (fun e => e) (fun ⟨b, e, _⟩ => ⟨b, e⟩)
  clear h
  rcases hv with rfl | ⟨b, rfl⟩
  all_goals
    go_enter Try.func36, Try.ntmps36
    go_wp2_with (first
      | (go_at_call 45; refine (tnames_not _ _ H.out).mono ?_; rintro e w1 ⟨rfl, rfl⟩)
      | (go_at_call 65; refine (tdelete_nil _ _).mono ?_; rintro e w1 ⟨rfl, rfl⟩))
    go_ret
    exact ⟨rfl, below_alloc w _⟩
end Go.Proofs.Ytmgcigohfccgeaa
