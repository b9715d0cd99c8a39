/- A watch that is not there, or that nobody made, refuses every call. -/
import Derived.Test.YtmgcigohfccgeaaWatch2
namespace Go.Proofs.Ytmgcigohfccgeaa
open Go.RowKit

/-- no watch: nil, or one that nobody made -/
def Nw (w : World) (v : Value) : Prop := v = .pointer none ∨ ∃ b, v = ptr b ∧ Blk w b [.int .i64 0, .slice none 0 0, .bool false] 87

set_option maxRecDepth 100000 in
set_option maxHeartbeats 400000 in
theorem wnone_not (v : Value) (w : World) (h : Nw w v) :
    Calls Try.prog 60 #[v] w fun e w' => e = .returned (.bool true) ∧ w = w' := by
  rcases h with rfl | ⟨b, rfl, hb⟩
  · go_enter Try.func60, Try.ntmps60
    go_wp2
    go_ret
    exact ⟨rfl, rfl⟩
  · have c1 := hb.cell (j := 2) rfl
    clear hb
    go_enter Try.func60, Try.ntmps60
    go_wp2
    go_ret
    exact ⟨rfl, rfl⟩

set_option maxRecDepth 100000 in
set_option maxHeartbeats 400000 in
theorem wset_not (v : Value) (s : ByteArray) (n : Int) (w : World) (h : Nw w v) :
    Calls Try.prog 28 #[v, .string s, .int .i64 n] w fun e w' => e = .returned (.int .i64 1) ∧ w = w' := by
  have H := Lib.hid h
  clear h
  go_enter Try.func28, Try.ntmps28
  go_wp2_with (go_at_call 60; refine (wnone_not v _ H.out).mono ?_; rintro e w2 ⟨rfl, rfl⟩)
  go_ret
  exact ⟨rfl, rfl⟩
set_option maxRecDepth 100000 in
set_option maxHeartbeats 400000 in
theorem wdrop_not (v : Value) (s : ByteArray) (w : World) (h : Nw w v) :
    Calls Try.prog 35 #[v, .string s] w fun e w' => e = .returned (.int .i64 1) ∧ w = w' := by
  have H := Lib.hid h
  clear h
  go_enter Try.func35, Try.ntmps35
  go_wp2_with (go_at_call 60; refine (wnone_not v _ H.out).mono ?_; rintro e w2 ⟨rfl, rfl⟩)
  go_ret
  exact ⟨rfl, rfl⟩
set_option maxRecDepth 100000 in
set_option maxHeartbeats 400000 in
theorem wnow_not (v : Value) (w : World) (h : Nw w v) :
    Calls Try.prog 34 #[v] w fun e w' => e = .returned (.int .i64 0) ∧ w = w' := by
  have H := Lib.hid h
  clear h
  go_enter Try.func34, Try.ntmps34
  go_wp2_with (go_at_call 60; refine (wnone_not v _ H.out).mono ?_; rintro e w2 ⟨rfl, rfl⟩)
  go_ret
  exact ⟨rfl, rfl⟩
set_option maxRecDepth 100000 in
set_option maxHeartbeats 400000 in
theorem wnames_not (v : Value) (w : World) (h : Nw w v) :
    Calls Try.prog 55 #[v] w fun e w' => e = .returned (.slice none 0 0) ∧ w = w' := by
  have H := Lib.hid h
  clear h
  go_enter Try.func55, Try.ntmps55
  go_wp2_with (go_at_call 60; refine (wnone_not v _ H.out).mono ?_; rintro e w2 ⟨rfl, rfl⟩)
  go_ret
  exact ⟨rfl, rfl⟩
set_option maxRecDepth 100000 in
set_option maxHeartbeats 400000 in
theorem wtick_not (v : Value) (n : Int) (w : World) (h : Nw w v) :
    Calls Try.prog 29 #[v, .int .i64 n] w fun e w' => e = .returned (.tuple #[.slice none 0 0, .int .i64 1]) ∧ w = w' := by
  have H := Lib.hid h
  clear h
  go_enter Try.func29, Try.ntmps29
  go_wp2_with (go_at_call 60; refine (wnone_not v _ H.out).mono ?_; rintro e w2 ⟨rfl, rfl⟩)
  go_ret2
  exact ⟨rfl, rfl⟩
set_option maxRecDepth 100000 in
set_option maxHeartbeats 400000 in
theorem wleft_not (v : Value) (s : ByteArray) (w : World) (h : Nw w v) :
    Calls Try.prog 32 #[v, .string s] w fun e w' => e = .returned (.tuple #[.int .i64 0, .bool false]) ∧ w = w' := by
  have H := Lib.hid h
  clear h
  go_enter Try.func32, Try.ntmps32
  go_wp2_with (go_at_call 60; refine (wnone_not v _ H.out).mono ?_; rintro e w2 ⟨rfl, rfl⟩)
  go_ret2
  exact ⟨rfl, rfl⟩
end Go.Proofs.Ytmgcigohfccgeaa
