/- A queue that is not there, or that nobody made: every call. -/
import Derived.Test.YtlemfbgmhjklaaaQLives
namespace Go.Proofs.Ytlemfbgmhjklaaa
open Go.RowKit

def Nq (w : World) (v : Value) : Prop := v = .pointer none ∨ ∃ b, v = ptr b ∧ Blk w b [.slice none 0 0, .int .u64 0, .bool false] 57
theorem Nq.kept {w w' : World} {v : Value} (h : Nq w v) (hb : Below w.heap.size w w') : Nq w' v := by
  rcases h with h | ⟨b, h, hk⟩
  · exact .inl h
  · exact .inr ⟨b, h, hk.kept hb⟩

set_option maxRecDepth 100000 in
set_option maxHeartbeats 400000 in
theorem none_not (v : Value) (w : World) (h : Nq w v) :
    Calls Try.prog 28 #[v] w fun e w' => e = .returned (.bool true) ∧ w = w' := by
  rcases h with rfl | ⟨b, rfl, hb⟩
  · go_enter Try.func28, Try.ntmps28
    go_wp2
    go_ret
    exact ⟨rfl, rfl⟩
  · have c1 := hb.cell (j := 2) rfl
    clear hb
    go_enter Try.func28, Try.ntmps28
    go_wp2
    go_ret
    exact ⟨rfl, rfl⟩

set_option maxRecDepth 100000 in
set_option maxHeartbeats 400000 in
theorem put_not (v : Value) (p : Pend) (w : World) (h : Nq w v) :
    Calls Try.prog 10 #[v, pval p] w fun e w' => e = .returned (.int .i64 1) ∧ Below w.heap.size w w' := by
  have H := Lib.hid h
  clear h
  go_enter Try.func10, Try.ntmps10
  go_wp2_with (go_at_call 28; refine (none_not v _ (H.out.kept (below_alloc _ _))).mono ?_; rintro e w2 ⟨rfl, rfl⟩)
  go_ret
  exact ⟨rfl, below_alloc _ _⟩

set_option maxRecDepth 100000 in
set_option maxHeartbeats 400000 in
theorem drop_not (v : Value) (t1 : ByteArray) (t2 : Int) (w : World) (h : Nq w v) :
    Calls Try.prog 17 #[v, .agg #[.string t1, .int .i64 t2]] w fun e w' => e = .returned (.int .i64 1) ∧ Below w.heap.size w w' := by
  have H := Lib.hid h
  clear h
  go_enter Try.func17, Try.ntmps17
  go_wp2_with (go_at_call 28; refine (none_not v _ (H.out.kept (below_alloc _ _))).mono ?_; rintro e w2 ⟨rfl, rfl⟩)
  go_ret
  exact ⟨rfl, below_alloc _ _⟩

set_option maxRecDepth 100000 in
set_option maxHeartbeats 400000 in
theorem has_not (v : Value) (t1 : ByteArray) (t2 : Int) (w : World) (h : Nq w v) :
    Calls Try.prog 25 #[v, .agg #[.string t1, .int .i64 t2]] w fun e w' => e = .returned (.bool false) ∧ Below w.heap.size w w' := by
  have H := Lib.hid h
  clear h
  go_enter Try.func25, Try.ntmps25
  go_wp2_with (go_at_call 28; refine (none_not v _ (H.out.kept (below_alloc _ _))).mono ?_; rintro e w2 ⟨rfl, rfl⟩)
  go_ret
  exact ⟨rfl, below_alloc _ _⟩

set_option maxRecDepth 100000 in
set_option maxHeartbeats 400000 in
theorem len_not (v : Value) (w : World) (h : Nq w v) :
    Calls Try.prog 19 #[v] w fun e w' => e = .returned (.int .i64 0) ∧ w = w' := by
  have H := Lib.hid h
  clear h
  go_enter Try.func19, Try.ntmps19
  go_wp2_with (go_at_call 28; refine (none_not v _ H.out).mono ?_; rintro e w2 ⟨rfl, rfl⟩)
  go_ret
  exact ⟨rfl, rfl⟩

set_option maxRecDepth 100000 in
set_option maxHeartbeats 400000 in
theorem all_not (v : Value) (w : World) (h : Nq w v) :
    Calls Try.prog 11 #[v] w fun e w' => e = .returned (.slice none 0 0) ∧ w = w' := by
  have H := Lib.hid h
  clear h
  go_enter Try.func11, Try.ntmps11
  go_wp2_with (go_at_call 28; refine (none_not v _ H.out).mono ?_; rintro e w2 ⟨rfl, rfl⟩)
  go_ret
  exact ⟨rfl, rfl⟩

set_option maxRecDepth 100000 in
set_option maxHeartbeats 400000 in
theorem peek_not (v : Value) (w : World) (h : Nq w v) :
    Calls Try.prog 18 #[v] w fun e w' => e = .returned (.tuple #[pzv, .bool false]) ∧ Below w.heap.size w w' := by
  have H := Lib.hid h
  clear h
  go_enter Try.func18, Try.ntmps18
  go_wp2_with (go_at_call 28; refine (none_not v _ (H.out.kept (below_alloc _ _))).mono ?_; rintro e w2 ⟨rfl, rfl⟩)
  exact ret_cell rfl rfl rfl (Blk.made w [.string ⟨#[]⟩, .int .i64 0, .string ⟨#[]⟩, .int .i64 0] 29) Try.underlying29 rfl info_pend2 ⟨rfl, below_alloc w _⟩

set_option maxRecDepth 100000 in
set_option maxHeartbeats 1000000 in
theorem take_not (v : Value) (w : World) (h : Nq w v) :
    Calls Try.prog 14 #[v] w fun e w' => e = .returned (.tuple #[pzv, .bool false]) ∧ Below w.heap.size w w' := by
  have h1 := Lib.hid (h.kept (below_alloc w (.cells #[.string ⟨#[]⟩, .int .i64 0, .string ⟨#[]⟩, .int .i64 0] 29)))
  have hb1 := Lib.hid (below_alloc w (.cells #[.string ⟨#[]⟩, .int .i64 0, .string ⟨#[]⟩, .int .i64 0] 29))
  have HM := Lib.hid (Blk.made w [.string ⟨#[]⟩, .int .i64 0, .string ⟨#[]⟩, .int .i64 0] 29)
  clear h
  go_enter Try.func14, Try.ntmps14
  go_wp2_with (go_at_call 18; refine (peek_not v _ h1.out).mono ?_; rintro e w2 ⟨rfl, hb⟩; have HB := Lib.hid hb; have HM2 : Hid (Blk (w2.alloc (.cells #[.string ⟨#[]⟩, .int .i64 0, .string ⟨#[]⟩, .int .i64 0] 29)) w.heap.size [.string ⟨#[]⟩, .int .i64 0, .string ⟨#[]⟩, .int .i64 0] 29) := Lib.hid ((HM.out.kept hb).alloc _); have g0 := HM2.out.cell (j := 0) rfl; have g1 := HM2.out.cell (j := 1) rfl; have g2 := HM2.out.cell (j := 2) rfl; have g3 := HM2.out.cell (j := 3) rfl; have f0 := HM2.out.free; clear hb)
  exact ret_cell rfl rfl rfl (blk_fill HM2.out) Try.underlying29 rfl info_pend2 ⟨rfl, below_fill (below_and hb1.out (below_and HB.out (below_alloc w2 _))) (Nat.le_refl _) (Nat.le_refl _) _ _ _ _⟩
end Go.Proofs.Ytlemfbgmhjklaaa
