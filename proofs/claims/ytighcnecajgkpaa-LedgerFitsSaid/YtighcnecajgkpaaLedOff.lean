/- A ledger that is not there, or that nobody made: what every method answers. -/
import Derived.Test.YtighcnecajgkpaaLedRoom
namespace Go.Proofs.Ytighcnecajgkpaa
open Go.RowKit

/-- v is no ledger -/
def Off (v : Value) (w : World) : Prop := ∀ w', Below w.heap.size w w' → Calls Try.prog 29 #[v] w' fun e w'' => e = .returned (.bool true) ∧ w' = w''
theorem Off.kept {v : Value} {w w' : World} (h : Off v w) (hb : Below w.heap.size w w') : Off v w' := fun w'' hb' => h w'' (below_and hb hb')
theorem off_nil (w : World) : Off (.pointer none) w := fun w' _ => none_nil w'
theorem off_unmade (b : Nat) (t : TypeId) (vs : List Value) (w : World) (h : Blk w b vs t) (h4 : vs[4]? = some (.map none)) : Off (ptr b) w := fun w' hb => none_unmade b w' ((h.kept hb).cell (j := 4) h4)

set_option maxRecDepth 100000 in
set_option maxHeartbeats 1000000 in
theorem off_take (v : Value) (s t : ByteArray) (a : Am) (w : World) (h : Off v w) :
    Calls Try.prog 9 #[v, .string s, .string t, amV a] w fun e w' => e = .returned (.int .i64 1) ∧ Below w.heap.size w w' := by
  have H := Lib.hid h
  clear h
  go_enter Try.func9, Try.ntmps9
  go_wp2_with (go_at_call 29; refine (H.out _ (below_alloc _ _)).mono ?_; rintro e w' ⟨rfl, rfl⟩)
  go_ret
  exact ⟨rfl, below_alloc _ _⟩
set_option maxRecDepth 100000 in
set_option maxHeartbeats 1000000 in
theorem off_get (v : Value) (s : ByteArray) (w : World) (h : Off v w) :
    Calls Try.prog 22 #[v, .string s] w fun e w' => e = .returned (.tuple #[entV zE, .int .i64 1]) ∧ Below w.heap.size w w' := by
  have H := Lib.hid h
  clear h
  go_enter Try.func22, Try.ntmps22
  go_wp2_with (go_at_call 29; refine (H.out _ (below_alloc _ _)).mono ?_; rintro e w' ⟨rfl, rfl⟩)
  refine bodyPost_ret (results_row_tmp rfl _ _ w.heap.size 48 #[.string ⟨#[]⟩, .string ⟨#[]⟩, .int .i64 0, .int .i64 0, .int .i64 0, .int .i64 0] (0, 0) _ rfl (Blk.made w (entC zE) 48) Try.underlying48 rfl (by kernel_rfl)) rfl ?_
  exact ⟨rfl, below_alloc w _⟩
set_option maxRecDepth 100000 in
set_option maxHeartbeats 1000000 in
theorem off_give (v : Value) (s : ByteArray) (w : World) (h : Off v w) :
    Calls Try.prog 11 #[v, .string s] w fun e w' => e = .returned (.int .i64 1) ∧ Below w.heap.size w w' := by
  have HG := Lib.hid (off_get v s w h)
  clear h
  go_enter Try.func11, Try.ntmps11
  go_wp2_with (go_at_call 22; refine HG.out.mono ?_; rintro e w4 ⟨rfl, hb⟩; have HB4 := Lib.hid hb; clear hb)
  go_ret
  exact ⟨rfl, below_and HB4.out (below_alloc _ _)⟩
set_option maxRecDepth 100000 in
set_option maxHeartbeats 1000000 in
theorem off_resize (v : Value) (s : ByteArray) (a : Am) (w : World) (h : Off v w) :
    Calls Try.prog 12 #[v, .string s, amV a] w fun e w' => e = .returned (.int .i64 1) ∧ Below w.heap.size w w' := by
  obtain ⟨w3, hw3⟩ : ∃ w3, w3 = (w.alloc (.cells #[.string s] 9)).alloc (.cells #[.int .i64 a.c, .int .i64 a.r, .int .i64 a.d, .int .i64 a.p] 28) := ⟨_, rfl⟩
  obtain ⟨B, hB⟩ : ∃ B, B = w.heap.size := ⟨_, rfl⟩
  have N0 : Hid (Blk w3 B [.string s] 9) := Lib.hid (by rw [hw3, hB]; exact (Blk.made w [.string s] 9).alloc _)
  have HBL : Hid (Below w.heap.size w w3) := Lib.hid (by rw [hw3]; exact below_and (below_alloc w _) (below_alloc _ _))
  have HG := Lib.hid (off_get v s w3 (h.kept HBL.out))
  have s0 := N0.out.cell (j := 0) rfl
  clear h
  go_enter Try.func12, Try.ntmps12
  go_upto_region 1 with fail
  rw [← hw3, ← hB]
  clear hw3 hB
  go_wp2_with (go_at_call 22; refine HG.out.mono ?_; rintro e w4 ⟨rfl, hb⟩; have HB4 := Lib.hid (below_and HBL.out hb); clear hb)
  go_ret
  exact ⟨rfl, below_and HB4.out (below_alloc _ _)⟩
set_option maxRecDepth 100000 in
set_option maxHeartbeats 1000000 in
theorem off_entries (v : Value) (w : World) (h : Off v w) :
    Calls Try.prog 24 #[v] w fun e w' => e = .returned (.slice none 0 0) ∧ Below w.heap.size w w' := by
  have H := Lib.hid h
  clear h
  go_enter Try.func24, Try.ntmps24
  go_wp2_with (go_at_call 29; refine (H.out _ (Below.refl _ _)).mono ?_; rintro e w' ⟨rfl, rfl⟩)
  go_ret
  exact ⟨rfl, Below.refl _ _⟩
set_option maxRecDepth 100000 in
set_option maxHeartbeats 1000000 in
theorem off_in (v : Value) (s : ByteArray) (w : World) (h : Off v w) :
    Calls Try.prog 20 #[v, .string s] w fun e w' => e = .returned (.slice none 0 0) ∧ Below w.heap.size w w' := by
  have HE := Lib.hid (off_entries v w h)
  clear h
  go_enter Try.func20, Try.ntmps20
  go_wp2_with (go_at_call 24; refine HE.out.mono ?_; rintro e w3 ⟨rfl, hb⟩; have HB3 := Lib.hid hb; clear hb)
  go_loopw [5, 11] (fun o i wr => o = .slice none 0 0 ∧ i = .int .i64 0 ∧ Hid (Below w.heap.size w wr)) (fun _ _ _ => 0)
  case atStart => exact ⟨rfl, rfl, HB3⟩
  case round =>
    obtain ⟨rfl, rfl, HB⟩ := hrel
    go_wp2
    go_ret
    exact ⟨rfl, HB.out⟩
set_option maxRecDepth 100000 in
set_option maxHeartbeats 1000000 in
theorem off_capacity (v : Value) (w : World) (h : Off v w) :
    Calls Try.prog 25 #[v] w fun e w' => e = .returned (amV .zero) ∧ Below w.heap.size w w' := by
  have H := Lib.hid h
  clear h
  go_enter Try.func25, Try.ntmps25
  go_wp2_with (go_at_call 29; refine (H.out _ (by first | exact Below.refl _ _ | exact below_alloc _ _)).mono ?_; rintro e w' ⟨rfl, rfl⟩)
  refine bodyPost_ret (results_row rfl _ _ w.heap.size 28 #[.int .i64 0, .int .i64 0, .int .i64 0, .int .i64 0] (0, 0) _ rfl (Blk.made w (amC .zero) 28) Try.underlying28 rfl (by kernel_rfl)) rfl ?_
  exact ⟨rfl, below_alloc w _⟩
set_option maxRecDepth 100000 in
set_option maxHeartbeats 1000000 in
theorem off_free (v : Value) (w : World) (h : Off v w) :
    Calls Try.prog 13 #[v] w fun e w' => e = .returned (amV .zero) ∧ Below w.heap.size w w' := by
  have H := Lib.hid h
  clear h
  go_enter Try.func13, Try.ntmps13
  go_wp2_with (go_at_call 29; refine (H.out _ (by first | exact Below.refl _ _ | exact below_alloc _ _)).mono ?_; rintro e w' ⟨rfl, rfl⟩)
  refine bodyPost_ret (results_row rfl _ _ w.heap.size 28 #[.int .i64 0, .int .i64 0, .int .i64 0, .int .i64 0] (0, 0) _ rfl (Blk.made w (amC .zero) 28) Try.underlying28 rfl (by kernel_rfl)) rfl ?_
  exact ⟨rfl, below_alloc w _⟩
set_option maxRecDepth 100000 in
set_option maxHeartbeats 1000000 in
theorem off_left (v : Value) (s : ByteArray) (w : World) (h : Off v w) :
    Calls Try.prog 10 #[v, .string s] w fun e w' => e = .returned (.tuple #[amV .zero, .int .i64 1]) ∧ Below w.heap.size w w' := by
  have HG := Lib.hid (off_get v s _ (h.kept (below_alloc w (.cells #[.int .i64 0, .int .i64 0, .int .i64 0, .int .i64 0] 28))))
  clear h
  obtain ⟨w3, hw3⟩ : ∃ w3, w3 = w.alloc (.cells #[.int .i64 0, .int .i64 0, .int .i64 0, .int .i64 0] 28) := ⟨_, rfl⟩
  obtain ⟨B, hB⟩ : ∃ B, B = w.heap.size := ⟨_, rfl⟩
  have S0 : Hid (Blk w3 B (amC .zero) 28) := Lib.hid (by rw [hw3, hB]; exact Blk.made w (amC .zero) _)
  have HBL : Hid (Below w.heap.size w w3) := Lib.hid (by rw [hw3]; exact below_alloc w _)
  have HBW : Hid (w.heap.size ≤ B) := Lib.hid (by omega)
  rw [← hw3] at HG
  go_enter Try.func10, Try.ntmps10
  go_upto_region 1 with fail
  rw [← hw3, ← hB]
  clear hw3 hB
  go_wp2_with (go_at_call 22; refine HG.out.mono ?_; rintro e w4 ⟨rfl, hb⟩; have hbr : Blk (w4.alloc (.cells #[.string ⟨#[]⟩, .string ⟨#[]⟩, .int .i64 0, .int .i64 0, .int .i64 0, .int .i64 0] 48)) B (amC .zero) 28 := (S0.out.kept hb).alloc _; have BR := Lib.hid hbr; have HB4 := Lib.hid (below_and (below_and HBL.out hb) (below_alloc w4 (.cells #[.string ⟨#[]⟩, .string ⟨#[]⟩, .int .i64 0, .int .i64 0, .int .i64 0, .int .i64 0] 48))); have r0 := hbr.cell (j := 0) rfl; have r1 := hbr.cell (j := 1) rfl; have r2 := hbr.cell (j := 2) rfl; have r3 := hbr.cell (j := 3) rfl; have f0 := hbr.free 0; have f1 := hbr.free 1; have f2 := hbr.free 2; have f3 := hbr.free 3; clear hb hbr)
  refine bodyPost_ret (results_row_tmp rfl _ _ B 28 #[.int .i64 0, .int .i64 0, .int .i64 0, .int .i64 0] (0, 0) _ rfl ?_ Try.underlying28 rfl (by kernel_rfl)) rfl ⟨rfl, bel_set4 HB4.out HBW.out⟩
  exact (((BR.out.set 0 (.int .i64 0)).set 1 (.int .i64 0)).set 2 (.int .i64 0)).set 3 (.int .i64 0)
end Go.Proofs.Ytighcnecajgkpaa
