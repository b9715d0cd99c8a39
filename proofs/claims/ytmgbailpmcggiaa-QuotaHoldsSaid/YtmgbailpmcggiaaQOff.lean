/- A book that is not there, or that nobody made: what every method answers. -/
import Derived.Test.YtmgbailpmcggiaaQBo
import Derived.Test.YtmgbailpmcggiaaPick
import Derived.Test.YtmgbailpmcggiaaSortF
import Derived.Laws.IdiomRangeMap
namespace Go.Proofs.Ytmgbailpmcggiaa
open Go.RowKit

/-- v is no book -/
def QOff (v : Value) (w : World) : Prop := v = .pointer none ∨ ∃ b, v = ptr b ∧ Blk w b [.map none, .map none] 54
theorem QOff.kept {v : Value} {w w' : World} (h : QOff v w) (hb : Below w.heap.size w w') : QOff v w' := by
  rcases h with h | ⟨b, h1, h2⟩
  · exact .inl h
  · exact .inr ⟨b, h1, h2.kept hb⟩

set_option maxRecDepth 100000 in
set_option maxHeartbeats 400000 in
theorem qoff_asked (v : Value) (u : ByteArray) (d : Int) (w : World) (h : QOff v w) :
    Calls Try.prog 24 #[v, .string u, .int .i64 d] w fun e w' => e = .returned (.int .i64 1) ∧ w = w' := by
  have he := fun w r => run_eql_map_nil (P := Try.prog) w 52 9 31 r Try.underlying52
  rcases h with rfl | ⟨b, rfl, hb⟩
  · go_enter Try.func24, Try.ntmps24
    go_wp2
    go_ret
    exact ⟨rfl, rfl⟩
  · have c1 := hb.cell (j := 1) rfl
    clear hb
    go_enter Try.func24, Try.ntmps24
    go_wp2
    go_ret
    exact ⟨rfl, rfl⟩
set_option maxRecDepth 100000 in
set_option maxHeartbeats 400000 in
theorem qoff_named (v : Value) (s : ByteArray) (w : World) (h : QOff v w) :
    Calls Try.prog 26 #[v, .string s] w fun e w' => e = .returned (.int .i64 1) ∧ w = w' := by
  have he := fun w r => run_eql_map_nil (P := Try.prog) w 52 9 31 r Try.underlying52
  rcases h with rfl | ⟨b, rfl, hb⟩
  · go_enter Try.func26, Try.ntmps26
    go_wp2
    go_ret
    exact ⟨rfl, rfl⟩
  · have c1 := hb.cell (j := 1) rfl
    clear hb
    go_enter Try.func26, Try.ntmps26
    go_wp2
    go_ret
    exact ⟨rfl, rfl⟩
set_option maxRecDepth 100000 in
set_option maxHeartbeats 400000 in
theorem qoff_grant (v : Value) (u : ByteArray) (d : Int) (a : Am) (w : World) (h : QOff v w) :
    Calls Try.prog 8 #[v, .string u, .int .i64 d, amV a] w fun e w' => e = .returned (.int .i64 1) ∧ Below w.heap.size w w' := by
  have H := Lib.hid (h.kept (below_alloc w (.cells #[.int .i64 a.c, .int .i64 a.r, .int .i64 a.d, .int .i64 a.p] 28)))
  clear h
  go_enter Try.func8, Try.ntmps8
  go_wp2_with (go_at_call 24; refine (qoff_asked v u d _ H.out).mono ?_; rintro e w' ⟨rfl, rfl⟩)
  go_ret
  exact ⟨rfl, below_alloc _ _⟩
set_option maxRecDepth 100000 in
set_option maxHeartbeats 400000 in
theorem qoff_charge (v : Value) (c : Ch) (w : World) (h : QOff v w) :
    Calls Try.prog 9 #[v, chV c] w fun e w' => e = .returned (.int .i64 1) ∧ Below w.heap.size w w' := by
  have H := Lib.hid (h.kept (below_alloc w (.cells #[.string c.n, .string c.u, .int .i64 c.b, .int .i64 c.a.c, .int .i64 c.a.r, .int .i64 c.a.d, .int .i64 c.a.p] 31)))
  clear h
  go_enter Try.func9, Try.ntmps9
  go_wp2_with (go_at_call 26; refine (qoff_named v c.n _ H.out).mono ?_; rintro e w' ⟨rfl, rfl⟩)
  go_ret
  exact ⟨rfl, below_alloc _ _⟩
set_option maxRecDepth 100000 in
set_option maxHeartbeats 400000 in
theorem qoff_refund (v : Value) (s : ByteArray) (w : World) (h : QOff v w) :
    Calls Try.prog 14 #[v, .string s] w fun e w' => e = .returned (.int .i64 1) ∧ Below w.heap.size w w' := by
  have H := Lib.hid h
  clear h
  go_enter Try.func14, Try.ntmps14
  go_wp2_with (go_at_call 26; refine (qoff_named v s _ H.out).mono ?_; rintro e w' ⟨rfl, rfl⟩)
  go_ret
  exact ⟨rfl, Below.refl _ _⟩
set_option maxRecDepth 100000 in
set_option maxHeartbeats 400000 in
theorem qoff_change (v : Value) (s : ByteArray) (a : Am) (w : World) (h : QOff v w) :
    Calls Try.prog 11 #[v, .string s, amV a] w fun e w' => e = .returned (.int .i64 1) ∧ Below w.heap.size w w' := by
  have H := Lib.hid (h.kept (below_alloc w (.cells #[.int .i64 a.c, .int .i64 a.r, .int .i64 a.d, .int .i64 a.p] 28)))
  clear h
  go_enter Try.func11, Try.ntmps11
  go_wp2_with (go_at_call 26; refine (qoff_named v s _ H.out).mono ?_; rintro e w' ⟨rfl, rfl⟩)
  go_ret
  exact ⟨rfl, below_alloc _ _⟩
set_option maxRecDepth 100000 in
set_option maxHeartbeats 400000 in
theorem qoff_used (v : Value) (u : ByteArray) (d : Int) (w : World) (h : QOff v w) :
    Calls Try.prog 22 #[v, .string u, .int .i64 d] w fun e w' => e = .returned (.tuple #[amV .zero, .int .i64 1]) ∧ Below w.heap.size w w' := by
  have H := Lib.hid (h.kept (below_alloc w (.cells #[.int .i64 0, .int .i64 0, .int .i64 0, .int .i64 0] 28)))
  clear h
  go_enter Try.func22, Try.ntmps22
  go_wp2_with (go_at_call 24; refine (qoff_asked v u d _ H.out).mono ?_; rintro e w' ⟨rfl, rfl⟩)
  refine bodyPost_ret (results_row_tmp rfl _ _ w.heap.size 28 #[.int .i64 0, .int .i64 0, .int .i64 0, .int .i64 0] (0, 0) _ rfl (Blk.made w (amC .zero) 28) Try.underlying28 rfl (by kernel_rfl)) rfl ?_
  exact ⟨rfl, below_alloc w _⟩
set_option maxRecDepth 100000 in
set_option maxHeartbeats 400000 in
theorem qoff_granted (v : Value) (u : ByteArray) (d : Int) (w : World) (h : QOff v w) :
    Calls Try.prog 16 #[v, .string u, .int .i64 d] w fun e w' => e = .returned (.tuple #[amV .zero, .int .i64 1]) ∧ Below w.heap.size w w' := by
  have H := Lib.hid (h.kept (below_alloc w (.cells #[.int .i64 0, .int .i64 0, .int .i64 0, .int .i64 0] 28)))
  clear h
  go_enter Try.func16, Try.ntmps16
  go_wp2_with (go_at_call 24; refine (qoff_asked v u d _ H.out).mono ?_; rintro e w' ⟨rfl, rfl⟩)
  refine bodyPost_ret (results_row_tmp rfl _ _ w.heap.size 28 #[.int .i64 0, .int .i64 0, .int .i64 0, .int .i64 0] (0, 0) _ rfl (Blk.made w (amC .zero) 28) Try.underlying28 rfl (by kernel_rfl)) rfl ?_
  exact ⟨rfl, below_alloc w _⟩
set_option maxRecDepth 100000 in
set_option maxHeartbeats 1000000 in
theorem qoff_left (v : Value) (u : ByteArray) (d : Int) (w : World) (h : QOff v w) :
    Calls Try.prog 12 #[v, .string u, .int .i64 d] w fun e w' => e = .returned (.tuple #[amV .zero, .int .i64 1]) ∧ Below w.heap.size w w' := by
  obtain ⟨w3, hw3⟩ : ∃ w3, w3 = w.alloc (.cells #[.int .i64 0, .int .i64 0, .int .i64 0, .int .i64 0] 28) := ⟨_, rfl⟩
  obtain ⟨B, hB⟩ : ∃ B, B = w.heap.size := ⟨_, rfl⟩
  have B0 : Hid (Blk w3 B (amC .zero) 28) := Lib.hid (by rw [hw3, hB]; exact Blk.made w (amC .zero) _)
  have HBL : Hid (Below w.heap.size w w3) := Lib.hid (by rw [hw3]; exact below_alloc w _)
  have HBW : Hid (w.heap.size ≤ B) := Lib.hid (by omega)
  have H3 := Lib.hid (h.kept HBL.out)
  clear h
  go_enter Try.func12, Try.ntmps12
  go_upto_region 1 with fail
  rw [← hw3, ← hB]
  clear hw3 hB
  go_wp2_with (go_at_call 22; refine (qoff_used v u d _ H3.out).mono ?_; rintro e w4 ⟨rfl, hb⟩; have hbz := below_and hb (below_alloc w4 (.cells #[.int .i64 Am.zero.c, .int .i64 Am.zero.r, .int .i64 Am.zero.d, .int .i64 Am.zero.p] 28)); have HB4 := Lib.hid (below_and HBL.out hbz); have hb0 := B0.out.kept hbz; have C0 := Lib.hid hb0; have r0 := hb0.cell (j := 0) rfl; have r1 := hb0.cell (j := 1) rfl; have r2 := hb0.cell (j := 2) rfl; have r3 := hb0.cell (j := 3) rfl; have f0 := hb0.free 0; have f1 := hb0.free 1; have f2 := hb0.free 2; have f3 := hb0.free 3; clear hb hb0 hbz)
  refine bodyPost_ret (results_row_tmp rfl _ _ B 28 #[.int .i64 0, .int .i64 0, .int .i64 0, .int .i64 0] (0, 0) _ rfl ?_ Try.underlying28 rfl (by kernel_rfl)) rfl ⟨rfl, ?_⟩
  · exact (((C0.out.set 0 (.int .i64 0)).set 1 (.int .i64 0)).set 2 (.int .i64 0)).set 3 (.int .i64 0)
  · exact bel_set4 HB4.out HBW.out

set_option maxRecDepth 100000 in
set_option maxHeartbeats 1000000 in
theorem qoff_charges (v : Value) (w : World) (h : QOff v w) :
    Calls Try.prog 13 #[v] w fun e w' => e = .returned (.slice none 0 0) ∧ Below w.heap.size w w' := by
  rcases h with rfl | ⟨b, rfl, hb⟩
  · go_enter Try.func13, Try.ntmps13
    go_wp2
    go_ret
    exact ⟨rfl, Below.refl _ _⟩
  · have c4 := hb.cell (j := 1) rfl
    have HKE := Lib.hid (callsIn_wide.1 (Try.maps_Keys_32 none w))
    have HSO := Lib.hid (callsIn_wide.1 (Try.slices_Sorted_keys_nil_31_32 w))
    clear hb
    go_enter Try.func13, Try.ntmps13
    go_wp2_with (first
      | (go_at_call 32; refine HKE.out.mono ?_; rintro e w' ⟨rfl, rfl⟩)
      | (go_at_call 31; refine HSO.out.mono ?_; rintro e w3 ⟨v3, ss, rfl, rfl, -, hv, hb3⟩; have hv3 := hv.2 rfl; subst hv3; have HB3 : Hid (Below w.heap.size w w3) := Lib.hid (below_and (below_alloc w _) hb3); clear hb3 hv))
    go_loopw [3, 15] (fun o i wr => o = .slice none 0 0 ∧ i = .int .i64 0 ∧ Hid (Below w.heap.size w wr)) (fun _ _ _ => 0)
    case atStart => exact ⟨rfl, rfl, HB3⟩
    case round =>
      obtain ⟨rfl, rfl, HB⟩ := hrel
      go_wp2
      go_ret
      exact ⟨rfl, HB.out⟩
set_option maxRecDepth 100000 in
set_option maxHeartbeats 1000000 in
theorem qoff_over (v : Value) (w : World) (h : QOff v w) :
    Calls Try.prog 10 #[v] w fun e w' => e = .returned (.slice none 0 0) ∧ Below w.heap.size w w' := by
  have HC := Lib.hid (qoff_charges v w h)
  clear h
  go_enter Try.func10, Try.ntmps10
  go_wp2_with (go_at_call 13; refine HC.out.mono ?_; rintro e w3 ⟨rfl, hb⟩; have HB3 := Lib.hid hb; clear hb)
  go_loopw [3, 11] (fun o i wr => o = .slice none 0 0 ∧ i = .int .i64 0 ∧ Hid (Below w.heap.size w wr)) (fun _ _ _ => 0)
  case atStart => exact ⟨rfl, rfl, HB3⟩
  case round =>
    obtain ⟨rfl, rfl, HB⟩ := hrel
    go_wp2
    go_ret
    exact ⟨rfl, HB.out⟩
set_option maxRecDepth 100000 in
set_option maxHeartbeats 1000000 in
theorem qoff_grants (v : Value) (w : World) (h : QOff v w) :
    Calls Try.prog 18 #[v] w fun e w' => e = .returned (.slice none 0 0) ∧ Below w.heap.size w w' := by
  rcases h with rfl | ⟨b, rfl, hb⟩
  · go_enter Try.func18, Try.ntmps18
    go_wp2
    go_ret
    exact ⟨rfl, Below.refl _ _⟩
  · have c4 := hb.cell (j := 0) rfl
    have hrn := run_range_nilMap (P := Try.prog) w 51 60 28 Try.underlying51
    have hnx := fun ty => run_next_nilMap (P := Try.prog) w ty 0 0 #[]
    have HSF := Lib.hid (fun w' fv => AnyF.slices_SortFunc_none Try.sortf34 none 0 fv w')
    clear hb
    go_enter Try.func18, Try.ntmps18
    go_wp2
    go_loopw [3] (fun o wr => o = .slice none 0 0 ∧ wr = w.alloc (.mapIter none 0 #[] 0)) (fun _ _ => 0)
    case atStart => exact ⟨rfl, rfl⟩
    case round =>
      obtain ⟨rfl, rfl⟩ := hrel
      go_wp2_with (go_at_call 34; refine (HSF.out _ _).mono ?_; rintro e w3 ⟨rfl, rfl⟩)
      go_ret
      exact ⟨rfl, below_alloc w _⟩

/-- the leaves of an Act -/
abbrev actC (k : Int) (s u : ByteArray) (d : Int) (a : Am) : List Value := [.int .i64 k, .string s, .string u, .int .i64 d, .int .i64 a.c, .int .i64 a.r, .int .i64 a.d, .int .i64 a.p]
abbrev actV (k : Int) (s u : ByteArray) (d : Int) (a : Am) : Value := .agg #[.int .i64 k, .string s, .string u, .int .i64 d, .int .i64 a.c, .int .i64 a.r, .int .i64 a.d, .int .i64 a.p]
set_option maxRecDepth 100000 in
set_option maxHeartbeats 2000000 in
theorem qoff_step (v : Value) (k : Int) (s u : ByteArray) (d : Int) (a : Am) (w : World) (h : QOff v w) :
    Calls Try.prog 19 #[v, actV k s u d a] w fun e w' => e = .returned (.int .i64 1) ∧ Below w.heap.size w w' := by
  obtain ⟨w3, hw3⟩ : ∃ w3, w3 = w.alloc (.cells #[.int .i64 k, .string s, .string u, .int .i64 d, .int .i64 a.c, .int .i64 a.r, .int .i64 a.d, .int .i64 a.p] 40) := ⟨_, rfl⟩
  obtain ⟨B, hB⟩ : ∃ B, B = w.heap.size := ⟨_, rfl⟩
  have S0 : Hid (Blk w3 B (actC k s u d a) 40) := Lib.hid (by rw [hw3, hB]; exact Blk.made w (actC k s u d a) _)
  have HBL : Hid (Below w.heap.size w w3) := Lib.hid (by rw [hw3]; exact below_alloc w _)
  have H3 := Lib.hid (h.kept HBL.out)
  have c0 := S0.out.cell (j := 0) rfl
  have c1 := S0.out.cell (j := 1) rfl
  have c2 := S0.out.cell (j := 2) rfl
  have c3 := S0.out.cell (j := 3) rfl
  have c4 := S0.out.cell (j := 4) rfl
  have c5 := S0.out.cell (j := 5) rfl
  have c6 := S0.out.cell (j := 6) rfl
  have c7 := S0.out.cell (j := 7) rfl
  have hq0 := Int.emod_nonneg k (show (4 : Int) ≠ 0 by omega)
  have hq4 := Int.emod_lt_of_pos k (show (0 : Int) < 4 by omega)
  have HPK := Lib.hid (pickn_any k 4 w3 (by omega) (by omega))
  generalize k % 4 = q at hq0 hq4 HPK
  clear h
  obtain rfl | rfl | rfl | rfl : q = 0 ∨ q = 1 ∨ q = 2 ∨ q = 3 := by omega
  all_goals
    go_enter Try.func19, Try.ntmps19
    go_upto_region 1 with fail
    rw [← hw3, ← hB]
    clear hw3 hB
    go_wp2_with (first
      | (go_at_call 15; refine HPK.out.mono ?_; rintro e w4 ⟨rfl, rfl⟩)
      | (go_at_call 8; refine (qoff_grant v u d a _ H3.out).mono ?_; rintro e w4 ⟨rfl, hb⟩; have HB4 := Lib.hid (below_and HBL.out hb); clear hb)
      | (go_at_call 9; refine (qoff_charge v ⟨s, u, d, a⟩ _ H3.out).mono ?_; rintro e w4 ⟨rfl, hb⟩; have HB4 := Lib.hid (below_and HBL.out hb); clear hb)
      | (go_at_call 14; refine (qoff_refund v s _ H3.out).mono ?_; rintro e w4 ⟨rfl, hb⟩; have HB4 := Lib.hid (below_and HBL.out hb); clear hb)
      | (go_at_call 11; refine (qoff_change v s a _ H3.out).mono ?_; rintro e w4 ⟨rfl, hb⟩; have HB4 := Lib.hid (below_and HBL.out hb); clear hb))
    go_ret
    exact ⟨rfl, HB4.out⟩
end Go.Proofs.Ytmgbailpmcggiaa
