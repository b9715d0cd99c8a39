/- New, none, node, Sent, put, Send (written by gennet.py). -/
import Derived.Test.YtndjgbknhfficaaNtMem
namespace Go.Proofs.Ytndjgbknhfficaa.Nt
open Go.RowKit Go.Proofs.Ytndjgbknhfficaa Go.Proofs.Ytndjgbknhfficaa.So

set_option maxRecDepth 100000 in
set_option maxHeartbeats 2000000 in
theorem none_no {w : World} {b mb : Nat} {last : Int} {E : List En} (h : PNet w b mb last E) : Calls Try.prog 31 #[ptr b] w fun e w' => e = .returned (.bool false) ∧ w = w' := by
  have c0 := h.blk.cell (j := 0) rfl
  clear h
  have he := fun w r => run_eql_map_nil (P := Try.prog) w 57 25 32 r Try.underlying57
  go_enter Try.func31, Try.ntmps31
  go_wp2
  go_ret
  exact ⟨rfl, rfl⟩
set_option maxRecDepth 100000 in
set_option maxHeartbeats 2000000 in
theorem none_nil (w : World) : Calls Try.prog 31 #[.pointer none] w fun e w' => e = .returned (.bool true) ∧ w = w' := by
  go_enter Try.func31, Try.ntmps31
  go_wp2
  go_ret
  exact ⟨rfl, rfl⟩
set_option maxRecDepth 100000 in
set_option maxHeartbeats 2000000 in
theorem none_un (b : Nat) (w : World) (h : w.cell? ⟨b, 0, none⟩ = some (.map none)) : Calls Try.prog 31 #[ptr b] w fun e w' => e = .returned (.bool true) ∧ w = w' := by
  have he := fun w r => run_eql_map_nil (P := Try.prog) w 57 25 32 r Try.underlying57
  go_enter Try.func31, Try.ntmps31
  go_wp2
  go_ret
  exact ⟨rfl, rfl⟩
def nodeB (x : Int) : Bool := decide (0 ≤ x) && decide (x ≤ 63)
set_option maxRecDepth 100000 in
set_option maxHeartbeats 2000000 in
theorem node_any (x : Int) (w : World) : Calls Try.prog 32 #[.int .i64 x] w fun e w' => e = .returned (.bool (nodeB x)) ∧ w = w' := by
  obtain ⟨r, hr⟩ : ∃ r, r = nodeB x := ⟨_, rfl⟩
  rw [← hr]
  have HR := Lib.hid hr
  clear hr
  by_cases h0 : 0 ≤ x
  · have t0 : decide (0 ≤ x) = true := decide_eq_true h0
    by_cases h1 : x ≤ 63
    · have t1 : decide (x ≤ 63) = true := decide_eq_true h1
      go_enter Try.func32, Try.ntmps32
      go_wp2
      go_ret
      exact ⟨by rw [HR.out]; unfold nodeB; rw [t0, t1]; rfl, rfl⟩
    · have t1 : decide (x ≤ 63) = false := decide_eq_false h1
      go_enter Try.func32, Try.ntmps32
      go_wp2
      go_ret
      exact ⟨by rw [HR.out]; unfold nodeB; rw [t0, t1]; rfl, rfl⟩
  · have t0 : decide (0 ≤ x) = false := decide_eq_false h0
    go_enter Try.func32, Try.ntmps32
    go_wp2
    go_ret
    exact ⟨by rw [HR.out]; unfold nodeB; rw [t0]; rfl, rfl⟩
set_option maxRecDepth 100000 in
set_option maxHeartbeats 2000000 in
theorem sent_any {w : World} {b mb : Nat} {last : Int} {E : List En} (h : PNet w b mb last E) : Calls Try.prog 27 #[ptr b] w fun e w' => e = .returned (.int .u64 last) ∧ w = w' := by
  have H := Lib.hid h
  have c1 := h.blk.cell (j := 1) rfl
  clear h
  go_enter Try.func27, Try.ntmps27
  go_wp2_with (go_at_call 31; refine (none_no H.out).mono ?_; rintro e w2 ⟨rfl, rfl⟩)
  go_ret
  exact ⟨rfl, rfl⟩
set_option maxRecDepth 100000 in
set_option maxHeartbeats 2000000 in
theorem new_any (w : World) : Calls Try.prog 8 #[] w fun e w' => ∃ b mb, e = .returned (ptr b) ∧ w.heap.size ≤ b ∧ w.heap.size ≤ mb ∧ PNet w' b mb 0 [] ∧ Below w.heap.size w w' := by
  have hmk := @run_makeMap Try.prog
  go_enter Try.func8, Try.ntmps8
  go_wp2
  go_ret
  refine ⟨w.heap.size + 1, w.heap.size, rfl, by omega, Nat.le_refl _, ⟨?_, ?_, by simp⟩, below_and (below_alloc w _) (below_alloc _ _)⟩
  · have := Blk.made (w.alloc (.map #[] 0)) [.map (some w.heap.size), .int .u64 0] 59
    simpa using this
  · exact (nmap_made w _ _).kept (below_alloc _ _)
end Go.Proofs.Ytndjgbknhfficaa.Nt
