/- Amt. -/
import Derived.Test.YtopkfomlppnpeaaGreatDoorMSep
import Derived.Carry
import Derived.Laws.Rows
import Derived.Deep.RegionWith
import Derived.Deep.RegionHeld3
import Derived.Outline
namespace Go.Proofs.YtopkfomlppnpeaaGreatDoor
open Go.RowKit

/-- four numbers -/
structure Am where
  c : Int
  r : Int
  d : Int
  p : Int
deriving DecidableEq

namespace Am
def get (x : Am) : Nat → Int
  | 0 => x.c
  | 1 => x.r
  | 2 => x.d
  | _ => x.p
def zero : Am := ⟨0, 0, 0, 0⟩
/-- each may be -/
def ok (x : Am) : Prop := ∀ k, k < 4 → 0 ≤ x.get k ∧ x.get k ≤ 1099511627776
def okB (x : Am) : Bool := decide (0 ≤ x.c ∧ x.c ≤ 1099511627776 ∧ 0 ≤ x.r ∧ x.r ≤ 1099511627776 ∧ 0 ≤ x.d ∧ x.d ≤ 1099511627776 ∧ 0 ≤ x.p ∧ x.p ≤ 1099511627776)
/-- each is a number of the machine's -/
def fits (x : Am) : Prop := ∀ k, k < 4 → -9223372036854775808 ≤ x.get k ∧ x.get k ≤ 9223372036854775807
theorem okB_iff (x : Am) : x.okB = true ↔ x.ok := by
  unfold okB ok
  rw [decide_eq_true_eq]
  constructor
  · intro h k hk
    match k, hk with
    | 0, _ => exact ⟨h.1, h.2.1⟩
    | 1, _ => exact ⟨h.2.2.1, h.2.2.2.1⟩
    | 2, _ => exact ⟨h.2.2.2.2.1, h.2.2.2.2.2.1⟩
    | 3, _ => exact ⟨h.2.2.2.2.2.2.1, h.2.2.2.2.2.2.2⟩
    | n + 4, h => omega
  · intro h
    have h0 := h 0 (by omega)
    have h1 := h 1 (by omega)
    have h2 := h 2 (by omega)
    have h3 := h 3 (by omega)
    exact ⟨h0.1, h0.2, h1.1, h1.2, h2.1, h2.2, h3.1, h3.2⟩
end Am

abbrev amV (x : Am) : Value := .agg #[.int .i64 x.c, .int .i64 x.r, .int .i64 x.d, .int .i64 x.p]
abbrev amC (x : Am) : List Value := [.int .i64 x.c, .int .i64 x.r, .int .i64 x.d, .int .i64 x.p]
theorem amC_get (x : Am) {k : Nat} (hk : k < 4) : (amC x)[k]? = some (.int .i64 (x.get k)) := by
  match k, hk with
  | 0, _ => rfl
  | 1, _ => rfl
  | 2, _ => rfl
  | 3, _ => rfl
  | n + 4, h => omega

theorem results_row {P : Program} {fn : Func} {p : Tmp} {ty : TypeId} (h : fn.results = #[.cell p ty]) (tmps : Array Value) (w : World) (g : Nat) (t : TypeId) (cs : Array Value) (fr : Nat × Nat) (d : TypeDesc)
    (hp : tmps.getD p undef = .pointer (some ⟨g, 0, none⟩)) (hg : w.heap[g]? = some (.cells cs t fr))
    (hu : P.underlying ty = some d) (hd : (match d with | .struct _ | .array _ _ => true | _ => false) = true) (hi : (P.info? ty).map (·.size) = some cs.size) :
    (results fn tmps).run P w = .ok (.agg cs) w := by
  have hp' : tmps[p]?.getD undef = .pointer (some ⟨g, 0, none⟩) := by simpa using hp
  simp [results, h, hp', asAddr, run_loadVar_row w g t ty cs fr d hg hu hd hi, Result.andThen]
theorem results_row_tmp {P : Program} {fn : Func} {p u : Tmp} {ty : TypeId} (h : fn.results = #[.cell p ty, .tmp u]) (tmps : Array Value) (w : World) (g : Nat) (t : TypeId) (cs : Array Value) (fr : Nat × Nat) (d : TypeDesc)
    (hp : tmps.getD p undef = .pointer (some ⟨g, 0, none⟩)) (hg : w.heap[g]? = some (.cells cs t fr))
    (hu : P.underlying ty = some d) (hd : (match d with | .struct _ | .array _ _ => true | _ => false) = true) (hi : (P.info? ty).map (·.size) = some cs.size) :
    (results fn tmps).run P w = .ok (.tuple #[.agg cs, tmps.getD u undef]) w := by
  have hp' : tmps[p]?.getD undef = .pointer (some ⟨g, 0, none⟩) := by simpa using hp
  simp [results, h, hp', asAddr, run_loadVar_row w g t ty cs fr d hg hu hd hi, Result.andThen]

set_option maxRecDepth 100000 in
set_option maxHeartbeats 400000 in
theorem array_any (x : Am) (w : World) :
    Calls Tryz.prog 118 #[amV x] w fun e w' => e = .returned (amV x) ∧ Below w.heap.size w w' := by
  go_enter Tryz.func118, Tryz.ntmps118
  go_wp2
  refine bodyPost_ret (results_row rfl _ _ (w.heap.size + 1) 167 #[.int .i64 x.c, .int .i64 x.r, .int .i64 x.d, .int .i64 x.p] (0, 0) _ rfl ?_ Tryz.underlying167 rfl (by kernel_rfl)) rfl ⟨rfl, below_and (below_alloc w _) (below_alloc _ _)⟩
  have := Blk.made (w.alloc (.cells #[.int .i64 x.c, .int .i64 x.r, .int .i64 x.d, .int .i64 x.p] 37)) [.int .i64 x.c, .int .i64 x.r, .int .i64 x.d, .int .i64 x.p] 167
  simpa [Blk] using this

/-- behind a call, the same again: a number's cell -/
def Am.chk (x : Am) : Int := if x.okB then 0 else 2
theorem Am.chk_yes {x : Am} (h : x.okB = true) : x.chk = 0 := by unfold Am.chk; rw [h]; rfl
theorem Am.chk_no {x : Am} (h : x.okB = false) : x.chk = 2 := by unfold Am.chk; rw [h]; rfl

theorem index_am (x : Am) (w : World) : ∀ k, k < 4 → (Instr.index 167 (amV x) (.int .i64 (k : Nat))).run Tryz.prog w = .ok (.int .i64 (x.get k)) w
  | 0, _ => by kernel_rfl
  | 1, _ => by kernel_rfl
  | 2, _ => by kernel_rfl
  | 3, _ => by kernel_rfl
  | n + 4, h => by omega

set_option maxRecDepth 100000 in
set_option maxHeartbeats 600000 in
theorem check_any (x : Am) (w : World) :
    Calls Tryz.prog 58 #[amV x] w fun e w' => e = .returned (.int .i64 x.chk) ∧ Below w.heap.size w w' := by
  go_enter Tryz.func58, Tryz.ntmps58
  go_wp2_with (go_at_call 118; refine (array_any x _).mono ?_; rintro e w1 ⟨rfl, hb⟩; have HB := Lib.hid (below_and (below_alloc w _) hb); clear hb)
  go_loop [7] (fun i => ∃ k : Nat, k ≤ 4 ∧ i = .int .i64 (k : Int) ∧ Hid (∀ j, j < k → 0 ≤ x.get j ∧ x.get j ≤ 1099511627776)) (fun i => 4 - (intOf i).toNat)
  case atStart => exact ⟨0, Nat.zero_le _, rfl, fun j h => by omega⟩
  case round =>
    obtain ⟨k, hk, rfl, HA⟩ := hrel
    by_cases hlt : k < 4
    · have hix := index_am x w1 k hlt
      obtain ⟨z, hz⟩ : ∃ z, z = x.get k := ⟨_, rfl⟩
      rw [← hz] at hix
      have HZ := Lib.hid hz
      clear hz
      by_cases h1 : z < 0
      · have HN : Hid (x.okB = false) := Lib.hid (by rw [← Bool.not_eq_true, Am.okB_iff]; intro h; have := h k hlt; have := HZ.out; omega)
        go_wp2
        go_ret
        exact ⟨ret_int (Am.chk_no HN.out).symm, HB.out⟩
      · by_cases h2 : 1099511627776 < z
        · have HN : Hid (x.okB = false) := Lib.hid (by rw [← Bool.not_eq_true, Am.okB_iff]; intro h; have := h k hlt; have := HZ.out; omega)
          go_wp2
          go_ret
          exact ⟨ret_int (Am.chk_no HN.out).symm, HB.out⟩
        · have HA2 : Hid (∀ j, j < k + 1 → 0 ≤ x.get j ∧ x.get j ≤ 1099511627776) := Lib.hid (fun j hj => by
            by_cases h : j < k
            · exact HA.out j h
            · obtain rfl : j = k := by omega
              have := HZ.out; omega)
          have d1 : decide (z < 0) = false := by simpa using h1
          have d2 : decide (1099511627776 < z) = false := by simpa using h2
          go_wp2
          go_round
          case rel => exact ⟨k + 1, by omega, by go_num, HA2⟩
          case measure => simp [intOf]; omega
    · obtain rfl : k = 4 := by omega
      have HN : Hid (x.okB = true) := Lib.hid (by rw [Am.okB_iff]; exact HA.out)
      go_wp2
      go_ret
      exact ⟨ret_int (Am.chk_yes HN.out).symm, HB.out⟩
end Go.Proofs.YtopkfomlppnpeaaGreatDoor
