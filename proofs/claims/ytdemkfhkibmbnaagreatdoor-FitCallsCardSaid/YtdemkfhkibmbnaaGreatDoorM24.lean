/- Amt, All. -/
import Derived.Test.YtdemkfhkibmbnaaGreatDoorM04
import Derived.Carry
import Derived.Laws.Rows
import Derived.Deep.RegionWith
import Derived.Deep.RegionHeld3
import Derived.Outline
set_option maxRecDepth 100000
set_option maxHeartbeats 8000000
namespace Go.Proofs.YtdemkfhkibmbnaaGreatDoor
open Go.RowKit
structure Am where
 c : Int
 r : Int
 d : Int
 p : Int
deriving DecidableEq
namespace Am
def get (x : Am) : Nat → Int
 | 0 => x.c
 | 1 => x.r
 | 2 => x.d
 | _ => x.p
def zero : Am := ⟨0, 0, 0, 0⟩
def ok (x : Am) : Prop := ∀ k, k < 4 → 0 ≤ x.get k ∧ x.get k ≤ 1099511627776
def okB (x : Am) : Bool := decide (0 ≤ x.c ∧ x.c ≤ 1099511627776 ∧ 0 ≤ x.r ∧ x.r ≤ 1099511627776 ∧ 0 ≤ x.d ∧ x.d ≤ 1099511627776 ∧ 0 ≤ x.p ∧ x.p ≤ 1099511627776)
theorem okB_iff (x : Am) : x.okB = true ↔ x.ok := by
 unfold okB ok
 rw [decide_eq_true_eq]
 constructor
 ·intro h k hk
  match k, hk with
  | 0, _ => exact ⟨h.1, h.2.1⟩
  | 1, _ => exact ⟨h.2.2.1, h.2.2.2.1⟩
  | 2, _ => exact ⟨h.2.2.2.2.1, h.2.2.2.2.2.1⟩
  | 3, _ => exact ⟨h.2.2.2.2.2.2.1, h.2.2.2.2.2.2.2⟩
  | n + 4, h => omega
 ·intro h
  have h0 := h 0 (by omega); have h1 := h 1 (by omega); have h2 := h 2 (by omega); have h3 := h 3 (by omega); exact ⟨h0.1, h0.2, h1.1, h1.2, h2.1, h2.2, h3.1, h3.2⟩
end Am
abbrev amV (x : Am) : Value := .agg #[.int .i64 x.c, .int .i64 x.r, .int .i64 x.d, .int .i64 x.p]
abbrev amC (x : Am) : List Value := [.int .i64 x.c, .int .i64 x.r, .int .i64 x.d, .int .i64 x.p]
theorem amC_get (x : Am) {k : Nat} (hk : k < 4) : (amC x)[k]? = some (.int .i64 (x.get k)) := by
 match k, hk with
 | 0, _ => rfl
 | 1, _ => rfl
 | 2, _ => rfl
 | 3, _ => rfl
 | n + 4, h => omega
theorem results_row {P : Program} {fn : Func} {p : Tmp} {ty : TypeId} (h : fn.results = #[.cell p ty]) (tmps : Array Value) (w : World) (g : Nat) (t : TypeId) (cs : Array Value) (fr : Nat × Nat) (d : TypeDesc)
  (hp : tmps.getD p undef = .pointer (some ⟨g, 0, none⟩)) (hg : w.heap[g]? = some (.cells cs t fr))
  (hu : P.underlying ty = some d) (hd : (match d with | .struct _ | .array _ _ => true | _ => false) = true) (hi : (P.info? ty).map (·.size) = some cs.size) :
  (results fn tmps).run P w = .ok (.agg cs) w := by
 have hp' : tmps[p]?.getD undef = .pointer (some ⟨g, 0, none⟩) := by simpa using hp
 simp [results, h, hp', asAddr, run_loadVar_row w g t ty cs fr d hg hu hd hi, Result.andThen]
theorem results_row_tmp {P : Program} {fn : Func} {p u : Tmp} {ty : TypeId} (h : fn.results = #[.cell p ty, .tmp u]) (tmps : Array Value) (w : World) (g : Nat) (t : TypeId) (cs : Array Value) (fr : Nat × Nat) (d : TypeDesc)
  (hp : tmps.getD p undef = .pointer (some ⟨g, 0, none⟩)) (hg : w.heap[g]? = some (.cells cs t fr))
  (hu : P.underlying ty = some d) (hd : (match d with | .struct _ | .array _ _ => true | _ => false) = true) (hi : (P.info? ty).map (·.size) = some cs.size) :
  (results fn tmps).run P w = .ok (.tuple #[.agg cs, tmps.getD u undef]) w := by
 have hp' : tmps[p]?.getD undef = .pointer (some ⟨g, 0, none⟩) := by simpa using hp
 simp [results, h, hp', asAddr, run_loadVar_row w g t ty cs fr d hg hu hd hi, Result.andThen]
theorem array_any (x : Am) (w : World) :
  Calls Tryz.prog 54 #[amV x] w fun e w' => e = .returned (amV x) ∧ Below w.heap.size w w' := by
 go_enter Tryz.func54, Tryz.ntmps54; go_wp2; refine bodyPost_ret (results_row rfl _ _ (w.heap.size + 1) 84 #[.int .i64 x.c, .int .i64 x.r, .int .i64 x.d, .int .i64 x.p] (0, 0) _ rfl ?_ Tryz.underlying84 rfl (by kernel_rfl)) rfl ⟨rfl, below_and (below_alloc w _) (below_alloc _ _)⟩; have := Blk.made (w.alloc (.cells #[.int .i64 x.c, .int .i64 x.r, .int .i64 x.d, .int .i64 x.p] 23)) [.int .i64 x.c, .int .i64 x.r, .int .i64 x.d, .int .i64 x.p] 84
 simpa [Blk] using this
def Am.chk (x : Am) : Int := if x.okB then 0 else 2
theorem Am.chk_yes {x : Am} (h : x.okB = true) : x.chk = 0 := by unfold Am.chk; rw [h]; rfl
theorem Am.chk_no {x : Am} (h : x.okB = false) : x.chk = 2 := by unfold Am.chk; rw [h]; rfl
theorem index_am (x : Am) (w : World) : ∀ k, k < 4 → (Instr.index 84 (amV x) (.int .i64 (k : Nat))).run Tryz.prog w = .ok (.int .i64 (x.get k)) w
 | 0, _ => by kernel_rfl
 | 1, _ => by kernel_rfl
 | 2, _ => by kernel_rfl
 | 3, _ => by kernel_rfl
 | n + 4, h => by omega
theorem check_any (x : Am) (w : World) :
  Calls Tryz.prog 24 #[amV x] w fun e w' => e = .returned (.int .i64 x.chk) ∧ Below w.heap.size w w' := by
 go_enter Tryz.func24, Tryz.ntmps24; go_wp2_with (go_at_call 54; refine (array_any x _).mono ?_; rintro e w1 ⟨rfl, hb⟩; have HB := zz (below_and (below_alloc w _) hb); clear hb)
 go_loop [7] (fun i => ∃ k : Nat, k ≤ 4 ∧ i = .int .i64 (k : Int) ∧ Hid (∀ j, j < k → 0 ≤ x.get j ∧ x.get j ≤ 1099511627776)) (fun i => 4 - (intOf i).toNat)
 case atStart => exact ⟨0, Nat.zero_le _, rfl, fun j h => by omega⟩
 case round =>
  obtain ⟨k, hk, rfl, HA⟩ := hrel
  by_cases hlt : k < 4
  ·have hix := index_am x w1 k hlt
   obtain ⟨z, hz⟩ : ∃ z, z = x.get k := ⟨_, rfl⟩; rw [← hz] at hix; have HZ := zz hz; clear hz
   by_cases h1 : z < 0
   ·have HN : Hid (x.okB = false) := zz (by rw [← Bool.not_eq_true, Am.okB_iff]; intro h; have := h k hlt; have := HZ.o; omega)
    go_wp2; go_ret; exact ⟨ret_int (Am.chk_no HN.o).symm, HB.o⟩
   ·by_cases h2 : 1099511627776 < z
    ·have HN : Hid (x.okB = false) := zz (by rw [← Bool.not_eq_true, Am.okB_iff]; intro h; have := h k hlt; have := HZ.o; omega)
     go_wp2; go_ret; exact ⟨ret_int (Am.chk_no HN.o).symm, HB.o⟩
    ·have HA2 : Hid (∀ j, j < k + 1 → 0 ≤ x.get j ∧ x.get j ≤ 1099511627776) := zz (fun j hj => by
      by_cases h : j < k
      ·exact HA.o j h
      ·obtain rfl : j = k := by omega
       have := HZ.o; omega)
     have d1 : decide (z < 0) = false := by simpa using h1
     have d2 : decide (1099511627776 < z) = false := by simpa using h2
     go_wp2
     go_round
     case rel => exact ⟨k + 1, by omega, by go_num, HA2⟩
     case measure => simp [intOf]; omega
  ·obtain rfl : k = 4 := by omega
   have HN : Hid (x.okB = true) := zz (by rw [Am.okB_iff]; exact HA.o); go_wp2; go_ret; exact ⟨ret_int (Am.chk_yes HN.o).symm, HB.o⟩
def amsC (xs : List Am) : List Value := xs.flatMap amC
theorem amsC_length (xs : List Am) : (amsC xs).length = xs.length * 4 := by
 induction xs with
 | nil => rfl
 | cons x xs ih => simp only [amsC, List.flatMap_cons, List.length_append, List.length_cons, List.length_nil] at *; omega
theorem amsC_get : ∀ {xs : List Am} {i : Nat} (hi : i < xs.length) {j : Nat}, j < 4 → (amsC xs)[i * 4 + j]? = (amC xs[i])[j]?
 | [], _, hi, _, _ => by simp at hi
 | x :: xs, 0, _, j, hj => by
  simp only [amsC, List.flatMap_cons, Nat.zero_mul, Nat.zero_add, List.getElem_cons_zero]; rw [List.getElem?_append_left (by simpa using hj)]
 | x :: xs, i + 1, hi, j, hj => by
  simp only [amsC, List.flatMap_cons, List.getElem_cons_succ]; rw [List.getElem?_append_right (by simp; omega), show (i + 1) * 4 + j - (amC x).length = i * 4 + j from by simp; omega]; exact amsC_get (xs := xs) (by simpa using hi) hj
def Ams (w : World) (v : Value) (xs : List Am) : Prop := Row w v 4 xs.length (amsC xs)
theorem Ams.below {w w' : World} {v : Value} {xs : List Am} (h : Ams w v xs) (hb : Below w.heap.size w w') : Ams w' v xs := Row.below h hb
theorem Ams.shape {w : World} {v : Value} {xs : List Am} (h : Ams w v xs) : ∃ p c, v = .slice p xs.length c ∧ xs.length ≤ c ∧ c ≤ maxLen := by
 obtain ⟨p, c, hv, h1, h2, -⟩ := h; exact ⟨p, c, hv, h1, h2⟩
theorem Ams.amAt {w : World} {p : Option Addr} {n c : Nat} {xs : List Am} (h : Ams w (.slice p n c) xs) {i : Nat} (hi : i < xs.length) :
  ∃ b o, p = some ⟨b, o, none⟩ ∧ w.cell? ⟨b, o + i * 4, none⟩ = some (.int .i64 xs[i].c) ∧ w.cell? ⟨b, o + i * 4 + 1, none⟩ = some (.int .i64 xs[i].r) ∧ w.cell? ⟨b, o + i * 4 + 2, none⟩ = some (.int .i64 xs[i].d) ∧ w.cell? ⟨b, o + i * 4 + 3, none⟩ = some (.int .i64 xs[i].p) := by
 obtain ⟨p', c', hv, h1, h2, h3, h4, h5, h6⟩ := h; simp only [Value.slice.injEq] at hv; obtain ⟨rfl, rfl, rfl⟩ := hv; rcases h6 with h6 | ⟨b, o, hp, ha⟩
 ·have := congrArg List.length h6
  rw [amsC_length] at this; simp at this; omega
 ·refine ⟨b, o, hp, ?_, ?_, ?_, ?_⟩
  ·exact ha _ _ (amsC_get hi (j := 0) (by omega))
  ·rw [Nat.add_assoc]; exact ha _ _ (amsC_get hi (j := 1) (by omega))
  ·rw [Nat.add_assoc]; exact ha _ _ (amsC_get hi (j := 2) (by omega))
  ·rw [Nat.add_assoc]; exact ha _ _ (amsC_get hi (j := 3) (by omega))
def allB (xs : List Am) : Bool := xs.all Am.okB
theorem all_any (v : Value) (xs : List Am) (w : World) (h : Ams w v xs) :
  Calls Tryz.prog 101 #[v] w fun e w' => e = .returned (.bool (allB xs)) ∧ Below w.heap.size w w' := by
 obtain ⟨p, c, rfl, hc, hm⟩ := h.shape; have hml : maxLen ≤ 9223372036854775807 := by decide
 have H := zz h; clear h; go_enter Tryz.func101, Tryz.ntmps101; go_wp2
 go_loopw [7] (fun i wc => ∃ k : Nat, k ≤ xs.length ∧ i = .int .i64 (k : Int) ∧ Hid ((xs.take k).all Am.okB = true) ∧ Hid (Below w.heap.size w wc)) (fun i _ => xs.length - (intOf i).toNat)
 case atStart => exact ⟨0, Nat.zero_le _, rfl, by simp [Hid], Below.refl _ _⟩
 case round =>
  obtain ⟨k, hk, rfl, HA, HB⟩ := hrel
  by_cases hlt : k < xs.length
  ·obtain ⟨b, o, rfl, e0, e1, e2, e3⟩ := (H.o.below HB.o).amAt hlt
   obtain ⟨x, hx⟩ : ∃ x, x = xs[k] := ⟨_, rfl⟩; rw [← hx] at e0 e1 e2 e3; cases hq : x.okB
   ·have HN : Hid (allB xs = false) := zz (by unfold allB; rw [← Bool.not_eq_true, List.all_eq_true]; intro hh; have := hh xs[k] (List.getElem_mem hlt); rw [← hx, hq] at this; cases this)
    have HQ := zz (Am.chk_no hq); clear hq hx; go_wp2_with (go_at_call 24; refine (check_any x _).mono ?_; rw [HQ.o]; rintro e w2 ⟨rfl, hb⟩; have HB2 := zz (below_and (below_and HB.o (below_alloc wr _)) hb); clear hb); go_ret; exact ⟨ret_bool HN.o.symm, HB2.o⟩
   ·have HN : Hid ((xs.take (k + 1)).all Am.okB = true) := zz (by rw [List.take_succ_eq_append_getElem hlt, List.all_append, HA.o, ← hx]; simp [hq])
    have HQ := zz (Am.chk_yes hq); clear hq hx; go_wp2_with (go_at_call 24; refine (check_any x _).mono ?_; rw [HQ.o]; rintro e w2 ⟨rfl, hb⟩; have HB2 := zz (below_and (below_and HB.o (below_alloc wr _)) hb); clear hb); go_roundw
    case rel => exact ⟨k + 1, hlt, by go_num, HN, HB2⟩
    case measure => simp [intOf]; omega
  ·obtain rfl : k = xs.length := by omega
   have HN : Hid (allB xs = true) := zz (by have := HA.o; rwa [List.take_length] at this); go_wp2; go_ret; exact ⟨ret_bool HN.o.symm, HB.o⟩
