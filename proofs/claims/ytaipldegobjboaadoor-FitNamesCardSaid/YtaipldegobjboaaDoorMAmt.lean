/- , laid together: Amt, All, Two, AddP. -/
import Derived.Test.YtaipldegobjboaaDoorMSep
import Derived.Carry
import Derived.Laws.Rows
import Derived.Deep.RegionWith
import Derived.Deep.RegionHeld3
import Derived.Outline
import Derived.Deep.DeepCutAuto
namespace Go.Proofs.YtaipldegobjboaaDoor
open Go.RowKit

/-- four numbers -/
structure Am where
  c : Int
  r : Int
  d : Int
  p : Int
deriving DecidableEq

namespace Am
def get (x : Am) : Nat → Int
  | 0 => x.c
  | 1 => x.r
  | 2 => x.d
  | _ => x.p
def zero : Am := ⟨0, 0, 0, 0⟩
/-- each may be -/
def ok (x : Am) : Prop := ∀ k, k < 4 → 0 ≤ x.get k ∧ x.get k ≤ 1099511627776
def okB (x : Am) : Bool := decide (0 ≤ x.c ∧ x.c ≤ 1099511627776 ∧ 0 ≤ x.r ∧ x.r ≤ 1099511627776 ∧ 0 ≤ x.d ∧ x.d ≤ 1099511627776 ∧ 0 ≤ x.p ∧ x.p ≤ 1099511627776)
/-- each is a number of the machine's -/
def fits (x : Am) : Prop := ∀ k, k < 4 → -9223372036854775808 ≤ x.get k ∧ x.get k ≤ 9223372036854775807
theorem okB_iff (x : Am) : x.okB = true ↔ x.ok := by
  unfold okB ok
  rw [decide_eq_true_eq]
  constructor
  · intro h k hk
    match k, hk with
    | 0, _ => exact ⟨h.1, h.2.1⟩
    | 1, _ => exact ⟨h.2.2.1, h.2.2.2.1⟩
    | 2, _ => exact ⟨h.2.2.2.2.1, h.2.2.2.2.2.1⟩
    | 3, _ => exact ⟨h.2.2.2.2.2.2.1, h.2.2.2.2.2.2.2⟩
    | n + 4, h => omega
  · intro h
    have h0 := h 0 (by omega)
    have h1 := h 1 (by omega)
    have h2 := h 2 (by omega)
    have h3 := h 3 (by omega)
    exact ⟨h0.1, h0.2, h1.1, h1.2, h2.1, h2.2, h3.1, h3.2⟩
end Am

abbrev amV (x : Am) : Value := .agg #[.int .i64 x.c, .int .i64 x.r, .int .i64 x.d, .int .i64 x.p]
abbrev amC (x : Am) : List Value := [.int .i64 x.c, .int .i64 x.r, .int .i64 x.d, .int .i64 x.p]
theorem amC_get (x : Am) {k : Nat} (hk : k < 4) : (amC x)[k]? = some (.int .i64 (x.get k)) := by
  match k, hk with
  | 0, _ => rfl
  | 1, _ => rfl
  | 2, _ => rfl
  | 3, _ => rfl
  | n + 4, h => omega

theorem results_row {P : Program} {fn : Func} {p : Tmp} {ty : TypeId} (h : fn.results = #[.cell p ty]) (tmps : Array Value) (w : World) (g : Nat) (t : TypeId) (cs : Array Value) (fr : Nat × Nat) (d : TypeDesc)
    (hp : tmps.getD p undef = .pointer (some ⟨g, 0, none⟩)) (hg : w.heap[g]? = some (.cells cs t fr))
    (hu : P.underlying ty = some d) (hd : (match d with | .struct _ | .array _ _ => true | _ => false) = true) (hi : (P.info? ty).map (·.size) = some cs.size) :
    (results fn tmps).run P w = .ok (.agg cs) w := by
  have hp' : tmps[p]?.getD undef = .pointer (some ⟨g, 0, none⟩) := by simpa using hp
  simp [results, h, hp', asAddr, run_loadVar_row w g t ty cs fr d hg hu hd hi, Result.andThen]
theorem results_row_tmp {P : Program} {fn : Func} {p u : Tmp} {ty : TypeId} (h : fn.results = #[.cell p ty, .tmp u]) (tmps : Array Value) (w : World) (g : Nat) (t : TypeId) (cs : Array Value) (fr : Nat × Nat) (d : TypeDesc)
    (hp : tmps.getD p undef = .pointer (some ⟨g, 0, none⟩)) (hg : w.heap[g]? = some (.cells cs t fr))
    (hu : P.underlying ty = some d) (hd : (match d with | .struct _ | .array _ _ => true | _ => false) = true) (hi : (P.info? ty).map (·.size) = some cs.size) :
    (results fn tmps).run P w = .ok (.tuple #[.agg cs, tmps.getD u undef]) w := by
  have hp' : tmps[p]?.getD undef = .pointer (some ⟨g, 0, none⟩) := by simpa using hp
  simp [results, h, hp', asAddr, run_loadVar_row w g t ty cs fr d hg hu hd hi, Result.andThen]

set_option maxRecDepth 100000 in
set_option maxHeartbeats 400000 in
theorem array_any (x : Am) (w : World) :
    Calls Tryd.prog 32 #[amV x] w fun e w' => e = .returned (amV x) ∧ Below w.heap.size w w' := by
  go_enter Tryd.func32, Tryd.ntmps32
  go_wp2
  refine bodyPost_ret (results_row rfl _ _ (w.heap.size + 1) 77 #[.int .i64 x.c, .int .i64 x.r, .int .i64 x.d, .int .i64 x.p] (0, 0) _ rfl ?_ Tryd.underlying77 rfl (by kernel_rfl)) rfl ⟨rfl, below_and (below_alloc w _) (below_alloc _ _)⟩
  have := Blk.made (w.alloc (.cells #[.int .i64 x.c, .int .i64 x.r, .int .i64 x.d, .int .i64 x.p] 25)) [.int .i64 x.c, .int .i64 x.r, .int .i64 x.d, .int .i64 x.p] 77
  simpa [Blk] using this

/-- behind a call, the same again: a number's cell -/
def Am.chk (x : Am) : Int := if x.okB then 0 else 2
theorem Am.chk_yes {x : Am} (h : x.okB = true) : x.chk = 0 := by unfold Am.chk; rw [h]; rfl
theorem Am.chk_no {x : Am} (h : x.okB = false) : x.chk = 2 := by unfold Am.chk; rw [h]; rfl

theorem index_am (x : Am) (w : World) : ∀ k, k < 4 → (Instr.index 77 (amV x) (.int .i64 (k : Nat))).run Tryd.prog w = .ok (.int .i64 (x.get k)) w
  | 0, _ => by kernel_rfl
  | 1, _ => by kernel_rfl
  | 2, _ => by kernel_rfl
  | 3, _ => by kernel_rfl
  | n + 4, h => by omega

set_option maxRecDepth 100000 in
set_option maxHeartbeats 600000 in
theorem check_any (x : Am) (w : World) :
    Calls Tryd.prog 21 #[amV x] w fun e w' => e = .returned (.int .i64 x.chk) ∧ Below w.heap.size w w' := by
  go_enter Tryd.func21, Tryd.ntmps21
  go_wp2_with (go_at_call 32; refine (array_any x _).mono ?_; rintro e w1 ⟨rfl, hb⟩; have HB := Lib.hid (below_and (below_alloc w _) hb); clear hb)
  go_loop [7] (fun i => ∃ k : Nat, k ≤ 4 ∧ i = .int .i64 (k : Int) ∧ Hid (∀ j, j < k → 0 ≤ x.get j ∧ x.get j ≤ 1099511627776)) (fun i => 4 - (intOf i).toNat)
  case atStart => exact ⟨0, Nat.zero_le _, rfl, fun j h => by omega⟩
  case round =>
    obtain ⟨k, hk, rfl, HA⟩ := hrel
    by_cases hlt : k < 4
    · have hix := index_am x w1 k hlt
      obtain ⟨z, hz⟩ : ∃ z, z = x.get k := ⟨_, rfl⟩
      rw [← hz] at hix
      have HZ := Lib.hid hz
      clear hz
      by_cases h1 : z < 0
      · have HN : Hid (x.okB = false) := Lib.hid (by rw [← Bool.not_eq_true, Am.okB_iff]; intro h; have := h k hlt; have := HZ.out; omega)
        go_wp2
        go_ret
        exact ⟨ret_int (Am.chk_no HN.out).symm, HB.out⟩
      · by_cases h2 : 1099511627776 < z
        · have HN : Hid (x.okB = false) := Lib.hid (by rw [← Bool.not_eq_true, Am.okB_iff]; intro h; have := h k hlt; have := HZ.out; omega)
          go_wp2
          go_ret
          exact ⟨ret_int (Am.chk_no HN.out).symm, HB.out⟩
        · have HA2 : Hid (∀ j, j < k + 1 → 0 ≤ x.get j ∧ x.get j ≤ 1099511627776) := Lib.hid (fun j hj => by
            by_cases h : j < k
            · exact HA.out j h
            · obtain rfl : j = k := by omega
              have := HZ.out; omega)
          have d1 : decide (z < 0) = false := by simpa using h1
          have d2 : decide (1099511627776 < z) = false := by simpa using h2
          go_wp2
          go_round
          case rel => exact ⟨k + 1, by omega, by go_num, HA2⟩
          case measure => simp [intOf]; omega
    · obtain rfl : k = 4 := by omega
      have HN : Hid (x.okB = true) := Lib.hid (by rw [Am.okB_iff]; exact HA.out)
      go_wp2
      go_ret
      exact ⟨ret_int (Am.chk_yes HN.out).symm, HB.out⟩
end Go.Proofs.YtaipldegobjboaaDoor

namespace Go.Proofs.YtaipldegobjboaaDoor
open Go.RowKit

def amsC (xs : List Am) : List Value := xs.flatMap amC
theorem amsC_length (xs : List Am) : (amsC xs).length = xs.length * 4 := by
  induction xs with
  | nil => rfl
  | cons x xs ih => simp only [amsC, List.flatMap_cons, List.length_append, List.length_cons, List.length_nil] at *; omega
theorem amsC_get : ∀ {xs : List Am} {i : Nat} (hi : i < xs.length) {j : Nat}, j < 4 → (amsC xs)[i * 4 + j]? = (amC xs[i])[j]?
  | [], _, hi, _, _ => by simp at hi
  | x :: xs, 0, _, j, hj => by
    simp only [amsC, List.flatMap_cons, Nat.zero_mul, Nat.zero_add, List.getElem_cons_zero]
    rw [List.getElem?_append_left (by simpa using hj)]
  | x :: xs, i + 1, hi, j, hj => by
    simp only [amsC, List.flatMap_cons, List.getElem_cons_succ]
    rw [List.getElem?_append_right (by simp; omega), show (i + 1) * 4 + j - (amC x).length = i * 4 + j from by simp; omega]
    exact amsC_get (xs := xs) (by simpa using hi) hj

/-- a slice of amounts -/
def Ams (w : World) (v : Value) (xs : List Am) : Prop := Row w v 4 xs.length (amsC xs)
theorem Ams.below {w w' : World} {v : Value} {xs : List Am} (h : Ams w v xs) (hb : Below w.heap.size w w') : Ams w' v xs := Row.below h hb
theorem Ams.shape {w : World} {v : Value} {xs : List Am} (h : Ams w v xs) : ∃ p c, v = .slice p xs.length c ∧ xs.length ≤ c ∧ c ≤ maxLen := by
  obtain ⟨p, c, hv, h1, h2, -⟩ := h
  exact ⟨p, c, hv, h1, h2⟩
theorem Ams.amAt {w : World} {p : Option Addr} {n c : Nat} {xs : List Am} (h : Ams w (.slice p n c) xs) {i : Nat} (hi : i < xs.length) :
    ∃ b o, p = some ⟨b, o, none⟩ ∧ w.cell? ⟨b, o + i * 4, none⟩ = some (.int .i64 xs[i].c) ∧ w.cell? ⟨b, o + i * 4 + 1, none⟩ = some (.int .i64 xs[i].r) ∧ w.cell? ⟨b, o + i * 4 + 2, none⟩ = some (.int .i64 xs[i].d) ∧ w.cell? ⟨b, o + i * 4 + 3, none⟩ = some (.int .i64 xs[i].p) := by
  obtain ⟨p', c', hv, h1, h2, h3, h4, h5, h6⟩ := h
  simp only [Value.slice.injEq] at hv
  obtain ⟨rfl, rfl, rfl⟩ := hv
  rcases h6 with h6 | ⟨b, o, hp, ha⟩
  · have := congrArg List.length h6
    rw [amsC_length] at this; simp at this; omega
  · refine ⟨b, o, hp, ?_, ?_, ?_, ?_⟩
    · exact ha _ _ (amsC_get hi (j := 0) (by omega))
    · rw [Nat.add_assoc]; exact ha _ _ (amsC_get hi (j := 1) (by omega))
    · rw [Nat.add_assoc]; exact ha _ _ (amsC_get hi (j := 2) (by omega))
    · rw [Nat.add_assoc]; exact ha _ _ (amsC_get hi (j := 3) (by omega))

def allB (xs : List Am) : Bool := xs.all Am.okB
set_option maxRecDepth 100000 in
set_option maxHeartbeats 600000 in
theorem all_any (v : Value) (xs : List Am) (w : World) (h : Ams w v xs) :
    Calls Tryd.prog 45 #[v] w fun e w' => e = .returned (.bool (allB xs)) ∧ Below w.heap.size w w' := by
  obtain ⟨p, c, rfl, hc, hm⟩ := h.shape
  have hml : maxLen ≤ 9223372036854775807 := by decide
  have H := Lib.hid h
  clear h
  go_enter Tryd.func45, Tryd.ntmps45
  go_wp2
  go_loopw [7] (fun i wc => ∃ k : Nat, k ≤ xs.length ∧ i = .int .i64 (k : Int) ∧ Hid ((xs.take k).all Am.okB = true) ∧ Hid (Below w.heap.size w wc)) (fun i _ => xs.length - (intOf i).toNat)
  case atStart => exact ⟨0, Nat.zero_le _, rfl, by simp [Hid], Below.refl _ _⟩
  case round =>
    obtain ⟨k, hk, rfl, HA, HB⟩ := hrel
    by_cases hlt : k < xs.length
    · obtain ⟨b, o, rfl, e0, e1, e2, e3⟩ := (H.out.below HB.out).amAt hlt
      obtain ⟨x, hx⟩ : ∃ x, x = xs[k] := ⟨_, rfl⟩
      rw [← hx] at e0 e1 e2 e3
      cases hq : x.okB
      · have HN : Hid (allB xs = false) := Lib.hid (by unfold allB; rw [← Bool.not_eq_true, List.all_eq_true]; intro hh; have := hh xs[k] (List.getElem_mem hlt); rw [← hx, hq] at this; cases this)
        have HQ := Lib.hid (Am.chk_no hq)
        clear hq hx
        go_wp2_with (go_at_call 21; refine (check_any x _).mono ?_; rw [HQ.out]; rintro e w2 ⟨rfl, hb⟩; have HB2 := Lib.hid (below_and (below_and HB.out (below_alloc wr _)) hb); clear hb)
        go_ret
        exact ⟨ret_bool HN.out.symm, HB2.out⟩
      · have HN : Hid ((xs.take (k + 1)).all Am.okB = true) := Lib.hid (by rw [List.take_succ_eq_append_getElem hlt, List.all_append, HA.out, ← hx]; simp [hq])
        have HQ := Lib.hid (Am.chk_yes hq)
        clear hq hx
        go_wp2_with (go_at_call 21; refine (check_any x _).mono ?_; rw [HQ.out]; rintro e w2 ⟨rfl, hb⟩; have HB2 := Lib.hid (below_and (below_and HB.out (below_alloc wr _)) hb); clear hb)
        go_roundw
        case rel => exact ⟨k + 1, hlt, by go_num, HN, HB2⟩
        case measure => simp [intOf]; omega
    · obtain rfl : k = xs.length := by omega
      have HN : Hid (allB xs = true) := Lib.hid (by have := HA.out; rwa [List.take_length] at this)
      go_wp2
      go_ret
      exact ⟨ret_bool HN.out.symm, HB.out⟩
end Go.Proofs.YtaipldegobjboaaDoor

namespace Go.Proofs.YtaipldegobjboaaDoor
open Go.RowKit

set_option maxRecDepth 100000 in
set_option maxHeartbeats 400000 in
theorem array_exact (x : Am) (w : World) :
    Calls Tryd.prog 32 #[amV x] w fun e w' => e = .returned (amV x) ∧ w' = (w.alloc (.cells #[.int .i64 x.c, .int .i64 x.r, .int .i64 x.d, .int .i64 x.p] 25)).alloc (.cells #[.int .i64 x.c, .int .i64 x.r, .int .i64 x.d, .int .i64 x.p] 77) := by
  go_enter Tryd.func32, Tryd.ntmps32
  go_wp2
  refine bodyPost_ret (results_row rfl _ _ (w.heap.size + 1) 77 #[.int .i64 x.c, .int .i64 x.r, .int .i64 x.d, .int .i64 x.p] (0, 0) _ rfl ?_ Tryd.underlying77 rfl (by kernel_rfl)) rfl ⟨rfl, rfl⟩
  have := Blk.made (w.alloc (.cells #[.int .i64 x.c, .int .i64 x.r, .int .i64 x.d, .int .i64 x.p] 25)) [.int .i64 x.c, .int .i64 x.r, .int .i64 x.d, .int .i64 x.p] 77
  simpa [Blk] using this

set_option maxRecDepth 100000 in
set_option maxHeartbeats 400000 in
theorem amounts_any (x : Am) (w : World) :
    Calls Tryd.prog 46 #[amV x] w fun e w' => e = .returned (amV x) ∧ Below w.heap.size w w' := by
  go_enter Tryd.func46, Tryd.ntmps46
  go_wp2
  refine bodyPost_ret (results_row rfl _ _ (w.heap.size + 1) 25 #[.int .i64 x.c, .int .i64 x.r, .int .i64 x.d, .int .i64 x.p] (0, 0) _ rfl ?_ Tryd.underlying25 rfl (by kernel_rfl)) rfl ⟨rfl, below_and (below_alloc w _) (below_alloc _ _)⟩
  have := Blk.made (w.alloc (.cells #[.int .i64 x.c, .int .i64 x.r, .int .i64 x.d, .int .i64 x.p] 77)) [.int .i64 x.c, .int .i64 x.r, .int .i64 x.d, .int .i64 x.p] 25
  simpa [Blk] using this

theorem Blk.drew {w : World} {g : Nat} {cs : List Value} {t : TypeId} (h : Blk w g cs t) : Blk w.drew g cs t := h
theorem Blk.made_at {w : World} {g : Nat} {cs : List Value} {t : TypeId} (h : w.heap.size = g) : Blk (w.alloc (.cells cs.toArray t)) g cs t := h ▸ Blk.made w cs t
theorem bl_drew {n : Nat} {a w : World} (h : Below n a w) : Below n a w.drew := Below.drewN' h 1
theorem bl_alloc {n : Nat} {a w : World} (o : Obj) (h : Below n a w) (hB : n ≤ w.heap.size) : Below n a (w.alloc o) := h.alloc hB o
theorem eight {w : World} {g h : Nat} {x y : Am} {t u : TypeId} (h0 : Blk w g (amC x) t) (h1 : Blk w h (amC y) u) : w.cell? ⟨g, 0, none⟩ = some (.int .i64 x.c) ∧ w.cell? ⟨g, 1, none⟩ = some (.int .i64 x.r) ∧ w.cell? ⟨g, 2, none⟩ = some (.int .i64 x.d) ∧ w.cell? ⟨g, 3, none⟩ = some (.int .i64 x.p) ∧ w.cell? ⟨h, 0, none⟩ = some (.int .i64 y.c) ∧ w.cell? ⟨h, 1, none⟩ = some (.int .i64 y.r) ∧ w.cell? ⟨h, 2, none⟩ = some (.int .i64 y.d) ∧ w.cell? ⟨h, 3, none⟩ = some (.int .i64 y.p) :=
  ⟨h0.cell (j := 0) rfl, h0.cell (j := 1) rfl, h0.cell (j := 2) rfl, h0.cell (j := 3) rfl, h1.cell (j := 0) rfl, h1.cell (j := 1) rfl, h1.cell (j := 2) rfl, h1.cell (j := 3) rfl⟩

/-- two arrays of the call's own, from block B on -/
def Two (B : Nat) (w : World) (u v : Value) (x y : Am) : Prop :=
  ∃ g h, u = ptr g ∧ v = ptr h ∧ g ≠ h ∧ B ≤ g ∧ B ≤ h ∧ Blk w g (amC x) 77 ∧ Blk w h (amC y) 77

/-- the first k of z, then x's -/
def Am.mix (k : Nat) (x z : Am) : Am := ⟨if 0 < k then z.c else x.c, if 1 < k then z.r else x.r, if 2 < k then z.d else x.d, if 3 < k then z.p else x.p⟩
theorem Am.mix_zero (x z : Am) : Am.mix 0 x z = x := rfl
theorem Am.mix_four (x z : Am) : Am.mix 4 x z = z := rfl
theorem Am.mix_get (k : Nat) (hk : k < 4) (x z : Am) : (amC (Am.mix k x z))[k]? = some (.int .i64 (x.get k)) := by
  match k, hk with
  | 0, _ => rfl
  | 1, _ => rfl
  | 2, _ => rfl
  | 3, _ => rfl
  | n + 4, h => omega
theorem Am.mix_set (k : Nat) (hk : k < 4) (x z : Am) : (amC (Am.mix k x z)).set k (.int .i64 (z.get k)) = amC (Am.mix (k + 1) x z) := by
  match k, hk with
  | 0, _ => rfl
  | 1, _ => rfl
  | 2, _ => rfl
  | 3, _ => rfl
  | n + 4, h => omega
end Go.Proofs.YtaipldegobjboaaDoor

namespace Go.Proofs.YtaipldegobjboaaDoor
open Go.RowKit

theorem Am.ext_get {x y : Am} (h : ∀ k, k < 4 → x.get k = y.get k) : x = y := by
  cases x; cases y
  have h0 := h 0 (by omega)
  have h1 := h 1 (by omega)
  have h2 := h 2 (by omega)
  have h3 := h 3 (by omega)
  simp only [Am.get] at h0 h1 h2 h3
  rw [h0, h1, h2, h3]
/-- of a number for each -/
def Am.of (f : Nat → Int) : Am := ⟨f 0, f 1, f 2, f 3⟩
theorem Am.of_get (f : Nat → Int) (k : Nat) (hk : k < 4) : (Am.of f).get k = f k := by
  match k, hk with
  | 0, _ => rfl
  | 1, _ => rfl
  | 2, _ => rfl
  | 3, _ => rfl
  | n + 4, h => omega
/-- does one of the four meet a test? -/
def any4 (f : Nat → Bool) : Bool := f 0 || f 1 || f 2 || f 3
theorem any4_yes {f : Nat → Bool} {k : Nat} (hk : k < 4) (h : f k = true) : any4 f = true := by
  unfold any4
  match k, hk with
  | 0, _ => simp [h]
  | 1, _ => simp [h]
  | 2, _ => simp [h]
  | 3, _ => simp [h]
  | n + 4, hk => omega
theorem any4_no {f : Nat → Bool} (h : ∀ k, k < 4 → f k = false) : any4 f = false := by
  unfold any4
  rw [h 0 (by omega), h 1 (by omega), h 2 (by omega), h 3 (by omega)]
  rfl
theorem any4_false {f : Nat → Bool} (h : any4 f = false) {k : Nat} (hk : k < 4) : f k = false := by
  cases hf : f k
  · rfl
  · rw [any4_yes hk hf] at h; cases h

def addR (x y : Am) : Am × Int :=
  if (x.okB && y.okB) = false then (.zero, 2) else if any4 (fun k => decide (1099511627776 < x.get k + y.get k)) = true then (.zero, 9) else (.of fun k => x.get k + y.get k, 0)
def fitsB (x y : Am) : Bool := !any4 (fun k => decide (y.get k < x.get k))
def subR (x y : Am) : Am × Int :=
  if (x.okB && y.okB) = false then (.zero, 2) else if fitsB y x = false then (.zero, 14) else (.of fun k => x.get k - y.get k, 0)
theorem addR_bad {x y : Am} (h : (x.okB && y.okB) = false) : addR x y = (.zero, 2) := by unfold addR; rw [if_pos h]
theorem addR_over {x y : Am} (h : (x.okB && y.okB) = true) {k : Nat} (hk : k < 4) (ho : 1099511627776 < x.get k + y.get k) : addR x y = (.zero, 9) := by
  unfold addR; rw [if_neg (by rw [h]; decide), if_pos (any4_yes hk (by simpa using ho))]
theorem addR_ok {x y z : Am} (h : (x.okB && y.okB) = true) (ho : ∀ k, k < 4 → x.get k + y.get k ≤ 1099511627776) (hz : ∀ k, k < 4 → z.get k = x.get k + y.get k) : addR x y = (z, 0) := by
  unfold addR
  rw [if_neg (by rw [h]; decide), if_neg (by rw [any4_no (fun k hk => by have := ho k hk; simpa using this)]; decide)]
  congr 1
  exact Am.ext_get fun k hk => by rw [Am.of_get _ k hk, hz k hk]
theorem subR_bad {x y : Am} (h : (x.okB && y.okB) = false) : subR x y = (.zero, 2) := by unfold subR; rw [if_pos h]
theorem subR_fit {x y : Am} (h : (x.okB && y.okB) = true) (hf : fitsB y x = false) : subR x y = (.zero, 14) := by
  unfold subR; rw [if_neg (by rw [h]; decide), if_pos hf]
theorem subR_ok {x y z : Am} (h : (x.okB && y.okB) = true) (hf : fitsB y x = true) (hz : ∀ k, k < 4 → z.get k = x.get k - y.get k) : subR x y = (z, 0) := by
  unfold subR
  rw [if_neg (by rw [h]; decide), if_neg (by rw [hf]; decide)]
  congr 1
  exact Am.ext_get fun k hk => by rw [Am.of_get _ k hk, hz k hk]

theorem ok_get {x : Am} (h : x.okB = true) {k : Nat} (hk : k < 4) : 0 ≤ x.get k ∧ x.get k ≤ 1099511627776 := (Am.okB_iff x).1 h k hk

theorem amsC_one (xs : List Am) : ∀ u ∈ amsC xs, u.oneCell' = true := by
  intro u hu
  obtain ⟨x, -, hx⟩ := List.mem_flatMap.1 hu
  simp only [List.mem_cons, List.not_mem_nil, or_false] at hx
  rcases hx with rfl | rfl | rfl | rfl <;> rfl
theorem ams_block {w : World} {g : Nat} {xs : List Am} {e : TypeId} {fr : Nat × Nat} (hg : w.heap[g]? = some (.cells (amsC xs).toArray e fr)) (hm : xs.length ≤ maxLen) : Ams w (.slice (some ⟨g, 0, none⟩) xs.length xs.length) xs := by
  refine ⟨_, _, rfl, Nat.le_refl _, hm, amsC_length xs, amsC_one xs, by simp, .inr ⟨g, 0, rfl, fun j u hj => ?_⟩⟩
  rw [cell_of_row w g (0 + j) _ _ _ hg]
  simpa using hj
theorem ams_two (w : World) (x y : Am) : Ams (w.alloc (.cells #[.int .i64 x.c, .int .i64 x.r, .int .i64 x.d, .int .i64 x.p, .int .i64 y.c, .int .i64 y.r, .int .i64 y.d, .int .i64 y.p] 25)) (.slice (some ⟨w.heap.size, 0, none⟩) 2 2) [x, y] :=
  ams_block (xs := [x, y]) (heap_alloc_new w _) (by simp [maxLen])
theorem ams_one (w : World) (x : Am) : Ams (w.alloc (.cells #[.int .i64 x.c, .int .i64 x.r, .int .i64 x.d, .int .i64 x.p] 25)) (.slice (some ⟨w.heap.size, 0, none⟩) 1 1) [x] :=
  ams_block (xs := [x]) (heap_alloc_new w _) (by simp [maxLen])
theorem all_two (w : World) (x y : Am) : Calls Tryd.prog 45 #[.slice (some ⟨w.heap.size, 0, none⟩) 2 2] (w.alloc (.cells #[.int .i64 x.c, .int .i64 x.r, .int .i64 x.d, .int .i64 x.p, .int .i64 y.c, .int .i64 y.r, .int .i64 y.d, .int .i64 y.p] 25)) fun e w' => e = .returned (.bool (x.okB && y.okB)) ∧ Below w.heap.size w w' :=
  (all_any _ [x, y] _ (ams_two w x y)).mono fun e w' ⟨h1, h2⟩ => ⟨by rw [h1]; simp [allB], below_and (below_alloc w _) h2⟩
theorem all_one (w : World) (x : Am) : Calls Tryd.prog 45 #[.slice (some ⟨w.heap.size, 0, none⟩) 1 1] (w.alloc (.cells #[.int .i64 x.c, .int .i64 x.r, .int .i64 x.d, .int .i64 x.p] 25)) fun e w' => e = .returned (.bool x.okB) ∧ Below w.heap.size w w' :=
  (all_any _ [x] _ (ams_one w x)).mono fun e w' ⟨h1, h2⟩ => ⟨by rw [h1]; simp [allB], below_and (below_alloc w _) h2⟩
end Go.Proofs.YtaipldegobjboaaDoor
