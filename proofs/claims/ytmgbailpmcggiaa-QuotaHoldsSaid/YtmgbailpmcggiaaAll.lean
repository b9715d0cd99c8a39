/- all: may each of some be? -/
import Derived.Test.YtmgbailpmcggiaaAmt
namespace Go.Proofs.Ytmgbailpmcggiaa
open Go.RowKit

def amsC (xs : List Am) : List Value := xs.flatMap amC
theorem amsC_length (xs : List Am) : (amsC xs).length = xs.length * 4 := by
  induction xs with
  | nil => rfl
  | cons x xs ih => simp only [amsC, List.flatMap_cons, List.length_append, List.length_cons, List.length_nil] at *; omega
theorem amsC_get : ∀ {xs : List Am} {i : Nat} (hi : i < xs.length) {j : Nat}, j < 4 → (amsC xs)[i * 4 + j]? = (amC xs[i])[j]?
  | [], _, hi, _, _ => by simp at hi
  | x :: xs, 0, _, j, hj => by
    simp only [amsC, List.flatMap_cons, Nat.zero_mul, Nat.zero_add, List.getElem_cons_zero]
    rw [List.getElem?_append_left (by simpa using hj)]
  | x :: xs, i + 1, hi, j, hj => by
    simp only [amsC, List.flatMap_cons, List.getElem_cons_succ]
    rw [List.getElem?_append_right (by simp; omega), show (i + 1) * 4 + j - (amC x).length = i * 4 + j from by simp; omega]
    exact amsC_get (xs := xs) (by simpa using hi) hj

/-- a slice of amounts -/
def Ams (w : World) (v : Value) (xs : List Am) : Prop := Row w v 4 xs.length (amsC xs)
theorem Ams.below {w w' : World} {v : Value} {xs : List Am} (h : Ams w v xs) (hb : Below w.heap.size w w') : Ams w' v xs := Row.below h hb
theorem Ams.shape {w : World} {v : Value} {xs : List Am} (h : Ams w v xs) : ∃ p c, v = .slice p xs.length c ∧ xs.length ≤ c ∧ c ≤ maxLen := by
  obtain ⟨p, c, hv, h1, h2, -⟩ := h
  exact ⟨p, c, hv, h1, h2⟩
theorem Ams.amAt {w : World} {p : Option Addr} {n c : Nat} {xs : List Am} (h : Ams w (.slice p n c) xs) {i : Nat} (hi : i < xs.length) :
    ∃ b o, p = some ⟨b, o, none⟩ ∧ w.cell? ⟨b, o + i * 4, none⟩ = some (.int .i64 xs[i].c) ∧ w.cell? ⟨b, o + i * 4 + 1, none⟩ = some (.int .i64 xs[i].r) ∧ w.cell? ⟨b, o + i * 4 + 2, none⟩ = some (.int .i64 xs[i].d) ∧ w.cell? ⟨b, o + i * 4 + 3, none⟩ = some (.int .i64 xs[i].p) := by
  obtain ⟨p', c', hv, h1, h2, h3, h4, h5, h6⟩ := h
  simp only [Value.slice.injEq] at hv
  obtain ⟨rfl, rfl, rfl⟩ := hv
  rcases h6 with h6 | ⟨b, o, hp, ha⟩
  · have := congrArg List.length h6
    rw [amsC_length] at this; simp at this; omega
  · refine ⟨b, o, hp, ?_, ?_, ?_, ?_⟩
    · exact ha _ _ (amsC_get hi (j := 0) (by omega))
    · rw [Nat.add_assoc]; exact ha _ _ (amsC_get hi (j := 1) (by omega))
    · rw [Nat.add_assoc]; exact ha _ _ (amsC_get hi (j := 2) (by omega))
    · rw [Nat.add_assoc]; exact ha _ _ (amsC_get hi (j := 3) (by omega))

def allB (xs : List Am) : Bool := xs.all Am.okB
set_option maxRecDepth 100000 in
set_option maxHeartbeats 600000 in
theorem all_any (v : Value) (xs : List Am) (w : World) (h : Ams w v xs) :
    Calls Try.prog 39 #[v] w fun e w' => e = .returned (.bool (allB xs)) ∧ Below w.heap.size w w' := by
  obtain ⟨p, c, rfl, hc, hm⟩ := h.shape
  have hml : maxLen ≤ 9223372036854775807 := by decide
  have H := Lib.hid h
  clear h
  go_enter Try.func39, Try.ntmps39
  go_wp2
  go_loopw [7] (fun i wc => ∃ k : Nat, k ≤ xs.length ∧ i = .int .i64 (k : Int) ∧ Hid ((xs.take k).all Am.okB = true) ∧ Hid (Below w.heap.size w wc)) (fun i _ => xs.length - (intOf i).toNat)
  case atStart => exact ⟨0, Nat.zero_le _, rfl, by simp [Hid], Below.refl _ _⟩
  case round =>
    obtain ⟨k, hk, rfl, HA, HB⟩ := hrel
    by_cases hlt : k < xs.length
    · obtain ⟨b, o, rfl, e0, e1, e2, e3⟩ := (H.out.below HB.out).amAt hlt
      obtain ⟨x, hx⟩ : ∃ x, x = xs[k] := ⟨_, rfl⟩
      rw [← hx] at e0 e1 e2 e3
      cases hq : x.okB
      · have HN : Hid (allB xs = false) := Lib.hid (by unfold allB; rw [← Bool.not_eq_true, List.all_eq_true]; intro hh; have := hh xs[k] (List.getElem_mem hlt); rw [← hx, hq] at this; cases this)
        have HQ := Lib.hid (Am.chk_no hq)
        clear hq hx
        go_wp2_with (go_at_call 25; refine (check_any x _).mono ?_; rw [HQ.out]; rintro e w2 ⟨rfl, hb⟩; have HB2 := Lib.hid (below_and (below_and HB.out (below_alloc wr _)) hb); clear hb)
        go_ret
        exact ⟨ret_bool HN.out.symm, HB2.out⟩
      · have HN : Hid ((xs.take (k + 1)).all Am.okB = true) := Lib.hid (by rw [List.take_succ_eq_append_getElem hlt, List.all_append, HA.out, ← hx]; simp [hq])
        have HQ := Lib.hid (Am.chk_yes hq)
        clear hq hx
        go_wp2_with (go_at_call 25; refine (check_any x _).mono ?_; rw [HQ.out]; rintro e w2 ⟨rfl, hb⟩; have HB2 := Lib.hid (below_and (below_and HB.out (below_alloc wr _)) hb); clear hb)
        go_roundw
        case rel => exact ⟨k + 1, hlt, by go_num, HN, HB2⟩
        case measure => simp [intOf]; omega
    · obtain rfl : k = xs.length := by omega
      have HN : Hid (allB xs = true) := Lib.hid (by have := HA.out; rwa [List.take_length] at this)
      go_wp2
      go_ret
      exact ⟨ret_bool HN.out.symm, HB.out⟩
end Go.Proofs.Ytmgbailpmcggiaa
