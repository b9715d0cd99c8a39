/- clock.Keeps judges a course as Clk.keeps says. -/
import Derived.Test.YtmgcigohfccgeaaIRows
import Derived.Test.YtmgcigohfccgeaaCPlain
namespace Go.Proofs.Ytmgcigohfccgeaa
open Go.RowKit

namespace Clk
/-- the numbers of one clock -/
def own (zss : List (List Int)) (node : Nat) : List Int := zss.map fun l => l.getD node 0
def badN (n : Int) : Bool := decide (n < 0) || decide (1048576 < n)
def bad (zss : List (List Int)) : Bool := zss.any fun l => l.any badN
def keeps (zss : List (List Int)) (node d : Int) : Bool × Int :=
  if d < 0 ∨ 500 < d ∨ node < 0 ∨ 63 < node ∨ 1048576 < zss.length then (false, 2)
  else if bad zss then (false, 2)
  else (pass d (own zss node.toNat) 0 0 0 0, 0)
end Clk

theorem ret_keeps {a b : Bool × Int} (h : a = b) : Ending.returned (.tuple #[.bool a.1, .int .i64 a.2]) = Ending.returned (.tuple #[.bool b.1, .int .i64 b.2]) := by rw [h]

set_option maxRecDepth 100000 in
set_option maxHeartbeats 1000000 in
theorem keeps_arg (v : Value) (zss : List (List Int)) (node d : Int) (w : World) (h : Rows2 w v zss) (hl : zss.length ≤ 9223372036854775807) (hb : d < 0 ∨ 500 < d ∨ node < 0 ∨ 63 < node ∨ 1048576 < zss.length) :
    Calls Try.prog 14 #[v, .int .i64 node, .int .i64 d] w fun e w' => e = .returned (.tuple #[.bool false, .int .i64 2]) ∧ w = w' := by
  obtain ⟨p, c, rfl, -⟩ := h.parts
  go_enter Try.func14, Try.ntmps14
  by_cases h1 : d < 0
  · go_wp2
    go_ret2
    exact ⟨rfl, rfl⟩
  · by_cases h2 : 500 < d
    · go_wp2
      go_ret2
      exact ⟨rfl, rfl⟩
    · by_cases h3 : node < 0
      · go_wp2
        go_ret2
        exact ⟨rfl, rfl⟩
      · by_cases h4 : 63 < node
        · go_wp2
          go_ret2
          exact ⟨rfl, rfl⟩
        · have h5 : 1048576 < zss.length := by omega
          clear hb
          go_wp2
          go_ret2
          exact ⟨rfl, rfl⟩

theorem any_take_succ {α : Type} (l : List α) (f : α → Bool) (k : Nat) (hk : k < l.length) (h : (l.take k).any f = false) (hf : f l[k] = false) : (l.take (k + 1)).any f = false := by
  rw [List.take_succ_eq_append_getElem hk, List.any_append, h]; simp [hf]
theorem any_at {α : Type} (l : List α) (f : α → Bool) (k : Nat) (hk : k < l.length) (hf : f l[k] = true) : l.any f = true :=
  List.any_eq_true.2 ⟨l[k], List.getElem_mem hk, hf⟩

namespace Clk
theorem own_getD (zss : List (List Int)) (node i : Nat) (h : i < zss.length) : (own zss node)[i]'(by simpa [own] using h) = (zss[i]).getD node 0 := by simp [own]
theorem bad_false {zss : List (List Int)} (h : bad zss = false) {i : Nat} (hi : i < zss.length) {j : Nat} (hj : j < zss[i].length) : 0 ≤ zss[i][j] ∧ zss[i][j] ≤ 1048576 := by
  unfold bad at h
  have h1 := List.any_eq_false.1 h zss[i] (List.getElem_mem hi)
  have h2 := List.any_eq_false.1 (by simpa using h1) zss[i][j] (List.getElem_mem hj)
  simp [badN] at h2
  omega
theorem own_bound {zss : List (List Int)} (h : bad zss = false) (node : Nat) {i : Nat} (hi : i < zss.length) : 0 ≤ (zss[i]).getD node 0 ∧ (zss[i]).getD node 0 ≤ 1048576 := by
  by_cases hn : node < zss[i].length
  · have := bad_false h hi hn
    simpa [List.getD, hn] using this
  · simp [List.getD, Nat.not_lt.1 hn]
theorem pass_step {d : Int} {zss : List (List Int)} {node i : Nat} (hi : i < zss.length) (low high ml lh : Int) :
    pass d ((own zss node).drop i) low high ml lh =
      if 2000 < ml - (low + (1000 * (zss[i]).getD node 0 - (1000 - d))) ∨ 2000 < high + (1000 * (zss[i]).getD node 0 - (1000 + d)) - lh then false
      else pass d ((own zss node).drop (i + 1)) (low + (1000 * (zss[i]).getD node 0 - (1000 - d))) (high + (1000 * (zss[i]).getD node 0 - (1000 + d))) (max ml (low + (1000 * (zss[i]).getD node 0 - (1000 - d)))) (min lh (high + (1000 * (zss[i]).getD node 0 - (1000 + d)))) := by
  rw [List.drop_eq_getElem_cons (by simpa [own] using hi), own_getD zss node i hi]
  rfl
end Clk

theorem ifmin (a b : Int) : (if a < b then a else b) = min b a := by rw [Int.min_def]; split <;> split <;> omega
theorem ifmax (a b : Int) : (if a < b then b else a) = max a b := by rw [Int.max_def]; split <;> split <;> omega

set_option maxRecDepth 100000 in
set_option maxHeartbeats 2000000 in
theorem keeps_go (v : Value) (zss : List (List Int)) (node : Nat) (d : Int) (w : World) (h : Rows2 w v zss) (h1 : 0 ≤ d) (h2 : d ≤ 500) (h4 : node ≤ 63) (h5 : zss.length ≤ 1048576) (hrow : ∀ i (hi : i < zss.length), zss[i].length ≤ 9223372036854775807)
    (r : Bool × Int) (hr : Hid (r = if Clk.bad zss then (false, 2) else (Clk.pass d (Clk.own zss node) 0 0 0 0, 0))) :
    Calls Try.prog 14 #[v, .int .i64 (node : Int), .int .i64 d] w fun e w' => e = .returned (.tuple #[.bool r.1, .int .i64 r.2]) ∧ w = w' := by
  obtain ⟨p, c, rfl, hc, hm, hat⟩ := h.parts
  have HA := Lib.hid hat
  have HR := Lib.hid hrow
  clear hat h hm hrow
  go_enter Try.func14, Try.ntmps14
  go_wp2
  go_loop [40] (fun i => ∃ k : Nat, k ≤ zss.length ∧ i = .int .i64 (k : Int) ∧ Hid ((zss.take k).any (fun l => l.any Clk.badN) = false)) (fun i => zss.length - (intOf i).toNat)
  case atStart => exact ⟨0, Nat.zero_le _, rfl, by simp [Hid]⟩
  case round =>
    obtain ⟨k, hk, rfl, hok⟩ := hrel
    by_cases hlt : k < zss.length
    · obtain ⟨b, o, p', c', rfl, e1, hrk⟩ := HA.out k hlt
      have hlr := HR.out k hlt
      have HK := Lib.hid hrk
      clear hrk
      go_wp2
      go_loop [46] (fun i => ∃ j : Nat, j ≤ zss[k].length ∧ i = .int .i64 (j : Int) ∧ Hid ((zss[k].take j).any Clk.badN = false)) (fun i => zss[k].length - (intOf i).toNat)
      case atStart => exact ⟨0, Nat.zero_le _, rfl, by simp [Hid]⟩
      case round =>
        obtain ⟨j, hj, rfl, hjok⟩ := hrel
        by_cases hjl : j < zss[k].length
        · obtain ⟨b2, o2, rfl, e2⟩ := HK.out.num hjl
          generalize hx : zss[k][j] = x at e2
          have HX := Lib.hid hx
          clear hx
          by_cases hx1 : x < 0
          · have hbad : Clk.bad zss = true := any_at zss _ k hlt (any_at _ _ j hjl (by rw [HX.out]; simp [Clk.badN, hx1]))
            have HB := Lib.hid hbad
            clear hbad
            go_wp2
            go_ret2
            exact ⟨ret_keeps (a := (false, 2)) (by rw [hr.out, if_pos HB.out]), rfl⟩
          · by_cases hx2 : 1048576 < x
            · have hbad : Clk.bad zss = true := any_at zss _ k hlt (any_at _ _ j hjl (by rw [HX.out]; simp [Clk.badN, hx2]))
              have HB := Lib.hid hbad
              clear hbad
              go_wp2
              go_ret2
              exact ⟨ret_keeps (a := (false, 2)) (by rw [hr.out, if_pos HB.out]), rfl⟩
            · have hnb : Hid ((zss[k].take (j + 1)).any Clk.badN = false) := Lib.hid (any_take_succ _ _ j hjl hjok.out (by rw [HX.out]; simp [Clk.badN, hx1, hx2]))
              go_wp2
              go_round
              case rel => exact ⟨j + 1, hjl, by go_num, hnb⟩
              case measure => simp [intOf]; omega
        · obtain rfl : j = zss[k].length := by omega
          have hnb : Hid ((zss.take (k + 1)).any (fun l => l.any Clk.badN) = false) := Lib.hid (any_take_succ _ _ k hlt hok.out (by have := hjok.out; rwa [List.take_length] at this))
          clear hjok
          go_wp2
          go_round
          case rel => exact ⟨k + 1, hlt, by go_num, hnb⟩
          case measure => simp [intOf]; omega
    · obtain rfl : k = zss.length := by omega
      have hgood : Hid (Clk.bad zss = false) := Lib.hid (by have := hok.out; rwa [List.take_length] at this)
      clear hok
      go_wp2
      have hP : Hid (∀ b, b = Clk.pass d (Clk.own zss node) 0 0 0 0 → r = (b, 0)) := Lib.hid (by rintro b rfl; rw [hr.out, if_neg (by rw [hgood.out]; simp)])
      clear hr
      go_loop [12, 13, 14, 15, 60] (fun lo hi lh ml i => ∃ (k : Nat) (a1 a2 a3 a4 : Int), k ≤ zss.length ∧ i = .int .i64 (k : Int) ∧ lo = .int .i64 a1 ∧ hi = .int .i64 a2 ∧ lh = .int .i64 a3 ∧ ml = .int .i64 a4 ∧ Hid ((-2000 * (k : Int) ≤ a1 ∧ a1 ≤ 2000000000 * (k : Int) ∧ -2000 * (k : Int) ≤ a2 ∧ a2 ≤ 2000000000 * (k : Int) ∧ -2000 * (k : Int) ≤ a3 ∧ a3 ≤ 2000000000 * (k : Int) ∧ -2000 * (k : Int) ≤ a4 ∧ a4 ≤ 2000000000 * (k : Int)) ∧ Clk.pass d (Clk.own zss node) 0 0 0 0 = Clk.pass d ((Clk.own zss node).drop k) a1 a2 a4 a3)) (fun _ _ _ _ i => zss.length - (intOf i).toNat)
      case atStart => exact ⟨0, 0, 0, 0, 0, Nat.zero_le _, rfl, rfl, rfl, rfl, rfl, ⟨by simp, by simp⟩⟩
      case round =>
        obtain ⟨k, a1, a2, a3, a4, hk, rfl, rfl, rfl, rfl, rfl, hst⟩ := hrel
        obtain ⟨⟨b1, b2, b3, b4, b5, b6, b7, b8⟩, hps⟩ := hst
        have HP := Lib.hid hps
        clear hps
        by_cases hlt : k < zss.length
        · obtain ⟨b, o, p', c', rfl, e1, hrk⟩ := HA.out k hlt
          have hlr := HR.out k hlt
          have HK := Lib.hid hrk
          clear hrk
          obtain ⟨y1, y2⟩ := Clk.own_bound hgood.out node hlt
          have hstep := Clk.pass_step (d := d) (node := node) hlt a1 a2 a4 a3
          rw [← HP.out] at hstep
          generalize hy : (zss[k]).getD node 0 = y at y1 y2 hstep
          rw [Int.mul_comm 1000 y] at hstep
          have HY := Lib.hid hy
          have HS := Lib.hid hstep
          clear hy hstep HP
          by_cases q1 : 2000 < a4 - (a1 + (y * 1000 - (1000 - d)))
          · have hp : Hid (false = Clk.pass d (Clk.own zss node) 0 0 0 0) := Lib.hid (by rw [HS.out, if_pos (Or.inl q1)])
            clear HS
            by_cases hn : node < zss[k].length
            · obtain ⟨bb, oo, rfl, e2⟩ := HK.out.num hn
              have ey : zss[k][node] = y := by have := HY.out; simpa [List.getD, hn] using this
              rw [ey] at e2
              clear ey
              go_wp2
              go_ret2
              exact ⟨ret_keeps (a := (false, 0)) (hP.out _ hp.out).symm, rfl⟩
            · have ey : 0 = y := by have := HY.out; simpa [List.getD, Nat.not_lt.1 hn] using this
              subst ey
              go_wp2
              go_ret2
              exact ⟨ret_keeps (a := (false, 0)) (hP.out _ hp.out).symm, rfl⟩
          · by_cases q2 : 2000 < a2 + (y * 1000 - (1000 + d)) - a3
            · have hp : Hid (false = Clk.pass d (Clk.own zss node) 0 0 0 0) := Lib.hid (by rw [HS.out, if_pos (Or.inr q2)])
              clear HS
              by_cases hn : node < zss[k].length
              · obtain ⟨bb, oo, rfl, e2⟩ := HK.out.num hn
                have ey : zss[k][node] = y := by have := HY.out; simpa [List.getD, hn] using this
                rw [ey] at e2
                clear ey
                go_wp2
                go_ret2
                exact ⟨ret_keeps (a := (false, 0)) (hP.out _ hp.out).symm, rfl⟩
              · have ey : 0 = y := by have := HY.out; simpa [List.getD, Nat.not_lt.1 hn] using this
                subst ey
                go_wp2
                go_ret2
                exact ⟨ret_keeps (a := (false, 0)) (hP.out _ hp.out).symm, rfl⟩
            · have hp : Hid (Clk.pass d (Clk.own zss node) 0 0 0 0 = _) := Lib.hid (by rw [HS.out, if_neg (by omega)])
              clear HS
              have hmx : -2000 * ((k + 1 : Nat) : Int) ≤ max a4 (a1 + (y * 1000 - (1000 - d))) ∧ max a4 (a1 + (y * 1000 - (1000 - d))) ≤ 2000000000 * ((k + 1 : Nat) : Int) := by omega
              have hmn : -2000 * ((k + 1 : Nat) : Int) ≤ min a3 (a2 + (y * 1000 - (1000 + d))) ∧ min a3 (a2 + (y * 1000 - (1000 + d))) ≤ 2000000000 * ((k + 1 : Nat) : Int) := by omega
              have HMX := Lib.hid hmx
              have HMN := Lib.hid hmn
              clear hmx hmn
              by_cases hn : node < zss[k].length
              · obtain ⟨bb, oo, rfl, e2⟩ := HK.out.num hn
                have ey : zss[k][node] = y := by have := HY.out; simpa [List.getD, hn] using this
                rw [ey] at e2
                clear ey
                go_wp2
                refine ⟨⟨k + 1, _, _, _, _, hlt, by go_num, rfl, rfl, congrArg _ (ifmin _ _), congrArg _ (ifmax _ _), Lib.hid ⟨⟨?_, ?_, ?_, ?_, HMN.out.1, HMN.out.2, HMX.out.1, HMX.out.2⟩, hp.out⟩⟩, by simp [intOf]; omega⟩ <;> omega
              · have ey : 0 = y := by have := HY.out; simpa [List.getD, Nat.not_lt.1 hn] using this
                subst ey
                go_wp2
                refine ⟨⟨k + 1, _, _, _, _, hlt, by go_num, by simp, by simp, congrArg _ ((by simp [ifmin])), congrArg _ ((by simp [ifmax])), Lib.hid ⟨⟨?_, ?_, ?_, ?_, HMN.out.1, HMN.out.2, HMX.out.1, HMX.out.2⟩, hp.out⟩⟩, by simp [intOf]; omega⟩ <;> omega
        · obtain rfl : k = zss.length := by omega
          have hp : Hid (true = Clk.pass d (Clk.own zss node) 0 0 0 0) := Lib.hid (by rw [HP.out, List.drop_eq_nil_of_le (by simp [Clk.own])]; rfl)
          clear HP
          go_wp2
          go_ret2
          exact ⟨ret_keeps (a := (true, 0)) (hP.out _ hp.out).symm, rfl⟩

/-- Keeps, whatever it is given -/
theorem keeps_any (v : Value) (zss : List (List Int)) (node d : Int) (w : World) (h : Rows2 w v zss) :
    Calls Try.prog 14 #[v, .int .i64 node, .int .i64 d] w fun e w' => e = .returned (.tuple #[.bool (Clk.keeps zss node d).1, .int .i64 (Clk.keeps zss node d).2]) ∧ w = w' := by
  obtain ⟨p, c, rfl, hc, hm, hat⟩ := h.parts
  have hml : maxLen ≤ 9223372036854775807 := by decide
  by_cases hb : d < 0 ∨ 500 < d ∨ node < 0 ∨ 63 < node ∨ 1048576 < zss.length
  · have e : Clk.keeps zss node d = (false, 2) := by unfold Clk.keeps; rw [if_pos hb]
    rw [e]
    exact keeps_arg _ zss node d w h (by omega) hb
  · obtain ⟨n, rfl⟩ : ∃ n : Nat, node = (n : Int) := ⟨node.toNat, by omega⟩
    refine keeps_go _ zss n d w h (by omega) (by omega) (by omega) (by omega) (fun i hi => ?_) _ (Lib.hid ?_)
    · obtain ⟨b, o, p', c', -, -, p2, c2, e, h1, h2, -⟩ := hat i hi
      simp only [Value.slice.injEq] at e
      omega
    · unfold Clk.keeps
      rw [if_neg hb]
      simp

end Go.Proofs.Ytmgcigohfccgeaa
