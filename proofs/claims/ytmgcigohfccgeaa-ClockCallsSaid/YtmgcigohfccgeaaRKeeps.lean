/- The document's Keeps, by all parts, tells what Clk.keeps says. -/
import Derived.Test.YtmgcigohfccgeaaCPart
import Derived.Test.YtmgcigohfccgeaaSep
namespace Go.Proofs.Ytmgcigohfccgeaa
open Go.RowKit

theorem info_int' : (Try.prog.info? 3).map (fun i => (i.zero, i.size, i.bytes)) = some (some (.int .i64 0), 1, 8) := by kernel_rfl

set_option maxRecDepth 100000 in
set_option maxHeartbeats 1000000 in
theorem rkeeps_arg (v : Value) (zss : List (List Int)) (node d : Int) (w : World) (h : Rows2 w v zss) (hl : zss.length ≤ 200) (hb : d < 0 ∨ 500 < d ∨ node < 0 ∨ 63 < node) :
    Calls Try.prog 24 #[v, .int .i64 node, .int .i64 d] w fun e w' => e = .returned (.tuple #[.bool false, .int .i64 2]) ∧ Below w.heap.size w w' := by
  obtain ⟨p, c, rfl, -⟩ := h.parts
  go_enter Try.func24, Try.ntmps24
  by_cases h1 : d < 0
  · go_wp2
    go_ret2
    exact ⟨rfl, Below.refl _ _⟩
  · by_cases h2 : 500 < d
    · go_wp2
      go_ret2
      exact ⟨rfl, Below.refl _ _⟩
    · by_cases h3 : node < 0
      · go_wp2
        go_ret2
        exact ⟨rfl, Below.refl _ _⟩
      · have h4 : 63 < node := by omega
        clear hb
        go_wp2
        go_ret2
        exact ⟨rfl, Below.refl _ _⟩

namespace Clk
def okPart (l : List Int) (d : Int) (i g : Nat) : Prop := -2000 ≤ 1000 * part l i (i + g) - g * (1000 - d) ∧ 1000 * part l i (i + g) - g * (1000 + d) ≤ 2000
theorem keepsAll_parts {l : List Int} {d : Int} : keepsAll l d ↔ ∀ i g, 0 < g → i + g ≤ l.length → okPart l d i g := by
  unfold keepsAll okPart part
  constructor
  · intro h i g h0 h1
    rw [Nat.add_sub_cancel_left]
    exact h i g h0 h1
  · intro h i g h0 h1
    have := h i g h0 h1
    rwa [Nat.add_sub_cancel_left] at this
theorem own_length (zss : List (List Int)) (node : Nat) : (own zss node).length = zss.length := by simp [own]
theorem own_take {zss : List (List Int)} {node k : Nat} (hk : k < zss.length) : (own zss node).take (k + 1) = (own zss node).take k ++ [(zss[k]).getD node 0] := by
  rw [List.take_succ_eq_append_getElem (by rw [own_length]; exact hk), own_getD zss node k hk]
theorem okPart_of {l : List Int} {d S D : Int} {i g : Nat} (hS : S = part l i (i + (g + 1))) (hD : D = ((g : Int) + 1) * d) : okPart l d i (g + 1) ↔ (¬ 1000 * S < 1000 * ((g : Int) + 1) - D - 2000 ∧ ¬ 1000 * ((g : Int) + 1) + D + 2000 < 1000 * S) := by
  unfold okPart
  rw [← hS]
  have e1 : ((g + 1 : Nat) : Int) * (1000 - d) = 1000 * ((g : Int) + 1) - D := by rw [hD, Int.mul_sub, Int.natCast_add]; simp; omega
  have e2 : ((g + 1 : Nat) : Int) * (1000 + d) = 1000 * ((g : Int) + 1) + D := by rw [hD, Int.mul_add, Int.natCast_add]; simp; omega
  rw [e1, e2]
  omega
end Clk

theorem ret_keeps' {a b : Bool × Int} (h : a = b) : Ending.returned (.tuple #[.bool a.1, .int .i64 a.2]) = Ending.returned (.tuple #[.bool b.1, .int .i64 b.2]) := by rw [h]

set_option maxRecDepth 100000 in
set_option maxHeartbeats 2000000 in
theorem rkeeps_go (v : Value) (zss : List (List Int)) (node : Nat) (d : Int) (w : World) (h : Rows2 w v zss) (h1 : 0 ≤ d) (h2 : d ≤ 500) (h4 : node ≤ 63) (h5 : zss.length ≤ 200)
    (r : Bool × Int) (hr : Hid (r = if Clk.bad zss then (false, 2) else (Clk.pass d (Clk.own zss node) 0 0 0 0, 0))) :
    Calls Try.prog 24 #[v, .int .i64 (node : Int), .int .i64 d] w fun e w' => e = .returned (.tuple #[.bool r.1, .int .i64 r.2]) ∧ Below w.heap.size w w' := by
  have HZ := Lib.hid h
  obtain ⟨p, c, rfl, hc, hm, -⟩ := h.parts
  have hml : maxLen ≤ 9223372036854775807 := by decide
  obtain ⟨i0, hi, hz0, hz1, hz2⟩ := info_parts info_int'
  clear h
  go_enter Try.func24, Try.ntmps24
  go_wp2
  go_loopw [8, 9] (fun o i wc => ∃ k : Nat, k ≤ zss.length ∧ i = .int .i64 (k : Int) ∧ Hid (((zss.take k).any fun l => l.any Clk.badN) = false) ∧ Hid (wc.ownsRow w.heap.size 3 1 o k (((Clk.own zss node).take k).map (Value.int .i64))) ∧ Hid (Below w.heap.size w wc)) (fun _ i _ => zss.length - (intOf i).toNat)
  case atStart => exact ⟨0, Nat.zero_le _, rfl, by simp [Hid], World.ownsRow_nil _ _ _ _, Below.refl _ _⟩
  case round =>
    obtain ⟨k, hk, rfl, hok, HO, HB⟩ := hrel
    by_cases hlt : k < zss.length
    · obtain ⟨b, o, p', c', rfl, e1, hrk⟩ := (HZ.out.below HB.out).rowAt hlt
      have hlr : zss[k].length ≤ 9223372036854775807 := by
        obtain ⟨p2, c2, e, h1, h2, -⟩ := hrk
        simp only [Value.slice.injEq] at e
        omega
      have HK := Lib.hid hrk
      clear hrk
      go_wp2
      go_loop [10] (fun i => ∃ j : Nat, j ≤ zss[k].length ∧ i = .int .i64 (j : Int) ∧ Hid ((zss[k].take j).any Clk.badN = false)) (fun i => zss[k].length - (intOf i).toNat)
      case atStart => exact ⟨0, Nat.zero_le _, rfl, by simp [Hid]⟩
      case round =>
        obtain ⟨j, hj, rfl, hjok⟩ := hrel
        by_cases hjl : j < zss[k].length
        · obtain ⟨b2, o2, rfl, e2⟩ := HK.out.num hjl
          generalize hx : zss[k][j] = x at e2
          have HX := Lib.hid hx
          clear hx
          by_cases hx1 : x < 0
          · have hbad : Clk.bad zss = true := any_at zss _ k hlt (any_at _ _ j hjl (by rw [HX.out]; simp [Clk.badN, hx1]))
            have HBD := Lib.hid hbad
            clear hbad
            go_wp2
            go_ret2
            exact ⟨ret_keeps' (a := (false, 2)) (by rw [hr.out, if_pos HBD.out]), HB.out⟩
          · by_cases hx2 : 1048576 < x
            · have hbad : Clk.bad zss = true := any_at zss _ k hlt (any_at _ _ j hjl (by rw [HX.out]; simp [Clk.badN, hx2]))
              have HBD := Lib.hid hbad
              clear hbad
              go_wp2
              go_ret2
              exact ⟨ret_keeps' (a := (false, 2)) (by rw [hr.out, if_pos HBD.out]), HB.out⟩
            · have hnb : Hid ((zss[k].take (j + 1)).any Clk.badN = false) := Lib.hid (any_take_succ _ _ j hjl hjok.out (by rw [HX.out]; simp [Clk.badN, hx1, hx2]))
              go_wp2
              go_round
              case rel => exact ⟨j + 1, hjl, by go_num, hnb⟩
              case measure => simp [intOf]; omega
        · obtain rfl : j = zss[k].length := by omega
          have hnb : Hid (((zss.take (k + 1)).any fun l => l.any Clk.badN) = false) := Lib.hid (any_take_succ _ _ k hlt hok.out (by have := hjok.out; rwa [List.take_length] at this))
          have HT := Lib.hid (Clk.own_take (node := node) hlt)
          clear hjok
          by_cases hn : node < zss[k].length
          · obtain ⟨b2, o2, rfl, e2⟩ := HK.out.num hn
            have gx : Hid ((zss[k]).getD node 0 = zss[k][node]) := Lib.hid (by simp [List.getD, hn])
            generalize hx : zss[k][node] = x at e2 gx
            clear hx
            go_wp2_with (at_builtin; refine wpList_app5 rfl _ _ 24 24 rfl w.heap.size 3 i0 (.int .i64 0) 1 8 Try.underlying24 hi hz0 hz1 hz2 rfl _ k _ rfl (HO.out.alloc _) _ 1 _ rfl (src_block Try.underlying24 _ _ #[_] (heap_alloc_new wr _) rfl (by simp [Value.oneCell'])) (by unfold maxLen; omega) (by omega) (by have := HB.out.size; simp; omega) ?_; intro v2 w2 ho2 hg2 hn2; have HO2 : Hid (w2.ownsRow w.heap.size 3 1 v2 (k + 1) (((Clk.own zss node).take (k + 1)).map (Value.int .i64))) := Lib.hid (by rw [HT.out, gx.out, List.map_append]; exact ho2); have HB2 : Hid (Below w.heap.size w w2) := Lib.hid (below_grown (below_and HB.out (below_alloc wr _)) (by have := HB.out.size; simp; omega) (HO.out.alloc _) hg2); clear ho2 hg2 hn2)
            go_roundw
            case rel => exact ⟨k + 1, hlt, by go_num, hnb, HO2, HB2⟩
            case measure => simp [intOf]; omega
          · have gx : Hid ((zss[k]).getD node 0 = 0) := Lib.hid (by simp [List.getD, Nat.not_lt.1 hn])
            go_wp2_with (at_builtin; refine wpList_app5 rfl _ _ 24 24 rfl w.heap.size 3 i0 (.int .i64 0) 1 8 Try.underlying24 hi hz0 hz1 hz2 rfl _ k _ rfl (HO.out.alloc _) _ 1 _ rfl (src_block Try.underlying24 _ _ #[_] (heap_alloc_new wr _) rfl (by simp [Value.oneCell'])) (by unfold maxLen; omega) (by omega) (by have := HB.out.size; simp; omega) ?_; intro v2 w2 ho2 hg2 hn2; have HO2 : Hid (w2.ownsRow w.heap.size 3 1 v2 (k + 1) (((Clk.own zss node).take (k + 1)).map (Value.int .i64))) := Lib.hid (by rw [HT.out, gx.out, List.map_append]; exact ho2); have HB2 : Hid (Below w.heap.size w w2) := Lib.hid (below_grown (below_and HB.out (below_alloc wr _)) (by have := HB.out.size; simp; omega) (HO.out.alloc _) hg2); clear ho2 hg2 hn2)
            go_roundw
            case rel => exact ⟨k + 1, hlt, by go_num, hnb, HO2, HB2⟩
            case measure => simp [intOf]; omega
    · obtain rfl : k = zss.length := by omega
      have hgood : Clk.bad zss = false := by have := hok.out; rwa [List.take_length] at this
      have HG := Lib.hid hgood
      have HP : Hid (r = (Clk.pass d (Clk.own zss node) 0 0 0 0, 0)) := Lib.hid (by rw [hr.out, if_neg (by rw [hgood]; simp)])
      have ho := HO.out
      rw [List.take_of_length_le (by rw [Clk.own_length]; exact Nat.le_refl _)] at ho
      obtain ⟨po, co, rfl, -, hcm⟩ := own_slice ho
      have HO1 := Lib.hid ho
      clear hok hr hgood ho HO
      go_wp2
      go_loop [12] (fun i => ∃ i0 : Nat, i0 ≤ zss.length ∧ i = .int .i64 (i0 : Int) ∧ Hid (∀ i g, i < i0 → 0 < g → i + g ≤ zss.length → Clk.okPart (Clk.own zss node) d i g)) (fun i => zss.length - (intOf i).toNat)
      case atStart => exact ⟨0, Nat.zero_le _, rfl, fun i g h => by omega⟩
      case round =>
        obtain ⟨i0, hi0, rfl, hall⟩ := hrel
        by_cases hilt : i0 < zss.length
        · obtain ⟨g, cap, e, -, -, -⟩ := own_block HO1.out (by omega)
          simp only [Value.slice.injEq] at e
          obtain ⟨rfl, -, rfl⟩ := e
          go_wp2
          go_loop [13, 14] (fun s kv => ∃ g0 : Nat, i0 + g0 ≤ zss.length ∧ s = .int .i64 (Clk.part (Clk.own zss node) i0 (i0 + g0)) ∧ kv = .int .i64 ((i0 + g0 : Nat) : Int) ∧ Hid (∀ q, 0 < q → q ≤ g0 → Clk.okPart (Clk.own zss node) d i0 q)) (fun _ kv => zss.length - (intOf kv).toNat)
          case atStart => exact ⟨0, by omega, by rw [Clk.part_self _ _ _ (by omega)], by simp, fun q h h' => by omega⟩
          case round =>
            obtain ⟨g0, hg0, rfl, rfl, hq⟩ := hrel
            by_cases hlt : i0 + g0 < zss.length
            · have hcell := own_cell HO1.out (j := i0 + g0) (u := .int .i64 ((zss[i0 + g0]).getD node 0)) (by rw [List.getElem?_map, List.getElem?_eq_getElem (by rw [Clk.own_length]; exact hlt), Clk.own_getD zss node _ hlt]; rfl)
              obtain ⟨S0, hS0⟩ : ∃ z, z = Clk.part (Clk.own zss node) i0 (i0 + g0) := ⟨_, rfl⟩
              obtain ⟨S1, hS1⟩ : ∃ z, z = Clk.part (Clk.own zss node) i0 (i0 + (g0 + 1)) := ⟨_, rfl⟩
              have bS1 := Clk.part_in HG.out h5 node i0 (i0 + (g0 + 1))
              have sS := Clk.part_step (zss := zss) node (show i0 ≤ i0 + g0 by omega) hlt
              rw [Nat.add_assoc, ← hS0, ← hS1] at sS
              rw [← hS1] at bS1
              rw [← hS0]
              obtain ⟨x, hx⟩ : ∃ x, x = (zss[i0 + g0]).getD node 0 := ⟨_, rfl⟩
              rw [← hx] at sS hcell
              have W1 : wrap64 (S0 + x) = S1 := by rw [← sS]; unfold wrap64; omega
              obtain ⟨D, hD⟩ : ∃ D, D = ((g0 : Int) + 1) * d := ⟨_, rfl⟩
              have bD1 : 0 ≤ D := by rw [hD]; exact Int.mul_nonneg (by omega) h1
              have bD2 : D ≤ 201 * 500 := by rw [hD]; exact Int.mul_le_mul (by omega) h2 h1 (by omega)
              have W2 : wrap64 (((g0 : Int) + 1) * d) = D := by rw [← hD]; unfold wrap64; omega
              have hkey := Lib.hid (Clk.okPart_of (l := Clk.own zss node) hS1 hD)
              have HS1 := Lib.hid hS1
              have W3 : (i0 : Int) + (g0 : Int) - (i0 : Int) = (g0 : Int) := by omega
              clear hS0 hS1 hD hx sS
              by_cases t1 : 1000 * S1 < 1000 * ((g0 : Int) + 1) - D - 2000
              · have HN : Hid (Clk.pass d (Clk.own zss node) 0 0 0 0 = false) := Lib.hid (by
                  rw [← Bool.not_eq_true, Clk.pass_keeps, Clk.keepsAll_parts]
                  exact fun hh => (hkey.out.1 (hh i0 (g0 + 1) (by omega) (by rw [Clk.own_length]; omega))).1 t1)
                go_wp2
                go_ret2
                exact ⟨ret_keeps' (a := (false, 0)) (by rw [HP.out, HN.out]), HB.out⟩
              · by_cases t2 : 1000 * ((g0 : Int) + 1) + D + 2000 < 1000 * S1
                · have HN : Hid (Clk.pass d (Clk.own zss node) 0 0 0 0 = false) := Lib.hid (by
                    rw [← Bool.not_eq_true, Clk.pass_keeps, Clk.keepsAll_parts]
                    exact fun hh => (hkey.out.1 (hh i0 (g0 + 1) (by omega) (by rw [Clk.own_length]; omega))).2 t2)
                  go_wp2
                  go_ret2
                  exact ⟨ret_keeps' (a := (false, 0)) (by rw [HP.out, HN.out]), HB.out⟩
                · have HQ : Hid (∀ q, 0 < q → q ≤ g0 + 1 → Clk.okPart (Clk.own zss node) d i0 q) := Lib.hid fun q q1 q2 => by
                    by_cases q3 : q ≤ g0
                    · exact hq.out q q1 q3
                    · obtain rfl : q = g0 + 1 := by omega
                      exact hkey.out.2 ⟨t1, t2⟩
                  go_wp2
                  go_round
                  case rel => exact ⟨g0 + 1, by omega, by first | rw [HS1.out] | rw [← HS1.out, W1], by go_num, HQ⟩
                  case measure => simp [intOf]; omega
            · have HA : Hid (∀ i g, i < i0 + 1 → 0 < g → i + g ≤ zss.length → Clk.okPart (Clk.own zss node) d i g) := Lib.hid fun i g q1 q2 q3 => by
                by_cases q4 : i < i0
                · exact hall.out i g q4 q2 q3
                · obtain rfl : i = i0 := by omega
                  exact hq.out g q2 (by omega)
              have e9 : i0 + g0 = zss.length := by omega
              rw [e9]
              go_wp2
              go_round
              case rel => exact ⟨i0 + 1, hilt, by go_num, HA⟩
              case measure => simp [intOf]; omega
        · obtain rfl : i0 = zss.length := by omega
          have HN : Hid (Clk.pass d (Clk.own zss node) 0 0 0 0 = true) := Lib.hid (by
            rw [Clk.pass_keeps, Clk.keepsAll_parts]
            intro i g q1 q2
            rw [Clk.own_length] at q2
            exact hall.out i g (by omega) q1 q2)
          go_wp2
          go_ret2
          exact ⟨ret_keeps' (a := (true, 0)) (by rw [HP.out, HN.out]), HB.out⟩

theorem rkeeps_any (v : Value) (zss : List (List Int)) (node d : Int) (w : World) (h : Rows2 w v zss) (hl : zss.length ≤ 200) :
    Calls Try.prog 24 #[v, .int .i64 node, .int .i64 d] w fun e w' => e = .returned (.tuple #[.bool (Clk.keeps zss node d).1, .int .i64 (Clk.keeps zss node d).2]) ∧ Below w.heap.size w w' := by
  by_cases hb : d < 0 ∨ 500 < d ∨ node < 0 ∨ 63 < node
  · have e : Clk.keeps zss node d = (false, 2) := by unfold Clk.keeps; rw [if_pos (by omega)]
    rw [e]
    exact rkeeps_arg _ zss node d w h hl hb
  · obtain ⟨n, rfl⟩ : ∃ n : Nat, node = (n : Int) := ⟨node.toNat, by omega⟩
    refine rkeeps_go _ zss n d w h (by omega) (by omega) (by omega) hl _ (Lib.hid ?_)
    unfold Clk.keeps
    rw [if_neg (by omega)]
    simp
end Go.Proofs.Ytmgcigohfccgeaa
