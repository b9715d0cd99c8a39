/- the walk of LeaseSure -/
import Derived.Test.YtmgcigohfccgeaaLLives
import Derived.Test.YtmgcigohfccgeaaCKeeps
import Derived.Test.YtmgcigohfccgeaaSPlain
import Derived.Test.YtmgcigohfccgeaaPick
namespace Go.Proofs.Ytmgcigohfccgeaa
open Go.RowKit

set_option maxRecDepth 100000 in
set_option maxHeartbeats 1000000 in
theorem leaseSure_out (n d : Int) (v : Value) (zss : List (List Int)) (sent heard : Int) (w : World) (h : Rows2 w v zss) (hb : 200 < zss.length ∨ n < 1 ∨ 1000 < n) :
    Calls Try.prog 3 #[.int .i64 n, .int .i64 d, v, .int .i64 sent, .int .i64 heard] w fun e w' => e = .returned (.bool true) ∧ Below w.heap.size w w' := by
  obtain ⟨p, c, rfl, hc, hm, -⟩ := h.parts
  clear h hc hm
  go_enter Try.func3, Try.ntmps3
  by_cases h1 : 200 < zss.length
  · clear hb
    go_wp2_with (go_at_call 13; refine (llives _).mono ?_; rintro e w1 ⟨rfl, hb⟩; have HB := Lib.hid hb; clear hb)
    go_ret
    exact ⟨rfl, HB.out⟩
  · by_cases h2 : n < 1
    · clear hb
      go_wp2_with (go_at_call 13; refine (llives _).mono ?_; rintro e w1 ⟨rfl, hb⟩; have HB := Lib.hid hb; clear hb)
      go_ret
      exact ⟨rfl, HB.out⟩
    · have h3 : 1000 < n := by omega
      clear hb
      go_wp2_with (go_at_call 13; refine (llives _).mono ?_; rintro e w1 ⟨rfl, hb⟩; have HB := Lib.hid hb; clear hb)
      go_ret
      exact ⟨rfl, HB.out⟩

namespace Clk
def far (n : Int) : Bool := decide (n < 0) || decide (1000 < n)
theorem far_at {zss : List (List Int)} (h : (zss.any fun l => l.any far) = false) {i : Nat} (hi : i < zss.length) {j : Nat} (hj : j < zss[i].length) : 0 ≤ zss[i][j] ∧ zss[i][j] ≤ 1000 := by
  have h1 := List.any_eq_false.1 h zss[i] (List.getElem_mem hi)
  have h2 := List.any_eq_false.1 (by simpa using h1) zss[i][j] (List.getElem_mem hj)
  simp [far] at h2
  omega
theorem far_get {zss : List (List Int)} (h : (zss.any fun l => l.any far) = false) {i : Nat} (hi : i < zss.length) (node : Nat) : 0 ≤ (zss[i]).getD node 0 ∧ (zss[i]).getD node 0 ≤ 1000 := by
  by_cases hn : node < zss[i].length
  · have := far_at h hi hn
    simpa [List.getD, hn] using this
  · simp [List.getD, Nat.not_lt.1 hn]
theorem far_own {zss : List (List Int)} (h : (zss.any fun l => l.any far) = false) (node : Nat) : ∀ x ∈ own zss node, 0 ≤ x ∧ x ≤ 1000 := by
  intro x hx
  obtain ⟨l, hl, rfl⟩ := List.mem_map.1 hx
  obtain ⟨i, hi, rfl⟩ := List.getElem_of_mem hl
  exact far_get h hi node
theorem part_next {zss : List (List Int)} (node : Nat) {f k : Nat} (h : f ≤ k) (hk : k < zss.length) : part (own zss node) f (k + 1) = part (own zss node) f k + (zss[k]).getD node 0 := by
  rw [part_succ _ _ _ h (by simpa [own] using hk), own_getD zss node k hk]
theorem part_band {zss : List (List Int)} (h : (zss.any fun l => l.any far) = false) (hl : zss.length ≤ 200) (node f k : Nat) : 0 ≤ part (own zss node) f k ∧ part (own zss node) f k ≤ 200000 := by
  have h1 := part_nonneg (own zss node) f k fun x hx => (far_own h node x hx).1
  have h2 := part_le (own zss node) f k 1000 (by omega) fun x hx => (far_own h node x hx).2
  have h3 : (own zss node).length = zss.length := by simp [own]
  omega
theorem keeps_true {zss : List (List Int)} {node d : Int} (h : (keeps zss node d).1 = true) : 0 ≤ d ∧ d ≤ 500 ∧ keepsAll (own zss node.toNat) d := by
  unfold keeps at h
  split at h
  · cases h
  · split at h
    · cases h
    · exact ⟨by omega, by omega, (pass_keeps _ _).1 h⟩
def ent (a k : Nat) (p : Int) : Value := if k ≤ a then hv 0 0 0 else hv 1 0 p
theorem _root_.Go.Proofs.Ytmgcigohfccgeaa.LTab.cut {wc : World} {b mb : Nat} {n W x y : Int} {m : SM} (h : LTab wc b mb n W x m) (e : x = y) : LTab wc b mb n W y m := e ▸ h
theorem wait_band {n d : Int} (h2 : 1 ≤ n) (h3 : n ≤ 1000) (d1 : 0 ≤ d) (d2 : d ≤ 500) : 0 < wait n d ∧ wait n d ≤ 2000000 := by
  have h := wait_spec (lease := n) d1 d2
  have e1 : 0 < (n + 2) * (1000 + d) := Int.mul_pos (by omega) (by omega)
  have e2 : (n + 2) * (1000 + d) ≤ 1002 * 1500 := Int.mul_le_mul (by omega) (by omega) (by omega) (by omega)
  constructor
  · refine Int.not_le.1 fun hc => ?_
    have := Int.mul_nonneg (show 0 ≤ 2 - wait n d by omega) (show 0 ≤ 1000 - d by omega)
    have e3 : (2 - wait n d) * (1000 - d) = -((wait n d - 2) * (1000 - d)) := by rw [← Int.neg_mul]; congr 1; omega
    omega
  · refine Int.le_trans (wait_least (m := 2000000) d1 d2 ?_) (Int.le_refl _)
    have := Int.mul_le_mul (show (1999998 : Int) ≤ 2000000 - 2 by omega) (show (500 : Int) ≤ 1000 - d by omega) (by omega) (by omega)
    omega
end Clk

set_option maxRecDepth 100000 in
set_option maxHeartbeats 2000000 in
theorem leaseSure_in (n d : Int) (v : Value) (zss : List (List Int)) (sent heard : Int) (w : World) (h : Rows2 w v zss) (h1 : zss.length ≤ 200) (h2 : 1 ≤ n) (h3 : n ≤ 1000) :
    Calls Try.prog 3 #[.int .i64 n, .int .i64 d, v, .int .i64 sent, .int .i64 heard] w fun e w' => e = .returned (.bool true) ∧ Below w.heap.size w w' := by
  have HZ := Lib.hid h
  obtain ⟨p, c, rfl, hc, hm, -⟩ := h.parts
  have hml : maxLen ≤ 9223372036854775807 := by decide
  clear h
  go_enter Try.func3, Try.ntmps3
  go_wp2_with (go_at_call 13; refine (llives _).mono ?_; rintro e w1 ⟨rfl, hb⟩; have HB := Lib.hid hb; have HZ1 := Lib.hid (HZ.out.below hb); clear hb)
  go_loop [11] (fun i => ∃ k : Nat, k ≤ zss.length ∧ i = .int .i64 (k : Int) ∧ Hid (((zss.take k).any fun l => l.any Clk.far) = false)) (fun i => zss.length - (intOf i).toNat)
  case atStart => exact ⟨0, Nat.zero_le _, rfl, by simp [Hid]⟩
  case round =>
    obtain ⟨k, hk, rfl, hok⟩ := hrel
    by_cases hlt : k < zss.length
    · obtain ⟨b, o, p', c', rfl, e1, hrk⟩ := HZ1.out.rowAt hlt
      have hlr : zss[k].length ≤ 9223372036854775807 := by
        obtain ⟨p2, c2, e, h1, h2, -⟩ := hrk
        simp only [Value.slice.injEq] at e
        omega
      have HK := Lib.hid hrk
      clear hrk
      go_wp2
      go_loop [12] (fun i => ∃ j : Nat, j ≤ zss[k].length ∧ i = .int .i64 (j : Int) ∧ Hid ((zss[k].take j).any Clk.far = false)) (fun i => zss[k].length - (intOf i).toNat)
      case atStart => exact ⟨0, Nat.zero_le _, rfl, by simp [Hid]⟩
      case round =>
        obtain ⟨j, hj, rfl, hjok⟩ := hrel
        by_cases hjl : j < zss[k].length
        · obtain ⟨b2, o2, rfl, e2⟩ := HK.out.num hjl
          generalize hx : zss[k][j] = x at e2
          have HX := Lib.hid hx
          clear hx
          by_cases hx1 : x < 0
          · go_wp2
            go_ret
            exact ⟨rfl, HB.out⟩
          · by_cases hx2 : 1000 < x
            · go_wp2
              go_ret
              exact ⟨rfl, HB.out⟩
            · have hnb : Hid ((zss[k].take (j + 1)).any Clk.far = false) := Lib.hid (any_take_succ _ _ j hjl hjok.out (by rw [HX.out]; simp [Clk.far, hx1, hx2]))
              go_wp2
              go_round
              case rel => exact ⟨j + 1, hjl, by go_num, hnb⟩
              case measure => simp [intOf]; omega
        · obtain rfl : j = zss[k].length := by omega
          have hnb : Hid (((zss.take (k + 1)).any fun l => l.any Clk.far) = false) := Lib.hid (any_take_succ _ _ k hlt hok.out (by have := hjok.out; rwa [List.take_length] at this))
          clear hjok
          go_wp2
          go_round
          case rel => exact ⟨k + 1, hlt, by go_num, hnb⟩
          case measure => simp [intOf]; omega
    · obtain rfl : k = zss.length := by omega
      have hfar : Hid ((zss.any fun l => l.any Clk.far) = false) := Lib.hid (by have := hok.out; rwa [List.take_length] at this)
      clear hok
      rcases hK0 : Clk.keeps zss 0 d with ⟨a0, e0⟩
      rcases hK1 : Clk.keeps zss 1 d with ⟨a1, e1⟩
      have HK0 := Lib.hid hK0
      have HK1 := Lib.hid hK1
      clear hK0 hK1
      by_cases he0 : e0 = 0
      · by_cases he1 : e1 = 0
        · subst he0 he1
          cases a0
          · go_wp2_with (go_at_call 14; refine (keeps_any _ zss _ d _ HZ1.out).mono ?_; (first | rw [HK0.out] | rw [HK1.out]); rintro e w2 ⟨rfl, rfl⟩)
            go_ret
            exact ⟨rfl, HB.out⟩
          · cases a1
            · go_wp2_with (go_at_call 14; refine (keeps_any _ zss _ d _ HZ1.out).mono ?_; (first | rw [HK0.out] | rw [HK1.out]); rintro e w2 ⟨rfl, rfl⟩)
              go_ret
              exact ⟨rfl, HB.out⟩
            · have hd := Clk.keeps_true (zss := zss) (node := 0) (d := d) (by rw [HK0.out])
              have k0 := Lib.hid hd.2.2
              have k1 := Lib.hid (Clk.keeps_true (zss := zss) (node := 1) (d := d) (by rw [HK1.out])).2.2
              obtain ⟨d1, d2, -⟩ := hd
              have hw : Clk.waits n d = (Clk.wait n d, 0) := by unfold Clk.waits; rw [if_neg (by omega)]
              have HW := Lib.hid hw
              obtain ⟨W, hW⟩ : ∃ W, W = Clk.wait n d := ⟨_, rfl⟩
              obtain ⟨w0, w9⟩ := Clk.wait_band h2 h3 d1 d2
              rw [← hW] at w0 w9
              have HWE := Lib.hid hW
              have HW0 : Hid (W ≠ 0) := Lib.hid (by omega)
              clear hw hW
              obtain ⟨f, hf⟩ : ∃ f : Nat, sent % ((zss.length : Int) + 1) = (f : Int) := ⟨(sent % ((zss.length : Int) + 1)).toNat, by have := Int.emod_nonneg sent (show (zss.length : Int) + 1 ≠ 0 by omega); omega⟩
              have hf2 : f ≤ zss.length := by have := Int.emod_lt_of_pos sent (show 0 < (zss.length : Int) + 1 by omega); omega
              obtain ⟨a2, ha⟩ : ∃ a2 : Nat, heard % ((zss.length : Int) + 1 - (f : Int)) = (a2 : Int) := ⟨(heard % ((zss.length : Int) + 1 - (f : Int))).toNat, by have := Int.emod_nonneg heard (show (zss.length : Int) + 1 - (f : Int) ≠ 0 by omega); omega⟩
              have ha2 : f + a2 ≤ zss.length := by have := Int.emod_lt_of_pos heard (show 0 < (zss.length : Int) + 1 - (f : Int) by omega); omega
              have HF := Lib.hid hf
              have HA := Lib.hid ha
              clear hf ha
              have u1 : wrap64 ((zss.length : Int) + 1) = (zss.length : Int) + 1 := by unfold wrap64; omega
              have u2 : wrap64 ((zss.length : Int) + 1 - (f : Int)) = (zss.length : Int) + 1 - (f : Int) := by unfold wrap64; omega
              have u3 : wrap64 ((f : Int) + (a2 : Int)) = ((f + a2 : Nat) : Int) := by unfold wrap64; omega
              go_wp2_with (first
                | (go_at_call 14; refine (keeps_any _ zss _ d _ HZ1.out).mono ?_; (first | rw [HK0.out] | rw [HK1.out]); rintro e w2 ⟨rfl, rfl⟩)
                | (go_at_call 15; refine (lnew_ok n d _ HW.out).mono ?_; rw [← HWE.out]; rintro e w2 ⟨b, mb, rfl, hb, hmb, ht, hbl⟩; have HX := Lib.hid hb; have HM := Lib.hid hmb; have HT := Lib.hid ht; have HB2 := Lib.hid hbl; clear hb hmb ht hbl)
                | (go_at_call 16; refine (ladd_ok b mb n W 0 [] em _ HT.out HW0.out em_len em_ne rfl (by decide)).mono ?_; rintro e w3 ⟨rfl, ht, hg⟩; have HT3 := Lib.hid (show LTab w3 b mb n W 0 [([109], hv 0 0 0)] from ht); have HB3 := Lib.hid (below_andG HB2.out hg HM.out); clear ht hg)
                | (go_at_call 17; refine (pickn_any _ _ _ (by omega) (by omega)).mono ?_; (first | rw [HF.out] | rw [HA.out]); rintro e w4 ⟨rfl, rfl⟩))
              rw [u3]
              obtain ⟨a, hadef⟩ : ∃ a, a = f + a2 := ⟨_, rfl⟩
              rw [← hadef] at ha2 ⊢
              have hfa : f ≤ a := by omega
              clear u1 u2 u3 hadef
              obtain ⟨Q, hQ⟩ : ∃ z, z = Clk.part (Clk.own zss 0) 0 a := ⟨_, rfl⟩
              have bQ := Clk.part_band hfar.out h1 0 0 a
              rw [← hQ] at bQ
              have HQ := Lib.hid hQ
              clear hQ
              go_loopw [20, 21] (fun g i wc => ∃ k : Nat, k ≤ zss.length ∧ g = .int .i64 (Clk.part (Clk.own zss 1) f k) ∧ i = .int .i64 (k : Int) ∧ Hid (LTab wc b mb n W (Clk.part (Clk.own zss 0) 0 k) [([109], Clk.ent a k Q)]) ∧ Hid (Below w1.heap.size w1 wc)) (fun _ i _ => zss.length - (intOf i).toNat)
              case atStart => exact ⟨0, Nat.zero_le _, by rw [Clk.part_self _ _ _ (Nat.zero_le _)], rfl, by rw [Clk.part_self _ _ _ (Nat.le_refl _)]; exact HT3, HB3⟩
              case round =>
                obtain ⟨k, hk, rfl, rfl, HT4, HB4⟩ := hrel
                by_cases hlt : k < zss.length
                · obtain ⟨po, oo, p', c', rfl, e1, hrk⟩ := HZ1.out.rowAt hlt
                  have HK := Lib.hid hrk
                  obtain ⟨N0, hN0⟩ : ∃ z, z = Clk.part (Clk.own zss 0) 0 k := ⟨_, rfl⟩
                  obtain ⟨N1, hN1⟩ : ∃ z, z = Clk.part (Clk.own zss 0) 0 (k + 1) := ⟨_, rfl⟩
                  obtain ⟨G0, hG0⟩ : ∃ z, z = Clk.part (Clk.own zss 1) f k := ⟨_, rfl⟩
                  obtain ⟨G1, hG1⟩ : ∃ z, z = Clk.part (Clk.own zss 1) f (k + 1) := ⟨_, rfl⟩
                  have bN0 := Clk.part_band hfar.out h1 0 0 k
                  have bN1 := Clk.part_band hfar.out h1 0 0 (k + 1)
                  have bG0 := Clk.part_band hfar.out h1 1 f k
                  have bG1 := Clk.part_band hfar.out h1 1 f (k + 1)
                  have sN := Clk.part_next (zss := zss) 0 (Nat.zero_le k) hlt
                  have sG : f ≤ k → _ := fun h => Clk.part_next (zss := zss) 1 h hlt
                  have sG0 : k < f → G1 = G0 := fun h => by rw [hG1, hG0, Clk.part_self _ _ _ (by omega), Clk.part_self _ _ _ (by omega)]
                  rw [← hN0] at bN0 HT4
                  rw [← hN1] at bN1
                  rw [← hG0] at bG0 ⊢
                  rw [← hG1] at bG1
                  rw [← hN0, ← hN1] at sN
                  rw [← hG0, ← hG1] at sG
                  have hov : a ≤ k → W ≤ N1 - Q → n ≤ G1 := fun h5 h6 => by
                    rw [hG1]
                    refine Clk.sure_over d1 d2 k0.out k1.out (by simp [Clk.own]) (fun x hx => (Clk.far_own hfar.out 1 x hx).1) hfa h5 (by simpa [Clk.own] using hlt) ?_
                    have := Clk.part_split (Clk.own zss 0) 0 a (k + 1) (Nat.zero_le _) (by omega)
                    rw [← HWE.out]
                    rw [← hN1, ← HQ.out] at this
                    show W ≤ Clk.part (Clk.own zss ((0 : Int).toNat)) a (k + 1)
                    rw [show ((0 : Int).toNat) = 0 from rfl]
                    omega
                  have HN0 := Lib.hid hN0
                  have HN1 := Lib.hid hN1
                  have HG1 := Lib.hid hG1
                  have hQk : k = a → Q = N0 := fun h => by rw [HQ.out, hN0, h]
                  clear hN0 hN1 hG0 hG1
                  rcases hrow : zss[k] with _ | ⟨x, _ | ⟨y, l⟩⟩
                  · rw [hrow] at e1 HK sN sG
                    have fx := Clk.far_get hfar.out hlt 0
                    have fy := Clk.far_get hfar.out hlt 1
                    rw [hrow] at fx fy
                    have hll : (zss[k]).length ≤ 9223372036854775807 := by
                      obtain ⟨p2, c2, e, h1, h2, -⟩ := hrk
                      simp only [Value.slice.injEq] at e
                      omega
                    rw [hrow] at hll
                    clear hrow hrk
                    simp only [List.getD_nil, Int.add_zero, List.length_nil] at sN sG fx fy e1
                    obtain rfl : N1 = N0 := sN
                    obtain rfl : G1 = G0 := by rcases Nat.lt_or_ge k f with h | h; exact sG0 h; exact sG h
                    clear sG sG0 fx fy
                    have E1 := Lib.hid e1
                    have g1 := cell_kept e1 HB4.out
                    clear e1 HK
                    rcases Nat.lt_trichotomy k a with hka | hka | hka
                    · have hent : Clk.ent a k Q = hv 0 0 0 := if_pos (by omega)
                      have hent2 : Clk.ent a (k + 1) Q = hv 0 0 0 := if_pos (by omega)
                      rw [hent] at HT4
                      have HE := Lib.hid hent2
                      clear hent hent2
                      have q1 : ((k : Int) == (a : Int)) = false := by simp; omega
                      clear hQk
                      by_cases hkf : f ≤ k
                      · skip
                        clear hov
                        go_wp2_with (first
                          | (go_at_call 20; refine (lsure_yes b mb n W _ _ em 0 0 0 _ HT4.out HW0.out em_len rfl (by omega) (by omega) (by omega) (max 0 (0 + W - N1) == 0) rfl).mono ?_; rintro e w7 ⟨rfl, hb⟩; have HT7 := Lib.hid (HT4.out.kept hb); have HB7 := Lib.hid (below_and HB4.out hb); clear hb))
                        go_roundw
                        case rel => exact ⟨k + 1, hlt, by first | rw [HG1.out] | rw [← HG1.out, sg], by go_num, by rw [← HN1.out, HE.out]; exact HT7, HB7⟩
                        case measure => simp [intOf]; omega
                      · skip
                        clear hov
                        go_wp2_with (first
                          | (go_at_call 20; refine (lsure_yes b mb n W _ _ em 0 0 0 _ HT4.out HW0.out em_len rfl (by omega) (by omega) (by omega) (max 0 (0 + W - N1) == 0) rfl).mono ?_; rintro e w7 ⟨rfl, hb⟩; have HT7 := Lib.hid (HT4.out.kept hb); have HB7 := Lib.hid (below_and HB4.out hb); clear hb))
                        go_roundw
                        case rel => exact ⟨k + 1, hlt, by first | rw [HG1.out] | rw [← HG1.out, sg], by go_num, by rw [← HN1.out, HE.out]; exact HT7, HB7⟩
                        case measure => simp [intOf]; omega
                    · have hent : Clk.ent a k Q = hv 0 0 0 := if_pos (by omega)
                      subst hka
                      have hent2 : Clk.ent k (k + 1) Q = hv 1 0 Q := if_neg (by omega)
                      rw [hent] at HT4
                      have HE := Lib.hid hent2
                      clear hent hent2
                      have q1 : ((k : Int) == (k : Int)) = true := by simp
                      have HQK := Lib.hid (hQk rfl)
                      clear hQk
                      by_cases hw9 : W ≤ N1 - Q
                      · have hz : max 0 (Q + W - N1) = 0 := Int.max_eq_left (by omega)
                        have hr : true = (max 0 (Q + W - N1) == 0) := by rw [hz]; rfl
                        have hn9 := hov (by omega) hw9
                        have HR9 := Lib.hid hr
                        clear hz hr hov
                        go_wp2_with (first
                          | (go_at_call 18; refine (lheard_new b mb n W _ _ em 0 0 0 1 0 _ HT4.out HW0.out em_len rfl (by decide) rfl rfl rfl rfl).mono ?_; rintro e w5 ⟨rfl, ht, hg⟩; have HT5 := Lib.hid (show LTab w5 b mb n W _ [([109], hv 1 0 Q)] by rw [HQK.out]; exact ht); have HB5 := Lib.hid (below_andG HB4.out hg HM.out); have j1 := cell_kept E1.out HB5.out; clear ht hg)
                          | (go_at_call 20; refine (lsure_yes b mb n W _ _ em 1 0 Q _ HT5.out HW0.out em_len rfl (by omega) (by omega) (by omega) true HR9.out).mono ?_; rintro e w7 ⟨rfl, hb⟩; have HT7 := Lib.hid (HT5.out.kept hb); have HB7 := Lib.hid (below_and HB5.out hb); clear hb))
                        go_roundw
                        case rel => exact ⟨k + 1, hlt, by first | rw [HG1.out] | rw [← HG1.out, sg], by go_num, by rw [← HN1.out, HE.out]; exact HT7, HB7⟩
                        case measure => simp [intOf]; omega
                      · have hz : max 0 (Q + W - N1) = Q + W - N1 := Int.max_eq_right (by omega)
                        have hr : false = (max 0 (Q + W - N1) == 0) := by rw [hz]; symm; simp; omega
                        have HR9 := Lib.hid hr
                        clear hz hr hov
                        go_wp2_with (first
                          | (go_at_call 18; refine (lheard_new b mb n W _ _ em 0 0 0 1 0 _ HT4.out HW0.out em_len rfl (by decide) rfl rfl rfl rfl).mono ?_; rintro e w5 ⟨rfl, ht, hg⟩; have HT5 := Lib.hid (show LTab w5 b mb n W _ [([109], hv 1 0 Q)] by rw [HQK.out]; exact ht); have HB5 := Lib.hid (below_andG HB4.out hg HM.out); have j1 := cell_kept E1.out HB5.out; clear ht hg)
                          | (go_at_call 20; refine (lsure_yes b mb n W _ _ em 1 0 Q _ HT5.out HW0.out em_len rfl (by omega) (by omega) (by omega) false HR9.out).mono ?_; rintro e w7 ⟨rfl, hb⟩; have HT7 := Lib.hid (HT5.out.kept hb); have HB7 := Lib.hid (below_and HB5.out hb); clear hb))
                        go_roundw
                        case rel => exact ⟨k + 1, hlt, by first | rw [HG1.out] | rw [← HG1.out, sg], by go_num, by rw [← HN1.out, HE.out]; exact HT7, HB7⟩
                        case measure => simp [intOf]; omega
                    · have hent : Clk.ent a k Q = hv 1 0 Q := if_neg (by omega)
                      have hent2 : Clk.ent a (k + 1) Q = hv 1 0 Q := if_neg (by omega)
                      rw [hent] at HT4
                      have HE := Lib.hid hent2
                      clear hent hent2
                      have q1 : ((k : Int) == (a : Int)) = false := by simp; omega
                      clear hQk
                      by_cases hw9 : W ≤ N1 - Q
                      · have hz : max 0 (Q + W - N1) = 0 := Int.max_eq_left (by omega)
                        have hr : true = (max 0 (Q + W - N1) == 0) := by rw [hz]; rfl
                        have hn9 := hov (by omega) hw9
                        have HR9 := Lib.hid hr
                        clear hz hr hov
                        go_wp2_with (first
                          | (go_at_call 20; refine (lsure_yes b mb n W _ _ em 1 0 Q _ HT4.out HW0.out em_len rfl (by omega) (by omega) (by omega) true HR9.out).mono ?_; rintro e w7 ⟨rfl, hb⟩; have HT7 := Lib.hid (HT4.out.kept hb); have HB7 := Lib.hid (below_and HB4.out hb); clear hb))
                        go_roundw
                        case rel => exact ⟨k + 1, hlt, by first | rw [HG1.out] | rw [← HG1.out, sg], by go_num, by rw [← HN1.out, HE.out]; exact HT7, HB7⟩
                        case measure => simp [intOf]; omega
                      · have hz : max 0 (Q + W - N1) = Q + W - N1 := Int.max_eq_right (by omega)
                        have hr : false = (max 0 (Q + W - N1) == 0) := by rw [hz]; symm; simp; omega
                        have HR9 := Lib.hid hr
                        clear hz hr hov
                        go_wp2_with (first
                          | (go_at_call 20; refine (lsure_yes b mb n W _ _ em 1 0 Q _ HT4.out HW0.out em_len rfl (by omega) (by omega) (by omega) false HR9.out).mono ?_; rintro e w7 ⟨rfl, hb⟩; have HT7 := Lib.hid (HT4.out.kept hb); have HB7 := Lib.hid (below_and HB4.out hb); clear hb))
                        go_roundw
                        case rel => exact ⟨k + 1, hlt, by first | rw [HG1.out] | rw [← HG1.out, sg], by go_num, by rw [← HN1.out, HE.out]; exact HT7, HB7⟩
                        case measure => simp [intOf]; omega
                  · rw [hrow] at e1 HK sN sG
                    have fx := Clk.far_get hfar.out hlt 0
                    have fy := Clk.far_get hfar.out hlt 1
                    rw [hrow] at fx fy
                    have hll : (zss[k]).length ≤ 9223372036854775807 := by
                      obtain ⟨p2, c2, e, h1, h2, -⟩ := hrk
                      simp only [Value.slice.injEq] at e
                      omega
                    rw [hrow] at hll
                    clear hrow hrk
                    obtain ⟨b2, o2, rfl, e2⟩ := HK.out.num (i := 0) (by simp)
                    simp only [List.getD_cons_zero, List.getD_cons_succ, List.getD_nil, Int.add_zero, List.length_cons, List.length_nil, Nat.zero_add, Nat.add_zero, List.getElem_cons_zero] at sN sG fx fy e1 e2
                    obtain rfl : G1 = G0 := by rcases Nat.lt_or_ge k f with h | h; exact sG0 h; exact sG h
                    clear sG sG0 fy
                    have SN := Lib.hid sN
                    have E1 := Lib.hid e1
                    have E2 := Lib.hid e2
                    have g1 := cell_kept e1 HB4.out
                    have g2 := cell_kept e2 HB4.out
                    clear e1 HK e2
                    rcases Nat.lt_trichotomy k a with hka | hka | hka
                    · have hent : Clk.ent a k Q = hv 0 0 0 := if_pos (by omega)
                      have hent2 : Clk.ent a (k + 1) Q = hv 0 0 0 := if_pos (by omega)
                      rw [hent] at HT4
                      have HE := Lib.hid hent2
                      clear hent hent2
                      have q1 : ((k : Int) == (a : Int)) = false := by simp; omega
                      clear hQk
                      by_cases hkf : f ≤ k
                      · skip
                        clear hov
                        go_wp2_with (first
                          | (go_at_call 19; refine (ltick_ok b mb n W _ _ x _ HT4.out HW0.out (by omega) (by omega)).mono ?_; rintro e w6 ⟨rfl, ht, hg⟩; have HT6 := Lib.hid (LTab.cut ht SN.out.symm); have HB6 := Lib.hid (below_andG HB4.out hg HX.out); have i1 := cell_kept E1.out HB6.out; have i2 := cell_kept E2.out HB6.out; clear ht hg)
                          | (go_at_call 20; refine (lsure_yes b mb n W _ _ em 0 0 0 _ HT6.out HW0.out em_len rfl (by omega) (by omega) (by omega) (max 0 (0 + W - N1) == 0) rfl).mono ?_; rintro e w7 ⟨rfl, hb⟩; have HT7 := Lib.hid (HT6.out.kept hb); have HB7 := Lib.hid (below_and HB6.out hb); clear hb))
                        go_roundw
                        case rel => exact ⟨k + 1, hlt, by first | rw [HG1.out] | rw [← HG1.out, sg], by go_num, by rw [← HN1.out, HE.out]; exact HT7, HB7⟩
                        case measure => simp [intOf]; omega
                      · skip
                        clear hov
                        go_wp2_with (first
                          | (go_at_call 19; refine (ltick_ok b mb n W _ _ x _ HT4.out HW0.out (by omega) (by omega)).mono ?_; rintro e w6 ⟨rfl, ht, hg⟩; have HT6 := Lib.hid (LTab.cut ht SN.out.symm); have HB6 := Lib.hid (below_andG HB4.out hg HX.out); have i1 := cell_kept E1.out HB6.out; have i2 := cell_kept E2.out HB6.out; clear ht hg)
                          | (go_at_call 20; refine (lsure_yes b mb n W _ _ em 0 0 0 _ HT6.out HW0.out em_len rfl (by omega) (by omega) (by omega) (max 0 (0 + W - N1) == 0) rfl).mono ?_; rintro e w7 ⟨rfl, hb⟩; have HT7 := Lib.hid (HT6.out.kept hb); have HB7 := Lib.hid (below_and HB6.out hb); clear hb))
                        go_roundw
                        case rel => exact ⟨k + 1, hlt, by first | rw [HG1.out] | rw [← HG1.out, sg], by go_num, by rw [← HN1.out, HE.out]; exact HT7, HB7⟩
                        case measure => simp [intOf]; omega
                    · have hent : Clk.ent a k Q = hv 0 0 0 := if_pos (by omega)
                      subst hka
                      have hent2 : Clk.ent k (k + 1) Q = hv 1 0 Q := if_neg (by omega)
                      rw [hent] at HT4
                      have HE := Lib.hid hent2
                      clear hent hent2
                      have q1 : ((k : Int) == (k : Int)) = true := by simp
                      have HQK := Lib.hid (hQk rfl)
                      clear hQk
                      by_cases hw9 : W ≤ N1 - Q
                      · have hz : max 0 (Q + W - N1) = 0 := Int.max_eq_left (by omega)
                        have hr : true = (max 0 (Q + W - N1) == 0) := by rw [hz]; rfl
                        have hn9 := hov (by omega) hw9
                        have HR9 := Lib.hid hr
                        clear hz hr hov
                        go_wp2_with (first
                          | (go_at_call 18; refine (lheard_new b mb n W _ _ em 0 0 0 1 0 _ HT4.out HW0.out em_len rfl (by decide) rfl rfl rfl rfl).mono ?_; rintro e w5 ⟨rfl, ht, hg⟩; have HT5 := Lib.hid (show LTab w5 b mb n W _ [([109], hv 1 0 Q)] by rw [HQK.out]; exact ht); have HB5 := Lib.hid (below_andG HB4.out hg HM.out); have j1 := cell_kept E1.out HB5.out; have j2 := cell_kept E2.out HB5.out; clear ht hg)
                          | (go_at_call 19; refine (ltick_ok b mb n W _ _ x _ HT5.out HW0.out (by omega) (by omega)).mono ?_; rintro e w6 ⟨rfl, ht, hg⟩; have HT6 := Lib.hid (LTab.cut ht SN.out.symm); have HB6 := Lib.hid (below_andG HB5.out hg HX.out); have i1 := cell_kept E1.out HB6.out; have i2 := cell_kept E2.out HB6.out; clear ht hg)
                          | (go_at_call 20; refine (lsure_yes b mb n W _ _ em 1 0 Q _ HT6.out HW0.out em_len rfl (by omega) (by omega) (by omega) true HR9.out).mono ?_; rintro e w7 ⟨rfl, hb⟩; have HT7 := Lib.hid (HT6.out.kept hb); have HB7 := Lib.hid (below_and HB6.out hb); clear hb))
                        go_roundw
                        case rel => exact ⟨k + 1, hlt, by first | rw [HG1.out] | rw [← HG1.out, sg], by go_num, by rw [← HN1.out, HE.out]; exact HT7, HB7⟩
                        case measure => simp [intOf]; omega
                      · have hz : max 0 (Q + W - N1) = Q + W - N1 := Int.max_eq_right (by omega)
                        have hr : false = (max 0 (Q + W - N1) == 0) := by rw [hz]; symm; simp; omega
                        have HR9 := Lib.hid hr
                        clear hz hr hov
                        go_wp2_with (first
                          | (go_at_call 18; refine (lheard_new b mb n W _ _ em 0 0 0 1 0 _ HT4.out HW0.out em_len rfl (by decide) rfl rfl rfl rfl).mono ?_; rintro e w5 ⟨rfl, ht, hg⟩; have HT5 := Lib.hid (show LTab w5 b mb n W _ [([109], hv 1 0 Q)] by rw [HQK.out]; exact ht); have HB5 := Lib.hid (below_andG HB4.out hg HM.out); have j1 := cell_kept E1.out HB5.out; have j2 := cell_kept E2.out HB5.out; clear ht hg)
                          | (go_at_call 19; refine (ltick_ok b mb n W _ _ x _ HT5.out HW0.out (by omega) (by omega)).mono ?_; rintro e w6 ⟨rfl, ht, hg⟩; have HT6 := Lib.hid (LTab.cut ht SN.out.symm); have HB6 := Lib.hid (below_andG HB5.out hg HX.out); have i1 := cell_kept E1.out HB6.out; have i2 := cell_kept E2.out HB6.out; clear ht hg)
                          | (go_at_call 20; refine (lsure_yes b mb n W _ _ em 1 0 Q _ HT6.out HW0.out em_len rfl (by omega) (by omega) (by omega) false HR9.out).mono ?_; rintro e w7 ⟨rfl, hb⟩; have HT7 := Lib.hid (HT6.out.kept hb); have HB7 := Lib.hid (below_and HB6.out hb); clear hb))
                        go_roundw
                        case rel => exact ⟨k + 1, hlt, by first | rw [HG1.out] | rw [← HG1.out, sg], by go_num, by rw [← HN1.out, HE.out]; exact HT7, HB7⟩
                        case measure => simp [intOf]; omega
                    · have hent : Clk.ent a k Q = hv 1 0 Q := if_neg (by omega)
                      have hent2 : Clk.ent a (k + 1) Q = hv 1 0 Q := if_neg (by omega)
                      rw [hent] at HT4
                      have HE := Lib.hid hent2
                      clear hent hent2
                      have q1 : ((k : Int) == (a : Int)) = false := by simp; omega
                      clear hQk
                      by_cases hw9 : W ≤ N1 - Q
                      · have hz : max 0 (Q + W - N1) = 0 := Int.max_eq_left (by omega)
                        have hr : true = (max 0 (Q + W - N1) == 0) := by rw [hz]; rfl
                        have hn9 := hov (by omega) hw9
                        have HR9 := Lib.hid hr
                        clear hz hr hov
                        go_wp2_with (first
                          | (go_at_call 19; refine (ltick_ok b mb n W _ _ x _ HT4.out HW0.out (by omega) (by omega)).mono ?_; rintro e w6 ⟨rfl, ht, hg⟩; have HT6 := Lib.hid (LTab.cut ht SN.out.symm); have HB6 := Lib.hid (below_andG HB4.out hg HX.out); have i1 := cell_kept E1.out HB6.out; have i2 := cell_kept E2.out HB6.out; clear ht hg)
                          | (go_at_call 20; refine (lsure_yes b mb n W _ _ em 1 0 Q _ HT6.out HW0.out em_len rfl (by omega) (by omega) (by omega) true HR9.out).mono ?_; rintro e w7 ⟨rfl, hb⟩; have HT7 := Lib.hid (HT6.out.kept hb); have HB7 := Lib.hid (below_and HB6.out hb); clear hb))
                        go_roundw
                        case rel => exact ⟨k + 1, hlt, by first | rw [HG1.out] | rw [← HG1.out, sg], by go_num, by rw [← HN1.out, HE.out]; exact HT7, HB7⟩
                        case measure => simp [intOf]; omega
                      · have hz : max 0 (Q + W - N1) = Q + W - N1 := Int.max_eq_right (by omega)
                        have hr : false = (max 0 (Q + W - N1) == 0) := by rw [hz]; symm; simp; omega
                        have HR9 := Lib.hid hr
                        clear hz hr hov
                        go_wp2_with (first
                          | (go_at_call 19; refine (ltick_ok b mb n W _ _ x _ HT4.out HW0.out (by omega) (by omega)).mono ?_; rintro e w6 ⟨rfl, ht, hg⟩; have HT6 := Lib.hid (LTab.cut ht SN.out.symm); have HB6 := Lib.hid (below_andG HB4.out hg HX.out); have i1 := cell_kept E1.out HB6.out; have i2 := cell_kept E2.out HB6.out; clear ht hg)
                          | (go_at_call 20; refine (lsure_yes b mb n W _ _ em 1 0 Q _ HT6.out HW0.out em_len rfl (by omega) (by omega) (by omega) false HR9.out).mono ?_; rintro e w7 ⟨rfl, hb⟩; have HT7 := Lib.hid (HT6.out.kept hb); have HB7 := Lib.hid (below_and HB6.out hb); clear hb))
                        go_roundw
                        case rel => exact ⟨k + 1, hlt, by first | rw [HG1.out] | rw [← HG1.out, sg], by go_num, by rw [← HN1.out, HE.out]; exact HT7, HB7⟩
                        case measure => simp [intOf]; omega
                  · rw [hrow] at e1 HK sN sG
                    have fx := Clk.far_get hfar.out hlt 0
                    have fy := Clk.far_get hfar.out hlt 1
                    rw [hrow] at fx fy
                    have hll : (zss[k]).length ≤ 9223372036854775807 := by
                      obtain ⟨p2, c2, e, h1, h2, -⟩ := hrk
                      simp only [Value.slice.injEq] at e
                      omega
                    rw [hrow] at hll
                    clear hrow hrk
                    obtain ⟨b2, o2, hp', e2⟩ := HK.out.num (i := 0) (by simp)
                    obtain ⟨b3, o3, hp3, e3⟩ := HK.out.num (i := 1) (by simp)
                    subst hp'
                    simp only [Option.some.injEq, Addr.mk.injEq] at hp3
                    obtain ⟨rfl, rfl, -⟩ := hp3
                    simp only [List.getD_cons_zero, List.getD_cons_succ, List.length_cons, Nat.add_zero, List.getElem_cons_zero, List.getElem_cons_succ] at sN sG fx fy e1 e2 e3 hll
                    have SN := Lib.hid sN
                    have E1 := Lib.hid e1
                    have E2 := Lib.hid e2
                    have E3 := Lib.hid e3
                    have g1 := cell_kept e1 HB4.out
                    have g2 := cell_kept e2 HB4.out
                    have g3 := cell_kept e3 HB4.out
                    clear e1 HK e2 e3
                    rcases Nat.lt_trichotomy k a with hka | hka | hka
                    · have hent : Clk.ent a k Q = hv 0 0 0 := if_pos (by omega)
                      have hent2 : Clk.ent a (k + 1) Q = hv 0 0 0 := if_pos (by omega)
                      rw [hent] at HT4
                      have HE := Lib.hid hent2
                      clear hent hent2
                      have q1 : ((k : Int) == (a : Int)) = false := by simp; omega
                      clear hQk
                      by_cases hkf : f ≤ k
                      · have sg := sG hkf
                        have v1 : wrap64 (G0 + y) = G1 := by unfold wrap64; omega
                        clear sG sG0
                        clear hov
                        go_wp2_with (first
                          | (go_at_call 19; refine (ltick_ok b mb n W _ _ x _ HT4.out HW0.out (by omega) (by omega)).mono ?_; rintro e w6 ⟨rfl, ht, hg⟩; have HT6 := Lib.hid (LTab.cut ht SN.out.symm); have HB6 := Lib.hid (below_andG HB4.out hg HX.out); have i1 := cell_kept E1.out HB6.out; have i2 := cell_kept E2.out HB6.out; have i3 := cell_kept E3.out HB6.out; clear ht hg)
                          | (go_at_call 20; refine (lsure_yes b mb n W _ _ em 0 0 0 _ HT6.out HW0.out em_len rfl (by omega) (by omega) (by omega) (max 0 (0 + W - N1) == 0) rfl).mono ?_; rintro e w7 ⟨rfl, hb⟩; have HT7 := Lib.hid (HT6.out.kept hb); have HB7 := Lib.hid (below_and HB6.out hb); clear hb))
                        go_roundw
                        case rel => exact ⟨k + 1, hlt, by first | rw [HG1.out] | rw [← HG1.out, sg], by go_num, by rw [← HN1.out, HE.out]; exact HT7, HB7⟩
                        case measure => simp [intOf]; omega
                      · obtain rfl := sG0 (by omega)
                        clear sG sG0
                        clear hov
                        go_wp2_with (first
                          | (go_at_call 19; refine (ltick_ok b mb n W _ _ x _ HT4.out HW0.out (by omega) (by omega)).mono ?_; rintro e w6 ⟨rfl, ht, hg⟩; have HT6 := Lib.hid (LTab.cut ht SN.out.symm); have HB6 := Lib.hid (below_andG HB4.out hg HX.out); have i1 := cell_kept E1.out HB6.out; have i2 := cell_kept E2.out HB6.out; have i3 := cell_kept E3.out HB6.out; clear ht hg)
                          | (go_at_call 20; refine (lsure_yes b mb n W _ _ em 0 0 0 _ HT6.out HW0.out em_len rfl (by omega) (by omega) (by omega) (max 0 (0 + W - N1) == 0) rfl).mono ?_; rintro e w7 ⟨rfl, hb⟩; have HT7 := Lib.hid (HT6.out.kept hb); have HB7 := Lib.hid (below_and HB6.out hb); clear hb))
                        go_roundw
                        case rel => exact ⟨k + 1, hlt, by first | rw [HG1.out] | rw [← HG1.out, sg], by go_num, by rw [← HN1.out, HE.out]; exact HT7, HB7⟩
                        case measure => simp [intOf]; omega
                    · have hent : Clk.ent a k Q = hv 0 0 0 := if_pos (by omega)
                      subst hka
                      have hent2 : Clk.ent k (k + 1) Q = hv 1 0 Q := if_neg (by omega)
                      rw [hent] at HT4
                      have HE := Lib.hid hent2
                      clear hent hent2
                      have q1 : ((k : Int) == (k : Int)) = true := by simp
                      have HQK := Lib.hid (hQk rfl)
                      clear hQk
                      by_cases hw9 : W ≤ N1 - Q
                      · have hz : max 0 (Q + W - N1) = 0 := Int.max_eq_left (by omega)
                        have hr : true = (max 0 (Q + W - N1) == 0) := by rw [hz]; rfl
                        have hn9 := hov (by omega) hw9
                        have HR9 := Lib.hid hr
                        clear hz hr hov
                        have sg := sG (by omega)
                        have v1 : wrap64 (G0 + y) = G1 := by unfold wrap64; omega
                        clear sG sG0
                        go_wp2_with (first
                          | (go_at_call 18; refine (lheard_new b mb n W _ _ em 0 0 0 1 0 _ HT4.out HW0.out em_len rfl (by decide) rfl rfl rfl rfl).mono ?_; rintro e w5 ⟨rfl, ht, hg⟩; have HT5 := Lib.hid (show LTab w5 b mb n W _ [([109], hv 1 0 Q)] by rw [HQK.out]; exact ht); have HB5 := Lib.hid (below_andG HB4.out hg HM.out); have j1 := cell_kept E1.out HB5.out; have j2 := cell_kept E2.out HB5.out; have j3 := cell_kept E3.out HB5.out; clear ht hg)
                          | (go_at_call 19; refine (ltick_ok b mb n W _ _ x _ HT5.out HW0.out (by omega) (by omega)).mono ?_; rintro e w6 ⟨rfl, ht, hg⟩; have HT6 := Lib.hid (LTab.cut ht SN.out.symm); have HB6 := Lib.hid (below_andG HB5.out hg HX.out); have i1 := cell_kept E1.out HB6.out; have i2 := cell_kept E2.out HB6.out; have i3 := cell_kept E3.out HB6.out; clear ht hg)
                          | (go_at_call 20; refine (lsure_yes b mb n W _ _ em 1 0 Q _ HT6.out HW0.out em_len rfl (by omega) (by omega) (by omega) true HR9.out).mono ?_; rintro e w7 ⟨rfl, hb⟩; have HT7 := Lib.hid (HT6.out.kept hb); have HB7 := Lib.hid (below_and HB6.out hb); clear hb))
                        go_roundw
                        case rel => exact ⟨k + 1, hlt, by first | rw [HG1.out] | rw [← HG1.out, sg], by go_num, by rw [← HN1.out, HE.out]; exact HT7, HB7⟩
                        case measure => simp [intOf]; omega
                      · have hz : max 0 (Q + W - N1) = Q + W - N1 := Int.max_eq_right (by omega)
                        have hr : false = (max 0 (Q + W - N1) == 0) := by rw [hz]; symm; simp; omega
                        have HR9 := Lib.hid hr
                        clear hz hr hov
                        have sg := sG (by omega)
                        have v1 : wrap64 (G0 + y) = G1 := by unfold wrap64; omega
                        clear sG sG0
                        go_wp2_with (first
                          | (go_at_call 18; refine (lheard_new b mb n W _ _ em 0 0 0 1 0 _ HT4.out HW0.out em_len rfl (by decide) rfl rfl rfl rfl).mono ?_; rintro e w5 ⟨rfl, ht, hg⟩; have HT5 := Lib.hid (show LTab w5 b mb n W _ [([109], hv 1 0 Q)] by rw [HQK.out]; exact ht); have HB5 := Lib.hid (below_andG HB4.out hg HM.out); have j1 := cell_kept E1.out HB5.out; have j2 := cell_kept E2.out HB5.out; have j3 := cell_kept E3.out HB5.out; clear ht hg)
                          | (go_at_call 19; refine (ltick_ok b mb n W _ _ x _ HT5.out HW0.out (by omega) (by omega)).mono ?_; rintro e w6 ⟨rfl, ht, hg⟩; have HT6 := Lib.hid (LTab.cut ht SN.out.symm); have HB6 := Lib.hid (below_andG HB5.out hg HX.out); have i1 := cell_kept E1.out HB6.out; have i2 := cell_kept E2.out HB6.out; have i3 := cell_kept E3.out HB6.out; clear ht hg)
                          | (go_at_call 20; refine (lsure_yes b mb n W _ _ em 1 0 Q _ HT6.out HW0.out em_len rfl (by omega) (by omega) (by omega) false HR9.out).mono ?_; rintro e w7 ⟨rfl, hb⟩; have HT7 := Lib.hid (HT6.out.kept hb); have HB7 := Lib.hid (below_and HB6.out hb); clear hb))
                        go_roundw
                        case rel => exact ⟨k + 1, hlt, by first | rw [HG1.out] | rw [← HG1.out, sg], by go_num, by rw [← HN1.out, HE.out]; exact HT7, HB7⟩
                        case measure => simp [intOf]; omega
                    · have hent : Clk.ent a k Q = hv 1 0 Q := if_neg (by omega)
                      have hent2 : Clk.ent a (k + 1) Q = hv 1 0 Q := if_neg (by omega)
                      rw [hent] at HT4
                      have HE := Lib.hid hent2
                      clear hent hent2
                      have q1 : ((k : Int) == (a : Int)) = false := by simp; omega
                      clear hQk
                      by_cases hw9 : W ≤ N1 - Q
                      · have hz : max 0 (Q + W - N1) = 0 := Int.max_eq_left (by omega)
                        have hr : true = (max 0 (Q + W - N1) == 0) := by rw [hz]; rfl
                        have hn9 := hov (by omega) hw9
                        have HR9 := Lib.hid hr
                        clear hz hr hov
                        have sg := sG (by omega)
                        have v1 : wrap64 (G0 + y) = G1 := by unfold wrap64; omega
                        clear sG sG0
                        go_wp2_with (first
                          | (go_at_call 19; refine (ltick_ok b mb n W _ _ x _ HT4.out HW0.out (by omega) (by omega)).mono ?_; rintro e w6 ⟨rfl, ht, hg⟩; have HT6 := Lib.hid (LTab.cut ht SN.out.symm); have HB6 := Lib.hid (below_andG HB4.out hg HX.out); have i1 := cell_kept E1.out HB6.out; have i2 := cell_kept E2.out HB6.out; have i3 := cell_kept E3.out HB6.out; clear ht hg)
                          | (go_at_call 20; refine (lsure_yes b mb n W _ _ em 1 0 Q _ HT6.out HW0.out em_len rfl (by omega) (by omega) (by omega) true HR9.out).mono ?_; rintro e w7 ⟨rfl, hb⟩; have HT7 := Lib.hid (HT6.out.kept hb); have HB7 := Lib.hid (below_and HB6.out hb); clear hb))
                        go_roundw
                        case rel => exact ⟨k + 1, hlt, by first | rw [HG1.out] | rw [← HG1.out, sg], by go_num, by rw [← HN1.out, HE.out]; exact HT7, HB7⟩
                        case measure => simp [intOf]; omega
                      · have hz : max 0 (Q + W - N1) = Q + W - N1 := Int.max_eq_right (by omega)
                        have hr : false = (max 0 (Q + W - N1) == 0) := by rw [hz]; symm; simp; omega
                        have HR9 := Lib.hid hr
                        clear hz hr hov
                        have sg := sG (by omega)
                        have v1 : wrap64 (G0 + y) = G1 := by unfold wrap64; omega
                        clear sG sG0
                        go_wp2_with (first
                          | (go_at_call 19; refine (ltick_ok b mb n W _ _ x _ HT4.out HW0.out (by omega) (by omega)).mono ?_; rintro e w6 ⟨rfl, ht, hg⟩; have HT6 := Lib.hid (LTab.cut ht SN.out.symm); have HB6 := Lib.hid (below_andG HB4.out hg HX.out); have i1 := cell_kept E1.out HB6.out; have i2 := cell_kept E2.out HB6.out; have i3 := cell_kept E3.out HB6.out; clear ht hg)
                          | (go_at_call 20; refine (lsure_yes b mb n W _ _ em 1 0 Q _ HT6.out HW0.out em_len rfl (by omega) (by omega) (by omega) false HR9.out).mono ?_; rintro e w7 ⟨rfl, hb⟩; have HT7 := Lib.hid (HT6.out.kept hb); have HB7 := Lib.hid (below_and HB6.out hb); clear hb))
                        go_roundw
                        case rel => exact ⟨k + 1, hlt, by first | rw [HG1.out] | rw [← HG1.out, sg], by go_num, by rw [← HN1.out, HE.out]; exact HT7, HB7⟩
                        case measure => simp [intOf]; omega
                · obtain rfl : k = zss.length := by omega
                  go_wp2
                  go_ret
                  exact ⟨rfl, below_and HB.out HB4.out⟩
        · have he1' : (e1 == 0) = false := by simpa using he1
          subst he0
          go_wp2_with (go_at_call 14; refine (keeps_any _ zss _ d _ HZ1.out).mono ?_; (first | rw [HK0.out] | rw [HK1.out]); rintro e w2 ⟨rfl, rfl⟩)
          go_ret
          exact ⟨rfl, HB.out⟩
      · have he0' : (e0 == 0) = false := by simpa using he0
        go_wp2_with (go_at_call 14; refine (keeps_any _ zss _ d _ HZ1.out).mono ?_; (first | rw [HK0.out] | rw [HK1.out]); rintro e w2 ⟨rfl, rfl⟩)
        go_ret
        exact ⟨rfl, HB.out⟩
theorem leaseSure_walk (n d : Int) (v : Value) (zss : List (List Int)) (sent heard : Int) (w : World) (_ : (Lit.int .i64 n).wf = true) (_ : (Lit.int .i64 d).wf = true) (h : Rows2 w v zss) (_ : ∀ l ∈ zss, ∀ n ∈ l, (Lit.int .i64 n).wf = true) (_ : (Lit.int .i64 sent).wf = true) (_ : (Lit.int .i64 heard).wf = true) :
    Calls Try.prog 3 #[.int .i64 n, .int .i64 d, v, .int .i64 sent, .int .i64 heard] w fun e w' => e = .returned (.bool true) ∧ Below w.heap.size w w' := by
  by_cases h1 : 200 < zss.length ∨ n < 1 ∨ 1000 < n
  · exact leaseSure_out n d v zss sent heard w h h1
  · exact leaseSure_in n d v zss sent heard w h (by omega) (by omega) (by omega)
end Go.Proofs.Ytmgcigohfccgeaa
