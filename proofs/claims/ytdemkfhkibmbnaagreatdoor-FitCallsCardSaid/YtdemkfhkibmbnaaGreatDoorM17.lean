/- RuShap, RuHold. -/
import Derived.Laws.CopyOwn
import Derived.Test.YtdemkfhkibmbnaaGreatDoorRuHoldP
set_option maxRecDepth 100000
set_option maxHeartbeats 8000000
namespace Go.Proofs.YtdemkfhkibmbnaaGreatDoor.Ru
open Go.RowKit Go.Proofs.YtdemkfhkibmbnaaGreatDoor
theorem info_i64 : (Tryz.prog.info? 3).map (fun i => (i.zero, i.size, i.bytes)) = some (some (.int .i64 0), 1, 8) := by kernel_rfl
theorem owns_blk {w : World} {base g n : Nat} {xs : List Value} {e : TypeId} (h : w.ownsRow base e 1 (.slice (some ⟨g, 0, none⟩) n n) n xs) : Blk w g xs e := by
 obtain ⟨h1, h2⟩ := h; rcases h2 with ⟨h2, _⟩ | ⟨g', cap, cur, hv, _, hh, _, _, hs, ht⟩
 ·simp at h2
 ·simp only [Value.slice.injEq, Option.some.injEq, Addr.mk.injEq, and_true, true_and] at hv
  obtain ⟨rfl, rfl⟩ := hv
  unfold Blk
  rw [hh, ← ht]
  congr 2
  rw [List.take_of_length_le (by simp [hs])]
def Used (w : World) (G n : Nat) (Q : List Int) : Prop := Blk w G ((cntL n Q).map (Value.int .i64)) 3
theorem Used.cell {w : World} {G n : Nat} {Q : List Int} (h : Used w G n Q) {j : Nat} (hj : j < n) : w.cell? ⟨G, j, none⟩ = some (.int .i64 (Q.count (j : Int) : Int)) :=
 Blk.cell h (by rw [List.getElem?_map, cntL_at hj]; rfl)
theorem Used.put {w : World} {G n : Nat} {Q : List Int} (h : Used w G n Q) {j : Nat} (hj : j < n) : Used (w.setCell ⟨G, j, none⟩ (.int .i64 ((Q.count (j : Int) : Int) + 1))) G n (Q ++ [(j : Int)]) := by
 unfold Used
 rw [cntL_snoc hj, List.map_set]; exact Blk.set h j _
theorem node_at {w : World} {p : Option Addr} {c : Nat} {L : List Nd} (h : Row w (.slice p L.length c) 6 L.length (rwC ndC L)) {i : Nat} (hi : i < L.length) :
  ∃ b o, p = some ⟨b, o, none⟩ ∧ ∀ j u, (ndC L[i])[j]? = some u → w.cell? ⟨b, o + i * 6 + j, none⟩ = some u := by
 obtain ⟨p1, c1, hv, h1, h2, h3, h4, h5, h6⟩ := h; simp only [Value.slice.injEq] at hv; obtain ⟨rfl, -, rfl⟩ := hv; rcases h6 with h6 | ⟨b, o, hp, ha⟩
 ·rw [h6] at h3; simp at h3; omega
 ·refine ⟨b, o, hp, fun j u hj => ?_⟩
  rw [Nat.add_assoc]; refine ha (i * 6 + j) u ?_
  have hj6 : j < 6 := by
   have := (List.getElem?_eq_some_iff.1 hj).1
   rwa [ndC_len] at this
  rw [rwC_at (c := ndC) (k := 6) (fun _ => rfl) hi hj6]; exact hj
theorem shaped_part {L : List Nd} {i : Nat} (hi : i < L.length) {x : Int} (hx : x ∈ parts L[i]) (h : ¬ (0 ≤ x ∧ x < (i : Int))) : shapedB L = false := by
 refine shaped_node hi ?_
 unfold fineB
 rw [Bool.and_eq_false_iff]
 right
 rw [List.all_eq_false]; exact ⟨x, hx, by simpa using h⟩
theorem made_int (n : Nat) : (madeCells (Value.cells (.int .i64 0)) (n * 1)).toList = (cntL n []).map (Value.int .i64) := by
 rw [Nat.mul_one, cntL_nil, List.map_replicate]; exact toList_madeCells_one _ _
theorem shaped_any (v : Value) (L : List Nd) (w : World) (h : Row w v 6 L.length (rwC ndC L)) :
  Calls Tryz.prog 63 #[v] w fun r w' => r = .returned (.bool (shapedB L)) ∧ Below w.heap.size w w' := by
 have HR := zz h; obtain ⟨p, c, rfl, hc, hm, -⟩ := h; obtain ⟨n, hn⟩ : ∃ n, n = L.length := ⟨_, rfl⟩; have HLN := zz hn; rw [← hn] at hc ⊢; clear hn; have hml : maxLen ≤ 9223372036854775807 := by decide
 have hn63 : (n : Int) ≤ 9223372036854775807 := by omega
 clear hm hc hml
 by_cases hlo : n < 1
 ·have HN : Hid (shapedB L = false) := zz (shaped_len (by have := HLN.o; omega))
  obtain rfl : n = 0 := by omega
  go_enter Tryz.func63, Tryz.ntmps63; go_wp2; go_ret; exact ⟨ret_bool HN.o.symm, Below.refl _ _⟩
 by_cases hhi : 64 < n
 ·have HN : Hid (shapedB L = false) := zz (shaped_len (by have := HLN.o; omega))
  go_enter Tryz.func63, Tryz.ntmps63; go_wp2; go_ret; exact ⟨ret_bool HN.o.symm, Below.refl _ _⟩
 have HL : Hid (1 ≤ n ∧ n ≤ 64) := zz (by omega); obtain ⟨i0, hi, hz0, hz1, hz2⟩ := info_parts info_i64; have hn1 : 1 ≤ n := by omega
 have hn64 : n ≤ 64 := by omega
 clear hlo hhi; go_enter Tryz.func63, Tryz.ntmps63; go_wp2_with (at_make; go_loud (refine wpList_make_full _ rfl _ _ 112 rfl w.heap.size 3 i0 (.int .i64 0) 1 Tryz.underlying112 hi hz0 hz1 _ _ _ _ n rfl rfl (by simp) (by simp) (by rw [hz2]; have := HL.o; omega) (by have := HL.o; unfold maxLen; omega) (Nat.le_refl _) ?_; intro w1 hown1 hgrow1; rw [made_int] at hown1; have HU1 : Hid (Used w1 w.heap.size n []) := zz (owns_blk hown1); have HB1 := zz (Below.grown (Below.refl w.heap.size w) hgrow1 (Nat.le_refl _) (by simp)); clear hown1 hgrow1)); obtain ⟨G, hG⟩ : ∃ G, G = w.heap.size := ⟨_, rfl⟩; rw [← hG] at HU1 ⊢; have HGW : Hid (w.heap.size ≤ G) := zz (by omega); clear hG hn1 hn64
 go_loopw [24] (fun i wr => ∃ k : Nat, k ≤ n ∧ i = .int .i64 (k : Int) ∧ Hid (Used wr G n (qs L k)) ∧ Hid (Below w.heap.size w wr) ∧ Hid (∀ j (h : j < L.length), j < k → fineB j L[j] = true)) (fun i _ => n - (intOf i).toNat)
 case atStart => exact ⟨0, Nat.zero_le _, rfl, HU1, HB1, zz (fun j _ h => by omega)⟩
 case round =>
  obtain ⟨k, hk, rfl, HU, HB, HF⟩ := hrel
  by_cases hlt : k < n
  ·have HKN : Hid (k < L.length) := zz (by have := HLN.o; omega)
   obtain ⟨nd, hnd⟩ : ∃ nd, nd = L[k]'HKN.o := ⟨_, rfl⟩
   have HLC : Hid (∃ b o, p = some ⟨b, o, none⟩ ∧ ∀ j u, (ndC nd)[j]? = some u → wr.cell? ⟨b, o + k * 6 + j, none⟩ = some u) := zz (by
    rw [hnd]; have hr := HR.o.below HB.o
    exact node_at hr HKN.o)
   have HND := zz hnd; clear hnd; obtain ⟨b, o, rfl, hcell⟩ := HLC.o; have q0 := hcell 0 _ rfl; rw [Nat.add_zero] at q0; have q1 := hcell 1 _ rfl; have q2 := hcell 2 _ rfl; have q3 := hcell 3 _ rfl; have q4 := hcell 4 _ rfl; have q5 := hcell 5 _ rfl; clear hcell HLC; go_upto_region 8 with fail; obtain ⟨Y, hY⟩ : ∃ Y, Y = wr.heap.size := ⟨_, rfl⟩
   refine at_hide (F := fun w' => Blk w' Y (ndC nd) 69 ∧ Blk w' (Y + 1) [] 3 ∧ Used w' G n (qs L k) ∧ Below w.heap.size w w' ∧ w'.heap.size = Y + 2) ⟨by
    rw [hY]; exact Blk.alloc (Blk.made wr (ndC nd) _) _, by rw [hY]; have := Blk.made (wr.alloc (.cells (ndC nd).toArray 69)) [] 3; simpa using this, Blk.alloc (Blk.alloc HU.o _) _, below_and (below_and HB.o (below_alloc _ _)) (below_alloc _ _), by rw [hY]; simp⟩ ?_
   intro wz hFz; rw [← hY]; have HGY : Hid (G < Y) := zz (by have := Blk.lt HU.o; omega); have HY3 := zz hFz.1; have hZ0 := hFz.2.1; have HU2 := zz hFz.2.2.1; have HB2 := zz hFz.2.2.2.1; have HZ2 := zz hFz.2.2.2.2; clear hFz hY q0 q1 q2 q3 q4 q5; obtain ⟨y0, -, -, -, y4, y5⟩ := cl6 HY3.o; obtain ⟨kd, nm, vl, xx, na, nb⟩ := nd; simp only at y0 y4 y5; have HKD : Hid (L[k]'HKN.o = ⟨kd, nm, vl, xx, na, nb⟩) := zz HND.o.symm; obtain ⟨PS, hPS⟩ : ∃ PS, PS = parts (L[k]'HKN.o) := ⟨_, rfl⟩; have HPS := zz hPS; clear HND hPS
   by_cases k7 : kd = 7
   ·subst k7
    have HPQ : Hid (PS = [na]) := zz (by rw [HPS.o, HKD.o]; exact parts7 rfl); go_upto_region 13 with fail
    refine at_hide (F := fun w' => Blk w' (Y + 2) [.int .i64 na] 3 ∧ Used w' G n (qs L k) ∧ Below w.heap.size w w' ∧ Blk w' Y (ndC ⟨7, nm, vl, xx, na, nb⟩) 69) ⟨by
     have := Blk.made wz [.int .i64 na] 3; rw [HZ2.o] at this; exact this, Blk.alloc HU2.o _, below_and HB2.o (below_alloc _ _), Blk.alloc HY3.o _⟩ ?_
    intro w3 hF3; obtain ⟨Z, hZe⟩ : ∃ Z, Z = Y + 2 := ⟨_, rfl⟩
    (try rw [HZ2.o])
    rw [← hZe] at hF3 ⊢; have HZG : Hid (Z ≠ G) := zz (by have := HGY.o; omega); have hZ : Blk w3 Z ([na].map (Value.int .i64)) 3 := hF3.1; have HU3 := zz hF3.2.1; have HB3 := zz hF3.2.2.1; have hy3 := hF3.2.2.2; clear hF3 hZe hZ0 HU2 HB2 y0 y4 y5 HY3; have y5 := hy3.cell (j := 5) rfl; clear hy3
    by_cases hnb : nb = -1
    ·subst hnb
     go_upto_region 18 with fail; clear y5
     have HZ := zz hZ; clear hZ; go_wp2
     go_loopw [58] (fun i2 w2 => ∃ m : Nat, m ≤ 1 ∧ i2 = .int .i64 (m : Int) ∧ Hid (Used w2 G n (qs L k ++ [na].take m)) ∧ Hid (Blk w2 Z ([na].map (Value.int .i64)) 3) ∧ Hid (Below w.heap.size w w2) ∧ Hid (∀ j (h : j < m) x, [na][j]? = some x → 0 ≤ x ∧ x < (k : Int))) (fun i2 _ => 1 - (intOf i2).toNat)
     case atStart => exact ⟨0, by omega, rfl, zz (by simpa using HU3.o), HZ, HB3, zz (fun j h => by omega)⟩
     case round =>
      obtain ⟨m, hm, rfl, HU4, HZ4, HB4, HA4⟩ := hrel
      by_cases hlt2 : m < 1
      ·obtain ⟨x, hx⟩ : ∃ x, [na][m]? = some x := ⟨_, List.getElem?_eq_getElem (by simpa using hlt2)⟩
       have z1 := HZ4.o.cell (j := m) (u := .int .i64 x) (by rw [List.getElem?_map, hx]; rfl); have HX := zz hx; have HXM : Hid (x ∈ PS) := zz (by rw [HPQ.o]; exact List.mem_of_getElem? hx); clear hx
       by_cases hx0 : x < 0
       ·have HN : Hid (shapedB L = false) := zz (shaped_part HKN.o (by rw [← HPS.o]; exact HXM.o) (fun h => by omega))
        have t1 : decide (x < 0) = true := by simpa using hx0
        go_wp2; go_ret; exact ⟨ret_bool HN.o.symm, HB4.o⟩
       by_cases hxk : (k : Int) ≤ x
       ·have HN : Hid (shapedB L = false) := zz (shaped_part HKN.o (by rw [← HPS.o]; exact HXM.o) (fun h => by omega))
        have t1 : decide (x < 0) = false := by simpa using hx0
        have t2 : decide ((k : Int) ≤ x) = true := by simpa using hxk
        go_wp2; go_ret; exact ⟨ret_bool HN.o.symm, HB4.o⟩
       have t1 : decide (x < 0) = false := by simpa using hx0
       have t2 : decide ((k : Int) ≤ x) = false := by simpa using hxk
       obtain ⟨xj, hxj⟩ : ∃ xj : Nat, x = (xj : Int) := ⟨x.toNat, by omega⟩; have HJK : Hid (xj < k) := zz (by omega); subst hxj; have t3 : decide (k ≤ xj) = false := by have := HJK.o; simp; omega
       have hxn : xj < n := by have := HKN.o; have := HJK.o; have := HLN.o; omega
       have u1 := HU4.o.cell hxn; have u2 := Blk.free HU4.o xj; obtain ⟨cq, hcq⟩ : ∃ cq : Int, cq = ((qs L k ++ [na].take m).count (xj : Int) : Int) := ⟨_, rfl⟩; have hc0 : 0 ≤ cq := by omega
       have hc1 : cq ≤ 1000 := by
        have q1 := List.count_le_length (a := (xj : Int)) (l := qs L k ++ [na].take m); have q2 := qs_len L k (by have := HKN.o; omega); rw [List.length_append, List.length_take] at q1; have q3 := HKN.o; have q4 := HLN.o; have q5 := HL.o
        omega
       rw [← hcq] at u1; have HCQ := zz hcq; have HXN := zz hxn; clear hcq hxn hx0 hxk; go_wp2; refine ⟨⟨m + 1, by omega, by go_num, zz ?_, zz (HZ4.o.other (a := ⟨G, xj, none⟩) ?_ _), zz (HB4.o.setCell (by have := HGW.o; omega) _), zz (fun j hj y hy => ?_)⟩, by simp [intOf]; omega⟩
       ·have := HU4.o.put HXN.o
        rw [List.take_add_one, HX.o, ← List.append_assoc]; simp only [Option.toList_some]; rw [HCQ.o]; exact this
       ·have := HZG.o; exact this
       ·by_cases e : j = m
        ·subst e
         rw [HX.o] at hy; simp only [Option.some.injEq] at hy; have := HJK.o
         omega
        ·exact HA4.o j (by omega) y hy
      ·obtain rfl : m = 1 := by omega
       have HU5 : Hid (Used wr G n (qs L (k + 1))) := zz (by
        rw [qs_succ HKN.o, ← HPS.o, HPQ.o]; have := HU4.o
        rwa [List.take_of_length_le (by simp)] at this)
       have HF5 : Hid (∀ j (h : j < L.length), j < k + 1 → fineB j L[j] = true) := zz (fun j h hj => by
        by_cases e : j = k
        ·subst e
         have ha := HA4.o; rw [HKD.o, fine7 rfl]; have h1 := ha 0 (by omega) na rfl; simp; omega
        ·exact HF.o j h (by omega))
       clear HU4 HA4; go_wp2; go_roundw
       case rel => exact ⟨k + 1, by omega, by go_num, HU5, HB4, HF5⟩
       case measure => simp [intOf]; omega
    ·have HN : Hid (shapedB L = false) := zz (shaped_node HKN.o (by rw [HKD.o, fine7 rfl]; simp [hnb]))
     have t1 : (nb != -1) = true := by simpa using hnb
     go_wp2; go_ret; exact ⟨ret_bool HN.o.symm, HB3.o⟩
   have b7 : (kd == 7) = false := by simpa using k7
   by_cases k89 : kd = 8 ∨ kd = 9
   ·have HPQ : Hid (PS = [na, nb]) := zz (by rw [HPS.o, HKD.o]; exact parts89 k89)
    rcases k89 with rfl | rfl
    all_goals
     go_upto_region 18 with fail
     refine at_hide (F := fun w' => Blk w' (Y + 2) [.int .i64 na, .int .i64 nb] 3 ∧ Used w' G n (qs L k) ∧ Below w.heap.size w w') ⟨by
      have := Blk.made wz [.int .i64 na, .int .i64 nb] 3; rw [HZ2.o] at this; exact this, Blk.alloc HU2.o _, below_and HB2.o (below_alloc _ _)⟩ ?_
     intro w3 hF3; obtain ⟨Z, hZe⟩ : ∃ Z, Z = Y + 2 := ⟨_, rfl⟩
     (try rw [HZ2.o])
     rw [← hZe] at hF3 ⊢; have HZG : Hid (Z ≠ G) := zz (by have := HGY.o; omega); have hZ : Blk w3 Z ([na, nb].map (Value.int .i64)) 3 := hF3.1; have HU3 := zz hF3.2.1; have HB3 := zz hF3.2.2; clear hF3 hZe hZ0 HU2 HB2 y0 y4 y5
     have HZ := zz hZ; clear hZ; go_wp2
     go_loopw [58] (fun i2 w2 => ∃ m : Nat, m ≤ 2 ∧ i2 = .int .i64 (m : Int) ∧ Hid (Used w2 G n (qs L k ++ [na, nb].take m)) ∧ Hid (Blk w2 Z ([na, nb].map (Value.int .i64)) 3) ∧ Hid (Below w.heap.size w w2) ∧ Hid (∀ j (h : j < m) x, [na, nb][j]? = some x → 0 ≤ x ∧ x < (k : Int))) (fun i2 _ => 2 - (intOf i2).toNat)
     case atStart => exact ⟨0, by omega, rfl, zz (by simpa using HU3.o), HZ, HB3, zz (fun j h => by omega)⟩
     case round =>
      obtain ⟨m, hm, rfl, HU4, HZ4, HB4, HA4⟩ := hrel
      by_cases hlt2 : m < 2
      ·obtain ⟨x, hx⟩ : ∃ x, [na, nb][m]? = some x := ⟨_, List.getElem?_eq_getElem (by simpa using hlt2)⟩
       have z1 := HZ4.o.cell (j := m) (u := .int .i64 x) (by rw [List.getElem?_map, hx]; rfl); have HX := zz hx; have HXM : Hid (x ∈ PS) := zz (by rw [HPQ.o]; exact List.mem_of_getElem? hx); clear hx
       by_cases hx0 : x < 0
       ·have HN : Hid (shapedB L = false) := zz (shaped_part HKN.o (by rw [← HPS.o]; exact HXM.o) (fun h => by omega))
        have t1 : decide (x < 0) = true := by simpa using hx0
        go_wp2; go_ret; exact ⟨ret_bool HN.o.symm, HB4.o⟩
       by_cases hxk : (k : Int) ≤ x
       ·have HN : Hid (shapedB L = false) := zz (shaped_part HKN.o (by rw [← HPS.o]; exact HXM.o) (fun h => by omega))
        have t1 : decide (x < 0) = false := by simpa using hx0
        have t2 : decide ((k : Int) ≤ x) = true := by simpa using hxk
        go_wp2; go_ret; exact ⟨ret_bool HN.o.symm, HB4.o⟩
       have t1 : decide (x < 0) = false := by simpa using hx0
       have t2 : decide ((k : Int) ≤ x) = false := by simpa using hxk
       obtain ⟨xj, hxj⟩ : ∃ xj : Nat, x = (xj : Int) := ⟨x.toNat, by omega⟩; have HJK : Hid (xj < k) := zz (by omega); subst hxj; have t3 : decide (k ≤ xj) = false := by have := HJK.o; simp; omega
       have hxn : xj < n := by have := HKN.o; have := HJK.o; have := HLN.o; omega
       have u1 := HU4.o.cell hxn; have u2 := Blk.free HU4.o xj; obtain ⟨cq, hcq⟩ : ∃ cq : Int, cq = ((qs L k ++ [na, nb].take m).count (xj : Int) : Int) := ⟨_, rfl⟩; have hc0 : 0 ≤ cq := by omega
       have hc1 : cq ≤ 1000 := by
        have q1 := List.count_le_length (a := (xj : Int)) (l := qs L k ++ [na, nb].take m); have q2 := qs_len L k (by have := HKN.o; omega); rw [List.length_append, List.length_take] at q1; have q3 := HKN.o; have q4 := HLN.o; have q5 := HL.o
        omega
       rw [← hcq] at u1; have HCQ := zz hcq; have HXN := zz hxn; clear hcq hxn hx0 hxk; go_wp2; refine ⟨⟨m + 1, by omega, by go_num, zz ?_, zz (HZ4.o.other (a := ⟨G, xj, none⟩) ?_ _), zz (HB4.o.setCell (by have := HGW.o; omega) _), zz (fun j hj y hy => ?_)⟩, by simp [intOf]; omega⟩
       ·have := HU4.o.put HXN.o
        rw [List.take_add_one, HX.o, ← List.append_assoc]; simp only [Option.toList_some]; rw [HCQ.o]; exact this
       ·have := HZG.o; exact this
       ·by_cases e : j = m
        ·subst e
         rw [HX.o] at hy; simp only [Option.some.injEq] at hy; have := HJK.o
         omega
        ·exact HA4.o j (by omega) y hy
      ·obtain rfl : m = 2 := by omega
       have HU5 : Hid (Used wr G n (qs L (k + 1))) := zz (by
        rw [qs_succ HKN.o, ← HPS.o, HPQ.o]; have := HU4.o
        rwa [List.take_of_length_le (by simp)] at this)
       have HF5 : Hid (∀ j (h : j < L.length), j < k + 1 → fineB j L[j] = true) := zz (fun j h hj => by
        by_cases e : j = k
        ·subst e
         have ha := HA4.o; rw [HKD.o, fine89 (by simp)]; have h1 := ha 0 (by omega) na rfl; have h2 := ha 1 (by omega) nb rfl; simp; omega
        ·exact HF.o j h (by omega))
       clear HU4 HA4; go_wp2; go_roundw
       case rel => exact ⟨k + 1, by omega, by go_num, HU5, HB4, HF5⟩
       case measure => simp [intOf]; omega
   have b8 : (kd == 8) = false := by simpa using fun h => k89 (.inl h)
   have b9 : (kd == 9) = false := by simpa using fun h => k89 (.inr h)
   have HPQ : Hid (PS = ([] : List Int)) := zz (by rw [HPS.o, HKD.o]; exact parts0 k7 k89); have HK7 := zz k7; have HK89 := zz k89; clear k7 k89
   by_cases hna : na = -1
   ·subst hna
    by_cases hnb : nb = -1
    ·subst hnb
     go_upto_region 18 with fail; obtain ⟨Z, hZe⟩ : ∃ Z, Z = Y + 1 := ⟨_, rfl⟩; rw [← hZe] at hZ0 ⊢; have HZG : Hid (Z ≠ G) := zz (by have := HGY.o; omega); have hZ : Blk wz Z (([] : List Int).map (Value.int .i64)) 3 := hZ0; have HU3 := HU2; have HB3 := HB2; clear hZe hZ0 HU2 HB2 y0 y4 y5
     have HZ := zz hZ; clear hZ; go_wp2
     go_loopw [58] (fun i2 w2 => ∃ m : Nat, m ≤ 0 ∧ i2 = .int .i64 (m : Int) ∧ Hid (Used w2 G n (qs L k ++ ([] : List Int).take m)) ∧ Hid (Blk w2 Z (([] : List Int).map (Value.int .i64)) 3) ∧ Hid (Below w.heap.size w w2) ∧ Hid (∀ j (h : j < m) x, ([] : List Int)[j]? = some x → 0 ≤ x ∧ x < (k : Int))) (fun i2 _ => 0 - (intOf i2).toNat)
     case atStart => exact ⟨0, by omega, rfl, zz (by simpa using HU3.o), HZ, HB3, zz (fun j h => by omega)⟩
     case round =>
      obtain ⟨m, hm, rfl, HU4, HZ4, HB4, HA4⟩ := hrel
      ·skip
       obtain rfl : m = 0 := by omega
       have HU5 : Hid (Used wr G n (qs L (k + 1))) := zz (by
        rw [qs_succ HKN.o, ← HPS.o, HPQ.o]; have := HU4.o
        rwa [List.take_of_length_le (by simp)] at this)
       have HF5 : Hid (∀ j (h : j < L.length), j < k + 1 → fineB j L[j] = true) := zz (fun j h hj => by
        by_cases e : j = k
        ·subst e
         have ha := HA4.o; rw [HKD.o, fine0 HK7.o HK89.o]; simp
        ·exact HF.o j h (by omega))
       clear HU4 HA4; go_wp2; go_roundw
       case rel => exact ⟨k + 1, by omega, by go_num, HU5, HB4, HF5⟩
       case measure => simp [intOf]; omega
    ·have HN : Hid (shapedB L = false) := zz (shaped_node HKN.o (by rw [HKD.o, fine0 HK7.o HK89.o]; simp [hnb]))
     have t1 : (nb != -1) = true := by simpa using hnb
     go_wp2; go_ret; exact ⟨ret_bool HN.o.symm, HB2.o⟩
   ·have HN : Hid (shapedB L = false) := zz (shaped_node HKN.o (by rw [HKD.o, fine0 HK7.o HK89.o]; simp [hna]))
    have t1 : (na != -1) = true := by simpa using hna
    go_wp2; go_ret; exact ⟨ret_bool HN.o.symm, HB2.o⟩
  ·obtain rfl : k = n := by omega
   have HQ : Hid (Used wr G k (L.flatMap parts)) := zz (by
    have := HU.o; rw [show qs L k = L.flatMap parts from by rw [HLN.o]; exact qs_all L] at this
    exact this)
   obtain ⟨m, hm⟩ : ∃ m, k = m + 1 := ⟨k - 1, by have := HL.o; omega⟩; have HM := zz hm; have u1 : IntKind.i64.wrap ((k : Int) - 1) = (m : Int) := by rw [IntKind.wrap_i64]; have := HL.o; omega
   clear hm HU; go_wp2
   go_loop [79] (fun i => ∃ q : Nat, q ≤ k ∧ i = .int .i64 (q : Int) ∧ Hid (∀ j, j < q → j < m → (L.flatMap parts).count (j : Int) = 1)) (fun i => k - (intOf i).toNat)
   case atStart => exact ⟨0, Nat.zero_le _, rfl, zz (fun j h => by omega)⟩
   case round =>
    obtain ⟨q, hq, rfl, HC⟩ := hrel
    by_cases hlt3 : q < k
    ·have g1 := HQ.o.cell hlt3
     obtain ⟨cq, hcq⟩ : ∃ cq : Int, cq = ((L.flatMap parts).count (q : Int) : Int) := ⟨_, rfl⟩; rw [← hcq] at g1; have HCQ := zz hcq; clear hcq
     by_cases hqm : q < m
     ·by_cases h1 : cq = 1
      ·subst h1
       have HC2 : Hid (∀ j, j < q + 1 → j < m → (L.flatMap parts).count (j : Int) = 1) := zz (fun j hj hjm => by
        by_cases e : j = q
        ·subst e; have := HCQ.o; omega
        ·exact HC.o j (by omega) hjm)
       go_wp2
       go_round
       case rel => exact ⟨q + 1, by omega, by go_num, HC2⟩
       case measure => simp [intOf]; omega
      ·have HN : Hid (shapedB L = false) := zz (shaped_used (j := q) (by have := HLN.o; have := HM.o; omega) (by have := HCQ.o; omega))
       have t1 : (cq != 1) = true := by simpa using h1
       go_wp2; go_ret; exact ⟨ret_bool HN.o.symm, HB.o⟩
     ·have HC2 : Hid (∀ j, j < q + 1 → j < m → (L.flatMap parts).count (j : Int) = 1) := zz (fun j hj hjm => HC.o j (by omega) hjm)
      go_wp2
      go_round
      case rel => exact ⟨q + 1, by omega, by go_num, HC2⟩
      case measure => simp [intOf]; omega
    ·obtain rfl : q = k := by omega
     have hmq : m < q := by have := HM.o; omega
     have g1 := HQ.o.cell hmq
     have HLAST : Hid (shapedB L = decide (((L.flatMap parts).count ((m : Nat) : Int) : Int) = 0)) := zz (by
      have e1 : m = L.length - 1 := by have := HM.o; have := HLN.o; omega
      rw [e1]
      exact shaped_last (by have := HL.o; have := HLN.o; omega) (fun j hj => HF.o j hj (by have := HLN.o; omega)) (fun j hj => HC.o j (by have := HLN.o; omega) (by omega)))
     obtain ⟨cq, hcq⟩ : ∃ cq : Int, cq = ((L.flatMap parts).count (m : Int) : Int) := ⟨_, rfl⟩; rw [← hcq] at g1 HLAST; clear hcq; go_wp2; go_ret; exact ⟨ret_bool (by rw [HLAST.o]; rfl), HB.o⟩
theorem bs_beq (a b : List UInt8) : ((bs a).toList == (bs b).toList) = (a == b) := by
 rw [Lib.toList_data, Lib.toList_data]
 simp [bs]
theorem attr_at {w : World} {p : Option Addr} {n c : Nat} {A : List At} (h : Row w (.slice p n c) 2 A.length (rwC atC A)) {i : Nat} (hi : i < A.length) :
  ∃ b o, p = some ⟨b, o, none⟩ ∧ w.cell? ⟨b, o + i * 2, none⟩ = some (.string (bs A[i].nm)) ∧ w.cell? ⟨b, o + i * 2 + 1, none⟩ = some (.string (bs A[i].vl)) := by
 obtain ⟨p1, c1, hv, h1, h2, h3, h4, h5, h6⟩ := h; simp only [Value.slice.injEq] at hv; obtain ⟨rfl, -, rfl⟩ := hv; rcases h6 with h6 | ⟨b, o, hp, ha⟩
 ·rw [h6] at h3; simp at h3; omega
 ·refine ⟨b, o, hp, ?_, ?_⟩
  ·refine ha (i * 2) _ ?_
   have := rwC_at (c := atC) (k := 2) (fun _ => rfl) hi (j := 0) (by omega); rw [Nat.add_zero] at this; rw [this]; rfl
  ·rw [Nat.add_assoc]
   refine ha (i * 2 + 1) _ ?_; rw [rwC_at (c := atC) (k := 2) (fun _ => rfl) hi (j := 1) (by omega)]; rfl
def kI (A : List At) (nm : List UInt8) : Int := if atI A nm < A.length then (atI A nm : Int) else -1
theorem atI_of {A : List At} {nm : List UInt8} {i : Nat} (hi : i < A.length) (h1 : A[i].nm = nm) (h2 : ∀ j (h : j < A.length), j < i → A[j].nm ≠ nm) : atI A nm = i := by
 unfold atI
 rw [List.findIdx_eq hi]; exact ⟨by simpa using h1, fun j hj => by simpa using h2 j (by omega) hj⟩
theorem atI_no {A : List At} {nm : List UInt8} (h : ∀ j (h : j < A.length), A[j].nm ≠ nm) : ¬ atI A nm < A.length := by
 unfold atI
 intro hlt; have := List.findIdx_getElem (w := hlt); simp only [beq_iff_eq] at this; exact h _ hlt this
theorem hold1_any (x : At) (Y : Nat) (nm : List UInt8) (w : World) (h : w.cell? ⟨Y, 1, none⟩ = some (.string (bs nm))) :
  Calls Tryz.prog 98 #[.agg #[.string (bs x.nm), .string (bs x.vl)], ptr Y] w fun r w' => r = .returned (.bool (x.nm == nm)) ∧ Below w.heap.size w w' := by
 have hb := below_alloc w (.cells #[.string (bs x.nm), .string (bs x.vl)] 81); have c1 := cell_kept h hb; have hq := bs_beq x.nm nm; clear h hb; obtain ⟨q, hqq⟩ : ∃ q, q = (x.nm == nm) := ⟨_, rfl⟩; rw [← hqq] at hq ⊢; clear hqq; cases q
 all_goals go_enter Tryz.func98, Tryz.ntmps98
 all_goals go_wp2
 all_goals go_ret
 all_goals exact ⟨ret_bool rfl, below_alloc _ _⟩
theorem hindex_any (v : Value) (A : List At) (Y : Nat) (nm : List UInt8) (w : World) (hv : Row w v 2 A.length (rwC atC A)) (h : w.cell? ⟨Y, 1, none⟩ = some (.string (bs nm))) :
  Calls Tryz.prog 97 #[v, .func (.func 98) #[] #[ptr Y]] w fun r w' => r = .returned (.int .i64 (kI A nm)) ∧ Below w.heap.size w w' := by
 obtain ⟨p, c, rfl, hc, hm, -⟩ := id hv; have HV := zz hv; have HC := zz h; have hml : maxLen ≤ 9223372036854775807 := by decide
 have hn63 : (A.length : Int) ≤ 9223372036854775807 := by omega
 obtain ⟨n, hn⟩ : ∃ n, n = A.length := ⟨_, rfl⟩; have HN := zz hn; rw [← hn] at hn63 ⊢; clear hv h hc hm hml hn; go_enter Tryz.func97, Tryz.ntmps97; go_wp2
 go_loopw [8] (fun i wr => ∃ k : Nat, k ≤ n ∧ i = .int .i64 (k : Int) ∧ Hid (∀ j (h : j < A.length), j < k → A[j].nm ≠ nm) ∧ Hid (Below w.heap.size w wr)) (fun i _ => n - (intOf i).toNat)
 case atStart => exact ⟨0, Nat.zero_le _, rfl, zz (fun j _ h => by omega), zz (Below.refl _ _)⟩
 case round =>
  obtain ⟨k, hk, rfl, HF, HB⟩ := hrel
  by_cases hlt : k < n
  ·have HKN : Hid (k < A.length) := zz (by have := HN.o; omega)
   obtain ⟨x, hx⟩ : ∃ x, x = A[k]'HKN.o := ⟨_, rfl⟩
   have HLC : Hid (∃ b o, p = some ⟨b, o, none⟩ ∧ wr.cell? ⟨b, o + k * 2, none⟩ = some (.string (bs x.nm)) ∧ wr.cell? ⟨b, o + k * 2 + 1, none⟩ = some (.string (bs x.vl))) := zz (by
    rw [hx]
    exact attr_at (HV.o.below HB.o) HKN.o)
   have HX := zz hx; clear hx; obtain ⟨b, o, rfl, q0, q1⟩ := HLC.o; have HC1 : Hid (Calls Tryz.prog 98 #[.agg #[.string (bs x.nm), .string (bs x.vl)], ptr Y] wr fun r w' => r = .returned (.bool (x.nm == nm)) ∧ Below wr.heap.size wr w') := zz (hold1_any x Y nm wr (cell_kept HC.o HB.o))
   by_cases he : x.nm = nm
   ·have HR : Hid (kI A nm = (k : Int)) := zz (by
     have h1 := atI_of HKN.o (nm := nm) (by rw [← HX.o]; exact he) HF.o
     unfold kI
     rw [h1, if_pos HKN.o])
    rw [beq_iff_eq.2 he] at HC1; clear he HLC; go_wp2_with (go_at_call 98; refine HC1.o.mono ?_; rintro r w2 ⟨rfl, hb⟩; have HB2 := zz (below_and HB.o hb); clear hb); go_ret; exact ⟨ret_int HR.o.symm, HB2.o⟩
   ·have HF2 : Hid (∀ j (h : j < A.length), j < k + 1 → A[j].nm ≠ nm) := zz (fun j h hj => by
     by_cases e : j = k
     ·subst e; rw [← HX.o]; exact he
     ·exact HF.o j h (by omega))
    rw [beq_eq_false_iff_ne.2 he] at HC1; clear he HLC; go_wp2_with (go_at_call 98; refine HC1.o.mono ?_; rintro r w2 ⟨rfl, hb⟩; have HB2 := zz (below_and HB.o hb); clear hb); go_roundw
    case rel => exact ⟨k + 1, by omega, by go_num, HF2, HB2⟩
    case measure => simp [intOf]; omega
  ·obtain rfl : k = n := by omega
   have HR : Hid (kI A nm = -1) := zz (by
    have h1 := atI_no (A := A) (nm := nm) (fun j h => HF.o j h (by have := HN.o; omega))
    unfold kI
    rw [if_neg h1])
   go_wp2; go_ret; exact ⟨ret_int HR.o.symm, HB.o⟩
def HoldC (L : List Nd) (A : List At) (i : Nat) (W : World → Prop) : Prop :=
 ∀ (v u : Value) (w : World), Row w v 6 L.length (rwC ndC L) → Row w u 2 A.length (rwC atC A) → W w → Calls Tryz.prog 74 #[v, .int .i64 (i : Int), u] w fun r w' => r = .returned (.bool (hol L A i)) ∧ Below w.heap.size w w'
theorem hold_step (L : List Nd) (A : List At) (hf : Fine L) (i : Nat) (hi : i < L.length) (W : World → Prop) (hW : ∀ w w', W w → Below w.heap.size w w' → W w') (hT : ∀ w, W w → ErrV w) (ih : ∀ j, j < i → HoldC L A j W) (hvl : ∀ a ∈ A, a.vl.length ≤ 1000000000000000000) : HoldC L A i W := by
 unfold HoldC
 intro v u w hr hu hw; have HR := zz hr; have HU := zz hu; have HWW := zz hw; obtain ⟨n, hn⟩ : ∃ n, n = L[i] := ⟨_, rfl⟩; obtain ⟨p, c, rfl, hc1, hc2, -⟩ := id hr; obtain ⟨pu, cu, rfl, hu1, hu2, -⟩ := id hu; have HLC := zz (node_at hr hi); rw [← hn] at HLC; obtain ⟨b, o, rfl, hcell⟩ := HLC.o; have q0 := hcell 0 _ rfl; rw [Nat.add_zero] at q0; have q1 := hcell 1 _ rfl; have q2 := hcell 2 _ rfl; have q3 := hcell 3 _ rfl; have q4 := hcell 4 _ rfl; have q5 := hcell 5 _ rfl; have HEQ := zz (hol_eq (A := A) hf (List.getElem?_eq_getElem hi)); have HPA := zz (hf i _ (List.getElem?_eq_getElem hi)); rw [← hn] at HEQ HPA; have HI := zz hi; have hml : maxLen ≤ 9223372036854775807 := by decide
 have i0 : (0 : Int) ≤ (i : Int) := by omega
 have i1 : (i : Int) < (L.length : Int) := by omega
 have hl63 : (L.length : Int) ≤ 9223372036854775807 := by omega
 have ha63 : (A.length : Int) ≤ 9223372036854775807 := by omega
 obtain ⟨hv0, hhv⟩ : ∃ hv0, hv0 = hol L A i := ⟨_, rfl⟩; rw [← hhv] at HEQ ⊢; have HVL := zz hvl; clear hr hu hw hn hcell HLC hc1 hc2 hu1 hu2 hhv hml hvl; go_enter Tryz.func74, Tryz.ntmps74; go_upto_region 2 with fail; obtain ⟨Y, hY⟩ : ∃ Y, Y = w.heap.size := ⟨_, rfl⟩; refine at_hide (F := fun w' => Blk w' Y (ndC n) 69 ∧ Below w.heap.size w w') ⟨by rw [hY]; exact Blk.made w (ndC n) _, below_alloc _ _⟩ ?_; rw [← hY]; intro w1 hF; have HB1 : Hid (Below w.heap.size w w1) := zz (by have := hF.2; rw [hY] at this; exact this); have HY1 := zz hF.1; clear hF hY q0 q1 q2 q3 q4 q5; obtain ⟨kd, nm, vl, xx, na, nb⟩ := n; have HIX : Hid (Calls Tryz.prog 97 #[.slice pu A.length cu, .func (.func 98) #[] #[ptr Y]] w1 fun r w' => r = .returned (.int .i64 (kI A nm)) ∧ Below w1.heap.size w1 w') := zz (hindex_any _ A Y nm w1 (HU.o.below HB1.o) (HY1.o.cell (j := 1) rfl)); obtain ⟨kk, hkk⟩ : ∃ kk, kk = kI A nm := ⟨_, rfl⟩; rw [← hkk] at HIX; have HKK := zz hkk; clear hkk; go_upto_region 3 with (go_at_call 97; refine HIX.o.mono ?_; rintro r w2 ⟨rfl, hb⟩; have HB2 := zz (below_and HB1.o hb); have HY2 := zz (HY1.o.kept hb); clear hb)
 have HR2 := zz (HR.o.below HB2.o); have HU2 := zz (HU.o.below HB2.o); have HW2 := zz (hW _ _ HWW.o HB2.o); clear HR HU HWW HIX HY1; obtain ⟨y0, y1, y2, y3, y4, y5⟩ := cl6 HY2.o
 have HAB : Hid (∀ (x : Int) (w' : World), 0 ≤ x → x < (i : Int) → Below w2.heap.size w2 w' → Calls Tryz.prog 74 #[.slice (some ⟨b, o, none⟩) L.length c, .int .i64 x, .slice pu A.length cu] w' fun r w3 => r = .returned (.bool (hol L A x.toNat)) ∧ Below w'.heap.size w' w3) := zz (fun x w' h0 h1 hb => by
  have := ih x.toNat (by omega) _ _ w' (HR2.o.below hb) (HU2.o.below hb) (hW _ _ HW2.o hb); rw [Int.toNat_of_nonneg h0] at this
  exact this)
 simp only at y0 y1 y2 y3 y4 y5 HEQ HPA
 by_cases k1 : kd = 1
 ·subst k1
  have HRR : Hid (hv0 = true) := zz (by rw [HEQ.o]; simp [leafH]); go_wp2; go_ret; exact ⟨ret_bool HRR.o.symm, HB2.o⟩
 have b1 : (kd == 1) = false := by simpa using k1
 by_cases k2 : kd = 2
 ·subst k2
  clear k1 b1
  by_cases hfd : atI A nm < A.length
  ·obtain ⟨q, hq⟩ : ∃ q, q = atI A nm := ⟨_, rfl⟩
   have HVA := zz (valAt_some hfd); have HKQ : Hid (kk = (q : Int)) := zz (by rw [HKK.o, hq]; unfold kI; rw [if_pos hfd]); have HQL : Hid (q < A.length) := zz (by rw [hq]; exact hfd); obtain ⟨tv, htv⟩ : ∃ tv, tv = (A[q]'HQL.o).vl := ⟨_, rfl⟩; have HVV : Hid (valAt A nm = some tv) := zz (by rw [HVA.o, htv]; subst hq; rfl); have HAT := zz (attr_at HU2.o HQL.o); rw [← htv] at HAT; have HTL : Hid (tv.length ≤ 1000000000000000000) := zz (by rw [htv]; exact HVL.o _ (List.getElem_mem _)); have hkq := HKQ.o; subst hkq; have kq0 : (0 : Int) ≤ (q : Int) := by omega
   have kq2 : decide ((q : Int) < 0) = false := by simp
   have kq1 : (q : Int) < (A.length : Int) := by have := HQL.o; omega
   clear hq htv HVA hfd HKQ HKK; obtain ⟨bu, ou, rfl, a0, a1⟩ := HAT.o; have HA1 := zz a1
   have pa1 : ∀ s : Past w2, s.val.cell? ⟨bu, ou + q * 2 + 1, none⟩ = some (.string (bs tv)) := fun s => cell_kept HA1.o s.h
   have p2 : ∀ s : Past w2, s.val.cell? ⟨Y, 2, none⟩ = some (.string (bs vl)) := Past.blk HY2.o (j := 2) rfl; have p3 : ∀ s : Past w2, s.val.cell? ⟨Y, 3, none⟩ = some (.int .i64 xx) := Past.blk HY2.o (j := 3) rfl; clear a0 a1 HAT; have hbq := bs_beq tv vl; obtain ⟨q2, hq2⟩ : ∃ q2, q2 = (tv == vl) := ⟨_, rfl⟩; rw [← hq2] at hbq; have HRR : Hid (hv0 = q2) := zz (by rw [HEQ.o, hq2]; simp [leafH, HVV.o]); clear hq2; cases q2
   all_goals
    go_upto_region 7 with fail; refine wp_region_past (by kernel_rfl) (by kernel_rfl) ?_
    repeat (go_big_quiet_step (fail))
    refine wpQuiet_nil ?_; intro _ hw'; obtain ⟨s9, hw''⟩ := hw'; subst hw''; go_wp2; go_ret; exact ⟨ret_bool HRR.o.symm, below_and HB2.o s9.h⟩
  ·have HVV : Hid (valAt A nm = none) := zz (valAt_none hfd)
   have HKQ : Hid (kk = -1) := zz (by rw [HKK.o]; unfold kI; rw [if_neg hfd]); have hkq := HKQ.o; subst hkq; clear HKQ HKK hfd; have HRR : Hid (hv0 = false) := zz (by rw [HEQ.o]; simp [leafH, HVV.o]); go_upto_region 7 with fail; refine wp_region_past (by kernel_rfl) (by kernel_rfl) ?_
   repeat (go_big_quiet_step (fail))
   refine wpQuiet_nil ?_; intro _ hw'; obtain ⟨s9, hw''⟩ := hw'; subst hw''; go_wp2; go_ret; exact ⟨ret_bool HRR.o.symm, below_and HB2.o s9.h⟩
 have b2 : (kd == 2) = false := by simpa using k2
 by_cases k3 : kd = 3
 ·subst k3
  clear k1 b1 k2 b2
  by_cases hfd : atI A nm < A.length
  ·obtain ⟨q, hq⟩ : ∃ q, q = atI A nm := ⟨_, rfl⟩
   have HVA := zz (valAt_some hfd); have HKQ : Hid (kk = (q : Int)) := zz (by rw [HKK.o, hq]; unfold kI; rw [if_pos hfd]); have HQL : Hid (q < A.length) := zz (by rw [hq]; exact hfd); obtain ⟨tv, htv⟩ : ∃ tv, tv = (A[q]'HQL.o).vl := ⟨_, rfl⟩; have HVV : Hid (valAt A nm = some tv) := zz (by rw [HVA.o, htv]; subst hq; rfl); have HAT := zz (attr_at HU2.o HQL.o); rw [← htv] at HAT; have HTL : Hid (tv.length ≤ 1000000000000000000) := zz (by rw [htv]; exact HVL.o _ (List.getElem_mem _)); have hkq := HKQ.o; subst hkq; have kq0 : (0 : Int) ≤ (q : Int) := by omega
   have kq2 : decide ((q : Int) < 0) = false := by simp
   have kq1 : (q : Int) < (A.length : Int) := by have := HQL.o; omega
   clear hq htv HVA hfd HKQ HKK; obtain ⟨bu, ou, rfl, a0, a1⟩ := HAT.o; have HA1 := zz a1
   have pa1 : ∀ s : Past w2, s.val.cell? ⟨bu, ou + q * 2 + 1, none⟩ = some (.string (bs tv)) := fun s => cell_kept HA1.o s.h
   have p2 : ∀ s : Past w2, s.val.cell? ⟨Y, 2, none⟩ = some (.string (bs vl)) := Past.blk HY2.o (j := 2) rfl; have p3 : ∀ s : Past w2, s.val.cell? ⟨Y, 3, none⟩ = some (.int .i64 xx) := Past.blk HY2.o (j := 3) rfl; clear a0 a1 HAT; have hbq := bs_beq tv vl; obtain ⟨q2, hq2⟩ : ∃ q2, q2 = (tv == vl) := ⟨_, rfl⟩; rw [← hq2] at hbq; have HRR : Hid (hv0 = (!q2)) := zz (by rw [HEQ.o, hq2]; simp [leafH, HVV.o]); clear hq2; cases q2
   all_goals
    go_upto_region 9 with fail; refine wp_region_past (by kernel_rfl) (by kernel_rfl) ?_
    repeat (go_big_quiet_step (fail))
    refine wpQuiet_nil ?_; intro _ hw'; obtain ⟨s9, hw''⟩ := hw'; subst hw''; go_wp2; go_ret; exact ⟨ret_bool HRR.o.symm, below_and HB2.o s9.h⟩
  ·have HVV : Hid (valAt A nm = none) := zz (valAt_none hfd)
   have HKQ : Hid (kk = -1) := zz (by rw [HKK.o]; unfold kI; rw [if_neg hfd]); have hkq := HKQ.o; subst hkq; clear HKQ HKK hfd; have HRR : Hid (hv0 = true) := zz (by rw [HEQ.o]; simp [leafH, HVV.o]); go_upto_region 9 with fail; refine wp_region_past (by kernel_rfl) (by kernel_rfl) ?_
   repeat (go_big_quiet_step (fail))
   refine wpQuiet_nil ?_; intro _ hw'; obtain ⟨s9, hw''⟩ := hw'; subst hw''; go_wp2; go_ret; exact ⟨ret_bool HRR.o.symm, below_and HB2.o s9.h⟩
 have b3 : (kd == 3) = false := by simpa using k3
 by_cases k4 : kd = 4
 ·subst k4
  clear k1 b1 k2 b2 k3 b3
  by_cases hfd : atI A nm < A.length
  ·obtain ⟨q, hq⟩ : ∃ q, q = atI A nm := ⟨_, rfl⟩
   have HVA := zz (valAt_some hfd); have HKQ : Hid (kk = (q : Int)) := zz (by rw [HKK.o, hq]; unfold kI; rw [if_pos hfd]); have HQL : Hid (q < A.length) := zz (by rw [hq]; exact hfd); obtain ⟨tv, htv⟩ : ∃ tv, tv = (A[q]'HQL.o).vl := ⟨_, rfl⟩; have HVV : Hid (valAt A nm = some tv) := zz (by rw [HVA.o, htv]; subst hq; rfl); have HAT := zz (attr_at HU2.o HQL.o); rw [← htv] at HAT; have HTL : Hid (tv.length ≤ 1000000000000000000) := zz (by rw [htv]; exact HVL.o _ (List.getElem_mem _)); have hkq := HKQ.o; subst hkq; have kq0 : (0 : Int) ≤ (q : Int) := by omega
   have kq2 : decide ((q : Int) < 0) = false := by simp
   have kq1 : (q : Int) < (A.length : Int) := by have := HQL.o; omega
   clear hq htv HVA hfd HKQ HKK; obtain ⟨bu, ou, rfl, a0, a1⟩ := HAT.o; have HA1 := zz a1
   have pa1 : ∀ s : Past w2, s.val.cell? ⟨bu, ou + q * 2 + 1, none⟩ = some (.string (bs tv)) := fun s => cell_kept HA1.o s.h
   have p2 : ∀ s : Past w2, s.val.cell? ⟨Y, 2, none⟩ = some (.string (bs vl)) := Past.blk HY2.o (j := 2) rfl; have p3 : ∀ s : Past w2, s.val.cell? ⟨Y, 3, none⟩ = some (.int .i64 xx) := Past.blk HY2.o (j := 3) rfl; clear a0 a1 HAT; have HDG : Hid (∀ s : Past w2, Calls Tryz.prog 99 #[.string (bs tv)] s.val fun r w' => r = .returned (.bool (allB 12 dgt tv)) ∧ Below s.val.heap.size s.val w') := zz (fun s => by have := isDigits_any (bs tv) s.val; rw [show (bs tv).data.toList = tv from by simp [bs]] at this; exact this)
   cases hdg : allB 12 dgt tv with
   | false =>
    rw [hdg] at HDG; have HRR : Hid (hv0 = false) := zz (by rw [HEQ.o]; simp [leafH, HVV.o, hdg]); clear hdg; go_upto_region 11 with fail; refine wp_region_past (by kernel_rfl) (by kernel_rfl) ?_
    repeat (go_big_quiet_step ((go_at_call 99; exact past_call (HDG.o _))))
    refine wpQuiet_nil ?_; intro _ hw'; obtain ⟨s9, hw''⟩ := hw'; subst hw''; go_wp2; go_ret; exact ⟨ret_bool HRR.o.symm, below_and HB2.o s9.h⟩
   | true =>
    rw [hdg] at HDG
    have hd2 : tv ≠ [] ∧ tv.length ≤ 12 ∧ ∀ c ∈ tv, dgt c = true := by
     unfold allB at hdg
     simp only [Bool.and_eq_true, decide_eq_true_eq, List.all_eq_true] at hdg; exact ⟨by intro e; rw [e] at hdg; simp at hdg, hdg.1.2, hdg.2⟩
    have HNU : Hid (∀ s : Past w2, Calls Tryz.prog 100 #[.string (bs tv)] s.val fun r w' => r = .returned (.int .i64 (digV tv)) ∧ Below s.val.heap.size s.val w') := zz (fun s => by have := number_any tv s.val hd2.2.2 hd2.2.1 (hT _ (hW _ _ HW2.o s.h)); rw [if_neg hd2.1] at this; exact this); obtain ⟨dv, hdv⟩ : ∃ dv, dv = digV tv := ⟨_, rfl⟩; rw [← hdv] at HNU
    by_cases hle : (xx ≤ dv)
    ·have HRR : Hid (hv0 = true) := zz (by rw [HEQ.o]; simp [leafH, HVV.o, hdg, ← hdv, hle])
     have t1 : decide (xx ≤ dv) = true := decide_eq_true hle; clear hdg hd2 hdv hle; go_upto_region 11 with fail; refine wp_region_past (by kernel_rfl) (by kernel_rfl) ?_
     repeat (go_big_quiet_step ((first | (go_at_call 99; exact past_call (HDG.o _)) | (go_at_call 100; exact past_call (HNU.o _)))))
     refine wpQuiet_nil ?_; intro _ hw'; obtain ⟨s9, hw''⟩ := hw'; subst hw''; go_wp2; go_ret; exact ⟨ret_bool HRR.o.symm, below_and HB2.o s9.h⟩
    ·have HRR : Hid (hv0 = false) := zz (by rw [HEQ.o]; simp [leafH, HVV.o, hdg, ← hdv]; omega)
     have t1 : decide (xx ≤ dv) = false := decide_eq_false hle; clear hdg hd2 hdv hle; go_upto_region 11 with fail; refine wp_region_past (by kernel_rfl) (by kernel_rfl) ?_
     repeat (go_big_quiet_step ((first | (go_at_call 99; exact past_call (HDG.o _)) | (go_at_call 100; exact past_call (HNU.o _)))))
     refine wpQuiet_nil ?_; intro _ hw'; obtain ⟨s9, hw''⟩ := hw'; subst hw''; go_wp2; go_ret; exact ⟨ret_bool HRR.o.symm, below_and HB2.o s9.h⟩
  ·have HVV : Hid (valAt A nm = none) := zz (valAt_none hfd)
   have HKQ : Hid (kk = -1) := zz (by rw [HKK.o]; unfold kI; rw [if_neg hfd]); have hkq := HKQ.o; subst hkq; clear HKQ HKK hfd; have HRR : Hid (hv0 = false) := zz (by rw [HEQ.o]; simp [leafH, HVV.o]); go_upto_region 11 with fail; refine wp_region_past (by kernel_rfl) (by kernel_rfl) ?_
   repeat (go_big_quiet_step (fail))
   refine wpQuiet_nil ?_; intro _ hw'; obtain ⟨s9, hw''⟩ := hw'; subst hw''; go_wp2; go_ret; exact ⟨ret_bool HRR.o.symm, below_and HB2.o s9.h⟩
 have b4 : (kd == 4) = false := by simpa using k4
 by_cases k5 : kd = 5
 ·subst k5
  clear k1 b1 k2 b2 k3 b3 k4 b4
  by_cases hfd : atI A nm < A.length
  ·obtain ⟨q, hq⟩ : ∃ q, q = atI A nm := ⟨_, rfl⟩
   have HVA := zz (valAt_some hfd); have HKQ : Hid (kk = (q : Int)) := zz (by rw [HKK.o, hq]; unfold kI; rw [if_pos hfd]); have HQL : Hid (q < A.length) := zz (by rw [hq]; exact hfd); obtain ⟨tv, htv⟩ : ∃ tv, tv = (A[q]'HQL.o).vl := ⟨_, rfl⟩; have HVV : Hid (valAt A nm = some tv) := zz (by rw [HVA.o, htv]; subst hq; rfl); have HAT := zz (attr_at HU2.o HQL.o); rw [← htv] at HAT; have HTL : Hid (tv.length ≤ 1000000000000000000) := zz (by rw [htv]; exact HVL.o _ (List.getElem_mem _)); have hkq := HKQ.o; subst hkq; have kq0 : (0 : Int) ≤ (q : Int) := by omega
   have kq2 : decide ((q : Int) < 0) = false := by simp
   have kq1 : (q : Int) < (A.length : Int) := by have := HQL.o; omega
   clear hq htv HVA hfd HKQ HKK; obtain ⟨bu, ou, rfl, a0, a1⟩ := HAT.o; have HA1 := zz a1
   have pa1 : ∀ s : Past w2, s.val.cell? ⟨bu, ou + q * 2 + 1, none⟩ = some (.string (bs tv)) := fun s => cell_kept HA1.o s.h
   have p2 : ∀ s : Past w2, s.val.cell? ⟨Y, 2, none⟩ = some (.string (bs vl)) := Past.blk HY2.o (j := 2) rfl; have p3 : ∀ s : Past w2, s.val.cell? ⟨Y, 3, none⟩ = some (.int .i64 xx) := Past.blk HY2.o (j := 3) rfl; clear a0 a1 HAT; have HDG : Hid (∀ s : Past w2, Calls Tryz.prog 99 #[.string (bs tv)] s.val fun r w' => r = .returned (.bool (allB 12 dgt tv)) ∧ Below s.val.heap.size s.val w') := zz (fun s => by have := isDigits_any (bs tv) s.val; rw [show (bs tv).data.toList = tv from by simp [bs]] at this; exact this)
   cases hdg : allB 12 dgt tv with
   | false =>
    rw [hdg] at HDG; have HRR : Hid (hv0 = false) := zz (by rw [HEQ.o]; simp [leafH, HVV.o, hdg]); clear hdg; go_upto_region 13 with fail; refine wp_region_past (by kernel_rfl) (by kernel_rfl) ?_
    repeat (go_big_quiet_step ((go_at_call 99; exact past_call (HDG.o _))))
    refine wpQuiet_nil ?_; intro _ hw'; obtain ⟨s9, hw''⟩ := hw'; subst hw''; go_wp2; go_ret; exact ⟨ret_bool HRR.o.symm, below_and HB2.o s9.h⟩
   | true =>
    rw [hdg] at HDG
    have hd2 : tv ≠ [] ∧ tv.length ≤ 12 ∧ ∀ c ∈ tv, dgt c = true := by
     unfold allB at hdg
     simp only [Bool.and_eq_true, decide_eq_true_eq, List.all_eq_true] at hdg; exact ⟨by intro e; rw [e] at hdg; simp at hdg, hdg.1.2, hdg.2⟩
    have HNU : Hid (∀ s : Past w2, Calls Tryz.prog 100 #[.string (bs tv)] s.val fun r w' => r = .returned (.int .i64 (digV tv)) ∧ Below s.val.heap.size s.val w') := zz (fun s => by have := number_any tv s.val hd2.2.2 hd2.2.1 (hT _ (hW _ _ HW2.o s.h)); rw [if_neg hd2.1] at this; exact this); obtain ⟨dv, hdv⟩ : ∃ dv, dv = digV tv := ⟨_, rfl⟩; rw [← hdv] at HNU
    by_cases hle : (dv ≤ xx)
    ·have HRR : Hid (hv0 = true) := zz (by rw [HEQ.o]; simp [leafH, HVV.o, hdg, ← hdv, hle])
     have t1 : decide (dv ≤ xx) = true := decide_eq_true hle; clear hdg hd2 hdv hle; go_upto_region 13 with fail; refine wp_region_past (by kernel_rfl) (by kernel_rfl) ?_
     repeat (go_big_quiet_step ((first | (go_at_call 99; exact past_call (HDG.o _)) | (go_at_call 100; exact past_call (HNU.o _)))))
     refine wpQuiet_nil ?_; intro _ hw'; obtain ⟨s9, hw''⟩ := hw'; subst hw''; go_wp2; go_ret; exact ⟨ret_bool HRR.o.symm, below_and HB2.o s9.h⟩
    ·have HRR : Hid (hv0 = false) := zz (by rw [HEQ.o]; simp [leafH, HVV.o, hdg, ← hdv]; omega)
     have t1 : decide (dv ≤ xx) = false := decide_eq_false hle; clear hdg hd2 hdv hle; go_upto_region 13 with fail; refine wp_region_past (by kernel_rfl) (by kernel_rfl) ?_
     repeat (go_big_quiet_step ((first | (go_at_call 99; exact past_call (HDG.o _)) | (go_at_call 100; exact past_call (HNU.o _)))))
     refine wpQuiet_nil ?_; intro _ hw'; obtain ⟨s9, hw''⟩ := hw'; subst hw''; go_wp2; go_ret; exact ⟨ret_bool HRR.o.symm, below_and HB2.o s9.h⟩
  ·have HVV : Hid (valAt A nm = none) := zz (valAt_none hfd)
   have HKQ : Hid (kk = -1) := zz (by rw [HKK.o]; unfold kI; rw [if_neg hfd]); have hkq := HKQ.o; subst hkq; clear HKQ HKK hfd; have HRR : Hid (hv0 = false) := zz (by rw [HEQ.o]; simp [leafH, HVV.o]); go_upto_region 13 with fail; refine wp_region_past (by kernel_rfl) (by kernel_rfl) ?_
   repeat (go_big_quiet_step (fail))
   refine wpQuiet_nil ?_; intro _ hw'; obtain ⟨s9, hw''⟩ := hw'; subst hw''; go_wp2; go_ret; exact ⟨ret_bool HRR.o.symm, below_and HB2.o s9.h⟩
 have b5 : (kd == 5) = false := by simpa using k5
 by_cases k7 : kd = 7
 ·subst k7
  clear k1 b1 k2 b2 k3 b3 k4 b4 k5 b5; have hpa := HPA.o na (by simp [parts]); obtain ⟨ja, hja⟩ : ∃ ja : Nat, na = (ja : Int) := ⟨na.toNat, by omega⟩; subst hja; have HJA : Hid (ja < i) := zz (by omega); have HJB : Hid (ja < i) := HJA; have HRR : Hid (hv0 = !(hol L A ja)) := zz (by rw [HEQ.o]; simp); have HBX := zz (Below.refl w2.heap.size w2); clear hpa HPA; go_wp2_with (go_at_call 74; refine (HAB.o _ _ (by omega) (by have := HJA.o; have := HJB.o; omega) HBX.o).mono ?_; rintro r w3 ⟨rfl, hb⟩; have HB3 := zz (below_and HBX.o hb); clear hb); go_ret; exact ⟨ret_bool (by first | (rw [HRR.o]; done) | (rw [HRR.o]; rfl)), below_and HB2.o HB3.o⟩
 have b7 : (kd == 7) = false := by simpa using k7
 by_cases k8 : kd = 8
 ·subst k8
  clear k1 b1 k2 b2 k3 b3 k4 b4 k5 b5 k7 b7; have hpa := HPA.o na (by simp [parts]); have hpb := HPA.o nb (by simp [parts]); obtain ⟨ja, hja⟩ : ∃ ja : Nat, na = (ja : Int) := ⟨na.toNat, by omega⟩; obtain ⟨jb, hjb⟩ : ∃ jb : Nat, nb = (jb : Int) := ⟨nb.toNat, by omega⟩; subst hja; subst hjb; have HJA : Hid (ja < i) := zz (by omega); have HJB : Hid (jb < i) := zz (by omega); have HRR : Hid (hv0 = (hol L A ja && hol L A jb)) := zz (by rw [HEQ.o]; simp); have HBX := zz (Below.refl w2.heap.size w2); obtain ⟨HL, hHL⟩ : ∃ HL : Int → Bool, ∀ j : Nat, HL (j : Int) = hol L A j := ⟨fun x => hol L A x.toNat, fun j => by simp⟩
  have HAC : Hid (∀ (x : Int) (w' : World), 0 ≤ x → x < (i : Int) → Below w2.heap.size w2 w' → Calls Tryz.prog 74 #[.slice (some ⟨b, o, none⟩) L.length c, .int .i64 x, .slice pu A.length cu] w' fun r w3 => r = .returned (.bool (HL x)) ∧ Below w'.heap.size w' w3) := zz (fun x w' h0 h1 hb => by
   have := HAB.o x w' h0 h1 hb; rw [← hHL, Int.toNat_of_nonneg h0] at this
   exact this)
  rw [← hHL, ← hHL] at HRR; clear hpa hpb HPA hHL HAB; have HY3K : Hid (∀ w3, Below w2.heap.size w2 w3 → w3.cell? ⟨Y, 5, none⟩ = some (.int .i64 (jb : Int))) := zz (fun w3 hb => (HY2.o.kept hb).cell (j := 5) rfl)
  cases hla : HL (ja : Int) with
  | true =>
   have HLA := zz hla; have hla1 := HLA.o; clear hla
   go_wp2_with (first
    | (go_at_call 74; refine (HAC.o _ _ (by omega) (by have := HJA.o; have := HJB.o; omega) HBX.o).mono ?_; rintro r w3 ⟨rfl, hb⟩; have HB3 := zz (below_and HBX.o hb); have y9 := HY3K.o _ (below_and HBX.o hb); clear hb HBX y5)
    | (go_at_call 74; refine (HAC.o _ _ (by omega) (by have := HJA.o; have := HJB.o; omega) HB3.o).mono ?_; rintro r w4 ⟨rfl, hb⟩; have HB4 := zz (below_and HB3.o hb); clear hb))
   go_ret; exact ⟨ret_bool (by first | (rw [HRR.o, HLA.o]; done) | (rw [HRR.o, HLA.o]; rfl)), below_and HB2.o HB4.o⟩
  | false =>
   have HLA := zz hla; have hla1 := HLA.o; clear hla; go_wp2_with (go_at_call 74; refine (HAC.o _ _ (by omega) (by have := HJA.o; have := HJB.o; omega) HBX.o).mono ?_; rintro r w3 ⟨rfl, hb⟩; have HB3 := zz (below_and HBX.o hb); clear hb); go_ret; exact ⟨ret_bool (by first | (rw [HRR.o, HLA.o]; done) | (rw [HRR.o, HLA.o]; rfl)), below_and HB2.o HB3.o⟩
 have b8 : (kd == 8) = false := by simpa using k8
 by_cases k9 : kd = 9
 ·subst k9
  clear k1 b1 k2 b2 k3 b3 k4 b4 k5 b5 k7 b7 k8 b8; have hpa := HPA.o na (by simp [parts]); have hpb := HPA.o nb (by simp [parts]); obtain ⟨ja, hja⟩ : ∃ ja : Nat, na = (ja : Int) := ⟨na.toNat, by omega⟩; obtain ⟨jb, hjb⟩ : ∃ jb : Nat, nb = (jb : Int) := ⟨nb.toNat, by omega⟩; subst hja; subst hjb; have HJA : Hid (ja < i) := zz (by omega); have HJB : Hid (jb < i) := zz (by omega); have HRR : Hid (hv0 = (hol L A ja || hol L A jb)) := zz (by rw [HEQ.o]; simp); have HBX := zz (Below.refl w2.heap.size w2); obtain ⟨HL, hHL⟩ : ∃ HL : Int → Bool, ∀ j : Nat, HL (j : Int) = hol L A j := ⟨fun x => hol L A x.toNat, fun j => by simp⟩
  have HAC : Hid (∀ (x : Int) (w' : World), 0 ≤ x → x < (i : Int) → Below w2.heap.size w2 w' → Calls Tryz.prog 74 #[.slice (some ⟨b, o, none⟩) L.length c, .int .i64 x, .slice pu A.length cu] w' fun r w3 => r = .returned (.bool (HL x)) ∧ Below w'.heap.size w' w3) := zz (fun x w' h0 h1 hb => by
   have := HAB.o x w' h0 h1 hb; rw [← hHL, Int.toNat_of_nonneg h0] at this
   exact this)
  rw [← hHL, ← hHL] at HRR; clear hpa hpb HPA hHL HAB; have HY3K : Hid (∀ w3, Below w2.heap.size w2 w3 → w3.cell? ⟨Y, 5, none⟩ = some (.int .i64 (jb : Int))) := zz (fun w3 hb => (HY2.o.kept hb).cell (j := 5) rfl)
  cases hla : HL (ja : Int) with
  | false =>
   have HLA := zz hla; have hla1 := HLA.o; clear hla
   go_wp2_with (first
    | (go_at_call 74; refine (HAC.o _ _ (by omega) (by have := HJA.o; have := HJB.o; omega) HBX.o).mono ?_; rintro r w3 ⟨rfl, hb⟩; have HB3 := zz (below_and HBX.o hb); have y9 := HY3K.o _ (below_and HBX.o hb); clear hb HBX y5)
    | (go_at_call 74; refine (HAC.o _ _ (by omega) (by have := HJA.o; have := HJB.o; omega) HB3.o).mono ?_; rintro r w4 ⟨rfl, hb⟩; have HB4 := zz (below_and HB3.o hb); clear hb))
   go_ret; exact ⟨ret_bool (by first | (rw [HRR.o, HLA.o]; done) | (rw [HRR.o, HLA.o]; rfl)), below_and HB2.o HB4.o⟩
  | true =>
   have HLA := zz hla; have hla1 := HLA.o; clear hla; go_wp2_with (go_at_call 74; refine (HAC.o _ _ (by omega) (by have := HJA.o; have := HJB.o; omega) HBX.o).mono ?_; rintro r w3 ⟨rfl, hb⟩; have HB3 := zz (below_and HBX.o hb); clear hb); go_ret; exact ⟨ret_bool (by first | (rw [HRR.o, HLA.o]; done) | (rw [HRR.o, HLA.o]; rfl)), below_and HB2.o HB3.o⟩
 have b9 : (kd == 9) = false := by simpa using k9
 have HRR : Hid (hv0 = (valAt A nm).isSome) := zz (by rw [HEQ.o, if_neg k7, if_neg k8, if_neg k9]; unfold leafH; rw [if_neg k1, if_neg k2, if_neg k3, if_neg k4, if_neg k5]); clear k1 k2 k3 k4 k5 k7 k8 k9
 by_cases hfd : atI A nm < A.length
 ·have HKQ : Hid (0 ≤ kk) := zz (by rw [HKK.o]; unfold kI; rw [if_pos hfd]; omega)
  have HV2 : Hid (hv0 = true) := zz (by rw [HRR.o, valAt_some hfd]; rfl); have t1 : decide (0 ≤ kk) = true := decide_eq_true HKQ.o; clear hfd; go_wp2; go_ret; exact ⟨ret_bool (by first | (rw [HV2.o]; done) | (rw [HV2.o]; rfl)), HB2.o⟩
 ·have HKQ : Hid (¬ 0 ≤ kk) := zz (by rw [HKK.o]; unfold kI; rw [if_neg hfd]; omega)
  have HV2 : Hid (hv0 = false) := zz (by rw [HRR.o, valAt_none hfd]; rfl); have t1 : decide (0 ≤ kk) = false := decide_eq_false HKQ.o; clear hfd; go_wp2; go_ret; exact ⟨ret_bool (by first | (rw [HV2.o]; done) | (rw [HV2.o]; rfl)), HB2.o⟩
theorem hold_any {L : List Nd} {A : List At} (hf : Fine L) (hvl : ∀ a ∈ A, a.vl.length ≤ 1000000000000000000) : ∀ (m i : Nat), i < m → i < L.length → HoldC L A i ErrV
 | 0, _, h, _ => absurd h (by omega)
 | m + 1, i, h, hi => hold_step L A hf i hi ErrV (fun _ _ h hb => h.below hb) (fun _ h => h) (fun j hj => hold_any hf hvl m j (by omega) (by omega)) hvl
