/- RuShap. -/
import Derived.Test.YtdnoceancoclmaaGreatDoorM29
import Derived.Test.YtdnoceancoclmaaGreatDoorRuLeafP
import Derived.Laws.CopyOwn
namespace Go.Proofs.YtdnoceancoclmaaGreatDoor.Ru
open Go.RowKit Go.Proofs.YtdnoceancoclmaaGreatDoor

theorem info_i64 : (Tryz.prog.info? 3).map (fun i => (i.zero, i.size, i.bytes)) = some (some (.int .i64 0), 1, 8) := by kernel_rfl
theorem owns_blk {w : World} {base g n : Nat} {xs : List Value} {e : TypeId} (h : w.ownsRow base e 1 (.slice (some ⟨g, 0, none⟩) n n) n xs) : Blk w g xs e := by
  obtain ⟨h1, h2⟩ := h
  rcases h2 with ⟨h2, _⟩ | ⟨g', cap, cur, hv, _, hh, _, _, hs, ht⟩
  · simp at h2
  · simp only [Value.slice.injEq, Option.some.injEq, Addr.mk.injEq, and_true, true_and] at hv
    obtain ⟨rfl, rfl⟩ := hv
    unfold Blk
    rw [hh, ← ht]
    congr 2
    rw [List.take_of_length_le (by simp [hs])]
/-- the counts lie in block G -/
def Used (w : World) (G n : Nat) (Q : List Int) : Prop := Blk w G ((cntL n Q).map (Value.int .i64)) 3
theorem Used.cell {w : World} {G n : Nat} {Q : List Int} (h : Used w G n Q) {j : Nat} (hj : j < n) : w.cell? ⟨G, j, none⟩ = some (.int .i64 (Q.count (j : Int) : Int)) :=
  Blk.cell h (by rw [List.getElem?_map, cntL_at hj]; rfl)
theorem Used.put {w : World} {G n : Nat} {Q : List Int} (h : Used w G n Q) {j : Nat} (hj : j < n) : Used (w.setCell ⟨G, j, none⟩ (.int .i64 ((Q.count (j : Int) : Int) + 1))) G n (Q ++ [(j : Int)]) := by
  unfold Used
  rw [cntL_snoc hj, List.map_set]
  exact Blk.set h j _
/-- one node of the list, in a row -/
theorem node_at {w : World} {p : Option Addr} {c : Nat} {L : List Nd} (h : Row w (.slice p L.length c) 6 L.length (rwC ndC L)) {i : Nat} (hi : i < L.length) :
    ∃ b o, p = some ⟨b, o, none⟩ ∧ ∀ j u, (ndC L[i])[j]? = some u → w.cell? ⟨b, o + i * 6 + j, none⟩ = some u := by
  obtain ⟨p1, c1, hv, h1, h2, h3, h4, h5, h6⟩ := h
  simp only [Value.slice.injEq] at hv
  obtain ⟨rfl, -, rfl⟩ := hv
  rcases h6 with h6 | ⟨b, o, hp, ha⟩
  · rw [h6] at h3; simp at h3; omega
  · refine ⟨b, o, hp, fun j u hj => ?_⟩
    rw [Nat.add_assoc]
    refine ha (i * 6 + j) u ?_
    have hj6 : j < 6 := by
      have := (List.getElem?_eq_some_iff.1 hj).1
      rwa [ndC_len] at this
    rw [rwC_at (c := ndC) (k := 6) (fun _ => rfl) hi hj6]
    exact hj
theorem shaped_part {L : List Nd} {i : Nat} (hi : i < L.length) {x : Int} (hx : x ∈ parts L[i]) (h : ¬ (0 ≤ x ∧ x < (i : Int))) : shapedB L = false := by
  refine shaped_node hi ?_
  unfold fineB
  rw [Bool.and_eq_false_iff]
  right
  rw [List.all_eq_false]
  exact ⟨x, hx, by simpa using h⟩
theorem made_int (n : Nat) : (madeCells (Value.cells (.int .i64 0)) (n * 1)).toList = (cntL n []).map (Value.int .i64) := by
  rw [Nat.mul_one, cntL_nil, List.map_replicate]
  exact toList_madeCells_one _ _

set_option maxRecDepth 100000 in
set_option maxHeartbeats 2000000 in
theorem shaped_any (v : Value) (L : List Nd) (w : World) (h : Row w v 6 L.length (rwC ndC L)) :
    Calls Tryz.prog 20 #[v] w fun r w' => r = .returned (.bool (shapedB L)) ∧ Below w.heap.size w w' := by
  have HR := Lib.hid h
  obtain ⟨p, c, rfl, hc, hm, -⟩ := h
  obtain ⟨n, hn⟩ : ∃ n, n = L.length := ⟨_, rfl⟩
  have HLN := Lib.hid hn
  rw [← hn] at hc ⊢
  clear hn
  have hml : maxLen ≤ 9223372036854775807 := by decide
  have hn63 : (n : Int) ≤ 9223372036854775807 := by omega
  clear hm hc hml
  by_cases hlo : n < 1
  · have HN : Hid (shapedB L = false) := Lib.hid (shaped_len (by have := HLN.out; omega))
    obtain rfl : n = 0 := by omega
    go_enter Tryz.func20, Tryz.ntmps20
    go_wp2
    go_ret
    exact ⟨ret_bool HN.out.symm, Below.refl _ _⟩
  by_cases hhi : 64 < n
  · have HN : Hid (shapedB L = false) := Lib.hid (shaped_len (by have := HLN.out; omega))
    go_enter Tryz.func20, Tryz.ntmps20
    go_wp2
    go_ret
    exact ⟨ret_bool HN.out.symm, Below.refl _ _⟩
  have HL : Hid (1 ≤ n ∧ n ≤ 64) := Lib.hid (by omega)
  obtain ⟨i0, hi, hz0, hz1, hz2⟩ := info_parts info_i64
  have hn1 : 1 ≤ n := by omega
  have hn64 : n ≤ 64 := by omega
  clear hlo hhi
  go_enter Tryz.func20, Tryz.ntmps20
  go_wp2_with (at_make; go_loud (refine wpList_make_full _ rfl _ _ 66 rfl w.heap.size 3 i0 (.int .i64 0) 1 Tryz.underlying66 hi hz0 hz1 _ _ _ _ n rfl rfl (by simp) (by simp) (by rw [hz2]; have := HL.out; omega) (by have := HL.out; unfold maxLen; omega) (Nat.le_refl _) ?_; intro w1 hown1 hgrow1; rw [made_int] at hown1; have HU1 : Hid (Used w1 w.heap.size n []) := Lib.hid (owns_blk hown1); have HB1 := Lib.hid (Below.grown (Below.refl w.heap.size w) hgrow1 (Nat.le_refl _) (by simp)); clear hown1 hgrow1))
  obtain ⟨G, hG⟩ : ∃ G, G = w.heap.size := ⟨_, rfl⟩
  rw [← hG] at HU1 ⊢
  have HGW : Hid (w.heap.size ≤ G) := Lib.hid (by omega)
  clear hG hn1 hn64
  go_loopw [24] (fun i wr => ∃ k : Nat, k ≤ n ∧ i = .int .i64 (k : Int) ∧ Hid (Used wr G n (qs L k)) ∧ Hid (Below w.heap.size w wr) ∧ Hid (∀ j (h : j < L.length), j < k → fineB j L[j] = true)) (fun i _ => n - (intOf i).toNat)
  case atStart => exact ⟨0, Nat.zero_le _, rfl, HU1, HB1, Lib.hid (fun j _ h => by omega)⟩
  case round =>
    obtain ⟨k, hk, rfl, HU, HB, HF⟩ := hrel
    by_cases hlt : k < n
    · have HKN : Hid (k < L.length) := Lib.hid (by have := HLN.out; omega)
      obtain ⟨nd, hnd⟩ : ∃ nd, nd = L[k]'HKN.out := ⟨_, rfl⟩
      have HLC : Hid (∃ b o, p = some ⟨b, o, none⟩ ∧ ∀ j u, (ndC nd)[j]? = some u → wr.cell? ⟨b, o + k * 6 + j, none⟩ = some u) := Lib.hid (by
        rw [hnd]
        have hr := HR.out.below HB.out
        exact node_at hr HKN.out)
      have HND := Lib.hid hnd
      clear hnd
      obtain ⟨b, o, rfl, hcell⟩ := HLC.out
      have q0 := hcell 0 _ rfl
      rw [Nat.add_zero] at q0
      have q1 := hcell 1 _ rfl
      have q2 := hcell 2 _ rfl
      have q3 := hcell 3 _ rfl
      have q4 := hcell 4 _ rfl
      have q5 := hcell 5 _ rfl
      clear hcell HLC
      go_upto_region 8 with fail
      obtain ⟨Y, hY⟩ : ∃ Y, Y = wr.heap.size := ⟨_, rfl⟩
      refine at_hide (F := fun w' => Blk w' Y (ndC nd) 52 ∧ Blk w' (Y + 1) [] 3 ∧ Used w' G n (qs L k) ∧ Below w.heap.size w w' ∧ w'.heap.size = Y + 2) ⟨by
        rw [hY]; exact Blk.alloc (Blk.made wr (ndC nd) _) _, by rw [hY]; have := Blk.made (wr.alloc (.cells (ndC nd).toArray 52)) [] 3; simpa using this, Blk.alloc (Blk.alloc HU.out _) _, below_and (below_and HB.out (below_alloc _ _)) (below_alloc _ _), by rw [hY]; simp⟩ ?_
      intro wz hFz
      rw [← hY]
      have HGY : Hid (G < Y) := Lib.hid (by have := Blk.lt HU.out; omega)
      have HY3 := Lib.hid hFz.1
      have hZ0 := hFz.2.1
      have HU2 := Lib.hid hFz.2.2.1
      have HB2 := Lib.hid hFz.2.2.2.1
      have HZ2 := Lib.hid hFz.2.2.2.2
      clear hFz hY q0 q1 q2 q3 q4 q5
      have y0 := HY3.out.cell (j := 0) rfl
      have y4 := HY3.out.cell (j := 4) rfl
      have y5 := HY3.out.cell (j := 5) rfl
      obtain ⟨kd, nm, vl, xx, na, nb⟩ := nd
      simp only at y0 y4 y5
      have HKD : Hid (L[k]'HKN.out = ⟨kd, nm, vl, xx, na, nb⟩) := Lib.hid HND.out.symm
      obtain ⟨PS, hPS⟩ : ∃ PS, PS = parts (L[k]'HKN.out) := ⟨_, rfl⟩
      have HPS := Lib.hid hPS
      clear HND hPS
      by_cases k7 : kd = 7
      · subst k7
        have HPQ : Hid (PS = [na]) := Lib.hid (by rw [HPS.out, HKD.out]; exact parts7 rfl)
        go_upto_region 13 with fail
        refine at_hide (F := fun w' => Blk w' (Y + 2) [.int .i64 na] 3 ∧ Used w' G n (qs L k) ∧ Below w.heap.size w w' ∧ Blk w' Y (ndC ⟨7, nm, vl, xx, na, nb⟩) 52) ⟨by
          have := Blk.made wz [.int .i64 na] 3; rw [HZ2.out] at this; exact this, Blk.alloc HU2.out _, below_and HB2.out (below_alloc _ _), Blk.alloc HY3.out _⟩ ?_
        intro w3 hF3
        obtain ⟨Z, hZe⟩ : ∃ Z, Z = Y + 2 := ⟨_, rfl⟩
        (try rw [HZ2.out])
        rw [← hZe] at hF3 ⊢
        have HZG : Hid (Z ≠ G) := Lib.hid (by have := HGY.out; omega)
        have hZ : Blk w3 Z ([na].map (Value.int .i64)) 3 := hF3.1
        have HU3 := Lib.hid hF3.2.1
        have HB3 := Lib.hid hF3.2.2.1
        have hy3 := hF3.2.2.2
        clear hF3 hZe hZ0 HU2 HB2 y0 y4 y5 HY3
        have y5 := hy3.cell (j := 5) rfl
        clear hy3
        by_cases hnb : nb = -1
        · subst hnb
          go_upto_region 18 with fail
          clear y5

          have HZ := Lib.hid hZ
          clear hZ
          go_wp2
          go_loopw [58] (fun i2 w2 => ∃ m : Nat, m ≤ 1 ∧ i2 = .int .i64 (m : Int) ∧ Hid (Used w2 G n (qs L k ++ [na].take m)) ∧ Hid (Blk w2 Z ([na].map (Value.int .i64)) 3) ∧ Hid (Below w.heap.size w w2) ∧ Hid (∀ j (h : j < m) x, [na][j]? = some x → 0 ≤ x ∧ x < (k : Int))) (fun i2 _ => 1 - (intOf i2).toNat)
          case atStart => exact ⟨0, by omega, rfl, Lib.hid (by simpa using HU3.out), HZ, HB3, Lib.hid (fun j h => by omega)⟩
          case round =>
            obtain ⟨m, hm, rfl, HU4, HZ4, HB4, HA4⟩ := hrel
            by_cases hlt2 : m < 1
            · obtain ⟨x, hx⟩ : ∃ x, [na][m]? = some x := ⟨_, List.getElem?_eq_getElem (by simpa using hlt2)⟩
              have z1 := HZ4.out.cell (j := m) (u := .int .i64 x) (by rw [List.getElem?_map, hx]; rfl)
              have HX := Lib.hid hx
              have HXM : Hid (x ∈ PS) := Lib.hid (by rw [HPQ.out]; exact List.mem_of_getElem? hx)
              clear hx
              by_cases hx0 : x < 0
              · have HN : Hid (shapedB L = false) := Lib.hid (shaped_part HKN.out (by rw [← HPS.out]; exact HXM.out) (fun h => by omega))
                have t1 : decide (x < 0) = true := by simpa using hx0
                go_wp2
                go_ret
                exact ⟨ret_bool HN.out.symm, HB4.out⟩
              by_cases hxk : (k : Int) ≤ x
              · have HN : Hid (shapedB L = false) := Lib.hid (shaped_part HKN.out (by rw [← HPS.out]; exact HXM.out) (fun h => by omega))
                have t1 : decide (x < 0) = false := by simpa using hx0
                have t2 : decide ((k : Int) ≤ x) = true := by simpa using hxk
                go_wp2
                go_ret
                exact ⟨ret_bool HN.out.symm, HB4.out⟩
              have t1 : decide (x < 0) = false := by simpa using hx0
              have t2 : decide ((k : Int) ≤ x) = false := by simpa using hxk
              obtain ⟨xj, hxj⟩ : ∃ xj : Nat, x = (xj : Int) := ⟨x.toNat, by omega⟩
              have HJK : Hid (xj < k) := Lib.hid (by omega)
              subst hxj
              have t3 : decide (k ≤ xj) = false := by have := HJK.out; simp; omega
              have hxn : xj < n := by have := HKN.out; have := HJK.out; have := HLN.out; omega
              have u1 := HU4.out.cell hxn
              have u2 := Blk.free HU4.out xj
              obtain ⟨cq, hcq⟩ : ∃ cq : Int, cq = ((qs L k ++ [na].take m).count (xj : Int) : Int) := ⟨_, rfl⟩
              have hc0 : 0 ≤ cq := by omega
              have hc1 : cq ≤ 1000 := by
                have q1 := List.count_le_length (a := (xj : Int)) (l := qs L k ++ [na].take m)
                have q2 := qs_len L k (by have := HKN.out; omega)
                rw [List.length_append, List.length_take] at q1
                have q3 := HKN.out
                have q4 := HLN.out
                have q5 := HL.out
                omega
              rw [← hcq] at u1
              have HCQ := Lib.hid hcq
              have HXN := Lib.hid hxn
              clear hcq hxn hx0 hxk
              go_wp2
              refine ⟨⟨m + 1, by omega, by go_num, Lib.hid ?_, Lib.hid (HZ4.out.other (a := ⟨G, xj, none⟩) ?_ _), Lib.hid (HB4.out.setCell (by have := HGW.out; omega) _), Lib.hid (fun j hj y hy => ?_)⟩, by simp [intOf]; omega⟩
              · have := HU4.out.put HXN.out
                rw [List.take_add_one, HX.out, ← List.append_assoc]
                simp only [Option.toList_some]
                rw [HCQ.out]
                exact this
              · have := HZG.out; exact this
              · by_cases e : j = m
                · subst e
                  rw [HX.out] at hy
                  simp only [Option.some.injEq] at hy
                  have := HJK.out
                  omega
                · exact HA4.out j (by omega) y hy
            · obtain rfl : m = 1 := by omega
              have HU5 : Hid (Used wr G n (qs L (k + 1))) := Lib.hid (by
                rw [qs_succ HKN.out, ← HPS.out, HPQ.out]
                have := HU4.out
                rwa [List.take_of_length_le (by simp)] at this)
              have HF5 : Hid (∀ j (h : j < L.length), j < k + 1 → fineB j L[j] = true) := Lib.hid (fun j h hj => by
                by_cases e : j = k
                · subst e
                  have ha := HA4.out
                  rw [HKD.out, fine7 rfl]; have h1 := ha 0 (by omega) na rfl; simp; omega
                · exact HF.out j h (by omega))
              clear HU4 HA4
              go_wp2
              go_roundw
              case rel => exact ⟨k + 1, by omega, by go_num, HU5, HB4, HF5⟩
              case measure => simp [intOf]; omega

        · have HN : Hid (shapedB L = false) := Lib.hid (shaped_node HKN.out (by rw [HKD.out, fine7 rfl]; simp [hnb]))
          have t1 : (nb != -1) = true := by simpa using hnb
          go_wp2
          go_ret
          exact ⟨ret_bool HN.out.symm, HB3.out⟩
      have b7 : (kd == 7) = false := by simpa using k7
      by_cases k89 : kd = 8 ∨ kd = 9
      · have HPQ : Hid (PS = [na, nb]) := Lib.hid (by rw [HPS.out, HKD.out]; exact parts89 k89)
        rcases k89 with rfl | rfl
        all_goals
          go_upto_region 18 with fail
          refine at_hide (F := fun w' => Blk w' (Y + 2) [.int .i64 na, .int .i64 nb] 3 ∧ Used w' G n (qs L k) ∧ Below w.heap.size w w') ⟨by
            have := Blk.made wz [.int .i64 na, .int .i64 nb] 3; rw [HZ2.out] at this; exact this, Blk.alloc HU2.out _, below_and HB2.out (below_alloc _ _)⟩ ?_
          intro w3 hF3
          obtain ⟨Z, hZe⟩ : ∃ Z, Z = Y + 2 := ⟨_, rfl⟩
          (try rw [HZ2.out])
          rw [← hZe] at hF3 ⊢
          have HZG : Hid (Z ≠ G) := Lib.hid (by have := HGY.out; omega)
          have hZ : Blk w3 Z ([na, nb].map (Value.int .i64)) 3 := hF3.1
          have HU3 := Lib.hid hF3.2.1
          have HB3 := Lib.hid hF3.2.2
          clear hF3 hZe hZ0 HU2 HB2 y0 y4 y5

          have HZ := Lib.hid hZ
          clear hZ
          go_wp2
          go_loopw [58] (fun i2 w2 => ∃ m : Nat, m ≤ 2 ∧ i2 = .int .i64 (m : Int) ∧ Hid (Used w2 G n (qs L k ++ [na, nb].take m)) ∧ Hid (Blk w2 Z ([na, nb].map (Value.int .i64)) 3) ∧ Hid (Below w.heap.size w w2) ∧ Hid (∀ j (h : j < m) x, [na, nb][j]? = some x → 0 ≤ x ∧ x < (k : Int))) (fun i2 _ => 2 - (intOf i2).toNat)
          case atStart => exact ⟨0, by omega, rfl, Lib.hid (by simpa using HU3.out), HZ, HB3, Lib.hid (fun j h => by omega)⟩
          case round =>
            obtain ⟨m, hm, rfl, HU4, HZ4, HB4, HA4⟩ := hrel
            by_cases hlt2 : m < 2
            · obtain ⟨x, hx⟩ : ∃ x, [na, nb][m]? = some x := ⟨_, List.getElem?_eq_getElem (by simpa using hlt2)⟩
              have z1 := HZ4.out.cell (j := m) (u := .int .i64 x) (by rw [List.getElem?_map, hx]; rfl)
              have HX := Lib.hid hx
              have HXM : Hid (x ∈ PS) := Lib.hid (by rw [HPQ.out]; exact List.mem_of_getElem? hx)
              clear hx
              by_cases hx0 : x < 0
              · have HN : Hid (shapedB L = false) := Lib.hid (shaped_part HKN.out (by rw [← HPS.out]; exact HXM.out) (fun h => by omega))
                have t1 : decide (x < 0) = true := by simpa using hx0
                go_wp2
                go_ret
                exact ⟨ret_bool HN.out.symm, HB4.out⟩
              by_cases hxk : (k : Int) ≤ x
              · have HN : Hid (shapedB L = false) := Lib.hid (shaped_part HKN.out (by rw [← HPS.out]; exact HXM.out) (fun h => by omega))
                have t1 : decide (x < 0) = false := by simpa using hx0
                have t2 : decide ((k : Int) ≤ x) = true := by simpa using hxk
                go_wp2
                go_ret
                exact ⟨ret_bool HN.out.symm, HB4.out⟩
              have t1 : decide (x < 0) = false := by simpa using hx0
              have t2 : decide ((k : Int) ≤ x) = false := by simpa using hxk
              obtain ⟨xj, hxj⟩ : ∃ xj : Nat, x = (xj : Int) := ⟨x.toNat, by omega⟩
              have HJK : Hid (xj < k) := Lib.hid (by omega)
              subst hxj
              have t3 : decide (k ≤ xj) = false := by have := HJK.out; simp; omega
              have hxn : xj < n := by have := HKN.out; have := HJK.out; have := HLN.out; omega
              have u1 := HU4.out.cell hxn
              have u2 := Blk.free HU4.out xj
              obtain ⟨cq, hcq⟩ : ∃ cq : Int, cq = ((qs L k ++ [na, nb].take m).count (xj : Int) : Int) := ⟨_, rfl⟩
              have hc0 : 0 ≤ cq := by omega
              have hc1 : cq ≤ 1000 := by
                have q1 := List.count_le_length (a := (xj : Int)) (l := qs L k ++ [na, nb].take m)
                have q2 := qs_len L k (by have := HKN.out; omega)
                rw [List.length_append, List.length_take] at q1
                have q3 := HKN.out
                have q4 := HLN.out
                have q5 := HL.out
                omega
              rw [← hcq] at u1
              have HCQ := Lib.hid hcq
              have HXN := Lib.hid hxn
              clear hcq hxn hx0 hxk
              go_wp2
              refine ⟨⟨m + 1, by omega, by go_num, Lib.hid ?_, Lib.hid (HZ4.out.other (a := ⟨G, xj, none⟩) ?_ _), Lib.hid (HB4.out.setCell (by have := HGW.out; omega) _), Lib.hid (fun j hj y hy => ?_)⟩, by simp [intOf]; omega⟩
              · have := HU4.out.put HXN.out
                rw [List.take_add_one, HX.out, ← List.append_assoc]
                simp only [Option.toList_some]
                rw [HCQ.out]
                exact this
              · have := HZG.out; exact this
              · by_cases e : j = m
                · subst e
                  rw [HX.out] at hy
                  simp only [Option.some.injEq] at hy
                  have := HJK.out
                  omega
                · exact HA4.out j (by omega) y hy
            · obtain rfl : m = 2 := by omega
              have HU5 : Hid (Used wr G n (qs L (k + 1))) := Lib.hid (by
                rw [qs_succ HKN.out, ← HPS.out, HPQ.out]
                have := HU4.out
                rwa [List.take_of_length_le (by simp)] at this)
              have HF5 : Hid (∀ j (h : j < L.length), j < k + 1 → fineB j L[j] = true) := Lib.hid (fun j h hj => by
                by_cases e : j = k
                · subst e
                  have ha := HA4.out
                  rw [HKD.out, fine89 (by simp)]; have h1 := ha 0 (by omega) na rfl; have h2 := ha 1 (by omega) nb rfl; simp; omega
                · exact HF.out j h (by omega))
              clear HU4 HA4
              go_wp2
              go_roundw
              case rel => exact ⟨k + 1, by omega, by go_num, HU5, HB4, HF5⟩
              case measure => simp [intOf]; omega

      have b8 : (kd == 8) = false := by simpa using fun h => k89 (.inl h)
      have b9 : (kd == 9) = false := by simpa using fun h => k89 (.inr h)
      have HPQ : Hid (PS = ([] : List Int)) := Lib.hid (by rw [HPS.out, HKD.out]; exact parts0 k7 k89)
      have HK7 := Lib.hid k7
      have HK89 := Lib.hid k89
      clear k7 k89
      by_cases hna : na = -1
      · subst hna
        by_cases hnb : nb = -1
        · subst hnb
          go_upto_region 18 with fail
          obtain ⟨Z, hZe⟩ : ∃ Z, Z = Y + 1 := ⟨_, rfl⟩
          rw [← hZe] at hZ0 ⊢
          have HZG : Hid (Z ≠ G) := Lib.hid (by have := HGY.out; omega)
          have hZ : Blk wz Z (([] : List Int).map (Value.int .i64)) 3 := hZ0
          have HU3 := HU2
          have HB3 := HB2
          clear hZe hZ0 HU2 HB2 y0 y4 y5

          have HZ := Lib.hid hZ
          clear hZ
          go_wp2
          go_loopw [58] (fun i2 w2 => ∃ m : Nat, m ≤ 0 ∧ i2 = .int .i64 (m : Int) ∧ Hid (Used w2 G n (qs L k ++ ([] : List Int).take m)) ∧ Hid (Blk w2 Z (([] : List Int).map (Value.int .i64)) 3) ∧ Hid (Below w.heap.size w w2) ∧ Hid (∀ j (h : j < m) x, ([] : List Int)[j]? = some x → 0 ≤ x ∧ x < (k : Int))) (fun i2 _ => 0 - (intOf i2).toNat)
          case atStart => exact ⟨0, by omega, rfl, Lib.hid (by simpa using HU3.out), HZ, HB3, Lib.hid (fun j h => by omega)⟩
          case round =>
            obtain ⟨m, hm, rfl, HU4, HZ4, HB4, HA4⟩ := hrel
            · skip
              obtain rfl : m = 0 := by omega
              have HU5 : Hid (Used wr G n (qs L (k + 1))) := Lib.hid (by
                rw [qs_succ HKN.out, ← HPS.out, HPQ.out]
                have := HU4.out
                rwa [List.take_of_length_le (by simp)] at this)
              have HF5 : Hid (∀ j (h : j < L.length), j < k + 1 → fineB j L[j] = true) := Lib.hid (fun j h hj => by
                by_cases e : j = k
                · subst e
                  have ha := HA4.out
                  rw [HKD.out, fine0 HK7.out HK89.out]; simp
                · exact HF.out j h (by omega))
              clear HU4 HA4
              go_wp2
              go_roundw
              case rel => exact ⟨k + 1, by omega, by go_num, HU5, HB4, HF5⟩
              case measure => simp [intOf]; omega

        · have HN : Hid (shapedB L = false) := Lib.hid (shaped_node HKN.out (by rw [HKD.out, fine0 HK7.out HK89.out]; simp [hnb]))
          have t1 : (nb != -1) = true := by simpa using hnb
          go_wp2
          go_ret
          exact ⟨ret_bool HN.out.symm, HB2.out⟩
      · have HN : Hid (shapedB L = false) := Lib.hid (shaped_node HKN.out (by rw [HKD.out, fine0 HK7.out HK89.out]; simp [hna]))
        have t1 : (na != -1) = true := by simpa using hna
        go_wp2
        go_ret
        exact ⟨ret_bool HN.out.symm, HB2.out⟩
    · obtain rfl : k = n := by omega
      have HQ : Hid (Used wr G k (L.flatMap parts)) := Lib.hid (by
        have := HU.out
        rw [show qs L k = L.flatMap parts from by rw [HLN.out]; exact qs_all L] at this
        exact this)
      obtain ⟨m, hm⟩ : ∃ m, k = m + 1 := ⟨k - 1, by have := HL.out; omega⟩
      have HM := Lib.hid hm
      have u1 : IntKind.i64.wrap ((k : Int) - 1) = (m : Int) := by rw [IntKind.wrap_i64]; have := HL.out; omega
      clear hm HU
      go_wp2
      go_loop [79] (fun i => ∃ q : Nat, q ≤ k ∧ i = .int .i64 (q : Int) ∧ Hid (∀ j, j < q → j < m → (L.flatMap parts).count (j : Int) = 1)) (fun i => k - (intOf i).toNat)
      case atStart => exact ⟨0, Nat.zero_le _, rfl, Lib.hid (fun j h => by omega)⟩
      case round =>
        obtain ⟨q, hq, rfl, HC⟩ := hrel
        by_cases hlt3 : q < k
        · have g1 := HQ.out.cell hlt3
          obtain ⟨cq, hcq⟩ : ∃ cq : Int, cq = ((L.flatMap parts).count (q : Int) : Int) := ⟨_, rfl⟩
          rw [← hcq] at g1
          have HCQ := Lib.hid hcq
          clear hcq
          by_cases hqm : q < m
          · by_cases h1 : cq = 1
            · subst h1
              have HC2 : Hid (∀ j, j < q + 1 → j < m → (L.flatMap parts).count (j : Int) = 1) := Lib.hid (fun j hj hjm => by
                by_cases e : j = q
                · subst e; have := HCQ.out; omega
                · exact HC.out j (by omega) hjm)
              go_wp2
              go_round
              case rel => exact ⟨q + 1, by omega, by go_num, HC2⟩
              case measure => simp [intOf]; omega
            · have HN : Hid (shapedB L = false) := Lib.hid (shaped_used (j := q) (by have := HLN.out; have := HM.out; omega) (by have := HCQ.out; omega))
              have t1 : (cq != 1) = true := by simpa using h1
              go_wp2
              go_ret
              exact ⟨ret_bool HN.out.symm, HB.out⟩
          · have HC2 : Hid (∀ j, j < q + 1 → j < m → (L.flatMap parts).count (j : Int) = 1) := Lib.hid (fun j hj hjm => HC.out j (by omega) hjm)
            go_wp2
            go_round
            case rel => exact ⟨q + 1, by omega, by go_num, HC2⟩
            case measure => simp [intOf]; omega
        · obtain rfl : q = k := by omega
          have hmq : m < q := by have := HM.out; omega
          have g1 := HQ.out.cell hmq
          have HLAST : Hid (shapedB L = decide (((L.flatMap parts).count ((m : Nat) : Int) : Int) = 0)) := Lib.hid (by
            have e1 : m = L.length - 1 := by have := HM.out; have := HLN.out; omega
            rw [e1]
            exact shaped_last (by have := HL.out; have := HLN.out; omega) (fun j hj => HF.out j hj (by have := HLN.out; omega)) (fun j hj => HC.out j (by have := HLN.out; omega) (by omega)))
          obtain ⟨cq, hcq⟩ : ∃ cq : Int, cq = ((L.flatMap parts).count (m : Int) : Int) := ⟨_, rfl⟩
          rw [← hcq] at g1 HLAST
          clear hcq
          go_wp2
          go_ret
          exact ⟨ret_bool (by rw [HLAST.out]; rfl), HB.out⟩
end Go.Proofs.YtdnoceancoclmaaGreatDoor.Ru
