/- , laid together: MsDPut, MsDTk. -/
import Derived.Test.YtopkfomlppnpeaaGreatDoorMDn
import Derived.Test.YtopkfomlppnpeaaGreatDoorMNu
import Derived.Test.YtopkfomlppnpeaaGreatDoorMFm
import Derived.Deep.RegionHeld3
namespace Go.Proofs.YtopkfomlppnpeaaGreatDoor.Ms
open Go.RowKit Go.Proofs.YtopkfomlppnpeaaGreatDoor

abbrev fourV (g : Nat) : Value := .slice (some ⟨g, 0, none⟩) 4 4

set_option maxRecDepth 100000 in
set_option maxHeartbeats 400000 in
theorem four_exact (x : Am) (w : World) :
    Calls Tryz.prog 124 #[amV x] w fun e w' => e = .returned (fourV (w.heap.size + 1)) ∧ w' = (w.alloc (.cells #[.int .i64 x.c, .int .i64 x.r, .int .i64 x.d, .int .i64 x.p] 37)).alloc (.cells #[.int .i64 x.c, .int .i64 x.r, .int .i64 x.d, .int .i64 x.p] 2) := by
  go_enter Tryz.func124, Tryz.ntmps124
  go_wp2
  go_ret
  exact ⟨by simp, rfl⟩
theorem four_any (x : Am) (w : World) :
    Calls Tryz.prog 124 #[amV x] w fun e w' => ∃ g, e = .returned (fourV g) ∧ w.heap.size ≤ g ∧ Blk w' g (amC x) 2 ∧ Below w.heap.size w w' :=
  (four_exact x w).mono fun e w' ⟨h1, h2⟩ => ⟨_, h1, by omega, by
    have := Blk.made (w.alloc (.cells (amC x).toArray 37)) (amC x) 2
    rw [h2]; simpa using this, by rw [h2]; exact below_and (below_alloc w _) (below_alloc _ _)⟩

set_option maxRecDepth 100000 in
set_option maxHeartbeats 600000 in
theorem rcheck_any (x : Am) (w : World) :
    Calls Tryz.prog 68 #[amV x] w fun e w' => e = .returned (.int .i64 x.chk) ∧ Below w.heap.size w w' := by
  go_enter Tryz.func68, Tryz.ntmps68
  go_wp2_with (go_at_call 124; refine (four_any x _).mono ?_; rintro e w1 ⟨g, rfl, -, hblk, hb⟩; have HG := Lib.hid hblk; have HB := Lib.hid (below_and (below_alloc w _) hb); clear hb hblk)
  go_loop [4] (fun i => ∃ k : Nat, k ≤ 4 ∧ i = .int .i64 (k : Int) ∧ Hid (∀ j, j < k → 0 ≤ x.get j ∧ x.get j ≤ 1099511627776)) (fun i => 4 - (intOf i).toNat)
  case atStart => exact ⟨0, Nat.zero_le _, rfl, fun j h => by omega⟩
  case round =>
    obtain ⟨k, hk, rfl, HA⟩ := hrel
    by_cases hlt : k < 4
    · have hx := HG.out.cell (amC_get x hlt)
      have i0 : (0 : Int) ≤ (k : Int) := by omega
      have i1 : (k : Int) < 4 := by omega
      obtain ⟨z, hz⟩ : ∃ z, z = x.get k := ⟨_, rfl⟩
      rw [← hz] at hx
      have HZ := Lib.hid hz
      clear hz
      by_cases h1 : z < 0
      · have HN : Hid (x.okB = false) := Lib.hid (by rw [← Bool.not_eq_true, Am.okB_iff]; intro h; have := h k hlt; have := HZ.out; omega)
        go_wp2
        go_ret
        exact ⟨ret_int (Am.chk_no HN.out).symm, HB.out⟩
      · by_cases h2 : 1099511627776 < z
        · have HN : Hid (x.okB = false) := Lib.hid (by rw [← Bool.not_eq_true, Am.okB_iff]; intro h; have := h k hlt; have := HZ.out; omega)
          go_wp2
          go_ret
          exact ⟨ret_int (Am.chk_no HN.out).symm, HB.out⟩
        · have HA2 : Hid (∀ j, j < k + 1 → 0 ≤ x.get j ∧ x.get j ≤ 1099511627776) := Lib.hid (fun j hj => by
            by_cases h : j < k
            · exact HA.out j h
            · obtain rfl : j = k := by omega
              have := HZ.out; omega)
          have d1 : decide (z < 0) = false := by simpa using h1
          have d2 : decide (1099511627776 < z) = false := by simpa using h2
          go_wp2
          go_round
          case rel => exact ⟨k + 1, by omega, by go_num, HA2⟩
          case measure => simp [intOf]; omega
    · obtain rfl : k = 4 := by omega
      have HN : Hid (x.okB = true) := Lib.hid (by rw [Am.okB_iff]; exact HA.out)
      go_wp2
      go_ret
      exact ⟨ret_int (Am.chk_yes HN.out).symm, HB.out⟩


set_option maxRecDepth 100000 in
set_option maxHeartbeats 1000000 in
theorem rnumber_put (v : Value) (l : List UInt8) (x : Int) (w : World) (h : Rd w v l) (hl : l.length ≤ 100000000000) (hx : 0 ≤ x ∧ x < 18446744073709551616) : Calls Tryz.prog 127 #[v, .int .u64 x] w fun e w' => ∃ v', e = .returned v' ∧ Fresh w.heap.size w' v' (l ++ eU x) ∧ Below w.heap.size w w' := by
  have h9 := refAppendUint_any v l x.toNat w h (by unfold Room; omega) (by omega)
  rw [Int.toNat_of_nonneg hx.1] at h9
  have H : Hid (Calls Tryz.prog 154 #[v, .int .u64 x] w fun e w' => ∃ v', e = .returned v' ∧ Fresh w.heap.size w' v' (l ++ eU x) ∧ Below w.heap.size w w') := Lib.hid h9
  clear h9 h hl hx
  go_enter Tryz.func127, Tryz.ntmps127
  go_wp2_with (go_at_call 154; refine H.out.mono ?_; rintro e w2 ⟨v2, rfl, hf, hb⟩; have HF := Lib.hid hf; have HB := Lib.hid hb; clear hf hb)
  go_ret
  exact ⟨_, rfl, HF.out, HB.out⟩
set_option maxRecDepth 100000 in
set_option maxHeartbeats 1000000 in
theorem rtext_put (v : Value) (l s : List UInt8) (w : World) (h : Rd w v l) (hl : l.length ≤ 100000000000) (hs : s.length ≤ 65536) : Calls Tryz.prog 130 #[v, .string (bs s)] w fun e w' => ∃ v', e = .returned v' ∧ Fresh w.heap.size w' v' (l ++ eT s) ∧ Below w.heap.size w w' := by
  have hsz : (bs s).size = s.length := by simp [bs, ByteArray.size]
  have h9 := refAppendText_any v l (bs s) w h (by omega) (by omega)
  rw [bs_data, hsz] at h9
  have H : Hid (Calls Tryz.prog 155 #[v, .string (bs s)] w fun e w' => ∃ v', e = .returned (.tuple #[v', .int .i64 0]) ∧ Fresh w.heap.size w' v' (l ++ eT s) ∧ Below w.heap.size w w') := Lib.hid (h9.mono fun e w' h8 => by
    obtain ⟨v', h1, h2, h3⟩ := h8
    refine ⟨v', h1, ?_, h3⟩
    unfold eT
    rw [← List.append_assoc]
    exact h2)
  clear h9 h hl hs hsz
  go_enter Tryz.func130, Tryz.ntmps130
  go_wp2_with (go_at_call 155; refine H.out.mono ?_; rintro e w2 ⟨v2, rfl, hf, hb⟩; have HF := Lib.hid hf; have HB := Lib.hid hb; clear hf hb)
  go_ret
  exact ⟨_, rfl, HF.out, HB.out⟩
theorem rint_put (v : Value) (l : List UInt8) (x : Int) (w : World) (h : Rd w v l) (hl : l.length ≤ 100000000000) (hx : -9223372036854775808 ≤ x ∧ x < 9223372036854775808) : Calls Tryz.prog 128 #[v, .int .i64 x] w fun e w' => ∃ v', e = .returned v' ∧ Fresh w.heap.size w' v' (l ++ eI x) ∧ Below w.heap.size w w' := refAppendInt_any v l x w h (by unfold Room; omega) hx.1 hx.2
end Go.Proofs.YtopkfomlppnpeaaGreatDoor.Ms

namespace Go.Proofs.YtopkfomlppnpeaaGreatDoor.Ms
open Go.RowKit Go.Proofs.YtopkfomlppnpeaaGreatDoor

set_option maxRecDepth 100000 in
set_option maxHeartbeats 2000000 in
theorem rtask_put (v : Value) (l : List UInt8) (x : El) (w : World) (h : Rd w v l) (hl : l.length ≤ 10000000000) (hx : Ft x) : Calls Tryz.prog 131 #[v, .agg #[.string (bs x.j), .int .i64 x.i], .int .u64 x.n] w fun e w' => ∃ v', e = .returned v' ∧ Fresh w.heap.size w' v' (l ++ eK x) ∧ Below w.heap.size w w' := by
  have HRD := Lib.hid h
  have HX := Lib.hid hx
  have HL := Lib.hid hl
  clear h hx hl
  obtain ⟨X, hX⟩ : ∃ X, X = w.heap.size := ⟨_, rfl⟩
  obtain ⟨w1, hw1⟩ : ∃ w1, w1 = w.alloc (.cells #[.string (bs x.j), .int .i64 x.i] 35) := ⟨_, rfl⟩
  have HX1 : Hid (Blk w1 X [.string (bs x.j), .int .i64 x.i] 35) := Lib.hid (by rw [hw1, hX]; exact Blk.made w [.string (bs x.j), .int .i64 x.i] _)
  have HB1 : Hid (Below w.heap.size w w1) := Lib.hid (by rw [hw1]; exact below_alloc _ _)
  go_enter Tryz.func131, Tryz.ntmps131
  go_upto_region 1 with fail
  rw [← hw1, ← hX]
  clear hw1 hX
  have e5 : IntKind.u64.wrap x.i = x.i := by have := HX.out.i; rw [IntKind.wrap_u64]; omega
  have e6 : x.i % 18446744073709551616 = x.i := by have := HX.out.i; omega
  have HLa : Hid ((l ++ eT x.j).length ≤ 100000000000) := Lib.hid (by rw [List.length_append]; have h1 := HL.out; have h2 := eT_len x.j; have h3 := HX.out.j; omega)
  have HLb : Hid ((l ++ eT x.j ++ eU x.i).length ≤ 100000000000) := Lib.hid (by rw [List.length_append, List.length_append]; have h1 := HL.out; have h2 := eT_len x.j; have h3 := HX.out.j; have h4 := eU_len x.i; omega)
  have HIN : Hid (0 ≤ x.i ∧ x.i < 18446744073709551616) := Lib.hid (by have := HX.out.i; omega)
  have HSS : Hid (∀ w', Below w1.heap.size w1 w' → w'.cell? ⟨X, 0, none⟩ = some (.string (bs x.j)) ∧ w'.cell? ⟨X, 1, none⟩ = some (.int .i64 x.i)) := Lib.hid (fun w' hb => ⟨(HX1.out.kept hb).cell (j := 0) rfl, (HX1.out.kept hb).cell (j := 1) rfl⟩)
  go_region_held3 (fun w' => w'.cell? ⟨X, 0, none⟩ = some (.string (bs x.j)) ∧ w'.cell? ⟨X, 1, none⟩ = some (.int .i64 x.i))
    ((refine HSS.out _ ?_ <;> (repeat (first | with_reducible exact Below.refl _ _ | with_reducible exact HBc.out | with_reducible exact HBb.out | with_reducible exact HBa.out | with_reducible apply below_dr))))
    (first
      | (go_at_call 127; refine (rnumber_put vb (l ++ eT x.j ++ eU x.i) x.n _ (HFb.out.rd.below (by repeat (first | with_reducible exact Below.refl _ _ | with_reducible apply below_dr))) HLb.out HX.out.n).mono ?_; rintro e wc ⟨vc, rfl, hf, hb⟩; have HBc : Hid (Below w1.heap.size w1 wc) := Lib.hid (below_and (by repeat (first | with_reducible exact HBb.out | with_reducible apply below_dr)) hb); have HFc := Lib.hid (hf.mono (Below.size (below_and HB1.out (by repeat (first | with_reducible exact HBb.out | with_reducible apply below_dr))))); clear hf hb)
      | (go_at_call 127; refine (rnumber_put va (l ++ eT x.j) x.i _ (HFa.out.rd.below (by repeat (first | with_reducible exact Below.refl _ _ | with_reducible apply below_dr))) HLa.out HIN.out).mono ?_; rintro e wb ⟨vb, rfl, hf, hb⟩; have HBb : Hid (Below w1.heap.size w1 wb) := Lib.hid (below_and (by repeat (first | with_reducible exact HBa.out | with_reducible apply below_dr)) hb); have HFb := Lib.hid (hf.mono (Below.size (below_and HB1.out (by repeat (first | with_reducible exact HBa.out | with_reducible apply below_dr))))); clear hf hb)
      | (go_at_call 130; refine (rtext_put v l x.j _ (HRD.out.below (below_and HB1.out (by repeat (first | with_reducible exact Below.refl _ _ | with_reducible apply below_dr)))) (by have := HL.out; omega) (by have := HX.out.j; omega)).mono ?_; rintro e wa ⟨va, rfl, hf, hb⟩; have HBa : Hid (Below w1.heap.size w1 wa) := Lib.hid (below_and (by repeat (first | with_reducible exact Below.refl _ _ | with_reducible apply below_dr)) hb); have HFa := Lib.hid (hf.mono (Below.size (below_and HB1.out (by repeat (first | with_reducible exact Below.refl _ _ | with_reducible apply below_dr))))); clear hf hb))
  go_wp2
  go_ret
  have h9 := HFc.out
  rw [show l ++ eT x.j ++ eU x.i ++ eU x.n = l ++ eK x from by unfold eK; simp] at h9
  exact ⟨vc, rfl, h9, below_and HB1.out HBc.out⟩
def eA4 (a : Am) (k : Nat) : List UInt8 := ([eI a.c, eI a.r, eI a.d, eI a.p].take k).flatten
theorem eA4_all (a : Am) : eA4 a 4 = eA a := by unfold eA4 eA; simp
theorem eA4_len (a : Am) (k : Nat) : (eA4 a k).length ≤ 40 := by
  unfold eA4
  have h1 := eI_len a.c
  have h2 := eI_len a.r
  have h3 := eI_len a.d
  have h4 := eI_len a.p
  match k with
  | 0 => simp
  | 1 => simp; omega
  | 2 => simp; omega
  | 3 => simp; omega
  | k + 4 => simp; omega
theorem eA4_next (a : Am) {k : Nat} (hk : k < 4) : eA4 a (k + 1) = eA4 a k ++ eI (a.get k) := by
  match k, hk with
  | 0, _ => simp [eA4, Am.get]
  | 1, _ => simp [eA4, Am.get]
  | 2, _ => simp [eA4, Am.get]
  | 3, _ => simp [eA4, Am.get]
set_option maxRecDepth 100000 in
set_option maxHeartbeats 2000000 in
theorem ramounts_put (v : Value) (l : List UInt8) (a : Am) (w : World) (h : Rd w v l) (hl : l.length ≤ 10000000000) (ha : a.okB = true) : Calls Tryz.prog 129 #[v, amV a] w fun e w' => ∃ v', e = .returned v' ∧ Fresh w.heap.size w' v' (l ++ eA a) ∧ Below w.heap.size w w' := by
  have HRD := Lib.hid h
  have HA := Lib.hid ((Am.okB_iff a).1 ha)
  have HL := Lib.hid hl
  clear h ha hl
  obtain ⟨w1, hw1⟩ : ∃ w1, w1 = (w.alloc (.cells #[.int .i64 a.c, .int .i64 a.r, .int .i64 a.d, .int .i64 a.p] 37)).alloc (.cells #[.int .i64 a.c, .int .i64 a.r, .int .i64 a.d, .int .i64 a.p] 2) := ⟨_, rfl⟩
  obtain ⟨X, hX⟩ : ∃ X, X = (w.alloc (.cells #[.int .i64 a.c, .int .i64 a.r, .int .i64 a.d, .int .i64 a.p] 37)).heap.size := ⟨_, rfl⟩
  have HX1 : Hid (Blk w1 X (amC a) 2) := Lib.hid (by rw [hw1, hX]; exact Blk.made _ (amC a) _)
  have HB1 : Hid (Below w.heap.size w w1) := Lib.hid (by rw [hw1]; exact below_and (below_alloc _ _) (below_alloc _ _))
  have x0 := (Blk.made w [.int .i64 a.c, .int .i64 a.r, .int .i64 a.d, .int .i64 a.p] 37).cell (j := 0) rfl
  have x1 := (Blk.made w [.int .i64 a.c, .int .i64 a.r, .int .i64 a.d, .int .i64 a.p] 37).cell (j := 1) rfl
  have x2 := (Blk.made w [.int .i64 a.c, .int .i64 a.r, .int .i64 a.d, .int .i64 a.p] 37).cell (j := 2) rfl
  have x3 := (Blk.made w [.int .i64 a.c, .int .i64 a.r, .int .i64 a.d, .int .i64 a.p] 37).cell (j := 3) rfl
  have hs1 : (w.alloc (.cells #[.int .i64 a.c, .int .i64 a.r, .int .i64 a.d, .int .i64 a.p] 37)).heap.size = w.heap.size + 1 := by simp
  go_enter Tryz.func129, Tryz.ntmps129
  go_upto_region 3 with fail
  rw [hs1] at hX
  (try rw [hs1])
  rw [← hw1]
  (try rw [← hX])
  clear hw1 hX x0 x1 x2 x3 hs1
  go_loopw [0, 6] (fun vb vi wr => ∃ k : Nat, k ≤ 4 ∧ vi = .int .i64 k ∧ Hid (Rd wr vb (l ++ eA4 a k) ∧ (0 < k → Fresh w.heap.size wr vb (l ++ eA4 a k)) ∧ Below w1.heap.size w1 wr)) (fun _ vi _ => 4 - (intOf vi).toNat)
  case atStart => exact ⟨0, by omega, by go_num, Lib.hid ⟨by have h9 := HRD.out.below HB1.out; simpa [eA4] using h9, fun h => absurd h (by omega), Below.refl _ _⟩⟩
  case round =>
    obtain ⟨k, hk, rfl, HR⟩ := hrel
    by_cases hlt : k < 4
    rotate_left
    · obtain rfl : k = 4 := by omega
      go_wp2
      go_ret
      have h9 := HR.out.2.1 (by omega)
      rw [eA4_all] at h9
      exact ⟨_, rfl, h9, below_and HB1.out HR.out.2.2⟩
    have i0 : (0 : Int) ≤ (k : Int) := by omega
    have i1 : (k : Int) < 4 := by omega
    have hx := (HX1.out.kept HR.out.2.2).cell (amC_get a hlt)
    obtain ⟨z, hz⟩ : ∃ z, z = a.get k := ⟨_, rfl⟩
    rw [← hz] at hx
    have HZ : Hid (eA4 a (k + 1) = eA4 a k ++ eI z) := Lib.hid (by rw [hz]; exact eA4_next a hlt)
    have HZB : Hid (-9223372036854775808 ≤ z ∧ z < 9223372036854775808) := Lib.hid (by have h9 := HA.out k hlt; rw [← hz] at h9; omega)
    clear hz
    have HLN : Hid ((l ++ eA4 a k).length ≤ 100000000000) := Lib.hid (by rw [List.length_append]; have h1 := HL.out; have h2 := eA4_len a k; omega)
    go_wp2_with (go_at_call 128; refine (rint_put _ _ z _ HR.out.1 HLN.out HZB.out).mono ?_; rintro e w4 ⟨v4, rfl, hf, hb⟩; have HB4 := Lib.hid (below_and HR.out.2.2 hb); have HF4 := Lib.hid (hf.mono (Below.size (below_and HB1.out HR.out.2.2))); clear hf hb)
    go_roundw
    case rel => exact ⟨k + 1, by omega, by go_num, Lib.hid (by have h9 := HF4.out; rw [List.append_assoc, ← HZ.out] at h9; exact ⟨h9.rd, fun _ => h9, HB4.out⟩)⟩
    case measure => simp [intOf]; omega
end Go.Proofs.YtopkfomlppnpeaaGreatDoor.Ms
