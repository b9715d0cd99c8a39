/- MsNums. -/
import Derived.Test.YtopkfomlppnpeaaGreatDoorMsEnc
import Derived.Test.YtopkfomlppnpeaaGreatDoorMsCmp
import Derived.Test.YtopkfomlppnpeaaGreatDoorMApp
import Derived.Deep.RegionHeld3
namespace Go.Proofs.YtopkfomlppnpeaaGreatDoor.Ms
open Go.RowKit Go.Proofs.YtopkfomlppnpeaaGreatDoor

theorem Fresh.low {base a : Nat} {w : World} {v : Value} {l : List UInt8} (h : Fresh base w v l) (ha : a ≤ base) : Fresh a w v l := h.mono ha
theorem fresh_slice {base : Nat} {w : World} {v : Value} {l : List UInt8} (h : Fresh base w v l) : ∃ p c, v = .slice p l.length c := by
  obtain ⟨p, c, hv, -, -⟩ := own_slice h
  exact ⟨p, c, hv⟩
theorem rd_slice {w : World} {v : Value} {l : List UInt8} (h : Rd w v l) : ∃ p c, v = .slice p l.length c := by
  obtain ⟨p, c, hv, -⟩ := h.parts
  exact ⟨p, c, hv⟩
theorem fresh_w {base : Nat} {w w' : World} {v : Value} {l : List UInt8} (h : Fresh base w v l) (hb : Below w.heap.size w w') : Fresh base w' v l := h.below hb
def eN (xs : List Int) : List UInt8 := xs.flatMap eU
theorem eN_len : ∀ ys : List Int, (eN ys).length ≤ ys.length * 10
  | [] => by simp [eN]
  | y :: ys => by
    have h1 : eN (y :: ys) = eU y ++ eN ys := by unfold eN; rw [List.flatMap_cons]
    rw [h1, List.length_append, List.length_cons]
    have := eU_len y
    have := eN_len ys
    omega
set_option maxRecDepth 100000 in
set_option maxHeartbeats 2000000 in
theorem nums_any (v : Value) (l : List UInt8) (xs : List Int) (m g : Nat) (w : World) (h : Rd w v l) (hl : l.length ≤ 1000000000000) (hb : Blk w g (xs.map (Value.int .u64)) 27) (hm : m = xs.length) (h0 : 0 < m) (h9 : m ≤ 10) (hx : ∀ x ∈ xs, 0 ≤ x ∧ x < 18446744073709551616) : Calls Tryz.prog 29 #[v, .slice (some ⟨g, 0, none⟩) m m] w fun e w' => ∃ v', e = .returned v' ∧ Fresh w.heap.size w' v' (l ++ eN xs) ∧ Below w.heap.size w w' := by
  have HRD := Lib.hid h
  have HBL := Lib.hid hb
  have HM := Lib.hid hm
  have HX := Lib.hid hx
  have HL := Lib.hid hl
  clear h hb hm hx hl
  go_enter Tryz.func29, Tryz.ntmps29
  go_upto_region 2 with fail
  go_loopw [0, 9] (fun vb vi wr => ∃ k : Nat, k ≤ m ∧ vi = .int .i64 k ∧ Hid (Rd wr vb (l ++ eN (xs.take k)) ∧ (0 < k → Fresh w.heap.size wr vb (l ++ eN (xs.take k))) ∧ Below w.heap.size w wr)) (fun _ vi _ => m - (intOf vi).toNat)
  case atStart => exact ⟨0, Nat.zero_le _, by go_num, Lib.hid ⟨by simpa [eN] using HRD.out, fun h => by omega, Below.refl _ _⟩⟩
  case round =>
    obtain ⟨k, hk, rfl, HR⟩ := hrel
    by_cases hlt : k < m
    rotate_left
    · obtain rfl : k = m := by omega
      have e9 : xs.take k = xs := by rw [HM.out, List.take_length]
      rw [e9] at HR
      go_wp2
      go_ret
      exact ⟨_, rfl, HR.out.2.1 (by omega), HR.out.2.2⟩
    have HK : Hid (k < xs.length) := Lib.hid (by rw [← HM.out]; exact hlt)
    obtain ⟨x, hx⟩ : ∃ x, x = xs[k]'HK.out := ⟨_, rfl⟩
    have c0 : wr.cell? ⟨g, k, none⟩ = some (.int .u64 x) := (HBL.out.kept HR.out.2.2).cell (by rw [List.getElem?_map, List.getElem?_eq_getElem HK.out, ← hx]; rfl)
    have HXB := Lib.hid (HX.out x (by rw [hx]; exact List.getElem_mem _))
    have HN : Hid (l ++ eN (xs.take (k + 1)) = (l ++ eN (xs.take k)) ++ eU x) := Lib.hid (by rw [List.take_succ_eq_append_getElem HK.out, ← hx]; unfold eN; simp)
    have HRM : Hid (Room (l ++ eN (xs.take k)).length) := Lib.hid (by have h1 := HL.out; have h4 := eN_len (xs.take k); have h5 : (xs.take k).length ≤ k := (by (rw [List.length_take]; omega)); rw [List.length_append]; unfold Room; omega)
    have HC : Hid (∀ w', Below wr.heap.size wr w' → Calls Tryz.prog 109 #[u0, .int .u64 x] w' fun e w2 => ∃ v', e = .returned v' ∧ Fresh w'.heap.size w2 v' ((l ++ eN (xs.take k)) ++ eU x) ∧ Below w'.heap.size w' w2) := Lib.hid (fun w' hb => by have h1 := appendUint_any u0 _ x.toNat w' (HR.out.1.below hb) HRM.out (by have := HXB.out; omega); rw [show ((x.toNat : Nat) : Int) = x from by have := HXB.out; omega] at h1; exact h1)
    clear hx
    have i1 : (k : Int) < (m : Int) := by omega
    go_wp2_with (go_at_call 109; refine (HC.out _ (Below.refl _ _)).mono ?_; rintro e w2 ⟨v2, rfl, hf, hb⟩; have HF := Lib.hid hf; have HB2 := Lib.hid hb; clear hf hb)
    go_roundw
    case rel => exact ⟨k + 1, hlt, by go_num, Lib.hid (by rw [HN.out]; exact ⟨HF.out.rd, fun _ => HF.out.mono HR.out.2.2.size, below_and HR.out.2.2 HB2.out⟩)⟩
    case measure => simp [intOf]; omega
set_option maxRecDepth 100000 in
set_option maxHeartbeats 2000000 in
theorem text_any' (v : Value) (l s : List UInt8) (w : World) (h : Rd w v l) (hl : l.length ≤ 1000000000000) (hs : s.length ≤ 65536) : Calls Tryz.prog 34 #[v, .string (bs s)] w fun e w' => ∃ v', e = .returned v' ∧ Fresh w.heap.size w' v' (l ++ eT s) ∧ Below w.heap.size w w' := by
  have h9 := appendText_any v l (bs s) w h (by omega) (by rw [bs_size]; exact hs)
  rw [bs_size, bs_data, List.append_assoc] at h9
  have H : Hid (Calls Tryz.prog 110 #[v, .string (bs s)] w fun e w' => ∃ v', e = .returned (.tuple #[v', .int .i64 0]) ∧ Fresh w.heap.size w' v' (l ++ eT s) ∧ Below w.heap.size w w') := Lib.hid h9
  clear h9 h hl hs
  go_enter Tryz.func34, Tryz.ntmps34
  go_wp2_with (go_at_call 110; refine H.out.mono ?_; rintro e w2 ⟨v2, rfl, hf, hb⟩; have HF := Lib.hid hf; have HB2 := Lib.hid hb; clear hf hb)
  go_ret
  exact ⟨v2, rfl, HF.out, HB2.out⟩
theorem index4 (x : Am) (w : World) : ∀ k, k < 4 → (Instr.index 158 (amV x) (.int .i64 (k : Nat))).run Tryz.prog w = .ok (.int .i64 (x.get k)) w
  | 0, _ => by kernel_rfl
  | 1, _ => by kernel_rfl
  | 2, _ => by kernel_rfl
  | 3, _ => by kernel_rfl
  | n + 4, h => by omega
def eAk (a : Am) (k : Nat) : List UInt8 := (List.range k).flatMap (fun i => eI (a.get i))
theorem eAk_four (a : Am) : eAk a 4 = eA a := by unfold eAk eA; simp [List.range_succ, List.flatMap_append, Am.get]
theorem eAk_succ (a : Am) (k : Nat) : eAk a (k + 1) = eAk a k ++ eI (a.get k) := by unfold eAk; rw [List.range_succ, List.flatMap_append]; simp
theorem eAk_len (a : Am) : ∀ k, (eAk a k).length ≤ k * 10
  | 0 => by simp [eAk]
  | k + 1 => by rw [eAk_succ, List.length_append]; have := eAk_len a k; have := eI_len (a.get k); omega
set_option maxRecDepth 100000 in
set_option maxHeartbeats 2000000 in
theorem put_any (v : Value) (l : List UInt8) (a : Am) (w : World) (h : Rd w v l) (hl : l.length ≤ 1000000000000) (ha : a.okB = true) : Calls Tryz.prog 33 #[v, amV a] w fun e w' => ∃ v', e = .returned v' ∧ Fresh w.heap.size w' v' (l ++ eA a) ∧ Below w.heap.size w w' := by
  have HRD := Lib.hid (h.below (below_alloc w (.cells #[.int .i64 a.c, .int .i64 a.r, .int .i64 a.d, .int .i64 a.p] 37)))
  have HA := Lib.hid ((Am.okB_iff a).1 ha)
  have HL := Lib.hid hl
  clear h hl ha
  obtain ⟨w1, hw1⟩ : ∃ w1, w1 = w.alloc (.cells #[.int .i64 a.c, .int .i64 a.r, .int .i64 a.d, .int .i64 a.p] 37) := ⟨_, rfl⟩
  have HB1 : Hid (Below w.heap.size w w1) := Lib.hid (by rw [hw1]; exact below_alloc _ _)
  rw [← hw1] at HRD
  go_enter Tryz.func33, Tryz.ntmps33
  go_upto_region 2 with fail
  rw [← hw1]
  clear hw1
  go_loopw [0, 16] (fun vb vi wr => ∃ k : Nat, k ≤ 4 ∧ vi = .int .i64 k ∧ Hid (Rd wr vb (l ++ eAk a k) ∧ (0 < k → Fresh w.heap.size wr vb (l ++ eAk a k)) ∧ Below w.heap.size w wr)) (fun _ vi _ => 4 - (intOf vi).toNat)
  case atStart => exact ⟨0, Nat.zero_le _, by go_num, Lib.hid ⟨by simpa [eAk] using HRD.out, fun h => by omega, HB1.out⟩⟩
  case round =>
    obtain ⟨k, hk, rfl, HR⟩ := hrel
    by_cases hlt : k < 4
    rotate_left
    · obtain rfl : k = 4 := by omega
      rw [eAk_four] at HR
      go_wp2
      go_ret
      exact ⟨_, rfl, HR.out.2.1 (by omega), HR.out.2.2⟩
    have HRM : Hid (Room (l ++ eAk a k).length) := Lib.hid (by have h1 := HL.out; have h2 := eAk_len a k; rw [List.length_append]; unfold Room; omega)
    have HXB := Lib.hid (HA.out k hlt)
    obtain ⟨z, hz⟩ : ∃ z, z = a.get k := ⟨_, rfl⟩
    have HN : Hid (l ++ eAk a (k + 1) = (l ++ eAk a k) ++ eI z) := Lib.hid (by rw [eAk_succ, hz]; simp)
    rw [← hz] at HXB
    have HC : Hid (∀ w', Below wr.heap.size wr w' → Calls Tryz.prog 30 #[u0, .int .i64 z] w' fun e w2 => ∃ v', e = .returned v' ∧ Fresh w'.heap.size w2 v' ((l ++ eAk a k) ++ eI z) ∧ Below w'.heap.size w' w2) := Lib.hid (fun w' hb => appendInt_any u0 _ z w' (HR.out.1.below hb) HRM.out (by have := HXB.out; omega) (by have := HXB.out; omega))
    have HZ := Lib.hid hz
    clear hz
    have hix := index4 a wr k hlt
    rw [← HZ.out] at hix
    go_wp2_with (go_at_call 30; refine (HC.out _ (Below.refl _ _)).mono ?_; rintro e w2 ⟨v2, rfl, hf, hb⟩; have HF := Lib.hid hf; have HB2 := Lib.hid hb; clear hf hb)
    go_roundw
    case rel => exact ⟨k + 1, hlt, by go_num, Lib.hid (by rw [HN.out]; exact ⟨HF.out.rd, fun _ => HF.out.mono HR.out.2.2.size, below_and HR.out.2.2 HB2.out⟩)⟩
    case measure => simp [intOf]; omega
set_option maxRecDepth 100000 in
set_option maxHeartbeats 2000000 in
theorem task_any' (v : Value) (l : List UInt8) (x : El) (w : World) (h : Rd w v l) (hl : l.length ≤ 100000000000) (hx : Ft x) : Calls Tryz.prog 37 #[v, .agg #[.string (bs x.j), .int .i64 x.i], .int .u64 x.n] w fun e w' => ∃ v', e = .returned v' ∧ Fresh w.heap.size w' v' (l ++ eK x) ∧ Below w.heap.size w w' := by
  have HRD := Lib.hid h
  have HX := Lib.hid hx
  have HL := Lib.hid hl
  clear h hx hl
  obtain ⟨X, hX⟩ : ∃ X, X = w.heap.size := ⟨_, rfl⟩
  obtain ⟨w1, hw1⟩ : ∃ w1, w1 = w.alloc (.cells #[.string (bs x.j), .int .i64 x.i] 35) := ⟨_, rfl⟩
  have HX1 : Hid (Blk w1 X [.string (bs x.j), .int .i64 x.i] 35) := Lib.hid (by rw [hw1, hX]; exact Blk.made w [.string (bs x.j), .int .i64 x.i] _)
  have HB1 : Hid (Below w.heap.size w w1) := Lib.hid (by rw [hw1]; exact below_alloc _ _)
  go_enter Tryz.func37, Tryz.ntmps37
  go_upto_region 1 with fail
  rw [← hw1, ← hX]
  clear hw1 hX
  have e5 : IntKind.u64.wrap x.i = x.i := by have := HX.out.i; rw [IntKind.wrap_u64]; omega
  have e6 : x.i % 18446744073709551616 = x.i := by have := HX.out.i; omega
  have HLN : Hid ((l ++ eT x.j).length ≤ 1000000000000) := Lib.hid (by rw [List.length_append]; have h1 := HL.out; have h2 := eT_len x.j; have h3 := HX.out.j; omega)
  have HIN : Hid (∀ z ∈ [x.i, x.n], 0 ≤ z ∧ z < 18446744073709551616) := Lib.hid (fun z hz => by (simp at hz; rcases hz with rfl | rfl; (have := HX.out.i; omega); exact HX.out.n))
  have HSS : Hid (∀ w', Below w1.heap.size w1 w' → w'.cell? ⟨X, 0, none⟩ = some (.string (bs x.j)) ∧ w'.cell? ⟨X, 1, none⟩ = some (.int .i64 x.i)) := Lib.hid (fun w' hb => ⟨(HX1.out.kept hb).cell (j := 0) rfl, (HX1.out.kept hb).cell (j := 1) rfl⟩)
  go_region_held3 (fun w' => w'.cell? ⟨X, 0, none⟩ = some (.string (bs x.j)) ∧ w'.cell? ⟨X, 1, none⟩ = some (.int .i64 x.i))
    ((refine HSS.out _ ?_ <;> (repeat (first | with_reducible exact Below.refl _ _ | with_reducible exact HB8.out | with_reducible exact HB9.out | with_reducible apply below_dr | with_reducible apply below_as))))
    (first
      | (go_at_call 34; refine (text_any' v l x.j _ (HRD.out.below (below_and HB1.out (by repeat (first | with_reducible exact Below.refl _ _ | with_reducible apply below_dr | with_reducible apply below_as)))) (by have := HL.out; omega) (by have := HX.out.j; omega)).mono ?_; rintro e w2 ⟨v2, rfl, hf, hb⟩; have HB9 : Hid (Below w1.heap.size w1 w2) := Lib.hid (below_and (by repeat (first | with_reducible exact Below.refl _ _ | with_reducible apply below_dr | with_reducible apply below_as)) hb); have HBT := Lib.hid hb; have HF := Lib.hid (hf.mono (Below.size (below_and HB1.out (by repeat (first | with_reducible exact Below.refl _ _ | with_reducible apply below_dr | with_reducible apply below_as))))); clear hf hb)
      | (go_at_call 29; refine (nums_any v2 (l ++ eT x.j) [x.i, x.n] 2 _ _ (HF.out.rd.below (by repeat (first | with_reducible exact Below.refl _ _ | with_reducible apply below_dr | with_reducible apply below_as))) HLN.out (show Blk _ _ [.int .u64 x.i, .int .u64 x.n] _ from by (first | ((repeat (first | with_reducible exact Blk.made _ [.int .u64 x.i, .int .u64 x.n] _ | with_reducible apply blk_dr)); done) | (refine Blk.kept ?_ HBT.out; repeat (first | with_reducible exact Blk.made _ [.int .u64 x.i, .int .u64 x.n] _ | with_reducible apply blk_dr)))) rfl (by omega) (by omega) HIN.out).mono ?_; rintro e w3 ⟨v3, rfl, hf, hb⟩; have HB8 : Hid (Below w1.heap.size w1 w3) := Lib.hid (below_and (by repeat (first | with_reducible exact HB9.out | with_reducible apply below_dr | with_reducible apply below_as)) hb); have HB3 : Hid (Below w.heap.size w w3) := Lib.hid (below_and (below_and HB1.out (by repeat (first | with_reducible exact HB9.out | with_reducible apply below_dr | with_reducible apply below_as))) hb); have HF3 := Lib.hid (hf.mono (Below.size (below_and HB1.out (by repeat (first | with_reducible exact HB9.out | with_reducible apply below_dr | with_reducible apply below_as))))); clear hf hb))
  all_goals (go_wp2; go_ret; have h9 := HF3.out; rw [List.append_assoc, show eT x.j ++ eN [x.i, x.n] = eK x from by unfold eK eN; simp] at h9; exact ⟨v3, rfl, h9, HB3.out⟩)
end Go.Proofs.YtopkfomlppnpeaaGreatDoor.Ms
