/- , laid together: MsNums, MsPut, MsList. -/
import Derived.Test.YtopkfomlppnpeaaGreatDoorMFt
import Derived.Test.YtopkfomlppnpeaaGreatDoorMCmp
import Derived.Test.YtopkfomlppnpeaaGreatDoorMApp
import Derived.Deep.RegionHeld3
import Derived.Test.YtopkfomlppnpeaaGreatDoorMEl
namespace Go.Proofs.YtopkfomlppnpeaaGreatDoor.Ms
open Go.RowKit Go.Proofs.YtopkfomlppnpeaaGreatDoor

theorem fresh_slice {base : Nat} {w : World} {v : Value} {l : List UInt8} (h : Fresh base w v l) : ∃ p c, v = .slice p l.length c := by
  obtain ⟨p, c, hv, -, -⟩ := own_slice h
  exact ⟨p, c, hv⟩
theorem rd_slice {w : World} {v : Value} {l : List UInt8} (h : Rd w v l) : ∃ p c, v = .slice p l.length c := by
  obtain ⟨p, c, hv, -⟩ := h.parts
  exact ⟨p, c, hv⟩
theorem fresh_w {base : Nat} {w w' : World} {v : Value} {l : List UInt8} (h : Fresh base w v l) (hb : Below w.heap.size w w') : Fresh base w' v l := h.below hb
def eN (xs : List Int) : List UInt8 := xs.flatMap eU
theorem eN_len : ∀ ys : List Int, (eN ys).length ≤ ys.length * 10
  | [] => by simp [eN]
  | y :: ys => by
    have h1 : eN (y :: ys) = eU y ++ eN ys := by unfold eN; rw [List.flatMap_cons]
    rw [h1, List.length_append, List.length_cons]
    have := eU_len y
    have := eN_len ys
    omega
set_option maxRecDepth 100000 in
set_option maxHeartbeats 2000000 in
theorem nums_any (v : Value) (l : List UInt8) (xs : List Int) (m g : Nat) (w : World) (h : Rd w v l) (hl : l.length ≤ 1000000000000) (hb : Blk w g (xs.map (Value.int .u64)) 27) (hm : m = xs.length) (h0 : 0 < m) (h9 : m ≤ 10) (hx : ∀ x ∈ xs, 0 ≤ x ∧ x < 18446744073709551616) : Calls Tryz.prog 29 #[v, .slice (some ⟨g, 0, none⟩) m m] w fun e w' => ∃ v', e = .returned v' ∧ Fresh w.heap.size w' v' (l ++ eN xs) ∧ Below w.heap.size w w' := by
  have HRD := Lib.hid h
  have HBL := Lib.hid hb
  have HM := Lib.hid hm
  have HX := Lib.hid hx
  have HL := Lib.hid hl
  clear h hb hm hx hl
  go_enter Tryz.func29, Tryz.ntmps29
  go_upto_region 2 with fail
  go_loopw [0, 9] (fun vb vi wr => ∃ k : Nat, k ≤ m ∧ vi = .int .i64 k ∧ Hid (Rd wr vb (l ++ eN (xs.take k)) ∧ (0 < k → Fresh w.heap.size wr vb (l ++ eN (xs.take k))) ∧ Below w.heap.size w wr)) (fun _ vi _ => m - (intOf vi).toNat)
  case atStart => exact ⟨0, Nat.zero_le _, by go_num, Lib.hid ⟨by simpa [eN] using HRD.out, fun h => by omega, Below.refl _ _⟩⟩
  case round =>
    obtain ⟨k, hk, rfl, HR⟩ := hrel
    by_cases hlt : k < m
    rotate_left
    · obtain rfl : k = m := by omega
      have e9 : xs.take k = xs := by rw [HM.out, List.take_length]
      rw [e9] at HR
      go_wp2
      go_ret
      exact ⟨_, rfl, HR.out.2.1 (by omega), HR.out.2.2⟩
    have HK : Hid (k < xs.length) := Lib.hid (by rw [← HM.out]; exact hlt)
    obtain ⟨x, hx⟩ : ∃ x, x = xs[k]'HK.out := ⟨_, rfl⟩
    have c0 : wr.cell? ⟨g, k, none⟩ = some (.int .u64 x) := (HBL.out.kept HR.out.2.2).cell (by rw [List.getElem?_map, List.getElem?_eq_getElem HK.out, ← hx]; rfl)
    have HXB := Lib.hid (HX.out x (by rw [hx]; exact List.getElem_mem _))
    have HN : Hid (l ++ eN (xs.take (k + 1)) = (l ++ eN (xs.take k)) ++ eU x) := Lib.hid (by rw [List.take_succ_eq_append_getElem HK.out, ← hx]; unfold eN; simp)
    have HRM : Hid (Room (l ++ eN (xs.take k)).length) := Lib.hid (by have h1 := HL.out; have h4 := eN_len (xs.take k); have h5 : (xs.take k).length ≤ k := (by (rw [List.length_take]; omega)); rw [List.length_append]; unfold Room; omega)
    have HC : Hid (∀ w', Below wr.heap.size wr w' → Calls Tryz.prog 109 #[u0, .int .u64 x] w' fun e w2 => ∃ v', e = .returned v' ∧ Fresh w'.heap.size w2 v' ((l ++ eN (xs.take k)) ++ eU x) ∧ Below w'.heap.size w' w2) := Lib.hid (fun w' hb => by have h1 := appendUint_any u0 _ x.toNat w' (HR.out.1.below hb) HRM.out (by have := HXB.out; omega); rw [show ((x.toNat : Nat) : Int) = x from by have := HXB.out; omega] at h1; exact h1)
    clear hx
    have i1 : (k : Int) < (m : Int) := by omega
    go_wp2_with (go_at_call 109; refine (HC.out _ (Below.refl _ _)).mono ?_; rintro e w2 ⟨v2, rfl, hf, hb⟩; have HF := Lib.hid hf; have HB2 := Lib.hid hb; clear hf hb)
    go_roundw
    case rel => exact ⟨k + 1, hlt, by go_num, Lib.hid (by rw [HN.out]; exact ⟨HF.out.rd, fun _ => HF.out.mono HR.out.2.2.size, below_and HR.out.2.2 HB2.out⟩)⟩
    case measure => simp [intOf]; omega
set_option maxRecDepth 100000 in
set_option maxHeartbeats 2000000 in
theorem text_any' (v : Value) (l s : List UInt8) (w : World) (h : Rd w v l) (hl : l.length ≤ 1000000000000) (hs : s.length ≤ 65536) : Calls Tryz.prog 34 #[v, .string (bs s)] w fun e w' => ∃ v', e = .returned v' ∧ Fresh w.heap.size w' v' (l ++ eT s) ∧ Below w.heap.size w w' := by
  have h9 := appendText_any v l (bs s) w h (by omega) (by rw [bs_size]; exact hs)
  rw [bs_size, bs_data, List.append_assoc] at h9
  have H : Hid (Calls Tryz.prog 110 #[v, .string (bs s)] w fun e w' => ∃ v', e = .returned (.tuple #[v', .int .i64 0]) ∧ Fresh w.heap.size w' v' (l ++ eT s) ∧ Below w.heap.size w w') := Lib.hid h9
  clear h9 h hl hs
  go_enter Tryz.func34, Tryz.ntmps34
  go_wp2_with (go_at_call 110; refine H.out.mono ?_; rintro e w2 ⟨v2, rfl, hf, hb⟩; have HF := Lib.hid hf; have HB2 := Lib.hid hb; clear hf hb)
  go_ret
  exact ⟨v2, rfl, HF.out, HB2.out⟩
theorem index4 (x : Am) (w : World) : ∀ k, k < 4 → (Instr.index 158 (amV x) (.int .i64 (k : Nat))).run Tryz.prog w = .ok (.int .i64 (x.get k)) w
  | 0, _ => by kernel_rfl
  | 1, _ => by kernel_rfl
  | 2, _ => by kernel_rfl
  | 3, _ => by kernel_rfl
  | n + 4, h => by omega
def eAk (a : Am) (k : Nat) : List UInt8 := (List.range k).flatMap (fun i => eI (a.get i))
theorem eAk_four (a : Am) : eAk a 4 = eA a := by unfold eAk eA; simp [List.range_succ, List.flatMap_append, Am.get]
theorem eAk_succ (a : Am) (k : Nat) : eAk a (k + 1) = eAk a k ++ eI (a.get k) := by unfold eAk; rw [List.range_succ, List.flatMap_append]; simp
theorem eAk_len (a : Am) : ∀ k, (eAk a k).length ≤ k * 10
  | 0 => by simp [eAk]
  | k + 1 => by rw [eAk_succ, List.length_append]; have := eAk_len a k; have := eI_len (a.get k); omega
set_option maxRecDepth 100000 in
set_option maxHeartbeats 2000000 in
theorem put_any (v : Value) (l : List UInt8) (a : Am) (w : World) (h : Rd w v l) (hl : l.length ≤ 1000000000000) (ha : a.okB = true) : Calls Tryz.prog 33 #[v, amV a] w fun e w' => ∃ v', e = .returned v' ∧ Fresh w.heap.size w' v' (l ++ eA a) ∧ Below w.heap.size w w' := by
  have HRD := Lib.hid (h.below (below_alloc w (.cells #[.int .i64 a.c, .int .i64 a.r, .int .i64 a.d, .int .i64 a.p] 37)))
  have HA := Lib.hid ((Am.okB_iff a).1 ha)
  have HL := Lib.hid hl
  clear h hl ha
  obtain ⟨w1, hw1⟩ : ∃ w1, w1 = w.alloc (.cells #[.int .i64 a.c, .int .i64 a.r, .int .i64 a.d, .int .i64 a.p] 37) := ⟨_, rfl⟩
  have HB1 : Hid (Below w.heap.size w w1) := Lib.hid (by rw [hw1]; exact below_alloc _ _)
  rw [← hw1] at HRD
  go_enter Tryz.func33, Tryz.ntmps33
  go_upto_region 2 with fail
  rw [← hw1]
  clear hw1
  go_loopw [0, 16] (fun vb vi wr => ∃ k : Nat, k ≤ 4 ∧ vi = .int .i64 k ∧ Hid (Rd wr vb (l ++ eAk a k) ∧ (0 < k → Fresh w.heap.size wr vb (l ++ eAk a k)) ∧ Below w.heap.size w wr)) (fun _ vi _ => 4 - (intOf vi).toNat)
  case atStart => exact ⟨0, Nat.zero_le _, by go_num, Lib.hid ⟨by simpa [eAk] using HRD.out, fun h => by omega, HB1.out⟩⟩
  case round =>
    obtain ⟨k, hk, rfl, HR⟩ := hrel
    by_cases hlt : k < 4
    rotate_left
    · obtain rfl : k = 4 := by omega
      rw [eAk_four] at HR
      go_wp2
      go_ret
      exact ⟨_, rfl, HR.out.2.1 (by omega), HR.out.2.2⟩
    have HRM : Hid (Room (l ++ eAk a k).length) := Lib.hid (by have h1 := HL.out; have h2 := eAk_len a k; rw [List.length_append]; unfold Room; omega)
    have HXB := Lib.hid (HA.out k hlt)
    obtain ⟨z, hz⟩ : ∃ z, z = a.get k := ⟨_, rfl⟩
    have HN : Hid (l ++ eAk a (k + 1) = (l ++ eAk a k) ++ eI z) := Lib.hid (by rw [eAk_succ, hz]; simp)
    rw [← hz] at HXB
    have HC : Hid (∀ w', Below wr.heap.size wr w' → Calls Tryz.prog 30 #[u0, .int .i64 z] w' fun e w2 => ∃ v', e = .returned v' ∧ Fresh w'.heap.size w2 v' ((l ++ eAk a k) ++ eI z) ∧ Below w'.heap.size w' w2) := Lib.hid (fun w' hb => appendInt_any u0 _ z w' (HR.out.1.below hb) HRM.out (by have := HXB.out; omega) (by have := HXB.out; omega))
    have HZ := Lib.hid hz
    clear hz
    have hix := index4 a wr k hlt
    rw [← HZ.out] at hix
    go_wp2_with (go_at_call 30; refine (HC.out _ (Below.refl _ _)).mono ?_; rintro e w2 ⟨v2, rfl, hf, hb⟩; have HF := Lib.hid hf; have HB2 := Lib.hid hb; clear hf hb)
    go_roundw
    case rel => exact ⟨k + 1, hlt, by go_num, Lib.hid (by rw [HN.out]; exact ⟨HF.out.rd, fun _ => HF.out.mono HR.out.2.2.size, below_and HR.out.2.2 HB2.out⟩)⟩
    case measure => simp [intOf]; omega
set_option maxRecDepth 100000 in
set_option maxHeartbeats 2000000 in
theorem task_any' (v : Value) (l : List UInt8) (x : El) (w : World) (h : Rd w v l) (hl : l.length ≤ 100000000000) (hx : Ft x) : Calls Tryz.prog 37 #[v, .agg #[.string (bs x.j), .int .i64 x.i], .int .u64 x.n] w fun e w' => ∃ v', e = .returned v' ∧ Fresh w.heap.size w' v' (l ++ eK x) ∧ Below w.heap.size w w' := by
  have HRD := Lib.hid h
  have HX := Lib.hid hx
  have HL := Lib.hid hl
  clear h hx hl
  obtain ⟨X, hX⟩ : ∃ X, X = w.heap.size := ⟨_, rfl⟩
  obtain ⟨w1, hw1⟩ : ∃ w1, w1 = w.alloc (.cells #[.string (bs x.j), .int .i64 x.i] 35) := ⟨_, rfl⟩
  have HX1 : Hid (Blk w1 X [.string (bs x.j), .int .i64 x.i] 35) := Lib.hid (by rw [hw1, hX]; exact Blk.made w [.string (bs x.j), .int .i64 x.i] _)
  have HB1 : Hid (Below w.heap.size w w1) := Lib.hid (by rw [hw1]; exact below_alloc _ _)
  go_enter Tryz.func37, Tryz.ntmps37
  go_upto_region 1 with fail
  rw [← hw1, ← hX]
  clear hw1 hX
  have e5 : IntKind.u64.wrap x.i = x.i := by have := HX.out.i; rw [IntKind.wrap_u64]; omega
  have e6 : x.i % 18446744073709551616 = x.i := by have := HX.out.i; omega
  have HLN : Hid ((l ++ eT x.j).length ≤ 1000000000000) := Lib.hid (by rw [List.length_append]; have h1 := HL.out; have h2 := eT_len x.j; have h3 := HX.out.j; omega)
  have HIN : Hid (∀ z ∈ [x.i, x.n], 0 ≤ z ∧ z < 18446744073709551616) := Lib.hid (fun z hz => by (simp at hz; rcases hz with rfl | rfl; (have := HX.out.i; omega); exact HX.out.n))
  have HSS : Hid (∀ w', Below w1.heap.size w1 w' → w'.cell? ⟨X, 0, none⟩ = some (.string (bs x.j)) ∧ w'.cell? ⟨X, 1, none⟩ = some (.int .i64 x.i)) := Lib.hid (fun w' hb => ⟨(HX1.out.kept hb).cell (j := 0) rfl, (HX1.out.kept hb).cell (j := 1) rfl⟩)
  go_region_held3 (fun w' => w'.cell? ⟨X, 0, none⟩ = some (.string (bs x.j)) ∧ w'.cell? ⟨X, 1, none⟩ = some (.int .i64 x.i))
    ((refine HSS.out _ ?_ <;> (repeat (first | with_reducible exact Below.refl _ _ | with_reducible exact HB8.out | with_reducible exact HB9.out | with_reducible apply below_dr | with_reducible apply below_as))))
    (first
      | (go_at_call 34; refine (text_any' v l x.j _ (HRD.out.below (below_and HB1.out (by repeat (first | with_reducible exact Below.refl _ _ | with_reducible apply below_dr | with_reducible apply below_as)))) (by have := HL.out; omega) (by have := HX.out.j; omega)).mono ?_; rintro e w2 ⟨v2, rfl, hf, hb⟩; have HB9 : Hid (Below w1.heap.size w1 w2) := Lib.hid (below_and (by repeat (first | with_reducible exact Below.refl _ _ | with_reducible apply below_dr | with_reducible apply below_as)) hb); have HBT := Lib.hid hb; have HF := Lib.hid (hf.mono (Below.size (below_and HB1.out (by repeat (first | with_reducible exact Below.refl _ _ | with_reducible apply below_dr | with_reducible apply below_as))))); clear hf hb)
      | (go_at_call 29; refine (nums_any v2 (l ++ eT x.j) [x.i, x.n] 2 _ _ (HF.out.rd.below (by repeat (first | with_reducible exact Below.refl _ _ | with_reducible apply below_dr | with_reducible apply below_as))) HLN.out (show Blk _ _ [.int .u64 x.i, .int .u64 x.n] _ from by (first | ((repeat (first | with_reducible exact Blk.made _ [.int .u64 x.i, .int .u64 x.n] _ | with_reducible apply blk_dr)); done) | (refine Blk.kept ?_ HBT.out; repeat (first | with_reducible exact Blk.made _ [.int .u64 x.i, .int .u64 x.n] _ | with_reducible apply blk_dr)))) rfl (by omega) (by omega) HIN.out).mono ?_; rintro e w3 ⟨v3, rfl, hf, hb⟩; have HB8 : Hid (Below w1.heap.size w1 w3) := Lib.hid (below_and (by repeat (first | with_reducible exact HB9.out | with_reducible apply below_dr | with_reducible apply below_as)) hb); have HB3 : Hid (Below w.heap.size w w3) := Lib.hid (below_and (below_and HB1.out (by repeat (first | with_reducible exact HB9.out | with_reducible apply below_dr | with_reducible apply below_as))) hb); have HF3 := Lib.hid (hf.mono (Below.size (below_and HB1.out (by repeat (first | with_reducible exact HB9.out | with_reducible apply below_dr | with_reducible apply below_as))))); clear hf hb))
  all_goals (go_wp2; go_ret; have h9 := HF3.out; rw [List.append_assoc, show eT x.j ++ eN [x.i, x.n] = eK x from by unfold eK eN; simp] at h9; exact ⟨v3, rfl, h9, HB3.out⟩)
end Go.Proofs.YtopkfomlppnpeaaGreatDoor.Ms

namespace Go.Proofs.YtopkfomlppnpeaaGreatDoor.Ms
open Go.RowKit Go.Proofs.YtopkfomlppnpeaaGreatDoor

theorem blk_made' {w : World} {g : Nat} {t : TypeId} (cs : List Value) (hg : g = w.heap.size) : Blk (w.alloc (.cells cs.toArray t)) g cs t := by
  subst hg
  exact Blk.made w cs t
theorem eN_one (x : Int) : eN [x] = eU x := by unfold eN; simp
theorem ft_lens {x : El} (h : Ft x) : (eT x.j).length ≤ 110 ∧ (eT x.s).length ≤ 110 ∧ (eA x.a).length ≤ 40 ∧ (eK x).length ≤ 130 ∧ (eN [x.q]).length ≤ 10 ∧ (eN [x.k]).length ≤ 10 := by
  have h1 := eT_len x.j
  have h2 := eT_len x.s
  have h3 := eA_len x.a
  have h4 := eK_len x
  have h5 := eU_len x.q
  have h6 := eU_len x.k
  have h7 := h.j
  have h8 := h.s
  rw [eN_one, eN_one]
  omega
set_option maxRecDepth 100000 in
set_option maxHeartbeats 4000000 in
theorem envE_any (v : Value) (l : List UInt8) (x : El) (w : World) (h : Rd w v l) (hl : l.length ≤ 10000000000) (hx : Ft x) : Calls Tryz.prog 32 #[v, envV x] w fun e w' => ∃ v', e = .returned v' ∧ Fresh w.heap.size w' v' (l ++ envE x) ∧ Below w.heap.size w w' := by
  have HRD := Lib.hid h
  have HX := Lib.hid hx
  have HL := Lib.hid hl
  have HLS := Lib.hid (ft_lens hx)
  clear h hx hl
  obtain ⟨X, hX⟩ : ∃ X, X = w.heap.size := ⟨_, rfl⟩
  obtain ⟨w1, hw1⟩ : ∃ w1, w1 = w.alloc (.cells #[.string (bs x.j), .int .i64 x.a.c, .int .i64 x.a.r, .int .i64 x.a.d, .int .i64 x.a.p] 66) := ⟨_, rfl⟩
  have HX1 : Hid (Blk w1 X [.string (bs x.j), .int .i64 x.a.c, .int .i64 x.a.r, .int .i64 x.a.d, .int .i64 x.a.p] 66) := Lib.hid (by rw [hw1, hX]; exact Blk.made w [.string (bs x.j), .int .i64 x.a.c, .int .i64 x.a.r, .int .i64 x.a.d, .int .i64 x.a.p] _)
  have HB1 : Hid (Below w.heap.size w w1) := Lib.hid (by rw [hw1]; exact below_alloc _ _)
  have HSS : Hid (∀ w', Below w1.heap.size w1 w' → w'.cell? ⟨X, 0, none⟩ = some (.string (bs x.j)) ∧ w'.cell? ⟨X, 1, none⟩ = some (.int .i64 x.a.c) ∧ w'.cell? ⟨X, 2, none⟩ = some (.int .i64 x.a.r) ∧ w'.cell? ⟨X, 3, none⟩ = some (.int .i64 x.a.d) ∧ w'.cell? ⟨X, 4, none⟩ = some (.int .i64 x.a.p)) := Lib.hid (fun w' hb => ⟨(HX1.out.kept hb).cell (j := 0) rfl, (HX1.out.kept hb).cell (j := 1) rfl, (HX1.out.kept hb).cell (j := 2) rfl, (HX1.out.kept hb).cell (j := 3) rfl, (HX1.out.kept hb).cell (j := 4) rfl⟩)
  have HLN0 : Hid (l.length ≤ 100000000000) := Lib.hid (by (try simp only [List.length_append]); have h1 := HL.out; have h2 := HLS.out; omega)
  have HLN1 : Hid ((l ++ eT x.j).length ≤ 100000000000) := Lib.hid (by (try simp only [List.length_append]); have h1 := HL.out; have h2 := HLS.out; omega)
  have HLN2 : Hid (((l ++ eT x.j) ++ eA x.a).length ≤ 100000000000) := Lib.hid (by (try simp only [List.length_append]); have h1 := HL.out; have h2 := HLS.out; omega)
  go_enter Tryz.func32, Tryz.ntmps32
  go_upto_region 1 with fail
  rw [← hw1, ← hX]
  clear hw1 hX
  go_region_held3 (fun w' => w'.cell? ⟨X, 0, none⟩ = some (.string (bs x.j)) ∧ w'.cell? ⟨X, 1, none⟩ = some (.int .i64 x.a.c) ∧ w'.cell? ⟨X, 2, none⟩ = some (.int .i64 x.a.r) ∧ w'.cell? ⟨X, 3, none⟩ = some (.int .i64 x.a.d) ∧ w'.cell? ⟨X, 4, none⟩ = some (.int .i64 x.a.p))
    ((refine HSS.out _ ?_ <;> (repeat (first | with_reducible exact Below.refl _ _ | with_reducible exact HB29.out | with_reducible exact HB19.out | with_reducible apply below_dr | with_reducible apply below_as))))
    (first
      | (go_at_call 33; refine (put_any v2 (l ++ eT x.j) x.a _ (HF1.out.rd.below (by repeat (first | with_reducible exact Below.refl _ _ | with_reducible apply below_dr | with_reducible apply below_as))) (by have := HLN1.out; omega) HX.out.a).mono ?_; rintro e w3 ⟨v3, rfl, hf, hb⟩; have HBT2 := Lib.hid hb; have HB29 : Hid (Below w1.heap.size w1 w3) := Lib.hid (below_and (by repeat (first | with_reducible exact Below.refl _ _ | with_reducible exact HB29.out | with_reducible exact HB19.out | with_reducible apply below_dr | with_reducible apply below_as)) hb); have HF2 : Hid (Fresh w.heap.size w3 v3 ((l ++ eT x.j) ++ eA x.a)) := Lib.hid (hf.mono (Below.size (below_and HB1.out (by repeat (first | with_reducible exact Below.refl _ _ | with_reducible exact HB29.out | with_reducible exact HB19.out | with_reducible apply below_dr | with_reducible apply below_as))))); clear hf hb)
      | (go_at_call 34; refine (text_any' v l x.j _ (HRD.out.below (below_and HB1.out (by repeat (first | with_reducible exact Below.refl _ _ | with_reducible exact HB29.out | with_reducible exact HB19.out | with_reducible apply below_dr | with_reducible apply below_as)))) (by have := HLN0.out; omega) (by have := HX.out.j; omega)).mono ?_; rintro e w2 ⟨v2, rfl, hf, hb⟩; have HBT1 := Lib.hid hb; have HB19 : Hid (Below w1.heap.size w1 w2) := Lib.hid (below_and (by repeat (first | with_reducible exact Below.refl _ _ | with_reducible exact HB29.out | with_reducible exact HB19.out | with_reducible apply below_dr | with_reducible apply below_as)) hb); have HF1 : Hid (Fresh w.heap.size w2 v2 (l ++ eT x.j)) := Lib.hid (hf.mono (Below.size (below_and HB1.out (by repeat (first | with_reducible exact Below.refl _ _ | with_reducible exact HB29.out | with_reducible exact HB19.out | with_reducible apply below_dr | with_reducible apply below_as))))); clear hf hb))
  all_goals (go_wp2; go_ret; have h9 := HF2.out; rw [show ((l ++ eT x.j) ++ eA x.a) = l ++ envE x from by unfold envE; simp [eN_one]] at h9; exact ⟨v3, rfl, h9, below_and HB1.out HB29.out⟩)
set_option maxRecDepth 100000 in
set_option maxHeartbeats 4000000 in
theorem staE_any (v : Value) (l : List UInt8) (x : El) (w : World) (h : Rd w v l) (hl : l.length ≤ 10000000000) (hx : Ft x) : Calls Tryz.prog 36 #[v, staV x] w fun e w' => ∃ v', e = .returned v' ∧ Fresh w.heap.size w' v' (l ++ staE x) ∧ Below w.heap.size w w' := by
  have HRD := Lib.hid h
  have HX := Lib.hid hx
  have HL := Lib.hid hl
  have HLS := Lib.hid (ft_lens hx)
  clear h hx hl
  obtain ⟨X, hX⟩ : ∃ X, X = w.heap.size := ⟨_, rfl⟩
  obtain ⟨w1, hw1⟩ : ∃ w1, w1 = w.alloc (.cells #[.string (bs x.j), .int .i64 x.i, .int .u64 x.n, .int .i64 x.a.c, .int .i64 x.a.r, .int .i64 x.a.d, .int .i64 x.a.p, .string (bs x.s)] 39) := ⟨_, rfl⟩
  have HX1 : Hid (Blk w1 X [.string (bs x.j), .int .i64 x.i, .int .u64 x.n, .int .i64 x.a.c, .int .i64 x.a.r, .int .i64 x.a.d, .int .i64 x.a.p, .string (bs x.s)] 39) := Lib.hid (by rw [hw1, hX]; exact Blk.made w [.string (bs x.j), .int .i64 x.i, .int .u64 x.n, .int .i64 x.a.c, .int .i64 x.a.r, .int .i64 x.a.d, .int .i64 x.a.p, .string (bs x.s)] _)
  have HB1 : Hid (Below w.heap.size w w1) := Lib.hid (by rw [hw1]; exact below_alloc _ _)
  have HSS : Hid (∀ w', Below w1.heap.size w1 w' → w'.cell? ⟨X, 0, none⟩ = some (.string (bs x.j)) ∧ w'.cell? ⟨X, 1, none⟩ = some (.int .i64 x.i) ∧ w'.cell? ⟨X, 2, none⟩ = some (.int .u64 x.n) ∧ w'.cell? ⟨X, 3, none⟩ = some (.int .i64 x.a.c) ∧ w'.cell? ⟨X, 4, none⟩ = some (.int .i64 x.a.r) ∧ w'.cell? ⟨X, 5, none⟩ = some (.int .i64 x.a.d) ∧ w'.cell? ⟨X, 6, none⟩ = some (.int .i64 x.a.p) ∧ w'.cell? ⟨X, 7, none⟩ = some (.string (bs x.s))) := Lib.hid (fun w' hb => ⟨(HX1.out.kept hb).cell (j := 0) rfl, (HX1.out.kept hb).cell (j := 1) rfl, (HX1.out.kept hb).cell (j := 2) rfl, (HX1.out.kept hb).cell (j := 3) rfl, (HX1.out.kept hb).cell (j := 4) rfl, (HX1.out.kept hb).cell (j := 5) rfl, (HX1.out.kept hb).cell (j := 6) rfl, (HX1.out.kept hb).cell (j := 7) rfl⟩)
  have HLN0 : Hid (l.length ≤ 100000000000) := Lib.hid (by (try simp only [List.length_append]); have h1 := HL.out; have h2 := HLS.out; omega)
  have HLN1 : Hid ((l ++ eK x).length ≤ 100000000000) := Lib.hid (by (try simp only [List.length_append]); have h1 := HL.out; have h2 := HLS.out; omega)
  have HLN2 : Hid (((l ++ eK x) ++ eA x.a).length ≤ 100000000000) := Lib.hid (by (try simp only [List.length_append]); have h1 := HL.out; have h2 := HLS.out; omega)
  have HLN3 : Hid ((((l ++ eK x) ++ eA x.a) ++ eT x.s).length ≤ 100000000000) := Lib.hid (by (try simp only [List.length_append]); have h1 := HL.out; have h2 := HLS.out; omega)
  go_enter Tryz.func36, Tryz.ntmps36
  go_upto_region 1 with fail
  rw [← hw1, ← hX]
  clear hw1 hX
  go_region_held3 (fun w' => w'.cell? ⟨X, 0, none⟩ = some (.string (bs x.j)) ∧ w'.cell? ⟨X, 1, none⟩ = some (.int .i64 x.i) ∧ w'.cell? ⟨X, 2, none⟩ = some (.int .u64 x.n) ∧ w'.cell? ⟨X, 3, none⟩ = some (.int .i64 x.a.c) ∧ w'.cell? ⟨X, 4, none⟩ = some (.int .i64 x.a.r) ∧ w'.cell? ⟨X, 5, none⟩ = some (.int .i64 x.a.d) ∧ w'.cell? ⟨X, 6, none⟩ = some (.int .i64 x.a.p) ∧ w'.cell? ⟨X, 7, none⟩ = some (.string (bs x.s)))
    ((refine HSS.out _ ?_ <;> (repeat (first | with_reducible exact Below.refl _ _ | with_reducible exact HB39.out | with_reducible exact HB29.out | with_reducible exact HB19.out | with_reducible apply below_dr | with_reducible apply below_as))))
    (first
      | (go_at_call 34; refine (text_any' v3 ((l ++ eK x) ++ eA x.a) x.s _ (HF2.out.rd.below (by repeat (first | with_reducible exact Below.refl _ _ | with_reducible apply below_dr | with_reducible apply below_as))) (by have := HLN2.out; omega) (by have := HX.out.s; omega)).mono ?_; rintro e w4 ⟨v4, rfl, hf, hb⟩; have HBT3 := Lib.hid hb; have HB39 : Hid (Below w1.heap.size w1 w4) := Lib.hid (below_and (by repeat (first | with_reducible exact Below.refl _ _ | with_reducible exact HB39.out | with_reducible exact HB29.out | with_reducible exact HB19.out | with_reducible apply below_dr | with_reducible apply below_as)) hb); have HF3 : Hid (Fresh w.heap.size w4 v4 (((l ++ eK x) ++ eA x.a) ++ eT x.s)) := Lib.hid (hf.mono (Below.size (below_and HB1.out (by repeat (first | with_reducible exact Below.refl _ _ | with_reducible exact HB39.out | with_reducible exact HB29.out | with_reducible exact HB19.out | with_reducible apply below_dr | with_reducible apply below_as))))); clear hf hb)
      | (go_at_call 33; refine (put_any v2 (l ++ eK x) x.a _ (HF1.out.rd.below (by repeat (first | with_reducible exact Below.refl _ _ | with_reducible apply below_dr | with_reducible apply below_as))) (by have := HLN1.out; omega) HX.out.a).mono ?_; rintro e w3 ⟨v3, rfl, hf, hb⟩; have HBT2 := Lib.hid hb; have HB29 : Hid (Below w1.heap.size w1 w3) := Lib.hid (below_and (by repeat (first | with_reducible exact Below.refl _ _ | with_reducible exact HB39.out | with_reducible exact HB29.out | with_reducible exact HB19.out | with_reducible apply below_dr | with_reducible apply below_as)) hb); have HF2 : Hid (Fresh w.heap.size w3 v3 ((l ++ eK x) ++ eA x.a)) := Lib.hid (hf.mono (Below.size (below_and HB1.out (by repeat (first | with_reducible exact Below.refl _ _ | with_reducible exact HB39.out | with_reducible exact HB29.out | with_reducible exact HB19.out | with_reducible apply below_dr | with_reducible apply below_as))))); clear hf hb)
      | (go_at_call 37; refine (task_any' v l x _ (HRD.out.below (below_and HB1.out (by repeat (first | with_reducible exact Below.refl _ _ | with_reducible exact HB39.out | with_reducible exact HB29.out | with_reducible exact HB19.out | with_reducible apply below_dr | with_reducible apply below_as)))) (by have := HLN0.out; omega) HX.out).mono ?_; rintro e w2 ⟨v2, rfl, hf, hb⟩; have HBT1 := Lib.hid hb; have HB19 : Hid (Below w1.heap.size w1 w2) := Lib.hid (below_and (by repeat (first | with_reducible exact Below.refl _ _ | with_reducible exact HB39.out | with_reducible exact HB29.out | with_reducible exact HB19.out | with_reducible apply below_dr | with_reducible apply below_as)) hb); have HF1 : Hid (Fresh w.heap.size w2 v2 (l ++ eK x)) := Lib.hid (hf.mono (Below.size (below_and HB1.out (by repeat (first | with_reducible exact Below.refl _ _ | with_reducible exact HB39.out | with_reducible exact HB29.out | with_reducible exact HB19.out | with_reducible apply below_dr | with_reducible apply below_as))))); clear hf hb))
  all_goals (go_wp2; go_ret; have h9 := HF3.out; rw [show (((l ++ eK x) ++ eA x.a) ++ eT x.s) = l ++ staE x from by unfold staE; simp [eN_one]] at h9; exact ⟨v4, rfl, h9, below_and HB1.out HB39.out⟩)
set_option maxRecDepth 100000 in
set_option maxHeartbeats 4000000 in
theorem stoE_any (v : Value) (l : List UInt8) (x : El) (w : World) (h : Rd w v l) (hl : l.length ≤ 10000000000) (hx : Ft x) : Calls Tryz.prog 39 #[v, stoV x] w fun e w' => ∃ v', e = .returned v' ∧ Fresh w.heap.size w' v' (l ++ stoE x) ∧ Below w.heap.size w w' := by
  have HRD := Lib.hid h
  have HX := Lib.hid hx
  have HL := Lib.hid hl
  have HLS := Lib.hid (ft_lens hx)
  clear h hx hl
  obtain ⟨X, hX⟩ : ∃ X, X = w.heap.size := ⟨_, rfl⟩
  obtain ⟨w1, hw1⟩ : ∃ w1, w1 = w.alloc (.cells #[.string (bs x.j), .int .i64 x.i, .int .u64 x.n] 75) := ⟨_, rfl⟩
  have HX1 : Hid (Blk w1 X [.string (bs x.j), .int .i64 x.i, .int .u64 x.n] 75) := Lib.hid (by rw [hw1, hX]; exact Blk.made w [.string (bs x.j), .int .i64 x.i, .int .u64 x.n] _)
  have HB1 : Hid (Below w.heap.size w w1) := Lib.hid (by rw [hw1]; exact below_alloc _ _)
  have HSS : Hid (∀ w', Below w1.heap.size w1 w' → w'.cell? ⟨X, 0, none⟩ = some (.string (bs x.j)) ∧ w'.cell? ⟨X, 1, none⟩ = some (.int .i64 x.i) ∧ w'.cell? ⟨X, 2, none⟩ = some (.int .u64 x.n)) := Lib.hid (fun w' hb => ⟨(HX1.out.kept hb).cell (j := 0) rfl, (HX1.out.kept hb).cell (j := 1) rfl, (HX1.out.kept hb).cell (j := 2) rfl⟩)
  have HLN0 : Hid (l.length ≤ 100000000000) := Lib.hid (by (try simp only [List.length_append]); have h1 := HL.out; have h2 := HLS.out; omega)
  have HLN1 : Hid ((l ++ eK x).length ≤ 100000000000) := Lib.hid (by (try simp only [List.length_append]); have h1 := HL.out; have h2 := HLS.out; omega)
  go_enter Tryz.func39, Tryz.ntmps39
  go_upto_region 1 with fail
  rw [← hw1, ← hX]
  clear hw1 hX
  have x0 := HX1.out.cell (j := 0) rfl
  have x1 := HX1.out.cell (j := 1) rfl
  have x2 := HX1.out.cell (j := 2) rfl
  go_wp2_with (go_at_call 37; refine (task_any' v l x _ (HRD.out.below (below_and HB1.out (by repeat (first | with_reducible exact Below.refl _ _ | with_reducible exact HB19.out | with_reducible apply below_dr | with_reducible apply below_as)))) (by have := HLN0.out; omega) HX.out).mono ?_; rintro e w2 ⟨v2, rfl, hf, hb⟩; have HBT1 := Lib.hid hb; have HB19 : Hid (Below w1.heap.size w1 w2) := Lib.hid (below_and (by repeat (first | with_reducible exact Below.refl _ _ | with_reducible exact HB19.out | with_reducible apply below_dr | with_reducible apply below_as)) hb); have HF1 : Hid (Fresh w.heap.size w2 v2 (l ++ eK x)) := Lib.hid (hf.mono (Below.size (below_and HB1.out (by repeat (first | with_reducible exact Below.refl _ _ | with_reducible exact HB19.out | with_reducible apply below_dr | with_reducible apply below_as))))); clear hf hb)
  go_ret
  exact ⟨v2, rfl, HF1.out, below_and HB1.out HB19.out⟩
set_option maxRecDepth 100000 in
set_option maxHeartbeats 4000000 in
theorem helE_any (v : Value) (l : List UInt8) (x : El) (w : World) (h : Rd w v l) (hl : l.length ≤ 10000000000) (hx : Ft x) : Calls Tryz.prog 83 #[v, helV x] w fun e w' => ∃ v', e = .returned v' ∧ Fresh w.heap.size w' v' (l ++ helE x) ∧ Below w.heap.size w w' := by
  have HRD := Lib.hid h
  have HX := Lib.hid hx
  have HL := Lib.hid hl
  have HLS := Lib.hid (ft_lens hx)
  clear h hx hl
  obtain ⟨X, hX⟩ : ∃ X, X = w.heap.size := ⟨_, rfl⟩
  obtain ⟨w1, hw1⟩ : ∃ w1, w1 = w.alloc (.cells #[.string (bs x.j), .int .i64 x.i, .int .u64 x.n, .int .i64 x.q] 88) := ⟨_, rfl⟩
  have HX1 : Hid (Blk w1 X [.string (bs x.j), .int .i64 x.i, .int .u64 x.n, .int .i64 x.q] 88) := Lib.hid (by rw [hw1, hX]; exact Blk.made w [.string (bs x.j), .int .i64 x.i, .int .u64 x.n, .int .i64 x.q] _)
  have HB1 : Hid (Below w.heap.size w w1) := Lib.hid (by rw [hw1]; exact below_alloc _ _)
  have HSS : Hid (∀ w', Below w1.heap.size w1 w' → w'.cell? ⟨X, 0, none⟩ = some (.string (bs x.j)) ∧ w'.cell? ⟨X, 1, none⟩ = some (.int .i64 x.i) ∧ w'.cell? ⟨X, 2, none⟩ = some (.int .u64 x.n) ∧ w'.cell? ⟨X, 3, none⟩ = some (.int .i64 x.q)) := Lib.hid (fun w' hb => ⟨(HX1.out.kept hb).cell (j := 0) rfl, (HX1.out.kept hb).cell (j := 1) rfl, (HX1.out.kept hb).cell (j := 2) rfl, (HX1.out.kept hb).cell (j := 3) rfl⟩)
  have HLN0 : Hid (l.length ≤ 100000000000) := Lib.hid (by (try simp only [List.length_append]); have h1 := HL.out; have h2 := HLS.out; omega)
  have HLN1 : Hid ((l ++ eK x).length ≤ 100000000000) := Lib.hid (by (try simp only [List.length_append]); have h1 := HL.out; have h2 := HLS.out; omega)
  have HLN2 : Hid (((l ++ eK x) ++ eN [x.q]).length ≤ 100000000000) := Lib.hid (by (try simp only [List.length_append]); have h1 := HL.out; have h2 := HLS.out; omega)
  have HIq : Hid (∀ z ∈ [x.q], 0 ≤ z ∧ z < 18446744073709551616) := Lib.hid (fun z hz => by (simp at hz; subst hz; have := HX.out.q; omega))
  have e6 : x.q % 18446744073709551616 = x.q := by have := HX.out.q; omega
  have e7 : IntKind.u64.wrap x.q = x.q := by have := HX.out.q; rw [IntKind.wrap_u64]; omega
  go_enter Tryz.func83, Tryz.ntmps83
  go_upto_region 1 with fail
  rw [← hw1, ← hX]
  clear hw1 hX
  go_region_held3 (fun w' => w'.cell? ⟨X, 0, none⟩ = some (.string (bs x.j)) ∧ w'.cell? ⟨X, 1, none⟩ = some (.int .i64 x.i) ∧ w'.cell? ⟨X, 2, none⟩ = some (.int .u64 x.n) ∧ w'.cell? ⟨X, 3, none⟩ = some (.int .i64 x.q))
    ((refine HSS.out _ ?_ <;> (repeat (first | with_reducible exact Below.refl _ _ | with_reducible exact HB29.out | with_reducible exact HB19.out | with_reducible apply below_dr | with_reducible apply below_as))))
    (first
      | (go_at_call 29; refine (nums_any v2 (l ++ eK x) [x.q] 1 _ _ (HF1.out.rd.below (by repeat (first | with_reducible exact Below.refl _ _ | with_reducible apply below_dr | with_reducible apply below_as))) (by have := HLN1.out; omega) (show Blk _ _ [.int .u64 x.q] _ from by repeat (first | with_reducible exact Blk.made _ [.int .u64 x.q] _ | (with_reducible refine blk_made' [.int .u64 x.q] ?_; simp; done) | with_reducible apply blk_dr | with_reducible refine Blk.alloc ?_ _ | with_reducible refine Blk.kept ?_ HBT2.out | with_reducible refine Blk.kept ?_ HBT1.out)) rfl (by omega) (by omega) HIq.out).mono ?_; rintro e w3 ⟨v3, rfl, hf, hb⟩; have HBT2 := Lib.hid hb; have HB29 : Hid (Below w1.heap.size w1 w3) := Lib.hid (below_and (by repeat (first | with_reducible exact Below.refl _ _ | with_reducible exact HB29.out | with_reducible exact HB19.out | with_reducible apply below_dr | with_reducible apply below_as)) hb); have HF2 : Hid (Fresh w.heap.size w3 v3 ((l ++ eK x) ++ eN [x.q])) := Lib.hid (hf.mono (Below.size (below_and HB1.out (by repeat (first | with_reducible exact Below.refl _ _ | with_reducible exact HB29.out | with_reducible exact HB19.out | with_reducible apply below_dr | with_reducible apply below_as))))); clear hf hb)
      | (go_at_call 37; refine (task_any' v l x _ (HRD.out.below (below_and HB1.out (by repeat (first | with_reducible exact Below.refl _ _ | with_reducible exact HB29.out | with_reducible exact HB19.out | with_reducible apply below_dr | with_reducible apply below_as)))) (by have := HLN0.out; omega) HX.out).mono ?_; rintro e w2 ⟨v2, rfl, hf, hb⟩; have HBT1 := Lib.hid hb; have HB19 : Hid (Below w1.heap.size w1 w2) := Lib.hid (below_and (by repeat (first | with_reducible exact Below.refl _ _ | with_reducible exact HB29.out | with_reducible exact HB19.out | with_reducible apply below_dr | with_reducible apply below_as)) hb); have HF1 : Hid (Fresh w.heap.size w2 v2 (l ++ eK x)) := Lib.hid (hf.mono (Below.size (below_and HB1.out (by repeat (first | with_reducible exact Below.refl _ _ | with_reducible exact HB29.out | with_reducible exact HB19.out | with_reducible apply below_dr | with_reducible apply below_as))))); clear hf hb))
  all_goals (go_wp2; go_ret; have h9 := HF2.out; rw [show ((l ++ eK x) ++ eN [x.q]) = l ++ helE x from by unfold helE; simp [eN_one]] at h9; exact ⟨v3, rfl, h9, below_and HB1.out HB29.out⟩)
set_option maxRecDepth 100000 in
set_option maxHeartbeats 4000000 in
theorem finE_any (v : Value) (l : List UInt8) (x : El) (w : World) (h : Rd w v l) (hl : l.length ≤ 10000000000) (hx : Ft x) : Calls Tryz.prog 85 #[v, finV x] w fun e w' => ∃ v', e = .returned v' ∧ Fresh w.heap.size w' v' (l ++ finE x) ∧ Below w.heap.size w w' := by
  have HRD := Lib.hid h
  have HX := Lib.hid hx
  have HL := Lib.hid hl
  have HLS := Lib.hid (ft_lens hx)
  clear h hx hl
  obtain ⟨X, hX⟩ : ∃ X, X = w.heap.size := ⟨_, rfl⟩
  obtain ⟨w1, hw1⟩ : ∃ w1, w1 = w.alloc (.cells #[.int .u64 x.k, .string (bs x.j), .int .i64 x.i, .int .u64 x.n, .int .i64 x.q] 95) := ⟨_, rfl⟩
  have HX1 : Hid (Blk w1 X [.int .u64 x.k, .string (bs x.j), .int .i64 x.i, .int .u64 x.n, .int .i64 x.q] 95) := Lib.hid (by rw [hw1, hX]; exact Blk.made w [.int .u64 x.k, .string (bs x.j), .int .i64 x.i, .int .u64 x.n, .int .i64 x.q] _)
  have HB1 : Hid (Below w.heap.size w w1) := Lib.hid (by rw [hw1]; exact below_alloc _ _)
  have HSS : Hid (∀ w', Below w1.heap.size w1 w' → w'.cell? ⟨X, 0, none⟩ = some (.int .u64 x.k) ∧ w'.cell? ⟨X, 1, none⟩ = some (.string (bs x.j)) ∧ w'.cell? ⟨X, 2, none⟩ = some (.int .i64 x.i) ∧ w'.cell? ⟨X, 3, none⟩ = some (.int .u64 x.n) ∧ w'.cell? ⟨X, 4, none⟩ = some (.int .i64 x.q)) := Lib.hid (fun w' hb => ⟨(HX1.out.kept hb).cell (j := 0) rfl, (HX1.out.kept hb).cell (j := 1) rfl, (HX1.out.kept hb).cell (j := 2) rfl, (HX1.out.kept hb).cell (j := 3) rfl, (HX1.out.kept hb).cell (j := 4) rfl⟩)
  have HLN0 : Hid (l.length ≤ 100000000000) := Lib.hid (by (try simp only [List.length_append]); have h1 := HL.out; have h2 := HLS.out; omega)
  have HLN1 : Hid ((l ++ eN [x.k]).length ≤ 100000000000) := Lib.hid (by (try simp only [List.length_append]); have h1 := HL.out; have h2 := HLS.out; omega)
  have HLN2 : Hid (((l ++ eN [x.k]) ++ eK x).length ≤ 100000000000) := Lib.hid (by (try simp only [List.length_append]); have h1 := HL.out; have h2 := HLS.out; omega)
  have HLN3 : Hid ((((l ++ eN [x.k]) ++ eK x) ++ eN [x.q]).length ≤ 100000000000) := Lib.hid (by (try simp only [List.length_append]); have h1 := HL.out; have h2 := HLS.out; omega)
  have HIq : Hid (∀ z ∈ [x.q], 0 ≤ z ∧ z < 18446744073709551616) := Lib.hid (fun z hz => by (simp at hz; subst hz; have := HX.out.q; omega))
  have e6 : x.q % 18446744073709551616 = x.q := by have := HX.out.q; omega
  have e7 : IntKind.u64.wrap x.q = x.q := by have := HX.out.q; rw [IntKind.wrap_u64]; omega
  have HIk : Hid (∀ z ∈ [x.k], 0 ≤ z ∧ z < 18446744073709551616) := Lib.hid (fun z hz => by (simp at hz; subst hz; exact HX.out.k))
  go_enter Tryz.func85, Tryz.ntmps85
  go_upto_region 1 with fail
  rw [← hw1, ← hX]
  clear hw1 hX
  go_region_held3 (fun w' => w'.cell? ⟨X, 0, none⟩ = some (.int .u64 x.k) ∧ w'.cell? ⟨X, 1, none⟩ = some (.string (bs x.j)) ∧ w'.cell? ⟨X, 2, none⟩ = some (.int .i64 x.i) ∧ w'.cell? ⟨X, 3, none⟩ = some (.int .u64 x.n) ∧ w'.cell? ⟨X, 4, none⟩ = some (.int .i64 x.q))
    ((refine HSS.out _ ?_ <;> (repeat (first | with_reducible exact Below.refl _ _ | with_reducible exact HB39.out | with_reducible exact HB29.out | with_reducible exact HB19.out | with_reducible apply below_dr | with_reducible apply below_as))))
    (first
      | (go_at_call 29; refine (nums_any v3 ((l ++ eN [x.k]) ++ eK x) [x.q] 1 _ _ (HF2.out.rd.below (by repeat (first | with_reducible exact Below.refl _ _ | with_reducible apply below_dr | with_reducible apply below_as))) (by have := HLN2.out; omega) (show Blk _ _ [.int .u64 x.q] _ from by repeat (first | with_reducible exact Blk.made _ [.int .u64 x.q] _ | (with_reducible refine blk_made' [.int .u64 x.q] ?_; simp; done) | with_reducible apply blk_dr | with_reducible refine Blk.alloc ?_ _ | with_reducible refine Blk.kept ?_ HBT3.out | with_reducible refine Blk.kept ?_ HBT2.out | with_reducible refine Blk.kept ?_ HBT1.out)) rfl (by omega) (by omega) HIq.out).mono ?_; rintro e w4 ⟨v4, rfl, hf, hb⟩; have HBT3 := Lib.hid hb; have HB39 : Hid (Below w1.heap.size w1 w4) := Lib.hid (below_and (by repeat (first | with_reducible exact Below.refl _ _ | with_reducible exact HB39.out | with_reducible exact HB29.out | with_reducible exact HB19.out | with_reducible apply below_dr | with_reducible apply below_as)) hb); have HF3 : Hid (Fresh w.heap.size w4 v4 (((l ++ eN [x.k]) ++ eK x) ++ eN [x.q])) := Lib.hid (hf.mono (Below.size (below_and HB1.out (by repeat (first | with_reducible exact Below.refl _ _ | with_reducible exact HB39.out | with_reducible exact HB29.out | with_reducible exact HB19.out | with_reducible apply below_dr | with_reducible apply below_as))))); clear hf hb)
      | (go_at_call 37; refine (task_any' v2 (l ++ eN [x.k]) x _ (HF1.out.rd.below (by repeat (first | with_reducible exact Below.refl _ _ | with_reducible apply below_dr | with_reducible apply below_as))) (by have := HLN1.out; omega) HX.out).mono ?_; rintro e w3 ⟨v3, rfl, hf, hb⟩; have HBT2 := Lib.hid hb; have HB29 : Hid (Below w1.heap.size w1 w3) := Lib.hid (below_and (by repeat (first | with_reducible exact Below.refl _ _ | with_reducible exact HB39.out | with_reducible exact HB29.out | with_reducible exact HB19.out | with_reducible apply below_dr | with_reducible apply below_as)) hb); have HF2 : Hid (Fresh w.heap.size w3 v3 ((l ++ eN [x.k]) ++ eK x)) := Lib.hid (hf.mono (Below.size (below_and HB1.out (by repeat (first | with_reducible exact Below.refl _ _ | with_reducible exact HB39.out | with_reducible exact HB29.out | with_reducible exact HB19.out | with_reducible apply below_dr | with_reducible apply below_as))))); clear hf hb)
      | (go_at_call 29; refine (nums_any v l [x.k] 1 _ _ (HRD.out.below (below_and HB1.out (by repeat (first | with_reducible exact Below.refl _ _ | with_reducible exact HB39.out | with_reducible exact HB29.out | with_reducible exact HB19.out | with_reducible apply below_dr | with_reducible apply below_as)))) (by have := HLN0.out; omega) (show Blk _ _ [.int .u64 x.k] _ from by repeat (first | with_reducible exact Blk.made _ [.int .u64 x.k] _ | (with_reducible refine blk_made' [.int .u64 x.k] ?_; simp; done) | with_reducible apply blk_dr | with_reducible refine Blk.alloc ?_ _ | with_reducible refine Blk.kept ?_ HBT3.out | with_reducible refine Blk.kept ?_ HBT2.out | with_reducible refine Blk.kept ?_ HBT1.out)) rfl (by omega) (by omega) HIk.out).mono ?_; rintro e w2 ⟨v2, rfl, hf, hb⟩; have HBT1 := Lib.hid hb; have HB19 : Hid (Below w1.heap.size w1 w2) := Lib.hid (below_and (by repeat (first | with_reducible exact Below.refl _ _ | with_reducible exact HB39.out | with_reducible exact HB29.out | with_reducible exact HB19.out | with_reducible apply below_dr | with_reducible apply below_as)) hb); have HF1 : Hid (Fresh w.heap.size w2 v2 (l ++ eN [x.k])) := Lib.hid (hf.mono (Below.size (below_and HB1.out (by repeat (first | with_reducible exact Below.refl _ _ | with_reducible exact HB39.out | with_reducible exact HB29.out | with_reducible exact HB19.out | with_reducible apply below_dr | with_reducible apply below_as))))); clear hf hb))
  all_goals (go_wp2; go_ret; have h9 := HF3.out; rw [show (((l ++ eN [x.k]) ++ eK x) ++ eN [x.q]) = l ++ finE x from by unfold finE; simp [eN_one]] at h9; exact ⟨v4, rfl, h9, below_and HB1.out HB39.out⟩)
set_option maxRecDepth 100000 in
set_option maxHeartbeats 4000000 in
theorem refE_any (v : Value) (l : List UInt8) (x : El) (w : World) (h : Rd w v l) (hl : l.length ≤ 10000000000) (hx : Ft x) : Calls Tryz.prog 87 #[v, refV x] w fun e w' => ∃ v', e = .returned v' ∧ Fresh w.heap.size w' v' (l ++ refE x) ∧ Below w.heap.size w w' := by
  have HRD := Lib.hid h
  have HX := Lib.hid hx
  have HL := Lib.hid hl
  have HLS := Lib.hid (ft_lens hx)
  clear h hx hl
  obtain ⟨X, hX⟩ : ∃ X, X = w.heap.size := ⟨_, rfl⟩
  obtain ⟨w1, hw1⟩ : ∃ w1, w1 = w.alloc (.cells #[.string (bs x.j), .int .i64 x.i, .int .u64 x.n, .int .i64 x.q] 99) := ⟨_, rfl⟩
  have HX1 : Hid (Blk w1 X [.string (bs x.j), .int .i64 x.i, .int .u64 x.n, .int .i64 x.q] 99) := Lib.hid (by rw [hw1, hX]; exact Blk.made w [.string (bs x.j), .int .i64 x.i, .int .u64 x.n, .int .i64 x.q] _)
  have HB1 : Hid (Below w.heap.size w w1) := Lib.hid (by rw [hw1]; exact below_alloc _ _)
  have HSS : Hid (∀ w', Below w1.heap.size w1 w' → w'.cell? ⟨X, 0, none⟩ = some (.string (bs x.j)) ∧ w'.cell? ⟨X, 1, none⟩ = some (.int .i64 x.i) ∧ w'.cell? ⟨X, 2, none⟩ = some (.int .u64 x.n) ∧ w'.cell? ⟨X, 3, none⟩ = some (.int .i64 x.q)) := Lib.hid (fun w' hb => ⟨(HX1.out.kept hb).cell (j := 0) rfl, (HX1.out.kept hb).cell (j := 1) rfl, (HX1.out.kept hb).cell (j := 2) rfl, (HX1.out.kept hb).cell (j := 3) rfl⟩)
  have HLN0 : Hid (l.length ≤ 100000000000) := Lib.hid (by (try simp only [List.length_append]); have h1 := HL.out; have h2 := HLS.out; omega)
  have HLN1 : Hid ((l ++ eK x).length ≤ 100000000000) := Lib.hid (by (try simp only [List.length_append]); have h1 := HL.out; have h2 := HLS.out; omega)
  have HLN2 : Hid (((l ++ eK x) ++ eN [x.q]).length ≤ 100000000000) := Lib.hid (by (try simp only [List.length_append]); have h1 := HL.out; have h2 := HLS.out; omega)
  have HIq : Hid (∀ z ∈ [x.q], 0 ≤ z ∧ z < 18446744073709551616) := Lib.hid (fun z hz => by (simp at hz; subst hz; have := HX.out.q; omega))
  have e6 : x.q % 18446744073709551616 = x.q := by have := HX.out.q; omega
  have e7 : IntKind.u64.wrap x.q = x.q := by have := HX.out.q; rw [IntKind.wrap_u64]; omega
  go_enter Tryz.func87, Tryz.ntmps87
  go_upto_region 1 with fail
  rw [← hw1, ← hX]
  clear hw1 hX
  go_region_held3 (fun w' => w'.cell? ⟨X, 0, none⟩ = some (.string (bs x.j)) ∧ w'.cell? ⟨X, 1, none⟩ = some (.int .i64 x.i) ∧ w'.cell? ⟨X, 2, none⟩ = some (.int .u64 x.n) ∧ w'.cell? ⟨X, 3, none⟩ = some (.int .i64 x.q))
    ((refine HSS.out _ ?_ <;> (repeat (first | with_reducible exact Below.refl _ _ | with_reducible exact HB29.out | with_reducible exact HB19.out | with_reducible apply below_dr | with_reducible apply below_as))))
    (first
      | (go_at_call 29; refine (nums_any v2 (l ++ eK x) [x.q] 1 _ _ (HF1.out.rd.below (by repeat (first | with_reducible exact Below.refl _ _ | with_reducible apply below_dr | with_reducible apply below_as))) (by have := HLN1.out; omega) (show Blk _ _ [.int .u64 x.q] _ from by repeat (first | with_reducible exact Blk.made _ [.int .u64 x.q] _ | (with_reducible refine blk_made' [.int .u64 x.q] ?_; simp; done) | with_reducible apply blk_dr | with_reducible refine Blk.alloc ?_ _ | with_reducible refine Blk.kept ?_ HBT2.out | with_reducible refine Blk.kept ?_ HBT1.out)) rfl (by omega) (by omega) HIq.out).mono ?_; rintro e w3 ⟨v3, rfl, hf, hb⟩; have HBT2 := Lib.hid hb; have HB29 : Hid (Below w1.heap.size w1 w3) := Lib.hid (below_and (by repeat (first | with_reducible exact Below.refl _ _ | with_reducible exact HB29.out | with_reducible exact HB19.out | with_reducible apply below_dr | with_reducible apply below_as)) hb); have HF2 : Hid (Fresh w.heap.size w3 v3 ((l ++ eK x) ++ eN [x.q])) := Lib.hid (hf.mono (Below.size (below_and HB1.out (by repeat (first | with_reducible exact Below.refl _ _ | with_reducible exact HB29.out | with_reducible exact HB19.out | with_reducible apply below_dr | with_reducible apply below_as))))); clear hf hb)
      | (go_at_call 37; refine (task_any' v l x _ (HRD.out.below (below_and HB1.out (by repeat (first | with_reducible exact Below.refl _ _ | with_reducible exact HB29.out | with_reducible exact HB19.out | with_reducible apply below_dr | with_reducible apply below_as)))) (by have := HLN0.out; omega) HX.out).mono ?_; rintro e w2 ⟨v2, rfl, hf, hb⟩; have HBT1 := Lib.hid hb; have HB19 : Hid (Below w1.heap.size w1 w2) := Lib.hid (below_and (by repeat (first | with_reducible exact Below.refl _ _ | with_reducible exact HB29.out | with_reducible exact HB19.out | with_reducible apply below_dr | with_reducible apply below_as)) hb); have HF1 : Hid (Fresh w.heap.size w2 v2 (l ++ eK x)) := Lib.hid (hf.mono (Below.size (below_and HB1.out (by repeat (first | with_reducible exact Below.refl _ _ | with_reducible exact HB29.out | with_reducible exact HB19.out | with_reducible apply below_dr | with_reducible apply below_as))))); clear hf hb))
  all_goals (go_wp2; go_ret; have h9 := HF2.out; rw [show ((l ++ eK x) ++ eN [x.q]) = l ++ refE x from by unfold refE; simp [eN_one]] at h9; exact ⟨v3, rfl, h9, below_and HB1.out HB29.out⟩)
end Go.Proofs.YtopkfomlppnpeaaGreatDoor.Ms

namespace Go.Proofs.YtopkfomlppnpeaaGreatDoor.Ms
open Go.RowKit Go.Proofs.YtopkfomlppnpeaaGreatDoor

set_option maxRecDepth 100000 in
set_option maxHeartbeats 4000000 in
theorem envP_any (v vl : Value) (l : List UInt8) (L : List El) (w : World) (h : Rd w v l) (hl : l.length ≤ 1000000000) (hr : Row w vl 5 L.length (rwC envC L)) (hL : L.length ≤ 256) (hx : ∀ x ∈ L, Ft x) : Calls Tryz.prog 31 #[v, vl, .func (.func 32) #[] #[]] w fun e w' => ∃ v', e = .returned v' ∧ Fresh w.heap.size w' v' (l ++ eL envE L) ∧ Below w.heap.size w w' := by
  obtain ⟨p, c, rfl, hc, hm, hat⟩ := row_el hr
  unfold maxLen at hm
  have HAT := Lib.hid hat
  have HX := Lib.hid hx
  have HRD := Lib.hid h
  have HL := Lib.hid hl
  obtain ⟨m, hmm⟩ : ∃ m, m = L.length := ⟨_, rfl⟩
  have HM := Lib.hid hmm
  rw [← hmm] at hc hL ⊢
  have e6 : (m : Int) % 18446744073709551616 = (m : Int) := by omega
  have e7 : IntKind.u64.wrap (m : Int) = (m : Int) := by rw [IntKind.wrap_u64]; omega
  have HIN : Hid (∀ z ∈ [(m : Int)], 0 ≤ z ∧ z < 18446744073709551616) := Lib.hid (fun z hz => by (simp at hz; subst hz; omega))
  have HEL : Hid (eL envE L = eN [(m : Int)] ++ L.flatMap envE) := Lib.hid (by unfold eL; rw [eN_one, hmm])
  have HFL : Hid (∀ q, ((L.take q).flatMap envE).length ≤ 100000) := Lib.hid (fun q => by have h1 := flat_len (enc := envE) (L.take q) (fun x hx' => (enc_small (hx x (List.mem_of_mem_take hx'))).1); have h2 : (L.take q).length ≤ 256 := (by rw [List.length_take]; omega); omega)
  clear hr hat hx hmm h hl
  go_enter Tryz.func31, Tryz.ntmps31
  go_upto_region 3 with (go_at_call 29; refine (nums_any v l [(m : Int)] 1 _ _ (HRD.out.below (below_alloc _ _)) (by have := HL.out; omega) (show Blk _ _ [.int .u64 (m : Int)] _ from Blk.made w [.int .u64 (m : Int)] _) rfl (by omega) (by omega) HIN.out).mono ?_; rintro e w2 ⟨v2, rfl, hf, hb⟩; have HB2 : Hid (Below w.heap.size w w2) := Lib.hid (below_and (below_alloc _ _) hb); have HF2 : Hid (Fresh w.heap.size w2 v2 (l ++ eN [(m : Int)])) := Lib.hid (hf.mono (by simp)); clear hf hb)
  have HLN : Hid ((l ++ eN [(m : Int)]).length ≤ 2000000000) := Lib.hid (by rw [List.length_append]; have h1 := HL.out; have h2 := eN_len [(m : Int)]; simp at h2; omega)
  go_loopw [0, 17] (fun vb vi wr => ∃ q : Nat, q ≤ m ∧ vi = .int .i64 q ∧ Hid (Fresh w.heap.size wr vb ((l ++ eN [(m : Int)]) ++ (L.take q).flatMap envE) ∧ Below w.heap.size w wr)) (fun _ vi _ => m - (intOf vi).toNat)
  case atStart => exact ⟨0, Nat.zero_le _, by go_num, Lib.hid ⟨by simpa using HF2.out, HB2.out⟩⟩
  case round =>
    obtain ⟨q, hq, rfl, HR⟩ := hrel
    by_cases hlt : q < m
    rotate_left
    · obtain rfl : q = m := by omega
      have e9 : L.take q = L := by rw [HM.out, List.take_length]
      rw [e9] at HR
      go_wp2
      go_ret
      have h9 := HR.out.1
      rw [List.append_assoc, ← HEL.out] at h9
      exact ⟨_, rfl, h9, HR.out.2⟩
    have HI : Hid (q < L.length) := Lib.hid (by rw [← HM.out]; exact hlt)
    obtain ⟨x, hx⟩ : ∃ x, x = L[q]'HI.out := ⟨_, rfl⟩
    have HFX := Lib.hid (HX.out x (by rw [hx]; exact List.getElem_mem _))
    have hlen : (rwC envC L).length = L.length * 5 := rwC_len (show ∀ z, (envC z).length = 5 from fun _ => rfl) L
    rcases HAT.out with ha | ⟨b, o, rfl, ha⟩
    · exact absurd (congrArg List.length ha) (by rw [hlen]; have := HI.out; simp; omega)
    have hcx : ∀ j u, j < 5 → (envC x)[j]? = some u → wr.cell? ⟨b, o + (q * 5 + j), none⟩ = some u := fun j u hj hu => cell_kept (ha _ u (by rw [rwC_at (show ∀ z, (envC z).length = 5 from fun _ => rfl) HI.out hj, ← hx]; exact hu)) HR.out.2
    have x0 : wr.cell? ⟨b, o + q * 5, none⟩ = some (.string (bs x.j)) := by have := hcx 0 _ (by omega) rfl; simpa [Nat.add_assoc] using this
    have x1 : wr.cell? ⟨b, o + q * 5 + 1, none⟩ = some (.int .i64 x.a.c) := by have := hcx 1 _ (by omega) rfl; simpa [Nat.add_assoc] using this
    have x2 : wr.cell? ⟨b, o + q * 5 + 2, none⟩ = some (.int .i64 x.a.r) := by have := hcx 2 _ (by omega) rfl; simpa [Nat.add_assoc] using this
    have x3 : wr.cell? ⟨b, o + q * 5 + 3, none⟩ = some (.int .i64 x.a.d) := by have := hcx 3 _ (by omega) rfl; simpa [Nat.add_assoc] using this
    have x4 : wr.cell? ⟨b, o + q * 5 + 4, none⟩ = some (.int .i64 x.a.p) := by have := hcx 4 _ (by omega) rfl; simpa [Nat.add_assoc] using this
    have HN : Hid (((l ++ eN [(m : Int)]) ++ (L.take (q + 1)).flatMap envE) = ((l ++ eN [(m : Int)]) ++ (L.take q).flatMap envE) ++ envE x) := Lib.hid (by rw [List.take_succ_eq_append_getElem HI.out, ← hx, List.flatMap_append]; simp)
    clear ha hcx hlen hx
    have i1 : (q : Int) < (m : Int) := by omega
    go_upto_region 5 with fail
    obtain ⟨X, hX⟩ : ∃ X, X = wr.heap.size := ⟨_, rfl⟩
    obtain ⟨w3, hw3⟩ : ∃ w3, w3 = wr.alloc (.cells #[.string (bs x.j), .int .i64 x.a.c, .int .i64 x.a.r, .int .i64 x.a.d, .int .i64 x.a.p] 66) := ⟨_, rfl⟩
    have HX3 : Hid (Blk w3 X [.string (bs x.j), .int .i64 x.a.c, .int .i64 x.a.r, .int .i64 x.a.d, .int .i64 x.a.p] 66) := Lib.hid (by rw [hw3, hX]; exact Blk.made wr [.string (bs x.j), .int .i64 x.a.c, .int .i64 x.a.r, .int .i64 x.a.d, .int .i64 x.a.p] _)
    have HB3 : Hid (Below wr.heap.size wr w3) := Lib.hid (by rw [hw3]; exact below_alloc _ _)
    rw [← hw3, ← hX]
    clear hw3 hX x0 x1 x2 x3 x4
    have y0 := HX3.out.cell (j := 0) rfl
    have y1 := HX3.out.cell (j := 1) rfl
    have y2 := HX3.out.cell (j := 2) rfl
    have y3 := HX3.out.cell (j := 3) rfl
    have y4 := HX3.out.cell (j := 4) rfl
    go_wp2_with (go_at_call 32; refine (envE_any u0 _ x _ (HR.out.1.rd.below HB3.out) (by rw [List.length_append]; have h1 := HLN.out; have h2 := HFL.out q; omega) HFX.out).mono ?_; rintro e w4 ⟨v4, rfl, hf, hb⟩; have HB4 := Lib.hid (below_and HR.out.2 (below_and HB3.out hb)); have HF4 := Lib.hid (hf.mono (Nat.le_trans HR.out.2.size HB3.out.size)); clear hf hb)
    go_roundw
    case rel => exact ⟨q + 1, hlt, by go_num, Lib.hid ⟨by rw [HN.out]; exact HF4.out, HB4.out⟩⟩
    case measure => simp [intOf]; omega
set_option maxRecDepth 100000 in
set_option maxHeartbeats 4000000 in
theorem staP_any (v vl : Value) (l : List UInt8) (L : List El) (w : World) (h : Rd w v l) (hl : l.length ≤ 1000000000) (hr : Row w vl 8 L.length (rwC staC L)) (hL : L.length ≤ 256) (hx : ∀ x ∈ L, Ft x) : Calls Tryz.prog 35 #[v, vl, .func (.func 36) #[] #[]] w fun e w' => ∃ v', e = .returned v' ∧ Fresh w.heap.size w' v' (l ++ eL staE L) ∧ Below w.heap.size w w' := by
  obtain ⟨p, c, rfl, hc, hm, hat⟩ := row_el hr
  unfold maxLen at hm
  have HAT := Lib.hid hat
  have HX := Lib.hid hx
  have HRD := Lib.hid h
  have HL := Lib.hid hl
  obtain ⟨m, hmm⟩ : ∃ m, m = L.length := ⟨_, rfl⟩
  have HM := Lib.hid hmm
  rw [← hmm] at hc hL ⊢
  have e6 : (m : Int) % 18446744073709551616 = (m : Int) := by omega
  have e7 : IntKind.u64.wrap (m : Int) = (m : Int) := by rw [IntKind.wrap_u64]; omega
  have HIN : Hid (∀ z ∈ [(m : Int)], 0 ≤ z ∧ z < 18446744073709551616) := Lib.hid (fun z hz => by (simp at hz; subst hz; omega))
  have HEL : Hid (eL staE L = eN [(m : Int)] ++ L.flatMap staE) := Lib.hid (by unfold eL; rw [eN_one, hmm])
  have HFL : Hid (∀ q, ((L.take q).flatMap staE).length ≤ 100000) := Lib.hid (fun q => by have h1 := flat_len (enc := staE) (L.take q) (fun x hx' => (enc_small (hx x (List.mem_of_mem_take hx'))).2.1); have h2 : (L.take q).length ≤ 256 := (by rw [List.length_take]; omega); omega)
  clear hr hat hx hmm h hl
  go_enter Tryz.func35, Tryz.ntmps35
  go_upto_region 3 with (go_at_call 29; refine (nums_any v l [(m : Int)] 1 _ _ (HRD.out.below (below_alloc _ _)) (by have := HL.out; omega) (show Blk _ _ [.int .u64 (m : Int)] _ from Blk.made w [.int .u64 (m : Int)] _) rfl (by omega) (by omega) HIN.out).mono ?_; rintro e w2 ⟨v2, rfl, hf, hb⟩; have HB2 : Hid (Below w.heap.size w w2) := Lib.hid (below_and (below_alloc _ _) hb); have HF2 : Hid (Fresh w.heap.size w2 v2 (l ++ eN [(m : Int)])) := Lib.hid (hf.mono (by simp)); clear hf hb)
  have HLN : Hid ((l ++ eN [(m : Int)]).length ≤ 2000000000) := Lib.hid (by rw [List.length_append]; have h1 := HL.out; have h2 := eN_len [(m : Int)]; simp at h2; omega)
  go_loopw [0, 17] (fun vb vi wr => ∃ q : Nat, q ≤ m ∧ vi = .int .i64 q ∧ Hid (Fresh w.heap.size wr vb ((l ++ eN [(m : Int)]) ++ (L.take q).flatMap staE) ∧ Below w.heap.size w wr)) (fun _ vi _ => m - (intOf vi).toNat)
  case atStart => exact ⟨0, Nat.zero_le _, by go_num, Lib.hid ⟨by simpa using HF2.out, HB2.out⟩⟩
  case round =>
    obtain ⟨q, hq, rfl, HR⟩ := hrel
    by_cases hlt : q < m
    rotate_left
    · obtain rfl : q = m := by omega
      have e9 : L.take q = L := by rw [HM.out, List.take_length]
      rw [e9] at HR
      go_wp2
      go_ret
      have h9 := HR.out.1
      rw [List.append_assoc, ← HEL.out] at h9
      exact ⟨_, rfl, h9, HR.out.2⟩
    have HI : Hid (q < L.length) := Lib.hid (by rw [← HM.out]; exact hlt)
    obtain ⟨x, hx⟩ : ∃ x, x = L[q]'HI.out := ⟨_, rfl⟩
    have HFX := Lib.hid (HX.out x (by rw [hx]; exact List.getElem_mem _))
    have hlen : (rwC staC L).length = L.length * 8 := rwC_len (show ∀ z, (staC z).length = 8 from fun _ => rfl) L
    rcases HAT.out with ha | ⟨b, o, rfl, ha⟩
    · exact absurd (congrArg List.length ha) (by rw [hlen]; have := HI.out; simp; omega)
    have hcx : ∀ j u, j < 8 → (staC x)[j]? = some u → wr.cell? ⟨b, o + (q * 8 + j), none⟩ = some u := fun j u hj hu => cell_kept (ha _ u (by rw [rwC_at (show ∀ z, (staC z).length = 8 from fun _ => rfl) HI.out hj, ← hx]; exact hu)) HR.out.2
    have x0 : wr.cell? ⟨b, o + q * 8, none⟩ = some (.string (bs x.j)) := by have := hcx 0 _ (by omega) rfl; simpa [Nat.add_assoc] using this
    have x1 : wr.cell? ⟨b, o + q * 8 + 1, none⟩ = some (.int .i64 x.i) := by have := hcx 1 _ (by omega) rfl; simpa [Nat.add_assoc] using this
    have x2 : wr.cell? ⟨b, o + q * 8 + 2, none⟩ = some (.int .u64 x.n) := by have := hcx 2 _ (by omega) rfl; simpa [Nat.add_assoc] using this
    have x3 : wr.cell? ⟨b, o + q * 8 + 3, none⟩ = some (.int .i64 x.a.c) := by have := hcx 3 _ (by omega) rfl; simpa [Nat.add_assoc] using this
    have x4 : wr.cell? ⟨b, o + q * 8 + 4, none⟩ = some (.int .i64 x.a.r) := by have := hcx 4 _ (by omega) rfl; simpa [Nat.add_assoc] using this
    have x5 : wr.cell? ⟨b, o + q * 8 + 5, none⟩ = some (.int .i64 x.a.d) := by have := hcx 5 _ (by omega) rfl; simpa [Nat.add_assoc] using this
    have x6 : wr.cell? ⟨b, o + q * 8 + 6, none⟩ = some (.int .i64 x.a.p) := by have := hcx 6 _ (by omega) rfl; simpa [Nat.add_assoc] using this
    have x7 : wr.cell? ⟨b, o + q * 8 + 7, none⟩ = some (.string (bs x.s)) := by have := hcx 7 _ (by omega) rfl; simpa [Nat.add_assoc] using this
    have HN : Hid (((l ++ eN [(m : Int)]) ++ (L.take (q + 1)).flatMap staE) = ((l ++ eN [(m : Int)]) ++ (L.take q).flatMap staE) ++ staE x) := Lib.hid (by rw [List.take_succ_eq_append_getElem HI.out, ← hx, List.flatMap_append]; simp)
    clear ha hcx hlen hx
    have i1 : (q : Int) < (m : Int) := by omega
    go_upto_region 5 with fail
    obtain ⟨X, hX⟩ : ∃ X, X = wr.heap.size := ⟨_, rfl⟩
    obtain ⟨w3, hw3⟩ : ∃ w3, w3 = wr.alloc (.cells #[.string (bs x.j), .int .i64 x.i, .int .u64 x.n, .int .i64 x.a.c, .int .i64 x.a.r, .int .i64 x.a.d, .int .i64 x.a.p, .string (bs x.s)] 39) := ⟨_, rfl⟩
    have HX3 : Hid (Blk w3 X [.string (bs x.j), .int .i64 x.i, .int .u64 x.n, .int .i64 x.a.c, .int .i64 x.a.r, .int .i64 x.a.d, .int .i64 x.a.p, .string (bs x.s)] 39) := Lib.hid (by rw [hw3, hX]; exact Blk.made wr [.string (bs x.j), .int .i64 x.i, .int .u64 x.n, .int .i64 x.a.c, .int .i64 x.a.r, .int .i64 x.a.d, .int .i64 x.a.p, .string (bs x.s)] _)
    have HB3 : Hid (Below wr.heap.size wr w3) := Lib.hid (by rw [hw3]; exact below_alloc _ _)
    rw [← hw3, ← hX]
    clear hw3 hX x0 x1 x2 x3 x4 x5 x6 x7
    have y0 := HX3.out.cell (j := 0) rfl
    have y1 := HX3.out.cell (j := 1) rfl
    have y2 := HX3.out.cell (j := 2) rfl
    have y3 := HX3.out.cell (j := 3) rfl
    have y4 := HX3.out.cell (j := 4) rfl
    have y5 := HX3.out.cell (j := 5) rfl
    have y6 := HX3.out.cell (j := 6) rfl
    have y7 := HX3.out.cell (j := 7) rfl
    go_wp2_with (go_at_call 36; refine (staE_any u0 _ x _ (HR.out.1.rd.below HB3.out) (by rw [List.length_append]; have h1 := HLN.out; have h2 := HFL.out q; omega) HFX.out).mono ?_; rintro e w4 ⟨v4, rfl, hf, hb⟩; have HB4 := Lib.hid (below_and HR.out.2 (below_and HB3.out hb)); have HF4 := Lib.hid (hf.mono (Nat.le_trans HR.out.2.size HB3.out.size)); clear hf hb)
    go_roundw
    case rel => exact ⟨q + 1, hlt, by go_num, Lib.hid ⟨by rw [HN.out]; exact HF4.out, HB4.out⟩⟩
    case measure => simp [intOf]; omega
set_option maxRecDepth 100000 in
set_option maxHeartbeats 4000000 in
theorem stoP_any (v vl : Value) (l : List UInt8) (L : List El) (w : World) (h : Rd w v l) (hl : l.length ≤ 1000000000) (hr : Row w vl 3 L.length (rwC stoC L)) (hL : L.length ≤ 256) (hx : ∀ x ∈ L, Ft x) : Calls Tryz.prog 38 #[v, vl, .func (.func 39) #[] #[]] w fun e w' => ∃ v', e = .returned v' ∧ Fresh w.heap.size w' v' (l ++ eL stoE L) ∧ Below w.heap.size w w' := by
  obtain ⟨p, c, rfl, hc, hm, hat⟩ := row_el hr
  unfold maxLen at hm
  have HAT := Lib.hid hat
  have HX := Lib.hid hx
  have HRD := Lib.hid h
  have HL := Lib.hid hl
  obtain ⟨m, hmm⟩ : ∃ m, m = L.length := ⟨_, rfl⟩
  have HM := Lib.hid hmm
  rw [← hmm] at hc hL ⊢
  have e6 : (m : Int) % 18446744073709551616 = (m : Int) := by omega
  have e7 : IntKind.u64.wrap (m : Int) = (m : Int) := by rw [IntKind.wrap_u64]; omega
  have HIN : Hid (∀ z ∈ [(m : Int)], 0 ≤ z ∧ z < 18446744073709551616) := Lib.hid (fun z hz => by (simp at hz; subst hz; omega))
  have HEL : Hid (eL stoE L = eN [(m : Int)] ++ L.flatMap stoE) := Lib.hid (by unfold eL; rw [eN_one, hmm])
  have HFL : Hid (∀ q, ((L.take q).flatMap stoE).length ≤ 100000) := Lib.hid (fun q => by have h1 := flat_len (enc := stoE) (L.take q) (fun x hx' => (enc_small (hx x (List.mem_of_mem_take hx'))).2.2.1); have h2 : (L.take q).length ≤ 256 := (by rw [List.length_take]; omega); omega)
  clear hr hat hx hmm h hl
  go_enter Tryz.func38, Tryz.ntmps38
  go_upto_region 3 with (go_at_call 29; refine (nums_any v l [(m : Int)] 1 _ _ (HRD.out.below (below_alloc _ _)) (by have := HL.out; omega) (show Blk _ _ [.int .u64 (m : Int)] _ from Blk.made w [.int .u64 (m : Int)] _) rfl (by omega) (by omega) HIN.out).mono ?_; rintro e w2 ⟨v2, rfl, hf, hb⟩; have HB2 : Hid (Below w.heap.size w w2) := Lib.hid (below_and (below_alloc _ _) hb); have HF2 : Hid (Fresh w.heap.size w2 v2 (l ++ eN [(m : Int)])) := Lib.hid (hf.mono (by simp)); clear hf hb)
  have HLN : Hid ((l ++ eN [(m : Int)]).length ≤ 2000000000) := Lib.hid (by rw [List.length_append]; have h1 := HL.out; have h2 := eN_len [(m : Int)]; simp at h2; omega)
  go_loopw [0, 17] (fun vb vi wr => ∃ q : Nat, q ≤ m ∧ vi = .int .i64 q ∧ Hid (Fresh w.heap.size wr vb ((l ++ eN [(m : Int)]) ++ (L.take q).flatMap stoE) ∧ Below w.heap.size w wr)) (fun _ vi _ => m - (intOf vi).toNat)
  case atStart => exact ⟨0, Nat.zero_le _, by go_num, Lib.hid ⟨by simpa using HF2.out, HB2.out⟩⟩
  case round =>
    obtain ⟨q, hq, rfl, HR⟩ := hrel
    by_cases hlt : q < m
    rotate_left
    · obtain rfl : q = m := by omega
      have e9 : L.take q = L := by rw [HM.out, List.take_length]
      rw [e9] at HR
      go_wp2
      go_ret
      have h9 := HR.out.1
      rw [List.append_assoc, ← HEL.out] at h9
      exact ⟨_, rfl, h9, HR.out.2⟩
    have HI : Hid (q < L.length) := Lib.hid (by rw [← HM.out]; exact hlt)
    obtain ⟨x, hx⟩ : ∃ x, x = L[q]'HI.out := ⟨_, rfl⟩
    have HFX := Lib.hid (HX.out x (by rw [hx]; exact List.getElem_mem _))
    have hlen : (rwC stoC L).length = L.length * 3 := rwC_len (show ∀ z, (stoC z).length = 3 from fun _ => rfl) L
    rcases HAT.out with ha | ⟨b, o, rfl, ha⟩
    · exact absurd (congrArg List.length ha) (by rw [hlen]; have := HI.out; simp; omega)
    have hcx : ∀ j u, j < 3 → (stoC x)[j]? = some u → wr.cell? ⟨b, o + (q * 3 + j), none⟩ = some u := fun j u hj hu => cell_kept (ha _ u (by rw [rwC_at (show ∀ z, (stoC z).length = 3 from fun _ => rfl) HI.out hj, ← hx]; exact hu)) HR.out.2
    have x0 : wr.cell? ⟨b, o + q * 3, none⟩ = some (.string (bs x.j)) := by have := hcx 0 _ (by omega) rfl; simpa [Nat.add_assoc] using this
    have x1 : wr.cell? ⟨b, o + q * 3 + 1, none⟩ = some (.int .i64 x.i) := by have := hcx 1 _ (by omega) rfl; simpa [Nat.add_assoc] using this
    have x2 : wr.cell? ⟨b, o + q * 3 + 2, none⟩ = some (.int .u64 x.n) := by have := hcx 2 _ (by omega) rfl; simpa [Nat.add_assoc] using this
    have HN : Hid (((l ++ eN [(m : Int)]) ++ (L.take (q + 1)).flatMap stoE) = ((l ++ eN [(m : Int)]) ++ (L.take q).flatMap stoE) ++ stoE x) := Lib.hid (by rw [List.take_succ_eq_append_getElem HI.out, ← hx, List.flatMap_append]; simp)
    clear ha hcx hlen hx
    have i1 : (q : Int) < (m : Int) := by omega
    go_upto_region 5 with fail
    obtain ⟨X, hX⟩ : ∃ X, X = wr.heap.size := ⟨_, rfl⟩
    obtain ⟨w3, hw3⟩ : ∃ w3, w3 = wr.alloc (.cells #[.string (bs x.j), .int .i64 x.i, .int .u64 x.n] 75) := ⟨_, rfl⟩
    have HX3 : Hid (Blk w3 X [.string (bs x.j), .int .i64 x.i, .int .u64 x.n] 75) := Lib.hid (by rw [hw3, hX]; exact Blk.made wr [.string (bs x.j), .int .i64 x.i, .int .u64 x.n] _)
    have HB3 : Hid (Below wr.heap.size wr w3) := Lib.hid (by rw [hw3]; exact below_alloc _ _)
    rw [← hw3, ← hX]
    clear hw3 hX x0 x1 x2
    have y0 := HX3.out.cell (j := 0) rfl
    have y1 := HX3.out.cell (j := 1) rfl
    have y2 := HX3.out.cell (j := 2) rfl
    go_wp2_with (go_at_call 39; refine (stoE_any u0 _ x _ (HR.out.1.rd.below HB3.out) (by rw [List.length_append]; have h1 := HLN.out; have h2 := HFL.out q; omega) HFX.out).mono ?_; rintro e w4 ⟨v4, rfl, hf, hb⟩; have HB4 := Lib.hid (below_and HR.out.2 (below_and HB3.out hb)); have HF4 := Lib.hid (hf.mono (Nat.le_trans HR.out.2.size HB3.out.size)); clear hf hb)
    go_roundw
    case rel => exact ⟨q + 1, hlt, by go_num, Lib.hid ⟨by rw [HN.out]; exact HF4.out, HB4.out⟩⟩
    case measure => simp [intOf]; omega
set_option maxRecDepth 100000 in
set_option maxHeartbeats 4000000 in
theorem helP_any (v vl : Value) (l : List UInt8) (L : List El) (w : World) (h : Rd w v l) (hl : l.length ≤ 1000000000) (hr : Row w vl 4 L.length (rwC helC L)) (hL : L.length ≤ 256) (hx : ∀ x ∈ L, Ft x) : Calls Tryz.prog 82 #[v, vl, .func (.func 83) #[] #[]] w fun e w' => ∃ v', e = .returned v' ∧ Fresh w.heap.size w' v' (l ++ eL helE L) ∧ Below w.heap.size w w' := by
  obtain ⟨p, c, rfl, hc, hm, hat⟩ := row_el hr
  unfold maxLen at hm
  have HAT := Lib.hid hat
  have HX := Lib.hid hx
  have HRD := Lib.hid h
  have HL := Lib.hid hl
  obtain ⟨m, hmm⟩ : ∃ m, m = L.length := ⟨_, rfl⟩
  have HM := Lib.hid hmm
  rw [← hmm] at hc hL ⊢
  have e6 : (m : Int) % 18446744073709551616 = (m : Int) := by omega
  have e7 : IntKind.u64.wrap (m : Int) = (m : Int) := by rw [IntKind.wrap_u64]; omega
  have HIN : Hid (∀ z ∈ [(m : Int)], 0 ≤ z ∧ z < 18446744073709551616) := Lib.hid (fun z hz => by (simp at hz; subst hz; omega))
  have HEL : Hid (eL helE L = eN [(m : Int)] ++ L.flatMap helE) := Lib.hid (by unfold eL; rw [eN_one, hmm])
  have HFL : Hid (∀ q, ((L.take q).flatMap helE).length ≤ 100000) := Lib.hid (fun q => by have h1 := flat_len (enc := helE) (L.take q) (fun x hx' => (enc_small (hx x (List.mem_of_mem_take hx'))).2.2.2.1); have h2 : (L.take q).length ≤ 256 := (by rw [List.length_take]; omega); omega)
  clear hr hat hx hmm h hl
  go_enter Tryz.func82, Tryz.ntmps82
  go_upto_region 3 with (go_at_call 29; refine (nums_any v l [(m : Int)] 1 _ _ (HRD.out.below (below_alloc _ _)) (by have := HL.out; omega) (show Blk _ _ [.int .u64 (m : Int)] _ from Blk.made w [.int .u64 (m : Int)] _) rfl (by omega) (by omega) HIN.out).mono ?_; rintro e w2 ⟨v2, rfl, hf, hb⟩; have HB2 : Hid (Below w.heap.size w w2) := Lib.hid (below_and (below_alloc _ _) hb); have HF2 : Hid (Fresh w.heap.size w2 v2 (l ++ eN [(m : Int)])) := Lib.hid (hf.mono (by simp)); clear hf hb)
  have HLN : Hid ((l ++ eN [(m : Int)]).length ≤ 2000000000) := Lib.hid (by rw [List.length_append]; have h1 := HL.out; have h2 := eN_len [(m : Int)]; simp at h2; omega)
  go_loopw [0, 17] (fun vb vi wr => ∃ q : Nat, q ≤ m ∧ vi = .int .i64 q ∧ Hid (Fresh w.heap.size wr vb ((l ++ eN [(m : Int)]) ++ (L.take q).flatMap helE) ∧ Below w.heap.size w wr)) (fun _ vi _ => m - (intOf vi).toNat)
  case atStart => exact ⟨0, Nat.zero_le _, by go_num, Lib.hid ⟨by simpa using HF2.out, HB2.out⟩⟩
  case round =>
    obtain ⟨q, hq, rfl, HR⟩ := hrel
    by_cases hlt : q < m
    rotate_left
    · obtain rfl : q = m := by omega
      have e9 : L.take q = L := by rw [HM.out, List.take_length]
      rw [e9] at HR
      go_wp2
      go_ret
      have h9 := HR.out.1
      rw [List.append_assoc, ← HEL.out] at h9
      exact ⟨_, rfl, h9, HR.out.2⟩
    have HI : Hid (q < L.length) := Lib.hid (by rw [← HM.out]; exact hlt)
    obtain ⟨x, hx⟩ : ∃ x, x = L[q]'HI.out := ⟨_, rfl⟩
    have HFX := Lib.hid (HX.out x (by rw [hx]; exact List.getElem_mem _))
    have hlen : (rwC helC L).length = L.length * 4 := rwC_len (show ∀ z, (helC z).length = 4 from fun _ => rfl) L
    rcases HAT.out with ha | ⟨b, o, rfl, ha⟩
    · exact absurd (congrArg List.length ha) (by rw [hlen]; have := HI.out; simp; omega)
    have hcx : ∀ j u, j < 4 → (helC x)[j]? = some u → wr.cell? ⟨b, o + (q * 4 + j), none⟩ = some u := fun j u hj hu => cell_kept (ha _ u (by rw [rwC_at (show ∀ z, (helC z).length = 4 from fun _ => rfl) HI.out hj, ← hx]; exact hu)) HR.out.2
    have x0 : wr.cell? ⟨b, o + q * 4, none⟩ = some (.string (bs x.j)) := by have := hcx 0 _ (by omega) rfl; simpa [Nat.add_assoc] using this
    have x1 : wr.cell? ⟨b, o + q * 4 + 1, none⟩ = some (.int .i64 x.i) := by have := hcx 1 _ (by omega) rfl; simpa [Nat.add_assoc] using this
    have x2 : wr.cell? ⟨b, o + q * 4 + 2, none⟩ = some (.int .u64 x.n) := by have := hcx 2 _ (by omega) rfl; simpa [Nat.add_assoc] using this
    have x3 : wr.cell? ⟨b, o + q * 4 + 3, none⟩ = some (.int .i64 x.q) := by have := hcx 3 _ (by omega) rfl; simpa [Nat.add_assoc] using this
    have HN : Hid (((l ++ eN [(m : Int)]) ++ (L.take (q + 1)).flatMap helE) = ((l ++ eN [(m : Int)]) ++ (L.take q).flatMap helE) ++ helE x) := Lib.hid (by rw [List.take_succ_eq_append_getElem HI.out, ← hx, List.flatMap_append]; simp)
    clear ha hcx hlen hx
    have i1 : (q : Int) < (m : Int) := by omega
    go_upto_region 5 with fail
    obtain ⟨X, hX⟩ : ∃ X, X = wr.heap.size := ⟨_, rfl⟩
    obtain ⟨w3, hw3⟩ : ∃ w3, w3 = wr.alloc (.cells #[.string (bs x.j), .int .i64 x.i, .int .u64 x.n, .int .i64 x.q] 88) := ⟨_, rfl⟩
    have HX3 : Hid (Blk w3 X [.string (bs x.j), .int .i64 x.i, .int .u64 x.n, .int .i64 x.q] 88) := Lib.hid (by rw [hw3, hX]; exact Blk.made wr [.string (bs x.j), .int .i64 x.i, .int .u64 x.n, .int .i64 x.q] _)
    have HB3 : Hid (Below wr.heap.size wr w3) := Lib.hid (by rw [hw3]; exact below_alloc _ _)
    rw [← hw3, ← hX]
    clear hw3 hX x0 x1 x2 x3
    have y0 := HX3.out.cell (j := 0) rfl
    have y1 := HX3.out.cell (j := 1) rfl
    have y2 := HX3.out.cell (j := 2) rfl
    have y3 := HX3.out.cell (j := 3) rfl
    go_wp2_with (go_at_call 83; refine (helE_any u0 _ x _ (HR.out.1.rd.below HB3.out) (by rw [List.length_append]; have h1 := HLN.out; have h2 := HFL.out q; omega) HFX.out).mono ?_; rintro e w4 ⟨v4, rfl, hf, hb⟩; have HB4 := Lib.hid (below_and HR.out.2 (below_and HB3.out hb)); have HF4 := Lib.hid (hf.mono (Nat.le_trans HR.out.2.size HB3.out.size)); clear hf hb)
    go_roundw
    case rel => exact ⟨q + 1, hlt, by go_num, Lib.hid ⟨by rw [HN.out]; exact HF4.out, HB4.out⟩⟩
    case measure => simp [intOf]; omega
set_option maxRecDepth 100000 in
set_option maxHeartbeats 4000000 in
theorem finP_any (v vl : Value) (l : List UInt8) (L : List El) (w : World) (h : Rd w v l) (hl : l.length ≤ 1000000000) (hr : Row w vl 5 L.length (rwC finC L)) (hL : L.length ≤ 256) (hx : ∀ x ∈ L, Ft x) : Calls Tryz.prog 84 #[v, vl, .func (.func 85) #[] #[]] w fun e w' => ∃ v', e = .returned v' ∧ Fresh w.heap.size w' v' (l ++ eL finE L) ∧ Below w.heap.size w w' := by
  obtain ⟨p, c, rfl, hc, hm, hat⟩ := row_el hr
  unfold maxLen at hm
  have HAT := Lib.hid hat
  have HX := Lib.hid hx
  have HRD := Lib.hid h
  have HL := Lib.hid hl
  obtain ⟨m, hmm⟩ : ∃ m, m = L.length := ⟨_, rfl⟩
  have HM := Lib.hid hmm
  rw [← hmm] at hc hL ⊢
  have e6 : (m : Int) % 18446744073709551616 = (m : Int) := by omega
  have e7 : IntKind.u64.wrap (m : Int) = (m : Int) := by rw [IntKind.wrap_u64]; omega
  have HIN : Hid (∀ z ∈ [(m : Int)], 0 ≤ z ∧ z < 18446744073709551616) := Lib.hid (fun z hz => by (simp at hz; subst hz; omega))
  have HEL : Hid (eL finE L = eN [(m : Int)] ++ L.flatMap finE) := Lib.hid (by unfold eL; rw [eN_one, hmm])
  have HFL : Hid (∀ q, ((L.take q).flatMap finE).length ≤ 100000) := Lib.hid (fun q => by have h1 := flat_len (enc := finE) (L.take q) (fun x hx' => (enc_small (hx x (List.mem_of_mem_take hx'))).2.2.2.2.1); have h2 : (L.take q).length ≤ 256 := (by rw [List.length_take]; omega); omega)
  clear hr hat hx hmm h hl
  go_enter Tryz.func84, Tryz.ntmps84
  go_upto_region 3 with (go_at_call 29; refine (nums_any v l [(m : Int)] 1 _ _ (HRD.out.below (below_alloc _ _)) (by have := HL.out; omega) (show Blk _ _ [.int .u64 (m : Int)] _ from Blk.made w [.int .u64 (m : Int)] _) rfl (by omega) (by omega) HIN.out).mono ?_; rintro e w2 ⟨v2, rfl, hf, hb⟩; have HB2 : Hid (Below w.heap.size w w2) := Lib.hid (below_and (below_alloc _ _) hb); have HF2 : Hid (Fresh w.heap.size w2 v2 (l ++ eN [(m : Int)])) := Lib.hid (hf.mono (by simp)); clear hf hb)
  have HLN : Hid ((l ++ eN [(m : Int)]).length ≤ 2000000000) := Lib.hid (by rw [List.length_append]; have h1 := HL.out; have h2 := eN_len [(m : Int)]; simp at h2; omega)
  go_loopw [0, 17] (fun vb vi wr => ∃ q : Nat, q ≤ m ∧ vi = .int .i64 q ∧ Hid (Fresh w.heap.size wr vb ((l ++ eN [(m : Int)]) ++ (L.take q).flatMap finE) ∧ Below w.heap.size w wr)) (fun _ vi _ => m - (intOf vi).toNat)
  case atStart => exact ⟨0, Nat.zero_le _, by go_num, Lib.hid ⟨by simpa using HF2.out, HB2.out⟩⟩
  case round =>
    obtain ⟨q, hq, rfl, HR⟩ := hrel
    by_cases hlt : q < m
    rotate_left
    · obtain rfl : q = m := by omega
      have e9 : L.take q = L := by rw [HM.out, List.take_length]
      rw [e9] at HR
      go_wp2
      go_ret
      have h9 := HR.out.1
      rw [List.append_assoc, ← HEL.out] at h9
      exact ⟨_, rfl, h9, HR.out.2⟩
    have HI : Hid (q < L.length) := Lib.hid (by rw [← HM.out]; exact hlt)
    obtain ⟨x, hx⟩ : ∃ x, x = L[q]'HI.out := ⟨_, rfl⟩
    have HFX := Lib.hid (HX.out x (by rw [hx]; exact List.getElem_mem _))
    have hlen : (rwC finC L).length = L.length * 5 := rwC_len (show ∀ z, (finC z).length = 5 from fun _ => rfl) L
    rcases HAT.out with ha | ⟨b, o, rfl, ha⟩
    · exact absurd (congrArg List.length ha) (by rw [hlen]; have := HI.out; simp; omega)
    have hcx : ∀ j u, j < 5 → (finC x)[j]? = some u → wr.cell? ⟨b, o + (q * 5 + j), none⟩ = some u := fun j u hj hu => cell_kept (ha _ u (by rw [rwC_at (show ∀ z, (finC z).length = 5 from fun _ => rfl) HI.out hj, ← hx]; exact hu)) HR.out.2
    have x0 : wr.cell? ⟨b, o + q * 5, none⟩ = some (.int .u64 x.k) := by have := hcx 0 _ (by omega) rfl; simpa [Nat.add_assoc] using this
    have x1 : wr.cell? ⟨b, o + q * 5 + 1, none⟩ = some (.string (bs x.j)) := by have := hcx 1 _ (by omega) rfl; simpa [Nat.add_assoc] using this
    have x2 : wr.cell? ⟨b, o + q * 5 + 2, none⟩ = some (.int .i64 x.i) := by have := hcx 2 _ (by omega) rfl; simpa [Nat.add_assoc] using this
    have x3 : wr.cell? ⟨b, o + q * 5 + 3, none⟩ = some (.int .u64 x.n) := by have := hcx 3 _ (by omega) rfl; simpa [Nat.add_assoc] using this
    have x4 : wr.cell? ⟨b, o + q * 5 + 4, none⟩ = some (.int .i64 x.q) := by have := hcx 4 _ (by omega) rfl; simpa [Nat.add_assoc] using this
    have HN : Hid (((l ++ eN [(m : Int)]) ++ (L.take (q + 1)).flatMap finE) = ((l ++ eN [(m : Int)]) ++ (L.take q).flatMap finE) ++ finE x) := Lib.hid (by rw [List.take_succ_eq_append_getElem HI.out, ← hx, List.flatMap_append]; simp)
    clear ha hcx hlen hx
    have i1 : (q : Int) < (m : Int) := by omega
    go_upto_region 5 with fail
    obtain ⟨X, hX⟩ : ∃ X, X = wr.heap.size := ⟨_, rfl⟩
    obtain ⟨w3, hw3⟩ : ∃ w3, w3 = wr.alloc (.cells #[.int .u64 x.k, .string (bs x.j), .int .i64 x.i, .int .u64 x.n, .int .i64 x.q] 95) := ⟨_, rfl⟩
    have HX3 : Hid (Blk w3 X [.int .u64 x.k, .string (bs x.j), .int .i64 x.i, .int .u64 x.n, .int .i64 x.q] 95) := Lib.hid (by rw [hw3, hX]; exact Blk.made wr [.int .u64 x.k, .string (bs x.j), .int .i64 x.i, .int .u64 x.n, .int .i64 x.q] _)
    have HB3 : Hid (Below wr.heap.size wr w3) := Lib.hid (by rw [hw3]; exact below_alloc _ _)
    rw [← hw3, ← hX]
    clear hw3 hX x0 x1 x2 x3 x4
    have y0 := HX3.out.cell (j := 0) rfl
    have y1 := HX3.out.cell (j := 1) rfl
    have y2 := HX3.out.cell (j := 2) rfl
    have y3 := HX3.out.cell (j := 3) rfl
    have y4 := HX3.out.cell (j := 4) rfl
    go_wp2_with (go_at_call 85; refine (finE_any u0 _ x _ (HR.out.1.rd.below HB3.out) (by rw [List.length_append]; have h1 := HLN.out; have h2 := HFL.out q; omega) HFX.out).mono ?_; rintro e w4 ⟨v4, rfl, hf, hb⟩; have HB4 := Lib.hid (below_and HR.out.2 (below_and HB3.out hb)); have HF4 := Lib.hid (hf.mono (Nat.le_trans HR.out.2.size HB3.out.size)); clear hf hb)
    go_roundw
    case rel => exact ⟨q + 1, hlt, by go_num, Lib.hid ⟨by rw [HN.out]; exact HF4.out, HB4.out⟩⟩
    case measure => simp [intOf]; omega
set_option maxRecDepth 100000 in
set_option maxHeartbeats 4000000 in
theorem refP_any (v vl : Value) (l : List UInt8) (L : List El) (w : World) (h : Rd w v l) (hl : l.length ≤ 1000000000) (hr : Row w vl 4 L.length (rwC refC L)) (hL : L.length ≤ 256) (hx : ∀ x ∈ L, Ft x) : Calls Tryz.prog 86 #[v, vl, .func (.func 87) #[] #[]] w fun e w' => ∃ v', e = .returned v' ∧ Fresh w.heap.size w' v' (l ++ eL refE L) ∧ Below w.heap.size w w' := by
  obtain ⟨p, c, rfl, hc, hm, hat⟩ := row_el hr
  unfold maxLen at hm
  have HAT := Lib.hid hat
  have HX := Lib.hid hx
  have HRD := Lib.hid h
  have HL := Lib.hid hl
  obtain ⟨m, hmm⟩ : ∃ m, m = L.length := ⟨_, rfl⟩
  have HM := Lib.hid hmm
  rw [← hmm] at hc hL ⊢
  have e6 : (m : Int) % 18446744073709551616 = (m : Int) := by omega
  have e7 : IntKind.u64.wrap (m : Int) = (m : Int) := by rw [IntKind.wrap_u64]; omega
  have HIN : Hid (∀ z ∈ [(m : Int)], 0 ≤ z ∧ z < 18446744073709551616) := Lib.hid (fun z hz => by (simp at hz; subst hz; omega))
  have HEL : Hid (eL refE L = eN [(m : Int)] ++ L.flatMap refE) := Lib.hid (by unfold eL; rw [eN_one, hmm])
  have HFL : Hid (∀ q, ((L.take q).flatMap refE).length ≤ 100000) := Lib.hid (fun q => by have h1 := flat_len (enc := refE) (L.take q) (fun x hx' => (enc_small (hx x (List.mem_of_mem_take hx'))).2.2.2.2.2); have h2 : (L.take q).length ≤ 256 := (by rw [List.length_take]; omega); omega)
  clear hr hat hx hmm h hl
  go_enter Tryz.func86, Tryz.ntmps86
  go_upto_region 3 with (go_at_call 29; refine (nums_any v l [(m : Int)] 1 _ _ (HRD.out.below (below_alloc _ _)) (by have := HL.out; omega) (show Blk _ _ [.int .u64 (m : Int)] _ from Blk.made w [.int .u64 (m : Int)] _) rfl (by omega) (by omega) HIN.out).mono ?_; rintro e w2 ⟨v2, rfl, hf, hb⟩; have HB2 : Hid (Below w.heap.size w w2) := Lib.hid (below_and (below_alloc _ _) hb); have HF2 : Hid (Fresh w.heap.size w2 v2 (l ++ eN [(m : Int)])) := Lib.hid (hf.mono (by simp)); clear hf hb)
  have HLN : Hid ((l ++ eN [(m : Int)]).length ≤ 2000000000) := Lib.hid (by rw [List.length_append]; have h1 := HL.out; have h2 := eN_len [(m : Int)]; simp at h2; omega)
  go_loopw [0, 17] (fun vb vi wr => ∃ q : Nat, q ≤ m ∧ vi = .int .i64 q ∧ Hid (Fresh w.heap.size wr vb ((l ++ eN [(m : Int)]) ++ (L.take q).flatMap refE) ∧ Below w.heap.size w wr)) (fun _ vi _ => m - (intOf vi).toNat)
  case atStart => exact ⟨0, Nat.zero_le _, by go_num, Lib.hid ⟨by simpa using HF2.out, HB2.out⟩⟩
  case round =>
    obtain ⟨q, hq, rfl, HR⟩ := hrel
    by_cases hlt : q < m
    rotate_left
    · obtain rfl : q = m := by omega
      have e9 : L.take q = L := by rw [HM.out, List.take_length]
      rw [e9] at HR
      go_wp2
      go_ret
      have h9 := HR.out.1
      rw [List.append_assoc, ← HEL.out] at h9
      exact ⟨_, rfl, h9, HR.out.2⟩
    have HI : Hid (q < L.length) := Lib.hid (by rw [← HM.out]; exact hlt)
    obtain ⟨x, hx⟩ : ∃ x, x = L[q]'HI.out := ⟨_, rfl⟩
    have HFX := Lib.hid (HX.out x (by rw [hx]; exact List.getElem_mem _))
    have hlen : (rwC refC L).length = L.length * 4 := rwC_len (show ∀ z, (refC z).length = 4 from fun _ => rfl) L
    rcases HAT.out with ha | ⟨b, o, rfl, ha⟩
    · exact absurd (congrArg List.length ha) (by rw [hlen]; have := HI.out; simp; omega)
    have hcx : ∀ j u, j < 4 → (refC x)[j]? = some u → wr.cell? ⟨b, o + (q * 4 + j), none⟩ = some u := fun j u hj hu => cell_kept (ha _ u (by rw [rwC_at (show ∀ z, (refC z).length = 4 from fun _ => rfl) HI.out hj, ← hx]; exact hu)) HR.out.2
    have x0 : wr.cell? ⟨b, o + q * 4, none⟩ = some (.string (bs x.j)) := by have := hcx 0 _ (by omega) rfl; simpa [Nat.add_assoc] using this
    have x1 : wr.cell? ⟨b, o + q * 4 + 1, none⟩ = some (.int .i64 x.i) := by have := hcx 1 _ (by omega) rfl; simpa [Nat.add_assoc] using this
    have x2 : wr.cell? ⟨b, o + q * 4 + 2, none⟩ = some (.int .u64 x.n) := by have := hcx 2 _ (by omega) rfl; simpa [Nat.add_assoc] using this
    have x3 : wr.cell? ⟨b, o + q * 4 + 3, none⟩ = some (.int .i64 x.q) := by have := hcx 3 _ (by omega) rfl; simpa [Nat.add_assoc] using this
    have HN : Hid (((l ++ eN [(m : Int)]) ++ (L.take (q + 1)).flatMap refE) = ((l ++ eN [(m : Int)]) ++ (L.take q).flatMap refE) ++ refE x) := Lib.hid (by rw [List.take_succ_eq_append_getElem HI.out, ← hx, List.flatMap_append]; simp)
    clear ha hcx hlen hx
    have i1 : (q : Int) < (m : Int) := by omega
    go_upto_region 5 with fail
    obtain ⟨X, hX⟩ : ∃ X, X = wr.heap.size := ⟨_, rfl⟩
    obtain ⟨w3, hw3⟩ : ∃ w3, w3 = wr.alloc (.cells #[.string (bs x.j), .int .i64 x.i, .int .u64 x.n, .int .i64 x.q] 99) := ⟨_, rfl⟩
    have HX3 : Hid (Blk w3 X [.string (bs x.j), .int .i64 x.i, .int .u64 x.n, .int .i64 x.q] 99) := Lib.hid (by rw [hw3, hX]; exact Blk.made wr [.string (bs x.j), .int .i64 x.i, .int .u64 x.n, .int .i64 x.q] _)
    have HB3 : Hid (Below wr.heap.size wr w3) := Lib.hid (by rw [hw3]; exact below_alloc _ _)
    rw [← hw3, ← hX]
    clear hw3 hX x0 x1 x2 x3
    have y0 := HX3.out.cell (j := 0) rfl
    have y1 := HX3.out.cell (j := 1) rfl
    have y2 := HX3.out.cell (j := 2) rfl
    have y3 := HX3.out.cell (j := 3) rfl
    go_wp2_with (go_at_call 87; refine (refE_any u0 _ x _ (HR.out.1.rd.below HB3.out) (by rw [List.length_append]; have h1 := HLN.out; have h2 := HFL.out q; omega) HFX.out).mono ?_; rintro e w4 ⟨v4, rfl, hf, hb⟩; have HB4 := Lib.hid (below_and HR.out.2 (below_and HB3.out hb)); have HF4 := Lib.hid (hf.mono (Nat.le_trans HR.out.2.size HB3.out.size)); clear hf hb)
    go_roundw
    case rel => exact ⟨q + 1, hlt, by go_num, Lib.hid ⟨by rw [HN.out]; exact HF4.out, HB4.out⟩⟩
    case measure => simp [intOf]; omega
end Go.Proofs.YtopkfomlppnpeaaGreatDoor.Ms
