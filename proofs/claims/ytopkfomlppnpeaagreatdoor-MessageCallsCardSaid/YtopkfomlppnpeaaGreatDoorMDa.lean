/- , laid together: MsDAp, MsDLet. -/
import Derived.Test.YtopkfomlppnpeaaGreatDoorMDf
import Derived.Test.YtopkfomlppnpeaaGreatDoorMOne
import Derived.Test.YtopkfomlppnpeaaGreatDoorMsFrm
import Derived.Deep.RegionHeld3
namespace Go.Proofs.YtopkfomlppnpeaaGreatDoor.Ms
open Go.RowKit Go.Proofs.YtopkfomlppnpeaaGreatDoor

theorem own_drw {w : World} {base : Nat} {e : TypeId} {size n : Nat} {v : Value} {xs : List Value} (h : w.ownsRow base e size v n xs) : w.drew.ownsRow base e size v n xs := own_keep h (below_drewN 1)
set_option maxRecDepth 100000 in
set_option maxHeartbeats 4000000 in
theorem rfapp_any (v vb : Value) (l : List UInt8) (k : UInt8) (body : List UInt8) (w : World) (h : Rd w v l) (hb : Rd w vb body) (hl : l.length ≤ 1000000000) (hn : body.length ≤ 1048576) : Calls Tryz.prog 126 #[v, .agg #[.int .u8 (k.toNat : Int), vb]] w fun e w' => ∃ v', e = .returned (.tuple #[v', .int .i64 0]) ∧ Fresh w.heap.size w' v' (l ++ frm k body) ∧ Below w.heap.size w w' := by
  obtain ⟨i0, hi, hz0, hz1, hz2⟩ := info_parts Tryz.uinfo
  obtain ⟨p, c, rfl⟩ := rd_slice h
  obtain ⟨q, d, rfl⟩ := rd_slice hb
  obtain ⟨m, hm⟩ : ∃ m, m = l.length := ⟨_, rfl⟩
  obtain ⟨n, hnn⟩ : ∃ n, n = body.length := ⟨_, rfl⟩
  obtain ⟨X, hX⟩ : ∃ X, X = w.heap.size := ⟨_, rfl⟩
  obtain ⟨w1, hw1⟩ : ∃ w1, w1 = w.alloc (.cells #[.int .u8 (k.toNat : Int), .slice q n d] 79) := ⟨_, rfl⟩
  have HX1 : Hid (Blk w1 X [.int .u8 (k.toNat : Int), .slice q n d] 79) := Lib.hid (by rw [hw1, hX]; exact Blk.made w [_, _] _)
  have HB1 : Hid (Below w.heap.size w w1) := Lib.hid (by rw [hw1]; exact below_alloc _ _)
  have HRD := Lib.hid (h.below HB1.out)
  have HRB := Lib.hid (hb.below HB1.out)
  have HMM := Lib.hid hm
  have HNN := Lib.hid hnn
  rw [← hnn] at hn HRB ⊢
  rw [← hm] at hl HRD ⊢
  have HLL : Hid (m ≤ 1000000000 ∧ n ≤ 1048576) := Lib.hid ⟨hl, hn⟩
  clear h hb hm hnn
  have HHC : Hid ((hdr k body.length).map B = [.int .u8 (k.toNat : Int), .int .u8 ((n : Int) % 256), .int .u8 ((n : Int) / 256 % 256), .int .u8 ((n : Int) / 65536)]) := Lib.hid (by rw [← HNN.out, hdr_cells k n, show ((n : Int) / 65536 % 256) = (n : Int) / 65536 by have := HLL.out; omega])
  have HSM := Lib.hid (fun w' (g : Nat) (hg : Blk w' g [.int .u8 (k.toNat : Int), .int .u8 ((n : Int) % 256), .int .u8 ((n : Int) / 256 % 256), .int .u8 ((n : Int) / 65536)] 5) => (rsum_any (.slice (some ⟨g, 0, none⟩) 4 4) (hdr k body.length) w' (rd_blk (l := hdr k body.length) (by rw [HHC.out]; exact hg) (by rw [hdr_len]; omega))))
  obtain ⟨s, hs⟩ : ∃ s, s = more 0 (hdr k body.length) := ⟨_, rfl⟩
  rw [← hs] at HSM
  have HSE := Lib.hid hs
  have HSL : Hid (s < 4294967296) := Lib.hid (by rw [hs]; exact more_lt (by omega) _)
  clear hs
  go_enter Tryz.func126, Tryz.ntmps126
  go_upto_region 1 with fail
  rw [← hw1, ← hX]
  clear hw1 hX
  have x0 := HX1.out.cell (j := 0) rfl
  have x1 := HX1.out.cell (j := 1) rfl
  have t0 : ¬ (1048576 : Int) < (n : Int) := by omega
  have s0 : IntKind.u8.wrap (n : Int) = (n : Int) % 256 := by unfold IntKind.wrap; simp [IntKind.bits, IntKind.signed]
  go_upto_region 5 with fail
  obtain ⟨H, hH⟩ : ∃ H, H = w1.heap.size := ⟨_, rfl⟩
  obtain ⟨w2, hw2⟩ : ∃ w2, w2 = w1.alloc (.cells #[.int .u8 (k.toNat : Int), .int .u8 ((n : Int) % 256), .int .u8 ((n : Int) / 256 % 256), .int .u8 ((n : Int) / 65536)] 5) := ⟨_, rfl⟩
  have HH2 : Hid (Blk w2 H [.int .u8 (k.toNat : Int), .int .u8 ((n : Int) % 256), .int .u8 ((n : Int) / 256 % 256), .int .u8 ((n : Int) / 65536)] 5) := Lib.hid (by rw [hw2, hH]; exact Blk.made w1 [.int .u8 (k.toNat : Int), .int .u8 ((n : Int) % 256), .int .u8 ((n : Int) / 256 % 256), .int .u8 ((n : Int) / 65536)] _)
  have HB2 : Hid (Below w1.heap.size w1 w2) := Lib.hid (by rw [hw2]; exact below_alloc _ _)
  rw [← hw2, ← hH]
  clear hw2 hH
  go_upto_region 6 with (go_at_call 134; refine (HSM.out _ H HH2.out).mono ?_; rintro e w3 ⟨rfl, rfl⟩)
  have HLS : Hid (∀ w', Below w1.heap.size w1 w' → Src Tryz.prog 1 23 (.slice p m c) m (l.map B) w') := Lib.hid (fun w' hw => by have h9 := (HRD.out.below hw).src Tryz.underlying23; rw [← HMM.out] at h9; exact h9)
  have HHS : Hid (∀ w', Below w2.heap.size w2 w' → Src Tryz.prog 1 23 (.slice (some ⟨H, 0, none⟩) 4 4) 4 ((hdr k body.length).map B) w') := Lib.hid (fun w' hw => (rd_blk (l := hdr k body.length) (by rw [HHC.out]; exact HH2.out.kept hw) (by rw [hdr_len]; omega)).src Tryz.underlying23)
  go_upto_region 7 with (first | (at_builtin; refine wpList_app _ rfl _ _ 23 23 rfl w2.heap.size 5 i0 (.int .u8 0) 1 1 Tryz.underlying23 hi hz0 hz1 hz2 rfl v4 (m + 4) (l.map B ++ (hdr k body.length).map B) rfl HO5.out _ 4 ((le4 s).map B) rfl HS5.out (by have := HLL.out; unfold maxLen; omega) (by have := HLL.out; omega) (Below.size HB5.out) ?_; intro v6 w6 ho hg _; have HO6 := Lib.hid ho; have HB6 : Hid (Below w2.heap.size w2 w6) := Lib.hid (below_grown HB5.out (Below.size HB5.out) HO5.out hg); clear ho hg) | (go_at_call 153; refine (rfour_any s w4).mono ?_; rintro e w5 ⟨rfl, hk, hb⟩; have HF5 := Lib.hid hk; have HB5 : Hid (Below w2.heap.size w2 w5) := Lib.hid (below_and HB4.out hb); have HO5 := Lib.hid (own_keep HO4.out hb); have HS5 : Hid (Src Tryz.prog 1 23 (.slice (some ⟨w4.heap.size, 0, none⟩) 4 4) 4 ((le4 s).map B) w5) := Lib.hid ((rd_blk (l := le4 s) hk (by rw [le4_len]; omega)).src Tryz.underlying23); clear hk hb) | (at_builtin; refine wpList_app _ rfl _ _ 23 23 rfl w2.heap.size 5 i0 (.int .u8 0) 1 1 Tryz.underlying23 hi hz0 hz1 hz2 rfl v3 m (l.map B) rfl HO3.out _ 4 ((hdr k body.length).map B) rfl (HHS.out _ HB3.out) (by have := HLL.out; unfold maxLen; omega) (by have := HLL.out; omega) (Below.size HB3.out) ?_; intro v4 w4 ho hg _; have HO4 := Lib.hid ho; have HB4 : Hid (Below w2.heap.size w2 w4) := Lib.hid (below_grown HB3.out (Below.size HB3.out) HO3.out hg); clear ho hg) | (at_builtin; refine wpList_app _ rfl _ _ 23 23 rfl w2.heap.size 5 i0 (.int .u8 0) 1 1 Tryz.underlying23 hi hz0 hz1 hz2 rfl (.slice (some ⟨w2.heap.size, 0, none⟩) 0 0) 0 [] rfl (own_none w2) _ m (l.map B) rfl (HLS.out _ (below_and HB2.out (below_alloc _ _))) (by have := HLL.out; unfold maxLen; omega) (by have := HLL.out; omega) (by simp) ?_; intro v3 w3 ho hg _; rw [Nat.zero_add, List.nil_append] at ho; have HO3 := Lib.hid ho; have HB3 : Hid (Below w2.heap.size w2 w3) := Lib.hid (below_grown (below_alloc w2 _) (by simp) (own_none w2) hg); clear ho hg))
  have HB16 : Hid (Below w1.heap.size w1 w6) := Lib.hid (HB2.out.trans (HB6.out.mono HB2.out.size))
  have HSS : Hid (∀ w', Below w1.heap.size w1 w' → w'.cell? ⟨X, 1, none⟩ = some (.slice q n d)) := Lib.hid (fun w' hw => (HX1.out.kept hw).cell (j := 1) rfl)
  have HBS : Hid (∀ w', Below w1.heap.size w1 w' → Src Tryz.prog 1 23 (.slice q n d) n (body.map B) w') := Lib.hid (fun w' hw => by have h9 := (HRB.out.below hw).src Tryz.underlying23; rw [← HNN.out] at h9; exact h9)
  obtain ⟨z, hz⟩ : ∃ z, z = more s body := ⟨_, rfl⟩
  have HMO := Lib.hid (fun w' (hw : Below w1.heap.size w1 w') => rmore_any s (.slice q n d) body w' HSL.out (HRB.out.below hw))
  rw [← hz] at HMO
  have HZE := Lib.hid hz
  clear hz
  have HV6 : Hid (∀ g, v6.ownBlock = some g → g < w6.heap.size) := Lib.hid (fun g hg => own_hi HO6.out hg)
  have HO6d := Lib.hid (own_drw HO6.out)
  have HB6d := Lib.hid (below_dr HB6.out)
  have HS6d := Lib.hid (HBS.out _ (below_dr HB16.out))
  go_region_held3 (fun w' => w'.cell? ⟨X, 1, none⟩ = some (.slice q n d))
    ((refine HSS.out _ ?_ <;> (repeat (first | with_reducible exact HB19.out | with_reducible exact HB17.out | with_reducible exact HB18.out | with_reducible exact HB16.out | with_reducible apply below_dr))))
    (first
      | (refine step_app rfl (.tmp 39) (.tmp 44) 23 23 rfl w2.heap.size 5 i0 (.int .u8 0) 1 1 Tryz.underlying23 hi hz0 hz1 hz2 rfl v8 _ _ (by rfl) HO7.out (.slice (some ⟨F, 0, none⟩) 4 4) 4 ((le4 z).map B) (by rfl) HS7.out (by have := HLL.out; unfold maxLen; omega) (by have := HLL.out; omega) (Below.size HB27.out) ?_; intro v9 w9 ho hg _ _; have HO9 := Lib.hid ho; have HB29 : Hid (Below w2.heap.size w2 w9) := Lib.hid (below_grown HB27.out (Below.size HB27.out) HO7.out hg); have HB19 : Hid (Below w1.heap.size w1 w9) := Lib.hid (HB2.out.trans (HB29.out.mono HB2.out.size)); clear ho hg)
      | (go_at_call 136; refine (HMO.out _ (by repeat (first | with_reducible exact HB18.out | with_reducible exact HB16.out | with_reducible apply below_dr))).mono ?_; rintro e wq ⟨rfl, rfl⟩)
      | (go_at_call 153; refine (rfour_any z w8).mono ?_; rintro e w7 ⟨rfl, hk, hb⟩; obtain ⟨F, hF⟩ : ∃ F, F = w8.heap.size := ⟨_, rfl⟩; rw [← hF] at hk; (try rw [← hF]); have HB27 := Lib.hid (below_and HB28.out hb); have HB17 : Hid (Below w1.heap.size w1 w7) := Lib.hid (HB2.out.trans (HB27.out.mono HB2.out.size)); have HO7 := Lib.hid (own_keep HO8.out hb); have HS7 := Lib.hid ((rd_blk (l := le4 z) hk (by rw [le4_len]; omega)).src Tryz.underlying23); clear hk hb hF)
      | (refine step_app rfl (.tmp 36) (.tmp 38) 23 23 rfl w2.heap.size 5 i0 (.int .u8 0) 1 1 Tryz.underlying23 hi hz0 hz1 hz2 rfl v6 _ _ (by rfl) HO6d.out (.slice q n d) n (body.map B) (by rfl) HS6d.out (by have := HLL.out; unfold maxLen; omega) (by have := HLL.out; omega) (Below.size HB6d.out) ?_; intro v8 w8 ho hg _ _; have HO8 := Lib.hid ho; have HB28 : Hid (Below w2.heap.size w2 w8) := Lib.hid (below_grown HB6d.out (Below.size HB6d.out) HO6d.out hg); have HB18 : Hid (Below w1.heap.size w1 w8) := Lib.hid (HB2.out.trans (HB28.out.mono HB2.out.size)); clear ho hg))
  all_goals (go_wp2; go_ret2; refine ⟨v9, rfl, ?_, below_and HB1.out HB19.out⟩; refine own_mono (base := w2.heap.size) ?_ (Nat.le_trans HB1.out.size HB2.out.size); have h9 := HO9.out; rw [← List.map_append, ← List.map_append, ← List.map_append, ← List.map_append, show l ++ hdr k body.length ++ le4 s ++ body ++ le4 z = l ++ frm k body from by unfold frm; rw [← HSE.out, ← HZE.out]; simp] at h9; rw [show (l ++ frm k body).length = m + 4 + 4 + n + 4 from by rw [List.length_append, frm_len, ← HMM.out, ← HNN.out]; omega]; exact h9)
end Go.Proofs.YtopkfomlppnpeaaGreatDoor.Ms

namespace Go.Proofs.YtopkfomlppnpeaaGreatDoor.Ms
open Go.RowKit Go.Proofs.YtopkfomlppnpeaaGreatDoor

set_option maxRecDepth 100000 in
set_option maxHeartbeats 2000000 in
theorem letter_put (v vb : Value) (l : List UInt8) (k : UInt8) (body : List UInt8) (w : World) (h : Rd w v l) (hb : Rd w vb body) (hl : l.length ≤ 1000000000) (hn : body.length ≤ 1048576) : Calls Tryz.prog 80 #[v, .int .u8 (k.toNat : Int), vb] w fun e w' => ∃ v', e = .returned v' ∧ Fresh w.heap.size w' v' (l ++ frm k body) ∧ Below w.heap.size w w' := by
  obtain ⟨i0, hi, hz0, hz1, hz2⟩ := info_parts Tryz.uinfo
  obtain ⟨p, c, rfl⟩ := rd_slice h
  obtain ⟨q, d, rfl⟩ := rd_slice hb
  obtain ⟨m, hm⟩ : ∃ m, m = l.length := ⟨_, rfl⟩
  obtain ⟨n, hnn⟩ : ∃ n, n = body.length := ⟨_, rfl⟩
  have HMM := Lib.hid hm
  have HNN := Lib.hid hnn
  have HSL : Hid (Src Tryz.prog 1 23 (.slice p m c) m (l.map B) w) := Lib.hid (by have h9 := h.src Tryz.underlying23; rw [← hm] at h9; exact h9)
  have HAP := Lib.hid (fun (v3 : Value) w' (h3 : Rd w' v3 l) (hw : Below w.heap.size w w') => rfapp_any v3 (.slice q body.length d) l k body w' h3 (hb.below hw) hl hn)
  rw [← hnn] at HAP ⊢
  rw [← hm] at ⊢ hl
  have HLL := Lib.hid hl
  clear h hb hm hnn
  go_enter Tryz.func80, Tryz.ntmps80
  go_wp2_with (first | (go_at_call 126; refine (HAP.out _ _ HR3.out HB3.out).mono ?_; rintro e w4 ⟨v4, rfl, hf, hb⟩; have HF4 := Lib.hid (hf.mono (Below.size HB3.out)); have HB4 := Lib.hid (below_and HB3.out hb); clear hf hb) | (at_builtin; refine wpList_app _ rfl _ _ 23 23 rfl w.heap.size 5 i0 (.int .u8 0) 1 1 Tryz.underlying23 hi hz0 hz1 hz2 rfl (.slice none 0 0) 0 [] rfl (World.ownsRow_nil _ _ _ _) _ m (l.map B) rfl HSL.out (by have := HLL.out; unfold maxLen; omega) (by have := HLL.out; omega) (Nat.le_refl _) ?_; intro v3 w3 ho hg _; rw [Nat.zero_add, List.nil_append] at ho; have HR3 : Hid (Rd w3 v3 l) := Lib.hid (Fresh.rd (show Fresh w.heap.size w3 v3 l from (by unfold Fresh; rw [← HMM.out]; exact ho))); have HB3 : Hid (Below w.heap.size w w3) := Lib.hid (below_grown (Below.refl _ _) (Nat.le_refl _) (World.ownsRow_nil w w.heap.size 5 1) hg); clear ho hg))
  go_ret
  exact ⟨_, rfl, HF4.out, HB4.out⟩
end Go.Proofs.YtopkfomlppnpeaaGreatDoor.Ms
