/- RdLeaf, RdPairs. -/
import Derived.Test.YtdemkfhkibmbnaaGreatDoorM33
set_option maxRecDepth 100000
set_option maxHeartbeats 8000000
namespace Go.Proofs.YtdemkfhkibmbnaaGreatDoor.Ru
open Go.RowKit Go.Proofs.YtdemkfhkibmbnaaGreatDoor
def DOut (base : Nat) (w w' : World) (b : Nat) (s : ByteArray) (d : Nat) (bd : Bool) (n : Nat) (R : PR) (r : Ending) : Prop :=
 ∃ (j : Int) (k' : Nat) (v' : Value) (L' : List Nd) (bd' : Bool) (n' : Nat), r = .returned (.int .i64 j) ∧ Dq base w' b s k' v' L' bd' (n' : Int) ∧ Below base w w' ∧
  (bd' = false → bd = false ∧ k' ≤ s.size ∧ R = .ok (j, ⟨n', L', rest s k'⟩)) ∧ (bd' = true → (bd = false → Dead R) ∧ k' ≤ s.size + (33 - d) ∧ n' ≤ max n 65 + (33 - d))
theorem DOut.bad {base : Nat} {w w' : World} {b : Nat} {s : ByteArray} {d : Nat} {bd : Bool} {n : Nat} {R : PR} {j : Int} {k' n' : Nat} {v' : Value} {L' : List Nd} {m : Int} (h : Dq base w' b s k' v' L' true m) (hm : m = (n' : Int)) (hb : Below base w w') (hd : bd = false → Dead R) (h1 : k' ≤ s.size + (33 - d)) (h2 : n' ≤ max n 65 + (33 - d)) : DOut base w w' b s d bd n R (.returned (.int .i64 j)) :=
 ⟨j, k', v', L', true, n', rfl, hm ▸ h, hb, fun g => by (cases g), fun _ => ⟨hd, h1, h2⟩⟩
theorem DOut.good {base : Nat} {w w' : World} {b : Nat} {s : ByteArray} {d n : Nat} {R : PR} {j : Int} {k' n' : Nat} {v' : Value} {L' : List Nd} {m : Int} (h : Dq base w' b s k' v' L' false m) (hm : m = (n' : Int)) (hb : Below base w w') (h1 : k' ≤ s.size) (hR : R = .ok (j, ⟨n', L', rest s k'⟩)) : DOut base w w' b s d false n R (.returned (.int .i64 j)) :=
 ⟨j, k', v', L', false, n', rfl, hm ▸ h, hb, fun _ => ⟨rfl, h1, hR⟩, fun g => by (cases g)⟩
theorem bs_eql (a b : List UInt8) : ((bs a).toList == b) = (a == b) := by
 rw [Lib.toList_data]; rfl
theorem two_list {s : ByteArray} {k : Nat} (h : k + 1 < s.size) : (rest s k).take 2 = [s[k], s[k + 1]] := by
 rw [rest_at (by omega), rest_at h]; rfl
theorem badN_no {s : ByteArray} {k : Nat} (h : badN s k = false) : nmR (rest s k) ≠ [] ∧ hd wdc ((rest s k).drop (nmR (rest s k)).length) = false := by
 unfold badN at h
 rw [Bool.or_eq_false_iff, decide_eq_false_iff_not] at h; exact ⟨fun e => h.1 (by rw [e]; rfl), by rw [rest_drop]; exact h.2⟩
theorem badN_yes {s : ByteArray} {k n : Nat} {L : List Nd} (h : badN s k = true) : Dead (leafP s.size ⟨n, L, rest s k⟩) := by
 unfold badN at h
 rw [Bool.or_eq_true, decide_eq_true_eq] at h; refine dlf_bad (h.imp (fun h9 => List.length_eq_zero_iff.1 h9) (fun h9 => ?_))
 show hd wdc ((rest s k).drop _) = true
 rw [rest_drop]; exact h9
section
variable {s : ByteArray} {k N n : Nat} {L : List Nd} {nm : List UInt8}
theorem opA (h : k < s.size) (hc : s[k] = 61) : opP N n L nm (rest s k) = wdE N n L nm 2 (rest s (k + 1)) := by
 rw [rest_at h, show s.data.toList[k]'(by simpa using h) = 61 from hc]; exact opP_equal
theorem opB (h : k + 1 < s.size) (hc : s[k] = 33) (h2 : s[k + 1] = 61) : opP N n L nm (rest s k) = wdE N n L nm 3 (rest s (k + 2)) := by
 rw [rest_at (by omega), rest_at h, show s.data.toList[k]'(by simp; omega) = 33 from hc, show s.data.toList[k + 1]'(by simpa using h) = 61 from h2]; exact opP_unlike
theorem opC (h : k + 1 < s.size) (hc : s[k] = 62) (h2 : s[k + 1] = 61) : opP N n L nm (rest s k) = dgE N n L nm 4 (rest s (k + 2)) := by
 rw [rest_at (by omega), rest_at h, show s.data.toList[k]'(by simp; omega) = 62 from hc, show s.data.toList[k + 1]'(by simpa using h) = 61 from h2]; exact opP_least
theorem opD (h : k + 1 < s.size) (hc : s[k] = 60) (h2 : s[k + 1] = 61) : opP N n L nm (rest s k) = dgE N n L nm 5 (rest s (k + 2)) := by
 rw [rest_at (by omega), rest_at h, show s.data.toList[k]'(by simp; omega) = 60 from hc, show s.data.toList[k + 1]'(by simpa using h) = 61 from h2]; exact opP_most
theorem opE (h : k < s.size) (hc : s[k] = 33 ∨ s[k] = 62 ∨ s[k] = 60) (hn : ∀ h : k + 1 < s.size, s[k + 1] ≠ 61) : Dead (opP N n L nm (rest s k)) := by
 rw [rest_at h]; refine opP_bad hc ?_
 by_cases h1 : k + 1 < s.size
 ·rw [rest_at h1]
  have := hn h1
  show (_ == _) = false
  rw [beq_eq_false_iff_ne]; exact this
 ·have : k + 1 = s.size := by omega
  rw [this, rest_end]; rfl
theorem opF (h : k < s.size) (h1 : s[k] ≠ 33) (h2 : s[k] ≠ 62) (h3 : s[k] ≠ 60) (h4 : s[k] ≠ 61) : opP N n L nm (rest s k) = .ok (put n L (rest s k) ⟨6, nm, [], 0, -1, -1⟩) := by
 rw [rest_at h]; exact opP_there h1 h2 h3 h4
theorem opF0 (hk : k ≤ s.size) (h : ¬ k < s.size) : opP N n L nm (rest s k) = .ok (put n L (rest s k) ⟨6, nm, [], 0, -1, -1⟩) := by
 have : k = s.size := by omega
 rw [this, rest_end]; exact opP_nil
theorem wd_ok {kd : Int} (hk : k ≤ s.size) (h : lenB 32 (runW (blk (rest s k))) = false) : wdE N n L nm kd (rest s k) = .ok ((L.length : Int), ⟨n, L ++ [⟨kd, nm, runW (blk (rest s k)), 0, -1, -1⟩], rest s (skip s k + (runW (blk (rest s k))).length)⟩) ∧ skip s k + (runW (blk (rest s k))).length ≤ s.size := by
 unfold lenB at h
 rw [Bool.or_eq_false_iff, decide_eq_false_iff_not, decide_eq_false_iff_not] at h; obtain ⟨-, h2, h3, -, -⟩ := skip_is hk; rw [wdE_yes (by omega) (by omega), ← rest_drop, ← h3]; exact ⟨rfl, by rw [h3]; exact (runW_spec h2).1⟩
theorem wd_far (hk : k ≤ s.size) : skip s k + (runW (blk (rest s k))).length ≤ s.size := by
 obtain ⟨-, h2, h3, -, -⟩ := skip_is hk; rw [h3]; exact (runW_spec h2).1
theorem wd_bad {kd : Int} (h : lenB 32 (runW (blk (rest s k))) = true) : Dead (wdE N n L nm kd (rest s k)) := by
 unfold lenB at h
 rw [Bool.or_eq_true, decide_eq_true_eq, decide_eq_true_eq] at h; exact wdE_no (by omega)
theorem numB_no {l : List UInt8} (h : numB l = false) : l.all dgt = true ∧ 1 ≤ l.length ∧ l.length ≤ 12 := by
 unfold numB digK at h
 simpa only [Bool.not_eq_false', Bool.and_eq_true, decide_eq_true_eq] using h
theorem dg_ok {kd : Int} (hk : k ≤ s.size) (h : numB (runW (blk (rest s k))) = false) : dgE N n L nm kd (rest s k) = .ok ((L.length : Int), ⟨n, L ++ [⟨kd, nm, [], digV (runW (blk (rest s k))), -1, -1⟩], rest s (skip s k + (runW (blk (rest s k))).length)⟩) := by
 obtain ⟨g1, g2, g3⟩ := numB_no h; obtain ⟨-, h2, h3, -, -⟩ := skip_is hk; rw [dgE_yes g1 g2 g3, ← rest_drop, ← h3]
 rfl
theorem dg_bad {kd : Int} (h : numB (runW (blk (rest s k))) = true) : Dead (dgE N n L nm kd (rest s k)) := by
 refine dgE_no (fun g => ?_)
 unfold numB digK at h
 rw [g.1, decide_eq_true g.2.1, decide_eq_true g.2.2] at h; cases h
end
theorem dleaf_any {base b : Nat} {s : ByteArray} {k n : Nat} {v : Value} {L : List Nd} {bd : Bool} {e a : Int} {w : World} (h : Dp base w b s k v L bd e a n) (hk : k ≤ s.size) (hn : n ≤ 500) (hl : bd = false → L.length ≤ 500 ∧ n ≤ 64) (hbase : base ≤ w.heap.size) (d : Nat) : Calls Tryz.prog 136 #[ptr b] w fun r w' => DOut base w w' b s d bd n (leafP s.size ⟨n, L, rest s k⟩) r := by
 have HNC := zz (dpname_any h hk); have H := zz h; have HBS := zz hbase; obtain ⟨nm, hnm⟩ : ∃ nm, nm = nmR (rest s k) := ⟨_, rfl⟩; obtain ⟨k1, hk1⟩ : ∃ k1, k1 = k + nm.length := ⟨_, rfl⟩; have hk1s : k1 ≤ s.size := by have h9 := (nmR_len (rest s k)).2; rw [rest_len, ← hnm] at h9; omega
 have hrd : rest s k1 = (rest s k).drop (nmR (rest s k)).length := by rw [rest_drop, hk1, hnm]
 have HBN : Hid (badN s k = false → nm ≠ [] ∧ (64 < n + 1 → Dead (leafP s.size ⟨n, L, rest s k⟩)) ∧ (n + 1 ≤ 64 → nm = anyT → leafP s.size ⟨n, L, rest s k⟩ = .ok (put (n + 1) L (rest s k1) ⟨1, [], [], 0, -1, -1⟩)) ∧ (n + 1 ≤ 64 → nm ≠ anyT → leafP s.size ⟨n, L, rest s k⟩ = opP s.size (n + 1) L nm (rest s (skip s k1)))) := zz (fun hb => by
  obtain ⟨g1, g2⟩ := badN_no hb; refine ⟨by rw [hnm]; exact g1, fun g => dlf_long g g1 g2, fun g ga => ?_, fun g ga => ?_⟩
  ·rw [hrd]; exact dlf_any (st := ⟨n, L, rest s k⟩) g (by rw [← ga, hnm]) g2
  ·rw [← (skip_is hk1s).2.2.1, hrd, hnm]; exact dlf_op (st := ⟨n, L, rest s k⟩) g g1 (by rw [← hnm]; exact ga) g2)
 have HBY : Hid (badN s k = true → Dead (leafP s.size ⟨n, L, rest s k⟩)) := zz badN_yes; obtain ⟨R, hR⟩ : ∃ R, R = leafP s.size ⟨n, L, rest s k⟩ := ⟨_, rfl⟩; rw [← hR] at HBN HBY ⊢; rw [← hnm, ← hk1] at HNC; have c1 := h.blk.cell (j := 1) rfl; have hkk : k ≤ s.size := hk; have HK1S := zz hk1s; obtain ⟨q1, hq1⟩ : ∃ q1, q1 = (bd || badN s k) := ⟨_, rfl⟩; rw [← hq1] at HNC; have HQ1 := zz hq1; have hsz := h.sz; have HVB : Hid (∀ q, v.ownBlock = some q → q < w.heap.size) := zz (fun q hq => own_hi h.own hq); clear h hk hnm hk1 hR hq1 hrd; go_enter Tryz.func136, Tryz.ntmps136; go_upto_region 3 with (go_at_call 149; refine HNC.o.mono ?_; rintro r w2 ⟨rfl, hq, ho⟩; have HQ2 := zz hq; have HO2 : Hid (Onb b w w2) := zz ho; clear hq ho); clear c1 HNC; obtain ⟨e2, a2, h2⟩ := HQ2.o; have hbz : w.heap.size ≤ w2.heap.size := HO2.o.size; obtain ⟨w3, hw3⟩ : ∃ w3, w3 = w2.alloc (.cells #[.int .i64 6, .string (bs nm), .string ⟨#[]⟩, .int .i64 0, .int .i64 (-1), .int .i64 (-1)] 69) := ⟨_, rfl⟩; obtain ⟨X, hX⟩ : ∃ X, X = w2.heap.size := ⟨_, rfl⟩; have hbl : Below w2.heap.size w2 w3 := by rw [hw3]; exact below_alloc w2 _
 have H3 := zz (h2.kept hbl); have HY3 : Hid (Blk w3 X (ndC ⟨6, nm, [], 0, -1, -1⟩) 69) := zz (by rw [hw3, hX]; exact Blk.made w2 (ndC ⟨6, nm, [], 0, -1, -1⟩) _); have HXB : Hid (X ≠ b) := zz (by have := h2.blk.lt; omega); have HXV : Hid (v.ownBlock ≠ some X) := zz (fun h9 => by have := HVB.o _ h9; omega); have HXZ : Hid (base ≤ X) := zz (by omega); have HO3 : Hid (Frp (fun j => j = b ∨ j = X) w w3) := zz ((HO2.o.mono (fun q hq => .inl hq)).next hbl); rw [← hw3, ← hX]; clear hw3 hX hbl h2 HQ2 HO2 HVB hbz; have HBE : Hid (∀ w', Frp (fun j => j = b ∨ j = X) w w' → Below base w w') := zz (fun w' hf => hf.below (fun q hq => by rcases hq with rfl | rfl; exact H.o.hb; exact HXZ.o) hbase); have c5 := H3.o.blk.cell (j := 5) rfl; cases q1; rotate_left
 ·go_wp2
  go_ret; exact DOut.bad (n' := n) (j := -1) ⟨_, _, H3.o⟩ rfl (HBE.o _ HO3.o) (fun hb => HBY.o (by have h9 := HQ1.o; rw [hb, Bool.false_or] at h9; exact h9.symm)) (by have := HK1S.o; omega) (by omega)
 obtain rfl : bd = false := by have h9 := HQ1.o; cases bd; rfl; cases h9
 have hnb : badN s k = false := by have h9 := HQ1.o; rw [Bool.false_or] at h9; exact h9.symm
 obtain ⟨-, g1, g2, g3⟩ := HBN.o hnb; have HRL := zz g1; have HRA := zz g2; have HRO := zz g3; have HL := zz (hl rfl); clear hnb g1 g2 g3 HBN HBY HQ1 hl; go_upto_region 6 with (go_at_call 111; refine (dcount_any H3.o (by omega) _).mono ?_; rintro r w4 ⟨rfl, hq, ho⟩; have HQ4 := zz hq; have HY4 := zz (HY3.o.frp ho HXB.o); have HO4 : Hid (Frp (fun j => j = b ∨ j = X) w w4) := zz (HO3.o.then (ho.mono (fun q hq => .inl hq))); clear hq ho); clear c5 HY3 HO3 H3; obtain ⟨e4, a4, h4⟩ := HQ4.o; obtain ⟨q2, hq2⟩ : ∃ q2, q2 = (false || decide (64 < (n : Int) + 1)) := ⟨_, rfl⟩; rw [← hq2] at h4; have HQ2 : Hid (q2 = decide (64 < n + 1)) := zz (by rw [hq2, Bool.false_or]; by_cases g : 64 < n + 1 <;> simp [g] <;> omega); have H4 := zz h4; clear h4 hq2 HQ4; have HDQ : Hid (q2 = true → Dead R) := zz (fun h9 => HRL.o (by have := HQ2.o; rw [h9] at this; exact of_decide_eq_true this.symm)); have HN64 : Hid (q2 = false → n + 1 ≤ 64) := zz (fun h9 => by have := HQ2.o; rw [h9] at this; have := of_decide_eq_false this.symm; omega); have HBD : Hid (n + 1 ≤ 65) := zz (by have := HL.o.2; omega); have HZ : Hid (∀ w', Frp (fun j => j = b ∨ j = X) w w' → base ≤ w'.heap.size) := zz (fun w' hf => Nat.le_trans hbase hf.size)
 clear HRL HQ2 HK1S hn hbase; have y1 := HY4.o.cell (j := 1) rfl; have hk1s := hk1s
 by_cases hany : nm = anyT
 ·have t0 : ((bs nm).toList == ([97, 110, 121] : List UInt8)) = true := by rw [hany, bs_eql]; rfl
  have HANY := zz hany; clear hany; cases q2
  ·
   go_wp2_with (go_at_call 112; refine (dadd_ok H4.o ⟨1, [], [], 0, -1, -1⟩ (by have := HL.o.1; omega) (HZ.o _ HO4.o)).mono ?_; rintro r wz ⟨rfl, hx⟩; have HS := zz hx; clear hx); go_ret; obtain ⟨vz, hz1, hz2⟩ := HS.o; exact DOut.good (n' := n + 1) ⟨_, _, hz1⟩ (by push_cast; rfl) ((HBE.o _ HO4.o).trans (HS.o.below H4.o (HZ.o _ HO4.o))) (hk1s) (HRA.o (HN64.o (by first | rfl | trivial)) HANY.o)
  ·
   go_wp2_with (go_at_call 112; refine (dadd_bad H4.o ⟨1, [], [], 0, -1, -1⟩).mono ?_; rintro r wz ⟨⟨jz, rfl⟩, hx, ho⟩; have HS := zz hx; have HOZ := zz (HO4.o.then (ho.mono (fun q hq => .inl hq))); clear hx ho); go_ret; exact DOut.bad (n' := n + 1) ⟨_, _, HS.o⟩ (by push_cast; rfl) (HBE.o _ HOZ.o) (fun _ => HDQ.o (by first | rfl | trivial)) (by have : k1 ≤ s.size := hk1s; omega) (by have := HBD.o; omega)
 have t0 : ((bs nm).toList == ([97, 110, 121] : List UInt8)) = false := by rw [bs_eql, beq_eq_false_iff_ne]; exact hany
 have HROP : Hid (q2 = false → R = opP s.size (n + 1) L nm (rest s (skip s k1))) := zz (fun h9 => HRO.o (HN64.o h9) hany); clear hany HRA HRO; obtain ⟨-, hk2s, -, -, -⟩ := skip_is hk1s; have HPK := zz (dpeek_any H4.o hk1s); obtain ⟨k2, hk2⟩ : ∃ k2, k2 = skip s k1 := ⟨_, rfl⟩; obtain ⟨pk, hpk⟩ : ∃ pk, pk = pkB s k1 := ⟨_, rfl⟩; have HP0 : Hid (¬ k2 < s.size → pk = 0) := zz (fun h9 => by rw [hpk]; rw [hk2] at h9; exact pkB_end hk1s h9); have HP1 : Hid (∀ h : k2 < s.size, pk = (s[k2].toNat : Int)) := zz (by subst hk2; intro h9; rw [hpk]; exact pkB_at hk1s h9); rw [← hk2] at HROP hk2s; rw [← hk2, ← hpk] at HPK; clear hk2 hpk hk1s; go_upto_region 10 with (go_at_call 93; refine HPK.o.mono ?_; rintro r w5 ⟨rfl, hq, ho⟩; have H5 := zz hq; have HY5 := zz (HY4.o.frp ho HXB.o); have HO5 : Hid (Frp (fun j => j = b ∨ j = X) w w5) := zz (HO4.o.then (ho.mono (fun q hq => .inl hq))); clear hq ho); clear t0 y1 HPK H4 HO4 HY4; have i0 : (0 : Int) ≤ (k2 : Int) := by omega
 have u2 : IntKind.i64.wrap ((k2 : Int) + 2) = (k2 : Int) + 2 := by rw [IntKind.wrap_i64]; omega
 obtain ⟨b0, b1⟩ := ps2 H5.o.blk
 by_cases h2s : k2 + 2 ≤ s.size
 ·have i2 : (k2 : Int) + 2 ≤ (s.size : Int) := by omega
  have i3 : (k2 : Int) ≤ (k2 : Int) + 2 := by omega
  refine wp_region_past (by kernel_rfl) (by kernel_rfl) ?_
  repeat (go_big_quiet_step (fail))
  refine wpQuiet_past ?_; intro w6 h9; have H6 := zz (H5.o.kept h9); have HY6 := zz (HY5.o.kept h9); have HO6 : Hid (Frp (fun j => j = b ∨ j = X) w w6) := zz (HO5.o.next h9); clear h9 b0 b1 H5 HY5 HO5; go_upto_region 11 with fail; obtain ⟨b0, b1⟩ := ps2 H6.o.blk; refine wp_region_past (by kernel_rfl) (by kernel_rfl) ?_
  repeat (go_big_quiet_step (fail))
  refine wpQuiet_past ?_; intro w7 h9; have H7 := zz (H6.o.kept h9); have HY7 := zz (HY6.o.kept h9); have HO7 : Hid (Frp (fun j => j = b ∨ j = X) w w7) := zz (HO6.o.next h9); clear h9 b0 b1 H6 HY6 HO6; have HTX : Hid ((s.extract k2 (k2 + 2)).toList = (rest s k2).take 2) := zz (by rw [bs_sub, Lib.toList_data]; simp [bs]); obtain ⟨tw, htw⟩ : ∃ tw, tw = s.extract k2 (k2 + 2) := ⟨_, rfl⟩; rw [← htw] at HTX; go_upto_region 12 with fail
  try rw [← htw]
  clear htw; have hin : k2 < s.size := by omega
  obtain ⟨c, hc⟩ : ∃ c, c = s[k2] := ⟨_, rfl⟩; have HPC : Hid (pk = (c.toNat : Int)) := zz (by rw [hc]; exact HP1.o hin); have HCC : Hid (s[k2] = c) := zz hc.symm; have cb := c.toNat_lt; clear hc; have hin2 : k2 + 1 < s.size := by omega
  obtain ⟨dd, hdd⟩ : ∃ dd, dd = s[k2 + 1] := ⟨_, rfl⟩; have HDD : Hid (s[k2 + 1] = dd) := zz hdd.symm; have HTW : Hid (tw.toList = [c, dd]) := zz (by rw [HTX.o, ← HCC.o, ← HDD.o]; exact two_list hin2); clear hdd
  by_cases hc1 : c = 61
  ·have e61 : (pk == 61) = true := by rw [HPC.o]; subst hc1; rfl
   have e33 : (pk == 33) = false := by rw [HPC.o]; subst hc1; rfl
   have e62 : (pk == 62) = false := by rw [HPC.o]; subst hc1; rfl
   have e60 : (pk == 60) = false := by rw [HPC.o]; subst hc1; rfl
   have HC1 := zz hc1; clear hc1; have c1 := H7.o.blk.cell (j := 1) rfl; have f1 := H7.o.blk.free 1; have u9 : IntKind.i64.wrap ((k2 : Int) + 1) = (k2 : Int) + 1 := by rw [IntKind.wrap_i64]; omega
   have hg : k2 + 1 ≤ s.size := by omega
   have HG := zz hg; have HOPX : Hid (opP s.size (n + 1) L nm (rest s k2) = wdE s.size (n + 1) L nm 2 (rest s (k2 + 1))) := zz (opA hin (by rw [HCC.o]; exact HC1.o)); have H8 : Hid (Dp base (w7.setCell ⟨b, 1, none⟩ (.int .i64 ((k2 : Int) + 1))) b s (k2 + 1) v L q2 e4 a4 ((n : Int) + 1)) := zz (by have := H7.o.at (k2 + 1); simpa using this); have HY8 : Hid (Blk (w7.setCell ⟨b, 1, none⟩ (.int .i64 ((k2 : Int) + 1))) X (ndC ⟨6, nm, [], 0, -1, -1⟩) 69) := zz (HY7.o.other (a := ⟨b, 1, none⟩) HXB.o _); have HO8 : Hid (Frp (fun j => j = b ∨ j = X) w (w7.setCell ⟨b, 1, none⟩ (.int .i64 ((k2 : Int) + 1)))) := zz (HO7.o.set (p := ⟨b, 1, none⟩) (.inl rfl) _); have HCA := zz (dvalue_any H8.o hg)
   have HWB : Hid (∀ q3, q3 = (q2 || lenB 32 (runW (blk (rest s (k2 + 1))))) → (q3 = true → Dead R) ∧ (q3 = false → q2 = false ∧ lenB 32 (runW (blk (rest s (k2 + 1)))) = false)) := zz (fun q3 hq => ⟨fun h9 => by
    cases hz : q2
    ·rw [HROP.o hz, HOPX.o]
     rw [h9, hz, Bool.false_or] at hq; exact wd_bad hq.symm
    ·exact HDQ.o hz, fun h9 => by rw [h9] at hq; exact Bool.or_eq_false_iff.1 hq.symm⟩)
   have HFAR : Hid (skip s (k2 + 1) + (runW (blk (rest s (k2 + 1)))).length ≤ s.size) := zz (wd_far hg); have HOK : Hid (∀ q2', q2' = q2 → lenB 32 (runW (blk (rest s (k2 + 1)))) = false → q2' = false → R = .ok ((L.length : Int), ⟨n + 1, L ++ [⟨2, nm, (runW (blk (rest s (k2 + 1)))), 0, -1, -1⟩], rest s (skip s (k2 + 1) + (runW (blk (rest s (k2 + 1)))).length)⟩)) := zz (fun _ h1 h2 h3 => by rw [HROP.o (h1 ▸ h3), HOPX.o]; exact (wd_ok hg h2).1); obtain ⟨W, hW⟩ : ∃ W, W = (runW (blk (rest s (k2 + 1)))) := ⟨_, rfl⟩; obtain ⟨kf, hkf⟩ : ∃ kf, kf = skip s (k2 + 1) + W.length := ⟨_, rfl⟩; obtain ⟨q3, hq3⟩ : ∃ q3, q3 = (q2 || lenB 32 W) := ⟨_, rfl⟩; rw [← hW] at HCA HWB HFAR HOK; rw [← hkf] at HCA HFAR HOK; rw [← hq3] at HCA; have HW3 := zz (HWB.o q3 hq3); clear hW hkf hq3 hg HWB; go_upto_region 26 with (go_at_call 150; refine HCA.o.mono ?_; rintro r w8 ⟨rfl, hq, ho⟩; have HQ8 := zz hq; have HY9 := zz (HY8.o.frp ho HXB.o); have HO9 : Hid (Frp (fun j => j = b ∨ j = X) w w8) := zz (HO8.o.then (ho.mono (fun q hq => .inl hq))); clear hq ho; obtain ⟨f0, -, f2⟩ := fz3 HY9.o; obtain ⟨g0, -, g2⟩ := cl3 HY9.o); obtain ⟨e8, a8, h8⟩ := HQ8.o; obtain ⟨w9, hw9⟩ : ∃ w9, w9 = (w8.setCell ⟨X, 0, none⟩ (.int .i64 2)).setCell ⟨X, 2, none⟩ (.string (bs W)) := ⟨_, rfl⟩
   have HA : Hid (Dp base w9 b s kf v L q3 e8 a8 ((n : Int) + 1)) := zz (by rw [hw9]; exact (h8.off HXB.o HXV.o 0 _).off HXB.o HXV.o 2 _); have HYA : Hid (Blk w9 X (ndC ⟨2, nm, W, 0, -1, -1⟩) 69) := zz (by rw [hw9]; exact (HY9.o.set 0 _).set 2 _); have HOA : Hid (Frp (fun j => j = b ∨ j = X) w w9) := zz (by rw [hw9]; exact (HO9.o.set (p := ⟨X, 0, none⟩) (.inr rfl) _).set (p := ⟨X, 2, none⟩) (.inr rfl) _); rw [← hw9]; clear hw9 h8 HQ8 HY9 HO9 H8 HY8 HO8 c1 f1 f0 f2 g0 g2; obtain ⟨y0, y1, y2, y3, y4, y5⟩ := cl6 HYA.o; cases q3
   ·
    go_wp2_with (go_at_call 112; refine (dadd_ok HA.o ⟨2, nm, W, 0, -1, -1⟩ (by have := HL.o.1; omega) (HZ.o _ HOA.o)).mono ?_; rintro r wz ⟨rfl, hx⟩; have HS := zz hx; clear hx); go_ret; obtain ⟨vz, hz1, hz2⟩ := HS.o; exact DOut.good (n' := n + 1) ⟨_, _, hz1⟩ (by push_cast; rfl) ((HBE.o _ HOA.o).trans (HS.o.below HA.o (HZ.o _ HOA.o))) (HFAR.o) (by obtain ⟨g1, g2⟩ := HW3.o.2 (by first | rfl | trivial); have h9 := HOK.o q2 rfl g2 g1; exact h9)
   ·
    go_wp2_with (go_at_call 112; refine (dadd_bad HA.o ⟨2, nm, W, 0, -1, -1⟩).mono ?_; rintro r wz ⟨⟨jz, rfl⟩, hx, ho⟩; have HS := zz hx; have HOZ := zz (HOA.o.then (ho.mono (fun q hq => .inl hq))); clear hx ho); go_ret; exact DOut.bad (n' := n + 1) ⟨_, _, HS.o⟩ (by push_cast; rfl) (HBE.o _ HOZ.o) (fun _ => HW3.o.1 (by first | rfl | trivial)) (by have : kf ≤ s.size := HFAR.o; omega) (by have := HBD.o; omega)
  have hc61 := hc1; clear hc1
  by_cases hcd : c = 33 ∧ dd = 61
  ·obtain ⟨hc1, hd1⟩ := hcd
   have e61 : (pk == 61) = false := by rw [HPC.o]; subst hc1; rfl
   have e33 : (pk == 33) = true := by rw [HPC.o]; subst hc1; rfl
   have e62 : (pk == 62) = false := by rw [HPC.o]; subst hc1; rfl
   have e60 : (pk == 60) = false := by rw [HPC.o]; subst hc1; rfl
   have s33 : (tw.toList == ([33, 61] : List UInt8)) = true := by rw [HTW.o]; subst hc1 hd1; rfl
   have s62 : (tw.toList == ([62, 61] : List UInt8)) = false := by rw [HTW.o]; subst hc1 hd1; rfl
   have s60 : (tw.toList == ([60, 61] : List UInt8)) = false := by rw [HTW.o]; subst hc1 hd1; rfl
   have HC1 := zz hc1; have HD1 := zz hd1; clear hc1 hd1; have c1 := H7.o.blk.cell (j := 1) rfl; have f1 := H7.o.blk.free 1; have u9 : IntKind.i64.wrap ((k2 : Int) + 2) = (k2 : Int) + 2 := by rw [IntKind.wrap_i64]; omega
   have hg : k2 + 2 ≤ s.size := by omega
   have HG := zz hg; have HOPX : Hid (opP s.size (n + 1) L nm (rest s k2) = wdE s.size (n + 1) L nm 3 (rest s (k2 + 2))) := zz (opB hin2 (by rw [HCC.o]; exact HC1.o) (by rw [HDD.o]; exact HD1.o)); have H8 : Hid (Dp base (w7.setCell ⟨b, 1, none⟩ (.int .i64 ((k2 : Int) + 2))) b s (k2 + 2) v L q2 e4 a4 ((n : Int) + 1)) := zz (by have := H7.o.at (k2 + 2); simpa using this); have HY8 : Hid (Blk (w7.setCell ⟨b, 1, none⟩ (.int .i64 ((k2 : Int) + 2))) X (ndC ⟨6, nm, [], 0, -1, -1⟩) 69) := zz (HY7.o.other (a := ⟨b, 1, none⟩) HXB.o _); have HO8 : Hid (Frp (fun j => j = b ∨ j = X) w (w7.setCell ⟨b, 1, none⟩ (.int .i64 ((k2 : Int) + 2)))) := zz (HO7.o.set (p := ⟨b, 1, none⟩) (.inl rfl) _); have HCA := zz (dvalue_any H8.o hg)
   have HWB : Hid (∀ q3, q3 = (q2 || lenB 32 (runW (blk (rest s (k2 + 2))))) → (q3 = true → Dead R) ∧ (q3 = false → q2 = false ∧ lenB 32 (runW (blk (rest s (k2 + 2)))) = false)) := zz (fun q3 hq => ⟨fun h9 => by
    cases hz : q2
    ·rw [HROP.o hz, HOPX.o]
     rw [h9, hz, Bool.false_or] at hq; exact wd_bad hq.symm
    ·exact HDQ.o hz, fun h9 => by rw [h9] at hq; exact Bool.or_eq_false_iff.1 hq.symm⟩)
   have HFAR : Hid (skip s (k2 + 2) + (runW (blk (rest s (k2 + 2)))).length ≤ s.size) := zz (wd_far hg); have HOK : Hid (∀ q2', q2' = q2 → lenB 32 (runW (blk (rest s (k2 + 2)))) = false → q2' = false → R = .ok ((L.length : Int), ⟨n + 1, L ++ [⟨3, nm, (runW (blk (rest s (k2 + 2)))), 0, -1, -1⟩], rest s (skip s (k2 + 2) + (runW (blk (rest s (k2 + 2)))).length)⟩)) := zz (fun _ h1 h2 h3 => by rw [HROP.o (h1 ▸ h3), HOPX.o]; exact (wd_ok hg h2).1); obtain ⟨W, hW⟩ : ∃ W, W = (runW (blk (rest s (k2 + 2)))) := ⟨_, rfl⟩; obtain ⟨kf, hkf⟩ : ∃ kf, kf = skip s (k2 + 2) + W.length := ⟨_, rfl⟩; obtain ⟨q3, hq3⟩ : ∃ q3, q3 = (q2 || lenB 32 W) := ⟨_, rfl⟩; rw [← hW] at HCA HWB HFAR HOK; rw [← hkf] at HCA HFAR HOK; rw [← hq3] at HCA; have HW3 := zz (HWB.o q3 hq3); clear hW hkf hq3 hg HWB; go_upto_region 26 with (go_at_call 150; refine HCA.o.mono ?_; rintro r w8 ⟨rfl, hq, ho⟩; have HQ8 := zz hq; have HY9 := zz (HY8.o.frp ho HXB.o); have HO9 : Hid (Frp (fun j => j = b ∨ j = X) w w8) := zz (HO8.o.then (ho.mono (fun q hq => .inl hq))); clear hq ho; obtain ⟨f0, -, f2⟩ := fz3 HY9.o; obtain ⟨g0, -, g2⟩ := cl3 HY9.o); obtain ⟨e8, a8, h8⟩ := HQ8.o; obtain ⟨w9, hw9⟩ : ∃ w9, w9 = (w8.setCell ⟨X, 0, none⟩ (.int .i64 3)).setCell ⟨X, 2, none⟩ (.string (bs W)) := ⟨_, rfl⟩
   have HA : Hid (Dp base w9 b s kf v L q3 e8 a8 ((n : Int) + 1)) := zz (by rw [hw9]; exact (h8.off HXB.o HXV.o 0 _).off HXB.o HXV.o 2 _); have HYA : Hid (Blk w9 X (ndC ⟨3, nm, W, 0, -1, -1⟩) 69) := zz (by rw [hw9]; exact (HY9.o.set 0 _).set 2 _); have HOA : Hid (Frp (fun j => j = b ∨ j = X) w w9) := zz (by rw [hw9]; exact (HO9.o.set (p := ⟨X, 0, none⟩) (.inr rfl) _).set (p := ⟨X, 2, none⟩) (.inr rfl) _); rw [← hw9]; clear hw9 h8 HQ8 HY9 HO9 H8 HY8 HO8 c1 f1 f0 f2 g0 g2; obtain ⟨y0, y1, y2, y3, y4, y5⟩ := cl6 HYA.o; cases q3
   ·
    go_wp2_with (go_at_call 112; refine (dadd_ok HA.o ⟨3, nm, W, 0, -1, -1⟩ (by have := HL.o.1; omega) (HZ.o _ HOA.o)).mono ?_; rintro r wz ⟨rfl, hx⟩; have HS := zz hx; clear hx); go_ret; obtain ⟨vz, hz1, hz2⟩ := HS.o; exact DOut.good (n' := n + 1) ⟨_, _, hz1⟩ (by push_cast; rfl) ((HBE.o _ HOA.o).trans (HS.o.below HA.o (HZ.o _ HOA.o))) (HFAR.o) (by obtain ⟨g1, g2⟩ := HW3.o.2 (by first | rfl | trivial); have h9 := HOK.o q2 rfl g2 g1; exact h9)
   ·
    go_wp2_with (go_at_call 112; refine (dadd_bad HA.o ⟨3, nm, W, 0, -1, -1⟩).mono ?_; rintro r wz ⟨⟨jz, rfl⟩, hx, ho⟩; have HS := zz hx; have HOZ := zz (HOA.o.then (ho.mono (fun q hq => .inl hq))); clear hx ho); go_ret; exact DOut.bad (n' := n + 1) ⟨_, _, HS.o⟩ (by push_cast; rfl) (HBE.o _ HOZ.o) (fun _ => HW3.o.1 (by first | rfl | trivial)) (by have : kf ≤ s.size := HFAR.o; omega) (by have := HBD.o; omega)
  have hn33 := hcd; clear hcd
  by_cases hcd : c = 62 ∧ dd = 61
  ·obtain ⟨hc1, hd1⟩ := hcd
   have e61 : (pk == 61) = false := by rw [HPC.o]; subst hc1; rfl
   have e33 : (pk == 33) = false := by rw [HPC.o]; subst hc1; rfl
   have e62 : (pk == 62) = true := by rw [HPC.o]; subst hc1; rfl
   have e60 : (pk == 60) = false := by rw [HPC.o]; subst hc1; rfl
   have s33 : (tw.toList == ([33, 61] : List UInt8)) = false := by rw [HTW.o]; subst hc1 hd1; rfl
   have s62 : (tw.toList == ([62, 61] : List UInt8)) = true := by rw [HTW.o]; subst hc1 hd1; rfl
   have s60 : (tw.toList == ([60, 61] : List UInt8)) = false := by rw [HTW.o]; subst hc1 hd1; rfl
   have HC1 := zz hc1; have HD1 := zz hd1; clear hc1 hd1; have c1 := H7.o.blk.cell (j := 1) rfl; have f1 := H7.o.blk.free 1; have u9 : IntKind.i64.wrap ((k2 : Int) + 2) = (k2 : Int) + 2 := by rw [IntKind.wrap_i64]; omega
   have hg : k2 + 2 ≤ s.size := by omega
   have HG := zz hg; have HOPX : Hid (opP s.size (n + 1) L nm (rest s k2) = dgE s.size (n + 1) L nm 4 (rest s (k2 + 2))) := zz (opC hin2 (by rw [HCC.o]; exact HC1.o) (by rw [HDD.o]; exact HD1.o)); have H8 : Hid (Dp base (w7.setCell ⟨b, 1, none⟩ (.int .i64 ((k2 : Int) + 2))) b s (k2 + 2) v L q2 e4 a4 ((n : Int) + 1)) := zz (by have := H7.o.at (k2 + 2); simpa using this); have HY8 : Hid (Blk (w7.setCell ⟨b, 1, none⟩ (.int .i64 ((k2 : Int) + 2))) X (ndC ⟨6, nm, [], 0, -1, -1⟩) 69) := zz (HY7.o.other (a := ⟨b, 1, none⟩) HXB.o _); have HO8 : Hid (Frp (fun j => j = b ∨ j = X) w (w7.setCell ⟨b, 1, none⟩ (.int .i64 ((k2 : Int) + 2)))) := zz (HO7.o.set (p := ⟨b, 1, none⟩) (.inl rfl) _); have HCA := zz (dnumber_any H8.o hg)
   have HWB : Hid (∀ q3, q3 = (q2 || numB (runW (blk (rest s (k2 + 2))))) → (q3 = true → Dead R) ∧ (q3 = false → q2 = false ∧ numB (runW (blk (rest s (k2 + 2)))) = false)) := zz (fun q3 hq => ⟨fun h9 => by
    cases hz : q2
    ·rw [HROP.o hz, HOPX.o]
     rw [h9, hz, Bool.false_or] at hq; exact dg_bad hq.symm
    ·exact HDQ.o hz, fun h9 => by rw [h9] at hq; exact Bool.or_eq_false_iff.1 hq.symm⟩)
   have HFAR : Hid (skip s (k2 + 2) + (runW (blk (rest s (k2 + 2)))).length ≤ s.size) := zz (wd_far hg); have HOK : Hid (∀ q2', q2' = q2 → numB (runW (blk (rest s (k2 + 2)))) = false → q2' = false → R = .ok ((L.length : Int), ⟨n + 1, L ++ [⟨4, nm, [], digV (runW (blk (rest s (k2 + 2)))), -1, -1⟩], rest s (skip s (k2 + 2) + (runW (blk (rest s (k2 + 2)))).length)⟩)) := zz (fun _ h1 h2 h3 => by rw [HROP.o (h1 ▸ h3), HOPX.o]; exact dg_ok hg h2); obtain ⟨W, hW⟩ : ∃ W, W = (runW (blk (rest s (k2 + 2)))) := ⟨_, rfl⟩; obtain ⟨kf, hkf⟩ : ∃ kf, kf = skip s (k2 + 2) + W.length := ⟨_, rfl⟩; obtain ⟨q3, hq3⟩ : ∃ q3, q3 = (q2 || numB W) := ⟨_, rfl⟩; rw [← hW] at HCA HWB HFAR HOK; rw [← hkf] at HCA HFAR HOK; rw [← hq3] at HCA; have HW3 := zz (HWB.o q3 hq3); clear hW hkf hq3 hg HWB; go_upto_region 26 with (go_at_call 151; refine HCA.o.mono ?_; rintro r w8 ⟨⟨x, rfl, hx⟩, hq, ho⟩; have HXX := zz hx; have HQ8 := zz hq; have HY9 := zz (HY8.o.frp ho HXB.o); have HO9 : Hid (Frp (fun j => j = b ∨ j = X) w w8) := zz (HO8.o.then (ho.mono (fun q hq => .inl hq))); clear hx hq ho; obtain ⟨f0, -, -, f3⟩ := fz4 HY9.o; obtain ⟨g0, -, -, g3⟩ := cl4 HY9.o); obtain ⟨e8, a8, h8⟩ := HQ8.o
   obtain ⟨w9, hw9⟩ : ∃ w9, w9 = (w8.setCell ⟨X, 0, none⟩ (.int .i64 4)).setCell ⟨X, 3, none⟩ (.int .i64 x) := ⟨_, rfl⟩; have HA : Hid (Dp base w9 b s kf v L q3 e8 a8 ((n : Int) + 1)) := zz (by rw [hw9]; exact (h8.off HXB.o HXV.o 0 _).off HXB.o HXV.o 3 _); have HYA : Hid (Blk w9 X (ndC ⟨4, nm, [], x, -1, -1⟩) 69) := zz (by rw [hw9]; exact (HY9.o.set 0 _).set 3 _); have HOA : Hid (Frp (fun j => j = b ∨ j = X) w w9) := zz (by rw [hw9]; exact (HO9.o.set (p := ⟨X, 0, none⟩) (.inr rfl) _).set (p := ⟨X, 3, none⟩) (.inr rfl) _); rw [← hw9]; clear hw9 h8 HQ8 HY9 HO9 H8 HY8 HO8 c1 f1 f0 f3 g0 g3; obtain ⟨y0, y1, y2, y3, y4, y5⟩ := cl6 HYA.o; cases q3
   ·
    go_wp2_with (go_at_call 112; refine (dadd_ok HA.o ⟨4, nm, [], x, -1, -1⟩ (by have := HL.o.1; omega) (HZ.o _ HOA.o)).mono ?_; rintro r wz ⟨rfl, hx⟩; have HS := zz hx; clear hx); go_ret; obtain ⟨vz, hz1, hz2⟩ := HS.o; exact DOut.good (n' := n + 1) ⟨_, _, hz1⟩ (by push_cast; rfl) ((HBE.o _ HOA.o).trans (HS.o.below HA.o (HZ.o _ HOA.o))) (HFAR.o) (by obtain ⟨g1, g2⟩ := HW3.o.2 (by first | rfl | trivial); have hx := HXX.o g2; subst hx; have h9 := HOK.o q2 rfl g2 g1; exact h9)
   ·
    go_wp2_with (go_at_call 112; refine (dadd_bad HA.o ⟨4, nm, [], x, -1, -1⟩).mono ?_; rintro r wz ⟨⟨jz, rfl⟩, hx, ho⟩; have HS := zz hx; have HOZ := zz (HOA.o.then (ho.mono (fun q hq => .inl hq))); clear hx ho); go_ret; exact DOut.bad (n' := n + 1) ⟨_, _, HS.o⟩ (by push_cast; rfl) (HBE.o _ HOZ.o) (fun _ => HW3.o.1 (by first | rfl | trivial)) (by have : kf ≤ s.size := HFAR.o; omega) (by have := HBD.o; omega)
  have hn62 := hcd; clear hcd
  by_cases hcd : c = 60 ∧ dd = 61
  ·obtain ⟨hc1, hd1⟩ := hcd
   have e61 : (pk == 61) = false := by rw [HPC.o]; subst hc1; rfl
   have e33 : (pk == 33) = false := by rw [HPC.o]; subst hc1; rfl
   have e62 : (pk == 62) = false := by rw [HPC.o]; subst hc1; rfl
   have e60 : (pk == 60) = true := by rw [HPC.o]; subst hc1; rfl
   have s33 : (tw.toList == ([33, 61] : List UInt8)) = false := by rw [HTW.o]; subst hc1 hd1; rfl
   have s62 : (tw.toList == ([62, 61] : List UInt8)) = false := by rw [HTW.o]; subst hc1 hd1; rfl
   have s60 : (tw.toList == ([60, 61] : List UInt8)) = true := by rw [HTW.o]; subst hc1 hd1; rfl
   have HC1 := zz hc1; have HD1 := zz hd1; clear hc1 hd1; have c1 := H7.o.blk.cell (j := 1) rfl; have f1 := H7.o.blk.free 1; have u9 : IntKind.i64.wrap ((k2 : Int) + 2) = (k2 : Int) + 2 := by rw [IntKind.wrap_i64]; omega
   have hg : k2 + 2 ≤ s.size := by omega
   have HG := zz hg; have HOPX : Hid (opP s.size (n + 1) L nm (rest s k2) = dgE s.size (n + 1) L nm 5 (rest s (k2 + 2))) := zz (opD hin2 (by rw [HCC.o]; exact HC1.o) (by rw [HDD.o]; exact HD1.o)); have H8 : Hid (Dp base (w7.setCell ⟨b, 1, none⟩ (.int .i64 ((k2 : Int) + 2))) b s (k2 + 2) v L q2 e4 a4 ((n : Int) + 1)) := zz (by have := H7.o.at (k2 + 2); simpa using this); have HY8 : Hid (Blk (w7.setCell ⟨b, 1, none⟩ (.int .i64 ((k2 : Int) + 2))) X (ndC ⟨6, nm, [], 0, -1, -1⟩) 69) := zz (HY7.o.other (a := ⟨b, 1, none⟩) HXB.o _); have HO8 : Hid (Frp (fun j => j = b ∨ j = X) w (w7.setCell ⟨b, 1, none⟩ (.int .i64 ((k2 : Int) + 2)))) := zz (HO7.o.set (p := ⟨b, 1, none⟩) (.inl rfl) _); have HCA := zz (dnumber_any H8.o hg)
   have HWB : Hid (∀ q3, q3 = (q2 || numB (runW (blk (rest s (k2 + 2))))) → (q3 = true → Dead R) ∧ (q3 = false → q2 = false ∧ numB (runW (blk (rest s (k2 + 2)))) = false)) := zz (fun q3 hq => ⟨fun h9 => by
    cases hz : q2
    ·rw [HROP.o hz, HOPX.o]
     rw [h9, hz, Bool.false_or] at hq; exact dg_bad hq.symm
    ·exact HDQ.o hz, fun h9 => by rw [h9] at hq; exact Bool.or_eq_false_iff.1 hq.symm⟩)
   have HFAR : Hid (skip s (k2 + 2) + (runW (blk (rest s (k2 + 2)))).length ≤ s.size) := zz (wd_far hg); have HOK : Hid (∀ q2', q2' = q2 → numB (runW (blk (rest s (k2 + 2)))) = false → q2' = false → R = .ok ((L.length : Int), ⟨n + 1, L ++ [⟨5, nm, [], digV (runW (blk (rest s (k2 + 2)))), -1, -1⟩], rest s (skip s (k2 + 2) + (runW (blk (rest s (k2 + 2)))).length)⟩)) := zz (fun _ h1 h2 h3 => by rw [HROP.o (h1 ▸ h3), HOPX.o]; exact dg_ok hg h2); obtain ⟨W, hW⟩ : ∃ W, W = (runW (blk (rest s (k2 + 2)))) := ⟨_, rfl⟩; obtain ⟨kf, hkf⟩ : ∃ kf, kf = skip s (k2 + 2) + W.length := ⟨_, rfl⟩; obtain ⟨q3, hq3⟩ : ∃ q3, q3 = (q2 || numB W) := ⟨_, rfl⟩; rw [← hW] at HCA HWB HFAR HOK; rw [← hkf] at HCA HFAR HOK; rw [← hq3] at HCA; have HW3 := zz (HWB.o q3 hq3); clear hW hkf hq3 hg HWB; go_upto_region 26 with (go_at_call 151; refine HCA.o.mono ?_; rintro r w8 ⟨⟨x, rfl, hx⟩, hq, ho⟩; have HXX := zz hx; have HQ8 := zz hq; have HY9 := zz (HY8.o.frp ho HXB.o); have HO9 : Hid (Frp (fun j => j = b ∨ j = X) w w8) := zz (HO8.o.then (ho.mono (fun q hq => .inl hq))); clear hx hq ho; obtain ⟨f0, -, -, f3⟩ := fz4 HY9.o; obtain ⟨g0, -, -, g3⟩ := cl4 HY9.o); obtain ⟨e8, a8, h8⟩ := HQ8.o
   obtain ⟨w9, hw9⟩ : ∃ w9, w9 = (w8.setCell ⟨X, 0, none⟩ (.int .i64 5)).setCell ⟨X, 3, none⟩ (.int .i64 x) := ⟨_, rfl⟩; have HA : Hid (Dp base w9 b s kf v L q3 e8 a8 ((n : Int) + 1)) := zz (by rw [hw9]; exact (h8.off HXB.o HXV.o 0 _).off HXB.o HXV.o 3 _); have HYA : Hid (Blk w9 X (ndC ⟨5, nm, [], x, -1, -1⟩) 69) := zz (by rw [hw9]; exact (HY9.o.set 0 _).set 3 _); have HOA : Hid (Frp (fun j => j = b ∨ j = X) w w9) := zz (by rw [hw9]; exact (HO9.o.set (p := ⟨X, 0, none⟩) (.inr rfl) _).set (p := ⟨X, 3, none⟩) (.inr rfl) _); rw [← hw9]; clear hw9 h8 HQ8 HY9 HO9 H8 HY8 HO8 c1 f1 f0 f3 g0 g3; obtain ⟨y0, y1, y2, y3, y4, y5⟩ := cl6 HYA.o; cases q3
   ·
    go_wp2_with (go_at_call 112; refine (dadd_ok HA.o ⟨5, nm, [], x, -1, -1⟩ (by have := HL.o.1; omega) (HZ.o _ HOA.o)).mono ?_; rintro r wz ⟨rfl, hx⟩; have HS := zz hx; clear hx); go_ret; obtain ⟨vz, hz1, hz2⟩ := HS.o; exact DOut.good (n' := n + 1) ⟨_, _, hz1⟩ (by push_cast; rfl) ((HBE.o _ HOA.o).trans (HS.o.below HA.o (HZ.o _ HOA.o))) (HFAR.o) (by obtain ⟨g1, g2⟩ := HW3.o.2 (by first | rfl | trivial); have hx := HXX.o g2; subst hx; have h9 := HOK.o q2 rfl g2 g1; exact h9)
   ·
    go_wp2_with (go_at_call 112; refine (dadd_bad HA.o ⟨5, nm, [], x, -1, -1⟩).mono ?_; rintro r wz ⟨⟨jz, rfl⟩, hx, ho⟩; have HS := zz hx; have HOZ := zz (HOA.o.then (ho.mono (fun q hq => .inl hq))); clear hx ho); go_ret; exact DOut.bad (n' := n + 1) ⟨_, _, HS.o⟩ (by push_cast; rfl) (HBE.o _ HOZ.o) (fun _ => HW3.o.1 (by first | rfl | trivial)) (by have : kf ≤ s.size := HFAR.o; omega) (by have := HBD.o; omega)
  have hn60 := hcd; clear hcd
  by_cases hc1 : c = 33
  ·have hd1 : dd ≠ 61 := fun h9 => hn33 ⟨hc1, h9⟩
   have e61 : (pk == 61) = false := by rw [HPC.o]; subst hc1; rfl
   have e33 : (pk == 33) = true := by rw [HPC.o]; subst hc1; rfl
   have e62 : (pk == 62) = false := by rw [HPC.o]; subst hc1; rfl
   have e60 : (pk == 60) = false := by rw [HPC.o]; subst hc1; rfl
   have s33 : (tw.toList == ([33, 61] : List UInt8)) = false := by rw [HTW.o]; simp; intros; exact hd1
   have s62 : (tw.toList == ([62, 61] : List UInt8)) = false := by rw [HTW.o]; simp; intros; exact hd1
   have s60 : (tw.toList == ([60, 61] : List UInt8)) = false := by rw [HTW.o]; simp; intros; exact hd1
   have HC1 := zz hc1; have HD1 := zz hd1; clear hc1 hd1
   have HDE : Hid (Dead R) := zz (by
    cases hz : q2
    ·rw [HROP.o hz]
     exact opE hin (.inl (by rw [HCC.o]; exact HC1.o)) (fun _ => by rw [HDD.o]; exact HD1.o)
    ·exact HDQ.o hz)
   have c1 := H7.o.blk.cell (j := 1) rfl; have u9 : IntKind.i64.wrap ((k2 : Int) + 1) = (k2 : Int) + 1 := by rw [IntKind.wrap_i64]; omega
   go_upto_region 26 with (go_at_call 94; refine (dfail_any H7.o 5 _ (by decide)).mono ?_; rintro r w8 ⟨rfl, hq, ho⟩; have HQ8 := zz hq; have HYA := zz (HY7.o.frp ho HXB.o); have HOA : Hid (Frp (fun j => j = b ∨ j = X) w w8) := zz (HO7.o.then (ho.mono (fun q hq => .inl hq))); clear hq ho); obtain ⟨e8, a8, h8⟩ := HQ8.o; have HA := zz h8; clear h8 HQ8 c1; obtain ⟨y0, y1, y2, y3, y4, y5⟩ := cl6 HYA.o; go_wp2_with (go_at_call 112; refine (dadd_bad HA.o ⟨6, nm, [], 0, -1, -1⟩).mono ?_; rintro r wz ⟨⟨jz, rfl⟩, hx, ho⟩; have HS := zz hx; have HOZ := zz (HOA.o.then (ho.mono (fun q hq => .inl hq))); clear hx ho); go_ret; exact DOut.bad (n' := n + 1) ⟨_, _, HS.o⟩ (by push_cast; rfl) (HBE.o _ HOZ.o) (fun _ => HDE.o) (by have : k2 ≤ s.size := hk2s; omega) (by have := HBD.o; omega)
  have hc33 := hc1; clear hc1
  by_cases hc1 : c = 62
  ·have hd1 : dd ≠ 61 := fun h9 => hn62 ⟨hc1, h9⟩
   have e61 : (pk == 61) = false := by rw [HPC.o]; subst hc1; rfl
   have e33 : (pk == 33) = false := by rw [HPC.o]; subst hc1; rfl
   have e62 : (pk == 62) = true := by rw [HPC.o]; subst hc1; rfl
   have e60 : (pk == 60) = false := by rw [HPC.o]; subst hc1; rfl
   have s33 : (tw.toList == ([33, 61] : List UInt8)) = false := by rw [HTW.o]; simp; intros; exact hd1
   have s62 : (tw.toList == ([62, 61] : List UInt8)) = false := by rw [HTW.o]; simp; intros; exact hd1
   have s60 : (tw.toList == ([60, 61] : List UInt8)) = false := by rw [HTW.o]; simp; intros; exact hd1
   have HC1 := zz hc1; have HD1 := zz hd1; clear hc1 hd1
   have HDE : Hid (Dead R) := zz (by
    cases hz : q2
    ·rw [HROP.o hz]
     exact opE hin (.inr (.inl (by rw [HCC.o]; exact HC1.o))) (fun _ => by rw [HDD.o]; exact HD1.o)
    ·exact HDQ.o hz)
   have c1 := H7.o.blk.cell (j := 1) rfl; have u9 : IntKind.i64.wrap ((k2 : Int) + 1) = (k2 : Int) + 1 := by rw [IntKind.wrap_i64]; omega
   go_upto_region 26 with (go_at_call 94; refine (dfail_any H7.o 5 _ (by decide)).mono ?_; rintro r w8 ⟨rfl, hq, ho⟩; have HQ8 := zz hq; have HYA := zz (HY7.o.frp ho HXB.o); have HOA : Hid (Frp (fun j => j = b ∨ j = X) w w8) := zz (HO7.o.then (ho.mono (fun q hq => .inl hq))); clear hq ho); obtain ⟨e8, a8, h8⟩ := HQ8.o; have HA := zz h8; clear h8 HQ8 c1; obtain ⟨y0, y1, y2, y3, y4, y5⟩ := cl6 HYA.o; go_wp2_with (go_at_call 112; refine (dadd_bad HA.o ⟨6, nm, [], 0, -1, -1⟩).mono ?_; rintro r wz ⟨⟨jz, rfl⟩, hx, ho⟩; have HS := zz hx; have HOZ := zz (HOA.o.then (ho.mono (fun q hq => .inl hq))); clear hx ho); go_ret; exact DOut.bad (n' := n + 1) ⟨_, _, HS.o⟩ (by push_cast; rfl) (HBE.o _ HOZ.o) (fun _ => HDE.o) (by have : k2 ≤ s.size := hk2s; omega) (by have := HBD.o; omega)
  have hc62 := hc1; clear hc1
  by_cases hc1 : c = 60
  ·have hd1 : dd ≠ 61 := fun h9 => hn60 ⟨hc1, h9⟩
   have e61 : (pk == 61) = false := by rw [HPC.o]; subst hc1; rfl
   have e33 : (pk == 33) = false := by rw [HPC.o]; subst hc1; rfl
   have e62 : (pk == 62) = false := by rw [HPC.o]; subst hc1; rfl
   have e60 : (pk == 60) = true := by rw [HPC.o]; subst hc1; rfl
   have s33 : (tw.toList == ([33, 61] : List UInt8)) = false := by rw [HTW.o]; simp; intros; exact hd1
   have s62 : (tw.toList == ([62, 61] : List UInt8)) = false := by rw [HTW.o]; simp; intros; exact hd1
   have s60 : (tw.toList == ([60, 61] : List UInt8)) = false := by rw [HTW.o]; simp; intros; exact hd1
   have HC1 := zz hc1; have HD1 := zz hd1; clear hc1 hd1
   have HDE : Hid (Dead R) := zz (by
    cases hz : q2
    ·rw [HROP.o hz]
     exact opE hin (.inr (.inr (by rw [HCC.o]; exact HC1.o))) (fun _ => by rw [HDD.o]; exact HD1.o)
    ·exact HDQ.o hz)
   have c1 := H7.o.blk.cell (j := 1) rfl; have u9 : IntKind.i64.wrap ((k2 : Int) + 1) = (k2 : Int) + 1 := by rw [IntKind.wrap_i64]; omega
   go_upto_region 26 with (go_at_call 94; refine (dfail_any H7.o 5 _ (by decide)).mono ?_; rintro r w8 ⟨rfl, hq, ho⟩; have HQ8 := zz hq; have HYA := zz (HY7.o.frp ho HXB.o); have HOA : Hid (Frp (fun j => j = b ∨ j = X) w w8) := zz (HO7.o.then (ho.mono (fun q hq => .inl hq))); clear hq ho); obtain ⟨e8, a8, h8⟩ := HQ8.o; have HA := zz h8; clear h8 HQ8 c1; obtain ⟨y0, y1, y2, y3, y4, y5⟩ := cl6 HYA.o; go_wp2_with (go_at_call 112; refine (dadd_bad HA.o ⟨6, nm, [], 0, -1, -1⟩).mono ?_; rintro r wz ⟨⟨jz, rfl⟩, hx, ho⟩; have HS := zz hx; have HOZ := zz (HOA.o.then (ho.mono (fun q hq => .inl hq))); clear hx ho); go_ret; exact DOut.bad (n' := n + 1) ⟨_, _, HS.o⟩ (by push_cast; rfl) (HBE.o _ HOZ.o) (fun _ => HDE.o) (by have : k2 ≤ s.size := hk2s; omega) (by have := HBD.o; omega)
  have hc60 := hc1; clear hc1; have e61 : (pk == 61) = false := by rw [HPC.o]; rw [beq_eq_false_iff_ne]; intro h9; exact hc61 (UInt8.toNat_inj.1 (show c.toNat = 61 by omega))
  have e33 : (pk == 33) = false := by rw [HPC.o]; rw [beq_eq_false_iff_ne]; intro h9; exact hc33 (UInt8.toNat_inj.1 (show c.toNat = 33 by omega))
  have e62 : (pk == 62) = false := by rw [HPC.o]; rw [beq_eq_false_iff_ne]; intro h9; exact hc62 (UInt8.toNat_inj.1 (show c.toNat = 62 by omega))
  have e60 : (pk == 60) = false := by rw [HPC.o]; rw [beq_eq_false_iff_ne]; intro h9; exact hc60 (UInt8.toNat_inj.1 (show c.toNat = 60 by omega))
  have s33 : (tw.toList == ([33, 61] : List UInt8)) = false := by rw [HTW.o]; simp; intro h9; first | exact absurd h9 hc33 | exact absurd h9 hc62 | exact absurd h9 hc60
  have s62 : (tw.toList == ([62, 61] : List UInt8)) = false := by rw [HTW.o]; simp; intro h9; first | exact absurd h9 hc33 | exact absurd h9 hc62 | exact absurd h9 hc60
  have s60 : (tw.toList == ([60, 61] : List UInt8)) = false := by rw [HTW.o]; simp; intro h9; first | exact absurd h9 hc33 | exact absurd h9 hc62 | exact absurd h9 hc60
  have HOK : Hid (q2 = false → R = .ok ((L.length : Int), ⟨n + 1, L ++ [⟨6, nm, [], 0, -1, -1⟩], rest s k2⟩)) := zz (fun hz => by rw [HROP.o hz]; exact opF hin (by rw [HCC.o]; exact hc33) (by rw [HCC.o]; exact hc62) (by rw [HCC.o]; exact hc60) (by rw [HCC.o]; exact hc61)); go_upto_region 26 with fail; obtain ⟨y0, y1, y2, y3, y4, y5⟩ := cl6 HY7.o; cases q2
  ·
   go_wp2_with (go_at_call 112; refine (dadd_ok H7.o ⟨6, nm, [], 0, -1, -1⟩ (by have := HL.o.1; omega) (HZ.o _ HO7.o)).mono ?_; rintro r wz ⟨rfl, hx⟩; have HS := zz hx; clear hx); go_ret; obtain ⟨vz, hz1, hz2⟩ := HS.o; exact DOut.good (n' := n + 1) ⟨_, _, hz1⟩ (by push_cast; rfl) ((HBE.o _ HO7.o).trans (HS.o.below H7.o (HZ.o _ HO7.o))) (hk2s) (HOK.o (by first | rfl | trivial))
  ·
   go_wp2_with (go_at_call 112; refine (dadd_bad H7.o ⟨6, nm, [], 0, -1, -1⟩).mono ?_; rintro r wz ⟨⟨jz, rfl⟩, hx, ho⟩; have HS := zz hx; have HOZ := zz (HO7.o.then (ho.mono (fun q hq => .inl hq))); clear hx ho); go_ret; exact DOut.bad (n' := n + 1) ⟨_, _, HS.o⟩ (by push_cast; rfl) (HBE.o _ HOZ.o) (fun _ => HDQ.o (by first | rfl | trivial)) (by have : k2 ≤ s.size := hk2s; omega) (by have := HBD.o; omega)
 ·have i2 : ¬ (k2 : Int) + 2 ≤ (s.size : Int) := by omega
  refine wp_region_past (by kernel_rfl) (by kernel_rfl) ?_
  repeat (go_big_quiet_step (fail))
  refine wpQuiet_past ?_; intro w7 h9; have H7 := zz (H5.o.kept h9); have HY7 := zz (HY5.o.kept h9); have HO7 : Hid (Frp (fun j => j = b ∨ j = X) w w7) := zz (HO5.o.next h9); clear h9 b0 b1 H5 HY5 HO5
  by_cases hin : k2 < s.size
  ·
   obtain ⟨c, hc⟩ : ∃ c, c = s[k2] := ⟨_, rfl⟩; have HPC : Hid (pk = (c.toNat : Int)) := zz (by rw [hc]; exact HP1.o hin); have HCC : Hid (s[k2] = c) := zz hc.symm; have cb := c.toNat_lt; clear hc
   by_cases hc1 : c = 61
   ·have e61 : (pk == 61) = true := by rw [HPC.o]; subst hc1; rfl
    have e33 : (pk == 33) = false := by rw [HPC.o]; subst hc1; rfl
    have e62 : (pk == 62) = false := by rw [HPC.o]; subst hc1; rfl
    have e60 : (pk == 60) = false := by rw [HPC.o]; subst hc1; rfl
    have HC1 := zz hc1; clear hc1; have c1 := H7.o.blk.cell (j := 1) rfl; have f1 := H7.o.blk.free 1; have u9 : IntKind.i64.wrap ((k2 : Int) + 1) = (k2 : Int) + 1 := by rw [IntKind.wrap_i64]; omega
    have hg : k2 + 1 ≤ s.size := by omega
    have HG := zz hg; have HOPX : Hid (opP s.size (n + 1) L nm (rest s k2) = wdE s.size (n + 1) L nm 2 (rest s (k2 + 1))) := zz (opA hin (by rw [HCC.o]; exact HC1.o)); have H8 : Hid (Dp base (w7.setCell ⟨b, 1, none⟩ (.int .i64 ((k2 : Int) + 1))) b s (k2 + 1) v L q2 e4 a4 ((n : Int) + 1)) := zz (by have := H7.o.at (k2 + 1); simpa using this); have HY8 : Hid (Blk (w7.setCell ⟨b, 1, none⟩ (.int .i64 ((k2 : Int) + 1))) X (ndC ⟨6, nm, [], 0, -1, -1⟩) 69) := zz (HY7.o.other (a := ⟨b, 1, none⟩) HXB.o _); have HO8 : Hid (Frp (fun j => j = b ∨ j = X) w (w7.setCell ⟨b, 1, none⟩ (.int .i64 ((k2 : Int) + 1)))) := zz (HO7.o.set (p := ⟨b, 1, none⟩) (.inl rfl) _); have HCA := zz (dvalue_any H8.o hg)
    have HWB : Hid (∀ q3, q3 = (q2 || lenB 32 (runW (blk (rest s (k2 + 1))))) → (q3 = true → Dead R) ∧ (q3 = false → q2 = false ∧ lenB 32 (runW (blk (rest s (k2 + 1)))) = false)) := zz (fun q3 hq => ⟨fun h9 => by
     cases hz : q2
     ·rw [HROP.o hz, HOPX.o]
      rw [h9, hz, Bool.false_or] at hq; exact wd_bad hq.symm
     ·exact HDQ.o hz, fun h9 => by rw [h9] at hq; exact Bool.or_eq_false_iff.1 hq.symm⟩)
    have HFAR : Hid (skip s (k2 + 1) + (runW (blk (rest s (k2 + 1)))).length ≤ s.size) := zz (wd_far hg); have HOK : Hid (∀ q2', q2' = q2 → lenB 32 (runW (blk (rest s (k2 + 1)))) = false → q2' = false → R = .ok ((L.length : Int), ⟨n + 1, L ++ [⟨2, nm, (runW (blk (rest s (k2 + 1)))), 0, -1, -1⟩], rest s (skip s (k2 + 1) + (runW (blk (rest s (k2 + 1)))).length)⟩)) := zz (fun _ h1 h2 h3 => by rw [HROP.o (h1 ▸ h3), HOPX.o]; exact (wd_ok hg h2).1); obtain ⟨W, hW⟩ : ∃ W, W = (runW (blk (rest s (k2 + 1)))) := ⟨_, rfl⟩; obtain ⟨kf, hkf⟩ : ∃ kf, kf = skip s (k2 + 1) + W.length := ⟨_, rfl⟩; obtain ⟨q3, hq3⟩ : ∃ q3, q3 = (q2 || lenB 32 W) := ⟨_, rfl⟩; rw [← hW] at HCA HWB HFAR HOK; rw [← hkf] at HCA HFAR HOK; rw [← hq3] at HCA; have HW3 := zz (HWB.o q3 hq3); clear hW hkf hq3 hg HWB; go_upto_region 26 with (go_at_call 150; refine HCA.o.mono ?_; rintro r w8 ⟨rfl, hq, ho⟩; have HQ8 := zz hq; have HY9 := zz (HY8.o.frp ho HXB.o); have HO9 : Hid (Frp (fun j => j = b ∨ j = X) w w8) := zz (HO8.o.then (ho.mono (fun q hq => .inl hq))); clear hq ho; obtain ⟨f0, -, f2⟩ := fz3 HY9.o; obtain ⟨g0, -, g2⟩ := cl3 HY9.o); obtain ⟨e8, a8, h8⟩ := HQ8.o; obtain ⟨w9, hw9⟩ : ∃ w9, w9 = (w8.setCell ⟨X, 0, none⟩ (.int .i64 2)).setCell ⟨X, 2, none⟩ (.string (bs W)) := ⟨_, rfl⟩
    have HA : Hid (Dp base w9 b s kf v L q3 e8 a8 ((n : Int) + 1)) := zz (by rw [hw9]; exact (h8.off HXB.o HXV.o 0 _).off HXB.o HXV.o 2 _); have HYA : Hid (Blk w9 X (ndC ⟨2, nm, W, 0, -1, -1⟩) 69) := zz (by rw [hw9]; exact (HY9.o.set 0 _).set 2 _); have HOA : Hid (Frp (fun j => j = b ∨ j = X) w w9) := zz (by rw [hw9]; exact (HO9.o.set (p := ⟨X, 0, none⟩) (.inr rfl) _).set (p := ⟨X, 2, none⟩) (.inr rfl) _); rw [← hw9]; clear hw9 h8 HQ8 HY9 HO9 H8 HY8 HO8 c1 f1 f0 f2 g0 g2; obtain ⟨y0, y1, y2, y3, y4, y5⟩ := cl6 HYA.o; cases q3
    ·
     go_wp2_with (go_at_call 112; refine (dadd_ok HA.o ⟨2, nm, W, 0, -1, -1⟩ (by have := HL.o.1; omega) (HZ.o _ HOA.o)).mono ?_; rintro r wz ⟨rfl, hx⟩; have HS := zz hx; clear hx); go_ret; obtain ⟨vz, hz1, hz2⟩ := HS.o; exact DOut.good (n' := n + 1) ⟨_, _, hz1⟩ (by push_cast; rfl) ((HBE.o _ HOA.o).trans (HS.o.below HA.o (HZ.o _ HOA.o))) (HFAR.o) (by obtain ⟨g1, g2⟩ := HW3.o.2 (by first | rfl | trivial); have h9 := HOK.o q2 rfl g2 g1; exact h9)
    ·
     go_wp2_with (go_at_call 112; refine (dadd_bad HA.o ⟨2, nm, W, 0, -1, -1⟩).mono ?_; rintro r wz ⟨⟨jz, rfl⟩, hx, ho⟩; have HS := zz hx; have HOZ := zz (HOA.o.then (ho.mono (fun q hq => .inl hq))); clear hx ho); go_ret; exact DOut.bad (n' := n + 1) ⟨_, _, HS.o⟩ (by push_cast; rfl) (HBE.o _ HOZ.o) (fun _ => HW3.o.1 (by first | rfl | trivial)) (by have : kf ≤ s.size := HFAR.o; omega) (by have := HBD.o; omega)
   have hc61 := hc1; clear hc1
   by_cases hc1 : c = 33
   ·have e61 : (pk == 61) = false := by rw [HPC.o]; subst hc1; rfl
    have e33 : (pk == 33) = true := by rw [HPC.o]; subst hc1; rfl
    have e62 : (pk == 62) = false := by rw [HPC.o]; subst hc1; rfl
    have e60 : (pk == 60) = false := by rw [HPC.o]; subst hc1; rfl
    have HC1 := zz hc1; clear hc1
    have HDE : Hid (Dead R) := zz (by
     cases hz : q2
     ·rw [HROP.o hz]
      exact opE hin (.inl (by rw [HCC.o]; exact HC1.o)) (fun h9 => by omega)
     ·exact HDQ.o hz)
    have c1 := H7.o.blk.cell (j := 1) rfl; have u9 : IntKind.i64.wrap ((k2 : Int) + 1) = (k2 : Int) + 1 := by rw [IntKind.wrap_i64]; omega
    go_upto_region 26 with (go_at_call 94; refine (dfail_any H7.o 5 _ (by decide)).mono ?_; rintro r w8 ⟨rfl, hq, ho⟩; have HQ8 := zz hq; have HYA := zz (HY7.o.frp ho HXB.o); have HOA : Hid (Frp (fun j => j = b ∨ j = X) w w8) := zz (HO7.o.then (ho.mono (fun q hq => .inl hq))); clear hq ho); obtain ⟨e8, a8, h8⟩ := HQ8.o; have HA := zz h8; clear h8 HQ8 c1; obtain ⟨y0, y1, y2, y3, y4, y5⟩ := cl6 HYA.o; go_wp2_with (go_at_call 112; refine (dadd_bad HA.o ⟨6, nm, [], 0, -1, -1⟩).mono ?_; rintro r wz ⟨⟨jz, rfl⟩, hx, ho⟩; have HS := zz hx; have HOZ := zz (HOA.o.then (ho.mono (fun q hq => .inl hq))); clear hx ho); go_ret; exact DOut.bad (n' := n + 1) ⟨_, _, HS.o⟩ (by push_cast; rfl) (HBE.o _ HOZ.o) (fun _ => HDE.o) (by have : k2 ≤ s.size := hk2s; omega) (by have := HBD.o; omega)
   have hc33 := hc1; clear hc1
   by_cases hc1 : c = 62
   ·have e61 : (pk == 61) = false := by rw [HPC.o]; subst hc1; rfl
    have e33 : (pk == 33) = false := by rw [HPC.o]; subst hc1; rfl
    have e62 : (pk == 62) = true := by rw [HPC.o]; subst hc1; rfl
    have e60 : (pk == 60) = false := by rw [HPC.o]; subst hc1; rfl
    have HC1 := zz hc1; clear hc1
    have HDE : Hid (Dead R) := zz (by
     cases hz : q2
     ·rw [HROP.o hz]
      exact opE hin (.inr (.inl (by rw [HCC.o]; exact HC1.o))) (fun h9 => by omega)
     ·exact HDQ.o hz)
    have c1 := H7.o.blk.cell (j := 1) rfl; have u9 : IntKind.i64.wrap ((k2 : Int) + 1) = (k2 : Int) + 1 := by rw [IntKind.wrap_i64]; omega
    go_upto_region 26 with (go_at_call 94; refine (dfail_any H7.o 5 _ (by decide)).mono ?_; rintro r w8 ⟨rfl, hq, ho⟩; have HQ8 := zz hq; have HYA := zz (HY7.o.frp ho HXB.o); have HOA : Hid (Frp (fun j => j = b ∨ j = X) w w8) := zz (HO7.o.then (ho.mono (fun q hq => .inl hq))); clear hq ho); obtain ⟨e8, a8, h8⟩ := HQ8.o; have HA := zz h8; clear h8 HQ8 c1; obtain ⟨y0, y1, y2, y3, y4, y5⟩ := cl6 HYA.o; go_wp2_with (go_at_call 112; refine (dadd_bad HA.o ⟨6, nm, [], 0, -1, -1⟩).mono ?_; rintro r wz ⟨⟨jz, rfl⟩, hx, ho⟩; have HS := zz hx; have HOZ := zz (HOA.o.then (ho.mono (fun q hq => .inl hq))); clear hx ho); go_ret; exact DOut.bad (n' := n + 1) ⟨_, _, HS.o⟩ (by push_cast; rfl) (HBE.o _ HOZ.o) (fun _ => HDE.o) (by have : k2 ≤ s.size := hk2s; omega) (by have := HBD.o; omega)
   have hc62 := hc1; clear hc1
   by_cases hc1 : c = 60
   ·have e61 : (pk == 61) = false := by rw [HPC.o]; subst hc1; rfl
    have e33 : (pk == 33) = false := by rw [HPC.o]; subst hc1; rfl
    have e62 : (pk == 62) = false := by rw [HPC.o]; subst hc1; rfl
    have e60 : (pk == 60) = true := by rw [HPC.o]; subst hc1; rfl
    have HC1 := zz hc1; clear hc1
    have HDE : Hid (Dead R) := zz (by
     cases hz : q2
     ·rw [HROP.o hz]
      exact opE hin (.inr (.inr (by rw [HCC.o]; exact HC1.o))) (fun h9 => by omega)
     ·exact HDQ.o hz)
    have c1 := H7.o.blk.cell (j := 1) rfl; have u9 : IntKind.i64.wrap ((k2 : Int) + 1) = (k2 : Int) + 1 := by rw [IntKind.wrap_i64]; omega
    go_upto_region 26 with (go_at_call 94; refine (dfail_any H7.o 5 _ (by decide)).mono ?_; rintro r w8 ⟨rfl, hq, ho⟩; have HQ8 := zz hq; have HYA := zz (HY7.o.frp ho HXB.o); have HOA : Hid (Frp (fun j => j = b ∨ j = X) w w8) := zz (HO7.o.then (ho.mono (fun q hq => .inl hq))); clear hq ho); obtain ⟨e8, a8, h8⟩ := HQ8.o; have HA := zz h8; clear h8 HQ8 c1; obtain ⟨y0, y1, y2, y3, y4, y5⟩ := cl6 HYA.o; go_wp2_with (go_at_call 112; refine (dadd_bad HA.o ⟨6, nm, [], 0, -1, -1⟩).mono ?_; rintro r wz ⟨⟨jz, rfl⟩, hx, ho⟩; have HS := zz hx; have HOZ := zz (HOA.o.then (ho.mono (fun q hq => .inl hq))); clear hx ho); go_ret; exact DOut.bad (n' := n + 1) ⟨_, _, HS.o⟩ (by push_cast; rfl) (HBE.o _ HOZ.o) (fun _ => HDE.o) (by have : k2 ≤ s.size := hk2s; omega) (by have := HBD.o; omega)
   have hc60 := hc1; clear hc1; have e61 : (pk == 61) = false := by rw [HPC.o]; rw [beq_eq_false_iff_ne]; intro h9; exact hc61 (UInt8.toNat_inj.1 (show c.toNat = 61 by omega))
   have e33 : (pk == 33) = false := by rw [HPC.o]; rw [beq_eq_false_iff_ne]; intro h9; exact hc33 (UInt8.toNat_inj.1 (show c.toNat = 33 by omega))
   have e62 : (pk == 62) = false := by rw [HPC.o]; rw [beq_eq_false_iff_ne]; intro h9; exact hc62 (UInt8.toNat_inj.1 (show c.toNat = 62 by omega))
   have e60 : (pk == 60) = false := by rw [HPC.o]; rw [beq_eq_false_iff_ne]; intro h9; exact hc60 (UInt8.toNat_inj.1 (show c.toNat = 60 by omega))
   have HOK : Hid (q2 = false → R = .ok ((L.length : Int), ⟨n + 1, L ++ [⟨6, nm, [], 0, -1, -1⟩], rest s k2⟩)) := zz (fun hz => by rw [HROP.o hz]; exact opF hin (by rw [HCC.o]; exact hc33) (by rw [HCC.o]; exact hc62) (by rw [HCC.o]; exact hc60) (by rw [HCC.o]; exact hc61)); go_upto_region 26 with fail; obtain ⟨y0, y1, y2, y3, y4, y5⟩ := cl6 HY7.o; cases q2
   ·
    go_wp2_with (go_at_call 112; refine (dadd_ok H7.o ⟨6, nm, [], 0, -1, -1⟩ (by have := HL.o.1; omega) (HZ.o _ HO7.o)).mono ?_; rintro r wz ⟨rfl, hx⟩; have HS := zz hx; clear hx); go_ret; obtain ⟨vz, hz1, hz2⟩ := HS.o; exact DOut.good (n' := n + 1) ⟨_, _, hz1⟩ (by push_cast; rfl) ((HBE.o _ HO7.o).trans (HS.o.below H7.o (HZ.o _ HO7.o))) (hk2s) (HOK.o (by first | rfl | trivial))
   ·
    go_wp2_with (go_at_call 112; refine (dadd_bad H7.o ⟨6, nm, [], 0, -1, -1⟩).mono ?_; rintro r wz ⟨⟨jz, rfl⟩, hx, ho⟩; have HS := zz hx; have HOZ := zz (HO7.o.then (ho.mono (fun q hq => .inl hq))); clear hx ho); go_ret; exact DOut.bad (n' := n + 1) ⟨_, _, HS.o⟩ (by push_cast; rfl) (HBE.o _ HOZ.o) (fun _ => HDQ.o (by first | rfl | trivial)) (by have : k2 ≤ s.size := hk2s; omega) (by have := HBD.o; omega)
  ·
   have hpk0 : pk = 0 := HP0.o (by omega); subst hpk0; have HOK : Hid (q2 = false → R = .ok ((L.length : Int), ⟨n + 1, L ++ [⟨6, nm, [], 0, -1, -1⟩], rest s k2⟩)) := zz (fun hz => by rw [HROP.o hz]; exact opF0 hk2s (by omega)); go_upto_region 26 with fail; obtain ⟨y0, y1, y2, y3, y4, y5⟩ := cl6 HY7.o; cases q2
   ·
    go_wp2_with (go_at_call 112; refine (dadd_ok H7.o ⟨6, nm, [], 0, -1, -1⟩ (by have := HL.o.1; omega) (HZ.o _ HO7.o)).mono ?_; rintro r wz ⟨rfl, hx⟩; have HS := zz hx; clear hx); go_ret; obtain ⟨vz, hz1, hz2⟩ := HS.o; exact DOut.good (n' := n + 1) ⟨_, _, hz1⟩ (by push_cast; rfl) ((HBE.o _ HO7.o).trans (HS.o.below H7.o (HZ.o _ HO7.o))) (hk2s) (HOK.o (by first | rfl | trivial))
   ·
    go_wp2_with (go_at_call 112; refine (dadd_bad H7.o ⟨6, nm, [], 0, -1, -1⟩).mono ?_; rintro r wz ⟨⟨jz, rfl⟩, hx, ho⟩; have HS := zz hx; have HOZ := zz (HO7.o.then (ho.mono (fun q hq => .inl hq))); clear hx ho); go_ret; exact DOut.bad (n' := n + 1) ⟨_, _, HS.o⟩ (by push_cast; rfl) (HBE.o _ HOZ.o) (fun _ => HDQ.o (by first | rfl | trivial)) (by have : k2 ≤ s.size := hk2s; omega) (by have := HBD.o; omega)
def Drd (base b : Nat) (s : ByteArray) (m F d : Nat) (nx : Ps → PR) : Prop :=
 ∀ (k n : Nat) (v : Value) (L : List Nd) (bd : Bool) (e a : Int) (w : World), Dp base w b s k v L bd e a n → k ≤ s.size → s.size - k < m → n + 33 ≤ 250 + d → (bd = false → L.length ≤ n ∧ n ≤ 64) → base ≤ w.heap.size →
  Calls Tryz.prog F #[ptr b, .int .i64 (d : Int)] w fun r w' => DOut base w w' b s d bd n (nx ⟨n, L, rest s k⟩) r
theorem pk_is {s : ByteArray} {k : Nat} {sg : UInt8} (hk : k ≤ s.size) (h0 : sg.toNat ≠ 0) : isB s ⟨#[sg]⟩ k = (pkB s k == (sg.toNat : Int)) := by
 unfold isB pkB
 show (strip [sg] (blk (rest s k))).isSome = _
 cases blk (rest s k) with
 | nil =>
  show false = _
  symm
  rw [beq_eq_false_iff_ne]; intro h9; have h8 : (0 : Int) = (sg.toNat : Int) := h9; exact h0 (by omega)
 | cons c t =>
  by_cases hc : sg = c
  ·subst hc
   rw [strip_cons]
   show true = ((sg.toNat : Int) == (sg.toNat : Int))
   rw [beq_self_eq_true]
  ·rw [strip_ne hc]
   show false = ((c.toNat : Int) == (sg.toNat : Int))
   symm
   rw [beq_eq_false_iff_ne]; intro h9; exact hc (UInt8.toNat_inj.1 (by omega))
theorem isK_yes {s : ByteArray} {k : Nat} {sg : UInt8} (h : isB s ⟨#[sg]⟩ k = true) : isK s ⟨#[sg]⟩ k = skip s k + 1 := by
 unfold isK; rw [h, if_pos rfl]; rfl
theorem isK_no {s : ByteArray} {k : Nat} {sg : UInt8} (h : isB s ⟨#[sg]⟩ k = false) : isK s ⟨#[sg]⟩ k = skip s k := by
 unfold isK; rw [h]; rfl
def DPair (base : Nat) (w wr : World) (b : Nat) (s : ByteArray) (m d : Nat) (sg : UInt8) (kd : Int) (nx : Ps → PR) (R : PR) (bd0 : Bool) (n0 : Nat) (j : Int) : Prop :=
 (∃ (K k n : Nat) (v : Value) (L : List Nd) (e a : Int), Dp base wr b s k v L false e a n ∧ n ≤ 64 ∧ L.length ≤ n ∧ k ≤ s.size ∧ s.size - k < m ∧ s.size - k < K ∧ bd0 = false ∧ loopP s.size sg kd nx K j ⟨n, L, rest s k⟩ = R ∧ Below base w wr) ∨
 (∃ (k n : Nat) (v : Value) (L : List Nd) (e a : Int), Dp base wr b s k v L true e a n ∧ k ≤ s.size + (33 - d) ∧ n ≤ max n0 65 + (33 - d) ∧ (bd0 = false → Dead R) ∧ Below base w wr)
theorem DPair.start {base : Nat} {w wr : World} {b : Nat} {s : ByteArray} {m d : Nat} {sg : UInt8} {kd : Int} {nx : Ps → PR} {bd : Bool} {k n : Nat} {L : List Nd} {r : Ending} (hk : Kp s.size m nx) (hs : wdc sg = false) (hl : bd = false → L.length ≤ n ∧ n ≤ 64) (hm : s.size - k < m)
  (h : DOut base w wr b s d bd n (nx ⟨n, L, rest s k⟩) r) : ∃ j : Int, r = .returned (.int .i64 j) ∧ DPair base w wr b s m d sg kd nx (pairsP s.size sg kd nx ⟨n, L, rest s k⟩) bd n j := by
 obtain ⟨j, k', v', L', bd', n', rfl, ⟨e, a, hq⟩, hb, hg, hx⟩ := h; refine ⟨j, rfl, ?_⟩
 cases bd' with
 | false =>
  obtain ⟨rfl, g1, g2⟩ := hg rfl; have hc := hk.cnt _ _ _ _ _ g2; have hn := hk.len _ _ _ _ _ g2; simp only at hc hn; rw [rest_len, rest_len] at hn; have h9 := hl rfl; refine .inl ⟨(rest s k').length + 1, k', n', v', L', e, a, hq, hc.1, by omega, g1, by omega, by rw [rest_len]; omega, rfl, ?_, hb⟩
  unfold pairsP
  rw [g2]
 | true =>
  obtain ⟨g1, g2, g3⟩ := hx rfl; exact .inr ⟨k', n', v', L', e, a, hq, g2, g3, fun h9 => dead_pairs hs (g1 h9), hb⟩
def dprM (b N : Nat) (w : World) : Nat := match w.cell? ⟨b, 5, none⟩ with | some (.bool false) => 1 + (N - (intOf ((w.cell? ⟨b, 1, none⟩).getD undef)).toNat) | _ => 0
theorem dprM_good {base : Nat} {w : World} {b : Nat} {s : ByteArray} {k : Nat} {n : Int} {v : Value} {L : List Nd} {e a : Int} (h : Dp base w b s k v L false e a n) : dprM b s.size w = 1 + (s.size - k) := by
 unfold dprM
 rw [h.blk.cell (j := 5) rfl, h.blk.cell (j := 1) rfl]
 simp [intOf]
theorem dprM_bad {base : Nat} {w : World} {b : Nat} {s : ByteArray} {k : Nat} {n : Int} {v : Value} {L : List Nd} {e a : Int} (h : Dp base w b s k v L true e a n) : dprM b s.size w = 0 := by
 unfold dprM
 rw [h.blk.cell (j := 5) rfl]
theorem d_and (base b : Nat) (s : ByteArray) (m d : Nat) (hd : d ≤ 32) (nx : Ps → PR) (hg : Drd base b s m 124 d nx) (hk : Kp s.size m nx) : Drd base b s m 110 d (pairsP s.size 38 8 nx) := by
 intro k n v L bd e a w h hks hm hn hl hbase; have HG := zz hg; have HK := zz hk; have HBS := zz hbase; have HB := h.hb; obtain ⟨R, hR⟩ : ∃ R, R = pairsP s.size 38 8 nx ⟨n, L, rest s k⟩ := ⟨_, rfl⟩
 have HCALL : Hid (Calls Tryz.prog 124 #[ptr b, .int .i64 (d : Int)] w fun r w' => ∃ j : Int, r = .returned (.int .i64 j) ∧ DPair base w w' b s m d 38 8 nx R bd n j) := zz ((hg k n v L bd e a w h hks hm hn hl hbase).mono fun r w' hq => by
  rw [hR]; exact DPair.start hk (by decide) hl hm hq)
 rw [← hR]; clear h hg hk hn hl hm hbase hR hks; go_enter Tryz.func110, Tryz.ntmps110; go_upto_region 2 with (go_at_call 124; refine HCALL.o.mono ?_; rintro r w2 ⟨j, rfl, hp⟩; have HP := zz hp; clear hp)
 go_loopw [5] (fun s5 wr => ∃ j : Int, s5 = .int .i64 j ∧ Hid (DPair base w wr b s m d 38 8 nx R bd n j)) (fun _ wr => dprM b s.size wr)
 case atStart => exact ⟨j, rfl, HP⟩
 case round =>
  clear HP HCALL; obtain ⟨left, rfl, hps⟩ := hrel; rcases hps.o with ⟨K, k0, n0, v0, L0, e0, a0, g1, g2, g3, g3', g4, g5, g5', g6, g7⟩ | ⟨k0, n0, v0, L0, e0, a0, g1, g2, g3, g4, g5⟩
  ·clear hps
   subst g5'; have H0 := zz g1; have HB0 := zz g7; have HN0 := zz g2; have HL0 := zz g3; have HM0 := zz g4; have HRK := zz g6; have HSZ : Hid (base ≤ wr.heap.size) := zz (Nat.le_trans HBS.o g7.size); have HMS : Hid (dprM b s.size wr = 1 + (s.size - k0)) := zz (dprM_good g1); have hsz := g1.sz; have c5 := g1.blk.cell (j := 5) rfl; obtain ⟨K, rfl⟩ : ∃ K', K = K' + 1 := ⟨K - 1, by omega⟩; have HKK := zz g5; have HKB := zz g3'; have hk1s := (skip_is g3').2.1; have hk0s := (skip_is g3').1; have HPK := zz (dpeek_any g1 g3'); have hpi := pk_is (sg := 38) g3' (by decide); obtain ⟨k1, hk1⟩ : ∃ k1, k1 = skip s k0 := ⟨_, rfl⟩; obtain ⟨pk, hpk⟩ : ∃ pk, pk = pkB s k0 := ⟨_, rfl⟩; rw [← hk1, ← hpk] at HPK; rw [← hk1] at hk1s hk0s; rw [← hpk] at hpi; cases hq : isB s ⟨#[38]⟩ k0
   ·have HRR : Hid (R = .ok (left, ⟨n0, L0, rest s k1⟩)) := zz (by rw [← HRK.o, loopP_stop g3' hq, isK_no hq, hk1])
    have t1 : (pk == 38) = false := by rw [hq] at hpi; exact hpi.symm
    clear hq hk1 hpk hpi g1 g2 g3 g3' g4 g5 g6 g7; go_wp2_with (go_at_call 93; refine HPK.o.mono ?_; rintro r w3 ⟨rfl, hx, hf⟩; have H3 := zz hx; have HO3 : Hid (Onb b wr w3) := zz hf; clear hx hf); go_ret; exact DOut.good (n' := n0) ⟨_, _, H3.o⟩ rfl (HB0.o.trans (onb_below HO3.o HB HSZ.o)) hk1s HRR.o
   ·have HLP := zz (loopP_go (n := n0) (K := K) (L := L0) (kd := 8) (nx := nx) (left := left) g3' hq)
    rw [HRK.o, isK_yes hq, ← hk1] at HLP; have hfar := isK_far g3' hq; rw [isK_yes hq, ← hk1] at hfar; have HFAR := zz hfar; have t1 : (pk == 38) = true := by rw [hq] at hpi; exact hpi.symm
    have u1 : IntKind.i64.wrap ((k1 : Int) + 1) = (k1 : Int) + 1 := by rw [IntKind.wrap_i64]; omega
    clear hq hk1 hpk hpi g1 g2 g3 g3' g4 g5 g6 g7 hfar; go_upto_region 3 with (go_at_call 93; refine HPK.o.mono ?_; rintro r w3 ⟨rfl, hx, hf⟩; have H3 := zz hx; have HO3 : Hid (Onb b wr w3) := zz hf; clear hx hf); clear c5 t1; have c1 := H3.o.blk.cell (j := 1) rfl; have HCN := zz (dcount_any H3.o ⟨by omega, by have := HN0.o; omega⟩ (k1 : Int)); obtain ⟨q2, hq2⟩ : ∃ q2, q2 = (false || decide (64 < (n0 : Int) + 1)) := ⟨_, rfl⟩; rw [← hq2] at HCN; have HQ2 : Hid (q2 = false → n0 + 1 ≤ 64) := zz (fun h9 => by rw [h9, Bool.false_or] at hq2; have := of_decide_eq_false hq2.symm; omega); have HQ3 : Hid (q2 = true → 64 < n0 + 1) := zz (fun h9 => by rw [h9, Bool.false_or] at hq2; have := of_decide_eq_true hq2.symm; omega); clear hq2; go_upto_region 4 with (go_at_call 111; refine HCN.o.mono ?_; rintro r w4 ⟨rfl, hx, hf⟩; have HQ4 := zz hx; have HO4 : Hid (Onb b wr w4) := zz (HO3.o.then hf); clear hx hf); clear c1 HCN HPK; obtain ⟨e4, a4, h4⟩ := HQ4.o; have c1 := h4.blk.cell (j := 1) rfl; have f1 := h4.blk.free 1; have H5 : Hid (Dp base (w4.setCell ⟨b, 1, none⟩ (.int .i64 ((k1 : Int) + 1))) b s (k1 + 1) v0 L0 q2 e4 a4 ((n0 + 1 : Nat) : Int)) := zz (by have := h4.at (k1 + 1); simpa using this)
    have HO5 : Hid (Onb b wr (w4.setCell ⟨b, 1, none⟩ (.int .i64 ((k1 : Int) + 1)))) := zz (Onb.set HO4.o 1 _); clear h4 HQ4; go_upto_region 5 with fail; obtain ⟨w5, hw5⟩ : ∃ w5, w5 = w4.setCell ⟨b, 1, none⟩ (.int .i64 ((k1 : Int) + 1)) := ⟨_, rfl⟩; rw [← hw5] at H5 HO5 ⊢; clear hw5 c1 f1 u1 HO4 HO3 H3; have HB5 : Hid (Below base wr w5) := zz (onb_below HO5.o HB HSZ.o); have HZ5 : Hid (base ≤ w5.heap.size) := zz (Nat.le_trans HSZ.o HB5.o.size); have HCL : Hid (Calls Tryz.prog 124 #[ptr b, .int .i64 (d : Int)] w5 fun r w' => DOut base w5 w' b s d q2 (n0 + 1) (nx ⟨n0 + 1, L0, rest s (k1 + 1)⟩) r) := zz (HG.o (k1 + 1) (n0 + 1) v0 L0 q2 e4 a4 w5 H5.o HFAR.o.2 (by have := HM0.o; have := HFAR.o; omega) (by have := HN0.o; omega) (fun h9 => ⟨by have := HL0.o; omega, HQ2.o h9⟩) HZ5.o); go_upto_region 6 with (go_at_call 124; refine HCL.o.mono ?_; rintro r w6 ⟨j6, k6, v6, L6, q6, n6, rfl, hq6, hb6, hg6, hx6⟩; have HQ6 := zz hq6; have HB6 := zz hb6; have HG6 := zz hg6; have HX6 := zz hx6; clear hq6 hb6 hg6 hx6); obtain ⟨e6, a6, h6⟩ := HQ6.o; have H6 := zz h6; have HB6r : Hid (Below base wr w6) := zz (HB5.o.trans HB6.o)
    have HZ6 : Hid (base ≤ w6.heap.size) := zz (Nat.le_trans HSZ.o HB6r.o.size); clear h6 HQ6 HCL; cases q6
    ·obtain ⟨z1, z2, z3⟩ := HG6.o rfl
     subst z1; have hc := HK.o.cnt _ _ _ _ _ z3; have hn := HK.o.len _ _ _ _ _ z3; simp only at hc hn; rw [rest_len, rest_len] at hn; have hll : L6.length + 1 ≤ 64 ∧ L6.length + 1 ≤ n6 := by have := HL0.o; omega
     have HLL := zz hll; have HCN := zz hc; have HLN : Hid (k6 ≤ s.size ∧ s.size - k6 ≤ s.size - (k1 + 1)) := zz ⟨z2, hn⟩; have HRR : Hid (loopP s.size 38 8 nx K L6.length ⟨n6, L6 ++ [⟨8, [], [], 0, left, j6⟩], rest s k6⟩ = R) := zz (by rw [HLP.o, if_neg (by have := HQ2.o rfl; omega), z3]); clear z2 z3 hc hn hll HG6 HX6; go_wp2_with (go_at_call 112; refine (dadd_ok H6.o ⟨8, [], [], 0, left, j6⟩ (by have := HLL.o; omega) HZ6.o).mono ?_; rintro r w7 ⟨rfl, hx⟩; have H7 := zz hx; clear hx); have HB7 : Hid (Below base wr w7) := zz (HB6r.o.trans (H7.o.below H6.o HZ6.o)); obtain ⟨v7, h7, -⟩ := H7.o; have HP7 := zz h7; clear h7; go_roundw
     case rel =>
      refine ⟨(L6.length : Int), rfl, zz (.inl ⟨K, k6, n6, v7, _, _, _, HP7.o, HCN.o.1, ?_, HLN.o.1, ?_, ?_, rfl, HRR.o, HB0.o.trans HB7.o⟩)⟩
      ·have := HLL.o; rw [List.length_append]; simp only [List.length_cons, List.length_nil]; omega
      ·have := HLN.o; have := HM0.o; have := HFAR.o; omega
      ·have := HLN.o; have := HKK.o; have := HFAR.o; omega
     case measure =>
      rw [dprM_good HP7.o, HMS.o]; have := HLN.o; have := HFAR.o; omega
    ·obtain ⟨z1, z2, z3⟩ := HX6.o rfl
     have HDD : Hid (Dead R) := zz (by
      cases hz : q2
      ·have h9 := z1 hz
       rw [HLP.o, if_neg (by have := HQ2.o hz; omega)]
       cases hx : nx ⟨n0 + 1, L0, rest s (k1 + 1)⟩ with
       | error e => trivial
       | ok q =>
        rw [hx] at h9; exact dead_loop (by decide) _ _ h9
      ·rw [HLP.o, if_pos (HQ3.o hz)]; trivial)
     have HZZ : Hid (k6 ≤ s.size + (33 - d) ∧ n6 ≤ max n 65 + (33 - d)) := zz ⟨z2, by have := HN0.o; omega⟩; clear z1 z2 z3 HG6 HX6; go_wp2_with (go_at_call 112; refine (dadd_bad H6.o ⟨8, [], [], 0, left, j6⟩).mono ?_; rintro r w7 ⟨⟨j7, rfl⟩, hx, hf⟩; have H7 := zz hx; have HB7 : Hid (Below base wr w7) := zz (HB6r.o.trans (onb_below hf HB HZ6.o)); clear hx hf); go_roundw
     case rel => exact ⟨j7, rfl, zz (.inr ⟨k6, n6, v6, L6, _, _, H7.o, HZZ.o.1, HZZ.o.2, fun _ => HDD.o, HB0.o.trans HB7.o⟩)⟩
     case measure =>
      rw [dprM_bad H7.o, HMS.o]; omega
  ·clear hps
   have H0 := zz g1; have HRR := zz g4; have HB0 := zz g5; have HZ := zz (And.intro g2 g3); have c5 := g1.blk.cell (j := 5) rfl; clear g1 g2 g3 g4 g5; go_wp2; go_ret; exact DOut.bad (n' := n0) ⟨_, _, H0.o⟩ rfl HB0.o HRR.o HZ.o.1 HZ.o.2
theorem d_or (base b : Nat) (s : ByteArray) (m d : Nat) (hd : d ≤ 32) (nx : Ps → PR) (hg : Drd base b s m 110 d nx) (hk : Kp s.size m nx) : Drd base b s m 92 d (pairsP s.size 124 9 nx) := by
 intro k n v L bd e a w h hks hm hn hl hbase; have HG := zz hg; have HK := zz hk; have HBS := zz hbase; have HB := h.hb; obtain ⟨R, hR⟩ : ∃ R, R = pairsP s.size 124 9 nx ⟨n, L, rest s k⟩ := ⟨_, rfl⟩
 have HCALL : Hid (Calls Tryz.prog 110 #[ptr b, .int .i64 (d : Int)] w fun r w' => ∃ j : Int, r = .returned (.int .i64 j) ∧ DPair base w w' b s m d 124 9 nx R bd n j) := zz ((hg k n v L bd e a w h hks hm hn hl hbase).mono fun r w' hq => by
  rw [hR]; exact DPair.start hk (by decide) hl hm hq)
 rw [← hR]; clear h hg hk hn hl hm hbase hR hks; go_enter Tryz.func92, Tryz.ntmps92; go_upto_region 2 with (go_at_call 110; refine HCALL.o.mono ?_; rintro r w2 ⟨j, rfl, hp⟩; have HP := zz hp; clear hp)
 go_loopw [5] (fun s5 wr => ∃ j : Int, s5 = .int .i64 j ∧ Hid (DPair base w wr b s m d 124 9 nx R bd n j)) (fun _ wr => dprM b s.size wr)
 case atStart => exact ⟨j, rfl, HP⟩
 case round =>
  clear HP HCALL; obtain ⟨left, rfl, hps⟩ := hrel; rcases hps.o with ⟨K, k0, n0, v0, L0, e0, a0, g1, g2, g3, g3', g4, g5, g5', g6, g7⟩ | ⟨k0, n0, v0, L0, e0, a0, g1, g2, g3, g4, g5⟩
  ·clear hps
   subst g5'; have H0 := zz g1; have HB0 := zz g7; have HN0 := zz g2; have HL0 := zz g3; have HM0 := zz g4; have HRK := zz g6; have HSZ : Hid (base ≤ wr.heap.size) := zz (Nat.le_trans HBS.o g7.size); have HMS : Hid (dprM b s.size wr = 1 + (s.size - k0)) := zz (dprM_good g1); have hsz := g1.sz; have c5 := g1.blk.cell (j := 5) rfl; obtain ⟨K, rfl⟩ : ∃ K', K = K' + 1 := ⟨K - 1, by omega⟩; have HKK := zz g5; have HKB := zz g3'; have hk1s := (skip_is g3').2.1; have hk0s := (skip_is g3').1; have HPK := zz (dpeek_any g1 g3'); have hpi := pk_is (sg := 124) g3' (by decide); obtain ⟨k1, hk1⟩ : ∃ k1, k1 = skip s k0 := ⟨_, rfl⟩; obtain ⟨pk, hpk⟩ : ∃ pk, pk = pkB s k0 := ⟨_, rfl⟩; rw [← hk1, ← hpk] at HPK; rw [← hk1] at hk1s hk0s; rw [← hpk] at hpi; cases hq : isB s ⟨#[124]⟩ k0
   ·have HRR : Hid (R = .ok (left, ⟨n0, L0, rest s k1⟩)) := zz (by rw [← HRK.o, loopP_stop g3' hq, isK_no hq, hk1])
    have t1 : (pk == 124) = false := by rw [hq] at hpi; exact hpi.symm
    clear hq hk1 hpk hpi g1 g2 g3 g3' g4 g5 g6 g7; go_wp2_with (go_at_call 93; refine HPK.o.mono ?_; rintro r w3 ⟨rfl, hx, hf⟩; have H3 := zz hx; have HO3 : Hid (Onb b wr w3) := zz hf; clear hx hf); go_ret; exact DOut.good (n' := n0) ⟨_, _, H3.o⟩ rfl (HB0.o.trans (onb_below HO3.o HB HSZ.o)) hk1s HRR.o
   ·have HLP := zz (loopP_go (n := n0) (K := K) (L := L0) (kd := 9) (nx := nx) (left := left) g3' hq)
    rw [HRK.o, isK_yes hq, ← hk1] at HLP; have hfar := isK_far g3' hq; rw [isK_yes hq, ← hk1] at hfar; have HFAR := zz hfar; have t1 : (pk == 124) = true := by rw [hq] at hpi; exact hpi.symm
    have u1 : IntKind.i64.wrap ((k1 : Int) + 1) = (k1 : Int) + 1 := by rw [IntKind.wrap_i64]; omega
    clear hq hk1 hpk hpi g1 g2 g3 g3' g4 g5 g6 g7 hfar; go_upto_region 3 with (go_at_call 93; refine HPK.o.mono ?_; rintro r w3 ⟨rfl, hx, hf⟩; have H3 := zz hx; have HO3 : Hid (Onb b wr w3) := zz hf; clear hx hf); clear c5 t1; have c1 := H3.o.blk.cell (j := 1) rfl; have HCN := zz (dcount_any H3.o ⟨by omega, by have := HN0.o; omega⟩ (k1 : Int)); obtain ⟨q2, hq2⟩ : ∃ q2, q2 = (false || decide (64 < (n0 : Int) + 1)) := ⟨_, rfl⟩; rw [← hq2] at HCN; have HQ2 : Hid (q2 = false → n0 + 1 ≤ 64) := zz (fun h9 => by rw [h9, Bool.false_or] at hq2; have := of_decide_eq_false hq2.symm; omega); have HQ3 : Hid (q2 = true → 64 < n0 + 1) := zz (fun h9 => by rw [h9, Bool.false_or] at hq2; have := of_decide_eq_true hq2.symm; omega); clear hq2; go_upto_region 4 with (go_at_call 111; refine HCN.o.mono ?_; rintro r w4 ⟨rfl, hx, hf⟩; have HQ4 := zz hx; have HO4 : Hid (Onb b wr w4) := zz (HO3.o.then hf); clear hx hf); clear c1 HCN HPK; obtain ⟨e4, a4, h4⟩ := HQ4.o; have c1 := h4.blk.cell (j := 1) rfl; have f1 := h4.blk.free 1; have H5 : Hid (Dp base (w4.setCell ⟨b, 1, none⟩ (.int .i64 ((k1 : Int) + 1))) b s (k1 + 1) v0 L0 q2 e4 a4 ((n0 + 1 : Nat) : Int)) := zz (by have := h4.at (k1 + 1); simpa using this)
    have HO5 : Hid (Onb b wr (w4.setCell ⟨b, 1, none⟩ (.int .i64 ((k1 : Int) + 1)))) := zz (Onb.set HO4.o 1 _); clear h4 HQ4; go_upto_region 5 with fail; obtain ⟨w5, hw5⟩ : ∃ w5, w5 = w4.setCell ⟨b, 1, none⟩ (.int .i64 ((k1 : Int) + 1)) := ⟨_, rfl⟩; rw [← hw5] at H5 HO5 ⊢; clear hw5 c1 f1 u1 HO4 HO3 H3; have HB5 : Hid (Below base wr w5) := zz (onb_below HO5.o HB HSZ.o); have HZ5 : Hid (base ≤ w5.heap.size) := zz (Nat.le_trans HSZ.o HB5.o.size); have HCL : Hid (Calls Tryz.prog 110 #[ptr b, .int .i64 (d : Int)] w5 fun r w' => DOut base w5 w' b s d q2 (n0 + 1) (nx ⟨n0 + 1, L0, rest s (k1 + 1)⟩) r) := zz (HG.o (k1 + 1) (n0 + 1) v0 L0 q2 e4 a4 w5 H5.o HFAR.o.2 (by have := HM0.o; have := HFAR.o; omega) (by have := HN0.o; omega) (fun h9 => ⟨by have := HL0.o; omega, HQ2.o h9⟩) HZ5.o); go_upto_region 6 with (go_at_call 110; refine HCL.o.mono ?_; rintro r w6 ⟨j6, k6, v6, L6, q6, n6, rfl, hq6, hb6, hg6, hx6⟩; have HQ6 := zz hq6; have HB6 := zz hb6; have HG6 := zz hg6; have HX6 := zz hx6; clear hq6 hb6 hg6 hx6); obtain ⟨e6, a6, h6⟩ := HQ6.o; have H6 := zz h6; have HB6r : Hid (Below base wr w6) := zz (HB5.o.trans HB6.o)
    have HZ6 : Hid (base ≤ w6.heap.size) := zz (Nat.le_trans HSZ.o HB6r.o.size); clear h6 HQ6 HCL; cases q6
    ·obtain ⟨z1, z2, z3⟩ := HG6.o rfl
     subst z1; have hc := HK.o.cnt _ _ _ _ _ z3; have hn := HK.o.len _ _ _ _ _ z3; simp only at hc hn; rw [rest_len, rest_len] at hn; have hll : L6.length + 1 ≤ 64 ∧ L6.length + 1 ≤ n6 := by have := HL0.o; omega
     have HLL := zz hll; have HCN := zz hc; have HLN : Hid (k6 ≤ s.size ∧ s.size - k6 ≤ s.size - (k1 + 1)) := zz ⟨z2, hn⟩; have HRR : Hid (loopP s.size 124 9 nx K L6.length ⟨n6, L6 ++ [⟨9, [], [], 0, left, j6⟩], rest s k6⟩ = R) := zz (by rw [HLP.o, if_neg (by have := HQ2.o rfl; omega), z3]); clear z2 z3 hc hn hll HG6 HX6; go_wp2_with (go_at_call 112; refine (dadd_ok H6.o ⟨9, [], [], 0, left, j6⟩ (by have := HLL.o; omega) HZ6.o).mono ?_; rintro r w7 ⟨rfl, hx⟩; have H7 := zz hx; clear hx); have HB7 : Hid (Below base wr w7) := zz (HB6r.o.trans (H7.o.below H6.o HZ6.o)); obtain ⟨v7, h7, -⟩ := H7.o; have HP7 := zz h7; clear h7; go_roundw
     case rel =>
      refine ⟨(L6.length : Int), rfl, zz (.inl ⟨K, k6, n6, v7, _, _, _, HP7.o, HCN.o.1, ?_, HLN.o.1, ?_, ?_, rfl, HRR.o, HB0.o.trans HB7.o⟩)⟩
      ·have := HLL.o; rw [List.length_append]; simp only [List.length_cons, List.length_nil]; omega
      ·have := HLN.o; have := HM0.o; have := HFAR.o; omega
      ·have := HLN.o; have := HKK.o; have := HFAR.o; omega
     case measure =>
      rw [dprM_good HP7.o, HMS.o]; have := HLN.o; have := HFAR.o; omega
    ·obtain ⟨z1, z2, z3⟩ := HX6.o rfl
     have HDD : Hid (Dead R) := zz (by
      cases hz : q2
      ·have h9 := z1 hz
       rw [HLP.o, if_neg (by have := HQ2.o hz; omega)]
       cases hx : nx ⟨n0 + 1, L0, rest s (k1 + 1)⟩ with
       | error e => trivial
       | ok q =>
        rw [hx] at h9; exact dead_loop (by decide) _ _ h9
      ·rw [HLP.o, if_pos (HQ3.o hz)]; trivial)
     have HZZ : Hid (k6 ≤ s.size + (33 - d) ∧ n6 ≤ max n 65 + (33 - d)) := zz ⟨z2, by have := HN0.o; omega⟩; clear z1 z2 z3 HG6 HX6; go_wp2_with (go_at_call 112; refine (dadd_bad H6.o ⟨9, [], [], 0, left, j6⟩).mono ?_; rintro r w7 ⟨⟨j7, rfl⟩, hx, hf⟩; have H7 := zz hx; have HB7 : Hid (Below base wr w7) := zz (HB6r.o.trans (onb_below hf HB HZ6.o)); clear hx hf); go_roundw
     case rel => exact ⟨j7, rfl, zz (.inr ⟨k6, n6, v6, L6, _, _, H7.o, HZZ.o.1, HZZ.o.2, fun _ => HDD.o, HB0.o.trans HB7.o⟩)⟩
     case measure =>
      rw [dprM_bad H7.o, HMS.o]; omega
  ·clear hps
   have H0 := zz g1; have HRR := zz g4; have HB0 := zz g5; have HZ := zz (And.intro g2 g3); have c5 := g1.blk.cell (j := 5) rfl; clear g1 g2 g3 g4 g5; go_wp2; go_ret; exact DOut.bad (n' := n0) ⟨_, _, H0.o⟩ rfl HB0.o HRR.o HZ.o.1 HZ.o.2
