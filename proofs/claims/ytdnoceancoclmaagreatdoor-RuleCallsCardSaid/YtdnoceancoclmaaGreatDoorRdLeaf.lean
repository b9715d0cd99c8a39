/- RdLeaf. -/
import Derived.Test.YtdnoceancoclmaaGreatDoorM18
import Derived.Test.YtdnoceancoclmaaGreatDoorRuLeafP
namespace Go.Proofs.YtdnoceancoclmaaGreatDoor.Ru
open Go.RowKit Go.Proofs.YtdnoceancoclmaaGreatDoor

/-- behind a reading of the document's parser's -/
def DOut (base : Nat) (w w' : World) (b : Nat) (s : ByteArray) (d : Nat) (bd : Bool) (n : Nat) (R : PR) (r : Ending) : Prop :=
  ∃ (j : Int) (k' : Nat) (v' : Value) (L' : List Nd) (bd' : Bool) (n' : Nat), r = .returned (.int .i64 j) ∧ Dq base w' b s k' v' L' bd' (n' : Int) ∧ Below base w w' ∧
    (bd' = false → bd = false ∧ k' ≤ s.size ∧ R = .ok (j, ⟨n', L', rest s k'⟩)) ∧ (bd' = true → (bd = false → Dead R) ∧ k' ≤ s.size + (33 - d) ∧ n' ≤ max n 65 + (33 - d))
theorem DOut.bad {base : Nat} {w w' : World} {b : Nat} {s : ByteArray} {d : Nat} {bd : Bool} {n : Nat} {R : PR} {j : Int} {k' n' : Nat} {v' : Value} {L' : List Nd} {m : Int} (h : Dq base w' b s k' v' L' true m) (hm : m = (n' : Int)) (hb : Below base w w') (hd : bd = false → Dead R) (h1 : k' ≤ s.size + (33 - d)) (h2 : n' ≤ max n 65 + (33 - d)) : DOut base w w' b s d bd n R (.returned (.int .i64 j)) :=
  ⟨j, k', v', L', true, n', rfl, hm ▸ h, hb, fun g => by (cases g), fun _ => ⟨hd, h1, h2⟩⟩
theorem DOut.good {base : Nat} {w w' : World} {b : Nat} {s : ByteArray} {d n : Nat} {R : PR} {j : Int} {k' n' : Nat} {v' : Value} {L' : List Nd} {m : Int} (h : Dq base w' b s k' v' L' false m) (hm : m = (n' : Int)) (hb : Below base w w') (h1 : k' ≤ s.size) (hR : R = .ok (j, ⟨n', L', rest s k'⟩)) : DOut base w w' b s d false n R (.returned (.int .i64 j)) :=
  ⟨j, k', v', L', false, n', rfl, hm ▸ h, hb, fun _ => ⟨rfl, h1, hR⟩, fun g => by (cases g)⟩
theorem bs_eql (a b : List UInt8) : ((bs a).toList == b) = (a == b) := by
  rw [Lib.toList_data]; rfl
theorem two_list {s : ByteArray} {k : Nat} (h : k + 1 < s.size) : (rest s k).take 2 = [s[k], s[k + 1]] := by
  rw [rest_at (by omega), rest_at h]; rfl
theorem badN_no {s : ByteArray} {k : Nat} (h : badN s k = false) : nmR (rest s k) ≠ [] ∧ hd wdc ((rest s k).drop (nmR (rest s k)).length) = false := by
  unfold badN at h
  rw [Bool.or_eq_false_iff, decide_eq_false_iff_not] at h
  exact ⟨fun e => h.1 (by rw [e]; rfl), by rw [rest_drop]; exact h.2⟩
theorem badN_yes {s : ByteArray} {k n : Nat} {L : List Nd} (h : badN s k = true) : Dead (leafP s.size ⟨n, L, rest s k⟩) := by
  unfold badN at h
  rw [Bool.or_eq_true, decide_eq_true_eq] at h
  refine dlf_bad (h.imp (fun h9 => List.length_eq_zero_iff.1 h9) (fun h9 => ?_))
  show hd wdc ((rest s k).drop _) = true
  rw [rest_drop]
  exact h9
section
variable {s : ByteArray} {k N n : Nat} {L : List Nd} {nm : List UInt8}
theorem opA (h : k < s.size) (hc : s[k] = 61) : opP N n L nm (rest s k) = wdE N n L nm 2 (rest s (k + 1)) := by
  rw [rest_at h, show s.data.toList[k]'(by simpa using h) = 61 from hc]; exact opP_equal
theorem opB (h : k + 1 < s.size) (hc : s[k] = 33) (h2 : s[k + 1] = 61) : opP N n L nm (rest s k) = wdE N n L nm 3 (rest s (k + 2)) := by
  rw [rest_at (by omega), rest_at h, show s.data.toList[k]'(by simp; omega) = 33 from hc, show s.data.toList[k + 1]'(by simpa using h) = 61 from h2]; exact opP_unlike
theorem opC (h : k + 1 < s.size) (hc : s[k] = 62) (h2 : s[k + 1] = 61) : opP N n L nm (rest s k) = dgE N n L nm 4 (rest s (k + 2)) := by
  rw [rest_at (by omega), rest_at h, show s.data.toList[k]'(by simp; omega) = 62 from hc, show s.data.toList[k + 1]'(by simpa using h) = 61 from h2]; exact opP_least
theorem opD (h : k + 1 < s.size) (hc : s[k] = 60) (h2 : s[k + 1] = 61) : opP N n L nm (rest s k) = dgE N n L nm 5 (rest s (k + 2)) := by
  rw [rest_at (by omega), rest_at h, show s.data.toList[k]'(by simp; omega) = 60 from hc, show s.data.toList[k + 1]'(by simpa using h) = 61 from h2]; exact opP_most
theorem opE (h : k < s.size) (hc : s[k] = 33 ∨ s[k] = 62 ∨ s[k] = 60) (hn : ∀ h : k + 1 < s.size, s[k + 1] ≠ 61) : Dead (opP N n L nm (rest s k)) := by
  rw [rest_at h]
  refine opP_bad hc ?_
  by_cases h1 : k + 1 < s.size
  · rw [rest_at h1]
    have := hn h1
    show (_ == _) = false
    rw [beq_eq_false_iff_ne]
    exact this
  · have : k + 1 = s.size := by omega
    rw [this, rest_end]; rfl
theorem opF (h : k < s.size) (h1 : s[k] ≠ 33) (h2 : s[k] ≠ 62) (h3 : s[k] ≠ 60) (h4 : s[k] ≠ 61) : opP N n L nm (rest s k) = .ok (put n L (rest s k) ⟨6, nm, [], 0, -1, -1⟩) := by
  rw [rest_at h]; exact opP_there h1 h2 h3 h4
theorem opF0 (hk : k ≤ s.size) (h : ¬ k < s.size) : opP N n L nm (rest s k) = .ok (put n L (rest s k) ⟨6, nm, [], 0, -1, -1⟩) := by
  have : k = s.size := by omega
  rw [this, rest_end]; exact opP_nil
theorem wd_ok {kd : Int} (hk : k ≤ s.size) (h : lenB 32 (runW (blk (rest s k))) = false) : wdE N n L nm kd (rest s k) = .ok ((L.length : Int), ⟨n, L ++ [⟨kd, nm, runW (blk (rest s k)), 0, -1, -1⟩], rest s (skip s k + (runW (blk (rest s k))).length)⟩) ∧ skip s k + (runW (blk (rest s k))).length ≤ s.size := by
  unfold lenB at h
  rw [Bool.or_eq_false_iff, decide_eq_false_iff_not, decide_eq_false_iff_not] at h
  obtain ⟨-, h2, h3, -, -⟩ := skip_is hk
  rw [wdE_yes (by omega) (by omega), ← rest_drop, ← h3]
  exact ⟨rfl, by rw [h3]; exact (runW_spec h2).1⟩
theorem wd_far (hk : k ≤ s.size) : skip s k + (runW (blk (rest s k))).length ≤ s.size := by
  obtain ⟨-, h2, h3, -, -⟩ := skip_is hk
  rw [h3]; exact (runW_spec h2).1
theorem wd_bad {kd : Int} (h : lenB 32 (runW (blk (rest s k))) = true) : Dead (wdE N n L nm kd (rest s k)) := by
  unfold lenB at h
  rw [Bool.or_eq_true, decide_eq_true_eq, decide_eq_true_eq] at h
  exact wdE_no (by omega)
theorem numB_no {l : List UInt8} (h : numB l = false) : l.all dgt = true ∧ 1 ≤ l.length ∧ l.length ≤ 12 := by
  unfold numB digK at h
  simpa only [Bool.not_eq_false', Bool.and_eq_true, decide_eq_true_eq] using h
theorem dg_ok {kd : Int} (hk : k ≤ s.size) (h : numB (runW (blk (rest s k))) = false) : dgE N n L nm kd (rest s k) = .ok ((L.length : Int), ⟨n, L ++ [⟨kd, nm, [], digV (runW (blk (rest s k))), -1, -1⟩], rest s (skip s k + (runW (blk (rest s k))).length)⟩) := by
  obtain ⟨g1, g2, g3⟩ := numB_no h
  obtain ⟨-, h2, h3, -, -⟩ := skip_is hk
  rw [dgE_yes g1 g2 g3, ← rest_drop, ← h3]
  rfl
theorem dg_bad {kd : Int} (h : numB (runW (blk (rest s k))) = true) : Dead (dgE N n L nm kd (rest s k)) := by
  refine dgE_no (fun g => ?_)
  unfold numB digK at h
  rw [g.1, decide_eq_true g.2.1, decide_eq_true g.2.2] at h
  cases h
end
set_option maxRecDepth 100000 in
set_option maxHeartbeats 8000000 in
theorem dleaf_any {base b : Nat} {s : ByteArray} {k n : Nat} {v : Value} {L : List Nd} {bd : Bool} {e a : Int} {w : World} (h : Dp base w b s k v L bd e a n) (hk : k ≤ s.size) (hn : n ≤ 500) (hl : bd = false → L.length ≤ 500 ∧ n ≤ 64) (hbase : base ≤ w.heap.size) (d : Nat) : Calls Tryz.prog 103 #[ptr b] w fun r w' => DOut base w w' b s d bd n (leafP s.size ⟨n, L, rest s k⟩) r := by
  have HNC := Lib.hid (dpname_any h hk)
  have H := Lib.hid h
  have HBS := Lib.hid hbase
  obtain ⟨nm, hnm⟩ : ∃ nm, nm = nmR (rest s k) := ⟨_, rfl⟩
  obtain ⟨k1, hk1⟩ : ∃ k1, k1 = k + nm.length := ⟨_, rfl⟩
  have hk1s : k1 ≤ s.size := by have h9 := (nmR_len (rest s k)).2; rw [rest_len, ← hnm] at h9; omega
  have hrd : rest s k1 = (rest s k).drop (nmR (rest s k)).length := by rw [rest_drop, hk1, hnm]
  have HBN : Hid (badN s k = false → nm ≠ [] ∧ (64 < n + 1 → Dead (leafP s.size ⟨n, L, rest s k⟩)) ∧ (n + 1 ≤ 64 → nm = anyT → leafP s.size ⟨n, L, rest s k⟩ = .ok (put (n + 1) L (rest s k1) ⟨1, [], [], 0, -1, -1⟩)) ∧ (n + 1 ≤ 64 → nm ≠ anyT → leafP s.size ⟨n, L, rest s k⟩ = opP s.size (n + 1) L nm (rest s (skip s k1)))) := Lib.hid (fun hb => by
    obtain ⟨g1, g2⟩ := badN_no hb
    refine ⟨by rw [hnm]; exact g1, fun g => dlf_long g g1 g2, fun g ga => ?_, fun g ga => ?_⟩
    · rw [hrd]; exact dlf_any (st := ⟨n, L, rest s k⟩) g (by rw [← ga, hnm]) g2
    · rw [← (skip_is hk1s).2.2.1, hrd, hnm]; exact dlf_op (st := ⟨n, L, rest s k⟩) g g1 (by rw [← hnm]; exact ga) g2)
  have HBY : Hid (badN s k = true → Dead (leafP s.size ⟨n, L, rest s k⟩)) := Lib.hid badN_yes
  obtain ⟨R, hR⟩ : ∃ R, R = leafP s.size ⟨n, L, rest s k⟩ := ⟨_, rfl⟩
  rw [← hR] at HBN HBY ⊢
  rw [← hnm, ← hk1] at HNC
  have c1 := h.blk.cell (j := 1) rfl
  have hkk : k ≤ s.size := hk
  have HK1S := Lib.hid hk1s
  obtain ⟨q1, hq1⟩ : ∃ q1, q1 = (bd || badN s k) := ⟨_, rfl⟩
  rw [← hq1] at HNC
  have HQ1 := Lib.hid hq1
  have hsz := h.sz
  have HVB : Hid (∀ q, v.ownBlock = some q → q < w.heap.size) := Lib.hid (fun q hq => own_hi h.own hq)
  clear h hk hnm hk1 hR hq1 hrd
  go_enter Tryz.func103, Tryz.ntmps103
  go_upto_region 3 with (go_at_call 118; refine HNC.out.mono ?_; rintro r w2 ⟨rfl, hq, ho⟩; have HQ2 := Lib.hid hq; have HO2 : Hid (Onb b w w2) := Lib.hid ho; clear hq ho)
  clear c1 HNC
  obtain ⟨e2, a2, h2⟩ := HQ2.out
  have hbz : w.heap.size ≤ w2.heap.size := HO2.out.size
  obtain ⟨w3, hw3⟩ : ∃ w3, w3 = w2.alloc (.cells #[.int .i64 6, .string (bs nm), .string ⟨#[]⟩, .int .i64 0, .int .i64 (-1), .int .i64 (-1)] 52) := ⟨_, rfl⟩
  obtain ⟨X, hX⟩ : ∃ X, X = w2.heap.size := ⟨_, rfl⟩
  have hbl : Below w2.heap.size w2 w3 := by rw [hw3]; exact below_alloc w2 _
  have H3 := Lib.hid (h2.kept hbl)
  have HY3 : Hid (Blk w3 X (ndC ⟨6, nm, [], 0, -1, -1⟩) 52) := Lib.hid (by rw [hw3, hX]; exact Blk.made w2 (ndC ⟨6, nm, [], 0, -1, -1⟩) _)
  have HXB : Hid (X ≠ b) := Lib.hid (by have := h2.blk.lt; omega)
  have HXV : Hid (v.ownBlock ≠ some X) := Lib.hid (fun h9 => by have := HVB.out _ h9; omega)
  have HXZ : Hid (base ≤ X) := Lib.hid (by omega)
  have HO3 : Hid (Frp (fun j => j = b ∨ j = X) w w3) := Lib.hid ((HO2.out.mono (fun q hq => .inl hq)).next hbl)
  rw [← hw3, ← hX]
  clear hw3 hX hbl h2 HQ2 HO2 HVB hbz
  have HBE : Hid (∀ w', Frp (fun j => j = b ∨ j = X) w w' → Below base w w') := Lib.hid (fun w' hf => hf.below (fun q hq => by rcases hq with rfl | rfl; exact H.out.hb; exact HXZ.out) hbase)
  have c5 := H3.out.blk.cell (j := 5) rfl
  cases q1
  rotate_left
  · go_wp2
    go_ret
    exact DOut.bad (n' := n) (j := -1) ⟨_, _, H3.out⟩ rfl (HBE.out _ HO3.out) (fun hb => HBY.out (by have h9 := HQ1.out; rw [hb, Bool.false_or] at h9; exact h9.symm)) (by have := HK1S.out; omega) (by omega)
  obtain rfl : bd = false := by have h9 := HQ1.out; cases bd; rfl; cases h9
  have hnb : badN s k = false := by have h9 := HQ1.out; rw [Bool.false_or] at h9; exact h9.symm
  obtain ⟨-, g1, g2, g3⟩ := HBN.out hnb
  have HRL := Lib.hid g1
  have HRA := Lib.hid g2
  have HRO := Lib.hid g3
  have HL := Lib.hid (hl rfl)
  clear hnb g1 g2 g3 HBN HBY HQ1 hl
  go_upto_region 6 with (go_at_call 61; refine (dcount_any H3.out (by omega) _).mono ?_; rintro r w4 ⟨rfl, hq, ho⟩; have HQ4 := Lib.hid hq; have HY4 := Lib.hid (HY3.out.frp ho HXB.out); have HO4 : Hid (Frp (fun j => j = b ∨ j = X) w w4) := Lib.hid (HO3.out.then (ho.mono (fun q hq => .inl hq))); clear hq ho)
  clear c5 HY3 HO3 H3
  obtain ⟨e4, a4, h4⟩ := HQ4.out
  obtain ⟨q2, hq2⟩ : ∃ q2, q2 = (false || decide (64 < (n : Int) + 1)) := ⟨_, rfl⟩
  rw [← hq2] at h4
  have HQ2 : Hid (q2 = decide (64 < n + 1)) := Lib.hid (by rw [hq2, Bool.false_or]; by_cases g : 64 < n + 1 <;> simp [g] <;> omega)
  have H4 := Lib.hid h4
  clear h4 hq2 HQ4
  have HDQ : Hid (q2 = true → Dead R) := Lib.hid (fun h9 => HRL.out (by have := HQ2.out; rw [h9] at this; exact of_decide_eq_true this.symm))
  have HN64 : Hid (q2 = false → n + 1 ≤ 64) := Lib.hid (fun h9 => by have := HQ2.out; rw [h9] at this; have := of_decide_eq_false this.symm; omega)
  have HBD : Hid (n + 1 ≤ 65) := Lib.hid (by have := HL.out.2; omega)
  have HZ : Hid (∀ w', Frp (fun j => j = b ∨ j = X) w w' → base ≤ w'.heap.size) := Lib.hid (fun w' hf => Nat.le_trans hbase hf.size)
  clear HRL HQ2 HK1S hn hbase
  have y1 := HY4.out.cell (j := 1) rfl
  have hk1s := hk1s
  by_cases hany : nm = anyT
  · have t0 : ((bs nm).toList == ([97, 110, 121] : List UInt8)) = true := by rw [hany, bs_eql]; rfl
    have HANY := Lib.hid hany
    clear hany
    cases q2
    ·
      go_wp2_with (go_at_call 62; refine (dadd_ok H4.out ⟨1, [], [], 0, -1, -1⟩ (by have := HL.out.1; omega) (HZ.out _ HO4.out)).mono ?_; rintro r wz ⟨rfl, hx⟩; have HS := Lib.hid hx; clear hx)
      go_ret
      obtain ⟨vz, hz1, hz2⟩ := HS.out
      exact DOut.good (n' := n + 1) ⟨_, _, hz1⟩ (by push_cast; rfl) ((HBE.out _ HO4.out).trans (HS.out.below H4.out (HZ.out _ HO4.out))) (hk1s) (HRA.out (HN64.out (by first | rfl | trivial)) HANY.out)
    ·
      go_wp2_with (go_at_call 62; refine (dadd_bad H4.out ⟨1, [], [], 0, -1, -1⟩).mono ?_; rintro r wz ⟨⟨jz, rfl⟩, hx, ho⟩; have HS := Lib.hid hx; have HOZ := Lib.hid (HO4.out.then (ho.mono (fun q hq => .inl hq))); clear hx ho)
      go_ret
      exact DOut.bad (n' := n + 1) ⟨_, _, HS.out⟩ (by push_cast; rfl) (HBE.out _ HOZ.out) (fun _ => HDQ.out (by first | rfl | trivial)) (by have : k1 ≤ s.size := hk1s; omega) (by have := HBD.out; omega)
  have t0 : ((bs nm).toList == ([97, 110, 121] : List UInt8)) = false := by rw [bs_eql, beq_eq_false_iff_ne]; exact hany
  have HROP : Hid (q2 = false → R = opP s.size (n + 1) L nm (rest s (skip s k1))) := Lib.hid (fun h9 => HRO.out (HN64.out h9) hany)
  clear hany HRA HRO
  obtain ⟨-, hk2s, -, -, -⟩ := skip_is hk1s
  have HPK := Lib.hid (dpeek_any H4.out hk1s)
  obtain ⟨k2, hk2⟩ : ∃ k2, k2 = skip s k1 := ⟨_, rfl⟩
  obtain ⟨pk, hpk⟩ : ∃ pk, pk = pkB s k1 := ⟨_, rfl⟩
  have HP0 : Hid (¬ k2 < s.size → pk = 0) := Lib.hid (fun h9 => by rw [hpk]; rw [hk2] at h9; exact pkB_end hk1s h9)
  have HP1 : Hid (∀ h : k2 < s.size, pk = (s[k2].toNat : Int)) := Lib.hid (by subst hk2; intro h9; rw [hpk]; exact pkB_at hk1s h9)
  rw [← hk2] at HROP hk2s
  rw [← hk2, ← hpk] at HPK
  clear hk2 hpk hk1s
  go_upto_region 10 with (go_at_call 43; refine HPK.out.mono ?_; rintro r w5 ⟨rfl, hq, ho⟩; have H5 := Lib.hid hq; have HY5 := Lib.hid (HY4.out.frp ho HXB.out); have HO5 : Hid (Frp (fun j => j = b ∨ j = X) w w5) := Lib.hid (HO4.out.then (ho.mono (fun q hq => .inl hq))); clear hq ho)
  clear t0 y1 HPK H4 HO4 HY4
  have i0 : (0 : Int) ≤ (k2 : Int) := by omega
  have u2 : IntKind.i64.wrap ((k2 : Int) + 2) = (k2 : Int) + 2 := by rw [IntKind.wrap_i64]; omega
  have b0 := Past.blk H5.out.blk (j := 0) rfl
  have b1 := Past.blk H5.out.blk (j := 1) rfl
  by_cases h2s : k2 + 2 ≤ s.size
  · have i2 : (k2 : Int) + 2 ≤ (s.size : Int) := by omega
    have i3 : (k2 : Int) ≤ (k2 : Int) + 2 := by omega
    refine wp_region_past (by kernel_rfl) (by kernel_rfl) ?_
    repeat (go_big_quiet_step (fail))
    refine wpQuiet_nil ?_
    intro _ hw'
    obtain ⟨s9, hw''⟩ := hw'
    subst hw''
    obtain ⟨w6, h9, e9⟩ : ∃ wq, Below w5.heap.size w5 wq ∧ wq = s9.val := ⟨_, s9.h, rfl⟩
    rw [← e9]
    clear e9
    have H6 := Lib.hid (H5.out.kept h9)
    have HY6 := Lib.hid (HY5.out.kept h9)
    have HO6 : Hid (Frp (fun j => j = b ∨ j = X) w w6) := Lib.hid (HO5.out.next h9)
    clear h9 b0 b1 H5 HY5 HO5
    go_upto_region 11 with fail
    have b0 := Past.blk H6.out.blk (j := 0) rfl
    have b1 := Past.blk H6.out.blk (j := 1) rfl
    refine wp_region_past (by kernel_rfl) (by kernel_rfl) ?_
    repeat (go_big_quiet_step (fail))
    refine wpQuiet_nil ?_
    intro _ hw'
    obtain ⟨s9, hw''⟩ := hw'
    subst hw''
    obtain ⟨w7, h9, e9⟩ : ∃ wq, Below w6.heap.size w6 wq ∧ wq = s9.val := ⟨_, s9.h, rfl⟩
    rw [← e9]
    clear e9
    have H7 := Lib.hid (H6.out.kept h9)
    have HY7 := Lib.hid (HY6.out.kept h9)
    have HO7 : Hid (Frp (fun j => j = b ∨ j = X) w w7) := Lib.hid (HO6.out.next h9)
    clear h9 b0 b1 H6 HY6 HO6
    have HTX : Hid ((s.extract k2 (k2 + 2)).toList = (rest s k2).take 2) := Lib.hid (by rw [bs_sub, Lib.toList_data]; simp [bs])
    obtain ⟨tw, htw⟩ : ∃ tw, tw = s.extract k2 (k2 + 2) := ⟨_, rfl⟩
    rw [← htw] at HTX
    go_upto_region 12 with fail
    try rw [← htw]
    clear htw
    have hin : k2 < s.size := by omega
    obtain ⟨c, hc⟩ : ∃ c, c = s[k2] := ⟨_, rfl⟩
    have HPC : Hid (pk = (c.toNat : Int)) := Lib.hid (by rw [hc]; exact HP1.out hin)
    have HCC : Hid (s[k2] = c) := Lib.hid hc.symm
    have cb := c.toNat_lt
    clear hc
    have hin2 : k2 + 1 < s.size := by omega
    obtain ⟨dd, hdd⟩ : ∃ dd, dd = s[k2 + 1] := ⟨_, rfl⟩
    have HDD : Hid (s[k2 + 1] = dd) := Lib.hid hdd.symm
    have HTW : Hid (tw.toList = [c, dd]) := Lib.hid (by rw [HTX.out, ← HCC.out, ← HDD.out]; exact two_list hin2)
    clear hdd
    by_cases hc1 : c = 61
    · have e61 : (pk == 61) = true := by rw [HPC.out]; subst hc1; rfl
      have e33 : (pk == 33) = false := by rw [HPC.out]; subst hc1; rfl
      have e62 : (pk == 62) = false := by rw [HPC.out]; subst hc1; rfl
      have e60 : (pk == 60) = false := by rw [HPC.out]; subst hc1; rfl
      have HC1 := Lib.hid hc1
      clear hc1
      have c1 := H7.out.blk.cell (j := 1) rfl
      have f1 := H7.out.blk.free 1
      have u9 : IntKind.i64.wrap ((k2 : Int) + 1) = (k2 : Int) + 1 := by rw [IntKind.wrap_i64]; omega
      have hg : k2 + 1 ≤ s.size := by omega
      have HG := Lib.hid hg
      have HOPX : Hid (opP s.size (n + 1) L nm (rest s k2) = wdE s.size (n + 1) L nm 2 (rest s (k2 + 1))) := Lib.hid (opA hin (by rw [HCC.out]; exact HC1.out))
      have H8 : Hid (Dp base (w7.setCell ⟨b, 1, none⟩ (.int .i64 ((k2 : Int) + 1))) b s (k2 + 1) v L q2 e4 a4 ((n : Int) + 1)) := Lib.hid (by have := H7.out.at (k2 + 1); simpa using this)
      have HY8 : Hid (Blk (w7.setCell ⟨b, 1, none⟩ (.int .i64 ((k2 : Int) + 1))) X (ndC ⟨6, nm, [], 0, -1, -1⟩) 52) := Lib.hid (HY7.out.other (a := ⟨b, 1, none⟩) HXB.out _)
      have HO8 : Hid (Frp (fun j => j = b ∨ j = X) w (w7.setCell ⟨b, 1, none⟩ (.int .i64 ((k2 : Int) + 1)))) := Lib.hid (HO7.out.set (p := ⟨b, 1, none⟩) (.inl rfl) _)
      have HCA := Lib.hid (dvalue_any H8.out hg)
      have HWB : Hid (∀ q3, q3 = (q2 || lenB 32 (runW (blk (rest s (k2 + 1))))) → (q3 = true → Dead R) ∧ (q3 = false → q2 = false ∧ lenB 32 (runW (blk (rest s (k2 + 1)))) = false)) := Lib.hid (fun q3 hq => ⟨fun h9 => by
        cases hz : q2
        · rw [HROP.out hz, HOPX.out]
          rw [h9, hz, Bool.false_or] at hq
          exact wd_bad hq.symm
        · exact HDQ.out hz, fun h9 => by rw [h9] at hq; exact Bool.or_eq_false_iff.1 hq.symm⟩)
      have HFAR : Hid (skip s (k2 + 1) + (runW (blk (rest s (k2 + 1)))).length ≤ s.size) := Lib.hid (wd_far hg)
      have HOK : Hid (∀ q2', q2' = q2 → lenB 32 (runW (blk (rest s (k2 + 1)))) = false → q2' = false → R = .ok ((L.length : Int), ⟨n + 1, L ++ [⟨2, nm, (runW (blk (rest s (k2 + 1)))), 0, -1, -1⟩], rest s (skip s (k2 + 1) + (runW (blk (rest s (k2 + 1)))).length)⟩)) := Lib.hid (fun _ h1 h2 h3 => by rw [HROP.out (h1 ▸ h3), HOPX.out]; exact (wd_ok hg h2).1)
      obtain ⟨W, hW⟩ : ∃ W, W = (runW (blk (rest s (k2 + 1)))) := ⟨_, rfl⟩
      obtain ⟨kf, hkf⟩ : ∃ kf, kf = skip s (k2 + 1) + W.length := ⟨_, rfl⟩
      obtain ⟨q3, hq3⟩ : ∃ q3, q3 = (q2 || lenB 32 W) := ⟨_, rfl⟩
      rw [← hW] at HCA HWB HFAR HOK
      rw [← hkf] at HCA HFAR HOK
      rw [← hq3] at HCA
      have HW3 := Lib.hid (HWB.out q3 hq3)
      clear hW hkf hq3 hg HWB
      go_upto_region 26 with (go_at_call 119; refine HCA.out.mono ?_; rintro r w8 ⟨rfl, hq, ho⟩; have HQ8 := Lib.hid hq; have HY9 := Lib.hid (HY8.out.frp ho HXB.out); have HO9 : Hid (Frp (fun j => j = b ∨ j = X) w w8) := Lib.hid (HO8.out.then (ho.mono (fun q hq => .inl hq))); clear hq ho; have f0 := HY9.out.free 0; have f2 := HY9.out.free 2; have g0 := HY9.out.cell (j := 0) rfl; have g2 := HY9.out.cell (j := 2) rfl)
      obtain ⟨e8, a8, h8⟩ := HQ8.out
      obtain ⟨w9, hw9⟩ : ∃ w9, w9 = (w8.setCell ⟨X, 0, none⟩ (.int .i64 2)).setCell ⟨X, 2, none⟩ (.string (bs W)) := ⟨_, rfl⟩
      have HA : Hid (Dp base w9 b s kf v L q3 e8 a8 ((n : Int) + 1)) := Lib.hid (by rw [hw9]; exact (h8.off HXB.out HXV.out 0 _).off HXB.out HXV.out 2 _)
      have HYA : Hid (Blk w9 X (ndC ⟨2, nm, W, 0, -1, -1⟩) 52) := Lib.hid (by rw [hw9]; exact (HY9.out.set 0 _).set 2 _)
      have HOA : Hid (Frp (fun j => j = b ∨ j = X) w w9) := Lib.hid (by rw [hw9]; exact (HO9.out.set (p := ⟨X, 0, none⟩) (.inr rfl) _).set (p := ⟨X, 2, none⟩) (.inr rfl) _)
      rw [← hw9]
      clear hw9 h8 HQ8 HY9 HO9 H8 HY8 HO8 c1 f1 f0 f2 g0 g2
      have y0 := HYA.out.cell (j := 0) rfl
      have y1 := HYA.out.cell (j := 1) rfl
      have y2 := HYA.out.cell (j := 2) rfl
      have y3 := HYA.out.cell (j := 3) rfl
      have y4 := HYA.out.cell (j := 4) rfl
      have y5 := HYA.out.cell (j := 5) rfl
      cases q3
      ·
        go_wp2_with (go_at_call 62; refine (dadd_ok HA.out ⟨2, nm, W, 0, -1, -1⟩ (by have := HL.out.1; omega) (HZ.out _ HOA.out)).mono ?_; rintro r wz ⟨rfl, hx⟩; have HS := Lib.hid hx; clear hx)
        go_ret
        obtain ⟨vz, hz1, hz2⟩ := HS.out
        exact DOut.good (n' := n + 1) ⟨_, _, hz1⟩ (by push_cast; rfl) ((HBE.out _ HOA.out).trans (HS.out.below HA.out (HZ.out _ HOA.out))) (HFAR.out) (by obtain ⟨g1, g2⟩ := HW3.out.2 (by first | rfl | trivial); have h9 := HOK.out q2 rfl g2 g1; exact h9)
      ·
        go_wp2_with (go_at_call 62; refine (dadd_bad HA.out ⟨2, nm, W, 0, -1, -1⟩).mono ?_; rintro r wz ⟨⟨jz, rfl⟩, hx, ho⟩; have HS := Lib.hid hx; have HOZ := Lib.hid (HOA.out.then (ho.mono (fun q hq => .inl hq))); clear hx ho)
        go_ret
        exact DOut.bad (n' := n + 1) ⟨_, _, HS.out⟩ (by push_cast; rfl) (HBE.out _ HOZ.out) (fun _ => HW3.out.1 (by first | rfl | trivial)) (by have : kf ≤ s.size := HFAR.out; omega) (by have := HBD.out; omega)
    have hc61 := hc1
    clear hc1
    by_cases hcd : c = 33 ∧ dd = 61
    · obtain ⟨hc1, hd1⟩ := hcd
      have e61 : (pk == 61) = false := by rw [HPC.out]; subst hc1; rfl
      have e33 : (pk == 33) = true := by rw [HPC.out]; subst hc1; rfl
      have e62 : (pk == 62) = false := by rw [HPC.out]; subst hc1; rfl
      have e60 : (pk == 60) = false := by rw [HPC.out]; subst hc1; rfl
      have s33 : (tw.toList == ([33, 61] : List UInt8)) = true := by rw [HTW.out]; subst hc1 hd1; rfl
      have s62 : (tw.toList == ([62, 61] : List UInt8)) = false := by rw [HTW.out]; subst hc1 hd1; rfl
      have s60 : (tw.toList == ([60, 61] : List UInt8)) = false := by rw [HTW.out]; subst hc1 hd1; rfl
      have HC1 := Lib.hid hc1
      have HD1 := Lib.hid hd1
      clear hc1 hd1
      have c1 := H7.out.blk.cell (j := 1) rfl
      have f1 := H7.out.blk.free 1
      have u9 : IntKind.i64.wrap ((k2 : Int) + 2) = (k2 : Int) + 2 := by rw [IntKind.wrap_i64]; omega
      have hg : k2 + 2 ≤ s.size := by omega
      have HG := Lib.hid hg
      have HOPX : Hid (opP s.size (n + 1) L nm (rest s k2) = wdE s.size (n + 1) L nm 3 (rest s (k2 + 2))) := Lib.hid (opB hin2 (by rw [HCC.out]; exact HC1.out) (by rw [HDD.out]; exact HD1.out))
      have H8 : Hid (Dp base (w7.setCell ⟨b, 1, none⟩ (.int .i64 ((k2 : Int) + 2))) b s (k2 + 2) v L q2 e4 a4 ((n : Int) + 1)) := Lib.hid (by have := H7.out.at (k2 + 2); simpa using this)
      have HY8 : Hid (Blk (w7.setCell ⟨b, 1, none⟩ (.int .i64 ((k2 : Int) + 2))) X (ndC ⟨6, nm, [], 0, -1, -1⟩) 52) := Lib.hid (HY7.out.other (a := ⟨b, 1, none⟩) HXB.out _)
      have HO8 : Hid (Frp (fun j => j = b ∨ j = X) w (w7.setCell ⟨b, 1, none⟩ (.int .i64 ((k2 : Int) + 2)))) := Lib.hid (HO7.out.set (p := ⟨b, 1, none⟩) (.inl rfl) _)
      have HCA := Lib.hid (dvalue_any H8.out hg)
      have HWB : Hid (∀ q3, q3 = (q2 || lenB 32 (runW (blk (rest s (k2 + 2))))) → (q3 = true → Dead R) ∧ (q3 = false → q2 = false ∧ lenB 32 (runW (blk (rest s (k2 + 2)))) = false)) := Lib.hid (fun q3 hq => ⟨fun h9 => by
        cases hz : q2
        · rw [HROP.out hz, HOPX.out]
          rw [h9, hz, Bool.false_or] at hq
          exact wd_bad hq.symm
        · exact HDQ.out hz, fun h9 => by rw [h9] at hq; exact Bool.or_eq_false_iff.1 hq.symm⟩)
      have HFAR : Hid (skip s (k2 + 2) + (runW (blk (rest s (k2 + 2)))).length ≤ s.size) := Lib.hid (wd_far hg)
      have HOK : Hid (∀ q2', q2' = q2 → lenB 32 (runW (blk (rest s (k2 + 2)))) = false → q2' = false → R = .ok ((L.length : Int), ⟨n + 1, L ++ [⟨3, nm, (runW (blk (rest s (k2 + 2)))), 0, -1, -1⟩], rest s (skip s (k2 + 2) + (runW (blk (rest s (k2 + 2)))).length)⟩)) := Lib.hid (fun _ h1 h2 h3 => by rw [HROP.out (h1 ▸ h3), HOPX.out]; exact (wd_ok hg h2).1)
      obtain ⟨W, hW⟩ : ∃ W, W = (runW (blk (rest s (k2 + 2)))) := ⟨_, rfl⟩
      obtain ⟨kf, hkf⟩ : ∃ kf, kf = skip s (k2 + 2) + W.length := ⟨_, rfl⟩
      obtain ⟨q3, hq3⟩ : ∃ q3, q3 = (q2 || lenB 32 W) := ⟨_, rfl⟩
      rw [← hW] at HCA HWB HFAR HOK
      rw [← hkf] at HCA HFAR HOK
      rw [← hq3] at HCA
      have HW3 := Lib.hid (HWB.out q3 hq3)
      clear hW hkf hq3 hg HWB
      go_upto_region 26 with (go_at_call 119; refine HCA.out.mono ?_; rintro r w8 ⟨rfl, hq, ho⟩; have HQ8 := Lib.hid hq; have HY9 := Lib.hid (HY8.out.frp ho HXB.out); have HO9 : Hid (Frp (fun j => j = b ∨ j = X) w w8) := Lib.hid (HO8.out.then (ho.mono (fun q hq => .inl hq))); clear hq ho; have f0 := HY9.out.free 0; have f2 := HY9.out.free 2; have g0 := HY9.out.cell (j := 0) rfl; have g2 := HY9.out.cell (j := 2) rfl)
      obtain ⟨e8, a8, h8⟩ := HQ8.out
      obtain ⟨w9, hw9⟩ : ∃ w9, w9 = (w8.setCell ⟨X, 0, none⟩ (.int .i64 3)).setCell ⟨X, 2, none⟩ (.string (bs W)) := ⟨_, rfl⟩
      have HA : Hid (Dp base w9 b s kf v L q3 e8 a8 ((n : Int) + 1)) := Lib.hid (by rw [hw9]; exact (h8.off HXB.out HXV.out 0 _).off HXB.out HXV.out 2 _)
      have HYA : Hid (Blk w9 X (ndC ⟨3, nm, W, 0, -1, -1⟩) 52) := Lib.hid (by rw [hw9]; exact (HY9.out.set 0 _).set 2 _)
      have HOA : Hid (Frp (fun j => j = b ∨ j = X) w w9) := Lib.hid (by rw [hw9]; exact (HO9.out.set (p := ⟨X, 0, none⟩) (.inr rfl) _).set (p := ⟨X, 2, none⟩) (.inr rfl) _)
      rw [← hw9]
      clear hw9 h8 HQ8 HY9 HO9 H8 HY8 HO8 c1 f1 f0 f2 g0 g2
      have y0 := HYA.out.cell (j := 0) rfl
      have y1 := HYA.out.cell (j := 1) rfl
      have y2 := HYA.out.cell (j := 2) rfl
      have y3 := HYA.out.cell (j := 3) rfl
      have y4 := HYA.out.cell (j := 4) rfl
      have y5 := HYA.out.cell (j := 5) rfl
      cases q3
      ·
        go_wp2_with (go_at_call 62; refine (dadd_ok HA.out ⟨3, nm, W, 0, -1, -1⟩ (by have := HL.out.1; omega) (HZ.out _ HOA.out)).mono ?_; rintro r wz ⟨rfl, hx⟩; have HS := Lib.hid hx; clear hx)
        go_ret
        obtain ⟨vz, hz1, hz2⟩ := HS.out
        exact DOut.good (n' := n + 1) ⟨_, _, hz1⟩ (by push_cast; rfl) ((HBE.out _ HOA.out).trans (HS.out.below HA.out (HZ.out _ HOA.out))) (HFAR.out) (by obtain ⟨g1, g2⟩ := HW3.out.2 (by first | rfl | trivial); have h9 := HOK.out q2 rfl g2 g1; exact h9)
      ·
        go_wp2_with (go_at_call 62; refine (dadd_bad HA.out ⟨3, nm, W, 0, -1, -1⟩).mono ?_; rintro r wz ⟨⟨jz, rfl⟩, hx, ho⟩; have HS := Lib.hid hx; have HOZ := Lib.hid (HOA.out.then (ho.mono (fun q hq => .inl hq))); clear hx ho)
        go_ret
        exact DOut.bad (n' := n + 1) ⟨_, _, HS.out⟩ (by push_cast; rfl) (HBE.out _ HOZ.out) (fun _ => HW3.out.1 (by first | rfl | trivial)) (by have : kf ≤ s.size := HFAR.out; omega) (by have := HBD.out; omega)
    have hn33 := hcd
    clear hcd
    by_cases hcd : c = 62 ∧ dd = 61
    · obtain ⟨hc1, hd1⟩ := hcd
      have e61 : (pk == 61) = false := by rw [HPC.out]; subst hc1; rfl
      have e33 : (pk == 33) = false := by rw [HPC.out]; subst hc1; rfl
      have e62 : (pk == 62) = true := by rw [HPC.out]; subst hc1; rfl
      have e60 : (pk == 60) = false := by rw [HPC.out]; subst hc1; rfl
      have s33 : (tw.toList == ([33, 61] : List UInt8)) = false := by rw [HTW.out]; subst hc1 hd1; rfl
      have s62 : (tw.toList == ([62, 61] : List UInt8)) = true := by rw [HTW.out]; subst hc1 hd1; rfl
      have s60 : (tw.toList == ([60, 61] : List UInt8)) = false := by rw [HTW.out]; subst hc1 hd1; rfl
      have HC1 := Lib.hid hc1
      have HD1 := Lib.hid hd1
      clear hc1 hd1
      have c1 := H7.out.blk.cell (j := 1) rfl
      have f1 := H7.out.blk.free 1
      have u9 : IntKind.i64.wrap ((k2 : Int) + 2) = (k2 : Int) + 2 := by rw [IntKind.wrap_i64]; omega
      have hg : k2 + 2 ≤ s.size := by omega
      have HG := Lib.hid hg
      have HOPX : Hid (opP s.size (n + 1) L nm (rest s k2) = dgE s.size (n + 1) L nm 4 (rest s (k2 + 2))) := Lib.hid (opC hin2 (by rw [HCC.out]; exact HC1.out) (by rw [HDD.out]; exact HD1.out))
      have H8 : Hid (Dp base (w7.setCell ⟨b, 1, none⟩ (.int .i64 ((k2 : Int) + 2))) b s (k2 + 2) v L q2 e4 a4 ((n : Int) + 1)) := Lib.hid (by have := H7.out.at (k2 + 2); simpa using this)
      have HY8 : Hid (Blk (w7.setCell ⟨b, 1, none⟩ (.int .i64 ((k2 : Int) + 2))) X (ndC ⟨6, nm, [], 0, -1, -1⟩) 52) := Lib.hid (HY7.out.other (a := ⟨b, 1, none⟩) HXB.out _)
      have HO8 : Hid (Frp (fun j => j = b ∨ j = X) w (w7.setCell ⟨b, 1, none⟩ (.int .i64 ((k2 : Int) + 2)))) := Lib.hid (HO7.out.set (p := ⟨b, 1, none⟩) (.inl rfl) _)
      have HCA := Lib.hid (dnumber_any H8.out hg)
      have HWB : Hid (∀ q3, q3 = (q2 || numB (runW (blk (rest s (k2 + 2))))) → (q3 = true → Dead R) ∧ (q3 = false → q2 = false ∧ numB (runW (blk (rest s (k2 + 2)))) = false)) := Lib.hid (fun q3 hq => ⟨fun h9 => by
        cases hz : q2
        · rw [HROP.out hz, HOPX.out]
          rw [h9, hz, Bool.false_or] at hq
          exact dg_bad hq.symm
        · exact HDQ.out hz, fun h9 => by rw [h9] at hq; exact Bool.or_eq_false_iff.1 hq.symm⟩)
      have HFAR : Hid (skip s (k2 + 2) + (runW (blk (rest s (k2 + 2)))).length ≤ s.size) := Lib.hid (wd_far hg)
      have HOK : Hid (∀ q2', q2' = q2 → numB (runW (blk (rest s (k2 + 2)))) = false → q2' = false → R = .ok ((L.length : Int), ⟨n + 1, L ++ [⟨4, nm, [], digV (runW (blk (rest s (k2 + 2)))), -1, -1⟩], rest s (skip s (k2 + 2) + (runW (blk (rest s (k2 + 2)))).length)⟩)) := Lib.hid (fun _ h1 h2 h3 => by rw [HROP.out (h1 ▸ h3), HOPX.out]; exact dg_ok hg h2)
      obtain ⟨W, hW⟩ : ∃ W, W = (runW (blk (rest s (k2 + 2)))) := ⟨_, rfl⟩
      obtain ⟨kf, hkf⟩ : ∃ kf, kf = skip s (k2 + 2) + W.length := ⟨_, rfl⟩
      obtain ⟨q3, hq3⟩ : ∃ q3, q3 = (q2 || numB W) := ⟨_, rfl⟩
      rw [← hW] at HCA HWB HFAR HOK
      rw [← hkf] at HCA HFAR HOK
      rw [← hq3] at HCA
      have HW3 := Lib.hid (HWB.out q3 hq3)
      clear hW hkf hq3 hg HWB
      go_upto_region 26 with (go_at_call 120; refine HCA.out.mono ?_; rintro r w8 ⟨⟨x, rfl, hx⟩, hq, ho⟩; have HXX := Lib.hid hx; have HQ8 := Lib.hid hq; have HY9 := Lib.hid (HY8.out.frp ho HXB.out); have HO9 : Hid (Frp (fun j => j = b ∨ j = X) w w8) := Lib.hid (HO8.out.then (ho.mono (fun q hq => .inl hq))); clear hx hq ho; have f0 := HY9.out.free 0; have f3 := HY9.out.free 3; have g0 := HY9.out.cell (j := 0) rfl; have g3 := HY9.out.cell (j := 3) rfl)
      obtain ⟨e8, a8, h8⟩ := HQ8.out
      obtain ⟨w9, hw9⟩ : ∃ w9, w9 = (w8.setCell ⟨X, 0, none⟩ (.int .i64 4)).setCell ⟨X, 3, none⟩ (.int .i64 x) := ⟨_, rfl⟩
      have HA : Hid (Dp base w9 b s kf v L q3 e8 a8 ((n : Int) + 1)) := Lib.hid (by rw [hw9]; exact (h8.off HXB.out HXV.out 0 _).off HXB.out HXV.out 3 _)
      have HYA : Hid (Blk w9 X (ndC ⟨4, nm, [], x, -1, -1⟩) 52) := Lib.hid (by rw [hw9]; exact (HY9.out.set 0 _).set 3 _)
      have HOA : Hid (Frp (fun j => j = b ∨ j = X) w w9) := Lib.hid (by rw [hw9]; exact (HO9.out.set (p := ⟨X, 0, none⟩) (.inr rfl) _).set (p := ⟨X, 3, none⟩) (.inr rfl) _)
      rw [← hw9]
      clear hw9 h8 HQ8 HY9 HO9 H8 HY8 HO8 c1 f1 f0 f3 g0 g3
      have y0 := HYA.out.cell (j := 0) rfl
      have y1 := HYA.out.cell (j := 1) rfl
      have y2 := HYA.out.cell (j := 2) rfl
      have y3 := HYA.out.cell (j := 3) rfl
      have y4 := HYA.out.cell (j := 4) rfl
      have y5 := HYA.out.cell (j := 5) rfl
      cases q3
      ·
        go_wp2_with (go_at_call 62; refine (dadd_ok HA.out ⟨4, nm, [], x, -1, -1⟩ (by have := HL.out.1; omega) (HZ.out _ HOA.out)).mono ?_; rintro r wz ⟨rfl, hx⟩; have HS := Lib.hid hx; clear hx)
        go_ret
        obtain ⟨vz, hz1, hz2⟩ := HS.out
        exact DOut.good (n' := n + 1) ⟨_, _, hz1⟩ (by push_cast; rfl) ((HBE.out _ HOA.out).trans (HS.out.below HA.out (HZ.out _ HOA.out))) (HFAR.out) (by obtain ⟨g1, g2⟩ := HW3.out.2 (by first | rfl | trivial); have hx := HXX.out g2; subst hx; have h9 := HOK.out q2 rfl g2 g1; exact h9)
      ·
        go_wp2_with (go_at_call 62; refine (dadd_bad HA.out ⟨4, nm, [], x, -1, -1⟩).mono ?_; rintro r wz ⟨⟨jz, rfl⟩, hx, ho⟩; have HS := Lib.hid hx; have HOZ := Lib.hid (HOA.out.then (ho.mono (fun q hq => .inl hq))); clear hx ho)
        go_ret
        exact DOut.bad (n' := n + 1) ⟨_, _, HS.out⟩ (by push_cast; rfl) (HBE.out _ HOZ.out) (fun _ => HW3.out.1 (by first | rfl | trivial)) (by have : kf ≤ s.size := HFAR.out; omega) (by have := HBD.out; omega)
    have hn62 := hcd
    clear hcd
    by_cases hcd : c = 60 ∧ dd = 61
    · obtain ⟨hc1, hd1⟩ := hcd
      have e61 : (pk == 61) = false := by rw [HPC.out]; subst hc1; rfl
      have e33 : (pk == 33) = false := by rw [HPC.out]; subst hc1; rfl
      have e62 : (pk == 62) = false := by rw [HPC.out]; subst hc1; rfl
      have e60 : (pk == 60) = true := by rw [HPC.out]; subst hc1; rfl
      have s33 : (tw.toList == ([33, 61] : List UInt8)) = false := by rw [HTW.out]; subst hc1 hd1; rfl
      have s62 : (tw.toList == ([62, 61] : List UInt8)) = false := by rw [HTW.out]; subst hc1 hd1; rfl
      have s60 : (tw.toList == ([60, 61] : List UInt8)) = true := by rw [HTW.out]; subst hc1 hd1; rfl
      have HC1 := Lib.hid hc1
      have HD1 := Lib.hid hd1
      clear hc1 hd1
      have c1 := H7.out.blk.cell (j := 1) rfl
      have f1 := H7.out.blk.free 1
      have u9 : IntKind.i64.wrap ((k2 : Int) + 2) = (k2 : Int) + 2 := by rw [IntKind.wrap_i64]; omega
      have hg : k2 + 2 ≤ s.size := by omega
      have HG := Lib.hid hg
      have HOPX : Hid (opP s.size (n + 1) L nm (rest s k2) = dgE s.size (n + 1) L nm 5 (rest s (k2 + 2))) := Lib.hid (opD hin2 (by rw [HCC.out]; exact HC1.out) (by rw [HDD.out]; exact HD1.out))
      have H8 : Hid (Dp base (w7.setCell ⟨b, 1, none⟩ (.int .i64 ((k2 : Int) + 2))) b s (k2 + 2) v L q2 e4 a4 ((n : Int) + 1)) := Lib.hid (by have := H7.out.at (k2 + 2); simpa using this)
      have HY8 : Hid (Blk (w7.setCell ⟨b, 1, none⟩ (.int .i64 ((k2 : Int) + 2))) X (ndC ⟨6, nm, [], 0, -1, -1⟩) 52) := Lib.hid (HY7.out.other (a := ⟨b, 1, none⟩) HXB.out _)
      have HO8 : Hid (Frp (fun j => j = b ∨ j = X) w (w7.setCell ⟨b, 1, none⟩ (.int .i64 ((k2 : Int) + 2)))) := Lib.hid (HO7.out.set (p := ⟨b, 1, none⟩) (.inl rfl) _)
      have HCA := Lib.hid (dnumber_any H8.out hg)
      have HWB : Hid (∀ q3, q3 = (q2 || numB (runW (blk (rest s (k2 + 2))))) → (q3 = true → Dead R) ∧ (q3 = false → q2 = false ∧ numB (runW (blk (rest s (k2 + 2)))) = false)) := Lib.hid (fun q3 hq => ⟨fun h9 => by
        cases hz : q2
        · rw [HROP.out hz, HOPX.out]
          rw [h9, hz, Bool.false_or] at hq
          exact dg_bad hq.symm
        · exact HDQ.out hz, fun h9 => by rw [h9] at hq; exact Bool.or_eq_false_iff.1 hq.symm⟩)
      have HFAR : Hid (skip s (k2 + 2) + (runW (blk (rest s (k2 + 2)))).length ≤ s.size) := Lib.hid (wd_far hg)
      have HOK : Hid (∀ q2', q2' = q2 → numB (runW (blk (rest s (k2 + 2)))) = false → q2' = false → R = .ok ((L.length : Int), ⟨n + 1, L ++ [⟨5, nm, [], digV (runW (blk (rest s (k2 + 2)))), -1, -1⟩], rest s (skip s (k2 + 2) + (runW (blk (rest s (k2 + 2)))).length)⟩)) := Lib.hid (fun _ h1 h2 h3 => by rw [HROP.out (h1 ▸ h3), HOPX.out]; exact dg_ok hg h2)
      obtain ⟨W, hW⟩ : ∃ W, W = (runW (blk (rest s (k2 + 2)))) := ⟨_, rfl⟩
      obtain ⟨kf, hkf⟩ : ∃ kf, kf = skip s (k2 + 2) + W.length := ⟨_, rfl⟩
      obtain ⟨q3, hq3⟩ : ∃ q3, q3 = (q2 || numB W) := ⟨_, rfl⟩
      rw [← hW] at HCA HWB HFAR HOK
      rw [← hkf] at HCA HFAR HOK
      rw [← hq3] at HCA
      have HW3 := Lib.hid (HWB.out q3 hq3)
      clear hW hkf hq3 hg HWB
      go_upto_region 26 with (go_at_call 120; refine HCA.out.mono ?_; rintro r w8 ⟨⟨x, rfl, hx⟩, hq, ho⟩; have HXX := Lib.hid hx; have HQ8 := Lib.hid hq; have HY9 := Lib.hid (HY8.out.frp ho HXB.out); have HO9 : Hid (Frp (fun j => j = b ∨ j = X) w w8) := Lib.hid (HO8.out.then (ho.mono (fun q hq => .inl hq))); clear hx hq ho; have f0 := HY9.out.free 0; have f3 := HY9.out.free 3; have g0 := HY9.out.cell (j := 0) rfl; have g3 := HY9.out.cell (j := 3) rfl)
      obtain ⟨e8, a8, h8⟩ := HQ8.out
      obtain ⟨w9, hw9⟩ : ∃ w9, w9 = (w8.setCell ⟨X, 0, none⟩ (.int .i64 5)).setCell ⟨X, 3, none⟩ (.int .i64 x) := ⟨_, rfl⟩
      have HA : Hid (Dp base w9 b s kf v L q3 e8 a8 ((n : Int) + 1)) := Lib.hid (by rw [hw9]; exact (h8.off HXB.out HXV.out 0 _).off HXB.out HXV.out 3 _)
      have HYA : Hid (Blk w9 X (ndC ⟨5, nm, [], x, -1, -1⟩) 52) := Lib.hid (by rw [hw9]; exact (HY9.out.set 0 _).set 3 _)
      have HOA : Hid (Frp (fun j => j = b ∨ j = X) w w9) := Lib.hid (by rw [hw9]; exact (HO9.out.set (p := ⟨X, 0, none⟩) (.inr rfl) _).set (p := ⟨X, 3, none⟩) (.inr rfl) _)
      rw [← hw9]
      clear hw9 h8 HQ8 HY9 HO9 H8 HY8 HO8 c1 f1 f0 f3 g0 g3
      have y0 := HYA.out.cell (j := 0) rfl
      have y1 := HYA.out.cell (j := 1) rfl
      have y2 := HYA.out.cell (j := 2) rfl
      have y3 := HYA.out.cell (j := 3) rfl
      have y4 := HYA.out.cell (j := 4) rfl
      have y5 := HYA.out.cell (j := 5) rfl
      cases q3
      ·
        go_wp2_with (go_at_call 62; refine (dadd_ok HA.out ⟨5, nm, [], x, -1, -1⟩ (by have := HL.out.1; omega) (HZ.out _ HOA.out)).mono ?_; rintro r wz ⟨rfl, hx⟩; have HS := Lib.hid hx; clear hx)
        go_ret
        obtain ⟨vz, hz1, hz2⟩ := HS.out
        exact DOut.good (n' := n + 1) ⟨_, _, hz1⟩ (by push_cast; rfl) ((HBE.out _ HOA.out).trans (HS.out.below HA.out (HZ.out _ HOA.out))) (HFAR.out) (by obtain ⟨g1, g2⟩ := HW3.out.2 (by first | rfl | trivial); have hx := HXX.out g2; subst hx; have h9 := HOK.out q2 rfl g2 g1; exact h9)
      ·
        go_wp2_with (go_at_call 62; refine (dadd_bad HA.out ⟨5, nm, [], x, -1, -1⟩).mono ?_; rintro r wz ⟨⟨jz, rfl⟩, hx, ho⟩; have HS := Lib.hid hx; have HOZ := Lib.hid (HOA.out.then (ho.mono (fun q hq => .inl hq))); clear hx ho)
        go_ret
        exact DOut.bad (n' := n + 1) ⟨_, _, HS.out⟩ (by push_cast; rfl) (HBE.out _ HOZ.out) (fun _ => HW3.out.1 (by first | rfl | trivial)) (by have : kf ≤ s.size := HFAR.out; omega) (by have := HBD.out; omega)
    have hn60 := hcd
    clear hcd
    by_cases hc1 : c = 33
    · have hd1 : dd ≠ 61 := fun h9 => hn33 ⟨hc1, h9⟩
      have e61 : (pk == 61) = false := by rw [HPC.out]; subst hc1; rfl
      have e33 : (pk == 33) = true := by rw [HPC.out]; subst hc1; rfl
      have e62 : (pk == 62) = false := by rw [HPC.out]; subst hc1; rfl
      have e60 : (pk == 60) = false := by rw [HPC.out]; subst hc1; rfl
      have s33 : (tw.toList == ([33, 61] : List UInt8)) = false := by rw [HTW.out]; simp; intros; exact hd1
      have s62 : (tw.toList == ([62, 61] : List UInt8)) = false := by rw [HTW.out]; simp; intros; exact hd1
      have s60 : (tw.toList == ([60, 61] : List UInt8)) = false := by rw [HTW.out]; simp; intros; exact hd1
      have HC1 := Lib.hid hc1
      have HD1 := Lib.hid hd1
      clear hc1 hd1
      have HDE : Hid (Dead R) := Lib.hid (by
        cases hz : q2
        · rw [HROP.out hz]
          exact opE hin (.inl (by rw [HCC.out]; exact HC1.out)) (fun _ => by rw [HDD.out]; exact HD1.out)
        · exact HDQ.out hz)
      have c1 := H7.out.blk.cell (j := 1) rfl
      have u9 : IntKind.i64.wrap ((k2 : Int) + 1) = (k2 : Int) + 1 := by rw [IntKind.wrap_i64]; omega
      go_upto_region 26 with (go_at_call 44; refine (dfail_any H7.out 5 _ (by decide)).mono ?_; rintro r w8 ⟨rfl, hq, ho⟩; have HQ8 := Lib.hid hq; have HYA := Lib.hid (HY7.out.frp ho HXB.out); have HOA : Hid (Frp (fun j => j = b ∨ j = X) w w8) := Lib.hid (HO7.out.then (ho.mono (fun q hq => .inl hq))); clear hq ho)
      obtain ⟨e8, a8, h8⟩ := HQ8.out
      have HA := Lib.hid h8
      clear h8 HQ8 c1
      have y0 := HYA.out.cell (j := 0) rfl
      have y1 := HYA.out.cell (j := 1) rfl
      have y2 := HYA.out.cell (j := 2) rfl
      have y3 := HYA.out.cell (j := 3) rfl
      have y4 := HYA.out.cell (j := 4) rfl
      have y5 := HYA.out.cell (j := 5) rfl
      go_wp2_with (go_at_call 62; refine (dadd_bad HA.out ⟨6, nm, [], 0, -1, -1⟩).mono ?_; rintro r wz ⟨⟨jz, rfl⟩, hx, ho⟩; have HS := Lib.hid hx; have HOZ := Lib.hid (HOA.out.then (ho.mono (fun q hq => .inl hq))); clear hx ho)
      go_ret
      exact DOut.bad (n' := n + 1) ⟨_, _, HS.out⟩ (by push_cast; rfl) (HBE.out _ HOZ.out) (fun _ => HDE.out) (by have : k2 ≤ s.size := hk2s; omega) (by have := HBD.out; omega)
    have hc33 := hc1
    clear hc1
    by_cases hc1 : c = 62
    · have hd1 : dd ≠ 61 := fun h9 => hn62 ⟨hc1, h9⟩
      have e61 : (pk == 61) = false := by rw [HPC.out]; subst hc1; rfl
      have e33 : (pk == 33) = false := by rw [HPC.out]; subst hc1; rfl
      have e62 : (pk == 62) = true := by rw [HPC.out]; subst hc1; rfl
      have e60 : (pk == 60) = false := by rw [HPC.out]; subst hc1; rfl
      have s33 : (tw.toList == ([33, 61] : List UInt8)) = false := by rw [HTW.out]; simp; intros; exact hd1
      have s62 : (tw.toList == ([62, 61] : List UInt8)) = false := by rw [HTW.out]; simp; intros; exact hd1
      have s60 : (tw.toList == ([60, 61] : List UInt8)) = false := by rw [HTW.out]; simp; intros; exact hd1
      have HC1 := Lib.hid hc1
      have HD1 := Lib.hid hd1
      clear hc1 hd1
      have HDE : Hid (Dead R) := Lib.hid (by
        cases hz : q2
        · rw [HROP.out hz]
          exact opE hin (.inr (.inl (by rw [HCC.out]; exact HC1.out))) (fun _ => by rw [HDD.out]; exact HD1.out)
        · exact HDQ.out hz)
      have c1 := H7.out.blk.cell (j := 1) rfl
      have u9 : IntKind.i64.wrap ((k2 : Int) + 1) = (k2 : Int) + 1 := by rw [IntKind.wrap_i64]; omega
      go_upto_region 26 with (go_at_call 44; refine (dfail_any H7.out 5 _ (by decide)).mono ?_; rintro r w8 ⟨rfl, hq, ho⟩; have HQ8 := Lib.hid hq; have HYA := Lib.hid (HY7.out.frp ho HXB.out); have HOA : Hid (Frp (fun j => j = b ∨ j = X) w w8) := Lib.hid (HO7.out.then (ho.mono (fun q hq => .inl hq))); clear hq ho)
      obtain ⟨e8, a8, h8⟩ := HQ8.out
      have HA := Lib.hid h8
      clear h8 HQ8 c1
      have y0 := HYA.out.cell (j := 0) rfl
      have y1 := HYA.out.cell (j := 1) rfl
      have y2 := HYA.out.cell (j := 2) rfl
      have y3 := HYA.out.cell (j := 3) rfl
      have y4 := HYA.out.cell (j := 4) rfl
      have y5 := HYA.out.cell (j := 5) rfl
      go_wp2_with (go_at_call 62; refine (dadd_bad HA.out ⟨6, nm, [], 0, -1, -1⟩).mono ?_; rintro r wz ⟨⟨jz, rfl⟩, hx, ho⟩; have HS := Lib.hid hx; have HOZ := Lib.hid (HOA.out.then (ho.mono (fun q hq => .inl hq))); clear hx ho)
      go_ret
      exact DOut.bad (n' := n + 1) ⟨_, _, HS.out⟩ (by push_cast; rfl) (HBE.out _ HOZ.out) (fun _ => HDE.out) (by have : k2 ≤ s.size := hk2s; omega) (by have := HBD.out; omega)
    have hc62 := hc1
    clear hc1
    by_cases hc1 : c = 60
    · have hd1 : dd ≠ 61 := fun h9 => hn60 ⟨hc1, h9⟩
      have e61 : (pk == 61) = false := by rw [HPC.out]; subst hc1; rfl
      have e33 : (pk == 33) = false := by rw [HPC.out]; subst hc1; rfl
      have e62 : (pk == 62) = false := by rw [HPC.out]; subst hc1; rfl
      have e60 : (pk == 60) = true := by rw [HPC.out]; subst hc1; rfl
      have s33 : (tw.toList == ([33, 61] : List UInt8)) = false := by rw [HTW.out]; simp; intros; exact hd1
      have s62 : (tw.toList == ([62, 61] : List UInt8)) = false := by rw [HTW.out]; simp; intros; exact hd1
      have s60 : (tw.toList == ([60, 61] : List UInt8)) = false := by rw [HTW.out]; simp; intros; exact hd1
      have HC1 := Lib.hid hc1
      have HD1 := Lib.hid hd1
      clear hc1 hd1
      have HDE : Hid (Dead R) := Lib.hid (by
        cases hz : q2
        · rw [HROP.out hz]
          exact opE hin (.inr (.inr (by rw [HCC.out]; exact HC1.out))) (fun _ => by rw [HDD.out]; exact HD1.out)
        · exact HDQ.out hz)
      have c1 := H7.out.blk.cell (j := 1) rfl
      have u9 : IntKind.i64.wrap ((k2 : Int) + 1) = (k2 : Int) + 1 := by rw [IntKind.wrap_i64]; omega
      go_upto_region 26 with (go_at_call 44; refine (dfail_any H7.out 5 _ (by decide)).mono ?_; rintro r w8 ⟨rfl, hq, ho⟩; have HQ8 := Lib.hid hq; have HYA := Lib.hid (HY7.out.frp ho HXB.out); have HOA : Hid (Frp (fun j => j = b ∨ j = X) w w8) := Lib.hid (HO7.out.then (ho.mono (fun q hq => .inl hq))); clear hq ho)
      obtain ⟨e8, a8, h8⟩ := HQ8.out
      have HA := Lib.hid h8
      clear h8 HQ8 c1
      have y0 := HYA.out.cell (j := 0) rfl
      have y1 := HYA.out.cell (j := 1) rfl
      have y2 := HYA.out.cell (j := 2) rfl
      have y3 := HYA.out.cell (j := 3) rfl
      have y4 := HYA.out.cell (j := 4) rfl
      have y5 := HYA.out.cell (j := 5) rfl
      go_wp2_with (go_at_call 62; refine (dadd_bad HA.out ⟨6, nm, [], 0, -1, -1⟩).mono ?_; rintro r wz ⟨⟨jz, rfl⟩, hx, ho⟩; have HS := Lib.hid hx; have HOZ := Lib.hid (HOA.out.then (ho.mono (fun q hq => .inl hq))); clear hx ho)
      go_ret
      exact DOut.bad (n' := n + 1) ⟨_, _, HS.out⟩ (by push_cast; rfl) (HBE.out _ HOZ.out) (fun _ => HDE.out) (by have : k2 ≤ s.size := hk2s; omega) (by have := HBD.out; omega)
    have hc60 := hc1
    clear hc1
    have e61 : (pk == 61) = false := by rw [HPC.out]; rw [beq_eq_false_iff_ne]; intro h9; exact hc61 (UInt8.toNat_inj.1 (show c.toNat = 61 by omega))
    have e33 : (pk == 33) = false := by rw [HPC.out]; rw [beq_eq_false_iff_ne]; intro h9; exact hc33 (UInt8.toNat_inj.1 (show c.toNat = 33 by omega))
    have e62 : (pk == 62) = false := by rw [HPC.out]; rw [beq_eq_false_iff_ne]; intro h9; exact hc62 (UInt8.toNat_inj.1 (show c.toNat = 62 by omega))
    have e60 : (pk == 60) = false := by rw [HPC.out]; rw [beq_eq_false_iff_ne]; intro h9; exact hc60 (UInt8.toNat_inj.1 (show c.toNat = 60 by omega))
    have s33 : (tw.toList == ([33, 61] : List UInt8)) = false := by rw [HTW.out]; simp; intro h9; first | exact absurd h9 hc33 | exact absurd h9 hc62 | exact absurd h9 hc60
    have s62 : (tw.toList == ([62, 61] : List UInt8)) = false := by rw [HTW.out]; simp; intro h9; first | exact absurd h9 hc33 | exact absurd h9 hc62 | exact absurd h9 hc60
    have s60 : (tw.toList == ([60, 61] : List UInt8)) = false := by rw [HTW.out]; simp; intro h9; first | exact absurd h9 hc33 | exact absurd h9 hc62 | exact absurd h9 hc60
    have HOK : Hid (q2 = false → R = .ok ((L.length : Int), ⟨n + 1, L ++ [⟨6, nm, [], 0, -1, -1⟩], rest s k2⟩)) := Lib.hid (fun hz => by rw [HROP.out hz]; exact opF hin (by rw [HCC.out]; exact hc33) (by rw [HCC.out]; exact hc62) (by rw [HCC.out]; exact hc60) (by rw [HCC.out]; exact hc61))
    go_upto_region 26 with fail
    have y0 := HY7.out.cell (j := 0) rfl
    have y1 := HY7.out.cell (j := 1) rfl
    have y2 := HY7.out.cell (j := 2) rfl
    have y3 := HY7.out.cell (j := 3) rfl
    have y4 := HY7.out.cell (j := 4) rfl
    have y5 := HY7.out.cell (j := 5) rfl
    cases q2
    ·
      go_wp2_with (go_at_call 62; refine (dadd_ok H7.out ⟨6, nm, [], 0, -1, -1⟩ (by have := HL.out.1; omega) (HZ.out _ HO7.out)).mono ?_; rintro r wz ⟨rfl, hx⟩; have HS := Lib.hid hx; clear hx)
      go_ret
      obtain ⟨vz, hz1, hz2⟩ := HS.out
      exact DOut.good (n' := n + 1) ⟨_, _, hz1⟩ (by push_cast; rfl) ((HBE.out _ HO7.out).trans (HS.out.below H7.out (HZ.out _ HO7.out))) (hk2s) (HOK.out (by first | rfl | trivial))
    ·
      go_wp2_with (go_at_call 62; refine (dadd_bad H7.out ⟨6, nm, [], 0, -1, -1⟩).mono ?_; rintro r wz ⟨⟨jz, rfl⟩, hx, ho⟩; have HS := Lib.hid hx; have HOZ := Lib.hid (HO7.out.then (ho.mono (fun q hq => .inl hq))); clear hx ho)
      go_ret
      exact DOut.bad (n' := n + 1) ⟨_, _, HS.out⟩ (by push_cast; rfl) (HBE.out _ HOZ.out) (fun _ => HDQ.out (by first | rfl | trivial)) (by have : k2 ≤ s.size := hk2s; omega) (by have := HBD.out; omega)
  · have i2 : ¬ (k2 : Int) + 2 ≤ (s.size : Int) := by omega
    refine wp_region_past (by kernel_rfl) (by kernel_rfl) ?_
    repeat (go_big_quiet_step (fail))
    refine wpQuiet_nil ?_
    intro _ hw'
    obtain ⟨s9, hw''⟩ := hw'
    subst hw''
    obtain ⟨w7, h9, e9⟩ : ∃ wq, Below w5.heap.size w5 wq ∧ wq = s9.val := ⟨_, s9.h, rfl⟩
    rw [← e9]
    clear e9
    have H7 := Lib.hid (H5.out.kept h9)
    have HY7 := Lib.hid (HY5.out.kept h9)
    have HO7 : Hid (Frp (fun j => j = b ∨ j = X) w w7) := Lib.hid (HO5.out.next h9)
    clear h9 b0 b1 H5 HY5 HO5
    by_cases hin : k2 < s.size
    ·
      obtain ⟨c, hc⟩ : ∃ c, c = s[k2] := ⟨_, rfl⟩
      have HPC : Hid (pk = (c.toNat : Int)) := Lib.hid (by rw [hc]; exact HP1.out hin)
      have HCC : Hid (s[k2] = c) := Lib.hid hc.symm
      have cb := c.toNat_lt
      clear hc
      by_cases hc1 : c = 61
      · have e61 : (pk == 61) = true := by rw [HPC.out]; subst hc1; rfl
        have e33 : (pk == 33) = false := by rw [HPC.out]; subst hc1; rfl
        have e62 : (pk == 62) = false := by rw [HPC.out]; subst hc1; rfl
        have e60 : (pk == 60) = false := by rw [HPC.out]; subst hc1; rfl
        have HC1 := Lib.hid hc1
        clear hc1
        have c1 := H7.out.blk.cell (j := 1) rfl
        have f1 := H7.out.blk.free 1
        have u9 : IntKind.i64.wrap ((k2 : Int) + 1) = (k2 : Int) + 1 := by rw [IntKind.wrap_i64]; omega
        have hg : k2 + 1 ≤ s.size := by omega
        have HG := Lib.hid hg
        have HOPX : Hid (opP s.size (n + 1) L nm (rest s k2) = wdE s.size (n + 1) L nm 2 (rest s (k2 + 1))) := Lib.hid (opA hin (by rw [HCC.out]; exact HC1.out))
        have H8 : Hid (Dp base (w7.setCell ⟨b, 1, none⟩ (.int .i64 ((k2 : Int) + 1))) b s (k2 + 1) v L q2 e4 a4 ((n : Int) + 1)) := Lib.hid (by have := H7.out.at (k2 + 1); simpa using this)
        have HY8 : Hid (Blk (w7.setCell ⟨b, 1, none⟩ (.int .i64 ((k2 : Int) + 1))) X (ndC ⟨6, nm, [], 0, -1, -1⟩) 52) := Lib.hid (HY7.out.other (a := ⟨b, 1, none⟩) HXB.out _)
        have HO8 : Hid (Frp (fun j => j = b ∨ j = X) w (w7.setCell ⟨b, 1, none⟩ (.int .i64 ((k2 : Int) + 1)))) := Lib.hid (HO7.out.set (p := ⟨b, 1, none⟩) (.inl rfl) _)
        have HCA := Lib.hid (dvalue_any H8.out hg)
        have HWB : Hid (∀ q3, q3 = (q2 || lenB 32 (runW (blk (rest s (k2 + 1))))) → (q3 = true → Dead R) ∧ (q3 = false → q2 = false ∧ lenB 32 (runW (blk (rest s (k2 + 1)))) = false)) := Lib.hid (fun q3 hq => ⟨fun h9 => by
          cases hz : q2
          · rw [HROP.out hz, HOPX.out]
            rw [h9, hz, Bool.false_or] at hq
            exact wd_bad hq.symm
          · exact HDQ.out hz, fun h9 => by rw [h9] at hq; exact Bool.or_eq_false_iff.1 hq.symm⟩)
        have HFAR : Hid (skip s (k2 + 1) + (runW (blk (rest s (k2 + 1)))).length ≤ s.size) := Lib.hid (wd_far hg)
        have HOK : Hid (∀ q2', q2' = q2 → lenB 32 (runW (blk (rest s (k2 + 1)))) = false → q2' = false → R = .ok ((L.length : Int), ⟨n + 1, L ++ [⟨2, nm, (runW (blk (rest s (k2 + 1)))), 0, -1, -1⟩], rest s (skip s (k2 + 1) + (runW (blk (rest s (k2 + 1)))).length)⟩)) := Lib.hid (fun _ h1 h2 h3 => by rw [HROP.out (h1 ▸ h3), HOPX.out]; exact (wd_ok hg h2).1)
        obtain ⟨W, hW⟩ : ∃ W, W = (runW (blk (rest s (k2 + 1)))) := ⟨_, rfl⟩
        obtain ⟨kf, hkf⟩ : ∃ kf, kf = skip s (k2 + 1) + W.length := ⟨_, rfl⟩
        obtain ⟨q3, hq3⟩ : ∃ q3, q3 = (q2 || lenB 32 W) := ⟨_, rfl⟩
        rw [← hW] at HCA HWB HFAR HOK
        rw [← hkf] at HCA HFAR HOK
        rw [← hq3] at HCA
        have HW3 := Lib.hid (HWB.out q3 hq3)
        clear hW hkf hq3 hg HWB
        go_upto_region 26 with (go_at_call 119; refine HCA.out.mono ?_; rintro r w8 ⟨rfl, hq, ho⟩; have HQ8 := Lib.hid hq; have HY9 := Lib.hid (HY8.out.frp ho HXB.out); have HO9 : Hid (Frp (fun j => j = b ∨ j = X) w w8) := Lib.hid (HO8.out.then (ho.mono (fun q hq => .inl hq))); clear hq ho; have f0 := HY9.out.free 0; have f2 := HY9.out.free 2; have g0 := HY9.out.cell (j := 0) rfl; have g2 := HY9.out.cell (j := 2) rfl)
        obtain ⟨e8, a8, h8⟩ := HQ8.out
        obtain ⟨w9, hw9⟩ : ∃ w9, w9 = (w8.setCell ⟨X, 0, none⟩ (.int .i64 2)).setCell ⟨X, 2, none⟩ (.string (bs W)) := ⟨_, rfl⟩
        have HA : Hid (Dp base w9 b s kf v L q3 e8 a8 ((n : Int) + 1)) := Lib.hid (by rw [hw9]; exact (h8.off HXB.out HXV.out 0 _).off HXB.out HXV.out 2 _)
        have HYA : Hid (Blk w9 X (ndC ⟨2, nm, W, 0, -1, -1⟩) 52) := Lib.hid (by rw [hw9]; exact (HY9.out.set 0 _).set 2 _)
        have HOA : Hid (Frp (fun j => j = b ∨ j = X) w w9) := Lib.hid (by rw [hw9]; exact (HO9.out.set (p := ⟨X, 0, none⟩) (.inr rfl) _).set (p := ⟨X, 2, none⟩) (.inr rfl) _)
        rw [← hw9]
        clear hw9 h8 HQ8 HY9 HO9 H8 HY8 HO8 c1 f1 f0 f2 g0 g2
        have y0 := HYA.out.cell (j := 0) rfl
        have y1 := HYA.out.cell (j := 1) rfl
        have y2 := HYA.out.cell (j := 2) rfl
        have y3 := HYA.out.cell (j := 3) rfl
        have y4 := HYA.out.cell (j := 4) rfl
        have y5 := HYA.out.cell (j := 5) rfl
        cases q3
        ·
          go_wp2_with (go_at_call 62; refine (dadd_ok HA.out ⟨2, nm, W, 0, -1, -1⟩ (by have := HL.out.1; omega) (HZ.out _ HOA.out)).mono ?_; rintro r wz ⟨rfl, hx⟩; have HS := Lib.hid hx; clear hx)
          go_ret
          obtain ⟨vz, hz1, hz2⟩ := HS.out
          exact DOut.good (n' := n + 1) ⟨_, _, hz1⟩ (by push_cast; rfl) ((HBE.out _ HOA.out).trans (HS.out.below HA.out (HZ.out _ HOA.out))) (HFAR.out) (by obtain ⟨g1, g2⟩ := HW3.out.2 (by first | rfl | trivial); have h9 := HOK.out q2 rfl g2 g1; exact h9)
        ·
          go_wp2_with (go_at_call 62; refine (dadd_bad HA.out ⟨2, nm, W, 0, -1, -1⟩).mono ?_; rintro r wz ⟨⟨jz, rfl⟩, hx, ho⟩; have HS := Lib.hid hx; have HOZ := Lib.hid (HOA.out.then (ho.mono (fun q hq => .inl hq))); clear hx ho)
          go_ret
          exact DOut.bad (n' := n + 1) ⟨_, _, HS.out⟩ (by push_cast; rfl) (HBE.out _ HOZ.out) (fun _ => HW3.out.1 (by first | rfl | trivial)) (by have : kf ≤ s.size := HFAR.out; omega) (by have := HBD.out; omega)
      have hc61 := hc1
      clear hc1
      by_cases hc1 : c = 33
      · have e61 : (pk == 61) = false := by rw [HPC.out]; subst hc1; rfl
        have e33 : (pk == 33) = true := by rw [HPC.out]; subst hc1; rfl
        have e62 : (pk == 62) = false := by rw [HPC.out]; subst hc1; rfl
        have e60 : (pk == 60) = false := by rw [HPC.out]; subst hc1; rfl
        have HC1 := Lib.hid hc1
        clear hc1
        have HDE : Hid (Dead R) := Lib.hid (by
          cases hz : q2
          · rw [HROP.out hz]
            exact opE hin (.inl (by rw [HCC.out]; exact HC1.out)) (fun h9 => by omega)
          · exact HDQ.out hz)
        have c1 := H7.out.blk.cell (j := 1) rfl
        have u9 : IntKind.i64.wrap ((k2 : Int) + 1) = (k2 : Int) + 1 := by rw [IntKind.wrap_i64]; omega
        go_upto_region 26 with (go_at_call 44; refine (dfail_any H7.out 5 _ (by decide)).mono ?_; rintro r w8 ⟨rfl, hq, ho⟩; have HQ8 := Lib.hid hq; have HYA := Lib.hid (HY7.out.frp ho HXB.out); have HOA : Hid (Frp (fun j => j = b ∨ j = X) w w8) := Lib.hid (HO7.out.then (ho.mono (fun q hq => .inl hq))); clear hq ho)
        obtain ⟨e8, a8, h8⟩ := HQ8.out
        have HA := Lib.hid h8
        clear h8 HQ8 c1
        have y0 := HYA.out.cell (j := 0) rfl
        have y1 := HYA.out.cell (j := 1) rfl
        have y2 := HYA.out.cell (j := 2) rfl
        have y3 := HYA.out.cell (j := 3) rfl
        have y4 := HYA.out.cell (j := 4) rfl
        have y5 := HYA.out.cell (j := 5) rfl
        go_wp2_with (go_at_call 62; refine (dadd_bad HA.out ⟨6, nm, [], 0, -1, -1⟩).mono ?_; rintro r wz ⟨⟨jz, rfl⟩, hx, ho⟩; have HS := Lib.hid hx; have HOZ := Lib.hid (HOA.out.then (ho.mono (fun q hq => .inl hq))); clear hx ho)
        go_ret
        exact DOut.bad (n' := n + 1) ⟨_, _, HS.out⟩ (by push_cast; rfl) (HBE.out _ HOZ.out) (fun _ => HDE.out) (by have : k2 ≤ s.size := hk2s; omega) (by have := HBD.out; omega)
      have hc33 := hc1
      clear hc1
      by_cases hc1 : c = 62
      · have e61 : (pk == 61) = false := by rw [HPC.out]; subst hc1; rfl
        have e33 : (pk == 33) = false := by rw [HPC.out]; subst hc1; rfl
        have e62 : (pk == 62) = true := by rw [HPC.out]; subst hc1; rfl
        have e60 : (pk == 60) = false := by rw [HPC.out]; subst hc1; rfl
        have HC1 := Lib.hid hc1
        clear hc1
        have HDE : Hid (Dead R) := Lib.hid (by
          cases hz : q2
          · rw [HROP.out hz]
            exact opE hin (.inr (.inl (by rw [HCC.out]; exact HC1.out))) (fun h9 => by omega)
          · exact HDQ.out hz)
        have c1 := H7.out.blk.cell (j := 1) rfl
        have u9 : IntKind.i64.wrap ((k2 : Int) + 1) = (k2 : Int) + 1 := by rw [IntKind.wrap_i64]; omega
        go_upto_region 26 with (go_at_call 44; refine (dfail_any H7.out 5 _ (by decide)).mono ?_; rintro r w8 ⟨rfl, hq, ho⟩; have HQ8 := Lib.hid hq; have HYA := Lib.hid (HY7.out.frp ho HXB.out); have HOA : Hid (Frp (fun j => j = b ∨ j = X) w w8) := Lib.hid (HO7.out.then (ho.mono (fun q hq => .inl hq))); clear hq ho)
        obtain ⟨e8, a8, h8⟩ := HQ8.out
        have HA := Lib.hid h8
        clear h8 HQ8 c1
        have y0 := HYA.out.cell (j := 0) rfl
        have y1 := HYA.out.cell (j := 1) rfl
        have y2 := HYA.out.cell (j := 2) rfl
        have y3 := HYA.out.cell (j := 3) rfl
        have y4 := HYA.out.cell (j := 4) rfl
        have y5 := HYA.out.cell (j := 5) rfl
        go_wp2_with (go_at_call 62; refine (dadd_bad HA.out ⟨6, nm, [], 0, -1, -1⟩).mono ?_; rintro r wz ⟨⟨jz, rfl⟩, hx, ho⟩; have HS := Lib.hid hx; have HOZ := Lib.hid (HOA.out.then (ho.mono (fun q hq => .inl hq))); clear hx ho)
        go_ret
        exact DOut.bad (n' := n + 1) ⟨_, _, HS.out⟩ (by push_cast; rfl) (HBE.out _ HOZ.out) (fun _ => HDE.out) (by have : k2 ≤ s.size := hk2s; omega) (by have := HBD.out; omega)
      have hc62 := hc1
      clear hc1
      by_cases hc1 : c = 60
      · have e61 : (pk == 61) = false := by rw [HPC.out]; subst hc1; rfl
        have e33 : (pk == 33) = false := by rw [HPC.out]; subst hc1; rfl
        have e62 : (pk == 62) = false := by rw [HPC.out]; subst hc1; rfl
        have e60 : (pk == 60) = true := by rw [HPC.out]; subst hc1; rfl
        have HC1 := Lib.hid hc1
        clear hc1
        have HDE : Hid (Dead R) := Lib.hid (by
          cases hz : q2
          · rw [HROP.out hz]
            exact opE hin (.inr (.inr (by rw [HCC.out]; exact HC1.out))) (fun h9 => by omega)
          · exact HDQ.out hz)
        have c1 := H7.out.blk.cell (j := 1) rfl
        have u9 : IntKind.i64.wrap ((k2 : Int) + 1) = (k2 : Int) + 1 := by rw [IntKind.wrap_i64]; omega
        go_upto_region 26 with (go_at_call 44; refine (dfail_any H7.out 5 _ (by decide)).mono ?_; rintro r w8 ⟨rfl, hq, ho⟩; have HQ8 := Lib.hid hq; have HYA := Lib.hid (HY7.out.frp ho HXB.out); have HOA : Hid (Frp (fun j => j = b ∨ j = X) w w8) := Lib.hid (HO7.out.then (ho.mono (fun q hq => .inl hq))); clear hq ho)
        obtain ⟨e8, a8, h8⟩ := HQ8.out
        have HA := Lib.hid h8
        clear h8 HQ8 c1
        have y0 := HYA.out.cell (j := 0) rfl
        have y1 := HYA.out.cell (j := 1) rfl
        have y2 := HYA.out.cell (j := 2) rfl
        have y3 := HYA.out.cell (j := 3) rfl
        have y4 := HYA.out.cell (j := 4) rfl
        have y5 := HYA.out.cell (j := 5) rfl
        go_wp2_with (go_at_call 62; refine (dadd_bad HA.out ⟨6, nm, [], 0, -1, -1⟩).mono ?_; rintro r wz ⟨⟨jz, rfl⟩, hx, ho⟩; have HS := Lib.hid hx; have HOZ := Lib.hid (HOA.out.then (ho.mono (fun q hq => .inl hq))); clear hx ho)
        go_ret
        exact DOut.bad (n' := n + 1) ⟨_, _, HS.out⟩ (by push_cast; rfl) (HBE.out _ HOZ.out) (fun _ => HDE.out) (by have : k2 ≤ s.size := hk2s; omega) (by have := HBD.out; omega)
      have hc60 := hc1
      clear hc1
      have e61 : (pk == 61) = false := by rw [HPC.out]; rw [beq_eq_false_iff_ne]; intro h9; exact hc61 (UInt8.toNat_inj.1 (show c.toNat = 61 by omega))
      have e33 : (pk == 33) = false := by rw [HPC.out]; rw [beq_eq_false_iff_ne]; intro h9; exact hc33 (UInt8.toNat_inj.1 (show c.toNat = 33 by omega))
      have e62 : (pk == 62) = false := by rw [HPC.out]; rw [beq_eq_false_iff_ne]; intro h9; exact hc62 (UInt8.toNat_inj.1 (show c.toNat = 62 by omega))
      have e60 : (pk == 60) = false := by rw [HPC.out]; rw [beq_eq_false_iff_ne]; intro h9; exact hc60 (UInt8.toNat_inj.1 (show c.toNat = 60 by omega))
      have HOK : Hid (q2 = false → R = .ok ((L.length : Int), ⟨n + 1, L ++ [⟨6, nm, [], 0, -1, -1⟩], rest s k2⟩)) := Lib.hid (fun hz => by rw [HROP.out hz]; exact opF hin (by rw [HCC.out]; exact hc33) (by rw [HCC.out]; exact hc62) (by rw [HCC.out]; exact hc60) (by rw [HCC.out]; exact hc61))
      go_upto_region 26 with fail
      have y0 := HY7.out.cell (j := 0) rfl
      have y1 := HY7.out.cell (j := 1) rfl
      have y2 := HY7.out.cell (j := 2) rfl
      have y3 := HY7.out.cell (j := 3) rfl
      have y4 := HY7.out.cell (j := 4) rfl
      have y5 := HY7.out.cell (j := 5) rfl
      cases q2
      ·
        go_wp2_with (go_at_call 62; refine (dadd_ok H7.out ⟨6, nm, [], 0, -1, -1⟩ (by have := HL.out.1; omega) (HZ.out _ HO7.out)).mono ?_; rintro r wz ⟨rfl, hx⟩; have HS := Lib.hid hx; clear hx)
        go_ret
        obtain ⟨vz, hz1, hz2⟩ := HS.out
        exact DOut.good (n' := n + 1) ⟨_, _, hz1⟩ (by push_cast; rfl) ((HBE.out _ HO7.out).trans (HS.out.below H7.out (HZ.out _ HO7.out))) (hk2s) (HOK.out (by first | rfl | trivial))
      ·
        go_wp2_with (go_at_call 62; refine (dadd_bad H7.out ⟨6, nm, [], 0, -1, -1⟩).mono ?_; rintro r wz ⟨⟨jz, rfl⟩, hx, ho⟩; have HS := Lib.hid hx; have HOZ := Lib.hid (HO7.out.then (ho.mono (fun q hq => .inl hq))); clear hx ho)
        go_ret
        exact DOut.bad (n' := n + 1) ⟨_, _, HS.out⟩ (by push_cast; rfl) (HBE.out _ HOZ.out) (fun _ => HDQ.out (by first | rfl | trivial)) (by have : k2 ≤ s.size := hk2s; omega) (by have := HBD.out; omega)
    ·
      have hpk0 : pk = 0 := HP0.out (by omega)
      subst hpk0
      have HOK : Hid (q2 = false → R = .ok ((L.length : Int), ⟨n + 1, L ++ [⟨6, nm, [], 0, -1, -1⟩], rest s k2⟩)) := Lib.hid (fun hz => by rw [HROP.out hz]; exact opF0 hk2s (by omega))
      go_upto_region 26 with fail
      have y0 := HY7.out.cell (j := 0) rfl
      have y1 := HY7.out.cell (j := 1) rfl
      have y2 := HY7.out.cell (j := 2) rfl
      have y3 := HY7.out.cell (j := 3) rfl
      have y4 := HY7.out.cell (j := 4) rfl
      have y5 := HY7.out.cell (j := 5) rfl
      cases q2
      ·
        go_wp2_with (go_at_call 62; refine (dadd_ok H7.out ⟨6, nm, [], 0, -1, -1⟩ (by have := HL.out.1; omega) (HZ.out _ HO7.out)).mono ?_; rintro r wz ⟨rfl, hx⟩; have HS := Lib.hid hx; clear hx)
        go_ret
        obtain ⟨vz, hz1, hz2⟩ := HS.out
        exact DOut.good (n' := n + 1) ⟨_, _, hz1⟩ (by push_cast; rfl) ((HBE.out _ HO7.out).trans (HS.out.below H7.out (HZ.out _ HO7.out))) (hk2s) (HOK.out (by first | rfl | trivial))
      ·
        go_wp2_with (go_at_call 62; refine (dadd_bad H7.out ⟨6, nm, [], 0, -1, -1⟩).mono ?_; rintro r wz ⟨⟨jz, rfl⟩, hx, ho⟩; have HS := Lib.hid hx; have HOZ := Lib.hid (HO7.out.then (ho.mono (fun q hq => .inl hq))); clear hx ho)
        go_ret
        exact DOut.bad (n' := n + 1) ⟨_, _, HS.out⟩ (by push_cast; rfl) (HBE.out _ HOZ.out) (fun _ => HDQ.out (by first | rfl | trivial)) (by have : k2 ≤ s.size := hk2s; omega) (by have := HBD.out; omega)
end Go.Proofs.YtdnoceancoclmaaGreatDoor.Ru
