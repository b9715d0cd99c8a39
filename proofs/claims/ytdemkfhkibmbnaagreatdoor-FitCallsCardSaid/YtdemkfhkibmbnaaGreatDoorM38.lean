/- RdParse, RdSize, RdLen. -/
import Derived.Test.YtdemkfhkibmbnaaGreatDoorRdOneW
import Derived.Test.YtdemkfhkibmbnaaGreatDoorRdTold
set_option maxRecDepth 100000
set_option maxHeartbeats 8000000
namespace Go.Proofs.YtdemkfhkibmbnaaGreatDoor.Ru
open Go.RowKit Go.Proofs.YtdemkfhkibmbnaaGreatDoor
def DParS (w w' : World) (R : Except (Int × Int) (List Nd)) (r : Ending) : Prop :=
 match R with
 | .error _ => (∃ e a : Int, e ≠ 0 ∧ r = .returned (.tuple #[.agg #[.slice none 0 0], .agg #[.int .i64 e, .int .i64 a]])) ∧ Below w.heap.size w w'
 | .ok L => (∃ v, r = .returned (.tuple #[.agg #[v], .agg #[.int .i64 0, .int .i64 0]]) ∧ w'.ownsRow w.heap.size 69 6 v L.length (rwC ndC L)) ∧ Below w.heap.size w w'
theorem DParS.bad {w w' : World} {R : Except (Int × Int) (List Nd)} {e a : Int} (hR : ∃ x, R = .error x) (he : e ≠ 0) (hb : Below w.heap.size w w') : DParS w w' R (.returned (.tuple #[.agg #[.slice none 0 0], .agg #[.int .i64 e, .int .i64 a]])) := by
 obtain ⟨x, rfl⟩ := hR; exact ⟨⟨e, a, he, rfl⟩, hb⟩
theorem dead_parse {s : ByteArray} (hs : s.size ≤ 1024) (h : Dead (orP s.size (s.size + 1) 0 ⟨0, [], rest s 0⟩)) : ∃ x, parseP s.data.toList = .error x := by
 unfold parseP
 rw [list_size, if_neg (by omega), ← rest0]
 cases hq : orP s.size (s.size + 1) 0 ⟨0, [], rest s 0⟩ with
 | error e => exact ⟨e, rfl⟩
 | ok q =>
  rw [hq] at h
  simp only
  have h1 : blk q.2.r ≠ [] := by
   rw [wdc_blk h]; intro e; have h2 : hd wdc q.2.r = true := h; rw [e] at h2; cases h2
  rw [if_pos h1]; exact ⟨_, rfl⟩
theorem flat_kind : ∀ (t : Tr) (b : Nat), t.ok → ∀ n ∈ t.flat b, 1 ≤ n.k ∧ n.k ≤ 9
 | .lf k nm vl x, b, ho, n, hn => by
  have hk := leaf_kind ho; simp only [Tr.flat, List.mem_singleton] at hn; subst hn
  simp only
  omega
 | .no t, b, ho, n, hn => by
  simp only [Tr.flat, List.mem_append, List.mem_singleton] at hn; rcases hn with hn | rfl
  ·exact flat_kind t b ho n hn
  ·simp
 | .an l r, b, ho, n, hn => by
  simp only [Tr.flat, List.mem_append, List.mem_singleton] at hn; rcases hn with (hn | hn) | rfl
  ·exact flat_kind l b ho.1 n hn
  ·exact flat_kind r _ ho.2 n hn
  ·simp
 | .o l r, b, ho, n, hn => by
  simp only [Tr.flat, List.mem_append, List.mem_singleton] at hn; rcases hn with (hn | hn) | rfl
  ·exact flat_kind l b ho.1 n hn
  ·exact flat_kind r _ ho.2 n hn
  ·simp
theorem flat_dn (t : Tr) (ho : t.ok) : ∀ n ∈ t.flat 0, Dn n := fun n hn => by
 obtain ⟨h1, h2, h3, h4⟩ := flat_nodes t 0 ho n hn; exact ⟨flat_kind t 0 ho n hn, by omega, by omega, fun _ => ⟨h3, h4⟩⟩
theorem flat_dtold (t : Tr) (ho : t.ok) (hs : t.size ≤ 64) {i : Nat} (hi : i < (t.flat 0).length) : DTold (t.flat 0) i := by
 obtain ⟨h1, h2, h3, h4⟩ := flat_fine t ho hs; exact dtold_any h1 (flat_dn t ho) _ i (Nat.lt_succ_self _) hi (told_long h1 h2 h4 (flat_fit t ho) hi)
theorem par_zero (L : List Nd) (i : Nat) (t : List UInt8) : par (decide (tightK (kindAt L i) < 0 + 1)) t = t := by
 rw [decide_eq_false (by unfold tightK; split <;> (try split) <;> (try split) <;> omega)]; rfl
theorem dparse_any (s : ByteArray) (w : World) (hs : s.size ≤ maxLen) : Calls Tryz.prog 68 #[.string s] w fun r w' => DParS w w' (parseP s.data.toList) r := by
 have HS := zz hs; have hs63 : (s.size : Int) ≤ 9223372036854775807 := by unfold maxLen at hs; omega
 clear hs; obtain ⟨R, hR⟩ : ∃ R, R = parseP s.data.toList := ⟨_, rfl⟩; rw [← hR]; have HR := zz hR; clear hR; go_enter Tryz.func68, Tryz.ntmps68; go_upto_region 1 with fail; obtain ⟨R2, hR2⟩ : ∃ R2, R2 = w.heap.size := ⟨_, rfl⟩
 refine at_hide (F := fun w' => PW w w' R2 (R2 + 2) ∧ w'.heap.size = R2 + 2) ⟨⟨by
  rw [hR2]; exact Blk.alloc (Blk.made w [.slice none 0 0] _) _, by
  rw [hR2]; have := Blk.made (w.alloc (.cells [.slice none 0 0].toArray 26)) [.int .i64 0, .int .i64 0] 97; simpa using this, below_and (below_alloc _ _) (below_alloc _ _)⟩, by rw [hR2]; simp⟩ ?_
 intro w1 hF; have HP1 := zz hF.1; have HZ1 := zz hF.2; rw [← hR2]; have HR2 : Hid (w.heap.size ≤ R2) := zz (by omega); have HRW : Hid (R2 = w.heap.size) := zz hR2; clear hF hR2
 by_cases hlong : 1024 < s.size
 ·have HP : Hid (∃ x, R = .error x) := zz ⟨_, by rw [HR.o]; exact parse_long (by rw [list_size]; exact hlong)⟩
  have x2 := HP1.o.x2.cell (j := 0) rfl; have f2 := HP1.o.x2.free 0; have x3 := HP1.o.x3.cell (j := 0) rfl; have f3 := HP1.o.x3.free 0; have x4 := HP1.o.x3.cell (j := 1) rfl; have f4 := HP1.o.x3.free 1; go_wp2; refine ret_cells rfl rfl rfl (((HP1.o.x2.set 0 _).other (a := ⟨R2 + 1, 0, none⟩) (by simp) _).other (a := ⟨R2 + 1, 1, none⟩) (by simp) _) Tryz.underlying26 rfl size_rule rfl (((HP1.o.x3.other (a := ⟨R2, 0, none⟩) (by simp) _).set 0 _).set 1 _) Tryz.underlying97 rfl size_fault ?_; exact DParS.bad HP.o (by decide) (((HP1.o.hb.setCell (by have := HR2.o; simp; omega) _).setCell (by have := HR2.o; simp; omega) _).setCell (by have := HR2.o; simp; omega) _)
 have hsz : s.size ≤ 1024 := by omega
 clear hlong; obtain ⟨b, hb⟩ : ∃ b, b = R2 + 2 := ⟨_, rfl⟩; have HBB := zz hb; go_upto_region 4 with fail
 refine at_hide (F := fun w' => PW w w' R2 b ∧ Dp b w' b s 0 (.slice none 0 0) [] false 0 0 ((0 : Nat) : Int)) ⟨HP1.o |> fun h => ⟨h.x2.alloc _, h.x3.alloc _, below_and h.hb (below_alloc _ _)⟩, ⟨by
  have := Blk.made w1 [.string s, .int .i64 0, .slice none 0 0, .int .i64 0, .int .i64 0, .bool false, .int .i64 0] 123; rw [HZ1.o, ← hb] at this; exact this, World.ownsRow_nil _ _ _ _, Nat.le_refl _, hsz, fun h9 => by (cases h9), by simp⟩⟩ ?_
 rw [HZ1.o, ← hb]; intro w2 hF; have HP2 := zz hF.1; have HQ2 := zz hF.2; clear hF hb; have HC : Hid (Calls Tryz.prog 92 #[ptr b, .int .i64 0] w2 fun r w' => DOut b w2 w' b s 0 false 0 (orP s.size (s.size + 1) 0 ⟨0, [], rest s 0⟩) r) := zz (dor_any b b s (s.size + 1) (Nat.le_refl _) 0 (by omega) 0 0 _ [] false _ _ w2 HQ2.o (by omega) (by omega) (by omega) (fun _ => ⟨by simp, by omega⟩) (Nat.le_of_lt HQ2.o.blk.lt)); have HNX : Hid (∀ wa wb, PW w wa R2 b → Below b wa wb → PW w wb R2 b) := zz (fun wa wb hp hb => hp.next hb (by have := HBB.o; omega) (by have := HBB.o; have := HRW.o; omega)); have hne1 : b ≠ R2 := by have := HBB.o; omega
 have hne2 : b ≠ R2 + 1 := by have := HBB.o; omega
 go_upto_region 5 with (go_at_call 92; refine HC.o.mono ?_; rintro r w3 ⟨j, k, v, L, bd, n, rfl, hq3, hb3, hg3, hx3⟩; have HQ3 := zz hq3; have HP3 := zz (HNX.o _ _ HP2.o hb3); have HG3 := zz hg3; have HX3 := zz hx3; clear hq3 hb3 hg3 hx3); obtain ⟨e, a, h3⟩ := HQ3.o; have H3 := zz h3; clear h3 HQ3 HC HP2 HQ2; have c5 := H3.o.blk.cell (j := 5) rfl; cases bd; rotate_left
 ·obtain ⟨z1, z2, z3⟩ := HX3.o rfl
  have HRE : Hid (∃ x, R = .error x) := zz (by rw [HR.o]; exact dead_parse hsz (z1 (by first | rfl | trivial))); clear z1 z2 z3 HG3 HX3; go_upto_region 7 with fail; have p5 : ∀ q : Past w3, q.val.cell? ⟨b, 5, none⟩ = some (.bool true) := Past.blk H3.o.blk (j := 5) rfl; refine wp_region_past (by kernel_rfl) (by kernel_rfl) ?_
  repeat (go_big_quiet_step (fail))
  refine wpQuiet_past ?_; intro wx h9; have HPX := zz (HNX.o _ _ HP3.o (h9.mono (Nat.le_of_lt H3.o.blk.lt))); have HX := zz (H3.o.kept h9); clear h9 p5; have d5 := HX.o.blk.cell (j := 5) rfl; obtain ⟨-, -, -, d3, d4⟩ := cl5 HX.o.blk; go_upto_region 10 with fail; have x2 := HPX.o.x2.cell (j := 0) rfl; have f2 := HPX.o.x2.free 0; have x3 := HPX.o.x3.cell (j := 0) rfl; have f3 := HPX.o.x3.free 0; have x4 := HPX.o.x3.cell (j := 1) rfl; have f4 := HPX.o.x3.free 1
  go_region
  go_wp2; refine ret_cells (w := World.drew _) rfl rfl rfl (Blk.kept (((HPX.o.x2.set 0 (.slice none 0 0)).other (a := ⟨R2 + 1, 0, none⟩) (by simp) (.int .i64 e)).other (a := ⟨R2 + 1, 1, none⟩) (by simp) (.int .i64 a)) (below_drewN 1)) Tryz.underlying26 rfl size_rule rfl (Blk.kept (((HPX.o.x3.other (a := ⟨R2, 0, none⟩) (by simp) (.slice none 0 0)).set 0 (.int .i64 e)).set 1 (.int .i64 a)) (below_drewN 1)) Tryz.underlying97 rfl size_fault ?_; exact DParS.bad HRE.o (HX.o.er rfl) (Below.drewN' (((HPX.o.hb.setCell (by have := HR2.o; simp; omega) _).setCell (by have := HR2.o; simp; omega) _).setCell (by have := HR2.o; simp; omega) _) 1)
 obtain ⟨-, hks, hor⟩ := HG3.o rfl; have HOR := zz hor; have HPK := zz (dpeek_any H3.o hks); obtain ⟨hk0, hk1s, -, -, -⟩ := skip_is hks; have HMO : Hid (skip s k < s.size → ∃ x, R = .error x) := zz (fun h9 => ⟨_, by rw [HR.o]; exact parse_more hsz hor rfl hks h9⟩); have HMI : Hid (¬ skip s k < s.size → Mid s L 0 0) := zz (fun h9 => parse_mid hsz hor rfl hks h9); have HE0 : Hid (¬ skip s k < s.size → pkB s k = 0) := zz (fun h9 => pkB_end hks h9); obtain ⟨k1, hk1⟩ : ∃ k1, k1 = skip s k := ⟨_, rfl⟩; obtain ⟨pk, hpk⟩ : ∃ pk, pk = pkB s k := ⟨_, rfl⟩; rw [← hk1] at HMO HMI HE0 hk1s; rw [← hk1, ← hpk] at HPK; rw [← hpk] at HE0; clear hk1 hpk hor HG3 HX3 hks hk0; have PKX : Hid (∀ wx, Dp b wx b s k1 v L false e a (n : Int) → wx.cell? ⟨b, 5, none⟩ = some (.bool false) ∧ wx.cell? ⟨b, 1, none⟩ = some (.int .i64 (k1 : Int))) := zz (fun wx h => ⟨h.blk.cell (j := 5) rfl, h.blk.cell (j := 1) rfl⟩)
 by_cases hlt : k1 < s.size
 ·have HRE := zz (HMO.o hlt)
  have i1 : decide ((k1 : Int) < (s.size : Int)) = true := by simp; omega
  have i1' : decide (k1 < s.size) = true := by simp; omega
  clear HMO HMI HE0 hlt
  by_cases hp : pk = 0
  ·subst hp
   go_upto_region 7 with (first | (go_at_call 93; refine HPK.o.mono ?_; rintro r w4 ⟨rfl, hx, hf⟩; have H4 := zz hx; have HP4 := zz (HNX.o _ _ HP3.o (onb_below hf (Nat.le_refl _) (Nat.le_of_lt H3.o.blk.lt))); obtain ⟨y5, y1⟩ := PKX.o _ hx; clear hx hf) | (go_at_call 94; refine (dfail_any H4.o 5 _ (by decide)).mono ?_; rintro r w5 ⟨rfl, hx, hf⟩; have HQ5 := zz hx; have HP5 := zz (HNX.o _ _ HP4.o (onb_below hf (Nat.le_refl _) (Nat.le_of_lt H4.o.blk.lt))); clear hx hf)); clear c5 y5 y1; obtain ⟨e5, a5, h5⟩ := HQ5.o; have H5 := zz h5; clear h5 HQ5; have p5 : ∀ q : Past w5, q.val.cell? ⟨b, 5, none⟩ = some (.bool true) := Past.blk H5.o.blk (j := 5) rfl; refine wp_region_past (by kernel_rfl) (by kernel_rfl) ?_
   repeat (go_big_quiet_step (fail))
   refine wpQuiet_past ?_; intro wx h9; have HPX := zz (HNX.o _ _ HP5.o (h9.mono (Nat.le_of_lt H5.o.blk.lt))); have HX := zz (H5.o.kept h9); clear h9 p5; have d5 := HX.o.blk.cell (j := 5) rfl; obtain ⟨-, -, -, d3, d4⟩ := cl5 HX.o.blk; go_upto_region 10 with fail; have x2 := HPX.o.x2.cell (j := 0) rfl; have f2 := HPX.o.x2.free 0; have x3 := HPX.o.x3.cell (j := 0) rfl; have f3 := HPX.o.x3.free 0; have x4 := HPX.o.x3.cell (j := 1) rfl; have f4 := HPX.o.x3.free 1
   go_region
   go_wp2; refine ret_cells (w := World.drew _) rfl rfl rfl (Blk.kept (((HPX.o.x2.set 0 (.slice none 0 0)).other (a := ⟨R2 + 1, 0, none⟩) (by simp) (.int .i64 e5)).other (a := ⟨R2 + 1, 1, none⟩) (by simp) (.int .i64 a5)) (below_drewN 1)) Tryz.underlying26 rfl size_rule rfl (Blk.kept (((HPX.o.x3.other (a := ⟨R2, 0, none⟩) (by simp) (.slice none 0 0)).set 0 (.int .i64 e5)).set 1 (.int .i64 a5)) (below_drewN 1)) Tryz.underlying97 rfl size_fault ?_; exact DParS.bad HRE.o (HX.o.er rfl) (Below.drewN' (((HPX.o.hb.setCell (by have := HR2.o; simp; omega) _).setCell (by have := HR2.o; simp; omega) _).setCell (by have := HR2.o; simp; omega) _) 1)
  have t0 : (pk != 0) = true := by simpa using hp
  go_upto_region 7 with (first | (go_at_call 93; refine HPK.o.mono ?_; rintro r w4 ⟨rfl, hx, hf⟩; have H4 := zz hx; have HP4 := zz (HNX.o _ _ HP3.o (onb_below hf (Nat.le_refl _) (Nat.le_of_lt H3.o.blk.lt))); obtain ⟨y5, y1⟩ := PKX.o _ hx; clear hx hf) | (go_at_call 94; refine (dfail_any H4.o 5 _ (by decide)).mono ?_; rintro r w5 ⟨rfl, hx, hf⟩; have HQ5 := zz hx; have HP5 := zz (HNX.o _ _ HP4.o (onb_below hf (Nat.le_refl _) (Nat.le_of_lt H4.o.blk.lt))); clear hx hf)); clear c5 y5 y1; obtain ⟨e5, a5, h5⟩ := HQ5.o; have H5 := zz h5; clear h5 HQ5; have p5 : ∀ q : Past w5, q.val.cell? ⟨b, 5, none⟩ = some (.bool true) := Past.blk H5.o.blk (j := 5) rfl; refine wp_region_past (by kernel_rfl) (by kernel_rfl) ?_
  repeat (go_big_quiet_step (fail))
  refine wpQuiet_past ?_; intro wx h9; have HPX := zz (HNX.o _ _ HP5.o (h9.mono (Nat.le_of_lt H5.o.blk.lt))); have HX := zz (H5.o.kept h9); clear h9 p5; have d5 := HX.o.blk.cell (j := 5) rfl; obtain ⟨-, -, -, d3, d4⟩ := cl5 HX.o.blk; go_upto_region 10 with fail; have x2 := HPX.o.x2.cell (j := 0) rfl; have f2 := HPX.o.x2.free 0; have x3 := HPX.o.x3.cell (j := 0) rfl; have f3 := HPX.o.x3.free 0; have x4 := HPX.o.x3.cell (j := 1) rfl; have f4 := HPX.o.x3.free 1
  go_region
  go_wp2; refine ret_cells (w := World.drew _) rfl rfl rfl (Blk.kept (((HPX.o.x2.set 0 (.slice none 0 0)).other (a := ⟨R2 + 1, 0, none⟩) (by simp) (.int .i64 e5)).other (a := ⟨R2 + 1, 1, none⟩) (by simp) (.int .i64 a5)) (below_drewN 1)) Tryz.underlying26 rfl size_rule rfl (Blk.kept (((HPX.o.x3.other (a := ⟨R2, 0, none⟩) (by simp) (.slice none 0 0)).set 0 (.int .i64 e5)).set 1 (.int .i64 a5)) (below_drewN 1)) Tryz.underlying97 rfl size_fault ?_; exact DParS.bad HRE.o (HX.o.er rfl) (Below.drewN' (((HPX.o.hb.setCell (by have := HR2.o; simp; omega) _).setCell (by have := HR2.o; simp; omega) _).setCell (by have := HR2.o; simp; omega) _) 1)
 obtain rfl : pk = 0 := HE0.o hlt; have HM := zz (HMI.o hlt); have i1 : decide ((k1 : Int) < (s.size : Int)) = false := by simp; omega
 have i1' : decide (k1 < s.size) = false := by simp; omega
 clear HMO HMI HE0 hlt; go_upto_region 7 with (go_at_call 93; refine HPK.o.mono ?_; rintro r w4 ⟨rfl, hx, hf⟩; have H4 := zz hx; have HP4 := zz (HNX.o _ _ HP3.o (onb_below hf (Nat.le_refl _) (Nat.le_of_lt H3.o.blk.lt))); obtain ⟨y5, y1⟩ := PKX.o _ hx; clear hx hf); clear c5 y5 y1 HPK; rcases HM.o with ⟨h9, -⟩ | ⟨-, -, t, ht1, ht2, hL3, hpp⟩
 ·exact absurd rfl h9
 have HPP := zz hpp; have HTD := zz (flat_dtold t ht1 ht2 (i := L.length - 1) (by have := t.size_pos; rw [hL3, t.flat_len]; omega)); obtain ⟨gf, g1, g2, g3⟩ := flat_fine t ht1 ht2; have HLN : Hid (1 ≤ L.length ∧ L.length ≤ 64) := zz (by rw [hL3]; exact ⟨g2, g3⟩); have HTL : Hid (toldA L = tl L (L.length - 1)) := zz (by rw [hL3]; exact toldA_tl gf g2); have HLG : Hid ((tl L (L.length - 1)).length ≤ 1000000000000000000) := zz (by rw [hL3]; exact told_long gf g1 g3 (flat_fit t ht1) (by omega)); rw [← hL3] at HTD; clear hpp hL3 ht1 ht2 gf g1 g2 g3 HM; obtain ⟨p3, c3, hv3, -, -, hrow⟩ := row_own H4.o.own (rwC_one ndC_one L); subst hv3; have HROW := zz hrow; clear hrow; obtain ⟨m, hm⟩ : ∃ m : Nat, m = L.length - 1 := ⟨_, rfl⟩; have HMM : Hid (m + 1 = L.length) := zz (by have := HLN.o; omega); rw [← hm] at HTD HTL HLG; obtain ⟨S, hS⟩ : ∃ S, S = bs (tl L m) := ⟨_, rfl⟩; have HSZ : Hid (S.size = (toldA L).length) := zz (by rw [hS, bs_size, HTL.o]); have hSB : (S.size : Int) ≤ 1000000000000000000 := by have h1 := HSZ.o; have h2 := HLG.o; rw [HTL.o] at h1; omega
 have HTC : Hid (∀ q : Past w4, Calls Tryz.prog 69 #[.slice p3 L.length c3, .int .i64 (m : Int), .int .i64 0] q.val fun r w' => r = .returned (.string S) ∧ Below q.val.heap.size q.val w') := zz (fun q => by
  have := HTD.o _ q.val 0 (by omega) (HROW.o.below q.h); rw [par_zero] at this; rw [hS]
  exact this)
 have p2 : ∀ q : Past w4, q.val.cell? ⟨b, 2, none⟩ = some (.slice p3 L.length c3) := Past.blk H4.o.blk (j := 2) rfl; have p5 : ∀ q : Past w4, q.val.cell? ⟨b, 5, none⟩ = some (.bool false) := Past.blk H4.o.blk (j := 5) rfl; have u1 : IntKind.i64.wrap ((L.length : Int) - 1) = (m : Int) := by rw [IntKind.wrap_i64]; have := HMM.o; have := HLN.o; omega
 have hL64 : (L.length : Int) ≤ 64 := by have := HLN.o; omega
 clear hS hm HTD
 by_cases hlen : 1024 < S.size
 ·have HRE : Hid (∃ x, R = .error x) := zz ⟨_, by rw [HR.o, HPP.o, if_pos (by rw [← HSZ.o]; exact hlen)]⟩
  have t2 : decide ((1024 : Int) < (S.size : Int)) = true := by simp; omega
  clear HPP HSZ HTL HLG hlen; refine wp_region_past (by kernel_rfl) (by kernel_rfl) ?_
  repeat (go_big_quiet_step ((go_at_call 69; exact past_call (HTC.o _))))
  refine wpQuiet_past ?_; intro w6 h9; have H6 := zz (H4.o.kept h9); have HP6 := zz (HNX.o _ _ HP4.o (h9.mono (Nat.le_of_lt H4.o.blk.lt))); clear h9 p2 p5; go_upto_region 9 with (go_at_call 94; refine (dfail_any H6.o 3 _ (by decide)).mono ?_; rintro r w7 ⟨rfl, hx, hf⟩; have HQ7 := zz hx; have HP7 := zz (HNX.o _ _ HP6.o (onb_below hf (Nat.le_refl _) (Nat.le_of_lt H6.o.blk.lt))); clear hx hf); obtain ⟨e7, a7, h7⟩ := HQ7.o; have H7 := zz h7; clear h7 HQ7; have d5 := H7.o.blk.cell (j := 5) rfl; obtain ⟨-, -, -, d3, d4⟩ := cl5 H7.o.blk; go_upto_region 10 with fail; have x2 := HP7.o.x2.cell (j := 0) rfl; have f2 := HP7.o.x2.free 0; have x3 := HP7.o.x3.cell (j := 0) rfl; have f3 := HP7.o.x3.free 0; have x4 := HP7.o.x3.cell (j := 1) rfl; have f4 := HP7.o.x3.free 1
  go_region
  go_wp2; refine ret_cells (w := World.drew _) rfl rfl rfl (Blk.kept (((HP7.o.x2.set 0 (.slice none 0 0)).other (a := ⟨R2 + 1, 0, none⟩) (by simp) (.int .i64 e7)).other (a := ⟨R2 + 1, 1, none⟩) (by simp) (.int .i64 a7)) (below_drewN 1)) Tryz.underlying26 rfl size_rule rfl (Blk.kept (((HP7.o.x3.other (a := ⟨R2, 0, none⟩) (by simp) (.slice none 0 0)).set 0 (.int .i64 e7)).set 1 (.int .i64 a7)) (below_drewN 1)) Tryz.underlying97 rfl size_fault ?_; exact DParS.bad HRE.o (H7.o.er rfl) (Below.drewN' (((HP7.o.hb.setCell (by have := HR2.o; simp; omega) _).setCell (by have := HR2.o; simp; omega) _).setCell (by have := HR2.o; simp; omega) _) 1)
 ·have HRO : Hid (R = .ok L) := zz (by rw [HR.o, HPP.o, if_neg (by rw [← HSZ.o]; exact hlen)])
  have t2 : decide ((1024 : Int) < (S.size : Int)) = false := by simp; omega
  clear HPP HSZ HTL HLG hlen; refine wp_region_past (by kernel_rfl) (by kernel_rfl) ?_
  repeat (go_big_quiet_step ((go_at_call 69; exact past_call (HTC.o _))))
  refine wpQuiet_past ?_; intro w6 h9; have H6 := zz (H4.o.kept h9); have HP6 := zz (HNX.o _ _ HP4.o (h9.mono (Nat.le_of_lt H4.o.blk.lt))); clear h9 p2 p5; go_upto_region 9 with fail; have d5 := H6.o.blk.cell (j := 5) rfl; have d2 := H6.o.blk.cell (j := 2) rfl; have x2 := HP6.o.x2.cell (j := 0) rfl; have f2 := HP6.o.x2.free 0; have x3 := HP6.o.x3.cell (j := 0) rfl; have f3 := HP6.o.x3.free 0; have x4 := HP6.o.x3.cell (j := 1) rfl; have f4 := HP6.o.x3.free 1; have HOW : Hid (w6.ownsRow w.heap.size 69 6 (.slice p3 L.length c3) L.length (rwC ndC L)) := zz (own_lower H6.o.own (by have := HBB.o; have := HRW.o; omega)); have HOB : Hid (∀ g, (Value.slice p3 L.length c3).ownBlock = some g → b ≤ g) := zz (fun g hg => (H6.o.own.lt g hg).1); go_wp2; refine ret_cells rfl rfl rfl (((HP6.o.x2.set 0 _).other (a := ⟨R2 + 1, 0, none⟩) (by simp) _).other (a := ⟨R2 + 1, 1, none⟩) (by simp) _) Tryz.underlying26 rfl size_rule rfl (((HP6.o.x3.other (a := ⟨R2, 0, none⟩) (by simp) _).set 0 _).set 1 _) Tryz.underlying97 rfl size_fault ?_; rw [HRO.o]; refine ⟨⟨_, rfl, ?_⟩, ((HP6.o.hb.setCell (by have := HR2.o; simp; omega) _).setCell (by have := HR2.o; simp; omega) _).setCell (by have := HR2.o; simp; omega) _⟩
  have hb2 := HBB.o; refine own_other (own_other (own_other HOW.o (p := ⟨R2, 0, none⟩) (fun h => by have := HOB.o _ h; simp at this; omega) _) (p := ⟨R2 + 1, 0, none⟩) (fun h => by have := HOB.o _ h; simp at this; omega) _) (p := ⟨R2 + 1, 1, none⟩) (fun h => by have := HOB.o _ h; simp at this; omega) _
def Ahd (L : List Nd) : Prop := ∀ (i : Nat) (n : Nd), L[i]? = some n → n.a < (i : Int) ∧ n.b < (i : Int)
theorem siz_fuel {L : List Nd} (hf : Ahd L) : ∀ (F F' i : Nat), i < F → i < F' → sizF L F i = sizF L F' i
 | 0, _, i, h, _ => absurd h (by omega)
 | _ + 1, 0, i, _, h => absurd h (by omega)
 | F + 1, F' + 1, i, h, h' => by
  unfold sizF
  cases hi : L[i]? with
  | none => rfl
  | some n =>
   obtain ⟨h1, h2⟩ := hf i n hi
   have ea : (if 0 ≤ n.a then sizF L F n.a.toNat else 0) = (if 0 ≤ n.a then sizF L F' n.a.toNat else 0) := by
    by_cases g : 0 ≤ n.a
    ·rw [if_pos g, if_pos g, siz_fuel hf F F' n.a.toNat (by omega) (by omega)]
    ·rw [if_neg g, if_neg g]
   simp only
   rw [ea]
   by_cases g : 0 ≤ n.b ∧ 1 + (if 0 ≤ n.a then sizF L F' n.a.toNat else 0) ≤ 64
   ·rw [if_pos g, if_pos g, siz_fuel hf F F' n.b.toNat (by omega) (by omega)]
   ·rw [if_neg g, if_neg g]
theorem sizF_le (L : List Nd) : ∀ F i, sizF L F i ≤ 64 * F + 1
 | 0, _ => Nat.le_refl _
 | F + 1, i => by
  unfold sizF
  split
  ·omega
  ·next n _ =>
   have ea : (if 0 ≤ n.a then sizF L F n.a.toNat else 0) ≤ 64 * F + 1 := by
    by_cases g : 0 ≤ n.a
    ·rw [if_pos g]; exact sizF_le L F _
    ·rw [if_neg g]; omega
   have eb := sizF_le L F n.b.toNat; obtain ⟨A, hA⟩ : ∃ A, A = (if 0 ≤ n.a then sizF L F n.a.toNat else 0) := ⟨_, rfl⟩; rw [← hA] at ea ⊢
   by_cases g : 0 ≤ n.b ∧ 1 + A ≤ 64
   ·rw [if_pos g]; omega
   ·rw [if_neg g]; omega
theorem siz_eq {L : List Nd} (hf : Ahd L) {i : Nat} {n : Nd} (hi : L[i]? = some n) : siz L i =
  if 0 ≤ n.b ∧ 1 + (if 0 ≤ n.a then siz L n.a.toNat else 0) ≤ 64 then 1 + (if 0 ≤ n.a then siz L n.a.toNat else 0) + siz L n.b.toNat else 1 + (if 0 ≤ n.a then siz L n.a.toNat else 0) := by
 obtain ⟨h1, h2⟩ := hf i n hi
 conv => lhs; unfold siz sizF
 rw [hi]
 simp only
 have ea : (if 0 ≤ n.a then sizF L i n.a.toNat else 0) = (if 0 ≤ n.a then siz L n.a.toNat else 0) := by
  by_cases g : 0 ≤ n.a
  ·rw [if_pos g, if_pos g, siz_fuel hf i (n.a.toNat + 1) n.a.toNat (by omega) (by omega)]; rfl
  ·rw [if_neg g, if_neg g]
 rw [ea]
 by_cases g : 0 ≤ n.b ∧ 1 + (if 0 ≤ n.a then siz L n.a.toNat else 0) ≤ 64
 ·rw [if_pos g, if_pos g, siz_fuel hf i (n.b.toNat + 1) n.b.toNat (by omega) (by omega)]; rfl
 ·rw [if_neg g, if_neg g]
def DSize (L : List Nd) (i : Nat) : Prop :=
 ∀ (v : Value) (w : World), Row w v 6 L.length (rwC ndC L) → Calls Tryz.prog 67 #[v, .int .i64 (i : Int)] w fun r w' => r = .returned (.int .i64 (siz L i : Int)) ∧ w = w'
theorem dsize_step (L : List Nd) (hf : Ahd L) (i : Nat) (hi : i < L.length) (hl : L.length ≤ 64) (ih : ∀ j, j < i → DSize L j) : DSize L i := by
 unfold DSize
 intro v w hr; have HR := zz hr; obtain ⟨n, hn⟩ : ∃ n, n = L[i] := ⟨_, rfl⟩; obtain ⟨p, c, rfl, h1, h2, h3, h4, h5, h6⟩ := hr
 have HLC : Hid (∃ b o, p = some ⟨b, o, none⟩ ∧ ∀ j u, (ndC n)[j]? = some u → w.cell? ⟨b, o + i * 6 + j, none⟩ = some u) := zz (by
  rcases h6 with h6 | ⟨b, o, hp, ha⟩
  ·rw [h6] at h3; simp at h3; omega
  ·refine ⟨b, o, hp, fun j u hj => ?_⟩
   rw [Nat.add_assoc]; refine ha (i * 6 + j) u ?_
   have hj6 : j < 6 := by
    have := (List.getElem?_eq_some_iff.1 hj).1
    rwa [ndC_len] at this
   rw [rwC_at (c := ndC) (k := 6) (fun _ => rfl) hi hj6, ← hn]
   exact hj)
 obtain ⟨b, o, rfl, hcell⟩ := HLC.o; have q4 := hcell 4 _ rfl; have q5 := hcell 5 _ rfl; have i0 : (0 : Int) ≤ (i : Int) := by omega
 have i1 : (i : Int) < (L.length : Int) := by omega
 have HEQ := zz (siz_eq hf (List.getElem?_eq_getElem hi)); have HAH := zz (hf i _ (List.getElem?_eq_getElem hi)); rw [← hn] at HEQ HAH; obtain ⟨S, hS⟩ : ∃ S, S = siz L i := ⟨_, rfl⟩; rw [← hS] at HEQ ⊢; have HBD : Hid (∀ j, j < 64 → siz L j ≤ 4161) := zz (fun j hj => by have := sizF_le L (j + 1) j; unfold siz; omega); clear h1 h2 h3 h4 h5 h6 HLC hcell hn hS; obtain ⟨k, nm, vl, x, na, nb⟩ := n; simp only at q4 q5 HEQ HAH
 by_cases ha : 0 ≤ na
 ·have ta : decide ((0 : Int) ≤ na) = true := by simpa using ha
  have hai := HAH.o.1; obtain ⟨ja, hja⟩ : ∃ ja : Nat, na = (ja : Int) := ⟨na.toNat, by omega⟩; subst hja; have hja2 : ja < i := by omega
  have HCA := zz (fun w hr => ih ja hja2 (.slice (some ⟨b, o, none⟩) L.length c) w hr); have HA2 := HBD.o ja (by omega); have HEA : Hid ((if 0 ≤ (ja : Int) then siz L (ja : Int).toNat else 0) = siz L ja) := zz (by rw [if_pos ha]; simp); obtain ⟨A, hA⟩ : ∃ A, A = siz L ja := ⟨_, rfl⟩; rw [← hA] at HCA HA2 HEA; have u1 : IntKind.i64.wrap ((1 : Int) + (A : Int)) = (1 : Int) + (A : Int) := by rw [IntKind.wrap_i64]; omega
  clear hA ha hai hja2; go_enter Tryz.func67, Tryz.ntmps67
  by_cases hb : 0 ≤ nb
  ·have tb : decide ((0 : Int) ≤ nb) = true := by simpa using hb
   by_cases h64 : 1 + A ≤ 64
   ·have t6 : decide ((1 : Int) + (A : Nat) ≤ 64) = true := by first | (simp; omega) | simp
    have t6' : decide (1 + A ≤ 64) = true := by first | (simp; omega) | simp
    have hbi := HAH.o.2; obtain ⟨jb, hjb⟩ : ∃ jb : Nat, nb = (jb : Int) := ⟨nb.toNat, by omega⟩; subst hjb; have hjb2 : jb < i := by omega
    have HCB := zz (fun w hr => ih jb hjb2 (.slice (some ⟨b, o, none⟩) L.length c) w hr); have HS : Hid (S = 1 + A + siz L jb) := zz (by rw [HEQ.o]; rw [HEA.o]; rw [if_pos ⟨hb, h64⟩]; simp); have HB2 := HBD.o jb (by omega); obtain ⟨B, hB⟩ : ∃ B, B = siz L jb := ⟨_, rfl⟩; rw [← hB] at HS HCB HB2; have u2 : IntKind.i64.wrap ((1 : Int) + (A : Nat) + (B : Int)) = (1 : Int) + (A : Nat) + (B : Int) := by rw [IntKind.wrap_i64]; omega
    clear hB hb h64 hbi hjb2 ih HEQ HAH HBD; go_upto_region 4 with (go_at_call 67; refine (HCA.o w HR.o).mono ?_; rintro r w3 ⟨rfl, rfl⟩); go_wp2_with (go_at_call 67; refine (HCB.o w HR.o).mono ?_; rintro r w3 ⟨rfl, rfl⟩); go_ret; exact ⟨by rw [HS.o]; push_cast; rfl, rfl⟩
   ·have t6 : decide ((1 : Int) + (A : Nat) ≤ 64) = false := by first | (simp; omega) | simp | omega
    have t6' : decide (1 + A ≤ 64) = false := by first | (simp; omega) | simp | omega
    have HS : Hid (S = 1 + A) := zz (by rw [HEQ.o]; rw [HEA.o]; rw [if_neg (fun g => h64 g.2)]); clear hb h64 ih HEQ HAH HBD; go_wp2_with (go_at_call 67; refine (HCA.o w HR.o).mono ?_; rintro r w3 ⟨rfl, rfl⟩); go_ret; exact ⟨by rw [HS.o]; push_cast; rfl, rfl⟩
  ·have tb : decide ((0 : Int) ≤ nb) = false := by simpa using hb
   have HS : Hid (S = 1 + A) := zz (by rw [HEQ.o]; rw [HEA.o]; rw [if_neg (fun g => hb g.1)]); clear hb ih HEQ HAH HBD; go_wp2_with (go_at_call 67; refine (HCA.o w HR.o).mono ?_; rintro r w3 ⟨rfl, rfl⟩); go_ret; exact ⟨by rw [HS.o]; push_cast; rfl, rfl⟩
 have ta : decide ((0 : Int) ≤ na) = false := by simpa using ha
 have HEA : Hid ((if 0 ≤ na then siz L na.toNat else 0) = 0) := zz (if_neg ha); clear ha; go_enter Tryz.func67, Tryz.ntmps67
 by_cases hb : 0 ≤ nb
 ·have tb : decide ((0 : Int) ≤ nb) = true := by simpa using hb
  by_cases h64 : 1 + 0 ≤ 64
  ·have t6 : decide ((1 : Int) + (0 : Nat) ≤ 64) = true := by first | (simp; omega) | simp
   have t6' : decide (1 + 0 ≤ 64) = true := by first | (simp; omega) | simp
   have hbi := HAH.o.2; obtain ⟨jb, hjb⟩ : ∃ jb : Nat, nb = (jb : Int) := ⟨nb.toNat, by omega⟩; subst hjb; have hjb2 : jb < i := by omega
   have HCB := zz (fun w hr => ih jb hjb2 (.slice (some ⟨b, o, none⟩) L.length c) w hr); have HS : Hid (S = 1 + 0 + siz L jb) := zz (by rw [HEQ.o]; rw [HEA.o]; rw [if_pos ⟨hb, h64⟩]; simp); have HB2 := HBD.o jb (by omega); obtain ⟨B, hB⟩ : ∃ B, B = siz L jb := ⟨_, rfl⟩; rw [← hB] at HS HCB HB2; have u2 : IntKind.i64.wrap ((1 : Int) + (0 : Nat) + (B : Int)) = (1 : Int) + (0 : Nat) + (B : Int) := by rw [IntKind.wrap_i64]; omega
   clear hB hb h64 hbi hjb2 ih HEQ HAH HBD; go_wp2_with (go_at_call 67; refine (HCB.o w HR.o).mono ?_; rintro r w3 ⟨rfl, rfl⟩); go_ret; exact ⟨by rw [HS.o]; push_cast; rfl, rfl⟩
  ·exact absurd (by omega) h64
 ·have tb : decide ((0 : Int) ≤ nb) = false := by simpa using hb
  have HS : Hid (S = 1 + 0) := zz (by rw [HEQ.o]; rw [HEA.o]; rw [if_neg (fun g => hb g.1)]); clear hb ih HEQ HAH HBD; go_wp2; go_ret; exact ⟨by rw [HS.o]; push_cast; rfl, rfl⟩
theorem dsize_any {L : List Nd} (hf : Ahd L) (hl : L.length ≤ 64) : ∀ (m i : Nat), i < m → i < L.length → DSize L i
 | 0, _, h, _ => absurd h (by omega)
 | m + 1, i, h, hi => dsize_step L hf i hi hl (fun j hj => dsize_any hf hl m j (by omega) (by omega))
end Go.Proofs.YtdemkfhkibmbnaaGreatDoor.Ru
namespace Go.Proofs.YtdemkfhkibmbnaaGreatDoor.Ru
theorem specM_len {m : Nat} {l : List UInt8} (h : specM m l = true) : l.length ≤ m := by
 unfold specM at h
 simp only [Bool.and_eq_true, decide_eq_true_eq] at h; exact h.1.1.2
theorem attrN_len {l : List UInt8} (h : attrN l = true) : l.length ≤ 24 := by
 unfold attrN at h
 rw [Bool.and_eq_true] at h; exact specM_len h.1
theorem wrdB_len {l : List UInt8} (h : wrdB l = true) : l.length ≤ 32 := by
 unfold wrdB at h
 simp only [Bool.and_eq_true, decide_eq_true_eq] at h; exact h.2
theorem leafy_is {n : Nd} (h : leafyB n = true) : (1 ≤ n.k ∧ n.k ≤ 9) ∧ n.nm.length ≤ 24 ∧ n.vl.length ≤ 32 ∧ (n.k = 4 ∨ n.k = 5 → 0 ≤ n.x ∧ n.x ≤ 999999999999) := by
 unfold leafyB at h
 by_cases h1 : n.k = 1
 ·rw [if_pos h1] at h
  simp only [Bool.and_eq_true, decide_eq_true_eq] at h; exact ⟨by omega, by rw [h.1.1.2]; simp, by rw [h.1.2]; simp, fun g => by omega⟩
 rw [if_neg h1] at h
 by_cases h2 : n.k = 2 ∨ n.k = 3
 ·rw [if_pos h2] at h
  simp only [Bool.and_eq_true, decide_eq_true_eq] at h; exact ⟨by omega, attrN_len h.1.1.2, wrdB_len h.1.2, fun g => by omega⟩
 rw [if_neg h2] at h
 by_cases h4 : n.k = 4 ∨ n.k = 5
 ·rw [if_pos h4] at h
  simp only [Bool.and_eq_true, decide_eq_true_eq] at h; exact ⟨by omega, attrN_len h.1.1.1.2, by rw [h.1.1.2]; simp, fun _ => ⟨h.1.2, h.2⟩⟩
 rw [if_neg h4] at h
 by_cases h6 : n.k = 6
 ·rw [if_pos h6] at h
  simp only [Bool.and_eq_true, decide_eq_true_eq] at h; exact ⟨by omega, attrN_len h.1.1.2, by rw [h.1.2]; simp, fun g => by omega⟩
 rw [if_neg h6] at h
 by_cases h7 : n.k = 7
 ·rw [if_pos h7] at h
  simp only [Bool.and_eq_true, decide_eq_true_eq] at h; exact ⟨by omega, by rw [h.1.1.1]; simp, by rw [h.1.1.2]; simp, fun g => by omega⟩
 rw [if_neg h7] at h
 by_cases h8 : n.k = 8 ∨ n.k = 9
 ·rw [if_pos h8] at h
  simp only [Bool.and_eq_true, decide_eq_true_eq] at h; exact ⟨by omega, by rw [h.1.1]; simp, by rw [h.1.2]; simp, fun g => by omega⟩
 rw [if_neg h8] at h; cases h
theorem leafy_dn {n : Nd} (h : leafyB n = true) : Dn n := by
 obtain ⟨h1, h2, h3, h4⟩ := leafy_is h; exact ⟨h1, by omega, by omega, h4⟩
theorem dltx_len {n : Nd} (h : leafyB n = true) : (ltx n.k n.nm n.vl n.x).length ≤ 60 := by
 obtain ⟨h1, h2, h3, h4⟩ := leafy_is h
 unfold ltx
 by_cases k1 : n.k = 1
 ·rw [if_pos k1]; decide
 rw [if_neg k1]
 by_cases k2 : n.k = 2
 ·rw [if_pos k2]; simp; omega
 rw [if_neg k2]
 by_cases k3 : n.k = 3
 ·rw [if_pos k3]; simp; omega
 rw [if_neg k3]
 by_cases k4 : n.k = 4
 ·rw [if_pos k4]
  have := Lib.itoa_length_le n.x (by have := h4 (.inl k4); omega) (by have := h4 (.inl k4); omega)
  simp; omega
 rw [if_neg k4]
 by_cases k5 : n.k = 5
 ·rw [if_pos k5]
  have := Lib.itoa_length_le n.x (by have := h4 (.inr k5); omega) (by have := h4 (.inr k5); omega)
  simp; omega
 rw [if_neg k5]
 omega
theorem nodesC_ahd {L : List Nd} (h : nodesC L = true) : Ahd L := fun i n hi => by
 have h1 := nodesC_at h hi
 unfold nodeC at h1
 simp only [Bool.and_eq_true, decide_eq_true_eq] at h1; exact ⟨h1.1.1.1.1.2, h1.1.1.2⟩
theorem nodesC_leafy {L : List Nd} (h : nodesC L = true) {i : Nat} {n : Nd} (hi : L[i]? = some n) : leafyB n = true := by
 have h1 := nodesC_at h hi
 unfold nodeC at h1
 simp only [Bool.and_eq_true] at h1; exact h1.1.1.1.1.1.1
theorem dpar_le2 (b : Bool) (s : List UInt8) : (par b s).length ≤ s.length + 2 := by
 cases b
 ·show s.length ≤ _; omega
 ·rw [par_true]; simp
theorem tl_siz {L : List Nd} (hn : nodesC L = true) : ∀ (m i : Nat), i < m → i < L.length → siz L i ≤ 64 → (tl L i).length ≤ 100 * siz L i
 | 0, _, h, _, _ => absurd h (by omega)
 | m + 1, i, him, hi, hs => by
  have hf := nodesC_fine hn; have hg : L[i]? = some L[i] := List.getElem?_eq_getElem hi; obtain ⟨n, hN⟩ : ∃ n, n = L[i] := ⟨_, rfl⟩; rw [← hN] at hg; have hp := hf i n hg; have e := tl_eq hf hg; have es := siz_eq (nodesC_ahd hn) hg; have hl := dltx_len (nodesC_leafy hn hg)
  have s1 : 1 ≤ siz L i := by
   by_cases g : 0 ≤ n.b ∧ 1 + (if 0 ≤ n.a then siz L n.a.toNat else 0) ≤ 64
   ·rw [es, if_pos g, Nat.add_assoc]; exact Nat.le_add_right _ _
   ·rw [es, if_neg g]; exact Nat.le_add_right _ _
  rw [e]
  unfold parts at hp
  by_cases h7 : n.k = 7
  ·rw [if_pos h7] at hp ⊢
   obtain ⟨a0, a1⟩ := hp n.a (by simp); rw [if_pos a0] at es
   have hA : 1 + siz L n.a.toNat ≤ siz L i := by
    by_cases g : 0 ≤ n.b ∧ 1 + siz L n.a.toNat ≤ 64
    ·rw [es, if_pos g]; omega
    ·rw [es, if_neg g]; omega
   have ih := tl_siz hn m n.a.toNat (by omega) (by omega) (by omega); have := dpar_le2 (decide (tightK (kindAt L n.a.toNat) < 3)) (tl L n.a.toNat); simp only [List.length_cons]
   omega
  rw [if_neg h7] at hp ⊢
  by_cases h89 : n.k = 8 ∨ n.k = 9
  ·rw [if_pos h89] at hp
   obtain ⟨a0, a1⟩ := hp n.a (by simp); obtain ⟨b0, b1⟩ := hp n.b (by simp); rw [if_pos a0] at es
   have hAB : 1 + siz L n.a.toNat + siz L n.b.toNat ≤ siz L i := by
    by_cases g : 0 ≤ n.b ∧ 1 + siz L n.a.toNat ≤ 64
    ·rw [if_pos g] at es; omega
    ·rw [if_neg g] at es; exact absurd ⟨b0, by omega⟩ g
   have iha := tl_siz hn m n.a.toNat (by omega) (by omega) (by omega); have ihb := tl_siz hn m n.b.toNat (by omega) (by omega) (by omega)
   by_cases h8 : n.k = 8
   ·rw [if_pos h8]
    have p1 := dpar_le2 (decide (tightK (kindAt L n.a.toNat) < 2)) (tl L n.a.toNat); have p2 := dpar_le2 (decide (tightK (kindAt L n.b.toNat) < 3)) (tl L n.b.toNat); simp only [List.length_append, List.length_cons]
    omega
   ·rw [if_neg h8, if_pos (by omega)]
    have p1 := dpar_le2 (decide (tightK (kindAt L n.a.toNat) < 1)) (tl L n.a.toNat); have p2 := dpar_le2 (decide (tightK (kindAt L n.b.toNat) < 2)) (tl L n.b.toNat); simp only [List.length_append, List.length_cons]
    omega
  ·rw [if_neg (fun g => h89 (.inl g)), if_neg (fun g => h89 (.inr g))]
   omega
