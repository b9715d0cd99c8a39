/- RuParseP, RuParse. -/
import Derived.Test.YtdemkfhkibmbnaaGreatDoorM19
import Derived.Test.YtdemkfhkibmbnaaGreatDoorRuRet
set_option maxRecDepth 100000
set_option maxHeartbeats 8000000
namespace Go.Proofs.YtdemkfhkibmbnaaGreatDoor.Ru
open Go.RowKit Go.Proofs.YtdemkfhkibmbnaaGreatDoor
def ParsS (w w' : World) (R : Except (Int × Int) (List Nd)) (r : Ending) : Prop :=
 match R with
 | .error e => r = .returned (.tuple #[.agg #[.slice none 0 0], .agg #[.int .i64 e.1, .int .i64 e.2]]) ∧ Below w.heap.size w w'
 | .ok L => (∃ v, r = .returned (.tuple #[.agg #[v], .agg #[.int .i64 0, .int .i64 0]]) ∧ w'.ownsRow w.heap.size 69 6 v L.length (rwC ndC L)) ∧ Below w.heap.size w w'
theorem errB_of {w : World} (h : ErrV w) : ErrB w.heap.size w := by
 obtain ⟨tp, p, hv⟩ := h; refine ⟨⟨tp, p, hv⟩, ?_⟩
 unfold World.var? at hv
 cases hq : Tryz.prog.globalNamed "strconv.ErrSyntax" with
 | none => rw [hq] at hv; cases hv
 | some g =>
  refine ⟨g, rfl, ?_⟩; rw [hq] at hv; simp only [Option.bind_some] at hv; rcases Nat.lt_or_ge g w.heap.size with h' | h'
  ·exact h'
  ·rw [Array.getElem?_eq_none h'] at hv; cases hv
theorem ErrB.mono {b b' : Nat} {w : World} (h : ErrB b w) (hb : b ≤ b') : ErrB b' w := by
 obtain ⟨h1, g, h2, h3⟩ := h; exact ⟨h1, g, h2, by omega⟩
def Mid (s : ByteArray) (L : List Nd) (e a : Int) : Prop :=
 (e ≠ 0 ∧ parseP s.data.toList = .error (e, a)) ∨
 (e = 0 ∧ a = 0 ∧ ∃ t : Tr, t.ok ∧ t.size ≤ 64 ∧ L = t.flat 0 ∧ parseP s.data.toList = if 1024 < (toldA L).length then .error (3, -1) else .ok L)
def Mid2 (s : ByteArray) (L : List Nd) (e a : Int) : Prop :=
 (e ≠ 0 ∧ parseP s.data.toList = .error (e, a)) ∨ (e = 0 ∧ a = 0 ∧ parseP s.data.toList = .ok L)
theorem list_size (s : ByteArray) : s.data.toList.length = s.size := by simp
theorem rest0 (s : ByteArray) : rest s 0 = s.data.toList := rfl
section
variable {s : ByteArray}
theorem parse_err (hs : s.size ≤ 1024) {e : Int × Int} (h : orP s.size (s.size + 1) 0 ⟨0, [], rest s 0⟩ = .error e) : parseP s.data.toList = .error e ∧ e.1 ≠ 0 := by
 refine ⟨?_, ?_⟩
 ·unfold parseP
  rw [list_size, if_neg (by omega), ← rest0, h]
 ·exact (kp_or s.size (s.size + 1) 0 (by omega)).err 0 [] (rest s 0) e (by rw [rest_len]; omega) (by rw [rest_len]; omega) h
theorem parse_more (hs : s.size ≤ 1024) {q : Int × Ps} (h : orP s.size (s.size + 1) 0 ⟨0, [], rest s 0⟩ = .ok q) {k : Nat} (hr : q.2.r = rest s k) (hk : k ≤ s.size) (hm : skip s k < s.size) : parseP s.data.toList = .error (5, (skip s k : Int)) := by
 obtain ⟨-, h2, h3, -, -⟩ := skip_is hk
 unfold parseP
 rw [list_size, if_neg (by omega), ← rest0, h]
 simp only
 rw [hr, h3, if_pos (by intro e; have := rest_len s (skip s k); rw [e] at this; simp at this; omega), pos_rest h2]
theorem parse_mid (hs : s.size ≤ 1024) {q : Int × Ps} (h : orP s.size (s.size + 1) 0 ⟨0, [], rest s 0⟩ = .ok q) {k : Nat} (hr : q.2.r = rest s k) (hk : k ≤ s.size) (hm : ¬ skip s k < s.size) : Mid s q.2.L 0 0 := by
 obtain ⟨h1, h2, h3, -, -⟩ := skip_is hk; obtain ⟨t, g1, g2, g3⟩ := orP_is (notP_is _ _ 0 (by omega)) _ _ _ q.1 q.2 h; have hL := g2.L; simp only [List.nil_append, List.length_nil] at hL; have hn := g2.n; have hmm := g2.most; refine .inr ⟨rfl, rfl, t, g1.1, by omega, hL, ?_⟩
 unfold parseP
 rw [list_size, if_neg (by omega), ← rest0, h]
 simp only
 have he : blk q.2.r = [] := by
  rw [hr, h3]; have e : skip s k = s.size := by omega
  rw [e, rest_end]
 rw [if_neg (by rw [he]; simp)]
end
def Mid0 (s : ByteArray) (k : Nat) (L : List Nd) (e a : Int) : Prop :=
 (e ≠ 0 ∧ parseP s.data.toList = .error (e, a)) ∨
 (e = 0 ∧ a = 0 ∧ (k < s.size → parseP s.data.toList = .error (5, (k : Int))) ∧ (¬ k < s.size → Mid s L 0 0))
theorem mid0_of {w w' : World} {s : ByteArray} {b : Nat} {j : Int} (hs : s.size ≤ 1024) (h : OutS b w w' b s ((0 : Nat) : Int) (orP s.size (s.size + 1) 0 ⟨0, [], rest s 0⟩) j) :
  ∃ k d n v L e a, Prs b w' b s k d n v L e a ∧ Mid0 s (skip s k) L e a ∧ Below b w w' := by
 cases hR : orP s.size (s.size + 1) 0 ⟨0, [], rest s 0⟩ with
 | error e =>
  rw [hR] at h; obtain ⟨⟨k, d, n, v, L, hp⟩, hb⟩ := h; obtain ⟨h1, h2⟩ := parse_err hs hR; exact ⟨k, d, n, v, L, e.1, e.2, hp, .inl ⟨h2, h1⟩, hb⟩
 | ok q =>
  rw [hR] at h; obtain ⟨-, ⟨k, v, hr, hp⟩, hb⟩ := h; exact ⟨k, _, _, v, q.2.L, 0, 0, hp, .inr ⟨rfl, rfl, fun hm => parse_more hs hR hr hp.kb hm, fun hm => parse_mid hs hR hr hp.kb hm⟩, hb⟩
theorem mid_more {s : ByteArray} {k : Nat} {L : List Nd} {e a : Int} (h : Mid0 s k L e a) (hk : k < s.size) : Mid s L (flt e a 5 (k : Int)).1 (flt e a 5 (k : Int)).2 := by
 unfold flt
 rcases h with ⟨h1, h2⟩ | ⟨rfl, rfl, h1, -⟩
 ·rw [if_neg (fun h => h1 h.1)]
  exact .inl ⟨h1, h2⟩
 ·rw [if_pos ⟨rfl, rfl⟩]
  exact .inl ⟨by show (5 : Int) ≠ 0; decide, h1 hk⟩
theorem mid_end {s : ByteArray} {k : Nat} {L : List Nd} {e a : Int} (h : Mid0 s k L e a) (hk : ¬ k < s.size) : Mid s L e a := by
 rcases h with ⟨h1, h2⟩ | ⟨rfl, rfl, -, h1⟩
 ·exact .inl ⟨h1, h2⟩
 ·exact h1 hk
theorem size_rule : (Tryz.prog.info? 26).map (·.size) = some 1 := by kernel_rfl
theorem size_fault : (Tryz.prog.info? 97).map (·.size) = some 2 := by kernel_rfl
structure PW (w wx : World) (R2 b : Nat) : Prop where
 x2 : Blk wx R2 [.slice none 0 0] 26
 x3 : Blk wx (R2 + 1) [.int .i64 0, .int .i64 0] 97
 hb : Below w.heap.size w wx
theorem PW.next {w wx wy : World} {R2 b : Nat} (h : PW w wx R2 b) (hb : Below b wx wy) (hR : R2 + 2 ≤ b) (hw : w.heap.size ≤ b) : PW w wy R2 b :=
 ⟨h.x2.below hb (by omega), h.x3.below hb (by omega), h.hb.trans (hb.mono hw)⟩
theorem own_lower {w : World} {base base' : Nat} {e : TypeId} {size n : Nat} {v : Value} {xs : List Value} (h : w.ownsRow base e size v n xs) (hb : base' ≤ base) : w.ownsRow base' e size v n xs := by
 obtain ⟨h1, h2⟩ := h; refine ⟨h1, ?_⟩; rcases h2 with h2 | ⟨g, cap, cur, hv, hg, r⟩
 ·exact .inl h2
 ·exact .inr ⟨g, cap, cur, hv, by omega, r⟩
def MidR (s : ByteArray) (L : List Nd) (e a : Int) (v : Value) : Prop :=
 (v = .bool true ∧ e = 0 ∧ a = 0 ∧ parseP s.data.toList = .error (3, -1)) ∨ (v = .bool false ∧ Mid2 s L e a)
theorem parse_any (s : ByteArray) (w : World) (hE : ErrV w) (hT : Tab w) (hs : s.size ≤ maxLen) :
  Calls Tryz.prog 64 #[.string s] w fun r w' => ParsS w w' (parseP s.data.toList) r := by
 have HE := zz hE; have HT := zz hT; have HS := zz hs; have hs63 : (s.size : Int) ≤ 9223372036854775807 := by unfold maxLen at hs; omega
 clear hE hT hs; go_enter Tryz.func64, Tryz.ntmps64; go_upto_region 1 with fail; obtain ⟨R2, hR2⟩ : ∃ R2, R2 = w.heap.size := ⟨_, rfl⟩
 refine at_hide (F := fun w' => PW w w' R2 (R2 + 2) ∧ w'.heap.size = R2 + 2) ⟨⟨by
  rw [hR2]; exact Blk.alloc (Blk.made w [.slice none 0 0] _) _, by
  rw [hR2]; have := Blk.made (w.alloc (.cells [.slice none 0 0].toArray 26)) [.int .i64 0, .int .i64 0] 97; simpa using this, below_and (below_alloc _ _) (below_alloc _ _)⟩, by rw [hR2]; simp⟩ ?_
 intro w1 hF; have HP1 := zz hF.1; have HZ1 := zz hF.2; rw [← hR2]; have HR2 : Hid (w.heap.size ≤ R2) := zz (by omega); have HRW : Hid (R2 = w.heap.size) := zz hR2; clear hF hR2
 by_cases hlong : 1024 < s.size
 ·have HP : Hid (parseP s.data.toList = .error (3, -1)) := zz (parse_long (by rw [list_size]; exact hlong))
  have x2 := HP1.o.x2.cell (j := 0) rfl; have f2 := HP1.o.x2.free 0; have x3 := HP1.o.x3.cell (j := 0) rfl; have f3 := HP1.o.x3.free 0; have x4 := HP1.o.x3.cell (j := 1) rfl; have f4 := HP1.o.x3.free 1; go_wp2; refine ret_cells rfl rfl rfl (((HP1.o.x2.set 0 _).other (a := ⟨R2 + 1, 0, none⟩) (by simp) _).other (a := ⟨R2 + 1, 1, none⟩) (by simp) _) Tryz.underlying26 rfl size_rule rfl (((HP1.o.x3.other (a := ⟨R2, 0, none⟩) (by simp) _).set 0 _).set 1 _) Tryz.underlying97 rfl size_fault ?_; rw [HP.o]; exact ⟨rfl, ((HP1.o.hb.setCell (by have := HR2.o; simp; omega) _).setCell (by have := HR2.o; simp; omega) _).setCell (by have := HR2.o; simp; omega) _⟩
 ·have hsz : s.size ≤ 1024 := by omega
  obtain ⟨b, hb⟩ : ∃ b, b = R2 + 2 := ⟨_, rfl⟩; have HBB := zz hb; go_upto_region 4 with fail
  refine at_hide (F := fun w' => PW w w' R2 b ∧ Prs b w' b s 0 0 0 (.slice none 0 0) [] 0 0) ⟨HP1.o |> fun h => ⟨h.x2.alloc _, h.x3.alloc _, below_and h.hb (below_alloc _ _)⟩, ⟨by
   have := Blk.made w1 [.string s, .int .i64 0, .int .i64 0, .int .i64 0, .slice none 0 0, .int .i64 0, .int .i64 0] 115; rw [HZ1.o, ← hb] at this; exact this, World.ownsRow_nil _ _ _ _, Nat.le_refl _, Nat.zero_le _, hsz⟩⟩ ?_
  rw [HZ1.o, ← hb]; intro w2 hF; have HP2 := zz hF.1; have HQ2 := zz hF.2; clear hF hb
  have HV2 : Hid (ErrB b w2) := zz (by
   have := (errB_of HE.o).below (HP2.o.hb)
   exact this.mono (by have := HBB.o; have := HRW.o; omega))
  have HT2 : Hid (Tab w2) := zz (HT.o.below HP2.o.hb); have HC : Hid (Calls Tryz.prog 86 #[ptr b] w2 fun r w' => ∃ j : Int, r = .returned (.int .i64 j) ∧ OutS b w2 w' b s ((0 : Nat) : Int) (orP s.size (s.size + 1) 0 ⟨0, [], rest s 0⟩) j) := zz (((or_all b b s) 0 0 _ [] w2 HQ2.o (by omega) (by simp) (by omega) (Nat.le_of_lt HQ2.o.blk.lt) HV2.o).mono fun r w' hq => out_j hq); go_upto_region 5 with (go_at_call 86; refine HC.o.mono ?_; rintro r w3 ⟨j, rfl, hq⟩; have HQ3 := zz (mid0_of hsz hq); have HB3 : Hid (Below b w2 w3) := zz (by obtain ⟨_, _, _, _, _, _, _, _, _, h⟩ := mid0_of hsz hq; exact h); clear hq); obtain ⟨k, d, n, v, L, e, a, hP3, hM3, -⟩ := HQ3.o; have HP3 : Hid (PW w w3 R2 b) := zz (HP2.o.next HB3.o (by have := HBB.o; omega) (by have := HBB.o; have := HRW.o; omega)); have HQ4 := zz hP3; have HT3 : Hid (Tab w3) := zz (HT.o.below HP3.o.hb); have HM3 := zz hM3; clear hP3 hM3 HQ3 HC HV2 HT2 HP2 HQ2; go_upto_region 6 with (go_at_call 87; refine (blanks_any b b s k d n v L e a _ HQ4.o).mono ?_; rintro r w4 ⟨rfl, hq, hf⟩; have HQ5 := zz hq; have HB4 : Hid (Below b w3 w4) := zz (onb_below hf (Nat.le_refl _) (Nat.le_of_lt HQ4.o.blk.lt)); clear hq hf)
  obtain ⟨k2, hk2⟩ : ∃ k2, k2 = skip s k := ⟨_, rfl⟩; rw [← hk2] at HQ5 HM3; have HP4 : Hid (PW w w4 R2 b) := zz (HP3.o.next HB4.o (by have := HBB.o; omega) (by have := HBB.o; have := HRW.o; omega)); clear hk2 HP3 HQ4 HT3; have c1 := HQ5.o.c1
  go_upto_if 23 with fail
  clear c1
  go_cut [] (fun wx => ∃ k d n v L e a, Prs b wx b s k d n v L e a ∧ Mid s L e a ∧ PW w wx R2 b)
  case first =>
   have c1 := HQ5.o.c1
   by_cases hlt : k2 < s.size
   ·go_wp2_with (go_at_call 88; refine (fails_any b b s k2 d n v L e a 5 _ _ HQ5.o).mono ?_; rintro r w5 ⟨rfl, hq, hf⟩; have HQ6 := zz hq; have HB5 : Hid (Below b w4 w5) := zz (onb_below hf (Nat.le_refl _) (Nat.le_of_lt HQ5.o.blk.lt)); clear hq hf)
    go_meet
    exact ⟨k2, d, n, v, L, _, _, HQ6.o, mid_more HM3.o hlt, HP4.o.next HB5.o (by have := HBB.o; omega) (by have := HBB.o; have := HRW.o; omega)⟩
   ·go_wp2
    go_meet
    exact ⟨k2, d, n, v, L, e, a, HQ5.o, mid_end HM3.o hlt, HP4.o⟩
  case rest =>
  obtain ⟨k3, d3, n3, v3, L3, e3, a3, hP, hM, hW⟩ := hcut; obtain ⟨w5, hw5⟩ : ∃ w5, w5 = wc := ⟨_, rfl⟩; rw [← hw5] at hP hW ⊢; clear hw5; have HQ7 := zz hP; have HM7 := zz hM; have HP7 := zz hW; clear hP hM hW HQ5 HM3 HP4 HB4 HB3; go_upto_region 8 with fail
  go_cut [50] (fun s50 wx => ∃ k d n v L e a, Prs b wx b s k d n v L e a ∧ PW w wx R2 b ∧ MidR s L e a s50)
  case first =>
   by_cases he : e3 = 0
   ·have hM := HM7.o
    obtain ⟨he2, -⟩ | ⟨-, rfl, t, ht1, ht2, hL3, hpp⟩ := hM
    ·exact absurd he he2
    subst he; have HPP := zz hpp; have HTD := zz (flat_told t ht1 ht2 (i := L3.length - 1) (by have := t.size_pos; rw [hL3, t.flat_len]; omega)); obtain ⟨gf, g1, g2, g3⟩ := flat_fine t ht1 ht2; have HLN : Hid (1 ≤ L3.length ∧ L3.length ≤ 64) := zz (by rw [hL3]; exact ⟨g2, g3⟩); have HTL : Hid (toldA L3 = tl L3 (L3.length - 1)) := zz (by rw [hL3]; exact toldA_tl gf g2); have HLG : Hid ((tl L3 (L3.length - 1)).length ≤ 1000000000000000000) := zz (by rw [hL3]; exact told_long gf g1 g3 (flat_fit t ht1) (by omega)); rw [← hL3] at HTD; clear hpp hL3 ht1 ht2 gf g1 g2 g3 HM7; obtain ⟨p3, c3, rfl, -, -, hrow⟩ := row_own HQ7.o.own (rwC_one ndC_one L3); have HROW := zz hrow; clear hrow; obtain ⟨m, hm⟩ : ∃ m : Nat, m = L3.length - 1 := ⟨_, rfl⟩; have HMM : Hid (m + 1 = L3.length) := zz (by have := HLN.o; omega); rw [← hm] at HTD HTL HLG; obtain ⟨S, hS⟩ : ∃ S, S = bs (tl L3 m) := ⟨_, rfl⟩; have HSZ : Hid (S.size = (toldA L3).length) := zz (by rw [hS, bs_size, HTL.o]); have hSB : (S.size : Int) ≤ 1000000000000000000 := by have h1 := HSZ.o; have h2 := HLG.o; rw [HTL.o] at h1; omega
    have HT7 := zz (HT.o.below HP7.o.hb)
    have HTC : Hid (∀ q : Past w5, Calls Tryz.prog 65 #[.slice p3 L3.length c3, .int .i64 (m : Int)] q.val fun r w' => r = .returned (.string S) ∧ Below q.val.heap.size q.val w') := zz (fun q => by
     rw [hS]
     exact HTD.o _ q.val (HROW.o.below q.h) (HT7.o.below q.h))
    have p4 : ∀ q : Past w5, q.val.cell? ⟨b, 4, none⟩ = some (.slice p3 L3.length c3) := Past.blk HQ7.o.blk (j := 4) rfl; have p5 : ∀ q : Past w5, q.val.cell? ⟨b, 5, none⟩ = some (.int .i64 0) := Past.blk HQ7.o.blk (j := 5) rfl; have p6 : ∀ q : Past w5, q.val.cell? ⟨b, 6, none⟩ = some (.int .i64 0) := Past.blk HQ7.o.blk (j := 6) rfl; have u1 : IntKind.i64.wrap ((L3.length : Int) - 1) = (m : Int) := by rw [IntKind.wrap_i64]; have := HMM.o; have := HLN.o; omega
    clear hS hm HTD; have HF9 : Hid (∀ q : Past w5, Prs b q.val b s k3 d3 n3 (.slice p3 L3.length c3) L3 0 0 ∧ PW w q.val R2 b) := zz (fun q => ⟨HQ7.o.kept q.h, HP7.o.next (q.h.mono (Nat.le_of_lt HQ7.o.blk.lt)) (by have := HBB.o; omega) (by have := HBB.o; have := HRW.o; omega)⟩)
    by_cases hlen : 1024 < S.size
    ·have HMR : Hid (MidR s L3 0 0 (.bool true)) := zz (.inl ⟨rfl, rfl, rfl, by rw [HPP.o, if_pos (by rw [← HSZ.o]; exact hlen)]⟩)
     have t1 : decide (1024 < S.size) = true := decide_eq_true hlen; have t2 : decide ((1024 : Int) < (S.size : Int)) = true := by simp; omega
     clear HPP HSZ HTL HLG hlen; refine wp_region_past (by kernel_rfl) (by kernel_rfl) ?_
     repeat (go_big_quiet_step ((go_at_call 65; exact past_call (HTC.o _))))
     refine wpQuiet_nil ?_; intro _ hw'; obtain ⟨s9, hw''⟩ := hw'; subst hw''; go_wp2
     go_meet
     exact ⟨k3, d3, n3, _, L3, 0, 0, (HF9.o s9).1, (HF9.o s9).2, HMR.o⟩
    ·have HMR : Hid (MidR s L3 0 0 (.bool false)) := zz (.inr ⟨rfl, .inr ⟨rfl, rfl, by rw [HPP.o, if_neg (by rw [← HSZ.o]; exact hlen)]⟩⟩)
     have t1 : decide (1024 < S.size) = false := decide_eq_false hlen; have t2 : decide ((1024 : Int) < (S.size : Int)) = false := by simp; omega
     clear HPP HSZ HTL HLG hlen; refine wp_region_past (by kernel_rfl) (by kernel_rfl) ?_
     repeat (go_big_quiet_step ((go_at_call 65; exact past_call (HTC.o _))))
     refine wpQuiet_nil ?_; intro _ hw'; obtain ⟨s9, hw''⟩ := hw'; subst hw''; go_wp2
     go_meet
     exact ⟨k3, d3, n3, _, L3, 0, 0, (HF9.o s9).1, (HF9.o s9).2, HMR.o⟩
   ·have HMR : Hid (MidR s L3 e3 a3 (.bool false)) := zz (.inr ⟨rfl, by
     rcases HM7.o with ⟨h1, h2⟩ | ⟨h1, -⟩
     ·exact .inl ⟨h1, h2⟩
     ·exact absurd h1 he⟩)
    have t1 : (e3 == 0) = false := by simpa using he
    have HF9 : Hid (∀ q : Past w5, Prs b q.val b s k3 d3 n3 v3 L3 e3 a3 ∧ PW w q.val R2 b) := zz (fun q => ⟨HQ7.o.kept q.h, HP7.o.next (q.h.mono (Nat.le_of_lt HQ7.o.blk.lt)) (by have := HBB.o; omega) (by have := HBB.o; have := HRW.o; omega)⟩); have p5 : ∀ q : Past w5, q.val.cell? ⟨b, 5, none⟩ = some (.int .i64 e3) := Past.blk HQ7.o.blk (j := 5) rfl; have p6 : ∀ q : Past w5, q.val.cell? ⟨b, 6, none⟩ = some (.int .i64 a3) := Past.blk HQ7.o.blk (j := 6) rfl; clear he; refine wp_region_past (by kernel_rfl) (by kernel_rfl) ?_
    repeat (go_big_quiet_step (fail))
    refine wpQuiet_nil ?_; intro _ hw'; obtain ⟨s9, hw''⟩ := hw'; subst hw''; go_wp2
    go_meet
    exact ⟨k3, d3, n3, v3, L3, e3, a3, (HF9.o s9).1, (HF9.o s9).2, HMR.o⟩
  case rest =>
  obtain ⟨k4, d4, n4, v4, L4, e4, a4, hP, hW, hM⟩ := hcut; obtain ⟨w6, hw6⟩ : ∃ w6, w6 = wc := ⟨_, rfl⟩; rw [← hw6] at hP hW ⊢; clear hw6; have HQ8 := zz hP; have HP8 := zz hW; have HM8 := zz hM; clear hP hW hM HQ7 HM7 HP7
  go_upto_if 50 with fail
  go_cut [] (fun wx => ∃ k d n v L e a, Prs b wx b s k d n v L e a ∧ PW w wx R2 b ∧ Mid2 s L e a)
  case first =>
   rcases HM8.o with ⟨rfl, rfl, rfl, hpe⟩ | ⟨rfl, hm2⟩
   ·have HPE := zz hpe
    clear hpe; go_wp2_with (go_at_call 88; refine (fails_any b b s k4 d4 n4 v4 L4 0 0 3 _ _ HQ8.o).mono ?_; rintro r w7 ⟨rfl, hq, hf⟩; have HQ9 := zz hq; have HB7 : Hid (Below b w6 w7) := zz (onb_below hf (Nat.le_refl _) (Nat.le_of_lt HQ8.o.blk.lt)); clear hq hf)
    go_meet
    exact ⟨k4, d4, n4, v4, L4, _, _, HQ9.o, HP8.o.next HB7.o (by have := HBB.o; omega) (by have := HBB.o; have := HRW.o; omega), .inl ⟨by unfold flt; rw [if_pos ⟨rfl, rfl⟩]; show (3 : Int) ≠ 0; decide, by unfold flt; rw [if_pos ⟨rfl, rfl⟩]; exact HPE.o⟩⟩
   ·have HM2 := zz hm2
    clear hm2; go_wp2
    go_meet
    exact ⟨k4, d4, n4, v4, L4, e4, a4, HQ8.o, HP8.o, HM2.o⟩
  case rest =>
  obtain ⟨k5, d5, n5, v5, L5, e5, a5, hP, hW, hM⟩ := hcut; obtain ⟨w8, hw8⟩ : ∃ w8, w8 = wc := ⟨_, rfl⟩; rw [← hw8] at hP hW ⊢; clear hw8; have HQ10 := zz hP; have HP10 := zz hW; clear hP hW HQ8 HP8 HM8; have c5 := HQ10.o.c5; have c6 := HQ10.o.c6; rcases hM with ⟨he, hpp⟩ | ⟨rfl, rfl, hpp⟩
  ·have HPP := zz hpp
   have t1 : (e5 == 0) = false := by simpa using he
   clear he hpp; go_upto_region 11 with fail; have x2 := HP10.o.x2.cell (j := 0) rfl; have f2 := HP10.o.x2.free 0; have x3 := HP10.o.x3.cell (j := 0) rfl; have f3 := HP10.o.x3.free 0; have x4 := HP10.o.x3.cell (j := 1) rfl; have f4 := HP10.o.x3.free 1; have hne1 : b ≠ R2 := by have := HBB.o; omega
   have hne2 : b ≠ R2 + 1 := by have := HBB.o; omega
   go_region
   go_wp2; refine ret_cells (w := World.drew _) rfl rfl rfl (Blk.kept (((HP10.o.x2.set 0 (.slice none 0 0)).other (a := ⟨R2 + 1, 0, none⟩) (by simp) (.int .i64 e5)).other (a := ⟨R2 + 1, 1, none⟩) (by simp) (.int .i64 a5)) (below_drewN 1)) Tryz.underlying26 rfl size_rule rfl (Blk.kept (((HP10.o.x3.other (a := ⟨R2, 0, none⟩) (by simp) (.slice none 0 0)).set 0 (.int .i64 e5)).set 1 (.int .i64 a5)) (below_drewN 1)) Tryz.underlying97 rfl size_fault ?_; rw [HPP.o]; exact ⟨rfl, Below.drewN' (((HP10.o.hb.setCell (by have := HR2.o; simp; omega) _).setCell (by have := HR2.o; simp; omega) _).setCell (by have := HR2.o; simp; omega) _) 1⟩
  ·have HPP := zz hpp
   clear hpp; have c4 := HQ10.o.c4; have x2 := HP10.o.x2.cell (j := 0) rfl; have f2 := HP10.o.x2.free 0; have x3 := HP10.o.x3.cell (j := 0) rfl; have f3 := HP10.o.x3.free 0; have x4 := HP10.o.x3.cell (j := 1) rfl; have f4 := HP10.o.x3.free 1; obtain ⟨p5, q5, hv5, -, -⟩ := own_slice HQ10.o.own; have HOW : Hid (w8.ownsRow w.heap.size 69 6 v5 L5.length (rwC ndC L5)) := zz (own_lower HQ10.o.own (by have := HBB.o; have := HRW.o; omega)); have HOB : Hid (∀ g, v5.ownBlock = some g → b ≤ g) := zz (fun g hg => (HQ10.o.own.lt g hg).1); rw [hv5] at c4 HOW HOB; clear hv5; go_wp2; refine ret_cells rfl rfl rfl (((HP10.o.x2.set 0 _).other (a := ⟨R2 + 1, 0, none⟩) (by simp) _).other (a := ⟨R2 + 1, 1, none⟩) (by simp) _) Tryz.underlying26 rfl size_rule rfl (((HP10.o.x3.other (a := ⟨R2, 0, none⟩) (by simp) _).set 0 _).set 1 _) Tryz.underlying97 rfl size_fault ?_; rw [HPP.o]; refine ⟨⟨_, rfl, ?_⟩, ((HP10.o.hb.setCell (by have := HR2.o; simp; omega) _).setCell (by have := HR2.o; simp; omega) _).setCell (by have := HR2.o; simp; omega) _⟩; have hb2 := HBB.o; refine own_other (own_other (own_other HOW.o (p := ⟨R2, 0, none⟩) (fun h => by have := HOB.o _ h; simp at this; omega) _) (p := ⟨R2 + 1, 0, none⟩) (fun h => by have := HOB.o _ h; simp at this; omega) _) (p := ⟨R2 + 1, 1, none⟩) (fun h => by have := HOB.o _ h; simp at this; omega) _
