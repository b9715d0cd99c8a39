/- , laid together: RuParseP, RuParse. -/
import Derived.Test.YtdnoceancoclmaaGreatDoorRuNot
import Derived.Test.YtdnoceancoclmaaGreatDoorM29
import Derived.Test.YtdnoceancoclmaaGreatDoorRuRet
namespace Go.Proofs.YtdnoceancoclmaaGreatDoor.Ru
open Go.RowKit Go.Proofs.YtdnoceancoclmaaGreatDoor

/-- what Parse answers -/
def ParsS (w w' : World) (R : Except (Int × Int) (List Nd)) (r : Ending) : Prop :=
  match R with
  | .error e => r = .returned (.tuple #[.agg #[.slice none 0 0], .agg #[.int .i64 e.1, .int .i64 e.2]]) ∧ Below w.heap.size w w'
  | .ok L => (∃ v, r = .returned (.tuple #[.agg #[v], .agg #[.int .i64 0, .int .i64 0]]) ∧ w'.ownsRow w.heap.size 52 6 v L.length (rwC ndC L)) ∧ Below w.heap.size w w'
theorem errB_of {w : World} (h : ErrV w) : ErrB w.heap.size w := by
  obtain ⟨tp, p, hv⟩ := h
  refine ⟨⟨tp, p, hv⟩, ?_⟩
  unfold World.var? at hv
  cases hq : Tryz.prog.globalNamed "strconv.ErrSyntax" with
  | none => rw [hq] at hv; cases hv
  | some g =>
    refine ⟨g, rfl, ?_⟩
    rw [hq] at hv
    simp only [Option.bind_some] at hv
    rcases Nat.lt_or_ge g w.heap.size with h' | h'
    · exact h'
    · rw [Array.getElem?_eq_none h'] at hv; cases hv
theorem ErrB.mono {b b' : Nat} {w : World} (h : ErrB b w) (hb : b ≤ b') : ErrB b' w := by
  obtain ⟨h1, g, h2, h3⟩ := h
  exact ⟨h1, g, h2, by omega⟩
/-- what is known behind the reading: the fault, or a tree -/
def Mid (s : ByteArray) (L : List Nd) (e a : Int) : Prop :=
  (e ≠ 0 ∧ parseP s.data.toList = .error (e, a)) ∨
  (e = 0 ∧ a = 0 ∧ ∃ t : Tr, t.ok ∧ t.size ≤ 64 ∧ L = t.flat 0 ∧ parseP s.data.toList = if 1024 < (toldA L).length then .error (3, -1) else .ok L)
/-- .. and behind the test of its length -/
def Mid2 (s : ByteArray) (L : List Nd) (e a : Int) : Prop :=
  (e ≠ 0 ∧ parseP s.data.toList = .error (e, a)) ∨ (e = 0 ∧ a = 0 ∧ parseP s.data.toList = .ok L)
theorem list_size (s : ByteArray) : s.data.toList.length = s.size := by simp
theorem rest0 (s : ByteArray) : rest s 0 = s.data.toList := rfl
section
variable {s : ByteArray}
theorem parse_err (hs : s.size ≤ 1024) {e : Int × Int} (h : orP s.size (s.size + 1) 0 ⟨0, [], rest s 0⟩ = .error e) : parseP s.data.toList = .error e ∧ e.1 ≠ 0 := by
  refine ⟨?_, ?_⟩
  · unfold parseP
    rw [list_size, if_neg (by omega), ← rest0, h]
  · exact (kp_or s.size (s.size + 1) 0 (by omega)).err 0 [] (rest s 0) e (by rw [rest_len]; omega) (by rw [rest_len]; omega) h
theorem parse_more (hs : s.size ≤ 1024) {q : Int × Ps} (h : orP s.size (s.size + 1) 0 ⟨0, [], rest s 0⟩ = .ok q) {k : Nat} (hr : q.2.r = rest s k) (hk : k ≤ s.size) (hm : skip s k < s.size) : parseP s.data.toList = .error (5, (skip s k : Int)) := by
  obtain ⟨-, h2, h3, -, -⟩ := skip_is hk
  unfold parseP
  rw [list_size, if_neg (by omega), ← rest0, h]
  simp only
  rw [hr, h3, if_pos (by intro e; have := rest_len s (skip s k); rw [e] at this; simp at this; omega), pos_rest h2]
theorem parse_mid (hs : s.size ≤ 1024) {q : Int × Ps} (h : orP s.size (s.size + 1) 0 ⟨0, [], rest s 0⟩ = .ok q) {k : Nat} (hr : q.2.r = rest s k) (hk : k ≤ s.size) (hm : ¬ skip s k < s.size) : Mid s q.2.L 0 0 := by
  obtain ⟨h1, h2, h3, -, -⟩ := skip_is hk
  obtain ⟨t, g1, g2, g3⟩ := orP_is (notP_is _ _ 0 (by omega)) _ _ _ q.1 q.2 h
  have hL := g2.L
  simp only [List.nil_append, List.length_nil] at hL
  have hn := g2.n
  have hmm := g2.most
  refine .inr ⟨rfl, rfl, t, g1.1, by omega, hL, ?_⟩
  unfold parseP
  rw [list_size, if_neg (by omega), ← rest0, h]
  simp only
  have he : blk q.2.r = [] := by
    rw [hr, h3]
    have e : skip s k = s.size := by omega
    rw [e, rest_end]
  rw [if_neg (by rw [he]; simp)]
end
/-- behind the reading and the blanks: place k -/
def Mid0 (s : ByteArray) (k : Nat) (L : List Nd) (e a : Int) : Prop :=
  (e ≠ 0 ∧ parseP s.data.toList = .error (e, a)) ∨
  (e = 0 ∧ a = 0 ∧ (k < s.size → parseP s.data.toList = .error (5, (k : Int))) ∧ (¬ k < s.size → Mid s L 0 0))
theorem mid0_of {w w' : World} {s : ByteArray} {b : Nat} {j : Int} (hs : s.size ≤ 1024) (h : OutS b w w' b s ((0 : Nat) : Int) (orP s.size (s.size + 1) 0 ⟨0, [], rest s 0⟩) j) :
    ∃ k d n v L e a, Prs b w' b s k d n v L e a ∧ Mid0 s (skip s k) L e a ∧ Below b w w' := by
  cases hR : orP s.size (s.size + 1) 0 ⟨0, [], rest s 0⟩ with
  | error e =>
    rw [hR] at h
    obtain ⟨⟨k, d, n, v, L, hp⟩, hb⟩ := h
    obtain ⟨h1, h2⟩ := parse_err hs hR
    exact ⟨k, d, n, v, L, e.1, e.2, hp, .inl ⟨h2, h1⟩, hb⟩
  | ok q =>
    rw [hR] at h
    obtain ⟨-, ⟨k, v, hr, hp⟩, hb⟩ := h
    exact ⟨k, _, _, v, q.2.L, 0, 0, hp, .inr ⟨rfl, rfl, fun hm => parse_more hs hR hr hp.kb hm, fun hm => parse_mid hs hR hr hp.kb hm⟩, hb⟩
theorem mid_more {s : ByteArray} {k : Nat} {L : List Nd} {e a : Int} (h : Mid0 s k L e a) (hk : k < s.size) : Mid s L (flt e a 5 (k : Int)).1 (flt e a 5 (k : Int)).2 := by
  unfold flt
  rcases h with ⟨h1, h2⟩ | ⟨rfl, rfl, h1, -⟩
  · rw [if_neg (fun h => h1 h.1)]
    exact .inl ⟨h1, h2⟩
  · rw [if_pos ⟨rfl, rfl⟩]
    exact .inl ⟨by show (5 : Int) ≠ 0; decide, h1 hk⟩
theorem mid_end {s : ByteArray} {k : Nat} {L : List Nd} {e a : Int} (h : Mid0 s k L e a) (hk : ¬ k < s.size) : Mid s L e a := by
  rcases h with ⟨h1, h2⟩ | ⟨rfl, rfl, -, h1⟩
  · exact .inl ⟨h1, h2⟩
  · exact h1 hk
end Go.Proofs.YtdnoceancoclmaaGreatDoor.Ru

namespace Go.Proofs.YtdnoceancoclmaaGreatDoor.Ru
open Go.RowKit Go.Proofs.YtdnoceancoclmaaGreatDoor

theorem size_rule : (Tryz.prog.info? 24).map (·.size) = some 1 := by kernel_rfl
theorem size_fault : (Tryz.prog.info? 45).map (·.size) = some 2 := by kernel_rfl
/-- the parser's block and the two results', in the world -/
structure PW (w wx : World) (R2 b : Nat) : Prop where
  x2 : Blk wx R2 [.slice none 0 0] 24
  x3 : Blk wx (R2 + 1) [.int .i64 0, .int .i64 0] 45
  hb : Below w.heap.size w wx
theorem PW.next {w wx wy : World} {R2 b : Nat} (h : PW w wx R2 b) (hb : Below b wx wy) (hR : R2 + 2 ≤ b) (hw : w.heap.size ≤ b) : PW w wy R2 b :=
  ⟨h.x2.below hb (by omega), h.x3.below hb (by omega), h.hb.trans (hb.mono hw)⟩

theorem own_lower {w : World} {base base' : Nat} {e : TypeId} {size n : Nat} {v : Value} {xs : List Value} (h : w.ownsRow base e size v n xs) (hb : base' ≤ base) : w.ownsRow base' e size v n xs := by
  obtain ⟨h1, h2⟩ := h
  refine ⟨h1, ?_⟩
  rcases h2 with h2 | ⟨g, cap, cur, hv, hg, r⟩
  · exact .inl h2
  · exact .inr ⟨g, cap, cur, hv, by omega, r⟩
/-- behind the test of the text's length -/
def MidR (s : ByteArray) (L : List Nd) (e a : Int) (v : Value) : Prop :=
  (v = .bool true ∧ e = 0 ∧ a = 0 ∧ parseP s.data.toList = .error (3, -1)) ∨ (v = .bool false ∧ Mid2 s L e a)

set_option maxRecDepth 100000 in
set_option maxHeartbeats 2000000 in
theorem parse_any (s : ByteArray) (w : World) (hE : ErrV w) (hT : Tab w) (hs : s.size ≤ maxLen) :
    Calls Tryz.prog 19 #[.string s] w fun r w' => ParsS w w' (parseP s.data.toList) r := by
  have HE := Lib.hid hE
  have HT := Lib.hid hT
  have HS := Lib.hid hs
  have hs63 : (s.size : Int) ≤ 9223372036854775807 := by unfold maxLen at hs; omega
  clear hE hT hs
  go_enter Tryz.func19, Tryz.ntmps19
  go_upto_region 1 with fail
  obtain ⟨R2, hR2⟩ : ∃ R2, R2 = w.heap.size := ⟨_, rfl⟩
  refine at_hide (F := fun w' => PW w w' R2 (R2 + 2) ∧ w'.heap.size = R2 + 2) ⟨⟨by
    rw [hR2]; exact Blk.alloc (Blk.made w [.slice none 0 0] _) _, by
    rw [hR2]; have := Blk.made (w.alloc (.cells [.slice none 0 0].toArray 24)) [.int .i64 0, .int .i64 0] 45; simpa using this, below_and (below_alloc _ _) (below_alloc _ _)⟩, by rw [hR2]; simp⟩ ?_
  intro w1 hF
  have HP1 := Lib.hid hF.1
  have HZ1 := Lib.hid hF.2
  rw [← hR2]
  have HR2 : Hid (w.heap.size ≤ R2) := Lib.hid (by omega)
  have HRW : Hid (R2 = w.heap.size) := Lib.hid hR2
  clear hF hR2
  by_cases hlong : 1024 < s.size
  · have HP : Hid (parseP s.data.toList = .error (3, -1)) := Lib.hid (parse_long (by rw [list_size]; exact hlong))
    have x2 := HP1.out.x2.cell (j := 0) rfl
    have f2 := HP1.out.x2.free 0
    have x3 := HP1.out.x3.cell (j := 0) rfl
    have f3 := HP1.out.x3.free 0
    have x4 := HP1.out.x3.cell (j := 1) rfl
    have f4 := HP1.out.x3.free 1
    go_wp2
    refine ret_cells rfl rfl rfl (((HP1.out.x2.set 0 _).other (a := ⟨R2 + 1, 0, none⟩) (by simp) _).other (a := ⟨R2 + 1, 1, none⟩) (by simp) _) Tryz.underlying24 rfl size_rule rfl (((HP1.out.x3.other (a := ⟨R2, 0, none⟩) (by simp) _).set 0 _).set 1 _) Tryz.underlying45 rfl size_fault ?_
    rw [HP.out]
    exact ⟨rfl, ((HP1.out.hb.setCell (by have := HR2.out; simp; omega) _).setCell (by have := HR2.out; simp; omega) _).setCell (by have := HR2.out; simp; omega) _⟩
  · have hsz : s.size ≤ 1024 := by omega
    obtain ⟨b, hb⟩ : ∃ b, b = R2 + 2 := ⟨_, rfl⟩
    have HBB := Lib.hid hb
    go_upto_region 4 with fail
    refine at_hide (F := fun w' => PW w w' R2 b ∧ Prs b w' b s 0 0 0 (.slice none 0 0) [] 0 0) ⟨HP1.out |> fun h => ⟨h.x2.alloc _, h.x3.alloc _, below_and h.hb (below_alloc _ _)⟩, ⟨by
      have := Blk.made w1 [.string s, .int .i64 0, .int .i64 0, .int .i64 0, .slice none 0 0, .int .i64 0, .int .i64 0] 63; rw [HZ1.out, ← hb] at this; exact this, World.ownsRow_nil _ _ _ _, Nat.le_refl _, Nat.zero_le _, hsz⟩⟩ ?_
    rw [HZ1.out, ← hb]
    intro w2 hF
    have HP2 := Lib.hid hF.1
    have HQ2 := Lib.hid hF.2
    clear hF hb
    have HV2 : Hid (ErrB b w2) := Lib.hid (by
      have := (errB_of HE.out).below (HP2.out.hb)
      exact this.mono (by have := HBB.out; have := HRW.out; omega))
    have HT2 : Hid (Tab w2) := Lib.hid (HT.out.below HP2.out.hb)
    have HC : Hid (Calls Tryz.prog 36 #[ptr b] w2 fun r w' => ∃ j : Int, r = .returned (.int .i64 j) ∧ OutS b w2 w' b s ((0 : Nat) : Int) (orP s.size (s.size + 1) 0 ⟨0, [], rest s 0⟩) j) := Lib.hid (((or_all b b s) 0 0 _ [] w2 HQ2.out (by omega) (by simp) (by omega) (Nat.le_of_lt HQ2.out.blk.lt) HV2.out).mono fun r w' hq => out_j hq)
    go_upto_region 5 with (go_at_call 36; refine HC.out.mono ?_; rintro r w3 ⟨j, rfl, hq⟩; have HQ3 := Lib.hid (mid0_of hsz hq); have HB3 : Hid (Below b w2 w3) := Lib.hid (by obtain ⟨_, _, _, _, _, _, _, _, _, h⟩ := mid0_of hsz hq; exact h); clear hq)
    obtain ⟨k, d, n, v, L, e, a, hP3, hM3, -⟩ := HQ3.out
    have HP3 : Hid (PW w w3 R2 b) := Lib.hid (HP2.out.next HB3.out (by have := HBB.out; omega) (by have := HBB.out; have := HRW.out; omega))
    have HQ4 := Lib.hid hP3
    have HT3 : Hid (Tab w3) := Lib.hid (HT.out.below HP3.out.hb)
    have HM3 := Lib.hid hM3
    clear hP3 hM3 HQ3 HC HV2 HT2 HP2 HQ2
    go_upto_region 6 with (go_at_call 37; refine (blanks_any b b s k d n v L e a _ HQ4.out).mono ?_; rintro r w4 ⟨rfl, hq, hf⟩; have HQ5 := Lib.hid hq; have HB4 : Hid (Below b w3 w4) := Lib.hid (onb_below hf (Nat.le_refl _) (Nat.le_of_lt HQ4.out.blk.lt)); clear hq hf)
    obtain ⟨k2, hk2⟩ : ∃ k2, k2 = skip s k := ⟨_, rfl⟩
    rw [← hk2] at HQ5 HM3
    have HP4 : Hid (PW w w4 R2 b) := Lib.hid (HP3.out.next HB4.out (by have := HBB.out; omega) (by have := HBB.out; have := HRW.out; omega))
    clear hk2 HP3 HQ4 HT3
    have c1 := HQ5.out.c1
    go_upto_if 23 with fail
    clear c1
    go_cut [] (fun wx => ∃ k d n v L e a, Prs b wx b s k d n v L e a ∧ Mid s L e a ∧ PW w wx R2 b)
    case first =>
      have c1 := HQ5.out.c1
      by_cases hlt : k2 < s.size
      · go_wp2_with (go_at_call 38; refine (fails_any b b s k2 d n v L e a 5 _ _ HQ5.out).mono ?_; rintro r w5 ⟨rfl, hq, hf⟩; have HQ6 := Lib.hid hq; have HB5 : Hid (Below b w4 w5) := Lib.hid (onb_below hf (Nat.le_refl _) (Nat.le_of_lt HQ5.out.blk.lt)); clear hq hf)
        go_meet
        exact ⟨k2, d, n, v, L, _, _, HQ6.out, mid_more HM3.out hlt, HP4.out.next HB5.out (by have := HBB.out; omega) (by have := HBB.out; have := HRW.out; omega)⟩
      · go_wp2
        go_meet
        exact ⟨k2, d, n, v, L, e, a, HQ5.out, mid_end HM3.out hlt, HP4.out⟩
    case rest =>
    obtain ⟨k3, d3, n3, v3, L3, e3, a3, hP, hM, hW⟩ := hcut
    obtain ⟨w5, hw5⟩ : ∃ w5, w5 = wc := ⟨_, rfl⟩
    rw [← hw5] at hP hW ⊢
    clear hw5
    have HQ7 := Lib.hid hP
    have HM7 := Lib.hid hM
    have HP7 := Lib.hid hW
    clear hP hM hW HQ5 HM3 HP4 HB4 HB3
    go_upto_region 8 with fail
    go_cut [50] (fun s50 wx => ∃ k d n v L e a, Prs b wx b s k d n v L e a ∧ PW w wx R2 b ∧ MidR s L e a s50)
    case first =>
      by_cases he : e3 = 0
      · have hM := HM7.out
        obtain ⟨he2, -⟩ | ⟨-, rfl, t, ht1, ht2, hL3, hpp⟩ := hM
        · exact absurd he he2
        subst he
        have HPP := Lib.hid hpp
        have HTD := Lib.hid (flat_told t ht1 ht2 (i := L3.length - 1) (by have := t.size_pos; rw [hL3, t.flat_len]; omega))
        obtain ⟨gf, g1, g2, g3⟩ := flat_fine t ht1 ht2
        have HLN : Hid (1 ≤ L3.length ∧ L3.length ≤ 64) := Lib.hid (by rw [hL3]; exact ⟨g2, g3⟩)
        have HTL : Hid (toldA L3 = tl L3 (L3.length - 1)) := Lib.hid (by rw [hL3]; exact toldA_tl gf g2)
        have HLG : Hid ((tl L3 (L3.length - 1)).length ≤ 1000000000000000000) := Lib.hid (by rw [hL3]; exact told_long gf g1 g3 (flat_fit t ht1) (by omega))
        rw [← hL3] at HTD
        clear hpp hL3 ht1 ht2 gf g1 g2 g3 HM7
        obtain ⟨p3, c3, rfl, -, -, hrow⟩ := row_own HQ7.out.own (rwC_one ndC_one L3)
        have HROW := Lib.hid hrow
        clear hrow
        obtain ⟨m, hm⟩ : ∃ m : Nat, m = L3.length - 1 := ⟨_, rfl⟩
        have HMM : Hid (m + 1 = L3.length) := Lib.hid (by have := HLN.out; omega)
        rw [← hm] at HTD HTL HLG
        obtain ⟨S, hS⟩ : ∃ S, S = bs (tl L3 m) := ⟨_, rfl⟩
        have HSZ : Hid (S.size = (toldA L3).length) := Lib.hid (by rw [hS, bs_size, HTL.out])
        have hSB : (S.size : Int) ≤ 1000000000000000000 := by have h1 := HSZ.out; have h2 := HLG.out; rw [HTL.out] at h1; omega
        have HT7 := Lib.hid (HT.out.below HP7.out.hb)
        have HTC : Hid (∀ q : Past w5, Calls Tryz.prog 21 #[.slice p3 L3.length c3, .int .i64 (m : Int)] q.val fun r w' => r = .returned (.string S) ∧ Below q.val.heap.size q.val w') := Lib.hid (fun q => by
          rw [hS]
          exact HTD.out _ q.val (HROW.out.below q.h) (HT7.out.below q.h))
        have p4 : ∀ q : Past w5, q.val.cell? ⟨b, 4, none⟩ = some (.slice p3 L3.length c3) := Past.blk HQ7.out.blk (j := 4) rfl
        have p5 : ∀ q : Past w5, q.val.cell? ⟨b, 5, none⟩ = some (.int .i64 0) := Past.blk HQ7.out.blk (j := 5) rfl
        have p6 : ∀ q : Past w5, q.val.cell? ⟨b, 6, none⟩ = some (.int .i64 0) := Past.blk HQ7.out.blk (j := 6) rfl
        have u1 : IntKind.i64.wrap ((L3.length : Int) - 1) = (m : Int) := by rw [IntKind.wrap_i64]; have := HMM.out; have := HLN.out; omega
        clear hS hm HTD
        have HF9 : Hid (∀ q : Past w5, Prs b q.val b s k3 d3 n3 (.slice p3 L3.length c3) L3 0 0 ∧ PW w q.val R2 b) := Lib.hid (fun q => ⟨HQ7.out.kept q.h, HP7.out.next (q.h.mono (Nat.le_of_lt HQ7.out.blk.lt)) (by have := HBB.out; omega) (by have := HBB.out; have := HRW.out; omega)⟩)
        by_cases hlen : 1024 < S.size
        · have HMR : Hid (MidR s L3 0 0 (.bool true)) := Lib.hid (.inl ⟨rfl, rfl, rfl, by rw [HPP.out, if_pos (by rw [← HSZ.out]; exact hlen)]⟩)
          have t1 : decide (1024 < S.size) = true := decide_eq_true hlen
          have t2 : decide ((1024 : Int) < (S.size : Int)) = true := by simp; omega
          clear HPP HSZ HTL HLG hlen
          refine wp_region_past (by kernel_rfl) (by kernel_rfl) ?_
          repeat (go_big_quiet_step ((go_at_call 21; exact past_call (HTC.out _))))
          refine wpQuiet_nil ?_
          intro _ hw'
          obtain ⟨s9, hw''⟩ := hw'
          subst hw''
          go_wp2
          go_meet
          exact ⟨k3, d3, n3, _, L3, 0, 0, (HF9.out s9).1, (HF9.out s9).2, HMR.out⟩
        · have HMR : Hid (MidR s L3 0 0 (.bool false)) := Lib.hid (.inr ⟨rfl, .inr ⟨rfl, rfl, by rw [HPP.out, if_neg (by rw [← HSZ.out]; exact hlen)]⟩⟩)
          have t1 : decide (1024 < S.size) = false := decide_eq_false hlen
          have t2 : decide ((1024 : Int) < (S.size : Int)) = false := by simp; omega
          clear HPP HSZ HTL HLG hlen
          refine wp_region_past (by kernel_rfl) (by kernel_rfl) ?_
          repeat (go_big_quiet_step ((go_at_call 21; exact past_call (HTC.out _))))
          refine wpQuiet_nil ?_
          intro _ hw'
          obtain ⟨s9, hw''⟩ := hw'
          subst hw''
          go_wp2
          go_meet
          exact ⟨k3, d3, n3, _, L3, 0, 0, (HF9.out s9).1, (HF9.out s9).2, HMR.out⟩
      · have HMR : Hid (MidR s L3 e3 a3 (.bool false)) := Lib.hid (.inr ⟨rfl, by
          rcases HM7.out with ⟨h1, h2⟩ | ⟨h1, -⟩
          · exact .inl ⟨h1, h2⟩
          · exact absurd h1 he⟩)
        have t1 : (e3 == 0) = false := by simpa using he
        have HF9 : Hid (∀ q : Past w5, Prs b q.val b s k3 d3 n3 v3 L3 e3 a3 ∧ PW w q.val R2 b) := Lib.hid (fun q => ⟨HQ7.out.kept q.h, HP7.out.next (q.h.mono (Nat.le_of_lt HQ7.out.blk.lt)) (by have := HBB.out; omega) (by have := HBB.out; have := HRW.out; omega)⟩)
        have p5 : ∀ q : Past w5, q.val.cell? ⟨b, 5, none⟩ = some (.int .i64 e3) := Past.blk HQ7.out.blk (j := 5) rfl
        have p6 : ∀ q : Past w5, q.val.cell? ⟨b, 6, none⟩ = some (.int .i64 a3) := Past.blk HQ7.out.blk (j := 6) rfl
        clear he
        refine wp_region_past (by kernel_rfl) (by kernel_rfl) ?_
        repeat (go_big_quiet_step (fail))
        refine wpQuiet_nil ?_
        intro _ hw'
        obtain ⟨s9, hw''⟩ := hw'
        subst hw''
        go_wp2
        go_meet
        exact ⟨k3, d3, n3, v3, L3, e3, a3, (HF9.out s9).1, (HF9.out s9).2, HMR.out⟩
    case rest =>
    obtain ⟨k4, d4, n4, v4, L4, e4, a4, hP, hW, hM⟩ := hcut
    obtain ⟨w6, hw6⟩ : ∃ w6, w6 = wc := ⟨_, rfl⟩
    rw [← hw6] at hP hW ⊢
    clear hw6
    have HQ8 := Lib.hid hP
    have HP8 := Lib.hid hW
    have HM8 := Lib.hid hM
    clear hP hW hM HQ7 HM7 HP7
    go_upto_if 50 with fail
    go_cut [] (fun wx => ∃ k d n v L e a, Prs b wx b s k d n v L e a ∧ PW w wx R2 b ∧ Mid2 s L e a)
    case first =>
      rcases HM8.out with ⟨rfl, rfl, rfl, hpe⟩ | ⟨rfl, hm2⟩
      · have HPE := Lib.hid hpe
        clear hpe
        go_wp2_with (go_at_call 38; refine (fails_any b b s k4 d4 n4 v4 L4 0 0 3 _ _ HQ8.out).mono ?_; rintro r w7 ⟨rfl, hq, hf⟩; have HQ9 := Lib.hid hq; have HB7 : Hid (Below b w6 w7) := Lib.hid (onb_below hf (Nat.le_refl _) (Nat.le_of_lt HQ8.out.blk.lt)); clear hq hf)
        go_meet
        exact ⟨k4, d4, n4, v4, L4, _, _, HQ9.out, HP8.out.next HB7.out (by have := HBB.out; omega) (by have := HBB.out; have := HRW.out; omega), .inl ⟨by unfold flt; rw [if_pos ⟨rfl, rfl⟩]; show (3 : Int) ≠ 0; decide, by unfold flt; rw [if_pos ⟨rfl, rfl⟩]; exact HPE.out⟩⟩
      · have HM2 := Lib.hid hm2
        clear hm2
        go_wp2
        go_meet
        exact ⟨k4, d4, n4, v4, L4, e4, a4, HQ8.out, HP8.out, HM2.out⟩
    case rest =>
    obtain ⟨k5, d5, n5, v5, L5, e5, a5, hP, hW, hM⟩ := hcut
    obtain ⟨w8, hw8⟩ : ∃ w8, w8 = wc := ⟨_, rfl⟩
    rw [← hw8] at hP hW ⊢
    clear hw8
    have HQ10 := Lib.hid hP
    have HP10 := Lib.hid hW
    clear hP hW HQ8 HP8 HM8
    have c5 := HQ10.out.c5
    have c6 := HQ10.out.c6
    rcases hM with ⟨he, hpp⟩ | ⟨rfl, rfl, hpp⟩
    · have HPP := Lib.hid hpp
      have t1 : (e5 == 0) = false := by simpa using he
      clear he hpp
      go_upto_region 11 with fail
      have x2 := HP10.out.x2.cell (j := 0) rfl
      have f2 := HP10.out.x2.free 0
      have x3 := HP10.out.x3.cell (j := 0) rfl
      have f3 := HP10.out.x3.free 0
      have x4 := HP10.out.x3.cell (j := 1) rfl
      have f4 := HP10.out.x3.free 1
      have hne1 : b ≠ R2 := by have := HBB.out; omega
      have hne2 : b ≠ R2 + 1 := by have := HBB.out; omega
      go_region
      go_wp2
      refine ret_cells (w := World.drew _) rfl rfl rfl (Blk.kept (((HP10.out.x2.set 0 (.slice none 0 0)).other (a := ⟨R2 + 1, 0, none⟩) (by simp) (.int .i64 e5)).other (a := ⟨R2 + 1, 1, none⟩) (by simp) (.int .i64 a5)) (below_drewN 1)) Tryz.underlying24 rfl size_rule rfl (Blk.kept (((HP10.out.x3.other (a := ⟨R2, 0, none⟩) (by simp) (.slice none 0 0)).set 0 (.int .i64 e5)).set 1 (.int .i64 a5)) (below_drewN 1)) Tryz.underlying45 rfl size_fault ?_
      rw [HPP.out]
      exact ⟨rfl, Below.drewN' (((HP10.out.hb.setCell (by have := HR2.out; simp; omega) _).setCell (by have := HR2.out; simp; omega) _).setCell (by have := HR2.out; simp; omega) _) 1⟩
    · have HPP := Lib.hid hpp
      clear hpp
      have c4 := HQ10.out.c4
      have x2 := HP10.out.x2.cell (j := 0) rfl
      have f2 := HP10.out.x2.free 0
      have x3 := HP10.out.x3.cell (j := 0) rfl
      have f3 := HP10.out.x3.free 0
      have x4 := HP10.out.x3.cell (j := 1) rfl
      have f4 := HP10.out.x3.free 1
      obtain ⟨p5, q5, hv5, -, -⟩ := own_slice HQ10.out.own
      have HOW : Hid (w8.ownsRow w.heap.size 52 6 v5 L5.length (rwC ndC L5)) := Lib.hid (own_lower HQ10.out.own (by have := HBB.out; have := HRW.out; omega))
      have HOB : Hid (∀ g, v5.ownBlock = some g → b ≤ g) := Lib.hid (fun g hg => (HQ10.out.own.lt g hg).1)
      rw [hv5] at c4 HOW HOB
      clear hv5
      go_wp2
      refine ret_cells rfl rfl rfl (((HP10.out.x2.set 0 _).other (a := ⟨R2 + 1, 0, none⟩) (by simp) _).other (a := ⟨R2 + 1, 1, none⟩) (by simp) _) Tryz.underlying24 rfl size_rule rfl (((HP10.out.x3.other (a := ⟨R2, 0, none⟩) (by simp) _).set 0 _).set 1 _) Tryz.underlying45 rfl size_fault ?_
      rw [HPP.out]
      refine ⟨⟨_, rfl, ?_⟩, ((HP10.out.hb.setCell (by have := HR2.out; simp; omega) _).setCell (by have := HR2.out; simp; omega) _).setCell (by have := HR2.out; simp; omega) _⟩
      have hb2 := HBB.out
      refine own_other (own_other (own_other HOW.out (p := ⟨R2, 0, none⟩) (fun h => by have := HOB.out _ h; simp at this; omega) _) (p := ⟨R2 + 1, 0, none⟩) (fun h => by have := HOB.out _ h; simp at this; omega) _) (p := ⟨R2 + 1, 1, none⟩) (fun h => by have := HOB.out _ h; simp at this; omega) _
end Go.Proofs.YtdnoceancoclmaaGreatDoor.Ru
