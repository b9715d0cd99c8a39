/- , laid together: RuRet, RuParseP, RuParse, RuEqual, RuCheck. -/
import Derived.Test.YtaipldegobjboaaDoorLib2
import Derived.Laws.ResultCell
import Derived.Laws.Rows
import Derived.Test.YtaipldegobjboaaDoorMPairs
import Derived.Test.YtaipldegobjboaaDoorRuToldA
import Derived.Test.YtaipldegobjboaaDoorRuShap
namespace Go.Proofs.YtaipldegobjboaaDoor.Ru
open Go.RowKit Go.Proofs.YtaipldegobjboaaDoor

theorem results_cell_cell {P : Program} {fn : Func} {p u : Tmp} {ty tz : TypeId} (h : fn.results = #[.cell p ty, .cell u tz]) (tmps : Array Value) (w : World) :
    (results fn tmps).run P w =
      ((asAddr (tmps.getD p undef)).run P w).andThen fun a w₁ => ((loadVar ty a).run P w₁).andThen fun v w₂ => ((asAddr (tmps.getD u undef)).run P w₂).andThen fun b w₃ => ((loadVar tz b).run P w₃).andThen fun y w₄ => .ok (.tuple #[v, y]) w₄ := by
  simp only [results, h]
  simp [Sem.run_bind, Result.andThen]
theorem ret_cells {P : Program} {fn : Func} {R : Ending → World → Prop} {a : Act} {w : World} {p u : Tmp} {ty tz t tt : TypeId} {g k : Nat} {cs ds : List Value} {d e : TypeDesc} (h : fn.results = #[.cell p ty, .cell u tz]) (hd : a.defers = [])
    (hp : a.tmps.getD p undef = .pointer (some ⟨g, 0, none⟩)) (hg : Blk w g cs t) (hu : P.underlying ty = some d) (hs : (match d with | .struct _ | .array _ _ => true | _ => false) = true) (hi : (P.info? ty).map (·.size) = some cs.length)
    (hq : a.tmps.getD u undef = .pointer (some ⟨k, 0, none⟩)) (hk : Blk w k ds tt) (hv : P.underlying tz = some e) (ht : (match e with | .struct _ | .array _ _ => true | _ => false) = true) (hj : (P.info? tz).map (·.size) = some ds.length)
    (hR : R (.returned (.tuple #[.agg cs.toArray, .agg ds.toArray])) w) : bodyPost P fn R .ret a w := by
  refine bodyPost_ret ?_ hd hR
  rw [results_cell_cell h]
  have h1 : (asAddr (a.tmps.getD p undef)).run P w = .ok ⟨g, 0, none⟩ w := by rw [hp]; rfl
  have h2 : (asAddr (a.tmps.getD u undef)).run P w = .ok ⟨k, 0, none⟩ w := by rw [hq]; rfl
  rw [h1]
  simp only [Result.andThen_ok]
  rw [run_loadVar_row w g t ty cs.toArray (0, 0) d hg hu hs (by simpa using hi)]
  simp only [Result.andThen_ok]
  rw [h2]
  simp only [Result.andThen_ok]
  rw [run_loadVar_row w k tt tz ds.toArray (0, 0) e hk hv ht (by simpa using hj)]
  rfl
end Go.Proofs.YtaipldegobjboaaDoor.Ru

namespace Go.Proofs.YtaipldegobjboaaDoor.Ru
open Go.RowKit Go.Proofs.YtaipldegobjboaaDoor

/-- what Parse answers -/
def ParsS (w w' : World) (R : Except (Int × Int) (List Nd)) (r : Ending) : Prop :=
  match R with
  | .error e => r = .returned (.tuple #[.agg #[.slice none 0 0], .agg #[.int .i64 e.1, .int .i64 e.2]]) ∧ Below w.heap.size w w'
  | .ok L => (∃ v, r = .returned (.tuple #[.agg #[v], .agg #[.int .i64 0, .int .i64 0]]) ∧ w'.ownsRow w.heap.size 33 6 v L.length (rwC ndC L)) ∧ Below w.heap.size w w'
theorem errB_of {w : World} (h : ErrV w) : ErrB w.heap.size w := by
  obtain ⟨tp, p, hv⟩ := h
  refine ⟨⟨tp, p, hv⟩, ?_⟩
  unfold World.var? at hv
  cases hq : Tryd.prog.globalNamed "strconv.ErrSyntax" with
  | none => rw [hq] at hv; cases hv
  | some g =>
    refine ⟨g, rfl, ?_⟩
    rw [hq] at hv
    simp only [Option.bind_some] at hv
    rcases Nat.lt_or_ge g w.heap.size with h' | h'
    · exact h'
    · rw [Array.getElem?_eq_none h'] at hv; cases hv
theorem ErrB.mono {b b' : Nat} {w : World} (h : ErrB b w) (hb : b ≤ b') : ErrB b' w := by
  obtain ⟨h1, g, h2, h3⟩ := h
  exact ⟨h1, g, h2, by omega⟩
/-- what is known behind the reading: the fault, or a tree -/
def Mid (s : ByteArray) (L : List Nd) (e a : Int) : Prop :=
  (e ≠ 0 ∧ parseP s.data.toList = .error (e, a)) ∨
  (e = 0 ∧ a = 0 ∧ ∃ t : Tr, t.ok ∧ t.size ≤ 64 ∧ L = t.flat 0 ∧ parseP s.data.toList = if 1024 < (toldA L).length then .error (3, -1) else .ok L)
/-- .. and behind the test of its length -/
def Mid2 (s : ByteArray) (L : List Nd) (e a : Int) : Prop :=
  (e ≠ 0 ∧ parseP s.data.toList = .error (e, a)) ∨ (e = 0 ∧ a = 0 ∧ parseP s.data.toList = .ok L)
theorem list_size (s : ByteArray) : s.data.toList.length = s.size := by simp
theorem rest0 (s : ByteArray) : rest s 0 = s.data.toList := rfl
section
variable {s : ByteArray}
theorem parse_err (hs : s.size ≤ 1024) {e : Int × Int} (h : orP s.size (s.size + 1) 0 ⟨0, [], rest s 0⟩ = .error e) : parseP s.data.toList = .error e ∧ e.1 ≠ 0 := by
  refine ⟨?_, ?_⟩
  · unfold parseP
    rw [list_size, if_neg (by omega), ← rest0, h]
  · exact (kp_or s.size (s.size + 1) 0 (by omega)).err 0 [] (rest s 0) e (by rw [rest_len]; omega) (by rw [rest_len]; omega) h
theorem parse_more (hs : s.size ≤ 1024) {q : Int × Ps} (h : orP s.size (s.size + 1) 0 ⟨0, [], rest s 0⟩ = .ok q) {k : Nat} (hr : q.2.r = rest s k) (hk : k ≤ s.size) (hm : skip s k < s.size) : parseP s.data.toList = .error (5, (skip s k : Int)) := by
  obtain ⟨-, h2, h3, -, -⟩ := skip_is hk
  unfold parseP
  rw [list_size, if_neg (by omega), ← rest0, h]
  simp only
  rw [hr, h3, if_pos (by intro e; have := rest_len s (skip s k); rw [e] at this; simp at this; omega), pos_rest h2]
theorem parse_mid (hs : s.size ≤ 1024) {q : Int × Ps} (h : orP s.size (s.size + 1) 0 ⟨0, [], rest s 0⟩ = .ok q) {k : Nat} (hr : q.2.r = rest s k) (hk : k ≤ s.size) (hm : ¬ skip s k < s.size) : Mid s q.2.L 0 0 := by
  obtain ⟨h1, h2, h3, -, -⟩ := skip_is hk
  obtain ⟨t, g1, g2, g3⟩ := orP_is (notP_is _ _ 0 (by omega)) _ _ _ q.1 q.2 h
  have hL := g2.L
  simp only [List.nil_append, List.length_nil] at hL
  have hn := g2.n
  have hmm := g2.most
  refine .inr ⟨rfl, rfl, t, g1.1, by omega, hL, ?_⟩
  unfold parseP
  rw [list_size, if_neg (by omega), ← rest0, h]
  simp only
  have he : blk q.2.r = [] := by
    rw [hr, h3]
    have e : skip s k = s.size := by omega
    rw [e, rest_end]
  rw [if_neg (by rw [he]; simp)]
theorem or_got {q : Int × Ps} (h : orP s.size (s.size + 1) 0 ⟨0, [], rest s 0⟩ = .ok q) : q.2.L.length ≤ 64 := by
  obtain ⟨t, g1, g2, g3⟩ := orP_is (notP_is _ _ 0 (by omega)) _ _ _ q.1 q.2 h
  have hL := g2.L
  simp only [List.nil_append, List.length_nil] at hL
  have hn := g2.n
  have hmm := g2.most
  rw [hL, t.flat_len]
  omega
end
/-- behind the reading and the blanks: place k -/
def Mid0 (s : ByteArray) (k : Nat) (L : List Nd) (e a : Int) : Prop :=
  (e ≠ 0 ∧ parseP s.data.toList = .error (e, a)) ∨
  (e = 0 ∧ a = 0 ∧ (k < s.size → parseP s.data.toList = .error (5, (k : Int))) ∧ (¬ k < s.size → Mid s L 0 0))
theorem mid0_of {w w' : World} {s : ByteArray} {b : Nat} {j : Int} (hs : s.size ≤ 1024) (h : OutS b w w' b s ((0 : Nat) : Int) (orP s.size (s.size + 1) 0 ⟨0, [], rest s 0⟩) j) :
    ∃ k d n v L e a, Prs b w' b s k d n v L e a ∧ Mid0 s (skip s k) L e a ∧ Below b w w' := by
  cases hR : orP s.size (s.size + 1) 0 ⟨0, [], rest s 0⟩ with
  | error e =>
    rw [hR] at h
    obtain ⟨⟨k, d, n, v, L, hp⟩, hb⟩ := h
    obtain ⟨h1, h2⟩ := parse_err hs hR
    exact ⟨k, d, n, v, L, e.1, e.2, hp, .inl ⟨h2, h1⟩, hb⟩
  | ok q =>
    rw [hR] at h
    obtain ⟨-, ⟨k, v, hr, hp⟩, hb⟩ := h
    exact ⟨k, _, _, v, q.2.L, 0, 0, hp, .inr ⟨rfl, rfl, fun hm => parse_more hs hR hr hp.kb hm, fun hm => parse_mid hs hR hr hp.kb hm⟩, hb⟩
theorem mid_more {s : ByteArray} {k : Nat} {L : List Nd} {e a : Int} (h : Mid0 s k L e a) (hk : k < s.size) : Mid s L (flt e a 5 (k : Int)).1 (flt e a 5 (k : Int)).2 := by
  unfold flt
  rcases h with ⟨h1, h2⟩ | ⟨rfl, rfl, h1, -⟩
  · rw [if_neg (fun h => h1 h.1)]
    exact .inl ⟨h1, h2⟩
  · rw [if_pos ⟨rfl, rfl⟩]
    exact .inl ⟨by show (5 : Int) ≠ 0; decide, h1 hk⟩
theorem mid_end {s : ByteArray} {k : Nat} {L : List Nd} {e a : Int} (h : Mid0 s k L e a) (hk : ¬ k < s.size) : Mid s L e a := by
  rcases h with ⟨h1, h2⟩ | ⟨rfl, rfl, -, h1⟩
  · exact .inl ⟨h1, h2⟩
  · exact h1 hk
end Go.Proofs.YtaipldegobjboaaDoor.Ru

namespace Go.Proofs.YtaipldegobjboaaDoor.Ru
open Go.RowKit Go.Proofs.YtaipldegobjboaaDoor

theorem size_rule : (Tryd.prog.info? 28).map (·.size) = some 1 := by kernel_rfl
theorem size_fault : (Tryd.prog.info? 81).map (·.size) = some 2 := by kernel_rfl
/-- the parser's block and the two results', in the world -/
structure PW (w wx : World) (R2 b : Nat) : Prop where
  x2 : Blk wx R2 [.slice none 0 0] 28
  x3 : Blk wx (R2 + 1) [.int .i64 0, .int .i64 0] 81
  hb : Below w.heap.size w wx
theorem PW.next {w wx wy : World} {R2 b : Nat} (h : PW w wx R2 b) (hb : Below b wx wy) (hR : R2 + 2 ≤ b) (hw : w.heap.size ≤ b) : PW w wy R2 b :=
  ⟨h.x2.below hb (by omega), h.x3.below hb (by omega), h.hb.trans (hb.mono hw)⟩

theorem own_lower {w : World} {base base' : Nat} {e : TypeId} {size n : Nat} {v : Value} {xs : List Value} (h : w.ownsRow base e size v n xs) (hb : base' ≤ base) : w.ownsRow base' e size v n xs := by
  obtain ⟨h1, h2⟩ := h
  refine ⟨h1, ?_⟩
  rcases h2 with h2 | ⟨g, cap, cur, hv, hg, r⟩
  · exact .inl h2
  · exact .inr ⟨g, cap, cur, hv, by omega, r⟩
/-- behind the test of the text's length -/
def MidR (s : ByteArray) (L : List Nd) (e a : Int) (v : Value) : Prop :=
  (v = .bool true ∧ e = 0 ∧ a = 0 ∧ parseP s.data.toList = .error (3, -1)) ∨ (v = .bool false ∧ Mid2 s L e a)

set_option maxRecDepth 100000 in
set_option maxHeartbeats 2000000 in
theorem parse_any (s : ByteArray) (w : World) (hE : ErrV w) (hT : Tab w) (hs : s.size ≤ maxLen) :
    Calls Tryd.prog 34 #[.string s] w fun r w' => ParsS w w' (parseP s.data.toList) r := by
  have HE := Lib.hid hE
  have HT := Lib.hid hT
  have HS := Lib.hid hs
  have hs63 : (s.size : Int) ≤ 9223372036854775807 := by unfold maxLen at hs; omega
  clear hE hT hs
  go_enter Tryd.func34, Tryd.ntmps34
  go_upto_region 1 with fail
  obtain ⟨R2, hR2⟩ : ∃ R2, R2 = w.heap.size := ⟨_, rfl⟩
  refine at_hide (F := fun w' => PW w w' R2 (R2 + 2) ∧ w'.heap.size = R2 + 2) ⟨⟨by
    rw [hR2]; exact Blk.alloc (Blk.made w [.slice none 0 0] _) _, by
    rw [hR2]; have := Blk.made (w.alloc (.cells [.slice none 0 0].toArray 28)) [.int .i64 0, .int .i64 0] 81; simpa using this, below_and (below_alloc _ _) (below_alloc _ _)⟩, by rw [hR2]; simp⟩ ?_
  intro w1 hF
  have HP1 := Lib.hid hF.1
  have HZ1 := Lib.hid hF.2
  rw [← hR2]
  have HR2 : Hid (w.heap.size ≤ R2) := Lib.hid (by omega)
  have HRW : Hid (R2 = w.heap.size) := Lib.hid hR2
  clear hF hR2
  by_cases hlong : 1024 < s.size
  · have HP : Hid (parseP s.data.toList = .error (3, -1)) := Lib.hid (parse_long (by rw [list_size]; exact hlong))
    have x2 := HP1.out.x2.cell (j := 0) rfl
    have f2 := HP1.out.x2.free 0
    have x3 := HP1.out.x3.cell (j := 0) rfl
    have f3 := HP1.out.x3.free 0
    have x4 := HP1.out.x3.cell (j := 1) rfl
    have f4 := HP1.out.x3.free 1
    go_wp2
    refine ret_cells rfl rfl rfl (((HP1.out.x2.set 0 _).other (a := ⟨R2 + 1, 0, none⟩) (by simp) _).other (a := ⟨R2 + 1, 1, none⟩) (by simp) _) Tryd.underlying28 rfl size_rule rfl (((HP1.out.x3.other (a := ⟨R2, 0, none⟩) (by simp) _).set 0 _).set 1 _) Tryd.underlying81 rfl size_fault ?_
    rw [HP.out]
    exact ⟨rfl, ((HP1.out.hb.setCell (by have := HR2.out; simp; omega) _).setCell (by have := HR2.out; simp; omega) _).setCell (by have := HR2.out; simp; omega) _⟩
  · have hsz : s.size ≤ 1024 := by omega
    obtain ⟨b, hb⟩ : ∃ b, b = R2 + 2 := ⟨_, rfl⟩
    have HBB := Lib.hid hb
    go_upto_region 4 with fail
    refine at_hide (F := fun w' => PW w w' R2 b ∧ Prs b w' b s 0 0 0 (.slice none 0 0) [] 0 0) ⟨HP1.out |> fun h => ⟨h.x2.alloc _, h.x3.alloc _, below_and h.hb (below_alloc _ _)⟩, ⟨by
      have := Blk.made w1 [.string s, .int .i64 0, .int .i64 0, .int .i64 0, .slice none 0 0, .int .i64 0, .int .i64 0] 97; rw [HZ1.out, ← hb] at this; exact this, World.ownsRow_nil _ _ _ _, Nat.le_refl _, Nat.zero_le _, hsz⟩⟩ ?_
    rw [HZ1.out, ← hb]
    intro w2 hF
    have HP2 := Lib.hid hF.1
    have HQ2 := Lib.hid hF.2
    clear hF hb
    have HV2 : Hid (ErrB b w2) := Lib.hid (by
      have := (errB_of HE.out).below (HP2.out.hb)
      exact this.mono (by have := HBB.out; have := HRW.out; omega))
    have HT2 : Hid (Tab w2) := Lib.hid (HT.out.below HP2.out.hb)
    have HC : Hid (Calls Tryd.prog 48 #[ptr b] w2 fun r w' => ∃ j : Int, r = .returned (.int .i64 j) ∧ OutS b w2 w' b s ((0 : Nat) : Int) (orP s.size (s.size + 1) 0 ⟨0, [], rest s 0⟩) j) := Lib.hid (((or_all b b s) 0 0 _ [] w2 HQ2.out (by omega) (by simp) (by omega) (Nat.le_of_lt HQ2.out.blk.lt) HV2.out).mono fun r w' hq => out_j hq)
    go_upto_region 5 with (go_at_call 48; refine HC.out.mono ?_; rintro r w3 ⟨j, rfl, hq⟩; have HQ3 := Lib.hid (mid0_of hsz hq); have HB3 : Hid (Below b w2 w3) := Lib.hid (by obtain ⟨_, _, _, _, _, _, _, _, _, h⟩ := mid0_of hsz hq; exact h); clear hq)
    obtain ⟨k, d, n, v, L, e, a, hP3, hM3, -⟩ := HQ3.out
    have HP3 : Hid (PW w w3 R2 b) := Lib.hid (HP2.out.next HB3.out (by have := HBB.out; omega) (by have := HBB.out; have := HRW.out; omega))
    have HQ4 := Lib.hid hP3
    have HT3 : Hid (Tab w3) := Lib.hid (HT.out.below HP3.out.hb)
    have HM3 := Lib.hid hM3
    clear hP3 hM3 HQ3 HC HV2 HT2 HP2 HQ2
    go_upto_region 6 with (go_at_call 49; refine (blanks_any b b s k d n v L e a _ HQ4.out).mono ?_; rintro r w4 ⟨rfl, hq, hf⟩; have HQ5 := Lib.hid hq; have HB4 : Hid (Below b w3 w4) := Lib.hid (onb_below hf (Nat.le_refl _) (Nat.le_of_lt HQ4.out.blk.lt)); clear hq hf)
    obtain ⟨k2, hk2⟩ : ∃ k2, k2 = skip s k := ⟨_, rfl⟩
    rw [← hk2] at HQ5 HM3
    have HP4 : Hid (PW w w4 R2 b) := Lib.hid (HP3.out.next HB4.out (by have := HBB.out; omega) (by have := HBB.out; have := HRW.out; omega))
    clear hk2 HP3 HQ4 HT3
    have c1 := HQ5.out.c1
    go_upto_if 23 with fail
    clear c1
    go_cut [] (fun wx => ∃ k d n v L e a, Prs b wx b s k d n v L e a ∧ Mid s L e a ∧ PW w wx R2 b)
    case first =>
      have c1 := HQ5.out.c1
      by_cases hlt : k2 < s.size
      · go_wp2_with (go_at_call 50; refine (fails_any b b s k2 d n v L e a 5 _ _ HQ5.out).mono ?_; rintro r w5 ⟨rfl, hq, hf⟩; have HQ6 := Lib.hid hq; have HB5 : Hid (Below b w4 w5) := Lib.hid (onb_below hf (Nat.le_refl _) (Nat.le_of_lt HQ5.out.blk.lt)); clear hq hf)
        go_meet
        exact ⟨k2, d, n, v, L, _, _, HQ6.out, mid_more HM3.out hlt, HP4.out.next HB5.out (by have := HBB.out; omega) (by have := HBB.out; have := HRW.out; omega)⟩
      · go_wp2
        go_meet
        exact ⟨k2, d, n, v, L, e, a, HQ5.out, mid_end HM3.out hlt, HP4.out⟩
    case rest =>
    obtain ⟨k3, d3, n3, v3, L3, e3, a3, hP, hM, hW⟩ := hcut
    obtain ⟨w5, hw5⟩ : ∃ w5, w5 = wc := ⟨_, rfl⟩
    rw [← hw5] at hP hW ⊢
    clear hw5
    have HQ7 := Lib.hid hP
    have HM7 := Lib.hid hM
    have HP7 := Lib.hid hW
    clear hP hM hW HQ5 HM3 HP4 HB4 HB3
    go_upto_region 8 with fail
    go_cut [50] (fun s50 wx => ∃ k d n v L e a, Prs b wx b s k d n v L e a ∧ PW w wx R2 b ∧ MidR s L e a s50)
    case first =>
      by_cases he : e3 = 0
      · have hM := HM7.out
        obtain ⟨he2, -⟩ | ⟨-, rfl, t, ht1, ht2, hL3, hpp⟩ := hM
        · exact absurd he he2
        subst he
        have HPP := Lib.hid hpp
        have HTD := Lib.hid (flat_told t ht1 ht2 (i := L3.length - 1) (by have := t.size_pos; rw [hL3, t.flat_len]; omega))
        obtain ⟨gf, g1, g2, g3⟩ := flat_fine t ht1 ht2
        have HLN : Hid (1 ≤ L3.length ∧ L3.length ≤ 64) := Lib.hid (by rw [hL3]; exact ⟨g2, g3⟩)
        have HTL : Hid (toldA L3 = tl L3 (L3.length - 1)) := Lib.hid (by rw [hL3]; exact toldA_tl gf g2)
        have HLG : Hid ((tl L3 (L3.length - 1)).length ≤ 1000000000000000000) := Lib.hid (by rw [hL3]; exact told_long gf g1 g3 (flat_fit t ht1) (by omega))
        rw [← hL3] at HTD
        clear hpp hL3 ht1 ht2 gf g1 g2 g3 HM7
        obtain ⟨p3, c3, rfl, -, -, hrow⟩ := row_own HQ7.out.own (rwC_one ndC_one L3)
        have HROW := Lib.hid hrow
        clear hrow
        obtain ⟨m, hm⟩ : ∃ m : Nat, m = L3.length - 1 := ⟨_, rfl⟩
        have HMM : Hid (m + 1 = L3.length) := Lib.hid (by have := HLN.out; omega)
        rw [← hm] at HTD HTL HLG
        obtain ⟨S, hS⟩ : ∃ S, S = bs (tl L3 m) := ⟨_, rfl⟩
        have HSZ : Hid (S.size = (toldA L3).length) := Lib.hid (by rw [hS, bs_size, HTL.out])
        have hSB : (S.size : Int) ≤ 1000000000000000000 := by have h1 := HSZ.out; have h2 := HLG.out; rw [HTL.out] at h1; omega
        have HT7 := Lib.hid (HT.out.below HP7.out.hb)
        have HTC : Hid (∀ q : Past w5, Calls Tryd.prog 35 #[.slice p3 L3.length c3, .int .i64 (m : Int)] q.val fun r w' => r = .returned (.string S) ∧ Below q.val.heap.size q.val w') := Lib.hid (fun q => by
          rw [hS]
          exact HTD.out _ q.val (HROW.out.below q.h) (HT7.out.below q.h))
        have p4 : ∀ q : Past w5, q.val.cell? ⟨b, 4, none⟩ = some (.slice p3 L3.length c3) := Past.blk HQ7.out.blk (j := 4) rfl
        have p5 : ∀ q : Past w5, q.val.cell? ⟨b, 5, none⟩ = some (.int .i64 0) := Past.blk HQ7.out.blk (j := 5) rfl
        have p6 : ∀ q : Past w5, q.val.cell? ⟨b, 6, none⟩ = some (.int .i64 0) := Past.blk HQ7.out.blk (j := 6) rfl
        have u1 : IntKind.i64.wrap ((L3.length : Int) - 1) = (m : Int) := by rw [IntKind.wrap_i64]; have := HMM.out; have := HLN.out; omega
        clear hS hm HTD
        have HF9 : Hid (∀ q : Past w5, Prs b q.val b s k3 d3 n3 (.slice p3 L3.length c3) L3 0 0 ∧ PW w q.val R2 b) := Lib.hid (fun q => ⟨HQ7.out.kept q.h, HP7.out.next (q.h.mono (Nat.le_of_lt HQ7.out.blk.lt)) (by have := HBB.out; omega) (by have := HBB.out; have := HRW.out; omega)⟩)
        by_cases hlen : 1024 < S.size
        · have HMR : Hid (MidR s L3 0 0 (.bool true)) := Lib.hid (.inl ⟨rfl, rfl, rfl, by rw [HPP.out, if_pos (by rw [← HSZ.out]; exact hlen)]⟩)
          have t1 : decide (1024 < S.size) = true := decide_eq_true hlen
          have t2 : decide ((1024 : Int) < (S.size : Int)) = true := by simp; omega
          clear HPP HSZ HTL HLG hlen
          refine wp_region_past (by kernel_rfl) (by kernel_rfl) ?_
          repeat (go_big_quiet_step ((go_at_call 35; exact past_call (HTC.out _))))
          refine wpQuiet_nil ?_
          intro _ hw'
          obtain ⟨s9, hw''⟩ := hw'
          subst hw''
          go_wp2
          go_meet
          exact ⟨k3, d3, n3, _, L3, 0, 0, (HF9.out s9).1, (HF9.out s9).2, HMR.out⟩
        · have HMR : Hid (MidR s L3 0 0 (.bool false)) := Lib.hid (.inr ⟨rfl, .inr ⟨rfl, rfl, by rw [HPP.out, if_neg (by rw [← HSZ.out]; exact hlen)]⟩⟩)
          have t1 : decide (1024 < S.size) = false := decide_eq_false hlen
          have t2 : decide ((1024 : Int) < (S.size : Int)) = false := by simp; omega
          clear HPP HSZ HTL HLG hlen
          refine wp_region_past (by kernel_rfl) (by kernel_rfl) ?_
          repeat (go_big_quiet_step ((go_at_call 35; exact past_call (HTC.out _))))
          refine wpQuiet_nil ?_
          intro _ hw'
          obtain ⟨s9, hw''⟩ := hw'
          subst hw''
          go_wp2
          go_meet
          exact ⟨k3, d3, n3, _, L3, 0, 0, (HF9.out s9).1, (HF9.out s9).2, HMR.out⟩
      · have HMR : Hid (MidR s L3 e3 a3 (.bool false)) := Lib.hid (.inr ⟨rfl, by
          rcases HM7.out with ⟨h1, h2⟩ | ⟨h1, -⟩
          · exact .inl ⟨h1, h2⟩
          · exact absurd h1 he⟩)
        have t1 : (e3 == 0) = false := by simpa using he
        have HF9 : Hid (∀ q : Past w5, Prs b q.val b s k3 d3 n3 v3 L3 e3 a3 ∧ PW w q.val R2 b) := Lib.hid (fun q => ⟨HQ7.out.kept q.h, HP7.out.next (q.h.mono (Nat.le_of_lt HQ7.out.blk.lt)) (by have := HBB.out; omega) (by have := HBB.out; have := HRW.out; omega)⟩)
        have p5 : ∀ q : Past w5, q.val.cell? ⟨b, 5, none⟩ = some (.int .i64 e3) := Past.blk HQ7.out.blk (j := 5) rfl
        have p6 : ∀ q : Past w5, q.val.cell? ⟨b, 6, none⟩ = some (.int .i64 a3) := Past.blk HQ7.out.blk (j := 6) rfl
        clear he
        refine wp_region_past (by kernel_rfl) (by kernel_rfl) ?_
        repeat (go_big_quiet_step (fail))
        refine wpQuiet_nil ?_
        intro _ hw'
        obtain ⟨s9, hw''⟩ := hw'
        subst hw''
        go_wp2
        go_meet
        exact ⟨k3, d3, n3, v3, L3, e3, a3, (HF9.out s9).1, (HF9.out s9).2, HMR.out⟩
    case rest =>
    obtain ⟨k4, d4, n4, v4, L4, e4, a4, hP, hW, hM⟩ := hcut
    obtain ⟨w6, hw6⟩ : ∃ w6, w6 = wc := ⟨_, rfl⟩
    rw [← hw6] at hP hW ⊢
    clear hw6
    have HQ8 := Lib.hid hP
    have HP8 := Lib.hid hW
    have HM8 := Lib.hid hM
    clear hP hW hM HQ7 HM7 HP7
    go_upto_if 50 with fail
    go_cut [] (fun wx => ∃ k d n v L e a, Prs b wx b s k d n v L e a ∧ PW w wx R2 b ∧ Mid2 s L e a)
    case first =>
      rcases HM8.out with ⟨rfl, rfl, rfl, hpe⟩ | ⟨rfl, hm2⟩
      · have HPE := Lib.hid hpe
        clear hpe
        go_wp2_with (go_at_call 50; refine (fails_any b b s k4 d4 n4 v4 L4 0 0 3 _ _ HQ8.out).mono ?_; rintro r w7 ⟨rfl, hq, hf⟩; have HQ9 := Lib.hid hq; have HB7 : Hid (Below b w6 w7) := Lib.hid (onb_below hf (Nat.le_refl _) (Nat.le_of_lt HQ8.out.blk.lt)); clear hq hf)
        go_meet
        exact ⟨k4, d4, n4, v4, L4, _, _, HQ9.out, HP8.out.next HB7.out (by have := HBB.out; omega) (by have := HBB.out; have := HRW.out; omega), .inl ⟨by unfold flt; rw [if_pos ⟨rfl, rfl⟩]; show (3 : Int) ≠ 0; decide, by unfold flt; rw [if_pos ⟨rfl, rfl⟩]; exact HPE.out⟩⟩
      · have HM2 := Lib.hid hm2
        clear hm2
        go_wp2
        go_meet
        exact ⟨k4, d4, n4, v4, L4, e4, a4, HQ8.out, HP8.out, HM2.out⟩
    case rest =>
    obtain ⟨k5, d5, n5, v5, L5, e5, a5, hP, hW, hM⟩ := hcut
    obtain ⟨w8, hw8⟩ : ∃ w8, w8 = wc := ⟨_, rfl⟩
    rw [← hw8] at hP hW ⊢
    clear hw8
    have HQ10 := Lib.hid hP
    have HP10 := Lib.hid hW
    clear hP hW HQ8 HP8 HM8
    have c5 := HQ10.out.c5
    have c6 := HQ10.out.c6
    rcases hM with ⟨he, hpp⟩ | ⟨rfl, rfl, hpp⟩
    · have HPP := Lib.hid hpp
      have t1 : (e5 == 0) = false := by simpa using he
      clear he hpp
      go_upto_region 11 with fail
      have x2 := HP10.out.x2.cell (j := 0) rfl
      have f2 := HP10.out.x2.free 0
      have x3 := HP10.out.x3.cell (j := 0) rfl
      have f3 := HP10.out.x3.free 0
      have x4 := HP10.out.x3.cell (j := 1) rfl
      have f4 := HP10.out.x3.free 1
      have hne1 : b ≠ R2 := by have := HBB.out; omega
      have hne2 : b ≠ R2 + 1 := by have := HBB.out; omega
      go_region
      go_wp2
      refine ret_cells (w := World.drew _) rfl rfl rfl (Blk.kept (((HP10.out.x2.set 0 (.slice none 0 0)).other (a := ⟨R2 + 1, 0, none⟩) (by simp) (.int .i64 e5)).other (a := ⟨R2 + 1, 1, none⟩) (by simp) (.int .i64 a5)) (below_drewN 1)) Tryd.underlying28 rfl size_rule rfl (Blk.kept (((HP10.out.x3.other (a := ⟨R2, 0, none⟩) (by simp) (.slice none 0 0)).set 0 (.int .i64 e5)).set 1 (.int .i64 a5)) (below_drewN 1)) Tryd.underlying81 rfl size_fault ?_
      rw [HPP.out]
      exact ⟨rfl, Below.drewN' (((HP10.out.hb.setCell (by have := HR2.out; simp; omega) _).setCell (by have := HR2.out; simp; omega) _).setCell (by have := HR2.out; simp; omega) _) 1⟩
    · have HPP := Lib.hid hpp
      clear hpp
      have c4 := HQ10.out.c4
      have x2 := HP10.out.x2.cell (j := 0) rfl
      have f2 := HP10.out.x2.free 0
      have x3 := HP10.out.x3.cell (j := 0) rfl
      have f3 := HP10.out.x3.free 0
      have x4 := HP10.out.x3.cell (j := 1) rfl
      have f4 := HP10.out.x3.free 1
      obtain ⟨p5, q5, hv5, -, -⟩ := own_slice HQ10.out.own
      have HOW : Hid (w8.ownsRow w.heap.size 33 6 v5 L5.length (rwC ndC L5)) := Lib.hid (own_lower HQ10.out.own (by have := HBB.out; have := HRW.out; omega))
      have HOB : Hid (∀ g, v5.ownBlock = some g → b ≤ g) := Lib.hid (fun g hg => (HQ10.out.own.lt g hg).1)
      rw [hv5] at c4 HOW HOB
      clear hv5
      go_wp2
      refine ret_cells rfl rfl rfl (((HP10.out.x2.set 0 _).other (a := ⟨R2 + 1, 0, none⟩) (by simp) _).other (a := ⟨R2 + 1, 1, none⟩) (by simp) _) Tryd.underlying28 rfl size_rule rfl (((HP10.out.x3.other (a := ⟨R2, 0, none⟩) (by simp) _).set 0 _).set 1 _) Tryd.underlying81 rfl size_fault ?_
      rw [HPP.out]
      refine ⟨⟨_, rfl, ?_⟩, ((HP10.out.hb.setCell (by have := HR2.out; simp; omega) _).setCell (by have := HR2.out; simp; omega) _).setCell (by have := HR2.out; simp; omega) _⟩
      have hb2 := HBB.out
      refine own_other (own_other (own_other HOW.out (p := ⟨R2, 0, none⟩) (fun h => by have := HOB.out _ h; simp at this; omega) _) (p := ⟨R2 + 1, 0, none⟩) (fun h => by have := HOB.out _ h; simp at this; omega) _) (p := ⟨R2 + 1, 1, none⟩) (fun h => by have := HOB.out _ h; simp at this; omega) _
end Go.Proofs.YtaipldegobjboaaDoor.Ru

namespace Go.Proofs.YtaipldegobjboaaDoor.Ru
open Go.RowKit Go.Proofs.YtaipldegobjboaaDoor

theorem bs_list {a b : List UInt8} : ((bs a).toList = (bs b).toList) = (a = b) := by
  rw [Lib.toList_data, Lib.toList_data]
  simp [bs]
theorem nd_neq (x y : Nd) (w : World) : (binOp .neq 33 (ndV x) (ndV y)).run Tryd.prog w = .ok (.bool (!(decide (x = y)))) w := by
  go_simp
  simp only [bs_list]
  obtain ⟨k, nm, vl, xx, a, b⟩ := x
  obtain ⟨k', nm', vl', xx', a', b'⟩ := y
  simp only [Nd.mk.injEq]
  by_cases h1 : k = k'
  · rw [if_pos h1]
    by_cases h2 : nm = nm'
    · rw [if_pos h2]
      by_cases h3 : vl = vl'
      · rw [if_pos h3]
        by_cases h4 : xx = xx'
        · rw [if_pos h4]
          by_cases h5 : a = a'
          · rw [if_pos h5]
            by_cases h6 : b = b'
            · rw [if_pos h6, decide_eq_true ⟨h1, h2, h3, h4, h5, h6⟩]; rfl
            · rw [if_neg h6, decide_eq_false (fun h => h6 h.2.2.2.2.2)]; rfl
          · rw [if_neg h5, decide_eq_false (fun h => h5 h.2.2.2.2.1)]; rfl
        · rw [if_neg h4, decide_eq_false (fun h => h4 h.2.2.2.1)]; rfl
      · rw [if_neg h3, decide_eq_false (fun h => h3 h.2.2.1)]; rfl
    · rw [if_neg h2, decide_eq_false (fun h => h2 h.2.1)]; rfl
  · rw [if_neg h1, decide_eq_false (fun h => h1 h.1)]; rfl
theorem list_ne {L M : List Nd} {i : Nat} (hi : i < L.length) (hj : i < M.length) (h : L[i] ≠ M[i]) : decide (L = M) = false := by
  rw [decide_eq_false_iff_not]
  intro e
  subst e
  exact h rfl
theorem list_all {L M : List Nd} (hl : L.length = M.length) (h : ∀ i (h1 : i < L.length) (h2 : i < M.length), L[i] = M[i]) : decide (L = M) = true := by
  rw [decide_eq_true_iff]
  exact List.ext_getElem hl (fun i h1 h2 => h i h1 h2)

set_option maxRecDepth 100000 in
set_option maxHeartbeats 1000000 in
theorem equal_any (v u : Value) (L M : List Nd) (w : World) (hv : Row w v 6 L.length (rwC ndC L)) (hu : Row w u 6 M.length (rwC ndC M)) :
    Calls Tryd.prog 23 #[v, u] w fun r w' => r = .returned (.bool (decide (L = M))) ∧ Below w.heap.size w w' := by
  obtain ⟨p, c, rfl, hc, hm, -⟩ := id hv
  obtain ⟨p2, c2, rfl, hc2, hm2, -⟩ := id hu
  have HV := Lib.hid hv
  have HU := Lib.hid hu
  have hml : maxLen ≤ 9223372036854775807 := by decide
  have hn63 : (L.length : Int) ≤ 9223372036854775807 := by omega
  have hm63 : (M.length : Int) ≤ 9223372036854775807 := by omega
  clear hv hu hc hm hc2 hm2 hml
  by_cases hl : L.length = M.length
  · have HL := Lib.hid hl
    obtain ⟨n, hn⟩ : ∃ n, n = L.length := ⟨_, rfl⟩
    have HN := Lib.hid hn
    rw [← hl]
    rw [← hn] at hn63 ⊢
    clear hl hn hm63
    go_enter Tryd.func23, Tryd.ntmps23
    have HB0 : Hid (Below w.heap.size w w) := Lib.hid (Below.refl _ _)
    go_wp2
    go_loopw [13] (fun i wr => ∃ k : Nat, k ≤ n ∧ i = .int .i64 (k : Int) ∧ Hid (∀ i (h1 : i < L.length) (h2 : i < M.length), i < k → L[i] = M[i]) ∧ Hid (Below w.heap.size w wr)) (fun i _ => n - (intOf i).toNat)
    case atStart => exact ⟨0, Nat.zero_le _, rfl, Lib.hid (fun _ _ _ h => by omega), Lib.hid (Below.refl _ _)⟩
    case round =>
      obtain ⟨k, hk, rfl, HE, HB⟩ := hrel
      by_cases hlt : k < n
      · have HKL : Hid (k < L.length) := Lib.hid (by have := HN.out; omega)
        have HKM : Hid (k < M.length) := Lib.hid (by have := HN.out; have := HL.out; omega)
        have HLC : Hid (∃ b o, p = some ⟨b, o, none⟩ ∧ ∀ j u, (ndC (L[k]'HKL.out))[j]? = some u → wr.cell? ⟨b, o + k * 6 + j, none⟩ = some u) := Lib.hid (by
          have hr := HV.out.below (below_and HB0.out HB.out)
          exact node_at hr HKL.out)
        have HMC : Hid (∃ b o, p2 = some ⟨b, o, none⟩ ∧ ∀ j u, (ndC (M[k]'HKM.out))[j]? = some u → wr.cell? ⟨b, o + k * 6 + j, none⟩ = some u) := Lib.hid (by
          have hr := HU.out.below (below_and HB0.out HB.out)
          exact node_at hr HKM.out)
        obtain ⟨x, hx⟩ : ∃ x, x = L[k]'HKL.out := ⟨_, rfl⟩
        obtain ⟨y, hy⟩ : ∃ y, y = M[k]'HKM.out := ⟨_, rfl⟩
        rw [← hx] at HLC
        rw [← hy] at HMC
        have HX := Lib.hid hx
        have HY := Lib.hid hy
        clear hx hy
        obtain ⟨b, o, rfl, hcell⟩ := HLC.out
        obtain ⟨b', o', rfl, hcell'⟩ := HMC.out
        have q0 := hcell 0 _ rfl
        rw [Nat.add_zero] at q0
        have q1 := hcell 1 _ rfl
        have q2 := hcell 2 _ rfl
        have q3 := hcell 3 _ rfl
        have q4 := hcell 4 _ rfl
        have q5 := hcell 5 _ rfl
        have r0 := hcell' 0 _ rfl
        rw [Nat.add_zero] at r0
        have r1 := hcell' 1 _ rfl
        have r2 := hcell' 2 _ rfl
        have r3 := hcell' 3 _ rfl
        have r4 := hcell' 4 _ rfl
        have r5 := hcell' 5 _ rfl
        clear hcell hcell' HLC HMC
        by_cases he : x = y
        · have hne : ∀ w, (binOp .neq 33 (.agg #[.int .i64 x.k, .string (bs x.nm), .string (bs x.vl), .int .i64 x.x, .int .i64 x.a, .int .i64 x.b]) (.agg #[.int .i64 y.k, .string (bs y.nm), .string (bs y.vl), .int .i64 y.x, .int .i64 y.a, .int .i64 y.b])).run Tryd.prog w = .ok (.bool false) w := fun w => by have := nd_neq x y w; rw [decide_eq_true he] at this; exact this
          have HE2 : Hid (∀ i (h1 : i < L.length) (h2 : i < M.length), i < k + 1 → L[i] = M[i]) := Lib.hid (fun i h1 h2 hi => by
            by_cases e : i = k
            · subst e
              have e1 := HX.out
              have e2 := HY.out
              rw [← e1, ← e2, he]
            · exact HE.out i h1 h2 (by omega))
          clear he
          go_wp2
          go_quiet (fail)
          have HB2 : Hid (Below w.heap.size w (wr.drewN nq)) := Lib.hid (Below.drewN' HB.out nq)
          go_wp2
          go_roundw
          case rel => exact ⟨k + 1, by omega, by go_num, HE2, HB2⟩
          case measure => simp [intOf]; omega
        · have hne : ∀ w, (binOp .neq 33 (.agg #[.int .i64 x.k, .string (bs x.nm), .string (bs x.vl), .int .i64 x.x, .int .i64 x.a, .int .i64 x.b]) (.agg #[.int .i64 y.k, .string (bs y.nm), .string (bs y.vl), .int .i64 y.x, .int .i64 y.a, .int .i64 y.b])).run Tryd.prog w = .ok (.bool true) w := fun w => by have := nd_neq x y w; rw [decide_eq_false he] at this; exact this
          have HN2 : Hid (decide (L = M) = false) := Lib.hid (list_ne HKL.out HKM.out (by rw [← HX.out, ← HY.out]; exact he))
          clear he
          go_wp2
          go_quiet (fail)
          have HB2 : Hid (Below w.heap.size w (wr.drewN nq)) := Lib.hid (Below.drewN' (below_and HB0.out HB.out) nq)
          go_wp2
          go_ret
          exact ⟨ret_bool HN2.out.symm, HB2.out⟩
      · obtain rfl : k = n := by omega
        have HN2 : Hid (decide (L = M) = true) := Lib.hid (list_all HL.out (fun i h1 h2 => HE.out i h1 h2 (by have := HN.out; omega)))
        go_wp2
        go_ret
        exact ⟨ret_bool HN2.out.symm, below_and HB0.out HB.out⟩
  · have HN2 : Hid (decide (L = M) = false) := Lib.hid (by rw [decide_eq_false_iff_not]; intro e; rw [e] at hl; exact hl rfl)
    have t1 : ((L.length : Int) != (M.length : Int)) = true := by simp; omega
    have t2 : (L.length != M.length) = true := by simpa using hl
    have t3 : (L.length == M.length) = false := by simpa using hl
    go_enter Tryd.func23, Tryd.ntmps23
    go_wp2
    go_ret
    exact ⟨ret_bool HN2.out.symm, Below.refl _ _⟩
end Go.Proofs.YtaipldegobjboaaDoor.Ru

namespace Go.Proofs.YtaipldegobjboaaDoor.Ru
open Go.RowKit Go.Proofs.YtaipldegobjboaaDoor

/-- what a rule's nodes must be for a walk -/
theorem bs_data (l : List UInt8) : (bs l).data.toList = l := by simp [bs]

set_option maxRecDepth 100000 in
set_option maxHeartbeats 1000000 in
theorem check_any (v : Value) (L : List Nd) (w : World) (hv : Row w v 6 L.length (rwC ndC L)) (hc : ∀ n ∈ L, Fit1 n) (hE : ErrV w) (hT : Tab w) :
    Calls Tryd.prog 22 #[.agg #[v]] w fun r w' => r = .returned (.int .i64 (checkP L)) ∧ Below w.heap.size w w' := by
  obtain ⟨p, c, rfl, hcc, hm, -⟩ := id hv
  have HV := Lib.hid hv
  have HC := Lib.hid hc
  have HE := Lib.hid hE
  have HT := Lib.hid hT
  have hml : maxLen ≤ 9223372036854775807 := by decide
  obtain ⟨n, hn⟩ : ∃ n, n = L.length := ⟨_, rfl⟩
  have HN := Lib.hid hn
  rw [← hn] at hcc HV ⊢
  have hn63 : (n : Int) ≤ 9223372036854775807 := by omega
  clear hv hc hE hT hcc hm hml hn
  obtain ⟨w1, hw1⟩ : ∃ w1, w1 = w.alloc (.cells #[.slice p n c] 28) := ⟨_, rfl⟩
  have HB1 : Hid (Below w.heap.size w w1) := Lib.hid (by rw [hw1]; exact below_alloc _ _)
  have HX1 : Hid (Blk w1 w.heap.size [.slice p n c] 28) := Lib.hid (by rw [hw1]; exact Blk.made w [_] _)
  have HS : Hid (Calls Tryd.prog 33 #[.slice p n c] w1 fun r w' => r = .returned (.bool (shapedB L)) ∧ Below w1.heap.size w1 w') := Lib.hid (shaped_any _ L w1 (by have := HV.out.below HB1.out; rw [HN.out] at this ⊢; exact this))
  cases hsh : shapedB L with
  | false =>
    have HCK : Hid (checkP L = 2) := Lib.hid (by unfold checkP; rw [hsh]; rfl)
    rw [hsh] at HS
    have b0 := HX1.out.cell (j := 0) rfl
    clear hsh
    go_enter Tryd.func22, Tryd.ntmps22
    go_upto_region 1 with fail
    rw [← hw1]
    clear hw1
    go_wp2_with (go_at_call 33; refine HS.out.mono ?_; rintro r w2 ⟨rfl, hb⟩; have HB2 := Lib.hid (below_and HB1.out hb); clear hb)
    go_ret
    exact ⟨ret_int HCK.out.symm, HB2.out⟩
  | true =>
    obtain ⟨hf, h1, h2, h3⟩ := shaped_fine hsh
    rw [hsh] at HS
    obtain ⟨m, hm⟩ : ∃ m, n = m + 1 := ⟨n - 1, by have := HN.out; omega⟩
    have HM := Lib.hid hm
    have HTO := Lib.hid (told_any hf h1 h3 HC.out L.length m (by have := HN.out; omega) (by have := HN.out; omega))
    have HTA : Hid (toldA L = tl L m) := Lib.hid (by rw [toldA_tl hf h2]; congr 1; have := HN.out; omega)
    have HTL := Lib.hid (told_long hf h1 h3 HC.out (i := m) (by have := HN.out; omega))
    have HCK : Hid (checkP L = match parseP (toldA L) with | .ok M => if M = L then 0 else 2 | .error _ => 2) := Lib.hid (by unfold checkP; rw [if_pos hsh]; cases parseP (toldA L) <;> rfl)
    have u1 : IntKind.i64.wrap ((n : Int) - 1) = (m : Int) := by rw [IntKind.wrap_i64]; have := HN.out; omega
    obtain ⟨S, hS⟩ : ∃ S, S = bs (tl L m) := ⟨_, rfl⟩
    have HSD : Hid (parseP (toldA L) = parseP S.data.toList) := Lib.hid (by rw [hS, bs_data, HTA.out])
    have HSZ : Hid (S.size ≤ maxLen) := Lib.hid (by rw [hS, bs_size]; have := HTL.out; unfold maxLen; omega)
    have HTS : Hid (∀ w2, Below w1.heap.size w1 w2 → Calls Tryd.prog 35 #[.slice p n c, .int .i64 (m : Int)] w2 fun r w' => r = .returned (.string S) ∧ Below w2.heap.size w2 w') := Lib.hid (fun w2 hb => by
      rw [hS]
      exact HTO.out _ w2 (by have := HV.out.below (below_and HB1.out hb); rw [HN.out] at this ⊢; exact this) (HT.out.below (below_and HB1.out hb)))
    rw [HSD.out] at HCK
    clear hsh hf h1 h2 h3 hm hS HTO HTA HTL HSD
    have b0 := HX1.out.cell (j := 0) rfl
    go_enter Tryd.func22, Tryd.ntmps22
    go_upto_region 1 with fail
    rw [← hw1]
    obtain ⟨R, hR⟩ : ∃ R, R = w.heap.size := ⟨_, rfl⟩
    have HR := Lib.hid hR
    rw [← hR] at b0 HX1 ⊢
    clear hw1 hR
    go_upto_region 3 with (go_at_call 33; refine HS.out.mono ?_; rintro r w2 ⟨rfl, hb⟩; have HB2 := Lib.hid hb; have b2 := (HX1.out.kept hb).cell (j := 0) rfl; clear hb)
    cases hpp : parseP S.data.toList with
    | error e =>
      have HCK2 : Hid (checkP L = 2) := Lib.hid (by rw [HCK.out, hpp])
      have HPA : Hid (∀ w3, Below w1.heap.size w1 w3 → Calls Tryd.prog 34 #[.string S] w3 fun r w' => r = .returned (.tuple #[.agg #[.slice none 0 0], .agg #[.int .i64 e.1, .int .i64 e.2]]) ∧ Below w3.heap.size w3 w') := Lib.hid (fun w3 hb => by
        have := parse_any S w3 (HE.out.below (below_and HB1.out hb)) (HT.out.below (below_and HB1.out hb)) HSZ.out
        rw [hpp] at this
        exact this)
      have HE0 : Hid (e.1 ≠ 0) := Lib.hid (by have := parseP_fault hpp; omega)
      clear hpp
      obtain ⟨e1, e2⟩ := e
      simp only at HPA HE0
      have t1 : (e1 == 0) = false := by simpa using HE0.out
      go_wp2_with (first
        | (go_at_call 35; refine (HTS.out _ HB2.out).mono ?_; rintro r w3 ⟨rfl, hb⟩; have HB3 := Lib.hid (below_and HB2.out hb); clear hb)
        | (go_at_call 34; refine (HPA.out _ HB3.out).mono ?_; rintro r w4 ⟨rfl, hb⟩; have HB4 := Lib.hid (below_and HB3.out hb); clear hb))
      go_ret
      exact ⟨ret_int HCK2.out.symm, below_and HB1.out (below_and HB4.out (below_and (below_alloc _ _) (below_alloc _ _)))⟩
    | ok M =>
      have HPA : Hid (∀ w3, Below w1.heap.size w1 w3 → Calls Tryd.prog 34 #[.string S] w3 fun r w' => ∃ q d, r = .returned (.tuple #[.agg #[.slice q M.length d], .agg #[.int .i64 0, .int .i64 0]]) ∧ Row w' (.slice q M.length d) 6 M.length (rwC ndC M) ∧ Below w3.heap.size w3 w') := Lib.hid (fun w3 hb => by
        have := parse_any S w3 (HE.out.below (below_and HB1.out hb)) (HT.out.below (below_and HB1.out hb)) HSZ.out
        rw [hpp] at this
        refine this.mono fun r w' h => ?_
        obtain ⟨⟨v, h1, h2⟩, h3⟩ := h
        obtain ⟨q, d, rfl, -, -, h4⟩ := row_own h2 (rwC_one ndC_one M)
        exact ⟨q, d, h1, h4, h3⟩)
      have HCK2 : Hid (checkP L = if M = L then 0 else 2) := Lib.hid (by rw [HCK.out, hpp])
      clear hpp HCK
      have HEQ : Hid (∀ q d w3, Row w3 (.slice q M.length d) 6 M.length (rwC ndC M) → Below w1.heap.size w1 w3 → Calls Tryd.prog 23 #[.slice q M.length d, .slice p n c] w3 fun r w' => r = .returned (.bool (decide (M = L))) ∧ Below w3.heap.size w3 w') := Lib.hid (fun q d w3 h1 hb => by
        have := HV.out.below (below_and HB1.out hb)
        rw [HN.out] at this ⊢
        exact equal_any _ _ M L w3 h1 this)
      obtain ⟨ml, hml⟩ : ∃ ml, ml = M.length := ⟨_, rfl⟩
      rw [← hml] at HPA HEQ
      clear hml
      by_cases hML : M = L
      · skip
        rw [decide_eq_true hML] at HEQ
        rw [if_pos hML] at HCK2
        clear hML
        go_upto_region 4 with (first
          | (go_at_call 35; refine (HTS.out _ HB2.out).mono ?_; rintro r w3 ⟨rfl, hb⟩; have HB3 := Lib.hid (below_and HB2.out hb); clear hb)
          | (go_at_call 34; refine (HPA.out _ HB3.out).mono ?_; rintro r w4 ⟨q, d, rfl, hrow, hb⟩; have HB4 := Lib.hid (below_and HB3.out hb); have HR4 := Lib.hid hrow; clear hb hrow))
        obtain ⟨X, hX⟩ : ∃ X, X = w4.heap.size := ⟨_, rfl⟩
        refine at_hide (F := fun w' => Blk w' X [.slice q ml d] 28 ∧ Blk w' (X + 1) [.int .i64 0, .int .i64 0] 81 ∧ Below w4.heap.size w4 w') ⟨by
          rw [hX]; exact Blk.alloc (Blk.made w4 [.slice q ml d] _) _, by
          rw [hX]; have := Blk.made (w4.alloc (.cells [.slice q ml d].toArray 28)) [.int .i64 0, .int .i64 0] 81; rw [show (w4.alloc (.cells [.slice q ml d].toArray 28)).heap.size = w4.heap.size + 1 from by simp] at this; exact this, below_and (below_alloc _ _) (below_alloc _ _)⟩ ?_
        rw [← hX]
        intro w5 hF
        have hb5 : Below w4.heap.size w4 w5 := by have := hF.2.2; rw [hX] at this; exact this
        have HB5 : Hid (Below w1.heap.size w1 w5) := Lib.hid (below_and HB4.out hb5)
        have HR5 := Lib.hid (HR4.out.below hb5)
        have c0 := hF.1.cell (j := 0) rfl
        have c1 := hF.2.1.cell (j := 0) rfl
        have c2 := hF.2.1.cell (j := 1) rfl
        have c3 := (HX1.out.kept HB5.out).cell (j := 0) rfl
        clear hF hX b2 hb5
        go_wp2_with (go_at_call 23; refine (HEQ.out _ _ _ HR5.out HB5.out).mono ?_; rintro r w6 ⟨rfl, hb⟩; have HB6 := Lib.hid (below_and HB5.out hb); clear hb)
        go_ret
        exact ⟨ret_int HCK2.out.symm, below_and HB1.out HB6.out⟩
      · skip
        rw [decide_eq_false hML] at HEQ
        rw [if_neg hML] at HCK2
        clear hML
        go_upto_region 4 with (first
          | (go_at_call 35; refine (HTS.out _ HB2.out).mono ?_; rintro r w3 ⟨rfl, hb⟩; have HB3 := Lib.hid (below_and HB2.out hb); clear hb)
          | (go_at_call 34; refine (HPA.out _ HB3.out).mono ?_; rintro r w4 ⟨q, d, rfl, hrow, hb⟩; have HB4 := Lib.hid (below_and HB3.out hb); have HR4 := Lib.hid hrow; clear hb hrow))
        obtain ⟨X, hX⟩ : ∃ X, X = w4.heap.size := ⟨_, rfl⟩
        refine at_hide (F := fun w' => Blk w' X [.slice q ml d] 28 ∧ Blk w' (X + 1) [.int .i64 0, .int .i64 0] 81 ∧ Below w4.heap.size w4 w') ⟨by
          rw [hX]; exact Blk.alloc (Blk.made w4 [.slice q ml d] _) _, by
          rw [hX]; have := Blk.made (w4.alloc (.cells [.slice q ml d].toArray 28)) [.int .i64 0, .int .i64 0] 81; rw [show (w4.alloc (.cells [.slice q ml d].toArray 28)).heap.size = w4.heap.size + 1 from by simp] at this; exact this, below_and (below_alloc _ _) (below_alloc _ _)⟩ ?_
        rw [← hX]
        intro w5 hF
        have hb5 : Below w4.heap.size w4 w5 := by have := hF.2.2; rw [hX] at this; exact this
        have HB5 : Hid (Below w1.heap.size w1 w5) := Lib.hid (below_and HB4.out hb5)
        have HR5 := Lib.hid (HR4.out.below hb5)
        have c0 := hF.1.cell (j := 0) rfl
        have c1 := hF.2.1.cell (j := 0) rfl
        have c2 := hF.2.1.cell (j := 1) rfl
        have c3 := (HX1.out.kept HB5.out).cell (j := 0) rfl
        clear hF hX b2 hb5
        go_wp2_with (go_at_call 23; refine (HEQ.out _ _ _ HR5.out HB5.out).mono ?_; rintro r w6 ⟨rfl, hb⟩; have HB6 := Lib.hid (below_and HB5.out hb); clear hb)
        go_ret
        exact ⟨ret_int HCK2.out.symm, below_and HB1.out HB6.out⟩

end Go.Proofs.YtaipldegobjboaaDoor.Ru
