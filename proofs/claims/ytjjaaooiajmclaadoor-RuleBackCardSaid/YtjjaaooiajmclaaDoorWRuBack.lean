/- RuleBack, walked. -/
import Derived.Test.YtjjaaooiajmclaaDoorRuLawP
namespace Go.Proofs.YtjjaaooiajmclaaDoor.Ru
open Go.RowKit Go.Proofs.YtjjaaooiajmclaaDoor

set_option maxRecDepth 100000 in
set_option maxHeartbeats 2000000 in
theorem ruleBack_walk (s : ByteArray) (w : World) (hs : s.size ≤ 140737488351232) (hE : ErrV w) (hT : Tab w) :
    Calls Tryd.prog 3 #[.string s] w fun r w' => r = .returned (.bool true) ∧ Below w.heap.size w w' := by
  have HE : Hid (Env w) := Lib.hid ⟨hE, hT⟩
  have hml : s.size ≤ maxLen := by unfold maxLen; omega
  have hs63 : (s.size : Int) ≤ 9223372036854775807 := by omega
  have HLV := Lib.hid (lives_any w HE.out)
  cases hpp : parseP s.data.toList with
  | error e =>
    have HPA : Hid (∀ w1, Env w1 → Calls Tryd.prog 7 #[.string s] w1 fun r w' => r = .returned (.tuple #[.agg #[.slice none 0 0], .agg #[.int .i64 e.1, .int .i64 e.2]]) ∧ Below w1.heap.size w1 w') := Lib.hid (fun w1 h => parse_no hpp w1 h hml)
    obtain ⟨e1, e2⟩ := e
    obtain ⟨f1, f2, f3⟩ := parseP_fault hpp
    rw [list_size] at f3
    simp only at f1 f2 f3 HPA
    have t1 : (e1 == 0) = false := by rcases f1 with ⟨h, -⟩ | h <;> subst h <;> rfl
    clear hpp hE hT hml hs
    go_enter Tryd.func3, Tryd.ntmps3
    go_upto_region 3 with (go_at_call 6; refine HLV.out.mono ?_; rintro r w1 ⟨rfl, hb⟩; have HB1 := Lib.hid hb; have HE1 := Lib.hid (HE.out.below hb); clear hb)
    go_upto_region 4 with (go_at_call 7; refine (HPA.out _ HE1.out).mono ?_; rintro r w2 ⟨rfl, hb⟩; have HB2 := Lib.hid (below_and HB1.out hb); clear hb)
    obtain ⟨X, hX⟩ : ∃ X, X = w2.heap.size := ⟨_, rfl⟩
    have h2 := two_cells w2 (.slice none 0 0) (.int .i64 e1) (.int .i64 e2) 25 28
    obtain ⟨w3, hw3⟩ : ∃ w3, w3 = (w2.alloc (.cells #[.slice none 0 0] 25)).alloc (.cells #[.int .i64 e1, .int .i64 e2] 28) := ⟨_, rfl⟩
    rw [← hw3] at h2 ⊢
    have HB3 := Lib.hid (below_and HB2.out h2.2.2)
    rw [← hX] at h2 ⊢
    have c0 := h2.1.cell (j := 0) rfl
    have c1 := h2.2.1.cell (j := 0) rfl
    have c2 := h2.2.1.cell (j := 1) rfl
    clear h2 hw3 hX
    have t2 : decide ((-1 : Int) ≤ e2) = true := by simpa using f2
    have t3 : decide (e2 ≤ (s.size : Int)) = true := by simpa using f3
    rcases f1 with ⟨rfl, f1⟩ | rfl
    · have t4 : decide ((0 : Int) ≤ e2) = true := by simpa using f1
      go_wp2
      go_ret
      exact ⟨rfl, HB3.out⟩
    · go_wp2
      go_ret
      exact ⟨rfl, HB3.out⟩
  | ok L =>
    obtain ⟨g1, g2, g3, g4⟩ := check_parse hpp
    have HPA : Hid (∀ w1, Env w1 → Calls Tryd.prog 7 #[.string s] w1 fun r w' => ∃ q d, r = .returned (.tuple #[.agg #[.slice q L.length d], .agg #[.int .i64 0, .int .i64 0]]) ∧ Row w' (.slice q L.length d) 6 L.length (rwC ndC L) ∧ Below w1.heap.size w1 w') := Lib.hid (fun w1 h => parse_ok hpp w1 h hml)
    obtain ⟨T, hT2⟩ : ∃ T, T = bs (toldA L) := ⟨_, rfl⟩
    have hlen := told_len hpp
    have HPB : Hid (∀ w1, Env w1 → Calls Tryd.prog 7 #[.string T] w1 fun r w' => ∃ q d, r = .returned (.tuple #[.agg #[.slice q L.length d], .agg #[.int .i64 0, .int .i64 0]]) ∧ Row w' (.slice q L.length d) 6 L.length (rwC ndC L) ∧ Below w1.heap.size w1 w') := Lib.hid (fun w1 h => parse_ok (s := T) (by rw [hT2, bs_data]; exact g1) w1 h (by rw [hT2, bs_size]; unfold maxLen; omega))
    have HTX : Hid (∀ v w1, Env w1 → Row w1 v 6 L.length (rwC ndC L) → Calls Tryd.prog 8 #[.agg #[v]] w1 fun r w' => r = .returned (.tuple #[.string T, .int .i64 0]) ∧ Below w1.heap.size w1 w') := Lib.hid (fun v w1 h1 h2 => by
      rw [hT2]
      exact text_ok hpp v w1 h2 h1)
    have HCK : Hid (∀ v w1, Env w1 → Row w1 v 6 L.length (rwC ndC L) → Calls Tryd.prog 9 #[.agg #[v]] w1 fun r w' => r = .returned (.int .i64 0) ∧ Below w1.heap.size w1 w') := Lib.hid (fun v w1 h1 h2 => check_ok hpp v w1 h2 h1)
    have HSR : Hid (∀ v u w1, Row w1 v 6 L.length (rwC ndC L) → Row w1 u 6 L.length (rwC ndC L) → Calls Tryd.prog 10 #[.agg #[v], .agg #[u]] w1 fun r w' => r = .returned (.bool true) ∧ Below w1.heap.size w1 w') := Lib.hid (fun v u w1 h1 h2 => by
      have := same_rule v u L L w1 h1 h2
      rw [decide_eq_true rfl] at this
      exact this)
    obtain ⟨n, hn⟩ : ∃ n, n = L.length := ⟨_, rfl⟩
    have hn64 : n ≤ 64 := by omega
    rw [← hn] at HPA HPB HTX HCK HSR
    have t1 : decide ((n : Int) ≤ 64) = true := by simp; omega
    clear hpp hE hT hml hs g1 g2 g3 g4 hT2 hlen hn
    go_enter Tryd.func3, Tryd.ntmps3
    go_upto_region 3 with (go_at_call 6; refine HLV.out.mono ?_; rintro r w1 ⟨rfl, hb⟩; have HB1 := Lib.hid hb; have HE1 := Lib.hid (HE.out.below hb); clear hb)
    go_upto_region 4 with (go_at_call 7; refine (HPA.out _ HE1.out).mono ?_; rintro r w2 ⟨q, d, rfl, hr, hb⟩; have HR2 := Lib.hid hr; have HB2 := Lib.hid (below_and HB1.out hb); clear hr hb)
    obtain ⟨X, hX⟩ : ∃ X, X = w2.heap.size := ⟨_, rfl⟩
    have h2 := two_cells w2 (.slice q n d) (.int .i64 0) (.int .i64 0) 25 28
    obtain ⟨w3, hw3⟩ : ∃ w3, w3 = (w2.alloc (.cells #[.slice q n d] 25)).alloc (.cells #[.int .i64 0, .int .i64 0] 28) := ⟨_, rfl⟩
    rw [← hw3] at h2 ⊢
    have HB3 := Lib.hid (below_and HB2.out h2.2.2)
    have HR3 := Lib.hid (HR2.out.below h2.2.2)
    rw [← hX] at h2 ⊢
    have HX3 := Lib.hid h2.1
    have HE3 := Lib.hid (HE.out.below HB3.out)
    have c0 := h2.1.cell (j := 0) rfl
    have c1 := h2.2.1.cell (j := 0) rfl
    have c2 := h2.2.1.cell (j := 1) rfl
    clear h2 hw3 hX
    go_upto_region 7 with (go_at_call 8; refine (HTX.out _ _ HE3.out HR3.out).mono ?_; rintro r w4 ⟨rfl, hb⟩; have HX4 := Lib.hid (HX3.out.kept hb); have HR4 := Lib.hid (HR3.out.below hb); have HB4 := Lib.hid (below_and HB3.out hb); have HE4 := Lib.hid (HE3.out.below hb); clear hb)
    clear c0 c1 c2
    go_upto_region 8 with (go_at_call 7; refine (HPB.out _ HE4.out).mono ?_; rintro r w5 ⟨q5, d5, rfl, hr, hb⟩; have HR5 := Lib.hid hr; have HB5 := Lib.hid (below_and HB4.out hb); have HX5 := Lib.hid (HX4.out.kept hb); have HR5' := Lib.hid (HR4.out.below hb); clear hr hb)
    obtain ⟨Z, hZ⟩ : ∃ Z, Z = w5.heap.size := ⟨_, rfl⟩
    have h2 := two_cells w5 (.slice q5 n d5) (.int .i64 0) (.int .i64 0) 25 28
    obtain ⟨w6, hw6⟩ : ∃ w6, w6 = (w5.alloc (.cells #[.slice q5 n d5] 25)).alloc (.cells #[.int .i64 0, .int .i64 0] 28) := ⟨_, rfl⟩
    rw [← hw6] at h2 ⊢
    have HB6 := Lib.hid (below_and HB5.out h2.2.2)
    have HR6 := Lib.hid (HR5.out.below h2.2.2)
    have HR6' := Lib.hid (HR5'.out.below h2.2.2)
    have HX6 := Lib.hid (HX5.out.kept h2.2.2)
    have HE6 := Lib.hid (HE.out.below HB6.out)
    rw [← hZ] at h2 ⊢
    have HZ6 := Lib.hid h2.1
    have HY6 := Lib.hid h2.2.1
    clear h2 hw6 hZ
    have c0 := HZ6.out.cell (j := 0) rfl
    go_upto_region 9 with (go_at_call 8; refine (HTX.out _ _ HE6.out HR6.out).mono ?_; rintro r w7 ⟨rfl, hb⟩; have HX7 := Lib.hid (HX6.out.kept hb); have HZ7 := Lib.hid (HZ6.out.kept hb); have HY7 := Lib.hid (HY6.out.kept hb); have HR7 := Lib.hid (HR6.out.below hb); have HR7' := Lib.hid (HR6'.out.below hb); have HB7 := Lib.hid (below_and HB6.out hb); have HE7 := Lib.hid (HE6.out.below hb); clear hb)
    clear c0
    have x0 := HX7.out.cell (j := 0) rfl
    go_wp2_with (first
      | (go_at_call 9; refine (HCK.out _ _ HE7.out HR7'.out).mono ?_; rintro r w8 ⟨rfl, hb⟩; have HR8 := Lib.hid (HR7.out.below hb); have HR8' := Lib.hid (HR7'.out.below hb); have HB8 := Lib.hid (below_and HB7.out hb); have HX8 := Lib.hid (HX7.out.kept hb); have y0 := (HX7.out.kept hb).cell (j := 0) rfl; have y1 := (HZ7.out.kept hb).cell (j := 0) rfl; have y2 := (HY7.out.kept hb).cell (j := 0) rfl; have y3 := (HY7.out.kept hb).cell (j := 1) rfl; clear hb x0)
      | (go_at_call 10; refine (HSR.out _ _ _ HR8.out HR8'.out).mono ?_; rintro r w9 ⟨rfl, hb⟩; have HB9 := Lib.hid (below_and HB8.out hb); have z0 := (HX8.out.kept hb).cell (j := 0) rfl; clear hb))
    go_ret
    exact ⟨rfl, HB9.out⟩
end Go.Proofs.YtjjaaooiajmclaaDoor.Ru
