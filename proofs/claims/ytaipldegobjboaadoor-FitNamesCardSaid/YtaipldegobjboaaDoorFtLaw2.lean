/- FtLaw2. -/
import Derived.Test.YtaipldegobjboaaDoorFtLaw
namespace Go.Proofs.YtaipldegobjboaaDoor.Ft
open Go.RowKit Go.Proofs.YtaipldegobjboaaDoor Go.Proofs.YtaipldegobjboaaDoor.Ru

theorem whole_some {V : Vw} (h : Chk V) {p : List UInt8} {a : Am} (hw : wholeP V p = some a) (k : Nat) (hk : k < 4) : sumK (inP V.us p) k ≤ a.get k := by
  obtain ⟨r, -, ho, ht⟩ := room_there h hw
  exact take_fits ho ht k hk

/-! more capacity -/
theorem add_more {a b c : Am} (h : addR a b = (c, 0)) : a.okB = true ∧ b.okB = true ∧ c.okB = true ∧ ∀ k, k < 4 → c.get k = a.get k + b.get k := by
  unfold addR at h
  cases ha : (a.okB && b.okB)
  · rw [if_pos ha] at h; cases h
  · rw [if_neg (by rw [ha]; decide)] at h
    simp only [Bool.and_eq_true] at ha
    cases hx : any4 (fun k => decide (1099511627776 < a.get k + b.get k))
    · rw [hx, if_neg (by decide)] at h
      cases h
      refine ⟨ha.1, ha.2, (Am.okB_iff _).2 fun q hq => ?_, fun k hk => Am.of_get _ k hk⟩
      rw [Am.of_get _ q hq]
      have h1 := ok_get ha.1 hq
      have h2 := ok_get ha.2 hq
      have h3 := any4_false hx hq
      simp only [decide_eq_false_iff_not] at h3
      omega
    · rw [hx, if_pos rfl] at h; cases h
theorem whole_cap (V : Vw) (c : Am) (p : List UInt8) : wholeP { V with cap := c } p = if p = [] then some c else wholeP V p := by
  unfold wholeP
  by_cases hp : p = []
  · rw [if_pos hp, if_pos hp]
  · rw [if_neg hp, if_neg hp, if_neg hp]
theorem fit_more {N : Ne} {V : Vw} {k : Int} {p : List UInt8} (h : fitP N V = (k, p, 0)) {m c : Am} (hc : addR V.cap m = (c, 0)) : ∃ x q, fitP N { V with cap := c } = (x, q, 0) ∧ k ≤ x := by
  obtain ⟨h1, h2⟩ := fit_of h
  obtain ⟨g1, g2, g3, g4⟩ := add_more hc
  have hchk : Chk { V with cap := c } := ⟨h2.nm, h2.at', g3, h2.fine, h2.nd, fun u hu => by
    have hr := h2.room u hu
    rw [room_whole, whole_cap]
    rw [room_whole] at hr
    by_cases hp : u.n = []
    · rw [if_pos hp]
      have hw : wholeP V u.n = some V.cap := by unfold wholeP; rw [if_pos hp]
      have hs := whole_some h2 hw
      obtain ⟨r, hr⟩ := take_of (l := inP V.us u.n) g3 (oks_filter h2.oks _) (fun q hq => by
        have := hs q hq
        have := g4 q hq
        have := ok_get g2 hq
        omega)
      simp only [Option.bind_some]
      show (takeP c (inP V.us u.n)).isSome = true
      rw [hr]; rfl
    · rw [if_neg hp]
      exact hr⟩
  refine fit_mono h h1 hchk rfl rfl rfl rfl rfl fun q a hw => ?_
  by_cases hq : q = []
  · subst hq
    have hw2 : wholeP { V with cap := c } [] = some c := by rw [whole_cap, if_pos rfl]
    have ha : a = V.cap := by unfold wholeP at hw; rw [if_pos rfl] at hw; cases hw; rfl
    subst ha
    exact at_mono h2 hchk hw hw2 (fun k hk => by have := g4 k hk; have := ok_get g2 hk; show _ ≤ c.get k - sumK (inP V.us []) k; omega)
      (fun k hk => by have := g4 k hk; have := ok_get g2 hk; show _ ≤ c.get k - sumK (V.us.filter (stay N [])) k; omega) (fun k hk => Int.le_refl _)
  · have hw2 : wholeP { V with cap := c } q = some a := by rw [whole_cap, if_neg hq]; exact hw
    exact at_mono h2 hchk hw hw2 (fun k hk => Int.le_refl _) (fun k hk => Int.le_refl _) (fun k hk => Int.le_refl _)

/-! a smaller limit, a higher band -/
theorem fit_less {N N' : Ne} {V : Vw} {k : Int} {p : List UInt8} (h : fitP N V = (k, p, 0)) (hn : checkN N' = true) (hd : N.d ≤ N'.d) (hL : N'.L = N.L) (hi : N'.n = N.n) (ha : ∀ k, k < 4 → N'.a.get k ≤ N.a.get k) : ∃ x q, fitP N' V = (x, q, 0) ∧ k ≤ x := by
  obtain ⟨h1, h2⟩ := fit_of h
  refine fit_mono h hn h2 rfl hL rfl hi (by unfold envs; rw [hi]) fun q a hw => ?_
  refine at_mono h2 h2 hw hw (fun k hk => Int.le_refl _) (fun k hk => ?_) ha
  have := sumK_mono (P := stay N' q) (Q := stay N q) (fun u hu => by
    unfold stay goer at hu ⊢
    simp only [Bool.and_eq_true, Bool.not_eq_true', Bool.and_eq_false_iff, decide_eq_false_iff_not] at hu ⊢
    refine ⟨hu.1, ?_⟩
    rcases hu.2 with ((h | h) | h) | h
    · exact .inl (.inl (.inl h))
    · exact .inl (.inl (.inr h))
    · exact .inl (.inr (by omega))
    · exact .inr h) V.us h2.oks hk
  omega

/-! a use gone -/
theorem env_erase {V : Vw} {i : Nat} (hi : i < V.us.length) (he : V.us[i].e = false) (q : List UInt8) : envP (V.us.eraseIdx i) q = envP V.us q := by
  unfold envP
  have e : V.us = V.us.take i ++ V.us[i] :: V.us.drop (i + 1) := by rw [List.getElem_cons_drop, List.take_append_drop]
  rw [List.eraseIdx_eq_take_drop_succ]
  conv => rhs; rw [e]
  rw [List.find?_append, List.find?_append, List.find?_cons]
  have : isEnv q V.us[i] = false := by unfold isEnv; rw [he]; rfl
  rw [this]
theorem envs_erase {N : Ne} {V : Vw} {i : Nat} (hi : i < V.us.length) (he : V.us[i].e = false) : envs N { V with us := V.us.eraseIdx i } = envs N V := by
  unfold envs
  have e : V.us = V.us.take i ++ V.us[i] :: V.us.drop (i + 1) := by rw [List.getElem_cons_drop, List.take_append_drop]
  show (V.us.eraseIdx i).filter _ = _
  rw [List.eraseIdx_eq_take_drop_succ]
  conv => rhs; rw [e]
  rw [List.filter_append, List.filter_append, List.filter_cons, he]
  rfl
theorem fit_gone {N : Ne} {V : Vw} {k : Int} {p : List UInt8} (h : fitP N V = (k, p, 0)) {i : Nat} (hi : i < V.us.length) (he : V.us[i].e = false) : ∃ x q, fitP N { V with us := V.us.eraseIdx i } = (x, q, 0) ∧ k ≤ x := by
  obtain ⟨h1, h2⟩ := fit_of h
  have hsub : (V.us.eraseIdx i).Sublist V.us := List.eraseIdx_sublist _ _
  have hin : ∀ q k, k < 4 → sumK (inP (V.us.eraseIdx i) q) k ≤ sumK (inP V.us q) k := fun q k hk => sumK_sub (hsub.filter _) (oks_filter h2.oks _) hk
  have hwh : ∀ q, wholeP { V with us := V.us.eraseIdx i } q = wholeP V q := fun q => by
    unfold wholeP
    rw [show ({ V with us := V.us.eraseIdx i } : Vw).us = V.us.eraseIdx i from rfl, env_erase hi he]
  have hoks : Oks (V.us.eraseIdx i) := fun u hu => h2.oks u (hsub.subset hu)
  have hchk : Chk { V with us := V.us.eraseIdx i } := ⟨h2.nm, h2.at', h2.cap, fun u hu => h2.fine u (hsub.subset hu), h2.nd.sublist (hsub.map _), fun u hu => by
    have hr := h2.room u (hsub.subset hu)
    rw [room_whole] at hr ⊢
    rw [hwh]
    cases hw : wholeP V u.n with
    | none => rw [hw] at hr; cases hr
    | some a =>
      have hs := whole_some h2 hw
      obtain ⟨r, hr⟩ := take_of (l := inP (V.us.eraseIdx i) u.n) (whole_ok h2 hw) (oks_filter hoks _) (fun q hq => by
        have := hs q hq
        have := hin u.n q hq
        omega)
      simp only [Option.bind_some]
      show (takeP a (inP (V.us.eraseIdx i) u.n)).isSome = true
      rw [hr]; rfl⟩
  refine fit_mono h h1 hchk rfl rfl rfl rfl (envs_erase hi he) fun q a hw => ?_
  refine at_mono h2 hchk hw (by rw [hwh]; exact hw) (fun k hk => ?_) (fun k hk => ?_) (fun k hk => Int.le_refl _)
  · have := hin q k hk
    show _ ≤ a.get k - sumK (inP (V.us.eraseIdx i) q) k
    omega
  · have : sumK ((V.us.eraseIdx i).filter (stay N q)) k ≤ sumK (V.us.filter (stay N q)) k := sumK_sub (hsub.filter _) (oks_filter h2.oks _) hk
    show _ ≤ a.get k - sumK ((V.us.eraseIdx i).filter (stay N q)) k
    omega

/-! who could go -/
theorem at_one {N : Ne} {V : Vw} {p : List UInt8} (h : atP N V p = 1) : goersP N V p ≠ [] := by
  intro e
  unfold atP at h
  split at h
  · omega
  · rename_i c1
    rw [e, show addAll ((roomP V p).getD Am.zero) [] = (roomP V p).getD Am.zero from rfl, if_neg c1] at h
    omega
theorem fit_goers {N : Ne} {V : Vw} {p : List UInt8} (h : fitP N V = (1, p, 0)) : goersR N V p = (goersP N V p, 0) ∧ goersP N V p ≠ [] ∧ ∀ u ∈ goersP N V p, u.d < N.d ∧ u.d < 2 ∧ u.e = false ∧ u.n = p := by
  obtain ⟨h1, h2⟩ := fit_of h
  have hv := chk_iff.2 h2
  have key : atP N V p = 1 ∧ ∃ a, wholeP V p = some a := by
    unfold fitP at h
    rw [if_neg (by rw [h1]; decide), if_neg (by rw [hv]; decide)] at h
    split at h
    · cases h
    split at h
    · have e1 : atP N V [] = 1 := by injection h
      have e2 : ([] : List UInt8) = p := by injection h with _ h; injection h
      rw [← e2]
      exact ⟨e1, V.cap, by unfold wholeP; rw [if_pos rfl]⟩
    · have e1 : (bestP N V).1 = 1 := by injection h
      have e2 : (bestP N V).2.1 = p := by injection h with _ h; injection h
      have ht : ∀ u ∈ envs N V, (taskO u.j u.i).isSome = true := fun u hu => by
        have hf := h2.fine u (List.mem_filter.1 hu).1
        unfold fineP at hf
        simp only [Bool.and_eq_true] at hf
        exact hf.1.1.1.1
      rcases fold_at N V (envs N V) (0, [], 0) (.inl rfl) (fun u hu => hu) ht with h3 | ⟨u, hu, hi, hm, ha⟩
      · have e3 : (bestP N V).1 = 0 := h3
        omega
      · have ha2 : atP N V (bestP N V).2.1 = (bestP N V).1 := ha
        rw [e2, e1] at ha2
        refine ⟨ha2, ?_⟩
        obtain ⟨x, hx, -⟩ := env_whole h2 hm
        have hi2 : isEnv (bestP N V).2.1 u = true := hi
        rw [e2] at hi2
        unfold isEnv at hi2
        simp only [Bool.and_eq_true, beq_iff_eq] at hi2
        have : nmU u = p := by unfold nmU; rw [hi2.2]; rfl
        rw [this] at hx
        exact ⟨x, hx⟩
  obtain ⟨k1, a, k2⟩ := key
  obtain ⟨r, hr, -, -⟩ := room_there h2 k2
  refine ⟨?_, at_one k1, fun u hu => ?_⟩
  · have hrr : roomR V p = (r, 0) := by unfold roomR; rw [if_neg (by rw [hv]; decide), hr]
    unfold goersR
    rw [if_neg (by rw [h1]; decide), hrr, if_pos rfl]
  · have := (List.mem_filter.1 hu).2
    unfold goer at this
    simp only [Bool.and_eq_true, decide_eq_true_eq, Bool.not_eq_true', beq_iff_eq] at this
    exact ⟨this.1.2, this.2, this.1.1.1, this.1.1.2⟩
theorem fit_err {N : Ne} {V : Vw} (h : (fitP N V).2.2 ≠ 0) : (fitP N V).1 = 0 ∧ (fitP N V).2.2 = 2 := by
  unfold fitP at h ⊢
  repeat' split
  all_goals simp_all
end Go.Proofs.YtaipldegobjboaaDoor.Ft
