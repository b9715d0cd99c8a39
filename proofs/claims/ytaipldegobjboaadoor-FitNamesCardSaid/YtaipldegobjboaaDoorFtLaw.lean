/- FtLaw. -/
import Derived.Test.YtaipldegobjboaaDoorFtPlain
namespace Go.Proofs.YtaipldegobjboaaDoor.Ft
open Go.RowKit Go.Proofs.YtaipldegobjboaaDoor Go.Proofs.YtaipldegobjboaaDoor.Ru

theorem okU {u : Us} (h : fineP u = true) : u.a.okB = true := by
  unfold fineP at h
  simp only [Bool.and_eq_true] at h
  exact h.2
structure Chk (V : Vw) : Prop where
  nm : 1 ≤ V.nm.length ∧ V.nm.length ≤ 16
  at' : attrsR V.at' = 0
  cap : V.cap.okB = true
  fine : ∀ u ∈ V.us, fineP u = true
  nd : (V.us.map keyU).Nodup
  room : ∀ u ∈ V.us, (roomP V u.n).isSome = true
theorem chk_iff {V : Vw} : checkV V = true ↔ Chk V := by
  unfold checkV
  simp only [Bool.and_eq_true, decide_eq_true_eq, List.all_eq_true]
  exact ⟨fun ⟨⟨⟨⟨⟨h1, h2⟩, h3⟩, h4⟩, h5⟩, h6⟩ => ⟨h1, h2, h3, h4, h5, h6⟩, fun h => ⟨⟨⟨⟨⟨h.nm, h.at'⟩, h.cap⟩, h.fine⟩, h.nd⟩, h.room⟩⟩
theorem Chk.oks {V : Vw} (h : Chk V) : Oks V.us := fun u hu => okU (h.fine u hu)
theorem oks_filter {l : List Us} (h : Oks l) (P : Us → Bool) : Oks (l.filter P) := fun u hu => h u (List.mem_filter.1 hu).1
/-- what a place has in all -/
def wholeP (V : Vw) (p : List UInt8) : Option Am := if p = [] then some V.cap else (envP V.us p).map (·.a)
theorem room_whole (V : Vw) (p : List UInt8) : roomP V p = (wholeP V p).bind fun a => takeP a (inP V.us p) := by
  unfold roomP wholeP
  by_cases hp : p = []
  · rw [if_pos hp, if_pos hp]; rfl
  · rw [if_neg hp, if_neg hp]
    cases envP V.us p <;> rfl
theorem whole_ok {V : Vw} (h : Chk V) {p : List UInt8} {a : Am} (hw : wholeP V p = some a) : a.okB = true := by
  unfold wholeP at hw
  split at hw
  · cases hw; exact h.cap
  · cases he : envP V.us p with
    | none => rw [he] at hw; cases hw
    | some u =>
      rw [he] at hw
      cases hw
      exact h.oks u (List.mem_of_find?_eq_some he)
theorem in_nil {V : Vw} {p : List UInt8} (h : ¬ ∃ u ∈ V.us, u.n = p) : inP V.us p = [] := by
  unfold inP
  rw [List.filter_eq_nil_iff]
  intro u hu he
  exact h ⟨u, hu, by simpa using he⟩
/-- a place that is there has a room -/
theorem room_there {V : Vw} (h : Chk V) {p : List UInt8} {a : Am} (hw : wholeP V p = some a) : ∃ r, roomP V p = some r ∧ a.okB = true ∧ takeP a (inP V.us p) = some r := by
  have ho := whole_ok h hw
  have e := room_whole V p
  rw [hw] at e
  simp only [Option.bind_some] at e
  by_cases hu : ∃ u ∈ V.us, u.n = p
  · obtain ⟨u, hu, rfl⟩ := hu
    have := h.room u hu
    cases hr : roomP V u.n with
    | none => rw [hr] at this; cases this
    | some r => exact ⟨r, rfl, ho, by rw [← e, hr]⟩
  · rw [in_nil hu] at e ⊢
    exact ⟨a, e, ho, rfl⟩
/-- who stays, of those in a place -/
def stay (N : Ne) (p : List UInt8) (u : Us) : Bool := u.n == p && !(goer N p u)
theorem goers_split (N : Ne) (V : Vw) (p : List UInt8) (k : Nat) : sumK (goersP N V p) k + sumK (V.us.filter (stay N p)) k = sumK (inP V.us p) k := by
  have h := sumK_split (goer N p) (inP V.us p) k
  unfold inP at h
  rw [List.filter_filter, List.filter_filter] at h
  have e1 : (fun u : Us => goer N p u && u.n == p) = goer N p := by
    funext u
    unfold goer
    cases u.n == p <;> simp
  have e2 : (fun u : Us => (!goer N p u) && u.n == p) = stay N p := by
    funext u
    unfold stay
    rw [Bool.and_comm]
  rw [e1, e2] at h
  exact h
/-- what could be had in a place, at most -/
theorem total {N : Ne} {V : Vw} (h : Chk V) {p : List UInt8} {a r : Am} (ha : a.okB = true) (ht : takeP a (inP V.us p) = some r) {k : Nat} (hk : k < 4) :
    (addAll r (goersP N V p)).get k = a.get k - sumK (V.us.filter (stay N p)) k := by
  have h1 := fun q (hq : q < 4) => take_get ha ht q hq
  have hg : Oks (goersP N V p) := oks_filter h.oks _
  have hs : Oks (V.us.filter (stay N p)) := oks_filter h.oks _
  have h2 := addAll_get (h1 0 (by omega)).2 hg (fun q hq => by
    rw [(h1 q hq).1]
    have e1 := goers_split N V p q
    have e2 := sumK_nonneg hs hq
    have e3 := ok_get ha hq
    omega) k hk
  rw [h2, (h1 k hk).1]
  have e1 := goers_split N V p k
  omega
theorem at_vals (N : Ne) (V : Vw) (p : List UInt8) : 0 ≤ atP N V p ∧ atP N V p ≤ 2 := by
  unfold atP
  split
  · omega
  · split <;> omega
/-- a place is no worse -/
theorem at_mono {N N' : Ne} {V V' : Vw} (h : Chk V) (h' : Chk V') {p : List UInt8} {a a' : Am} (hw : wholeP V p = some a) (hw' : wholeP V' p = some a')
    (h1 : ∀ k, k < 4 → a.get k - sumK (inP V.us p) k ≤ a'.get k - sumK (inP V'.us p) k)
    (h2 : ∀ k, k < 4 → a.get k - sumK (V.us.filter (stay N p)) k ≤ a'.get k - sumK (V'.us.filter (stay N' p)) k)
    (h3 : ∀ k, k < 4 → N'.a.get k ≤ N.a.get k) : atP N V p ≤ atP N' V' p := by
  obtain ⟨r, hr, ho, ht⟩ := room_there h hw
  obtain ⟨r', hr', ho', ht'⟩ := room_there h' hw'
  have g := fun k (hk : k < 4) => (take_get ho ht k hk).1
  have g' := fun k (hk : k < 4) => (take_get ho' ht' k hk).1
  have t := fun k (hk : k < 4) => total (N := N) h ho ht hk
  have t' := fun k (hk : k < 4) => total (N := N') h' ho' ht' hk
  unfold atP
  rw [hr, hr']
  simp only [Option.getD_some]
  by_cases c1 : fitsB N.a r = true
  · have : fitsB N'.a r' = true := fits_iff.2 fun k hk => by
      have := fits_iff.1 c1 k hk
      have := h3 k hk
      have := h1 k hk
      have := g k hk
      have := g' k hk
      omega
    rw [if_pos c1, if_pos this]
    omega
  · rw [if_neg c1]
    by_cases c2 : fitsB N.a (addAll r (goersP N V p)) = true
    · have : fitsB N'.a (addAll r' (goersP N' V' p)) = true := fits_iff.2 fun k hk => by
        have := fits_iff.1 c2 k hk
        have := h3 k hk
        have := h2 k hk
        have := t k hk
        have := t' k hk
        omega
      rw [if_pos c2, if_pos this]
      split <;> omega
    · rw [if_neg c2]
      exact (at_vals N' V' p |> fun h => by unfold atP at h; rw [hr'] at h; exact h.1)

/-! the best place -/
theorem step_kind (N : Ne) (V : Vw) (s : Int × List UInt8 × Int) (u : Us) : (stepF N V s u).1 = max s.1 (atP N V (nmU u)) := by
  unfold stepF
  split
  · rename_i h
    simp only
    rcases h with h | h <;> omega
  · rename_i h
    have : ¬ atP N V (nmU u) > s.1 := fun h1 => h (.inl h1)
    omega
def kmax (N : Ne) (V : Vw) (l : List Us) (m : Int) : Int := l.foldl (fun m u => max m (atP N V (nmU u))) m
theorem fold_kind (N : Ne) (V : Vw) : ∀ (l : List Us) (s : Int × List UInt8 × Int), (l.foldl (stepF N V) s).1 = kmax N V l s.1
  | [], s => rfl
  | u :: l, s => by
    show (l.foldl (stepF N V) (stepF N V s u)).1 = kmax N V l (max s.1 (atP N V (nmU u)))
    rw [fold_kind N V l, step_kind]
theorem kmax_mono {N N' : Ne} {V V' : Vw} : ∀ (l : List Us) (m m' : Int), (∀ u ∈ l, atP N V (nmU u) ≤ atP N' V' (nmU u)) → m ≤ m' → kmax N V l m ≤ kmax N' V' l m'
  | [], m, m', _, h => h
  | u :: l, m, m', h, hm => kmax_mono l _ _ (fun x hx => h x (by simp [hx])) (by have := h u (by simp); show max m (atP N V (nmU u)) ≤ max m' (atP N' V' (nmU u)); omega)
theorem best_kind (N : Ne) (V : Vw) : (bestP N V).1 = kmax N V (envs N V) 0 := fold_kind N V _ _
/-- the place that the best is at -/
theorem fold_at (N : Ne) (V : Vw) : ∀ (l : List Us) (s : Int × List UInt8 × Int), (s.1 = 0 ∨ ∃ u ∈ V.us, isEnv s.2.1 u = true ∧ u ∈ envs N V ∧ atP N V s.2.1 = s.1) → (∀ u ∈ l, u ∈ envs N V) → (∀ u ∈ envs N V, (taskO u.j u.i).isSome = true) →
    (l.foldl (stepF N V) s).1 = 0 ∨ ∃ u ∈ V.us, isEnv (l.foldl (stepF N V) s).2.1 u = true ∧ u ∈ envs N V ∧ atP N V (l.foldl (stepF N V) s).2.1 = (l.foldl (stepF N V) s).1
  | [], s, h, _, _ => h
  | u :: l, s, h, hl, ht => by
    refine fold_at N V l (stepF N V s u) ?_ (fun x hx => hl x (by simp [hx])) ht
    unfold stepF
    split
    · right
      have hu := hl u (by simp)
      have hm := List.mem_filter.1 hu
      refine ⟨u, hm.1, ?_, hu, rfl⟩
      have h2 := hm.2
      simp only [Bool.and_eq_true] at h2
      have h3 := ht u hu
      unfold isEnv nmU
      cases hq : taskO u.j u.i with
      | none => rw [hq] at h3; cases h3
      | some x => simp [h2.1.1, h2.1.2]
    · exact h
theorem env_whole {V : Vw} {N : Ne} (h : Chk V) {u : Us} (hu : u ∈ envs N V) : ∃ x, wholeP V (nmU u) = some x ∧ nmU u ≠ [] := by
  have hm := List.mem_filter.1 hu
  have h2 := hm.2
  simp only [Bool.and_eq_true] at h2
  have hf := h.fine u hm.1
  unfold fineP at hf
  simp only [Bool.and_eq_true] at hf
  have hs := hf.1.1.1.1
  cases hq : taskO u.j u.i with
  | none => rw [hq] at hs; cases hs
  | some x =>
    have hx : x ≠ [] := by
      unfold taskO at hq
      split at hq
      · cases hq; simp
      · cases hq
    have hn : nmU u = x := by unfold nmU; rw [hq]; rfl
    rw [hn]
    refine ⟨?_, ?_, hx⟩
    · exact ((envP V.us x).getD u).a
    · unfold wholeP
      rw [if_neg hx]
      have : (envP V.us x).isSome = true := by
        unfold envP
        rw [List.find?_isSome]
        exact ⟨u, hm.1, by unfold isEnv; rw [h2.1.1, h2.1.2, hq]; simp⟩
      cases he : envP V.us x with
      | none => rw [he] at this; cases this
      | some y => rfl

/-! the statements -/
theorem fit_of {N : Ne} {V : Vw} {k : Int} {p : List UInt8} (h : fitP N V = (k, p, 0)) : checkN N = true ∧ Chk V := by
  unfold fitP at h
  cases h1 : checkN N
  · rw [if_pos h1] at h; cases h
  rw [if_neg (by rw [h1]; decide)] at h
  cases h2 : checkV V
  · rw [if_pos h2] at h; cases h
  exact ⟨rfl, chk_iff.1 h2⟩
/-- all places no worse: the fit no worse -/
theorem fit_mono {N N' : Ne} {V V' : Vw} {k : Int} {p : List UInt8} (h : fitP N V = (k, p, 0)) (hn' : checkN N' = true) (hv' : Chk V') (hup : V'.up = V.up) (hL : N'.L = N.L) (hat : V'.at' = V.at') (hin : N'.n = N.n) (hes : envs N' V' = envs N V)
    (hm : ∀ q a, wholeP V q = some a → atP N V q ≤ atP N' V' q) : ∃ x q, fitP N' V' = (x, q, 0) ∧ k ≤ x := by
  obtain ⟨h1, h2⟩ := fit_of h
  have hv2 := chk_iff.2 hv'
  have hv := chk_iff.2 h2
  unfold fitP at h ⊢
  rw [if_neg (by rw [h1]; decide), if_neg (by rw [hv]; decide)] at h
  rw [if_neg (by rw [hn']; decide), if_neg (by rw [hv2]; decide), hup, hL, hat, hin]
  by_cases c1 : V.up = false ∨ (holdsR N.L V.at').1 = false
  · rw [if_pos c1] at h ⊢
    cases h
    exact ⟨0, [], rfl, Int.le_refl _⟩
  · rw [if_neg c1] at h ⊢
    by_cases c2 : N.n = []
    · rw [if_pos c2] at h ⊢
      cases h
      exact ⟨_, _, rfl, hm [] V.cap (by unfold wholeP; rw [if_pos rfl])⟩
    · rw [if_neg c2] at h ⊢
      have e : k = (bestP N V).1 := by cases h; rfl
      refine ⟨_, _, rfl, ?_⟩
      rw [e, best_kind, best_kind, hes]
      exact kmax_mono _ _ _ (fun u hu => by
        obtain ⟨x, hx, -⟩ := env_whole h2 hu
        exact hm _ x hx) (Int.le_refl _)
end Go.Proofs.YtaipldegobjboaaDoor.Ft
