/- , laid together: FtPlain, FtLaw, FtLaw2. -/
import Derived.Test.YtaipldegobjboaaGreatDoorRuAttrs
import Derived.Test.YtaipldegobjboaaGreatDoorMAmt
namespace Go.Proofs.YtaipldegobjboaaGreatDoor.Ft
open Go.RowKit Go.Proofs.YtaipldegobjboaaGreatDoor Go.Proofs.YtaipldegobjboaaGreatDoor.Ru

/-- a use of a machine -/
structure Us where
  j : List UInt8
  i : Int
  d : Int
  a : Am
  n : List UInt8
  e : Bool
  deriving DecidableEq
/-- a machine -/
structure Vw where
  nm : List UInt8
  at' : List Ru.At
  cap : Am
  up : Bool
  us : List Us
/-- a need -/
structure Ne where
  j : List UInt8
  d : Int
  a : Am
  L : List Nd
  n : List UInt8
def specB (l : List UInt8) : Bool := decide (1 ≤ l.length ∧ l.length ≤ 16) && hd lo l && l.all nmc
def taskO (j : List UInt8) (i : Int) : Option (List UInt8) := if specB j = true ∧ 0 ≤ i ∧ i < 64 then some (j ++ 46 :: Lib.itoa i) else none
def inP (l : List Us) (p : List UInt8) : List Us := l.filter fun u => u.n == p
def takeP : Am → List Us → Option Am
  | a, [] => some a
  | a, u :: l => if (subR a u.a).2 = 0 then takeP (subR a u.a).1 l else none
def isEnv (p : List UInt8) (u : Us) : Bool := u.e && u.n == [] && taskO u.j u.i == some p
def envP (l : List Us) (p : List UInt8) : Option Us := l.find? (isEnv p)
def roomP (V : Vw) (p : List UInt8) : Option Am := if p = [] then takeP V.cap (inP V.us p) else match envP V.us p with | none => none | some u => takeP u.a (inP V.us p)
def fineP (u : Us) : Bool := (taskO u.j u.i).isSome && !(u.e && !(u.n == [])) && decide (0 ≤ u.d) && decide (u.d ≤ 3) && u.a.okB
def keyU (u : Us) : List UInt8 × Int := (u.j, u.i)
def checkV (V : Vw) : Bool := decide (1 ≤ V.nm.length ∧ V.nm.length ≤ 16) && decide (attrsR V.at' = 0) && V.cap.okB && V.us.all fineP && decide ((V.us.map keyU).Nodup) && V.us.all (fun u => (roomP V u.n).isSome)
def anyL : List Nd := [⟨1, [], [], 0, -1, -1⟩]
def checkN (N : Ne) : Bool := specB N.j && decide (0 ≤ N.d) && decide (N.d ≤ 3) && N.a.okB && !(decide (N.a = Am.zero)) && decide (checkP N.L = 0) && (N.n == [] || (specB N.n && decide (N.L = anyL)))
def goer (N : Ne) (p : List UInt8) (u : Us) : Bool := !u.e && u.n == p && decide (u.d < N.d) && decide (u.d < 2)
def goersP (N : Ne) (V : Vw) (p : List UInt8) : List Us := V.us.filter (goer N p)
def addAll (a : Am) (l : List Us) : Am := l.foldl (fun f u => (addR f u.a).1) a
def atP (N : Ne) (V : Vw) (p : List UInt8) : Int :=
  if fitsB N.a ((roomP V p).getD Am.zero) = true then 2 else if fitsB N.a (addAll ((roomP V p).getD Am.zero) (goersP N V p)) = true then 1 else 0
def nmU (u : Us) : List UInt8 := (taskO u.j u.i).getD []
def envs (N : Ne) (V : Vw) : List Us := V.us.filter fun u => u.e && u.n == [] && u.j == N.n
def stepF (N : Ne) (V : Vw) (s : Int × List UInt8 × Int) (u : Us) : Int × List UInt8 × Int :=
  if atP N V (nmU u) > s.1 ∨ (atP N V (nmU u) = s.1 ∧ atP N V (nmU u) > 0 ∧ u.i < s.2.2) then (atP N V (nmU u), nmU u, u.i) else s
def bestP (N : Ne) (V : Vw) : Int × List UInt8 × Int := (envs N V).foldl (stepF N V) (0, [], 0)
def fitP (N : Ne) (V : Vw) : Int × List UInt8 × Int :=
  if checkN N = false then (0, [], 2) else if checkV V = false then (0, [], 2)
  else if V.up = false ∨ (holdsR N.L V.at').1 = false then (0, [], 0)
  else if N.n = [] then (atP N V [], [], 0) else ((bestP N V).1, (bestP N V).2.1, 0)
def roomR (V : Vw) (p : List UInt8) : Am × Int := if checkV V = false then (Am.zero, 2) else match roomP V p with | some a => (a, 0) | none => (Am.zero, 2)
def goersR (N : Ne) (V : Vw) (p : List UInt8) : List Us × Int :=
  if checkN N = false then ([], 2) else if (roomR V p).2 = 0 then (goersP N V p, 0) else ([], (roomR V p).2)

/-! sums -/
def sumK (l : List Us) (k : Nat) : Int := (l.map (fun u => u.a.get k)).sum
theorem sumK_nil (k : Nat) : sumK [] k = 0 := rfl
theorem sumK_cons (u : Us) (l : List Us) (k : Nat) : sumK (u :: l) k = u.a.get k + sumK l k := by unfold sumK; simp
def Oks (l : List Us) : Prop := ∀ u ∈ l, u.a.okB = true
theorem sumK_nonneg {l : List Us} (h : Oks l) {k : Nat} (hk : k < 4) : 0 ≤ sumK l k := by
  induction l with
  | nil => simp [sumK_nil]
  | cons u l ih =>
    rw [sumK_cons]
    have h1 := ok_get (h u (by simp)) hk
    have h2 := ih (fun x hx => h x (by simp [hx]))
    omega
theorem sumK_sub {l' l : List Us} (hs : l'.Sublist l) (h : Oks l) {k : Nat} (hk : k < 4) : sumK l' k ≤ sumK l k := by
  induction hs with
  | slnil => simp [sumK_nil]
  | cons u _ ih =>
    rw [sumK_cons]
    have h1 := ok_get (h u (by simp)) hk
    have h2 := ih (fun x hx => h x (by simp [hx]))
    omega
  | cons_cons u _ ih =>
    rw [sumK_cons, sumK_cons]
    have h2 := ih (fun x hx => h x (by simp [hx]))
    omega
theorem sumK_split (P : Us → Bool) (l : List Us) (k : Nat) : sumK (l.filter P) k + sumK (l.filter fun u => !P u) k = sumK l k := by
  induction l with
  | nil => simp [sumK_nil]
  | cons u l ih =>
    rw [List.filter_cons, List.filter_cons, sumK_cons]
    cases P u <;> simp only [Bool.not_false, Bool.not_true, if_true, if_false, Bool.false_eq_true, sumK_cons] <;> omega
theorem sumK_mono {P Q : Us → Bool} (h : ∀ u, P u = true → Q u = true) (l : List Us) (ho : Oks l) {k : Nat} (hk : k < 4) : sumK (l.filter P) k ≤ sumK (l.filter Q) k := by
  induction l with
  | nil => simp [sumK_nil]
  | cons u l ih =>
    have h1 := ok_get (ho u (by simp)) hk
    have h2 := ih (fun x hx => ho x (by simp [hx]))
    rw [List.filter_cons, List.filter_cons]
    cases hp : P u
    · cases hq : Q u
      · simpa using h2
      · simp only [Bool.false_eq_true, if_false, if_true, sumK_cons]; omega
    · rw [h u hp]; simp only [if_true, sumK_cons]; omega
theorem fits_iff {x y : Am} : fitsB x y = true ↔ ∀ k, k < 4 → x.get k ≤ y.get k := by
  unfold fitsB
  constructor
  · intro h k hk
    have h2 : any4 (fun k => decide (y.get k < x.get k)) = false := by simpa using h
    have := any4_false h2 hk
    simpa using this
  · intro h
    rw [any4_no (fun k hk => by have := h k hk; simpa using this)]
    rfl
theorem sub_iff {a b : Am} : (subR a b).2 = 0 ↔ a.okB = true ∧ b.okB = true ∧ fitsB b a = true := by
  unfold subR
  cases h1 : a.okB <;> cases h2 : b.okB <;> cases h3 : fitsB b a <;> simp
theorem sub_get {a b : Am} (h : (subR a b).2 = 0) {k : Nat} (hk : k < 4) : (subR a b).1.get k = a.get k - b.get k := by
  obtain ⟨h1, h2, h3⟩ := sub_iff.1 h
  unfold subR
  rw [if_neg (by rw [h1, h2]; decide), if_neg (by rw [h3]; decide)]
  exact Am.of_get _ k hk
theorem take_get : ∀ {l : List Us} {a r : Am}, a.okB = true → takeP a l = some r → ∀ k, k < 4 → r.get k = a.get k - sumK l k ∧ r.okB = true
  | [], a, r, ha, h, k, hk => by
    unfold takeP at h
    cases h
    rw [sumK_nil]
    exact ⟨by omega, ha⟩
  | u :: l, a, r, ha, h, k, hk => by
    unfold takeP at h
    by_cases hs : (subR a u.a).2 = 0
    · rw [if_pos hs] at h
      obtain ⟨h1, h2, h3⟩ := sub_iff.1 hs
      have h4 := fits_iff.1 h3
      have hok : (subR a u.a).1.okB = true := (Am.okB_iff _).2 fun q hq => by
        rw [sub_get hs hq]
        have := ok_get h1 hq
        have := ok_get h2 hq
        have := h4 q hq
        omega
      obtain ⟨g1, g2⟩ := take_get hok h k hk
      rw [sub_get hs hk] at g1
      rw [sumK_cons]
      exact ⟨by omega, g2⟩
    · rw [if_neg hs] at h; cases h
theorem take_of : ∀ {l : List Us} {a : Am}, a.okB = true → Oks l → (∀ k, k < 4 → sumK l k ≤ a.get k) → ∃ r, takeP a l = some r
  | [], a, _, _, _ => ⟨a, rfl⟩
  | u :: l, a, ha, ho, h => by
    have hol : Oks l := fun x hx => ho x (by simp [hx])
    have hs : (subR a u.a).2 = 0 := sub_iff.2 ⟨ha, ho u (by simp), fits_iff.2 fun k hk => by
      have h1 := h k hk
      rw [sumK_cons] at h1
      have := sumK_nonneg hol hk
      omega⟩
    unfold takeP
    rw [if_pos hs]
    refine take_of ((Am.okB_iff _).2 fun q hq => ?_) hol fun k hk => ?_
    · rw [sub_get hs hq]
      have h1 := h q hq
      rw [sumK_cons] at h1
      have := sumK_nonneg hol hq
      have := ok_get ha hq
      have := ok_get (ho u (by simp)) hq
      omega
    · rw [sub_get hs hk]
      have h1 := h k hk
      rw [sumK_cons] at h1
      omega
theorem take_fits {l : List Us} {a r : Am} (ha : a.okB = true) (h : takeP a l = some r) (k : Nat) (hk : k < 4) : sumK l k ≤ a.get k := by
  obtain ⟨g1, g2⟩ := take_get ha h k hk
  have := ok_get g2 hk
  omega
theorem add_get {a b : Am} (ha : a.okB = true) (hb : b.okB = true) (h : ∀ k, k < 4 → a.get k + b.get k ≤ 1099511627776) {k : Nat} (hk : k < 4) : (addR a b).1.get k = a.get k + b.get k ∧ (addR a b).1.okB = true := by
  have e := addR_ok (z := Am.of fun k => a.get k + b.get k) (by rw [ha, hb]; rfl) h (fun k hk => Am.of_get _ k hk)
  rw [e]
  refine ⟨Am.of_get _ k hk, (Am.okB_iff _).2 fun q hq => ?_⟩
  rw [Am.of_get _ q hq]
  have := ok_get ha hq
  have := ok_get hb hq
  have := h q hq
  omega
theorem addAll_get : ∀ {l : List Us} {a : Am}, a.okB = true → Oks l → (∀ k, k < 4 → a.get k + sumK l k ≤ 1099511627776) → ∀ k, k < 4 → (addAll a l).get k = a.get k + sumK l k
  | [], a, _, _, _, k, hk => by show a.get k = _; rw [sumK_nil]; omega
  | u :: l, a, ha, ho, h, k, hk => by
    have hol : Oks l := fun x hx => ho x (by simp [hx])
    have hle : ∀ k, k < 4 → a.get k + u.a.get k ≤ 1099511627776 := fun q hq => by
      have h1 := h q hq
      rw [sumK_cons] at h1
      have := sumK_nonneg hol hq
      omega
    have hg := fun q (hq : q < 4) => add_get ha (ho u (by simp)) hle hq
    show (addAll (addR a u.a).1 l).get k = _
    rw [addAll_get (hg k hk).2 hol (fun q hq => by
      rw [(hg q hq).1]
      have h1 := h q hq
      rw [sumK_cons] at h1
      omega) k hk, (hg k hk).1, sumK_cons]
    omega
end Go.Proofs.YtaipldegobjboaaGreatDoor.Ft

namespace Go.Proofs.YtaipldegobjboaaGreatDoor.Ft
open Go.RowKit Go.Proofs.YtaipldegobjboaaGreatDoor Go.Proofs.YtaipldegobjboaaGreatDoor.Ru

theorem okU {u : Us} (h : fineP u = true) : u.a.okB = true := by
  unfold fineP at h
  simp only [Bool.and_eq_true] at h
  exact h.2
structure Chk (V : Vw) : Prop where
  nm : 1 ≤ V.nm.length ∧ V.nm.length ≤ 16
  at' : attrsR V.at' = 0
  cap : V.cap.okB = true
  fine : ∀ u ∈ V.us, fineP u = true
  nd : (V.us.map keyU).Nodup
  room : ∀ u ∈ V.us, (roomP V u.n).isSome = true
theorem chk_iff {V : Vw} : checkV V = true ↔ Chk V := by
  unfold checkV
  simp only [Bool.and_eq_true, decide_eq_true_eq, List.all_eq_true]
  exact ⟨fun ⟨⟨⟨⟨⟨h1, h2⟩, h3⟩, h4⟩, h5⟩, h6⟩ => ⟨h1, h2, h3, h4, h5, h6⟩, fun h => ⟨⟨⟨⟨⟨h.nm, h.at'⟩, h.cap⟩, h.fine⟩, h.nd⟩, h.room⟩⟩
theorem Chk.oks {V : Vw} (h : Chk V) : Oks V.us := fun u hu => okU (h.fine u hu)
theorem oks_filter {l : List Us} (h : Oks l) (P : Us → Bool) : Oks (l.filter P) := fun u hu => h u (List.mem_filter.1 hu).1
/-- what a place has in all -/
def wholeP (V : Vw) (p : List UInt8) : Option Am := if p = [] then some V.cap else (envP V.us p).map (·.a)
theorem room_whole (V : Vw) (p : List UInt8) : roomP V p = (wholeP V p).bind fun a => takeP a (inP V.us p) := by
  unfold roomP wholeP
  by_cases hp : p = []
  · rw [if_pos hp, if_pos hp]; rfl
  · rw [if_neg hp, if_neg hp]
    cases envP V.us p <;> rfl
theorem whole_ok {V : Vw} (h : Chk V) {p : List UInt8} {a : Am} (hw : wholeP V p = some a) : a.okB = true := by
  unfold wholeP at hw
  split at hw
  · cases hw; exact h.cap
  · cases he : envP V.us p with
    | none => rw [he] at hw; cases hw
    | some u =>
      rw [he] at hw
      cases hw
      exact h.oks u (List.mem_of_find?_eq_some he)
theorem in_nil {V : Vw} {p : List UInt8} (h : ¬ ∃ u ∈ V.us, u.n = p) : inP V.us p = [] := by
  unfold inP
  rw [List.filter_eq_nil_iff]
  intro u hu he
  exact h ⟨u, hu, by simpa using he⟩
/-- a place that is there has a room -/
theorem room_there {V : Vw} (h : Chk V) {p : List UInt8} {a : Am} (hw : wholeP V p = some a) : ∃ r, roomP V p = some r ∧ a.okB = true ∧ takeP a (inP V.us p) = some r := by
  have ho := whole_ok h hw
  have e := room_whole V p
  rw [hw] at e
  simp only [Option.bind_some] at e
  by_cases hu : ∃ u ∈ V.us, u.n = p
  · obtain ⟨u, hu, rfl⟩ := hu
    have := h.room u hu
    cases hr : roomP V u.n with
    | none => rw [hr] at this; cases this
    | some r => exact ⟨r, rfl, ho, by rw [← e, hr]⟩
  · rw [in_nil hu] at e ⊢
    exact ⟨a, e, ho, rfl⟩
/-- who stays, of those in a place -/
def stay (N : Ne) (p : List UInt8) (u : Us) : Bool := u.n == p && !(goer N p u)
theorem goers_split (N : Ne) (V : Vw) (p : List UInt8) (k : Nat) : sumK (goersP N V p) k + sumK (V.us.filter (stay N p)) k = sumK (inP V.us p) k := by
  have h := sumK_split (goer N p) (inP V.us p) k
  unfold inP at h
  rw [List.filter_filter, List.filter_filter] at h
  have e1 : (fun u : Us => goer N p u && u.n == p) = goer N p := by
    funext u
    unfold goer
    cases u.n == p <;> simp
  have e2 : (fun u : Us => (!goer N p u) && u.n == p) = stay N p := by
    funext u
    unfold stay
    rw [Bool.and_comm]
  rw [e1, e2] at h
  exact h
/-- what could be had in a place, at most -/
theorem total {N : Ne} {V : Vw} (h : Chk V) {p : List UInt8} {a r : Am} (ha : a.okB = true) (ht : takeP a (inP V.us p) = some r) {k : Nat} (hk : k < 4) :
    (addAll r (goersP N V p)).get k = a.get k - sumK (V.us.filter (stay N p)) k := by
  have h1 := fun q (hq : q < 4) => take_get ha ht q hq
  have hg : Oks (goersP N V p) := oks_filter h.oks _
  have hs : Oks (V.us.filter (stay N p)) := oks_filter h.oks _
  have h2 := addAll_get (h1 0 (by omega)).2 hg (fun q hq => by
    rw [(h1 q hq).1]
    have e1 := goers_split N V p q
    have e2 := sumK_nonneg hs hq
    have e3 := ok_get ha hq
    omega) k hk
  rw [h2, (h1 k hk).1]
  have e1 := goers_split N V p k
  omega
theorem at_vals (N : Ne) (V : Vw) (p : List UInt8) : 0 ≤ atP N V p ∧ atP N V p ≤ 2 := by
  unfold atP
  split
  · omega
  · split <;> omega
/-- a place is no worse -/
theorem at_mono {N N' : Ne} {V V' : Vw} (h : Chk V) (h' : Chk V') {p : List UInt8} {a a' : Am} (hw : wholeP V p = some a) (hw' : wholeP V' p = some a')
    (h1 : ∀ k, k < 4 → a.get k - sumK (inP V.us p) k ≤ a'.get k - sumK (inP V'.us p) k)
    (h2 : ∀ k, k < 4 → a.get k - sumK (V.us.filter (stay N p)) k ≤ a'.get k - sumK (V'.us.filter (stay N' p)) k)
    (h3 : ∀ k, k < 4 → N'.a.get k ≤ N.a.get k) : atP N V p ≤ atP N' V' p := by
  obtain ⟨r, hr, ho, ht⟩ := room_there h hw
  obtain ⟨r', hr', ho', ht'⟩ := room_there h' hw'
  have g := fun k (hk : k < 4) => (take_get ho ht k hk).1
  have g' := fun k (hk : k < 4) => (take_get ho' ht' k hk).1
  have t := fun k (hk : k < 4) => total (N := N) h ho ht hk
  have t' := fun k (hk : k < 4) => total (N := N') h' ho' ht' hk
  unfold atP
  rw [hr, hr']
  simp only [Option.getD_some]
  by_cases c1 : fitsB N.a r = true
  · have : fitsB N'.a r' = true := fits_iff.2 fun k hk => by
      have := fits_iff.1 c1 k hk
      have := h3 k hk
      have := h1 k hk
      have := g k hk
      have := g' k hk
      omega
    rw [if_pos c1, if_pos this]
    omega
  · rw [if_neg c1]
    by_cases c2 : fitsB N.a (addAll r (goersP N V p)) = true
    · have : fitsB N'.a (addAll r' (goersP N' V' p)) = true := fits_iff.2 fun k hk => by
        have := fits_iff.1 c2 k hk
        have := h3 k hk
        have := h2 k hk
        have := t k hk
        have := t' k hk
        omega
      rw [if_pos c2, if_pos this]
      split <;> omega
    · rw [if_neg c2]
      exact (at_vals N' V' p |> fun h => by unfold atP at h; rw [hr'] at h; exact h.1)

/-! the best place -/
theorem step_kind (N : Ne) (V : Vw) (s : Int × List UInt8 × Int) (u : Us) : (stepF N V s u).1 = max s.1 (atP N V (nmU u)) := by
  unfold stepF
  split
  · rename_i h
    simp only
    rcases h with h | h <;> omega
  · rename_i h
    have : ¬ atP N V (nmU u) > s.1 := fun h1 => h (.inl h1)
    omega
def kmax (N : Ne) (V : Vw) (l : List Us) (m : Int) : Int := l.foldl (fun m u => max m (atP N V (nmU u))) m
theorem fold_kind (N : Ne) (V : Vw) : ∀ (l : List Us) (s : Int × List UInt8 × Int), (l.foldl (stepF N V) s).1 = kmax N V l s.1
  | [], s => rfl
  | u :: l, s => by
    show (l.foldl (stepF N V) (stepF N V s u)).1 = kmax N V l (max s.1 (atP N V (nmU u)))
    rw [fold_kind N V l, step_kind]
theorem kmax_mono {N N' : Ne} {V V' : Vw} : ∀ (l : List Us) (m m' : Int), (∀ u ∈ l, atP N V (nmU u) ≤ atP N' V' (nmU u)) → m ≤ m' → kmax N V l m ≤ kmax N' V' l m'
  | [], m, m', _, h => h
  | u :: l, m, m', h, hm => kmax_mono l _ _ (fun x hx => h x (by simp [hx])) (by have := h u (by simp); show max m (atP N V (nmU u)) ≤ max m' (atP N' V' (nmU u)); omega)
theorem best_kind (N : Ne) (V : Vw) : (bestP N V).1 = kmax N V (envs N V) 0 := fold_kind N V _ _
/-- the place that the best is at -/
theorem fold_at (N : Ne) (V : Vw) : ∀ (l : List Us) (s : Int × List UInt8 × Int), (s.1 = 0 ∨ ∃ u ∈ V.us, isEnv s.2.1 u = true ∧ u ∈ envs N V ∧ atP N V s.2.1 = s.1) → (∀ u ∈ l, u ∈ envs N V) → (∀ u ∈ envs N V, (taskO u.j u.i).isSome = true) →
    (l.foldl (stepF N V) s).1 = 0 ∨ ∃ u ∈ V.us, isEnv (l.foldl (stepF N V) s).2.1 u = true ∧ u ∈ envs N V ∧ atP N V (l.foldl (stepF N V) s).2.1 = (l.foldl (stepF N V) s).1
  | [], s, h, _, _ => h
  | u :: l, s, h, hl, ht => by
    refine fold_at N V l (stepF N V s u) ?_ (fun x hx => hl x (by simp [hx])) ht
    unfold stepF
    split
    · right
      have hu := hl u (by simp)
      have hm := List.mem_filter.1 hu
      refine ⟨u, hm.1, ?_, hu, rfl⟩
      have h2 := hm.2
      simp only [Bool.and_eq_true] at h2
      have h3 := ht u hu
      unfold isEnv nmU
      cases hq : taskO u.j u.i with
      | none => rw [hq] at h3; cases h3
      | some x => simp [h2.1.1, h2.1.2]
    · exact h
theorem env_whole {V : Vw} {N : Ne} (h : Chk V) {u : Us} (hu : u ∈ envs N V) : ∃ x, wholeP V (nmU u) = some x ∧ nmU u ≠ [] := by
  have hm := List.mem_filter.1 hu
  have h2 := hm.2
  simp only [Bool.and_eq_true] at h2
  have hf := h.fine u hm.1
  unfold fineP at hf
  simp only [Bool.and_eq_true] at hf
  have hs := hf.1.1.1.1
  cases hq : taskO u.j u.i with
  | none => rw [hq] at hs; cases hs
  | some x =>
    have hx : x ≠ [] := by
      unfold taskO at hq
      split at hq
      · cases hq; simp
      · cases hq
    have hn : nmU u = x := by unfold nmU; rw [hq]; rfl
    rw [hn]
    refine ⟨?_, ?_, hx⟩
    · exact ((envP V.us x).getD u).a
    · unfold wholeP
      rw [if_neg hx]
      have : (envP V.us x).isSome = true := by
        unfold envP
        rw [List.find?_isSome]
        exact ⟨u, hm.1, by unfold isEnv; rw [h2.1.1, h2.1.2, hq]; simp⟩
      cases he : envP V.us x with
      | none => rw [he] at this; cases this
      | some y => rfl

/-! the statements -/
theorem fit_of {N : Ne} {V : Vw} {k : Int} {p : List UInt8} (h : fitP N V = (k, p, 0)) : checkN N = true ∧ Chk V := by
  unfold fitP at h
  cases h1 : checkN N
  · rw [if_pos h1] at h; cases h
  rw [if_neg (by rw [h1]; decide)] at h
  cases h2 : checkV V
  · rw [if_pos h2] at h; cases h
  exact ⟨rfl, chk_iff.1 h2⟩
/-- all places no worse: the fit no worse -/
theorem fit_mono {N N' : Ne} {V V' : Vw} {k : Int} {p : List UInt8} (h : fitP N V = (k, p, 0)) (hn' : checkN N' = true) (hv' : Chk V') (hup : V'.up = V.up) (hL : N'.L = N.L) (hat : V'.at' = V.at') (hin : N'.n = N.n) (hes : envs N' V' = envs N V)
    (hm : ∀ q a, wholeP V q = some a → atP N V q ≤ atP N' V' q) : ∃ x q, fitP N' V' = (x, q, 0) ∧ k ≤ x := by
  obtain ⟨h1, h2⟩ := fit_of h
  have hv2 := chk_iff.2 hv'
  have hv := chk_iff.2 h2
  unfold fitP at h ⊢
  rw [if_neg (by rw [h1]; decide), if_neg (by rw [hv]; decide)] at h
  rw [if_neg (by rw [hn']; decide), if_neg (by rw [hv2]; decide), hup, hL, hat, hin]
  by_cases c1 : V.up = false ∨ (holdsR N.L V.at').1 = false
  · rw [if_pos c1] at h ⊢
    cases h
    exact ⟨0, [], rfl, Int.le_refl _⟩
  · rw [if_neg c1] at h ⊢
    by_cases c2 : N.n = []
    · rw [if_pos c2] at h ⊢
      cases h
      exact ⟨_, _, rfl, hm [] V.cap (by unfold wholeP; rw [if_pos rfl])⟩
    · rw [if_neg c2] at h ⊢
      have e : k = (bestP N V).1 := by cases h; rfl
      refine ⟨_, _, rfl, ?_⟩
      rw [e, best_kind, best_kind, hes]
      exact kmax_mono _ _ _ (fun u hu => by
        obtain ⟨x, hx, -⟩ := env_whole h2 hu
        exact hm _ x hx) (Int.le_refl _)
end Go.Proofs.YtaipldegobjboaaGreatDoor.Ft

namespace Go.Proofs.YtaipldegobjboaaGreatDoor.Ft
open Go.RowKit Go.Proofs.YtaipldegobjboaaGreatDoor Go.Proofs.YtaipldegobjboaaGreatDoor.Ru

theorem whole_some {V : Vw} (h : Chk V) {p : List UInt8} {a : Am} (hw : wholeP V p = some a) (k : Nat) (hk : k < 4) : sumK (inP V.us p) k ≤ a.get k := by
  obtain ⟨r, -, ho, ht⟩ := room_there h hw
  exact take_fits ho ht k hk

/-! more capacity -/
theorem add_more {a b c : Am} (h : addR a b = (c, 0)) : a.okB = true ∧ b.okB = true ∧ c.okB = true ∧ ∀ k, k < 4 → c.get k = a.get k + b.get k := by
  unfold addR at h
  cases ha : (a.okB && b.okB)
  · rw [if_pos ha] at h; cases h
  · rw [if_neg (by rw [ha]; decide)] at h
    simp only [Bool.and_eq_true] at ha
    cases hx : any4 (fun k => decide (1099511627776 < a.get k + b.get k))
    · rw [hx, if_neg (by decide)] at h
      cases h
      refine ⟨ha.1, ha.2, (Am.okB_iff _).2 fun q hq => ?_, fun k hk => Am.of_get _ k hk⟩
      rw [Am.of_get _ q hq]
      have h1 := ok_get ha.1 hq
      have h2 := ok_get ha.2 hq
      have h3 := any4_false hx hq
      simp only [decide_eq_false_iff_not] at h3
      omega
    · rw [hx, if_pos rfl] at h; cases h
theorem whole_cap (V : Vw) (c : Am) (p : List UInt8) : wholeP { V with cap := c } p = if p = [] then some c else wholeP V p := by
  unfold wholeP
  by_cases hp : p = []
  · rw [if_pos hp, if_pos hp]
  · rw [if_neg hp, if_neg hp, if_neg hp]
theorem fit_more {N : Ne} {V : Vw} {k : Int} {p : List UInt8} (h : fitP N V = (k, p, 0)) {m c : Am} (hc : addR V.cap m = (c, 0)) : ∃ x q, fitP N { V with cap := c } = (x, q, 0) ∧ k ≤ x := by
  obtain ⟨h1, h2⟩ := fit_of h
  obtain ⟨g1, g2, g3, g4⟩ := add_more hc
  have hchk : Chk { V with cap := c } := ⟨h2.nm, h2.at', g3, h2.fine, h2.nd, fun u hu => by
    have hr := h2.room u hu
    rw [room_whole, whole_cap]
    rw [room_whole] at hr
    by_cases hp : u.n = []
    · rw [if_pos hp]
      have hw : wholeP V u.n = some V.cap := by unfold wholeP; rw [if_pos hp]
      have hs := whole_some h2 hw
      obtain ⟨r, hr⟩ := take_of (l := inP V.us u.n) g3 (oks_filter h2.oks _) (fun q hq => by
        have := hs q hq
        have := g4 q hq
        have := ok_get g2 hq
        omega)
      simp only [Option.bind_some]
      show (takeP c (inP V.us u.n)).isSome = true
      rw [hr]; rfl
    · rw [if_neg hp]
      exact hr⟩
  refine fit_mono h h1 hchk rfl rfl rfl rfl rfl fun q a hw => ?_
  by_cases hq : q = []
  · subst hq
    have hw2 : wholeP { V with cap := c } [] = some c := by rw [whole_cap, if_pos rfl]
    have ha : a = V.cap := by unfold wholeP at hw; rw [if_pos rfl] at hw; cases hw; rfl
    subst ha
    exact at_mono h2 hchk hw hw2 (fun k hk => by have := g4 k hk; have := ok_get g2 hk; show _ ≤ c.get k - sumK (inP V.us []) k; omega)
      (fun k hk => by have := g4 k hk; have := ok_get g2 hk; show _ ≤ c.get k - sumK (V.us.filter (stay N [])) k; omega) (fun k hk => Int.le_refl _)
  · have hw2 : wholeP { V with cap := c } q = some a := by rw [whole_cap, if_neg hq]; exact hw
    exact at_mono h2 hchk hw hw2 (fun k hk => Int.le_refl _) (fun k hk => Int.le_refl _) (fun k hk => Int.le_refl _)

/-! a smaller limit, a higher band -/
theorem fit_less {N N' : Ne} {V : Vw} {k : Int} {p : List UInt8} (h : fitP N V = (k, p, 0)) (hn : checkN N' = true) (hd : N.d ≤ N'.d) (hL : N'.L = N.L) (hi : N'.n = N.n) (ha : ∀ k, k < 4 → N'.a.get k ≤ N.a.get k) : ∃ x q, fitP N' V = (x, q, 0) ∧ k ≤ x := by
  obtain ⟨h1, h2⟩ := fit_of h
  refine fit_mono h hn h2 rfl hL rfl hi (by unfold envs; rw [hi]) fun q a hw => ?_
  refine at_mono h2 h2 hw hw (fun k hk => Int.le_refl _) (fun k hk => ?_) ha
  have := sumK_mono (P := stay N' q) (Q := stay N q) (fun u hu => by
    unfold stay goer at hu ⊢
    simp only [Bool.and_eq_true, Bool.not_eq_true', Bool.and_eq_false_iff, decide_eq_false_iff_not] at hu ⊢
    refine ⟨hu.1, ?_⟩
    rcases hu.2 with ((h | h) | h) | h
    · exact .inl (.inl (.inl h))
    · exact .inl (.inl (.inr h))
    · exact .inl (.inr (by omega))
    · exact .inr h) V.us h2.oks hk
  omega

/-! a use gone -/
theorem env_erase {V : Vw} {i : Nat} (hi : i < V.us.length) (he : V.us[i].e = false) (q : List UInt8) : envP (V.us.eraseIdx i) q = envP V.us q := by
  unfold envP
  have e : V.us = V.us.take i ++ V.us[i] :: V.us.drop (i + 1) := by rw [List.getElem_cons_drop, List.take_append_drop]
  rw [List.eraseIdx_eq_take_drop_succ]
  conv => rhs; rw [e]
  rw [List.find?_append, List.find?_append, List.find?_cons]
  have : isEnv q V.us[i] = false := by unfold isEnv; rw [he]; rfl
  rw [this]
theorem envs_erase {N : Ne} {V : Vw} {i : Nat} (hi : i < V.us.length) (he : V.us[i].e = false) : envs N { V with us := V.us.eraseIdx i } = envs N V := by
  unfold envs
  have e : V.us = V.us.take i ++ V.us[i] :: V.us.drop (i + 1) := by rw [List.getElem_cons_drop, List.take_append_drop]
  show (V.us.eraseIdx i).filter _ = _
  rw [List.eraseIdx_eq_take_drop_succ]
  conv => rhs; rw [e]
  rw [List.filter_append, List.filter_append, List.filter_cons, he]
  rfl
theorem fit_gone {N : Ne} {V : Vw} {k : Int} {p : List UInt8} (h : fitP N V = (k, p, 0)) {i : Nat} (hi : i < V.us.length) (he : V.us[i].e = false) : ∃ x q, fitP N { V with us := V.us.eraseIdx i } = (x, q, 0) ∧ k ≤ x := by
  obtain ⟨h1, h2⟩ := fit_of h
  have hsub : (V.us.eraseIdx i).Sublist V.us := List.eraseIdx_sublist _ _
  have hin : ∀ q k, k < 4 → sumK (inP (V.us.eraseIdx i) q) k ≤ sumK (inP V.us q) k := fun q k hk => sumK_sub (hsub.filter _) (oks_filter h2.oks _) hk
  have hwh : ∀ q, wholeP { V with us := V.us.eraseIdx i } q = wholeP V q := fun q => by
    unfold wholeP
    rw [show ({ V with us := V.us.eraseIdx i } : Vw).us = V.us.eraseIdx i from rfl, env_erase hi he]
  have hoks : Oks (V.us.eraseIdx i) := fun u hu => h2.oks u (hsub.subset hu)
  have hchk : Chk { V with us := V.us.eraseIdx i } := ⟨h2.nm, h2.at', h2.cap, fun u hu => h2.fine u (hsub.subset hu), h2.nd.sublist (hsub.map _), fun u hu => by
    have hr := h2.room u (hsub.subset hu)
    rw [room_whole] at hr ⊢
    rw [hwh]
    cases hw : wholeP V u.n with
    | none => rw [hw] at hr; cases hr
    | some a =>
      have hs := whole_some h2 hw
      obtain ⟨r, hr⟩ := take_of (l := inP (V.us.eraseIdx i) u.n) (whole_ok h2 hw) (oks_filter hoks _) (fun q hq => by
        have := hs q hq
        have := hin u.n q hq
        omega)
      simp only [Option.bind_some]
      show (takeP a (inP (V.us.eraseIdx i) u.n)).isSome = true
      rw [hr]; rfl⟩
  refine fit_mono h h1 hchk rfl rfl rfl rfl (envs_erase hi he) fun q a hw => ?_
  refine at_mono h2 hchk hw (by rw [hwh]; exact hw) (fun k hk => ?_) (fun k hk => ?_) (fun k hk => Int.le_refl _)
  · have := hin q k hk
    show _ ≤ a.get k - sumK (inP (V.us.eraseIdx i) q) k
    omega
  · have : sumK ((V.us.eraseIdx i).filter (stay N q)) k ≤ sumK (V.us.filter (stay N q)) k := sumK_sub (hsub.filter _) (oks_filter h2.oks _) hk
    show _ ≤ a.get k - sumK ((V.us.eraseIdx i).filter (stay N q)) k
    omega

/-! who could go -/
theorem at_one {N : Ne} {V : Vw} {p : List UInt8} (h : atP N V p = 1) : goersP N V p ≠ [] := by
  intro e
  unfold atP at h
  split at h
  · omega
  · rename_i c1
    rw [e, show addAll ((roomP V p).getD Am.zero) [] = (roomP V p).getD Am.zero from rfl, if_neg c1] at h
    omega
theorem fit_goers {N : Ne} {V : Vw} {p : List UInt8} (h : fitP N V = (1, p, 0)) : goersR N V p = (goersP N V p, 0) ∧ goersP N V p ≠ [] ∧ ∀ u ∈ goersP N V p, u.d < N.d ∧ u.d < 2 ∧ u.e = false ∧ u.n = p := by
  obtain ⟨h1, h2⟩ := fit_of h
  have hv := chk_iff.2 h2
  have key : atP N V p = 1 ∧ ∃ a, wholeP V p = some a := by
    unfold fitP at h
    rw [if_neg (by rw [h1]; decide), if_neg (by rw [hv]; decide)] at h
    split at h
    · cases h
    split at h
    · have e1 : atP N V [] = 1 := by injection h
      have e2 : ([] : List UInt8) = p := by injection h with _ h; injection h
      rw [← e2]
      exact ⟨e1, V.cap, by unfold wholeP; rw [if_pos rfl]⟩
    · have e1 : (bestP N V).1 = 1 := by injection h
      have e2 : (bestP N V).2.1 = p := by injection h with _ h; injection h
      have ht : ∀ u ∈ envs N V, (taskO u.j u.i).isSome = true := fun u hu => by
        have hf := h2.fine u (List.mem_filter.1 hu).1
        unfold fineP at hf
        simp only [Bool.and_eq_true] at hf
        exact hf.1.1.1.1
      rcases fold_at N V (envs N V) (0, [], 0) (.inl rfl) (fun u hu => hu) ht with h3 | ⟨u, hu, hi, hm, ha⟩
      · have e3 : (bestP N V).1 = 0 := h3
        omega
      · have ha2 : atP N V (bestP N V).2.1 = (bestP N V).1 := ha
        rw [e2, e1] at ha2
        refine ⟨ha2, ?_⟩
        obtain ⟨x, hx, -⟩ := env_whole h2 hm
        have hi2 : isEnv (bestP N V).2.1 u = true := hi
        rw [e2] at hi2
        unfold isEnv at hi2
        simp only [Bool.and_eq_true, beq_iff_eq] at hi2
        have : nmU u = p := by unfold nmU; rw [hi2.2]; rfl
        rw [this] at hx
        exact ⟨x, hx⟩
  obtain ⟨k1, a, k2⟩ := key
  obtain ⟨r, hr, -, -⟩ := room_there h2 k2
  refine ⟨?_, at_one k1, fun u hu => ?_⟩
  · have hrr : roomR V p = (r, 0) := by unfold roomR; rw [if_neg (by rw [hv]; decide), hr]
    unfold goersR
    rw [if_neg (by rw [h1]; decide), hrr, if_pos rfl]
  · have := (List.mem_filter.1 hu).2
    unfold goer at this
    simp only [Bool.and_eq_true, decide_eq_true_eq, Bool.not_eq_true', beq_iff_eq] at this
    exact ⟨this.1.2, this.2, this.1.1.1, this.1.1.2⟩
theorem fit_err {N : Ne} {V : Vw} (h : (fitP N V).2.2 ≠ 0) : (fitP N V).1 = 0 ∧ (fitP N V).2.2 = 2 := by
  unfold fitP at h ⊢
  repeat' split
  all_goals simp_all
end Go.Proofs.YtaipldegobjboaaGreatDoor.Ft
