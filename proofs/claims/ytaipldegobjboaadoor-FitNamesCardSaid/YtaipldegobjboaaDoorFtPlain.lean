/- FtPlain. -/
import Derived.Test.YtaipldegobjboaaDoorRuAttrs
import Derived.Test.YtaipldegobjboaaDoorMAmt
namespace Go.Proofs.YtaipldegobjboaaDoor.Ft
open Go.RowKit Go.Proofs.YtaipldegobjboaaDoor Go.Proofs.YtaipldegobjboaaDoor.Ru

/-- a use of a machine -/
structure Us where
  j : List UInt8
  i : Int
  d : Int
  a : Am
  n : List UInt8
  e : Bool
  deriving DecidableEq
/-- a machine -/
structure Vw where
  nm : List UInt8
  at' : List Ru.At
  cap : Am
  up : Bool
  us : List Us
/-- a need -/
structure Ne where
  j : List UInt8
  d : Int
  a : Am
  L : List Nd
  n : List UInt8
def specB (l : List UInt8) : Bool := decide (1 ≤ l.length ∧ l.length ≤ 16) && hd lo l && l.all nmc
def taskO (j : List UInt8) (i : Int) : Option (List UInt8) := if specB j = true ∧ 0 ≤ i ∧ i < 64 then some (j ++ 46 :: Lib.itoa i) else none
def inP (l : List Us) (p : List UInt8) : List Us := l.filter fun u => u.n == p
def takeP : Am → List Us → Option Am
  | a, [] => some a
  | a, u :: l => if (subR a u.a).2 = 0 then takeP (subR a u.a).1 l else none
def isEnv (p : List UInt8) (u : Us) : Bool := u.e && u.n == [] && taskO u.j u.i == some p
def envP (l : List Us) (p : List UInt8) : Option Us := l.find? (isEnv p)
def roomP (V : Vw) (p : List UInt8) : Option Am := if p = [] then takeP V.cap (inP V.us p) else match envP V.us p with | none => none | some u => takeP u.a (inP V.us p)
def fineP (u : Us) : Bool := (taskO u.j u.i).isSome && !(u.e && !(u.n == [])) && decide (0 ≤ u.d) && decide (u.d ≤ 3) && u.a.okB
def keyU (u : Us) : List UInt8 × Int := (u.j, u.i)
def checkV (V : Vw) : Bool := decide (1 ≤ V.nm.length ∧ V.nm.length ≤ 16) && decide (attrsR V.at' = 0) && V.cap.okB && V.us.all fineP && decide ((V.us.map keyU).Nodup) && V.us.all (fun u => (roomP V u.n).isSome)
def anyL : List Nd := [⟨1, [], [], 0, -1, -1⟩]
def checkN (N : Ne) : Bool := specB N.j && decide (0 ≤ N.d) && decide (N.d ≤ 3) && N.a.okB && !(decide (N.a = Am.zero)) && decide (checkP N.L = 0) && (N.n == [] || (specB N.n && decide (N.L = anyL)))
def goer (N : Ne) (p : List UInt8) (u : Us) : Bool := !u.e && u.n == p && decide (u.d < N.d) && decide (u.d < 2)
def goersP (N : Ne) (V : Vw) (p : List UInt8) : List Us := V.us.filter (goer N p)
def addAll (a : Am) (l : List Us) : Am := l.foldl (fun f u => (addR f u.a).1) a
def atP (N : Ne) (V : Vw) (p : List UInt8) : Int :=
  if fitsB N.a ((roomP V p).getD Am.zero) = true then 2 else if fitsB N.a (addAll ((roomP V p).getD Am.zero) (goersP N V p)) = true then 1 else 0
def nmU (u : Us) : List UInt8 := (taskO u.j u.i).getD []
def envs (N : Ne) (V : Vw) : List Us := V.us.filter fun u => u.e && u.n == [] && u.j == N.n
def stepF (N : Ne) (V : Vw) (s : Int × List UInt8 × Int) (u : Us) : Int × List UInt8 × Int :=
  if atP N V (nmU u) > s.1 ∨ (atP N V (nmU u) = s.1 ∧ atP N V (nmU u) > 0 ∧ u.i < s.2.2) then (atP N V (nmU u), nmU u, u.i) else s
def bestP (N : Ne) (V : Vw) : Int × List UInt8 × Int := (envs N V).foldl (stepF N V) (0, [], 0)
def fitP (N : Ne) (V : Vw) : Int × List UInt8 × Int :=
  if checkN N = false then (0, [], 2) else if checkV V = false then (0, [], 2)
  else if V.up = false ∨ (holdsR N.L V.at').1 = false then (0, [], 0)
  else if N.n = [] then (atP N V [], [], 0) else ((bestP N V).1, (bestP N V).2.1, 0)
def roomR (V : Vw) (p : List UInt8) : Am × Int := if checkV V = false then (Am.zero, 2) else match roomP V p with | some a => (a, 0) | none => (Am.zero, 2)
def goersR (N : Ne) (V : Vw) (p : List UInt8) : List Us × Int :=
  if checkN N = false then ([], 2) else if (roomR V p).2 = 0 then (goersP N V p, 0) else ([], (roomR V p).2)

/-! sums -/
def sumK (l : List Us) (k : Nat) : Int := (l.map (fun u => u.a.get k)).sum
theorem sumK_nil (k : Nat) : sumK [] k = 0 := rfl
theorem sumK_cons (u : Us) (l : List Us) (k : Nat) : sumK (u :: l) k = u.a.get k + sumK l k := by unfold sumK; simp
def Oks (l : List Us) : Prop := ∀ u ∈ l, u.a.okB = true
theorem sumK_nonneg {l : List Us} (h : Oks l) {k : Nat} (hk : k < 4) : 0 ≤ sumK l k := by
  induction l with
  | nil => simp [sumK_nil]
  | cons u l ih =>
    rw [sumK_cons]
    have h1 := ok_get (h u (by simp)) hk
    have h2 := ih (fun x hx => h x (by simp [hx]))
    omega
theorem sumK_sub {l' l : List Us} (hs : l'.Sublist l) (h : Oks l) {k : Nat} (hk : k < 4) : sumK l' k ≤ sumK l k := by
  induction hs with
  | slnil => simp [sumK_nil]
  | cons u _ ih =>
    rw [sumK_cons]
    have h1 := ok_get (h u (by simp)) hk
    have h2 := ih (fun x hx => h x (by simp [hx]))
    omega
  | cons_cons u _ ih =>
    rw [sumK_cons, sumK_cons]
    have h2 := ih (fun x hx => h x (by simp [hx]))
    omega
theorem sumK_split (P : Us → Bool) (l : List Us) (k : Nat) : sumK (l.filter P) k + sumK (l.filter fun u => !P u) k = sumK l k := by
  induction l with
  | nil => simp [sumK_nil]
  | cons u l ih =>
    rw [List.filter_cons, List.filter_cons, sumK_cons]
    cases P u <;> simp only [Bool.not_false, Bool.not_true, if_true, if_false, Bool.false_eq_true, sumK_cons] <;> omega
theorem sumK_mono {P Q : Us → Bool} (h : ∀ u, P u = true → Q u = true) (l : List Us) (ho : Oks l) {k : Nat} (hk : k < 4) : sumK (l.filter P) k ≤ sumK (l.filter Q) k := by
  induction l with
  | nil => simp [sumK_nil]
  | cons u l ih =>
    have h1 := ok_get (ho u (by simp)) hk
    have h2 := ih (fun x hx => ho x (by simp [hx]))
    rw [List.filter_cons, List.filter_cons]
    cases hp : P u
    · cases hq : Q u
      · simpa using h2
      · simp only [Bool.false_eq_true, if_false, if_true, sumK_cons]; omega
    · rw [h u hp]; simp only [if_true, sumK_cons]; omega
theorem fits_iff {x y : Am} : fitsB x y = true ↔ ∀ k, k < 4 → x.get k ≤ y.get k := by
  unfold fitsB
  constructor
  · intro h k hk
    have h2 : any4 (fun k => decide (y.get k < x.get k)) = false := by simpa using h
    have := any4_false h2 hk
    simpa using this
  · intro h
    rw [any4_no (fun k hk => by have := h k hk; simpa using this)]
    rfl
theorem sub_iff {a b : Am} : (subR a b).2 = 0 ↔ a.okB = true ∧ b.okB = true ∧ fitsB b a = true := by
  unfold subR
  cases h1 : a.okB <;> cases h2 : b.okB <;> cases h3 : fitsB b a <;> simp
theorem sub_get {a b : Am} (h : (subR a b).2 = 0) {k : Nat} (hk : k < 4) : (subR a b).1.get k = a.get k - b.get k := by
  obtain ⟨h1, h2, h3⟩ := sub_iff.1 h
  unfold subR
  rw [if_neg (by rw [h1, h2]; decide), if_neg (by rw [h3]; decide)]
  exact Am.of_get _ k hk
theorem take_get : ∀ {l : List Us} {a r : Am}, a.okB = true → takeP a l = some r → ∀ k, k < 4 → r.get k = a.get k - sumK l k ∧ r.okB = true
  | [], a, r, ha, h, k, hk => by
    unfold takeP at h
    cases h
    rw [sumK_nil]
    exact ⟨by omega, ha⟩
  | u :: l, a, r, ha, h, k, hk => by
    unfold takeP at h
    by_cases hs : (subR a u.a).2 = 0
    · rw [if_pos hs] at h
      obtain ⟨h1, h2, h3⟩ := sub_iff.1 hs
      have h4 := fits_iff.1 h3
      have hok : (subR a u.a).1.okB = true := (Am.okB_iff _).2 fun q hq => by
        rw [sub_get hs hq]
        have := ok_get h1 hq
        have := ok_get h2 hq
        have := h4 q hq
        omega
      obtain ⟨g1, g2⟩ := take_get hok h k hk
      rw [sub_get hs hk] at g1
      rw [sumK_cons]
      exact ⟨by omega, g2⟩
    · rw [if_neg hs] at h; cases h
theorem take_of : ∀ {l : List Us} {a : Am}, a.okB = true → Oks l → (∀ k, k < 4 → sumK l k ≤ a.get k) → ∃ r, takeP a l = some r
  | [], a, _, _, _ => ⟨a, rfl⟩
  | u :: l, a, ha, ho, h => by
    have hol : Oks l := fun x hx => ho x (by simp [hx])
    have hs : (subR a u.a).2 = 0 := sub_iff.2 ⟨ha, ho u (by simp), fits_iff.2 fun k hk => by
      have h1 := h k hk
      rw [sumK_cons] at h1
      have := sumK_nonneg hol hk
      omega⟩
    unfold takeP
    rw [if_pos hs]
    refine take_of ((Am.okB_iff _).2 fun q hq => ?_) hol fun k hk => ?_
    · rw [sub_get hs hq]
      have h1 := h q hq
      rw [sumK_cons] at h1
      have := sumK_nonneg hol hq
      have := ok_get ha hq
      have := ok_get (ho u (by simp)) hq
      omega
    · rw [sub_get hs hk]
      have h1 := h k hk
      rw [sumK_cons] at h1
      omega
theorem take_fits {l : List Us} {a r : Am} (ha : a.okB = true) (h : takeP a l = some r) (k : Nat) (hk : k < 4) : sumK l k ≤ a.get k := by
  obtain ⟨g1, g2⟩ := take_get ha h k hk
  have := ok_get g2 hk
  omega
theorem add_get {a b : Am} (ha : a.okB = true) (hb : b.okB = true) (h : ∀ k, k < 4 → a.get k + b.get k ≤ 1099511627776) {k : Nat} (hk : k < 4) : (addR a b).1.get k = a.get k + b.get k ∧ (addR a b).1.okB = true := by
  have e := addR_ok (z := Am.of fun k => a.get k + b.get k) (by rw [ha, hb]; rfl) h (fun k hk => Am.of_get _ k hk)
  rw [e]
  refine ⟨Am.of_get _ k hk, (Am.okB_iff _).2 fun q hq => ?_⟩
  rw [Am.of_get _ q hq]
  have := ok_get ha hq
  have := ok_get hb hq
  have := h q hq
  omega
theorem addAll_get : ∀ {l : List Us} {a : Am}, a.okB = true → Oks l → (∀ k, k < 4 → a.get k + sumK l k ≤ 1099511627776) → ∀ k, k < 4 → (addAll a l).get k = a.get k + sumK l k
  | [], a, _, _, _, k, hk => by show a.get k = _; rw [sumK_nil]; omega
  | u :: l, a, ha, ho, h, k, hk => by
    have hol : Oks l := fun x hx => ho x (by simp [hx])
    have hle : ∀ k, k < 4 → a.get k + u.a.get k ≤ 1099511627776 := fun q hq => by
      have h1 := h q hq
      rw [sumK_cons] at h1
      have := sumK_nonneg hol hq
      omega
    have hg := fun q (hq : q < 4) => add_get ha (ho u (by simp)) hle hq
    show (addAll (addR a u.a).1 l).get k = _
    rw [addAll_get (hg k hk).2 hol (fun q hq => by
      rw [(hg q hq).1]
      have h1 := h q hq
      rw [sumK_cons] at h1
      omega) k hk, (hg k hk).1, sumK_cons]
    omega
end Go.Proofs.YtaipldegobjboaaDoor.Ft
