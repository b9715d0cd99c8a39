/- Charges and grants, in plain Lean. -/
import Derived.Test.YtmgbailpmcggiaaKl2
import Derived.Test.YtmgbailpmcggiaaAddP
import Derived.Test.YtmgbailpmcggiaaQKey
import Derived.Test.YtmgbailpmcggiaaQName
import Derived.Lib.Strings
namespace Go.Proofs.Ytmgbailpmcggiaa
open Go.RowKit

/-- a charge -/
structure Ch where
  n : ByteArray
  u : ByteArray
  b : Int
  a : Am
/-- a grant -/
structure Gr where
  u : ByteArray
  b : Int
  a : Am
def Ch.key (c : Ch) : List UInt8 := c.n.data.toList
def Gr.key (g : Gr) : List UInt8 := kT g.u g.b
abbrev chC (c : Ch) : List Value := [.string c.n, .string c.u, .int .i64 c.b, .int .i64 c.a.c, .int .i64 c.a.r, .int .i64 c.a.d, .int .i64 c.a.p]
abbrev chV (c : Ch) : Value := .agg #[.string c.n, .string c.u, .int .i64 c.b, .int .i64 c.a.c, .int .i64 c.a.r, .int .i64 c.a.d, .int .i64 c.a.p]
abbrev grC (g : Gr) : List Value := [.string g.u, .int .i64 g.b, .int .i64 g.a.c, .int .i64 g.a.r, .int .i64 g.a.d, .int .i64 g.a.p]
abbrev grV (g : Gr) : Value := .agg #[.string g.u, .int .i64 g.b, .int .i64 g.a.c, .int .i64 g.a.r, .int .i64 g.a.d, .int .i64 g.a.p]
def chM (C : List Ch) : SM := kM Ch.key chV C
def grM (G : List Gr) : SM := kM Gr.key (fun g => amV g.a) G

/-! sums of those that a test takes -/
def pf (p : Ch → Bool) (k : Nat) (e : Ch) : Int := if p e then e.a.get k else 0
def psum (p : Ch → Bool) (C : List Ch) : Am := .of fun k => ksum (pf p k) C
def pdone (p : Ch → Bool) (C : List Ch) (left : Lit → Bool) : Am := .of fun k => kdone Ch.key (pf p k) left C
theorem psum_get (p : Ch → Bool) (C : List Ch) {k : Nat} (hk : k < 4) : (psum p C).get k = ksum (pf p k) C := Am.of_get _ k hk
theorem pdone_get (p : Ch → Bool) (C : List Ch) (left : Lit → Bool) {k : Nat} (hk : k < 4) : (pdone p C left).get k = kdone Ch.key (pf p k) left C := Am.of_get _ k hk
theorem zero_get (k : Nat) (hk : k < 4) : Am.zero.get k = 0 := by
  match k, hk with
  | 0, _ => rfl
  | 1, _ => rfl
  | 2, _ => rfl
  | 3, _ => rfl
def Oks (C : List Ch) : Prop := ∀ e ∈ C, e.a.okB = true
theorem pdone_start {p : Ch → Bool} {C : List Ch} {left : Lit → Bool} (h : ∀ e ∈ C, left (.string e.key) = true) : pdone p C left = .zero := Am.ext_get fun k hk => by
  rw [pdone_get p C left hk, zero_get k hk]
  exact kdone_start h
theorem pdone_end {p : Ch → Bool} {C : List Ch} {left : Lit → Bool} (h : ∀ s, left (.string s) = false) : pdone p C left = psum p C := Am.ext_get fun k hk => by
  rw [pdone_get p C left hk, psum_get p C hk]
  exact kdone_end h
theorem pdone_step {p : Ch → Bool} {C : List Ch} {left : Lit → Bool} (hd : KApart Ch.key C) {e : Ch} (he : e ∈ C) (hl : left (.string e.key) = true) {k : Nat} (hk : k < 4) :
    (pdone p C (fun z => left z && !z.sameKey (.string e.key))).get k = (pdone p C left).get k + pf p k e := by
  rw [pdone_get p C _ hk, pdone_get p C _ hk]
  exact kdone_step hd he hl
theorem pdone_skip {p : Ch → Bool} {C : List Ch} {left : Lit → Bool} (hd : KApart Ch.key C) {e : Ch} (he : e ∈ C) (hl : left (.string e.key) = true) (hp : p e = false) :
    pdone p C (fun z => left z && !z.sameKey (.string e.key)) = pdone p C left := Am.ext_get fun k hk => by
  rw [pdone_step hd he hl hk]
  unfold pf
  rw [hp]
  simp
theorem pf_nonneg {p : Ch → Bool} {C : List Ch} (ho : Oks C) {k : Nat} (hk : k < 4) : ∀ e ∈ C, 0 ≤ pf p k e := fun e he => by
  have := ok_get (ho e he) hk
  unfold pf
  split <;> omega
theorem pdone_bd {p : Ch → Bool} {C : List Ch} (left : Lit → Bool) (ho : Oks C) {k : Nat} (hk : k < 4) : 0 ≤ (pdone p C left).get k ∧ (pdone p C left).get k ≤ (psum p C).get k := by
  rw [pdone_get p C left hk, psum_get p C hk]
  exact kdone_bd left (pf_nonneg ho hk)
theorem psum_nonneg {p : Ch → Bool} {C : List Ch} (ho : Oks C) {k : Nat} (hk : k < 4) : 0 ≤ (psum p C).get k := by
  rw [psum_get p C hk]
  exact ksum_nonneg (pf_nonneg ho hk)
/-- the picked ones are not too many -/
def Fit (p : Ch → Bool) (C : List Ch) : Prop := (psum p C).okB = true
theorem pdone_add {p : Ch → Bool} {C : List Ch} {left : Lit → Bool} (hd : KApart Ch.key C) (ho : Oks C) (hf : Fit p C) {e : Ch} (he : e ∈ C) (hl : left (.string e.key) = true) (hp : p e = true) :
    addR (pdone p C left) e.a = (pdone p C (fun z => left z && !z.sameKey (.string e.key)), 0) := by
  have hb : ∀ (l : Lit → Bool) k, k < 4 → 0 ≤ (pdone p C l).get k ∧ (pdone p C l).get k ≤ 1099511627776 := fun l k hk => by
    have h1 := pdone_bd (p := p) l ho hk
    have h2 := ok_get hf hk
    omega
  have hst : ∀ k, k < 4 → (pdone p C (fun z => left z && !z.sameKey (.string e.key))).get k = (pdone p C left).get k + e.a.get k := fun k hk => by
    rw [pdone_step hd he hl hk]; unfold pf; rw [hp]; simp
  have h1 : (pdone p C left).okB = true := by rw [Am.okB_iff]; exact hb left
  exact addR_ok (by rw [h1, ho e he]; rfl) (fun k hk => by rw [← hst k hk]; exact (hb _ k hk).2) hst
theorem psum_le {p q : Ch → Bool} {C : List Ch} (ho : Oks C) (h : ∀ e, p e = true → q e = true) {k : Nat} (hk : k < 4) : (psum p C).get k ≤ (psum q C).get k := by
  rw [psum_get p C hk, psum_get q C hk]
  induction C with
  | nil => exact Int.le_refl _
  | cons e C ih =>
    rw [ksum_cons, ksum_cons]
    have h1 := ih (fun x hx => ho x (by simp [hx]))
    have h2 := ok_get (ho e (by simp)) hk
    have h3 : pf p k e ≤ pf q k e := by
      unfold pf
      cases hp : p e
      · simp; split <;> omega
      · rw [h e hp]; simp
    omega
theorem Fit.le {p q : Ch → Bool} {C : List Ch} (hf : Fit q C) (ho : Oks C) (h : ∀ e, p e = true → q e = true) : Fit p C := by
  unfold Fit
  rw [Am.okB_iff]
  intro k hk
  have h1 := psum_nonneg (p := p) ho hk
  have h2 := psum_le ho h hk
  have h3 := ok_get hf hk
  omega

/-- a user's in a band -/
def onB (u : ByteArray) (b : Int) (e : Ch) : Bool := (e.u.toList == u.toList) && (e.b == b)
/-- the same, one aside -/
def hit (u : ByteArray) (b : Int) (t : ByteArray) (e : Ch) : Bool := (e.u.toList == u.toList) && (e.b == b) && !(e.n.toList == t.toList)
theorem hit_on {u : ByteArray} {b : Int} {t : ByteArray} {e : Ch} (h : hit u b t e = true) : onB u b e = true := by
  unfold hit at h
  unfold onB
  rw [Bool.and_eq_true] at h
  exact h.1

def nmdB (n : ByteArray) : Bool := decide (1 ≤ n.size ∧ n.size ≤ 64)
def bandB (b : Int) : Bool := decide (0 ≤ b ∧ b ≤ 3)
def askB (u : ByteArray) (b : Int) : Bool := nameB 16 u.data.toList && bandB b
theorem bandS_empty (b : Int) : (bandS b).toList.isEmpty = !bandB b := by
  rw [Lib.toList_data]
  unfold bandS bandB
  by_cases h0 : b = 0
  · subst h0; rfl
  by_cases h1 : b = 1
  · subst h1; rfl
  by_cases h2 : b = 2
  · subst h2; rfl
  by_cases h3 : b = 3
  · subst h3; rfl
  rw [if_neg h0, if_neg h1, if_neg h2, if_neg h3, decide_eq_false (by omega)]
  rfl

def grantA (G : List Gr) (u : ByteArray) (b : Int) : Am := ((kfnd Gr.key G (kT u b)).map Gr.a).getD .zero
theorem grantA_look (G : List Gr) (u : ByteArray) (b : Int) : ((grM G).get (kT u b)).getD (amV .zero) = amV (grantA G u b) := by
  unfold grM grantA
  rw [kM_get]
  cases kfnd Gr.key G (kT u b) <;> rfl

/-! what the calls answer -/
def mayP (G : List Gr) (C : List Ch) (c : Ch) (less : Bool) : Int :=
  if (addR (psum (hit c.u c.b c.n) C) c.a).2 ≠ 0 then 9
  else if (!less && !(c.b == 0) && !fitsB (addR (psum (hit c.u c.b c.n) C) c.a).1 (grantA G c.u c.b)) = true then 12 else 0
def grantP (G : List Gr) (u : ByteArray) (b : Int) (a : Am) : Int × List Gr :=
  if (askB u b && a.okB) = true then (0, kput Gr.key G ⟨u, b, a⟩) else (2, G)
def chargeP (G : List Gr) (C : List Ch) (c : Ch) : Int × List Ch :=
  if (nmdB c.n && askB c.u c.b && c.a.okB) = false then (2, C)
  else if (kfnd Ch.key C c.key).isSome = true then (7, C)
  else if mayP G C c false ≠ 0 then (mayP G C c false, C) else (0, kput Ch.key C c)
def refundP (C : List Ch) (n : ByteArray) : Int × List Ch :=
  if nmdB n = false then (2, C) else if (kfnd Ch.key C n.data.toList).isSome = false then (6, C) else (0, krem Ch.key C n.data.toList)
def changeP (G : List Gr) (C : List Ch) (n : ByteArray) (a : Am) : Int × List Ch :=
  if (nmdB n && a.okB) = false then (2, C)
  else match kfnd Ch.key C n.data.toList with
    | none => (6, C)
    | some c => if mayP G C ⟨c.n, c.u, c.b, a⟩ (fitsB a c.a) ≠ 0 then (mayP G C ⟨c.n, c.u, c.b, a⟩ (fitsB a c.a), C) else (0, kput Ch.key C ⟨c.n, c.u, c.b, a⟩)
def usedP (C : List Ch) (u : ByteArray) (b : Int) : Am × Int := if askB u b = true then (psum (onB u b) C, 0) else (.zero, 2)
def grantedP (G : List Gr) (u : ByteArray) (b : Int) : Am × Int := if askB u b = true then (grantA G u b, 0) else (.zero, 2)
def leastA (x y : Am) : Am := .of fun k => min (x.get k) (y.get k)
def leftA (G : List Gr) (C : List Ch) (u : ByteArray) (b : Int) : Am := .of fun k => (grantA G u b).get k - min ((psum (onB u b) C).get k) ((grantA G u b).get k)
def leftP (G : List Gr) (C : List Ch) (u : ByteArray) (b : Int) : Am × Int := if askB u b = true then (leftA G C u b, 0) else (.zero, 2)
def overB (G : List Gr) (C : List Ch) (c : Ch) : Bool := !(c.b == 0) && !fitsB (psum (onB c.u c.b) C) (grantA G c.u c.b)
def overP (G : List Gr) (C : List Ch) : List Ch := C.filter (overB G C)
end Go.Proofs.Ytmgbailpmcggiaa
