/- Entries of a ledger, in plain Lean. -/
import Derived.Test.YtighcnecajgkpaaMaps
import Derived.Test.YtighcnecajgkpaaAddP
namespace Go.Proofs.Ytighcnecajgkpaa
open Go.RowKit

structure Ent where
  n : ByteArray
  i : ByteArray
  a : Am
namespace Ent
def key (e : Ent) : List UInt8 := e.n.data.toList
end Ent
abbrev entC (e : Ent) : List Value := [.string e.n, .string e.i, .int .i64 e.a.c, .int .i64 e.a.r, .int .i64 e.a.d, .int .i64 e.a.p]
abbrev entV (e : Ent) : Value := .agg #[.string e.n, .string e.i, .int .i64 e.a.c, .int .i64 e.a.r, .int .i64 e.a.d, .int .i64 e.a.p]
def entM (L : List Ent) : SM := L.map fun e => (e.key, entV e)

def fnd (L : List Ent) (s : List UInt8) : Option Ent := L.find? fun e => e.key == s
def rem (L : List Ent) (s : List UInt8) : List Ent := L.filter fun e => !(e.key == s)
def insE (x : Ent) : List Ent → List Ent
  | [] => [x]
  | y :: r => if bytesBefore x.key y.key then x :: y :: r else y :: insE x r
def putE (L : List Ent) (x : Ent) : List Ent := insE x (rem L x.key)

theorem entM_get (L : List Ent) (s : List UInt8) : (entM L).get s = (fnd L s).map entV := by
  unfold entM SM.get fnd
  rw [List.find?_map]
  cases h : L.find? (fun e => e.key == s) with
  | none =>
    have : L.find? ((fun p : List UInt8 × Value => p.1 == s) ∘ fun e => (e.key, entV e)) = none := h
    rw [this]; rfl
  | some e =>
    have : L.find? ((fun p : List UInt8 × Value => p.1 == s) ∘ fun e => (e.key, entV e)) = some e := h
    rw [this]; rfl
theorem entM_has (L : List Ent) (s : List UInt8) : (entM L).hasK s = (fnd L s).isSome := by
  unfold entM SM.hasK fnd
  rw [List.any_map]
  induction L with
  | nil => rfl
  | cons e L ih =>
    simp only [List.any_cons, List.find?_cons, Function.comp]
    cases h : (e.key == s)
    · simpa using ih
    · simp
theorem entM_del (L : List Ent) (s : List UInt8) : (entM L).del s = entM (rem L s) := by
  unfold entM SM.del rem
  rw [List.filter_map]
  rfl
theorem entM_ins (x : Ent) : ∀ L : List Ent, SM.ins x.key (entV x) (entM L) = entM (insE x L)
  | [] => rfl
  | y :: L => by
    have ih := entM_ins x L
    unfold entM at *
    simp only [List.map_cons, SM.ins, insE]
    split
    · rfl
    · rw [ih]; rfl
theorem entM_put (L : List Ent) (x : Ent) : (entM L).put x.key (entV x) = entM (putE L x) := by
  unfold SM.put putE
  rw [entM_del, entM_ins]
theorem entM_len (L : List Ent) : (entM L).length = L.length := by simp [entM]

theorem insE_mem (x : Ent) : ∀ (L : List Ent) (e : Ent), e ∈ insE x L ↔ e = x ∨ e ∈ L
  | [], e => by simp [insE]
  | y :: L, e => by
    unfold insE
    split
    · simp
    · have := insE_mem x L e
      simp only [List.mem_cons, this]
      constructor
      · rintro (h | h | h)
        · exact .inr (.inl h)
        · exact .inl h
        · exact .inr (.inr h)
      · rintro (h | h | h)
        · exact .inr (.inl h)
        · exact .inl h
        · exact .inr (.inr h)
theorem putE_mem (L : List Ent) (x e : Ent) : e ∈ putE L x ↔ e = x ∨ (e ∈ L ∧ e.key ≠ x.key) := by
  unfold putE rem
  rw [insE_mem, List.mem_filter]
  simp

/-- keys are told apart -/
def Apart (L : List Ent) : Prop := L.Pairwise fun x y => x.key ≠ y.key
theorem fnd_mem {L : List Ent} {s : List UInt8} {e : Ent} (h : fnd L s = some e) : e ∈ L ∧ e.key = s := by
  unfold fnd at h
  exact ⟨List.mem_of_find?_eq_some h, by simpa using List.find?_some h⟩
theorem fnd_none {L : List Ent} {s : List UInt8} (h : fnd L s = none) : ∀ e ∈ L, e.key ≠ s := by
  unfold fnd at h
  intro e he
  have := List.find?_eq_none.1 h e he
  simpa using this
theorem fnd_of {L : List Ent} (hd : Apart L) {e : Ent} (he : e ∈ L) : fnd L e.key = some e := by
  induction L with
  | nil => cases he
  | cons y L ih =>
    unfold Apart at hd
    rw [List.pairwise_cons] at hd
    unfold fnd at *
    simp only [List.find?_cons]
    rcases List.mem_cons.1 he with rfl | h
    · simp
    · have : (y.key == e.key) = false := by simpa using hd.1 e h
      rw [this]
      exact ih hd.2 h

/-! sums -/
def tot (f : Ent → Int) (L : List Ent) : Int := (L.map f).sum
theorem tot_nil (f : Ent → Int) : tot f [] = 0 := rfl
theorem tot_cons (f : Ent → Int) (e : Ent) (L : List Ent) : tot f (e :: L) = f e + tot f L := by simp [tot]
theorem tot_ins (f : Ent → Int) (x : Ent) : ∀ L, tot f (insE x L) = f x + tot f L
  | [] => by simp [insE, tot]
  | y :: L => by
    unfold insE
    split
    · rw [tot_cons]
    · rw [tot_cons, tot_ins f x L, tot_cons]; omega
theorem tot_rem {L : List Ent} (hd : Apart L) (f : Ent → Int) {e : Ent} (he : e ∈ L) : tot f (rem L e.key) = tot f L - f e := by
  induction L with
  | nil => cases he
  | cons y L ih =>
    unfold Apart at hd
    rw [List.pairwise_cons] at hd
    unfold rem at *
    simp only [List.filter_cons]
    rcases List.mem_cons.1 he with rfl | h
    · have h1 : L.filter (fun x => !(x.key == e.key)) = L := by
        rw [List.filter_eq_self]
        intro x hx
        have := hd.1 x hx
        simp only [Bool.not_eq_true', beq_eq_false_iff_ne, ne_eq]
        exact fun h => this h.symm
      simp only [beq_self_eq_true, Bool.not_true, Bool.false_eq_true, if_false, h1, tot_cons]
      omega
    · have h2 : (y.key == e.key) = false := by simpa using hd.1 e h
      simp only [h2, Bool.not_false, if_true, tot_cons, ih hd.2 h]
      omega
theorem tot_le {f g : Ent → Int} {L : List Ent} (h : ∀ e ∈ L, f e ≤ g e) : tot f L ≤ tot g L := by
  induction L with
  | nil => exact Int.le_refl _
  | cons e L ih =>
    rw [tot_cons, tot_cons]
    have h1 := h e (by simp)
    have h2 := ih (fun x hx => h x (by simp [hx]))
    omega
theorem tot_nonneg {f : Ent → Int} {L : List Ent} (h : ∀ e ∈ L, 0 ≤ f e) : 0 ≤ tot f L := by
  have := tot_le (f := fun _ => 0) (g := f) h
  have h0 : tot (fun _ => 0) L = 0 := by
    induction L with
    | nil => rfl
    | cons e L ih => rw [tot_cons, ih (fun x hx => h x (by simp [hx])) (tot_le (fun x hx => h x (by simp [hx])))]; rfl
  omega
theorem tot_congr {f g : Ent → Int} {L : List Ent} (h : ∀ e ∈ L, f e = g e) : tot f L = tot g L := by
  unfold tot
  rw [List.map_congr_left h]

/-- of those that a test takes -/
def pickF (p : Ent → Bool) (k : Nat) (e : Ent) : Int := if p e then e.a.get k else 0
def sumA (p : Ent → Bool) (L : List Ent) : Am := .of fun k => tot (pickF p k) L
theorem sumA_get (p : Ent → Bool) (L : List Ent) {k : Nat} (hk : k < 4) : (sumA p L).get k = tot (pickF p k) L := Am.of_get _ k hk

/-- of those that have come up, one more -/
theorem tot_step {L : List Ent} (hd : Apart L) {e : Ent} (he : e ∈ L) (left : List UInt8 → Bool) (hl : left e.key = true) (f : Ent → Int) :
    tot (fun x => if (left x.key && !(x.key == e.key)) then 0 else f x) L = tot (fun x => if left x.key then 0 else f x) L + f e := by
  induction L with
  | nil => cases he
  | cons y L ih =>
    unfold Apart at hd
    rw [List.pairwise_cons] at hd
    rw [tot_cons, tot_cons]
    rcases List.mem_cons.1 he with rfl | h
    · have h1 : tot (fun x => if (left x.key && !(x.key == e.key)) then 0 else f x) L = tot (fun x => if left x.key then 0 else f x) L := tot_congr fun x hx => by
        have : (x.key == e.key) = false := by
          have := hd.1 x hx
          simp only [beq_eq_false_iff_ne, ne_eq]
          exact fun h => this h.symm
        rw [this]; simp
      rw [h1, hl]
      simp
      omega
    · have h2 : (y.key == e.key) = false := by simpa using hd.1 e h
      rw [ih hd.2 h, h2]
      simp only [Bool.not_false, Bool.and_true]
      omega
end Go.Proofs.Ytighcnecajgkpaa
