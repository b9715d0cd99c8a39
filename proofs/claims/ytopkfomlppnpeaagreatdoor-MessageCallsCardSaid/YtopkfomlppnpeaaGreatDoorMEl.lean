/- , laid together: Rw, MsEl, MsRow, MsPo. -/
import Derived.Test.YtopkfomlppnpeaaGreatDoorMSep
import Derived.Test.YtopkfomlppnpeaaGreatDoorMTk
import Derived.Test.YtopkfomlppnpeaaGreatDoorMsCrc
namespace Go.Proofs.YtopkfomlppnpeaaGreatDoor
open Go.RowKit

section
variable {α : Type} (c : α → List Value)
def rwC (L : List α) : List Value := L.flatMap c
end
section
variable {α : Type} {c : α → List Value} {k : Nat}
theorem rwC_nil : rwC c [] = [] := rfl
theorem rwC_cons (x : α) (L : List α) : rwC c (x :: L) = c x ++ rwC c L := by unfold rwC; rw [List.flatMap_cons]
theorem rwC_append (L M : List α) : rwC c (L ++ M) = rwC c L ++ rwC c M := by unfold rwC; rw [List.flatMap_append]
theorem rwC_snoc (L : List α) (x : α) : rwC c (L ++ [x]) = rwC c L ++ c x := by rw [rwC_append, rwC_cons, rwC_nil, List.append_nil]
theorem rwC_len (hk : ∀ x, (c x).length = k) : ∀ L : List α, (rwC c L).length = L.length * k
  | [] => by simp [rwC]
  | x :: L => by rw [rwC_cons, List.length_append, hk, rwC_len hk L, List.length_cons, Nat.add_mul]; omega
theorem rwC_one (h1 : ∀ x, ∀ u ∈ c x, u.oneCell' = true) (L : List α) : ∀ u ∈ rwC c L, u.oneCell' = true := by
  intro u hu
  obtain ⟨x, -, hx⟩ := List.mem_flatMap.1 hu
  exact h1 x u hx
theorem rwC_drop (hk : ∀ x, (c x).length = k) {L : List α} {m : Nat} (hm : m ≤ L.length) : (rwC c L).drop (m * k) = rwC c (L.drop m) := by
  conv => lhs; rw [← List.take_append_drop m L, rwC_append]
  rw [List.drop_left' (by rw [rwC_len hk, List.length_take, Nat.min_eq_left hm])]
theorem rwC_at (hk : ∀ x, (c x).length = k) {L : List α} {i : Nat} (hi : i < L.length) {j : Nat} (hj : j < k) : (rwC c L)[i * k + j]? = (c L[i])[j]? := by
  have h1 := rwC_drop hk (L := L) (m := i) (by omega)
  have h2 : (rwC c L)[i * k + j]? = ((rwC c L).drop (i * k))[j]? := by rw [List.getElem?_drop]
  rw [h2, h1, List.drop_eq_getElem_cons hi, rwC_cons, List.getElem?_append_left (by rw [hk]; exact hj)]
end

/-- the first of a row -/
theorem row_first {w : World} {p : Option Addr} {n c m size : Nat} {cs : List Value} (h : Row w (.slice p n c) size n cs) (hm : m ≤ n) : Row w (.slice p m c) size m (cs.take (m * size)) := by
  obtain ⟨p1, c1, hv, h1, h2, h3, h4, h5, h6⟩ := h
  simp only [Value.slice.injEq] at hv
  obtain ⟨rfl, -, rfl⟩ := hv
  have hms : m * size ≤ n * size := Nat.mul_le_mul_right _ hm
  refine ⟨p, c, rfl, by omega, h2, by rw [List.length_take]; omega, fun u hu => h4 u (List.mem_of_mem_take hu), fun e => ?_, ?_⟩
  · have := h5 e
    omega
  · rcases h6 with h6 | ⟨b, o, hp, ha⟩
    · subst h6; left; simp
    · refine .inr ⟨b, o, hp, fun j u hj => ha j u ?_⟩
      rw [List.getElem?_take] at hj
      split at hj
      · exact hj
      · cases hj
/-- the rest of a row -/
theorem row_rest {w : World} {p : Option Addr} {n c m size : Nat} {cs : List Value} (h : Row w (.slice p n c) size n cs) (hm : m ≤ n) : Row w (.slice (if c = m then p else Option.map (fun x => x.add (m * size)) p) (n - m) (c - m)) size (n - m) (cs.drop (m * size)) := by
  obtain ⟨p1, c1, hv, h1, h2, h3, h4, h5, h6⟩ := h
  simp only [Value.slice.injEq] at hv
  obtain ⟨rfl, -, rfl⟩ := hv
  refine ⟨_, c - m, rfl, by omega, by omega, by rw [List.length_drop, h3, Nat.sub_mul], fun u hu => h4 u (List.mem_of_mem_drop hu), fun e => ?_, ?_⟩
  · have : p = none := by split at e <;> simp_all
    have := h5 this
    omega
  · by_cases hlt : m < n
    · rcases h6 with h6 | ⟨b, o, rfl, ha⟩
      · subst h6; left; simp
      · refine .inr ⟨b, o + m * size, by rw [if_neg (by omega)]; simp [add_off], fun j u hj => ?_⟩
        rw [List.getElem?_drop] at hj
        have := ha _ u hj
        rw [Nat.add_assoc]
        exact this
    · left
      rw [List.drop_eq_nil_iff, h3]
      exact Nat.mul_le_mul_right _ (by omega)
end Go.Proofs.YtopkfomlppnpeaaGreatDoor

namespace Go.Proofs.YtopkfomlppnpeaaGreatDoor.Ms
open Go.RowKit Go.Proofs.YtopkfomlppnpeaaGreatDoor

/-- an element of any list: a name or a job, a place, an incarnation, amounts, an envelope's name, a state (a code, an error), a number -/
structure El where
  j : List UInt8
  i : Int
  n : Int
  a : Am
  s : List UInt8
  q : Int
  k : Int
deriving DecidableEq
abbrev envC (x : El) : List Value := [.string (bs x.j), .int .i64 x.a.c, .int .i64 x.a.r, .int .i64 x.a.d, .int .i64 x.a.p]
abbrev staC (x : El) : List Value := [.string (bs x.j), .int .i64 x.i, .int .u64 x.n, .int .i64 x.a.c, .int .i64 x.a.r, .int .i64 x.a.d, .int .i64 x.a.p, .string (bs x.s)]
abbrev stoC (x : El) : List Value := [.string (bs x.j), .int .i64 x.i, .int .u64 x.n]
abbrev helC (x : El) : List Value := [.string (bs x.j), .int .i64 x.i, .int .u64 x.n, .int .i64 x.q]
abbrev finC (x : El) : List Value := [.int .u64 x.k, .string (bs x.j), .int .i64 x.i, .int .u64 x.n, .int .i64 x.q]
abbrev refC (x : El) : List Value := [.string (bs x.j), .int .i64 x.i, .int .u64 x.n, .int .i64 x.q]
abbrev envV (x : El) : Value := .agg #[.string (bs x.j), .int .i64 x.a.c, .int .i64 x.a.r, .int .i64 x.a.d, .int .i64 x.a.p]
abbrev staV (x : El) : Value := .agg #[.string (bs x.j), .int .i64 x.i, .int .u64 x.n, .int .i64 x.a.c, .int .i64 x.a.r, .int .i64 x.a.d, .int .i64 x.a.p, .string (bs x.s)]
abbrev stoV (x : El) : Value := .agg #[.string (bs x.j), .int .i64 x.i, .int .u64 x.n]
abbrev helV (x : El) : Value := .agg #[.string (bs x.j), .int .i64 x.i, .int .u64 x.n, .int .i64 x.q]
abbrev finV (x : El) : Value := .agg #[.int .u64 x.k, .string (bs x.j), .int .i64 x.i, .int .u64 x.n, .int .i64 x.q]
abbrev refV (x : El) : Value := .agg #[.string (bs x.j), .int .i64 x.i, .int .u64 x.n, .int .i64 x.q]
def bl (a b : List UInt8) : Bool := Op.bytesLess (bs a).toList (bs b).toList
def ltT (x y : El) : Bool := bl x.j y.j || (x.j == y.j && decide (x.i < y.i))
def tk (x : El) : Bool := tkB x.j x.i && decide (1 ≤ x.n)
def envM (x : El) : Bool := tnB x.j && x.a.okB
def staM (x : El) : Bool := tk x && x.a.okB && !(decide (x.a = Am.zero)) && (x.s == [] || tnB x.s)
def stoM (x : El) : Bool := tk x
def helM (x : El) : Bool := tk x && decide (1 ≤ x.q) && decide (x.q ≤ 3)
def finM (x : El) : Bool := tk x && decide (1 ≤ x.k) && decide (0 ≤ x.q) && decide (x.q ≤ 258)
def refM (x : El) : Bool := tk x && decide (1 ≤ x.q) && decide (x.q ≤ 19)
def envL (x y : El) : Bool := bl x.j y.j
def finL (x y : El) : Bool := decide (x.k < y.k)
/-- is the element at a place as it must be? -/
def okAt (may : El → Bool) (lt : El → El → Bool) (L : List El) (k : Nat) : Bool :=
  match L[k]? with
  | none => false
  | some x => may x && (k == 0 || match L[k - 1]? with | none => false | some y => lt y x)
def risesB (may : El → Bool) (lt : El → El → Bool) (L : List El) : Bool := (List.range L.length).all (okAt may lt L) && decide (L.length ≤ 256)
theorem okAt_at {may : El → Bool} {lt : El → El → Bool} {L : List El} {k : Nat} (hk : k < L.length) : okAt may lt L k = (may (L[k]'hk) && (k == 0 || if h : k - 1 < L.length then lt (L[k - 1]'h) (L[k]'hk) else false)) := by
  unfold okAt
  rw [List.getElem?_eq_getElem hk, dif_pos (by omega), List.getElem?_eq_getElem (show k - 1 < L.length by omega)]
theorem rises_no {may : El → Bool} {lt : El → El → Bool} {L : List El} {k : Nat} (hk : k < L.length) (h : okAt may lt L k = false) : risesB may lt L = false := by
  have : (List.range L.length).all (okAt may lt L) = false := by
    rw [← Bool.not_eq_true, List.all_eq_true]
    intro hh
    have := hh k (List.mem_range.2 hk)
    rw [h] at this; cases this
  unfold risesB
  rw [this]; rfl
theorem rises_yes {may : El → Bool} {lt : El → El → Bool} {L : List El} (h : ∀ k, k < L.length → okAt may lt L k = true) : risesB may lt L = decide (L.length ≤ 256) := by
  unfold risesB
  rw [List.all_eq_true.2 (fun k hk => h k (List.mem_range.1 hk)), Bool.true_and]
/-- texts that a machine holds, numbers that are numbers -/
structure TxOk (x : El) : Prop where
  j : x.j.length ≤ 140737488351232
  s : x.s.length ≤ 140737488351232
  n : 0 ≤ x.n ∧ x.n < 18446744073709551616
  k : 0 ≤ x.k ∧ x.k < 18446744073709551616
end Go.Proofs.YtopkfomlppnpeaaGreatDoor.Ms

namespace Go.Proofs.YtopkfomlppnpeaaGreatDoor.Ms
open Go.RowKit Go.Proofs.YtopkfomlppnpeaaGreatDoor

theorem row_el {w : World} {v : Value} {size n : Nat} {cs : List Value} (h : Row w v size n cs) : ∃ p c, v = .slice p n c ∧ n ≤ c ∧ c ≤ maxLen ∧ (cs = [] ∨ ∃ b o, p = some ⟨b, o, none⟩ ∧ ∀ (j : Nat) u, cs[j]? = some u → w.cell? ⟨b, o + j, none⟩ = some u) := by
  obtain ⟨p, c, h1, h2, h3, -, -, -, h4⟩ := h
  exact ⟨p, c, h1, h2, h3, h4⟩
end Go.Proofs.YtopkfomlppnpeaaGreatDoor.Ms

namespace Go.Proofs.YtopkfomlppnpeaaGreatDoor.Ms
open Go.RowKit Go.Proofs.YtopkfomlppnpeaaGreatDoor

/-- a poll -/
structure Po where
  ep : Int
  sq : Int
  bo : Int
  at_ : Int
  le : Int
  K : List El
  T : List El
  P : List El
  se : Int
/-- a report -/
structure Rp where
  ep : Int
  sq : Int
  bo : Int
  at_ : Int
  H : List El
  F : List El
  R : List El
abbrev poC (p : Po) (k t s : Value) : List Value := [.int .u64 p.ep, .int .u64 p.sq, .int .u64 p.bo, .int .i64 p.at_, .int .i64 p.le, k, t, s, .int .u64 p.se]
abbrev poV (p : Po) (k t s : Value) : Value := .agg #[.int .u64 p.ep, .int .u64 p.sq, .int .u64 p.bo, .int .i64 p.at_, .int .i64 p.le, k, t, s, .int .u64 p.se]
abbrev rpC (p : Rp) (k t s : Value) : List Value := [.int .u64 p.ep, .int .u64 p.sq, .int .u64 p.bo, .int .i64 p.at_, k, t, s]
abbrev rpV (p : Rp) (k t s : Value) : Value := .agg #[.int .u64 p.ep, .int .u64 p.sq, .int .u64 p.bo, .int .i64 p.at_, k, t, s]
def checkP (p : Po) : Bool := decide (1 ≤ p.ep) && decide (1 ≤ p.sq) && decide (0 ≤ p.at_) && decide (p.at_ ≤ 1152921504606846976) && ((p.bo != 0) || (p.at_ == 0)) && decide (1 ≤ p.le) && decide (p.le ≤ 1048576) && risesB envM envL p.K && risesB staM ltT p.T && risesB stoM ltT p.P
def checkR (p : Rp) : Bool := decide (1 ≤ p.ep) && decide (1 ≤ p.sq) && decide (1 ≤ p.bo) && decide (0 ≤ p.at_) && decide (p.at_ ≤ 1152921504606846976) && risesB helM ltT p.H && risesB finM finL p.F && risesB refM ltT p.R
/-- what an element of a kind does not have is nothing -/
def envK (x : El) : Prop := x.i = 0 ∧ x.n = 0 ∧ x.s = [] ∧ x.q = 0 ∧ x.k = 0
def staK (x : El) : Prop := x.q = 0 ∧ x.k = 0
def stoK (x : El) : Prop := x.a = Am.zero ∧ x.s = [] ∧ x.q = 0 ∧ x.k = 0
def helK (x : El) : Prop := x.a = Am.zero ∧ x.s = [] ∧ x.k = 0
def finK (x : El) : Prop := x.a = Am.zero ∧ x.s = []
def refK (x : El) : Prop := x.a = Am.zero ∧ x.s = [] ∧ x.k = 0
def u64B (x : Int) : Prop := 0 ≤ x ∧ x < 18446744073709551616
def i64B (x : Int) : Prop := -9223372036854775808 ≤ x ∧ x < 9223372036854775808
/-- the lists of a poll in memory -/
structure PoW (w : World) (p : Po) (k t s : Value) : Prop where
  ck : ∀ x ∈ p.K, envK x
  ct : ∀ x ∈ p.T, staK x
  cs : ∀ x ∈ p.P, stoK x
  num : u64B p.ep ∧ u64B p.sq ∧ u64B p.bo ∧ i64B p.at_ ∧ i64B p.le ∧ u64B p.se
  k : Row w k 5 p.K.length (rwC envC p.K)
  t : Row w t 8 p.T.length (rwC staC p.T)
  s : Row w s 3 p.P.length (rwC stoC p.P)
  tk : ∀ x ∈ p.K, TxOk x
  tt : ∀ x ∈ p.T, TxOk x
  ts : ∀ x ∈ p.P, TxOk x
structure RpW (w : World) (p : Rp) (k t s : Value) : Prop where
  ck : ∀ x ∈ p.H, helK x
  ct : ∀ x ∈ p.F, finK x
  cs : ∀ x ∈ p.R, refK x
  num : u64B p.ep ∧ u64B p.sq ∧ u64B p.bo ∧ i64B p.at_
  k : Row w k 4 p.H.length (rwC helC p.H)
  t : Row w t 5 p.F.length (rwC finC p.F)
  s : Row w s 4 p.R.length (rwC refC p.R)
  tk : ∀ x ∈ p.H, TxOk x
  tt : ∀ x ∈ p.F, TxOk x
  ts : ∀ x ∈ p.R, TxOk x
theorem PoW.below {w w' : World} {p : Po} {k t s : Value} (h : PoW w p k t s) (hb : Below w.heap.size w w') : PoW w' p k t s := ⟨h.ck, h.ct, h.cs, h.num, h.k.below hb, h.t.below hb, h.s.below hb, h.tk, h.tt, h.ts⟩
theorem RpW.below {w w' : World} {p : Rp} {k t s : Value} (h : RpW w p k t s) (hb : Below w.heap.size w w') : RpW w' p k t s := ⟨h.ck, h.ct, h.cs, h.num, h.k.below hb, h.t.below hb, h.s.below hb, h.tk, h.tt, h.ts⟩
end Go.Proofs.YtopkfomlppnpeaaGreatDoor.Ms
