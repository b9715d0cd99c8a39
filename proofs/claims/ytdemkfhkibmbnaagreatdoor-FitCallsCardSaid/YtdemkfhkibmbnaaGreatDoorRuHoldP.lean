/- RuHoldP. -/
import Derived.Test.YtdemkfhkibmbnaaGreatDoorM14
import Derived.Test.YtdemkfhkibmbnaaGreatDoorRuIsName
namespace Go.Proofs.YtdemkfhkibmbnaaGreatDoor.Ru
open Go.RowKit Go.Proofs.YtdemkfhkibmbnaaGreatDoor
structure At where
 nm : List UInt8
 vl : List UInt8
 deriving DecidableEq
abbrev atC (x : At) : List Value := [.string (bs x.nm), .string (bs x.vl)]
theorem atC_one (x : At) : ∀ u ∈ atC x, u.oneCell' = true := by
 intro u hu; simp only [atC, List.mem_cons, List.not_mem_nil, or_false] at hu; rcases hu with rfl | rfl <;> rfl
def atI (A : List At) (nm : List UInt8) : Nat := A.findIdx (fun a => a.nm == nm)
def valAt (A : List At) (nm : List UInt8) : Option (List UInt8) := (A.find? (fun a => a.nm == nm)).map At.vl
theorem valAt_some {A : List At} {nm : List UInt8} (h : atI A nm < A.length) : valAt A nm = some (A[atI A nm]'h).vl := by
 unfold valAt
 unfold atI at h
 rw [List.find?_eq_getElem?_findIdx, List.getElem?_eq_getElem h]
 rfl
theorem valAt_none {A : List At} {nm : List UInt8} (h : ¬ atI A nm < A.length) : valAt A nm = none := by
 unfold valAt
 unfold atI at h
 rw [List.find?_eq_getElem?_findIdx, List.getElem?_eq_none (by omega)]
 rfl
def leafH (n : Nd) (o : Option (List UInt8)) : Bool :=
 if n.k = 1 then true
 else if n.k = 2 then (match o with | some v => v == n.vl | none => false)
 else if n.k = 3 then (match o with | some v => !(v == n.vl) | none => true)
 else if n.k = 4 then (match o with | some v => allB 12 dgt v && decide (n.x ≤ digV v) | none => false)
 else if n.k = 5 then (match o with | some v => allB 12 dgt v && decide (digV v ≤ n.x) | none => false)
 else o.isSome
def holdF (L : List Nd) (A : List At) : Nat → Nat → Bool
 | 0, _ => false
 | F + 1, i => match L[i]? with
  | none => false
  | some n =>
   if n.k = 7 then !(holdF L A F n.a.toNat)
   else if n.k = 8 then holdF L A F n.a.toNat && holdF L A F n.b.toNat
   else if n.k = 9 then holdF L A F n.a.toNat || holdF L A F n.b.toNat
   else leafH n (valAt A n.nm)
theorem hold_fuel {L : List Nd} {A : List At} (hf : Fine L) : ∀ (F F' i : Nat), i < F → i < F' → holdF L A F i = holdF L A F' i
 | 0, _, i, h, _ => absurd h (by omega)
 | _ + 1, 0, i, _, h => absurd h (by omega)
 | F + 1, F' + 1, i, h, h' => by
  unfold holdF
  cases hi : L[i]? with
  | none => rfl
  | some n =>
   have hp := hf i n hi
   unfold parts at hp
   simp only
   by_cases h7 : n.k = 7
   ·rw [if_pos h7] at hp
    have := hp n.a (by simp); rw [if_pos h7, if_pos h7, hold_fuel hf F F' n.a.toNat (by omega) (by omega)]
   rw [if_neg h7, if_neg h7]; rw [if_neg h7] at hp
   by_cases h8 : n.k = 8
   ·rw [if_pos (.inl h8)] at hp
    have ha := hp n.a (by simp); have hb := hp n.b (by simp); rw [if_pos h8, if_pos h8, hold_fuel hf F F' n.a.toNat (by omega) (by omega), hold_fuel hf F F' n.b.toNat (by omega) (by omega)]
   rw [if_neg h8, if_neg h8]
   by_cases h9 : n.k = 9
   ·rw [if_pos (.inr h9)] at hp
    have ha := hp n.a (by simp); have hb := hp n.b (by simp); rw [if_pos h9, if_pos h9, hold_fuel hf F F' n.a.toNat (by omega) (by omega), hold_fuel hf F F' n.b.toNat (by omega) (by omega)]
   rw [if_neg h9, if_neg h9]
def hol (L : List Nd) (A : List At) (i : Nat) : Bool := holdF L A (i + 1) i
theorem hol_eq {L : List Nd} {A : List At} (hf : Fine L) {i : Nat} {n : Nd} (hi : L[i]? = some n) : hol L A i =
  if n.k = 7 then !(hol L A n.a.toNat)
  else if n.k = 8 then hol L A n.a.toNat && hol L A n.b.toNat
  else if n.k = 9 then hol L A n.a.toNat || hol L A n.b.toNat
  else leafH n (valAt A n.nm) := by
 have hp := hf i n hi
 unfold parts at hp
 conv => lhs; unfold hol holdF
 rw [hi]
 simp only
 by_cases h7 : n.k = 7
 ·rw [if_pos h7] at hp
  have := hp n.a (by simp); rw [if_pos h7, if_pos h7, hold_fuel hf i (n.a.toNat + 1) n.a.toNat (by omega) (by omega)]
  rfl
 rw [if_neg h7, if_neg h7]; rw [if_neg h7] at hp
 by_cases h8 : n.k = 8
 ·rw [if_pos (.inl h8)] at hp
  have ha := hp n.a (by simp); have hb := hp n.b (by simp); rw [if_pos h8, if_pos h8, hold_fuel hf i (n.a.toNat + 1) n.a.toNat (by omega) (by omega), hold_fuel hf i (n.b.toNat + 1) n.b.toNat (by omega) (by omega)]
  rfl
 rw [if_neg h8, if_neg h8]
 by_cases h9 : n.k = 9
 ·rw [if_pos (.inr h9)] at hp
  have ha := hp n.a (by simp); have hb := hp n.b (by simp); rw [if_pos h9, if_pos h9, hold_fuel hf i (n.a.toNat + 1) n.a.toNat (by omega) (by omega), hold_fuel hf i (n.b.toNat + 1) n.b.toNat (by omega) (by omega)]
  rfl
 rw [if_neg h9, if_neg h9]
def wordB (l : List UInt8) : Bool := allB 32 wdc l
