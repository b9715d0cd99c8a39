/- RuToldP, RuToldL. -/
import Derived.Test.YtdemkfhkibmbnaaGreatDoorM00
namespace Go.Proofs.YtdemkfhkibmbnaaGreatDoor.Ru
def Fine (L : List Nd) : Prop := ∀ (i : Nat) (n : Nd), L[i]? = some n → ∀ p ∈ parts n, 0 ≤ p ∧ p < (i : Int)
theorem told_fuel {L : List Nd} (hf : Fine L) : ∀ (F F' i : Nat), i < F → i < F' → toldP L F i = toldP L F' i
 | 0, _, i, h, _ => absurd h (by omega)
 | _ + 1, 0, i, _, h => absurd h (by omega)
 | F + 1, F' + 1, i, h, h' => by
  unfold toldP
  cases hi : L[i]? with
  | none => rfl
  | some n =>
   have hp := hf i n hi
   unfold parts at hp
   simp only
   by_cases h7 : n.k = 7
   ·rw [if_pos h7] at hp
    have := hp n.a (by simp); rw [if_pos h7, if_pos h7, told_fuel hf F F' n.a.toNat (by omega) (by omega)]
   rw [if_neg h7, if_neg h7]; rw [if_neg h7] at hp
   by_cases h8 : n.k = 8
   ·rw [if_pos (.inl h8)] at hp
    have ha := hp n.a (by simp); have hb := hp n.b (by simp); rw [if_pos h8, if_pos h8, told_fuel hf F F' n.a.toNat (by omega) (by omega), told_fuel hf F F' n.b.toNat (by omega) (by omega)]
   rw [if_neg h8, if_neg h8]
   by_cases h9 : n.k = 9
   ·rw [if_pos (.inr h9)] at hp
    have ha := hp n.a (by simp); have hb := hp n.b (by simp); rw [if_pos h9, if_pos h9, told_fuel hf F F' n.a.toNat (by omega) (by omega), told_fuel hf F F' n.b.toNat (by omega) (by omega)]
   rw [if_neg h9, if_neg h9]
def tl (L : List Nd) (i : Nat) : List UInt8 := toldP L (i + 1) i
theorem tl_eq {L : List Nd} (hf : Fine L) {i : Nat} {n : Nd} (hi : L[i]? = some n) : tl L i =
  if n.k = 7 then 33 :: par (decide (tightK (kindAt L n.a.toNat) < 3)) (tl L n.a.toNat)
  else if n.k = 8 then par (decide (tightK (kindAt L n.a.toNat) < 2)) (tl L n.a.toNat) ++ 32 :: 38 :: 32 :: par (decide (tightK (kindAt L n.b.toNat) < 3)) (tl L n.b.toNat)
  else if n.k = 9 then par (decide (tightK (kindAt L n.a.toNat) < 1)) (tl L n.a.toNat) ++ 32 :: 124 :: 32 :: par (decide (tightK (kindAt L n.b.toNat) < 2)) (tl L n.b.toNat)
  else ltx n.k n.nm n.vl n.x := by
 have hp := hf i n hi
 unfold parts at hp
 conv => lhs; unfold tl toldP
 rw [hi]
 simp only
 by_cases h7 : n.k = 7
 ·rw [if_pos h7] at hp
  have := hp n.a (by simp); rw [if_pos h7, if_pos h7, told_fuel hf i (n.a.toNat + 1) n.a.toNat (by omega) (by omega)]
  rfl
 rw [if_neg h7, if_neg h7]; rw [if_neg h7] at hp
 by_cases h8 : n.k = 8
 ·rw [if_pos (.inl h8)] at hp
  have ha := hp n.a (by simp); have hb := hp n.b (by simp); rw [if_pos h8, if_pos h8, told_fuel hf i (n.a.toNat + 1) n.a.toNat (by omega) (by omega), told_fuel hf i (n.b.toNat + 1) n.b.toNat (by omega) (by omega)]
  rfl
 rw [if_neg h8, if_neg h8]
 by_cases h9 : n.k = 9
 ·rw [if_pos (.inr h9)] at hp
  have ha := hp n.a (by simp); have hb := hp n.b (by simp); rw [if_pos h9, if_pos h9, told_fuel hf i (n.a.toNat + 1) n.a.toNat (by omega) (by omega), told_fuel hf i (n.b.toNat + 1) n.b.toNat (by omega) (by omega)]
  rfl
 rw [if_neg h9, if_neg h9]
theorem toldA_tl {L : List Nd} (hf : Fine L) (h : 1 ≤ L.length) : toldA L = tl L (L.length - 1) := told_fuel hf _ _ _ (by omega) (by omega)
theorem par_len (b : Bool) (s : List UInt8) : (par b s).length ≤ s.length + 2 := by
 cases b
 ·rw [par_false]; omega
 ·rw [par_true]; simp
def cost (n : Nd) : Nat := (ltx n.k n.nm n.vl n.x).length + 8
theorem tl_len {L : List Nd} (hf : Fine L) {i : Nat} {n : Nd} (hi : L[i]? = some n) : (tl L i).length ≤ cost n + ((parts n).map (fun p => (tl L p.toNat).length)).sum := by
 rw [tl_eq hf hi]
 unfold parts cost
 by_cases h7 : n.k = 7
 ·rw [if_pos h7, if_pos h7]
  have := par_len (decide (tightK (kindAt L n.a.toNat) < 3)) (tl L n.a.toNat); simp only [List.length_cons, List.map_cons, List.map_nil, List.sum_cons, List.sum_nil]
  omega
 rw [if_neg h7, if_neg h7]
 by_cases h8 : n.k = 8
 ·rw [if_pos h8, if_pos (.inl h8)]
  have h1 := par_len (decide (tightK (kindAt L n.a.toNat) < 2)) (tl L n.a.toNat); have h2 := par_len (decide (tightK (kindAt L n.b.toNat) < 3)) (tl L n.b.toNat); simp only [List.length_append, List.length_cons, List.map_cons, List.map_nil, List.sum_cons, List.sum_nil]
  omega
 rw [if_neg h8]
 by_cases h9 : n.k = 9
 ·rw [if_pos h9, if_pos (.inr h9)]
  have h1 := par_len (decide (tightK (kindAt L n.a.toNat) < 1)) (tl L n.a.toNat); have h2 := par_len (decide (tightK (kindAt L n.b.toNat) < 2)) (tl L n.b.toNat); simp only [List.length_append, List.length_cons, List.map_cons, List.map_nil, List.sum_cons, List.sum_nil]
  omega
 rw [if_neg h9, if_neg (by rintro (h | h) <;> contradiction)]; simp only [List.map_nil, List.sum_nil]
 omega
end Go.Proofs.YtdemkfhkibmbnaaGreatDoor.Ru
namespace Go.Proofs.YtdemkfhkibmbnaaGreatDoor.Ru
def Sm (f : Nat → Nat) : Nat → Nat
 | 0 => 0
 | m + 1 => Sm f m + f m
theorem Sm_add (f g : Nat → Nat) : ∀ m, Sm (fun j => f j + g j) m = Sm f m + Sm g m
 | 0 => rfl
 | m + 1 => by
  show Sm (fun j => f j + g j) m + (f m + g m) = (Sm f m + f m) + (Sm g m + g m)
  rw [Sm_add f g m]; omega
theorem Sm_le {f g : Nat → Nat} : ∀ {m : Nat}, (∀ j, j < m → f j ≤ g j) → Sm f m ≤ Sm g m
 | 0, _ => Nat.le_refl _
 | m + 1, h => Nat.add_le_add (Sm_le fun j hj => h j (by omega)) (h m (by omega))
theorem Sm_zero : ∀ m, Sm (fun _ => 0) m = 0
 | 0 => rfl
 | m + 1 => by show Sm (fun _ => 0) m + 0 = 0; rw [Sm_zero m]
theorem Sm_one (len : Nat → Nat) (p : Nat) : ∀ m, Sm (fun j => if p = j then len j else 0) m = if p < m then len p else 0
 | 0 => rfl
 | m + 1 => by
  show Sm (fun j => if p = j then len j else 0) m + (if p = m then len m else 0) = _
  rw [Sm_one len p m]
  by_cases h : p = m
  ·subst h; rw [if_neg (by omega), if_pos rfl, if_pos (by omega)]; omega
  ·rw [if_neg h]
   by_cases h2 : p < m
   ·rw [if_pos h2, if_pos (by omega)]; omega
   ·rw [if_neg h2, if_neg (by omega)]
theorem Sm_parts (len : Nat → Nat) (m : Nat) : ∀ P : List Int, (∀ p ∈ P, 0 ≤ p ∧ p < (m : Int)) → (P.map (fun p => len p.toNat)).sum = Sm (fun j => P.count (j : Int) * len j) m
 | [], _ => by simp only [List.map_nil, List.sum_nil, List.count_nil, Nat.zero_mul]; exact (Sm_zero m).symm
 | p :: P, h => by
  rw [List.map_cons, List.sum_cons, Sm_parts len m P (fun q hq => h q (by simp [hq]))]; have hp := h p (by simp); have e1 := Sm_one len p.toNat m; rw [if_pos (by omega)] at e1; rw [← e1, ← Sm_add]
  congr 1
  funext j
  rw [List.count_cons]
  by_cases hj : p = (j : Int)
  ·rw [if_pos (by omega), if_pos (by simpa using hj), Nat.add_mul, Nat.one_mul, Nat.add_comm]
  ·rw [if_neg (by omega), if_neg (by simpa using hj), Nat.add_zero, Nat.zero_add]
theorem refs_take {L : List Nd} {m : Nat} (hm : m < L.length) (j : Nat) : refs (L.take (m + 1)) j = refs (L.take m) j + (parts L[m]).count (j : Int) := by
 rw [List.take_succ_eq_append_getElem hm, refs_app, refs_one]
theorem refs_mono (L : List Nd) (m j : Nat) : refs (L.take m) j ≤ refs L j := by
 conv => rhs; rw [← List.take_append_drop m L, refs_app]
 omega
theorem told_sum {L : List Nd} (hf : Fine L) (h1 : ∀ j, refs L j ≤ 1) : ∀ m, m ≤ L.length → Sm (fun j => if refs (L.take m) j = 0 then (tl L j).length else 0) m ≤ ((L.take m).map cost).sum
 | 0, _ => Nat.zero_le _
 | m + 1, hm => by
  have ih := told_sum hf h1 m (by omega); have hi : L[m]? = some L[m] := List.getElem?_eq_getElem (by omega); have hp := hf m _ hi; have hl := tl_len hf hi; rw [Sm_parts (fun j => (tl L j).length) m _ hp] at hl
  show Sm (fun j => if refs (L.take (m + 1)) j = 0 then (tl L j).length else 0) m + (if refs (L.take (m + 1)) m = 0 then (tl L m).length else 0) ≤ _
  have e2 : (if refs (L.take (m + 1)) m = 0 then (tl L m).length else 0) ≤ (tl L m).length := by split <;> omega
  have e3 : Sm (fun j => if refs (L.take (m + 1)) j = 0 then (tl L j).length else 0) m + Sm (fun j => (parts L[m]).count (j : Int) * (tl L j).length) m ≤ Sm (fun j => if refs (L.take m) j = 0 then (tl L j).length else 0) m := by
   rw [← Sm_add]
   refine Sm_le fun j hj => ?_
   have r1 := refs_take (L := L) (m := m) (by omega) j; have r2 := refs_mono L (m + 1) j; have r3 := h1 j; rw [r1] at r2 ⊢
   by_cases hc : (parts L[m]).count (j : Int) = 0
   ·rw [hc]; simp
   ·have hc1 : (parts L[m]).count (j : Int) = 1 := by omega
    have hr : refs (L.take m) j = 0 := by omega
    rw [hc1, hr]; simp
  have e4 : ((L.take (m + 1)).map cost).sum = ((L.take m).map cost).sum + cost L[m] := by
   rw [List.take_succ_eq_append_getElem (by omega), List.map_append, List.sum_append]; simp only [List.map_cons, List.map_nil, List.sum_cons, List.sum_nil]
   omega
  rw [e4]
  omega
theorem told_le {L : List Nd} (hf : Fine L) (h1 : ∀ j, refs L j ≤ 1) {i : Nat} (hi : i < L.length) : (tl L i).length ≤ (L.map cost).sum := by
 have h := told_sum hf h1 (i + 1) (by omega)
 have e : (if refs (L.take (i + 1)) i = 0 then (tl L i).length else 0) = (tl L i).length := by
  rw [if_pos]
  unfold refs
  rw [List.count_eq_zero]; intro hm; rw [List.mem_flatMap] at hm; obtain ⟨n, hn, hp⟩ := hm; obtain ⟨k, hk, rfl⟩ := List.mem_iff_getElem.1 hn; rw [List.getElem_take] at hp; rw [List.length_take] at hk; have := hf k _ (List.getElem?_eq_getElem (by omega)) _ hp
  omega
 have h2 : Sm (fun j => if refs (L.take (i + 1)) j = 0 then (tl L j).length else 0) i + (if refs (L.take (i + 1)) i = 0 then (tl L i).length else 0) ≤ ((L.take (i + 1)).map cost).sum := h
 have h3 : ((L.take (i + 1)).map cost).sum ≤ (L.map cost).sum := by
  conv => rhs; rw [← List.take_append_drop (i + 1) L, List.map_append, List.sum_append]
  omega
 omega
