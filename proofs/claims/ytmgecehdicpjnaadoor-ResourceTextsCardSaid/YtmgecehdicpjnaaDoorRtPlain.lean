/- The document's text of amounts and its reading, in plain Lean. -/
import Derived.Test.YtmgecehdicpjnaaDoorBackPlain
namespace Go.Proofs.YtmgecehdicpjnaaDoor
open Go.RowKit

/-- the document's text, word by word -/
def rtx (x : Am) : Nat → ByteArray
  | 0 => ByteArray.empty
  | k + 1 => if x.get k = 0 then rtx x k else (if rtx x k = ByteArray.empty then ByteArray.empty else rtx x k ++ ⟨#[32]⟩) ++ partB x k
theorem joinTail_snoc (r : List (List UInt8)) (y : List UInt8) : Lib.joinTail [32] (r ++ [y]) = Lib.joinTail [32] r ++ ([32] ++ y) := by
  unfold Lib.joinTail
  rw [List.map_append, List.flatten_append]
  simp
theorem join_snoc {l : List (List UInt8)} (hl : l ≠ []) (y : List UInt8) : Lib.join (l ++ [y]) [32] = Lib.join l [32] ++ [32] ++ y := by
  cases l with
  | nil => exact absurd rfl hl
  | cons a r =>
    rw [List.cons_append, Lib.join_cons, Lib.join_cons, joinTail_snoc]
    simp
theorem ba_ext {a b : ByteArray} (h : a.data.toList = b.data.toList) : a = b := by
  apply ByteArray.ext
  exact Array.toList_inj.1 h
theorem nmS_pos (k : Nat) : 0 < (nmS k).size := by
  match k with
  | 0 => decide
  | 1 => decide
  | 2 => decide
  | n + 3 => exact (by decide : 0 < (nmS 3).size)
theorem partB_pos (x : Am) (k : Nat) : 0 < (partB x k).size := by
  unfold partB
  rw [ByteArray.size_append, ByteArray.size_append]
  have := nmS_pos k
  omega
theorem rtx_parts {x : Am} (hx : x.okB = true) : ∀ k, k ≤ 4 → (rtx x k).data.toList = (if parts x k = [] then [] else Lib.join ((parts x k).map (·.data.toList)) [32]) ∧ (rtx x k = ByteArray.empty ↔ parts x k = [])
  | 0, _ => ⟨rfl, by simp [rtx, parts]⟩
  | k + 1, hk => by
    obtain ⟨h1, h2⟩ := rtx_parts hx k (by omega)
    have h3 := ((Am.okB_iff x).1 hx k (by omega)).1
    have h4 : ∀ z : ByteArray, z ++ partB x k ≠ ByteArray.empty := fun z e => by
      have := congrArg ByteArray.size e
      rw [ByteArray.size_append] at this
      have h5 := partB_pos x k
      have : (ByteArray.empty : ByteArray).size = 0 := rfl
      omega
    unfold rtx parts
    by_cases h0 : x.get k = 0
    · rw [if_pos h0, if_neg (show ¬ 0 < x.get k by omega)]
      exact ⟨h1, h2⟩
    · rw [if_neg h0, if_pos (show 0 < x.get k by omega)]
      by_cases hp : parts x k = []
      · rw [if_pos (h2.2 hp), hp]
        refine ⟨?_, ⟨fun e => absurd e (h4 _), fun e => by simp at e⟩⟩
        rw [if_neg (by simp)]
        simp [Lib.join_one]
      · rw [if_neg (fun e => hp (h2.1 e))]
        refine ⟨?_, ⟨fun e => absurd e (h4 _), fun e => by simp at e⟩⟩
        rw [if_neg (by simp), List.map_append, List.map_cons, List.map_nil, join_snoc (by simpa using hp)]
        rw [if_neg hp] at h1
        simp [h1]
theorem rtx_text {x : Am} (hx : x.okB = true) : textS x = if rtx x 4 = ByteArray.empty then [110, 111, 110, 101] else (rtx x 4).data.toList := by
  obtain ⟨h1, h2⟩ := rtx_parts hx 4 (Nat.le_refl _)
  unfold textS
  by_cases hp : parts x 4 = []
  · rw [if_pos hp, if_pos (h2.2 hp)]
  · rw [if_neg hp, if_neg (fun e => hp (h2.1 e)), h1, if_neg hp]
/-- what the document's Number makes of digits -/
structure NumR (l : List UInt8) (x : Int) (over ok : Bool) : Prop where
  bad : ok = false → (numP l).2 = 5
  much : ok = true → over = true → (numP l).2 = 9
  good : ok = true → over = false → numP l = (x, 0)
/-- what the document's part makes of a word -/
structure PartX (l : List UInt8) (i : Int) (d : List UInt8) : Prop where
  lo : -1 ≤ i
  hi : i < 4
  no : i = -1 → (partR l).2.2 = 5
  yes : ∀ k : Nat, i = (k : Int) → partR l = (k, numP d)
theorem keyL_len (l : List UInt8) : (keyL l).length ≤ l.length := (List.takeWhile_prefix _).length_le
theorem keyL_app {a b : List UInt8} (ha : ∀ c ∈ a, c ≠ 61) : keyL (a ++ 61 :: b) = a ∧ digL (a ++ 61 :: b) = b := by
  induction a with
  | nil => simp [keyL, digL]
  | cons c a ih =>
    have h0 : (c != 61) = true := by simpa using ha c (by simp)
    obtain ⟨h1, h2⟩ := ih (fun x hx => ha x (by simp [hx]))
    unfold keyL digL at *
    simp only [List.cons_append, List.takeWhile_cons, List.dropWhile_cons, h0, if_true, h1, h2, and_self]
theorem nmS_no61 {k : Nat} (hk : k < 4) : ∀ c ∈ (nmS k).data.toList, c ≠ 61 := by
  match k, hk with
  | 0, _ => decide
  | 1, _ => decide
  | 2, _ => decide
  | 3, _ => decide
  | n + 4, h => omega
/-- a word that begins with a name and '=' -/
theorem partR_pre {k : Nat} (hk : k < 4) (d : List UInt8) : partR ((nmS k).data.toList ++ 61 :: d) = (k, numP d) := by
  obtain ⟨h1, h2⟩ := keyL_app (a := (nmS k).data.toList) (b := d) (nmS_no61 hk)
  rw [partR_yes hk h1, h2]
/-- a word that is none: no name and '=' with something behind it -/
theorem partR_none {l : List UInt8} (h : ∀ k, k < 4 → ∀ d, d ≠ [] → l ≠ (nmS k).data.toList ++ 61 :: d) : (partR l).2.2 = 5 := by
  by_cases hk : ∃ k, k < 4 ∧ keyL l = (nmS k).data.toList
  · obtain ⟨k, hk, he⟩ := hk
    rw [partR_yes hk he]
    have hd : digL l = [] := by
      by_cases hd : digL l = []
      · exact hd
      · exfalso
        have h1 : l = keyL l ++ l.dropWhile (· != 61) := (List.takeWhile_append_dropWhile).symm
        cases hq : l.dropWhile (· != 61) with
        | nil => exact hd (by unfold digL; rw [hq]; rfl)
        | cons c r =>
          have hc : c = 61 := by
            have := List.head_dropWhile_not (fun x : UInt8 => x != 61) (l := l) (by rw [hq]; simp)
            simp only [hq, List.head_cons] at this
            simpa using this
          have hr : digL l = r := by unfold digL; rw [hq]; rfl
          rw [hq, he, hc] at h1
          exact h k hk r (by rw [← hr]; exact hd) h1
    show (numP (digL l)).2 = 5
    rw [hd]
    rfl
  · rw [partR_no (fun k hk' he => hk ⟨k, hk', he⟩)]
theorem numP_nil : (numP []).2 = 5 := rfl
end Go.Proofs.YtmgecehdicpjnaaDoor
