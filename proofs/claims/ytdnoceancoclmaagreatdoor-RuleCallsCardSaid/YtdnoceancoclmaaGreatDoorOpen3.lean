/- Open3. -/
import Derived.Test.YtdnoceancoclmaaGreatDoorM13
import Derived.Test.YtdnoceancoclmaaGreatDoorOpen2
import Derived.Deep.Fields
namespace Go.Proofs.YtdnoceancoclmaaGreatDoor
open Go.ChangeShapes Go.WideShapes Go.ChangeAt Go.RowKit

/-- what a field of a plain type holds: a number, a text, a truth -/
def fieldOk (P : Program) (t : TypeId) (v : Value) : Prop :=
  (∃ k, P.underlying t = some (.int k) ∧ ∃ n, v = .int k n ∧ (Lit.int k n).wf = true) ∨ (P.underlying t = some .string ∧ ∃ s, v = .string s ∧ s.size ≤ maxLen) ∨ (P.underlying t = some .bool ∧ ∃ b, v = .bool b)

theorem fieldOk.int {P : Program} {t : TypeId} {v : Value} {k : IntKind} (h : fieldOk P t v) (ht : P.underlying t = some (.int k)) : ∃ n, v = .int k n ∧ (Lit.int k n).wf = true := by
  rcases h with ⟨k', h1, h2⟩ | ⟨h1, -⟩ | ⟨h1, -⟩
  · rw [ht] at h1; cases h1; exact h2
  · rw [ht] at h1; cases h1
  · rw [ht] at h1; cases h1
theorem fieldOk.str {P : Program} {t : TypeId} {v : Value} (h : fieldOk P t v) (ht : P.underlying t = some .string) : ∃ s, v = .string s ∧ s.size ≤ maxLen := by
  rcases h with ⟨k', h1, h2⟩ | ⟨h1, h2⟩ | ⟨h1, -⟩
  · rw [ht] at h1; cases h1
  · exact h2
  · rw [ht] at h1; cases h1
theorem fieldOk.one {P : Program} {t : TypeId} {v : Value} (h : fieldOk P t v) : v.oneCell' = true := by
  rcases h with ⟨k', h1, n, rfl, -⟩ | ⟨h1, s, rfl, -⟩ | ⟨h1, b, rfl⟩ <;> rfl

def plainType (P : Program) (t : TypeId) : Bool := match P.underlying t with
  | some (.int _) => true
  | some .string => true
  | some .bool => true
  | _ => false
section
variable {H : Type} {enc : TypeId × Value → H} {P : Program} {W : World} {base : Nat} {sp : Nat → Bool} {held : Bool}

theorem field_of_trod {t : TypeId} {n : Nat} {v : Value} {y : DataW H × List MemPlace} (hp : plainType P t = true) (h : DataW.trod enc P W base sp held n t [v] = some y) : fieldOk P t v := by
  unfold plainType at hp
  split at hp
  · rename_i k hk
    obtain ⟨m, h1, -, h2⟩ := DataW.trod_int hk h
    simp only [List.cons.injEq, and_true] at h1
    exact .inl ⟨k, hk, m, h1, h2⟩
  · rename_i hk
    obtain ⟨s, h1, -, h2⟩ := DataW.trod_string hk h
    simp only [List.cons.injEq, and_true] at h1
    exact .inr (.inl ⟨hk, s, h1, h2⟩)
  · rename_i hk
    obtain ⟨b, h1, -⟩ := DataW.trod_bool hk h
    simp only [List.cons.injEq, and_true] at h1
    exact .inr (.inr ⟨hk, b, h1⟩)
  · cases hp

end

theorem flatten_get {α : Type} {s : Nat} (hs : 0 < s) : ∀ (l : List (List α)), (∀ x ∈ l, x.length = s) → ∀ j, l.flatten[j]? = (l[j / s]?).bind fun x => x[j % s]?
  | [], _, j => by simp
  | x :: l, h, j => by
    have hx := h x (by simp)
    rw [List.flatten_cons]
    by_cases hj : j < s
    · rw [List.getElem?_append_left (by omega), Nat.div_eq_of_lt hj, Nat.mod_eq_of_lt hj]
      simp
    · obtain ⟨k, rfl⟩ : ∃ k, j = s + k := ⟨j - s, by omega⟩
      rw [List.getElem?_append_right (by omega), hx, Nat.add_sub_cancel_left, flatten_get hs l (fun y hy => h y (by simp [hy])) k]
      rw [Nat.add_div_left k hs, Nat.add_mod_left]
      simp
theorem flatten_len {α : Type} {s : Nat} : ∀ (l : List (List α)), (∀ x ∈ l, x.length = s) → l.flatten.length = l.length * s
  | [], _ => by simp
  | x :: l, h => by
    rw [List.flatten_cons, List.length_append, h x (by simp), flatten_len l (fun y hy => h y (by simp [hy])), List.length_cons, Nat.add_mul]
    omega

/-- texts, as the walks hold them -/
def Texts (w : World) (v : Value) (ss : List ByteArray) : Prop := Row w v 1 ss.length (ss.map Value.string)
theorem Texts.parts {w : World} {v : Value} {ss : List ByteArray} (h : Texts w v ss) :
    ∃ p c, v = .slice p ss.length c ∧ ss.length ≤ c ∧ c ≤ maxLen ∧ ∀ i (hi : i < ss.length), ∃ b o, p = some ⟨b, o, none⟩ ∧ w.cell? ⟨b, o + i, none⟩ = some (.string ss[i]) := by
  obtain ⟨p, c, hv, h1, h2, h3, h4, h5, h6⟩ := h
  refine ⟨p, c, hv, h1, h2, fun i hi => ?_⟩
  rcases h6 with h6 | ⟨b, o, hp, ha⟩
  · have : ss = [] := by simpa using h6
    subst this; simp at hi
  · exact ⟨b, o, hp, ha i _ (by simp [hi])⟩
end Go.Proofs.YtdnoceancoclmaaGreatDoor
