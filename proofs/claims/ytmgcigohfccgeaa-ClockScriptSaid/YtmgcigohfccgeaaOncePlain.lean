/- ClockOnce's array and the watch's ends, in plain Lean. -/
import Derived.Test.YtmgcigohfccgeaaDropPlain
import Derived.Test.YtmgcigohfccgeaaHas
namespace Go.Proofs.Ytmgcigohfccgeaa

/-- who is set: the names whose number is not 0 -/
def act (ns : List ByteArray) (xs : List Int) : List End := (ns.zip xs).filter fun p => decide (0 < p.2)
def clearN (s : List UInt8) (ns : List ByteArray) (xs : List Int) : List Int := List.zipWith (fun a x => if a.data.toList == s then 0 else x) ns xs

theorem act_nil (xs : List Int) : act [] xs = [] := by simp [act]
theorem act_cons (a : ByteArray) (ns : List ByteArray) (x : Int) (xs : List Int) : act (a :: ns) (x :: xs) = if 0 < x then (a, x) :: act ns xs else act ns xs := by
  unfold act
  rw [List.zip_cons_cons, List.filter_cons]
  simp
theorem act_append {A B : List ByteArray} {X Y : List Int} (h : A.length = X.length) : act (A ++ B) (X ++ Y) = act A X ++ act B Y := by
  unfold act
  rw [List.zip_append h, List.filter_append]
theorem act_zeros (ns : List ByteArray) (n : Nat) : act ns (List.replicate n 0) = [] := by
  unfold act
  rw [List.filter_eq_nil_iff]
  intro p hp
  have := (List.of_mem_zip hp).2
  rw [List.mem_replicate] at this
  simp [this.2]
theorem length_clearN (s : List UInt8) (ns : List ByteArray) (xs : List Int) : (clearN s ns xs).length = min ns.length xs.length := by simp [clearN]
theorem act_clear (s : List UInt8) : ∀ (ns : List ByteArray) (xs : List Int), act ns (clearN s ns xs) = others (act ns xs) s
  | [], xs => by simp [act, others]
  | a :: ns, [] => by simp [act, others, clearN]
  | a :: ns, x :: xs => by
    have ih := act_clear s ns xs
    unfold clearN at ih ⊢
    rw [List.zipWith_cons_cons, act_cons, act_cons, ih]
    by_cases h1 : a.data.toList = s
    · simp only [h1, beq_self_eq_true, if_true]
      rw [if_neg (by omega)]
      split
      · unfold others
        rw [List.filter_cons_of_neg (by simp [h1])]
      · rfl
    · have h2 : (a.data.toList == s) = false := by simpa using h1
      simp only [h2, Bool.false_eq_true, if_false]
      split
      · unfold others
        rw [List.filter_cons_of_pos (by simp [h2])]
      · rfl

/-- who is due is cleared -/
def due (t : Int) (xs : List Int) : List Int := xs.map fun x => if x ≤ t then 0 else x
theorem act_due (t : Int) (ht : 0 ≤ t) : ∀ (ns : List ByteArray) (xs : List Int), act ns (due t xs) = (act ns xs).filter fun x => decide (t < x.2)
  | [], xs => by simp [act]
  | a :: ns, [] => by simp [act, due]
  | a :: ns, x :: xs => by
    have ih := act_due t ht ns xs
    unfold due at ih ⊢
    rw [List.map_cons, act_cons, act_cons, ih]
    by_cases h1 : x ≤ t
    · rw [if_pos h1, if_neg (by omega)]
      split
      · rw [List.filter_cons_of_neg (by simp; omega)]
      · rfl
    · rw [if_neg h1, if_pos (by omega), if_pos (by omega), List.filter_cons_of_pos (by simp; omega)]

theorem hasT_of_mem {l : List End} {x : End} (h : x ∈ l) : hasT (l.map (·.1)) x.1.data.toList = true :=
  List.any_eq_true.2 ⟨x.1, List.mem_map.2 ⟨x, h, rfl⟩, by simp⟩
end Go.Proofs.Ytmgcigohfccgeaa
