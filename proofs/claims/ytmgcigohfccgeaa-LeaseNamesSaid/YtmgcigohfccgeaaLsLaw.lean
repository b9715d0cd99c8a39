/- Two slices of the same texts, both of the call's own. -/
import Derived.Test.YtmgcigohfccgeaaDelF
import Derived.Test.YtmgcigohfccgeaaTexts
namespace Go.Proofs.Ytmgcigohfccgeaa
open Go.RowKit

theorem texts_strV {w : World} {base : Nat} {v : Value} {ns : List ByteArray} {n : Nat} (h : w.ownsRow base 9 1 v n (strV ns)) : Texts w v ns := by
  have hl := h.1
  have h1 := row_of_owns h (strV_one ns)
  unfold Texts
  rw [show ns.length = n from by simpa [strV] using hl]
  exact h1
theorem same_strV {w : World} {b1 b2 n1 n2 : Nat} {v1 v2 : Value} (ns : List ByteArray) (h1 : w.ownsRow b1 9 1 v1 n1 (strV ns)) (h2 : w.ownsRow b2 9 1 v2 n2 (strV ns)) :
    Calls Try.prog 33 #[v1, v2] w fun e w' => e = .returned (.bool true) ∧ Below w.heap.size w w' := by
  have := sametexts_any v1 v2 _ _ w (texts_strV h1) (texts_strV h2)
  rw [show ∀ a : List ByteArray, sameT a a = true from fun a => by unfold sameT; simp] at this
  exact this

end Go.Proofs.Ytmgcigohfccgeaa
