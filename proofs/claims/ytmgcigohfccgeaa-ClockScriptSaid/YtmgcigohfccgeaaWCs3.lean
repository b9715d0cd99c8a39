/- ClockScript over its acts as they are opened. -/
import Derived.Test.YtmgcigohfccgeaaWCs2
namespace Go.Proofs.Ytmgcigohfccgeaa
open Go.RowKit

theorem clockScript_walk (v : Value) (es : List (List Value)) (w : World) (hr : Row w v 3 es.length es.flatten) (hf : ∀ x ∈ es, x.length = 3 ∧ fieldOk Try.prog 3 (x.getD 0 undef) ∧ fieldOk Try.prog 9 (x.getD 1 undef) ∧ fieldOk Try.prog 3 (x.getD 2 undef)) :
    Calls Try.prog 11 #[v] w fun e w' => e = .returned (.bool true) ∧ Below w.heap.size w w' := by
  obtain ⟨l, hl⟩ := kas_of hr fun x hx => ⟨(hf x hx).1, fun i t ht => by
    obtain ⟨-, h0, h1, h2⟩ := hf x hx
    match i, ht with
    | 0, ht => cases ht; exact h0
    | 1, ht => cases ht; exact h1
    | 2, ht => cases ht; exact h2
    | i + 3, ht => simp at ht⟩
  by_cases h : l.length ≤ 200
  · exact clockScript_in v l w hl h
  · exact clockScript_big v l w hl (by omega)
end Go.Proofs.Ytmgcigohfccgeaa
