/- Late. -/
import Derived.Test.YtdnoceancoclmaaGreatDoorM03
import Derived.Deep.RegionHeld3
namespace Go.Proofs.YtdnoceancoclmaaGreatDoor
open Go.RowKit Go

section
variable {P : Program}
/-- its front, its last -/
def cut1 : List Oper → Option (List Oper × Oper)
  | [] => none
  | [x] => some ([], x)
  | x :: l => (cut1 l).map fun (m, a) => (x :: m, a)
theorem cut1_spec : ∀ {L M : List Oper} {o : Oper}, cut1 L = some (M, o) → L = M ++ [o]
  | [], _, _, h => by cases h
  | [x], _, _, h => by cases h; rfl
  | x :: y :: l, M, o, h => by
    have h' : (cut1 (y :: l)).map (fun (m, a) => (x :: m, a)) = some (M, o) := h
    cases hc : cut1 (y :: l) with
    | none => rw [hc] at h'; cases h'
    | some r =>
      obtain ⟨m, a⟩ := r
      rw [hc] at h'
      cases h'
      rw [cut1_spec hc]
      rfl
end
end Go.Proofs.YtdnoceancoclmaaGreatDoor
