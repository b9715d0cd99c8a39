/- , laid together: Past2, Late, Lin, CutH. -/
import Derived.Test.YtopkfomlppnpeaaGreatDoorPast
import Derived.Deep.RegionHeld3
namespace Go.Proofs.YtopkfomlppnpeaaGreatDoor
open Go.RowKit Go

section
variable {P : Program}
end
end Go.Proofs.YtopkfomlppnpeaaGreatDoor

namespace Go.Proofs.YtopkfomlppnpeaaGreatDoor
open Go.RowKit Go

section
variable {P : Program}
/-- its front, its last -/
def cut1 : List Oper → Option (List Oper × Oper)
  | [] => none
  | [x] => some ([], x)
  | x :: l => (cut1 l).map fun (m, a) => (x :: m, a)
theorem cut1_spec : ∀ {L M : List Oper} {o : Oper}, cut1 L = some (M, o) → L = M ++ [o]
  | [], _, _, h => by cases h
  | [x], _, _, h => by cases h; rfl
  | x :: y :: l, M, o, h => by
    have h' : (cut1 (y :: l)).map (fun (m, a) => (x :: m, a)) = some (M, o) := h
    cases hc : cut1 (y :: l) with
    | none => rw [hc] at h'; cases h'
    | some r =>
      obtain ⟨m, a⟩ := r
      rw [hc] at h'
      cases h'
      rw [cut1_spec hc]
      rfl
end
end Go.Proofs.YtopkfomlppnpeaaGreatDoor

namespace Go.Proofs.YtopkfomlppnpeaaGreatDoor
open Go.RowKit Go

section
variable {P : Program}
/-! A stretch of operations that are not wanted, in between. -/
end
end Go.Proofs.YtopkfomlppnpeaaGreatDoor

namespace Go.Proofs.YtopkfomlppnpeaaGreatDoor
open Go.RowKit Go

section
variable {P : Program}
theorem lastQ_start {M : List Oper} {o : Oper} {Q : Exit → Act → World → Prop} {a : Act} {w : World} (h : wpList P (M ++ [o]).toArray Q [o] a w) : popQ P (M ++ [o]).toArray Q M.length .normal a w := by
  have g1 : (M ++ [o]).toArray[M.length]? = some o := by simp
  show wpOp P (M ++ [o]).toArray Q M.length (fun a' w' => Q .normal a' w') a w
  unfold wpOp
  rw [g1]
  exact h
/-- what is asked behind the front -/
def LastQ (P : Program) (L M : List Oper) (Q : Exit → Act → World → Prop) : Exit → Act → World → Prop := popQ P L.toArray Q M.length
theorem LastQ.start {L M : List Oper} {o : Oper} {Q : Exit → Act → World → Prop} {a : Act} {w : World} (hL : cut1 L = some (M, o)) (h : wpList P L.toArray Q [o] a w) : LastQ P L M Q .normal a w := by
  have hL' := cut1_spec hL
  subst hL'
  exact lastQ_start h
theorem wp_region_lastH {id : Nat} {Q : Exit → Act → World → Prop} {a : Act} {w : World} {L M : List Oper} {o : Oper} (S : World → Prop) (n : Nat) (hL : cut1 L = some (M, o)) (hMn : M.length = n) (hm : P.follows .mixedOrders = true) (hp : popB L.toArray = true) (hS : S w.drew)
    (h : S w.drew → wpAnyH P .any M.toArray (LastQ P L M Q) S n (Array.replicate n false) a w.drew) : (Code.region id L.toArray true).wp P Q a w := by
  have hL' := cut1_spec hL
  subst hL'
  subst hMn
  refine wp_region_pop (S := S) hm hp ?_
  have hn : (M ++ [o]).toArray.size - 1 = M.length := by simp
  have hpop : (M ++ [o]).toArray.pop = M.toArray := by simp
  rw [hn, hpop]
  exact h hS
end
end Go.Proofs.YtopkfomlppnpeaaGreatDoor
