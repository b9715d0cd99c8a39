/-
  No cell of these rows narrows 'for every input' (looked for: loops, veiled, ifaces, maps, wideKeys, modest, calm, conditions, laid).
  DERIVED. THE GIVEN ROWS OF THIS SEAT. 3 by the template 'for every input the law returns true; each argument reads behind the call as it read before'; 0 by the template 'total and deterministic' (their statements: YtmgbailpmcggiaaTotals.lean).
  GIVEN WITH THE SEED: the statements are not yours to turn. If you find one false, say at which input.
  Laid BY PROGRAM, IN A SANDBOX (cutbox-rows.mjs): the forced cells as the released guide's own fill.sh prints them over the translation 97495681f1d82281… (all of the seat's roots in one cut). By AI agents, Wed Nov 11 2026. No macro, syntax, notation, axiom, sorry.
-/
import Derived.Test.YtmgbailpmcggiaaChecked
import GoSem.Claim
import GoSem.ClaimJoined
import GoSem.ClaimMapViews
import Derived.JoinedTies
import Derived.KernelRfl
namespace Go.Proofs.Ytmgbailpmcggiaa
/- THE CELL 'sum', in the pinned program and in every row, IS THE sha256 OF THE DUMP (.gsa) THAT YtmgbailpmcggiaaProg.lean LOADS. Nothing in Lean hashes anything: it is a label: what it is worth is what the hold of that sum in a sandbox is worth. -/
noncomputable def Try.pinned : Pinned := { name := "ytmgbailpmcggiaa", sum := "97495681f1d8228149bd795ff1ebb2c027f28473226e2fbbd350c97b96fe0432", checked := Try.checked }
namespace Rows
def none {H : Type} : Left H := { results := [], args := [] }

/-- 'berthmasterlaw14.QuotaNames': WHATEVER THE INPUT: true; the input reads as it did. -/
def quotaNamesSpec : ChangeSpec := { name := "quotaNames", fn := fun _ => fun
  | [] => { results := [.lit (.bool true)], args := [] }
  | _ => none }
def quotaNamesRow : OpenClaim := { program := "ytmgbailpmcggiaa", sum := "97495681f1d8228149bd795ff1ebb2c027f28473226e2fbbd350c97b96fe0432", func := "berthmaster/berthmasterlaw14.QuotaNames", spec := "quotaNames", unfollowed := true, recurses := true, plainKeys := false, apart := false }
def QuotaNamesSaid : Prop := quotaNamesRow.holds Try.pinned (OpenSpec.ofChange quotaNamesSpec)

/-- ITS FALSE NEIGHBOUR: 'it returns false'. Refute it at one input. -/
def quotaNamesWrong : ChangeSpec := { name := "quotaNames", fn := fun _ => fun
  | [] => { results := [.lit (.bool false)], args := [] }
  | _ => none }
def QuotaNamesWrongFalsely : Prop := quotaNamesRow.holds Try.pinned (OpenSpec.ofChange quotaNamesWrong)

/-- 'berthmasterlaw14.QuotaHolds': WHATEVER THE INPUT: true; the input reads as it did. -/
def quotaHoldsSpec : ChangeSpec := { name := "quotaHolds", fn := fun _ => fun
  | [d] => { results := [.lit (.bool true)], args := [d] }
  | _ => none }
def quotaHoldsRow : OpenClaim := { program := "ytmgbailpmcggiaa", sum := "97495681f1d8228149bd795ff1ebb2c027f28473226e2fbbd350c97b96fe0432", func := "berthmaster/berthmasterlaw14.QuotaHolds", spec := "quotaHolds", unfollowed := true, recurses := true, plainKeys := false, apart := false }
def QuotaHoldsSaid : Prop := quotaHoldsRow.holds Try.pinned (OpenSpec.ofChange quotaHoldsSpec)

/-- ITS FALSE NEIGHBOUR: 'it returns false'. Refute it at one input. -/
def quotaHoldsWrong : ChangeSpec := { name := "quotaHolds", fn := fun _ => fun
  | [d] => { results := [.lit (.bool false)], args := [d] }
  | _ => none }
def QuotaHoldsWrongFalsely : Prop := quotaHoldsRow.holds Try.pinned (OpenSpec.ofChange quotaHoldsWrong)

/-- 'berthmasterlaw14.QuotaNil': WHATEVER THE INPUT: true; the input reads as it did. -/
def quotaNilSpec : ChangeSpec := { name := "quotaNil", fn := fun _ => fun
  | [d] => { results := [.lit (.bool true)], args := [d] }
  | _ => none }
def quotaNilRow : OpenClaim := { program := "ytmgbailpmcggiaa", sum := "97495681f1d8228149bd795ff1ebb2c027f28473226e2fbbd350c97b96fe0432", func := "berthmaster/berthmasterlaw14.QuotaNil", spec := "quotaNil", unfollowed := true, recurses := true, plainKeys := false, apart := false }
def QuotaNilSaid : Prop := quotaNilRow.holds Try.pinned (OpenSpec.ofChange quotaNilSpec)

/-- ITS FALSE NEIGHBOUR: 'it returns false'. Refute it at one input. -/
def quotaNilWrong : ChangeSpec := { name := "quotaNil", fn := fun _ => fun
  | [d] => { results := [.lit (.bool false)], args := [d] }
  | _ => none }
def QuotaNilWrongFalsely : Prop := quotaNilRow.holds Try.pinned (OpenSpec.ofChange quotaNilWrong)

/- THE SECOND FORM. 'bulk': how many values and letters a reading holds, each counted each time it is reached (what is shared counts as often as it is met; a slice's spare places count too). A statement '..UptoSaid' is the law's where the arguments, and the package variables that the reading takes, are together of bulk at most 1048576: NARROWER than '..Said'. Prove '..Said' where nothing that the law and all that it calls make is longer than what came in: it says more and counts as full. Else prove '..UptoSaid'. A law counts once. -/
mutual
def uptoBulk {H : Type} : DataW H → Nat
  | .lit (.string bytes) => bytes.length + 1
  | .lit _ => 1
  | .nil => 1
  | .ptr d => uptoBulk d + 1
  | .slice elems spare => uptoBulkAll elems + uptoBulkAll spare + 1
  | .agg parts => uptoBulkAll parts + 1
  | .iface _ d => uptoBulk d + 1
  | .map entries => uptoBulkEntries entries + 1
  | .held _ => 1
def uptoBulkAll {H : Type} : List (DataW H) → Nat
  | [] => 0
  | d :: r => uptoBulk d + uptoBulkAll r
def uptoBulkEntries {H : Type} : List (Lit × DataW H) → Nat
  | [] => 0
  | x :: r => uptoBulkEntry x + uptoBulkEntries r
def uptoBulkEntry {H : Type} : Lit × DataW H → Nat
  | (.string bytes, d) => bytes.length + uptoBulk d + 1
  | (_, d) => uptoBulk d + 1
 end
def uptoSmall : (H : Type) → List (DataW H) → Bool := fun _ ds => decide (uptoBulkAll ds ≤ 1048576)
def OpenSpec.upto (s : _root_.Go.ChangeSpec) : _root_.Go.OpenSpec := { _root_.Go.OpenSpec.ofChange s with cond := some uptoSmall }

/-- 'berthmasterlaw14.QuotaNames', WHERE WHAT IT READS IS OF BULK AT MOST 1048576: true; the input reads as it did. -/
def quotaNamesUptoRow : OpenClaim := { program := "ytmgbailpmcggiaa", sum := "97495681f1d8228149bd795ff1ebb2c027f28473226e2fbbd350c97b96fe0432", func := "berthmaster/berthmasterlaw14.QuotaNames", spec := "quotaNames", unfollowed := true, recurses := true, plainKeys := false, apart := false, narrowed := true }
def QuotaNamesUptoSaid : Prop := quotaNamesUptoRow.holds Try.pinned (OpenSpec.upto quotaNamesSpec)

/-- 'berthmasterlaw14.QuotaHolds', WHERE WHAT IT READS IS OF BULK AT MOST 1048576: true; the input reads as it did. -/
def quotaHoldsUptoRow : OpenClaim := { program := "ytmgbailpmcggiaa", sum := "97495681f1d8228149bd795ff1ebb2c027f28473226e2fbbd350c97b96fe0432", func := "berthmaster/berthmasterlaw14.QuotaHolds", spec := "quotaHolds", unfollowed := true, recurses := true, plainKeys := false, apart := false, narrowed := true }
def QuotaHoldsUptoSaid : Prop := quotaHoldsUptoRow.holds Try.pinned (OpenSpec.upto quotaHoldsSpec)

/-- 'berthmasterlaw14.QuotaNil', WHERE WHAT IT READS IS OF BULK AT MOST 1048576: true; the input reads as it did. -/
def quotaNilUptoRow : OpenClaim := { program := "ytmgbailpmcggiaa", sum := "97495681f1d8228149bd795ff1ebb2c027f28473226e2fbbd350c97b96fe0432", func := "berthmaster/berthmasterlaw14.QuotaNil", spec := "quotaNil", unfollowed := true, recurses := true, plainKeys := false, apart := false, narrowed := true }
def QuotaNilUptoSaid : Prop := quotaNilUptoRow.holds Try.pinned (OpenSpec.upto quotaNilSpec)

end Rows
end Go.Proofs.Ytmgbailpmcggiaa
