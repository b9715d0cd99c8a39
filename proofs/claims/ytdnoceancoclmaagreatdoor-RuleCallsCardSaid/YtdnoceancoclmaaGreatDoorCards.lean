/-
  DERIVED. GIVEN WITH THE SEED: THE CARDS: each row of YtdnoceancoclmaaGreatDoorRows.lean that lists a variable, with what it lists TIED to the program's text (the seventh form; the later family's looks); each row that meets fmt, with fmt's text TOLD by the authors' own Lean function (tested against real Go, not proved from fmt's source: count such statements apart). THE CARD IS WHAT COUNTS. Prove the row's statement (the work); the ties are given (YtdnoceancoclmaaGreatDoorTie.lean); close each card by the builder's one call (the guide's Derived/Test/ToyasCard.lean, 'card_holds'). Laid BY PROGRAM, IN A SANDBOX (cutbox-door.mjs). By AI agents, Wed Nov 11 2026. No macro, syntax, notation, axiom, sorry.
-/
import Derived.Test.YtdnoceancoclmaaGreatDoorRows
import GoSem.ClaimSeven
namespace Go.Proofs.YtdnoceancoclmaaGreatDoor
namespace Rows

/-- THE TIED CARD OF 'berthmasterlaw11.RuleCalls'. -/
def ruleCallsCard : Claim7 := { stood := { row := ruleCallsRow, standIns := [], harness := (true, "12f018937773ae74324bc44e3d49d3c17ae9cd3927d791891bddbfcf83adb7be"), looks := true }, kinds := [], alts := [], laidByText := true, laidKinds := [.data, .data, .data, .sentinel, .sentinel], laidTests := true, laidLooks := .later }
def RuleCallsCardSaid : Prop := Claim7.holds Tryz.pinned (.plain (OpenSpec.ofChange ruleCallsSpec)) ruleCallsCard

/-- THE SECOND FORM's CARD OF 'berthmasterlaw11.RuleCalls'. -/
def ruleCallsUptoCard : Claim7 := { stood := { row := ruleCallsUptoRow, standIns := [], harness := (true, "12f018937773ae74324bc44e3d49d3c17ae9cd3927d791891bddbfcf83adb7be"), looks := true }, kinds := [], alts := [], laidByText := true, laidKinds := [.data, .data, .data, .sentinel, .sentinel], laidTests := true, laidLooks := .later }
def RuleCallsUptoCardSaid : Prop := Claim7.holds Tryz.pinned (.plain (OpenSpec.upto ruleCallsSpec)) ruleCallsUptoCard
end Rows
end Go.Proofs.YtdnoceancoclmaaGreatDoor
