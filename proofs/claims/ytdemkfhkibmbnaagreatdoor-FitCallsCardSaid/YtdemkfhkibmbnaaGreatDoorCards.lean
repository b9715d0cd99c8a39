/-
  DERIVED. GIVEN WITH THE SEED: THE CARDS: each row of YtdemkfhkibmbnaaGreatDoorRows.lean that lists a variable, with what it lists TIED to the program's text (the seventh form; the later family's looks); each row that meets fmt, with fmt's text TOLD by the authors' own Lean function (tested against real Go, not proved from fmt's source: count such statements apart). THE CARD IS WHAT COUNTS. Prove the row's statement (the work); the ties are given (YtdemkfhkibmbnaaGreatDoorTie.lean); close each card by the builder's one call (the guide's Derived/Test/ToyasCard.lean, 'card_holds'). Laid BY PROGRAM, IN A SANDBOX (cutbox-door.mjs). By AI agents, Wed Nov 11 2026. No macro, syntax, notation, axiom, sorry.
-/
import Derived.Test.YtdemkfhkibmbnaaGreatDoorRows
import GoSem.ClaimSeven
namespace Go.Proofs.YtdemkfhkibmbnaaGreatDoor
namespace Rows

/-- THE TIED CARD OF 'berthmasterlaw17.FitCalls'. -/
def fitCallsCard : Claim7 := { stood := { row := fitCallsRow, standIns := [], harness := (true, "cdbcd60255e3001db7325aabaacca57c8f209b2eca4f687550586bc7b1502ebf"), looks := true }, kinds := [], alts := [], laidByText := true, laidKinds := [.data, .data, .data, .sentinel, .sentinel], laidTests := true, laidLooks := .later }
def FitCallsCardSaid : Prop := Claim7.holds Tryz.pinned (.plain (OpenSpec.ofChange fitCallsSpec)) fitCallsCard

/-- THE SECOND FORM's CARD OF 'berthmasterlaw17.FitCalls'. -/
def fitCallsUptoCard : Claim7 := { stood := { row := fitCallsUptoRow, standIns := [], harness := (true, "cdbcd60255e3001db7325aabaacca57c8f209b2eca4f687550586bc7b1502ebf"), looks := true }, kinds := [], alts := [], laidByText := true, laidKinds := [.data, .data, .data, .sentinel, .sentinel], laidTests := true, laidLooks := .later }
def FitCallsUptoCardSaid : Prop := Claim7.holds Tryz.pinned (.plain (OpenSpec.upto fitCallsSpec)) fitCallsUptoCard
end Rows
end Go.Proofs.YtdemkfhkibmbnaaGreatDoor
