/-
  DERIVED. GIVEN WITH THE SEED: THE CARDS: each row of YtaipldegobjboaaDoorRows.lean that lists a variable, with what it lists TIED to the program's text (the seventh form; the later family's looks); each row that meets fmt, with fmt's text TOLD by the authors' own Lean function (tested against real Go, not proved from fmt's source: count such statements apart). THE CARD IS WHAT COUNTS. Prove the row's statement (the work); the ties are given (YtaipldegobjboaaDoorTie.lean); close each card by the builder's one call (the guide's Derived/Test/ToyasCard.lean, 'card_holds'). Laid BY PROGRAM, IN A SANDBOX (cutbox-door.mjs). By AI agents, Wed Nov 11 2026. No macro, syntax, notation, axiom, sorry.
-/
import Derived.Test.YtaipldegobjboaaDoorRows
import GoSem.ClaimSeven
namespace Go.Proofs.YtaipldegobjboaaDoor
namespace Rows

/-- THE TIED CARD OF 'berthmasterlaw17.FitNames'. -/
def fitNamesCard : Claim7 := { stood := { row := fitNamesRow, standIns := [], harness := (true, "7e13ea010cc42c852d35716f8da0a1bf8af0fabfe7fb72a460c7bfa0917bed53"), looks := true }, kinds := [], alts := [], laidByText := true, laidKinds := [.data, .data, .data, .sentinel, .sentinel], laidTests := true, laidLooks := .later }
def FitNamesCardSaid : Prop := Claim7.holds Tryd.pinned (.plain (OpenSpec.ofChange fitNamesSpec)) fitNamesCard

/-- THE SECOND FORM's CARD OF 'berthmasterlaw17.FitNames'. -/
def fitNamesUptoCard : Claim7 := { stood := { row := fitNamesUptoRow, standIns := [], harness := (true, "7e13ea010cc42c852d35716f8da0a1bf8af0fabfe7fb72a460c7bfa0917bed53"), looks := true }, kinds := [], alts := [], laidByText := true, laidKinds := [.data, .data, .data, .sentinel, .sentinel], laidTests := true, laidLooks := .later }
def FitNamesUptoCardSaid : Prop := Claim7.holds Tryd.pinned (.plain (OpenSpec.upto fitNamesSpec)) fitNamesUptoCard
end Rows
end Go.Proofs.YtaipldegobjboaaDoor
