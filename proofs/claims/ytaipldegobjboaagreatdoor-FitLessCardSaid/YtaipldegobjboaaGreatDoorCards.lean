/-
  DERIVED. GIVEN WITH THE SEED: THE CARDS: each row of YtaipldegobjboaaGreatDoorRows.lean that lists a variable, with what it lists TIED to the program's text (the seventh form; the later family's looks); each row that meets fmt, with fmt's text TOLD by the authors' own Lean function (tested against real Go, not proved from fmt's source: count such statements apart). THE CARD IS WHAT COUNTS. Prove the row's statement (the work); the ties are given (YtaipldegobjboaaGreatDoorTie.lean); close each card by the builder's one call (the guide's Derived/Test/ToyasCard.lean, 'card_holds'). Laid BY PROGRAM, IN A SANDBOX (cutbox-door.mjs). By AI agents, Wed Nov 11 2026. No macro, syntax, notation, axiom, sorry.
-/
import Derived.Test.YtaipldegobjboaaGreatDoorRows
import GoSem.ClaimSeven
namespace Go.Proofs.YtaipldegobjboaaGreatDoor
namespace Rows

/-- THE TIED CARD OF 'berthmasterlaw17.FitLess'. -/
def fitLessCard : Claim7 := { stood := { row := fitLessRow, standIns := [], harness := (true, "a1e6a2cad65359e418da918353c7a1ad3c3b036a876aeaabe7ffe96d84214b03"), looks := true }, kinds := [], alts := [], laidByText := true, laidKinds := [.data, .data, .data, .sentinel, .sentinel], laidTests := true, laidLooks := .later }
def FitLessCardSaid : Prop := Claim7.holds Tryz.pinned (.plain (OpenSpec.ofChange fitLessSpec)) fitLessCard

/-- THE TIED CARD OF 'berthmasterlaw17.FitCalls'. -/
def fitCallsCard : Claim7 := { stood := { row := fitCallsRow, standIns := [], harness := (true, "a1e6a2cad65359e418da918353c7a1ad3c3b036a876aeaabe7ffe96d84214b03"), looks := true }, kinds := [], alts := [], laidByText := true, laidKinds := [.data, .data, .data, .sentinel, .sentinel], laidTests := true, laidLooks := .later }
def FitCallsCardSaid : Prop := Claim7.holds Tryz.pinned (.plain (OpenSpec.ofChange fitCallsSpec)) fitCallsCard

/-- THE TIED CARD OF 'berthmasterlaw17.FitBand'. -/
def fitBandCard : Claim7 := { stood := { row := fitBandRow, standIns := [], harness := (true, "a1e6a2cad65359e418da918353c7a1ad3c3b036a876aeaabe7ffe96d84214b03"), looks := true }, kinds := [], alts := [], laidByText := true, laidKinds := [.data, .data, .data, .sentinel, .sentinel], laidTests := true, laidLooks := .later }
def FitBandCardSaid : Prop := Claim7.holds Tryz.pinned (.plain (OpenSpec.ofChange fitBandSpec)) fitBandCard

/-- THE SECOND FORM's CARD OF 'berthmasterlaw17.FitLess'. -/
def fitLessUptoCard : Claim7 := { stood := { row := fitLessUptoRow, standIns := [], harness := (true, "a1e6a2cad65359e418da918353c7a1ad3c3b036a876aeaabe7ffe96d84214b03"), looks := true }, kinds := [], alts := [], laidByText := true, laidKinds := [.data, .data, .data, .sentinel, .sentinel], laidTests := true, laidLooks := .later }
def FitLessUptoCardSaid : Prop := Claim7.holds Tryz.pinned (.plain (OpenSpec.upto fitLessSpec)) fitLessUptoCard

/-- THE SECOND FORM's CARD OF 'berthmasterlaw17.FitCalls'. -/
def fitCallsUptoCard : Claim7 := { stood := { row := fitCallsUptoRow, standIns := [], harness := (true, "a1e6a2cad65359e418da918353c7a1ad3c3b036a876aeaabe7ffe96d84214b03"), looks := true }, kinds := [], alts := [], laidByText := true, laidKinds := [.data, .data, .data, .sentinel, .sentinel], laidTests := true, laidLooks := .later }
def FitCallsUptoCardSaid : Prop := Claim7.holds Tryz.pinned (.plain (OpenSpec.upto fitCallsSpec)) fitCallsUptoCard

/-- THE SECOND FORM's CARD OF 'berthmasterlaw17.FitBand'. -/
def fitBandUptoCard : Claim7 := { stood := { row := fitBandUptoRow, standIns := [], harness := (true, "a1e6a2cad65359e418da918353c7a1ad3c3b036a876aeaabe7ffe96d84214b03"), looks := true }, kinds := [], alts := [], laidByText := true, laidKinds := [.data, .data, .data, .sentinel, .sentinel], laidTests := true, laidLooks := .later }
def FitBandUptoCardSaid : Prop := Claim7.holds Tryz.pinned (.plain (OpenSpec.upto fitBandSpec)) fitBandUptoCard
end Rows
end Go.Proofs.YtaipldegobjboaaGreatDoor
