/-
  DERIVED. GIVEN WITH THE SEED: THE CARDS: each row of YtopkfomlppnpeaaGreatDoorRows.lean that lists a variable, with what it lists TIED to the program's text (the seventh form; the later family's looks); each row that meets fmt, with fmt's text TOLD by the authors' own Lean function (tested against real Go, not proved from fmt's source: count such statements apart). THE CARD IS WHAT COUNTS. Prove the row's statement (the work); the ties are given (YtopkfomlppnpeaaGreatDoorTie.lean); close each card by the builder's one call (the guide's Derived/Test/ToyasCard.lean, 'card_holds'). Laid BY PROGRAM, IN A SANDBOX (cutbox-door.mjs). By AI agents, Wed Nov 11 2026. No macro, syntax, notation, axiom, sorry.
-/
import Derived.Test.YtopkfomlppnpeaaGreatDoorRows
import GoSem.ClaimSeven
namespace Go.Proofs.YtopkfomlppnpeaaGreatDoor
namespace Rows

/-- THE TIED CARD OF 'berthmasterlaw25.MessageNames'. -/
def messageNamesCard : Claim7 := { stood := { row := messageNamesRow, standIns := [], harness := (true, "bd70922251861e24f0fc52444dc68cc7a670f747bf576d8d20cb2b427b8e554d"), looks := true }, kinds := [], alts := [], laidByText := true, laidKinds := [.data, .data, .data, .sentinel, .sentinel], laidTests := true, laidLooks := .later }
def MessageNamesCardSaid : Prop := Claim7.holds Tryz.pinned (.plain (OpenSpec.ofChange messageNamesSpec)) messageNamesCard

/-- THE TIED CARD OF 'berthmasterlaw25.MessageCalls'. -/
def messageCallsCard : Claim7 := { stood := { row := messageCallsRow, standIns := [], harness := (true, "bd70922251861e24f0fc52444dc68cc7a670f747bf576d8d20cb2b427b8e554d"), looks := true }, kinds := [], alts := [], laidByText := true, laidKinds := [.data, .data, .data, .sentinel, .sentinel], laidTests := true, laidLooks := .later }
def MessageCallsCardSaid : Prop := Claim7.holds Tryz.pinned (.plain (OpenSpec.ofChange messageCallsSpec)) messageCallsCard

/-- THE TIED CARD OF 'berthmasterlaw25.MessageBack'. -/
def messageBackCard : Claim7 := { stood := { row := messageBackRow, standIns := [], harness := (true, "bd70922251861e24f0fc52444dc68cc7a670f747bf576d8d20cb2b427b8e554d"), looks := true }, kinds := [], alts := [], laidByText := true, laidKinds := [.data, .data, .data, .sentinel, .sentinel], laidTests := true, laidLooks := .later }
def MessageBackCardSaid : Prop := Claim7.holds Tryz.pinned (.plain (OpenSpec.ofChange messageBackSpec)) messageBackCard

/-- THE SECOND FORM's CARD OF 'berthmasterlaw25.MessageNames'. -/
def messageNamesUptoCard : Claim7 := { stood := { row := messageNamesUptoRow, standIns := [], harness := (true, "bd70922251861e24f0fc52444dc68cc7a670f747bf576d8d20cb2b427b8e554d"), looks := true }, kinds := [], alts := [], laidByText := true, laidKinds := [.data, .data, .data, .sentinel, .sentinel], laidTests := true, laidLooks := .later }
def MessageNamesUptoCardSaid : Prop := Claim7.holds Tryz.pinned (.plain (OpenSpec.upto messageNamesSpec)) messageNamesUptoCard

/-- THE SECOND FORM's CARD OF 'berthmasterlaw25.MessageCalls'. -/
def messageCallsUptoCard : Claim7 := { stood := { row := messageCallsUptoRow, standIns := [], harness := (true, "bd70922251861e24f0fc52444dc68cc7a670f747bf576d8d20cb2b427b8e554d"), looks := true }, kinds := [], alts := [], laidByText := true, laidKinds := [.data, .data, .data, .sentinel, .sentinel], laidTests := true, laidLooks := .later }
def MessageCallsUptoCardSaid : Prop := Claim7.holds Tryz.pinned (.plain (OpenSpec.upto messageCallsSpec)) messageCallsUptoCard

/-- THE SECOND FORM's CARD OF 'berthmasterlaw25.MessageBack'. -/
def messageBackUptoCard : Claim7 := { stood := { row := messageBackUptoRow, standIns := [], harness := (true, "bd70922251861e24f0fc52444dc68cc7a670f747bf576d8d20cb2b427b8e554d"), looks := true }, kinds := [], alts := [], laidByText := true, laidKinds := [.data, .data, .data, .sentinel, .sentinel], laidTests := true, laidLooks := .later }
def MessageBackUptoCardSaid : Prop := Claim7.holds Tryz.pinned (.plain (OpenSpec.upto messageBackSpec)) messageBackUptoCard
end Rows
end Go.Proofs.YtopkfomlppnpeaaGreatDoor
