/-
  DERIVED. GIVEN WITH THE SEED: THE CARDS: each row of YtmgecehdicpjnaaDoorRows.lean that lists a variable, with what it lists TIED to the program's text (the seventh form; the later family's looks); each row that meets fmt, with fmt's text TOLD by the authors' own Lean function (tested against real Go, not proved from fmt's source: count such statements apart). THE CARD IS WHAT COUNTS. Prove the row's statement (the work); the ties are given (YtmgecehdicpjnaaDoorTie.lean); close each card by the builder's one call (the guide's Derived/Test/ToyasCard.lean, 'card_holds'). Laid BY PROGRAM, IN A SANDBOX (cutbox-door.mjs). By AI agents, Wed Nov 11 2026. No macro, syntax, notation, axiom, sorry.
-/
import Derived.Test.YtmgecehdicpjnaaDoorRows
import GoSem.ClaimSeven
namespace Go.Proofs.YtmgecehdicpjnaaDoor
namespace Rows

/-- THE TIED CARD OF 'berthmasterlaw09.ResourceTexts'. -/
def resourceTextsCard : Claim7 := { stood := { row := resourceTextsRow, standIns := [], harness := (true, "e999b698b24196e5a9fc6f1a5bfd2707a3e44855293b8b8f7fa6593f72e85849"), looks := false }, kinds := [], alts := [], laidByText := true, laidKinds := [.data, .data, .data], laidTests := true, laidLooks := .later }
def ResourceTextsCardSaid : Prop := Claim7.holds Tryd.pinned (.plain (OpenSpec.ofChange resourceTextsSpec)) resourceTextsCard

/-- THE TIED CARD OF 'berthmasterlaw09.ResourceBack'. -/
def resourceBackCard : Claim7 := { stood := { row := resourceBackRow, standIns := [], harness := (true, "e999b698b24196e5a9fc6f1a5bfd2707a3e44855293b8b8f7fa6593f72e85849"), looks := false }, kinds := [], alts := [], laidByText := true, laidKinds := [.data, .data, .data], laidTests := true, laidLooks := .later }
def ResourceBackCardSaid : Prop := Claim7.holds Tryd.pinned (.plain (OpenSpec.ofChange resourceBackSpec)) resourceBackCard

/-- THE TIED CARD OF 'berthmasterlaw09.ResourceScale'. -/
def resourceScaleCard : Claim7 := { stood := { row := resourceScaleRow, standIns := [], harness := (true, "e999b698b24196e5a9fc6f1a5bfd2707a3e44855293b8b8f7fa6593f72e85849"), looks := false }, kinds := [], alts := [], laidByText := true, laidKinds := [.data, .data, .data], laidTests := true, laidLooks := .later }
def ResourceScaleCardSaid : Prop := Claim7.holds Tryd.pinned (.plain (OpenSpec.ofChange resourceScaleSpec)) resourceScaleCard

/-- THE TIED CARD OF 'berthmasterlaw09.ResourceSums'. -/
def resourceSumsCard : Claim7 := { stood := { row := resourceSumsRow, standIns := [], harness := (true, "e999b698b24196e5a9fc6f1a5bfd2707a3e44855293b8b8f7fa6593f72e85849"), looks := false }, kinds := [], alts := [], laidByText := true, laidKinds := [.data, .data, .data], laidTests := true, laidLooks := .later }
def ResourceSumsCardSaid : Prop := Claim7.holds Tryd.pinned (.plain (OpenSpec.ofChange resourceSumsSpec)) resourceSumsCard

/-- THE TIED CARD OF 'berthmasterlaw09.ResourceNames'. -/
def resourceNamesCard : Claim7 := { stood := { row := resourceNamesRow, standIns := [], harness := (true, "e999b698b24196e5a9fc6f1a5bfd2707a3e44855293b8b8f7fa6593f72e85849"), looks := false }, kinds := [], alts := [], laidByText := true, laidKinds := [.data, .data, .data], laidTests := true, laidLooks := .later }
def ResourceNamesCardSaid : Prop := Claim7.holds Tryd.pinned (.plain (OpenSpec.ofChange resourceNamesSpec)) resourceNamesCard

/-- THE TIED CARD OF 'berthmasterlaw09.ResourceCalls'. -/
def resourceCallsCard : Claim7 := { stood := { row := resourceCallsRow, standIns := [], harness := (true, "e999b698b24196e5a9fc6f1a5bfd2707a3e44855293b8b8f7fa6593f72e85849"), looks := false }, kinds := [], alts := [], laidByText := true, laidKinds := [.data, .data, .data], laidTests := true, laidLooks := .later }
def ResourceCallsCardSaid : Prop := Claim7.holds Tryd.pinned (.plain (OpenSpec.ofChange resourceCallsSpec)) resourceCallsCard

/-- THE SECOND FORM's CARD OF 'berthmasterlaw09.ResourceTexts'. -/
def resourceTextsUptoCard : Claim7 := { stood := { row := resourceTextsUptoRow, standIns := [], harness := (true, "e999b698b24196e5a9fc6f1a5bfd2707a3e44855293b8b8f7fa6593f72e85849"), looks := false }, kinds := [], alts := [], laidByText := true, laidKinds := [.data, .data, .data], laidTests := true, laidLooks := .later }
def ResourceTextsUptoCardSaid : Prop := Claim7.holds Tryd.pinned (.plain (OpenSpec.upto resourceTextsSpec)) resourceTextsUptoCard

/-- THE SECOND FORM's CARD OF 'berthmasterlaw09.ResourceBack'. -/
def resourceBackUptoCard : Claim7 := { stood := { row := resourceBackUptoRow, standIns := [], harness := (true, "e999b698b24196e5a9fc6f1a5bfd2707a3e44855293b8b8f7fa6593f72e85849"), looks := false }, kinds := [], alts := [], laidByText := true, laidKinds := [.data, .data, .data], laidTests := true, laidLooks := .later }
def ResourceBackUptoCardSaid : Prop := Claim7.holds Tryd.pinned (.plain (OpenSpec.upto resourceBackSpec)) resourceBackUptoCard

/-- THE SECOND FORM's CARD OF 'berthmasterlaw09.ResourceScale'. -/
def resourceScaleUptoCard : Claim7 := { stood := { row := resourceScaleUptoRow, standIns := [], harness := (true, "e999b698b24196e5a9fc6f1a5bfd2707a3e44855293b8b8f7fa6593f72e85849"), looks := false }, kinds := [], alts := [], laidByText := true, laidKinds := [.data, .data, .data], laidTests := true, laidLooks := .later }
def ResourceScaleUptoCardSaid : Prop := Claim7.holds Tryd.pinned (.plain (OpenSpec.upto resourceScaleSpec)) resourceScaleUptoCard

/-- THE SECOND FORM's CARD OF 'berthmasterlaw09.ResourceSums'. -/
def resourceSumsUptoCard : Claim7 := { stood := { row := resourceSumsUptoRow, standIns := [], harness := (true, "e999b698b24196e5a9fc6f1a5bfd2707a3e44855293b8b8f7fa6593f72e85849"), looks := false }, kinds := [], alts := [], laidByText := true, laidKinds := [.data, .data, .data], laidTests := true, laidLooks := .later }
def ResourceSumsUptoCardSaid : Prop := Claim7.holds Tryd.pinned (.plain (OpenSpec.upto resourceSumsSpec)) resourceSumsUptoCard

/-- THE SECOND FORM's CARD OF 'berthmasterlaw09.ResourceNames'. -/
def resourceNamesUptoCard : Claim7 := { stood := { row := resourceNamesUptoRow, standIns := [], harness := (true, "e999b698b24196e5a9fc6f1a5bfd2707a3e44855293b8b8f7fa6593f72e85849"), looks := false }, kinds := [], alts := [], laidByText := true, laidKinds := [.data, .data, .data], laidTests := true, laidLooks := .later }
def ResourceNamesUptoCardSaid : Prop := Claim7.holds Tryd.pinned (.plain (OpenSpec.upto resourceNamesSpec)) resourceNamesUptoCard

/-- THE SECOND FORM's CARD OF 'berthmasterlaw09.ResourceCalls'. -/
def resourceCallsUptoCard : Claim7 := { stood := { row := resourceCallsUptoRow, standIns := [], harness := (true, "e999b698b24196e5a9fc6f1a5bfd2707a3e44855293b8b8f7fa6593f72e85849"), looks := false }, kinds := [], alts := [], laidByText := true, laidKinds := [.data, .data, .data], laidTests := true, laidLooks := .later }
def ResourceCallsUptoCardSaid : Prop := Claim7.holds Tryd.pinned (.plain (OpenSpec.upto resourceCallsSpec)) resourceCallsUptoCard
end Rows
end Go.Proofs.YtmgecehdicpjnaaDoor
