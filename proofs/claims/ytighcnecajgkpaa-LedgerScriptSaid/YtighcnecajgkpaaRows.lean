/-
  No cell of these rows narrows 'for every input' (looked for: loops, veiled, ifaces, maps, wideKeys, modest, calm, conditions, laid).
  DERIVED. THE GIVEN ROWS OF THIS SEAT. 4 by the template 'for every input the law returns true; each argument reads behind the call as it read before'; 0 by the template 'total and deterministic' (their statements: YtighcnecajgkpaaTotals.lean).
  GIVEN WITH THE SEED: the statements are not yours to turn. If you find one false, say at which input.
  Laid BY PROGRAM, IN A SANDBOX (cutbox-rows.mjs): the forced cells as the released guide's own fill.sh prints them over the translation 8922f6eb3ad56777… (all of the seat's roots in one cut). By AI agents, Wed Nov 11 2026. No macro, syntax, notation, axiom, sorry.
-/
import Derived.Test.YtighcnecajgkpaaChecked
import GoSem.Claim
import GoSem.ClaimJoined
import GoSem.ClaimMapViews
import Derived.JoinedTies
import Derived.KernelRfl
namespace Go.Proofs.Ytighcnecajgkpaa
/- THE CELL 'sum', in the pinned program and in every row, IS THE sha256 OF THE DUMP (.gsa) THAT YtighcnecajgkpaaProg.lean LOADS. Nothing in Lean hashes anything: it is a label: what it is worth is what the hold of that sum in a sandbox is worth. -/
noncomputable def Try.pinned : Pinned := { name := "ytighcnecajgkpaa", sum := "8922f6eb3ad56777299aed808438ce8d9b84295d01d4da1f143b80f3df1f9862", checked := Try.checked }
namespace Rows
def none {H : Type} : Left H := { results := [], args := [] }

/-- 'berthmasterlaw10.LedgerNames': WHATEVER THE INPUT: true; the input reads as it did. -/
def ledgerNamesSpec : ChangeSpec := { name := "ledgerNames", fn := fun _ => fun
  | [] => { results := [.lit (.bool true)], args := [] }
  | _ => none }
def ledgerNamesRow : OpenClaim := { program := "ytighcnecajgkpaa", sum := "8922f6eb3ad56777299aed808438ce8d9b84295d01d4da1f143b80f3df1f9862", func := "berthmaster/berthmasterlaw10.LedgerNames", spec := "ledgerNames", unfollowed := true, recurses := true, apart := false }
def LedgerNamesSaid : Prop := ledgerNamesRow.holds Try.pinned (OpenSpec.ofChange ledgerNamesSpec)

/-- ITS FALSE NEIGHBOUR: 'it returns false'. Refute it at one input. -/
def ledgerNamesWrong : ChangeSpec := { name := "ledgerNames", fn := fun _ => fun
  | [] => { results := [.lit (.bool false)], args := [] }
  | _ => none }
def LedgerNamesWrongFalsely : Prop := ledgerNamesRow.holds Try.pinned (OpenSpec.ofChange ledgerNamesWrong)

/-- 'berthmasterlaw10.LedgerScript': WHATEVER THE INPUT: true; the input reads as it did. -/
def ledgerScriptSpec : ChangeSpec := { name := "ledgerScript", fn := fun _ => fun
  | [d1, d2] => { results := [.lit (.bool true)], args := [d1, d2] }
  | _ => none }
def ledgerScriptRow : OpenClaim := { program := "ytighcnecajgkpaa", sum := "8922f6eb3ad56777299aed808438ce8d9b84295d01d4da1f143b80f3df1f9862", func := "berthmaster/berthmasterlaw10.LedgerScript", spec := "ledgerScript", unfollowed := true, recurses := true, apart := false }
def LedgerScriptSaid : Prop := ledgerScriptRow.holds Try.pinned (OpenSpec.ofChange ledgerScriptSpec)

/-- ITS FALSE NEIGHBOUR: 'it returns false'. Refute it at one input. -/
def ledgerScriptWrong : ChangeSpec := { name := "ledgerScript", fn := fun _ => fun
  | [d1, d2] => { results := [.lit (.bool false)], args := [d1, d2] }
  | _ => none }
def LedgerScriptWrongFalsely : Prop := ledgerScriptRow.holds Try.pinned (OpenSpec.ofChange ledgerScriptWrong)

/-- 'berthmasterlaw10.LedgerNil': WHATEVER THE INPUT: true; the input reads as it did. -/
def ledgerNilSpec : ChangeSpec := { name := "ledgerNil", fn := fun _ => fun
  | [d] => { results := [.lit (.bool true)], args := [d] }
  | _ => none }
def ledgerNilRow : OpenClaim := { program := "ytighcnecajgkpaa", sum := "8922f6eb3ad56777299aed808438ce8d9b84295d01d4da1f143b80f3df1f9862", func := "berthmaster/berthmasterlaw10.LedgerNil", spec := "ledgerNil", unfollowed := true, recurses := true, apart := false }
def LedgerNilSaid : Prop := ledgerNilRow.holds Try.pinned (OpenSpec.ofChange ledgerNilSpec)

/-- ITS FALSE NEIGHBOUR: 'it returns false'. Refute it at one input. -/
def ledgerNilWrong : ChangeSpec := { name := "ledgerNil", fn := fun _ => fun
  | [d] => { results := [.lit (.bool false)], args := [d] }
  | _ => none }
def LedgerNilWrongFalsely : Prop := ledgerNilRow.holds Try.pinned (OpenSpec.ofChange ledgerNilWrong)

/-- 'berthmasterlaw10.LedgerFits': WHATEVER THE INPUT: true; the input reads as it did. -/
def ledgerFitsSpec : ChangeSpec := { name := "ledgerFits", fn := fun _ => fun
  | [d1, d2] => { results := [.lit (.bool true)], args := [d1, d2] }
  | _ => none }
def ledgerFitsRow : OpenClaim := { program := "ytighcnecajgkpaa", sum := "8922f6eb3ad56777299aed808438ce8d9b84295d01d4da1f143b80f3df1f9862", func := "berthmaster/berthmasterlaw10.LedgerFits", spec := "ledgerFits", unfollowed := true, recurses := true, apart := false }
def LedgerFitsSaid : Prop := ledgerFitsRow.holds Try.pinned (OpenSpec.ofChange ledgerFitsSpec)

/-- ITS FALSE NEIGHBOUR: 'it returns false'. Refute it at one input. -/
def ledgerFitsWrong : ChangeSpec := { name := "ledgerFits", fn := fun _ => fun
  | [d1, d2] => { results := [.lit (.bool false)], args := [d1, d2] }
  | _ => none }
def LedgerFitsWrongFalsely : Prop := ledgerFitsRow.holds Try.pinned (OpenSpec.ofChange ledgerFitsWrong)

/- THE SECOND FORM. 'bulk': how many values and letters a reading holds, each counted each time it is reached (what is shared counts as often as it is met; a slice's spare places count too). A statement '..UptoSaid' is the law's where the arguments, and the package variables that the reading takes, are together of bulk at most 1048576: NARROWER than '..Said'. Prove '..Said' where nothing that the law and all that it calls make is longer than what came in: it says more and counts as full. Else prove '..UptoSaid'. A law counts once. -/
mutual
def uptoBulk {H : Type} : DataW H → Nat
  | .lit (.string bytes) => bytes.length + 1
  | .lit _ => 1
  | .nil => 1
  | .ptr d => uptoBulk d + 1
  | .slice elems spare => uptoBulkAll elems + uptoBulkAll spare + 1
  | .agg parts => uptoBulkAll parts + 1
  | .iface _ d => uptoBulk d + 1
  | .map entries => uptoBulkEntries entries + 1
  | .held _ => 1
def uptoBulkAll {H : Type} : List (DataW H) → Nat
  | [] => 0
  | d :: r => uptoBulk d + uptoBulkAll r
def uptoBulkEntries {H : Type} : List (Lit × DataW H) → Nat
  | [] => 0
  | x :: r => uptoBulkEntry x + uptoBulkEntries r
def uptoBulkEntry {H : Type} : Lit × DataW H → Nat
  | (.string bytes, d) => bytes.length + uptoBulk d + 1
  | (_, d) => uptoBulk d + 1
 end
def uptoSmall : (H : Type) → List (DataW H) → Bool := fun _ ds => decide (uptoBulkAll ds ≤ 1048576)
def OpenSpec.upto (s : _root_.Go.ChangeSpec) : _root_.Go.OpenSpec := { _root_.Go.OpenSpec.ofChange s with cond := some uptoSmall }

/-- 'berthmasterlaw10.LedgerNames', WHERE WHAT IT READS IS OF BULK AT MOST 1048576: true; the input reads as it did. -/
def ledgerNamesUptoRow : OpenClaim := { program := "ytighcnecajgkpaa", sum := "8922f6eb3ad56777299aed808438ce8d9b84295d01d4da1f143b80f3df1f9862", func := "berthmaster/berthmasterlaw10.LedgerNames", spec := "ledgerNames", unfollowed := true, recurses := true, apart := false, narrowed := true }
def LedgerNamesUptoSaid : Prop := ledgerNamesUptoRow.holds Try.pinned (OpenSpec.upto ledgerNamesSpec)

/-- 'berthmasterlaw10.LedgerScript', WHERE WHAT IT READS IS OF BULK AT MOST 1048576: true; the input reads as it did. -/
def ledgerScriptUptoRow : OpenClaim := { program := "ytighcnecajgkpaa", sum := "8922f6eb3ad56777299aed808438ce8d9b84295d01d4da1f143b80f3df1f9862", func := "berthmaster/berthmasterlaw10.LedgerScript", spec := "ledgerScript", unfollowed := true, recurses := true, apart := false, narrowed := true }
def LedgerScriptUptoSaid : Prop := ledgerScriptUptoRow.holds Try.pinned (OpenSpec.upto ledgerScriptSpec)

/-- 'berthmasterlaw10.LedgerNil', WHERE WHAT IT READS IS OF BULK AT MOST 1048576: true; the input reads as it did. -/
def ledgerNilUptoRow : OpenClaim := { program := "ytighcnecajgkpaa", sum := "8922f6eb3ad56777299aed808438ce8d9b84295d01d4da1f143b80f3df1f9862", func := "berthmaster/berthmasterlaw10.LedgerNil", spec := "ledgerNil", unfollowed := true, recurses := true, apart := false, narrowed := true }
def LedgerNilUptoSaid : Prop := ledgerNilUptoRow.holds Try.pinned (OpenSpec.upto ledgerNilSpec)

/-- 'berthmasterlaw10.LedgerFits', WHERE WHAT IT READS IS OF BULK AT MOST 1048576: true; the input reads as it did. -/
def ledgerFitsUptoRow : OpenClaim := { program := "ytighcnecajgkpaa", sum := "8922f6eb3ad56777299aed808438ce8d9b84295d01d4da1f143b80f3df1f9862", func := "berthmaster/berthmasterlaw10.LedgerFits", spec := "ledgerFits", unfollowed := true, recurses := true, apart := false, narrowed := true }
def LedgerFitsUptoSaid : Prop := ledgerFitsUptoRow.holds Try.pinned (OpenSpec.upto ledgerFitsSpec)

end Rows
end Go.Proofs.Ytighcnecajgkpaa
