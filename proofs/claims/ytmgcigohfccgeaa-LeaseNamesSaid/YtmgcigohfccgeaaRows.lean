/-
  No cell of these rows narrows 'for every input' (looked for: loops, veiled, ifaces, maps, wideKeys, modest, calm, conditions, laid).
  DERIVED. THE GIVEN ROWS OF THIS SEAT. 10 by the template 'for every input the law returns true; each argument reads behind the call as it read before'; 0 by the template 'total and deterministic' (their statements: YtmgcigohfccgeaaTotals.lean).
  GIVEN WITH THE SEED: the statements are not yours to turn. If you find one false, say at which input.
  Laid BY PROGRAM, IN A SANDBOX (cutbox-rows.mjs): the forced cells as the released guide's own fill.sh prints them over the translation 5cd08e359b444349… (all of the seat's roots in one cut). By AI agents, Wed Nov 11 2026. No macro, syntax, notation, axiom, sorry.
-/
import Derived.Test.YtmgcigohfccgeaaChecked
import GoSem.Claim
import GoSem.ClaimJoined
import GoSem.ClaimMapViews
import Derived.JoinedTies
import Derived.KernelRfl
namespace Go.Proofs.Ytmgcigohfccgeaa
/- THE CELL 'sum', in the pinned program and in every row, IS THE sha256 OF THE DUMP (.gsa) THAT YtmgcigohfccgeaaProg.lean LOADS. Nothing in Lean hashes anything: it is a label: what it is worth is what the hold of that sum in a sandbox is worth. -/
noncomputable def Try.pinned : Pinned := { name := "ytmgcigohfccgeaa", sum := "5cd08e359b444349875f66fdbe1b09af29a09ac78d5e533131fca50a1f2acdc1", checked := Try.checked }
namespace Rows
def none {H : Type} : Left H := { results := [], args := [] }

/-- 'berthmasterlaw28.LeaseSure': WHATEVER THE INPUT: true; the input reads as it did. -/
def leaseSureSpec : ChangeSpec := { name := "leaseSure", fn := fun _ => fun
  | [d1, d2, d3, d4, d5] => { results := [.lit (.bool true)], args := [d1, d2, d3, d4, d5] }
  | _ => none }
def leaseSureRow : OpenClaim := { program := "ytmgcigohfccgeaa", sum := "5cd08e359b444349875f66fdbe1b09af29a09ac78d5e533131fca50a1f2acdc1", func := "berthmaster/berthmasterlaw28.LeaseSure", spec := "leaseSure", apart := false }
def LeaseSureSaid : Prop := leaseSureRow.holds Try.pinned (OpenSpec.ofChange leaseSureSpec)

/-- ITS FALSE NEIGHBOUR: 'it returns false'. Refute it at one input. -/
def leaseSureWrong : ChangeSpec := { name := "leaseSure", fn := fun _ => fun
  | [d1, d2, d3, d4, d5] => { results := [.lit (.bool false)], args := [d1, d2, d3, d4, d5] }
  | _ => none }
def LeaseSureWrongFalsely : Prop := leaseSureRow.holds Try.pinned (OpenSpec.ofChange leaseSureWrong)

/-- 'berthmasterlaw08.ClockCalls': WHATEVER THE INPUT: true; the input reads as it did. -/
def clockCallsSpec : ChangeSpec := { name := "clockCalls", fn := fun _ => fun
  | [d1, d2, d3, d4] => { results := [.lit (.bool true)], args := [d1, d2, d3, d4] }
  | _ => none }
def clockCallsRow : OpenClaim := { program := "ytmgcigohfccgeaa", sum := "5cd08e359b444349875f66fdbe1b09af29a09ac78d5e533131fca50a1f2acdc1", func := "berthmaster/berthmasterlaw08.ClockCalls", spec := "clockCalls", unfollowed := true, recurses := true, apart := false }
def ClockCallsSaid : Prop := clockCallsRow.holds Try.pinned (OpenSpec.ofChange clockCallsSpec)

/-- ITS FALSE NEIGHBOUR: 'it returns false'. Refute it at one input. -/
def clockCallsWrong : ChangeSpec := { name := "clockCalls", fn := fun _ => fun
  | [d1, d2, d3, d4] => { results := [.lit (.bool false)], args := [d1, d2, d3, d4] }
  | _ => none }
def ClockCallsWrongFalsely : Prop := clockCallsRow.holds Try.pinned (OpenSpec.ofChange clockCallsWrong)

/-- 'berthmasterlaw08.ClockLease': WHATEVER THE INPUT: true; the input reads as it did. -/
def clockLeaseSpec : ChangeSpec := { name := "clockLease", fn := fun _ => fun
  | [d1, d2, d3, d4, d5] => { results := [.lit (.bool true)], args := [d1, d2, d3, d4, d5] }
  | _ => none }
def clockLeaseRow : OpenClaim := { program := "ytmgcigohfccgeaa", sum := "5cd08e359b444349875f66fdbe1b09af29a09ac78d5e533131fca50a1f2acdc1", func := "berthmaster/berthmasterlaw08.ClockLease", spec := "clockLease", unfollowed := true, recurses := true, apart := false }
def ClockLeaseSaid : Prop := clockLeaseRow.holds Try.pinned (OpenSpec.ofChange clockLeaseSpec)

/-- ITS FALSE NEIGHBOUR: 'it returns false'. Refute it at one input. -/
def clockLeaseWrong : ChangeSpec := { name := "clockLease", fn := fun _ => fun
  | [d1, d2, d3, d4, d5] => { results := [.lit (.bool false)], args := [d1, d2, d3, d4, d5] }
  | _ => none }
def ClockLeaseWrongFalsely : Prop := clockLeaseRow.holds Try.pinned (OpenSpec.ofChange clockLeaseWrong)

/-- 'berthmasterlaw08.ClockOnce': WHATEVER THE INPUT: true; the input reads as it did. -/
def clockOnceSpec : ChangeSpec := { name := "clockOnce", fn := fun _ => fun
  | [d1, d2, d3] => { results := [.lit (.bool true)], args := [d1, d2, d3] }
  | _ => none }
def clockOnceRow : OpenClaim := { program := "ytmgcigohfccgeaa", sum := "5cd08e359b444349875f66fdbe1b09af29a09ac78d5e533131fca50a1f2acdc1", func := "berthmaster/berthmasterlaw08.ClockOnce", spec := "clockOnce", unfollowed := true, recurses := true, apart := false }
def ClockOnceSaid : Prop := clockOnceRow.holds Try.pinned (OpenSpec.ofChange clockOnceSpec)

/-- ITS FALSE NEIGHBOUR: 'it returns false'. Refute it at one input. -/
def clockOnceWrong : ChangeSpec := { name := "clockOnce", fn := fun _ => fun
  | [d1, d2, d3] => { results := [.lit (.bool false)], args := [d1, d2, d3] }
  | _ => none }
def ClockOnceWrongFalsely : Prop := clockOnceRow.holds Try.pinned (OpenSpec.ofChange clockOnceWrong)

/-- 'berthmasterlaw08.ClockNames': WHATEVER THE INPUT: true; the input reads as it did. -/
def clockNamesSpec : ChangeSpec := { name := "clockNames", fn := fun _ => fun
  | [] => { results := [.lit (.bool true)], args := [] }
  | _ => none }
def clockNamesRow : OpenClaim := { program := "ytmgcigohfccgeaa", sum := "5cd08e359b444349875f66fdbe1b09af29a09ac78d5e533131fca50a1f2acdc1", func := "berthmaster/berthmasterlaw08.ClockNames", spec := "clockNames", unfollowed := true, recurses := true, apart := false }
def ClockNamesSaid : Prop := clockNamesRow.holds Try.pinned (OpenSpec.ofChange clockNamesSpec)

/-- ITS FALSE NEIGHBOUR: 'it returns false'. Refute it at one input. -/
def clockNamesWrong : ChangeSpec := { name := "clockNames", fn := fun _ => fun
  | [] => { results := [.lit (.bool false)], args := [] }
  | _ => none }
def ClockNamesWrongFalsely : Prop := clockNamesRow.holds Try.pinned (OpenSpec.ofChange clockNamesWrong)

/-- 'berthmasterlaw28.LeaseNames': WHATEVER THE INPUT: true; the input reads as it did. -/
def leaseNamesSpec : ChangeSpec := { name := "leaseNames", fn := fun _ => fun
  | [] => { results := [.lit (.bool true)], args := [] }
  | _ => none }
def leaseNamesRow : OpenClaim := { program := "ytmgcigohfccgeaa", sum := "5cd08e359b444349875f66fdbe1b09af29a09ac78d5e533131fca50a1f2acdc1", func := "berthmaster/berthmasterlaw28.LeaseNames", spec := "leaseNames", unfollowed := true, recurses := true, apart := false }
def LeaseNamesSaid : Prop := leaseNamesRow.holds Try.pinned (OpenSpec.ofChange leaseNamesSpec)

/-- ITS FALSE NEIGHBOUR: 'it returns false'. Refute it at one input. -/
def leaseNamesWrong : ChangeSpec := { name := "leaseNames", fn := fun _ => fun
  | [] => { results := [.lit (.bool false)], args := [] }
  | _ => none }
def LeaseNamesWrongFalsely : Prop := leaseNamesRow.holds Try.pinned (OpenSpec.ofChange leaseNamesWrong)

/-- 'berthmasterlaw28.LeaseScript': WHATEVER THE INPUT: true; the input reads as it did. -/
def leaseScriptSpec : ChangeSpec := { name := "leaseScript", fn := fun _ => fun
  | [d1, d2, d3] => { results := [.lit (.bool true)], args := [d1, d2, d3] }
  | _ => none }
def leaseScriptRow : OpenClaim := { program := "ytmgcigohfccgeaa", sum := "5cd08e359b444349875f66fdbe1b09af29a09ac78d5e533131fca50a1f2acdc1", func := "berthmaster/berthmasterlaw28.LeaseScript", spec := "leaseScript", unfollowed := true, recurses := true, apart := false }
def LeaseScriptSaid : Prop := leaseScriptRow.holds Try.pinned (OpenSpec.ofChange leaseScriptSpec)

/-- ITS FALSE NEIGHBOUR: 'it returns false'. Refute it at one input. -/
def leaseScriptWrong : ChangeSpec := { name := "leaseScript", fn := fun _ => fun
  | [d1, d2, d3] => { results := [.lit (.bool false)], args := [d1, d2, d3] }
  | _ => none }
def LeaseScriptWrongFalsely : Prop := leaseScriptRow.holds Try.pinned (OpenSpec.ofChange leaseScriptWrong)

/-- 'berthmasterlaw28.LeaseNil': WHATEVER THE INPUT: true; the input reads as it did. -/
def leaseNilSpec : ChangeSpec := { name := "leaseNil", fn := fun _ => fun
  | [d] => { results := [.lit (.bool true)], args := [d] }
  | _ => none }
def leaseNilRow : OpenClaim := { program := "ytmgcigohfccgeaa", sum := "5cd08e359b444349875f66fdbe1b09af29a09ac78d5e533131fca50a1f2acdc1", func := "berthmaster/berthmasterlaw28.LeaseNil", spec := "leaseNil", unfollowed := true, recurses := true, apart := false }
def LeaseNilSaid : Prop := leaseNilRow.holds Try.pinned (OpenSpec.ofChange leaseNilSpec)

/-- ITS FALSE NEIGHBOUR: 'it returns false'. Refute it at one input. -/
def leaseNilWrong : ChangeSpec := { name := "leaseNil", fn := fun _ => fun
  | [d] => { results := [.lit (.bool false)], args := [d] }
  | _ => none }
def LeaseNilWrongFalsely : Prop := leaseNilRow.holds Try.pinned (OpenSpec.ofChange leaseNilWrong)

/-- 'berthmasterlaw08.ClockScript': WHATEVER THE INPUT: true; the input reads as it did. -/
def clockScriptSpec : ChangeSpec := { name := "clockScript", fn := fun _ => fun
  | [d] => { results := [.lit (.bool true)], args := [d] }
  | _ => none }
def clockScriptRow : OpenClaim := { program := "ytmgcigohfccgeaa", sum := "5cd08e359b444349875f66fdbe1b09af29a09ac78d5e533131fca50a1f2acdc1", func := "berthmaster/berthmasterlaw08.ClockScript", spec := "clockScript", unfollowed := true, recurses := true, apart := false }
def ClockScriptSaid : Prop := clockScriptRow.holds Try.pinned (OpenSpec.ofChange clockScriptSpec)

/-- ITS FALSE NEIGHBOUR: 'it returns false'. Refute it at one input. -/
def clockScriptWrong : ChangeSpec := { name := "clockScript", fn := fun _ => fun
  | [d] => { results := [.lit (.bool false)], args := [d] }
  | _ => none }
def ClockScriptWrongFalsely : Prop := clockScriptRow.holds Try.pinned (OpenSpec.ofChange clockScriptWrong)

/-- 'berthmasterlaw08.ClockNil': WHATEVER THE INPUT: true; the input reads as it did. -/
def clockNilSpec : ChangeSpec := { name := "clockNil", fn := fun _ => fun
  | [d] => { results := [.lit (.bool true)], args := [d] }
  | _ => none }
def clockNilRow : OpenClaim := { program := "ytmgcigohfccgeaa", sum := "5cd08e359b444349875f66fdbe1b09af29a09ac78d5e533131fca50a1f2acdc1", func := "berthmaster/berthmasterlaw08.ClockNil", spec := "clockNil", unfollowed := true, recurses := true, apart := false }
def ClockNilSaid : Prop := clockNilRow.holds Try.pinned (OpenSpec.ofChange clockNilSpec)

/-- ITS FALSE NEIGHBOUR: 'it returns false'. Refute it at one input. -/
def clockNilWrong : ChangeSpec := { name := "clockNil", fn := fun _ => fun
  | [d] => { results := [.lit (.bool false)], args := [d] }
  | _ => none }
def ClockNilWrongFalsely : Prop := clockNilRow.holds Try.pinned (OpenSpec.ofChange clockNilWrong)

/- THE SECOND FORM. 'bulk': how many values and letters a reading holds, each counted each time it is reached (what is shared counts as often as it is met; a slice's spare places count too). A statement '..UptoSaid' is the law's where the arguments, and the package variables that the reading takes, are together of bulk at most 1048576: NARROWER than '..Said'. Prove '..Said' where nothing that the law and all that it calls make is longer than what came in: it says more and counts as full. Else prove '..UptoSaid'. A law counts once. -/
mutual
def uptoBulk {H : Type} : DataW H → Nat
  | .lit (.string bytes) => bytes.length + 1
  | .lit _ => 1
  | .nil => 1
  | .ptr d => uptoBulk d + 1
  | .slice elems spare => uptoBulkAll elems + uptoBulkAll spare + 1
  | .agg parts => uptoBulkAll parts + 1
  | .iface _ d => uptoBulk d + 1
  | .map entries => uptoBulkEntries entries + 1
  | .held _ => 1
def uptoBulkAll {H : Type} : List (DataW H) → Nat
  | [] => 0
  | d :: r => uptoBulk d + uptoBulkAll r
def uptoBulkEntries {H : Type} : List (Lit × DataW H) → Nat
  | [] => 0
  | x :: r => uptoBulkEntry x + uptoBulkEntries r
def uptoBulkEntry {H : Type} : Lit × DataW H → Nat
  | (.string bytes, d) => bytes.length + uptoBulk d + 1
  | (_, d) => uptoBulk d + 1
 end
def uptoSmall : (H : Type) → List (DataW H) → Bool := fun _ ds => decide (uptoBulkAll ds ≤ 1048576)
def OpenSpec.upto (s : _root_.Go.ChangeSpec) : _root_.Go.OpenSpec := { _root_.Go.OpenSpec.ofChange s with cond := some uptoSmall }

/-- 'berthmasterlaw28.LeaseSure', WHERE WHAT IT READS IS OF BULK AT MOST 1048576: true; the input reads as it did. -/
def leaseSureUptoRow : OpenClaim := { program := "ytmgcigohfccgeaa", sum := "5cd08e359b444349875f66fdbe1b09af29a09ac78d5e533131fca50a1f2acdc1", func := "berthmaster/berthmasterlaw28.LeaseSure", spec := "leaseSure", apart := false, narrowed := true }
def LeaseSureUptoSaid : Prop := leaseSureUptoRow.holds Try.pinned (OpenSpec.upto leaseSureSpec)

/-- 'berthmasterlaw08.ClockCalls', WHERE WHAT IT READS IS OF BULK AT MOST 1048576: true; the input reads as it did. -/
def clockCallsUptoRow : OpenClaim := { program := "ytmgcigohfccgeaa", sum := "5cd08e359b444349875f66fdbe1b09af29a09ac78d5e533131fca50a1f2acdc1", func := "berthmaster/berthmasterlaw08.ClockCalls", spec := "clockCalls", unfollowed := true, recurses := true, apart := false, narrowed := true }
def ClockCallsUptoSaid : Prop := clockCallsUptoRow.holds Try.pinned (OpenSpec.upto clockCallsSpec)

/-- 'berthmasterlaw08.ClockLease', WHERE WHAT IT READS IS OF BULK AT MOST 1048576: true; the input reads as it did. -/
def clockLeaseUptoRow : OpenClaim := { program := "ytmgcigohfccgeaa", sum := "5cd08e359b444349875f66fdbe1b09af29a09ac78d5e533131fca50a1f2acdc1", func := "berthmaster/berthmasterlaw08.ClockLease", spec := "clockLease", unfollowed := true, recurses := true, apart := false, narrowed := true }
def ClockLeaseUptoSaid : Prop := clockLeaseUptoRow.holds Try.pinned (OpenSpec.upto clockLeaseSpec)

/-- 'berthmasterlaw08.ClockOnce', WHERE WHAT IT READS IS OF BULK AT MOST 1048576: true; the input reads as it did. -/
def clockOnceUptoRow : OpenClaim := { program := "ytmgcigohfccgeaa", sum := "5cd08e359b444349875f66fdbe1b09af29a09ac78d5e533131fca50a1f2acdc1", func := "berthmaster/berthmasterlaw08.ClockOnce", spec := "clockOnce", unfollowed := true, recurses := true, apart := false, narrowed := true }
def ClockOnceUptoSaid : Prop := clockOnceUptoRow.holds Try.pinned (OpenSpec.upto clockOnceSpec)

/-- 'berthmasterlaw08.ClockNames', WHERE WHAT IT READS IS OF BULK AT MOST 1048576: true; the input reads as it did. -/
def clockNamesUptoRow : OpenClaim := { program := "ytmgcigohfccgeaa", sum := "5cd08e359b444349875f66fdbe1b09af29a09ac78d5e533131fca50a1f2acdc1", func := "berthmaster/berthmasterlaw08.ClockNames", spec := "clockNames", unfollowed := true, recurses := true, apart := false, narrowed := true }
def ClockNamesUptoSaid : Prop := clockNamesUptoRow.holds Try.pinned (OpenSpec.upto clockNamesSpec)

/-- 'berthmasterlaw28.LeaseNames', WHERE WHAT IT READS IS OF BULK AT MOST 1048576: true; the input reads as it did. -/
def leaseNamesUptoRow : OpenClaim := { program := "ytmgcigohfccgeaa", sum := "5cd08e359b444349875f66fdbe1b09af29a09ac78d5e533131fca50a1f2acdc1", func := "berthmaster/berthmasterlaw28.LeaseNames", spec := "leaseNames", unfollowed := true, recurses := true, apart := false, narrowed := true }
def LeaseNamesUptoSaid : Prop := leaseNamesUptoRow.holds Try.pinned (OpenSpec.upto leaseNamesSpec)

/-- 'berthmasterlaw28.LeaseScript', WHERE WHAT IT READS IS OF BULK AT MOST 1048576: true; the input reads as it did. -/
def leaseScriptUptoRow : OpenClaim := { program := "ytmgcigohfccgeaa", sum := "5cd08e359b444349875f66fdbe1b09af29a09ac78d5e533131fca50a1f2acdc1", func := "berthmaster/berthmasterlaw28.LeaseScript", spec := "leaseScript", unfollowed := true, recurses := true, apart := false, narrowed := true }
def LeaseScriptUptoSaid : Prop := leaseScriptUptoRow.holds Try.pinned (OpenSpec.upto leaseScriptSpec)

/-- 'berthmasterlaw28.LeaseNil', WHERE WHAT IT READS IS OF BULK AT MOST 1048576: true; the input reads as it did. -/
def leaseNilUptoRow : OpenClaim := { program := "ytmgcigohfccgeaa", sum := "5cd08e359b444349875f66fdbe1b09af29a09ac78d5e533131fca50a1f2acdc1", func := "berthmaster/berthmasterlaw28.LeaseNil", spec := "leaseNil", unfollowed := true, recurses := true, apart := false, narrowed := true }
def LeaseNilUptoSaid : Prop := leaseNilUptoRow.holds Try.pinned (OpenSpec.upto leaseNilSpec)

/-- 'berthmasterlaw08.ClockScript', WHERE WHAT IT READS IS OF BULK AT MOST 1048576: true; the input reads as it did. -/
def clockScriptUptoRow : OpenClaim := { program := "ytmgcigohfccgeaa", sum := "5cd08e359b444349875f66fdbe1b09af29a09ac78d5e533131fca50a1f2acdc1", func := "berthmaster/berthmasterlaw08.ClockScript", spec := "clockScript", unfollowed := true, recurses := true, apart := false, narrowed := true }
def ClockScriptUptoSaid : Prop := clockScriptUptoRow.holds Try.pinned (OpenSpec.upto clockScriptSpec)

/-- 'berthmasterlaw08.ClockNil', WHERE WHAT IT READS IS OF BULK AT MOST 1048576: true; the input reads as it did. -/
def clockNilUptoRow : OpenClaim := { program := "ytmgcigohfccgeaa", sum := "5cd08e359b444349875f66fdbe1b09af29a09ac78d5e533131fca50a1f2acdc1", func := "berthmaster/berthmasterlaw08.ClockNil", spec := "clockNil", unfollowed := true, recurses := true, apart := false, narrowed := true }
def ClockNilUptoSaid : Prop := clockNilUptoRow.holds Try.pinned (OpenSpec.upto clockNilSpec)

end Rows
end Go.Proofs.Ytmgcigohfccgeaa
