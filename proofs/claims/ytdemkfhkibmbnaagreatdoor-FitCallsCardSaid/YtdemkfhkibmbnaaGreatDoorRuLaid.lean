/- RuLaid. -/
import Derived.Test.YtdemkfhkibmbnaaGreatDoorCards
import Derived.Test.YtdemkfhkibmbnaaGreatDoorTie
import Derived.Test.YtdemkfhkibmbnaaGreatDoorRuNum
import Derived.OpenShut
import Derived.Deep.DeepHandedRow
import Derived.Lib.LaidTab
import Derived.MakeChecks
import Derived.Stop.LaidErr
namespace Go.Proofs.YtdemkfhkibmbnaaGreatDoor.Ru
open Go.ChangeShapes Go.WideShapes Go.ChangeAt Go.RowKit Go.Proofs.YtdemkfhkibmbnaaGreatDoor
def laidL : List (String × DataW Unit) := [("math/bits.deBruijn32tab", Rows.laid_math_bits_deBruijn32tab), ("math/bits.deBruijn64tab", Rows.laid_math_bits_deBruijn64tab), ("internal/strconv.uint64pow10", Rows.laid_internal_strconv_uint64pow10), ("strconv.ErrRange", Rows.laid_strconv_ErrRange), ("strconv.ErrSyntax", Rows.laid_strconv_ErrSyntax)]
theorem ownL : ownKnob Tryz.prog.godebug = none := by kernel_rfl
theorem gPow : Tryz.prog.globalNamed "internal/strconv.uint64pow10" = some 0 := by kernel_rfl
theorem gPowType : (Tryz.prog.globals[0]?).map (·.type) = some 149 := by kernel_rfl
theorem cellsPow : Tryz.prog.cellsOf 149 = 20 := by kernel_rfl
theorem cellsU64 : Tryz.prog.cellsOf 140 = 1 := by kernel_rfl
theorem powData : (Rows.laid_internal_strconv_uint64pow10 : DataW Unit) = Lib.tabData .u64 Lib.pow10Tab := by rfl
theorem gES : Tryz.prog.globalNamed "strconv.ErrSyntax" = some 2 := by kernel_rfl
theorem gESType : (Tryz.prog.globals[2]?).map (·.type) = some 136 := by kernel_rfl
theorem starES : "*" ++ "errors.errorString" = "*errors.errorString" := by decide
theorem rowES (u : TypeId) (h : Tryz.prog.typeName? 3 u = some "*errors.errorString") : u = 172 :=
 typeName_ptr_named (nm := "errors.errorString") (by rw [starES]; kernel_rfl) (by kernel_rfl) (by decide) u (by rw [starES]; exact h)
theorem tab_of_laid {W : World} (h : laidMetH Tryz.prog laidL W) : Tab W := by
 rw [MakeChecks.laidMetH_plain _ _ _ (by kernel_rfl)] at h; obtain ⟨ps, ⟨g0, t0, cs0, f0, p0, q0, hg0, ht0, hv0, hd0, ⟨g1, t1, cs1, f1, p1, q1, hg1, ht1, hv1, hd1, ⟨g2, t2, cs2, f2, p2, q2, hg2, ht2, hv2, hd2, _, _⟩, _⟩, _⟩, _, _⟩ := h; obtain rfl := Option.some.inj (gPow.symm.trans hg2); obtain rfl := Option.some.inj (gPowType.symm.trans ht2); rw [powData] at hd2
 unfold Tab Lib.TabIs
 rw [hv2, ← Lib.cells_of_tab Tryz.underlying149 Tryz.underlying140 cellsU64 cellsPow hd2]
theorem errv_of_laid {W : World} (h : laidMetH Tryz.prog laidL W) : ErrV W := by
 rw [MakeChecks.laidMetH_plain _ _ _ (by kernel_rfl)] at h; obtain ⟨a, s, hv, -⟩ := laid_sentinel h.tail.tail.tail.tail gES gESType Tryz.underlying136 rowES Tryz.underlying172 Tryz.underlying174 rfl rfl Tryz.underlying9 (by kernel_rfl) (by kernel_rfl); exact ⟨_, _, hv⟩
def layCells : DataW Unit → Array Value
 | .agg xs => (xs.map fun x => match x with | .lit (.int k n) => Value.int k n | _ => undef).toArray
 | _ => #[]
def layAt (h : Array Obj) (g : Nat) (d : DataW Unit) : Array Obj := h.modify g fun
 | .cells _ t frozen => .cells (layCells d) t frozen
 | o => o
def layPtr (h : Array Obj) (g b : Nat) : Array Obj := h.modify g fun
 | .cells _ t frozen => .cells #[.iface 172 (.pointer (some ⟨b, 0, none⟩))] t frozen
 | o => o
noncomputable def low : Nat := (World.holding Tryz.prog default ⟨#[], #[], []⟩).heap.size
abbrev rangeS : ByteArray := ⟨#[118, 97, 108, 117, 101, 32, 111, 117, 116, 32, 111, 102, 32, 114, 97, 110, 103, 101]⟩
abbrev syntaxS : ByteArray := ⟨#[105, 110, 118, 97, 108, 105, 100, 32, 115, 121, 110, 116, 97, 120]⟩
noncomputable def laidWorld (os : Os) : World :=
 let w0 := World.holding Tryz.prog os ⟨#[.cells #[.string rangeS] 174, .cells #[.string syntaxS] 174], #[], []⟩
 { w0 with heap := layPtr (layPtr (layAt (layAt (layAt w0.heap 4 Rows.laid_math_bits_deBruijn32tab) 5 Rows.laid_math_bits_deBruijn64tab) 0 Rows.laid_internal_strconv_uint64pow10) 3 low) 2 (low + 1) }
