/- MapRange, MapT. -/
import Derived.Maps.RangeWalk
import Derived.Test.YtdemkfhkibmbnaaGreatDoorM29
import Derived.DeepKeys4
namespace Go.Proofs.YtdemkfhkibmbnaaGreatDoor
open Go.RowKit
section
variable {P : Program} (w : World) {ops : Array Oper} {rest : List Oper} {o : Oper} {a : Act} {Q : Exit → Act → World → Prop}
end
section
variable {P : Program} {k e t : TypeId} {w : World} {b : Nat} {m : SM}
theorem SMap.tlook (h : SMap P k w b m) (K : Maps.Keyed P k) (ht : P.underlying t = some (.map k e)) {z : Value} (hz : (zeroValue e).run P w = .ok z w) {key : Value} {s : List UInt8} (hk : keyOf P k key = some (.string s)) :
  (Instr.lookup t (.map (some b)) key false).run P w = .ok ((m.get s).getD z) w := by
 obtain ⟨v, ps, h1, h2⟩ := World.ownsMap.lookup h K ht hz (zd := .held z) (zp := []) rfl hk; rw [SM.dat_at] at h2; rw [h1, anyElem_inv h2]
end
section
variable {P : Program} (w : World) {ops : Array Oper} {rest : List Oper} {o : Oper} {a : Act} {Q : Exit → Act → World → Prop}
theorem wpList_tput (hg : o.guard = none) (x1 x2 x3 : Operand) (t : TypeId) (hop : o.op = Op.mapUpdate t x1 x2 x3)
  (k e : TypeId) (K : Maps.Keyed P k) (ht : P.underlying t = some (.map k e)) (b : Nat) (m : SM)
  (hm : a.eval x1 = .map (some b)) (hown : SMap P k w b m) (hn : m.length < maxLen) (key val : Value) (s : List UInt8) (hx : a.eval x2 = key) (hv : a.eval x3 = val) (hk : keyOf P k key = some (.string s))
  (hK : ∀ w', SMap P k w' b (m.put s val) → w.grownBy w' (some b) → wpList P ops Q rest (a.put o.dst undef) w') :
  wpList P ops Q (o :: rest) a w :=
 Go.wpList_mapUpdate_in w hg x1 x2 x3 t hop k e K ht anyElem b m.length m.dat hm hown hn _ _ _ hx hv hk (.held val) [] rfl (fun w' h1 h2 => by
  rw [SM.dat_put] at h1
  exact hK w' (SMap.of h1) h2.grown)
end
