/- Maps. -/
import Derived.Test.YtdemkfhkibmbnaaGreatDoorM01
import Derived.Maps.OwnSet
import Derived.Maps.OwnOps
namespace Go.Proofs.YtdemkfhkibmbnaaGreatDoor
open Go.RowKit Go.WideShapes
abbrev SM := List (List UInt8 × Value)
namespace SM
def ent (p : List UInt8 × Value) : Lit × DataW Value := (.string p.1, .held p.2)
def dat (m : SM) : DataW Value := .map (m.map ent)
def get (m : SM) (s : List UInt8) : Option Value := (m.find? (fun p => p.1 == s)).map (·.2)
def hasK (m : SM) (s : List UInt8) : Bool := m.any (fun p => p.1 == s)
def del (m : SM) (s : List UInt8) : SM := m.filter (fun p => !(p.1 == s))
def ins (s : List UInt8) (v : Value) : SM → SM
 | [] => [(s, v)]
 | y :: r => if bytesBefore s y.1 then (s, v) :: y :: r else y :: ins s v r
def put (m : SM) (s : List UInt8) (v : Value) : SM := ins s v (m.del s)
theorem same_str (a b : List UInt8) : (Lit.string a).sameKey (.string b) = (a == b) := rfl
theorem dat_has (m : SM) (s : List UInt8) : Maps.has m.dat (.string s) = m.hasK s := by
 unfold dat hasK
 rw [Maps.has_eq, List.any_map]
 rfl
theorem dat_at (m : SM) (s : List UInt8) (z : Value) : m.dat.atKey (.string s) (.held z) = .held ((m.get s).getD z) := by
 unfold dat get DataW.atKey
 simp only [List.find?_map]
 have : ((fun p : Lit × DataW Value => p.1.sameKey (.string s)) ∘ ent) = fun p => p.1 == s := by funext p; rfl
 rw [this]; cases m.find? (fun p => p.1 == s) <;> rfl
theorem dat_del (m : SM) (s : List UInt8) : m.dat.del (.string s) = (m.del s).dat := by
 unfold dat del DataW.del
 simp only [List.filter_map]
 rfl
theorem ent_ins (s : List UInt8) (v : Value) : ∀ m : SM, DataW.insert (.string s, .held v) (m.map ent) = (ins s v m).map ent
 | [] => rfl
 | y :: r => by
  simp only [List.map_cons, DataW.insert, ins]; have : (Lit.string s).before (ent y).1 = bytesBefore s y.1 := rfl; rw [this]; cases bytesBefore s y.1
  ·simp [ent_ins s v r]
  ·rfl
theorem dat_put (m : SM) (s : List UInt8) (v : Value) : m.dat.put (.string s) (.held v) = (m.put s v).dat := by
 unfold dat put DataW.put
 simp only [List.filter_map]; rw [← ent_ins]
 rfl
theorem length_ins (s : List UInt8) (v : Value) : ∀ m : SM, (ins s v m).length = m.length + 1
 | [] => rfl
 | y :: r => by
  simp only [ins]
  split
  ·simp
  ·simp [length_ins s v r]
theorem length_del (m : SM) (s : List UInt8) : (m.del s).length ≤ m.length := List.length_filter_le _ _
theorem length_put (m : SM) (s : List UInt8) (v : Value) : (m.put s v).length ≤ m.length + 1 := by
 unfold put
 rw [length_ins]; have := length_del m s
 omega
end SM
def anyElem (v : Value) : Option (DataW Value × List MemPlace) := some (.held v, [])
def SMap (P : Program) (k : TypeId) (w : World) (b : Nat) (m : SM) : Prop := w.ownsMap P k anyElem b m.length m.dat
section
variable {P : Program} {k e t : TypeId} {w : World} {b : Nat} {m : SM}
theorem SMap.of {n : Nat} (h : w.ownsMap P k anyElem b n m.dat) : SMap P k w b m := by
 obtain ⟨es, clock, hb, F, hs, hd⟩ := h; refine ⟨es, clock, hb, F, ?_, hd⟩; have : Maps.size m.dat = m.length := by simp [SM.dat, Maps.size]
 rw [hd] at this
 simp [Maps.size, length_sorted] at this
 omega
theorem SMap.below {w' : World} {n : Nat} (h : SMap P k w b m) (hb : Below n w w') (hn : b < n) : SMap P k w' b m := by
 obtain ⟨es, clock, h1, h2⟩ := h; refine ⟨es, clock, ?_, h2⟩; rw [hb.block b hn]; exact h1
theorem SMap.lt (h : SMap P k w b m) : b < w.heap.size := World.ownsMap.lt h
theorem SMap.kept {w' : World} (h : SMap P k w b m) (hb : Below w.heap.size w w') : SMap P k w' b m := h.below hb h.lt
theorem SMap.grown {w' : World} {row : Option Nat} (h : SMap P k w b m) (hg : w.grownBy w' row) (hne : some b ≠ row) : SMap P k w' b m := World.ownsMap.kept h hg hne
theorem smap_made (w : World) (P : Program) (k : TypeId) : SMap P k (w.alloc (.map #[] 0)) w.heap.size [] := World.ownsMap_made w P k anyElem
theorem keyOf_str (hk : P.underlying k = some .string) {s : ByteArray} (hs : s.size ≤ maxLen) : keyOf P k (.string s) = some (.string s.data.toList) := by
 simp [keyOf, hk, mapKey, hs]
theorem SMap.store {t e : TypeId} (h : SMap P k w b m) (hk : P.underlying k = some .string) (ht : P.underlying t = some (.map k e)) (hn : m.length < maxLen) {s : ByteArray} (hs : s.size ≤ maxLen) (val : Value) :
  ∃ w', (Instr.mapUpdate t (.map (some b)) (.string s) val).run P w = .ok () w' ∧ SMap P k w' b (m.put s.data.toList val) ∧ w.grownBy w' (some b) := by
 obtain ⟨w', h1, h2, h3⟩ := World.ownsMap.store h (Maps.string_keyed hk) ht hn (keyOf_str hk hs) (d := .held val) (ps := []) (val := val) rfl; rw [SM.dat_put] at h2; exact ⟨w', h1, SMap.of h2, h3.grown⟩
theorem anyElem_inv {v u : Value} {ps : List MemPlace} (h : anyElem v = some (.held u, ps)) : v = u := by
 simp [anyElem] at h
 exact h.1
end
section
variable {P : Program} (w : World) {ops : Array Oper} {rest : List Oper} {o : Oper} {a : Act} {Q : Exit → Act → World → Prop}
theorem wpList_slook_ok (hg : o.guard = none) (x1 x2 : Operand) (t : TypeId) (hop : o.op = Op.lookup t x1 x2 true)
  (k e : TypeId) (hk : P.underlying k = some .string) (ht : P.underlying t = some (.map k e)) {z : Value} (hz : (zeroValue e).run P w = .ok z w) (b : Nat) (m : SM)
  (hm : a.eval x1 = .map (some b)) (hown : SMap P k w b m) (s : ByteArray) (hx : a.eval x2 = .string s) (hs : s.size ≤ maxLen)
  (hK : wpList P ops Q rest (a.put o.dst (.tuple #[(m.get s.data.toList).getD z, .bool (m.hasK s.data.toList)])) w) :
  wpList P ops Q (o :: rest) a w :=
 Go.wpList_lookup_own_ok w hg x1 x2 t hop k e (Maps.string_keyed hk) ht anyElem hz (.held z) [] rfl b m.length m.dat hm hown _ _ hx (keyOf_str hk hs) (fun v ps hv => by
  rw [SM.dat_at] at hv; rw [anyElem_inv hv, SM.dat_has]
  exact hK)
theorem wpList_sput (hg : o.guard = none) (x1 x2 x3 : Operand) (t : TypeId) (hop : o.op = Op.mapUpdate t x1 x2 x3)
  (k e : TypeId) (hk : P.underlying k = some .string) (ht : P.underlying t = some (.map k e)) (b : Nat) (m : SM)
  (hm : a.eval x1 = .map (some b)) (hown : SMap P k w b m) (hn : m.length < maxLen) (s : ByteArray) (val : Value) (hx : a.eval x2 = .string s) (hv : a.eval x3 = val) (hs : s.size ≤ maxLen)
  (hK : ∀ w', SMap P k w' b (m.put s.data.toList val) → w.grownBy w' (some b) → wpList P ops Q rest (a.put o.dst undef) w') :
  wpList P ops Q (o :: rest) a w :=
 Go.wpList_mapUpdate_in w hg x1 x2 x3 t hop k e (Maps.string_keyed hk) ht anyElem b m.length m.dat hm hown hn _ _ _ hx hv (keyOf_str hk hs) (.held val) [] rfl (fun w' h1 h2 => by
  rw [SM.dat_put] at h1
  exact hK w' (SMap.of h1) h2.grown)
theorem wpList_sdel (hg : o.guard = none) (x1 x2 : Operand) (t k : TypeId) (hop : o.op = Op.call { callee := Callee.builtin Builtin.delete, args := #[x1, x2], argTypes := #[t, k] })
  (e : TypeId) (hk : P.underlying k = some .string) (ht : P.underlying t = some (.map k e)) (b : Nat) (m : SM)
  (hm : a.eval x1 = .map (some b)) (hown : SMap P k w b m) (s : ByteArray) (hx : a.eval x2 = .string s) (hs : s.size ≤ maxLen)
  (hK : ∀ w', SMap P k w' b (m.del s.data.toList) → w.grownBy w' (some b) → wpList P ops Q rest (a.put o.dst (.tuple #[])) w') :
  wpList P ops Q (o :: rest) a w :=
 Go.wpList_delete_own w hg x1 x2 t k hop e (Maps.string_keyed hk) ht anyElem b m.length m.dat hm hown _ _ hx (keyOf_str hk hs) (fun w' h1 h2 => by
  rw [SM.dat_del] at h1
  exact hK w' (SMap.of h1) h2.grown)
theorem wpList_slen (hg : o.guard = none) (x1 : Operand) (t : TypeId) (hop : o.op = Op.call { callee := Callee.builtin Builtin.len, args := #[x1], argTypes := #[t] })
  (k e : TypeId) (ht : P.underlying t = some (.map k e)) (b : Nat) (m : SM) (hm : a.eval x1 = .map (some b)) (hown : SMap P k w b m)
  (hK : wpList P ops Q rest (a.put o.dst (.int .i64 (m.length : Int))) w) :
  wpList P ops Q (o :: rest) a w :=
 Go.wpList_len_own w hg x1 t hop k e ht anyElem b m.length m.dat hm hown (by
  have : Maps.size m.dat = m.length := by simp [SM.dat, Maps.size]
  rw [this]
  exact hK)
end
