/- , laid together: NMaps, NMapR. -/
import Derived.Test.YtndjgbknhfficaaLib2
import Derived.Maps.OwnSet
import Derived.Maps.OwnOps
import Derived.Maps.RangeWalk
namespace Go.Proofs.Ytndjgbknhfficaa
open Go.RowKit Go.WideShapes

abbrev NM := List (Int × Value)
namespace NM
def ent (p : Int × Value) : Lit × DataW Value := (.int .u64 p.1, .held p.2)
def dat (m : NM) : DataW Value := .map (m.map ent)
def get (m : NM) (s : Int) : Option Value := (m.find? (fun p => p.1 == s)).map (·.2)
def hasK (m : NM) (s : Int) : Bool := m.any (fun p => p.1 == s)
def del (m : NM) (s : Int) : NM := m.filter (fun p => !(p.1 == s))
def ins (s : Int) (v : Value) : NM → NM
  | [] => [(s, v)]
  | y :: r => if decide (s < y.1) then (s, v) :: y :: r else y :: ins s v r
def put (m : NM) (s : Int) (v : Value) : NM := ins s v (m.del s)

theorem same_u64 (a b : Int) : (Lit.int .u64 a).sameKey (.int .u64 b) = (a == b) := by by_cases h : a = b <;> simp [Lit.sameKey, h]
theorem dat_has (m : NM) (s : Int) : Maps.has m.dat (.int .u64 s) = m.hasK s := by
  unfold dat hasK
  rw [Maps.has_eq, List.any_map]
  congr 1
  funext p
  exact same_u64 _ _
theorem dat_at (m : NM) (s : Int) (z : Value) : m.dat.atKey (.int .u64 s) (.held z) = .held ((m.get s).getD z) := by
  unfold dat get DataW.atKey
  simp only [List.find?_map]
  have : ((fun p : Lit × DataW Value => p.1.sameKey (.int .u64 s)) ∘ ent) = fun p => p.1 == s := by funext p; exact same_u64 _ _
  rw [this]
  cases m.find? (fun p => p.1 == s) <;> rfl
theorem dat_del (m : NM) (s : Int) : m.dat.del (.int .u64 s) = (m.del s).dat := by
  unfold dat del DataW.del
  simp only [List.filter_map]
  have : ((fun p : Lit × DataW Value => !p.1.sameKey (.int .u64 s)) ∘ ent) = fun p => !(p.1 == s) := by funext p; exact congrArg (!·) (same_u64 _ _)
  rw [this]
theorem ent_ins (s : Int) (v : Value) : ∀ m : NM, DataW.insert (.int .u64 s, .held v) (m.map ent) = (ins s v m).map ent
  | [] => rfl
  | y :: r => by
    simp only [List.map_cons, DataW.insert, ins]
    have : (Lit.int .u64 s).before (ent y).1 = decide (s < y.1) := rfl
    rw [this]
    cases decide (s < y.1)
    · simp [ent_ins s v r]
    · rfl
theorem dat_put (m : NM) (s : Int) (v : Value) : m.dat.put (.int .u64 s) (.held v) = (m.put s v).dat := by
  unfold dat put DataW.put del
  simp only [List.filter_map]
  have : ((fun p : Lit × DataW Value => !p.1.sameKey (.int .u64 s)) ∘ ent) = fun p => !(p.1 == s) := by funext p; exact congrArg (!·) (same_u64 _ _)
  rw [this, ← ent_ins]
theorem length_ins (s : Int) (v : Value) : ∀ m : NM, (ins s v m).length = m.length + 1
  | [] => rfl
  | y :: r => by
    simp only [ins]
    split
    · simp
    · simp [length_ins s v r]
theorem length_del (m : NM) (s : Int) : (m.del s).length ≤ m.length := List.length_filter_le _ _
theorem length_put (m : NM) (s : Int) (v : Value) : (m.put s v).length ≤ m.length + 1 := by
  unfold put
  rw [length_ins]
  have := length_del m s
  omega
end NM

def anyEl (v : Value) : Option (DataW Value × List MemPlace) := some (.held v, [])

/-- block b of w is a map keyed by strings that holds these pairs -/
def NMap (P : Program) (k : TypeId) (w : World) (b : Nat) (m : NM) : Prop := w.ownsMap P k anyEl b m.length m.dat

section
variable {P : Program} {k e t : TypeId} {w : World} {b : Nat} {m : NM}

theorem NMap.of {n : Nat} (h : w.ownsMap P k anyEl b n m.dat) : NMap P k w b m := by
  obtain ⟨es, clock, hb, F, hs, hd⟩ := h
  refine ⟨es, clock, hb, F, ?_, hd⟩
  have : Maps.size m.dat = m.length := by simp [NM.dat, Maps.size]
  rw [hd] at this
  simp [Maps.size, length_sorted] at this
  omega
theorem NMap.below {w' : World} {n : Nat} (h : NMap P k w b m) (hb : Below n w w') (hn : b < n) : NMap P k w' b m := by
  obtain ⟨es, clock, h1, h2⟩ := h
  refine ⟨es, clock, ?_, h2⟩
  rw [hb.block b hn]
  exact h1
theorem NMap.lt (h : NMap P k w b m) : b < w.heap.size := World.ownsMap.lt h
theorem NMap.kept {w' : World} (h : NMap P k w b m) (hb : Below w.heap.size w w') : NMap P k w' b m := h.below hb h.lt
theorem NMap.grown {w' : World} {row : Option Nat} (h : NMap P k w b m) (hg : w.grownBy w' row) (hne : some b ≠ row) : NMap P k w' b m := World.ownsMap.kept h hg hne
theorem nmap_made (w : World) (P : Program) (k : TypeId) : NMap P k (w.alloc (.map #[] 0)) w.heap.size [] := World.ownsMap_made w P k anyEl

theorem keyOf_u64 (hk : P.underlying k = some (.int .u64)) {s : Int} (hs : (Lit.int .u64 s).wf = true) : keyOf P k (.int .u64 s) = some (.int .u64 s) := by
  simp [keyOf, hk, mapKey, hs]

/-- a store's run: for a region that draws its order -/
theorem NMap.store {t e : TypeId} (h : NMap P k w b m) (hk : P.underlying k = some (.int .u64)) (ht : P.underlying t = some (.map k e)) (hn : m.length < maxLen) {s : Int} (hs : (Lit.int .u64 s).wf = true) (val : Value) :
    ∃ w', (Instr.mapUpdate t (.map (some b)) (.int .u64 s) val).run P w = .ok () w' ∧ NMap P k w' b (m.put s val) ∧ w.grownBy w' (some b) := by
  obtain ⟨w', h1, h2, h3⟩ := World.ownsMap.store h (Maps.int_keyed hk) ht hn (keyOf_u64 hk hs) (d := .held val) (ps := []) (val := val) rfl
  rw [NM.dat_put] at h2
  exact ⟨w', h1, NMap.of h2, h3.grown⟩

theorem anyEl_inv {v u : Value} {ps : List MemPlace} (h : anyEl v = some (.held u, ps)) : v = u := by
  simp [anyEl] at h
  exact h.1
end

section
variable {P : Program} (w : World) {ops : Array Oper} {rest : List Oper} {o : Oper} {a : Act} {Q : Exit → Act → World → Prop}

theorem wpList_nlook_ok (hg : o.guard = none) (x1 x2 : Operand) (t : TypeId) (hop : o.op = Op.lookup t x1 x2 true)
    (k e : TypeId) (hk : P.underlying k = some (.int .u64)) (ht : P.underlying t = some (.map k e)) {z : Value} (hz : (zeroValue e).run P w = .ok z w) (b : Nat) (m : NM)
    (hm : a.eval x1 = .map (some b)) (hown : NMap P k w b m) (s : Int) (hx : a.eval x2 = .int .u64 s) (hs : (Lit.int .u64 s).wf = true)
    (hK : wpList P ops Q rest (a.put o.dst (.tuple #[(m.get s).getD z, .bool (m.hasK s)])) w) :
    wpList P ops Q (o :: rest) a w :=
  Go.wpList_lookup_own_ok w hg x1 x2 t hop k e (Maps.int_keyed hk) ht anyEl hz (.held z) [] rfl b m.length m.dat hm hown _ _ hx (keyOf_u64 hk hs) (fun v ps hv => by
    rw [NM.dat_at] at hv
    rw [anyEl_inv hv, NM.dat_has]
    exact hK)

theorem wpList_nput (hg : o.guard = none) (x1 x2 x3 : Operand) (t : TypeId) (hop : o.op = Op.mapUpdate t x1 x2 x3)
    (k e : TypeId) (hk : P.underlying k = some (.int .u64)) (ht : P.underlying t = some (.map k e)) (b : Nat) (m : NM)
    (hm : a.eval x1 = .map (some b)) (hown : NMap P k w b m) (hn : m.length < maxLen) (s : Int) (val : Value) (hx : a.eval x2 = .int .u64 s) (hv : a.eval x3 = val) (hs : (Lit.int .u64 s).wf = true)
    (hK : ∀ w', NMap P k w' b (m.put s val) → w.grownBy w' (some b) → wpList P ops Q rest (a.put o.dst undef) w') :
    wpList P ops Q (o :: rest) a w :=
  Go.wpList_mapUpdate_in w hg x1 x2 x3 t hop k e (Maps.int_keyed hk) ht anyEl b m.length m.dat hm hown hn _ _ _ hx hv (keyOf_u64 hk hs) (.held val) [] rfl (fun w' h1 h2 => by
    rw [NM.dat_put] at h1
    exact hK w' (NMap.of h1) h2.grown)

theorem wpList_ndel (hg : o.guard = none) (x1 x2 : Operand) (t k : TypeId) (hop : o.op = Op.call { callee := Callee.builtin Builtin.delete, args := #[x1, x2], argTypes := #[t, k] })
    (e : TypeId) (hk : P.underlying k = some (.int .u64)) (ht : P.underlying t = some (.map k e)) (b : Nat) (m : NM)
    (hm : a.eval x1 = .map (some b)) (hown : NMap P k w b m) (s : Int) (hx : a.eval x2 = .int .u64 s) (hs : (Lit.int .u64 s).wf = true)
    (hK : ∀ w', NMap P k w' b (m.del s) → w.grownBy w' (some b) → wpList P ops Q rest (a.put o.dst (.tuple #[])) w') :
    wpList P ops Q (o :: rest) a w :=
  Go.wpList_delete_own w hg x1 x2 t k hop e (Maps.int_keyed hk) ht anyEl b m.length m.dat hm hown _ _ hx (keyOf_u64 hk hs) (fun w' h1 h2 => by
    rw [NM.dat_del] at h1
    exact hK w' (NMap.of h1) h2.grown)

theorem wpList_nlen (hg : o.guard = none) (x1 : Operand) (t : TypeId) (hop : o.op = Op.call { callee := Callee.builtin Builtin.len, args := #[x1], argTypes := #[t] })
    (k e : TypeId) (ht : P.underlying t = some (.map k e)) (b : Nat) (m : NM) (hm : a.eval x1 = .map (some b)) (hown : NMap P k w b m)
    (hK : wpList P ops Q rest (a.put o.dst (.int .i64 (m.length : Int))) w) :
    wpList P ops Q (o :: rest) a w :=
  Go.wpList_len_own w hg x1 t hop k e ht anyEl b m.length m.dat hm hown (by
    have : Maps.size m.dat = m.length := by simp [NM.dat, Maps.size]
    rw [this]
    exact hK)
end
end Go.Proofs.Ytndjgbknhfficaa

namespace Go.Proofs.Ytndjgbknhfficaa
open Go.RowKit

theorem NM.get_of_at {m : NM} {s : Int} {c : Value} (h : ∀ zd : DataW Value, m.dat.atKey (.int .u64 s) zd = .held c) : m.get s = some c := by
  have h1 := h (.held (.int .i64 0))
  have h2 := h (.held (.int .i64 1))
  rw [NM.dat_at] at h1 h2
  cases hg : m.get s with
  | none =>
    rw [hg] at h1 h2
    simp only [Option.getD_none, DataW.held.injEq] at h1 h2
    rw [← h1] at h2
    cases h2
  | some v =>
    rw [hg] at h1
    simp only [Option.getD_some, DataW.held.injEq] at h1
    rw [h1]

/-- the range is under way: what is left of it -/
def NRange (P : Program) (k : TypeId) (w : World) (b r : Nat) (m : NM) (left : Lit → Bool) (cnt : Nat) : Prop := w.ranges P k anyEl b r m.length m.dat left cnt
theorem NRange.map {P : Program} {k : TypeId} {w : World} {b r : Nat} {m : NM} {left : Lit → Bool} {cnt : Nat} (h : NRange P k w b r m left cnt) : NMap P k w b m := World.ranges.owns h
theorem NRange.below {P : Program} {k : TypeId} {w w' : World} {b r : Nat} {m : NM} {left : Lit → Bool} {cnt : Nat} (h : NRange P k w b r m left cnt) (hb : Below w.heap.size w w') : NRange P k w' b r m left cnt := by
  obtain ⟨es, clock, since, seen, c0, h1, h2, h3, h4, h5, h6⟩ := h
  refine ⟨es, clock, since, seen, c0, ?_, h2, h3, h4, ?_, h6⟩
  · rw [hb.block b (Array.getElem?_eq_some_iff.1 h1).1]; exact h1
  · rw [hb.block r (Array.getElem?_eq_some_iff.1 h5).1]; exact h5
theorem NRange.set {P : Program} {k : TypeId} {w : World} {b r : Nat} {m : NM} {left : Lit → Bool} {cnt : Nat} (h : NRange P k w b r m left cnt) {a : Addr} (h1 : a.block ≠ b) (h2 : a.block ≠ r) (u : Value) : NRange P k (w.setCell a u) b r m left cnt := by
  obtain ⟨es, clock, since, seen, c0, k1, k2, k3, k4, k5, k6⟩ := h
  refine ⟨es, clock, since, seen, c0, ?_, k2, k3, k4, ?_, k6⟩
  · rw [Below.heap_setCell _ _ _ _ (Ne.symm h1)]; exact k1
  · rw [Below.heap_setCell _ _ _ _ (Ne.symm h2)]; exact k5
theorem NRange.grown {P : Program} {k : TypeId} {w w' : World} {b r : Nat} {m : NM} {left : Lit → Bool} {cnt : Nat} {row : Option Nat} (h : NRange P k w b r m left cnt) (hg : w.grownBy w' row) (hb : some b ≠ row) (hr : some r ≠ row) : NRange P k w' b r m left cnt := World.ranges.kept h hg hb hr
theorem NRange.left {P : Program} {k : TypeId} {w : World} {b r : Nat} {m : NM} {left : Lit → Bool} {cnt : Nat} (h : NRange P k w b r m left cnt) : w.rangeLeft b r = cnt := World.ranges.left_eq h
theorem NRange.lt {P : Program} {k : TypeId} {w : World} {b r : Nat} {m : NM} {left : Lit → Bool} {cnt : Nat} (h : NRange P k w b r m left cnt) : b < w.heap.size ∧ r < w.heap.size := by
  obtain ⟨es, clock, since, seen, c0, k1, k2, k3, k4, k5, k6⟩ := h
  exact ⟨(Array.getElem?_eq_some_iff.1 k1).1, (Array.getElem?_eq_some_iff.1 k5).1⟩
theorem NMap.look {P : Program} {k e t : TypeId} {w : World} {b : Nat} {m : NM} (h : NMap P k w b m) (hk : P.underlying k = some (.int .u64)) (ht : P.underlying t = some (.map k e)) {z : Value} (hz : (zeroValue e).run P w = .ok z w) {s : Int} (hs : (Lit.int .u64 s).wf = true) :
    (Instr.lookup t (.map (some b)) (.int .u64 s) false).run P w = .ok ((m.get s).getD z) w := by
  obtain ⟨v, ps, h1, h2⟩ := World.ownsMap.lookup h (Maps.int_keyed hk) ht hz (zd := .held z) (zp := []) rfl (keyOf_u64 hk hs)
  rw [NM.dat_at] at h2
  rw [h1, anyEl_inv h2]

section
variable {P : Program} (w : World) {ops : Array Oper} {rest : List Oper} {o : Oper} {a : Act} {Q : Exit → Act → World → Prop}
theorem wpList_nlook (hg : o.guard = none) (x1 x2 : Operand) (t : TypeId) (hop : o.op = Op.lookup t x1 x2 false)
    (k e : TypeId) (hk : P.underlying k = some (.int .u64)) (ht : P.underlying t = some (.map k e)) {z : Value} (hz : (zeroValue e).run P w = .ok z w) (b : Nat) (m : NM)
    (hm : a.eval x1 = .map (some b)) (hown : NMap P k w b m) (s : Int) (hx : a.eval x2 = .int .u64 s) (hs : (Lit.int .u64 s).wf = true)
    (hK : wpList P ops Q rest (a.put o.dst ((m.get s).getD z)) w) :
    wpList P ops Q (o :: rest) a w := by
  refine wpList_plain hg fun K' hK' => ?_
  have hrun := hown.look hk ht hz hs
  unfold Oper.wp
  simp [execOp, hop, hm, hx, hrun, Result.andThen]
  exact hK' _ _ hK
theorem wpList_nrange (hg : o.guard = none) (x : Operand) (t : TypeId) (hop : o.op = Op.range t x) (k e : TypeId) (hk : P.underlying k = some (.int .u64)) (ht : P.underlying t = some (.map k e)) (b : Nat) (m : NM)
    (hm : a.eval x = .map (some b)) (hown : NMap P k w b m)
    (hK : ∀ w', NRange P k w' b w.heap.size m (fun kl => Maps.has m.dat kl) m.length → Below w.heap.size w w' → w'.heap.size = w.heap.size + 1 → wpList P ops Q rest (a.put o.dst (.pointer (some ⟨w.heap.size, 0, none⟩))) w') :
    wpList P ops Q (o :: rest) a w :=
  Go.wpList_range_own w hg x t hop k e (Maps.int_keyed hk) ht anyEl b m.length m.dat hm hown (fun w' h1 h2 h3 => by
    have : Maps.size m.dat = m.length := by simp [NM.dat, Maps.size]
    rw [this] at h1
    exact hK w' h1 ⟨h2.os, h2.tape, h2.output, h2.size, fun i hi => h2.block i hi (by simp)⟩ h3)
theorem keyOf_u64_inv {k : TypeId} (hk : P.underlying k = some (.int .u64)) {key : Value} {kl : Lit} (h : keyOf P k key = some kl) : ∃ x : Int, key = .int .u64 x ∧ kl = .int .u64 x := by
  cases key <;> simp [keyOf, hk, mapKey] at h
  rename_i q s
  obtain ⟨⟨rfl, h1⟩, h2⟩ := h
  exact ⟨s, rfl, h2.symm⟩
theorem wpList_nnext (hg : o.guard = none) (it : Operand) (hop : o.op = Op.next it false) (k : TypeId) (hk : P.underlying k = some (.int .u64)) (b r : Nat) (m : NM) (left : Lit → Bool) (cnt : Nat)
    (hit : a.eval it = .pointer (some ⟨r, 0, none⟩)) (h : NRange P k w b r m left cnt)
    (hDone : (∀ s, left (.int .u64 s) = false) → wpList P ops Q rest (a.put o.dst (.tuple #[.bool false])) w)
    (hMore : ∀ (x : Int) (c : Value) (w' : World) (cnt' : Nat), left (.int .u64 x) = true → m.get x = some c → NRange P k w' b r m (fun z => left z && !z.sameKey (.int .u64 x)) cnt' → cnt' < cnt →
      w.grownBy w' (some r) → w'.heap.size = w.heap.size → (Instr.entry (.pointer (some ⟨r, 0, none⟩))).run P w' = .ok (.tuple #[.int .u64 x, c]) w' → wpList P ops Q rest (a.put o.dst (.tuple #[.bool true, .int .u64 x, c])) w') :
    wpList P ops Q (o :: rest) a w :=
  Go.wpList_next_ranges w hg it hop k (Maps.int_keyed hk) anyEl (Value.int .u64) (fun v : Value => v) (fun key kl hkey => by obtain ⟨x, rfl, -⟩ := keyOf_u64_inv hk hkey; exact ⟨x, rfl⟩) (fun v y _ => ⟨v, rfl⟩) b r m.length m.dat left cnt hit h
    (fun _ hl => hDone fun s => hl _)
    (fun x c kl y w' cnt' hkey hlk hv hat hrg hlt hgr hsz hen => by
      obtain ⟨x', ex, rfl⟩ := keyOf_u64_inv hk hkey
      cases ex
      simp only [anyEl, Option.some.injEq] at hv
      subst hv
      exact hMore x c w' cnt' hlk (NM.get_of_at hat) hrg hlt hgr hsz hen)
end
end Go.Proofs.Ytndjgbknhfficaa
