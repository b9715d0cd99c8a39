/- Maps keyed by uint64: look without the truth, range. -/
import Derived.Test.YtndjgbknhfficaaNMaps
import Derived.Maps.RangeWalk
namespace Go.Proofs.Ytndjgbknhfficaa
open Go.RowKit

theorem NM.get_of_at {m : NM} {s : Int} {c : Value} (h : ∀ zd : DataW Value, m.dat.atKey (.int .u64 s) zd = .held c) : m.get s = some c := by
  have h1 := h (.held (.int .i64 0))
  have h2 := h (.held (.int .i64 1))
  rw [NM.dat_at] at h1 h2
  cases hg : m.get s with
  | none =>
    rw [hg] at h1 h2
    simp only [Option.getD_none, DataW.held.injEq] at h1 h2
    rw [← h1] at h2
    cases h2
  | some v =>
    rw [hg] at h1
    simp only [Option.getD_some, DataW.held.injEq] at h1
    rw [h1]

/-- the range is under way: what is left of it -/
def NRange (P : Program) (k : TypeId) (w : World) (b r : Nat) (m : NM) (left : Lit → Bool) (cnt : Nat) : Prop := w.ranges P k anyEl b r m.length m.dat left cnt
theorem NRange.map {P : Program} {k : TypeId} {w : World} {b r : Nat} {m : NM} {left : Lit → Bool} {cnt : Nat} (h : NRange P k w b r m left cnt) : NMap P k w b m := World.ranges.owns h
theorem NRange.below {P : Program} {k : TypeId} {w w' : World} {b r : Nat} {m : NM} {left : Lit → Bool} {cnt : Nat} (h : NRange P k w b r m left cnt) (hb : Below w.heap.size w w') : NRange P k w' b r m left cnt := by
  obtain ⟨es, clock, since, seen, c0, h1, h2, h3, h4, h5, h6⟩ := h
  refine ⟨es, clock, since, seen, c0, ?_, h2, h3, h4, ?_, h6⟩
  · rw [hb.block b (Array.getElem?_eq_some_iff.1 h1).1]; exact h1
  · rw [hb.block r (Array.getElem?_eq_some_iff.1 h5).1]; exact h5
theorem NRange.set {P : Program} {k : TypeId} {w : World} {b r : Nat} {m : NM} {left : Lit → Bool} {cnt : Nat} (h : NRange P k w b r m left cnt) {a : Addr} (h1 : a.block ≠ b) (h2 : a.block ≠ r) (u : Value) : NRange P k (w.setCell a u) b r m left cnt := by
  obtain ⟨es, clock, since, seen, c0, k1, k2, k3, k4, k5, k6⟩ := h
  refine ⟨es, clock, since, seen, c0, ?_, k2, k3, k4, ?_, k6⟩
  · rw [Below.heap_setCell _ _ _ _ (Ne.symm h1)]; exact k1
  · rw [Below.heap_setCell _ _ _ _ (Ne.symm h2)]; exact k5
theorem NRange.grown {P : Program} {k : TypeId} {w w' : World} {b r : Nat} {m : NM} {left : Lit → Bool} {cnt : Nat} {row : Option Nat} (h : NRange P k w b r m left cnt) (hg : w.grownBy w' row) (hb : some b ≠ row) (hr : some r ≠ row) : NRange P k w' b r m left cnt := World.ranges.kept h hg hb hr
theorem NRange.left {P : Program} {k : TypeId} {w : World} {b r : Nat} {m : NM} {left : Lit → Bool} {cnt : Nat} (h : NRange P k w b r m left cnt) : w.rangeLeft b r = cnt := World.ranges.left_eq h
theorem NRange.lt {P : Program} {k : TypeId} {w : World} {b r : Nat} {m : NM} {left : Lit → Bool} {cnt : Nat} (h : NRange P k w b r m left cnt) : b < w.heap.size ∧ r < w.heap.size := by
  obtain ⟨es, clock, since, seen, c0, k1, k2, k3, k4, k5, k6⟩ := h
  exact ⟨(Array.getElem?_eq_some_iff.1 k1).1, (Array.getElem?_eq_some_iff.1 k5).1⟩
theorem NMap.look {P : Program} {k e t : TypeId} {w : World} {b : Nat} {m : NM} (h : NMap P k w b m) (hk : P.underlying k = some (.int .u64)) (ht : P.underlying t = some (.map k e)) {z : Value} (hz : (zeroValue e).run P w = .ok z w) {s : Int} (hs : (Lit.int .u64 s).wf = true) :
    (Instr.lookup t (.map (some b)) (.int .u64 s) false).run P w = .ok ((m.get s).getD z) w := by
  obtain ⟨v, ps, h1, h2⟩ := World.ownsMap.lookup h (Maps.int_keyed hk) ht hz (zd := .held z) (zp := []) rfl (keyOf_u64 hk hs)
  rw [NM.dat_at] at h2
  rw [h1, anyEl_inv h2]

section
variable {P : Program} (w : World) {ops : Array Oper} {rest : List Oper} {o : Oper} {a : Act} {Q : Exit → Act → World → Prop}
theorem wpList_nlook (hg : o.guard = none) (x1 x2 : Operand) (t : TypeId) (hop : o.op = Op.lookup t x1 x2 false)
    (k e : TypeId) (hk : P.underlying k = some (.int .u64)) (ht : P.underlying t = some (.map k e)) {z : Value} (hz : (zeroValue e).run P w = .ok z w) (b : Nat) (m : NM)
    (hm : a.eval x1 = .map (some b)) (hown : NMap P k w b m) (s : Int) (hx : a.eval x2 = .int .u64 s) (hs : (Lit.int .u64 s).wf = true)
    (hK : wpList P ops Q rest (a.put o.dst ((m.get s).getD z)) w) :
    wpList P ops Q (o :: rest) a w := by
  refine wpList_plain hg fun K' hK' => ?_
  have hrun := hown.look hk ht hz hs
  unfold Oper.wp
  simp [execOp, hop, hm, hx, hrun, Result.andThen]
  exact hK' _ _ hK
theorem wpList_nrange (hg : o.guard = none) (x : Operand) (t : TypeId) (hop : o.op = Op.range t x) (k e : TypeId) (hk : P.underlying k = some (.int .u64)) (ht : P.underlying t = some (.map k e)) (b : Nat) (m : NM)
    (hm : a.eval x = .map (some b)) (hown : NMap P k w b m)
    (hK : ∀ w', NRange P k w' b w.heap.size m (fun kl => Maps.has m.dat kl) m.length → Below w.heap.size w w' → w'.heap.size = w.heap.size + 1 → wpList P ops Q rest (a.put o.dst (.pointer (some ⟨w.heap.size, 0, none⟩))) w') :
    wpList P ops Q (o :: rest) a w :=
  Go.wpList_range_own w hg x t hop k e (Maps.int_keyed hk) ht anyEl b m.length m.dat hm hown (fun w' h1 h2 h3 => by
    have : Maps.size m.dat = m.length := by simp [NM.dat, Maps.size]
    rw [this] at h1
    exact hK w' h1 ⟨h2.os, h2.tape, h2.output, h2.size, fun i hi => h2.block i hi (by simp)⟩ h3)
theorem keyOf_u64_inv {k : TypeId} (hk : P.underlying k = some (.int .u64)) {key : Value} {kl : Lit} (h : keyOf P k key = some kl) : ∃ x : Int, key = .int .u64 x ∧ kl = .int .u64 x := by
  cases key <;> simp [keyOf, hk, mapKey] at h
  rename_i q s
  obtain ⟨⟨rfl, h1⟩, h2⟩ := h
  exact ⟨s, rfl, h2.symm⟩
theorem wpList_nnext (hg : o.guard = none) (it : Operand) (hop : o.op = Op.next it false) (k : TypeId) (hk : P.underlying k = some (.int .u64)) (b r : Nat) (m : NM) (left : Lit → Bool) (cnt : Nat)
    (hit : a.eval it = .pointer (some ⟨r, 0, none⟩)) (h : NRange P k w b r m left cnt)
    (hDone : (∀ s, left (.int .u64 s) = false) → wpList P ops Q rest (a.put o.dst (.tuple #[.bool false])) w)
    (hMore : ∀ (x : Int) (c : Value) (w' : World) (cnt' : Nat), left (.int .u64 x) = true → m.get x = some c → NRange P k w' b r m (fun z => left z && !z.sameKey (.int .u64 x)) cnt' → cnt' < cnt →
      w.grownBy w' (some r) → w'.heap.size = w.heap.size → (Instr.entry (.pointer (some ⟨r, 0, none⟩))).run P w' = .ok (.tuple #[.int .u64 x, c]) w' → wpList P ops Q rest (a.put o.dst (.tuple #[.bool true, .int .u64 x, c])) w') :
    wpList P ops Q (o :: rest) a w :=
  Go.wpList_next_ranges w hg it hop k (Maps.int_keyed hk) anyEl (Value.int .u64) (fun v : Value => v) (fun key kl hkey => by obtain ⟨x, rfl, -⟩ := keyOf_u64_inv hk hkey; exact ⟨x, rfl⟩) (fun v y _ => ⟨v, rfl⟩) b r m.length m.dat left cnt hit h
    (fun _ hl => hDone fun s => hl _)
    (fun x c kl y w' cnt' hkey hlk hv hat hrg hlt hgr hsz hen => by
      obtain ⟨x', ex, rfl⟩ := keyOf_u64_inv hk hkey
      cases ex
      simp only [anyEl, Option.some.injEq] at hv
      subst hv
      exact hMore x c w' cnt' hlk (NM.get_of_at hat) hrg hlt hgr hsz hen)
end
end Go.Proofs.Ytndjgbknhfficaa
