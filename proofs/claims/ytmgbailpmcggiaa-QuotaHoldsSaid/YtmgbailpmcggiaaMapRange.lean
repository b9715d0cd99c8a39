/- A range over a map keyed by strings. -/
import Derived.Test.YtmgbailpmcggiaaMaps
import Derived.Maps.RangeWalk
namespace Go.Proofs.Ytmgbailpmcggiaa
open Go.RowKit

theorem SM.get_of_at {m : SM} {s : List UInt8} {c : Value} (h : ∀ zd : DataW Value, m.dat.atKey (.string s) zd = .held c) : m.get s = some c := by
  have h1 := h (.held (.int .i64 0))
  have h2 := h (.held (.int .i64 1))
  rw [SM.dat_at] at h1 h2
  cases hg : m.get s with
  | none =>
    rw [hg] at h1 h2
    simp only [Option.getD_none, DataW.held.injEq] at h1 h2
    rw [← h1] at h2
    cases h2
  | some v =>
    rw [hg] at h1
    simp only [Option.getD_some, DataW.held.injEq] at h1
    rw [h1]

/-- the range is under way: what is left of it -/
def SRange (P : Program) (k : TypeId) (w : World) (b r : Nat) (m : SM) (left : Lit → Bool) (cnt : Nat) : Prop := w.ranges P k anyElem b r m.length m.dat left cnt
theorem SRange.map {P : Program} {k : TypeId} {w : World} {b r : Nat} {m : SM} {left : Lit → Bool} {cnt : Nat} (h : SRange P k w b r m left cnt) : SMap P k w b m := World.ranges.owns h
theorem SRange.below {P : Program} {k : TypeId} {w w' : World} {b r : Nat} {m : SM} {left : Lit → Bool} {cnt : Nat} (h : SRange P k w b r m left cnt) (hb : Below w.heap.size w w') : SRange P k w' b r m left cnt := by
  obtain ⟨es, clock, since, seen, c0, h1, h2, h3, h4, h5, h6⟩ := h
  refine ⟨es, clock, since, seen, c0, ?_, h2, h3, h4, ?_, h6⟩
  · rw [hb.block b (Array.getElem?_eq_some_iff.1 h1).1]; exact h1
  · rw [hb.block r (Array.getElem?_eq_some_iff.1 h5).1]; exact h5
theorem SRange.set {P : Program} {k : TypeId} {w : World} {b r : Nat} {m : SM} {left : Lit → Bool} {cnt : Nat} (h : SRange P k w b r m left cnt) {a : Addr} (h1 : a.block ≠ b) (h2 : a.block ≠ r) (u : Value) : SRange P k (w.setCell a u) b r m left cnt := by
  obtain ⟨es, clock, since, seen, c0, k1, k2, k3, k4, k5, k6⟩ := h
  refine ⟨es, clock, since, seen, c0, ?_, k2, k3, k4, ?_, k6⟩
  · rw [Below.heap_setCell _ _ _ _ (Ne.symm h1)]; exact k1
  · rw [Below.heap_setCell _ _ _ _ (Ne.symm h2)]; exact k5
theorem SRange.left {P : Program} {k : TypeId} {w : World} {b r : Nat} {m : SM} {left : Lit → Bool} {cnt : Nat} (h : SRange P k w b r m left cnt) : w.rangeLeft b r = cnt := World.ranges.left_eq h
theorem SRange.lt {P : Program} {k : TypeId} {w : World} {b r : Nat} {m : SM} {left : Lit → Bool} {cnt : Nat} (h : SRange P k w b r m left cnt) : b < w.heap.size ∧ r < w.heap.size := by
  obtain ⟨es, clock, since, seen, c0, k1, k2, k3, k4, k5, k6⟩ := h
  exact ⟨(Array.getElem?_eq_some_iff.1 k1).1, (Array.getElem?_eq_some_iff.1 k5).1⟩

section
variable {P : Program} (w : World) {ops : Array Oper} {rest : List Oper} {o : Oper} {a : Act} {Q : Exit → Act → World → Prop}

theorem wpList_srange (hg : o.guard = none) (x : Operand) (t : TypeId) (hop : o.op = Op.range t x) (k e : TypeId) (hk : P.underlying k = some .string) (ht : P.underlying t = some (.map k e)) (b : Nat) (m : SM)
    (hm : a.eval x = .map (some b)) (hown : SMap P k w b m)
    (hK : ∀ w', SRange P k w' b w.heap.size m (fun kl => Maps.has m.dat kl) m.length → Below w.heap.size w w' → w'.heap.size = w.heap.size + 1 → wpList P ops Q rest (a.put o.dst (.pointer (some ⟨w.heap.size, 0, none⟩))) w') :
    wpList P ops Q (o :: rest) a w :=
  Go.wpList_range_own w hg x t hop k e (Maps.string_keyed hk) ht anyElem b m.length m.dat hm hown (fun w' h1 h2 h3 => by
    have : Maps.size m.dat = m.length := by simp [SM.dat, Maps.size]
    rw [this] at h1
    exact hK w' h1 ⟨h2.os, h2.tape, h2.output, h2.size, fun i hi => h2.block i hi (by simp)⟩ h3)

theorem keyOf_str_inv {k : TypeId} (hk : P.underlying k = some .string) {key : Value} {kl : Lit} (h : keyOf P k key = some kl) : ∃ x : ByteArray, key = .string x ∧ kl = .string x.data.toList := by
  cases key <;> simp [keyOf, hk, mapKey] at h
  rename_i s
  exact ⟨s, rfl, h.2.symm⟩

theorem wpList_snext (hg : o.guard = none) (it : Operand) (hop : o.op = Op.next it false) (k : TypeId) (hk : P.underlying k = some .string) (b r : Nat) (m : SM) (left : Lit → Bool) (cnt : Nat)
    (hit : a.eval it = .pointer (some ⟨r, 0, none⟩)) (h : SRange P k w b r m left cnt)
    (hDone : (∀ s, left (.string s) = false) → wpList P ops Q rest (a.put o.dst (.tuple #[.bool false])) w)
    (hMore : ∀ (x : ByteArray) (c : Value) (w' : World) (cnt' : Nat), left (.string x.data.toList) = true → m.get x.data.toList = some c → SRange P k w' b r m (fun z => left z && !z.sameKey (.string x.data.toList)) cnt' → cnt' < cnt →
      w.grownBy w' (some r) → w'.heap.size = w.heap.size → (Instr.entry (.pointer (some ⟨r, 0, none⟩))).run P w' = .ok (.tuple #[.string x, c]) w' → wpList P ops Q rest (a.put o.dst (.tuple #[.bool true, .string x, c])) w') :
    wpList P ops Q (o :: rest) a w :=
  Go.wpList_next_ranges w hg it hop k (Maps.string_keyed hk) anyElem Value.string (fun v : Value => v) (fun key kl hkey => by obtain ⟨x, rfl, -⟩ := keyOf_str_inv hk hkey; exact ⟨x, rfl⟩) (fun v y _ => ⟨v, rfl⟩) b r m.length m.dat left cnt hit h
    (fun _ hl => hDone fun s => hl _)
    (fun x c kl y w' cnt' hkey hlk hv hat hrg hlt hgr hsz hen => by
      obtain ⟨x', ex, rfl⟩ := keyOf_str_inv hk hkey
      cases ex
      simp only [anyElem, Option.some.injEq] at hv
      subst hv
      exact hMore x c w' cnt' hlk (SM.get_of_at hat) hrg hlt hgr hsz hen)
end
end Go.Proofs.Ytmgbailpmcggiaa
