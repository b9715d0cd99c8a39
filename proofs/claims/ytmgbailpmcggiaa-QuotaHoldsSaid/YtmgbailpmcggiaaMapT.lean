/- Maps whose keys are told as texts (a struct's, an array's): look, store, range. -/
import Derived.Test.YtmgbailpmcggiaaMaps2
import Derived.Test.YtmgbailpmcggiaaMapRange
import Derived.DeepKeys4
namespace Go.Proofs.Ytmgbailpmcggiaa
open Go.RowKit

section
variable {P : Program} {k e t : TypeId} {w : World} {b : Nat} {m : SM}
theorem SMap.tlook (h : SMap P k w b m) (K : Maps.Keyed P k) (ht : P.underlying t = some (.map k e)) {z : Value} (hz : (zeroValue e).run P w = .ok z w) {key : Value} {s : List UInt8} (hk : keyOf P k key = some (.string s)) :
    (Instr.lookup t (.map (some b)) key false).run P w = .ok ((m.get s).getD z) w := by
  obtain ⟨v, ps, h1, h2⟩ := World.ownsMap.lookup h K ht hz (zd := .held z) (zp := []) rfl hk
  rw [SM.dat_at] at h2
  rw [h1, anyElem_inv h2]
end

section
variable {P : Program} (w : World) {ops : Array Oper} {rest : List Oper} {o : Oper} {a : Act} {Q : Exit → Act → World → Prop}
theorem wpList_tlook (hg : o.guard = none) (x1 x2 : Operand) (t : TypeId) (hop : o.op = Op.lookup t x1 x2 false)
    (k e : TypeId) (K : Maps.Keyed P k) (ht : P.underlying t = some (.map k e)) {z : Value} (hz : (zeroValue e).run P w = .ok z w) (b : Nat) (m : SM)
    (hm : a.eval x1 = .map (some b)) (hown : SMap P k w b m) (key : Value) (s : List UInt8) (hx : a.eval x2 = key) (hk : keyOf P k key = some (.string s))
    (hK : wpList P ops Q rest (a.put o.dst ((m.get s).getD z)) w) :
    wpList P ops Q (o :: rest) a w := by
  refine wpList_plain hg fun K' hK' => ?_
  have hrun := hown.tlook K ht hz hk
  unfold Oper.wp
  simp [execOp, hop, hm, hx, hrun, Result.andThen]
  exact hK' _ _ hK
theorem wpList_tput (hg : o.guard = none) (x1 x2 x3 : Operand) (t : TypeId) (hop : o.op = Op.mapUpdate t x1 x2 x3)
    (k e : TypeId) (K : Maps.Keyed P k) (ht : P.underlying t = some (.map k e)) (b : Nat) (m : SM)
    (hm : a.eval x1 = .map (some b)) (hown : SMap P k w b m) (hn : m.length < maxLen) (key val : Value) (s : List UInt8) (hx : a.eval x2 = key) (hv : a.eval x3 = val) (hk : keyOf P k key = some (.string s))
    (hK : ∀ w', SMap P k w' b (m.put s val) → w.grownBy w' (some b) → wpList P ops Q rest (a.put o.dst undef) w') :
    wpList P ops Q (o :: rest) a w :=
  Go.wpList_mapUpdate_in w hg x1 x2 x3 t hop k e K ht anyElem b m.length m.dat hm hown hn _ _ _ hx hv hk (.held val) [] rfl (fun w' h1 h2 => by
    rw [SM.dat_put] at h1
    exact hK w' (SMap.of h1) h2.grown)
theorem wpList_trange (hg : o.guard = none) (x : Operand) (t : TypeId) (hop : o.op = Op.range t x) (k e : TypeId) (K : Maps.Keyed P k) (ht : P.underlying t = some (.map k e)) (b : Nat) (m : SM)
    (hm : a.eval x = .map (some b)) (hown : SMap P k w b m)
    (hK : ∀ w', SRange P k w' b w.heap.size m (fun kl => Maps.has m.dat kl) m.length → Below w.heap.size w w' → w'.heap.size = w.heap.size + 1 → wpList P ops Q rest (a.put o.dst (.pointer (some ⟨w.heap.size, 0, none⟩))) w') :
    wpList P ops Q (o :: rest) a w :=
  Go.wpList_range_own w hg x t hop k e K ht anyElem b m.length m.dat hm hown (fun w' h1 h2 h3 => by
    have : Maps.size m.dat = m.length := by simp [SM.dat, Maps.size]
    rw [this] at h1
    exact hK w' h1 ⟨h2.os, h2.tape, h2.output, h2.size, fun i hi => h2.block i hi (by simp)⟩ h3)
theorem wpList_tnext {α : Type} (mk : α → Value) (tx : α → List UInt8) (hg : o.guard = none) (it : Operand) (hop : o.op = Op.next it false) (k : TypeId) (K : Maps.Keyed P k) (hinv : ∀ key kl, keyOf P k key = some kl → ∃ x, key = mk x ∧ kl = .string (tx x)) (hinj : ∀ x y, mk x = mk y → x = y) (b r : Nat) (m : SM) (left : Lit → Bool) (cnt : Nat)
    (hit : a.eval it = .pointer (some ⟨r, 0, none⟩)) (h : SRange P k w b r m left cnt)
    (hDone : (∀ s, left (.string s) = false) → wpList P ops Q rest (a.put o.dst (.tuple #[.bool false])) w)
    (hMore : ∀ (x : α) (c : Value) (w' : World) (cnt' : Nat), left (.string (tx x)) = true → m.get (tx x) = some c → SRange P k w' b r m (fun z => left z && !z.sameKey (.string (tx x))) cnt' → cnt' < cnt →
      w.grownBy w' (some r) → w'.heap.size = w.heap.size → (Instr.entry (.pointer (some ⟨r, 0, none⟩))).run P w' = .ok (.tuple #[mk x, c]) w' → wpList P ops Q rest (a.put o.dst (.tuple #[.bool true, mk x, c])) w') :
    wpList P ops Q (o :: rest) a w :=
  Go.wpList_next_ranges w hg it hop k K anyElem mk (fun v : Value => v) (fun key kl hkey => by obtain ⟨x, rfl, -⟩ := hinv key kl hkey; exact ⟨x, rfl⟩) (fun v y _ => ⟨v, rfl⟩) b r m.length m.dat left cnt hit h
    (fun _ hl => hDone fun s => hl _)
    (fun x c kl y w' cnt' hkey hlk hv hat hrg hlt hgr hsz hen => by
      obtain ⟨x', ex, rfl⟩ := hinv _ _ hkey
      obtain rfl := hinj _ _ ex
      simp only [anyElem, Option.some.injEq] at hv
      subst hv
      exact hMore x c w' cnt' hlk (SM.get_of_at hat) hrg hlt hgr hsz hen)
end
end Go.Proofs.Ytmgbailpmcggiaa
