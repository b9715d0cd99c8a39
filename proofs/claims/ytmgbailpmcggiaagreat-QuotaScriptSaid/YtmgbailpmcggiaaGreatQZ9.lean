/- Texts of one proof, laid together: Maps, ByteOrd, Kl, Kl2, Maps2, MapRange, MapT, QKey, Pop, Past, QName, QtPlain, Past2, Late. No condition of ours. -/
import Derived.Test.YtmgbailpmcggiaaGreatQZ8
import Derived.Maps.OwnSet
import Derived.Maps.OwnOps
import Derived.Sort.KeysCollected
import Derived.Maps.RangeWalk
import Derived.DeepKeys4
import Derived.Test.YtmgbailpmcggiaaGreatChecked
import Derived.OrdersHeld
import Derived.StillTail
import Derived.Deep.QuietTactic
import Derived.BigQuiet
import Derived.Lib.ConvBytes
import Derived.Outline
import Derived.Lib.Strings
import Derived.Deep.RegionHeld3
namespace Go.Proofs.YtmgbailpmcggiaaGreat
open Go.RowKit Go.WideShapes

abbrev SM := List (List UInt8 × Value)
namespace SM
def ent (p : List UInt8 × Value) : Lit × DataW Value := (.string p.1, .held p.2)
def dat (m : SM) : DataW Value := .map (m.map ent)
def get (m : SM) (s : List UInt8) : Option Value := (m.find? (fun p => p.1 == s)).map (·.2)
def hasK (m : SM) (s : List UInt8) : Bool := m.any (fun p => p.1 == s)
def del (m : SM) (s : List UInt8) : SM := m.filter (fun p => !(p.1 == s))
def ins (s : List UInt8) (v : Value) : SM → SM
  | [] => [(s, v)]
  | y :: r => if bytesBefore s y.1 then (s, v) :: y :: r else y :: ins s v r
def put (m : SM) (s : List UInt8) (v : Value) : SM := ins s v (m.del s)

theorem same_str (a b : List UInt8) : (Lit.string a).sameKey (.string b) = (a == b) := rfl
theorem dat_has (m : SM) (s : List UInt8) : Maps.has m.dat (.string s) = m.hasK s := by
  unfold dat hasK
  rw [Maps.has_eq, List.any_map]
  rfl
theorem dat_at (m : SM) (s : List UInt8) (z : Value) : m.dat.atKey (.string s) (.held z) = .held ((m.get s).getD z) := by
  unfold dat get DataW.atKey
  simp only [List.find?_map]
  have : ((fun p : Lit × DataW Value => p.1.sameKey (.string s)) ∘ ent) = fun p => p.1 == s := by funext p; rfl
  rw [this]
  cases m.find? (fun p => p.1 == s) <;> rfl
theorem dat_del (m : SM) (s : List UInt8) : m.dat.del (.string s) = (m.del s).dat := by
  unfold dat del DataW.del
  simp only [List.filter_map]
  rfl
theorem ent_ins (s : List UInt8) (v : Value) : ∀ m : SM, DataW.insert (.string s, .held v) (m.map ent) = (ins s v m).map ent
  | [] => rfl
  | y :: r => by
    simp only [List.map_cons, DataW.insert, ins]
    have : (Lit.string s).before (ent y).1 = bytesBefore s y.1 := rfl
    rw [this]
    cases bytesBefore s y.1
    · simp [ent_ins s v r]
    · rfl
theorem dat_put (m : SM) (s : List UInt8) (v : Value) : m.dat.put (.string s) (.held v) = (m.put s v).dat := by
  unfold dat put DataW.put
  simp only [List.filter_map]
  rw [← ent_ins]
  rfl
theorem length_ins (s : List UInt8) (v : Value) : ∀ m : SM, (ins s v m).length = m.length + 1
  | [] => rfl
  | y :: r => by
    simp only [ins]
    split
    · simp
    · simp [length_ins s v r]
theorem length_del (m : SM) (s : List UInt8) : (m.del s).length ≤ m.length := List.length_filter_le _ _
theorem length_put (m : SM) (s : List UInt8) (v : Value) : (m.put s v).length ≤ m.length + 1 := by
  unfold put
  rw [length_ins]
  have := length_del m s
  omega
end SM

def anyElem (v : Value) : Option (DataW Value × List MemPlace) := some (.held v, [])

/-- block b of w is a map keyed by strings that holds these pairs -/
def SMap (P : Program) (k : TypeId) (w : World) (b : Nat) (m : SM) : Prop := w.ownsMap P k anyElem b m.length m.dat

section
variable {P : Program} {k e t : TypeId} {w : World} {b : Nat} {m : SM}

theorem SMap.of {n : Nat} (h : w.ownsMap P k anyElem b n m.dat) : SMap P k w b m := by
  obtain ⟨es, clock, hb, F, hs, hd⟩ := h
  refine ⟨es, clock, hb, F, ?_, hd⟩
  have : Maps.size m.dat = m.length := by simp [SM.dat, Maps.size]
  rw [hd] at this
  simp [Maps.size, length_sorted] at this
  omega
theorem SMap.below {w' : World} {n : Nat} (h : SMap P k w b m) (hb : Below n w w') (hn : b < n) : SMap P k w' b m := by
  obtain ⟨es, clock, h1, h2⟩ := h
  refine ⟨es, clock, ?_, h2⟩
  rw [hb.block b hn]
  exact h1
theorem SMap.lt (h : SMap P k w b m) : b < w.heap.size := World.ownsMap.lt h
theorem SMap.kept {w' : World} (h : SMap P k w b m) (hb : Below w.heap.size w w') : SMap P k w' b m := h.below hb h.lt
theorem SMap.grown {w' : World} {row : Option Nat} (h : SMap P k w b m) (hg : w.grownBy w' row) (hne : some b ≠ row) : SMap P k w' b m := World.ownsMap.kept h hg hne
theorem smap_made (w : World) (P : Program) (k : TypeId) : SMap P k (w.alloc (.map #[] 0)) w.heap.size [] := World.ownsMap_made w P k anyElem

theorem keyOf_str (hk : P.underlying k = some .string) {s : ByteArray} (hs : s.size ≤ maxLen) : keyOf P k (.string s) = some (.string s.data.toList) := by
  simp [keyOf, hk, mapKey, hs]

/-- a store's run: for a region that draws its order -/
theorem SMap.store {t e : TypeId} (h : SMap P k w b m) (hk : P.underlying k = some .string) (ht : P.underlying t = some (.map k e)) (hn : m.length < maxLen) {s : ByteArray} (hs : s.size ≤ maxLen) (val : Value) :
    ∃ w', (Instr.mapUpdate t (.map (some b)) (.string s) val).run P w = .ok () w' ∧ SMap P k w' b (m.put s.data.toList val) ∧ w.grownBy w' (some b) := by
  obtain ⟨w', h1, h2, h3⟩ := World.ownsMap.store h (Maps.string_keyed hk) ht hn (keyOf_str hk hs) (d := .held val) (ps := []) (val := val) rfl
  rw [SM.dat_put] at h2
  exact ⟨w', h1, SMap.of h2, h3.grown⟩

theorem anyElem_inv {v u : Value} {ps : List MemPlace} (h : anyElem v = some (.held u, ps)) : v = u := by
  simp [anyElem] at h
  exact h.1
end

section
variable {P : Program} (w : World) {ops : Array Oper} {rest : List Oper} {o : Oper} {a : Act} {Q : Exit → Act → World → Prop}

theorem wpList_slook_ok (hg : o.guard = none) (x1 x2 : Operand) (t : TypeId) (hop : o.op = Op.lookup t x1 x2 true)
    (k e : TypeId) (hk : P.underlying k = some .string) (ht : P.underlying t = some (.map k e)) {z : Value} (hz : (zeroValue e).run P w = .ok z w) (b : Nat) (m : SM)
    (hm : a.eval x1 = .map (some b)) (hown : SMap P k w b m) (s : ByteArray) (hx : a.eval x2 = .string s) (hs : s.size ≤ maxLen)
    (hK : wpList P ops Q rest (a.put o.dst (.tuple #[(m.get s.data.toList).getD z, .bool (m.hasK s.data.toList)])) w) :
    wpList P ops Q (o :: rest) a w :=
  Go.wpList_lookup_own_ok w hg x1 x2 t hop k e (Maps.string_keyed hk) ht anyElem hz (.held z) [] rfl b m.length m.dat hm hown _ _ hx (keyOf_str hk hs) (fun v ps hv => by
    rw [SM.dat_at] at hv
    rw [anyElem_inv hv, SM.dat_has]
    exact hK)

theorem wpList_sput (hg : o.guard = none) (x1 x2 x3 : Operand) (t : TypeId) (hop : o.op = Op.mapUpdate t x1 x2 x3)
    (k e : TypeId) (hk : P.underlying k = some .string) (ht : P.underlying t = some (.map k e)) (b : Nat) (m : SM)
    (hm : a.eval x1 = .map (some b)) (hown : SMap P k w b m) (hn : m.length < maxLen) (s : ByteArray) (val : Value) (hx : a.eval x2 = .string s) (hv : a.eval x3 = val) (hs : s.size ≤ maxLen)
    (hK : ∀ w', SMap P k w' b (m.put s.data.toList val) → w.grownBy w' (some b) → wpList P ops Q rest (a.put o.dst undef) w') :
    wpList P ops Q (o :: rest) a w :=
  Go.wpList_mapUpdate_in w hg x1 x2 x3 t hop k e (Maps.string_keyed hk) ht anyElem b m.length m.dat hm hown hn _ _ _ hx hv (keyOf_str hk hs) (.held val) [] rfl (fun w' h1 h2 => by
    rw [SM.dat_put] at h1
    exact hK w' (SMap.of h1) h2.grown)

theorem wpList_sdel (hg : o.guard = none) (x1 x2 : Operand) (t k : TypeId) (hop : o.op = Op.call { callee := Callee.builtin Builtin.delete, args := #[x1, x2], argTypes := #[t, k] })
    (e : TypeId) (hk : P.underlying k = some .string) (ht : P.underlying t = some (.map k e)) (b : Nat) (m : SM)
    (hm : a.eval x1 = .map (some b)) (hown : SMap P k w b m) (s : ByteArray) (hx : a.eval x2 = .string s) (hs : s.size ≤ maxLen)
    (hK : ∀ w', SMap P k w' b (m.del s.data.toList) → w.grownBy w' (some b) → wpList P ops Q rest (a.put o.dst (.tuple #[])) w') :
    wpList P ops Q (o :: rest) a w :=
  Go.wpList_delete_own w hg x1 x2 t k hop e (Maps.string_keyed hk) ht anyElem b m.length m.dat hm hown _ _ hx (keyOf_str hk hs) (fun w' h1 h2 => by
    rw [SM.dat_del] at h1
    exact hK w' (SMap.of h1) h2.grown)

theorem wpList_slen (hg : o.guard = none) (x1 : Operand) (t : TypeId) (hop : o.op = Op.call { callee := Callee.builtin Builtin.len, args := #[x1], argTypes := #[t] })
    (k e : TypeId) (ht : P.underlying t = some (.map k e)) (b : Nat) (m : SM) (hm : a.eval x1 = .map (some b)) (hown : SMap P k w b m)
    (hK : wpList P ops Q rest (a.put o.dst (.int .i64 (m.length : Int))) w) :
    wpList P ops Q (o :: rest) a w :=
  Go.wpList_len_own w hg x1 t hop k e ht anyElem b m.length m.dat hm hown (by
    have : Maps.size m.dat = m.length := by simp [SM.dat, Maps.size]
    rw [this]
    exact hK)
end
end Go.Proofs.YtmgbailpmcggiaaGreat
namespace Go.Proofs.YtmgbailpmcggiaaGreat
open Go.RowKit

theorem before_lt : ∀ a b : List UInt8, bytesBefore a b = true ↔ a < b
  | [], [] => by simp [bytesBefore]
  | [], _ :: _ => by simp [bytesBefore]
  | _ :: _, [] => by simp [bytesBefore]
  | x :: a, y :: b => by
    rw [bytesBefore, List.cons_lt_cons_iff]
    have ih := before_lt a b
    simp only [Bool.or_eq_true, decide_eq_true_eq, Bool.and_eq_true, beq_iff_eq, ih]
theorem lt_irr (a : List UInt8) : ¬ a < a := List.lt_irrefl a
theorem lt_tr {a b c : List UInt8} (h : a < b) (k : b < c) : a < c := List.lt_trans h k
theorem lt_tot {a b : List UInt8} (h : ¬ a < b) (hne : a ≠ b) : b < a := by
  by_cases h2 : b < a
  · exact h2
  · exact absurd (List.le_antisymm (List.not_lt.1 h2) (List.not_lt.1 h)) hne

/-- a rising list is what its sort gives -/
theorem sort_rises {l ss : List (List UInt8)} (hp : ss.Perm l) (hr : l.Pairwise (· < ·)) : ss.mergeSort (fun x y => decide (x ≤ y)) = l := by
  have h1 : (ss.mergeSort (fun x y => decide (x ≤ y))).Pairwise (fun x y => decide (x ≤ y) = true) := List.pairwise_mergeSort (fun a b c h1 h2 => by
    simp only [decide_eq_true_eq] at *
    exact List.le_trans h1 h2) (fun a b => by
    simp only [Bool.or_eq_true, decide_eq_true_eq]
    exact List.le_total a b) ss
  have h2 : (ss.mergeSort (fun x y => decide (x ≤ y))).Perm l := (List.mergeSort_perm ss _).trans hp
  have h3 : l.Pairwise (fun x y => decide (x ≤ y) = true) := hr.imp fun {a b} h => by
    simp only [decide_eq_true_eq]
    exact List.le_of_lt h
  refine List.Perm.eq_of_pairwise (le := fun x y => decide (x ≤ y) = true) (fun a b _ _ h1 h2 => ?_) h1 h3 h2
  simp only [decide_eq_true_eq] at h1 h2
  exact List.le_antisymm h1 h2
end Go.Proofs.YtmgbailpmcggiaaGreat
namespace Go.Proofs.YtmgbailpmcggiaaGreat
open Go.RowKit

section
variable {α : Type} (key : α → List UInt8)
def kfnd (L : List α) (s : List UInt8) : Option α := L.find? fun e => key e == s
def krem (L : List α) (s : List UInt8) : List α := L.filter fun e => !(key e == s)
def kins (x : α) : List α → List α
  | [] => [x]
  | y :: r => if bytesBefore (key x) (key y) then x :: y :: r else y :: kins x r
def kput (L : List α) (x : α) : List α := kins key x (krem key L (key x))
def kM (val : α → Value) (L : List α) : SM := L.map fun e => (key e, val e)
def KApart (L : List α) : Prop := L.Pairwise fun x y => key x ≠ key y
def KRise (L : List α) : Prop := L.Pairwise fun x y => key x < key y
/-- how many stand ahead of a key -/
def kpl (L : List α) (s : List UInt8) : Nat := (L.takeWhile fun e => decide (key e < s)).length
end

section
variable {α : Type} {key : α → List UInt8} {val : α → Value}
theorem kM_get (L : List α) (s : List UInt8) : (kM key val L).get s = (kfnd key L s).map val := by
  unfold kM SM.get kfnd
  rw [List.find?_map]
  cases h : L.find? (fun e => key e == s) with
  | none =>
    have : L.find? ((fun p : List UInt8 × Value => p.1 == s) ∘ fun e => (key e, val e)) = none := h
    rw [this]; rfl
  | some e =>
    have : L.find? ((fun p : List UInt8 × Value => p.1 == s) ∘ fun e => (key e, val e)) = some e := h
    rw [this]; rfl
theorem kM_has (L : List α) (s : List UInt8) : (kM key val L).hasK s = (kfnd key L s).isSome := by
  unfold kM SM.hasK kfnd
  rw [List.any_map]
  induction L with
  | nil => rfl
  | cons e L ih =>
    simp only [List.any_cons, List.find?_cons, Function.comp]
    cases h : (key e == s)
    · simpa using ih
    · simp
theorem kM_del (L : List α) (s : List UInt8) : (kM key val L).del s = kM key val (krem key L s) := by
  unfold kM SM.del krem
  rw [List.filter_map]
  rfl
theorem kM_ins (x : α) : ∀ L : List α, SM.ins (key x) (val x) (kM key val L) = kM key val (kins key x L)
  | [] => rfl
  | y :: L => by
    have ih := kM_ins x L
    unfold kM at *
    simp only [List.map_cons, SM.ins, kins]
    split
    · rfl
    · rw [ih]; rfl
theorem kM_put (L : List α) (x : α) : (kM key val L).put (key x) (val x) = kM key val (kput key L x) := by
  unfold SM.put kput
  rw [kM_del, kM_ins]
theorem kM_len (L : List α) : (kM key val L).length = L.length := by simp [kM]
theorem kM_size (L : List α) : Go.Maps.size (kM key val L).dat = L.length := by simp [SM.dat, Go.Maps.size, kM]
theorem kM_keys (L : List α) : Go.strKeys (kM key val L).dat = L.map key := by
  simp [SM.dat, Go.strKeys, kM, SM.ent, List.map_map, Function.comp_def]
  intro a _
  rfl

theorem kins_mem (x : α) : ∀ (L : List α) (e : α), e ∈ kins key x L ↔ e = x ∨ e ∈ L
  | [], e => by simp [kins]
  | y :: L, e => by
    unfold kins
    split
    · simp
    · have := kins_mem x L e
      simp only [List.mem_cons, this]
      constructor
      · rintro (h | h | h)
        · exact .inr (.inl h)
        · exact .inl h
        · exact .inr (.inr h)
      · rintro (h | h | h)
        · exact .inr (.inl h)
        · exact .inl h
        · exact .inr (.inr h)
theorem krem_mem (L : List α) (s : List UInt8) (e : α) : e ∈ krem key L s ↔ e ∈ L ∧ key e ≠ s := by
  unfold krem
  rw [List.mem_filter]
  simp
theorem kput_mem (L : List α) (x e : α) : e ∈ kput key L x ↔ e = x ∨ (e ∈ L ∧ key e ≠ key x) := by
  unfold kput
  rw [kins_mem, krem_mem]
theorem kins_perm (x : α) : ∀ L : List α, (kins key x L).Perm (x :: L)
  | [] => List.Perm.refl _
  | y :: L => by
    unfold kins
    split
    · exact List.Perm.refl _
    · exact ((kins_perm x L).cons y).trans (List.Perm.swap x y L)

theorem kfnd_mem {L : List α} {s : List UInt8} {e : α} (h : kfnd key L s = some e) : e ∈ L ∧ key e = s := by
  unfold kfnd at h
  exact ⟨List.mem_of_find?_eq_some h, by simpa using List.find?_some h⟩
theorem kfnd_none {L : List α} {s : List UInt8} (h : kfnd key L s = none) : ∀ e ∈ L, key e ≠ s := by
  unfold kfnd at h
  intro e he
  have := List.find?_eq_none.1 h e he
  simpa using this
theorem kfnd_of {L : List α} (hd : KApart key L) {e : α} (he : e ∈ L) : kfnd key L (key e) = some e := by
  induction L with
  | nil => cases he
  | cons y L ih =>
    unfold KApart at hd
    rw [List.pairwise_cons] at hd
    unfold kfnd at *
    simp only [List.find?_cons]
    rcases List.mem_cons.1 he with rfl | h
    · simp
    · have : (key y == key e) = false := by simpa using hd.1 e h
      rw [this]
      exact ih hd.2 h
theorem kfnd_no {L : List α} {s : List UInt8} (h : ∀ e ∈ L, key e ≠ s) : kfnd key L s = none := by
  unfold kfnd
  rw [List.find?_eq_none]
  intro e he
  simpa using h e he
theorem krem_no {L : List α} {s : List UInt8} (h : ∀ e ∈ L, key e ≠ s) : krem key L s = L := by
  unfold krem
  rw [List.filter_eq_self]
  intro e he
  simpa using h e he

theorem KRise.apart {L : List α} (h : KRise key L) : KApart key L := by
  unfold KRise at h
  unfold KApart
  exact h.imp fun {a b} k e => by rw [e] at k; exact lt_irr _ k
theorem KRise.keys {L : List α} (h : KRise key L) : (L.map key).Pairwise (· < ·) := by
  rw [List.pairwise_map]
  exact h
theorem KRise.rem {L : List α} (h : KRise key L) (s : List UInt8) : KRise key (krem key L s) := List.Pairwise.filter _ h
theorem KRise.ins {x : α} : ∀ {L : List α}, KRise key L → (∀ e ∈ L, key e ≠ key x) → KRise key (kins key x L)
  | [], _, _ => by simp [kins, KRise]
  | y :: L, h, hn => by
    unfold KRise at *
    rw [List.pairwise_cons] at h
    unfold kins
    split
    · rename_i hb
      have hxy := (before_lt _ _).1 hb
      rw [List.pairwise_cons, List.pairwise_cons]
      refine ⟨fun e he => ?_, h⟩
      rcases List.mem_cons.1 he with rfl | he
      · exact hxy
      · exact lt_tr hxy (h.1 e he)
    · rename_i hb
      have hyx : key y < key x := lt_tot (fun h => hb ((before_lt _ _).2 h)) (fun e => hn y (by simp) e.symm)
      rw [List.pairwise_cons]
      refine ⟨fun e he => ?_, KRise.ins h.2 (fun e he => hn e (by simp [he]))⟩
      rcases (kins_mem x L e).1 he with rfl | he
      · exact hyx
      · exact h.1 e he
theorem KRise.put {L : List α} (h : KRise key L) (x : α) : KRise key (kput key L x) := KRise.ins (h.rem _) (fun e he => ((krem_mem L _ e).1 he).2)

/-! a rising list, by places -/
theorem kpl_le (L : List α) (s : List UInt8) : kpl key L s ≤ L.length := by
  unfold kpl
  have := List.takeWhile_prefix (l := L) (fun e => decide (key e < s))
  exact this.length_le
theorem kpl_take (L : List α) (s : List UInt8) : L.take (kpl key L s) = L.takeWhile (fun e => decide (key e < s)) := by
  unfold kpl
  exact (List.prefix_iff_eq_take.1 (List.takeWhile_prefix _)).symm
theorem kpl_lt {L : List α} {s : List UInt8} {j : Nat} (h : j < L.length) (hj : j < kpl key L s) : key L[j] < s := by
  induction L generalizing j with
  | nil => simp at h
  | cons y L ih =>
    unfold kpl at hj ih
    by_cases hy : key y < s
    · cases j with
      | zero => exact hy
      | succ j =>
        simp only [List.takeWhile_cons, hy, decide_true, if_true, List.length_cons] at hj
        exact ih (by simpa using h) (by omega)
    · simp [List.takeWhile_cons, hy] at hj
theorem kpl_at {L : List α} {s : List UInt8} (h : kpl key L s < L.length) : ¬ key L[kpl key L s] < s := by
  intro hlt
  unfold kpl at *
  induction L with
  | nil => simp at h
  | cons y L ih =>
    by_cases hy : key y < s
    · simp only [List.takeWhile_cons, hy, decide_true, if_true, List.length_cons, List.getElem_cons_succ, Nat.add_lt_add_iff_right] at h hlt
      exact ih h hlt
    · simp [List.takeWhile_cons, hy] at hlt
theorem kpl_eq {L : List α} {s : List UInt8} {k : Nat} (hk : k ≤ L.length) (h1 : ∀ j (h : j < L.length), j < k → key L[j] < s) (h2 : ∀ h : k < L.length, ¬ key L[k] < s) : kpl key L s = k := by
  rcases Nat.lt_trichotomy (kpl key L s) k with h | h | h
  · exact absurd (h1 _ (by omega) h) (kpl_at (by omega))
  · exact h
  · have := kpl_le (key := key) L s
    exact absurd (kpl_lt (by omega) h) (h2 (by omega))
theorem kins_places {L : List α} {x : α} (h : KRise key L) (hn : ∀ e ∈ L, key e ≠ key x) : kins key x L = L.take (kpl key L (key x)) ++ x :: L.drop (kpl key L (key x)) := by
  induction L with
  | nil => rfl
  | cons y L ih =>
    have h2 := (List.pairwise_cons.1 h).2
    have hne := hn y (by simp)
    by_cases hb : key y < key x
    · have hbb : ¬ bytesBefore (key x) (key y) = true := by
        rw [before_lt]
        exact fun h' => lt_irr _ (lt_tr hb h')
      have : kpl key (y :: L) (key x) = kpl key L (key x) + 1 := by unfold kpl; simp [List.takeWhile_cons, hb]
      rw [this]
      unfold kins
      rw [if_neg hbb, ih h2 (fun e he => hn e (by simp [he]))]
      rfl
    · have hbb : bytesBefore (key x) (key y) = true := by
        rw [before_lt]
        exact lt_tot hb hne
      have : kpl key (y :: L) (key x) = 0 := by unfold kpl; simp [List.takeWhile_cons, hb]
      rw [this]
      unfold kins
      rw [if_pos hbb]
      rfl
/-- where a key is: it is at its place -/
theorem kfnd_place {L : List α} {s : List UInt8} {e : α} (h : KRise key L) (hf : kfnd key L s = some e) : ∃ hk : kpl key L s < L.length, L[kpl key L s] = e := by
  obtain ⟨hm, rfl⟩ := kfnd_mem hf
  obtain ⟨j, hj, rfl⟩ := List.getElem_of_mem hm
  have : kpl key L (key L[j]) = j := kpl_eq (by omega) (fun i hi hij => List.pairwise_iff_getElem.1 h i j hi hj hij) (fun _ => lt_irr _)
  exact ⟨by rw [this]; exact hj, by simp [this]⟩
theorem kfnd_none_place {L : List α} {s : List UInt8} (hf : kfnd key L s = none) (hk : kpl key L s < L.length) : s < key L[kpl key L s] :=
  lt_tot (kpl_at hk) (kfnd_none hf _ (List.getElem_mem hk))
theorem krem_place {L : List α} {s : List UInt8} {e : α} (h : KRise key L) (hf : kfnd key L s = some e) : krem key L s = L.eraseIdx (kpl key L s) := by
  obtain ⟨hk, he⟩ := kfnd_place h hf
  obtain ⟨-, hs⟩ := kfnd_mem hf
  generalize kpl key L s = k at hk he
  induction L generalizing k with
  | nil => simp at hk
  | cons y L ih =>
    have h1 := (List.pairwise_cons.1 h).1
    have h2 := (List.pairwise_cons.1 h).2
    cases k with
    | zero =>
      simp only [List.getElem_cons_zero] at he
      subst he
      subst hs
      show krem key (y :: L) (key y) = L
      unfold krem
      rw [List.filter_cons_of_neg (by simp), List.filter_eq_self]
      intro z hz
      have := h1 z hz
      simp only [Bool.not_eq_true', beq_eq_false_iff_ne, ne_eq]
      intro e
      rw [e] at this
      exact lt_irr _ this
    | succ k =>
      simp only [List.getElem_cons_succ] at he
      have hk' : k < L.length := by simpa using hk
      have hne : key y ≠ s := by
        have := h1 e (by rw [← he]; exact List.getElem_mem hk')
        rw [← hs]
        intro e'
        rw [e'] at this
        exact lt_irr _ this
      show krem key (y :: L) s = y :: L.eraseIdx k
      have hc : krem key (y :: L) s = y :: krem key L s := by
        unfold krem
        rw [List.filter_cons_of_pos (by simpa using hne)]
      have hf2 : kfnd key L s = some e := by
        have := kfnd_of (KRise.apart h2) (List.getElem_mem hk')
        rw [he, hs] at this
        exact this
      rw [hc, ih h2 hf2 k hk' he]
end

/-! the rows by another name -/
section
variable {α β : Type} {key : α → List UInt8} {key' : β → List UInt8} {f : α → β}
theorem kfnd_map (h : ∀ x, key' (f x) = key x) (L : List α) (s : List UInt8) : kfnd key' (L.map f) s = (kfnd key L s).map f := by
  unfold kfnd
  rw [List.find?_map]
  have : ((fun e => key' e == s) ∘ f) = fun e => key e == s := by
    funext x
    simp [h]
  rw [this]
theorem krem_map (h : ∀ x, key' (f x) = key x) (L : List α) (s : List UInt8) : krem key' (L.map f) s = (krem key L s).map f := by
  unfold krem
  rw [List.filter_map]
  have : ((fun e => !(key' e == s)) ∘ f) = fun e => !(key e == s) := by
    funext x
    simp [h]
  rw [this]
theorem kins_map (h : ∀ x, key' (f x) = key x) (x : α) : ∀ L : List α, kins key' (f x) (L.map f) = (kins key x L).map f
  | [] => rfl
  | y :: L => by
    simp only [List.map_cons, kins, h]
    split
    · rfl
    · rw [kins_map h x L]; rfl
theorem kput_map (h : ∀ x, key' (f x) = key x) (L : List α) (x : α) : kput key' (L.map f) (f x) = (kput key L x).map f := by
  unfold kput
  rw [h, krem_map h, kins_map h]
theorem kpl_map (h : ∀ x, key' (f x) = key x) (L : List α) (s : List UInt8) : kpl key' (L.map f) s = kpl key L s := by
  unfold kpl
  rw [List.takeWhile_map, List.length_map]
  congr 2
  funext x
  simp [h]
theorem KRise.map (h : ∀ x, key' (f x) = key x) {L : List α} : KRise key' (L.map f) ↔ KRise key L := by
  unfold KRise
  rw [List.pairwise_map]
  simp [h]
end

/-! one row is another one -/
section
variable {α : Type} {key : α → List UInt8}
theorem kput_same {L : List α} {s : List UInt8} {e x : α} (h : KRise key L) (hf : kfnd key L s = some e) (hx : key x = s) : kput key L x = L.set (kpl key L s) x := by
  obtain ⟨hk, he⟩ := kfnd_place h hf
  have h1 : KRise key (krem key L s) := h.rem s
  have hn : ∀ y ∈ krem key L s, key y ≠ key x := fun y hy => by rw [hx]; exact ((krem_mem L s y).1 hy).2
  unfold kput
  rw [hx, kins_places h1 hn]
  have hr := krem_place h hf
  rw [hx, hr]
  have hp : kpl key (L.eraseIdx (kpl key L s)) s = kpl key L s := by
    refine kpl_eq ?_ ?_ ?_
    · rw [List.length_eraseIdx_of_lt hk]; omega
    · intro j hj hjk
      rw [List.getElem_eraseIdx_of_lt _ hjk]
      exact kpl_lt _ hjk
    · intro hlt
      rw [List.getElem_eraseIdx_of_ge _ (Nat.le_refl _)]
      have hlt' : kpl key L s + 1 < L.length := by rw [List.length_eraseIdx_of_lt hk] at hlt; omega
      have h5 := List.pairwise_iff_getElem.1 h (kpl key L s) (kpl key L s + 1) hk hlt' (by omega)
      rw [he, (kfnd_mem hf).2] at h5
      exact fun h6 => lt_irr _ (lt_tr h5 h6)
  rw [hp, List.set_eq_take_append_cons_drop, if_pos hk]
  rw [List.eraseIdx_eq_take_drop_succ]
  have hl : (L.take (kpl key L s)).length = kpl key L s := by rw [List.length_take]; omega
  rw [List.take_left' hl, List.drop_left' hl]
end
end Go.Proofs.YtmgbailpmcggiaaGreat
namespace Go.Proofs.YtmgbailpmcggiaaGreat
open Go.RowKit

section
variable {α : Type} (key : α → List UInt8) (f : α → Int)
def ksum (L : List α) : Int := (L.map f).sum
def kdone (left : Lit → Bool) (L : List α) : Int := (L.map fun e => if left (.string (key e)) then 0 else f e).sum
end
section
variable {α : Type} {key : α → List UInt8} {f : α → Int}
theorem ksum_cons (e : α) (L : List α) : ksum f (e :: L) = f e + ksum f L := by simp [ksum]
theorem kdone_cons (left : Lit → Bool) (e : α) (L : List α) : kdone key f left (e :: L) = (if left (.string (key e)) then 0 else f e) + kdone key f left L := by simp [kdone]
theorem kdone_start {L : List α} {left : Lit → Bool} (h : ∀ e ∈ L, left (.string (key e)) = true) : kdone key f left L = 0 := by
  induction L with
  | nil => rfl
  | cons e L ih => rw [kdone_cons, ih (fun x hx => h x (by simp [hx])), h e (by simp)]; rfl
theorem kdone_end {L : List α} {left : Lit → Bool} (h : ∀ s, left (.string s) = false) : kdone key f left L = ksum f L := by
  induction L with
  | nil => rfl
  | cons e L ih => rw [kdone_cons, ih, h, ksum_cons]; rfl
theorem kdone_congr {left left' : Lit → Bool} {L : List α} (h : ∀ e ∈ L, left (.string (key e)) = left' (.string (key e))) : kdone key f left L = kdone key f left' L := by
  unfold kdone
  congr 1
  exact List.map_congr_left fun e he => by rw [h e he]
theorem kdone_step {L : List α} {left : Lit → Bool} (hd : KApart key L) {e : α} (he : e ∈ L) (hl : left (.string (key e)) = true) :
    kdone key f (fun z => left z && !z.sameKey (.string (key e))) L = kdone key f left L + f e := by
  induction L with
  | nil => cases he
  | cons y L ih =>
    unfold KApart at hd
    rw [List.pairwise_cons] at hd
    rw [kdone_cons, kdone_cons]
    rcases List.mem_cons.1 he with rfl | h
    · have h1 : kdone key f (fun z => left z && !z.sameKey (.string (key e))) L = kdone key f left L := kdone_congr fun x hx => by
        have : (key x == key e) = false := by
          have := hd.1 x hx
          simp only [beq_eq_false_iff_ne, ne_eq]
          exact fun h => this h.symm
        show (left (.string (key x)) && !(key x == key e)) = _
        rw [this]; simp
      rw [h1]
      show (if (left (.string (key e)) && !(key e == key e)) = true then 0 else f e) + _ = (if left (.string (key e)) = true then 0 else f e) + _ + f e
      rw [hl]
      simp
      omega
    · have h2 : (key y == key e) = false := by simpa using hd.1 e h
      rw [ih hd.2 h]
      show (if (left (.string (key y)) && !(key y == key e)) = true then 0 else f y) + _ = _
      rw [h2]
      simp only [Bool.not_false, Bool.and_true]
      omega
theorem ksum_nonneg {L : List α} (h : ∀ e ∈ L, 0 ≤ f e) : 0 ≤ ksum f L := by
  induction L with
  | nil => exact Int.le_refl _
  | cons e L ih =>
    rw [ksum_cons]
    have := h e (by simp)
    have := ih (fun x hx => h x (by simp [hx]))
    omega
theorem kdone_bd {L : List α} (left : Lit → Bool) (h : ∀ e ∈ L, 0 ≤ f e) : 0 ≤ kdone key f left L ∧ kdone key f left L ≤ ksum f L := by
  induction L with
  | nil => exact ⟨Int.le_refl _, Int.le_refl _⟩
  | cons e L ih =>
    rw [kdone_cons, ksum_cons]
    have h1 := h e (by simp)
    have h2 := ih (fun x hx => h x (by simp [hx]))
    split <;> omega
theorem ksum_mem {L : List α} (h : ∀ e ∈ L, 0 ≤ f e) {e : α} (he : e ∈ L) : f e ≤ ksum f L := by
  induction L with
  | nil => cases he
  | cons y L ih =>
    rw [ksum_cons]
    have h1 := h y (by simp)
    rcases List.mem_cons.1 he with rfl | he
    · have := ksum_nonneg (f := f) (L := L) (fun x hx => h x (by simp [hx]))
      omega
    · have := ih (fun x hx => h x (by simp [hx])) he
      omega
theorem ksum_ins (x : α) : ∀ L : List α, ksum f (kins key x L) = f x + ksum f L
  | [] => by simp [kins, ksum]
  | y :: L => by
    unfold kins
    split
    · rw [ksum_cons]
    · rw [ksum_cons, ksum_ins x L, ksum_cons]; omega
theorem ksum_rem {L : List α} (hd : KApart key L) {e : α} (he : e ∈ L) : ksum f (krem key L (key e)) = ksum f L - f e := by
  induction L with
  | nil => cases he
  | cons y L ih =>
    unfold KApart at hd
    rw [List.pairwise_cons] at hd
    unfold krem at *
    simp only [List.filter_cons]
    rcases List.mem_cons.1 he with rfl | h
    · have h1 : L.filter (fun x => !(key x == key e)) = L := by
        rw [List.filter_eq_self]
        intro x hx
        have := hd.1 x hx
        simp only [Bool.not_eq_true', beq_eq_false_iff_ne, ne_eq]
        exact fun h => this h.symm
      simp only [beq_self_eq_true, Bool.not_true, Bool.false_eq_true, if_false, h1, ksum_cons]
      omega
    · have h2 : (key y == key e) = false := by simpa using hd.1 e h
      simp only [h2, Bool.not_false, if_true, ksum_cons, ih hd.2 h]
      omega
theorem ksum_map {β : Type} (g : β → α) (L : List β) : ksum f (L.map g) = ksum (fun x => f (g x)) L := by
  unfold ksum
  rw [List.map_map]; rfl
end
end Go.Proofs.YtmgbailpmcggiaaGreat
namespace Go.Proofs.YtmgbailpmcggiaaGreat
open Go.RowKit

theorem SMap.look {P : Program} {k e t : TypeId} {w : World} {b : Nat} {m : SM} (h : SMap P k w b m) (hk : P.underlying k = some .string) (ht : P.underlying t = some (.map k e)) {z : Value} (hz : (zeroValue e).run P w = .ok z w) {s : ByteArray} (hs : s.size ≤ maxLen) :
    (Instr.lookup t (.map (some b)) (.string s) false).run P w = .ok ((m.get s.data.toList).getD z) w := by
  obtain ⟨v, ps, h1, h2⟩ := World.ownsMap.lookup h (Maps.string_keyed hk) ht hz (zd := .held z) (zp := []) rfl (keyOf_str hk hs)
  rw [SM.dat_at] at h2
  rw [h1, anyElem_inv h2]
theorem SMap.look_ok {P : Program} {k e t : TypeId} {w : World} {b : Nat} {m : SM} (h : SMap P k w b m) (hk : P.underlying k = some .string) (ht : P.underlying t = some (.map k e)) {z : Value} (hz : (zeroValue e).run P w = .ok z w) {s : ByteArray} (hs : s.size ≤ maxLen) :
    (Instr.lookup t (.map (some b)) (.string s) true).run P w = .ok (.tuple #[(m.get s.data.toList).getD z, .bool (m.hasK s.data.toList)]) w := by
  obtain ⟨v, ps, h1, h2⟩ := World.ownsMap.look_ok h (Maps.string_keyed hk) ht hz (zd := .held z) (zp := []) rfl (keyOf_str hk hs)
  rw [SM.dat_at] at h2
  rw [h1, anyElem_inv h2, SM.dat_has]
theorem wpList_slook {P : Program} (w : World) {ops : Array Oper} {rest : List Oper} {o : Oper} {a : Act} {Q : Exit → Act → World → Prop} (hg : o.guard = none) (x1 x2 : Operand) (t : TypeId) (hop : o.op = Op.lookup t x1 x2 false)
    (k e : TypeId) (hk : P.underlying k = some .string) (ht : P.underlying t = some (.map k e)) {z : Value} (hz : (zeroValue e).run P w = .ok z w) (b : Nat) (m : SM)
    (hm : a.eval x1 = .map (some b)) (hown : SMap P k w b m) (s : ByteArray) (hx : a.eval x2 = .string s) (hs : s.size ≤ maxLen)
    (hK : wpList P ops Q rest (a.put o.dst ((m.get s.data.toList).getD z)) w) :
    wpList P ops Q (o :: rest) a w := by
  refine wpList_plain hg fun K' hK' => ?_
  have hrun := hown.look hk ht hz hs
  unfold Oper.wp
  simp [execOp, hop, hm, hx, hrun, Result.andThen]
  exact hK' _ _ hK
end Go.Proofs.YtmgbailpmcggiaaGreat
namespace Go.Proofs.YtmgbailpmcggiaaGreat
open Go.RowKit

theorem SM.get_of_at {m : SM} {s : List UInt8} {c : Value} (h : ∀ zd : DataW Value, m.dat.atKey (.string s) zd = .held c) : m.get s = some c := by
  have h1 := h (.held (.int .i64 0))
  have h2 := h (.held (.int .i64 1))
  rw [SM.dat_at] at h1 h2
  cases hg : m.get s with
  | none =>
    rw [hg] at h1 h2
    simp only [Option.getD_none, DataW.held.injEq] at h1 h2
    rw [← h1] at h2
    cases h2
  | some v =>
    rw [hg] at h1
    simp only [Option.getD_some, DataW.held.injEq] at h1
    rw [h1]

/-- the range is under way: what is left of it -/
def SRange (P : Program) (k : TypeId) (w : World) (b r : Nat) (m : SM) (left : Lit → Bool) (cnt : Nat) : Prop := w.ranges P k anyElem b r m.length m.dat left cnt
theorem SRange.map {P : Program} {k : TypeId} {w : World} {b r : Nat} {m : SM} {left : Lit → Bool} {cnt : Nat} (h : SRange P k w b r m left cnt) : SMap P k w b m := World.ranges.owns h
theorem SRange.below {P : Program} {k : TypeId} {w w' : World} {b r : Nat} {m : SM} {left : Lit → Bool} {cnt : Nat} (h : SRange P k w b r m left cnt) (hb : Below w.heap.size w w') : SRange P k w' b r m left cnt := by
  obtain ⟨es, clock, since, seen, c0, h1, h2, h3, h4, h5, h6⟩ := h
  refine ⟨es, clock, since, seen, c0, ?_, h2, h3, h4, ?_, h6⟩
  · rw [hb.block b (Array.getElem?_eq_some_iff.1 h1).1]; exact h1
  · rw [hb.block r (Array.getElem?_eq_some_iff.1 h5).1]; exact h5
theorem SRange.set {P : Program} {k : TypeId} {w : World} {b r : Nat} {m : SM} {left : Lit → Bool} {cnt : Nat} (h : SRange P k w b r m left cnt) {a : Addr} (h1 : a.block ≠ b) (h2 : a.block ≠ r) (u : Value) : SRange P k (w.setCell a u) b r m left cnt := by
  obtain ⟨es, clock, since, seen, c0, k1, k2, k3, k4, k5, k6⟩ := h
  refine ⟨es, clock, since, seen, c0, ?_, k2, k3, k4, ?_, k6⟩
  · rw [Below.heap_setCell _ _ _ _ (Ne.symm h1)]; exact k1
  · rw [Below.heap_setCell _ _ _ _ (Ne.symm h2)]; exact k5
theorem SRange.left {P : Program} {k : TypeId} {w : World} {b r : Nat} {m : SM} {left : Lit → Bool} {cnt : Nat} (h : SRange P k w b r m left cnt) : w.rangeLeft b r = cnt := World.ranges.left_eq h
theorem SRange.lt {P : Program} {k : TypeId} {w : World} {b r : Nat} {m : SM} {left : Lit → Bool} {cnt : Nat} (h : SRange P k w b r m left cnt) : b < w.heap.size ∧ r < w.heap.size := by
  obtain ⟨es, clock, since, seen, c0, k1, k2, k3, k4, k5, k6⟩ := h
  exact ⟨(Array.getElem?_eq_some_iff.1 k1).1, (Array.getElem?_eq_some_iff.1 k5).1⟩

section
variable {P : Program} (w : World) {ops : Array Oper} {rest : List Oper} {o : Oper} {a : Act} {Q : Exit → Act → World → Prop}

theorem wpList_srange (hg : o.guard = none) (x : Operand) (t : TypeId) (hop : o.op = Op.range t x) (k e : TypeId) (hk : P.underlying k = some .string) (ht : P.underlying t = some (.map k e)) (b : Nat) (m : SM)
    (hm : a.eval x = .map (some b)) (hown : SMap P k w b m)
    (hK : ∀ w', SRange P k w' b w.heap.size m (fun kl => Maps.has m.dat kl) m.length → Below w.heap.size w w' → w'.heap.size = w.heap.size + 1 → wpList P ops Q rest (a.put o.dst (.pointer (some ⟨w.heap.size, 0, none⟩))) w') :
    wpList P ops Q (o :: rest) a w :=
  Go.wpList_range_own w hg x t hop k e (Maps.string_keyed hk) ht anyElem b m.length m.dat hm hown (fun w' h1 h2 h3 => by
    have : Maps.size m.dat = m.length := by simp [SM.dat, Maps.size]
    rw [this] at h1
    exact hK w' h1 ⟨h2.os, h2.tape, h2.output, h2.size, fun i hi => h2.block i hi (by simp)⟩ h3)

theorem keyOf_str_inv {k : TypeId} (hk : P.underlying k = some .string) {key : Value} {kl : Lit} (h : keyOf P k key = some kl) : ∃ x : ByteArray, key = .string x ∧ kl = .string x.data.toList := by
  cases key <;> simp [keyOf, hk, mapKey] at h
  rename_i s
  exact ⟨s, rfl, h.2.symm⟩

theorem wpList_snext (hg : o.guard = none) (it : Operand) (hop : o.op = Op.next it false) (k : TypeId) (hk : P.underlying k = some .string) (b r : Nat) (m : SM) (left : Lit → Bool) (cnt : Nat)
    (hit : a.eval it = .pointer (some ⟨r, 0, none⟩)) (h : SRange P k w b r m left cnt)
    (hDone : (∀ s, left (.string s) = false) → wpList P ops Q rest (a.put o.dst (.tuple #[.bool false])) w)
    (hMore : ∀ (x : ByteArray) (c : Value) (w' : World) (cnt' : Nat), left (.string x.data.toList) = true → m.get x.data.toList = some c → SRange P k w' b r m (fun z => left z && !z.sameKey (.string x.data.toList)) cnt' → cnt' < cnt →
      w.grownBy w' (some r) → w'.heap.size = w.heap.size → (Instr.entry (.pointer (some ⟨r, 0, none⟩))).run P w' = .ok (.tuple #[.string x, c]) w' → wpList P ops Q rest (a.put o.dst (.tuple #[.bool true, .string x, c])) w') :
    wpList P ops Q (o :: rest) a w :=
  Go.wpList_next_ranges w hg it hop k (Maps.string_keyed hk) anyElem Value.string (fun v : Value => v) (fun key kl hkey => by obtain ⟨x, rfl, -⟩ := keyOf_str_inv hk hkey; exact ⟨x, rfl⟩) (fun v y _ => ⟨v, rfl⟩) b r m.length m.dat left cnt hit h
    (fun _ hl => hDone fun s => hl _)
    (fun x c kl y w' cnt' hkey hlk hv hat hrg hlt hgr hsz hen => by
      obtain ⟨x', ex, rfl⟩ := keyOf_str_inv hk hkey
      cases ex
      simp only [anyElem, Option.some.injEq] at hv
      subst hv
      exact hMore x c w' cnt' hlk (SM.get_of_at hat) hrg hlt hgr hsz hen)
end
end Go.Proofs.YtmgbailpmcggiaaGreat
namespace Go.Proofs.YtmgbailpmcggiaaGreat
open Go.RowKit

section
variable {P : Program} {k e t : TypeId} {w : World} {b : Nat} {m : SM}
theorem SMap.tlook (h : SMap P k w b m) (K : Maps.Keyed P k) (ht : P.underlying t = some (.map k e)) {z : Value} (hz : (zeroValue e).run P w = .ok z w) {key : Value} {s : List UInt8} (hk : keyOf P k key = some (.string s)) :
    (Instr.lookup t (.map (some b)) key false).run P w = .ok ((m.get s).getD z) w := by
  obtain ⟨v, ps, h1, h2⟩ := World.ownsMap.lookup h K ht hz (zd := .held z) (zp := []) rfl hk
  rw [SM.dat_at] at h2
  rw [h1, anyElem_inv h2]
end

section
variable {P : Program} (w : World) {ops : Array Oper} {rest : List Oper} {o : Oper} {a : Act} {Q : Exit → Act → World → Prop}
theorem wpList_tlook (hg : o.guard = none) (x1 x2 : Operand) (t : TypeId) (hop : o.op = Op.lookup t x1 x2 false)
    (k e : TypeId) (K : Maps.Keyed P k) (ht : P.underlying t = some (.map k e)) {z : Value} (hz : (zeroValue e).run P w = .ok z w) (b : Nat) (m : SM)
    (hm : a.eval x1 = .map (some b)) (hown : SMap P k w b m) (key : Value) (s : List UInt8) (hx : a.eval x2 = key) (hk : keyOf P k key = some (.string s))
    (hK : wpList P ops Q rest (a.put o.dst ((m.get s).getD z)) w) :
    wpList P ops Q (o :: rest) a w := by
  refine wpList_plain hg fun K' hK' => ?_
  have hrun := hown.tlook K ht hz hk
  unfold Oper.wp
  simp [execOp, hop, hm, hx, hrun, Result.andThen]
  exact hK' _ _ hK
theorem wpList_tput (hg : o.guard = none) (x1 x2 x3 : Operand) (t : TypeId) (hop : o.op = Op.mapUpdate t x1 x2 x3)
    (k e : TypeId) (K : Maps.Keyed P k) (ht : P.underlying t = some (.map k e)) (b : Nat) (m : SM)
    (hm : a.eval x1 = .map (some b)) (hown : SMap P k w b m) (hn : m.length < maxLen) (key val : Value) (s : List UInt8) (hx : a.eval x2 = key) (hv : a.eval x3 = val) (hk : keyOf P k key = some (.string s))
    (hK : ∀ w', SMap P k w' b (m.put s val) → w.grownBy w' (some b) → wpList P ops Q rest (a.put o.dst undef) w') :
    wpList P ops Q (o :: rest) a w :=
  Go.wpList_mapUpdate_in w hg x1 x2 x3 t hop k e K ht anyElem b m.length m.dat hm hown hn _ _ _ hx hv hk (.held val) [] rfl (fun w' h1 h2 => by
    rw [SM.dat_put] at h1
    exact hK w' (SMap.of h1) h2.grown)
theorem wpList_trange (hg : o.guard = none) (x : Operand) (t : TypeId) (hop : o.op = Op.range t x) (k e : TypeId) (K : Maps.Keyed P k) (ht : P.underlying t = some (.map k e)) (b : Nat) (m : SM)
    (hm : a.eval x = .map (some b)) (hown : SMap P k w b m)
    (hK : ∀ w', SRange P k w' b w.heap.size m (fun kl => Maps.has m.dat kl) m.length → Below w.heap.size w w' → w'.heap.size = w.heap.size + 1 → wpList P ops Q rest (a.put o.dst (.pointer (some ⟨w.heap.size, 0, none⟩))) w') :
    wpList P ops Q (o :: rest) a w :=
  Go.wpList_range_own w hg x t hop k e K ht anyElem b m.length m.dat hm hown (fun w' h1 h2 h3 => by
    have : Maps.size m.dat = m.length := by simp [SM.dat, Maps.size]
    rw [this] at h1
    exact hK w' h1 ⟨h2.os, h2.tape, h2.output, h2.size, fun i hi => h2.block i hi (by simp)⟩ h3)
theorem wpList_tnext {α : Type} (mk : α → Value) (tx : α → List UInt8) (hg : o.guard = none) (it : Operand) (hop : o.op = Op.next it false) (k : TypeId) (K : Maps.Keyed P k) (hinv : ∀ key kl, keyOf P k key = some kl → ∃ x, key = mk x ∧ kl = .string (tx x)) (hinj : ∀ x y, mk x = mk y → x = y) (b r : Nat) (m : SM) (left : Lit → Bool) (cnt : Nat)
    (hit : a.eval it = .pointer (some ⟨r, 0, none⟩)) (h : SRange P k w b r m left cnt)
    (hDone : (∀ s, left (.string s) = false) → wpList P ops Q rest (a.put o.dst (.tuple #[.bool false])) w)
    (hMore : ∀ (x : α) (c : Value) (w' : World) (cnt' : Nat), left (.string (tx x)) = true → m.get (tx x) = some c → SRange P k w' b r m (fun z => left z && !z.sameKey (.string (tx x))) cnt' → cnt' < cnt →
      w.grownBy w' (some r) → w'.heap.size = w.heap.size → (Instr.entry (.pointer (some ⟨r, 0, none⟩))).run P w' = .ok (.tuple #[mk x, c]) w' → wpList P ops Q rest (a.put o.dst (.tuple #[.bool true, mk x, c])) w') :
    wpList P ops Q (o :: rest) a w :=
  Go.wpList_next_ranges w hg it hop k K anyElem mk (fun v : Value => v) (fun key kl hkey => by obtain ⟨x, rfl, -⟩ := hinv key kl hkey; exact ⟨x, rfl⟩) (fun v y _ => ⟨v, rfl⟩) b r m.length m.dat left cnt hit h
    (fun _ hl => hDone fun s => hl _)
    (fun x c kl y w' cnt' hkey hlk hv hat hrg hlt hgr hsz hen => by
      obtain ⟨x', ex, rfl⟩ := hinv _ _ hkey
      obtain rfl := hinj _ _ ex
      simp only [anyElem, Option.some.injEq] at hv
      subst hv
      exact hMore x c w' cnt' hlk (SM.get_of_at hat) hrg hlt hgr hsz hen)
end
end Go.Proofs.YtmgbailpmcggiaaGreat
namespace Go.Proofs.YtmgbailpmcggiaaGreat
open Go.RowKit

abbrev kV (u : ByteArray) (b : Int) : Value := .agg #[.string u, .int .i64 b]
def kT (u : ByteArray) (b : Int) : List UInt8 := keyBytes [.string u.data.toList, .int .i64 b]
theorem gkeyed : Maps.Keyed Tryz.prog 60 := Maps.Keyed.of_law (deep_law_laid Tryz.laidOut (m := 9) (by decide) (of_decide_eq_true (by kernel_rfl)) (by kernel_rfl) (by kernel_rfl))
theorem lits_str {u : ByteArray} (hu : u.size ≤ maxLen) (d : Nat) : Tryz.prog.keyLits (d + 1) 9 [.string u] = some [.string u.data.toList] := by
  unfold Program.keyLits
  rw [Tryz.underlying9]
  simp [hu]
theorem lits_int {b : Int} (hb : (Lit.int .i64 b).wf = true) (d : Nat) : Tryz.prog.keyLits (d + 1) 3 [.int .i64 b] = some [.int .i64 b] := by
  unfold Program.keyLits
  rw [Tryz.underlying3]
  simp [hb]
theorem lits_k {u : ByteArray} {b : Int} (hu : u.size ≤ maxLen) (hb : (Lit.int .i64 b).wf = true) (d : Nat) : Tryz.prog.keyLits (d + 2) 60 [.string u, .int .i64 b] = some [.string u.data.toList, .int .i64 b] := by
  unfold Program.keyLits
  rw [Tryz.underlying60]
  have c0 : Tryz.prog.cellsOf 60 = 2 := by kernel_rfl
  have c1 : Tryz.prog.cellsOf 9 = 1 := by kernel_rfl
  have c2 : Tryz.prog.cellsOf 3 = 1 := by kernel_rfl
  simp [c0, c1, c2, lits_str hu, lits_int hb]
theorem keyOf_k {u : ByteArray} {b : Int} (hu : u.size ≤ maxLen) (hb : (Lit.int .i64 b).wf = true) : keyOf Tryz.prog 60 (kV u b) = some (.string (kT u b)) := by
  unfold keyOf
  rw [Tryz.underlying60]
  have h1 : Tryz.prog.keyType 60 = true := by kernel_rfl
  have h2 : (kV u b).formed Tryz.prog 60 = true := by
    unfold Value.formed
    have c0 : Tryz.prog.cellsOf 60 = 2 := by kernel_rfl
    rw [Tryz.underlying60]
    simp [c0]
  have h3 : Tryz.prog.types.size + 1 = (Tryz.prog.types.size - 1) + 2 := by kernel_rfl
  have h4 := lits_k hu hb (Tryz.prog.types.size - 1)
  rw [← h3] at h4
  simp only [h1, h2]
  have h5 : (kV u b).cells.toList = [.string u, .int .i64 b] := rfl
  rw [h5, h4]
  rfl
set_option maxRecDepth 100000 in
theorem lits_str_inv {v : Value} {d : Nat} {ls : List Lit} (h : Tryz.prog.keyLits (d + 1) 9 [v] = some ls) : ∃ u : ByteArray, v = .string u ∧ u.size ≤ maxLen ∧ ls = [.string u.data.toList] := by
  unfold Program.keyLits at h
  rw [Tryz.underlying9] at h
  cases v <;> simp at h
  rename_i u
  exact ⟨u, rfl, h.1, h.2.symm⟩
set_option maxRecDepth 100000 in
theorem lits_int_inv {v : Value} {d : Nat} {ls : List Lit} (h : Tryz.prog.keyLits (d + 1) 3 [v] = some ls) : ∃ b : Int, v = .int .i64 b ∧ (Lit.int .i64 b).wf = true ∧ ls = [.int .i64 b] := by
  unfold Program.keyLits at h
  rw [Tryz.underlying3] at h
  cases v <;> simp at h
  rename_i q b
  obtain ⟨⟨rfl, h1⟩, h2⟩ := h
  exact ⟨b, rfl, h1, h2.symm⟩
set_option maxRecDepth 100000 in
theorem keyOf_k_inv (key : Value) (kl : Lit) (h : keyOf Tryz.prog 60 key = some kl) : ∃ x : ByteArray × Int, key = kV x.1 x.2 ∧ kl = .string (kT x.1 x.2) ∧ x.1.size ≤ maxLen ∧ (Lit.int .i64 x.2).wf = true := by
  unfold keyOf at h
  rw [Tryz.underlying60] at h
  have h1 : Tryz.prog.keyType 60 = true := by kernel_rfl
  simp only [h1, Bool.true_and] at h
  by_cases hf : key.formed Tryz.prog 60 = true
  · rw [if_pos hf] at h
    have c0 : Tryz.prog.cellsOf 60 = 2 := by kernel_rfl
    have c1 : Tryz.prog.cellsOf 9 = 1 := by kernel_rfl
    have c2 : Tryz.prog.cellsOf 3 = 1 := by kernel_rfl
    unfold Value.formed at hf
    rw [Tryz.underlying60] at hf
    cases key <;> simp at hf
    rename_i cs
    rw [c0] at hf
    obtain ⟨l⟩ := cs
    match l, hf with
    | [x, y], _ =>
      obtain ⟨N, h3⟩ : ∃ N, Tryz.prog.types.size + 1 = N + 2 := ⟨Tryz.prog.types.size - 1, by kernel_rfl⟩
      rw [h3] at h
      have h5 : (Value.agg #[x, y]).cells.toList = [x, y] := rfl
      rw [h5] at h
      unfold Program.keyLits at h
      rw [Tryz.underlying60] at h
      simp [c0, c1, c2] at h
      cases hx : Tryz.prog.keyLits (N + 1) 9 [x] with
      | none => rw [hx] at h; simp at h
      | some lx =>
        rw [hx] at h
        cases hy : Tryz.prog.keyLits (N + 1) 3 [y] with
        | none => rw [hy] at h; simp at h
        | some ly =>
          rw [hy] at h
          obtain ⟨u, rfl, hu, rfl⟩ := lits_str_inv hx
          obtain ⟨b, rfl, hb, rfl⟩ := lits_int_inv hy
          simp at h
          exact ⟨(u, b), rfl, h.symm, hu, hb⟩
  · rw [if_neg hf] at h; cases h
theorem kT_inj {u v : ByteArray} {b c : Int} (hu : u.size ≤ maxLen) (hb : (Lit.int .i64 b).wf = true) (hv : v.size ≤ maxLen) (hc : (Lit.int .i64 c).wf = true) (h : kT u b = kT v c) : u = v ∧ b = c := by
  have h1 := keyOf_k hu hb
  have h2 := keyOf_k hv hc
  rw [h] at h1
  have h3 := gkeyed.inj h1 h2
  simp only [Value.agg.injEq, Array.mk.injEq, List.cons.injEq, Value.string.injEq, Value.int.injEq, true_and, and_true] at h3
  exact h3
end Go.Proofs.YtmgbailpmcggiaaGreat
namespace Go.Proofs.YtmgbailpmcggiaaGreat
open Go

/-- the post of the region without its last operation: that operation, then the region's own -/
def popQ (P : Program) (ops : Array Oper) (Q : Exit → Act → World → Prop) (n : Nat) : Exit → Act → World → Prop
  | .normal, a, w => wpOp P ops Q n (fun a' w' => Q .normal a' w') a w
  | e, a, w => Q e a w

/-- each operation waits only for earlier ones, and is guarded only by earlier ones -/
def backB (ops : Array Oper) : Bool := (List.range ops.size).all fun j => match ops[j]? with
  | some o => (o.after.all fun e => !Region.binds .any e || decide (e.on < j)) && (match o.guard with | some (g, _) => decide (g < j) | none => true)
  | none => false
theorem backB_spec {ops : Array Oper} (h : backB ops = true) {j : Nat} {o : Oper} (ho : ops[j]? = some o) :
    (∀ e ∈ o.after, Region.binds .any e = true → e.on < j) ∧ ∀ g b, o.guard = some (g, b) → g < j := by
  have hj : j < ops.size := (Array.getElem?_eq_some_iff.1 ho).1
  have h1 := List.all_eq_true.1 h j (List.mem_range.2 hj)
  simp only [ho, Bool.and_eq_true] at h1
  refine ⟨fun e he hb => ?_, fun g b hg => ?_⟩
  · have := Array.all_eq_true_iff_forall_mem.1 h1.1 e he
    simp only [hb, Bool.not_true, Bool.false_or, decide_eq_true_eq] at this
    exact this
  · have := h1.2
    simp only [hg, decide_eq_true_eq] at this
    exact this

theorem upon_pop {P : Program} {o : Oper} {a : Act} {K : Act → World → Prop} {ops : Array Oper} {Q : Exit → Act → World → Prop} {n : Nat} (r : Result Next) (h : o.upon P a K (popQ P ops Q n) r) : o.upon P a K Q r := by
  have hl : LetsOut (popQ P ops Q n) → LetsOut Q := fun ⟨a, w, h⟩ => ⟨a, w, h⟩
  cases r with
  | ok nx w' =>
    cases nx <;> simp only [Oper.upon] at h ⊢ <;>
      first
        | exact h
        | exact Calls.mono h (fun e w'' he => by cases e <;> first | exact he | exact hl he)
  | halt x w' => cases x <;> simp only [Oper.upon] at h ⊢ <;> exact h
theorem wpOp_pop {P : Program} {ops : Array Oper} {Q : Exit → Act → World → Prop} {n i : Nat} {K : Act → World → Prop} {a : Act} {w : World} (hn : ops.size = n + 1) (hb : backB ops = true) (hi : i < n) (h : wpOp P ops.pop (popQ P ops Q n) i K a w) : wpOp P ops Q i K a w := by
  have hpop : ∀ j, j < n → ops.pop[j]? = ops[j]? := fun j hj => by rw [Array.getElem?_pop, if_pos (by omega)]
  unfold wpOp at *
  rw [hpop i hi] at h
  cases ho : ops[i]? with
  | none => simp only [ho] at h ⊢; exact h
  | some o =>
    simp only [ho] at h ⊢
    have hg := (backB_spec hb ho).2
    have hw : Region.wanted o (yielded ops.pop a.tmps) = Region.wanted o (yielded ops a.tmps) := by
      unfold Region.wanted
      cases hgu : o.guard with
      | none => rfl
      | some x =>
        obtain ⟨g, b⟩ := x
        have := hg g b hgu
        simp only
        unfold yielded
        rw [hpop g (by omega)]
    rw [hw] at h
    by_cases hwt : Region.wanted o (yielded ops a.tmps) = true
    · rw [if_pos hwt] at h ⊢
      rcases h with h | ⟨h1, ⟨a', w', h2⟩⟩
      · exact .inl (upon_pop _ h)
      · exact .inr ⟨h1, ⟨a', w', h2⟩⟩
    · rw [if_neg hwt] at h ⊢
      exact h

theorem getD_push {l : Array Bool} {j : Nat} {d : Bool} (h : j < l.size) : (l.push false).getD j d = l.getD j d := by
  simp [Array.getElem?_push, Nat.ne_of_lt h]

theorem wpAny_pop {P : Program} {ops : Array Oper} {Q : Exit → Act → World → Prop} {n : Nat} (hn : ops.size = n + 1) (hb : backB ops = true) (hs : Region.sinkB .any ops n = true) :
    ∀ (fuel : Nat) (listed : Array Bool) (a : Act) (w : World), listed.size = n → HeadInv .any ops n (listed.push false) → wpAny P .any ops.pop (popQ P ops Q n) fuel listed a w → wpAny P .any ops Q (fuel + 1) (listed.push false) a w := by
  have hpop : ∀ j, j < n → ops.pop[j]? = ops[j]? := fun j hj => by rw [Array.getElem?_pop, if_pos (by omega)]
  have hc : Region.chainB .any ops n = true := by
    unfold Region.chainB
    rw [List.all_eq_true]
    intro t ht
    have := List.mem_range.1 ht
    simp; left; omega
  obtain ⟨on, hon⟩ : ∃ on, ops[n]? = some on := ⟨ops[n], Array.getElem?_eq_getElem (by omega)⟩
  have hready : ∀ (listed : Array Bool), listed.size = n → ∀ i, i < n → (i ∈ Region.ready .any ops (listed.push false) ↔ i ∈ Region.ready .any ops.pop listed) := fun listed hl i hi => by
    rw [mem_ready, mem_ready, getD_push (by omega), hpop i hi]
    refine and_congr_right fun _ => ⟨fun ⟨o, ho, h⟩ => ⟨o, ho, fun e he hbe => ?_⟩, fun ⟨o, ho, h⟩ => ⟨o, ho, fun e he hbe => ?_⟩⟩
    · have h1 := h e he hbe
      have h2 := (backB_spec hb ho).1 e he hbe
      rwa [getD_push (by omega)] at h1
    · have h1 := h e he hbe
      have h2 := (backB_spec hb ho).1 e he hbe
      rwa [getD_push (by omega)]
  -- where not all have come up, one may come up
  have hsome : ∀ (listed : Array Bool), listed.size = n → (∃ j, j < n ∧ listed.getD j true = false) → Region.ready .any ops.pop listed ≠ [] := fun listed hl hex => by
    obtain ⟨j, hj, hmin⟩ : ∃ j, (j < n ∧ listed.getD j true = false) ∧ ∀ k, k < j → ¬ (k < n ∧ listed.getD k true = false) := by
      obtain ⟨j0, hj0⟩ := hex
      induction j0 using Nat.strongRecOn with
      | _ j0 ih =>
        by_cases h : ∃ k, k < j0 ∧ (k < n ∧ listed.getD k true = false)
        · obtain ⟨k, hk, hk2⟩ := h
          exact ih k hk hk2
        · exact ⟨j0, hj0, fun k hk hk2 => h ⟨k, hk, hk2⟩⟩
    obtain ⟨hjn, hjl⟩ := hj
    obtain ⟨o, ho⟩ : ∃ o, ops[j]? = some o := ⟨ops[j], Array.getElem?_eq_getElem (by omega)⟩
    intro he
    have : j ∈ Region.ready .any ops.pop listed := by
      rw [mem_ready, hpop j hjn]
      refine ⟨hjl, o, ho, fun e hee hbe => ?_⟩
      have h2 := (backB_spec hb ho).1 e hee hbe
      have h3 := hmin e.on h2
      have h4 : e.on < listed.size := by omega
      have h5 : ¬ listed.getD e.on true = false := fun h => h3 ⟨by omega, h⟩
      simp [h4] at h5 ⊢
      exact h5
    rw [he] at this
    cases this
  intro fuel
  induction fuel with
  | zero =>
    intro listed a w hl inv H
    by_cases hex : ∃ j, j < n ∧ listed.getD j true = false
    · exact absurd H.1 (hsome listed hl hex)
    · have hall : ∀ j, j < n → listed.getD j true = true := fun j hj => by
        cases h : listed.getD j true
        · exact absurd ⟨j, hj, h⟩ hex
        · rfl
      have hnr : n ∈ Region.ready .any ops (listed.push false) := by
        rw [mem_ready]
        refine ⟨by rw [← hl]; simp, on, hon, fun e he hbe => ?_⟩
        have h2 := (backB_spec hb hon).1 e he hbe
        have h3 := hall e.on h2
        have h4 : e.on < listed.size := by omega
        rw [getD_push h4]
        simp [h4] at h3 ⊢
        exact h3
      refine ⟨fun h => (by rw [h] at hnr; cases hnr), fun i hi => ?_⟩
      have hin : i < n + 1 := by
        obtain ⟨-, o, ho, -⟩ := mem_ready.1 hi
        have := (Array.getElem?_eq_some_iff.1 ho).1
        omega
      by_cases hi2 : i < n
      · have h5 := (mem_ready.1 hi).1
        rw [getD_push (by omega), hall i hi2] at h5
        cases h5
      · obtain rfl : i = n := by omega
        refine wpOp_mono (fun a' w' h' => wpAny_done ?_ h' 0) H.2
        rw [List.eq_nil_iff_forall_not_mem]
        intro k hk
        obtain ⟨h6, o, ho, -⟩ := mem_ready.1 hk
        have hk2 := (Array.getElem?_eq_some_iff.1 ho).1
        by_cases hki : k = i
        · subst hki
          simp [hl] at h6
        · have h7 : k < listed.size := by omega
          have h8 := hall k (by omega)
          rw [getD_set_ne true (Ne.symm hki), getD_push h7, h8] at h6
          cases h6
  | succ fuel ih =>
    intro listed a w hl inv H
    by_cases hex : ∃ j, j < n ∧ listed.getD j true = false
    · have hne := hsome listed hl hex
      obtain ⟨j, hj, hjl⟩ := hex
      have hnn : ∀ t, n ≤ t → t ∉ Region.ready .any ops (listed.push false) := tail_waits hs hc (by omega) inv (n - j) j rfl hj (by rw [getD_push (by omega)]; exact hjl)
      refine ⟨fun h => absurd h ?_, fun i hi => ?_⟩
      · obtain ⟨k, hk⟩ := List.exists_mem_of_ne_nil _ hne
        have hkn : k < n := by
          obtain ⟨-, o, ho, -⟩ := mem_ready.1 hk
          have := (Array.getElem?_eq_some_iff.1 ho).1
          simp at this; omega
        intro h0
        have := (hready listed hl k hkn).2 hk
        rw [h0] at this
        cases this
      · have hin : i < n := Nat.lt_of_not_le fun h => hnn i h hi
        have hi' := (hready listed hl i hin).1 hi
        refine wpOp_mono (fun a' w' h' => ?_) (wpOp_pop hn hb hin (H.2 i hi'))
        have hset : (listed.push false).setIfInBounds i true = (listed.setIfInBounds i true).push false := by
          apply Array.ext_getElem?
          intro k
          simp only [Array.getElem?_setIfInBounds, Array.getElem?_push, Array.size_setIfInBounds, Array.size_push]
          by_cases hki : i = k
          · subst hki
            simp [hl, hin, Nat.ne_of_lt hin, Nat.lt_succ_of_lt hin]
          · simp [hki]
        rw [hset]
        refine ih _ a' w' (by simp [hl]) ?_ h'
        rw [← hset]
        exact inv.set hi hin
    · have hall : ∀ j, j < n → listed.getD j true = true := fun j hj => by
        cases h : listed.getD j true
        · exact absurd ⟨j, hj, h⟩ hex
        · rfl
      have hnil : Region.ready .any ops.pop listed = [] := by
        rw [List.eq_nil_iff_forall_not_mem]
        intro k hk
        obtain ⟨h6, o, ho, -⟩ := mem_ready.1 hk
        have hk2 := (Array.getElem?_eq_some_iff.1 ho).1
        rw [hall k (by simp at hk2; omega)] at h6
        cases h6
      have HQ := H.1 hnil
      have hnr : n ∈ Region.ready .any ops (listed.push false) := by
        rw [mem_ready]
        refine ⟨by rw [← hl]; simp, on, hon, fun e he hbe => ?_⟩
        have h2 := (backB_spec hb hon).1 e he hbe
        have h3 := hall e.on h2
        have h4 : e.on < listed.size := by omega
        rw [getD_push h4]
        simp [h4] at h3 ⊢
        exact h3
      refine ⟨fun h => (by rw [h] at hnr; cases hnr), fun i hi => ?_⟩
      have hin : i < n + 1 := by
        obtain ⟨-, o, ho, -⟩ := mem_ready.1 hi
        have := (Array.getElem?_eq_some_iff.1 ho).1
        omega
      by_cases hi2 : i < n
      · have h5 := (mem_ready.1 hi).1
        rw [getD_push (by omega), hall i hi2] at h5
        cases h5
      · obtain rfl : i = n := by omega
        refine wpOp_mono (fun a' w' h' => wpAny_done ?_ h' _) HQ
        rw [List.eq_nil_iff_forall_not_mem]
        intro k hk
        obtain ⟨h6, o, ho, -⟩ := mem_ready.1 hk
        have hk2 := (Array.getElem?_eq_some_iff.1 ho).1
        by_cases hki : k = i
        · subst hki
          simp [hl] at h6
        · have h7 : k < listed.size := by omega
          have h8 := hall k (by omega)
          rw [getD_set_ne true (Ne.symm hki), getD_push h7, h8] at h6
          cases h6

/-- what is asked of a region whose last operation is to be taken off -/
def popB (ops : Array Oper) : Bool := backB ops && Region.sinkB .any ops (ops.size - 1) && decide (0 < ops.size)
/-- A region that draws its order: it is walked without its last operation, which comes behind all others. -/
theorem wp_region_pop {P : Program} {ops : Array Oper} {Q : Exit → Act → World → Prop} {S : World → Prop} {id : Nat} {a : Act} {w : World} (hm : P.follows .mixedOrders = true) (hp : popB ops = true)
    (h : wpAnyH P .any ops.pop (popQ P ops Q (ops.size - 1)) S (ops.size - 1) (Array.replicate (ops.size - 1) false) a w.drew) : (Code.region id ops true).wp P Q a w := by
  unfold popB at hp
  simp only [Bool.and_eq_true, decide_eq_true_eq] at hp
  obtain ⟨⟨hb, hs⟩, h0⟩ := hp
  obtain ⟨n, hn⟩ : ∃ n, ops.size = n + 1 := ⟨ops.size - 1, by omega⟩
  rw [hn, Nat.add_sub_cancel] at hs h
  refine wp_region_any hm ?_
  rw [hn, show Array.replicate (n + 1) false = (Array.replicate n false).push false from by rw [← Array.replicate_succ]]
  have inv : HeadInv .any ops n ((Array.replicate n false).push false) := by
    rw [← Array.replicate_succ]
    refine ⟨by simp [hn], fun j oj hj hl => ?_, fun t h1 h2 => ?_⟩
    · rw [getD_replicate_false] at hl
      cases hl
    · simp [show t < n + 1 from by omega]
  exact wpAny_pop hn hb hs n _ a _ (by simp) inv (wpAny_of_held _ _ _ _ h)
end Go.Proofs.YtmgbailpmcggiaaGreat
namespace Go.Proofs.YtmgbailpmcggiaaGreat
open Go.RowKit Go

/-- a world behind w, in which nothing that was there has turned -/
structure Past (w : World) where
  val : World
  h : Below w.heap.size w val
instance (w : World) : Nonempty (Past w) := ⟨⟨w, Below.refl _ _⟩⟩
def Past.here (w : World) : Past w := ⟨w, Below.refl _ _⟩
def Past.more {w : World} (s : Past w) {w' : World} (hb : Below s.val.heap.size s.val w') : Past w := ⟨w', below_and s.h hb⟩

theorem Past.cell {w : World} {a : Addr} {v : Value} (h : w.cell? a = some v) : ∀ s : Past w, s.val.cell? a = some v := fun s => cell_kept h s.h
theorem Past.blk {w : World} {g : Nat} {cs : List Value} {t : TypeId} (h : Blk w g cs t) {j : Nat} {u : Value} (hj : cs[j]? = some u) : ∀ s : Past w, s.val.cell? ⟨g, j, none⟩ = some u := fun s => cell_kept (h.cell hj) s.h

section
variable {P : Program}
/-- a call that answers v in the world at hand, and makes memory alone -/
theorem past_call {f : FuncId} {args : Array Value} {w : World} {s : Past w} {v : Value}
    (h : Calls P f args s.val fun e w' => e = .returned v ∧ Below s.val.heap.size s.val w') : Calls P f args s.val fun e w'' => e = .returned v ∧ ∃ s' : Past w, w'' = s'.val :=
  h.mono fun _ _ ⟨he, hb⟩ => ⟨he, s.more hb, rfl⟩
theorem past_call_same {f : FuncId} {args : Array Value} {w : World} {s : Past w} {v : Value}
    (h : Calls P f args s.val fun e w' => e = .returned v ∧ s.val = w') : Calls P f args s.val fun e w'' => e = .returned v ∧ ∃ s' : Past w, w'' = s'.val :=
  h.mono fun _ _ ⟨he, hb⟩ => ⟨he, s, hb.symm⟩

theorem quiet_weaken {ops : Array Oper} {C : World → Prop} {Q Q' : Act → Prop} (h : ∀ a, Q a → Q' a) : ∀ (l : List Oper) (a : Act), wpQuiet P ops C Q l a → wpQuiet P ops C Q' l a
  | [], a, hq => h a hq
  | o :: rest, a, hq => by
    unfold wpQuiet at hq ⊢
    split
    · rename_i hw
      rw [if_pos hw] at hq
      exact Oper.quiet_mono (fun a' h' => quiet_weaken h rest a' h') hq
    · rename_i hw
      rw [if_neg hw] at hq
      exact quiet_weaken h rest _ hq

/-- the region, walked in the order of the text -/
theorem wp_region_past {id : Nat} {Q : Exit → Act → World → Prop} {a : Act} {w : World} {l : List Oper} (hm : P.follows .mixedOrders = true) (hB : Region.lexB .any l.toArray = true)
    (h : wpQuiet P l.toArray (fun w' => ∃ s : Past w, w' = s.val) (fun a' => ∀ w', (∃ s : Past w, w' = s.val) → Q .normal a' w') l a) : (Code.region id l.toArray true).wp P Q a w :=
  wp_region_quiet (C := fun w' => ∃ s : Past w, w' = s.val) hm hB ⟨⟨{ w with drawn := w.drawn + 1 }, below_drewN 1⟩, rfl⟩ (by simpa using h)

/-- the same, its last operation (which none waits for) behind all others -/
theorem wp_region_past_pop {id : Nat} {Q : Exit → Act → World → Prop} {a : Act} {w : World} {l : List Oper} {o : Oper} (hm : P.follows .mixedOrders = true) (hB : Region.lexB .any l.toArray = true) (hp : popB (l ++ [o]).toArray = true)
    (h : wpQuiet P l.toArray (fun w' => ∃ s : Past w, w' = s.val) (fun a' => ∀ w', (∃ s : Past w, w' = s.val) → popQ P (l ++ [o]).toArray Q l.length .normal a' w') l a) : (Code.region id (l ++ [o]).toArray true).wp P Q a w := by
  have hn : (l ++ [o]).toArray.size = l.length + 1 := by simp
  have hpop : (l ++ [o]).toArray.pop = l.toArray := by simp
  unfold popB at hp
  simp only [Bool.and_eq_true, decide_eq_true_eq] at hp
  obtain ⟨⟨hb, hs⟩, -⟩ := hp
  rw [hn, Nat.add_sub_cancel] at hs
  simp only [Region.lexB, Bool.and_eq_true] at hB
  refine wp_region_any hm ?_
  rw [hn, show Array.replicate (l.length + 1) false = (Array.replicate l.length false).push false from by rw [← Array.replicate_succ]]
  have inv : HeadInv .any (l ++ [o]).toArray l.length ((Array.replicate l.length false).push false) := by
    rw [← Array.replicate_succ]
    refine ⟨by simp, fun j oj hj hl => ?_, fun t h1 h2 => ?_⟩
    · rw [getD_replicate_false] at hl
      cases hl
    · simp [show t < l.length + 1 from by omega]
  refine wpAny_pop hn hb hs l.length _ a _ (by simp) inv ?_
  rw [hpop]
  refine wpAny_of_quiet (C := fun w' => ∃ s : Past w, w' = s.val) (Q := fun a' => ∀ w', (∃ s : Past w, w' = s.val) → popQ P (l ++ [o]).toArray Q l.length .normal a' w') (fun _ w' hw' h => h w' hw') _ _ _ _ ⟨⟨{ w with drawn := w.drawn + 1 }, below_drewN 1⟩, rfl⟩ ?_
  have := wpAnyQ_lex (P := P) (C := fun w' => ∃ s : Past w, w' = s.val) (md := .any) hB.1 l 0 (Array.replicate l.length false) a (by simp) (by simpa using hB.2) h
  simpa using this

/-- the same, of a region that is written out; the last operation as a plain walk has it -/
theorem wp_region_past_last {id : Nat} {Q : Exit → Act → World → Prop} {a : Act} {w : World} {L : List Oper} {o : Oper} (hL : L.getLast? = some o) (hm : P.follows .mixedOrders = true) (hB : Region.lexB .any L.dropLast.toArray = true) (hp : popB L.toArray = true)
    (h : wpQuiet P L.dropLast.toArray (fun w' => ∃ s : Past w, w' = s.val) (fun a' => ∀ w', (∃ s : Past w, w' = s.val) → wpList P L.toArray Q [o] a' w') L.dropLast a) : (Code.region id L.toArray true).wp P Q a w := by
  have e : L.dropLast ++ [o] = L := by
    cases hq : L.reverse with
    | nil => rw [List.reverse_eq_nil_iff] at hq; subst hq; cases hL
    | cons c r =>
      have hr : L = r.reverse ++ [c] := by rw [← List.reverse_reverse L, hq, List.reverse_cons]
      rw [hr] at hL ⊢
      simp at hL
      simp [hL]
  have key : (Code.region id (L.dropLast ++ [o]).toArray true).wp P Q a w := by
    refine wp_region_past_pop hm hB (by rw [e]; exact hp) ?_
    rw [e]
    refine quiet_weaken (fun a' h' w' hw' => ?_) _ _ h
    have h2 := h' w' hw'
    have hget : L.toArray[L.dropLast.length]? = some o := by
      have : (L.dropLast ++ [o])[L.dropLast.length]? = some o := by simp
      rw [e] at this
      simpa using this
    show wpOp P L.toArray Q L.dropLast.length (fun a' w' => Q .normal a' w') a' w'
    unfold wpOp
    rw [hget]
    exact h2
  rwa [e] at key
end
end Go.Proofs.YtmgbailpmcggiaaGreat
namespace Go.Proofs.YtmgbailpmcggiaaGreat
open Go.RowKit

/-- may a byte stand in a name? -/
def nameC (c : UInt8) : Bool := decide (97 ≤ c.toNat ∧ c.toNat ≤ 122) || decide (48 ≤ c.toNat ∧ c.toNat ≤ 57) || decide (c.toNat = 45)
/-- is it a name of at most so many? -/
def nameB (m : Nat) (l : List UInt8) : Bool := decide (1 ≤ l.length ∧ l.length ≤ m) && decide (97 ≤ (l.getD 0 0).toNat ∧ (l.getD 0 0).toNat ≤ 122) && l.all nameC
theorem nameB_no {m : Nat} {l : List UInt8} {k : Nat} (hk : k < l.length) (h : nameC l[k] = false) : nameB m l = false := by
  unfold nameB
  have : l.all nameC = false := by
    rw [← Bool.not_eq_true, List.all_eq_true]
    intro hh
    have := hh _ (List.getElem_mem hk)
    rw [h] at this; cases this
  rw [this, Bool.and_false]

/-- '[]byte(s)': where it lies -/
theorem qconv_bytes (s : ByteArray) (w : World) : ∃ wq cap, (convert 9 101 (.string s)).run Tryz.prog w = .ok (.slice (some ⟨w.heap.size, 0, none⟩) s.size cap) wq ∧ Below w.heap.size w wq ∧ ∀ j, j < s.size → wq.cell? ⟨w.heap.size, j, none⟩ = some (.int .u8 (s.data.toList.getD j 0).toNat) :=
  ⟨_, _, Lib.run_convert_string_bytes w 9 101 5 s Tryz.underlying9 Tryz.underlying101 Tryz.underlying5,
    ⟨rfl, rfl, rfl, by rw [Lib.bytesWorld_size]; omega, fun j hj => Lib.bytesWorld_at_old w _ s j hj⟩, fun j hj => Lib.bytesWorld_cell w _ s j hj⟩

set_option maxRecDepth 100000 in
set_option maxHeartbeats 1000000 in
theorem sname_any (s : ByteArray) (w : World) :
    Calls Tryz.prog 53 #[.string s] w fun e w' => e = .returned (.bool (nameB 16 s.data.toList)) ∧ Below w.heap.size w w' := by
  obtain ⟨wq, cap, hcv, hbl, hcell⟩ := qconv_bytes s w
  obtain ⟨l, hl⟩ : ∃ l, l = s.data.toList := ⟨_, rfl⟩
  have hsz : s.size = l.length := by rw [hl]; simp
  rw [← hl]
  by_cases h0 : s.size < 1
  · have HR : Hid (nameB 16 l = false) := Lib.hid (by unfold nameB; rw [decide_eq_false (by omega)]; rfl)
    have e0 : decide ((s.size : Int) < 1) = true := by simp; omega
    clear hcv hbl hcell hl hsz
    go_enter Tryz.func53, Tryz.ntmps53
    go_wp2
    go_ret
    exact ⟨ret_bool HR.out.symm, Below.refl _ _⟩
  have e0 : decide ((s.size : Int) < 1) = false := by simp; omega
  by_cases h1 : 16 < s.size
  · have HR : Hid (nameB 16 l = false) := Lib.hid (by unfold nameB; rw [decide_eq_false (by omega)]; rfl)
    have e1 : decide ((16 : Int) < (s.size : Int)) = true := by simp; omega
    clear hcv hbl hcell hl hsz
    go_enter Tryz.func53, Tryz.ntmps53
    go_wp2
    go_ret
    exact ⟨ret_bool HR.out.symm, Below.refl _ _⟩
  have e1 : decide ((16 : Int) < (s.size : Int)) = false := by simp; omega
  have hl1 : l.length ≤ 16 := by omega
  have i0 : 0 < s.size := by omega
  obtain ⟨c0, hc0⟩ : ∃ c0, c0 = s[0] := ⟨_, rfl⟩
  have HC0 : Hid (l.getD 0 0 = c0) := Lib.hid (by
    subst hl
    rw [hc0, List.getD_eq_getElem?_getD, List.getElem?_eq_getElem (by omega)]
    rfl)
  have hcc : s[0] = c0 := hc0.symm
  clear hc0
  by_cases h2 : c0.toNat < 97
  · have HR : Hid (nameB 16 l = false) := Lib.hid (by unfold nameB; rw [HC0.out, decide_eq_false (p := 97 ≤ c0.toNat ∧ _) (by omega)]; simp)
    have e2 : decide ((c0.toNat : Int) < 97) = true := by simp; omega
    clear hcv hbl hcell hl hsz h0 h1
    go_enter Tryz.func53, Tryz.ntmps53
    go_wp2
    go_ret
    exact ⟨ret_bool HR.out.symm, Below.refl _ _⟩
  have e2 : decide ((c0.toNat : Int) < 97) = false := by simp; omega
  by_cases h3 : 122 < c0.toNat
  · have HR : Hid (nameB 16 l = false) := Lib.hid (by unfold nameB; rw [HC0.out, decide_eq_false (p := 97 ≤ c0.toNat ∧ _) (by omega)]; simp)
    have e3 : decide ((122 : Int) < (c0.toNat : Int)) = true := by simp; omega
    clear hcv hbl hcell hl hsz h0 h1
    go_enter Tryz.func53, Tryz.ntmps53
    go_wp2
    go_ret
    exact ⟨ret_bool HR.out.symm, Below.refl _ _⟩
  have e3 : decide ((122 : Int) < (c0.toNat : Int)) = false := by simp; omega
  have HH : Hid (nameB 16 l = l.all nameC) := Lib.hid (by unfold nameB; rw [HC0.out, decide_eq_true (p := 1 ≤ l.length ∧ _) (by omega), decide_eq_true (p := 97 ≤ c0.toNat ∧ _) (by omega)]; rfl)
  have HB := Lib.hid hbl
  have HC : Hid (∀ j (h : j < l.length), wq.cell? ⟨w.heap.size, j, none⟩ = some (.int .u8 (l[j].toNat : Int))) := Lib.hid (fun j hj => by
    rw [hcell j (by omega), ← hl]
    simp [List.getD, hj])
  have HSZ := Lib.hid hsz
  clear hbl hcell hl hsz h0 h1 h2 h3
  go_enter Tryz.func53, Tryz.ntmps53
  go_wp2
  go_loop [26] (fun i => ∃ k : Nat, k ≤ l.length ∧ i = .int .i64 (k : Int) ∧ Hid ((l.take k).all nameC = true)) (fun i => l.length - (intOf i).toNat)
  case atStart => exact ⟨0, Nat.zero_le _, rfl, by simp [Hid]⟩
  case round =>
    obtain ⟨k, hk, rfl, HD⟩ := hrel
    by_cases hlt : k < l.length
    · have hc := HC.out k hlt
      have i1 : (k : Int) < (s.size : Int) := by have := HSZ.out; omega
      have i2 : (0 : Int) ≤ (k : Int) := by omega
      obtain ⟨c, hcq⟩ : ∃ c, c = l[k] := ⟨_, rfl⟩
      rw [← hcq] at hc
      have HCC := Lib.hid hcq
      have cb := c.toNat_lt
      clear hcq
      cases hn : nameC c
      · have HR : Hid (nameB 16 l = false) := Lib.hid (nameB_no hlt (by rw [← HCC.out]; exact hn))
        have hn2 : ¬ (97 ≤ c.toNat ∧ c.toNat ≤ 122) ∧ ¬ (48 ≤ c.toNat ∧ c.toNat ≤ 57) ∧ ¬ (c.toNat = 45) := by
          unfold nameC at hn
          simp only [Bool.or_eq_false_iff, decide_eq_false_iff_not] at hn
          exact ⟨hn.1.1, hn.1.2, hn.2⟩
        have d5 : ((c.toNat : Int) != 45) = true := by simp; omega
        clear hn
        by_cases h97 : c.toNat < 97
        · have d1 : decide ((c.toNat : Int) < 97) = true := by simp; omega
          by_cases h48 : c.toNat < 48
          · have d3 : decide ((c.toNat : Int) < 48) = true := by simp; omega
            clear hn2
            go_wp2
            go_ret
            exact ⟨ret_bool HR.out.symm, HB.out⟩
          · have d3 : decide ((c.toNat : Int) < 48) = false := by simp; omega
            have d4 : decide ((57 : Int) < (c.toNat : Int)) = true := by simp; omega
            clear hn2
            go_wp2
            go_ret
            exact ⟨ret_bool HR.out.symm, HB.out⟩
        · have d1 : decide ((c.toNat : Int) < 97) = false := by simp; omega
          have d2 : decide ((122 : Int) < (c.toNat : Int)) = true := by simp; omega
          have d3 : decide ((c.toNat : Int) < 48) = false := by simp; omega
          have d4 : decide ((57 : Int) < (c.toNat : Int)) = true := by simp; omega
          clear hn2
          go_wp2
          go_ret
          exact ⟨ret_bool HR.out.symm, HB.out⟩
      · have HD2 : Hid ((l.take (k + 1)).all nameC = true) := Lib.hid (by rw [List.take_succ_eq_append_getElem hlt, List.all_append, HD.out, ← HCC.out]; simp [hn])
        have hn2 : (97 ≤ c.toNat ∧ c.toNat ≤ 122) ∨ (48 ≤ c.toNat ∧ c.toNat ≤ 57) ∨ (c.toNat = 45) := by
          unfold nameC at hn
          simp only [Bool.or_eq_true, decide_eq_true_eq] at hn
          omega
        clear hn
        by_cases h97 : 97 ≤ c.toNat
        · have d1 : decide ((c.toNat : Int) < 97) = false := by simp; omega
          have d2 : decide ((122 : Int) < (c.toNat : Int)) = false := by simp; omega
          clear hn2
          go_wp2
          go_round
          case rel => exact ⟨k + 1, hlt, by go_num, HD2⟩
          case measure => simp [intOf]; omega
        · have d1 : decide ((c.toNat : Int) < 97) = true := by simp; omega
          by_cases h48 : c.toNat < 48
          · have d3 : decide ((c.toNat : Int) < 48) = true := by simp; omega
            have d5 : ((c.toNat : Int) != 45) = false := by simp; omega
            clear hn2
            go_wp2
            go_round
            case rel => exact ⟨k + 1, hlt, by go_num, HD2⟩
            case measure => simp [intOf]; omega
          · have d3 : decide ((c.toNat : Int) < 48) = false := by simp; omega
            have d4 : decide ((57 : Int) < (c.toNat : Int)) = false := by simp; omega
            clear hn2
            go_wp2
            go_round
            case rel => exact ⟨k + 1, hlt, by go_num, HD2⟩
            case measure => simp [intOf]; omega
    · obtain rfl : k = l.length := by omega
      have i0 : decide (l.length < s.size) = false := by have := HSZ.out; simp; omega
      have HR : Hid (nameB 16 l = true) := Lib.hid (by rw [HH.out]; have := HD.out; rwa [List.take_length] at this)
      go_wp2
      go_ret
      exact ⟨ret_bool HR.out.symm, HB.out⟩

theorem bands_any (w : World) :
    Calls Tryz.prog 71 #[] w fun e w' => e = .returned (.slice (some ⟨w.heap.size, 0, none⟩) 4 4) ∧ w' = w.alloc (.cells #[.string ⟨#[102, 114, 101, 101]⟩, .string ⟨#[98, 97, 116, 99, 104]⟩, .string ⟨#[112, 114, 111, 100]⟩, .string ⟨#[109, 111, 110, 105, 116, 111, 114, 105, 110, 103]⟩] 9) := by
  go_enter Tryz.func71, Tryz.ntmps71
  go_wp2
  go_ret
  exact ⟨rfl, rfl⟩

/-- a band's name -/
def bandS (b : Int) : ByteArray := if b = 0 then ⟨#[102, 114, 101, 101]⟩ else if b = 1 then ⟨#[98, 97, 116, 99, 104]⟩ else if b = 2 then ⟨#[112, 114, 111, 100]⟩ else if b = 3 then ⟨#[109, 111, 110, 105, 116, 111, 114, 105, 110, 103]⟩ else ⟨#[]⟩
set_option maxRecDepth 100000 in
set_option maxHeartbeats 1000000 in
theorem sbands_any (b : Int) (w : World) (hb1 : -9223372036854775808 ≤ b) (hb2 : b ≤ 9223372036854775807) :
    Calls Tryz.prog 54 #[.int .i64 b] w fun e w' => e = .returned (.string (bandS b)) ∧ Below w.heap.size w w' := by
  by_cases h0 : b < 0
  · have HR : Hid (bandS b = ⟨#[]⟩) := Lib.hid (by unfold bandS; rw [if_neg (by omega), if_neg (by omega), if_neg (by omega), if_neg (by omega)])
    have d0 : decide (b < 0) = true := by simpa using h0
    go_enter Tryz.func54, Tryz.ntmps54
    go_wp2
    go_ret
    exact ⟨by rw [HR.out]; rfl, Below.refl _ _⟩
  · have d0 : decide (b < 0) = false := by simpa using h0
    by_cases h4 : 4 ≤ b
    · have HR : Hid (bandS b = ⟨#[]⟩) := Lib.hid (by unfold bandS; rw [if_neg (by omega), if_neg (by omega), if_neg (by omega), if_neg (by omega)])
      have d1 : decide (4 ≤ b) = true := by simpa using h4
      go_enter Tryz.func54, Tryz.ntmps54
      go_wp2_with (go_at_call 71; refine (bands_any _).mono ?_; rintro e w1 ⟨rfl, rfl⟩)
      go_ret
      exact ⟨by rw [HR.out]; rfl, below_alloc w _⟩
    · have d1 : decide (4 ≤ b) = false := by simpa using h4
      have h5 : b = 0 ∨ b = 1 ∨ b = 2 ∨ b = 3 := by omega
      rcases h5 with rfl | rfl | rfl | rfl
      all_goals
        go_enter Tryz.func54, Tryz.ntmps54
        go_wp2_with (go_at_call 71; refine (bands_any _).mono ?_; rintro e w1 ⟨rfl, rfl⟩)
        go_ret
        exact ⟨rfl, below_and (below_alloc w _) (below_alloc _ _)⟩
end Go.Proofs.YtmgbailpmcggiaaGreat
namespace Go.Proofs.YtmgbailpmcggiaaGreat
open Go.RowKit

/-- a charge -/
structure Ch where
  n : ByteArray
  u : ByteArray
  b : Int
  a : Am
/-- a grant -/
structure Gr where
  u : ByteArray
  b : Int
  a : Am
def Ch.key (c : Ch) : List UInt8 := c.n.data.toList
def Gr.key (g : Gr) : List UInt8 := kT g.u g.b
abbrev chC (c : Ch) : List Value := [.string c.n, .string c.u, .int .i64 c.b, .int .i64 c.a.c, .int .i64 c.a.r, .int .i64 c.a.d, .int .i64 c.a.p]
abbrev chV (c : Ch) : Value := .agg #[.string c.n, .string c.u, .int .i64 c.b, .int .i64 c.a.c, .int .i64 c.a.r, .int .i64 c.a.d, .int .i64 c.a.p]
abbrev grC (g : Gr) : List Value := [.string g.u, .int .i64 g.b, .int .i64 g.a.c, .int .i64 g.a.r, .int .i64 g.a.d, .int .i64 g.a.p]
abbrev grV (g : Gr) : Value := .agg #[.string g.u, .int .i64 g.b, .int .i64 g.a.c, .int .i64 g.a.r, .int .i64 g.a.d, .int .i64 g.a.p]
def chM (C : List Ch) : SM := kM Ch.key chV C
def grM (G : List Gr) : SM := kM Gr.key (fun g => amV g.a) G

/-! sums of those that a test takes -/
def pf (p : Ch → Bool) (k : Nat) (e : Ch) : Int := if p e then e.a.get k else 0
def psum (p : Ch → Bool) (C : List Ch) : Am := .of fun k => ksum (pf p k) C
def pdone (p : Ch → Bool) (C : List Ch) (left : Lit → Bool) : Am := .of fun k => kdone Ch.key (pf p k) left C
theorem psum_get (p : Ch → Bool) (C : List Ch) {k : Nat} (hk : k < 4) : (psum p C).get k = ksum (pf p k) C := Am.of_get _ k hk
theorem pdone_get (p : Ch → Bool) (C : List Ch) (left : Lit → Bool) {k : Nat} (hk : k < 4) : (pdone p C left).get k = kdone Ch.key (pf p k) left C := Am.of_get _ k hk
theorem zero_get (k : Nat) (hk : k < 4) : Am.zero.get k = 0 := by
  match k, hk with
  | 0, _ => rfl
  | 1, _ => rfl
  | 2, _ => rfl
  | 3, _ => rfl
def Oks (C : List Ch) : Prop := ∀ e ∈ C, e.a.okB = true
theorem pdone_start {p : Ch → Bool} {C : List Ch} {left : Lit → Bool} (h : ∀ e ∈ C, left (.string e.key) = true) : pdone p C left = .zero := Am.ext_get fun k hk => by
  rw [pdone_get p C left hk, zero_get k hk]
  exact kdone_start h
theorem pdone_end {p : Ch → Bool} {C : List Ch} {left : Lit → Bool} (h : ∀ s, left (.string s) = false) : pdone p C left = psum p C := Am.ext_get fun k hk => by
  rw [pdone_get p C left hk, psum_get p C hk]
  exact kdone_end h
theorem pdone_step {p : Ch → Bool} {C : List Ch} {left : Lit → Bool} (hd : KApart Ch.key C) {e : Ch} (he : e ∈ C) (hl : left (.string e.key) = true) {k : Nat} (hk : k < 4) :
    (pdone p C (fun z => left z && !z.sameKey (.string e.key))).get k = (pdone p C left).get k + pf p k e := by
  rw [pdone_get p C _ hk, pdone_get p C _ hk]
  exact kdone_step hd he hl
theorem pdone_skip {p : Ch → Bool} {C : List Ch} {left : Lit → Bool} (hd : KApart Ch.key C) {e : Ch} (he : e ∈ C) (hl : left (.string e.key) = true) (hp : p e = false) :
    pdone p C (fun z => left z && !z.sameKey (.string e.key)) = pdone p C left := Am.ext_get fun k hk => by
  rw [pdone_step hd he hl hk]
  unfold pf
  rw [hp]
  simp
theorem pf_nonneg {p : Ch → Bool} {C : List Ch} (ho : Oks C) {k : Nat} (hk : k < 4) : ∀ e ∈ C, 0 ≤ pf p k e := fun e he => by
  have := ok_get (ho e he) hk
  unfold pf
  split <;> omega
theorem pdone_bd {p : Ch → Bool} {C : List Ch} (left : Lit → Bool) (ho : Oks C) {k : Nat} (hk : k < 4) : 0 ≤ (pdone p C left).get k ∧ (pdone p C left).get k ≤ (psum p C).get k := by
  rw [pdone_get p C left hk, psum_get p C hk]
  exact kdone_bd left (pf_nonneg ho hk)
theorem psum_nonneg {p : Ch → Bool} {C : List Ch} (ho : Oks C) {k : Nat} (hk : k < 4) : 0 ≤ (psum p C).get k := by
  rw [psum_get p C hk]
  exact ksum_nonneg (pf_nonneg ho hk)
/-- the picked ones are not too many -/
def Fit (p : Ch → Bool) (C : List Ch) : Prop := (psum p C).okB = true
theorem pdone_add {p : Ch → Bool} {C : List Ch} {left : Lit → Bool} (hd : KApart Ch.key C) (ho : Oks C) (hf : Fit p C) {e : Ch} (he : e ∈ C) (hl : left (.string e.key) = true) (hp : p e = true) :
    addR (pdone p C left) e.a = (pdone p C (fun z => left z && !z.sameKey (.string e.key)), 0) := by
  have hb : ∀ (l : Lit → Bool) k, k < 4 → 0 ≤ (pdone p C l).get k ∧ (pdone p C l).get k ≤ 1099511627776 := fun l k hk => by
    have h1 := pdone_bd (p := p) l ho hk
    have h2 := ok_get hf hk
    omega
  have hst : ∀ k, k < 4 → (pdone p C (fun z => left z && !z.sameKey (.string e.key))).get k = (pdone p C left).get k + e.a.get k := fun k hk => by
    rw [pdone_step hd he hl hk]; unfold pf; rw [hp]; simp
  have h1 : (pdone p C left).okB = true := by rw [Am.okB_iff]; exact hb left
  exact addR_ok (by rw [h1, ho e he]; rfl) (fun k hk => by rw [← hst k hk]; exact (hb _ k hk).2) hst
theorem psum_le {p q : Ch → Bool} {C : List Ch} (ho : Oks C) (h : ∀ e, p e = true → q e = true) {k : Nat} (hk : k < 4) : (psum p C).get k ≤ (psum q C).get k := by
  rw [psum_get p C hk, psum_get q C hk]
  induction C with
  | nil => exact Int.le_refl _
  | cons e C ih =>
    rw [ksum_cons, ksum_cons]
    have h1 := ih (fun x hx => ho x (by simp [hx]))
    have h2 := ok_get (ho e (by simp)) hk
    have h3 : pf p k e ≤ pf q k e := by
      unfold pf
      cases hp : p e
      · simp; split <;> omega
      · rw [h e hp]; simp
    omega
theorem Fit.le {p q : Ch → Bool} {C : List Ch} (hf : Fit q C) (ho : Oks C) (h : ∀ e, p e = true → q e = true) : Fit p C := by
  unfold Fit
  rw [Am.okB_iff]
  intro k hk
  have h1 := psum_nonneg (p := p) ho hk
  have h2 := psum_le ho h hk
  have h3 := ok_get hf hk
  omega

/-- a user's in a band -/
def onB (u : ByteArray) (b : Int) (e : Ch) : Bool := (e.u.toList == u.toList) && (e.b == b)
/-- the same, one aside -/
def hit (u : ByteArray) (b : Int) (t : ByteArray) (e : Ch) : Bool := (e.u.toList == u.toList) && (e.b == b) && !(e.n.toList == t.toList)
theorem hit_on {u : ByteArray} {b : Int} {t : ByteArray} {e : Ch} (h : hit u b t e = true) : onB u b e = true := by
  unfold hit at h
  unfold onB
  rw [Bool.and_eq_true] at h
  exact h.1

def nmdB (n : ByteArray) : Bool := decide (1 ≤ n.size ∧ n.size ≤ 64)
def bandB (b : Int) : Bool := decide (0 ≤ b ∧ b ≤ 3)
def askB (u : ByteArray) (b : Int) : Bool := nameB 16 u.data.toList && bandB b
theorem bandS_empty (b : Int) : (bandS b).toList.isEmpty = !bandB b := by
  rw [Lib.toList_data]
  unfold bandS bandB
  by_cases h0 : b = 0
  · subst h0; rfl
  by_cases h1 : b = 1
  · subst h1; rfl
  by_cases h2 : b = 2
  · subst h2; rfl
  by_cases h3 : b = 3
  · subst h3; rfl
  rw [if_neg h0, if_neg h1, if_neg h2, if_neg h3, decide_eq_false (by omega)]
  rfl

def grantA (G : List Gr) (u : ByteArray) (b : Int) : Am := ((kfnd Gr.key G (kT u b)).map Gr.a).getD .zero
theorem grantA_look (G : List Gr) (u : ByteArray) (b : Int) : ((grM G).get (kT u b)).getD (amV .zero) = amV (grantA G u b) := by
  unfold grM grantA
  rw [kM_get]
  cases kfnd Gr.key G (kT u b) <;> rfl

/-! what the calls answer -/
def mayP (G : List Gr) (C : List Ch) (c : Ch) (less : Bool) : Int :=
  if (addR (psum (hit c.u c.b c.n) C) c.a).2 ≠ 0 then 9
  else if (!less && !(c.b == 0) && !fitsB (addR (psum (hit c.u c.b c.n) C) c.a).1 (grantA G c.u c.b)) = true then 12 else 0
def grantP (G : List Gr) (u : ByteArray) (b : Int) (a : Am) : Int × List Gr :=
  if (askB u b && a.okB) = true then (0, kput Gr.key G ⟨u, b, a⟩) else (2, G)
def chargeP (G : List Gr) (C : List Ch) (c : Ch) : Int × List Ch :=
  if (nmdB c.n && askB c.u c.b && c.a.okB) = false then (2, C)
  else if (kfnd Ch.key C c.key).isSome = true then (7, C)
  else if mayP G C c false ≠ 0 then (mayP G C c false, C) else (0, kput Ch.key C c)
def refundP (C : List Ch) (n : ByteArray) : Int × List Ch :=
  if nmdB n = false then (2, C) else if (kfnd Ch.key C n.data.toList).isSome = false then (6, C) else (0, krem Ch.key C n.data.toList)
def changeP (G : List Gr) (C : List Ch) (n : ByteArray) (a : Am) : Int × List Ch :=
  if (nmdB n && a.okB) = false then (2, C)
  else match kfnd Ch.key C n.data.toList with
    | none => (6, C)
    | some c => if mayP G C ⟨c.n, c.u, c.b, a⟩ (fitsB a c.a) ≠ 0 then (mayP G C ⟨c.n, c.u, c.b, a⟩ (fitsB a c.a), C) else (0, kput Ch.key C ⟨c.n, c.u, c.b, a⟩)
def usedP (C : List Ch) (u : ByteArray) (b : Int) : Am × Int := if askB u b = true then (psum (onB u b) C, 0) else (.zero, 2)
def grantedP (G : List Gr) (u : ByteArray) (b : Int) : Am × Int := if askB u b = true then (grantA G u b, 0) else (.zero, 2)
def leastA (x y : Am) : Am := .of fun k => min (x.get k) (y.get k)
def leftA (G : List Gr) (C : List Ch) (u : ByteArray) (b : Int) : Am := .of fun k => (grantA G u b).get k - min ((psum (onB u b) C).get k) ((grantA G u b).get k)
def leftP (G : List Gr) (C : List Ch) (u : ByteArray) (b : Int) : Am × Int := if askB u b = true then (leftA G C u b, 0) else (.zero, 2)
def overB (G : List Gr) (C : List Ch) (c : Ch) : Bool := !(c.b == 0) && !fitsB (psum (onB c.u c.b) C) (grantA G c.u c.b)
def overP (G : List Gr) (C : List Ch) : List Ch := C.filter (overB G C)
end Go.Proofs.YtmgbailpmcggiaaGreat
namespace Go.Proofs.YtmgbailpmcggiaaGreat
open Go.RowKit Go

section
variable {P : Program}
theorem upon_unpop {o : Oper} {a : Act} {K : Act → World → Prop} {ops : Array Oper} {Q : Exit → Act → World → Prop} {n : Nat} (r : Result Next) (h : o.upon P a K Q r) : o.upon P a K (popQ P ops Q n) r := by
  have hl : LetsOut Q → LetsOut (popQ P ops Q n) := fun ⟨a, w, h⟩ => ⟨a, w, h⟩
  cases r with
  | ok nx w' =>
    cases nx <;> simp only [Oper.upon] at h ⊢ <;>
      first
        | exact h
        | exact Calls.mono h (fun e w'' he => by cases e <;> first | exact he | exact hl he)
  | halt x w' => cases x <;> simp only [Oper.upon] at h ⊢ <;> exact h
theorem wpOp_unpop {ops : Array Oper} {Q : Exit → Act → World → Prop} {n i : Nat} {K : Act → World → Prop} {a : Act} {w : World} (hn : ops.size = n + 1) (hb : backB ops = true) (hi : i < n) (h : wpOp P ops Q i K a w) : wpOp P ops.pop (popQ P ops Q n) i K a w := by
  have hpop : ∀ j, j < n → ops.pop[j]? = ops[j]? := fun j hj => by rw [Array.getElem?_pop, if_pos (by omega)]
  unfold wpOp at *
  rw [hpop i hi]
  cases ho : ops[i]? with
  | none => simp only [ho] at h ⊢; exact h
  | some o =>
    simp only [ho] at h ⊢
    have hg := (backB_spec hb ho).2
    have hw : Region.wanted o (yielded ops.pop a.tmps) = Region.wanted o (yielded ops a.tmps) := by
      unfold Region.wanted
      cases hgu : o.guard with
      | none => rfl
      | some x =>
        obtain ⟨g, b⟩ := x
        have := hg g b hgu
        simp only
        unfold yielded
        rw [hpop g (by omega)]
    rw [hw]
    by_cases hwt : Region.wanted o (yielded ops a.tmps) = true
    · rw [if_pos hwt] at h ⊢
      rcases h with h | ⟨h1, ⟨a', w', h2⟩⟩
      · exact .inl (upon_unpop _ h)
      · exact .inr ⟨h1, ⟨a', w', h2⟩⟩
    · rw [if_neg hwt] at h ⊢
      exact h

/-- the region, its last two operations behind all others -/
theorem wp_region_past_pop2 {id : Nat} {Q : Exit → Act → World → Prop} {a : Act} {w : World} {l : List Oper} {o1 o2 : Oper} (hm : P.follows .mixedOrders = true) (hB : Region.lexB .any l.toArray = true) (hp : popB (l ++ [o1] ++ [o2]).toArray = true) (hp1 : popB (l ++ [o1]).toArray = true)
    (h : wpQuiet P l.toArray (fun w' => ∃ s : Past w, w' = s.val) (fun a' => ∀ w', (∃ s : Past w, w' = s.val) → wpOp P (l ++ [o1] ++ [o2]).toArray Q l.length (fun a2 w2 => wpOp P (l ++ [o1] ++ [o2]).toArray Q (l.length + 1) (fun a3 w3 => Q .normal a3 w3) a2 w2) a' w') l a) : (Code.region id (l ++ [o1] ++ [o2]).toArray true).wp P Q a w := by
  have hn : (l ++ [o1] ++ [o2]).toArray.size = (l.length + 1) + 1 := by simp
  have hn1 : (l ++ [o1]).toArray.size = l.length + 1 := by simp
  have hpop : (l ++ [o1] ++ [o2]).toArray.pop = (l ++ [o1]).toArray := by simp
  have hpop1 : (l ++ [o1]).toArray.pop = l.toArray := by simp
  unfold popB at hp hp1
  simp only [Bool.and_eq_true, decide_eq_true_eq] at hp hp1
  obtain ⟨⟨hb, hs⟩, -⟩ := hp
  obtain ⟨⟨hb1, hs1⟩, -⟩ := hp1
  rw [hn, Nat.add_sub_cancel] at hs
  rw [hn1, Nat.add_sub_cancel] at hs1
  simp only [Region.lexB, Bool.and_eq_true] at hB
  refine wp_region_any hm ?_
  rw [hn, show Array.replicate (l.length + 1 + 1) false = (Array.replicate (l.length + 1) false).push false from by rw [← Array.replicate_succ]]
  have mk : ∀ (L : List Oper) (k : Nat), L.toArray.size = k + 1 → HeadInv .any L.toArray k ((Array.replicate k false).push false) := fun L k hk => by
    rw [← Array.replicate_succ]
    refine ⟨by rw [hk]; simp, fun j oj hj hl => ?_, fun t h1 h2 => ?_⟩
    · rw [getD_replicate_false] at hl
      cases hl
    · simp [show t < k + 1 from by omega]
  refine wpAny_pop hn hb hs (l.length + 1) _ a _ (by simp) (mk _ _ hn) ?_
  rw [hpop, show Array.replicate (l.length + 1) false = (Array.replicate l.length false).push false from by rw [← Array.replicate_succ]]
  refine wpAny_pop hn1 hb1 hs1 l.length _ a _ (by simp) (mk _ _ hn1) ?_
  rw [hpop1]
  refine wpAny_of_quiet (C := fun w' => ∃ s : Past w, w' = s.val) (Q := fun a' => ∀ w', (∃ s : Past w, w' = s.val) → popQ P (l ++ [o1]).toArray (popQ P (l ++ [o1] ++ [o2]).toArray Q (l.length + 1)) l.length .normal a' w') (fun _ w' hw' h => h w' hw') _ _ _ _ ⟨⟨{ w with drawn := w.drawn + 1 }, below_drewN 1⟩, rfl⟩ ?_
  have h9 : wpQuiet P l.toArray (fun w' => ∃ s : Past w, w' = s.val) (fun a' => ∀ w', (∃ s : Past w, w' = s.val) → popQ P (l ++ [o1]).toArray (popQ P (l ++ [o1] ++ [o2]).toArray Q (l.length + 1)) l.length .normal a' w') l a := quiet_weaken (fun a' h' w' hw' => by
    have h2 := wpOp_unpop hn hb (by omega) (h' w' hw')
    rw [hpop] at h2
    exact h2) _ _ h
  have := wpAnyQ_lex (P := P) (C := fun w' => ∃ s : Past w, w' = s.val) (md := .any) hB.1 l 0 (Array.replicate l.length false) a (by simp) (by simpa using hB.2) h9
  exact this

/-- the same, of a region that is written out -/
theorem wp_region_past_last2 {id : Nat} {Q : Exit → Act → World → Prop} {a : Act} {w : World} {L M : List Oper} {o1 o2 : Oper} (hL : L = M ++ [o1] ++ [o2]) (hm : P.follows .mixedOrders = true) (hB : Region.lexB .any M.toArray = true) (hp : popB L.toArray = true) (hp1 : popB (M ++ [o1]).toArray = true)
    (h : wpQuiet P M.toArray (fun w' => ∃ s : Past w, w' = s.val) (fun a' => ∀ w', (∃ s : Past w, w' = s.val) → wpList P L.toArray Q [o1, o2] a' w') M a) : (Code.region id L.toArray true).wp P Q a w := by
  subst hL
  refine wp_region_past_pop2 hm hB hp hp1 ?_
  refine quiet_weaken (fun a' h' w' hw' => ?_) _ _ h
  have h2 := h' w' hw'
  have g1 : (M ++ [o1] ++ [o2]).toArray[M.length]? = some o1 := by simp
  have g2 : (M ++ [o1] ++ [o2]).toArray[M.length + 1]? = some o2 := by simp
  unfold wpOp
  rw [g1, g2]
  exact h2
/-- its front, its last but one, its last -/
def cut2 : List Oper → Option (List Oper × Oper × Oper)
  | [] => none
  | [_] => none
  | [x, y] => some ([], x, y)
  | x :: l => (cut2 l).map fun (m, a, b) => (x :: m, a, b)
theorem cut2_spec : ∀ {L M : List Oper} {o1 o2 : Oper}, cut2 L = some (M, o1, o2) → L = M ++ [o1] ++ [o2]
  | [], _, _, _, h => by cases h
  | [_], _, _, _, h => by cases h
  | [x, y], _, _, _, h => by cases h; rfl
  | x :: y :: z :: l, M, o1, o2, h => by
    have h' : (cut2 (y :: z :: l)).map (fun (m, a, b) => (x :: m, a, b)) = some (M, o1, o2) := h
    cases hc : cut2 (y :: z :: l) with
    | none => rw [hc] at h'; cases h'
    | some r =>
      obtain ⟨m, a, b⟩ := r
      rw [hc] at h'
      cases h'
      rw [cut2_spec hc]
      rfl
theorem wp_region_past_two {id : Nat} {Q : Exit → Act → World → Prop} {a : Act} {w : World} {L M : List Oper} {o1 o2 : Oper} (hL : cut2 L = some (M, o1, o2)) (hm : P.follows .mixedOrders = true) (hB : Region.lexB .any M.toArray = true) (hp : popB L.toArray = true) (hp1 : popB (M ++ [o1]).toArray = true)
    (h : wpQuiet P M.toArray (fun w' => ∃ s : Past w, w' = s.val) (fun a' => ∀ w', (∃ s : Past w, w' = s.val) → wpList P L.toArray Q [o1, o2] a' w') M a) : (Code.region id L.toArray true).wp P Q a w :=
  wp_region_past_last2 (cut2_spec hL) hm hB hp hp1 h
end
end Go.Proofs.YtmgbailpmcggiaaGreat
namespace Go.Proofs.YtmgbailpmcggiaaGreat
open Go.RowKit Go

section
variable {P : Program}
/-- an operation that only passes a value on -/
def passB (o : Oper) : Bool := match o.op with
  | .extract .. | .move _ | .assign _ => true
  | _ => false
theorem extract_run (v : Value) (k : Nat) (w w' w1 : World) (u : Value) (h : (Instr.extract v k).run P w = .ok u w1) : w1 = w ∧ (Instr.extract v k).run P w' = .ok u w' := by
  cases v with
  | tuple vs =>
    simp only [Instr.extract] at h ⊢
    split at h
    · next x hx =>
      simp only [Sem.run_pure, Result.ok.injEq] at h
      obtain ⟨rfl, rfl⟩ := h
      exact ⟨rfl, rfl⟩
    · next hx => simp [stuck, Sem.run_halt] at h
  | _ => simp [Instr.extract, stuck, Sem.run_halt] at h
theorem pass_yields {o : Oper} {a : Act} {C : World → Prop} {v : Value} {ops : Array Oper} {w : World} (hp : passB o = true) (hw : C w) (h : YieldsIn P ops C o v a) : Yields P ops o v a := by
  rcases h with ⟨h1, h2⟩ | h
  · refine .inl ⟨h1, fun w' => ?_⟩
    have h3 := h2 w hw
    unfold Oper.quietAt at h3
    unfold passB at hp
    unfold execOp at h3 ⊢
    cases ho : o.op <;> rw [ho] at hp h3 <;> first | (cases hp; done) | skip
    case move x =>
      simp only [Sem.run_pure, Oper.quietUpon] at h3 ⊢
      rw [h3.2]
    case assign x =>
      simp only [Sem.run_pure, Oper.quietUpon] at h3 ⊢
      rw [h3.2]
    case extract t k =>
      simp only [Sem.run_bind] at h3 ⊢
      cases hr : (Instr.extract (a.eval t) k).run P w with
      | ok u w1 =>
        obtain ⟨rfl, hr2⟩ := extract_run _ _ _ w' _ _ hr
        rw [hr] at h3
        rw [hr2]
        simp only [Result.andThen_ok, Sem.run_pure, Oper.quietUpon] at h3 ⊢
        rw [h3.2]
      | halt x w1 =>
        rw [hr] at h3
        simp [Result.andThen, Oper.quietUpon] at h3
  · exact .inr h

/-- operation n waits for all ahead of it but those that only pass on, and these are apart from what does not wait for them -/
def late0 (ops : Array Oper) (n : Nat) : Array Bool := ((List.range ops.size).map fun i => decide (i < n) && Region.waitsFor .any ops n i).toArray
def lateB (ops : Array Oper) (n : Nat) : Bool := (List.range n).all fun i => match ops[i]? with
  | some o => Region.waitsFor .any ops n i || (passB o && Region.free .any ops (late0 ops n) i)
  | none => false
theorem late0_false {ops : Array Oper} {n k : Nat} (hk : k < ops.size) (h : ¬ (k < n ∧ Region.waitsFor .any ops n k = true)) : (late0 ops n).getD k true = false := by
  unfold late0
  have h1 : (decide (k < n) && Region.waitsFor .any ops n k) = false := by
    rw [Bool.eq_false_iff]
    intro h2
    simp only [Bool.and_eq_true, decide_eq_true_eq] at h2
    exact h h2
  simp [hk, h1]
theorem qOp_pop {ops : Array Oper} {C : World → Prop} {n i : Nat} {K : Act → Prop} {a : Act} (hn : ops.size = n + 1) (hb : backB ops = true) (hi : i < n) (h : qOp P ops.pop C i K a) : qOp P ops C i K a := by
  have hpop : ∀ j, j < n → ops.pop[j]? = ops[j]? := fun j hj => by rw [Array.getElem?_pop, if_pos (by omega)]
  unfold qOp at *
  rw [hpop i hi] at h
  cases ho : ops[i]? with
  | none => simp only [ho] at h ⊢; exact h
  | some o =>
    simp only [ho] at h ⊢
    have hg := (backB_spec hb ho).2
    have hw : Region.wanted o (yielded ops.pop a.tmps) = Region.wanted o (yielded ops a.tmps) := by
      unfold Region.wanted
      cases hgu : o.guard with
      | none => rfl
      | some x =>
        obtain ⟨g, b⟩ := x
        have := hg g b hgu
        simp only
        unfold yielded
        rw [hpop g (by omega)]
    rw [hw] at h
    exact h

theorem wpAny_late {ops : Array Oper} {C : World → Prop} {Q : Exit → Act → World → Prop} {Qq : Act → Prop} {n : Nat} (hn : ops.size = n + 1) (hb : backB ops = true) (hl : lateB ops n = true) (hsel : Region.noSelect ops = true)
    (hQ : ∀ c a d v w, Q (.panic c) (Act.put a d v) w → Q (.panic c) a w) (hq : ∀ a w, C w → Qq a → wpOp P ops Q n (fun a' w' => Q .normal a' w') a w) :
    ∀ (fuel : Nat) (listed : Array Bool) (a : Act) (w : World), C w → listed.size = n → wpAnyQ P .any ops.pop C Qq fuel listed a → wpAny P .any ops Q (fuel + 1) (listed.push false) a w := by
  have hpop : ∀ j, j < n → ops.pop[j]? = ops[j]? := fun j hj => by rw [Array.getElem?_pop, if_pos (by omega)]
  obtain ⟨on, hon⟩ : ∃ on, ops[n]? = some on := ⟨ops[n], Array.getElem?_eq_getElem (by omega)⟩
  have hready : ∀ (listed : Array Bool), listed.size = n → ∀ i, i < n → (i ∈ Region.ready .any ops (listed.push false) ↔ i ∈ Region.ready .any ops.pop listed) := fun listed hl i hi => by
    rw [mem_ready, mem_ready, getD_push (by omega), hpop i hi]
    refine and_congr_right fun _ => ⟨fun ⟨o, ho, h⟩ => ⟨o, ho, fun e he hbe => ?_⟩, fun ⟨o, ho, h⟩ => ⟨o, ho, fun e he hbe => ?_⟩⟩
    · have h1 := h e he hbe
      have h2 := (backB_spec hb ho).1 e he hbe
      rwa [getD_push (by omega)] at h1
    · have h1 := h e he hbe
      have h2 := (backB_spec hb ho).1 e he hbe
      rwa [getD_push (by omega)]
  have hsome : ∀ (listed : Array Bool), listed.size = n → (∃ j, j < n ∧ listed.getD j true = false) → Region.ready .any ops.pop listed ≠ [] := fun listed hl hex => by
    obtain ⟨j, hj, hmin⟩ : ∃ j, (j < n ∧ listed.getD j true = false) ∧ ∀ k, k < j → ¬ (k < n ∧ listed.getD k true = false) := by
      obtain ⟨j0, hj0⟩ := hex
      induction j0 using Nat.strongRecOn with
      | _ j0 ih =>
        by_cases h : ∃ k, k < j0 ∧ (k < n ∧ listed.getD k true = false)
        · obtain ⟨k, hk, hk2⟩ := h
          exact ih k hk hk2
        · exact ⟨j0, hj0, fun k hk hk2 => h ⟨k, hk, hk2⟩⟩
    obtain ⟨hjn, hjl⟩ := hj
    obtain ⟨o, ho⟩ : ∃ o, ops[j]? = some o := ⟨ops[j], Array.getElem?_eq_getElem (by omega)⟩
    intro he
    have : j ∈ Region.ready .any ops.pop listed := by
      rw [mem_ready, hpop j hjn]
      refine ⟨hjl, o, ho, fun e hee hbe => ?_⟩
      have h2 := (backB_spec hb ho).1 e hee hbe
      have h3 := hmin e.on h2
      have h4 : e.on < listed.size := by omega
      have h5 : ¬ listed.getD e.on true = false := fun h => h3 ⟨by omega, h⟩
      simp [h4] at h5 ⊢
      exact h5
    rw [he] at this
    cases this
  -- all have come up: the last one
  have hlast : ∀ (fuel : Nat) (listed : Array Bool) (a : Act) (w : World), C w → listed.size = n → (¬ ∃ j, j < n ∧ listed.getD j true = false) → Qq a → wpAny P .any ops Q (fuel + 1) (listed.push false) a w := fun fuel listed a w hw hl hex hqa => by
    have hall : ∀ j, j < n → listed.getD j true = true := fun j hj => by
      cases h : listed.getD j true
      · exact absurd ⟨j, hj, h⟩ hex
      · rfl
    have hnr : n ∈ Region.ready .any ops (listed.push false) := by
      rw [mem_ready]
      refine ⟨by rw [← hl]; simp, on, hon, fun e he hbe => ?_⟩
      have h2 := (backB_spec hb hon).1 e he hbe
      have h3 := hall e.on h2
      have h4 : e.on < listed.size := by omega
      rw [getD_push h4]
      simp [h4] at h3 ⊢
      exact h3
    refine ⟨fun h => (by rw [h] at hnr; cases hnr), fun i hi => ?_⟩
    have hin : i < n + 1 := by
      obtain ⟨-, o, ho, -⟩ := mem_ready.1 hi
      have := (Array.getElem?_eq_some_iff.1 ho).1
      omega
    by_cases hi2 : i < n
    · have h5 := (mem_ready.1 hi).1
      rw [getD_push (by omega), hall i hi2] at h5
      cases h5
    · obtain rfl : i = n := by omega
      refine wpOp_mono (fun a' w' h' => wpAny_done ?_ h' _) (hq a w hw hqa)
      rw [List.eq_nil_iff_forall_not_mem]
      intro k hk
      obtain ⟨h6, o, ho, -⟩ := mem_ready.1 hk
      have hk2 := (Array.getElem?_eq_some_iff.1 ho).1
      by_cases hki : k = i
      · subst hki
        simp [hl] at h6
      · have h7 : k < listed.size := by omega
        have h8 := hall k (by omega)
        rw [getD_set_ne true (Ne.symm hki), getD_push h7, h8] at h6
        cases h6
  have hnil : ∀ (listed : Array Bool), (¬ ∃ j, j < n ∧ listed.getD j true = false) → Region.ready .any ops.pop listed = [] := fun listed hex => by
    rw [List.eq_nil_iff_forall_not_mem]
    intro k hk
    obtain ⟨h6, o, ho, -⟩ := mem_ready.1 hk
    have hk2 := (Array.getElem?_eq_some_iff.1 ho).1
    exact hex ⟨k, by simp at hk2; omega, h6⟩
  intro fuel
  induction fuel with
  | zero =>
    intro listed a w hw hl' H
    refine hlast 0 listed a w hw hl' (fun hex => hsome listed hl' hex H.1) H.2
  | succ fuel ih =>
    intro listed a w hw hl' H
    by_cases hex : ∃ j, j < n ∧ listed.getD j true = false
    · have hne := hsome listed hl' hex
      have hset : ∀ i, i < n → (listed.push false).setIfInBounds i true = (listed.setIfInBounds i true).push false := fun i hin => by
        apply Array.ext_getElem?
        intro k
        simp only [Array.getElem?_setIfInBounds, Array.getElem?_push, Array.size_setIfInBounds, Array.size_push]
        by_cases hki : i = k
        · subst hki
          simp [hl', hin, Nat.ne_of_lt hin, Nat.lt_succ_of_lt hin]
        · simp [hki]
      by_cases hnr : n ∈ Region.ready .any ops (listed.push false)
      · obtain ⟨j, hj⟩ := List.exists_mem_of_ne_nil _ hne
        have hjn : j < n := by
          obtain ⟨-, o, ho, -⟩ := mem_ready.1 hj
          have := (Array.getElem?_eq_some_iff.1 ho).1
          simp at this; omega
        obtain ⟨oj, hoj⟩ : ∃ o, ops[j]? = some o := ⟨ops[j], Array.getElem?_eq_getElem (by omega)⟩
        have hjl := (mem_ready.1 hj).1
        have h1 := List.all_eq_true.1 hl j (List.mem_range.2 hjn)
        simp only [hoj, Bool.or_eq_true, Bool.and_eq_true] at h1
        have hwait : ∀ j, j < n → listed.getD j true = false → ¬ Region.waitsFor .any ops n j = true := fun j hjn hjl h1 => by
          obtain ⟨o', ho', e, he, hbe, hon'⟩ := Region.waitsFor_spec h1
          obtain ⟨-, o2, ho2, h2⟩ := mem_ready.1 hnr
          have : o' = o2 := Option.some.inj (ho'.symm.trans ho2)
          subst this
          have h3 := h2 e he hbe
          rw [hon', getD_push (by omega)] at h3
          have h4 : j < listed.size := by omega
          simp [h4] at h3 hjl
          rw [hjl] at h3
          cases h3
        rcases h1 with h1 | ⟨hp, hf⟩
        · exact absurd h1 (hwait j hjn hjl)
        · have h2 := qOp_pop hn hb hjn (H.2 j hj)
          obtain ⟨v, hy, hK⟩ := yieldsIn_of_qOp hoj h2
          have hY := pass_yields (ops := ops) hp hw hy
          have h3 := ih (listed.setIfInBounds j true) (a.put oj.dst v) w hw (by simp [hl']) hK
          rw [← hset j hjn] at h3
          refine wpAny_first hoj (Region.noSelect_spec hsel) (fun c a w => hQ c a _ _ w) _ _ a w (fun k ok hk hkj hun hno => ?_) ((hready listed hl' j hjn).2 hj) hY h3
          have hks := (Array.getElem?_eq_some_iff.1 hk).1
          refine Region.free_spec hoj hf k ok hk hkj (late0_false hks fun ⟨h4, h5⟩ => ?_) hno
          rw [getD_push (by omega)] at hun
          exact hwait k h4 hun h5
      · refine ⟨fun h => absurd h ?_, fun i hi => ?_⟩
        · obtain ⟨k, hk⟩ := List.exists_mem_of_ne_nil _ hne
          have hkn : k < n := by
            obtain ⟨-, o, ho, -⟩ := mem_ready.1 hk
            have := (Array.getElem?_eq_some_iff.1 ho).1
            simp at this; omega
          intro h0
          have := (hready listed hl' k hkn).2 hk
          rw [h0] at this
          cases this
        · have hin2 : i < n + 1 := by
            obtain ⟨-, o, ho, -⟩ := mem_ready.1 hi
            have := (Array.getElem?_eq_some_iff.1 ho).1
            omega
          have hin : i < n := by
            rcases Nat.lt_or_ge i n with h | h
            · exact h
            · obtain rfl : i = n := by omega
              exact absurd hi hnr
          have hi' := (hready listed hl' i hin).1 hi
          rw [hset i hin]
          exact wpOp_of_qOp hw (fun a' w' hw' h' => ih _ a' w' hw' (by simp [hl']) h') (qOp_pop hn hb hin (H.2 i hi'))
    · exact hlast _ listed a w hw hl' hex (H.1 (hnil listed hex))

/-- the region: what is ahead of the store, quietly; the store; the last one -/
theorem wp_region_past_late2 {id : Nat} {Q : Exit → Act → World → Prop} {a : Act} {w : World} {L M : List Oper} {o1 o2 : Oper} (hL : cut2 L = some (M, o1, o2)) (hm : P.follows .mixedOrders = true) (hB : Region.lexB .any M.toArray = true) (hp : popB L.toArray = true) (hb : backB (M ++ [o1]).toArray = true) (hl : lateB (M ++ [o1]).toArray M.length = true) (hs : Region.noSelect (M ++ [o1]).toArray = true)
    (hQ : ∀ c a d v w, Q (.panic c) (Act.put a d v) w → Q (.panic c) a w)
    (h : wpQuiet P M.toArray (fun w' => ∃ s : Past w, w' = s.val) (fun a' => ∀ w', (∃ s : Past w, w' = s.val) → wpList P L.toArray Q [o1, o2] a' w') M a) : (Code.region id L.toArray true).wp P Q a w := by
  have hL' := cut2_spec hL
  subst hL'
  have hn : (M ++ [o1] ++ [o2]).toArray.size = (M.length + 1) + 1 := by simp
  have hn1 : (M ++ [o1]).toArray.size = M.length + 1 := by simp
  have hpop : (M ++ [o1] ++ [o2]).toArray.pop = (M ++ [o1]).toArray := by simp
  have hpop1 : (M ++ [o1]).toArray.pop = M.toArray := by simp
  unfold popB at hp
  simp only [Bool.and_eq_true, decide_eq_true_eq] at hp
  obtain ⟨⟨hbL, hsL⟩, -⟩ := hp
  rw [hn, Nat.add_sub_cancel] at hsL
  simp only [Region.lexB, Bool.and_eq_true] at hB
  refine wp_region_any hm ?_
  rw [hn, show Array.replicate (M.length + 1 + 1) false = (Array.replicate (M.length + 1) false).push false from by rw [← Array.replicate_succ]]
  have inv : HeadInv .any (M ++ [o1] ++ [o2]).toArray (M.length + 1) ((Array.replicate (M.length + 1) false).push false) := by
    rw [← Array.replicate_succ]
    refine ⟨by rw [hn]; simp, fun j oj hj hl => ?_, fun t h1 h2 => ?_⟩
    · rw [getD_replicate_false] at hl
      cases hl
    · simp [show t < M.length + 1 + 1 from by omega]
  refine wpAny_pop hn hbL hsL (M.length + 1) _ a _ (by simp) inv ?_
  rw [hpop, show Array.replicate (M.length + 1) false = (Array.replicate M.length false).push false from by rw [← Array.replicate_succ]]
  refine wpAny_late (P := P) (Q := popQ P (M ++ [o1] ++ [o2]).toArray Q (M.length + 1)) (C := fun w' => ∃ s : Past w, w' = s.val) (Qq := fun a' => ∀ w', (∃ s : Past w, w' = s.val) → wpOp P (M ++ [o1] ++ [o2]).toArray Q M.length (fun a2 w2 => wpOp P (M ++ [o1] ++ [o2]).toArray Q (M.length + 1) (fun a3 w3 => Q .normal a3 w3) a2 w2) a' w') hn1 hb hl hs (fun c a d v w h => hQ c a d v w h) (fun a' w' hw' hqa => ?_) M.length (Array.replicate M.length false) a { w with drawn := w.drawn + 1 } ⟨⟨{ w with drawn := w.drawn + 1 }, below_drewN 1⟩, rfl⟩ (Array.size_replicate) ?_
  · have h2 := wpOp_unpop hn hbL (by omega) (hqa w' hw')
    rw [hpop] at h2
    exact h2
  · rw [hpop1]
    have h9 := quiet_weaken (Q' := fun a' => ∀ w', (∃ s : Past w, w' = s.val) → wpOp P (M ++ [o1] ++ [o2]).toArray Q M.length (fun a2 w2 => wpOp P (M ++ [o1] ++ [o2]).toArray Q (M.length + 1) (fun a3 w3 => Q .normal a3 w3) a2 w2) a' w') (fun a' h' w' hw' => by
      have h2 := h' w' hw'
      have g1 : (M ++ [o1] ++ [o2]).toArray[M.length]? = some o1 := by simp
      have g2 : (M ++ [o1] ++ [o2]).toArray[M.length + 1]? = some o2 := by simp
      unfold wpOp
      rw [g1, g2]
      exact h2) _ _ h
    have := wpAnyQ_lex (P := P) (C := fun w' => ∃ s : Past w, w' = s.val) (md := .any) hB.1 M 0 (Array.replicate M.length false) a (by simp) (by simpa using hB.2) h9
    exact this
/-- the same, not to panic: behind it 'refine NoPanic.normal ?_' -/
theorem wp_region_late2 {id : Nat} {Q : Exit → Act → World → Prop} {a : Act} {w : World} {L M : List Oper} {o1 o2 : Oper} (hL : cut2 L = some (M, o1, o2)) (hm : P.follows .mixedOrders = true) (hB : Region.lexB .any M.toArray = true) (hp : popB L.toArray = true) (hb : backB (M ++ [o1]).toArray = true) (hl : lateB (M ++ [o1]).toArray M.length = true) (hs : Region.noSelect (M ++ [o1]).toArray = true)
    (h : wpQuiet P M.toArray (fun w' => ∃ s : Past w, w' = s.val) (fun a' => ∀ w', (∃ s : Past w, w' = s.val) → wpList P L.toArray (NoPanic Q) [o1, o2] a' w') M a) : (Code.region id L.toArray true).wp P Q a w :=
  wp_region_noPanic (wp_region_past_late2 hL hm hB hp hb hl hs (fun _ _ _ _ _ h => h.elim) h)
/-- its front, its last -/
def cut1 : List Oper → Option (List Oper × Oper)
  | [] => none
  | [x] => some ([], x)
  | x :: l => (cut1 l).map fun (m, a) => (x :: m, a)
theorem cut1_spec : ∀ {L M : List Oper} {o : Oper}, cut1 L = some (M, o) → L = M ++ [o]
  | [], _, _, h => by cases h
  | [x], _, _, h => by cases h; rfl
  | x :: y :: l, M, o, h => by
    have h' : (cut1 (y :: l)).map (fun (m, a) => (x :: m, a)) = some (M, o) := h
    cases hc : cut1 (y :: l) with
    | none => rw [hc] at h'; cases h'
    | some r =>
      obtain ⟨m, a⟩ := r
      rw [hc] at h'
      cases h'
      rw [cut1_spec hc]
      rfl
/-- the region: what is ahead of its last operation, quietly; that one -/
theorem wp_region_past_one {id : Nat} {Q : Exit → Act → World → Prop} {a : Act} {w : World} {L M : List Oper} {o : Oper} (hL : cut1 L = some (M, o)) (hm : P.follows .mixedOrders = true) (hB : Region.lexB .any M.toArray = true) (hp : popB L.toArray = true)
    (h : wpQuiet P M.toArray (fun w' => ∃ s : Past w, w' = s.val) (fun a' => ∀ w', (∃ s : Past w, w' = s.val) → wpList P L.toArray Q [o] a' w') M a) : (Code.region id L.toArray true).wp P Q a w := by
  have hL' := cut1_spec hL
  subst hL'
  refine wp_region_past_pop hm hB hp ?_
  refine quiet_weaken (fun a' h' w' hw' => ?_) _ _ h
  have g1 : (M ++ [o]).toArray[M.length]? = some o := by simp
  show wpOp P (M ++ [o]).toArray Q M.length (fun a' w' => Q .normal a' w') a' w'
  unfold wpOp
  rw [g1]
  exact h' w' hw'
end
end Go.Proofs.YtmgbailpmcggiaaGreat
