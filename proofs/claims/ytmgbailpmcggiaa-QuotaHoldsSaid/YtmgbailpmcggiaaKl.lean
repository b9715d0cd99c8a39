/- Lists of rows that bear keys (texts): find, take out, put in; the same as rows of a map keyed by strings; the same as a rising list. -/
import Derived.Test.YtmgbailpmcggiaaMaps
import Derived.Test.YtmgbailpmcggiaaByteOrd
namespace Go.Proofs.Ytmgbailpmcggiaa
open Go.RowKit

section
variable {α : Type} (key : α → List UInt8)
def kfnd (L : List α) (s : List UInt8) : Option α := L.find? fun e => key e == s
def krem (L : List α) (s : List UInt8) : List α := L.filter fun e => !(key e == s)
def kins (x : α) : List α → List α
  | [] => [x]
  | y :: r => if bytesBefore (key x) (key y) then x :: y :: r else y :: kins x r
def kput (L : List α) (x : α) : List α := kins key x (krem key L (key x))
def kM (val : α → Value) (L : List α) : SM := L.map fun e => (key e, val e)
def KApart (L : List α) : Prop := L.Pairwise fun x y => key x ≠ key y
def KRise (L : List α) : Prop := L.Pairwise fun x y => key x < key y
/-- how many stand ahead of a key -/
def kpl (L : List α) (s : List UInt8) : Nat := (L.takeWhile fun e => decide (key e < s)).length
end

section
variable {α : Type} {key : α → List UInt8} {val : α → Value}
theorem kM_get (L : List α) (s : List UInt8) : (kM key val L).get s = (kfnd key L s).map val := by
  unfold kM SM.get kfnd
  rw [List.find?_map]
  cases h : L.find? (fun e => key e == s) with
  | none =>
    have : L.find? ((fun p : List UInt8 × Value => p.1 == s) ∘ fun e => (key e, val e)) = none := h
    rw [this]; rfl
  | some e =>
    have : L.find? ((fun p : List UInt8 × Value => p.1 == s) ∘ fun e => (key e, val e)) = some e := h
    rw [this]; rfl
theorem kM_has (L : List α) (s : List UInt8) : (kM key val L).hasK s = (kfnd key L s).isSome := by
  unfold kM SM.hasK kfnd
  rw [List.any_map]
  induction L with
  | nil => rfl
  | cons e L ih =>
    simp only [List.any_cons, List.find?_cons, Function.comp]
    cases h : (key e == s)
    · simpa using ih
    · simp
theorem kM_del (L : List α) (s : List UInt8) : (kM key val L).del s = kM key val (krem key L s) := by
  unfold kM SM.del krem
  rw [List.filter_map]
  rfl
theorem kM_ins (x : α) : ∀ L : List α, SM.ins (key x) (val x) (kM key val L) = kM key val (kins key x L)
  | [] => rfl
  | y :: L => by
    have ih := kM_ins x L
    unfold kM at *
    simp only [List.map_cons, SM.ins, kins]
    split
    · rfl
    · rw [ih]; rfl
theorem kM_put (L : List α) (x : α) : (kM key val L).put (key x) (val x) = kM key val (kput key L x) := by
  unfold SM.put kput
  rw [kM_del, kM_ins]
theorem kM_len (L : List α) : (kM key val L).length = L.length := by simp [kM]
theorem kM_size (L : List α) : Go.Maps.size (kM key val L).dat = L.length := by simp [SM.dat, Go.Maps.size, kM]
theorem kM_keys (L : List α) : Go.strKeys (kM key val L).dat = L.map key := by
  simp [SM.dat, Go.strKeys, kM, SM.ent, List.map_map, Function.comp_def]
  intro a _
  rfl

theorem kins_mem (x : α) : ∀ (L : List α) (e : α), e ∈ kins key x L ↔ e = x ∨ e ∈ L
  | [], e => by simp [kins]
  | y :: L, e => by
    unfold kins
    split
    · simp
    · have := kins_mem x L e
      simp only [List.mem_cons, this]
      constructor
      · rintro (h | h | h)
        · exact .inr (.inl h)
        · exact .inl h
        · exact .inr (.inr h)
      · rintro (h | h | h)
        · exact .inr (.inl h)
        · exact .inl h
        · exact .inr (.inr h)
theorem krem_mem (L : List α) (s : List UInt8) (e : α) : e ∈ krem key L s ↔ e ∈ L ∧ key e ≠ s := by
  unfold krem
  rw [List.mem_filter]
  simp
theorem kput_mem (L : List α) (x e : α) : e ∈ kput key L x ↔ e = x ∨ (e ∈ L ∧ key e ≠ key x) := by
  unfold kput
  rw [kins_mem, krem_mem]
theorem kins_perm (x : α) : ∀ L : List α, (kins key x L).Perm (x :: L)
  | [] => List.Perm.refl _
  | y :: L => by
    unfold kins
    split
    · exact List.Perm.refl _
    · exact ((kins_perm x L).cons y).trans (List.Perm.swap x y L)

theorem kfnd_mem {L : List α} {s : List UInt8} {e : α} (h : kfnd key L s = some e) : e ∈ L ∧ key e = s := by
  unfold kfnd at h
  exact ⟨List.mem_of_find?_eq_some h, by simpa using List.find?_some h⟩
theorem kfnd_none {L : List α} {s : List UInt8} (h : kfnd key L s = none) : ∀ e ∈ L, key e ≠ s := by
  unfold kfnd at h
  intro e he
  have := List.find?_eq_none.1 h e he
  simpa using this
theorem kfnd_of {L : List α} (hd : KApart key L) {e : α} (he : e ∈ L) : kfnd key L (key e) = some e := by
  induction L with
  | nil => cases he
  | cons y L ih =>
    unfold KApart at hd
    rw [List.pairwise_cons] at hd
    unfold kfnd at *
    simp only [List.find?_cons]
    rcases List.mem_cons.1 he with rfl | h
    · simp
    · have : (key y == key e) = false := by simpa using hd.1 e h
      rw [this]
      exact ih hd.2 h
theorem kfnd_no {L : List α} {s : List UInt8} (h : ∀ e ∈ L, key e ≠ s) : kfnd key L s = none := by
  unfold kfnd
  rw [List.find?_eq_none]
  intro e he
  simpa using h e he
theorem krem_no {L : List α} {s : List UInt8} (h : ∀ e ∈ L, key e ≠ s) : krem key L s = L := by
  unfold krem
  rw [List.filter_eq_self]
  intro e he
  simpa using h e he

theorem KRise.apart {L : List α} (h : KRise key L) : KApart key L := by
  unfold KRise at h
  unfold KApart
  exact h.imp fun {a b} k e => by rw [e] at k; exact lt_irr _ k
theorem KRise.keys {L : List α} (h : KRise key L) : (L.map key).Pairwise (· < ·) := by
  rw [List.pairwise_map]
  exact h
theorem KRise.rem {L : List α} (h : KRise key L) (s : List UInt8) : KRise key (krem key L s) := List.Pairwise.filter _ h
theorem KRise.ins {x : α} : ∀ {L : List α}, KRise key L → (∀ e ∈ L, key e ≠ key x) → KRise key (kins key x L)
  | [], _, _ => by simp [kins, KRise]
  | y :: L, h, hn => by
    unfold KRise at *
    rw [List.pairwise_cons] at h
    unfold kins
    split
    · rename_i hb
      have hxy := (before_lt _ _).1 hb
      rw [List.pairwise_cons, List.pairwise_cons]
      refine ⟨fun e he => ?_, h⟩
      rcases List.mem_cons.1 he with rfl | he
      · exact hxy
      · exact lt_tr hxy (h.1 e he)
    · rename_i hb
      have hyx : key y < key x := lt_tot (fun h => hb ((before_lt _ _).2 h)) (fun e => hn y (by simp) e.symm)
      rw [List.pairwise_cons]
      refine ⟨fun e he => ?_, KRise.ins h.2 (fun e he => hn e (by simp [he]))⟩
      rcases (kins_mem x L e).1 he with rfl | he
      · exact hyx
      · exact h.1 e he
theorem KRise.put {L : List α} (h : KRise key L) (x : α) : KRise key (kput key L x) := KRise.ins (h.rem _) (fun e he => ((krem_mem L _ e).1 he).2)

/-! a rising list, by places -/
theorem kpl_le (L : List α) (s : List UInt8) : kpl key L s ≤ L.length := by
  unfold kpl
  have := List.takeWhile_prefix (l := L) (fun e => decide (key e < s))
  exact this.length_le
theorem kpl_take (L : List α) (s : List UInt8) : L.take (kpl key L s) = L.takeWhile (fun e => decide (key e < s)) := by
  unfold kpl
  exact (List.prefix_iff_eq_take.1 (List.takeWhile_prefix _)).symm
theorem kpl_lt {L : List α} {s : List UInt8} {j : Nat} (h : j < L.length) (hj : j < kpl key L s) : key L[j] < s := by
  induction L generalizing j with
  | nil => simp at h
  | cons y L ih =>
    unfold kpl at hj ih
    by_cases hy : key y < s
    · cases j with
      | zero => exact hy
      | succ j =>
        simp only [List.takeWhile_cons, hy, decide_true, if_true, List.length_cons] at hj
        exact ih (by simpa using h) (by omega)
    · simp [List.takeWhile_cons, hy] at hj
theorem kpl_at {L : List α} {s : List UInt8} (h : kpl key L s < L.length) : ¬ key L[kpl key L s] < s := by
  intro hlt
  unfold kpl at *
  induction L with
  | nil => simp at h
  | cons y L ih =>
    by_cases hy : key y < s
    · simp only [List.takeWhile_cons, hy, decide_true, if_true, List.length_cons, List.getElem_cons_succ, Nat.add_lt_add_iff_right] at h hlt
      exact ih h hlt
    · simp [List.takeWhile_cons, hy] at hlt
theorem kpl_eq {L : List α} {s : List UInt8} {k : Nat} (hk : k ≤ L.length) (h1 : ∀ j (h : j < L.length), j < k → key L[j] < s) (h2 : ∀ h : k < L.length, ¬ key L[k] < s) : kpl key L s = k := by
  rcases Nat.lt_trichotomy (kpl key L s) k with h | h | h
  · exact absurd (h1 _ (by omega) h) (kpl_at (by omega))
  · exact h
  · have := kpl_le (key := key) L s
    exact absurd (kpl_lt (by omega) h) (h2 (by omega))
theorem kins_places {L : List α} {x : α} (h : KRise key L) (hn : ∀ e ∈ L, key e ≠ key x) : kins key x L = L.take (kpl key L (key x)) ++ x :: L.drop (kpl key L (key x)) := by
  induction L with
  | nil => rfl
  | cons y L ih =>
    have h2 := (List.pairwise_cons.1 h).2
    have hne := hn y (by simp)
    by_cases hb : key y < key x
    · have hbb : ¬ bytesBefore (key x) (key y) = true := by
        rw [before_lt]
        exact fun h' => lt_irr _ (lt_tr hb h')
      have : kpl key (y :: L) (key x) = kpl key L (key x) + 1 := by unfold kpl; simp [List.takeWhile_cons, hb]
      rw [this]
      unfold kins
      rw [if_neg hbb, ih h2 (fun e he => hn e (by simp [he]))]
      rfl
    · have hbb : bytesBefore (key x) (key y) = true := by
        rw [before_lt]
        exact lt_tot hb hne
      have : kpl key (y :: L) (key x) = 0 := by unfold kpl; simp [List.takeWhile_cons, hb]
      rw [this]
      unfold kins
      rw [if_pos hbb]
      rfl
/-- where a key is: it is at its place -/
theorem kfnd_place {L : List α} {s : List UInt8} {e : α} (h : KRise key L) (hf : kfnd key L s = some e) : ∃ hk : kpl key L s < L.length, L[kpl key L s] = e := by
  obtain ⟨hm, rfl⟩ := kfnd_mem hf
  obtain ⟨j, hj, rfl⟩ := List.getElem_of_mem hm
  have : kpl key L (key L[j]) = j := kpl_eq (by omega) (fun i hi hij => List.pairwise_iff_getElem.1 h i j hi hj hij) (fun _ => lt_irr _)
  exact ⟨by rw [this]; exact hj, by simp [this]⟩
theorem kfnd_none_place {L : List α} {s : List UInt8} (hf : kfnd key L s = none) (hk : kpl key L s < L.length) : s < key L[kpl key L s] :=
  lt_tot (kpl_at hk) (kfnd_none hf _ (List.getElem_mem hk))
theorem krem_place {L : List α} {s : List UInt8} {e : α} (h : KRise key L) (hf : kfnd key L s = some e) : krem key L s = L.eraseIdx (kpl key L s) := by
  obtain ⟨hk, he⟩ := kfnd_place h hf
  obtain ⟨-, hs⟩ := kfnd_mem hf
  generalize kpl key L s = k at hk he
  induction L generalizing k with
  | nil => simp at hk
  | cons y L ih =>
    have h1 := (List.pairwise_cons.1 h).1
    have h2 := (List.pairwise_cons.1 h).2
    cases k with
    | zero =>
      simp only [List.getElem_cons_zero] at he
      subst he
      subst hs
      show krem key (y :: L) (key y) = L
      unfold krem
      rw [List.filter_cons_of_neg (by simp), List.filter_eq_self]
      intro z hz
      have := h1 z hz
      simp only [Bool.not_eq_true', beq_eq_false_iff_ne, ne_eq]
      intro e
      rw [e] at this
      exact lt_irr _ this
    | succ k =>
      simp only [List.getElem_cons_succ] at he
      have hk' : k < L.length := by simpa using hk
      have hne : key y ≠ s := by
        have := h1 e (by rw [← he]; exact List.getElem_mem hk')
        rw [← hs]
        intro e'
        rw [e'] at this
        exact lt_irr _ this
      show krem key (y :: L) s = y :: L.eraseIdx k
      have hc : krem key (y :: L) s = y :: krem key L s := by
        unfold krem
        rw [List.filter_cons_of_pos (by simpa using hne)]
      have hf2 : kfnd key L s = some e := by
        have := kfnd_of (KRise.apart h2) (List.getElem_mem hk')
        rw [he, hs] at this
        exact this
      rw [hc, ih h2 hf2 k hk' he]
end

/-! the rows by another name -/
section
variable {α β : Type} {key : α → List UInt8} {key' : β → List UInt8} {f : α → β}
theorem kfnd_map (h : ∀ x, key' (f x) = key x) (L : List α) (s : List UInt8) : kfnd key' (L.map f) s = (kfnd key L s).map f := by
  unfold kfnd
  rw [List.find?_map]
  have : ((fun e => key' e == s) ∘ f) = fun e => key e == s := by
    funext x
    simp [h]
  rw [this]
theorem krem_map (h : ∀ x, key' (f x) = key x) (L : List α) (s : List UInt8) : krem key' (L.map f) s = (krem key L s).map f := by
  unfold krem
  rw [List.filter_map]
  have : ((fun e => !(key' e == s)) ∘ f) = fun e => !(key e == s) := by
    funext x
    simp [h]
  rw [this]
theorem kins_map (h : ∀ x, key' (f x) = key x) (x : α) : ∀ L : List α, kins key' (f x) (L.map f) = (kins key x L).map f
  | [] => rfl
  | y :: L => by
    simp only [List.map_cons, kins, h]
    split
    · rfl
    · rw [kins_map h x L]; rfl
theorem kput_map (h : ∀ x, key' (f x) = key x) (L : List α) (x : α) : kput key' (L.map f) (f x) = (kput key L x).map f := by
  unfold kput
  rw [h, krem_map h, kins_map h]
theorem kpl_map (h : ∀ x, key' (f x) = key x) (L : List α) (s : List UInt8) : kpl key' (L.map f) s = kpl key L s := by
  unfold kpl
  rw [List.takeWhile_map, List.length_map]
  congr 2
  funext x
  simp [h]
theorem KRise.map (h : ∀ x, key' (f x) = key x) {L : List α} : KRise key' (L.map f) ↔ KRise key L := by
  unfold KRise
  rw [List.pairwise_map]
  simp [h]
end

/-! one row is another one -/
section
variable {α : Type} {key : α → List UInt8}
theorem kput_same {L : List α} {s : List UInt8} {e x : α} (h : KRise key L) (hf : kfnd key L s = some e) (hx : key x = s) : kput key L x = L.set (kpl key L s) x := by
  obtain ⟨hk, he⟩ := kfnd_place h hf
  have h1 : KRise key (krem key L s) := h.rem s
  have hn : ∀ y ∈ krem key L s, key y ≠ key x := fun y hy => by rw [hx]; exact ((krem_mem L s y).1 hy).2
  unfold kput
  rw [hx, kins_places h1 hn]
  have hr := krem_place h hf
  rw [hx, hr]
  have hp : kpl key (L.eraseIdx (kpl key L s)) s = kpl key L s := by
    refine kpl_eq ?_ ?_ ?_
    · rw [List.length_eraseIdx_of_lt hk]; omega
    · intro j hj hjk
      rw [List.getElem_eraseIdx_of_lt _ hjk]
      exact kpl_lt _ hjk
    · intro hlt
      rw [List.getElem_eraseIdx_of_ge _ (Nat.le_refl _)]
      have hlt' : kpl key L s + 1 < L.length := by rw [List.length_eraseIdx_of_lt hk] at hlt; omega
      have h5 := List.pairwise_iff_getElem.1 h (kpl key L s) (kpl key L s + 1) hk hlt' (by omega)
      rw [he, (kfnd_mem hf).2] at h5
      exact fun h6 => lt_irr _ (lt_tr h5 h6)
  rw [hp, List.set_eq_take_append_cons_drop, if_pos hk]
  rw [List.eraseIdx_eq_take_drop_succ]
  have hl : (L.take (kpl key L s)).length = kpl key L s := by rw [List.length_take]; omega
  rw [List.take_left' hl, List.drop_left' hl]
end
end Go.Proofs.Ytmgbailpmcggiaa
