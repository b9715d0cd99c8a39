/- Flat. -/
import Derived.Test.YtndjgbknhfficaaSep
namespace Go.Proofs.Ytndjgbknhfficaa
open Go.RowKit

section
variable {α : Type} {c : α → List Value} {n : Nat}
theorem flat_len (h : ∀ x, (c x).length = n) : ∀ L : List α, (L.flatMap c).length = L.length * n
  | [] => by simp
  | x :: L => by
    rw [List.flatMap_cons, List.length_append, h, flat_len h L, List.length_cons, Nat.add_mul]
    omega
theorem flat_at (h : ∀ x, (c x).length = n) : ∀ (L : List α) (k : Nat) (hk : k < L.length) (j : Nat), j < n → (L.flatMap c)[k * n + j]? = (c L[k])[j]?
  | [], k, hk, _, _ => absurd hk (Nat.not_lt_zero _)
  | x :: L, 0, _, j, hj => by
    rw [List.flatMap_cons, Nat.zero_mul, Nat.zero_add, List.getElem?_append_left (by rw [h]; exact hj)]
    rfl
  | x :: L, k + 1, hk, j, hj => by
    rw [List.flatMap_cons, List.getElem?_append_right (by rw [h, Nat.add_mul]; omega), h, show (k + 1) * n + j - n = k * n + j from by rw [Nat.add_mul]; omega]
    exact flat_at h L k (by simpa using hk) j hj
theorem flat_snoc (L : List α) (x : α) : (L ++ [x]).flatMap c = L.flatMap c ++ c x := by
  rw [List.flatMap_append, List.flatMap_cons, List.flatMap_nil, List.append_nil]
theorem flat_take {L : List α} {x : α} {k : Nat} (hlt : k < L.length) (hx : x = L[k]) : (L.take (k + 1)).flatMap c = (L.take k).flatMap c ++ c x := by
  rw [List.take_succ_eq_append_getElem hlt, ← hx, flat_snoc]
theorem flat_one (h1 : ∀ x, ∀ u ∈ c x, u.oneCell' = true) (L : List α) : ∀ u ∈ L.flatMap c, u.oneCell' = true := by
  intro u hu
  obtain ⟨x, -, hx⟩ := List.mem_flatMap.1 hu
  exact h1 x u hx
theorem flat_takeN (h : ∀ x, (c x).length = n) : ∀ (L : List α) (k : Nat), (L.flatMap c).take (k * n) = (L.take k).flatMap c
  | [], k => by simp
  | x :: L, 0 => by simp
  | x :: L, k + 1 => by
    rw [List.flatMap_cons, List.take_succ_cons, List.flatMap_cons, List.take_append, h, List.take_of_length_le (by rw [h, Nat.add_mul]; omega), show (k + 1) * n - n = k * n from by rw [Nat.add_mul]; omega, flat_takeN h L k]
theorem flat_dropN (h : ∀ x, (c x).length = n) : ∀ (L : List α) (k : Nat), (L.flatMap c).drop (k * n) = (L.drop k).flatMap c
  | [], k => by simp
  | x :: L, 0 => by simp
  | x :: L, k + 1 => by
    rw [List.flatMap_cons, List.drop_succ_cons, List.drop_append, h, List.drop_of_length_le (by rw [h, Nat.add_mul]; omega), show (k + 1) * n - n = k * n from by rw [Nat.add_mul]; omega, flat_dropN h L k, List.nil_append]
end
/-- a run of cells, written over -/
def setRun (l : List Value) (o : Nat) : List Value → List Value
  | [] => l
  | u :: us => setRun (l.set o u) (o + 1) us
theorem setRun_append_right : ∀ (us : List Value) (a b : List Value) (o : Nat), a.length ≤ o → setRun (a ++ b) o us = a ++ setRun b (o - a.length) us
  | [], _, _, _, _ => rfl
  | u :: us, a, b, o, h => by
    unfold setRun
    rw [List.set_append_right _ _ h, setRun_append_right us a _ (o + 1) (by omega)]
    rw [show o + 1 - a.length = o - a.length + 1 from by omega]
theorem setRun_whole : ∀ (us c r : List Value), c.length = us.length → setRun (c ++ r) 0 us = us ++ r := by
  suffices h : ∀ (us p c r : List Value), c.length = us.length → setRun (p ++ (c ++ r)) p.length us = p ++ (us ++ r) by
    intro us c r hc
    simpa using h us [] c r hc
  intro us
  induction us with
  | nil =>
    intro p c r hc
    have : c = [] := List.eq_nil_of_length_eq_zero hc
    subst this
    rfl
  | cons u us ih =>
    intro p c r hc
    match c, hc with
    | x :: c, hc =>
      unfold setRun
      rw [List.set_append_right _ _ (Nat.le_refl _), Nat.sub_self]
      show setRun (p ++ (u :: (c ++ r))) (p.length + 1) us = _
      have := ih (p ++ [u]) c r (by simpa using hc)
      simpa using this
/-- one record written over -/
theorem flat_set {α : Type} {c : α → List Value} {n : Nat} (h : ∀ x, (c x).length = n) (y : α) : ∀ (L : List α) (k : Nat), k < L.length → setRun (L.flatMap c) (k * n) (c y) = (L.set k y).flatMap c
  | [], k, hk => absurd hk (Nat.not_lt_zero _)
  | x :: L, 0, _ => by
    rw [List.flatMap_cons, List.set_cons_zero, List.flatMap_cons, Nat.zero_mul]
    exact setRun_whole _ _ _ (by rw [h, h])
  | x :: L, k + 1, hk => by
    rw [List.flatMap_cons, List.set_cons_succ, List.flatMap_cons, setRun_append_right _ _ _ _ (by rw [h, Nat.add_mul]; omega), h, show (k + 1) * n - n = k * n from by rw [Nat.add_mul]; omega]
    rw [flat_set h y L k (by simpa using hk)]
theorem own_setRun {base : Nat} {e : TypeId} {size g n cap : Nat} : ∀ (us : List Value) (o : Nat) (w : World) (xs : List Value), w.ownsRow base e size (.slice (some ⟨g, 0, none⟩) n cap) n xs → o + us.length ≤ n * size →
    (w.setCells g o us).ownsRow base e size (.slice (some ⟨g, 0, none⟩) n cap) n (setRun xs o us)
  | [], _, _, _, h, _ => h
  | u :: us, o, w, xs, h, hl => own_setRun us (o + 1) _ _ (own_set h (by simp only [List.length_cons] at hl; omega) u) (by simp only [List.length_cons] at hl; omega)
theorem setRun_take : ∀ (us xs : List Value) (o m : Nat), m ≤ o → (setRun xs o us).take m = xs.take m
  | [], _, _, _, _ => rfl
  | u :: us, xs, o, m, h => by
    unfold setRun
    rw [setRun_take us _ (o + 1) m (by omega), List.take_set_of_le h]
theorem fr_setCells {S : List Nat} {g : Nat} (hg : g ∈ S) : ∀ (us : List Value) (o : Nat) (a w : World), Fr S a w → Fr S a (w.setCells g o us)
  | [], _, _, _, h => h
  | u :: us, o, a, w, h => fr_setCells hg us (o + 1) a _ (h.set (p := ⟨g, o, none⟩) hg u)
theorem own_lo {w : World} {base : Nat} {e : TypeId} {size : Nat} {v : Value} {n : Nat} {xs : List Value} (h : w.ownsRow base e size v n xs) {g : Nat} (hg : v.ownBlock = some g) : base ≤ g := by
  rcases h.2 with ⟨rfl, -⟩ | ⟨g', cap, cur, rfl, hb, -⟩
  · cases hg
  · cases hg
    exact hb
theorem own_mono {w : World} {base base' : Nat} {e : TypeId} {size : Nat} {v : Value} {n : Nat} {xs : List Value} (h : w.ownsRow base e size v n xs) (hb : base' ≤ base) : w.ownsRow base' e size v n xs := by
  refine ⟨h.1, ?_⟩
  rcases h.2 with hn | ⟨g, cap, cur, hv, hbg, rest⟩
  · exact .inl hn
  · exact .inr ⟨g, cap, cur, hv, Nat.le_trans hb hbg, rest⟩
theorem own_hi {w : World} {base : Nat} {e : TypeId} {size n : Nat} {v : Value} {xs : List Value} (h : w.ownsRow base e size v n xs) {g : Nat} (hg : v.ownBlock = some g) : g < w.heap.size := by
  rcases h.2 with ⟨rfl, -⟩ | ⟨g', cap, cur, rfl, -, hh, -⟩
  · cases hg
  · cases hg
    exact (Array.getElem?_eq_some_iff.1 hh).1
theorem own_keep {w w' : World} {base : Nat} {e : TypeId} {size : Nat} {v : Value} {n : Nat} {xs : List Value} (h : w.ownsRow base e size v n xs) (hb : Below w.heap.size w w') : w'.ownsRow base e size v n xs := own_fr h (Fr.of_below hb []) (fun _ _ => by simp)
end Go.Proofs.Ytndjgbknhfficaa
