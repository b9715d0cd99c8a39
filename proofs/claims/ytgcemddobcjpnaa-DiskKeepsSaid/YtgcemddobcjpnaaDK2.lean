/- Texts of one proof, laid together: Rw, Pop, Past, Maps2, MapRange, Dk1, Rd1, Past2, Late, Lin, CutH. No condition of ours. -/
import Derived.Test.YtgcemddobcjpnaaDK1
import Derived.OrdersHeld
import Derived.StillTail
import Derived.Deep.QuietTactic
import Derived.BigQuiet
import Derived.Maps.RangeWalk
import Derived.Lib.ConvBytes
import Derived.Outline
import Derived.Sort.Walk0
import Derived.Deep.RegionHeld3
namespace Go.Proofs.Ytgcemddobcjpnaa
open Go.RowKit

section
variable {α : Type} (c : α → List Value)
def rwC (L : List α) : List Value := L.flatMap c
end
section
variable {α : Type} {c : α → List Value} {k : Nat}
theorem rwC_nil : rwC c [] = [] := rfl
theorem rwC_cons (x : α) (L : List α) : rwC c (x :: L) = c x ++ rwC c L := by unfold rwC; rw [List.flatMap_cons]
theorem rwC_append (L M : List α) : rwC c (L ++ M) = rwC c L ++ rwC c M := by unfold rwC; rw [List.flatMap_append]
theorem rwC_snoc (L : List α) (x : α) : rwC c (L ++ [x]) = rwC c L ++ c x := by rw [rwC_append, rwC_cons, rwC_nil, List.append_nil]
theorem rwC_len (hk : ∀ x, (c x).length = k) : ∀ L : List α, (rwC c L).length = L.length * k
  | [] => by simp [rwC]
  | x :: L => by rw [rwC_cons, List.length_append, hk, rwC_len hk L, List.length_cons, Nat.add_mul]; omega
theorem rwC_one (h1 : ∀ x, ∀ u ∈ c x, u.oneCell' = true) (L : List α) : ∀ u ∈ rwC c L, u.oneCell' = true := by
  intro u hu
  obtain ⟨x, -, hx⟩ := List.mem_flatMap.1 hu
  exact h1 x u hx
theorem rwC_take (hk : ∀ x, (c x).length = k) {L : List α} {m : Nat} (hm : m ≤ L.length) : (rwC c L).take (m * k) = rwC c (L.take m) := by
  conv => lhs; rw [← List.take_append_drop m L, rwC_append]
  rw [List.take_left' (by rw [rwC_len hk, List.length_take, Nat.min_eq_left hm])]
theorem rwC_drop (hk : ∀ x, (c x).length = k) {L : List α} {m : Nat} (hm : m ≤ L.length) : (rwC c L).drop (m * k) = rwC c (L.drop m) := by
  conv => lhs; rw [← List.take_append_drop m L, rwC_append]
  rw [List.drop_left' (by rw [rwC_len hk, List.length_take, Nat.min_eq_left hm])]
theorem rwC_at (hk : ∀ x, (c x).length = k) {L : List α} {i : Nat} (hi : i < L.length) {j : Nat} (hj : j < k) : (rwC c L)[i * k + j]? = (c L[i])[j]? := by
  have h1 := rwC_drop hk (L := L) (m := i) (by omega)
  have h2 : (rwC c L)[i * k + j]? = ((rwC c L).drop (i * k))[j]? := by rw [List.getElem?_drop]
  rw [h2, h1, List.drop_eq_getElem_cons hi, rwC_cons, List.getElem?_append_left (by rw [hk]; exact hj)]
theorem rwC_set (hk : ∀ x, (c x).length = k) {L : List α} {i : Nat} (hi : i < L.length) {j : Nat} (hj : j < k) {u : Value} {x : α} (hx : c x = (c L[i]).set j u) : (rwC c L).set (i * k + j) u = rwC c (L.set i x) := by
  have e : L = L.take i ++ L[i] :: L.drop (i + 1) := by rw [List.getElem_cons_drop, List.take_append_drop]
  have e2 : L.set i x = L.take i ++ x :: L.drop (i + 1) := by
    rw [List.set_eq_take_append_cons_drop, if_pos hi]
  have hl : (rwC c (L.take i)).length = i * k := by rw [rwC_len hk, List.length_take, Nat.min_eq_left (by omega)]
  rw [e2, rwC_append, rwC_cons, hx]
  conv => lhs; rw [e]
  rw [rwC_append, rwC_cons, List.set_append_right _ _ (by omega), hl, Nat.add_sub_cancel_left, List.set_append_left _ _ (by rw [hk]; exact hj)]
theorem rwC_erase (L : List α) (i : Nat) : rwC c (L.take i) ++ rwC c (L.drop (i + 1)) = rwC c (L.eraseIdx i) := by rw [← rwC_append, List.eraseIdx_eq_take_drop_succ]
theorem rwC_map {β : Type} (f : β → α) (L : List β) : rwC c (L.map f) = rwC (fun x => c (f x)) L := by unfold rwC; rw [List.flatMap_map]
end

/-- the first of a row -/
theorem row_first {w : World} {p : Option Addr} {n c m size : Nat} {cs : List Value} (h : Row w (.slice p n c) size n cs) (hm : m ≤ n) : Row w (.slice p m c) size m (cs.take (m * size)) := by
  obtain ⟨p1, c1, hv, h1, h2, h3, h4, h5, h6⟩ := h
  simp only [Value.slice.injEq] at hv
  obtain ⟨rfl, -, rfl⟩ := hv
  have hms : m * size ≤ n * size := Nat.mul_le_mul_right _ hm
  refine ⟨p, c, rfl, by omega, h2, by rw [List.length_take]; omega, fun u hu => h4 u (List.mem_of_mem_take hu), fun e => ?_, ?_⟩
  · have := h5 e
    omega
  · rcases h6 with h6 | ⟨b, o, hp, ha⟩
    · subst h6; left; simp
    · refine .inr ⟨b, o, hp, fun j u hj => ha j u ?_⟩
      rw [List.getElem?_take] at hj
      split at hj
      · exact hj
      · cases hj
/-- the rest of a row -/
theorem row_rest {w : World} {p : Option Addr} {n c m size : Nat} {cs : List Value} (h : Row w (.slice p n c) size n cs) (hm : m ≤ n) : Row w (.slice (if c = m then p else Option.map (fun x => x.add (m * size)) p) (n - m) (c - m)) size (n - m) (cs.drop (m * size)) := by
  obtain ⟨p1, c1, hv, h1, h2, h3, h4, h5, h6⟩ := h
  simp only [Value.slice.injEq] at hv
  obtain ⟨rfl, -, rfl⟩ := hv
  refine ⟨_, c - m, rfl, by omega, by omega, by rw [List.length_drop, h3, Nat.sub_mul], fun u hu => h4 u (List.mem_of_mem_drop hu), fun e => ?_, ?_⟩
  · have : p = none := by split at e <;> simp_all
    have := h5 this
    omega
  · by_cases hlt : m < n
    · rcases h6 with h6 | ⟨b, o, rfl, ha⟩
      · subst h6; left; simp
      · refine .inr ⟨b, o + m * size, by rw [if_neg (by omega)]; simp [add_off], fun j u hj => ?_⟩
        rw [List.getElem?_drop] at hj
        have := ha _ u hj
        rw [Nat.add_assoc]
        exact this
    · left
      rw [List.drop_eq_nil_iff, h3]
      exact Nat.mul_le_mul_right _ (by omega)
theorem row_own {w : World} {base : Nat} {e : TypeId} {size n : Nat} {v : Value} {cs : List Value} (h : w.ownsRow base e size v n cs) (h1 : ∀ u ∈ cs, u.oneCell' = true) : ∃ p c, v = .slice p n c ∧ n ≤ c ∧ c ≤ maxLen ∧ Row w (.slice p n c) size n cs := by
  obtain ⟨p, c, rfl, hc, hm⟩ := own_slice h
  exact ⟨p, c, rfl, hc, hm, row_of_owns h h1⟩
/-- two rows of elements of other types lie apart -/
theorem own_own {w : World} {base base' : Nat} {e e' : TypeId} {size size' n n' : Nat} {v v' : Value} {xs ys : List Value} (h : w.ownsRow base e size v n xs) (k : w.ownsRow base' e' size' v' n' ys) (ht : e ≠ e') {g : Nat} (hg : v.ownBlock = some g) : v'.ownBlock ≠ some g := by
  intro hg'
  rcases h.2 with ⟨rfl, -⟩ | ⟨q, cap, cur, rfl, -, hh, -⟩
  · simp [Value.ownBlock] at hg
  · rcases k.2 with ⟨rfl, -⟩ | ⟨q', cap', cur', rfl, -, hh', -⟩
    · simp [Value.ownBlock] at hg'
    · simp only [Value.ownBlock, Option.some.injEq] at hg hg'
      subst hg hg'
      rw [hh] at hh'
      simp only [Option.some.injEq, Obj.cells.injEq] at hh'
      exact ht hh'.2.1
end Go.Proofs.Ytgcemddobcjpnaa
namespace Go.Proofs.Ytgcemddobcjpnaa
open Go

/-- the post of the region without its last operation: that operation, then the region's own -/
def popQ (P : Program) (ops : Array Oper) (Q : Exit → Act → World → Prop) (n : Nat) : Exit → Act → World → Prop
  | .normal, a, w => wpOp P ops Q n (fun a' w' => Q .normal a' w') a w
  | e, a, w => Q e a w

/-- each operation waits only for earlier ones, and is guarded only by earlier ones -/
def backB (ops : Array Oper) : Bool := (List.range ops.size).all fun j => match ops[j]? with
  | some o => (o.after.all fun e => !Region.binds .any e || decide (e.on < j)) && (match o.guard with | some (g, _) => decide (g < j) | none => true)
  | none => false
theorem backB_spec {ops : Array Oper} (h : backB ops = true) {j : Nat} {o : Oper} (ho : ops[j]? = some o) :
    (∀ e ∈ o.after, Region.binds .any e = true → e.on < j) ∧ ∀ g b, o.guard = some (g, b) → g < j := by
  have hj : j < ops.size := (Array.getElem?_eq_some_iff.1 ho).1
  have h1 := List.all_eq_true.1 h j (List.mem_range.2 hj)
  simp only [ho, Bool.and_eq_true] at h1
  refine ⟨fun e he hb => ?_, fun g b hg => ?_⟩
  · have := Array.all_eq_true_iff_forall_mem.1 h1.1 e he
    simp only [hb, Bool.not_true, Bool.false_or, decide_eq_true_eq] at this
    exact this
  · have := h1.2
    simp only [hg, decide_eq_true_eq] at this
    exact this

theorem upon_pop {P : Program} {o : Oper} {a : Act} {K : Act → World → Prop} {ops : Array Oper} {Q : Exit → Act → World → Prop} {n : Nat} (r : Result Next) (h : o.upon P a K (popQ P ops Q n) r) : o.upon P a K Q r := by
  have hl : LetsOut (popQ P ops Q n) → LetsOut Q := fun ⟨a, w, h⟩ => ⟨a, w, h⟩
  cases r with
  | ok nx w' =>
    cases nx <;> simp only [Oper.upon] at h ⊢ <;>
      first
        | exact h
        | exact Calls.mono h (fun e w'' he => by cases e <;> first | exact he | exact hl he)
  | halt x w' => cases x <;> simp only [Oper.upon] at h ⊢ <;> exact h
theorem wpOp_pop {P : Program} {ops : Array Oper} {Q : Exit → Act → World → Prop} {n i : Nat} {K : Act → World → Prop} {a : Act} {w : World} (hn : ops.size = n + 1) (hb : backB ops = true) (hi : i < n) (h : wpOp P ops.pop (popQ P ops Q n) i K a w) : wpOp P ops Q i K a w := by
  have hpop : ∀ j, j < n → ops.pop[j]? = ops[j]? := fun j hj => by rw [Array.getElem?_pop, if_pos (by omega)]
  unfold wpOp at *
  rw [hpop i hi] at h
  cases ho : ops[i]? with
  | none => simp only [ho] at h ⊢; exact h
  | some o =>
    simp only [ho] at h ⊢
    have hg := (backB_spec hb ho).2
    have hw : Region.wanted o (yielded ops.pop a.tmps) = Region.wanted o (yielded ops a.tmps) := by
      unfold Region.wanted
      cases hgu : o.guard with
      | none => rfl
      | some x =>
        obtain ⟨g, b⟩ := x
        have := hg g b hgu
        simp only
        unfold yielded
        rw [hpop g (by omega)]
    rw [hw] at h
    by_cases hwt : Region.wanted o (yielded ops a.tmps) = true
    · rw [if_pos hwt] at h ⊢
      rcases h with h | ⟨h1, ⟨a', w', h2⟩⟩
      · exact .inl (upon_pop _ h)
      · exact .inr ⟨h1, ⟨a', w', h2⟩⟩
    · rw [if_neg hwt] at h ⊢
      exact h

theorem getD_push {l : Array Bool} {j : Nat} {d : Bool} (h : j < l.size) : (l.push false).getD j d = l.getD j d := by
  simp [Array.getElem?_push, Nat.ne_of_lt h]

theorem wpAny_pop {P : Program} {ops : Array Oper} {Q : Exit → Act → World → Prop} {n : Nat} (hn : ops.size = n + 1) (hb : backB ops = true) (hs : Region.sinkB .any ops n = true) :
    ∀ (fuel : Nat) (listed : Array Bool) (a : Act) (w : World), listed.size = n → HeadInv .any ops n (listed.push false) → wpAny P .any ops.pop (popQ P ops Q n) fuel listed a w → wpAny P .any ops Q (fuel + 1) (listed.push false) a w := by
  have hpop : ∀ j, j < n → ops.pop[j]? = ops[j]? := fun j hj => by rw [Array.getElem?_pop, if_pos (by omega)]
  have hc : Region.chainB .any ops n = true := by
    unfold Region.chainB
    rw [List.all_eq_true]
    intro t ht
    have := List.mem_range.1 ht
    simp; left; omega
  obtain ⟨on, hon⟩ : ∃ on, ops[n]? = some on := ⟨ops[n], Array.getElem?_eq_getElem (by omega)⟩
  have hready : ∀ (listed : Array Bool), listed.size = n → ∀ i, i < n → (i ∈ Region.ready .any ops (listed.push false) ↔ i ∈ Region.ready .any ops.pop listed) := fun listed hl i hi => by
    rw [mem_ready, mem_ready, getD_push (by omega), hpop i hi]
    refine and_congr_right fun _ => ⟨fun ⟨o, ho, h⟩ => ⟨o, ho, fun e he hbe => ?_⟩, fun ⟨o, ho, h⟩ => ⟨o, ho, fun e he hbe => ?_⟩⟩
    · have h1 := h e he hbe
      have h2 := (backB_spec hb ho).1 e he hbe
      rwa [getD_push (by omega)] at h1
    · have h1 := h e he hbe
      have h2 := (backB_spec hb ho).1 e he hbe
      rwa [getD_push (by omega)]
  -- where not all have come up, one may come up
  have hsome : ∀ (listed : Array Bool), listed.size = n → (∃ j, j < n ∧ listed.getD j true = false) → Region.ready .any ops.pop listed ≠ [] := fun listed hl hex => by
    obtain ⟨j, hj, hmin⟩ : ∃ j, (j < n ∧ listed.getD j true = false) ∧ ∀ k, k < j → ¬ (k < n ∧ listed.getD k true = false) := by
      obtain ⟨j0, hj0⟩ := hex
      induction j0 using Nat.strongRecOn with
      | _ j0 ih =>
        by_cases h : ∃ k, k < j0 ∧ (k < n ∧ listed.getD k true = false)
        · obtain ⟨k, hk, hk2⟩ := h
          exact ih k hk hk2
        · exact ⟨j0, hj0, fun k hk hk2 => h ⟨k, hk, hk2⟩⟩
    obtain ⟨hjn, hjl⟩ := hj
    obtain ⟨o, ho⟩ : ∃ o, ops[j]? = some o := ⟨ops[j], Array.getElem?_eq_getElem (by omega)⟩
    intro he
    have : j ∈ Region.ready .any ops.pop listed := by
      rw [mem_ready, hpop j hjn]
      refine ⟨hjl, o, ho, fun e hee hbe => ?_⟩
      have h2 := (backB_spec hb ho).1 e hee hbe
      have h3 := hmin e.on h2
      have h4 : e.on < listed.size := by omega
      have h5 : ¬ listed.getD e.on true = false := fun h => h3 ⟨by omega, h⟩
      simp [h4] at h5 ⊢
      exact h5
    rw [he] at this
    cases this
  intro fuel
  induction fuel with
  | zero =>
    intro listed a w hl inv H
    by_cases hex : ∃ j, j < n ∧ listed.getD j true = false
    · exact absurd H.1 (hsome listed hl hex)
    · have hall : ∀ j, j < n → listed.getD j true = true := fun j hj => by
        cases h : listed.getD j true
        · exact absurd ⟨j, hj, h⟩ hex
        · rfl
      have hnr : n ∈ Region.ready .any ops (listed.push false) := by
        rw [mem_ready]
        refine ⟨by rw [← hl]; simp, on, hon, fun e he hbe => ?_⟩
        have h2 := (backB_spec hb hon).1 e he hbe
        have h3 := hall e.on h2
        have h4 : e.on < listed.size := by omega
        rw [getD_push h4]
        simp [h4] at h3 ⊢
        exact h3
      refine ⟨fun h => (by rw [h] at hnr; cases hnr), fun i hi => ?_⟩
      have hin : i < n + 1 := by
        obtain ⟨-, o, ho, -⟩ := mem_ready.1 hi
        have := (Array.getElem?_eq_some_iff.1 ho).1
        omega
      by_cases hi2 : i < n
      · have h5 := (mem_ready.1 hi).1
        rw [getD_push (by omega), hall i hi2] at h5
        cases h5
      · obtain rfl : i = n := by omega
        refine wpOp_mono (fun a' w' h' => wpAny_done ?_ h' 0) H.2
        rw [List.eq_nil_iff_forall_not_mem]
        intro k hk
        obtain ⟨h6, o, ho, -⟩ := mem_ready.1 hk
        have hk2 := (Array.getElem?_eq_some_iff.1 ho).1
        by_cases hki : k = i
        · subst hki
          simp [hl] at h6
        · have h7 : k < listed.size := by omega
          have h8 := hall k (by omega)
          rw [getD_set_ne true (Ne.symm hki), getD_push h7, h8] at h6
          cases h6
  | succ fuel ih =>
    intro listed a w hl inv H
    by_cases hex : ∃ j, j < n ∧ listed.getD j true = false
    · have hne := hsome listed hl hex
      obtain ⟨j, hj, hjl⟩ := hex
      have hnn : ∀ t, n ≤ t → t ∉ Region.ready .any ops (listed.push false) := tail_waits hs hc (by omega) inv (n - j) j rfl hj (by rw [getD_push (by omega)]; exact hjl)
      refine ⟨fun h => absurd h ?_, fun i hi => ?_⟩
      · obtain ⟨k, hk⟩ := List.exists_mem_of_ne_nil _ hne
        have hkn : k < n := by
          obtain ⟨-, o, ho, -⟩ := mem_ready.1 hk
          have := (Array.getElem?_eq_some_iff.1 ho).1
          simp at this; omega
        intro h0
        have := (hready listed hl k hkn).2 hk
        rw [h0] at this
        cases this
      · have hin : i < n := Nat.lt_of_not_le fun h => hnn i h hi
        have hi' := (hready listed hl i hin).1 hi
        refine wpOp_mono (fun a' w' h' => ?_) (wpOp_pop hn hb hin (H.2 i hi'))
        have hset : (listed.push false).setIfInBounds i true = (listed.setIfInBounds i true).push false := by
          apply Array.ext_getElem?
          intro k
          simp only [Array.getElem?_setIfInBounds, Array.getElem?_push, Array.size_setIfInBounds, Array.size_push]
          by_cases hki : i = k
          · subst hki
            simp [hl, hin, Nat.ne_of_lt hin, Nat.lt_succ_of_lt hin]
          · simp [hki]
        rw [hset]
        refine ih _ a' w' (by simp [hl]) ?_ h'
        rw [← hset]
        exact inv.set hi hin
    · have hall : ∀ j, j < n → listed.getD j true = true := fun j hj => by
        cases h : listed.getD j true
        · exact absurd ⟨j, hj, h⟩ hex
        · rfl
      have hnil : Region.ready .any ops.pop listed = [] := by
        rw [List.eq_nil_iff_forall_not_mem]
        intro k hk
        obtain ⟨h6, o, ho, -⟩ := mem_ready.1 hk
        have hk2 := (Array.getElem?_eq_some_iff.1 ho).1
        rw [hall k (by simp at hk2; omega)] at h6
        cases h6
      have HQ := H.1 hnil
      have hnr : n ∈ Region.ready .any ops (listed.push false) := by
        rw [mem_ready]
        refine ⟨by rw [← hl]; simp, on, hon, fun e he hbe => ?_⟩
        have h2 := (backB_spec hb hon).1 e he hbe
        have h3 := hall e.on h2
        have h4 : e.on < listed.size := by omega
        rw [getD_push h4]
        simp [h4] at h3 ⊢
        exact h3
      refine ⟨fun h => (by rw [h] at hnr; cases hnr), fun i hi => ?_⟩
      have hin : i < n + 1 := by
        obtain ⟨-, o, ho, -⟩ := mem_ready.1 hi
        have := (Array.getElem?_eq_some_iff.1 ho).1
        omega
      by_cases hi2 : i < n
      · have h5 := (mem_ready.1 hi).1
        rw [getD_push (by omega), hall i hi2] at h5
        cases h5
      · obtain rfl : i = n := by omega
        refine wpOp_mono (fun a' w' h' => wpAny_done ?_ h' _) HQ
        rw [List.eq_nil_iff_forall_not_mem]
        intro k hk
        obtain ⟨h6, o, ho, -⟩ := mem_ready.1 hk
        have hk2 := (Array.getElem?_eq_some_iff.1 ho).1
        by_cases hki : k = i
        · subst hki
          simp [hl] at h6
        · have h7 : k < listed.size := by omega
          have h8 := hall k (by omega)
          rw [getD_set_ne true (Ne.symm hki), getD_push h7, h8] at h6
          cases h6

/-- what is asked of a region whose last operation is to be taken off -/
def popB (ops : Array Oper) : Bool := backB ops && Region.sinkB .any ops (ops.size - 1) && decide (0 < ops.size)
/-- A region that draws its order: it is walked without its last operation, which comes behind all others. -/
theorem wp_region_pop {P : Program} {ops : Array Oper} {Q : Exit → Act → World → Prop} {S : World → Prop} {id : Nat} {a : Act} {w : World} (hm : P.follows .mixedOrders = true) (hp : popB ops = true)
    (h : wpAnyH P .any ops.pop (popQ P ops Q (ops.size - 1)) S (ops.size - 1) (Array.replicate (ops.size - 1) false) a w.drew) : (Code.region id ops true).wp P Q a w := by
  unfold popB at hp
  simp only [Bool.and_eq_true, decide_eq_true_eq] at hp
  obtain ⟨⟨hb, hs⟩, h0⟩ := hp
  obtain ⟨n, hn⟩ : ∃ n, ops.size = n + 1 := ⟨ops.size - 1, by omega⟩
  rw [hn, Nat.add_sub_cancel] at hs h
  refine wp_region_any hm ?_
  rw [hn, show Array.replicate (n + 1) false = (Array.replicate n false).push false from by rw [← Array.replicate_succ]]
  have inv : HeadInv .any ops n ((Array.replicate n false).push false) := by
    rw [← Array.replicate_succ]
    refine ⟨by simp [hn], fun j oj hj hl => ?_, fun t h1 h2 => ?_⟩
    · rw [getD_replicate_false] at hl
      cases hl
    · simp [show t < n + 1 from by omega]
  exact wpAny_pop hn hb hs n _ a _ (by simp) inv (wpAny_of_held _ _ _ _ h)
end Go.Proofs.Ytgcemddobcjpnaa
namespace Go.Proofs.Ytgcemddobcjpnaa
open Go.RowKit Go

/-- a world behind w, in which nothing that was there has turned -/
structure Past (w : World) where
  val : World
  h : Below w.heap.size w val
instance (w : World) : Nonempty (Past w) := ⟨⟨w, Below.refl _ _⟩⟩
def Past.here (w : World) : Past w := ⟨w, Below.refl _ _⟩
def Past.more {w : World} (s : Past w) {w' : World} (hb : Below s.val.heap.size s.val w') : Past w := ⟨w', below_and s.h hb⟩

theorem Past.cell {w : World} {a : Addr} {v : Value} (h : w.cell? a = some v) : ∀ s : Past w, s.val.cell? a = some v := fun s => cell_kept h s.h
theorem Past.blk {w : World} {g : Nat} {cs : List Value} {t : TypeId} (h : Blk w g cs t) {j : Nat} {u : Value} (hj : cs[j]? = some u) : ∀ s : Past w, s.val.cell? ⟨g, j, none⟩ = some u := fun s => cell_kept (h.cell hj) s.h

section
variable {P : Program}
/-- a call that answers v in the world at hand, and makes memory alone -/
theorem past_call {f : FuncId} {args : Array Value} {w : World} {s : Past w} {v : Value}
    (h : Calls P f args s.val fun e w' => e = .returned v ∧ Below s.val.heap.size s.val w') : Calls P f args s.val fun e w'' => e = .returned v ∧ ∃ s' : Past w, w'' = s'.val :=
  h.mono fun _ _ ⟨he, hb⟩ => ⟨he, s.more hb, rfl⟩
theorem past_call_same {f : FuncId} {args : Array Value} {w : World} {s : Past w} {v : Value}
    (h : Calls P f args s.val fun e w' => e = .returned v ∧ s.val = w') : Calls P f args s.val fun e w'' => e = .returned v ∧ ∃ s' : Past w, w'' = s'.val :=
  h.mono fun _ _ ⟨he, hb⟩ => ⟨he, s, hb.symm⟩

theorem quiet_weaken {ops : Array Oper} {C : World → Prop} {Q Q' : Act → Prop} (h : ∀ a, Q a → Q' a) : ∀ (l : List Oper) (a : Act), wpQuiet P ops C Q l a → wpQuiet P ops C Q' l a
  | [], a, hq => h a hq
  | o :: rest, a, hq => by
    unfold wpQuiet at hq ⊢
    split
    · rename_i hw
      rw [if_pos hw] at hq
      exact Oper.quiet_mono (fun a' h' => quiet_weaken h rest a' h') hq
    · rename_i hw
      rw [if_neg hw] at hq
      exact quiet_weaken h rest _ hq

/-- the region, walked in the order of the text -/
theorem wp_region_past {id : Nat} {Q : Exit → Act → World → Prop} {a : Act} {w : World} {l : List Oper} (hm : P.follows .mixedOrders = true) (hB : Region.lexB .any l.toArray = true)
    (h : wpQuiet P l.toArray (fun w' => ∃ s : Past w, w' = s.val) (fun a' => ∀ w', (∃ s : Past w, w' = s.val) → Q .normal a' w') l a) : (Code.region id l.toArray true).wp P Q a w :=
  wp_region_quiet (C := fun w' => ∃ s : Past w, w' = s.val) hm hB ⟨⟨{ w with drawn := w.drawn + 1 }, below_drewN 1⟩, rfl⟩ (by simpa using h)

/-- the same, its last operation (which none waits for) behind all others -/
theorem wp_region_past_pop {id : Nat} {Q : Exit → Act → World → Prop} {a : Act} {w : World} {l : List Oper} {o : Oper} (hm : P.follows .mixedOrders = true) (hB : Region.lexB .any l.toArray = true) (hp : popB (l ++ [o]).toArray = true)
    (h : wpQuiet P l.toArray (fun w' => ∃ s : Past w, w' = s.val) (fun a' => ∀ w', (∃ s : Past w, w' = s.val) → popQ P (l ++ [o]).toArray Q l.length .normal a' w') l a) : (Code.region id (l ++ [o]).toArray true).wp P Q a w := by
  have hn : (l ++ [o]).toArray.size = l.length + 1 := by simp
  have hpop : (l ++ [o]).toArray.pop = l.toArray := by simp
  unfold popB at hp
  simp only [Bool.and_eq_true, decide_eq_true_eq] at hp
  obtain ⟨⟨hb, hs⟩, -⟩ := hp
  rw [hn, Nat.add_sub_cancel] at hs
  simp only [Region.lexB, Bool.and_eq_true] at hB
  refine wp_region_any hm ?_
  rw [hn, show Array.replicate (l.length + 1) false = (Array.replicate l.length false).push false from by rw [← Array.replicate_succ]]
  have inv : HeadInv .any (l ++ [o]).toArray l.length ((Array.replicate l.length false).push false) := by
    rw [← Array.replicate_succ]
    refine ⟨by simp, fun j oj hj hl => ?_, fun t h1 h2 => ?_⟩
    · rw [getD_replicate_false] at hl
      cases hl
    · simp [show t < l.length + 1 from by omega]
  refine wpAny_pop hn hb hs l.length _ a _ (by simp) inv ?_
  rw [hpop]
  refine wpAny_of_quiet (C := fun w' => ∃ s : Past w, w' = s.val) (Q := fun a' => ∀ w', (∃ s : Past w, w' = s.val) → popQ P (l ++ [o]).toArray Q l.length .normal a' w') (fun _ w' hw' h => h w' hw') _ _ _ _ ⟨⟨{ w with drawn := w.drawn + 1 }, below_drewN 1⟩, rfl⟩ ?_
  have := wpAnyQ_lex (P := P) (C := fun w' => ∃ s : Past w, w' = s.val) (md := .any) hB.1 l 0 (Array.replicate l.length false) a (by simp) (by simpa using hB.2) h
  simpa using this

/-- the same, of a region that is written out; the last operation as a plain walk has it -/
theorem wp_region_past_last {id : Nat} {Q : Exit → Act → World → Prop} {a : Act} {w : World} {L : List Oper} {o : Oper} (hL : L.getLast? = some o) (hm : P.follows .mixedOrders = true) (hB : Region.lexB .any L.dropLast.toArray = true) (hp : popB L.toArray = true)
    (h : wpQuiet P L.dropLast.toArray (fun w' => ∃ s : Past w, w' = s.val) (fun a' => ∀ w', (∃ s : Past w, w' = s.val) → wpList P L.toArray Q [o] a' w') L.dropLast a) : (Code.region id L.toArray true).wp P Q a w := by
  have e : L.dropLast ++ [o] = L := by
    cases hq : L.reverse with
    | nil => rw [List.reverse_eq_nil_iff] at hq; subst hq; cases hL
    | cons c r =>
      have hr : L = r.reverse ++ [c] := by rw [← List.reverse_reverse L, hq, List.reverse_cons]
      rw [hr] at hL ⊢
      simp at hL
      simp [hL]
  have key : (Code.region id (L.dropLast ++ [o]).toArray true).wp P Q a w := by
    refine wp_region_past_pop hm hB (by rw [e]; exact hp) ?_
    rw [e]
    refine quiet_weaken (fun a' h' w' hw' => ?_) _ _ h
    have h2 := h' w' hw'
    have hget : L.toArray[L.dropLast.length]? = some o := by
      have : (L.dropLast ++ [o])[L.dropLast.length]? = some o := by simp
      rw [e] at this
      simpa using this
    show wpOp P L.toArray Q L.dropLast.length (fun a' w' => Q .normal a' w') a' w'
    unfold wpOp
    rw [hget]
    exact h2
  rwa [e] at key
end
end Go.Proofs.Ytgcemddobcjpnaa
namespace Go.Proofs.Ytgcemddobcjpnaa
open Go.RowKit

theorem SMap.look {P : Program} {k e t : TypeId} {w : World} {b : Nat} {m : SM} (h : SMap P k w b m) (hk : P.underlying k = some .string) (ht : P.underlying t = some (.map k e)) {z : Value} (hz : (zeroValue e).run P w = .ok z w) {s : ByteArray} (hs : s.size ≤ maxLen) :
    (Instr.lookup t (.map (some b)) (.string s) false).run P w = .ok ((m.get s.data.toList).getD z) w := by
  obtain ⟨v, ps, h1, h2⟩ := World.ownsMap.lookup h (Maps.string_keyed hk) ht hz (zd := .held z) (zp := []) rfl (keyOf_str hk hs)
  rw [SM.dat_at] at h2
  rw [h1, anyElem_inv h2]
theorem SMap.look_ok {P : Program} {k e t : TypeId} {w : World} {b : Nat} {m : SM} (h : SMap P k w b m) (hk : P.underlying k = some .string) (ht : P.underlying t = some (.map k e)) {z : Value} (hz : (zeroValue e).run P w = .ok z w) {s : ByteArray} (hs : s.size ≤ maxLen) :
    (Instr.lookup t (.map (some b)) (.string s) true).run P w = .ok (.tuple #[(m.get s.data.toList).getD z, .bool (m.hasK s.data.toList)]) w := by
  obtain ⟨v, ps, h1, h2⟩ := World.ownsMap.look_ok h (Maps.string_keyed hk) ht hz (zd := .held z) (zp := []) rfl (keyOf_str hk hs)
  rw [SM.dat_at] at h2
  rw [h1, anyElem_inv h2, SM.dat_has]
theorem wpList_slook {P : Program} (w : World) {ops : Array Oper} {rest : List Oper} {o : Oper} {a : Act} {Q : Exit → Act → World → Prop} (hg : o.guard = none) (x1 x2 : Operand) (t : TypeId) (hop : o.op = Op.lookup t x1 x2 false)
    (k e : TypeId) (hk : P.underlying k = some .string) (ht : P.underlying t = some (.map k e)) {z : Value} (hz : (zeroValue e).run P w = .ok z w) (b : Nat) (m : SM)
    (hm : a.eval x1 = .map (some b)) (hown : SMap P k w b m) (s : ByteArray) (hx : a.eval x2 = .string s) (hs : s.size ≤ maxLen)
    (hK : wpList P ops Q rest (a.put o.dst ((m.get s.data.toList).getD z)) w) :
    wpList P ops Q (o :: rest) a w := by
  refine wpList_plain hg fun K' hK' => ?_
  have hrun := hown.look hk ht hz hs
  unfold Oper.wp
  simp [execOp, hop, hm, hx, hrun, Result.andThen]
  exact hK' _ _ hK
end Go.Proofs.Ytgcemddobcjpnaa
namespace Go.Proofs.Ytgcemddobcjpnaa
open Go.RowKit

theorem SM.get_of_at {m : SM} {s : List UInt8} {c : Value} (h : ∀ zd : DataW Value, m.dat.atKey (.string s) zd = .held c) : m.get s = some c := by
  have h1 := h (.held (.int .i64 0))
  have h2 := h (.held (.int .i64 1))
  rw [SM.dat_at] at h1 h2
  cases hg : m.get s with
  | none =>
    rw [hg] at h1 h2
    simp only [Option.getD_none, DataW.held.injEq] at h1 h2
    rw [← h1] at h2
    cases h2
  | some v =>
    rw [hg] at h1
    simp only [Option.getD_some, DataW.held.injEq] at h1
    rw [h1]

/-- the range is under way: what is left of it -/
def SRange (P : Program) (k : TypeId) (w : World) (b r : Nat) (m : SM) (left : Lit → Bool) (cnt : Nat) : Prop := w.ranges P k anyElem b r m.length m.dat left cnt
theorem SRange.map {P : Program} {k : TypeId} {w : World} {b r : Nat} {m : SM} {left : Lit → Bool} {cnt : Nat} (h : SRange P k w b r m left cnt) : SMap P k w b m := World.ranges.owns h
theorem SRange.below {P : Program} {k : TypeId} {w w' : World} {b r : Nat} {m : SM} {left : Lit → Bool} {cnt : Nat} (h : SRange P k w b r m left cnt) (hb : Below w.heap.size w w') : SRange P k w' b r m left cnt := by
  obtain ⟨es, clock, since, seen, c0, h1, h2, h3, h4, h5, h6⟩ := h
  refine ⟨es, clock, since, seen, c0, ?_, h2, h3, h4, ?_, h6⟩
  · rw [hb.block b (Array.getElem?_eq_some_iff.1 h1).1]; exact h1
  · rw [hb.block r (Array.getElem?_eq_some_iff.1 h5).1]; exact h5
theorem SRange.set {P : Program} {k : TypeId} {w : World} {b r : Nat} {m : SM} {left : Lit → Bool} {cnt : Nat} (h : SRange P k w b r m left cnt) {a : Addr} (h1 : a.block ≠ b) (h2 : a.block ≠ r) (u : Value) : SRange P k (w.setCell a u) b r m left cnt := by
  obtain ⟨es, clock, since, seen, c0, k1, k2, k3, k4, k5, k6⟩ := h
  refine ⟨es, clock, since, seen, c0, ?_, k2, k3, k4, ?_, k6⟩
  · rw [Below.heap_setCell _ _ _ _ (Ne.symm h1)]; exact k1
  · rw [Below.heap_setCell _ _ _ _ (Ne.symm h2)]; exact k5
theorem SRange.left {P : Program} {k : TypeId} {w : World} {b r : Nat} {m : SM} {left : Lit → Bool} {cnt : Nat} (h : SRange P k w b r m left cnt) : w.rangeLeft b r = cnt := World.ranges.left_eq h
theorem SRange.lt {P : Program} {k : TypeId} {w : World} {b r : Nat} {m : SM} {left : Lit → Bool} {cnt : Nat} (h : SRange P k w b r m left cnt) : b < w.heap.size ∧ r < w.heap.size := by
  obtain ⟨es, clock, since, seen, c0, k1, k2, k3, k4, k5, k6⟩ := h
  exact ⟨(Array.getElem?_eq_some_iff.1 k1).1, (Array.getElem?_eq_some_iff.1 k5).1⟩

section
variable {P : Program} (w : World) {ops : Array Oper} {rest : List Oper} {o : Oper} {a : Act} {Q : Exit → Act → World → Prop}

theorem wpList_srange (hg : o.guard = none) (x : Operand) (t : TypeId) (hop : o.op = Op.range t x) (k e : TypeId) (hk : P.underlying k = some .string) (ht : P.underlying t = some (.map k e)) (b : Nat) (m : SM)
    (hm : a.eval x = .map (some b)) (hown : SMap P k w b m)
    (hK : ∀ w', SRange P k w' b w.heap.size m (fun kl => Maps.has m.dat kl) m.length → Below w.heap.size w w' → w'.heap.size = w.heap.size + 1 → wpList P ops Q rest (a.put o.dst (.pointer (some ⟨w.heap.size, 0, none⟩))) w') :
    wpList P ops Q (o :: rest) a w :=
  Go.wpList_range_own w hg x t hop k e (Maps.string_keyed hk) ht anyElem b m.length m.dat hm hown (fun w' h1 h2 h3 => by
    have : Maps.size m.dat = m.length := by simp [SM.dat, Maps.size]
    rw [this] at h1
    exact hK w' h1 ⟨h2.os, h2.tape, h2.output, h2.size, fun i hi => h2.block i hi (by simp)⟩ h3)

theorem keyOf_str_inv {k : TypeId} (hk : P.underlying k = some .string) {key : Value} {kl : Lit} (h : keyOf P k key = some kl) : ∃ x : ByteArray, key = .string x ∧ kl = .string x.data.toList := by
  cases key <;> simp [keyOf, hk, mapKey] at h
  rename_i s
  exact ⟨s, rfl, h.2.symm⟩

theorem wpList_snext (hg : o.guard = none) (it : Operand) (hop : o.op = Op.next it false) (k : TypeId) (hk : P.underlying k = some .string) (b r : Nat) (m : SM) (left : Lit → Bool) (cnt : Nat)
    (hit : a.eval it = .pointer (some ⟨r, 0, none⟩)) (h : SRange P k w b r m left cnt)
    (hDone : (∀ s, left (.string s) = false) → wpList P ops Q rest (a.put o.dst (.tuple #[.bool false])) w)
    (hMore : ∀ (x : ByteArray) (c : Value) (w' : World) (cnt' : Nat), left (.string x.data.toList) = true → m.get x.data.toList = some c → SRange P k w' b r m (fun z => left z && !z.sameKey (.string x.data.toList)) cnt' → cnt' < cnt →
      w.grownBy w' (some r) → w'.heap.size = w.heap.size → (Instr.entry (.pointer (some ⟨r, 0, none⟩))).run P w' = .ok (.tuple #[.string x, c]) w' → wpList P ops Q rest (a.put o.dst (.tuple #[.bool true, .string x, c])) w') :
    wpList P ops Q (o :: rest) a w :=
  Go.wpList_next_ranges w hg it hop k (Maps.string_keyed hk) anyElem Value.string (fun v : Value => v) (fun key kl hkey => by obtain ⟨x, rfl, -⟩ := keyOf_str_inv hk hkey; exact ⟨x, rfl⟩) (fun v y _ => ⟨v, rfl⟩) b r m.length m.dat left cnt hit h
    (fun _ hl => hDone fun s => hl _)
    (fun x c kl y w' cnt' hkey hlk hv hat hrg hlt hgr hsz hen => by
      obtain ⟨x', ex, rfl⟩ := keyOf_str_inv hk hkey
      cases ex
      simp only [anyElem, Option.some.injEq] at hv
      subst hv
      exact hMore x c w' cnt' hlk (SM.get_of_at hat) hrg hlt hgr hsz hen)
end
end Go.Proofs.Ytgcemddobcjpnaa
namespace Go.Proofs.Ytgcemddobcjpnaa
open Go.RowKit

theorem conv_bytes (s : ByteArray) (w : World) : ∃ wq cap, (convert 9 29 (.string s)).run Try.prog w = .ok (.slice (some ⟨w.heap.size, 0, none⟩) s.size cap) wq ∧ Below w.heap.size w wq ∧ ∀ j, j < s.size → wq.cell? ⟨w.heap.size, j, none⟩ = some (.int .u8 (s.data.toList.getD j 0).toNat) :=
  ⟨_, _, Lib.run_convert_string_bytes w 9 29 5 s Try.underlying9 Try.underlying29 Try.underlying5,
    ⟨rfl, rfl, rfl, by rw [Lib.bytesWorld_size]; omega, fun j hj => Lib.bytesWorld_at_old w _ s j hj⟩, fun j hj => Lib.bytesWorld_cell w _ s j hj⟩

/-! none -/
set_option maxRecDepth 100000 in
set_option maxHeartbeats 400000 in
theorem none_made (b mb : Nat) (D : Dk) (L : List Pf) (w : World) (h : PDk w b mb D L) :
    Calls Try.prog 40 #[ptr b] w fun e w' => e = .returned (.bool false) ∧ w = w' := by
  have c0 := h.blk.cell (j := 0) rfl
  clear h
  have he := fun w r => run_eql_map_nil (P := Try.prog) w 52 9 66 r Try.underlying52
  go_enter Try.func40, Try.ntmps40
  go_wp2
  go_ret
  exact ⟨rfl, rfl⟩
set_option maxRecDepth 100000 in
set_option maxHeartbeats 400000 in
theorem none_nil (w : World) :
    Calls Try.prog 40 #[.pointer none] w fun e w' => e = .returned (.bool true) ∧ w = w' := by
  go_enter Try.func40, Try.ntmps40
  go_wp2
  go_ret
  exact ⟨rfl, rfl⟩
set_option maxRecDepth 100000 in
set_option maxHeartbeats 400000 in
theorem none_unmade (b : Nat) (w : World) (h : w.cell? ⟨b, 0, none⟩ = some (.map none)) :
    Calls Try.prog 40 #[ptr b] w fun e w' => e = .returned (.bool true) ∧ w = w' := by
  have he := fun w r => run_eql_map_nil (P := Try.prog) w 52 9 66 r Try.underlying52
  go_enter Try.func40, Try.ntmps40
  go_wp2
  go_ret
  exact ⟨rfl, rfl⟩

/-! named -/
def nb (c : UInt8) : Bool := decide (33 ≤ c.toNat) && decide (c.toNat ≤ 126)
theorem nameB_of (s : ByteArray) (h1 : 1 ≤ s.size) (h2 : s.size ≤ 24) : nameB s = s.data.toList.all nb := by
  unfold nameB nb
  simp [h1, h2]
theorem nameB_bad {s : ByteArray} {k : Nat} (hk : k < s.data.toList.length) (h : nb s.data.toList[k] = false) : nameB s = false := by
  unfold nameB
  have : (s.data.toList.all fun c => decide (33 ≤ c.toNat) && decide (c.toNat ≤ 126)) = false := by
    rw [← Bool.not_eq_true, List.all_eq_true]
    intro hh
    have := hh _ (List.getElem_mem hk)
    unfold nb at h
    rw [h] at this; cases this
  rw [this]
  simp
set_option maxRecDepth 100000 in
set_option maxHeartbeats 1000000 in
theorem named_any (s : ByteArray) (w : World) (hs : s.size ≤ maxLen) :
    Calls Try.prog 45 #[.string s] w fun e w' => e = .returned (.bool (nameB s)) ∧ Below w.heap.size w w' := by
  unfold maxLen at hs
  by_cases h1 : 1 ≤ s.size
  · by_cases h2 : s.size ≤ 24
    · obtain ⟨wq, cap, hcv, hbl, hcell⟩ := conv_bytes s w
      obtain ⟨l, hl⟩ : ∃ l, l = s.data.toList := ⟨_, rfl⟩
      have hsz : s.size = l.length := by rw [hl]; simp
      have HNB : Hid (nameB s = l.all nb) := Lib.hid (by rw [nameB_of s h1 h2, hl])
      have HNX : Hid (∀ k (h : k < l.length), nb l[k] = false → nameB s = false) := Lib.hid (fun k hk h => by subst hl; exact nameB_bad hk h)
      have HB := Lib.hid hbl
      have HC : Hid (∀ j (h : j < l.length), wq.cell? ⟨w.heap.size, j, none⟩ = some (.int .u8 (l[j].toNat : Int))) := Lib.hid (fun j hj => by
        rw [hcell j (by omega), ← hl]
        simp [List.getD, hj])
      have i1 : decide ((s.size : Int) < 1) = false := by simp; omega
      have i2 : decide ((24 : Int) < (s.size : Int)) = false := by simp; omega
      have HSZ := Lib.hid hsz
      have hl1 : l.length ≤ 9223372036854775807 := by omega
      clear hbl hcell hl hsz h1 h2
      go_enter Try.func45, Try.ntmps45
      go_wp2
      go_loop [16] (fun i => ∃ k : Nat, k ≤ l.length ∧ i = .int .i64 (k : Int) ∧ Hid ((l.take k).all nb = true)) (fun i => l.length - (intOf i).toNat)
      case atStart => exact ⟨0, Nat.zero_le _, rfl, by simp [Hid]⟩
      case round =>
        obtain ⟨k, hk, rfl, HD⟩ := hrel
        by_cases hlt : k < l.length
        · have hc := HC.out k hlt
          have i0 : (k : Int) < (s.size : Int) := by have := HSZ.out; omega
          obtain ⟨c, hcc⟩ : ∃ c, c = l[k] := ⟨_, rfl⟩
          rw [← hcc] at hc
          have HCC := Lib.hid hcc
          clear hcc
          by_cases hd1 : c.toNat < 33
          · have HR : Hid (nameB s = false) := Lib.hid (HNX.out k hlt (by rw [← HCC.out]; unfold nb; simp; omega))
            have d1 : decide ((c.toNat : Int) < 33) = true := by simp; omega
            go_wp2
            go_ret
            exact ⟨ret_bool HR.out.symm, HB.out⟩
          · have d1 : decide ((c.toNat : Int) < 33) = false := by simp; omega
            by_cases hd2 : 126 < c.toNat
            · have HR : Hid (nameB s = false) := Lib.hid (HNX.out k hlt (by rw [← HCC.out]; unfold nb; simp; omega))
              have d2 : decide ((126 : Int) < (c.toNat : Int)) = true := by simp; omega
              go_wp2
              go_ret
              exact ⟨ret_bool HR.out.symm, HB.out⟩
            · have d2 : decide ((126 : Int) < (c.toNat : Int)) = false := by simp; omega
              have HD2 : Hid ((l.take (k + 1)).all nb = true) := Lib.hid (by rw [List.take_succ_eq_append_getElem hlt, List.all_append, HD.out, ← HCC.out]; unfold nb; simp; omega)
              go_wp2
              go_round
              case rel => exact ⟨k + 1, hlt, by go_num, HD2⟩
              case measure => simp [intOf]; omega
        · obtain rfl : k = l.length := by omega
          have HR : Hid (nameB s = true) := Lib.hid (by rw [HNB.out]; have := HD.out; rwa [List.take_length] at this)
          have i0 : ¬ (l.length : Int) < (s.size : Int) := by have := HSZ.out; omega
          go_wp2
          go_ret
          exact ⟨ret_bool HR.out.symm, HB.out⟩
    · have HR : Hid (nameB s = false) := Lib.hid (by unfold nameB; simp [h2])
      have i1 : decide ((s.size : Int) < 1) = false := by simp; omega
      have i2 : decide ((24 : Int) < (s.size : Int)) = true := by simp; omega
      clear h1 h2
      go_enter Try.func45, Try.ntmps45
      go_wp2
      go_ret
      exact ⟨ret_bool HR.out.symm, Below.refl _ _⟩
  · have HR : Hid (nameB s = false) := Lib.hid (by unfold nameB; simp [h1])
    have i1 : decide ((s.size : Int) < 1) = true := by simp; omega
    clear h1
    go_enter Try.func45, Try.ntmps45
    go_wp2
    go_ret
    exact ⟨ret_bool HR.out.symm, Below.refl _ _⟩

/-! asked: the names lie in a slice that was just made -/
theorem ask_off {D : Dk} (l : List ByteArray) (h : D.off = true) : D.ask l = 10 := by unfold Dk.ask; rw [if_pos h]
theorem ask_on {D : Dk} (l : List ByteArray) (h : D.off = false) : D.ask l = if l.all nameB = true then 0 else 2 := by unfold Dk.ask; rw [if_neg (by rw [h]; simp)]
set_option maxRecDepth 100000 in
set_option maxHeartbeats 1000000 in
theorem asked_any (b mb : Nat) (D : Dk) (L : List Pf) (l : List ByteArray) (v : Value) (w : World) (h : PDk w b mb D L) (hv : Row w v 1 l.length (l.map Value.string)) (hl : ∀ s ∈ l, s.size ≤ maxLen) :
    Calls Try.prog 33 #[ptr b, v] w fun e w' => e = .returned (.int .i64 (D.ask l)) ∧ Below w.heap.size w w' := by
  have H := Lib.hid h
  have HL := Lib.hid hl
  have c4 := h.blk.cell (j := 4) rfl
  obtain ⟨p, c, rfl, hc, hm, -, -, -, hat⟩ := hv
  have HAT : Hid (∀ k (hk : k < l.length), ∃ q o, p = some ⟨q, o, none⟩ ∧ w.cell? ⟨q, o + k, none⟩ = some (.string l[k])) := Lib.hid (fun k hk => by
    rcases hat with h0 | ⟨q, o, hp, ha⟩
    · have : l = [] := by simpa using h0
      subst this; simp at hk
    · exact ⟨q, o, hp, ha k _ (by simp [hk])⟩)
  have hml : maxLen ≤ 9223372036854775807 := by decide
  have hll : l.length ≤ 9223372036854775807 := by omega
  clear h hl hat hml hm hc
  cases hoff : D.off
  · have HA := Lib.hid (ask_on l hoff)
    rw [hoff] at c4
    clear hoff
    go_enter Try.func33, Try.ntmps33
    go_wp2_with (go_at_call 40; refine (none_made b mb D L _ H.out).mono ?_; rintro e w' ⟨rfl, rfl⟩)
    go_loopw [17] (fun i wr => ∃ k : Nat, k ≤ l.length ∧ i = .int .i64 (k : Int) ∧ Hid ((l.take k).all nameB = true) ∧ Hid (Below w.heap.size w wr)) (fun i _ => l.length - (intOf i).toNat)
    case atStart => exact ⟨0, Nat.zero_le _, rfl, Lib.hid (by simp), Lib.hid (Below.refl _ _)⟩
    case round =>
      obtain ⟨k, hk, rfl, HD, HB⟩ := hrel
      by_cases hlt : k < l.length
      · obtain ⟨q, o, rfl, hc⟩ := HAT.out k hlt
        have hc := cell_kept hc HB.out
        obtain ⟨s, hs⟩ : ∃ s, s = l[k] := ⟨_, rfl⟩
        rw [← hs] at hc
        have i1 : (k : Int) < (l.length : Int) := by omega
        have HSS : Hid (s.size ≤ maxLen) := Lib.hid (HL.out s (by rw [hs]; exact List.getElem_mem hlt))
        have HT : Hid ((l.take (k + 1)).all nameB = nameB s) := Lib.hid (by rw [List.take_succ_eq_append_getElem hlt, List.all_append, HD.out, ← hs]; simp)
        have HTX : Hid (nameB s = false → l.all nameB = false) := Lib.hid (fun h => by
          rw [← Bool.not_eq_true, List.all_eq_true]
          intro hh
          have := hh _ (List.getElem_mem hlt)
          rw [← hs, h] at this; cases this)
        clear hs
        cases hn : nameB s
        · have HX := Lib.hid (HTX.out hn)
          have HNM : Hid (∀ w : World, Calls Try.prog 45 #[.string s] w fun e w' => e = .returned (.bool false) ∧ Below w.heap.size w w') := Lib.hid (fun w => by have := named_any s w HSS.out; rwa [hn] at this)
          clear hn
          go_wp2_with (go_at_call 45; refine (HNM.out _).mono ?_; rintro e w3 ⟨rfl, hb⟩; have HB3 := Lib.hid (below_and HB.out hb); clear hb)
          go_ret
          exact ⟨ret_int (by rw [HA.out, HX.out]; rfl), HB3.out⟩
        · have HX : Hid ((l.take (k + 1)).all nameB = true) := Lib.hid (by rw [HT.out, hn])
          have HNM : Hid (∀ w : World, Calls Try.prog 45 #[.string s] w fun e w' => e = .returned (.bool true) ∧ Below w.heap.size w w') := Lib.hid (fun w => by have := named_any s w HSS.out; rwa [hn] at this)
          clear hn
          go_wp2_with (go_at_call 45; refine (HNM.out _).mono ?_; rintro e w3 ⟨rfl, hb⟩; have HB3 := Lib.hid (below_and HB.out hb); clear hb)
          go_roundw
          case rel => exact ⟨k + 1, hlt, by go_num, HX, HB3⟩
          case measure => simp [intOf]; omega
      · obtain rfl : k = l.length := by omega
        have HX : Hid (l.all nameB = true) := Lib.hid (by have := HD.out; rwa [List.take_length] at this)
        go_wp2
        go_ret
        exact ⟨ret_int (by rw [HA.out, HX.out]; rfl), HB.out⟩
  · have HA := Lib.hid (ask_off l hoff)
    rw [hoff] at c4
    clear hoff
    go_enter Try.func33, Try.ntmps33
    go_wp2_with (go_at_call 40; refine (none_made b mb D L _ H.out).mono ?_; rintro e w' ⟨rfl, rfl⟩)
    go_ret
    exact ⟨ret_int HA.out.symm, Below.refl _ _⟩
end Go.Proofs.Ytgcemddobcjpnaa
namespace Go.Proofs.Ytgcemddobcjpnaa
open Go.RowKit

structure Rf where
  f : Fl
  v : Value
namespace Rf
def key (r : Rf) : List UInt8 := r.f.key
abbrev c (r : Rf) : List Value := [.string r.f.n, r.v, .int .i64 (r.f.s : Int)]
end Rf
abbrev rdC (vF : Value) (D : Dk) : List Value := [.int .i64 D.room, vF, .bool D.fused, .int .i64 D.fuse, .bool D.off, .int .i64 D.steps]
structure RDk (w : World) (g : Nat) (vF : Value) (D : Dk) (L : List Rf) : Prop where
  blk : Blk w g (rdC vF D) 80
  row : w.ownsRow 0 86 3 vF L.length (rwC Rf.c L)
  eq : L.map Rf.f = D.F
  body : ∀ r ∈ L, Fresh 0 w r.v r.f.b
def fpR (g : Nat) (vF : Value) (L : List Rf) (k : Nat) : Prop := k = g ∨ vF.ownBlock = some k ∨ ∃ r ∈ L, r.v.ownBlock = some k
theorem rfC_len (r : Rf) : (Rf.c r).length = 3 := rfl
theorem own_one {w : World} {base : Nat} {e : TypeId} {size n : Nat} {v : Value} {xs : List Value} (h : w.ownsRow base e size v n xs) : v.oneCell' = true := by
  obtain ⟨p, c, rfl, -, -⟩ := own_slice h
  rfl
section
variable {w w' : World} {g : Nat} {vF : Value} {D : Dk} {L : List Rf}
theorem RDk.kept (h : RDk w g vF D L) (hb : Below w.heap.size w w') : RDk w' g vF D L := ⟨h.blk.kept hb, own_keep h.row hb, h.eq, fun r hr => own_keep (h.body r hr) hb⟩
theorem RDk.cone (h : RDk w g vF D L) : ∀ u ∈ rwC Rf.c L, u.oneCell' = true := by
  intro u hu
  obtain ⟨r, hr, hx⟩ := List.mem_flatMap.1 hu
  simp only [Rf.c, List.mem_cons, List.not_mem_nil, or_false] at hx
  rcases hx with rfl | rfl | rfl
  · rfl
  · exact own_one (h.body r hr)
  · rfl
theorem RDk.len (h : RDk w g vF D L) : L.length = D.F.length := by rw [← h.eq, List.length_map]
theorem RDk.shape (h : RDk w g vF D L) : ∃ p c, vF = .slice p L.length c ∧ L.length ≤ c ∧ c ≤ maxLen ∧ Row w (.slice p L.length c) 3 L.length (rwC Rf.c L) := row_own h.row h.cone
theorem RDk.rise (h : RDk w g vF D L) (hr : KRise Fl.key D.F) : KRise Rf.key L := (KRise.map (key := Rf.key) (f := Rf.f) (fun _ => rfl)).1 (by rw [h.eq]; exact hr)
theorem RDk.find (h : RDk w g vF D L) (s : List UInt8) : kfnd Fl.key D.F s = (kfnd Rf.key L s).map Rf.f := by
  rw [← h.eq]
  exact kfnd_map (fun _ => rfl) L s
theorem RDk.lt (h : RDk w g vF D L) {k : Nat} (hk : fpR g vF L k) : k < w.heap.size := by
  rcases hk with rfl | hk | ⟨r, hr, hv⟩
  · exact h.blk.lt
  · exact own_hi h.row hk
  · exact own_hi (h.body r hr) hv
theorem RDk.frp {Q : Nat → Prop} (h : RDk w g vF D L) (hf : Frp Q w w') (hq : ∀ k, fpR g vF L k → ¬ Q k) : RDk w' g vF D L :=
  ⟨h.blk.frp hf (hq g (.inl rfl)), own_frp h.row hf (fun k hk => hq k (.inr (.inl hk))), h.eq, fun r hr => own_frp (h.body r hr) hf (fun k hk => hq k (.inr (.inr ⟨r, hr, hk⟩)))⟩
theorem RDk.ne_row (h : RDk w g vF D L) : vF.ownBlock ≠ some g := own_ty h.row h.blk (by decide)
theorem RDk.ne_body (h : RDk w g vF D L) {r : Rf} (hr : r ∈ L) {k : Nat} (hk : r.v.ownBlock = some k) : k ≠ g ∧ vF.ownBlock ≠ some k :=
  ⟨fun e => own_ty (h.body r hr) h.blk (by decide) (by rw [hk, e]), own_own (h.body r hr) h.row (by decide) hk⟩
theorem RDk.at (h : RDk w g vF D L) {i : Nat} (hi : i < L.length) : ∃ q c, vF = .slice (some ⟨q, 0, none⟩) L.length c ∧ L.length ≤ c ∧ w.cell? ⟨q, i * 3, none⟩ = some (.string L[i].f.n) ∧ w.cell? ⟨q, i * 3 + 1, none⟩ = some L[i].v ∧ w.cell? ⟨q, i * 3 + 2, none⟩ = some (.int .i64 (L[i].f.s : Int)) := by
  obtain ⟨q, c, rfl, hc, -, -⟩ := own_block h.row (by omega)
  refine ⟨q, c, rfl, hc, ?_, ?_, ?_⟩
  · have := own_cell h.row (j := i * 3 + 0) (u := .string L[i].f.n) (by rw [rwC_at rfC_len hi (by omega)]; rfl)
    simpa using this
  · exact own_cell h.row (j := i * 3 + 1) (u := L[i].v) (by rw [rwC_at rfC_len hi (by omega)]; rfl)
  · exact own_cell h.row (j := i * 3 + 2) (u := .int .i64 (L[i].f.s : Int)) (by rw [rwC_at rfC_len hi (by omega)]; rfl)
/-- the disk's own numbers turn -/
theorem RDk.flds {D' : Dk} (h : RDk w g vF D L) (hF : D'.F = D.F) (hf : Frp (fun k => k = g) w w') (hb : Blk w' g (rdC vF D') 80) : RDk w' g vF D' L :=
  ⟨hb, own_frp h.row hf (fun k hk e => h.ne_row (by rw [hk, e])), by rw [hF]; exact h.eq, fun r hr => own_frp (h.body r hr) hf (fun k hk e => (h.ne_body hr hk).1 e)⟩
/-- a new list of files, in memory that was just made -/
theorem RDk.setL {w9 : World} {v9 : Value} {L9 : List Rf} {D' : Dk} (h : RDk w g vF D L) (hb : Below w.heap.size w w9) (hrow : w9.ownsRow w.heap.size 86 3 v9 L9.length (rwC Rf.c L9)) (hF : L9.map Rf.f = D'.F) (hC : rdC v9 D' = rdC v9 D) (hbody : ∀ r ∈ L9, Fresh 0 w9 r.v r.f.b) :
    RDk (w9.setCell ⟨g, 1, none⟩ v9) g v9 D' L9 := by
  have h9 := h.kept hb
  have hf : Frp (fun k => k = g) w9 (w9.setCell ⟨g, 1, none⟩ v9) := (Frp.refl (fun k => k = g) w9).set (p := ⟨g, 1, none⟩) rfl _
  have hrow0 := own_mono hrow (Nat.zero_le _)
  refine ⟨by rw [hC]; exact h9.blk.set 1 _, own_frp hrow0 hf (fun k hk e => own_ty hrow0 h9.blk (by decide) (by rw [hk, e])), hF, fun r hr => own_frp (hbody r hr) hf (fun k hk e => own_ty (hbody r hr) h9.blk (by decide) (by rw [hk, e]))⟩
/-- a field of a file turns -/
theorem RDk.setAt {D' : Dk} {i j : Nat} {u : Value} {x : Rf} (h : RDk w g vF D L) (hi : i < L.length) (hj : j < 3) (hx : Rf.c x = (Rf.c L[i]).set j u) {q c : Nat} (hv : vF = .slice (some ⟨q, 0, none⟩) L.length c) (hbody : Fresh 0 w x.v x.f.b) (hF : D'.F = D.F.set i x.f) (hC : rdC vF D' = rdC vF D) :
    RDk (w.setCell ⟨q, i * 3 + j, none⟩ u) g vF D' (L.set i x) := by
  have hq : vF.ownBlock = some q := by rw [hv]; rfl
  have hf : Frp (fun k => k = q) w (w.setCell ⟨q, i * 3 + j, none⟩ u) := (Frp.refl (fun k => k = q) w).set (p := ⟨q, i * 3 + j, none⟩) rfl _
  have hb : ∀ (y : Rf), Fresh 0 w y.v y.f.b → Fresh 0 (w.setCell ⟨q, i * 3 + j, none⟩ u) y.v y.f.b := fun y hy => own_frp hy hf (fun k hk e => by subst e; exact own_own hy h.row (by decide) hk hq)
  refine ⟨by rw [hC]; exact h.blk.frp hf (fun e => h.ne_row (by rw [hq, e])), ?_, by rw [hF, ← h.eq, List.map_set], fun r hr => ?_⟩
  · have hr := h.row
    rw [hv] at hr ⊢
    have := own_set hr (k := i * 3 + j) (by omega) u
    rw [rwC_set rfC_len hi hj hx] at this
    rw [List.length_set]
    exact this
  · rcases List.mem_or_eq_of_mem_set hr with h1 | h1
    · exact hb r (h.body r h1)
    · subst h1; exact hb _ hbody
end

/-- what a call turns of the disk's blocks -/
structure RSt (w w' : World) (g : Nat) (vF vF' : Value) (L L' : List Rf) : Prop where
  fr : Frp (fpR g vF L) w w'
  new : ∀ k, fpR g vF' L' k → fpR g vF L k ∨ w.heap.size ≤ k
theorem RSt.of_below {w w' : World} {g : Nat} {vF : Value} {L : List Rf} (h : Below w.heap.size w w') : RSt w w' g vF vF L L := ⟨Frp.of_below h _, fun _ h => .inl h⟩
theorem RSt.trans {a w w' : World} {g : Nat} {v v' v2 : Value} {L L' L2 : List Rf} (h : RSt a w g v v' L L') (k : RSt w w' g v' v2 L' L2) : RSt a w' g v v2 L L2 :=
  ⟨h.fr.trans k.fr h.new, fun x hx => (k.new x hx).elim (h.new x) (fun h2 => .inr (Nat.le_trans h.fr.size h2))⟩
theorem RSt.box {a w w' : World} {g : Nat} {v v' : Value} {L L' : List Rf} (h : RSt w w' g v v' L L') (k : Below a.heap.size a w) : RSt a w' g v v' L L' :=
  ⟨(Frp.of_below k _).then h.fr, fun x hx => (h.new x hx).imp id (fun h2 => Nat.le_trans k.size h2)⟩
def RdTo (w w' : World) (g : Nat) (vF : Value) (L : List Rf) (D' : Dk) : Prop := ∃ vF' L', RDk w' g vF' D' L' ∧ RSt w w' g vF vF' L L'
theorem RdTo.same {w w' : World} {g : Nat} {vF : Value} {L : List Rf} {D : Dk} (h : RDk w g vF D L) (hb : Below w.heap.size w w') : RdTo w w' g vF L D := ⟨vF, L, h.kept hb, RSt.of_below hb⟩
theorem RdTo.box {a w w' : World} {g : Nat} {vF : Value} {L : List Rf} {D : Dk} (h : RdTo w w' g vF L D) (k : Below a.heap.size a w) : RdTo a w' g vF L D := by
  obtain ⟨v, L', h1, h2⟩ := h
  exact ⟨v, L', h1, h2.box k⟩

/-! name -/
set_option maxRecDepth 100000 in
set_option maxHeartbeats 1000000 in
theorem rname_any (s : ByteArray) (w : World) (hs : s.size ≤ maxLen) :
    Calls Try.prog 69 #[.string s] w fun e w' => e = .returned (.bool (nameB s)) ∧ w = w' := by
  unfold maxLen at hs
  by_cases h1 : 1 ≤ s.size
  · by_cases h2 : s.size ≤ 24
    · obtain ⟨l, hl⟩ : ∃ l, l = s.data.toList := ⟨_, rfl⟩
      have hsz : s.size = l.length := by rw [hl]; simp
      have HNB : Hid (nameB s = l.all nb) := Lib.hid (by rw [nameB_of s h1 h2, hl])
      have HNX : Hid (∀ k (h : k < l.length), nb l[k] = false → nameB s = false) := Lib.hid (fun k hk h => by subst hl; exact nameB_bad hk h)
      have HC : Hid (∀ j (h : j < s.size), ∃ h' : j < l.length, s[j] = l[j]) := Lib.hid (fun j hj => ⟨by omega, by subst hl; rfl⟩)
      have i1 : decide ((s.size : Int) < 1) = false := by simp; omega
      have i2 : decide ((24 : Int) < (s.size : Int)) = false := by simp; omega
      have HSZ := Lib.hid hsz
      have hl1 : l.length ≤ 9223372036854775807 := by omega
      clear hl hsz h1 h2
      go_enter Try.func69, Try.ntmps69
      go_wp2
      go_loop [3] (fun i => ∃ k : Nat, k ≤ l.length ∧ i = .int .i64 (k : Int) ∧ Hid ((l.take k).all nb = true)) (fun i => l.length - (intOf i).toNat)
      case atStart => exact ⟨0, Nat.zero_le _, rfl, by simp [Hid]⟩
      case round =>
        obtain ⟨k, hk, rfl, HD⟩ := hrel
        by_cases hlt : k < l.length
        · have hks : k < s.size := by have := HSZ.out; omega
          have i0 : (k : Int) < (s.size : Int) := by have := HSZ.out; omega
          have b0 : (0 : Int) ≤ (k : Int) := by omega
          obtain ⟨c, hcc⟩ : ∃ c, c = s[k] := ⟨_, rfl⟩
          have HCC : Hid (c = l[k]) := Lib.hid (by obtain ⟨_, h⟩ := HC.out k hks; rw [hcc, h])
          have hcc2 : s[k] = c := hcc.symm
          clear hcc
          by_cases hd1 : c.toNat < 33
          · have HR : Hid (nameB s = false) := Lib.hid (HNX.out k hlt (by rw [← HCC.out]; unfold nb; simp; omega))
            have d1 : decide ((c.toNat : Int) < 33) = true := by simp; omega
            go_wp2
            go_ret
            exact ⟨ret_bool HR.out.symm, rfl⟩
          · have d1 : decide ((c.toNat : Int) < 33) = false := by simp; omega
            by_cases hd2 : 126 < c.toNat
            · have HR : Hid (nameB s = false) := Lib.hid (HNX.out k hlt (by rw [← HCC.out]; unfold nb; simp; omega))
              have d2 : decide ((126 : Int) < (c.toNat : Int)) = true := by simp; omega
              go_wp2
              go_ret
              exact ⟨ret_bool HR.out.symm, rfl⟩
            · have d2 : decide ((126 : Int) < (c.toNat : Int)) = false := by simp; omega
              have HD2 : Hid ((l.take (k + 1)).all nb = true) := Lib.hid (by rw [List.take_succ_eq_append_getElem hlt, List.all_append, HD.out, ← HCC.out]; unfold nb; simp; omega)
              go_wp2
              go_round
              case rel => exact ⟨k + 1, hlt, by go_num, HD2⟩
              case measure => simp [intOf]; omega
        · obtain rfl : k = l.length := by omega
          have HR : Hid (nameB s = true) := Lib.hid (by rw [HNB.out]; have := HD.out; rwa [List.take_length] at this)
          have i0 : ¬ (l.length : Int) < (s.size : Int) := by have := HSZ.out; omega
          go_wp2
          go_ret
          exact ⟨ret_bool HR.out.symm, rfl⟩
    · have HR : Hid (nameB s = false) := Lib.hid (by unfold nameB; simp [h2])
      have i1 : decide ((s.size : Int) < 1) = false := by simp; omega
      have i2 : decide ((24 : Int) < (s.size : Int)) = true := by simp; omega
      clear h1 h2
      go_enter Try.func69, Try.ntmps69
      go_wp2
      go_ret
      exact ⟨ret_bool HR.out.symm, rfl⟩
  · have HR : Hid (nameB s = false) := Lib.hid (by unfold nameB; simp [h1])
    have i1 : decide ((s.size : Int) < 1) = true := by simp; omega
    clear h1
    go_enter Try.func69, Try.ntmps69
    go_wp2
    go_ret
    exact ⟨ret_bool HR.out.symm, rfl⟩

/-! asked -/
set_option maxRecDepth 100000 in
set_option maxHeartbeats 1000000 in
theorem rasked_any (g : Nat) (vF : Value) (D : Dk) (L : List Rf) (l : List ByteArray) (v : Value) (w : World) (h : RDk w g vF D L) (hv : Row w v 1 l.length (l.map Value.string)) (hl : ∀ s ∈ l, s.size ≤ maxLen) :
    Calls Try.prog 63 #[ptr g, v] w fun e w' => e = .returned (.int .i64 (D.ask l)) ∧ w = w' := by
  have HL := Lib.hid hl
  have c4 := h.blk.cell (j := 4) rfl
  obtain ⟨p, c, rfl, hc, hm, -, -, -, hat⟩ := hv
  have HAT : Hid (∀ k (hk : k < l.length), ∃ q o, p = some ⟨q, o, none⟩ ∧ w.cell? ⟨q, o + k, none⟩ = some (.string l[k])) := Lib.hid (fun k hk => by
    rcases hat with h0 | ⟨q, o, hp, ha⟩
    · have : l = [] := by simpa using h0
      subst this; simp at hk
    · exact ⟨q, o, hp, ha k _ (by simp [hk])⟩)
  have hml : maxLen ≤ 9223372036854775807 := by decide
  have hll : l.length ≤ 9223372036854775807 := by omega
  clear h hl hat hml hm hc
  cases hoff : D.off
  · have HA := Lib.hid (ask_on l hoff)
    rw [hoff] at c4
    clear hoff
    go_enter Try.func63, Try.ntmps63
    go_wp2
    go_loop [5] (fun i => ∃ k : Nat, k ≤ l.length ∧ i = .int .i64 (k : Int) ∧ Hid ((l.take k).all nameB = true)) (fun i => l.length - (intOf i).toNat)
    case atStart => exact ⟨0, Nat.zero_le _, rfl, Lib.hid (by simp)⟩
    case round =>
      obtain ⟨k, hk, rfl, HD⟩ := hrel
      by_cases hlt : k < l.length
      · obtain ⟨q, o, rfl, hc⟩ := HAT.out k hlt
        obtain ⟨s, hs⟩ : ∃ s, s = l[k] := ⟨_, rfl⟩
        rw [← hs] at hc
        have i1 : (k : Int) < (l.length : Int) := by omega
        have HSS : Hid (s.size ≤ maxLen) := Lib.hid (HL.out s (by rw [hs]; exact List.getElem_mem hlt))
        have HT : Hid ((l.take (k + 1)).all nameB = nameB s) := Lib.hid (by rw [List.take_succ_eq_append_getElem hlt, List.all_append, HD.out, ← hs]; simp)
        have HTX : Hid (nameB s = false → l.all nameB = false) := Lib.hid (fun h => by
          rw [← Bool.not_eq_true, List.all_eq_true]
          intro hh
          have := hh _ (List.getElem_mem hlt)
          rw [← hs, h] at this; cases this)
        clear hs
        cases hn : nameB s
        · have HX := Lib.hid (HTX.out hn)
          have HNM : Hid (∀ w : World, Calls Try.prog 69 #[.string s] w fun e w' => e = .returned (.bool false) ∧ w = w') := Lib.hid (fun w => by have := rname_any s w HSS.out; rwa [hn] at this)
          clear hn
          go_wp2_with (go_at_call 69; refine (HNM.out _).mono ?_; rintro e w3 ⟨rfl, rfl⟩)
          go_ret
          exact ⟨ret_int (by rw [HA.out, HX.out]; rfl), rfl⟩
        · have HX : Hid ((l.take (k + 1)).all nameB = true) := Lib.hid (by rw [HT.out, hn])
          have HNM : Hid (∀ w : World, Calls Try.prog 69 #[.string s] w fun e w' => e = .returned (.bool true) ∧ w = w') := Lib.hid (fun w => by have := rname_any s w HSS.out; rwa [hn] at this)
          clear hn
          go_wp2_with (go_at_call 69; refine (HNM.out _).mono ?_; rintro e w3 ⟨rfl, rfl⟩)
          go_round
          case rel => exact ⟨k + 1, hlt, by go_num, HX⟩
          case measure => simp [intOf]; omega
      · obtain rfl : k = l.length := by omega
        have HX : Hid (l.all nameB = true) := Lib.hid (by have := HD.out; rwa [List.take_length] at this)
        go_wp2
        go_ret
        exact ⟨ret_int (by rw [HA.out, HX.out]; rfl), rfl⟩
  · have HA := Lib.hid (ask_off l hoff)
    rw [hoff] at c4
    clear hoff
    go_enter Try.func63, Try.ntmps63
    go_wp2
    go_ret
    exact ⟨ret_int HA.out.symm, rfl⟩

/-! place -/
theorem less_lt (a b : List UInt8) : Op.bytesLess a b = decide (a < b) := by
  have e : ∀ a b : List UInt8, Op.bytesLess a b = bytesBefore a b := by
    intro a
    induction a with
    | nil => intro b; cases b <;> rfl
    | cons x a ih =>
      intro b
      cases b with
      | nil => rfl
      | cons y b =>
        show (x < y || (x == y && Op.bytesLess a b)) = (x < y || (x == y && bytesBefore a b))
        rw [ih b]
  rw [e]
  have h := before_lt a b
  cases hb : bytesBefore a b
  · have : ¬ a < b := fun h2 => by rw [h.2 h2] at hb; cases hb
    simp [this]
  · simp [h.1 hb]

theorem kfnd_mid {L : List Rf} {s : List UInt8} (hr : KRise Rf.key L) {k : Nat} (hk : k ≤ L.length) (h1 : ∀ j (h : j < L.length), j < k → L[j].key < s) (h2 : ∀ h : k < L.length, s < L[k].key) : kfnd Rf.key L s = none := by
  refine kfnd_no fun e he e2 => ?_
  obtain ⟨j, hj, rfl⟩ := List.getElem_of_mem he
  rcases Nat.lt_trichotomy j k with h | h | h
  · have := h1 j hj h
    rw [e2] at this
    exact lt_irr _ this
  · subst h
    have := h2 hj
    rw [e2] at this
    exact lt_irr _ this
  · have hk2 : k < L.length := by omega
    have h3 := List.pairwise_iff_getElem.1 hr k j hk2 hj h
    have := lt_tr (h2 hk2) h3
    rw [e2] at this
    exact lt_irr _ this
set_option maxRecDepth 100000 in
set_option maxHeartbeats 1000000 in
theorem rplace_any (g : Nat) (vF : Value) (D : Dk) (L : List Rf) (s : ByteArray) (w : World) (h : RDk w g vF D L) (hr : KRise Fl.key D.F) :
    Calls Try.prog 64 #[ptr g, .string s] w fun e w' => e = .returned (.tuple #[.int .i64 (kpl Rf.key L s.data.toList : Int), .bool (kfnd Rf.key L s.data.toList).isSome]) ∧ w = w' := by
  have H := Lib.hid h
  have HR := Lib.hid (h.rise hr)
  obtain ⟨p, c, rfl, hc, hm, -⟩ := h.shape
  have c1 := h.blk.cell (j := 1) rfl
  have hml : maxLen ≤ 9223372036854775807 := by decide
  have hll : L.length ≤ 9223372036854775807 := by omega
  clear h hr hml hm hc
  go_enter Try.func64, Try.ntmps64
  go_wp2
  go_loop [6] (fun i => ∃ k : Nat, k ≤ L.length ∧ i = .int .i64 (k : Int) ∧ Hid (∀ j (h : j < L.length), j < k → L[j].key < s.data.toList)) (fun i => L.length - (intOf i).toNat)
  case atStart => exact ⟨0, Nat.zero_le _, rfl, Lib.hid (fun j _ h => absurd h (Nat.not_lt_zero _))⟩
  case round =>
    obtain ⟨k, hk, rfl, HA⟩ := hrel
    by_cases hlt : k < L.length
    · obtain ⟨q, c', e, hc', e0, -, -⟩ := H.out.at hlt
      simp only [Value.slice.injEq] at e
      obtain ⟨rfl, -, rfl⟩ := e
      obtain ⟨nm, hnm⟩ : ∃ nm, nm = L[k].f.n := ⟨_, rfl⟩
      rw [← hnm] at e0
      have hkey : L[k].key = nm.data.toList := by rw [hnm]; rfl
      have i1 : (k : Int) < (L.length : Int) := by omega
      have b0 : (0 : Int) ≤ (k : Int) := by omega
      by_cases he : nm.data.toList = s.data.toList
      · have t0 : (nm.toList == s.toList) = true := by rw [Lib.toList_data, Lib.toList_data]; simpa using he
        have HK : Hid (kpl Rf.key L s.data.toList = k) := Lib.hid (kpl_eq hk HA.out (fun _ => by rw [hkey, he]; exact lt_irr _))
        have HF : Hid ((kfnd Rf.key L s.data.toList).isSome = true) := Lib.hid (by
          have := kfnd_of HR.out.apart (List.getElem_mem hlt)
          rw [hkey, he] at this
          rw [this]; rfl)
        clear he hkey hnm
        go_wp2
        go_ret2
        rw [HK.out, HF.out]
        exact ⟨rfl, rfl⟩
      · have t0 : (nm.toList == s.toList) = false := by rw [Lib.toList_data, Lib.toList_data]; simpa using he
        by_cases hg : s.data.toList < nm.data.toList
        · have t1 : Op.bytesLess nm.toList s.toList = false := by rw [less_lt, Lib.toList_data, Lib.toList_data]; simpa using fun h2 : nm.data.toList < s.data.toList => lt_irr _ (lt_tr hg h2)
          have HK : Hid (kpl Rf.key L s.data.toList = k) := Lib.hid (kpl_eq hk HA.out (fun _ => by rw [hkey]; exact fun h2 => lt_irr _ (lt_tr hg h2)))
          have HF : Hid ((kfnd Rf.key L s.data.toList).isSome = false) := Lib.hid (by rw [kfnd_mid HR.out hk HA.out (fun _ => by rw [hkey]; exact hg)]; rfl)
          clear he hkey hnm hg
          go_wp2
          go_ret2
          rw [HK.out, HF.out]
          exact ⟨rfl, rfl⟩
        · have t1 : Op.bytesLess nm.toList s.toList = true := by rw [less_lt, Lib.toList_data, Lib.toList_data]; simpa using (lt_tot hg (fun e => he e.symm) : nm.data.toList < s.data.toList)
          have HA2 : Hid (∀ j (h : j < L.length), j < k + 1 → L[j].key < s.data.toList) := Lib.hid (fun j hj hjk => by
            by_cases h2 : j < k
            · exact HA.out j hj h2
            · obtain rfl : j = k := by omega
              rw [hkey]
              exact lt_tot hg (fun e => he e.symm))
          clear he hkey hnm hg
          go_wp2
          go_round
          case rel => exact ⟨k + 1, hlt, by go_num, HA2⟩
          case measure => simp [intOf]; omega
    · obtain rfl : k = L.length := by omega
      have HK : Hid (kpl Rf.key L s.data.toList = L.length) := Lib.hid (kpl_eq hk HA.out (fun h => absurd h (Nat.lt_irrefl _)))
      have HF : Hid ((kfnd Rf.key L s.data.toList).isSome = false) := Lib.hid (by rw [kfnd_mid HR.out hk HA.out (fun h => absurd h (Nat.lt_irrefl _))]; rfl)
      go_wp2
      go_ret2
      rw [HK.out, HF.out]
      exact ⟨rfl, rfl⟩

/-! step -/
set_option maxRecDepth 100000 in
set_option maxHeartbeats 1000000 in
theorem rstep_no (g : Nat) (vF : Value) (D : Dk) (L : List Rf) (w : World) (h : RDk w g vF D L) (hm : D.may = false) :
    Calls Try.prog 65 #[ptr g] w fun e w' => e = .returned (.bool false) ∧ RDk w' g vF D.dead L ∧ RSt w w' g vF vF L L := by
  have H := Lib.hid h
  have h1 : D.fused = true ∧ D.fuse = 0 := by
    unfold Dk.may at hm
    simpa using hm
  have c2 := h.blk.cell (j := 2) rfl
  have c3 := h.blk.cell (j := 3) rfl
  have f4 := h.blk.free 4
  rw [h1.1] at c2
  rw [h1.2] at c3
  have d4 := h.blk.cell (j := 4) rfl
  clear h hm h1
  go_enter Try.func65, Try.ntmps65
  go_wp2
  go_ret
  have hf : Frp (fun k => k = g) w (w.setCell ⟨g, 4, none⟩ (.bool true)) := (Frp.refl (fun k => k = g) w).set (p := ⟨g, 4, none⟩) rfl _
  exact ⟨rfl, H.out.flds rfl hf (H.out.blk.set 4 _), ⟨hf.mono (fun k hk => .inl hk), fun k hk => .inl hk⟩⟩
set_option maxRecDepth 100000 in
set_option maxHeartbeats 2000000 in
theorem rstep_yes (g : Nat) (vF : Value) (D : Dk) (L : List Rf) (M : Nat) (N : Int) (w : World) (h : RDk w g vF D L) (hi : DkI D M N) (hN : N < 4611686018427387904) (hm : D.may = true) :
    Calls Try.prog 65 #[ptr g] w fun e w' => e = .returned (.bool true) ∧ RDk w' g vF D.stepped L ∧ RSt w w' g vF vF L L := by
  have H := Lib.hid h
  have c2 := h.blk.cell (j := 2) rfl
  have c3 := h.blk.cell (j := 3) rfl
  have c5 := h.blk.cell (j := 5) rfl
  have f3 := h.blk.free 3
  have f5 := h.blk.free 5
  have s1 := hi.steps.1
  have s2 := hi.steps.2
  have s3 : D.steps ≤ 4611686018427387904 := by omega
  have u1 := hi.fuse.1
  have u2 := hi.fuse.2
  have hfc : D.fused = false ∨ (D.fused = true ∧ D.fuse ≠ 0) := by
    unfold Dk.may at hm
    cases hf : D.fused
    · exact .inl rfl
    · rw [hf] at hm
      exact .inr ⟨rfl, by simpa using hm⟩
  rcases hfc with hfu | ⟨hfu, hne⟩
  · rw [hfu] at c2
    have hf : Frp (fun k => k = g) w (w.setCell ⟨g, 5, none⟩ (.int .i64 (D.steps + 1))) := (Frp.refl (fun k => k = g) w).set (p := ⟨g, 5, none⟩) rfl _
    have HW : Hid (RDk (w.setCell ⟨g, 5, none⟩ (.int .i64 (D.steps + 1))) g vF D.stepped L) := Lib.hid (h.flds rfl hf (by
      have := h.blk.set 5 (.int .i64 (D.steps + 1))
      unfold rdC at this
      simpa [rdC, Dk.stepped, hfu] using this))
    clear h hi hm hfu s2 hf
    go_enter Try.func65, Try.ntmps65
    go_wp2
    go_ret
    exact ⟨rfl, HW.out, ⟨((Frp.refl (fun k => k = g) w).set (p := ⟨g, 5, none⟩) rfl _).mono (fun k hk => .inl hk), fun k hk => .inl hk⟩⟩
  · rw [hfu] at c2
    have hne2 : (D.fuse == 0) = false := by simpa using hne
    have hf1 : Frp (fun k => k = g) w ((w.setCell ⟨g, 3, none⟩ (.int .i64 (D.fuse - 1))).setCell ⟨g, 5, none⟩ (.int .i64 (D.steps + 1))) := ((Frp.refl (fun k => k = g) w).set (p := ⟨g, 3, none⟩) rfl _).set (p := ⟨g, 5, none⟩) rfl _
    have HW : Hid (RDk ((w.setCell ⟨g, 3, none⟩ (.int .i64 (D.fuse - 1))).setCell ⟨g, 5, none⟩ (.int .i64 (D.steps + 1))) g vF D.stepped L) := Lib.hid (h.flds rfl hf1 (by
      have := (h.blk.set 3 (.int .i64 (D.fuse - 1))).set 5 (.int .i64 (D.steps + 1))
      unfold rdC at this
      simpa [rdC, Dk.stepped, hfu] using this))
    have c53 := (h.blk.set 3 (.int .i64 (D.fuse - 1))).cell (j := 5) rfl
    clear h hi hm hfu s2 hf1 hne
    go_enter Try.func65, Try.ntmps65
    go_wp2
    go_ret
    exact ⟨rfl, HW.out, ⟨(((Frp.refl (fun k => k = g) w).set (p := ⟨g, 3, none⟩) rfl _).set (p := ⟨g, 5, none⟩) rfl _).mono (fun k hk => .inl hk), fun k hk => .inl hk⟩⟩
end Go.Proofs.Ytgcemddobcjpnaa
namespace Go.Proofs.Ytgcemddobcjpnaa
open Go.RowKit Go

section
variable {P : Program}
theorem upon_unpop {o : Oper} {a : Act} {K : Act → World → Prop} {ops : Array Oper} {Q : Exit → Act → World → Prop} {n : Nat} (r : Result Next) (h : o.upon P a K Q r) : o.upon P a K (popQ P ops Q n) r := by
  have hl : LetsOut Q → LetsOut (popQ P ops Q n) := fun ⟨a, w, h⟩ => ⟨a, w, h⟩
  cases r with
  | ok nx w' =>
    cases nx <;> simp only [Oper.upon] at h ⊢ <;>
      first
        | exact h
        | exact Calls.mono h (fun e w'' he => by cases e <;> first | exact he | exact hl he)
  | halt x w' => cases x <;> simp only [Oper.upon] at h ⊢ <;> exact h
theorem wpOp_unpop {ops : Array Oper} {Q : Exit → Act → World → Prop} {n i : Nat} {K : Act → World → Prop} {a : Act} {w : World} (hn : ops.size = n + 1) (hb : backB ops = true) (hi : i < n) (h : wpOp P ops Q i K a w) : wpOp P ops.pop (popQ P ops Q n) i K a w := by
  have hpop : ∀ j, j < n → ops.pop[j]? = ops[j]? := fun j hj => by rw [Array.getElem?_pop, if_pos (by omega)]
  unfold wpOp at *
  rw [hpop i hi]
  cases ho : ops[i]? with
  | none => simp only [ho] at h ⊢; exact h
  | some o =>
    simp only [ho] at h ⊢
    have hg := (backB_spec hb ho).2
    have hw : Region.wanted o (yielded ops.pop a.tmps) = Region.wanted o (yielded ops a.tmps) := by
      unfold Region.wanted
      cases hgu : o.guard with
      | none => rfl
      | some x =>
        obtain ⟨g, b⟩ := x
        have := hg g b hgu
        simp only
        unfold yielded
        rw [hpop g (by omega)]
    rw [hw]
    by_cases hwt : Region.wanted o (yielded ops a.tmps) = true
    · rw [if_pos hwt] at h ⊢
      rcases h with h | ⟨h1, ⟨a', w', h2⟩⟩
      · exact .inl (upon_unpop _ h)
      · exact .inr ⟨h1, ⟨a', w', h2⟩⟩
    · rw [if_neg hwt] at h ⊢
      exact h

/-- the region, its last two operations behind all others -/
theorem wp_region_past_pop2 {id : Nat} {Q : Exit → Act → World → Prop} {a : Act} {w : World} {l : List Oper} {o1 o2 : Oper} (hm : P.follows .mixedOrders = true) (hB : Region.lexB .any l.toArray = true) (hp : popB (l ++ [o1] ++ [o2]).toArray = true) (hp1 : popB (l ++ [o1]).toArray = true)
    (h : wpQuiet P l.toArray (fun w' => ∃ s : Past w, w' = s.val) (fun a' => ∀ w', (∃ s : Past w, w' = s.val) → wpOp P (l ++ [o1] ++ [o2]).toArray Q l.length (fun a2 w2 => wpOp P (l ++ [o1] ++ [o2]).toArray Q (l.length + 1) (fun a3 w3 => Q .normal a3 w3) a2 w2) a' w') l a) : (Code.region id (l ++ [o1] ++ [o2]).toArray true).wp P Q a w := by
  have hn : (l ++ [o1] ++ [o2]).toArray.size = (l.length + 1) + 1 := by simp
  have hn1 : (l ++ [o1]).toArray.size = l.length + 1 := by simp
  have hpop : (l ++ [o1] ++ [o2]).toArray.pop = (l ++ [o1]).toArray := by simp
  have hpop1 : (l ++ [o1]).toArray.pop = l.toArray := by simp
  unfold popB at hp hp1
  simp only [Bool.and_eq_true, decide_eq_true_eq] at hp hp1
  obtain ⟨⟨hb, hs⟩, -⟩ := hp
  obtain ⟨⟨hb1, hs1⟩, -⟩ := hp1
  rw [hn, Nat.add_sub_cancel] at hs
  rw [hn1, Nat.add_sub_cancel] at hs1
  simp only [Region.lexB, Bool.and_eq_true] at hB
  refine wp_region_any hm ?_
  rw [hn, show Array.replicate (l.length + 1 + 1) false = (Array.replicate (l.length + 1) false).push false from by rw [← Array.replicate_succ]]
  have mk : ∀ (L : List Oper) (k : Nat), L.toArray.size = k + 1 → HeadInv .any L.toArray k ((Array.replicate k false).push false) := fun L k hk => by
    rw [← Array.replicate_succ]
    refine ⟨by rw [hk]; simp, fun j oj hj hl => ?_, fun t h1 h2 => ?_⟩
    · rw [getD_replicate_false] at hl
      cases hl
    · simp [show t < k + 1 from by omega]
  refine wpAny_pop hn hb hs (l.length + 1) _ a _ (by simp) (mk _ _ hn) ?_
  rw [hpop, show Array.replicate (l.length + 1) false = (Array.replicate l.length false).push false from by rw [← Array.replicate_succ]]
  refine wpAny_pop hn1 hb1 hs1 l.length _ a _ (by simp) (mk _ _ hn1) ?_
  rw [hpop1]
  refine wpAny_of_quiet (C := fun w' => ∃ s : Past w, w' = s.val) (Q := fun a' => ∀ w', (∃ s : Past w, w' = s.val) → popQ P (l ++ [o1]).toArray (popQ P (l ++ [o1] ++ [o2]).toArray Q (l.length + 1)) l.length .normal a' w') (fun _ w' hw' h => h w' hw') _ _ _ _ ⟨⟨{ w with drawn := w.drawn + 1 }, below_drewN 1⟩, rfl⟩ ?_
  have h9 : wpQuiet P l.toArray (fun w' => ∃ s : Past w, w' = s.val) (fun a' => ∀ w', (∃ s : Past w, w' = s.val) → popQ P (l ++ [o1]).toArray (popQ P (l ++ [o1] ++ [o2]).toArray Q (l.length + 1)) l.length .normal a' w') l a := quiet_weaken (fun a' h' w' hw' => by
    have h2 := wpOp_unpop hn hb (by omega) (h' w' hw')
    rw [hpop] at h2
    exact h2) _ _ h
  have := wpAnyQ_lex (P := P) (C := fun w' => ∃ s : Past w, w' = s.val) (md := .any) hB.1 l 0 (Array.replicate l.length false) a (by simp) (by simpa using hB.2) h9
  exact this

/-- the same, of a region that is written out -/
theorem wp_region_past_last2 {id : Nat} {Q : Exit → Act → World → Prop} {a : Act} {w : World} {L M : List Oper} {o1 o2 : Oper} (hL : L = M ++ [o1] ++ [o2]) (hm : P.follows .mixedOrders = true) (hB : Region.lexB .any M.toArray = true) (hp : popB L.toArray = true) (hp1 : popB (M ++ [o1]).toArray = true)
    (h : wpQuiet P M.toArray (fun w' => ∃ s : Past w, w' = s.val) (fun a' => ∀ w', (∃ s : Past w, w' = s.val) → wpList P L.toArray Q [o1, o2] a' w') M a) : (Code.region id L.toArray true).wp P Q a w := by
  subst hL
  refine wp_region_past_pop2 hm hB hp hp1 ?_
  refine quiet_weaken (fun a' h' w' hw' => ?_) _ _ h
  have h2 := h' w' hw'
  have g1 : (M ++ [o1] ++ [o2]).toArray[M.length]? = some o1 := by simp
  have g2 : (M ++ [o1] ++ [o2]).toArray[M.length + 1]? = some o2 := by simp
  unfold wpOp
  rw [g1, g2]
  exact h2
/-- its front, its last but one, its last -/
def cut2 : List Oper → Option (List Oper × Oper × Oper)
  | [] => none
  | [_] => none
  | [x, y] => some ([], x, y)
  | x :: l => (cut2 l).map fun (m, a, b) => (x :: m, a, b)
theorem cut2_spec : ∀ {L M : List Oper} {o1 o2 : Oper}, cut2 L = some (M, o1, o2) → L = M ++ [o1] ++ [o2]
  | [], _, _, _, h => by cases h
  | [_], _, _, _, h => by cases h
  | [x, y], _, _, _, h => by cases h; rfl
  | x :: y :: z :: l, M, o1, o2, h => by
    have h' : (cut2 (y :: z :: l)).map (fun (m, a, b) => (x :: m, a, b)) = some (M, o1, o2) := h
    cases hc : cut2 (y :: z :: l) with
    | none => rw [hc] at h'; cases h'
    | some r =>
      obtain ⟨m, a, b⟩ := r
      rw [hc] at h'
      cases h'
      rw [cut2_spec hc]
      rfl
theorem wp_region_past_two {id : Nat} {Q : Exit → Act → World → Prop} {a : Act} {w : World} {L M : List Oper} {o1 o2 : Oper} (hL : cut2 L = some (M, o1, o2)) (hm : P.follows .mixedOrders = true) (hB : Region.lexB .any M.toArray = true) (hp : popB L.toArray = true) (hp1 : popB (M ++ [o1]).toArray = true)
    (h : wpQuiet P M.toArray (fun w' => ∃ s : Past w, w' = s.val) (fun a' => ∀ w', (∃ s : Past w, w' = s.val) → wpList P L.toArray Q [o1, o2] a' w') M a) : (Code.region id L.toArray true).wp P Q a w :=
  wp_region_past_last2 (cut2_spec hL) hm hB hp hp1 h
end
end Go.Proofs.Ytgcemddobcjpnaa
namespace Go.Proofs.Ytgcemddobcjpnaa
open Go.RowKit Go

section
variable {P : Program}
/-- an operation that only passes a value on -/
def passB (o : Oper) : Bool := match o.op with
  | .extract .. | .move _ | .assign _ => true
  | _ => false
theorem extract_run (v : Value) (k : Nat) (w w' w1 : World) (u : Value) (h : (Instr.extract v k).run P w = .ok u w1) : w1 = w ∧ (Instr.extract v k).run P w' = .ok u w' := by
  cases v with
  | tuple vs =>
    simp only [Instr.extract] at h ⊢
    split at h
    · next x hx =>
      simp only [Sem.run_pure, Result.ok.injEq] at h
      obtain ⟨rfl, rfl⟩ := h
      exact ⟨rfl, rfl⟩
    · next hx => simp [stuck, Sem.run_halt] at h
  | _ => simp [Instr.extract, stuck, Sem.run_halt] at h
theorem pass_yields {o : Oper} {a : Act} {C : World → Prop} {v : Value} {ops : Array Oper} {w : World} (hp : passB o = true) (hw : C w) (h : YieldsIn P ops C o v a) : Yields P ops o v a := by
  rcases h with ⟨h1, h2⟩ | h
  · refine .inl ⟨h1, fun w' => ?_⟩
    have h3 := h2 w hw
    unfold Oper.quietAt at h3
    unfold passB at hp
    unfold execOp at h3 ⊢
    cases ho : o.op <;> rw [ho] at hp h3 <;> first | (cases hp; done) | skip
    case move x =>
      simp only [Sem.run_pure, Oper.quietUpon] at h3 ⊢
      rw [h3.2]
    case assign x =>
      simp only [Sem.run_pure, Oper.quietUpon] at h3 ⊢
      rw [h3.2]
    case extract t k =>
      simp only [Sem.run_bind] at h3 ⊢
      cases hr : (Instr.extract (a.eval t) k).run P w with
      | ok u w1 =>
        obtain ⟨rfl, hr2⟩ := extract_run _ _ _ w' _ _ hr
        rw [hr] at h3
        rw [hr2]
        simp only [Result.andThen_ok, Sem.run_pure, Oper.quietUpon] at h3 ⊢
        rw [h3.2]
      | halt x w1 =>
        rw [hr] at h3
        simp [Result.andThen, Oper.quietUpon] at h3
  · exact .inr h

/-- operation n waits for all ahead of it but those that only pass on, and these are apart from what does not wait for them -/
def late0 (ops : Array Oper) (n : Nat) : Array Bool := ((List.range ops.size).map fun i => decide (i < n) && Region.waitsFor .any ops n i).toArray
def lateB (ops : Array Oper) (n : Nat) : Bool := (List.range n).all fun i => match ops[i]? with
  | some o => Region.waitsFor .any ops n i || (passB o && Region.free .any ops (late0 ops n) i)
  | none => false
theorem late0_false {ops : Array Oper} {n k : Nat} (hk : k < ops.size) (h : ¬ (k < n ∧ Region.waitsFor .any ops n k = true)) : (late0 ops n).getD k true = false := by
  unfold late0
  have h1 : (decide (k < n) && Region.waitsFor .any ops n k) = false := by
    rw [Bool.eq_false_iff]
    intro h2
    simp only [Bool.and_eq_true, decide_eq_true_eq] at h2
    exact h h2
  simp [hk, h1]
theorem qOp_pop {ops : Array Oper} {C : World → Prop} {n i : Nat} {K : Act → Prop} {a : Act} (hn : ops.size = n + 1) (hb : backB ops = true) (hi : i < n) (h : qOp P ops.pop C i K a) : qOp P ops C i K a := by
  have hpop : ∀ j, j < n → ops.pop[j]? = ops[j]? := fun j hj => by rw [Array.getElem?_pop, if_pos (by omega)]
  unfold qOp at *
  rw [hpop i hi] at h
  cases ho : ops[i]? with
  | none => simp only [ho] at h ⊢; exact h
  | some o =>
    simp only [ho] at h ⊢
    have hg := (backB_spec hb ho).2
    have hw : Region.wanted o (yielded ops.pop a.tmps) = Region.wanted o (yielded ops a.tmps) := by
      unfold Region.wanted
      cases hgu : o.guard with
      | none => rfl
      | some x =>
        obtain ⟨g, b⟩ := x
        have := hg g b hgu
        simp only
        unfold yielded
        rw [hpop g (by omega)]
    rw [hw] at h
    exact h

theorem wpAny_late {ops : Array Oper} {C : World → Prop} {Q : Exit → Act → World → Prop} {Qq : Act → Prop} {n : Nat} (hn : ops.size = n + 1) (hb : backB ops = true) (hl : lateB ops n = true) (hsel : Region.noSelect ops = true)
    (hQ : ∀ c a d v w, Q (.panic c) (Act.put a d v) w → Q (.panic c) a w) (hq : ∀ a w, C w → Qq a → wpOp P ops Q n (fun a' w' => Q .normal a' w') a w) :
    ∀ (fuel : Nat) (listed : Array Bool) (a : Act) (w : World), C w → listed.size = n → wpAnyQ P .any ops.pop C Qq fuel listed a → wpAny P .any ops Q (fuel + 1) (listed.push false) a w := by
  have hpop : ∀ j, j < n → ops.pop[j]? = ops[j]? := fun j hj => by rw [Array.getElem?_pop, if_pos (by omega)]
  obtain ⟨on, hon⟩ : ∃ on, ops[n]? = some on := ⟨ops[n], Array.getElem?_eq_getElem (by omega)⟩
  have hready : ∀ (listed : Array Bool), listed.size = n → ∀ i, i < n → (i ∈ Region.ready .any ops (listed.push false) ↔ i ∈ Region.ready .any ops.pop listed) := fun listed hl i hi => by
    rw [mem_ready, mem_ready, getD_push (by omega), hpop i hi]
    refine and_congr_right fun _ => ⟨fun ⟨o, ho, h⟩ => ⟨o, ho, fun e he hbe => ?_⟩, fun ⟨o, ho, h⟩ => ⟨o, ho, fun e he hbe => ?_⟩⟩
    · have h1 := h e he hbe
      have h2 := (backB_spec hb ho).1 e he hbe
      rwa [getD_push (by omega)] at h1
    · have h1 := h e he hbe
      have h2 := (backB_spec hb ho).1 e he hbe
      rwa [getD_push (by omega)]
  have hsome : ∀ (listed : Array Bool), listed.size = n → (∃ j, j < n ∧ listed.getD j true = false) → Region.ready .any ops.pop listed ≠ [] := fun listed hl hex => by
    obtain ⟨j, hj, hmin⟩ : ∃ j, (j < n ∧ listed.getD j true = false) ∧ ∀ k, k < j → ¬ (k < n ∧ listed.getD k true = false) := by
      obtain ⟨j0, hj0⟩ := hex
      induction j0 using Nat.strongRecOn with
      | _ j0 ih =>
        by_cases h : ∃ k, k < j0 ∧ (k < n ∧ listed.getD k true = false)
        · obtain ⟨k, hk, hk2⟩ := h
          exact ih k hk hk2
        · exact ⟨j0, hj0, fun k hk hk2 => h ⟨k, hk, hk2⟩⟩
    obtain ⟨hjn, hjl⟩ := hj
    obtain ⟨o, ho⟩ : ∃ o, ops[j]? = some o := ⟨ops[j], Array.getElem?_eq_getElem (by omega)⟩
    intro he
    have : j ∈ Region.ready .any ops.pop listed := by
      rw [mem_ready, hpop j hjn]
      refine ⟨hjl, o, ho, fun e hee hbe => ?_⟩
      have h2 := (backB_spec hb ho).1 e hee hbe
      have h3 := hmin e.on h2
      have h4 : e.on < listed.size := by omega
      have h5 : ¬ listed.getD e.on true = false := fun h => h3 ⟨by omega, h⟩
      simp [h4] at h5 ⊢
      exact h5
    rw [he] at this
    cases this
  -- all have come up: the last one
  have hlast : ∀ (fuel : Nat) (listed : Array Bool) (a : Act) (w : World), C w → listed.size = n → (¬ ∃ j, j < n ∧ listed.getD j true = false) → Qq a → wpAny P .any ops Q (fuel + 1) (listed.push false) a w := fun fuel listed a w hw hl hex hqa => by
    have hall : ∀ j, j < n → listed.getD j true = true := fun j hj => by
      cases h : listed.getD j true
      · exact absurd ⟨j, hj, h⟩ hex
      · rfl
    have hnr : n ∈ Region.ready .any ops (listed.push false) := by
      rw [mem_ready]
      refine ⟨by rw [← hl]; simp, on, hon, fun e he hbe => ?_⟩
      have h2 := (backB_spec hb hon).1 e he hbe
      have h3 := hall e.on h2
      have h4 : e.on < listed.size := by omega
      rw [getD_push h4]
      simp [h4] at h3 ⊢
      exact h3
    refine ⟨fun h => (by rw [h] at hnr; cases hnr), fun i hi => ?_⟩
    have hin : i < n + 1 := by
      obtain ⟨-, o, ho, -⟩ := mem_ready.1 hi
      have := (Array.getElem?_eq_some_iff.1 ho).1
      omega
    by_cases hi2 : i < n
    · have h5 := (mem_ready.1 hi).1
      rw [getD_push (by omega), hall i hi2] at h5
      cases h5
    · obtain rfl : i = n := by omega
      refine wpOp_mono (fun a' w' h' => wpAny_done ?_ h' _) (hq a w hw hqa)
      rw [List.eq_nil_iff_forall_not_mem]
      intro k hk
      obtain ⟨h6, o, ho, -⟩ := mem_ready.1 hk
      have hk2 := (Array.getElem?_eq_some_iff.1 ho).1
      by_cases hki : k = i
      · subst hki
        simp [hl] at h6
      · have h7 : k < listed.size := by omega
        have h8 := hall k (by omega)
        rw [getD_set_ne true (Ne.symm hki), getD_push h7, h8] at h6
        cases h6
  have hnil : ∀ (listed : Array Bool), (¬ ∃ j, j < n ∧ listed.getD j true = false) → Region.ready .any ops.pop listed = [] := fun listed hex => by
    rw [List.eq_nil_iff_forall_not_mem]
    intro k hk
    obtain ⟨h6, o, ho, -⟩ := mem_ready.1 hk
    have hk2 := (Array.getElem?_eq_some_iff.1 ho).1
    exact hex ⟨k, by simp at hk2; omega, h6⟩
  intro fuel
  induction fuel with
  | zero =>
    intro listed a w hw hl' H
    refine hlast 0 listed a w hw hl' (fun hex => hsome listed hl' hex H.1) H.2
  | succ fuel ih =>
    intro listed a w hw hl' H
    by_cases hex : ∃ j, j < n ∧ listed.getD j true = false
    · have hne := hsome listed hl' hex
      have hset : ∀ i, i < n → (listed.push false).setIfInBounds i true = (listed.setIfInBounds i true).push false := fun i hin => by
        apply Array.ext_getElem?
        intro k
        simp only [Array.getElem?_setIfInBounds, Array.getElem?_push, Array.size_setIfInBounds, Array.size_push]
        by_cases hki : i = k
        · subst hki
          simp [hl', hin, Nat.ne_of_lt hin, Nat.lt_succ_of_lt hin]
        · simp [hki]
      by_cases hnr : n ∈ Region.ready .any ops (listed.push false)
      · obtain ⟨j, hj⟩ := List.exists_mem_of_ne_nil _ hne
        have hjn : j < n := by
          obtain ⟨-, o, ho, -⟩ := mem_ready.1 hj
          have := (Array.getElem?_eq_some_iff.1 ho).1
          simp at this; omega
        obtain ⟨oj, hoj⟩ : ∃ o, ops[j]? = some o := ⟨ops[j], Array.getElem?_eq_getElem (by omega)⟩
        have hjl := (mem_ready.1 hj).1
        have h1 := List.all_eq_true.1 hl j (List.mem_range.2 hjn)
        simp only [hoj, Bool.or_eq_true, Bool.and_eq_true] at h1
        have hwait : ∀ j, j < n → listed.getD j true = false → ¬ Region.waitsFor .any ops n j = true := fun j hjn hjl h1 => by
          obtain ⟨o', ho', e, he, hbe, hon'⟩ := Region.waitsFor_spec h1
          obtain ⟨-, o2, ho2, h2⟩ := mem_ready.1 hnr
          have : o' = o2 := Option.some.inj (ho'.symm.trans ho2)
          subst this
          have h3 := h2 e he hbe
          rw [hon', getD_push (by omega)] at h3
          have h4 : j < listed.size := by omega
          simp [h4] at h3 hjl
          rw [hjl] at h3
          cases h3
        rcases h1 with h1 | ⟨hp, hf⟩
        · exact absurd h1 (hwait j hjn hjl)
        · have h2 := qOp_pop hn hb hjn (H.2 j hj)
          obtain ⟨v, hy, hK⟩ := yieldsIn_of_qOp hoj h2
          have hY := pass_yields (ops := ops) hp hw hy
          have h3 := ih (listed.setIfInBounds j true) (a.put oj.dst v) w hw (by simp [hl']) hK
          rw [← hset j hjn] at h3
          refine wpAny_first hoj (Region.noSelect_spec hsel) (fun c a w => hQ c a _ _ w) _ _ a w (fun k ok hk hkj hun hno => ?_) ((hready listed hl' j hjn).2 hj) hY h3
          have hks := (Array.getElem?_eq_some_iff.1 hk).1
          refine Region.free_spec hoj hf k ok hk hkj (late0_false hks fun ⟨h4, h5⟩ => ?_) hno
          rw [getD_push (by omega)] at hun
          exact hwait k h4 hun h5
      · refine ⟨fun h => absurd h ?_, fun i hi => ?_⟩
        · obtain ⟨k, hk⟩ := List.exists_mem_of_ne_nil _ hne
          have hkn : k < n := by
            obtain ⟨-, o, ho, -⟩ := mem_ready.1 hk
            have := (Array.getElem?_eq_some_iff.1 ho).1
            simp at this; omega
          intro h0
          have := (hready listed hl' k hkn).2 hk
          rw [h0] at this
          cases this
        · have hin2 : i < n + 1 := by
            obtain ⟨-, o, ho, -⟩ := mem_ready.1 hi
            have := (Array.getElem?_eq_some_iff.1 ho).1
            omega
          have hin : i < n := by
            rcases Nat.lt_or_ge i n with h | h
            · exact h
            · obtain rfl : i = n := by omega
              exact absurd hi hnr
          have hi' := (hready listed hl' i hin).1 hi
          rw [hset i hin]
          exact wpOp_of_qOp hw (fun a' w' hw' h' => ih _ a' w' hw' (by simp [hl']) h') (qOp_pop hn hb hin (H.2 i hi'))
    · exact hlast _ listed a w hw hl' hex (H.1 (hnil listed hex))

/-- the region: what is ahead of the store, quietly; the store; the last one -/
theorem wp_region_past_late2 {id : Nat} {Q : Exit → Act → World → Prop} {a : Act} {w : World} {L M : List Oper} {o1 o2 : Oper} (hL : cut2 L = some (M, o1, o2)) (hm : P.follows .mixedOrders = true) (hB : Region.lexB .any M.toArray = true) (hp : popB L.toArray = true) (hb : backB (M ++ [o1]).toArray = true) (hl : lateB (M ++ [o1]).toArray M.length = true) (hs : Region.noSelect (M ++ [o1]).toArray = true)
    (hQ : ∀ c a d v w, Q (.panic c) (Act.put a d v) w → Q (.panic c) a w)
    (h : wpQuiet P M.toArray (fun w' => ∃ s : Past w, w' = s.val) (fun a' => ∀ w', (∃ s : Past w, w' = s.val) → wpList P L.toArray Q [o1, o2] a' w') M a) : (Code.region id L.toArray true).wp P Q a w := by
  have hL' := cut2_spec hL
  subst hL'
  have hn : (M ++ [o1] ++ [o2]).toArray.size = (M.length + 1) + 1 := by simp
  have hn1 : (M ++ [o1]).toArray.size = M.length + 1 := by simp
  have hpop : (M ++ [o1] ++ [o2]).toArray.pop = (M ++ [o1]).toArray := by simp
  have hpop1 : (M ++ [o1]).toArray.pop = M.toArray := by simp
  unfold popB at hp
  simp only [Bool.and_eq_true, decide_eq_true_eq] at hp
  obtain ⟨⟨hbL, hsL⟩, -⟩ := hp
  rw [hn, Nat.add_sub_cancel] at hsL
  simp only [Region.lexB, Bool.and_eq_true] at hB
  refine wp_region_any hm ?_
  rw [hn, show Array.replicate (M.length + 1 + 1) false = (Array.replicate (M.length + 1) false).push false from by rw [← Array.replicate_succ]]
  have inv : HeadInv .any (M ++ [o1] ++ [o2]).toArray (M.length + 1) ((Array.replicate (M.length + 1) false).push false) := by
    rw [← Array.replicate_succ]
    refine ⟨by rw [hn]; simp, fun j oj hj hl => ?_, fun t h1 h2 => ?_⟩
    · rw [getD_replicate_false] at hl
      cases hl
    · simp [show t < M.length + 1 + 1 from by omega]
  refine wpAny_pop hn hbL hsL (M.length + 1) _ a _ (by simp) inv ?_
  rw [hpop, show Array.replicate (M.length + 1) false = (Array.replicate M.length false).push false from by rw [← Array.replicate_succ]]
  refine wpAny_late (P := P) (Q := popQ P (M ++ [o1] ++ [o2]).toArray Q (M.length + 1)) (C := fun w' => ∃ s : Past w, w' = s.val) (Qq := fun a' => ∀ w', (∃ s : Past w, w' = s.val) → wpOp P (M ++ [o1] ++ [o2]).toArray Q M.length (fun a2 w2 => wpOp P (M ++ [o1] ++ [o2]).toArray Q (M.length + 1) (fun a3 w3 => Q .normal a3 w3) a2 w2) a' w') hn1 hb hl hs (fun c a d v w h => hQ c a d v w h) (fun a' w' hw' hqa => ?_) M.length (Array.replicate M.length false) a { w with drawn := w.drawn + 1 } ⟨⟨{ w with drawn := w.drawn + 1 }, below_drewN 1⟩, rfl⟩ (Array.size_replicate) ?_
  · have h2 := wpOp_unpop hn hbL (by omega) (hqa w' hw')
    rw [hpop] at h2
    exact h2
  · rw [hpop1]
    have h9 := quiet_weaken (Q' := fun a' => ∀ w', (∃ s : Past w, w' = s.val) → wpOp P (M ++ [o1] ++ [o2]).toArray Q M.length (fun a2 w2 => wpOp P (M ++ [o1] ++ [o2]).toArray Q (M.length + 1) (fun a3 w3 => Q .normal a3 w3) a2 w2) a' w') (fun a' h' w' hw' => by
      have h2 := h' w' hw'
      have g1 : (M ++ [o1] ++ [o2]).toArray[M.length]? = some o1 := by simp
      have g2 : (M ++ [o1] ++ [o2]).toArray[M.length + 1]? = some o2 := by simp
      unfold wpOp
      rw [g1, g2]
      exact h2) _ _ h
    have := wpAnyQ_lex (P := P) (C := fun w' => ∃ s : Past w, w' = s.val) (md := .any) hB.1 M 0 (Array.replicate M.length false) a (by simp) (by simpa using hB.2) h9
    exact this
/-- the same, not to panic: behind it 'refine NoPanic.normal ?_' -/
theorem wp_region_late2 {id : Nat} {Q : Exit → Act → World → Prop} {a : Act} {w : World} {L M : List Oper} {o1 o2 : Oper} (hL : cut2 L = some (M, o1, o2)) (hm : P.follows .mixedOrders = true) (hB : Region.lexB .any M.toArray = true) (hp : popB L.toArray = true) (hb : backB (M ++ [o1]).toArray = true) (hl : lateB (M ++ [o1]).toArray M.length = true) (hs : Region.noSelect (M ++ [o1]).toArray = true)
    (h : wpQuiet P M.toArray (fun w' => ∃ s : Past w, w' = s.val) (fun a' => ∀ w', (∃ s : Past w, w' = s.val) → wpList P L.toArray (NoPanic Q) [o1, o2] a' w') M a) : (Code.region id L.toArray true).wp P Q a w :=
  wp_region_noPanic (wp_region_past_late2 hL hm hB hp hb hl hs (fun _ _ _ _ _ h => h.elim) h)
/-- its front, its last -/
def cut1 : List Oper → Option (List Oper × Oper)
  | [] => none
  | [x] => some ([], x)
  | x :: l => (cut1 l).map fun (m, a) => (x :: m, a)
theorem cut1_spec : ∀ {L M : List Oper} {o : Oper}, cut1 L = some (M, o) → L = M ++ [o]
  | [], _, _, h => by cases h
  | [x], _, _, h => by cases h; rfl
  | x :: y :: l, M, o, h => by
    have h' : (cut1 (y :: l)).map (fun (m, a) => (x :: m, a)) = some (M, o) := h
    cases hc : cut1 (y :: l) with
    | none => rw [hc] at h'; cases h'
    | some r =>
      obtain ⟨m, a⟩ := r
      rw [hc] at h'
      cases h'
      rw [cut1_spec hc]
      rfl
/-- the region: what is ahead of its last operation, quietly; that one -/
theorem wp_region_past_one {id : Nat} {Q : Exit → Act → World → Prop} {a : Act} {w : World} {L M : List Oper} {o : Oper} (hL : cut1 L = some (M, o)) (hm : P.follows .mixedOrders = true) (hB : Region.lexB .any M.toArray = true) (hp : popB L.toArray = true)
    (h : wpQuiet P M.toArray (fun w' => ∃ s : Past w, w' = s.val) (fun a' => ∀ w', (∃ s : Past w, w' = s.val) → wpList P L.toArray Q [o] a' w') M a) : (Code.region id L.toArray true).wp P Q a w := by
  have hL' := cut1_spec hL
  subst hL'
  refine wp_region_past_pop hm hB hp ?_
  refine quiet_weaken (fun a' h' w' hw' => ?_) _ _ h
  have g1 : (M ++ [o]).toArray[M.length]? = some o := by simp
  show wpOp P (M ++ [o]).toArray Q M.length (fun a' w' => Q .normal a' w') a' w'
  unfold wpOp
  rw [g1]
  exact h' w' hw'
end
end Go.Proofs.Ytgcemddobcjpnaa
namespace Go.Proofs.Ytgcemddobcjpnaa
open Go.RowKit Go

/-- Q, but False at every way out -/
def Strict (Q : Exit → Act → World → Prop) : Exit → Act → World → Prop
  | .normal, a, w => Q .normal a w
  | _, _, _ => False
theorem Strict.normal {Q : Exit → Act → World → Prop} {a : Act} {w : World} (h : Q .normal a w) : Strict Q .normal a w := h
theorem Strict.imp {Q : Exit → Act → World → Prop} : ∀ (e : Exit) (a : Act) (w : World), Strict Q e a w → Q e a w := fun e a w h => by
  cases e <;> first | exact h | exact (h : False).elim
theorem Strict.noOut {Q : Exit → Act → World → Prop} : ¬ LetsOut (Strict Q) := fun ⟨_, _, h⟩ => h

section
variable {P : Program}
theorem pass_of_wp {o : Oper} {a : Act} {w : World} {K : Act → World → Prop} {Q : Exit → Act → World → Prop} (hp : passB o = true) (h : o.wp P a w K (Strict Q)) :
    ∃ v, (∀ w', (execOp a.eval o).run P w' = .ok (.value v) w') ∧ K (a.put o.dst v) w := by
  unfold passB at hp
  unfold Oper.wp execOp at h
  unfold execOp
  cases ho : o.op <;> rw [ho] at hp h <;> first | (cases hp; done) | skip
  case move x =>
    simp only [Sem.run_pure, Oper.upon] at h ⊢
    exact ⟨_, fun _ => rfl, h⟩
  case assign x =>
    simp only [Sem.run_pure, Oper.upon] at h ⊢
    exact ⟨_, fun _ => rfl, h⟩
  case extract t k =>
    simp only [Sem.run_bind] at h ⊢
    cases hr : (Instr.extract (a.eval t) k).run P w with
    | ok u w1 =>
      rw [hr] at h
      simp only [Result.andThen_ok, Sem.run_pure, Oper.upon] at h
      refine ⟨u, fun w' => ?_, ?_⟩
      · rw [(extract_run _ _ _ w' _ _ hr).2]
        rfl
      · rw [(extract_run _ _ _ w _ _ hr).1] at h
        exact h
    | halt x w1 =>
      rw [hr] at h
      exfalso
      cases x <;> simp [Result.andThen, Oper.upon, Strict] at h

/-- in this order each operation comes up alone, or only passes a value on and is apart from the others -/
def linB (ops : Array Oper) : List Nat → Array Bool → Bool
  | [], listed => (Region.ready .any ops listed).isEmpty
  | k :: r, listed => (decide (Region.ready .any ops listed = [k]) || ((Region.ready .any ops listed).contains k && Region.free .any ops listed k && (match ops[k]? with | some o => passB o | none => false))) && linB ops r (listed.setIfInBounds k true)
def pickOps (ops : Array Oper) : List Nat → Option (List Oper)
  | [] => some []
  | k :: r => match ops[k]?, pickOps ops r with
    | some o, some l => some (o :: l)
    | _, _ => none
theorem wpAny_lin {ops : Array Oper} {Q : Exit → Act → World → Prop} (hsel : Region.noSelect ops = true) : ∀ (ord : List Nat) (l : List Oper) (listed : Array Bool) (a : Act) (w : World), pickOps ops ord = some l → linB ops ord listed = true → wpList P ops (Strict Q) l a w → wpAny P .any ops (Strict Q) ord.length listed a w
  | [], l, listed, a, w, hp, hB, h => by
    simp only [pickOps, Option.some.injEq] at hp
    subst hp
    exact ⟨by simpa [linB] using hB, h⟩
  | k :: r, l, listed, a, w, hp, hB, h => by
    simp only [pickOps] at hp
    split at hp
    · next o l' ho hl' =>
      simp only [Option.some.injEq] at hp
      subst hp
      simp only [linB, Bool.and_eq_true, Bool.or_eq_true, decide_eq_true_eq] at hB
      obtain ⟨hk, hB'⟩ := hB
      have ih := fun a' w' => wpAny_lin (Q := Q) hsel r l' (listed.setIfInBounds k true) a' w' hl' hB'
      rcases hk with hk | ⟨⟨hr, hf⟩, hpass⟩
      · refine ⟨fun h0 => (by rw [hk] at h0; cases h0), fun i hi => ?_⟩
        rw [hk] at hi
        have hik : i = k := by simpa using hi
        subst hik
        refine wpOp_mono (fun a' w' h' => ih a' w' h') ?_
        unfold wpOp
        rw [ho]
        exact h
      · rw [ho] at hpass
        have hY : ∃ v, Yields P ops o v a ∧ wpList P ops (Strict Q) l' (a.put o.dst v) w := by
          unfold wpList at h
          by_cases hw : Region.wanted o (yielded ops a.tmps) = true
          · rw [if_pos hw] at h
            rcases h with h | ⟨-, h⟩
            · obtain ⟨v, h1, h2⟩ := pass_of_wp hpass h
              exact ⟨v, .inl ⟨hw, h1⟩, h2⟩
            · exact absurd h Strict.noOut
          · rw [if_neg hw] at h
            exact ⟨undef, .inr ⟨by simpa using hw, rfl⟩, h⟩
        obtain ⟨v, hy, hK⟩ := hY
        exact wpAny_first ho (Region.noSelect_spec hsel) (fun _ _ _ h => h.elim) _ listed a w (Region.free_spec ho hf) (by simpa using hr) hy (ih _ _ hK)
    · cases hp

/-- the region as one that draws no order -/
theorem wp_region_lin {id : Nat} {Q : Exit → Act → World → Prop} {a : Act} {w : World} {L : Array Oper} {l : List Oper} (ord : List Nat) (hm : P.follows .mixedOrders = true) (hs : Region.noSelect L = true) (hn : ord.length = L.size) (hB : linB L ord (Array.replicate L.size false) = true) (hl : pickOps L ord = some l)
    (h : wpList P L (Strict Q) l a w.drew) : (Code.region id L true).wp P Q a w := by
  refine Code.wp_mono Strict.imp (wp_region_any hm ?_)
  rw [← hn]
  have := wpAny_lin (Q := Q) hs ord l (Array.replicate L.size false) a w.drew hl hB h
  rw [← hn] at this
  exact this

/-! A stretch of operations that are not wanted, in between. -/
theorem upon_strict {X Y : Exit → Act → World → Prop} {o : Oper} {a : Act} {K : Act → World → Prop} (r : Result Next) (h : o.upon P a K (Strict X) r) : o.upon P a K (Strict Y) r := by
  have hl : LetsOut (Strict X) → LetsOut (Strict Y) := fun h => absurd h Strict.noOut
  cases r with
  | ok nx w' =>
    cases nx <;> simp only [Oper.upon] at h ⊢ <;>
      first
        | exact h
        | exact Calls.mono h (fun e w'' he => by cases e <;> first | exact he | exact hl he)
  | halt x w' => cases x <;> simp only [Oper.upon] at h ⊢ <;> exact h
theorem wpOp_strict {ops : Array Oper} {X Y : Exit → Act → World → Prop} {i : Nat} {K : Act → World → Prop} {a : Act} {w : World} (h : wpOp P ops (Strict X) i K a w) : wpOp P ops (Strict Y) i K a w := by
  unfold wpOp at *
  split
  · next ho => rw [ho] at h; exact h
  · next o ho =>
    rw [ho] at h
    simp only at h
    split
    · next hw =>
      rw [if_pos hw] at h
      exact h.imp (upon_strict _) (fun ⟨h1, h2⟩ => ⟨h1, absurd h2 Strict.noOut⟩)
    · next hw => rw [if_neg hw] at h; exact h
/-- the list of what has come up behind such a walk -/
def linS (ops : Array Oper) : List Nat → Array Bool → Option (Array Bool)
  | [], listed => some listed
  | k :: r, listed => if (decide (Region.ready .any ops listed = [k]) || ((Region.ready .any ops listed).contains k && Region.free .any ops listed k && (match ops[k]? with | some o => passB o | none => false))) = true then linS ops r (listed.setIfInBounds k true) else none
def deadS (ops : Array Oper) : List Nat → Array Bool → Option (Array Bool)
  | [], listed => some listed
  | k :: r, listed => if ((Region.ready .any ops listed).contains k && Region.free .any ops listed k) = true then deadS ops r (listed.setIfInBounds k true) else none
def wpDead (ops : Array Oper) (K : Act → World → Prop) : List Oper → Act → World → Prop
  | [], a, w => K a w
  | o :: r, a, w => Region.wanted o (yielded ops a.tmps) = false ∧ wpDead ops K r (a.put o.dst undef) w
theorem wpAny_linS {ops : Array Oper} {Q X : Exit → Act → World → Prop} {g : Nat} {fin : Array Bool} (hsel : Region.noSelect ops = true) (hK : ∀ a w, X .normal a w → wpAny P .any ops (Strict Q) g fin a w) :
    ∀ (ord : List Nat) (l : List Oper) (listed : Array Bool) (a : Act) (w : World), pickOps ops ord = some l → linS ops ord listed = some fin → wpList P ops (Strict X) l a w → wpAny P .any ops (Strict Q) (ord.length + g) listed a w
  | [], l, listed, a, w, hp, hB, h => by
    simp only [pickOps, Option.some.injEq] at hp
    simp only [linS, Option.some.injEq] at hB
    subst hp hB
    rw [List.length_nil, Nat.zero_add]
    exact hK a w h
  | k :: r, l, listed, a, w, hp, hB, h => by
    simp only [pickOps] at hp
    split at hp
    · next o l' ho hl' =>
      simp only [Option.some.injEq] at hp
      subst hp
      simp only [linS, ho] at hB
      split at hB
      · next hk =>
        simp only [Bool.and_eq_true, Bool.or_eq_true, decide_eq_true_eq] at hk
        have ih := fun a' w' => wpAny_linS (Q := Q) hsel hK r l' (listed.setIfInBounds k true) a' w' hl' hB
        rw [show (k :: r).length + g = (r.length + g) + 1 from by simp; omega]
        rcases hk with hk | ⟨⟨hr, hf⟩, hpass⟩
        · refine ⟨fun h0 => (by rw [hk] at h0; cases h0), fun i hi => ?_⟩
          rw [hk] at hi
          have hik : i = k := by simpa using hi
          subst hik
          refine wpOp_mono (fun a' w' h' => ih a' w' h') (wpOp_strict (X := X) ?_)
          unfold wpOp
          rw [ho]
          exact h
        · have hY : ∃ v, Yields P ops o v a ∧ wpList P ops (Strict X) l' (a.put o.dst v) w := by
            unfold wpList at h
            by_cases hw : Region.wanted o (yielded ops a.tmps) = true
            · rw [if_pos hw] at h
              rcases h with h | ⟨-, h⟩
              · obtain ⟨v, h1, h2⟩ := pass_of_wp hpass h
                exact ⟨v, .inl ⟨hw, h1⟩, h2⟩
              · exact absurd h Strict.noOut
            · rw [if_neg hw] at h
              exact ⟨undef, .inr ⟨by simpa using hw, rfl⟩, h⟩
          obtain ⟨v, hy, hK'⟩ := hY
          exact wpAny_first ho (Region.noSelect_spec hsel) (fun _ _ _ h => h.elim) _ listed a w (Region.free_spec ho hf) (by simpa using hr) hy (ih _ _ hK')
      · cases hB
    · cases hp
theorem wpAny_deadS {ops : Array Oper} {Q : Exit → Act → World → Prop} {K : Act → World → Prop} {g : Nat} {fin : Array Bool} (hsel : Region.noSelect ops = true) (hK : ∀ a w, K a w → wpAny P .any ops (Strict Q) g fin a w) :
    ∀ (ord : List Nat) (l : List Oper) (listed : Array Bool) (a : Act) (w : World), pickOps ops ord = some l → deadS ops ord listed = some fin → wpDead ops K l a w → wpAny P .any ops (Strict Q) (ord.length + g) listed a w
  | [], l, listed, a, w, hp, hB, h => by
    simp only [pickOps, Option.some.injEq] at hp
    simp only [deadS, Option.some.injEq] at hB
    subst hp hB
    rw [List.length_nil, Nat.zero_add]
    exact hK a w h
  | k :: r, l, listed, a, w, hp, hB, h => by
    simp only [pickOps] at hp
    split at hp
    · next o l' ho hl' =>
      simp only [Option.some.injEq] at hp
      subst hp
      simp only [deadS] at hB
      split at hB
      · next hk =>
        simp only [Bool.and_eq_true] at hk
        rw [show (k :: r).length + g = (r.length + g) + 1 from by simp; omega]
        exact wpAny_first ho (Region.noSelect_spec hsel) (fun _ _ _ h => h.elim) _ listed a w (Region.free_spec ho hk.2) (by simpa using hk.1) (.inr ⟨h.1, rfl⟩) (wpAny_deadS hsel hK r l' _ _ w hl' hB h.2)
      · cases hB
    · cases hp
/-- what stands behind the first stretch: the operations that are not wanted, then the last stretch -/
def DeadQ (P : Program) (ops : Array Oper) (Q : Exit → Act → World → Prop) (ld l2 : List Oper) : Exit → Act → World → Prop := fun _ a w => wpDead ops (fun a' w' => wpList P ops (Strict Q) l2 a' w') ld a w
theorem DeadQ.start {ops : Array Oper} {Q : Exit → Act → World → Prop} {ld l2 : List Oper} {a : Act} {w : World} (h : wpDead ops (fun a' w' => wpList P ops (Strict Q) l2 a' w') ld a w) : Strict (DeadQ P ops Q ld l2) .normal a w := h
theorem wpDead.cons {ops : Array Oper} {K : Act → World → Prop} {o : Oper} {r : List Oper} {a : Act} {w : World} (h1 : Region.wanted o (yielded ops a.tmps) = false) (h2 : wpDead ops K r (a.put o.dst undef) w) : wpDead ops K (o :: r) a w := ⟨h1, h2⟩
theorem wpDead.nil {ops : Array Oper} {K : Act → World → Prop} {a : Act} {w : World} (h : K a w) : wpDead ops K [] a w := h
theorem wp_region_dead {id : Nat} {Q : Exit → Act → World → Prop} {a : Act} {w : World} {L : Array Oper} {l1 ld l2 : List Oper} {f1 f2 : Array Bool} (o1 od o2 : List Nat) (hm : P.follows .mixedOrders = true) (hs : Region.noSelect L = true) (hn : o1.length + (od.length + o2.length) = L.size)
    (h1 : linS L o1 (Array.replicate L.size false) = some f1) (hd : deadS L od f1 = some f2) (h2 : linB L o2 f2 = true) (e1 : pickOps L o1 = some l1) (ed : pickOps L od = some ld) (e2 : pickOps L o2 = some l2)
    (h : wpList P L (Strict (DeadQ P L Q ld l2)) l1 a w.drew) : (Code.region id L true).wp P Q a w := by
  refine Code.wp_mono Strict.imp (wp_region_any hm ?_)
  have := wpAny_linS (Q := Q) (X := DeadQ P L Q ld l2) (g := od.length + o2.length) (fin := f1) hs (fun a1 w1 hd1 =>
    wpAny_deadS (Q := Q) (K := fun a' w' => wpList P L (Strict Q) l2 a' w') (g := o2.length) (fin := f2) hs (fun a2 w2 h9 => wpAny_lin hs o2 l2 f2 a2 w2 e2 h2 h9) od ld f1 a1 w1 ed hd hd1) o1 l1 _ a w.drew e1 h1 h
  rw [hn] at this
  exact this
end
end Go.Proofs.Ytgcemddobcjpnaa
namespace Go.Proofs.Ytgcemddobcjpnaa
open Go.RowKit Go

section
variable {P : Program}
theorem lastQ_start {M : List Oper} {o : Oper} {Q : Exit → Act → World → Prop} {a : Act} {w : World} (h : wpList P (M ++ [o]).toArray Q [o] a w) : popQ P (M ++ [o]).toArray Q M.length .normal a w := by
  have g1 : (M ++ [o]).toArray[M.length]? = some o := by simp
  show wpOp P (M ++ [o]).toArray Q M.length (fun a' w' => Q .normal a' w') a w
  unfold wpOp
  rw [g1]
  exact h
/-- what is asked behind the front -/
def LastQ (P : Program) (L M : List Oper) (Q : Exit → Act → World → Prop) : Exit → Act → World → Prop := popQ P L.toArray Q M.length
theorem LastQ.start {L M : List Oper} {o : Oper} {Q : Exit → Act → World → Prop} {a : Act} {w : World} (hL : cut1 L = some (M, o)) (h : wpList P L.toArray Q [o] a w) : LastQ P L M Q .normal a w := by
  have hL' := cut1_spec hL
  subst hL'
  exact lastQ_start h
theorem wp_region_lastH {id : Nat} {Q : Exit → Act → World → Prop} {a : Act} {w : World} {L M : List Oper} {o : Oper} (S : World → Prop) (n : Nat) (hL : cut1 L = some (M, o)) (hMn : M.length = n) (hm : P.follows .mixedOrders = true) (hp : popB L.toArray = true) (hS : S w.drew)
    (h : S w.drew → wpAnyH P .any M.toArray (LastQ P L M Q) S n (Array.replicate n false) a w.drew) : (Code.region id L.toArray true).wp P Q a w := by
  have hL' := cut1_spec hL
  subst hL'
  subst hMn
  refine wp_region_pop (S := S) hm hp ?_
  have hn : (M ++ [o]).toArray.size - 1 = M.length := by simp
  have hpop : (M ++ [o]).toArray.pop = M.toArray := by simp
  rw [hn, hpop]
  exact h hS
end
end Go.Proofs.Ytgcemddobcjpnaa
