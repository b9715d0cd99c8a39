/- Pop, Past, Past2. -/
import Derived.Test.YtdemkfhkibmbnaaGreatDoorM01
import Derived.OrdersHeld
import Derived.StillTail
namespace Go.Proofs.YtdemkfhkibmbnaaGreatDoor
open Go
def popQ (P : Program) (ops : Array Oper) (Q : Exit → Act → World → Prop) (n : Nat) : Exit → Act → World → Prop
 | .normal, a, w => wpOp P ops Q n (fun a' w' => Q .normal a' w') a w
 | e, a, w => Q e a w
def backB (ops : Array Oper) : Bool := (List.range ops.size).all fun j => match ops[j]? with
 | some o => (o.after.all fun e => !Region.binds .any e || decide (e.on < j)) && (match o.guard with | some (g, _) => decide (g < j) | none => true)
 | none => false
theorem backB_spec {ops : Array Oper} (h : backB ops = true) {j : Nat} {o : Oper} (ho : ops[j]? = some o) :
  (∀ e ∈ o.after, Region.binds .any e = true → e.on < j) ∧ ∀ g b, o.guard = some (g, b) → g < j := by
 have hj : j < ops.size := (Array.getElem?_eq_some_iff.1 ho).1; have h1 := List.all_eq_true.1 h j (List.mem_range.2 hj); simp only [ho, Bool.and_eq_true] at h1; refine ⟨fun e he hb => ?_, fun g b hg => ?_⟩
 ·have := Array.all_eq_true_iff_forall_mem.1 h1.1 e he
  simp only [hb, Bool.not_true, Bool.false_or, decide_eq_true_eq] at this; exact this
 ·have := h1.2
  simp only [hg, decide_eq_true_eq] at this; exact this
theorem upon_pop {P : Program} {o : Oper} {a : Act} {K : Act → World → Prop} {ops : Array Oper} {Q : Exit → Act → World → Prop} {n : Nat} (r : Result Next) (h : o.upon P a K (popQ P ops Q n) r) : o.upon P a K Q r := by
 have hl : LetsOut (popQ P ops Q n) → LetsOut Q := fun ⟨a, w, h⟩ => ⟨a, w, h⟩
 cases r with
 | ok nx w' =>
  cases nx <;> simp only [Oper.upon] at h ⊢ <;>
   first
    | exact h
    | exact Calls.mono h (fun e w'' he => by cases e <;> first | exact he | exact hl he)
 | halt x w' => cases x <;> simp only [Oper.upon] at h ⊢ <;> exact h
theorem wpOp_pop {P : Program} {ops : Array Oper} {Q : Exit → Act → World → Prop} {n i : Nat} {K : Act → World → Prop} {a : Act} {w : World} (hn : ops.size = n + 1) (hb : backB ops = true) (hi : i < n) (h : wpOp P ops.pop (popQ P ops Q n) i K a w) : wpOp P ops Q i K a w := by
 have hpop : ∀ j, j < n → ops.pop[j]? = ops[j]? := fun j hj => by rw [Array.getElem?_pop, if_pos (by omega)]
 unfold wpOp at *
 rw [hpop i hi] at h
 cases ho : ops[i]? with
 | none => simp only [ho] at h ⊢; exact h
 | some o =>
  simp only [ho] at h ⊢; have hg := (backB_spec hb ho).2
  have hw : Region.wanted o (yielded ops.pop a.tmps) = Region.wanted o (yielded ops a.tmps) := by
   unfold Region.wanted
   cases hgu : o.guard with
   | none => rfl
   | some x =>
    obtain ⟨g, b⟩ := x; have := hg g b hgu
    simp only
    unfold yielded
    rw [hpop g (by omega)]
  rw [hw] at h
  by_cases hwt : Region.wanted o (yielded ops a.tmps) = true
  ·rw [if_pos hwt] at h ⊢
   rcases h with h | ⟨h1, ⟨a', w', h2⟩⟩
   ·exact .inl (upon_pop _ h)
   ·exact .inr ⟨h1, ⟨a', w', h2⟩⟩
  ·rw [if_neg hwt] at h ⊢
   exact h
theorem getD_push {l : Array Bool} {j : Nat} {d : Bool} (h : j < l.size) : (l.push false).getD j d = l.getD j d := by
 simp [Array.getElem?_push, Nat.ne_of_lt h]
theorem wpAny_pop {P : Program} {ops : Array Oper} {Q : Exit → Act → World → Prop} {n : Nat} (hn : ops.size = n + 1) (hb : backB ops = true) (hs : Region.sinkB .any ops n = true) :
  ∀ (fuel : Nat) (listed : Array Bool) (a : Act) (w : World), listed.size = n → HeadInv .any ops n (listed.push false) → wpAny P .any ops.pop (popQ P ops Q n) fuel listed a w → wpAny P .any ops Q (fuel + 1) (listed.push false) a w := by
 have hpop : ∀ j, j < n → ops.pop[j]? = ops[j]? := fun j hj => by rw [Array.getElem?_pop, if_pos (by omega)]
 have hc : Region.chainB .any ops n = true := by
  unfold Region.chainB
  rw [List.all_eq_true]; intro t ht; have := List.mem_range.1 ht
  simp; left; omega
 obtain ⟨on, hon⟩ : ∃ on, ops[n]? = some on := ⟨ops[n], Array.getElem?_eq_getElem (by omega)⟩
 have hready : ∀ (listed : Array Bool), listed.size = n → ∀ i, i < n → (i ∈ Region.ready .any ops (listed.push false) ↔ i ∈ Region.ready .any ops.pop listed) := fun listed hl i hi => by
  rw [mem_ready, mem_ready, getD_push (by omega), hpop i hi]
  refine and_congr_right fun _ => ⟨fun ⟨o, ho, h⟩ => ⟨o, ho, fun e he hbe => ?_⟩, fun ⟨o, ho, h⟩ => ⟨o, ho, fun e he hbe => ?_⟩⟩
  ·have h1 := h e he hbe
   have h2 := (backB_spec hb ho).1 e he hbe
   rwa [getD_push (by omega)] at h1
  ·have h1 := h e he hbe
   have h2 := (backB_spec hb ho).1 e he hbe
   rwa [getD_push (by omega)]
 -- where not all have come up, one may come up
 have hsome : ∀ (listed : Array Bool), listed.size = n → (∃ j, j < n ∧ listed.getD j true = false) → Region.ready .any ops.pop listed ≠ [] := fun listed hl hex => by
  obtain ⟨j, hj, hmin⟩ : ∃ j, (j < n ∧ listed.getD j true = false) ∧ ∀ k, k < j → ¬ (k < n ∧ listed.getD k true = false) := by
   obtain ⟨j0, hj0⟩ := hex
   induction j0 using Nat.strongRecOn with
   | _ j0 ih =>
    by_cases h : ∃ k, k < j0 ∧ (k < n ∧ listed.getD k true = false)
    ·obtain ⟨k, hk, hk2⟩ := h
     exact ih k hk hk2
    ·exact ⟨j0, hj0, fun k hk hk2 => h ⟨k, hk, hk2⟩⟩
  obtain ⟨hjn, hjl⟩ := hj; obtain ⟨o, ho⟩ : ∃ o, ops[j]? = some o := ⟨ops[j], Array.getElem?_eq_getElem (by omega)⟩; intro he
  have : j ∈ Region.ready .any ops.pop listed := by
   rw [mem_ready, hpop j hjn]; refine ⟨hjl, o, ho, fun e hee hbe => ?_⟩; have h2 := (backB_spec hb ho).1 e hee hbe; have h3 := hmin e.on h2; have h4 : e.on < listed.size := by omega
   have h5 : ¬ listed.getD e.on true = false := fun h => h3 ⟨by omega, h⟩
   simp [h4] at h5 ⊢
   exact h5
  rw [he] at this; cases this
 intro fuel
 induction fuel with
 | zero =>
  intro listed a w hl inv H
  by_cases hex : ∃ j, j < n ∧ listed.getD j true = false
  ·exact absurd H.1 (hsome listed hl hex)
  ·have hall : ∀ j, j < n → listed.getD j true = true := fun j hj => by
    cases h : listed.getD j true
    ·exact absurd ⟨j, hj, h⟩ hex
    ·rfl
   have hnr : n ∈ Region.ready .any ops (listed.push false) := by
    rw [mem_ready]; refine ⟨by rw [← hl]; simp, on, hon, fun e he hbe => ?_⟩; have h2 := (backB_spec hb hon).1 e he hbe; have h3 := hall e.on h2; have h4 : e.on < listed.size := by omega
    rw [getD_push h4]
    simp [h4] at h3 ⊢
    exact h3
   refine ⟨fun h => (by rw [h] at hnr; cases hnr), fun i hi => ?_⟩
   have hin : i < n + 1 := by
    obtain ⟨-, o, ho, -⟩ := mem_ready.1 hi; have := (Array.getElem?_eq_some_iff.1 ho).1
    omega
   by_cases hi2 : i < n
   ·have h5 := (mem_ready.1 hi).1
    rw [getD_push (by omega), hall i hi2] at h5; cases h5
   ·obtain rfl : i = n := by omega
    refine wpOp_mono (fun a' w' h' => wpAny_done ?_ h' 0) H.2; rw [List.eq_nil_iff_forall_not_mem]; intro k hk; obtain ⟨h6, o, ho, -⟩ := mem_ready.1 hk; have hk2 := (Array.getElem?_eq_some_iff.1 ho).1
    by_cases hki : k = i
    ·subst hki
     simp [hl] at h6
    ·have h7 : k < listed.size := by omega
     have h8 := hall k (by omega); rw [getD_set_ne true (Ne.symm hki), getD_push h7, h8] at h6; cases h6
 | succ fuel ih =>
  intro listed a w hl inv H
  by_cases hex : ∃ j, j < n ∧ listed.getD j true = false
  ·have hne := hsome listed hl hex
   obtain ⟨j, hj, hjl⟩ := hex; have hnn : ∀ t, n ≤ t → t ∉ Region.ready .any ops (listed.push false) := tail_waits hs hc (by omega) inv (n - j) j rfl hj (by rw [getD_push (by omega)]; exact hjl); refine ⟨fun h => absurd h ?_, fun i hi => ?_⟩
   ·obtain ⟨k, hk⟩ := List.exists_mem_of_ne_nil _ hne
    have hkn : k < n := by
     obtain ⟨-, o, ho, -⟩ := mem_ready.1 hk; have := (Array.getElem?_eq_some_iff.1 ho).1
     simp at this; omega
    intro h0; have := (hready listed hl k hkn).2 hk; rw [h0] at this; cases this
   ·have hin : i < n := Nat.lt_of_not_le fun h => hnn i h hi
    have hi' := (hready listed hl i hin).1 hi; refine wpOp_mono (fun a' w' h' => ?_) (wpOp_pop hn hb hin (H.2 i hi'))
    have hset : (listed.push false).setIfInBounds i true = (listed.setIfInBounds i true).push false := by
     apply Array.ext_getElem?
     intro k; simp only [Array.getElem?_setIfInBounds, Array.getElem?_push, Array.size_setIfInBounds, Array.size_push]
     by_cases hki : i = k
     ·subst hki
      simp [hl, hin, Nat.ne_of_lt hin, Nat.lt_succ_of_lt hin]
     ·simp [hki]
    rw [hset]; refine ih _ a' w' (by simp [hl]) ?_ h'; rw [← hset]; exact inv.set hi hin
  ·have hall : ∀ j, j < n → listed.getD j true = true := fun j hj => by
    cases h : listed.getD j true
    ·exact absurd ⟨j, hj, h⟩ hex
    ·rfl
   have hnil : Region.ready .any ops.pop listed = [] := by
    rw [List.eq_nil_iff_forall_not_mem]; intro k hk; obtain ⟨h6, o, ho, -⟩ := mem_ready.1 hk; have hk2 := (Array.getElem?_eq_some_iff.1 ho).1; rw [hall k (by simp at hk2; omega)] at h6; cases h6
   have HQ := H.1 hnil
   have hnr : n ∈ Region.ready .any ops (listed.push false) := by
    rw [mem_ready]; refine ⟨by rw [← hl]; simp, on, hon, fun e he hbe => ?_⟩; have h2 := (backB_spec hb hon).1 e he hbe; have h3 := hall e.on h2; have h4 : e.on < listed.size := by omega
    rw [getD_push h4]
    simp [h4] at h3 ⊢
    exact h3
   refine ⟨fun h => (by rw [h] at hnr; cases hnr), fun i hi => ?_⟩
   have hin : i < n + 1 := by
    obtain ⟨-, o, ho, -⟩ := mem_ready.1 hi; have := (Array.getElem?_eq_some_iff.1 ho).1
    omega
   by_cases hi2 : i < n
   ·have h5 := (mem_ready.1 hi).1
    rw [getD_push (by omega), hall i hi2] at h5; cases h5
   ·obtain rfl : i = n := by omega
    refine wpOp_mono (fun a' w' h' => wpAny_done ?_ h' _) HQ; rw [List.eq_nil_iff_forall_not_mem]; intro k hk; obtain ⟨h6, o, ho, -⟩ := mem_ready.1 hk; have hk2 := (Array.getElem?_eq_some_iff.1 ho).1
    by_cases hki : k = i
    ·subst hki
     simp [hl] at h6
    ·have h7 : k < listed.size := by omega
     have h8 := hall k (by omega); rw [getD_set_ne true (Ne.symm hki), getD_push h7, h8] at h6; cases h6
def popB (ops : Array Oper) : Bool := backB ops && Region.sinkB .any ops (ops.size - 1) && decide (0 < ops.size)
theorem wp_region_pop {P : Program} {ops : Array Oper} {Q : Exit → Act → World → Prop} {S : World → Prop} {id : Nat} {a : Act} {w : World} (hm : P.follows .mixedOrders = true) (hp : popB ops = true)
  (h : wpAnyH P .any ops.pop (popQ P ops Q (ops.size - 1)) S (ops.size - 1) (Array.replicate (ops.size - 1) false) a w.drew) : (Code.region id ops true).wp P Q a w := by
 unfold popB at hp
 simp only [Bool.and_eq_true, decide_eq_true_eq] at hp; obtain ⟨⟨hb, hs⟩, h0⟩ := hp; obtain ⟨n, hn⟩ : ∃ n, ops.size = n + 1 := ⟨ops.size - 1, by omega⟩; rw [hn, Nat.add_sub_cancel] at hs h; refine wp_region_any hm ?_; rw [hn, show Array.replicate (n + 1) false = (Array.replicate n false).push false from by rw [← Array.replicate_succ]]
 have inv : HeadInv .any ops n ((Array.replicate n false).push false) := by
  rw [← Array.replicate_succ]; refine ⟨by simp [hn], fun j oj hj hl => ?_, fun t h1 h2 => ?_⟩
  ·rw [getD_replicate_false] at hl
   cases hl
  ·simp [show t < n + 1 from by omega]
 exact wpAny_pop hn hb hs n _ a _ (by simp) inv (wpAny_of_held _ _ _ _ h)
end Go.Proofs.YtdemkfhkibmbnaaGreatDoor
namespace Go.Proofs.YtdemkfhkibmbnaaGreatDoor
open Go.RowKit Go
structure Past (w : World) where
 val : World
 h : Below w.heap.size w val
instance (w : World) : Nonempty (Past w) := ⟨⟨w, Below.refl _ _⟩⟩
def Past.more {w : World} (s : Past w) {w' : World} (hb : Below s.val.heap.size s.val w') : Past w := ⟨w', below_and s.h hb⟩
theorem Past.cell {w : World} {a : Addr} {v : Value} (h : w.cell? a = some v) : ∀ s : Past w, s.val.cell? a = some v := fun s => cell_kept h s.h
theorem Past.blk {w : World} {g : Nat} {cs : List Value} {t : TypeId} (h : Blk w g cs t) {j : Nat} {u : Value} (hj : cs[j]? = some u) : ∀ s : Past w, s.val.cell? ⟨g, j, none⟩ = some u := fun s => cell_kept (h.cell hj) s.h
section
variable {P : Program}
theorem past_call {f : FuncId} {args : Array Value} {w : World} {s : Past w} {v : Value}
  (h : Calls P f args s.val fun e w' => e = .returned v ∧ Below s.val.heap.size s.val w') : Calls P f args s.val fun e w'' => e = .returned v ∧ ∃ s' : Past w, w'' = s'.val :=
 h.mono fun _ _ ⟨he, hb⟩ => ⟨he, s.more hb, rfl⟩
theorem past_call_same {f : FuncId} {args : Array Value} {w : World} {s : Past w} {v : Value}
  (h : Calls P f args s.val fun e w' => e = .returned v ∧ s.val = w') : Calls P f args s.val fun e w'' => e = .returned v ∧ ∃ s' : Past w, w'' = s'.val :=
 h.mono fun _ _ ⟨he, hb⟩ => ⟨he, s, hb.symm⟩
theorem quiet_weaken {ops : Array Oper} {C : World → Prop} {Q Q' : Act → Prop} (h : ∀ a, Q a → Q' a) : ∀ (l : List Oper) (a : Act), wpQuiet P ops C Q l a → wpQuiet P ops C Q' l a
 | [], a, hq => h a hq
 | o :: rest, a, hq => by
  unfold wpQuiet at hq ⊢
  split
  ·rename_i hw
   rw [if_pos hw] at hq; exact Oper.quiet_mono (fun a' h' => quiet_weaken h rest a' h') hq
  ·rename_i hw
   rw [if_neg hw] at hq; exact quiet_weaken h rest _ hq
theorem wp_region_past {id : Nat} {Q : Exit → Act → World → Prop} {a : Act} {w : World} {l : List Oper} (hm : P.follows .mixedOrders = true) (hB : Region.lexB .any l.toArray = true)
  (h : wpQuiet P l.toArray (fun w' => ∃ s : Past w, w' = s.val) (fun a' => ∀ w', (∃ s : Past w, w' = s.val) → Q .normal a' w') l a) : (Code.region id l.toArray true).wp P Q a w :=
 wp_region_quiet (C := fun w' => ∃ s : Past w, w' = s.val) hm hB ⟨⟨{ w with drawn := w.drawn + 1 }, below_drewN 1⟩, rfl⟩ (by simpa using h)
theorem wp_region_past_pop {id : Nat} {Q : Exit → Act → World → Prop} {a : Act} {w : World} {l : List Oper} {o : Oper} (hm : P.follows .mixedOrders = true) (hB : Region.lexB .any l.toArray = true) (hp : popB (l ++ [o]).toArray = true)
  (h : wpQuiet P l.toArray (fun w' => ∃ s : Past w, w' = s.val) (fun a' => ∀ w', (∃ s : Past w, w' = s.val) → popQ P (l ++ [o]).toArray Q l.length .normal a' w') l a) : (Code.region id (l ++ [o]).toArray true).wp P Q a w := by
 have hn : (l ++ [o]).toArray.size = l.length + 1 := by simp
 have hpop : (l ++ [o]).toArray.pop = l.toArray := by simp
 unfold popB at hp
 simp only [Bool.and_eq_true, decide_eq_true_eq] at hp; obtain ⟨⟨hb, hs⟩, -⟩ := hp; rw [hn, Nat.add_sub_cancel] at hs; simp only [Region.lexB, Bool.and_eq_true] at hB; refine wp_region_any hm ?_; rw [hn, show Array.replicate (l.length + 1) false = (Array.replicate l.length false).push false from by rw [← Array.replicate_succ]]
 have inv : HeadInv .any (l ++ [o]).toArray l.length ((Array.replicate l.length false).push false) := by
  rw [← Array.replicate_succ]; refine ⟨by simp, fun j oj hj hl => ?_, fun t h1 h2 => ?_⟩
  ·rw [getD_replicate_false] at hl
   cases hl
  ·simp [show t < l.length + 1 from by omega]
 refine wpAny_pop hn hb hs l.length _ a _ (by simp) inv ?_; rw [hpop]; refine wpAny_of_quiet (C := fun w' => ∃ s : Past w, w' = s.val) (Q := fun a' => ∀ w', (∃ s : Past w, w' = s.val) → popQ P (l ++ [o]).toArray Q l.length .normal a' w') (fun _ w' hw' h => h w' hw') _ _ _ _ ⟨⟨{ w with drawn := w.drawn + 1 }, below_drewN 1⟩, rfl⟩ ?_; have := wpAnyQ_lex (P := P) (C := fun w' => ∃ s : Past w, w' = s.val) (md := .any) hB.1 l 0 (Array.replicate l.length false) a (by simp) (by simpa using hB.2) h
 simpa using this
end
theorem wpQuiet_past {P : Program} {ops : Array Oper} {C : World → Prop} {w : World} {G : Act → World → Prop} {a : Act} (h : ∀ w9, Below w.heap.size w w9 → G a w9) : wpQuiet P ops C (fun a' => ∀ w', (∃ s : Past w, w' = s.val) → G a' w') [] a := wpQuiet_nil (fun w' ⟨s, hs⟩ => by subst hs; exact h _ s.h)
theorem ps2 {w : World} {g : Nat} {a0 a1 : Value} {r : List Value} {t : TypeId} (h : Blk w g (a0 :: a1 :: r) t) : (∀ s : Past w, s.val.cell? ⟨g, 0, none⟩ = some a0) ∧ (∀ s : Past w, s.val.cell? ⟨g, 1, none⟩ = some a1) := ⟨Past.blk h (j := 0) rfl, Past.blk h (j := 1) rfl⟩
theorem ps3 {w : World} {g : Nat} {a0 a1 a2 : Value} {r : List Value} {t : TypeId} (h : Blk w g (a0 :: a1 :: a2 :: r) t) : (∀ s : Past w, s.val.cell? ⟨g, 0, none⟩ = some a0) ∧ (∀ s : Past w, s.val.cell? ⟨g, 1, none⟩ = some a1) ∧ (∀ s : Past w, s.val.cell? ⟨g, 2, none⟩ = some a2) := ⟨Past.blk h (j := 0) rfl, Past.blk h (j := 1) rfl, Past.blk h (j := 2) rfl⟩
theorem ps4 {w : World} {g : Nat} {a0 a1 a2 a3 : Value} {r : List Value} {t : TypeId} (h : Blk w g (a0 :: a1 :: a2 :: a3 :: r) t) : (∀ s : Past w, s.val.cell? ⟨g, 0, none⟩ = some a0) ∧ (∀ s : Past w, s.val.cell? ⟨g, 1, none⟩ = some a1) ∧ (∀ s : Past w, s.val.cell? ⟨g, 2, none⟩ = some a2) ∧ (∀ s : Past w, s.val.cell? ⟨g, 3, none⟩ = some a3) := ⟨Past.blk h (j := 0) rfl, Past.blk h (j := 1) rfl, Past.blk h (j := 2) rfl, Past.blk h (j := 3) rfl⟩
theorem ps5 {w : World} {g : Nat} {a0 a1 a2 a3 a4 : Value} {r : List Value} {t : TypeId} (h : Blk w g (a0 :: a1 :: a2 :: a3 :: a4 :: r) t) : (∀ s : Past w, s.val.cell? ⟨g, 0, none⟩ = some a0) ∧ (∀ s : Past w, s.val.cell? ⟨g, 1, none⟩ = some a1) ∧ (∀ s : Past w, s.val.cell? ⟨g, 2, none⟩ = some a2) ∧ (∀ s : Past w, s.val.cell? ⟨g, 3, none⟩ = some a3) ∧ (∀ s : Past w, s.val.cell? ⟨g, 4, none⟩ = some a4) := ⟨Past.blk h (j := 0) rfl, Past.blk h (j := 1) rfl, Past.blk h (j := 2) rfl, Past.blk h (j := 3) rfl, Past.blk h (j := 4) rfl⟩
theorem ps6 {w : World} {g : Nat} {a0 a1 a2 a3 a4 a5 : Value} {r : List Value} {t : TypeId} (h : Blk w g (a0 :: a1 :: a2 :: a3 :: a4 :: a5 :: r) t) : (∀ s : Past w, s.val.cell? ⟨g, 0, none⟩ = some a0) ∧ (∀ s : Past w, s.val.cell? ⟨g, 1, none⟩ = some a1) ∧ (∀ s : Past w, s.val.cell? ⟨g, 2, none⟩ = some a2) ∧ (∀ s : Past w, s.val.cell? ⟨g, 3, none⟩ = some a3) ∧ (∀ s : Past w, s.val.cell? ⟨g, 4, none⟩ = some a4) ∧ (∀ s : Past w, s.val.cell? ⟨g, 5, none⟩ = some a5) := ⟨Past.blk h (j := 0) rfl, Past.blk h (j := 1) rfl, Past.blk h (j := 2) rfl, Past.blk h (j := 3) rfl, Past.blk h (j := 4) rfl, Past.blk h (j := 5) rfl⟩
theorem ps7 {w : World} {g : Nat} {a0 a1 a2 a3 a4 a5 a6 : Value} {r : List Value} {t : TypeId} (h : Blk w g (a0 :: a1 :: a2 :: a3 :: a4 :: a5 :: a6 :: r) t) : (∀ s : Past w, s.val.cell? ⟨g, 0, none⟩ = some a0) ∧ (∀ s : Past w, s.val.cell? ⟨g, 1, none⟩ = some a1) ∧ (∀ s : Past w, s.val.cell? ⟨g, 2, none⟩ = some a2) ∧ (∀ s : Past w, s.val.cell? ⟨g, 3, none⟩ = some a3) ∧ (∀ s : Past w, s.val.cell? ⟨g, 4, none⟩ = some a4) ∧ (∀ s : Past w, s.val.cell? ⟨g, 5, none⟩ = some a5) ∧ (∀ s : Past w, s.val.cell? ⟨g, 6, none⟩ = some a6) := ⟨Past.blk h (j := 0) rfl, Past.blk h (j := 1) rfl, Past.blk h (j := 2) rfl, Past.blk h (j := 3) rfl, Past.blk h (j := 4) rfl, Past.blk h (j := 5) rfl, Past.blk h (j := 6) rfl⟩
theorem ps8 {w : World} {g : Nat} {a0 a1 a2 a3 a4 a5 a6 a7 : Value} {r : List Value} {t : TypeId} (h : Blk w g (a0 :: a1 :: a2 :: a3 :: a4 :: a5 :: a6 :: a7 :: r) t) : (∀ s : Past w, s.val.cell? ⟨g, 0, none⟩ = some a0) ∧ (∀ s : Past w, s.val.cell? ⟨g, 1, none⟩ = some a1) ∧ (∀ s : Past w, s.val.cell? ⟨g, 2, none⟩ = some a2) ∧ (∀ s : Past w, s.val.cell? ⟨g, 3, none⟩ = some a3) ∧ (∀ s : Past w, s.val.cell? ⟨g, 4, none⟩ = some a4) ∧ (∀ s : Past w, s.val.cell? ⟨g, 5, none⟩ = some a5) ∧ (∀ s : Past w, s.val.cell? ⟨g, 6, none⟩ = some a6) ∧ (∀ s : Past w, s.val.cell? ⟨g, 7, none⟩ = some a7) := ⟨Past.blk h (j := 0) rfl, Past.blk h (j := 1) rfl, Past.blk h (j := 2) rfl, Past.blk h (j := 3) rfl, Past.blk h (j := 4) rfl, Past.blk h (j := 5) rfl, Past.blk h (j := 6) rfl, Past.blk h (j := 7) rfl⟩
theorem ps9 {w : World} {g : Nat} {a0 a1 a2 a3 a4 a5 a6 a7 a8 : Value} {r : List Value} {t : TypeId} (h : Blk w g (a0 :: a1 :: a2 :: a3 :: a4 :: a5 :: a6 :: a7 :: a8 :: r) t) : (∀ s : Past w, s.val.cell? ⟨g, 0, none⟩ = some a0) ∧ (∀ s : Past w, s.val.cell? ⟨g, 1, none⟩ = some a1) ∧ (∀ s : Past w, s.val.cell? ⟨g, 2, none⟩ = some a2) ∧ (∀ s : Past w, s.val.cell? ⟨g, 3, none⟩ = some a3) ∧ (∀ s : Past w, s.val.cell? ⟨g, 4, none⟩ = some a4) ∧ (∀ s : Past w, s.val.cell? ⟨g, 5, none⟩ = some a5) ∧ (∀ s : Past w, s.val.cell? ⟨g, 6, none⟩ = some a6) ∧ (∀ s : Past w, s.val.cell? ⟨g, 7, none⟩ = some a7) ∧ (∀ s : Past w, s.val.cell? ⟨g, 8, none⟩ = some a8) := ⟨Past.blk h (j := 0) rfl, Past.blk h (j := 1) rfl, Past.blk h (j := 2) rfl, Past.blk h (j := 3) rfl, Past.blk h (j := 4) rfl, Past.blk h (j := 5) rfl, Past.blk h (j := 6) rfl, Past.blk h (j := 7) rfl, Past.blk h (j := 8) rfl⟩
section
variable {P : Program}
end
