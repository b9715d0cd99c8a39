/- Late. -/
import Derived.Test.YtdemkfhkibmbnaaGreatDoorM02
import Derived.Deep.RegionHeld3
namespace Go.Proofs.YtdemkfhkibmbnaaGreatDoor
open Go.RowKit Go
section
variable {P : Program}
def passB (o : Oper) : Bool := match o.op with
 | .extract .. | .move _ | .assign _ => true
 | _ => false
theorem extract_run (v : Value) (k : Nat) (w w' w1 : World) (u : Value) (h : (Instr.extract v k).run P w = .ok u w1) : w1 = w ∧ (Instr.extract v k).run P w' = .ok u w' := by
 cases v with
 | tuple vs =>
  simp only [Instr.extract] at h ⊢
  split at h
  ·next x hx =>
   simp only [Sem.run_pure, Result.ok.injEq] at h; obtain ⟨rfl, rfl⟩ := h; exact ⟨rfl, rfl⟩
  ·next hx => simp [stuck, Sem.run_halt] at h
 | _ => simp [Instr.extract, stuck, Sem.run_halt] at h
theorem pass_yields {o : Oper} {a : Act} {C : World → Prop} {v : Value} {ops : Array Oper} {w : World} (hp : passB o = true) (hw : C w) (h : YieldsIn P ops C o v a) : Yields P ops o v a := by
 rcases h with ⟨h1, h2⟩ | h
 ·refine .inl ⟨h1, fun w' => ?_⟩
  have h3 := h2 w hw
  unfold Oper.quietAt at h3
  unfold passB at hp
  unfold execOp at h3 ⊢
  cases ho : o.op <;> rw [ho] at hp h3 <;> first | (cases hp; done) | skip
  case move x =>
   simp only [Sem.run_pure, Oper.quietUpon] at h3 ⊢; rw [h3.2]
  case assign x =>
   simp only [Sem.run_pure, Oper.quietUpon] at h3 ⊢; rw [h3.2]
  case extract t k =>
   simp only [Sem.run_bind] at h3 ⊢
   cases hr : (Instr.extract (a.eval t) k).run P w with
   | ok u w1 =>
    obtain ⟨rfl, hr2⟩ := extract_run _ _ _ w' _ _ hr; rw [hr] at h3; rw [hr2]; simp only [Result.andThen_ok, Sem.run_pure, Oper.quietUpon] at h3 ⊢; rw [h3.2]
   | halt x w1 =>
    rw [hr] at h3
    simp [Result.andThen, Oper.quietUpon] at h3
 ·exact .inr h
def late0 (ops : Array Oper) (n : Nat) : Array Bool := ((List.range ops.size).map fun i => decide (i < n) && Region.waitsFor .any ops n i).toArray
def lateB (ops : Array Oper) (n : Nat) : Bool := (List.range n).all fun i => match ops[i]? with
 | some o => Region.waitsFor .any ops n i || (passB o && Region.free .any ops (late0 ops n) i)
 | none => false
theorem late0_false {ops : Array Oper} {n k : Nat} (hk : k < ops.size) (h : ¬ (k < n ∧ Region.waitsFor .any ops n k = true)) : (late0 ops n).getD k true = false := by
 unfold late0
 have h1 : (decide (k < n) && Region.waitsFor .any ops n k) = false := by
  rw [Bool.eq_false_iff]; intro h2; simp only [Bool.and_eq_true, decide_eq_true_eq] at h2; exact h h2
 simp [hk, h1]
theorem qOp_pop {ops : Array Oper} {C : World → Prop} {n i : Nat} {K : Act → Prop} {a : Act} (hn : ops.size = n + 1) (hb : backB ops = true) (hi : i < n) (h : qOp P ops.pop C i K a) : qOp P ops C i K a := by
 have hpop : ∀ j, j < n → ops.pop[j]? = ops[j]? := fun j hj => by rw [Array.getElem?_pop, if_pos (by omega)]
 unfold qOp at *
 rw [hpop i hi] at h
 cases ho : ops[i]? with
 | none => simp only [ho] at h ⊢; exact h
 | some o =>
  simp only [ho] at h ⊢; have hg := (backB_spec hb ho).2
  have hw : Region.wanted o (yielded ops.pop a.tmps) = Region.wanted o (yielded ops a.tmps) := by
   unfold Region.wanted
   cases hgu : o.guard with
   | none => rfl
   | some x =>
    obtain ⟨g, b⟩ := x; have := hg g b hgu
    simp only
    unfold yielded
    rw [hpop g (by omega)]
  rw [hw] at h; exact h
theorem wpAny_late {ops : Array Oper} {C : World → Prop} {Q : Exit → Act → World → Prop} {Qq : Act → Prop} {n : Nat} (hn : ops.size = n + 1) (hb : backB ops = true) (hl : lateB ops n = true) (hsel : Region.noSelect ops = true)
  (hQ : ∀ c a d v w, Q (.panic c) (Act.put a d v) w → Q (.panic c) a w) (hq : ∀ a w, C w → Qq a → wpOp P ops Q n (fun a' w' => Q .normal a' w') a w) :
  ∀ (fuel : Nat) (listed : Array Bool) (a : Act) (w : World), C w → listed.size = n → wpAnyQ P .any ops.pop C Qq fuel listed a → wpAny P .any ops Q (fuel + 1) (listed.push false) a w := by
 have hpop : ∀ j, j < n → ops.pop[j]? = ops[j]? := fun j hj => by rw [Array.getElem?_pop, if_pos (by omega)]
 obtain ⟨on, hon⟩ : ∃ on, ops[n]? = some on := ⟨ops[n], Array.getElem?_eq_getElem (by omega)⟩
 have hready : ∀ (listed : Array Bool), listed.size = n → ∀ i, i < n → (i ∈ Region.ready .any ops (listed.push false) ↔ i ∈ Region.ready .any ops.pop listed) := fun listed hl i hi => by
  rw [mem_ready, mem_ready, getD_push (by omega), hpop i hi]
  refine and_congr_right fun _ => ⟨fun ⟨o, ho, h⟩ => ⟨o, ho, fun e he hbe => ?_⟩, fun ⟨o, ho, h⟩ => ⟨o, ho, fun e he hbe => ?_⟩⟩
  ·have h1 := h e he hbe
   have h2 := (backB_spec hb ho).1 e he hbe
   rwa [getD_push (by omega)] at h1
  ·have h1 := h e he hbe
   have h2 := (backB_spec hb ho).1 e he hbe
   rwa [getD_push (by omega)]
 have hsome : ∀ (listed : Array Bool), listed.size = n → (∃ j, j < n ∧ listed.getD j true = false) → Region.ready .any ops.pop listed ≠ [] := fun listed hl hex => by
  obtain ⟨j, hj, hmin⟩ : ∃ j, (j < n ∧ listed.getD j true = false) ∧ ∀ k, k < j → ¬ (k < n ∧ listed.getD k true = false) := by
   obtain ⟨j0, hj0⟩ := hex
   induction j0 using Nat.strongRecOn with
   | _ j0 ih =>
    by_cases h : ∃ k, k < j0 ∧ (k < n ∧ listed.getD k true = false)
    ·obtain ⟨k, hk, hk2⟩ := h
     exact ih k hk hk2
    ·exact ⟨j0, hj0, fun k hk hk2 => h ⟨k, hk, hk2⟩⟩
  obtain ⟨hjn, hjl⟩ := hj; obtain ⟨o, ho⟩ : ∃ o, ops[j]? = some o := ⟨ops[j], Array.getElem?_eq_getElem (by omega)⟩; intro he
  have : j ∈ Region.ready .any ops.pop listed := by
   rw [mem_ready, hpop j hjn]; refine ⟨hjl, o, ho, fun e hee hbe => ?_⟩; have h2 := (backB_spec hb ho).1 e hee hbe; have h3 := hmin e.on h2; have h4 : e.on < listed.size := by omega
   have h5 : ¬ listed.getD e.on true = false := fun h => h3 ⟨by omega, h⟩
   simp [h4] at h5 ⊢
   exact h5
  rw [he] at this; cases this
 -- all have come up: the last one
 have hlast : ∀ (fuel : Nat) (listed : Array Bool) (a : Act) (w : World), C w → listed.size = n → (¬ ∃ j, j < n ∧ listed.getD j true = false) → Qq a → wpAny P .any ops Q (fuel + 1) (listed.push false) a w := fun fuel listed a w hw hl hex hqa => by
  have hall : ∀ j, j < n → listed.getD j true = true := fun j hj => by
   cases h : listed.getD j true
   ·exact absurd ⟨j, hj, h⟩ hex
   ·rfl
  have hnr : n ∈ Region.ready .any ops (listed.push false) := by
   rw [mem_ready]; refine ⟨by rw [← hl]; simp, on, hon, fun e he hbe => ?_⟩; have h2 := (backB_spec hb hon).1 e he hbe; have h3 := hall e.on h2; have h4 : e.on < listed.size := by omega
   rw [getD_push h4]
   simp [h4] at h3 ⊢
   exact h3
  refine ⟨fun h => (by rw [h] at hnr; cases hnr), fun i hi => ?_⟩
  have hin : i < n + 1 := by
   obtain ⟨-, o, ho, -⟩ := mem_ready.1 hi; have := (Array.getElem?_eq_some_iff.1 ho).1
   omega
  by_cases hi2 : i < n
  ·have h5 := (mem_ready.1 hi).1
   rw [getD_push (by omega), hall i hi2] at h5; cases h5
  ·obtain rfl : i = n := by omega
   refine wpOp_mono (fun a' w' h' => wpAny_done ?_ h' _) (hq a w hw hqa); rw [List.eq_nil_iff_forall_not_mem]; intro k hk; obtain ⟨h6, o, ho, -⟩ := mem_ready.1 hk; have hk2 := (Array.getElem?_eq_some_iff.1 ho).1
   by_cases hki : k = i
   ·subst hki
    simp [hl] at h6
   ·have h7 : k < listed.size := by omega
    have h8 := hall k (by omega); rw [getD_set_ne true (Ne.symm hki), getD_push h7, h8] at h6; cases h6
 have hnil : ∀ (listed : Array Bool), (¬ ∃ j, j < n ∧ listed.getD j true = false) → Region.ready .any ops.pop listed = [] := fun listed hex => by
  rw [List.eq_nil_iff_forall_not_mem]; intro k hk; obtain ⟨h6, o, ho, -⟩ := mem_ready.1 hk; have hk2 := (Array.getElem?_eq_some_iff.1 ho).1; exact hex ⟨k, by simp at hk2; omega, h6⟩
 intro fuel
 induction fuel with
 | zero =>
  intro listed a w hw hl' H; refine hlast 0 listed a w hw hl' (fun hex => hsome listed hl' hex H.1) H.2
 | succ fuel ih =>
  intro listed a w hw hl' H
  by_cases hex : ∃ j, j < n ∧ listed.getD j true = false
  ·have hne := hsome listed hl' hex
   have hset : ∀ i, i < n → (listed.push false).setIfInBounds i true = (listed.setIfInBounds i true).push false := fun i hin => by
    apply Array.ext_getElem?
    intro k; simp only [Array.getElem?_setIfInBounds, Array.getElem?_push, Array.size_setIfInBounds, Array.size_push]
    by_cases hki : i = k
    ·subst hki
     simp [hl', hin, Nat.ne_of_lt hin, Nat.lt_succ_of_lt hin]
    ·simp [hki]
   by_cases hnr : n ∈ Region.ready .any ops (listed.push false)
   ·obtain ⟨j, hj⟩ := List.exists_mem_of_ne_nil _ hne
    have hjn : j < n := by
     obtain ⟨-, o, ho, -⟩ := mem_ready.1 hj; have := (Array.getElem?_eq_some_iff.1 ho).1
     simp at this; omega
    obtain ⟨oj, hoj⟩ : ∃ o, ops[j]? = some o := ⟨ops[j], Array.getElem?_eq_getElem (by omega)⟩; have hjl := (mem_ready.1 hj).1; have h1 := List.all_eq_true.1 hl j (List.mem_range.2 hjn); simp only [hoj, Bool.or_eq_true, Bool.and_eq_true] at h1
    have hwait : ∀ j, j < n → listed.getD j true = false → ¬ Region.waitsFor .any ops n j = true := fun j hjn hjl h1 => by
     obtain ⟨o', ho', e, he, hbe, hon'⟩ := Region.waitsFor_spec h1; obtain ⟨-, o2, ho2, h2⟩ := mem_ready.1 hnr; have : o' = o2 := Option.some.inj (ho'.symm.trans ho2); subst this; have h3 := h2 e he hbe; rw [hon', getD_push (by omega)] at h3; have h4 : j < listed.size := by omega
     simp [h4] at h3 hjl
     rw [hjl] at h3; cases h3
    rcases h1 with h1 | ⟨hp, hf⟩
    ·exact absurd h1 (hwait j hjn hjl)
    ·have h2 := qOp_pop hn hb hjn (H.2 j hj)
     obtain ⟨v, hy, hK⟩ := yieldsIn_of_qOp hoj h2; have hY := pass_yields (ops := ops) hp hw hy; have h3 := ih (listed.setIfInBounds j true) (a.put oj.dst v) w hw (by simp [hl']) hK; rw [← hset j hjn] at h3; refine wpAny_first hoj (Region.noSelect_spec hsel) (fun c a w => hQ c a _ _ w) _ _ a w (fun k ok hk hkj hun hno => ?_) ((hready listed hl' j hjn).2 hj) hY h3; have hks := (Array.getElem?_eq_some_iff.1 hk).1; refine Region.free_spec hoj hf k ok hk hkj (late0_false hks fun ⟨h4, h5⟩ => ?_) hno; rw [getD_push (by omega)] at hun; exact hwait k h4 hun h5
   ·refine ⟨fun h => absurd h ?_, fun i hi => ?_⟩
    ·obtain ⟨k, hk⟩ := List.exists_mem_of_ne_nil _ hne
     have hkn : k < n := by
      obtain ⟨-, o, ho, -⟩ := mem_ready.1 hk; have := (Array.getElem?_eq_some_iff.1 ho).1
      simp at this; omega
     intro h0; have := (hready listed hl' k hkn).2 hk; rw [h0] at this; cases this
    ·have hin2 : i < n + 1 := by
      obtain ⟨-, o, ho, -⟩ := mem_ready.1 hi; have := (Array.getElem?_eq_some_iff.1 ho).1
      omega
     have hin : i < n := by
      rcases Nat.lt_or_ge i n with h | h
      ·exact h
      ·obtain rfl : i = n := by omega
       exact absurd hi hnr
     have hi' := (hready listed hl' i hin).1 hi; rw [hset i hin]; exact wpOp_of_qOp hw (fun a' w' hw' h' => ih _ a' w' hw' (by simp [hl']) h') (qOp_pop hn hb hin (H.2 i hi'))
  ·exact hlast _ listed a w hw hl' hex (H.1 (hnil listed hex))
def cut1 : List Oper → Option (List Oper × Oper)
 | [] => none
 | [x] => some ([], x)
 | x :: l => (cut1 l).map fun (m, a) => (x :: m, a)
theorem cut1_spec : ∀ {L M : List Oper} {o : Oper}, cut1 L = some (M, o) → L = M ++ [o]
 | [], _, _, h => by cases h
 | [x], _, _, h => by cases h; rfl
 | x :: y :: l, M, o, h => by
  have h' : (cut1 (y :: l)).map (fun (m, a) => (x :: m, a)) = some (M, o) := h
  cases hc : cut1 (y :: l) with
  | none => rw [hc] at h'; cases h'
  | some r =>
   obtain ⟨m, a⟩ := r; rw [hc] at h'; cases h'; rw [cut1_spec hc]
   rfl
theorem wp_region_past_one {id : Nat} {Q : Exit → Act → World → Prop} {a : Act} {w : World} {L M : List Oper} {o : Oper} (hL : cut1 L = some (M, o)) (hm : P.follows .mixedOrders = true) (hB : Region.lexB .any M.toArray = true) (hp : popB L.toArray = true)
  (h : wpQuiet P M.toArray (fun w' => ∃ s : Past w, w' = s.val) (fun a' => ∀ w', (∃ s : Past w, w' = s.val) → wpList P L.toArray Q [o] a' w') M a) : (Code.region id L.toArray true).wp P Q a w := by
 have hL' := cut1_spec hL; subst hL'; refine wp_region_past_pop hm hB hp ?_; refine quiet_weaken (fun a' h' w' hw' => ?_) _ _ h; have g1 : (M ++ [o]).toArray[M.length]? = some o := by simp
 show wpOp P (M ++ [o]).toArray Q M.length (fun a' w' => Q .normal a' w') a' w'
 unfold wpOp
 rw [g1]; exact h' w' hw'
end
