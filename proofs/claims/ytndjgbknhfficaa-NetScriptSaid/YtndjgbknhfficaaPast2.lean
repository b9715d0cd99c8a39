/- Past2. -/
import Derived.Test.YtndjgbknhfficaaPast
namespace Go.Proofs.Ytndjgbknhfficaa
open Go.RowKit Go

section
variable {P : Program}
theorem upon_unpop {o : Oper} {a : Act} {K : Act → World → Prop} {ops : Array Oper} {Q : Exit → Act → World → Prop} {n : Nat} (r : Result Next) (h : o.upon P a K Q r) : o.upon P a K (popQ P ops Q n) r := by
  have hl : LetsOut Q → LetsOut (popQ P ops Q n) := fun ⟨a, w, h⟩ => ⟨a, w, h⟩
  cases r with
  | ok nx w' =>
    cases nx <;> simp only [Oper.upon] at h ⊢ <;>
      first
        | exact h
        | exact Calls.mono h (fun e w'' he => by cases e <;> first | exact he | exact hl he)
  | halt x w' => cases x <;> simp only [Oper.upon] at h ⊢ <;> exact h
theorem wpOp_unpop {ops : Array Oper} {Q : Exit → Act → World → Prop} {n i : Nat} {K : Act → World → Prop} {a : Act} {w : World} (hn : ops.size = n + 1) (hb : backB ops = true) (hi : i < n) (h : wpOp P ops Q i K a w) : wpOp P ops.pop (popQ P ops Q n) i K a w := by
  have hpop : ∀ j, j < n → ops.pop[j]? = ops[j]? := fun j hj => by rw [Array.getElem?_pop, if_pos (by omega)]
  unfold wpOp at *
  rw [hpop i hi]
  cases ho : ops[i]? with
  | none => simp only [ho] at h ⊢; exact h
  | some o =>
    simp only [ho] at h ⊢
    have hg := (backB_spec hb ho).2
    have hw : Region.wanted o (yielded ops.pop a.tmps) = Region.wanted o (yielded ops a.tmps) := by
      unfold Region.wanted
      cases hgu : o.guard with
      | none => rfl
      | some x =>
        obtain ⟨g, b⟩ := x
        have := hg g b hgu
        simp only
        unfold yielded
        rw [hpop g (by omega)]
    rw [hw]
    by_cases hwt : Region.wanted o (yielded ops a.tmps) = true
    · rw [if_pos hwt] at h ⊢
      rcases h with h | ⟨h1, ⟨a', w', h2⟩⟩
      · exact .inl (upon_unpop _ h)
      · exact .inr ⟨h1, ⟨a', w', h2⟩⟩
    · rw [if_neg hwt] at h ⊢
      exact h

/-- the region, its last two operations behind all others -/
theorem wp_region_past_pop2 {id : Nat} {Q : Exit → Act → World → Prop} {a : Act} {w : World} {l : List Oper} {o1 o2 : Oper} (hm : P.follows .mixedOrders = true) (hB : Region.lexB .any l.toArray = true) (hp : popB (l ++ [o1] ++ [o2]).toArray = true) (hp1 : popB (l ++ [o1]).toArray = true)
    (h : wpQuiet P l.toArray (fun w' => ∃ s : Past w, w' = s.val) (fun a' => ∀ w', (∃ s : Past w, w' = s.val) → wpOp P (l ++ [o1] ++ [o2]).toArray Q l.length (fun a2 w2 => wpOp P (l ++ [o1] ++ [o2]).toArray Q (l.length + 1) (fun a3 w3 => Q .normal a3 w3) a2 w2) a' w') l a) : (Code.region id (l ++ [o1] ++ [o2]).toArray true).wp P Q a w := by
  have hn : (l ++ [o1] ++ [o2]).toArray.size = (l.length + 1) + 1 := by simp
  have hn1 : (l ++ [o1]).toArray.size = l.length + 1 := by simp
  have hpop : (l ++ [o1] ++ [o2]).toArray.pop = (l ++ [o1]).toArray := by simp
  have hpop1 : (l ++ [o1]).toArray.pop = l.toArray := by simp
  unfold popB at hp hp1
  simp only [Bool.and_eq_true, decide_eq_true_eq] at hp hp1
  obtain ⟨⟨hb, hs⟩, -⟩ := hp
  obtain ⟨⟨hb1, hs1⟩, -⟩ := hp1
  rw [hn, Nat.add_sub_cancel] at hs
  rw [hn1, Nat.add_sub_cancel] at hs1
  simp only [Region.lexB, Bool.and_eq_true] at hB
  refine wp_region_any hm ?_
  rw [hn, show Array.replicate (l.length + 1 + 1) false = (Array.replicate (l.length + 1) false).push false from by rw [← Array.replicate_succ]]
  have mk : ∀ (L : List Oper) (k : Nat), L.toArray.size = k + 1 → HeadInv .any L.toArray k ((Array.replicate k false).push false) := fun L k hk => by
    rw [← Array.replicate_succ]
    refine ⟨by rw [hk]; simp, fun j oj hj hl => ?_, fun t h1 h2 => ?_⟩
    · rw [getD_replicate_false] at hl
      cases hl
    · simp [show t < k + 1 from by omega]
  refine wpAny_pop hn hb hs (l.length + 1) _ a _ (by simp) (mk _ _ hn) ?_
  rw [hpop, show Array.replicate (l.length + 1) false = (Array.replicate l.length false).push false from by rw [← Array.replicate_succ]]
  refine wpAny_pop hn1 hb1 hs1 l.length _ a _ (by simp) (mk _ _ hn1) ?_
  rw [hpop1]
  refine wpAny_of_quiet (C := fun w' => ∃ s : Past w, w' = s.val) (Q := fun a' => ∀ w', (∃ s : Past w, w' = s.val) → popQ P (l ++ [o1]).toArray (popQ P (l ++ [o1] ++ [o2]).toArray Q (l.length + 1)) l.length .normal a' w') (fun _ w' hw' h => h w' hw') _ _ _ _ ⟨⟨{ w with drawn := w.drawn + 1 }, below_drewN 1⟩, rfl⟩ ?_
  have h9 : wpQuiet P l.toArray (fun w' => ∃ s : Past w, w' = s.val) (fun a' => ∀ w', (∃ s : Past w, w' = s.val) → popQ P (l ++ [o1]).toArray (popQ P (l ++ [o1] ++ [o2]).toArray Q (l.length + 1)) l.length .normal a' w') l a := quiet_weaken (fun a' h' w' hw' => by
    have h2 := wpOp_unpop hn hb (by omega) (h' w' hw')
    rw [hpop] at h2
    exact h2) _ _ h
  have := wpAnyQ_lex (P := P) (C := fun w' => ∃ s : Past w, w' = s.val) (md := .any) hB.1 l 0 (Array.replicate l.length false) a (by simp) (by simpa using hB.2) h9
  exact this

/-- the same, of a region that is written out -/
theorem wp_region_past_last2 {id : Nat} {Q : Exit → Act → World → Prop} {a : Act} {w : World} {L M : List Oper} {o1 o2 : Oper} (hL : L = M ++ [o1] ++ [o2]) (hm : P.follows .mixedOrders = true) (hB : Region.lexB .any M.toArray = true) (hp : popB L.toArray = true) (hp1 : popB (M ++ [o1]).toArray = true)
    (h : wpQuiet P M.toArray (fun w' => ∃ s : Past w, w' = s.val) (fun a' => ∀ w', (∃ s : Past w, w' = s.val) → wpList P L.toArray Q [o1, o2] a' w') M a) : (Code.region id L.toArray true).wp P Q a w := by
  subst hL
  refine wp_region_past_pop2 hm hB hp hp1 ?_
  refine quiet_weaken (fun a' h' w' hw' => ?_) _ _ h
  have h2 := h' w' hw'
  have g1 : (M ++ [o1] ++ [o2]).toArray[M.length]? = some o1 := by simp
  have g2 : (M ++ [o1] ++ [o2]).toArray[M.length + 1]? = some o2 := by simp
  unfold wpOp
  rw [g1, g2]
  exact h2
/-- its front, its last but one, its last -/
def cut2 : List Oper → Option (List Oper × Oper × Oper)
  | [] => none
  | [_] => none
  | [x, y] => some ([], x, y)
  | x :: l => (cut2 l).map fun (m, a, b) => (x :: m, a, b)
theorem cut2_spec : ∀ {L M : List Oper} {o1 o2 : Oper}, cut2 L = some (M, o1, o2) → L = M ++ [o1] ++ [o2]
  | [], _, _, _, h => by cases h
  | [_], _, _, _, h => by cases h
  | [x, y], _, _, _, h => by cases h; rfl
  | x :: y :: z :: l, M, o1, o2, h => by
    have h' : (cut2 (y :: z :: l)).map (fun (m, a, b) => (x :: m, a, b)) = some (M, o1, o2) := h
    cases hc : cut2 (y :: z :: l) with
    | none => rw [hc] at h'; cases h'
    | some r =>
      obtain ⟨m, a, b⟩ := r
      rw [hc] at h'
      cases h'
      rw [cut2_spec hc]
      rfl
theorem wp_region_past_two {id : Nat} {Q : Exit → Act → World → Prop} {a : Act} {w : World} {L M : List Oper} {o1 o2 : Oper} (hL : cut2 L = some (M, o1, o2)) (hm : P.follows .mixedOrders = true) (hB : Region.lexB .any M.toArray = true) (hp : popB L.toArray = true) (hp1 : popB (M ++ [o1]).toArray = true)
    (h : wpQuiet P M.toArray (fun w' => ∃ s : Past w, w' = s.val) (fun a' => ∀ w', (∃ s : Past w, w' = s.val) → wpList P L.toArray Q [o1, o2] a' w') M a) : (Code.region id L.toArray true).wp P Q a w :=
  wp_region_past_last2 (cut2_spec hL) hm hB hp hp1 h
end
end Go.Proofs.Ytndjgbknhfficaa
