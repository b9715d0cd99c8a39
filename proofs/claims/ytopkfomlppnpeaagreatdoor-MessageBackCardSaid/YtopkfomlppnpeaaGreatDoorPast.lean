/- Past. -/
import Derived.Test.YtopkfomlppnpeaaGreatDoorLib2
import Derived.Test.YtopkfomlppnpeaaGreatDoorPop
import Derived.Deep.QuietTactic
import Derived.BigQuiet
namespace Go.Proofs.YtopkfomlppnpeaaGreatDoor
open Go.RowKit Go

/-- a world behind w, in which nothing that was there has turned -/
structure Past (w : World) where
  val : World
  h : Below w.heap.size w val
instance (w : World) : Nonempty (Past w) := ⟨⟨w, Below.refl _ _⟩⟩
def Past.here (w : World) : Past w := ⟨w, Below.refl _ _⟩
def Past.more {w : World} (s : Past w) {w' : World} (hb : Below s.val.heap.size s.val w') : Past w := ⟨w', below_and s.h hb⟩

theorem Past.cell {w : World} {a : Addr} {v : Value} (h : w.cell? a = some v) : ∀ s : Past w, s.val.cell? a = some v := fun s => cell_kept h s.h
theorem Past.blk {w : World} {g : Nat} {cs : List Value} {t : TypeId} (h : Blk w g cs t) {j : Nat} {u : Value} (hj : cs[j]? = some u) : ∀ s : Past w, s.val.cell? ⟨g, j, none⟩ = some u := fun s => cell_kept (h.cell hj) s.h

section
variable {P : Program}
/-- a call that answers v in the world at hand, and makes memory alone -/
theorem past_call {f : FuncId} {args : Array Value} {w : World} {s : Past w} {v : Value}
    (h : Calls P f args s.val fun e w' => e = .returned v ∧ Below s.val.heap.size s.val w') : Calls P f args s.val fun e w'' => e = .returned v ∧ ∃ s' : Past w, w'' = s'.val :=
  h.mono fun _ _ ⟨he, hb⟩ => ⟨he, s.more hb, rfl⟩
theorem past_call_same {f : FuncId} {args : Array Value} {w : World} {s : Past w} {v : Value}
    (h : Calls P f args s.val fun e w' => e = .returned v ∧ s.val = w') : Calls P f args s.val fun e w'' => e = .returned v ∧ ∃ s' : Past w, w'' = s'.val :=
  h.mono fun _ _ ⟨he, hb⟩ => ⟨he, s, hb.symm⟩

theorem quiet_weaken {ops : Array Oper} {C : World → Prop} {Q Q' : Act → Prop} (h : ∀ a, Q a → Q' a) : ∀ (l : List Oper) (a : Act), wpQuiet P ops C Q l a → wpQuiet P ops C Q' l a
  | [], a, hq => h a hq
  | o :: rest, a, hq => by
    unfold wpQuiet at hq ⊢
    split
    · rename_i hw
      rw [if_pos hw] at hq
      exact Oper.quiet_mono (fun a' h' => quiet_weaken h rest a' h') hq
    · rename_i hw
      rw [if_neg hw] at hq
      exact quiet_weaken h rest _ hq

/-- the region, walked in the order of the text -/
theorem wp_region_past {id : Nat} {Q : Exit → Act → World → Prop} {a : Act} {w : World} {l : List Oper} (hm : P.follows .mixedOrders = true) (hB : Region.lexB .any l.toArray = true)
    (h : wpQuiet P l.toArray (fun w' => ∃ s : Past w, w' = s.val) (fun a' => ∀ w', (∃ s : Past w, w' = s.val) → Q .normal a' w') l a) : (Code.region id l.toArray true).wp P Q a w :=
  wp_region_quiet (C := fun w' => ∃ s : Past w, w' = s.val) hm hB ⟨⟨{ w with drawn := w.drawn + 1 }, below_drewN 1⟩, rfl⟩ (by simpa using h)

/-- the same, its last operation (which none waits for) behind all others -/
theorem wp_region_past_pop {id : Nat} {Q : Exit → Act → World → Prop} {a : Act} {w : World} {l : List Oper} {o : Oper} (hm : P.follows .mixedOrders = true) (hB : Region.lexB .any l.toArray = true) (hp : popB (l ++ [o]).toArray = true)
    (h : wpQuiet P l.toArray (fun w' => ∃ s : Past w, w' = s.val) (fun a' => ∀ w', (∃ s : Past w, w' = s.val) → popQ P (l ++ [o]).toArray Q l.length .normal a' w') l a) : (Code.region id (l ++ [o]).toArray true).wp P Q a w := by
  have hn : (l ++ [o]).toArray.size = l.length + 1 := by simp
  have hpop : (l ++ [o]).toArray.pop = l.toArray := by simp
  unfold popB at hp
  simp only [Bool.and_eq_true, decide_eq_true_eq] at hp
  obtain ⟨⟨hb, hs⟩, -⟩ := hp
  rw [hn, Nat.add_sub_cancel] at hs
  simp only [Region.lexB, Bool.and_eq_true] at hB
  refine wp_region_any hm ?_
  rw [hn, show Array.replicate (l.length + 1) false = (Array.replicate l.length false).push false from by rw [← Array.replicate_succ]]
  have inv : HeadInv .any (l ++ [o]).toArray l.length ((Array.replicate l.length false).push false) := by
    rw [← Array.replicate_succ]
    refine ⟨by simp, fun j oj hj hl => ?_, fun t h1 h2 => ?_⟩
    · rw [getD_replicate_false] at hl
      cases hl
    · simp [show t < l.length + 1 from by omega]
  refine wpAny_pop hn hb hs l.length _ a _ (by simp) inv ?_
  rw [hpop]
  refine wpAny_of_quiet (C := fun w' => ∃ s : Past w, w' = s.val) (Q := fun a' => ∀ w', (∃ s : Past w, w' = s.val) → popQ P (l ++ [o]).toArray Q l.length .normal a' w') (fun _ w' hw' h => h w' hw') _ _ _ _ ⟨⟨{ w with drawn := w.drawn + 1 }, below_drewN 1⟩, rfl⟩ ?_
  have := wpAnyQ_lex (P := P) (C := fun w' => ∃ s : Past w, w' = s.val) (md := .any) hB.1 l 0 (Array.replicate l.length false) a (by simp) (by simpa using hB.2) h
  simpa using this

/-- the same, of a region that is written out; the last operation as a plain walk has it -/
theorem wp_region_past_last {id : Nat} {Q : Exit → Act → World → Prop} {a : Act} {w : World} {L : List Oper} {o : Oper} (hL : L.getLast? = some o) (hm : P.follows .mixedOrders = true) (hB : Region.lexB .any L.dropLast.toArray = true) (hp : popB L.toArray = true)
    (h : wpQuiet P L.dropLast.toArray (fun w' => ∃ s : Past w, w' = s.val) (fun a' => ∀ w', (∃ s : Past w, w' = s.val) → wpList P L.toArray Q [o] a' w') L.dropLast a) : (Code.region id L.toArray true).wp P Q a w := by
  have e : L.dropLast ++ [o] = L := by
    cases hq : L.reverse with
    | nil => rw [List.reverse_eq_nil_iff] at hq; subst hq; cases hL
    | cons c r =>
      have hr : L = r.reverse ++ [c] := by rw [← List.reverse_reverse L, hq, List.reverse_cons]
      rw [hr] at hL ⊢
      simp at hL
      simp [hL]
  have key : (Code.region id (L.dropLast ++ [o]).toArray true).wp P Q a w := by
    refine wp_region_past_pop hm hB (by rw [e]; exact hp) ?_
    rw [e]
    refine quiet_weaken (fun a' h' w' hw' => ?_) _ _ h
    have h2 := h' w' hw'
    have hget : L.toArray[L.dropLast.length]? = some o := by
      have : (L.dropLast ++ [o])[L.dropLast.length]? = some o := by simp
      rw [e] at this
      simpa using this
    show wpOp P L.toArray Q L.dropLast.length (fun a' w' => Q .normal a' w') a' w'
    unfold wpOp
    rw [hget]
    exact h2
  rwa [e] at key
end
end Go.Proofs.YtopkfomlppnpeaaGreatDoor
