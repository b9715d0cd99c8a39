/- Lin. -/
import Derived.Test.YtndjgbknhfficaaLate
namespace Go.Proofs.Ytndjgbknhfficaa
open Go.RowKit Go

/-- Q, but False at every way out -/
def Strict (Q : Exit → Act → World → Prop) : Exit → Act → World → Prop
  | .normal, a, w => Q .normal a w
  | _, _, _ => False
theorem Strict.normal {Q : Exit → Act → World → Prop} {a : Act} {w : World} (h : Q .normal a w) : Strict Q .normal a w := h
theorem Strict.imp {Q : Exit → Act → World → Prop} : ∀ (e : Exit) (a : Act) (w : World), Strict Q e a w → Q e a w := fun e a w h => by
  cases e <;> first | exact h | exact (h : False).elim
theorem Strict.noOut {Q : Exit → Act → World → Prop} : ¬ LetsOut (Strict Q) := fun ⟨_, _, h⟩ => h

section
variable {P : Program}
theorem pass_of_wp {o : Oper} {a : Act} {w : World} {K : Act → World → Prop} {Q : Exit → Act → World → Prop} (hp : passB o = true) (h : o.wp P a w K (Strict Q)) :
    ∃ v, (∀ w', (execOp a.eval o).run P w' = .ok (.value v) w') ∧ K (a.put o.dst v) w := by
  unfold passB at hp
  unfold Oper.wp execOp at h
  unfold execOp
  cases ho : o.op <;> rw [ho] at hp h <;> first | (cases hp; done) | skip
  case move x =>
    simp only [Sem.run_pure, Oper.upon] at h ⊢
    exact ⟨_, fun _ => rfl, h⟩
  case assign x =>
    simp only [Sem.run_pure, Oper.upon] at h ⊢
    exact ⟨_, fun _ => rfl, h⟩
  case extract t k =>
    simp only [Sem.run_bind] at h ⊢
    cases hr : (Instr.extract (a.eval t) k).run P w with
    | ok u w1 =>
      rw [hr] at h
      simp only [Result.andThen_ok, Sem.run_pure, Oper.upon] at h
      refine ⟨u, fun w' => ?_, ?_⟩
      · rw [(extract_run _ _ _ w' _ _ hr).2]
        rfl
      · rw [(extract_run _ _ _ w _ _ hr).1] at h
        exact h
    | halt x w1 =>
      rw [hr] at h
      exfalso
      cases x <;> simp [Result.andThen, Oper.upon, Strict] at h

/-- in this order each operation comes up alone, or only passes a value on and is apart from the others -/
def linB (ops : Array Oper) : List Nat → Array Bool → Bool
  | [], listed => (Region.ready .any ops listed).isEmpty
  | k :: r, listed => (decide (Region.ready .any ops listed = [k]) || ((Region.ready .any ops listed).contains k && Region.free .any ops listed k && (match ops[k]? with | some o => passB o | none => false))) && linB ops r (listed.setIfInBounds k true)
def pickOps (ops : Array Oper) : List Nat → Option (List Oper)
  | [] => some []
  | k :: r => match ops[k]?, pickOps ops r with
    | some o, some l => some (o :: l)
    | _, _ => none
theorem wpAny_lin {ops : Array Oper} {Q : Exit → Act → World → Prop} (hsel : Region.noSelect ops = true) : ∀ (ord : List Nat) (l : List Oper) (listed : Array Bool) (a : Act) (w : World), pickOps ops ord = some l → linB ops ord listed = true → wpList P ops (Strict Q) l a w → wpAny P .any ops (Strict Q) ord.length listed a w
  | [], l, listed, a, w, hp, hB, h => by
    simp only [pickOps, Option.some.injEq] at hp
    subst hp
    exact ⟨by simpa [linB] using hB, h⟩
  | k :: r, l, listed, a, w, hp, hB, h => by
    simp only [pickOps] at hp
    split at hp
    · next o l' ho hl' =>
      simp only [Option.some.injEq] at hp
      subst hp
      simp only [linB, Bool.and_eq_true, Bool.or_eq_true, decide_eq_true_eq] at hB
      obtain ⟨hk, hB'⟩ := hB
      have ih := fun a' w' => wpAny_lin (Q := Q) hsel r l' (listed.setIfInBounds k true) a' w' hl' hB'
      rcases hk with hk | ⟨⟨hr, hf⟩, hpass⟩
      · refine ⟨fun h0 => (by rw [hk] at h0; cases h0), fun i hi => ?_⟩
        rw [hk] at hi
        have hik : i = k := by simpa using hi
        subst hik
        refine wpOp_mono (fun a' w' h' => ih a' w' h') ?_
        unfold wpOp
        rw [ho]
        exact h
      · rw [ho] at hpass
        have hY : ∃ v, Yields P ops o v a ∧ wpList P ops (Strict Q) l' (a.put o.dst v) w := by
          unfold wpList at h
          by_cases hw : Region.wanted o (yielded ops a.tmps) = true
          · rw [if_pos hw] at h
            rcases h with h | ⟨-, h⟩
            · obtain ⟨v, h1, h2⟩ := pass_of_wp hpass h
              exact ⟨v, .inl ⟨hw, h1⟩, h2⟩
            · exact absurd h Strict.noOut
          · rw [if_neg hw] at h
            exact ⟨undef, .inr ⟨by simpa using hw, rfl⟩, h⟩
        obtain ⟨v, hy, hK⟩ := hY
        exact wpAny_first ho (Region.noSelect_spec hsel) (fun _ _ _ h => h.elim) _ listed a w (Region.free_spec ho hf) (by simpa using hr) hy (ih _ _ hK)
    · cases hp

/-- the region as one that draws no order -/
theorem wp_region_lin {id : Nat} {Q : Exit → Act → World → Prop} {a : Act} {w : World} {L : Array Oper} {l : List Oper} (ord : List Nat) (hm : P.follows .mixedOrders = true) (hs : Region.noSelect L = true) (hn : ord.length = L.size) (hB : linB L ord (Array.replicate L.size false) = true) (hl : pickOps L ord = some l)
    (h : wpList P L (Strict Q) l a w.drew) : (Code.region id L true).wp P Q a w := by
  refine Code.wp_mono Strict.imp (wp_region_any hm ?_)
  rw [← hn]
  have := wpAny_lin (Q := Q) hs ord l (Array.replicate L.size false) a w.drew hl hB h
  rw [← hn] at this
  exact this

/-! A stretch of operations that are not wanted, in between. -/
theorem upon_strict {X Y : Exit → Act → World → Prop} {o : Oper} {a : Act} {K : Act → World → Prop} (r : Result Next) (h : o.upon P a K (Strict X) r) : o.upon P a K (Strict Y) r := by
  have hl : LetsOut (Strict X) → LetsOut (Strict Y) := fun h => absurd h Strict.noOut
  cases r with
  | ok nx w' =>
    cases nx <;> simp only [Oper.upon] at h ⊢ <;>
      first
        | exact h
        | exact Calls.mono h (fun e w'' he => by cases e <;> first | exact he | exact hl he)
  | halt x w' => cases x <;> simp only [Oper.upon] at h ⊢ <;> exact h
theorem wpOp_strict {ops : Array Oper} {X Y : Exit → Act → World → Prop} {i : Nat} {K : Act → World → Prop} {a : Act} {w : World} (h : wpOp P ops (Strict X) i K a w) : wpOp P ops (Strict Y) i K a w := by
  unfold wpOp at *
  split
  · next ho => rw [ho] at h; exact h
  · next o ho =>
    rw [ho] at h
    simp only at h
    split
    · next hw =>
      rw [if_pos hw] at h
      exact h.imp (upon_strict _) (fun ⟨h1, h2⟩ => ⟨h1, absurd h2 Strict.noOut⟩)
    · next hw => rw [if_neg hw] at h; exact h
/-- the list of what has come up behind such a walk -/
def linS (ops : Array Oper) : List Nat → Array Bool → Option (Array Bool)
  | [], listed => some listed
  | k :: r, listed => if (decide (Region.ready .any ops listed = [k]) || ((Region.ready .any ops listed).contains k && Region.free .any ops listed k && (match ops[k]? with | some o => passB o | none => false))) = true then linS ops r (listed.setIfInBounds k true) else none
def deadS (ops : Array Oper) : List Nat → Array Bool → Option (Array Bool)
  | [], listed => some listed
  | k :: r, listed => if ((Region.ready .any ops listed).contains k && Region.free .any ops listed k) = true then deadS ops r (listed.setIfInBounds k true) else none
def wpDead (ops : Array Oper) (K : Act → World → Prop) : List Oper → Act → World → Prop
  | [], a, w => K a w
  | o :: r, a, w => Region.wanted o (yielded ops a.tmps) = false ∧ wpDead ops K r (a.put o.dst undef) w
theorem wpAny_linS {ops : Array Oper} {Q X : Exit → Act → World → Prop} {g : Nat} {fin : Array Bool} (hsel : Region.noSelect ops = true) (hK : ∀ a w, X .normal a w → wpAny P .any ops (Strict Q) g fin a w) :
    ∀ (ord : List Nat) (l : List Oper) (listed : Array Bool) (a : Act) (w : World), pickOps ops ord = some l → linS ops ord listed = some fin → wpList P ops (Strict X) l a w → wpAny P .any ops (Strict Q) (ord.length + g) listed a w
  | [], l, listed, a, w, hp, hB, h => by
    simp only [pickOps, Option.some.injEq] at hp
    simp only [linS, Option.some.injEq] at hB
    subst hp hB
    rw [List.length_nil, Nat.zero_add]
    exact hK a w h
  | k :: r, l, listed, a, w, hp, hB, h => by
    simp only [pickOps] at hp
    split at hp
    · next o l' ho hl' =>
      simp only [Option.some.injEq] at hp
      subst hp
      simp only [linS, ho] at hB
      split at hB
      · next hk =>
        simp only [Bool.and_eq_true, Bool.or_eq_true, decide_eq_true_eq] at hk
        have ih := fun a' w' => wpAny_linS (Q := Q) hsel hK r l' (listed.setIfInBounds k true) a' w' hl' hB
        rw [show (k :: r).length + g = (r.length + g) + 1 from by simp; omega]
        rcases hk with hk | ⟨⟨hr, hf⟩, hpass⟩
        · refine ⟨fun h0 => (by rw [hk] at h0; cases h0), fun i hi => ?_⟩
          rw [hk] at hi
          have hik : i = k := by simpa using hi
          subst hik
          refine wpOp_mono (fun a' w' h' => ih a' w' h') (wpOp_strict (X := X) ?_)
          unfold wpOp
          rw [ho]
          exact h
        · have hY : ∃ v, Yields P ops o v a ∧ wpList P ops (Strict X) l' (a.put o.dst v) w := by
            unfold wpList at h
            by_cases hw : Region.wanted o (yielded ops a.tmps) = true
            · rw [if_pos hw] at h
              rcases h with h | ⟨-, h⟩
              · obtain ⟨v, h1, h2⟩ := pass_of_wp hpass h
                exact ⟨v, .inl ⟨hw, h1⟩, h2⟩
              · exact absurd h Strict.noOut
            · rw [if_neg hw] at h
              exact ⟨undef, .inr ⟨by simpa using hw, rfl⟩, h⟩
          obtain ⟨v, hy, hK'⟩ := hY
          exact wpAny_first ho (Region.noSelect_spec hsel) (fun _ _ _ h => h.elim) _ listed a w (Region.free_spec ho hf) (by simpa using hr) hy (ih _ _ hK')
      · cases hB
    · cases hp
theorem wpAny_deadS {ops : Array Oper} {Q : Exit → Act → World → Prop} {K : Act → World → Prop} {g : Nat} {fin : Array Bool} (hsel : Region.noSelect ops = true) (hK : ∀ a w, K a w → wpAny P .any ops (Strict Q) g fin a w) :
    ∀ (ord : List Nat) (l : List Oper) (listed : Array Bool) (a : Act) (w : World), pickOps ops ord = some l → deadS ops ord listed = some fin → wpDead ops K l a w → wpAny P .any ops (Strict Q) (ord.length + g) listed a w
  | [], l, listed, a, w, hp, hB, h => by
    simp only [pickOps, Option.some.injEq] at hp
    simp only [deadS, Option.some.injEq] at hB
    subst hp hB
    rw [List.length_nil, Nat.zero_add]
    exact hK a w h
  | k :: r, l, listed, a, w, hp, hB, h => by
    simp only [pickOps] at hp
    split at hp
    · next o l' ho hl' =>
      simp only [Option.some.injEq] at hp
      subst hp
      simp only [deadS] at hB
      split at hB
      · next hk =>
        simp only [Bool.and_eq_true] at hk
        rw [show (k :: r).length + g = (r.length + g) + 1 from by simp; omega]
        exact wpAny_first ho (Region.noSelect_spec hsel) (fun _ _ _ h => h.elim) _ listed a w (Region.free_spec ho hk.2) (by simpa using hk.1) (.inr ⟨h.1, rfl⟩) (wpAny_deadS hsel hK r l' _ _ w hl' hB h.2)
      · cases hB
    · cases hp
/-- what stands behind the first stretch: the operations that are not wanted, then the last stretch -/
def DeadQ (P : Program) (ops : Array Oper) (Q : Exit → Act → World → Prop) (ld l2 : List Oper) : Exit → Act → World → Prop := fun _ a w => wpDead ops (fun a' w' => wpList P ops (Strict Q) l2 a' w') ld a w
theorem DeadQ.start {ops : Array Oper} {Q : Exit → Act → World → Prop} {ld l2 : List Oper} {a : Act} {w : World} (h : wpDead ops (fun a' w' => wpList P ops (Strict Q) l2 a' w') ld a w) : Strict (DeadQ P ops Q ld l2) .normal a w := h
theorem wpDead.cons {ops : Array Oper} {K : Act → World → Prop} {o : Oper} {r : List Oper} {a : Act} {w : World} (h1 : Region.wanted o (yielded ops a.tmps) = false) (h2 : wpDead ops K r (a.put o.dst undef) w) : wpDead ops K (o :: r) a w := ⟨h1, h2⟩
theorem wpDead.nil {ops : Array Oper} {K : Act → World → Prop} {a : Act} {w : World} (h : K a w) : wpDead ops K [] a w := h
theorem wp_region_dead {id : Nat} {Q : Exit → Act → World → Prop} {a : Act} {w : World} {L : Array Oper} {l1 ld l2 : List Oper} {f1 f2 : Array Bool} (o1 od o2 : List Nat) (hm : P.follows .mixedOrders = true) (hs : Region.noSelect L = true) (hn : o1.length + (od.length + o2.length) = L.size)
    (h1 : linS L o1 (Array.replicate L.size false) = some f1) (hd : deadS L od f1 = some f2) (h2 : linB L o2 f2 = true) (e1 : pickOps L o1 = some l1) (ed : pickOps L od = some ld) (e2 : pickOps L o2 = some l2)
    (h : wpList P L (Strict (DeadQ P L Q ld l2)) l1 a w.drew) : (Code.region id L true).wp P Q a w := by
  refine Code.wp_mono Strict.imp (wp_region_any hm ?_)
  have := wpAny_linS (Q := Q) (X := DeadQ P L Q ld l2) (g := od.length + o2.length) (fin := f1) hs (fun a1 w1 hd1 =>
    wpAny_deadS (Q := Q) (K := fun a' w' => wpList P L (Strict Q) l2 a' w') (g := o2.length) (fin := f2) hs (fun a2 w2 h9 => wpAny_lin hs o2 l2 f2 a2 w2 e2 h2 h9) od ld f1 a1 w1 ed hd hd1) o1 l1 _ a w.drew e1 h1 h
  rw [hn] at this
  exact this
end
end Go.Proofs.Ytndjgbknhfficaa
