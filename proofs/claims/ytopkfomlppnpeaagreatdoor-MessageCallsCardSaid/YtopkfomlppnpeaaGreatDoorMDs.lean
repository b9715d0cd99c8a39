/- , laid together: MsDRp, MsDSt. -/
import Derived.Test.YtopkfomlppnpeaaGreatDoorMsRdB
import Derived.Test.YtopkfomlppnpeaaGreatDoorMFt
import Derived.Test.YtopkfomlppnpeaaGreatDoorMDg
import Derived.Test.YtopkfomlppnpeaaGreatDoorMDo
import Derived.Test.YtopkfomlppnpeaaGreatDoorMsRead
namespace Go.Proofs.YtopkfomlppnpeaaGreatDoor.Ms
open Go.RowKit Go.Proofs.YtopkfomlppnpeaaGreatDoor

/-- a task and its incarnation -/
def dRK (l : List UInt8) (s : S) : El × S :=
  let j := dK l s
  let n := rU l j.2
  (⟨j.1.1, j.1.2, n.1, Am.zero, [], 0, 0⟩, n.2)
def staDd (l : List UInt8) (s : S) : El × S :=
  let k := dRK l s
  let a := rA l k.2
  let t := rT l a.2
  (⟨k.1.j, k.1.i, k.1.n, a.1, t.1, 0, 0⟩, t.2)
def helDd (l : List UInt8) (s : S) : El × S :=
  let k := dRK l s
  let q := dS l k.2
  (⟨k.1.j, k.1.i, k.1.n, Am.zero, [], q.1, 0⟩, q.2)
def finDd (l : List UInt8) (s : S) : El × S :=
  let u := rU l s
  let k := dRK l u.2
  let q := dS l k.2
  (⟨k.1.j, k.1.i, k.1.n, Am.zero, [], q.1, u.1⟩, q.2)
/-- so many elements, whatever comes -/
def drN (one : List UInt8 → S → El × S) (l : List UInt8) : Nat → S → List El × S
  | 0, s => ([], s)
  | n + 1, s => ((one l s).1 :: (drN one l n (one l s).2).1, (drN one l n (one l s).2).2)
def drL (one : List UInt8 → S → El × S) (l : List UInt8) (s : S) : List El × S := drN one l (rC 256 l s).1.toNat (rC 256 l s).2
theorem drN_snoc (one : List UInt8 → S → El × S) (l : List UInt8) : ∀ n s, drN one l (n + 1) s = ((drN one l n s).1 ++ [(one l (drN one l n s).2).1], (one l (drN one l n s).2).2)
  | 0, s => by simp [drN]
  | n + 1, s => by
    have h := drN_snoc one l n (one l s).2
    rw [drN, h]
    simp [drN]
theorem drN_len (one : List UInt8 → S → El × S) (l : List UInt8) : ∀ n s, (drN one l n s).1.length = n
  | 0, s => rfl
  | n + 1, s => by rw [drN]; simp [drN_len one l n]
def drdP (l : List UInt8) : Po × S :=
  let ep := rU l (0, 0)
  let sq := rU l ep.2
  let bo := rU l sq.2
  let a := rI l bo.2
  let le := dS l a.2
  let K := drL envRd l le.2
  let T := drL staDd l K.2
  let P := drL dRK l T.2
  let se := rU l P.2
  (⟨ep.1, sq.1, bo.1, a.1, le.1, K.1, T.1, P.1, se.1⟩, se.2)
def drdR (l : List UInt8) : Rp × S :=
  let ep := rU l (0, 0)
  let sq := rU l ep.2
  let bo := rU l sq.2
  let a := rI l bo.2
  let H := drL helDd l a.2
  let F := drL finDd l H.2
  let R := drL helDd l F.2
  (⟨ep.1, sq.1, bo.1, a.1, H.1, F.1, R.1⟩, R.2)
def dreadP (b : List UInt8) : Po × Nat :=
  if (opn b [3]).2.2 ≠ 0 then (zeP, (opn b [3]).2.2)
  else if Wire.done (opn b [3]).2.1 (drdP (opn b [3]).2.1).2.1 (drdP (opn b [3]).2.1).2.2 ≠ 0 ∨ checkP (drdP (opn b [3]).2.1).1 = false then (zeP, 5)
  else ((drdP (opn b [3]).2.1).1, 0)
def dreadR (b : List UInt8) : Rp × Nat :=
  if (opn b [4]).2.2 ≠ 0 then (zeR, (opn b [4]).2.2)
  else if Wire.done (opn b [4]).2.1 (drdR (opn b [4]).2.1).2.1 (drdR (opn b [4]).2.1).2.2 ≠ 0 ∨ checkR (drdR (opn b [4]).2.1).1 = false then (zeR, 5)
  else ((drdR (opn b [4]).2.1).1, 0)

/-- behind an error it stays an error -/
def Stk {α : Type} (f : List UInt8 → S → α × S) : Prop := ∀ l s, s.2 ≠ 0 → (f l s).2.2 ≠ 0
theorem stk_u : Stk rU := fun l s h => by unfold rU Wire.uint; rw [if_pos h]; exact h
theorem stk_i : Stk rI := fun l s h => by unfold rI Wire.int Wire.uint; rw [if_pos h]; exact h
theorem stk_t : Stk rT := fun l s h => by unfold rT Wire.text; rw [if_pos h]; exact h
theorem stk_c (m : Int) : Stk (rC m) := fun l s h => by unfold rC Wire.count; rw [if_pos h]; exact h
theorem stk_s : Stk dS := fun l s h => stk_u l s h
theorem stk_a : Stk rA := fun l s h => stk_i l _ (stk_i l _ (stk_i l _ (stk_i l s h)))
theorem stk_k : Stk rK := fun l s h => stk_u l _ (stk_c _ l _ (stk_t l s h))
theorem stk_dk : Stk dRK := fun l s h => stk_u l _ (stk_s l _ (stk_t l s h))
theorem stk_env : Stk envRd := fun l s h => stk_a l _ (stk_t l s h)
theorem stk_sta : Stk staRd := fun l s h => stk_t l _ (stk_a l _ (stk_k l s h))
theorem stk_dsta : Stk staDd := fun l s h => stk_t l _ (stk_a l _ (stk_dk l s h))
theorem stk_hel : Stk helRd := fun l s h => stk_c _ l _ (stk_k l s h)
theorem stk_dhel : Stk helDd := fun l s h => stk_s l _ (stk_dk l s h)
theorem stk_fin : Stk finRd := fun l s h => stk_c _ l _ (stk_k l _ (stk_u l s h))
theorem stk_dfin : Stk finDd := fun l s h => stk_s l _ (stk_dk l _ (stk_u l s h))
theorem stk_n {one : List UInt8 → S → El × S} (h1 : Stk one) (l : List UInt8) : ∀ n s, s.2 ≠ 0 → (rdN one l n s).2.2 ≠ 0
  | 0, s, h => h
  | n + 1, s, h => by unfold rdN; rw [if_neg h]; exact h
theorem stk_dn {one : List UInt8 → S → El × S} (h1 : Stk one) (l : List UInt8) : ∀ n s, s.2 ≠ 0 → (drN one l n s).2.2 ≠ 0
  | 0, s, h => h
  | n + 1, s, h => by unfold drN; exact stk_dn h1 l n _ (h1 l s h)
theorem stk_l {one : List UInt8 → S → El × S} (h1 : Stk one) : Stk (rL one) := fun l s h => stk_n h1 l _ _ (stk_c _ l s h)
theorem stk_dl {one : List UInt8 → S → El × S} (h1 : Stk one) : Stk (drL one) := fun l s h => stk_dn h1 l _ _ (stk_c _ l s h)

/-- two readings: the same, or both will be refused -/
def Sim {α : Type} (bad : α → Prop) (x y : α × S) : Prop := x = y ∨ (x.2.2 ≠ 0 ∧ (y.2.2 ≠ 0 ∨ bad y.1))
theorem sim_small (l : List UInt8) (s : S) : Sim (fun c => c = 1073741824) (rC 1073741824 l s) (dS l s) := by
  unfold rC dS rU Wire.count Wire.uint
  by_cases h : s.2 ≠ 0
  · refine .inr ⟨by rw [if_pos h]; exact h, .inl (by rw [if_pos h]; exact h)⟩
  · rw [if_neg h, if_neg h, if_neg (by omega)]
    by_cases h2 : (Wire.read (l.drop s.1)).2.2 ≠ 0
    · rw [if_pos h2, if_pos h2]; exact .inl rfl
    · rw [if_neg h2, if_neg h2]
      by_cases h3 : (1073741824 : Int) < ((Wire.read (l.drop s.1)).1 : Int)
      · rw [if_pos h3]
        simp only
        rw [if_pos h3]
        exact .inr ⟨by simp, .inr rfl⟩
      · rw [if_neg h3]
        simp only
        rw [if_neg h3]
        exact .inl rfl
/-- a number of an element is too great -/
def badE (x : El) : Prop := x.i = 1073741824 ∨ x.q = 1073741824
theorem sim_k (l : List UInt8) (s : S) : Sim badE (rK l s) (dRK l s) := by
  rcases sim_small l (rT l s).2 with h | ⟨h1, h2⟩
  · refine .inl ?_
    unfold rK dRK dK
    simp only [h]
  · exact .inr ⟨stk_u l _ h1, h2.imp (fun h => stk_u l _ h) (fun h => .inl h)⟩
theorem sim_sta (l : List UInt8) (s : S) : Sim badE (staRd l s) (staDd l s) := by
  rcases sim_k l s with h | ⟨h1, h2⟩
  · refine .inl ?_
    unfold staRd staDd
    simp only [h]
  · refine .inr ⟨stk_t l _ (stk_a l _ h1), h2.imp (fun h => stk_t l _ (stk_a l _ h)) (fun h => .inl ?_)⟩
    rcases h with h | h
    · exact h
    · exact absurd (show (0 : Int) = 1073741824 from h) (by decide)
theorem sim_hel (l : List UInt8) (s : S) : Sim badE (helRd l s) (helDd l s) := by
  rcases sim_k l s with h | ⟨h1, h2⟩
  · rcases sim_small l (dRK l s).2 with h3 | ⟨h3, h4⟩
    · refine .inl ?_
      unfold helRd helDd
      simp only [h, h3]
    · exact .inr ⟨by unfold helRd; simp only [h]; exact h3, h4.imp id (fun h => .inr h)⟩
  · refine .inr ⟨stk_c _ l _ h1, h2.imp (fun h => stk_s l _ h) (fun h => .inl ?_)⟩
    rcases h with h | h
    · exact h
    · exact absurd (show (0 : Int) = 1073741824 from h) (by decide)
theorem sim_fin (l : List UInt8) (s : S) : Sim badE (finRd l s) (finDd l s) := by
  rcases sim_k l (rU l s).2 with h | ⟨h1, h2⟩
  · rcases sim_small l (dRK l (rU l s).2).2 with h3 | ⟨h3, h4⟩
    · refine .inl ?_
      unfold finRd finDd
      simp only [h, h3]
    · exact .inr ⟨by unfold finRd; simp only [h]; exact h3, h4.imp id (fun h => .inr h)⟩
  · refine .inr ⟨stk_c _ l _ h1, h2.imp (fun h => stk_s l _ h) (fun h => .inl ?_)⟩
    rcases h with h | h
    · exact h
    · exact absurd (show (0 : Int) = 1073741824 from h) (by decide)
def badL (L : List El) : Prop := ∃ x ∈ L, badE x
theorem sim_n {f g : List UInt8 → S → El × S} {l : List UInt8} (hf : Stk f) (hg : Stk g) (h : ∀ s, Sim badE (f l s) (g l s)) : ∀ n s, Sim badL (rdN f l n s) (drN g l n s)
  | 0, s => .inl rfl
  | n + 1, s => by
    unfold rdN drN
    by_cases h0 : s.2 = 0
    · rw [if_pos h0]
      rcases h s with h1 | ⟨h1, h2⟩
      · rw [h1]
        rcases sim_n hf hg h n (g l s).2 with h3 | ⟨h3, h4⟩
        · rw [h3]; exact .inl rfl
        · exact .inr ⟨h3, h4.imp id (fun ⟨x, hx, hb⟩ => ⟨x, List.mem_cons_of_mem _ hx, hb⟩)⟩
      · exact .inr ⟨stk_n hf l n _ h1, h2.imp (fun h => stk_dn hg l n _ h) (fun h => ⟨_, List.mem_cons_self, h⟩)⟩
    · rw [if_neg h0]
      exact .inr ⟨h0, .inl (stk_dn hg l n _ (hg l s h0))⟩
theorem sim_l {f g : List UInt8 → S → El × S} {l : List UInt8} (hf : Stk f) (hg : Stk g) (h : ∀ s, Sim badE (f l s) (g l s)) (s : S) : Sim badL (rL f l s) (drL g l s) := sim_n hf hg h _ _
/-- a chain: what comes behind what is the same, or behind what will be refused -/
theorem sim_then {α β γ : Type} {bad : α → Prop} {bad' : β → Prop} {bad'' : γ → Prop} {x y : α × S} {f g : S → β × S} {c : α → β → γ} (h : Sim bad x y) (hf : ∀ s, s.2 ≠ 0 → (f s).2.2 ≠ 0) (hg : ∀ s, s.2 ≠ 0 → (g s).2.2 ≠ 0) (hfg : ∀ s, Sim bad' (f s) (g s)) (h1 : ∀ a b, bad a → bad'' (c a b)) (h2 : ∀ a b, bad' b → bad'' (c a b)) : Sim bad'' (c x.1 (f x.2).1, (f x.2).2) (c y.1 (g y.2).1, (g y.2).2) := by
  rcases h with h | ⟨h3, h4⟩
  · subst h
    rcases hfg x.2 with h5 | ⟨h5, h6⟩
    · rw [h5]; exact .inl rfl
    · exact .inr ⟨h5, h6.imp id (h2 _ _)⟩
  · exact .inr ⟨hf _ h3, h4.imp (hg _) (h1 _ _)⟩
theorem sim_same {α : Type} {bad : α → Prop} (x : α × S) : Sim bad x x := .inl rfl
def badP (p : Po) : Prop := p.le = 1073741824 ∨ badL p.K ∨ badL p.T ∨ badL p.P
def badR (p : Rp) : Prop := badL p.H ∨ badL p.F ∨ badL p.R
theorem sim_P (l : List UInt8) : Sim badP (rdP l) (drdP l) := by
  have h1 := sim_small l (rI l (rU l (rU l (rU l (0, 0)).2).2).2).2
  have h2 := sim_then (bad'' := fun z : Int × List El => z.1 = 1073741824 ∨ badL z.2) (c := Prod.mk) h1 (stk_l stk_env l) (stk_dl stk_env l) (sim_l stk_env stk_env (fun s => sim_same _)) (fun _ _ h => .inl h) (fun _ _ h => .inr h)
  have h3 := sim_then (bad'' := fun z : (Int × List El) × List El => z.1.1 = 1073741824 ∨ badL z.1.2 ∨ badL z.2) (c := Prod.mk) h2 (stk_l stk_sta l) (stk_dl stk_dsta l) (sim_l stk_sta stk_dsta (sim_sta l)) (fun _ _ h => h.imp id .inl) (fun _ _ h => .inr (.inr h))
  have h4 := sim_then (bad'' := fun z : ((Int × List El) × List El) × List El => z.1.1.1 = 1073741824 ∨ badL z.1.1.2 ∨ badL z.1.2 ∨ badL z.2) (c := Prod.mk) h3 (stk_l stk_k l) (stk_dl stk_dk l) (sim_l stk_k stk_dk (sim_k l)) (fun _ _ h => h.imp id (fun h => h.imp id .inl)) (fun _ _ h => .inr (.inr (.inr h)))
  exact sim_then (bad'' := badP) (c := fun (z : ((Int × List El) × List El) × List El) (u : Int) => (⟨(rU l (0, 0)).1, (rU l (rU l (0, 0)).2).1, (rU l (rU l (rU l (0, 0)).2).2).1, (rI l (rU l (rU l (rU l (0, 0)).2).2).2).1, z.1.1.1, z.1.1.2, z.1.2, z.2, u⟩ : Po)) h4 (stk_u l) (stk_u l) (fun s => sim_same (bad := fun _ => False) _) (fun _ _ h => h) (fun _ _ h => h.elim)
theorem sim_R (l : List UInt8) : Sim badR (rdR l) (drdR l) := by
  have h2 := sim_l stk_hel stk_dhel (sim_hel l) (rI l (rU l (rU l (rU l (0, 0)).2).2).2).2
  have h3 := sim_then (bad'' := fun z : List El × List El => badL z.1 ∨ badL z.2) (c := Prod.mk) h2 (stk_l stk_fin l) (stk_dl stk_dfin l) (sim_l stk_fin stk_dfin (sim_fin l)) (fun _ _ h => .inl h) (fun _ _ h => .inr h)
  exact sim_then (bad'' := badR) (c := fun (z : List El × List El) (u : List El) => (⟨(rU l (0, 0)).1, (rU l (rU l (0, 0)).2).1, (rU l (rU l (rU l (0, 0)).2).2).1, (rI l (rU l (rU l (rU l (0, 0)).2).2).2).1, z.1, z.2, u⟩ : Rp)) h3 (stk_l stk_hel l) (stk_dl stk_dhel l) (sim_l stk_hel stk_dhel (sim_hel l)) (fun _ _ h => h.imp id .inl) (fun _ _ h => .inr (.inr h))
theorem tk_bad {x : El} (h : tk x = true) : x.i ≠ 1073741824 := by have := (tk_ok h).2.2; omega
theorem bad_rises {may lt : _} {L : List El} (h : badL L) (hm : ∀ x, may x = true → ¬ badE x) : risesB may lt L = false := by
  obtain ⟨x, hx, hb⟩ := h
  cases hr : risesB may lt L
  · rfl
  · exact absurd hb (hm x ((rises_may hr).2 x hx))
theorem bad_check {p : Po} (hc : (∀ x ∈ p.K, envK x) ∧ (∀ x ∈ p.T, staK x) ∧ ∀ x ∈ p.P, stoK x) (h : badP p) : checkP p = false := by
  unfold checkP
  rcases h with h | h | h | h
  · rw [h]; simp
  · obtain ⟨x, hx, hb⟩ := h
    have := hc.1 x hx
    rcases hb with hb | hb
    · have := this.1; omega
    · have := this.2.2.2.1; omega
  · have h9 : risesB staM ltT p.T = false := by
      obtain ⟨x, hx, hb⟩ := h
      cases hr : risesB staM ltT p.T
      · rfl
      · have h1 := (rises_may hr).2 x hx
        unfold staM at h1
        simp only [Bool.and_eq_true] at h1
        rcases hb with hb | hb
        · exact absurd hb (tk_bad h1.1.1.1)
        · have := (hc.2.1 x hx).1; omega
    rw [h9]; simp
  · have h9 : risesB stoM ltT p.P = false := by
      obtain ⟨x, hx, hb⟩ := h
      cases hr : risesB stoM ltT p.P
      · rfl
      · have h1 := (rises_may hr).2 x hx
        rcases hb with hb | hb
        · exact absurd hb (tk_bad h1)
        · have := (hc.2.2 x hx).2.2.1; omega
    rw [h9]; simp
theorem bad_checkR {p : Rp} (h : badR p) : checkR p = false := by
  unfold checkR
  rcases h with h | h | h
  · have h9 : risesB helM ltT p.H = false := bad_rises h (fun x hm hb => by
      unfold helM at hm
      simp only [Bool.and_eq_true, decide_eq_true_eq] at hm
      rcases hb with hb | hb
      · exact tk_bad hm.1.1 hb
      · omega)
    rw [h9]; simp
  · have h9 : risesB finM finL p.F = false := bad_rises h (fun x hm hb => by
      unfold finM at hm
      simp only [Bool.and_eq_true, decide_eq_true_eq] at hm
      rcases hb with hb | hb
      · exact tk_bad hm.1.1.1 hb
      · omega)
    rw [h9]; simp
  · have h9 : risesB refM ltT p.R = false := bad_rises h (fun x hm hb => by
      unfold refM at hm
      simp only [Bool.and_eq_true, decide_eq_true_eq] at hm
      rcases hb with hb | hb
      · exact tk_bad hm.1.1 hb
      · omega)
    rw [h9]; simp
theorem done_err {l : List UInt8} {s : S} (h : s.2 ≠ 0) : Wire.done l s.1 s.2 ≠ 0 := by
  unfold Wire.done
  rw [if_neg (fun h9 => h h9.1)]
  exact h
/-- in bounds -/
theorem dS_b (l : List UInt8) (s : S) : 0 ≤ (dS l s).1 ∧ (dS l s).1 ≤ 1073741824 := by
  unfold dS
  have := (rU_b l s).1
  simp only
  split <;> omega
theorem dRK_ok (l : List UInt8) (s : S) : (dRK l s).1.j.length ≤ l.length ∧ u64B (dRK l s).1.n ∧ (dRK l s).1.a = Am.zero ∧ (dRK l s).1.s = [] ∧ (dRK l s).1.q = 0 ∧ (dRK l s).1.k = 0 := ⟨rT_len _ _, rU_b _ _, rfl, rfl, rfl, rfl⟩
theorem staDd_ok {l : List UInt8} (hl : l.length ≤ 140737488351232) (s : S) : TxOk (staDd l s).1 ∧ staK (staDd l s).1 := by
  unfold staDd
  have h1 := dRK_ok l s
  have h2 := rT_len l (rA l (dRK l s).2).2
  exact ⟨⟨by simp only; omega, by simp only; omega, h1.2.1, by simp⟩, rfl, rfl⟩
theorem stoDd_ok {l : List UInt8} (hl : l.length ≤ 140737488351232) (s : S) : TxOk (dRK l s).1 ∧ stoK (dRK l s).1 := by
  have h1 := dRK_ok l s
  exact ⟨⟨by omega, by rw [h1.2.2.2.1]; simp, h1.2.1, by rw [h1.2.2.2.2.2]; simp⟩, h1.2.2⟩
theorem helDd_ok {l : List UInt8} (hl : l.length ≤ 140737488351232) (s : S) : TxOk (helDd l s).1 ∧ helK (helDd l s).1 := by
  unfold helDd
  have h1 := dRK_ok l s
  exact ⟨⟨by simp only; omega, by simp, h1.2.1, by simp⟩, rfl, rfl, rfl⟩
theorem finDd_ok {l : List UInt8} (hl : l.length ≤ 140737488351232) (s : S) : TxOk (finDd l s).1 ∧ finK (finDd l s).1 := by
  unfold finDd
  have h1 := dRK_ok l (rU l s).2
  exact ⟨⟨by simp only; omega, by simp, h1.2.1, rU_b _ _⟩, rfl, rfl⟩
theorem drN_all {one : List UInt8 → S → El × S} {l : List UInt8} {K : El → Prop} (h : ∀ s, TxOk (one l s).1 ∧ K (one l s).1) : ∀ n s, ∀ x ∈ (drN one l n s).1, TxOk x ∧ K x
  | 0, _, x, hx => by simp [drN] at hx
  | n + 1, s, x, hx => by
    unfold drN at hx
    rcases List.mem_cons.1 hx with rfl | hx
    · exact h s
    · exact drN_all h n _ x hx
theorem drL_all {one : List UInt8 → S → El × S} {l : List UInt8} {K : El → Prop} (h : ∀ s, TxOk (one l s).1 ∧ K (one l s).1) (s : S) : ∀ x ∈ (drL one l s).1, TxOk x ∧ K x := drN_all h _ _
theorem drdP_w {w : World} {l : List UInt8} {k t s : Value} (hl : l.length ≤ 140737488351232) (hk : Row w k 5 (drdP l).1.K.length (rwC envC (drdP l).1.K)) (ht : Row w t 8 (drdP l).1.T.length (rwC staC (drdP l).1.T)) (hs : Row w s 3 (drdP l).1.P.length (rwC stoC (drdP l).1.P)) : PoW w (drdP l).1 k t s := by
  have h1 := drL_all (fun s => envRd_ok hl s)
  have h2 := drL_all (fun s => staDd_ok hl s)
  have h3 := drL_all (fun s => stoDd_ok hl s)
  refine ⟨fun x hx => (h1 _ x hx).2, fun x hx => (h2 _ x hx).2, fun x hx => (h3 _ x hx).2, ⟨rU_b _ _, rU_b _ _, rU_b _ _, rI_b _ _, ?_, rU_b _ _⟩, hk, ht, hs, fun x hx => (h1 _ x hx).1, fun x hx => (h2 _ x hx).1, fun x hx => (h3 _ x hx).1⟩
  have h9 := dS_b l (rI l (rU l (rU l (rU l (0, 0)).2).2).2).2
  show i64B (dS l (rI l (rU l (rU l (rU l (0, 0)).2).2).2).2).1
  unfold i64B
  omega
theorem drdR_w {w : World} {l : List UInt8} {k t s : Value} (hl : l.length ≤ 140737488351232) (hk : Row w k 4 (drdR l).1.H.length (rwC helC (drdR l).1.H)) (ht : Row w t 5 (drdR l).1.F.length (rwC finC (drdR l).1.F)) (hs : Row w s 4 (drdR l).1.R.length (rwC refC (drdR l).1.R)) : RpW w (drdR l).1 k t s := by
  have h1 := drL_all (fun s => helDd_ok hl s)
  have h2 := drL_all (fun s => finDd_ok hl s)
  exact ⟨fun x hx => (h1 _ x hx).2, fun x hx => (h2 _ x hx).2, fun x hx => (h1 _ x hx).2, ⟨rU_b _ _, rU_b _ _, rU_b _ _, rI_b _ _⟩, hk, ht, hs, fun x hx => (h1 _ x hx).1, fun x hx => (h2 _ x hx).1, fun x hx => (h1 _ x hx).1⟩
theorem drdP_can (l : List UInt8) (hl : l.length ≤ 140737488351232) : (∀ x ∈ (drdP l).1.K, envK x) ∧ (∀ x ∈ (drdP l).1.T, staK x) ∧ ∀ x ∈ (drdP l).1.P, stoK x :=
  ⟨fun x hx => (drL_all (fun s => envRd_ok hl s) _ x hx).2, fun x hx => (drL_all (fun s => staDd_ok hl s) _ x hx).2, fun x hx => (drL_all (fun s => stoDd_ok hl s) _ x hx).2⟩
/-- the document hears what the program hears -/
theorem dreadP_eq (b : List UInt8) (hl : (opn b [3]).2.1.length ≤ 140737488351232) : dreadP b = readP b := by
  unfold dreadP readP
  rcases sim_P (opn b [3]).2.1 with h | ⟨h1, h2⟩
  · rw [h]
  · by_cases h0 : (opn b [3]).2.2 ≠ 0
    · rw [if_pos h0, if_pos h0]
    · rw [if_neg h0, if_neg h0, if_pos (h2.imp done_err (bad_check (drdP_can _ hl))), if_pos (.inl (done_err h1))]
theorem dreadR_eq (b : List UInt8) : dreadR b = readR b := by
  unfold dreadR readR
  rcases sim_R (opn b [4]).2.1 with h | ⟨h1, h2⟩
  · rw [h]
  · by_cases h0 : (opn b [4]).2.2 ≠ 0
    · rw [if_pos h0, if_pos h0]
    · rw [if_neg h0, if_neg h0, if_pos (h2.imp done_err bad_checkR), if_pos (.inl (done_err h1))]
end Go.Proofs.YtopkfomlppnpeaaGreatDoor.Ms

namespace Go.Proofs.YtopkfomlppnpeaaGreatDoor.Ms
open Go.RowKit Go.Proofs.YtopkfomlppnpeaaGreatDoor

theorem drdr_new {w : World} {l : List UInt8} {v : Value} (h : Rd w v l) (hv : ∀ c, v.ownBlock = some c → c + 1 < w.heap.size) : RRdr (w.alloc (.cells #[v, .int .i64 0, .int .i64 0] 146)) w.heap.size l 0 0 :=
  ⟨v, Blk.made w [v, .int .i64 0, .int .i64 0] _, h.below (below_alloc _ _), fun _ => hv, Nat.zero_le _⟩
/-- a row that is whole -/
structure DRow where
  T : TypeId
  n : Nat
  v : Value
  m : Nat
  C : List Value
structure Dw (w0 : World) (b : Nat) (l : List UInt8) (w : World) (s : S) (R : Nat) (RC : List Value) (RT : TypeId) (Y : Nat) (YC : List Value) (YT : TypeId) (rows : List DRow) (A : Nat) : Prop where
  rd : RRdr w b l s.1 s.2
  r : Blk w R RC RT
  x : Blk w Y YC YT
  fr : Below w0.heap.size w0 w
  hb : w0.heap.size ≤ R ∧ R < b ∧ b < Y ∧ Y < A
  sz : A ≤ w.heap.size
  ow : ∀ r ∈ rows, (∃ a, Y < a ∧ w.ownsRow a r.T r.n r.v r.m r.C) ∧ ∀ g, r.v.ownBlock = some g → g < A
section
variable {w0 w w' : World} {b : Nat} {l : List UInt8} {s s' : S} {R Y A : Nat} {RC YC : List Value} {RT YT : TypeId} {rows : List DRow}
theorem Dw.call (h : Dw w0 b l w s R RC RT Y YC YT rows A) (hr : RRdr w' b l s'.1 s'.2) (hf : Frp (fun k => k = b) w w') : Dw w0 b l w' s' R RC RT Y YC YT rows A :=
  ⟨hr, h.r.frp hf (fun e => by have := h.hb; omega), h.x.frp hf (fun e => by have := h.hb; omega), h.fr.trans (hf.below (fun k hk => by have := h.hb; omega) h.fr.size), h.hb, Nat.le_trans h.sz hf.size, fun r hr => by
    obtain ⟨⟨a, h1, h2⟩, h3⟩ := h.ow r hr
    exact ⟨⟨a, h1, own_frp h2 hf (fun g hg e => by have := own_lo h2 hg; have := h.hb; omega)⟩, h3⟩⟩
theorem Dw.setY (h : Dw w0 b l w s R RC RT Y YC YT rows A) (j : Nat) (u : Value) : Dw w0 b l (w.setCell ⟨Y, j, none⟩ u) s R RC RT Y (YC.set j u) YT rows A :=
  have hf : Frp (fun k => k = Y) w (w.setCell ⟨Y, j, none⟩ u) := frp_setX (Frp.refl _ w) j u
  ⟨RRdr.frp h.rd hf (fun k hk e => by have := h.hb; omega), h.r.frp hf (fun e => by have := h.hb; omega), h.x.set j u, h.fr.trans (hf.below (fun k hk => by have := h.hb; omega) h.fr.size), h.hb, Nat.le_trans h.sz hf.size, fun r hr => by
    obtain ⟨⟨a, h1, h2⟩, h3⟩ := h.ow r hr
    exact ⟨⟨a, h1, own_frp h2 hf (fun g hg e => by have := own_lo h2 hg; omega)⟩, h3⟩⟩
theorem Dw.up (h : Dw w0 b l w s R RC RT Y YC YT rows A) (hf : Frp (fun k => A ≤ k) w w') : Dw w0 b l w' s R RC RT Y YC YT rows A :=
  ⟨RRdr.frp h.rd hf (fun k hk e => by have := h.hb; omega), h.r.frp hf (fun e => by have := h.hb; omega), h.x.frp hf (fun e => by have := h.hb; omega), h.fr.trans (hf.below (fun k hk => by have := h.hb; omega) h.fr.size), h.hb, Nat.le_trans h.sz hf.size, fun r hr => by
    obtain ⟨⟨a, h1, h2⟩, h3⟩ := h.ow r hr
    exact ⟨⟨a, h1, own_frp h2 hf (fun g hg e => by have := h3 g hg; omega)⟩, h3⟩⟩
theorem Dw.kept (h : Dw w0 b l w s R RC RT Y YC YT rows A) (hb : Below w.heap.size w w') : Dw w0 b l w' s R RC RT Y YC YT rows A := h.up (Frp.of_below hb _)
theorem Dw.add (h : Dw w0 b l w s R RC RT Y YC YT rows A) {T : TypeId} {n : Nat} {v : Value} {m : Nat} {C : List Value} (ho : w.ownsRow A T n v m C) : Dw w0 b l w s R RC RT Y YC YT (rows ++ [⟨T, n, v, m, C⟩]) w.heap.size :=
  ⟨h.rd, h.r, h.x, h.fr, ⟨h.hb.1, h.hb.2.1, h.hb.2.2.1, by have := h.hb; have := h.sz; omega⟩, Nat.le_refl _, fun r hr => by
    rcases List.mem_append.1 hr with hr | hr
    · obtain ⟨h1, h3⟩ := h.ow r hr
      exact ⟨h1, fun g hg => by have := h3 g hg; have := h.sz; omega⟩
    · obtain rfl := List.mem_singleton.1 hr
      exact ⟨⟨A, h.hb.2.2.2, ho⟩, fun g hg => own_hi ho hg⟩⟩
theorem Dw.row (h : Dw w0 b l w s R RC RT Y YC YT rows A) {T : TypeId} {n : Nat} {v : Value} {m : Nat} {C : List Value} (hr : (⟨T, n, v, m, C⟩ : DRow) ∈ rows) (h1 : ∀ u ∈ C, u.oneCell' = true) : Row w v n m C := by
  obtain ⟨⟨a, -, h2⟩, -⟩ := h.ow _ hr
  exact row_of_owns h2 h1
/-- the same behind a turn of the result's box -/
theorem Dw.rowR (h : Dw w0 b l w s R RC RT Y YC YT rows A) {T : TypeId} {n : Nat} {v : Value} {m : Nat} {C : List Value} (hr : (⟨T, n, v, m, C⟩ : DRow) ∈ rows) (h1 : ∀ u ∈ C, u.oneCell' = true) (hf : Frp (fun k => k = R) w w') : Row w' v n m C := by
  obtain ⟨⟨a, h0, h2⟩, -⟩ := h.ow _ hr
  exact row_of_owns (own_frp h2 hf (fun g hg e => by have := own_lo h2 hg; have := h.hb; omega)) h1
/-- the row that grows, and the element's box -/
structure Ce (w : World) (A : Nat) (T : TypeId) (n : Nat) (v : Value) (m : Nat) (C : List Value) (Z : Nat) (ZC : List Value) (ZT : TypeId) : Prop where
  own : w.ownsRow A T n v m C
  z : Blk w Z ZC ZT
  az : A ≤ Z
  ne : ∀ g, v.ownBlock = some g → g ≠ Z
variable {T ZT : TypeId} {n m Z : Nat} {v : Value} {C ZC : List Value}
theorem Ce.call (h : Ce w A T n v m C Z ZC ZT) (hb : b < A) (hf : Frp (fun k => k = b) w w') : Ce w' A T n v m C Z ZC ZT :=
  ⟨own_frp h.own hf (fun g hg e => by have := own_lo h.own hg; omega), h.z.frp hf (fun e => by have := h.az; omega), h.az, h.ne⟩
theorem Ce.set (h : Ce w A T n v m C Z ZC ZT) (j : Nat) (u : Value) : Ce (w.setCell ⟨Z, j, none⟩ u) A T n v m C Z (ZC.set j u) ZT :=
  ⟨own_frp h.own (frp_setX (Frp.refl (fun k => k = Z) w) j u) (fun g hg e => h.ne g hg e), h.z.set j u, h.az, h.ne⟩
theorem ce_new (ho : w.ownsRow A T n v m C) (hA : A ≤ w.heap.size) {ZC : List Value} {ZT : TypeId} : Ce (w.alloc (.cells ZC.toArray ZT)) A T n v m C w.heap.size ZC ZT :=
  ⟨own_keep ho (below_alloc _ _), Blk.made w ZC ZT, hA, fun g hg e => by have := own_hi ho hg; omega⟩
theorem Dw.setZ (h : Dw w0 b l w s R RC RT Y YC YT rows A) (hc : Ce w A T n v m C Z ZC ZT) (j : Nat) (u : Value) : Dw w0 b l (w.setCell ⟨Z, j, none⟩ u) s R RC RT Y YC YT rows A :=
  h.up ((frp_setX (Frp.refl (fun k => k = Z) w) j u).mono (fun k hk => by rw [hk]; exact hc.az))
/-- both, behind a store into the element's box -/
def De (w0 : World) (b : Nat) (l : List UInt8) (w : World) (s : S) (R : Nat) (RC : List Value) (RT : TypeId) (Y : Nat) (YC : List Value) (YT : TypeId) (rows : List DRow) (A : Nat) (T : TypeId) (n : Nat) (v : Value) (m : Nat) (C : List Value) (Z : Nat) (ZC : List Value) (ZT : TypeId) : Prop := Dw w0 b l w s R RC RT Y YC YT rows A ∧ Ce w A T n v m C Z ZC ZT
theorem De.set (h : De w0 b l w s R RC RT Y YC YT rows A T n v m C Z ZC ZT) (j : Nat) (u : Value) : De w0 b l (w.setCell ⟨Z, j, none⟩ u) s R RC RT Y YC YT rows A T n v m C Z (ZC.set j u) ZT := ⟨h.1.setZ h.2 j u, h.2.set j u⟩
theorem De.call (h : De w0 b l w s R RC RT Y YC YT rows A T n v m C Z ZC ZT) (hr : RRdr w' b l s'.1 s'.2) (hf : Frp (fun k => k = b) w w') : De w0 b l w' s' R RC RT Y YC YT rows A T n v m C Z ZC ZT := ⟨h.1.call hr hf, h.2.call (by have := h.1.hb; omega) hf⟩
theorem de_new (h : Dw w0 b l w s R RC RT Y YC YT rows A) (ho : w.ownsRow A T n v m C) {ZC : List Value} {ZT : TypeId} : De w0 b l (w.alloc (.cells ZC.toArray ZT)) s R RC RT Y YC YT rows A T n v m C w.heap.size ZC ZT := ⟨h.kept (below_alloc _ _), ce_new ho h.sz⟩
/-- the element is appended, the new slice is stored -/
theorem Dw.append (h : Dw w0 b l w s R RC RT Y YC YT rows A) (ho : w.ownsRow A T n v m C) {ob : Obj} {w6 : World} (hg : (w.alloc ob).grownBy w6 v.ownBlock) : Dw w0 b l w6 s R RC RT Y YC YT rows A :=
  h.up (((Frp.refl (fun k => A ≤ k) w).next (below_alloc w ob)).grown hg (fun k hk => .inl (own_lo ho hk)))
theorem own_setY (h : Dw w0 b l w s R RC RT Y YC YT rows A) (ho : w.ownsRow A T n v m C) (j : Nat) (u : Value) : (w.setCell ⟨Y, j, none⟩ u).ownsRow A T n v m C :=
  own_frp ho (frp_setX (Frp.refl (fun k => k = Y) w) j u) (fun g hg e => by have := own_lo ho hg; have := h.hb; omega)
end
end Go.Proofs.YtopkfomlppnpeaaGreatDoor.Ms
