/- What a book keeps to, whatever is called. -/
import Derived.Test.YtmgbailpmcggiaaQOver
namespace Go.Proofs.Ytmgbailpmcggiaa
open Go.RowKit

structure QI (n : Nat) (G : List Gr) (C : List Ch) : Prop where
  ch : ChI C
  nm : ∀ e ∈ C, nmdB e.n = true ∧ askB e.u e.b = true
  gr : ∀ g ∈ G, askB g.u g.b = true ∧ g.a.okB = true
  rise : KRise Gr.key G
  lenG : G.length ≤ n
  lenC : C.length ≤ n

theorem QI.pos {n : Nat} {G : List Gr} {C : List Ch} (h : QI n G C) : ∀ e ∈ C, 0 < e.n.size := fun e he => by
  have := (h.nm e he).1
  unfold nmdB at this
  simp only [decide_eq_true_eq] at this
  omega
theorem QI.user {n : Nat} {G : List Gr} {C : List Ch} (h : QI n G C) : ∀ e ∈ C, askB e.u e.b = true := fun e he => (h.nm e he).2
theorem QI.grok {n : Nat} {G : List Gr} {C : List Ch} (h : QI n G C) (u : ByteArray) (d : Int) : (grantA G u d).okB = true := by
  unfold grantA
  cases hx : kfnd Gr.key G (kT u d) with
  | none => rfl
  | some g => exact (h.gr g (kfnd_mem hx).1).2
theorem QI.nil : QI 0 [] [] := ⟨⟨List.Pairwise.nil, fun e h => (by cases h), fun u d => rfl⟩, fun e h => (by cases h), fun g h => (by cases h), List.Pairwise.nil, Nat.le_refl _, Nat.le_refl _⟩
theorem QI.mono {n m : Nat} {G : List Gr} {C : List Ch} (h : QI n G C) (hm : n ≤ m) : QI m G C := ⟨h.ch, h.nm, h.gr, h.rise, Nat.le_trans h.lenG hm, Nat.le_trans h.lenC hm⟩

theorem kput_len {α : Type} (key : α → List UInt8) (L : List α) (x : α) : (kput key L x).length ≤ L.length + 1 := by
  unfold kput
  rw [(kins_perm x _).length_eq, List.length_cons]
  have : (krem key L (key x)).length ≤ L.length := List.length_filter_le _ _
  omega
theorem QI.grant {n : Nat} {G : List Gr} {C : List Ch} (h : QI n G C) (u : ByteArray) (d : Int) (a : Am) : QI (n + 1) (grantP G u d a).2 C := by
  unfold grantP
  split
  · rename_i hk
    rw [Bool.and_eq_true] at hk
    refine ⟨h.ch, h.nm, fun g hg => ?_, h.rise.put _, ?_, by have := h.lenC; omega⟩
    · rcases (kput_mem G _ g).1 hg with rfl | hg
      · exact hk
      · exact h.gr g hg.1
    · have := kput_len Gr.key G ⟨u, d, a⟩
      have := h.lenG
      show (kput Gr.key G ⟨u, d, a⟩).length ≤ _
      omega
  · exact h.mono (by omega)

theorem ksum_filter {f : Ch → Int} (q : Ch → Bool) : ∀ C : List Ch, ksum f (C.filter q) = ksum (fun e => if q e then f e else 0) C
  | [] => rfl
  | e :: C => by
    rw [List.filter_cons, ksum_cons]
    cases hq : q e
    · rw [if_neg (by simp), ksum_filter q C]; simp
    · rw [if_pos rfl, ksum_cons, ksum_filter q C]; simp
theorem psum_put (C : List Ch) (c : Ch) (u : ByteArray) (d : Int) {k : Nat} (hk : k < 4) : (psum (onB u d) (kput Ch.key C c)).get k = pf (onB u d) k c + (psum (hit u d c.n) C).get k := by
  rw [psum_get _ _ hk, psum_get _ _ hk]
  unfold kput
  rw [ksum_ins]
  congr 1
  unfold krem
  rw [ksum_filter]
  unfold ksum
  congr 1
  refine List.map_congr_left fun e _ => ?_
  have h1 : (e.n.toList == c.n.toList) = (e.key == c.key) := by rw [Lib.toList_data, Lib.toList_data]; rfl
  unfold pf hit onB
  rw [h1]
  cases e.key == c.key <;> simp
theorem addR_zero {x y : Am} (h : (addR x y).2 = 0) : ∀ k, k < 4 → x.get k + y.get k ≤ 1099511627776 := by
  intro k hk
  unfold addR at h
  split at h
  · cases h
  · split at h
    · cases h
    · rename_i h1
      have := any4_false (Bool.eq_false_iff.2 h1) hk
      simp only [decide_eq_false_iff_not] at this
      omega
theorem mayP_zero {G : List Gr} {C : List Ch} {c : Ch} {l : Bool} (h : mayP G C c l = 0) : (addR (psum (hit c.u c.b c.n) C) c.a).2 = 0 := by
  unfold mayP at h
  split at h
  · cases h
  · rename_i h1
    simpa using h1
theorem chI_put {C : List Ch} (h : ChI C) {G : List Gr} {c : Ch} {l : Bool} (ha : c.a.okB = true) (hm : mayP G C c l = 0) : ChI (kput Ch.key C c) := by
  have hs := addR_zero (mayP_zero hm)
  refine ⟨h.rise.put _, fun e he => ?_, fun u d => ?_⟩
  · rcases (kput_mem C _ e).1 he with rfl | he
    · exact ha
    · exact h.ok e he.1
  · unfold Fit
    rw [Am.okB_iff]
    intro k hk
    rw [psum_put C c u d hk]
    have hp := psum_nonneg (p := hit u d c.n) h.ok hk
    have hc := ok_get ha hk
    cases ho : onB u d c
    · have h1 := ok_get (h.hit u d c.n) hk
      unfold pf
      rw [ho]
      simp
      omega
    · have h2 := hs k hk
      have he : hit u d c.n = hit c.u c.b c.n := by
        unfold onB at ho
        rw [Bool.and_eq_true] at ho
        funext e
        unfold hit
        have h3 : c.u.toList = u.toList := by simpa using ho.1
        have h4 : c.b = d := by simpa using ho.2
        rw [h3, h4]
      rw [he] at hp ⊢
      unfold pf
      rw [if_pos ho]
      omega
theorem chI_rem {C : List Ch} (h : ChI C) (s : List UInt8) : ChI (krem Ch.key C s) := by
  refine ⟨h.rise.rem s, fun e he => h.ok e ((krem_mem C s e).1 he).1, fun u d => ?_⟩
  unfold Fit
  rw [Am.okB_iff]
  intro k hk
  have h1 := ok_get (h.fit u d) hk
  rw [psum_get _ _ hk] at h1 ⊢
  have h3 := pf_nonneg (p := onB u d) h.ok hk
  unfold krem
  rw [ksum_filter]
  have h4 : ∀ (L : List Ch), (∀ e ∈ L, 0 ≤ pf (onB u d) k e) → 0 ≤ ksum (fun e => if (!(e.key == s)) = true then pf (onB u d) k e else 0) L ∧ ksum (fun e => if (!(e.key == s)) = true then pf (onB u d) k e else 0) L ≤ ksum (pf (onB u d) k) L := by
    intro L
    induction L with
    | nil => intro _; exact ⟨Int.le_refl _, Int.le_refl _⟩
    | cons e L ih =>
      intro hL
      rw [ksum_cons, ksum_cons]
      have h5 := ih (fun x hx => hL x (by simp [hx]))
      have h6 := hL e (by simp)
      split <;> omega
  have := h4 C h3
  omega
theorem QI.charge {n : Nat} {G : List Gr} {C : List Ch} (h : QI n G C) (c : Ch) : QI (n + 1) G (chargeP G C c).2 := by
  unfold chargeP
  by_cases h0 : (nmdB c.n && askB c.u c.b && c.a.okB) = false
  · rw [if_pos h0]; exact h.mono (by omega)
  rw [if_neg h0]
  by_cases h1 : (kfnd Ch.key C c.key).isSome = true
  · rw [if_pos h1]; exact h.mono (by omega)
  rw [if_neg h1]
  by_cases h2 : mayP G C c false ≠ 0
  · rw [if_pos h2]; exact h.mono (by omega)
  rw [if_neg h2]
  have h3 : (nmdB c.n = true ∧ askB c.u c.b = true) ∧ c.a.okB = true := by simp at h0; exact ⟨⟨h0.1, h0.2.1⟩, h0.2.2⟩
  have h4 : mayP G C c false = 0 := by simpa using h2
  refine ⟨chI_put h.ch h3.2 h4, fun e he => ?_, h.gr, h.rise, by have := h.lenG; omega, ?_⟩
  · rcases (kput_mem C _ e).1 he with rfl | he
    · exact h3.1
    · exact h.nm e he.1
  · have := kput_len Ch.key C c
    have := h.lenC
    show (kput Ch.key C c).length ≤ _
    omega
theorem QI.refund {n : Nat} {G : List Gr} {C : List Ch} (h : QI n G C) (s : ByteArray) : QI (n + 1) G (refundP C s).2 := by
  unfold refundP
  split
  · exact h.mono (by omega)
  split
  · exact h.mono (by omega)
  · refine ⟨chI_rem h.ch _, fun e he => h.nm e ((krem_mem C _ e).1 he).1, h.gr, h.rise, by have := h.lenG; omega, ?_⟩
    have : (krem Ch.key C s.data.toList).length ≤ C.length := List.length_filter_le _ _
    have := h.lenC
    show (krem Ch.key C s.data.toList).length ≤ _
    omega
theorem QI.change {n : Nat} {G : List Gr} {C : List Ch} (h : QI n G C) (s : ByteArray) (a : Am) : QI (n + 1) G (changeP G C s a).2 := by
  unfold changeP
  by_cases h0 : (nmdB s && a.okB) = false
  · rw [if_pos h0]; exact h.mono (by omega)
  rw [if_neg h0]
  cases hx : kfnd Ch.key C s.data.toList with
  | none => exact h.mono (by omega)
  | some c =>
    show QI (n + 1) G (if mayP G C ⟨c.n, c.u, c.b, a⟩ (fitsB a c.a) ≠ 0 then (mayP G C ⟨c.n, c.u, c.b, a⟩ (fitsB a c.a), C) else (0, kput Ch.key C ⟨c.n, c.u, c.b, a⟩)).2
    by_cases h2 : mayP G C ⟨c.n, c.u, c.b, a⟩ (fitsB a c.a) ≠ 0
    · rw [if_pos h2]; exact h.mono (by omega)
    rw [if_neg h2]
    have h4 : mayP G C ⟨c.n, c.u, c.b, a⟩ (fitsB a c.a) = 0 := by simpa using h2
    have h3 : nmdB s = true ∧ a.okB = true := by simpa using h0
    have hc := h.nm c (kfnd_mem hx).1
    refine ⟨chI_put h.ch (c := ⟨c.n, c.u, c.b, a⟩) h3.2 h4, fun e he => ?_, h.gr, h.rise, by have := h.lenG; omega, ?_⟩
    · rcases (kput_mem C _ e).1 he with rfl | he
      · exact hc
      · exact h.nm e he.1
    · have := kput_len Ch.key C ⟨c.n, c.u, c.b, a⟩
      have := h.lenC
      show (kput Ch.key C ⟨c.n, c.u, c.b, a⟩).length ≤ _
      omega
end Go.Proofs.Ytmgbailpmcggiaa
