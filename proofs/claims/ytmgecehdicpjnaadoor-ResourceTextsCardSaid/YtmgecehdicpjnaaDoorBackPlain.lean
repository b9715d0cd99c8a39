/- Amounts that are told are read back: in plain Lean. -/
import Derived.Test.YtmgecehdicpjnaaDoorParsePlain
import Derived.Test.YtmgecehdicpjnaaDoorSumPlain
namespace Go.Proofs.YtmgecehdicpjnaaDoor
open Go.RowKit

theorem dig_small : ∀ v, v < 10 → dg (UInt8.ofNat (48 + v)) = true ∧ (UInt8.ofNat (48 + v)).toNat = 48 + v := by decide
theorem dec_facts (u : Nat) : u ≤ 1099511627776 →
    (∀ c ∈ Lib.decDigits u, dg c = true) ∧ numF 0 (Lib.decDigits u) = (u : Int) ∧ Lib.decDigits u ≠ [] ∧ (0 < u → (Lib.decDigits u).head? ≠ some 48) := by
  induction u using Nat.strongRecOn with
  | _ u ih =>
    intro hu
    by_cases h : u < 10
    · obtain ⟨k1, k2⟩ := dig_small u h
      rw [Lib.decDigits, dif_pos h]
      refine ⟨fun c hc => ?_, ?_, by simp, fun h0 he => ?_⟩
      · simp only [List.mem_singleton] at hc
        subst hc; exact k1
      · simp only [numF, List.foldl_cons, List.foldl_nil, k2]
        omega
      · simp only [List.head?_cons, Option.some.injEq] at he
        rw [he] at k2
        have : (48 : UInt8).toNat = 48 := rfl
        omega
    · obtain ⟨h1, h2, h3, h4⟩ := ih (u / 10) (by omega) (by omega)
      obtain ⟨k1, k2⟩ := dig_small (u % 10) (by omega)
      rw [Lib.decDigits, dif_neg h]
      refine ⟨fun c hc => ?_, ?_, by simp, fun h0 he => ?_⟩
      · rw [List.mem_append] at hc
        rcases hc with hc | hc
        · exact h1 c hc
        · simp only [List.mem_singleton] at hc
          subst hc; exact k1
      · rw [numF_snoc, h2, k2]
        omega
      · cases hl : Lib.decDigits (u / 10) with
        | nil => exact h3 hl
        | cons c l =>
          rw [hl] at he h4
          exact h4 (by omega) he
theorem numP_itoa {v : Int} (h0 : 0 < v) (h1 : v ≤ 1099511627776) : numP (Lib.itoa v) = (v, 0) ∧ ∀ c ∈ Lib.itoa v, dg c = true := by
  obtain ⟨u, rfl⟩ : ∃ u : Nat, v = u := ⟨v.toNat, by omega⟩
  rw [Lib.itoa_nonneg]
  obtain ⟨k1, k2, k3, k4⟩ := dec_facts u (by omega)
  refine ⟨?_, k1⟩
  rw [numP_go (by rintro (h | h); exact k3 h; exact k4 (by omega) h.1) (List.all_eq_true.2 k1), k2, if_neg (by omega)]

/-- an entry's text -/
def tx (p : Nat × Int) : List UInt8 := (nmS p.1).data.toList ++ 61 :: Lib.itoa p.2
def entOk (p : Nat × Int) : Prop := p.1 < 4 ∧ 0 < p.2 ∧ p.2 ≤ 1099511627776
theorem tx_keyL {p : Nat × Int} (h : p.1 < 4) : keyL (tx p) = (nmS p.1).data.toList ∧ digL (tx p) = Lib.itoa p.2 := by
  obtain ⟨k, v⟩ := p
  match k, h with
  | 0, _ => exact ⟨rfl, rfl⟩
  | 1, _ => exact ⟨rfl, rfl⟩
  | 2, _ => exact ⟨rfl, rfl⟩
  | 3, _ => exact ⟨rfl, rfl⟩
theorem tx_part {p : Nat × Int} (h : entOk p) : partR (tx p) = (p.1, p.2, 0) := by
  rw [partR_yes h.1 (tx_keyL h.1).1, (tx_keyL h.1).2, (numP_itoa h.2.1 h.2.2).1]
theorem nm_no : ∀ k, k < 4 → ∀ c ∈ (nmS k).data.toList, (c != 32) = true := by
  intro k hk
  match k, hk with
  | 0, _ => decide
  | 1, _ => decide
  | 2, _ => decide
  | 3, _ => decide
theorem tx_no {p : Nat × Int} (h : entOk p) : ∀ c ∈ tx p, (c != 32) = true := by
  intro c hc
  unfold tx at hc
  rw [List.mem_append, List.mem_cons] at hc
  rcases hc with hc | rfl | hc
  · exact nm_no _ h.1 c hc
  · rfl
  · have := (numP_itoa h.2.1 h.2.2).2 c hc
    unfold dg at this
    simp only [Bool.and_eq_true, decide_eq_true_eq] at this
    simp only [bne_iff_ne, ne_eq]
    rintro rfl
    have : (32 : UInt8).toNat = 32 := rfl
    omega
theorem tx_head {p : Nat × Int} (h : p.1 < 4) : ∃ c r, tx p = c :: r ∧ c ≠ 32 ∧ c ≠ 110 := by
  obtain ⟨k, v⟩ := p
  match k, h with
  | 0, _ => exact ⟨_, _, rfl, by decide, by decide⟩
  | 1, _ => exact ⟨_, _, rfl, by decide, by decide⟩
  | 2, _ => exact ⟨_, _, rfl, by decide, by decide⟩
  | 3, _ => exact ⟨_, _, rfl, by decide, by decide⟩

def jn (ps : List (Nat × Int)) : List UInt8 := Lib.join (ps.map tx) [32]
theorem jn_one (p : Nat × Int) : jn [p] = tx p := by
  unfold jn
  rw [List.map_cons, Lib.join_cons]
  simp [Lib.joinTail]
theorem jn_more (p q : Nat × Int) (qs : List (Nat × Int)) : jn (p :: q :: qs) = tx p ++ 32 :: jn (q :: qs) := by
  unfold jn
  rw [List.map_cons, Lib.join_cons, List.map_cons, Lib.join_cons]
  simp [Lib.joinTail]
theorem jn_head {ps : List (Nat × Int)} (h0 : ps ≠ []) (h : ∀ p ∈ ps, p.1 < 4) : ∃ c r, jn ps = c :: r ∧ c ≠ 32 ∧ c ≠ 110 := by
  match ps, h0 with
  | [p], _ =>
    rw [jn_one]
    exact tx_head (h p (by simp))
  | p :: q :: qs, _ =>
    rw [jn_more]
    obtain ⟨c, r, hc, h1⟩ := tx_head (h p (by simp))
    exact ⟨c, r ++ 32 :: jn (q :: qs), by rw [hc]; rfl, h1⟩
theorem jn_len : ∀ ps : List (Nat × Int), (∀ p ∈ ps, p.1 < 4) → ps.length ≤ (jn ps).length
  | [], _ => by simp
  | [p], h => by
    obtain ⟨c, r, hc, -⟩ := jn_head (ps := [p]) (by simp) h
    rw [hc]; simp
  | p :: q :: qs, h => by
    have := jn_len (q :: qs) (fun x hx => h x (by simp at hx ⊢; exact .inr hx))
    rw [jn_more]
    simp only [List.length_append, List.length_cons] at *
    omega

theorem sn_put (s : Sn) {j k : Nat} (hj : j < 4) (hk : k < 4) (h : j ≠ k) : (s.put k).get j = s.get j := by
  match j, hj, k, hk, h with
  | 0, _, 0, _, h => exact absurd rfl h
  | 0, _, 1, _, _ => rfl
  | 0, _, 2, _, _ => rfl
  | 0, _, 3, _, _ => rfl
  | 1, _, 0, _, _ => rfl
  | 1, _, 1, _, h => exact absurd rfl h
  | 1, _, 2, _, _ => rfl
  | 1, _, 3, _, _ => rfl
  | 2, _, 0, _, _ => rfl
  | 2, _, 1, _, _ => rfl
  | 2, _, 2, _, h => exact absurd rfl h
  | 2, _, 3, _, _ => rfl
  | 3, _, 0, _, _ => rfl
  | 3, _, 1, _, _ => rfl
  | 3, _, 2, _, _ => rfl
  | 3, _, 3, _, h => exact absurd rfl h
theorem am_put (x : Am) (v : Int) {j k : Nat} (hj : j < 4) (hk : k < 4) : (x.put v k).get j = if j = k then v else x.get j := by
  match j, hj, k, hk with
  | 0, _, 0, _ => rfl
  | 0, _, 1, _ => rfl
  | 0, _, 2, _ => rfl
  | 0, _, 3, _ => rfl
  | 1, _, 0, _ => rfl
  | 1, _, 1, _ => rfl
  | 1, _, 2, _ => rfl
  | 1, _, 3, _ => rfl
  | 2, _, 0, _ => rfl
  | 2, _, 1, _ => rfl
  | 2, _, 2, _ => rfl
  | 2, _, 3, _ => rfl
  | 3, _, 0, _ => rfl
  | 3, _, 1, _ => rfl
  | 3, _, 2, _ => rfl
  | 3, _, 3, _ => rfl

theorem part_zero {p : Nat × Int} (h : entOk p) {sn : Sn} (hs : sn.get p.1 = false) : partE (tx p) sn = 0 := by
  unfold partE
  rw [tx_part h]
  simp [hs]
theorem parse_back : ∀ (ps : List (Nat × Int)) (n a : Nat) (f : Am) (sn : Sn), ps ≠ [] → ps.length ≤ n → (∀ p ∈ ps, entOk p) → (ps.map (·.1)).Nodup → (∀ p ∈ ps, sn.get p.1 = false) →
    parseF n (jn ps) a f sn = (ps.foldl (fun f p => f.put p.2 p.1) f, 0, 0)
  | [], _, _, _, _, h, _, _, _, _ => absurd rfl h
  | [p], n, a, f, sn, _, hn, ho, _, hs => by
    obtain ⟨m, rfl⟩ : ∃ m, n = m + 1 := ⟨n - 1, by simp at hn; omega⟩
    have hp := ho p (by simp)
    have h1 : wordL (tx p) = tx p := by
      unfold wordL
      have := List.takeWhile_append_of_pos (p := fun c : UInt8 => c != 32) (l₁ := tx p) (l₂ := []) (tx_no hp)
      simpa using this
    have h2 : restL (tx p) = [] := by
      unfold restL
      have := List.dropWhile_append_of_pos (p := fun c : UInt8 => c != 32) (l₁ := tx p) (l₂ := []) (tx_no hp)
      simpa using this
    rw [jn_one, parse_end (by rw [h1]; exact part_zero hp (hs p (by simp))) h2, h1, tx_part hp]
    rfl
  | p :: q :: qs, n, a, f, sn, _, hn, ho, hd, hs => by
    obtain ⟨m, rfl⟩ : ∃ m, n = m + 1 := ⟨n - 1, by simp at hn; omega⟩
    have hp := ho p (by simp)
    have h1 : wordL (tx p ++ 32 :: jn (q :: qs)) = tx p := by
      unfold wordL
      have := List.takeWhile_append_of_pos (p := fun c : UInt8 => c != 32) (l₁ := tx p) (l₂ := 32 :: jn (q :: qs)) (tx_no hp)
      rw [this]; simp
    have h2 : restL (tx p ++ 32 :: jn (q :: qs)) = 32 :: jn (q :: qs) := by
      unfold restL
      have := List.dropWhile_append_of_pos (p := fun c : UInt8 => c != 32) (l₁ := tx p) (l₂ := 32 :: jn (q :: qs)) (tx_no hp)
      rw [this]; simp
    obtain ⟨c, r, hc, hc1, -⟩ := jn_head (ps := q :: qs) (by simp) (fun x hx => (ho x (List.mem_cons_of_mem _ hx)).1)
    have h3 : (32 :: jn (q :: qs)).dropWhile (· == 32) = jn (q :: qs) := by
      rw [hc]
      simp [hc1]
    have hne : jn (q :: qs) ≠ [] := by rw [hc]; simp
    rw [jn_more, parse_go (by rw [h1]; exact part_zero hp (hs p (by simp))) (by rw [h2]; simp) (by rw [h2, h3]; exact hne), h1, h2, h3, tx_part hp]
    rw [List.map_cons, List.nodup_cons] at hd
    rw [parse_back (q :: qs) m _ _ _ (by simp) (by simp at hn ⊢; omega) (fun x hx => ho x (List.mem_cons_of_mem _ hx)) hd.2 (fun x hx => by
      have h7 := ho x (List.mem_cons_of_mem _ hx)
      rw [sn_put sn h7.1 hp.1 (fun e => hd.1 (e ▸ List.mem_map_of_mem hx))]
      exact hs x (List.mem_cons_of_mem _ hx))]
    rfl

/-- the entries of amounts -/
def ents (x : Am) : Nat → List (Nat × Int)
  | 0 => []
  | k + 1 => if 0 < x.get k then ents x k ++ [(k, x.get k)] else ents x k
theorem partB_tx (x : Am) (k : Nat) : (partB x k).data.toList = tx (k, x.get k) := by
  unfold partB tx
  simp [ByteArray.data_append]
theorem parts_ents (x : Am) : ∀ k, (parts x k).map (·.data.toList) = (ents x k).map tx
  | 0 => rfl
  | k + 1 => by
    have ih := parts_ents x k
    unfold parts ents
    split
    · rw [List.map_append, List.map_append, ih, List.map_cons, List.map_cons, partB_tx]; rfl
    · exact ih
theorem ents_in (x : Am) : ∀ k, ∀ p ∈ ents x k, p.1 < k ∧ p.2 = x.get p.1 ∧ 0 < p.2
  | 0, p, h => by cases h
  | k + 1, p, h => by
    have ih := ents_in x k
    unfold ents at h
    split at h
    · rename_i h0
      rw [List.mem_append, List.mem_singleton] at h
      rcases h with h | rfl
      · have := ih p h
        exact ⟨by omega, this.2⟩
      · exact ⟨Nat.lt_succ_self _, rfl, h0⟩
    · have := ih p h
      exact ⟨by omega, this.2⟩
theorem ents_nodup (x : Am) : ∀ k, ((ents x k).map (·.1)).Nodup
  | 0 => List.nodup_nil
  | k + 1 => by
    have ih := ents_nodup x k
    unfold ents
    split
    · rw [List.map_append, List.nodup_append]
      refine ⟨ih, by simp, ?_⟩
      intro a ha b hb e
      obtain ⟨p, hp, rfl⟩ := List.mem_map.1 ha
      simp at hb
      have := (ents_in x k p hp).1
      omega
    · exact ih
theorem ents_fold (x f : Am) {j : Nat} (hj : j < 4) : ∀ k, k ≤ 4 → ((ents x k).foldl (fun f p => f.put p.2 p.1) f).get j = if j < k ∧ 0 < x.get j then x.get j else f.get j
  | 0, _ => by simp [ents]
  | k + 1, hk => by
    have ih := ents_fold x f hj k (by omega)
    unfold ents
    by_cases h0 : 0 < x.get k
    · rw [if_pos h0, List.foldl_append]
      simp only [List.foldl_cons, List.foldl_nil]
      rw [am_put _ _ hj (by omega), ih]
      by_cases hjk : j = k
      · subst hjk
        rw [if_pos rfl, if_pos ⟨by omega, h0⟩]
      · rw [if_neg hjk]
        by_cases h2 : j < k ∧ 0 < x.get j
        · rw [if_pos h2, if_pos ⟨by omega, h2.2⟩]
        · rw [if_neg h2, if_neg (fun h3 => h2 ⟨by omega, h3.2⟩)]
    · rw [if_neg h0, ih]
      by_cases h2 : j < k ∧ 0 < x.get j
      · rw [if_pos h2, if_pos ⟨by omega, h2.2⟩]
      · rw [if_neg h2, if_neg (fun h3 => by
          by_cases hjk : j = k
          · subst hjk; exact h0 h3.2
          · exact h2 ⟨by omega, h3.2⟩)]

theorem text_back (x : Am) (hx : x.okB = true) : parseP (textS x) = (x, 0, 0) := by
  have hfold : (ents x 4).foldl (fun f p => f.put p.2 p.1) .zero = x := Am.ext_get fun i hi => by
    rw [ents_fold x .zero hi 4 (Nat.le_refl _)]
    by_cases h2 : i < 4 ∧ 0 < x.get i
    · rw [if_pos h2]
    · rw [if_neg h2]
      have h3 := ok_get hx hi
      have h4 : x.get i = 0 := by
        have : ¬ 0 < x.get i := fun h => h2 ⟨hi, h⟩
        omega
      rw [h4]
      match i, hi with
      | 0, _ => rfl
      | 1, _ => rfl
      | 2, _ => rfl
      | 3, _ => rfl
  have hpe := parts_ents x 4
  unfold textS
  by_cases h0 : parts x 4 = []
  · rw [if_pos h0]
    rw [h0] at hpe
    have he : ents x 4 = [] := by
      cases h : ents x 4 with
      | nil => rfl
      | cons a l => rw [h] at hpe; cases hpe
    rw [he] at hfold
    rw [← hfold]
    rfl
  · rw [if_neg h0, hpe]
    have hne : ents x 4 ≠ [] := fun h => by
      rw [h] at hpe
      exact h0 (by cases h2 : parts x 4 with | nil => rfl | cons a l => rw [h2] at hpe; cases hpe)
    have hok : ∀ p ∈ ents x 4, entOk p := fun p hp => by
      obtain ⟨h1, h2, h3⟩ := ents_in x 4 p hp
      have := ok_get hx h1
      exact ⟨h1, h3, by rw [h2]; omega⟩
    obtain ⟨c, r, hc, hc1, hc2⟩ := jn_head hne (fun p hp => (hok p hp).1)
    have hjl := jn_len (ents x 4) (fun p hp => (hok p hp).1)
    show parseP (jn (ents x 4)) = _
    unfold parseP
    rw [if_neg (by rw [hc]; intro e; injection e with e1; exact hc2 e1), if_neg (by rw [hc]; rintro (e | e); cases e; simp at e; exact hc1 e)]
    rw [parse_back (ents x 4) _ 0 .zero _ hne (by omega) hok (ents_nodup x 4) (fun p hp => by
      have := (hok p hp).1
      obtain ⟨k, v⟩ := p
      match k, this with
      | 0, _ => rfl
      | 1, _ => rfl
      | 2, _ => rfl
      | 3, _ => rfl), hfold]
end Go.Proofs.YtmgecehdicpjnaaDoor
