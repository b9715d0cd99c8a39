/- MsFrm. -/
import Derived.Test.YtopkfomlppnpeaaGreatDoorMsCrc
namespace Go.Proofs.YtopkfomlppnpeaaGreatDoor.Ms

theorem le4_len (x : Nat) : (le4 x).length = 4 := rfl
theorem hdr_len (k : UInt8) (n : Nat) : (hdr k n).length = 4 := rfl
theorem frm_len (k : UInt8) (b : List UInt8) : (frm k b).length = 12 + b.length := by unfold frm; simp [le4_len, hdr_len]; omega
theorem four {q : List UInt8} (h : q.length = 4) : ∃ a b c d, q = [a, b, c, d] := by
  match q, h with
  | [a, b, c, d], _ => exact ⟨a, b, c, d, rfl⟩
theorem num4_app {q : List UInt8} (h : q.length = 4) (r : List UInt8) : num4 (q ++ r) = num4 q := by
  obtain ⟨a, b, c, d, rfl⟩ := four h
  rfl
theorem num4_le (x : Nat) (h : x < 4294967296) : num4 (le4 x) = x := by have := num4_le4 h []; simpa using this
theorem num4_set {q : List UInt8} (h : q.length = 4) {j : Nat} (hj : j < q.length) {c : UInt8} (hc : c ≠ q[j]) : num4 (q.set j c) ≠ num4 q := by
  obtain ⟨a0, a1, a2, a3, rfl⟩ := four h
  have key : ∀ x y : UInt8, x ≠ y → x.toNat ≠ y.toNat := fun x y hxy hh => hxy (UInt8.toNat_inj.1 hh)
  have g0 := a0.toNat_lt
  have g1 := a1.toNat_lt
  have g2 := a2.toNat_lt
  have g3 := a3.toNat_lt
  have g := c.toNat_lt
  match j, hj with
  | 0, _ => have := key _ _ hc; simp [num4] at this ⊢; omega
  | 1, _ => have := key _ _ hc; simp [num4] at this ⊢; omega
  | 2, _ => have := key _ _ hc; simp [num4] at this ⊢; omega
  | 3, _ => have := key _ _ hc; simp [num4] at this ⊢; omega
theorem len3_app {h : List UInt8} (hh : h.length = 4) (r : List UInt8) : len3 (h ++ r) = len3 h := by
  obtain ⟨a, b, c, d, rfl⟩ := four hh
  rfl
theorem len3_hdr (k : UInt8) {n : Nat} (h : n < 16777216) : len3 (hdr k n) = n := by
  unfold len3 hdr
  simp
  omega
/-- a frame in its parts -/
theorem frd_parts {h q b t : List UInt8} (hh : h.length = 4) (hq : q.length = 4) (ht : t.length = 4) (hn : len3 h = b.length) :
    frd (h ++ (q ++ (b ++ t))) = if num4 q ≠ more 0 h ∨ 1048576 < b.length then (0, [], 0, 5) else if num4 t ≠ more (more 0 h) b then (0, [], 0, 5) else (h.getD 0 0, b, 12 + b.length, 0) := by
  have e1 : len3 (h ++ (q ++ (b ++ t))) = b.length := by rw [len3_app hh, hn]
  have e2 : (h ++ (q ++ (b ++ t))).length = 12 + b.length := by simp; omega
  have e3 : (h ++ (q ++ (b ++ t))).drop 4 = q ++ (b ++ t) := by rw [List.drop_append, hh]; simp [hh]
  have e4 : (h ++ (q ++ (b ++ t))).take 4 = h := by rw [List.take_append, hh]; simp [hh, List.take_of_length_le]
  have e5 : (h ++ (q ++ (b ++ t))).drop 8 = b ++ t := by
    rw [show (8 : Nat) = 4 + 4 from rfl, ← List.drop_drop, e3, List.drop_append, hq]; simp [hq]
  have e6 : (h ++ (q ++ (b ++ t))).drop (8 + b.length) = t := by
    rw [← List.drop_drop, e5, List.drop_append]; simp
  have e7 : (h ++ (q ++ (b ++ t))).getD 0 0 = h.getD 0 0 := by
    obtain ⟨a, _, _, _, rfl⟩ := four hh
    rfl
  unfold frd
  rw [e1, e2, e3, e4, e5, e6, e7, num4_app hq]
  rw [if_neg (by omega), if_neg (show ¬ 12 + b.length < 12 + b.length by omega)]
  have e8 : (b ++ t).take b.length = b := by simp
  rw [e8]
theorem frd_frm (k : UInt8) {b : List UInt8} (h : b.length ≤ 1048576) : frd (frm k b) = (k, b, 12 + b.length, 0) := by
  unfold frm
  rw [frd_parts (hdr_len _ _) (le4_len _) (le4_len _) (len3_hdr k (by omega)), num4_le _ (more_lt (by omega) _), num4_le _ (more_lt (more_lt (by omega) _) _)]
  rw [if_neg (by intro hh; rcases hh with hh | hh; exact hh rfl; omega), if_neg (fun hh => hh rfl)]
  rfl
theorem frd_cut (k : UInt8) {b : List UInt8} (h : b.length ≤ 1048576) {i : Nat} (hi : i < (frm k b).length) : (frd ((frm k b).take i)).2.2.2 = 4 := by
  rw [frm_len] at hi
  have hl : ((frm k b).take i).length = i := by rw [List.length_take, frm_len]; omega
  unfold frd
  rw [hl]
  by_cases h8 : i < 8
  · rw [if_pos h8]
  rw [if_neg h8]
  have e0 : frm k b = hdr k b.length ++ (le4 (more 0 (hdr k b.length)) ++ (b ++ le4 (more (more 0 (hdr k b.length)) b))) := rfl
  have e1 : len3 ((frm k b).take i) = b.length := by
    have : len3 ((frm k b).take i) = len3 (frm k b) := by
      unfold len3
      simp only [List.getD_eq_getElem?_getD, List.getElem?_take]
      rw [if_pos (by omega), if_pos (by omega), if_pos (by omega)]
    rw [this, e0, len3_app (hdr_len _ _), len3_hdr k (by omega)]
  have e2 : ((frm k b).take i).take 4 = hdr k b.length := by
    rw [List.take_take, Nat.min_eq_left (by omega), e0, List.take_append, hdr_len, List.take_of_length_le (by rw [hdr_len]; exact Nat.le_refl _)]; simp
  have e3 : num4 (((frm k b).take i).drop 4) = more 0 (hdr k b.length) := by
    have : num4 (((frm k b).take i).drop 4) = num4 ((frm k b).drop 4) := by
      unfold num4
      simp only [List.getD_eq_getElem?_getD, List.getElem?_drop, List.getElem?_take]
      rw [if_pos (by omega), if_pos (by omega), if_pos (by omega), if_pos (by omega)]
    rw [this, e0, List.drop_append, hdr_len]
    simp only [Nat.sub_self, List.drop_zero]
    rw [List.drop_of_length_le (by rw [hdr_len]; exact Nat.le_refl _), List.nil_append, num4_app (le4_len _), num4_le _ (more_lt (by omega) _)]
  rw [e1, e2, e3, if_neg (by intro hh; rcases hh with hh | hh; exact hh rfl; omega), if_pos (by omega)]
theorem frd_turn (k : UInt8) {b : List UInt8} (h : b.length ≤ 1048576) {j : Nat} (hj : j < (frm k b).length) {c : UInt8} (hc : c ≠ (frm k b)[j]) : (frd ((frm k b).set j c)).2.2.2 = 5 := by
  have hj' := hj
  rw [frm_len] at hj'
  have e0 : frm k b = hdr k b.length ++ (le4 (more 0 (hdr k b.length)) ++ (b ++ le4 (more (more 0 (hdr k b.length)) b))) := rfl
  obtain ⟨H, hH⟩ : ∃ H, H = hdr k b.length := ⟨_, rfl⟩
  obtain ⟨Q, hQ⟩ : ∃ Q, Q = le4 (more 0 H) := ⟨_, rfl⟩
  obtain ⟨T, hT⟩ : ∃ T, T = le4 (more (more 0 H) b) := ⟨_, rfl⟩
  have lH : H.length = 4 := by rw [hH]; rfl
  have lQ : Q.length = 4 := by rw [hQ]; rfl
  have lT : T.length = 4 := by rw [hT]; rfl
  have nQ : num4 Q = more 0 H := by rw [hQ, num4_le _ (more_lt (by omega) _)]
  have nT : num4 T = more (more 0 H) b := by rw [hT, num4_le _ (more_lt (more_lt (by omega) _) _)]
  have n3 : len3 H = b.length := by rw [hH, len3_hdr k (by omega)]
  rw [← hH, ← hQ, ← hT] at e0
  have hc' : ∀ hh, c ≠ (H ++ (Q ++ (b ++ T)))[j]'hh := fun hh => by simp only [← e0]; exact hc
  rw [e0]
  by_cases h4 : j < 4
  · have hs : (H ++ (Q ++ (b ++ T))).set j c = H.set j c ++ (Q ++ (b ++ T)) := by rw [List.set_append_left _ _ (by omega)]
    have hc2 : c ≠ H[j]'(by omega) := fun e => hc' (by rw [← e0]; exact hj) (by rw [List.getElem_append_left (by omega)]; exact e)
    rw [hs]
    have l4 : (H.set j c).length = 4 := by rw [List.length_set, lH]
    have hne := more_turn (s := 0) (by omega) (l := H) (k := j) (by omega) hc2
    unfold frd
    have e2 : (H.set j c ++ (Q ++ (b ++ T))).length = 12 + b.length := by simp; omega
    have e3 : (H.set j c ++ (Q ++ (b ++ T))).drop 4 = Q ++ (b ++ T) := by rw [List.drop_append, l4]; simp [lH]
    have e4 : (H.set j c ++ (Q ++ (b ++ T))).take 4 = H.set j c := by rw [List.take_append, l4]; simp [List.take_of_length_le, lH]
    rw [e2, e3, e4, num4_app lQ, nQ, if_neg (by omega), if_pos (.inl (fun e => hne e.symm))]
  by_cases h8 : j < 8
  · have hs : (H ++ (Q ++ (b ++ T))).set j c = H ++ (Q.set (j - 4) c ++ (b ++ T)) := by
      rw [List.set_append_right _ _ (by omega), lH, List.set_append_left _ _ (by omega)]
    have hc2 : c ≠ Q[j - 4]'(by omega) := fun e => hc' (by rw [← e0]; exact hj) (by rw [List.getElem_append_right (by omega), List.getElem_append_left (by omega)]; simpa [lH] using e)
    rw [hs, frd_parts lH (by rw [List.length_set, lQ]) lT n3, if_pos (.inl (by rw [← nQ]; exact num4_set lQ (by omega) hc2))]
  by_cases hb : j < 8 + b.length
  · have hs : (H ++ (Q ++ (b ++ T))).set j c = H ++ (Q ++ (b.set (j - 8) c ++ T)) := by
      rw [List.set_append_right _ _ (by omega), lH, List.set_append_right _ _ (by omega), lQ, List.set_append_left _ _ (by omega), show j - 4 - 4 = j - 8 by omega]
    have hc2 : c ≠ b[j - 8]'(by omega) := fun e => hc' (by rw [← e0]; exact hj) (by
      rw [List.getElem_append_right (by omega), List.getElem_append_right (by omega), List.getElem_append_left (by omega)]
      have : j - H.length - Q.length = j - 8 := by omega
      simp only [this]
      exact e)
    rw [hs, frd_parts lH lQ lT (by rw [List.length_set, n3])]
    split
    · rfl
    · rw [if_pos (by rw [nT]; exact fun e => more_turn (more_lt (by omega) _) (by omega) hc2 e.symm)]
  · have hs : (H ++ (Q ++ (b ++ T))).set j c = H ++ (Q ++ (b ++ T.set (j - 8 - b.length) c)) := by
      rw [List.set_append_right _ _ (by omega), lH, List.set_append_right _ _ (by omega), lQ, List.set_append_right _ _ (by omega), show j - 4 - 4 = j - 8 by omega]
    have hc2 : c ≠ T[j - 8 - b.length]'(by omega) := fun e => hc' (by rw [← e0]; exact hj) (by
      rw [List.getElem_append_right (by omega), List.getElem_append_right (by omega), List.getElem_append_right (by omega)]
      have : j - H.length - Q.length - b.length = j - 8 - b.length := by omega
      simp only [this]
      exact e)
    rw [hs, frd_parts lH lQ (by rw [List.length_set, lT]) n3]
    split
    · rfl
    · rw [if_pos (by rw [← nT]; exact num4_set lT (by omega) hc2)]
end Go.Proofs.YtopkfomlppnpeaaGreatDoor.Ms
