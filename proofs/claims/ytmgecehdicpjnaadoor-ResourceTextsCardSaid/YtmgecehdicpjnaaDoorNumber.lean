/- resource.number -/
import Derived.Test.YtmgecehdicpjnaaDoorAddP
import Derived.Test.YtmgecehdicpjnaaDoorShelf
import Derived.Lib.ConvBytes
import Derived.Outline
namespace Go.Proofs.YtmgecehdicpjnaaDoor
open Go.RowKit

/-- is it a digit? -/
def dg (c : UInt8) : Bool := 48 ≤ c.toNat && c.toNat ≤ 57
/-- what the digits say, no more than one above the most -/
def numF (a : Int) (l : List UInt8) : Int := l.foldl (fun a c => min (10 * a + ((c.toNat : Int) - 48)) 1099511627777) a
def numP (l : List UInt8) : Int × Int :=
  if l = [] ∨ (l.head? = some 48 ∧ 1 < l.length) then (0, 5) else if l.all dg = false then (0, 5) else if 1099511627776 < numF 0 l then (0, 9) else (numF 0 l, 0)

/-- '[]byte(s)': where it lies -/
theorem conv_bytes (s : ByteArray) (w : World) : ∃ wq cap, (convert 9 72 (.string s)).run Tryd.prog w = .ok (.slice (some ⟨w.heap.size, 0, none⟩) s.size cap) wq ∧ Below w.heap.size w wq ∧ ∀ j, j < s.size → wq.cell? ⟨w.heap.size, j, none⟩ = some (.int .u8 (s.data.toList.getD j 0).toNat) :=
  ⟨_, _, Lib.run_convert_string_bytes w 9 72 5 s Tryd.underlying9 Tryd.underlying72 Tryd.underlying5,
    ⟨rfl, rfl, rfl, by rw [Lib.bytesWorld_size]; omega, fun j hj => Lib.bytesWorld_at_old w _ s j hj⟩, fun j hj => Lib.bytesWorld_cell w _ s j hj⟩

theorem numF_bd : ∀ (l : List UInt8) (a : Int), 0 ≤ a → a ≤ 1099511627777 → (∀ c ∈ l, dg c = true) → 0 ≤ numF a l ∧ numF a l ≤ 1099511627777
  | [], a, h0, h1, _ => ⟨h0, h1⟩
  | c :: l, a, h0, h1, hd => by
    have hc := hd c (by simp)
    unfold dg at hc
    simp only [Bool.and_eq_true, decide_eq_true_eq] at hc
    exact numF_bd l (min (10 * a + ((c.toNat : Int) - 48)) 1099511627777) (by omega) (by omega) (fun x hx => hd x (by simp [hx]))
theorem numF_snoc (a : Int) (l : List UInt8) (c : UInt8) : numF a (l ++ [c]) = min (10 * numF a l + ((c.toNat : Int) - 48)) 1099511627777 := by simp [numF]

theorem numP_go {l : List UInt8} (h1 : ¬ (l = [] ∨ (l.head? = some 48 ∧ 1 < l.length))) (h2 : l.all dg = true) : numP l = if 1099511627776 < numF 0 l then (0, 9) else (numF 0 l, 0) := by
  unfold numP; rw [if_neg h1, if_neg (by rw [h2]; decide)]
theorem numP_bad {l : List UInt8} {k : Nat} (hk : k < l.length) (h : dg l[k] = false) : numP l = (0, 5) := by
  unfold numP
  split
  · rfl
  · rw [if_pos]
    rw [← Bool.not_eq_true, List.all_eq_true]
    intro hh
    have := hh _ (List.getElem_mem hk)
    rw [h] at this; cases this

set_option maxRecDepth 100000 in
set_option maxHeartbeats 1000000 in
theorem number_go (s : ByteArray) (w : World) (hs : s.size ≤ maxLen) (h0 : 0 < s.size) (h1 : ¬ (s.data.toList.head? = some 48 ∧ 1 < s.data.toList.length)) :
    Calls Tryd.prog 53 #[.string s] w fun e w' => e = .returned (.tuple #[.int .i64 (numP s.data.toList).1, .int .i64 (numP s.data.toList).2]) ∧ Below w.heap.size w w' := by
  unfold maxLen at hs
  obtain ⟨wq, cap, hcv, hbl, hcell⟩ := conv_bytes s w
  obtain ⟨l, hl⟩ : ∃ l, l = s.data.toList := ⟨_, rfl⟩
  have hsz : s.size = l.length := by rw [hl]; simp
  have HNE : Hid (¬ (l = [] ∨ (l.head? = some 48 ∧ 1 < l.length))) := Lib.hid (by
    rw [← hl] at h1
    rintro (h | h)
    · have : l.length = 0 := by rw [h]; rfl
      omega
    · exact h1 h)
  have HB := Lib.hid hbl
  have HC : Hid (∀ j (h : j < l.length), wq.cell? ⟨w.heap.size, j, none⟩ = some (.int .u8 (l[j].toNat : Int))) := Lib.hid (fun j hj => by
    rw [hcell j (by omega), ← hl]
    simp [List.getD, hj])
  have e0 : s.toList.isEmpty = false := by rw [Lib.toList_data, ← hl]; cases l with | nil => (have : ([] : List UInt8).length = 0 := rfl; omega) | cons => rfl
  have e1 : ¬ s.toList = [] := by simpa using e0
  have e3 : s[0].toNat = 48 → s.size ≤ 1 := fun h => by
    apply Nat.le_of_not_lt
    intro hlt
    refine h1 ⟨?_, by rw [← hl]; omega⟩
    rw [List.head?_eq_getElem?]
    have : s.data.toList[0]? = some s[0] := by
      rw [List.getElem?_eq_getElem (by rw [← hl]; omega)]; rfl
    rw [this]
    congr 1
    exact UInt8.toNat_inj.1 (by rw [h]; rfl)
  rw [← hl]
  have HSZ := Lib.hid hsz
  have hl1 : l.length ≤ 9223372036854775807 := by omega
  clear hbl hcell h1 hl hsz
  by_cases h48 : s[0].toNat = 48
  · have e4 := e3 h48
    have e5 : (s.size : Int) ≤ 1 := by omega
    clear e3
    go_enter Tryd.func53, Tryd.ntmps53
    go_wp2
    go_loop [4, 22] (fun x i => ∃ k : Nat, k ≤ l.length ∧ i = .int .i64 (k : Int) ∧ x = .int .i64 (numF 0 (l.take k)) ∧ Hid ((l.take k).all dg = true)) (fun _ i => l.length - (intOf i).toNat)
    case atStart => exact ⟨0, Nat.zero_le _, rfl, rfl, by simp [Hid]⟩
    case round =>
      obtain ⟨k, hk, rfl, rfl, HD⟩ := hrel
      have nb := numF_bd (l.take k) 0 (by omega) (by omega) (List.all_eq_true.1 HD.out)
      obtain ⟨n1, n2⟩ := nb
      by_cases hlt : k < l.length
      · have hc := HC.out k hlt
        have i0 : (k : Int) < (s.size : Int) := by have := HSZ.out; omega
        have HS : Hid (numF 0 (l.take (k + 1)) = min (10 * numF 0 (l.take k) + ((l[k].toNat : Int) - 48)) 1099511627777) := Lib.hid (by rw [List.take_succ_eq_append_getElem hlt, numF_snoc])
        obtain ⟨m, hm⟩ : ∃ m, m = numF 0 (l.take k) := ⟨_, rfl⟩
        obtain ⟨c, hcc⟩ : ∃ c, c = l[k] := ⟨_, rfl⟩
        rw [← hm] at HS n1 n2
        rw [← hcc] at HS hc
        rw [← hm]
        have HCC := Lib.hid hcc
        have HM := Lib.hid hm
        have cb := c.toNat_lt
        clear hm hcc
        by_cases hd1 : c.toNat < 48
        · have HR : Hid (numP l = (0, 5)) := Lib.hid (numP_bad hlt (by rw [← HCC.out]; unfold dg; simp; omega))
          have d1 : decide ((c.toNat : Int) < 48) = true := by simp; omega
          go_wp2
          go_ret2
          exact ⟨by rw [HR.out]; rfl, HB.out⟩
        · by_cases hd2 : 57 < c.toNat
          · have HR : Hid (numP l = (0, 5)) := Lib.hid (numP_bad hlt (by rw [← HCC.out]; unfold dg; simp; omega))
            have d1 : decide ((c.toNat : Int) < 48) = false := by simp; omega
            have d2 : decide ((57 : Int) < (c.toNat : Int)) = true := by simp; omega
            go_wp2
            go_ret2
            exact ⟨by rw [HR.out]; rfl, HB.out⟩
          · have HD2 : Hid ((l.take (k + 1)).all dg = true) := Lib.hid (by rw [List.take_succ_eq_append_getElem hlt, List.all_append, HD.out, ← HCC.out]; unfold dg; simp; omega)
            have d1 : decide ((c.toNat : Int) < 48) = false := by simp; omega
            have d2 : decide ((57 : Int) < (c.toNat : Int)) = false := by simp; omega
            have v1 : (48 : Int) ≤ (c.toNat : Int) := by omega
            have v2 : (c.toNat : Int) ≤ 57 := by omega
            have w1 : IntKind.u8.wrap ((c.toNat : Int) - 48) = (c.toNat : Int) - 48 := by rw [IntKind.wrap_u8]; omega
            clear d1 d2
            have d1 : decide ((c.toNat : Int) < 48) = false := by simp; omega
            have d2 : decide ((57 : Int) < (c.toNat : Int)) = false := by simp; omega
            go_wp2
            go_round
            case rel =>
              exact ⟨k + 1, hlt, by go_num, by rw [HS.out], HD2⟩
            case measure => simp [intOf]; omega
      · obtain rfl : k = l.length := by omega
        have i0 : decide (l.length < s.size) = false := by have := HSZ.out; simp; omega
        have HN := Lib.hid (numP_go HNE.out (by have := HD.out; rwa [List.take_length] at this))
        rw [List.take_length] at n1 n2 ⊢
        obtain ⟨m, hm⟩ : ∃ m, m = numF 0 l := ⟨_, rfl⟩
        rw [← hm] at HN n1 n2 ⊢
        clear hm
        by_cases hov : 1099511627776 < m
        · go_wp2
          go_ret2
          exact ⟨by rw [HN.out, if_pos hov]; rfl, HB.out⟩
        · have hd : decide (1099511627776 < m) = false := by simpa using hov
          go_wp2
          go_ret2
          exact ⟨by rw [HN.out, if_neg (by omega)]; rfl, HB.out⟩
  · clear e3
    go_enter Tryd.func53, Tryd.ntmps53
    go_wp2
    go_loop [4, 22] (fun x i => ∃ k : Nat, k ≤ l.length ∧ i = .int .i64 (k : Int) ∧ x = .int .i64 (numF 0 (l.take k)) ∧ Hid ((l.take k).all dg = true)) (fun _ i => l.length - (intOf i).toNat)
    case atStart => exact ⟨0, Nat.zero_le _, rfl, rfl, by simp [Hid]⟩
    case round =>
      obtain ⟨k, hk, rfl, rfl, HD⟩ := hrel
      have nb := numF_bd (l.take k) 0 (by omega) (by omega) (List.all_eq_true.1 HD.out)
      obtain ⟨n1, n2⟩ := nb
      by_cases hlt : k < l.length
      · have hc := HC.out k hlt
        have i0 : (k : Int) < (s.size : Int) := by have := HSZ.out; omega
        have HS : Hid (numF 0 (l.take (k + 1)) = min (10 * numF 0 (l.take k) + ((l[k].toNat : Int) - 48)) 1099511627777) := Lib.hid (by rw [List.take_succ_eq_append_getElem hlt, numF_snoc])
        obtain ⟨m, hm⟩ : ∃ m, m = numF 0 (l.take k) := ⟨_, rfl⟩
        obtain ⟨c, hcc⟩ : ∃ c, c = l[k] := ⟨_, rfl⟩
        rw [← hm] at HS n1 n2
        rw [← hcc] at HS hc
        rw [← hm]
        have HCC := Lib.hid hcc
        have HM := Lib.hid hm
        have cb := c.toNat_lt
        clear hm hcc
        by_cases hd1 : c.toNat < 48
        · have HR : Hid (numP l = (0, 5)) := Lib.hid (numP_bad hlt (by rw [← HCC.out]; unfold dg; simp; omega))
          have d1 : decide ((c.toNat : Int) < 48) = true := by simp; omega
          go_wp2
          go_ret2
          exact ⟨by rw [HR.out]; rfl, HB.out⟩
        · by_cases hd2 : 57 < c.toNat
          · have HR : Hid (numP l = (0, 5)) := Lib.hid (numP_bad hlt (by rw [← HCC.out]; unfold dg; simp; omega))
            have d1 : decide ((c.toNat : Int) < 48) = false := by simp; omega
            have d2 : decide ((57 : Int) < (c.toNat : Int)) = true := by simp; omega
            go_wp2
            go_ret2
            exact ⟨by rw [HR.out]; rfl, HB.out⟩
          · have HD2 : Hid ((l.take (k + 1)).all dg = true) := Lib.hid (by rw [List.take_succ_eq_append_getElem hlt, List.all_append, HD.out, ← HCC.out]; unfold dg; simp; omega)
            have d1 : decide ((c.toNat : Int) < 48) = false := by simp; omega
            have d2 : decide ((57 : Int) < (c.toNat : Int)) = false := by simp; omega
            have v1 : (48 : Int) ≤ (c.toNat : Int) := by omega
            have v2 : (c.toNat : Int) ≤ 57 := by omega
            have w1 : IntKind.u8.wrap ((c.toNat : Int) - 48) = (c.toNat : Int) - 48 := by rw [IntKind.wrap_u8]; omega
            clear d1 d2
            have d1 : decide ((c.toNat : Int) < 48) = false := by simp; omega
            have d2 : decide ((57 : Int) < (c.toNat : Int)) = false := by simp; omega
            go_wp2
            go_round
            case rel =>
              exact ⟨k + 1, hlt, by go_num, by rw [HS.out], HD2⟩
            case measure => simp [intOf]; omega
      · obtain rfl : k = l.length := by omega
        have i0 : decide (l.length < s.size) = false := by have := HSZ.out; simp; omega
        have HN := Lib.hid (numP_go HNE.out (by have := HD.out; rwa [List.take_length] at this))
        rw [List.take_length] at n1 n2 ⊢
        obtain ⟨m, hm⟩ : ∃ m, m = numF 0 l := ⟨_, rfl⟩
        rw [← hm] at HN n1 n2 ⊢
        clear hm
        by_cases hov : 1099511627776 < m
        · go_wp2
          go_ret2
          exact ⟨by rw [HN.out, if_pos hov]; rfl, HB.out⟩
        · have hd : decide (1099511627776 < m) = false := by simpa using hov
          go_wp2
          go_ret2
          exact ⟨by rw [HN.out, if_neg (by omega)]; rfl, HB.out⟩

set_option maxRecDepth 100000 in
set_option maxHeartbeats 1000000 in
theorem number_any (s : ByteArray) (w : World) (hs : s.size ≤ maxLen) :
    Calls Tryd.prog 53 #[.string s] w fun e w' => e = .returned (.tuple #[.int .i64 (numP s.data.toList).1, .int .i64 (numP s.data.toList).2]) ∧ Below w.heap.size w w' := by
  by_cases h0 : s.size = 0
  · have e : s.data.toList = [] := List.eq_nil_of_length_eq_zero (by simpa using h0)
    have HR : Hid (numP s.data.toList = (0, 5)) := Lib.hid (by rw [e]; rfl)
    have e0 : s.toList.isEmpty = true := by rw [Lib.toList_data, e]; rfl
    have e1 : s.toList = [] := by simpa using e0
    clear e h0
    go_enter Tryd.func53, Tryd.ntmps53
    go_wp2
    go_ret2
    exact ⟨by rw [HR.out]; rfl, Below.refl _ _⟩
  · by_cases h1 : s.data.toList.head? = some 48 ∧ 1 < s.data.toList.length
    · have HR : Hid (numP s.data.toList = (0, 5)) := Lib.hid (by unfold numP; rw [if_pos (.inr h1)])
      have h2 : 1 < s.size := by have := h1.2; simpa using this
      have h3 : s[0].toNat = 48 := by
        have := h1.1
        rw [List.head?_eq_getElem?, List.getElem?_eq_getElem (by omega)] at this
        have e : s[0] = 48 := Option.some.inj this
        rw [e]; rfl
      have h4 : 0 < s.size := by omega
      have e0 : s.toList.isEmpty = false := by rw [Lib.toList_data]; cases h : s.data.toList with | nil => (rw [h] at h1; simp at h1) | cons => rfl
      have e1 : ¬ s.toList = [] := by simpa using e0
      clear h1 h0
      unfold maxLen at hs
      go_enter Tryd.func53, Tryd.ntmps53
      go_wp2
      go_ret2
      exact ⟨by rw [HR.out]; rfl, Below.refl _ _⟩
    · exact number_go s w hs (by omega) h1
end Go.Proofs.YtmgecehdicpjnaaDoor
