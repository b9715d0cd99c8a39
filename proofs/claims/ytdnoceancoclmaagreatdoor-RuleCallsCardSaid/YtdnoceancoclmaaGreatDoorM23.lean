/- , laid together: RdDec, RuToldL. -/
import Derived.Test.YtdnoceancoclmaaGreatDoorM00
import Derived.Test.YtdnoceancoclmaaGreatDoorM13
import Derived.Deep.RegionWith
import Derived.Lib.ItoaLen
import Derived.Test.YtdnoceancoclmaaGreatDoorM16
namespace Go.Proofs.YtdnoceancoclmaaGreatDoor.Ru
open Go.RowKit Go.Proofs.YtdnoceancoclmaaGreatDoor

theorem ddrew {n : Nat} {a w : World} (h : Below n a w) : Below n a w.drew := Below.drewN' h 1
theorem drd_one (w : World) (c : UInt8) (n : Int) (hn : n = (c.toNat : Int)) : Rd (w.alloc (.cells #[.int .u8 n] 5)) (.slice (some ⟨w.heap.size, 0, none⟩) 1 1) [c] := by
  subst hn
  exact row_block (us := [B c]) (heap_alloc_new w _) (by simp [maxLen]) (by intro u hu; simp at hu; subst hu; rfl)
theorem dconv_one (w : World) (c : UInt8) (n : Int) (hn : n = (c.toNat : Int)) : (convert 76 9 (.slice (some ⟨w.heap.size, 0, none⟩) 1 1)).run Tryz.prog (w.alloc (.cells #[.int .u8 n] 5)) = .ok (.string ⟨#[c]⟩) (w.alloc (.cells #[.int .u8 n] 5)) :=
  run_str (drd_one w c n hn) Tryz.underlying76 Tryz.underlying5 9 Tryz.underlying9

theorem ddec_len (u : Nat) (hu : u ≤ 1099511627776) : (Lib.decDigits u).length ≤ 21 := by
  have := Lib.itoa_length_le (u : Int) (by omega) (by omega)
  rwa [Lib.itoa_nonneg] at this

set_option maxRecDepth 100000 in
set_option maxHeartbeats 1000000 in
theorem dnum_any (u : Nat) : u ≤ 1099511627776 → ∀ w, Calls Tryz.prog 45 #[.int .i64 (u : Int)] w fun e w' => e = .returned (.string ⟨(Lib.decDigits u).toArray⟩) ∧ Below w.heap.size w w' := by
  induction u using Nat.strongRecOn with
  | _ u ih =>
    intro hu w
    by_cases h : u < 10
    · have hk := (dig_one u h).2
      obtain ⟨c, hc⟩ : ∃ c, c = UInt8.ofNat (48 + u) := ⟨_, rfl⟩
      rw [← hc] at hk
      have HD : Hid (Lib.decDigits u = [c]) := Lib.hid (by rw [Lib.decDigits, dif_pos h, hc])
      have hcv := fun w => dconv_one w c (48 + (u : Int)) (by rw [hk]; omega)
      have s1 : IntKind.i64.wrap (48 + (u : Int)) = 48 + (u : Int) := IntWalk.i64_in _ (by omega)
      have s2 : IntKind.u8.wrap (48 + (u : Int)) = 48 + (u : Int) := IntWalk.u8_in _ (by omega)
      have d1 : decide ((u : Int) < 10) = true := by simp; omega
      clear ih hk hc
      go_enter Tryz.func45, Tryz.ntmps45
      go_wp2_with fail
      go_ret
      exact ⟨by rw [HD.out]; rfl, below_alloc w _⟩
    · have hk := (dig_one (u % 10) (by omega)).2
      obtain ⟨c, hc⟩ : ∃ c, c = UInt8.ofNat (48 + u % 10) := ⟨_, rfl⟩
      obtain ⟨sQ, hsQ⟩ : ∃ sQ : ByteArray, sQ = ⟨(Lib.decDigits (u / 10)).toArray⟩ := ⟨_, rfl⟩
      have HD : Hid ((⟨(Lib.decDigits u).toArray⟩ : ByteArray) = sQ ++ ⟨#[c]⟩) := Lib.hid (by
        rw [Lib.decDigits, dif_neg h, hsQ, hc]
        apply ByteArray.ext
        simp [ByteArray.data_append])
      have hln : sQ.size ≤ 21 := by rw [hsQ]; show (Lib.decDigits (u / 10)).toArray.size ≤ 21; simpa using ddec_len (u / 10) (by omega)
      obtain ⟨q, hq⟩ : ∃ q : Int, q = ((u / 10 : Nat) : Int) := ⟨_, rfl⟩
      obtain ⟨d, hd⟩ : ∃ d : Int, d = ((u % 10 : Nat) : Int) := ⟨_, rfl⟩
      have HI : Hid (∀ w, Calls Tryz.prog 45 #[.int .i64 q] w fun e w' => e = .returned (.string sQ) ∧ Below w.heap.size w w') := Lib.hid (fun w => by rw [hq, hsQ]; exact ih (u / 10) (by omega) (by omega) w)
      have hb0 : 0 ≤ d ∧ d ≤ 9 := by omega
      have HCV : Hid (∀ w : World, (convert 76 9 (.slice (some ⟨w.heap.size, 0, none⟩) 1 1)).run Tryz.prog (w.alloc (.cells #[.int .u8 (48 + d)] 5)) = .ok (.string ⟨#[c]⟩) (w.alloc (.cells #[.int .u8 (48 + d)] 5))) := Lib.hid (fun w => dconv_one w c (48 + d) (by rw [hc, hk]; omega))
      have HRD : Hid (∀ w w' : World, Below (w.alloc (.cells #[.int .u8 (48 + d)] 5)).heap.size (w.alloc (.cells #[.int .u8 (48 + d)] 5)) w' → (convert 76 9 (.slice (some ⟨w.heap.size, 0, none⟩) 1 1)).run Tryz.prog w' = .ok (.string ⟨#[c]⟩) w') := Lib.hid (fun w w' hb => run_str ((drd_one w c (48 + d) (by rw [hc, hk]; omega)).below hb) Tryz.underlying76 Tryz.underlying5 9 Tryz.underlying9)
      have u1 : IntKind.i64.wrap ((u : Int).tdiv 10) = q := by rw [Int.tdiv_eq_ediv_of_nonneg (by omega), IntKind.wrap_i64, hq]; omega
      have u1' : wrap64 ((u : Int).tdiv 10) = q := by rw [← IntWalk.i64_left]; exact u1
      have u1q : IntKind.i64.wrap ((u : Int) / 10) = q := by rw [IntKind.wrap_i64, hq]; omega
      have u2 : (u : Int).tmod 10 = d := by rw [IntWalk.rem_in _ _ (by omega), hd]; omega
      have u3 : IntKind.i64.wrap d = d := IntWalk.i64_in _ (by omega)
      have s1 : IntKind.i64.wrap (48 + d) = 48 + d := IntWalk.i64_in _ (by omega)
      have s2 : IntKind.u8.wrap (48 + d) = 48 + d := IntWalk.u8_in _ (by omega)
      have hadd : ∀ w, (Op.stringOp .add sQ ⟨#[c]⟩).run Tryz.prog w = .ok (.string (sQ ++ ⟨#[c]⟩)) w := fun w => run_string_add_sum w sQ ⟨#[c]⟩ (by show sQ.size + 1 ≤ _; omega)
      have d1 : decide ((u : Int) < 10) = false := by simp; omega
      have c1 : (convert 76 9 (.slice (some ⟨w.heap.size, 0, none⟩) 1 1)).run Tryz.prog (w.drew.alloc (.cells #[.int .u8 (48 + d)] 5)) = .ok (.string ⟨#[c]⟩) (w.drew.alloc (.cells #[.int .u8 (48 + d)] 5)) := HCV.out w.drew
      have c2 : (convert 76 9 (.slice (some ⟨w.heap.size, 0, none⟩) 1 1)).run Tryz.prog (w.alloc (.cells #[.int .u8 (48 + d)] 5)).drew = .ok (.string ⟨#[c]⟩) (w.alloc (.cells #[.int .u8 (48 + d)] 5)).drew := HCV.out w.drew
      have H0 : Hid (Below w.heap.size w w.drew) := Lib.hid (ddrew (Below.refl _ _))
      clear ih hk hc hsQ hq hd hln hb0 h hu
      go_enter Tryz.func45, Tryz.ntmps45
      go_wp2_with fail
      go_region_with (first
        | (go_at_call 45; refine (HI.out _).mono ?_; rintro e w1 ⟨rfl, hb⟩; have k1 := HCV.out w1; have HB1 : Hid (Below w.heap.size w w1) := Lib.hid (by refine below_and ?_ hb; (repeat (first | exact Below.refl _ _ | apply ddrew | (refine below_and ?_ (below_alloc _ _))))); (first | (have k2 : (convert 76 9 (.slice (some ⟨w.heap.size, 0, none⟩) 1 1)).run Tryz.prog w1 = .ok (.string ⟨#[c]⟩) w1 := HRD.out w.drew w1 hb) | skip); clear hb))
      all_goals go_wp2_with fail
      all_goals go_ret
      all_goals exact ⟨by rw [HD.out]; rfl, by first | exact HB1.out | exact below_and HB1.out (below_alloc _ _)⟩

end Go.Proofs.YtdnoceancoclmaaGreatDoor.Ru

namespace Go.Proofs.YtdnoceancoclmaaGreatDoor.Ru

def Sm (f : Nat → Nat) : Nat → Nat
  | 0 => 0
  | m + 1 => Sm f m + f m
theorem Sm_add (f g : Nat → Nat) : ∀ m, Sm (fun j => f j + g j) m = Sm f m + Sm g m
  | 0 => rfl
  | m + 1 => by
    show Sm (fun j => f j + g j) m + (f m + g m) = (Sm f m + f m) + (Sm g m + g m)
    rw [Sm_add f g m]; omega
theorem Sm_le {f g : Nat → Nat} : ∀ {m : Nat}, (∀ j, j < m → f j ≤ g j) → Sm f m ≤ Sm g m
  | 0, _ => Nat.le_refl _
  | m + 1, h => Nat.add_le_add (Sm_le fun j hj => h j (by omega)) (h m (by omega))
theorem Sm_zero : ∀ m, Sm (fun _ => 0) m = 0
  | 0 => rfl
  | m + 1 => by show Sm (fun _ => 0) m + 0 = 0; rw [Sm_zero m]
theorem Sm_one (len : Nat → Nat) (p : Nat) : ∀ m, Sm (fun j => if p = j then len j else 0) m = if p < m then len p else 0
  | 0 => rfl
  | m + 1 => by
    show Sm (fun j => if p = j then len j else 0) m + (if p = m then len m else 0) = _
    rw [Sm_one len p m]
    by_cases h : p = m
    · subst h; rw [if_neg (by omega), if_pos rfl, if_pos (by omega)]; omega
    · rw [if_neg h]
      by_cases h2 : p < m
      · rw [if_pos h2, if_pos (by omega)]; omega
      · rw [if_neg h2, if_neg (by omega)]
theorem Sm_parts (len : Nat → Nat) (m : Nat) : ∀ P : List Int, (∀ p ∈ P, 0 ≤ p ∧ p < (m : Int)) → (P.map (fun p => len p.toNat)).sum = Sm (fun j => P.count (j : Int) * len j) m
  | [], _ => by simp only [List.map_nil, List.sum_nil, List.count_nil, Nat.zero_mul]; exact (Sm_zero m).symm
  | p :: P, h => by
    rw [List.map_cons, List.sum_cons, Sm_parts len m P (fun q hq => h q (by simp [hq]))]
    have hp := h p (by simp)
    have e1 := Sm_one len p.toNat m
    rw [if_pos (by omega)] at e1
    rw [← e1, ← Sm_add]
    congr 1
    funext j
    rw [List.count_cons]
    by_cases hj : p = (j : Int)
    · rw [if_pos (by omega), if_pos (by simpa using hj), Nat.add_mul, Nat.one_mul, Nat.add_comm]
    · rw [if_neg (by omega), if_neg (by simpa using hj), Nat.add_zero, Nat.zero_add]
theorem refs_take {L : List Nd} {m : Nat} (hm : m < L.length) (j : Nat) : refs (L.take (m + 1)) j = refs (L.take m) j + (parts L[m]).count (j : Int) := by
  rw [List.take_succ_eq_append_getElem hm, refs_app, refs_one]
theorem refs_mono (L : List Nd) (m j : Nat) : refs (L.take m) j ≤ refs L j := by
  conv => rhs; rw [← List.take_append_drop m L, refs_app]
  omega
theorem told_sum {L : List Nd} (hf : Fine L) (h1 : ∀ j, refs L j ≤ 1) : ∀ m, m ≤ L.length → Sm (fun j => if refs (L.take m) j = 0 then (tl L j).length else 0) m ≤ ((L.take m).map cost).sum
  | 0, _ => Nat.zero_le _
  | m + 1, hm => by
    have ih := told_sum hf h1 m (by omega)
    have hi : L[m]? = some L[m] := List.getElem?_eq_getElem (by omega)
    have hp := hf m _ hi
    have hl := tl_len hf hi
    rw [Sm_parts (fun j => (tl L j).length) m _ hp] at hl
    show Sm (fun j => if refs (L.take (m + 1)) j = 0 then (tl L j).length else 0) m + (if refs (L.take (m + 1)) m = 0 then (tl L m).length else 0) ≤ _
    have e2 : (if refs (L.take (m + 1)) m = 0 then (tl L m).length else 0) ≤ (tl L m).length := by split <;> omega
    have e3 : Sm (fun j => if refs (L.take (m + 1)) j = 0 then (tl L j).length else 0) m + Sm (fun j => (parts L[m]).count (j : Int) * (tl L j).length) m ≤ Sm (fun j => if refs (L.take m) j = 0 then (tl L j).length else 0) m := by
      rw [← Sm_add]
      refine Sm_le fun j hj => ?_
      have r1 := refs_take (L := L) (m := m) (by omega) j
      have r2 := refs_mono L (m + 1) j
      have r3 := h1 j
      rw [r1] at r2 ⊢
      by_cases hc : (parts L[m]).count (j : Int) = 0
      · rw [hc]; simp
      · have hc1 : (parts L[m]).count (j : Int) = 1 := by omega
        have hr : refs (L.take m) j = 0 := by omega
        rw [hc1, hr]; simp
    have e4 : ((L.take (m + 1)).map cost).sum = ((L.take m).map cost).sum + cost L[m] := by
      rw [List.take_succ_eq_append_getElem (by omega), List.map_append, List.sum_append]
      simp only [List.map_cons, List.map_nil, List.sum_cons, List.sum_nil]
      omega
    rw [e4]
    omega
/-- the text of a node that none tells besides -/
theorem told_le {L : List Nd} (hf : Fine L) (h1 : ∀ j, refs L j ≤ 1) {i : Nat} (hi : i < L.length) : (tl L i).length ≤ (L.map cost).sum := by
  have h := told_sum hf h1 (i + 1) (by omega)
  have e : (if refs (L.take (i + 1)) i = 0 then (tl L i).length else 0) = (tl L i).length := by
    rw [if_pos]
    unfold refs
    rw [List.count_eq_zero]
    intro hm
    rw [List.mem_flatMap] at hm
    obtain ⟨n, hn, hp⟩ := hm
    obtain ⟨k, hk, rfl⟩ := List.mem_iff_getElem.1 hn
    rw [List.getElem_take] at hp
    rw [List.length_take] at hk
    have := hf k _ (List.getElem?_eq_getElem (by omega)) _ hp
    omega
  have h2 : Sm (fun j => if refs (L.take (i + 1)) j = 0 then (tl L j).length else 0) i + (if refs (L.take (i + 1)) i = 0 then (tl L i).length else 0) ≤ ((L.take (i + 1)).map cost).sum := h
  have h3 : ((L.take (i + 1)).map cost).sum ≤ (L.map cost).sum := by
    conv => rhs; rw [← List.take_append_drop (i + 1) L, List.map_append, List.sum_append]
    omega
  omega
end Go.Proofs.YtdnoceancoclmaaGreatDoor.Ru
