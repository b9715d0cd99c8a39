/- container/heap's Push, Pop, Remove, at the queue's rows. -/
import Derived.Test.YtlemfbgmhjklaaaQDown
namespace Go.Proofs.Ytlemfbgmhjklaaa
open Go.RowKit

set_option maxRecDepth 100000 in
set_option maxHeartbeats 600000 in
theorem hpush_any (b : Nat) (x : PRow) (T : Int) (v : Value) (L : List PRow) (w : World) (h : Qu w b T v L) (hx : RowAt w x) (hxf : ∀ k ∈ fpR x, k ∉ fpW b v) (hn : L.length ≤ 900000) :
    Calls Try.prog 29 #[hp b, rif x] w fun e w' => e = .returned (.tuple #[]) ∧ ∃ v', Qu w' b T v' (Hp.push rlt L x) ∧ Stp w w' b v v' := by
  have mp := m_push ⟨b, 0, none⟩ w
  have H := Lib.hid h
  have HL : Hid ((L ++ [x]).length = L.length + 1) := Lib.hid (by simp)
  have HX := Lib.hid hx
  have HXF := Lib.hid hxf
  clear h hx hxf
  go_enter Try.func29, Try.ntmps29
  go_wp2_with (first
    | (go_at_call 65; refine (epush_any b x T v L _ H.out HX.out HXF.out (by omega)).mono ?_; rintro e w2 ⟨rfl, v2, hw, hs⟩; have HW2 := Lib.hid hw; have HS2 := Lib.hid hs; have ml := m_len (hw.blk.cell (j := 0) rfl); obtain ⟨p2, k2, rfl, -, -⟩ := hw.shape; rw [HL.out] at ml HW2 HS2; clear hw hs)
    | (go_at_call 61; refine (elen_any _ _ _ _).mono ?_; rintro e w3 ⟨rfl, rfl⟩)
    | (go_at_call 41; refine (up_any b L.length T _ (L ++ [x]) _ HW2.out (by have := HL.out; omega)).mono ?_; rintro e w4 ⟨rfl, hw, hs⟩; have HW4 := Lib.hid hw; have HS4 := Lib.hid hs; clear hw hs))
  refine end0 rfl rfl ⟨rfl, _, HW4.out, HS2.out.trans HS4.out⟩

/-- Pop hands back the first, and leaves the rest a heap -/
theorem remove_zero (lt : PRow → PRow → Bool) (L : List PRow) (m : Nat) (hm : L.length = m + 1) : Hp.remove lt L 0 = (Hp.down lt (Hp.swap L 0 m) m 0).1.take m := by
  unfold Hp.remove Hp.removeL
  rw [hm]
  simp only [Nat.add_sub_cancel]
  by_cases h0 : m = 0
  · subst h0; simp
  · rw [if_neg h0]
    split
    · rw [up_zero]
    · rfl

set_option maxRecDepth 100000 in
set_option maxHeartbeats 600000 in
theorem hpop_any (b : Nat) (T : Int) (v : Value) (L : List PRow) (m : Nat) (x : PRow) (w : World) (h : Qu w b T v L) (hm : L.length = m + 1) (hx : L[0]? = some x) (hn : L.length ≤ 900000) :
    Calls Try.prog 31 #[hp b] w fun e w' => e = .returned (rif x) ∧ ∃ v', Qu w' b T v' (Hp.remove rlt L 0) ∧ Stp w w' b v v' := by
  obtain ⟨p, c, rfl, hc, hcm⟩ := h.shape
  have c1 := h.blk.cell (j := 0) rfl
  have ml := m_len c1
  have ms := m_swap c1
  have H : Hid (Qu w b T (.slice p (m + 1) c) L) := Lib.hid (by rw [← hm]; exact h)
  have HM := Lib.hid hm
  have hbig : m ≤ 900000 := by omega
  have l1 : (Hp.swap L 0 m).length = m + 1 := by rw [Hp.length_swap, hm]
  have l2 : (Hp.down rlt (Hp.swap L 0 m) m 0).1.length = m + 1 := by rw [Hp.length_down, l1]
  have hlast : (Hp.down rlt (Hp.swap L 0 m) m 0).1[m]? = some x := by
    rw [Hp.down_behind _ _ _ _ _ (by omega) (Nat.le_refl _), Hp.get_swap (by omega) (by omega)]
    unfold Hp.sw
    split
    · rename_i h; rw [h]; exact hx
    · rw [if_pos rfl]; exact hx
  have hrem := Lib.hid (remove_zero rlt L m hm)
  have HL1 := Lib.hid l1
  have HL2 := Lib.hid l2
  have HX := Lib.hid hlast
  clear l1 l2 hlast hx h
  rw [hm] at c1 ml ms hc ⊢
  clear hm hn
  go_enter Try.func31, Try.ntmps31
  go_wp2_with (first
    | (go_at_call 64; refine (epop_any b T _ _ m x _ HW4.out HL2.out HX.out).mono ?_; rintro e w5 ⟨rfl, v5, hw, hs⟩; have HW5 := Lib.hid hw; have HS5 := Lib.hid hs; clear hw hs)
    | (go_at_call 42; refine (down_any b 0 m T _ _ _ HW3.out (by have := HL1.out; omega) (by omega) (by have := HL1.out; omega)).mono ?_; rintro e w4 ⟨rfl, hw, hs⟩; have HW4 := Lib.hid hw; have HS4 := Lib.hid hs; have mp := m_pop ⟨b, 0, none⟩ w4; clear hw hs)
    | (go_at_call 63; refine (eswap_any b 0 m T _ L _ H.out (by have := HM.out; omega) (by have := HM.out; omega)).mono ?_; rintro e w3 ⟨rfl, hw, hs⟩; have HW3 := Lib.hid hw; have HS3 := Lib.hid hs; clear hw hs)
    | (go_at_call 61; refine (elen_any _ _ _ _).mono ?_; rintro e w2 ⟨rfl, rfl⟩))
  go_ret
  refine ⟨rfl, v5, ?_, (HS3.out.trans HS4.out).trans HS5.out⟩
  rw [hrem.out]
  exact HW5.out

set_option maxRecDepth 100000 in
set_option maxHeartbeats 600000 in
theorem hremove_any (b i : Nat) (T : Int) (v : Value) (L : List PRow) (m : Nat) (x : PRow) (w : World) (h : Qu w b T v L) (hm : L.length = m + 1) (hi : i ≤ m) (hx : L[i]? = some x) (hn : L.length ≤ 900000) :
    Calls Try.prog 35 #[hp b, .int .i64 (i : Int)] w fun e w' => e = .returned (rif x) ∧ ∃ v', Qu w' b T v' (Hp.remove rlt L i) ∧ Stp w w' b v v' := by
  obtain ⟨p, c, rfl, hc, hcm⟩ := h.shape
  have c1 := h.blk.cell (j := 0) rfl
  have ml := m_len c1
  have ms := m_swap c1
  have mp := m_pop ⟨b, 0, none⟩ w
  have H : Hid (Qu w b T (.slice p (m + 1) c) L) := Lib.hid (by rw [← hm]; exact h)
  have HM := Lib.hid hm
  have hbig : m ≤ 900000 := by omega
  have hrl := Hp.removeL_last rlt L i (by omega)
  have hrlen := Hp.length_removeL rlt L i
  have hrem : Hid (Hp.remove rlt L i = (Hp.removeL rlt L i).take m) := Lib.hid (by unfold Hp.remove; rw [hm]; rfl)
  rw [hx] at hrl
  rw [hm] at hrl hrlen
  simp only [Nat.add_sub_cancel] at hrl
  have hun : Hp.removeL rlt L i = if m = i then L else if (Hp.down rlt (Hp.swap L i m) m i).2 ≤ i then Hp.up rlt (Hp.down rlt (Hp.swap L i m) m i).1 i else (Hp.down rlt (Hp.swap L i m) m i).1 := by
    unfold Hp.removeL
    rw [hm]
    rfl
  have l1 : (Hp.swap L i m).length = m + 1 := by rw [Hp.length_swap, hm]
  have l2 : (Hp.down rlt (Hp.swap L i m) m i).1.length = m + 1 := by rw [Hp.length_down, l1]
  have HL1 := Lib.hid l1
  have HL2 := Lib.hid l2
  have HRL := Lib.hid hrl
  have HRN := Lib.hid hrlen
  clear h hx hrl hrlen l1 l2
  rw [hm] at c1 ml ms hc ⊢
  clear hm hn
  by_cases hmi : m = i
  · rw [if_pos hmi] at hun
    have HU := Lib.hid hun
    subst hmi
    clear hun
    go_enter Try.func35, Try.ntmps35
    go_wp2_with (first
      | (go_at_call 64; refine (epop_any b T _ L m x _ H.out HM.out (by have := HRL.out; rwa [HU.out] at this)).mono ?_; rintro e w5 ⟨rfl, v5, hw, hs⟩; have HW5 := Lib.hid hw; have HS5 := Lib.hid hs; clear hw hs)
      | (go_at_call 61; refine (elen_any _ _ _ _).mono ?_; rintro e w2 ⟨rfl, rfl⟩))
    go_ret
    refine ⟨rfl, v5, ?_, HS5.out⟩
    rw [hrem.out, HU.out]
    exact HW5.out
  · rw [if_neg hmi] at hun
    have q1 : ((m : Int) == (i : Int)) = false := by simp; omega
    by_cases hd : (Hp.down rlt (Hp.swap L i m) m i).2 ≤ i
    · rw [if_pos hd] at hun
      have HU := Lib.hid hun
      have HD : Hid (decide (i < (Hp.down rlt (Hp.swap L i m) m i).2) = false) := Lib.hid (by simp; omega)
      clear hun hd
      go_enter Try.func35, Try.ntmps35
      go_wp2_with (first
        | (go_at_call 64; refine (epop_any b T _ _ m x _ HW6.out HRN.out HRL.out).mono ?_; rintro e w5 ⟨rfl, v5, hw, hs⟩; have HW5 := Lib.hid hw; have HS5 := Lib.hid hs; clear hw hs)
        | (go_at_call 41; refine (up_any b i T _ _ _ HW4.out (by have := HL2.out; omega)).mono ?_; rintro e w6 ⟨rfl, hw, hs⟩; rw [← HU.out] at hw; have HW6 := Lib.hid hw; have HS6 := Lib.hid hs; have mp6 := m_pop ⟨b, 0, none⟩ w6; clear hw hs)
        | (go_at_call 42; refine (down_any b i m T _ _ _ HW3.out (by have := HL1.out; omega) hi (by have := HL1.out; omega)).mono ?_; rw [HD.out]; rintro e w4 ⟨rfl, hw, hs⟩; have HW4 := Lib.hid hw; have HS4 := Lib.hid hs; clear hw hs)
        | (go_at_call 63; refine (eswap_any b i m T _ L _ H.out (by have := HM.out; omega) (by have := HM.out; omega)).mono ?_; rintro e w3 ⟨rfl, hw, hs⟩; have HW3 := Lib.hid hw; have HS3 := Lib.hid hs; clear hw hs)
        | (go_at_call 61; refine (elen_any _ _ _ _).mono ?_; rintro e w2 ⟨rfl, rfl⟩))
      go_ret
      refine ⟨rfl, v5, ?_, ((HS3.out.trans HS4.out).trans HS6.out).trans HS5.out⟩
      rw [hrem.out]
      exact HW5.out
    · rw [if_neg hd] at hun
      have HU := Lib.hid hun
      have HD : Hid (decide (i < (Hp.down rlt (Hp.swap L i m) m i).2) = true) := Lib.hid (by simp; omega)
      clear hun hd
      go_enter Try.func35, Try.ntmps35
      go_wp2_with (first
        | (go_at_call 64; refine (epop_any b T _ _ m x _ HW4.out HRN.out HRL.out).mono ?_; rintro e w5 ⟨rfl, v5, hw, hs⟩; have HW5 := Lib.hid hw; have HS5 := Lib.hid hs; clear hw hs)
        | (go_at_call 42; refine (down_any b i m T _ _ _ HW3.out (by have := HL1.out; omega) hi (by have := HL1.out; omega)).mono ?_; rw [HD.out]; rintro e w4 ⟨rfl, hw, hs⟩; rw [← HU.out] at hw; have HW4 := Lib.hid hw; have HS4 := Lib.hid hs; have mp4 := m_pop ⟨b, 0, none⟩ w4; clear hw hs)
        | (go_at_call 63; refine (eswap_any b i m T _ L _ H.out (by have := HM.out; omega) (by have := HM.out; omega)).mono ?_; rintro e w3 ⟨rfl, hw, hs⟩; have HW3 := Lib.hid hw; have HS3 := Lib.hid hs; clear hw hs)
        | (go_at_call 61; refine (elen_any _ _ _ _).mono ?_; rintro e w2 ⟨rfl, rfl⟩))
      go_ret
      refine ⟨rfl, v5, ?_, (HS3.out.trans HS4.out).trans HS5.out⟩
      rw [hrem.out]
      exact HW5.out

/-- Fix, of the first -/
theorem fix_zero (lt : PRow → PRow → Bool) (L : List PRow) (n : Nat) : Hp.up lt (Hp.down lt L n 0).1 0 = (Hp.down lt L n 0).1 := up_zero lt _
set_option maxRecDepth 100000 in
set_option maxHeartbeats 600000 in
theorem hfix_any (b : Nat) (T : Int) (v : Value) (L : List PRow) (w : World) (h : Qu w b T v L) (hL : 0 < L.length) (hn : L.length ≤ 900000) :
    Calls Try.prog 32 #[hp b, .int .i64 0] w fun e w' => e = .returned (.tuple #[]) ∧ Qu w' b T v (Hp.down rlt L L.length 0).1 ∧ Stp w w' b v v := by
  obtain ⟨p, c, rfl, hc, hcm⟩ := h.shape
  have c1 := h.blk.cell (j := 0) rfl
  have ml := m_len c1
  have H := Lib.hid h
  have HN := Lib.hid hn
  have l2 : Hid ((Hp.down rlt L L.length 0).1.length = L.length) := Lib.hid (by rw [Hp.length_down])
  have HZ := Lib.hid (fix_zero rlt L L.length)
  have HD := fun T v w (h : Qu w b T v L) => down_any b 0 L.length T v L w h (Nat.le_refl _) (Nat.zero_le _) (by have := HN.out; omega)
  have HD := Lib.hid HD
  clear h
  obtain ⟨Q, hQ⟩ : ∃ Q, Q = Hp.down rlt L L.length 0 := ⟨_, rfl⟩
  rw [← hQ] at HZ l2 HD ⊢
  clear hQ
  go_enter Try.func32, Try.ntmps32
  cases hq : decide (0 < Q.2)
  · have HQ := Lib.hid hq
    clear hq
    go_wp2_with (first
      | (go_at_call 41; refine (up_any b 0 T _ _ _ HW4.out (by have := l2.out; omega)).mono ?_; rintro e w6 ⟨rfl, hw, hs⟩; rw [HZ.out] at hw; have HW6 := Lib.hid hw; have HS6 := Lib.hid hs; clear hw hs)
      | (go_at_call 42; refine (HD.out T _ _ H.out).mono ?_; rw [HQ.out]; rintro e w4 ⟨rfl, hw, hs⟩; have HW4 := Lib.hid hw; have HS4 := Lib.hid hs; clear hw hs)
      | (go_at_call 61; refine (elen_any _ _ _ _).mono ?_; rintro e w2 ⟨rfl, rfl⟩))
    exact end0 rfl rfl ⟨rfl, HW6.out, HS4.out.trans HS6.out⟩
  · have HQ := Lib.hid hq
    clear hq
    go_wp2_with (first
      | (go_at_call 42; refine (HD.out T _ _ H.out).mono ?_; rw [HQ.out]; rintro e w4 ⟨rfl, hw, hs⟩; have HW4 := Lib.hid hw; have HS4 := Lib.hid hs; clear hw hs)
      | (go_at_call 61; refine (elen_any _ _ _ _).mono ?_; rintro e w2 ⟨rfl, rfl⟩))
    exact end0 rfl rfl ⟨rfl, HW4.out, HS4.out⟩
end Go.Proofs.Ytlemfbgmhjklaaa
