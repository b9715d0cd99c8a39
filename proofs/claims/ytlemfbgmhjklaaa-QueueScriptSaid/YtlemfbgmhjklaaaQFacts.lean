/- The methods that container/heap finds at a '*rows'; container/heap's up. -/
import Derived.Test.YtlemfbgmhjklaaaQ2
namespace Go.Proofs.Ytlemfbgmhjklaaa
open Go.RowKit

theorem m_push (a : Addr) (w : World) : (method 202 64 (.pointer (some a)) "Push").run Try.prog w = .ok (65, .pointer (some a)) w := by kernel_rfl
theorem m_pop (a : Addr) (w : World) : (method 202 64 (.pointer (some a)) "Pop").run Try.prog w = .ok (64, .pointer (some a)) w := by kernel_rfl
theorem m_len {a : Addr} {v : Value} {w : World} (h : w.cell? a = some v) : (method 202 64 (.pointer (some a)) "Len").run Try.prog w = .ok (61, v) w :=
  method_load (e := 54) 201 (by kernel_rfl) Try.underlying64 (by kernel_rfl) h
theorem m_less {a : Addr} {v : Value} {w : World} (h : w.cell? a = some v) : (method 202 64 (.pointer (some a)) "Less").run Try.prog w = .ok (62, v) w :=
  method_load (e := 54) 201 (by kernel_rfl) Try.underlying64 (by kernel_rfl) h
theorem m_swap {a : Addr} {v : Value} {w : World} (h : w.cell? a = some v) : (method 202 64 (.pointer (some a)) "Swap").run Try.prog w = .ok (63, v) w :=
  method_load (e := 54) 201 (by kernel_rfl) Try.underlying64 (by kernel_rfl) h

theorem up_zero (lt : PRow → PRow → Bool) (L : List PRow) : Hp.up lt L 0 = L := by rw [Hp.up]; simp
theorem up_go {lt : PRow → PRow → Bool} {L : List PRow} {k : Nat} (h : 0 < k) (hl : Hp.ltAt lt L k ((k - 1) / 2) = true) : Hp.up lt L k = Hp.up lt (Hp.swap L ((k - 1) / 2) k) ((k - 1) / 2) := by
  rw [Hp.up, dif_neg (by omega), if_pos hl]
theorem up_stop {lt : PRow → PRow → Bool} {L : List PRow} {k : Nat} (hl : Hp.ltAt lt L k ((k - 1) / 2) = false) : Hp.up lt L k = L := by
  rw [Hp.up]
  split
  · rfl
  · rw [if_neg (by simp [hl])]

set_option maxRecDepth 100000 in
set_option maxHeartbeats 1000000 in
theorem up_any (b j : Nat) (T : Int) (v : Value) (L : List PRow) (w : World) (h : Qu w b T v L) (hj : j < L.length) :
    Calls Try.prog 41 #[hp b, .int .i64 (j : Int)] w fun e w' => e = .returned (.tuple #[]) ∧ Qu w' b T v (Hp.up rlt L j) ∧ Stp w w' b v v := by
  have hlen : L.length ≤ 9223372036854775807 := by
    obtain ⟨g, cap, -, -, hn, -⟩ := h.lies (by omega)
    exact hn
  have H := Lib.hid h
  clear h
  go_enter Try.func41, Try.ntmps41
  go_wp2
  go_loopw [1] (fun jv wc => ∃ (k : Nat) (M : List PRow), jv = .int .i64 (k : Int) ∧ k < M.length ∧ M.length = L.length ∧ Hid (Qu wc b T v M) ∧ Hid (Hp.up rlt L j = Hp.up rlt M k) ∧ Hid (Stp w wc b v v)) (fun jv _ => (intOf jv).toNat)
  case atStart => exact ⟨j, L, rfl, hj, rfl, H, rfl, Stp.refl _ _ _⟩
  case round =>
    obtain ⟨k, M, rfl, hk, hM, HW, HU, HS⟩ := hrel
    by_cases h0 : k = 0
    · subst h0
      go_wp2
      refine end0 rfl rfl ⟨rfl, ?_, HS.out⟩
      rw [HU.out, up_zero]
      exact HW.out
    · obtain ⟨k0, rfl⟩ : ∃ k0, k = k0 + 1 := ⟨k - 1, by omega⟩
      obtain ⟨i, hi⟩ : ∃ i, i = k0 / 2 := ⟨_, rfl⟩
      have q2 : (k0 : Int) / 2 = (i : Int) := by omega
      have q4 : ((i : Int) == (k0 : Int) + 1) = false := by simp; omega
      have c1 := HW.out.blk.cell (j := 0) rfl
      have ml := m_less c1
      cases hl : Hp.ltAt rlt M (k0 + 1) i
      · have HL := Lib.hid hl
        have hst := Lib.hid (up_stop (lt := rlt) (L := M) (k := k0 + 1) (by simpa [← hi] using hl))
        clear hl hi
        go_wp2_with (go_at_call 62; refine (eless_wt b (k0 + 1) i T v M _ HW.out (by omega) (by omega)).mono ?_; rw [HL.out]; rintro e w2 ⟨rfl, hb⟩; have HB := Lib.hid hb; clear hb)
        refine end0 rfl rfl ⟨rfl, ?_, HS.out.trans (Stp.of_below HB.out _ _)⟩
        rw [HU.out, hst.out]
        exact HW.out.kept HB.out
      · have HL := Lib.hid hl
        have hgo := Lib.hid (up_go (lt := rlt) (L := M) (k := k0 + 1) (by omega) (by simpa [← hi] using hl))
        have hik : Hid (i < k0 + 1) := Lib.hid (by omega)
        rw [show (k0 + 1 - 1) / 2 = i by omega] at hgo
        clear hl hi
        go_wp2_with (first
          | (go_at_call 63; refine (eswap_any b i (k0 + 1) T v M _ HW2.out (by omega) (by omega)).mono ?_; rintro e w3 ⟨rfl, hw, hs⟩; have HW3 := Lib.hid hw; have HS3 := Lib.hid hs; clear hw hs)
          | (go_at_call 62; refine (eless_wt b (k0 + 1) i T v M _ HW.out (by omega) (by omega)).mono ?_; rw [HL.out]; rintro e w2 ⟨rfl, hb⟩; have HB := Lib.hid hb; have HW2 := Lib.hid (HW.out.kept hb); have ms := m_swap (HW2.out.blk.cell (j := 0) rfl); clear hb))
        go_roundw
        case rel => exact ⟨i, Hp.swap M i (k0 + 1), by go_num, by rw [Hp.length_swap]; have := hik.out; omega, by rw [Hp.length_swap]; exact hM, HW3, by rw [HU.out, hgo.out]; rfl, (HS.out.trans (Stp.of_below HB.out _ _)).trans HS3.out⟩
        case measure => have := hik.out; simp [intOf]; omega
end Go.Proofs.Ytlemfbgmhjklaaa
