/- spec.Name, bands, Bands. -/
import Derived.Test.YtmgbailpmcggiaaPast
import Derived.Lib.ConvBytes
import Derived.Deep.QuietTactic
import Derived.BigQuiet
import Derived.Outline
namespace Go.Proofs.Ytmgbailpmcggiaa
open Go.RowKit

/-- may a byte stand in a name? -/
def nameC (c : UInt8) : Bool := decide (97 ≤ c.toNat ∧ c.toNat ≤ 122) || decide (48 ≤ c.toNat ∧ c.toNat ≤ 57) || decide (c.toNat = 45)
/-- is it a name of at most so many? -/
def nameB (m : Nat) (l : List UInt8) : Bool := decide (1 ≤ l.length ∧ l.length ≤ m) && decide (97 ≤ (l.getD 0 0).toNat ∧ (l.getD 0 0).toNat ≤ 122) && l.all nameC
theorem nameB_no {m : Nat} {l : List UInt8} {k : Nat} (hk : k < l.length) (h : nameC l[k] = false) : nameB m l = false := by
  unfold nameB
  have : l.all nameC = false := by
    rw [← Bool.not_eq_true, List.all_eq_true]
    intro hh
    have := hh _ (List.getElem_mem hk)
    rw [h] at this; cases this
  rw [this, Bool.and_false]

/-- '[]byte(s)': where it lies -/
theorem qconv_bytes (s : ByteArray) (w : World) : ∃ wq cap, (convert 9 91 (.string s)).run Try.prog w = .ok (.slice (some ⟨w.heap.size, 0, none⟩) s.size cap) wq ∧ Below w.heap.size w wq ∧ ∀ j, j < s.size → wq.cell? ⟨w.heap.size, j, none⟩ = some (.int .u8 (s.data.toList.getD j 0).toNat) :=
  ⟨_, _, Lib.run_convert_string_bytes w 9 91 5 s Try.underlying9 Try.underlying91 Try.underlying5,
    ⟨rfl, rfl, rfl, by rw [Lib.bytesWorld_size]; omega, fun j hj => Lib.bytesWorld_at_old w _ s j hj⟩, fun j hj => Lib.bytesWorld_cell w _ s j hj⟩

set_option maxRecDepth 100000 in
set_option maxHeartbeats 1000000 in
theorem sname_any (s : ByteArray) (w : World) :
    Calls Try.prog 41 #[.string s] w fun e w' => e = .returned (.bool (nameB 16 s.data.toList)) ∧ Below w.heap.size w w' := by
  obtain ⟨wq, cap, hcv, hbl, hcell⟩ := qconv_bytes s w
  obtain ⟨l, hl⟩ : ∃ l, l = s.data.toList := ⟨_, rfl⟩
  have hsz : s.size = l.length := by rw [hl]; simp
  rw [← hl]
  by_cases h0 : s.size < 1
  · have HR : Hid (nameB 16 l = false) := Lib.hid (by unfold nameB; rw [decide_eq_false (by omega)]; rfl)
    have e0 : decide ((s.size : Int) < 1) = true := by simp; omega
    clear hcv hbl hcell hl hsz
    go_enter Try.func41, Try.ntmps41
    go_wp2
    go_ret
    exact ⟨ret_bool HR.out.symm, Below.refl _ _⟩
  have e0 : decide ((s.size : Int) < 1) = false := by simp; omega
  by_cases h1 : 16 < s.size
  · have HR : Hid (nameB 16 l = false) := Lib.hid (by unfold nameB; rw [decide_eq_false (by omega)]; rfl)
    have e1 : decide ((16 : Int) < (s.size : Int)) = true := by simp; omega
    clear hcv hbl hcell hl hsz
    go_enter Try.func41, Try.ntmps41
    go_wp2
    go_ret
    exact ⟨ret_bool HR.out.symm, Below.refl _ _⟩
  have e1 : decide ((16 : Int) < (s.size : Int)) = false := by simp; omega
  have hl1 : l.length ≤ 16 := by omega
  have i0 : 0 < s.size := by omega
  obtain ⟨c0, hc0⟩ : ∃ c0, c0 = s[0] := ⟨_, rfl⟩
  have HC0 : Hid (l.getD 0 0 = c0) := Lib.hid (by
    subst hl
    rw [hc0, List.getD_eq_getElem?_getD, List.getElem?_eq_getElem (by omega)]
    rfl)
  have hcc : s[0] = c0 := hc0.symm
  clear hc0
  by_cases h2 : c0.toNat < 97
  · have HR : Hid (nameB 16 l = false) := Lib.hid (by unfold nameB; rw [HC0.out, decide_eq_false (p := 97 ≤ c0.toNat ∧ _) (by omega)]; simp)
    have e2 : decide ((c0.toNat : Int) < 97) = true := by simp; omega
    clear hcv hbl hcell hl hsz h0 h1
    go_enter Try.func41, Try.ntmps41
    go_wp2
    go_ret
    exact ⟨ret_bool HR.out.symm, Below.refl _ _⟩
  have e2 : decide ((c0.toNat : Int) < 97) = false := by simp; omega
  by_cases h3 : 122 < c0.toNat
  · have HR : Hid (nameB 16 l = false) := Lib.hid (by unfold nameB; rw [HC0.out, decide_eq_false (p := 97 ≤ c0.toNat ∧ _) (by omega)]; simp)
    have e3 : decide ((122 : Int) < (c0.toNat : Int)) = true := by simp; omega
    clear hcv hbl hcell hl hsz h0 h1
    go_enter Try.func41, Try.ntmps41
    go_wp2
    go_ret
    exact ⟨ret_bool HR.out.symm, Below.refl _ _⟩
  have e3 : decide ((122 : Int) < (c0.toNat : Int)) = false := by simp; omega
  have HH : Hid (nameB 16 l = l.all nameC) := Lib.hid (by unfold nameB; rw [HC0.out, decide_eq_true (p := 1 ≤ l.length ∧ _) (by omega), decide_eq_true (p := 97 ≤ c0.toNat ∧ _) (by omega)]; rfl)
  have HB := Lib.hid hbl
  have HC : Hid (∀ j (h : j < l.length), wq.cell? ⟨w.heap.size, j, none⟩ = some (.int .u8 (l[j].toNat : Int))) := Lib.hid (fun j hj => by
    rw [hcell j (by omega), ← hl]
    simp [List.getD, hj])
  have HSZ := Lib.hid hsz
  clear hbl hcell hl hsz h0 h1 h2 h3
  go_enter Try.func41, Try.ntmps41
  go_wp2
  go_loop [26] (fun i => ∃ k : Nat, k ≤ l.length ∧ i = .int .i64 (k : Int) ∧ Hid ((l.take k).all nameC = true)) (fun i => l.length - (intOf i).toNat)
  case atStart => exact ⟨0, Nat.zero_le _, rfl, by simp [Hid]⟩
  case round =>
    obtain ⟨k, hk, rfl, HD⟩ := hrel
    by_cases hlt : k < l.length
    · have hc := HC.out k hlt
      have i1 : (k : Int) < (s.size : Int) := by have := HSZ.out; omega
      have i2 : (0 : Int) ≤ (k : Int) := by omega
      obtain ⟨c, hcq⟩ : ∃ c, c = l[k] := ⟨_, rfl⟩
      rw [← hcq] at hc
      have HCC := Lib.hid hcq
      have cb := c.toNat_lt
      clear hcq
      cases hn : nameC c
      · have HR : Hid (nameB 16 l = false) := Lib.hid (nameB_no hlt (by rw [← HCC.out]; exact hn))
        have hn2 : ¬ (97 ≤ c.toNat ∧ c.toNat ≤ 122) ∧ ¬ (48 ≤ c.toNat ∧ c.toNat ≤ 57) ∧ ¬ (c.toNat = 45) := by
          unfold nameC at hn
          simp only [Bool.or_eq_false_iff, decide_eq_false_iff_not] at hn
          exact ⟨hn.1.1, hn.1.2, hn.2⟩
        have d5 : ((c.toNat : Int) != 45) = true := by simp; omega
        clear hn
        by_cases h97 : c.toNat < 97
        · have d1 : decide ((c.toNat : Int) < 97) = true := by simp; omega
          by_cases h48 : c.toNat < 48
          · have d3 : decide ((c.toNat : Int) < 48) = true := by simp; omega
            clear hn2
            go_wp2
            go_ret
            exact ⟨ret_bool HR.out.symm, HB.out⟩
          · have d3 : decide ((c.toNat : Int) < 48) = false := by simp; omega
            have d4 : decide ((57 : Int) < (c.toNat : Int)) = true := by simp; omega
            clear hn2
            go_wp2
            go_ret
            exact ⟨ret_bool HR.out.symm, HB.out⟩
        · have d1 : decide ((c.toNat : Int) < 97) = false := by simp; omega
          have d2 : decide ((122 : Int) < (c.toNat : Int)) = true := by simp; omega
          have d3 : decide ((c.toNat : Int) < 48) = false := by simp; omega
          have d4 : decide ((57 : Int) < (c.toNat : Int)) = true := by simp; omega
          clear hn2
          go_wp2
          go_ret
          exact ⟨ret_bool HR.out.symm, HB.out⟩
      · have HD2 : Hid ((l.take (k + 1)).all nameC = true) := Lib.hid (by rw [List.take_succ_eq_append_getElem hlt, List.all_append, HD.out, ← HCC.out]; simp [hn])
        have hn2 : (97 ≤ c.toNat ∧ c.toNat ≤ 122) ∨ (48 ≤ c.toNat ∧ c.toNat ≤ 57) ∨ (c.toNat = 45) := by
          unfold nameC at hn
          simp only [Bool.or_eq_true, decide_eq_true_eq] at hn
          omega
        clear hn
        by_cases h97 : 97 ≤ c.toNat
        · have d1 : decide ((c.toNat : Int) < 97) = false := by simp; omega
          have d2 : decide ((122 : Int) < (c.toNat : Int)) = false := by simp; omega
          clear hn2
          go_wp2
          go_round
          case rel => exact ⟨k + 1, hlt, by go_num, HD2⟩
          case measure => simp [intOf]; omega
        · have d1 : decide ((c.toNat : Int) < 97) = true := by simp; omega
          by_cases h48 : c.toNat < 48
          · have d3 : decide ((c.toNat : Int) < 48) = true := by simp; omega
            have d5 : ((c.toNat : Int) != 45) = false := by simp; omega
            clear hn2
            go_wp2
            go_round
            case rel => exact ⟨k + 1, hlt, by go_num, HD2⟩
            case measure => simp [intOf]; omega
          · have d3 : decide ((c.toNat : Int) < 48) = false := by simp; omega
            have d4 : decide ((57 : Int) < (c.toNat : Int)) = false := by simp; omega
            clear hn2
            go_wp2
            go_round
            case rel => exact ⟨k + 1, hlt, by go_num, HD2⟩
            case measure => simp [intOf]; omega
    · obtain rfl : k = l.length := by omega
      have i0 : decide (l.length < s.size) = false := by have := HSZ.out; simp; omega
      have HR : Hid (nameB 16 l = true) := Lib.hid (by rw [HH.out]; have := HD.out; rwa [List.take_length] at this)
      go_wp2
      go_ret
      exact ⟨ret_bool HR.out.symm, HB.out⟩

theorem bands_any (w : World) :
    Calls Try.prog 51 #[] w fun e w' => e = .returned (.slice (some ⟨w.heap.size, 0, none⟩) 4 4) ∧ w' = w.alloc (.cells #[.string ⟨#[102, 114, 101, 101]⟩, .string ⟨#[98, 97, 116, 99, 104]⟩, .string ⟨#[112, 114, 111, 100]⟩, .string ⟨#[109, 111, 110, 105, 116, 111, 114, 105, 110, 103]⟩] 9) := by
  go_enter Try.func51, Try.ntmps51
  go_wp2
  go_ret
  exact ⟨rfl, rfl⟩

/-- a band's name -/
def bandS (b : Int) : ByteArray := if b = 0 then ⟨#[102, 114, 101, 101]⟩ else if b = 1 then ⟨#[98, 97, 116, 99, 104]⟩ else if b = 2 then ⟨#[112, 114, 111, 100]⟩ else if b = 3 then ⟨#[109, 111, 110, 105, 116, 111, 114, 105, 110, 103]⟩ else ⟨#[]⟩
set_option maxRecDepth 100000 in
set_option maxHeartbeats 1000000 in
theorem sbands_any (b : Int) (w : World) (hb1 : -9223372036854775808 ≤ b) (hb2 : b ≤ 9223372036854775807) :
    Calls Try.prog 42 #[.int .i64 b] w fun e w' => e = .returned (.string (bandS b)) ∧ Below w.heap.size w w' := by
  by_cases h0 : b < 0
  · have HR : Hid (bandS b = ⟨#[]⟩) := Lib.hid (by unfold bandS; rw [if_neg (by omega), if_neg (by omega), if_neg (by omega), if_neg (by omega)])
    have d0 : decide (b < 0) = true := by simpa using h0
    go_enter Try.func42, Try.ntmps42
    go_wp2
    go_ret
    exact ⟨by rw [HR.out]; rfl, Below.refl _ _⟩
  · have d0 : decide (b < 0) = false := by simpa using h0
    by_cases h4 : 4 ≤ b
    · have HR : Hid (bandS b = ⟨#[]⟩) := Lib.hid (by unfold bandS; rw [if_neg (by omega), if_neg (by omega), if_neg (by omega), if_neg (by omega)])
      have d1 : decide (4 ≤ b) = true := by simpa using h4
      go_enter Try.func42, Try.ntmps42
      go_wp2_with (go_at_call 51; refine (bands_any _).mono ?_; rintro e w1 ⟨rfl, rfl⟩)
      go_ret
      exact ⟨by rw [HR.out]; rfl, below_alloc w _⟩
    · have d1 : decide (4 ≤ b) = false := by simpa using h4
      have h5 : b = 0 ∨ b = 1 ∨ b = 2 ∨ b = 3 := by omega
      rcases h5 with rfl | rfl | rfl | rfl
      all_goals
        go_enter Try.func42, Try.ntmps42
        go_wp2_with (go_at_call 51; refine (bands_any _).mono ?_; rintro e w1 ⟨rfl, rfl⟩)
        go_ret
        exact ⟨rfl, below_and (below_alloc w _) (below_alloc _ _)⟩
end Go.Proofs.Ytmgbailpmcggiaa
