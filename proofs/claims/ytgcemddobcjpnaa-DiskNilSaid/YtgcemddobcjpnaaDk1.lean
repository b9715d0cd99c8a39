/- The program's disk: none, named, asked. -/
import Derived.Test.YtgcemddobcjpnaaDkMem
import Derived.Test.YtgcemddobcjpnaaPast
import Derived.Test.YtgcemddobcjpnaaMaps2
import Derived.Test.YtgcemddobcjpnaaMapRange
import Derived.Lib.ConvBytes
import Derived.Outline
namespace Go.Proofs.Ytgcemddobcjpnaa
open Go.RowKit

theorem conv_bytes (s : ByteArray) (w : World) : ∃ wq cap, (convert 9 29 (.string s)).run Try.prog w = .ok (.slice (some ⟨w.heap.size, 0, none⟩) s.size cap) wq ∧ Below w.heap.size w wq ∧ ∀ j, j < s.size → wq.cell? ⟨w.heap.size, j, none⟩ = some (.int .u8 (s.data.toList.getD j 0).toNat) :=
  ⟨_, _, Lib.run_convert_string_bytes w 9 29 5 s Try.underlying9 Try.underlying29 Try.underlying5,
    ⟨rfl, rfl, rfl, by rw [Lib.bytesWorld_size]; omega, fun j hj => Lib.bytesWorld_at_old w _ s j hj⟩, fun j hj => Lib.bytesWorld_cell w _ s j hj⟩

/-! none -/
set_option maxRecDepth 100000 in
set_option maxHeartbeats 400000 in
theorem none_made (b mb : Nat) (D : Dk) (L : List Pf) (w : World) (h : PDk w b mb D L) :
    Calls Try.prog 40 #[ptr b] w fun e w' => e = .returned (.bool false) ∧ w = w' := by
  have c0 := h.blk.cell (j := 0) rfl
  clear h
  have he := fun w r => run_eql_map_nil (P := Try.prog) w 52 9 66 r Try.underlying52
  go_enter Try.func40, Try.ntmps40
  go_wp2
  go_ret
  exact ⟨rfl, rfl⟩
set_option maxRecDepth 100000 in
set_option maxHeartbeats 400000 in
theorem none_nil (w : World) :
    Calls Try.prog 40 #[.pointer none] w fun e w' => e = .returned (.bool true) ∧ w = w' := by
  go_enter Try.func40, Try.ntmps40
  go_wp2
  go_ret
  exact ⟨rfl, rfl⟩
set_option maxRecDepth 100000 in
set_option maxHeartbeats 400000 in
theorem none_unmade (b : Nat) (w : World) (h : w.cell? ⟨b, 0, none⟩ = some (.map none)) :
    Calls Try.prog 40 #[ptr b] w fun e w' => e = .returned (.bool true) ∧ w = w' := by
  have he := fun w r => run_eql_map_nil (P := Try.prog) w 52 9 66 r Try.underlying52
  go_enter Try.func40, Try.ntmps40
  go_wp2
  go_ret
  exact ⟨rfl, rfl⟩

/-! named -/
def nb (c : UInt8) : Bool := decide (33 ≤ c.toNat) && decide (c.toNat ≤ 126)
theorem nameB_of (s : ByteArray) (h1 : 1 ≤ s.size) (h2 : s.size ≤ 24) : nameB s = s.data.toList.all nb := by
  unfold nameB nb
  simp [h1, h2]
theorem nameB_bad {s : ByteArray} {k : Nat} (hk : k < s.data.toList.length) (h : nb s.data.toList[k] = false) : nameB s = false := by
  unfold nameB
  have : (s.data.toList.all fun c => decide (33 ≤ c.toNat) && decide (c.toNat ≤ 126)) = false := by
    rw [← Bool.not_eq_true, List.all_eq_true]
    intro hh
    have := hh _ (List.getElem_mem hk)
    unfold nb at h
    rw [h] at this; cases this
  rw [this]
  simp
set_option maxRecDepth 100000 in
set_option maxHeartbeats 1000000 in
theorem named_any (s : ByteArray) (w : World) (hs : s.size ≤ maxLen) :
    Calls Try.prog 45 #[.string s] w fun e w' => e = .returned (.bool (nameB s)) ∧ Below w.heap.size w w' := by
  unfold maxLen at hs
  by_cases h1 : 1 ≤ s.size
  · by_cases h2 : s.size ≤ 24
    · obtain ⟨wq, cap, hcv, hbl, hcell⟩ := conv_bytes s w
      obtain ⟨l, hl⟩ : ∃ l, l = s.data.toList := ⟨_, rfl⟩
      have hsz : s.size = l.length := by rw [hl]; simp
      have HNB : Hid (nameB s = l.all nb) := Lib.hid (by rw [nameB_of s h1 h2, hl])
      have HNX : Hid (∀ k (h : k < l.length), nb l[k] = false → nameB s = false) := Lib.hid (fun k hk h => by subst hl; exact nameB_bad hk h)
      have HB := Lib.hid hbl
      have HC : Hid (∀ j (h : j < l.length), wq.cell? ⟨w.heap.size, j, none⟩ = some (.int .u8 (l[j].toNat : Int))) := Lib.hid (fun j hj => by
        rw [hcell j (by omega), ← hl]
        simp [List.getD, hj])
      have i1 : decide ((s.size : Int) < 1) = false := by simp; omega
      have i2 : decide ((24 : Int) < (s.size : Int)) = false := by simp; omega
      have HSZ := Lib.hid hsz
      have hl1 : l.length ≤ 9223372036854775807 := by omega
      clear hbl hcell hl hsz h1 h2
      go_enter Try.func45, Try.ntmps45
      go_wp2
      go_loop [16] (fun i => ∃ k : Nat, k ≤ l.length ∧ i = .int .i64 (k : Int) ∧ Hid ((l.take k).all nb = true)) (fun i => l.length - (intOf i).toNat)
      case atStart => exact ⟨0, Nat.zero_le _, rfl, by simp [Hid]⟩
      case round =>
        obtain ⟨k, hk, rfl, HD⟩ := hrel
        by_cases hlt : k < l.length
        · have hc := HC.out k hlt
          have i0 : (k : Int) < (s.size : Int) := by have := HSZ.out; omega
          obtain ⟨c, hcc⟩ : ∃ c, c = l[k] := ⟨_, rfl⟩
          rw [← hcc] at hc
          have HCC := Lib.hid hcc
          clear hcc
          by_cases hd1 : c.toNat < 33
          · have HR : Hid (nameB s = false) := Lib.hid (HNX.out k hlt (by rw [← HCC.out]; unfold nb; simp; omega))
            have d1 : decide ((c.toNat : Int) < 33) = true := by simp; omega
            go_wp2
            go_ret
            exact ⟨ret_bool HR.out.symm, HB.out⟩
          · have d1 : decide ((c.toNat : Int) < 33) = false := by simp; omega
            by_cases hd2 : 126 < c.toNat
            · have HR : Hid (nameB s = false) := Lib.hid (HNX.out k hlt (by rw [← HCC.out]; unfold nb; simp; omega))
              have d2 : decide ((126 : Int) < (c.toNat : Int)) = true := by simp; omega
              go_wp2
              go_ret
              exact ⟨ret_bool HR.out.symm, HB.out⟩
            · have d2 : decide ((126 : Int) < (c.toNat : Int)) = false := by simp; omega
              have HD2 : Hid ((l.take (k + 1)).all nb = true) := Lib.hid (by rw [List.take_succ_eq_append_getElem hlt, List.all_append, HD.out, ← HCC.out]; unfold nb; simp; omega)
              go_wp2
              go_round
              case rel => exact ⟨k + 1, hlt, by go_num, HD2⟩
              case measure => simp [intOf]; omega
        · obtain rfl : k = l.length := by omega
          have HR : Hid (nameB s = true) := Lib.hid (by rw [HNB.out]; have := HD.out; rwa [List.take_length] at this)
          have i0 : ¬ (l.length : Int) < (s.size : Int) := by have := HSZ.out; omega
          go_wp2
          go_ret
          exact ⟨ret_bool HR.out.symm, HB.out⟩
    · have HR : Hid (nameB s = false) := Lib.hid (by unfold nameB; simp [h2])
      have i1 : decide ((s.size : Int) < 1) = false := by simp; omega
      have i2 : decide ((24 : Int) < (s.size : Int)) = true := by simp; omega
      clear h1 h2
      go_enter Try.func45, Try.ntmps45
      go_wp2
      go_ret
      exact ⟨ret_bool HR.out.symm, Below.refl _ _⟩
  · have HR : Hid (nameB s = false) := Lib.hid (by unfold nameB; simp [h1])
    have i1 : decide ((s.size : Int) < 1) = true := by simp; omega
    clear h1
    go_enter Try.func45, Try.ntmps45
    go_wp2
    go_ret
    exact ⟨ret_bool HR.out.symm, Below.refl _ _⟩

/-! asked: the names lie in a slice that was just made -/
theorem ask_off {D : Dk} (l : List ByteArray) (h : D.off = true) : D.ask l = 10 := by unfold Dk.ask; rw [if_pos h]
theorem ask_on {D : Dk} (l : List ByteArray) (h : D.off = false) : D.ask l = if l.all nameB = true then 0 else 2 := by unfold Dk.ask; rw [if_neg (by rw [h]; simp)]
set_option maxRecDepth 100000 in
set_option maxHeartbeats 1000000 in
theorem asked_any (b mb : Nat) (D : Dk) (L : List Pf) (l : List ByteArray) (v : Value) (w : World) (h : PDk w b mb D L) (hv : Row w v 1 l.length (l.map Value.string)) (hl : ∀ s ∈ l, s.size ≤ maxLen) :
    Calls Try.prog 33 #[ptr b, v] w fun e w' => e = .returned (.int .i64 (D.ask l)) ∧ Below w.heap.size w w' := by
  have H := Lib.hid h
  have HL := Lib.hid hl
  have c4 := h.blk.cell (j := 4) rfl
  obtain ⟨p, c, rfl, hc, hm, -, -, -, hat⟩ := hv
  have HAT : Hid (∀ k (hk : k < l.length), ∃ q o, p = some ⟨q, o, none⟩ ∧ w.cell? ⟨q, o + k, none⟩ = some (.string l[k])) := Lib.hid (fun k hk => by
    rcases hat with h0 | ⟨q, o, hp, ha⟩
    · have : l = [] := by simpa using h0
      subst this; simp at hk
    · exact ⟨q, o, hp, ha k _ (by simp [hk])⟩)
  have hml : maxLen ≤ 9223372036854775807 := by decide
  have hll : l.length ≤ 9223372036854775807 := by omega
  clear h hl hat hml hm hc
  cases hoff : D.off
  · have HA := Lib.hid (ask_on l hoff)
    rw [hoff] at c4
    clear hoff
    go_enter Try.func33, Try.ntmps33
    go_wp2_with (go_at_call 40; refine (none_made b mb D L _ H.out).mono ?_; rintro e w' ⟨rfl, rfl⟩)
    go_loopw [17] (fun i wr => ∃ k : Nat, k ≤ l.length ∧ i = .int .i64 (k : Int) ∧ Hid ((l.take k).all nameB = true) ∧ Hid (Below w.heap.size w wr)) (fun i _ => l.length - (intOf i).toNat)
    case atStart => exact ⟨0, Nat.zero_le _, rfl, Lib.hid (by simp), Lib.hid (Below.refl _ _)⟩
    case round =>
      obtain ⟨k, hk, rfl, HD, HB⟩ := hrel
      by_cases hlt : k < l.length
      · obtain ⟨q, o, rfl, hc⟩ := HAT.out k hlt
        have hc := cell_kept hc HB.out
        obtain ⟨s, hs⟩ : ∃ s, s = l[k] := ⟨_, rfl⟩
        rw [← hs] at hc
        have i1 : (k : Int) < (l.length : Int) := by omega
        have HSS : Hid (s.size ≤ maxLen) := Lib.hid (HL.out s (by rw [hs]; exact List.getElem_mem hlt))
        have HT : Hid ((l.take (k + 1)).all nameB = nameB s) := Lib.hid (by rw [List.take_succ_eq_append_getElem hlt, List.all_append, HD.out, ← hs]; simp)
        have HTX : Hid (nameB s = false → l.all nameB = false) := Lib.hid (fun h => by
          rw [← Bool.not_eq_true, List.all_eq_true]
          intro hh
          have := hh _ (List.getElem_mem hlt)
          rw [← hs, h] at this; cases this)
        clear hs
        cases hn : nameB s
        · have HX := Lib.hid (HTX.out hn)
          have HNM : Hid (∀ w : World, Calls Try.prog 45 #[.string s] w fun e w' => e = .returned (.bool false) ∧ Below w.heap.size w w') := Lib.hid (fun w => by have := named_any s w HSS.out; rwa [hn] at this)
          clear hn
          go_wp2_with (go_at_call 45; refine (HNM.out _).mono ?_; rintro e w3 ⟨rfl, hb⟩; have HB3 := Lib.hid (below_and HB.out hb); clear hb)
          go_ret
          exact ⟨ret_int (by rw [HA.out, HX.out]; rfl), HB3.out⟩
        · have HX : Hid ((l.take (k + 1)).all nameB = true) := Lib.hid (by rw [HT.out, hn])
          have HNM : Hid (∀ w : World, Calls Try.prog 45 #[.string s] w fun e w' => e = .returned (.bool true) ∧ Below w.heap.size w w') := Lib.hid (fun w => by have := named_any s w HSS.out; rwa [hn] at this)
          clear hn
          go_wp2_with (go_at_call 45; refine (HNM.out _).mono ?_; rintro e w3 ⟨rfl, hb⟩; have HB3 := Lib.hid (below_and HB.out hb); clear hb)
          go_roundw
          case rel => exact ⟨k + 1, hlt, by go_num, HX, HB3⟩
          case measure => simp [intOf]; omega
      · obtain rfl : k = l.length := by omega
        have HX : Hid (l.all nameB = true) := Lib.hid (by have := HD.out; rwa [List.take_length] at this)
        go_wp2
        go_ret
        exact ⟨ret_int (by rw [HA.out, HX.out]; rfl), HB.out⟩
  · have HA := Lib.hid (ask_off l hoff)
    rw [hoff] at c4
    clear hoff
    go_enter Try.func33, Try.ntmps33
    go_wp2_with (go_at_call 40; refine (none_made b mb D L _ H.out).mono ?_; rintro e w' ⟨rfl, rfl⟩)
    go_ret
    exact ⟨ret_int HA.out.symm, Below.refl _ _⟩
end Go.Proofs.Ytgcemddobcjpnaa
