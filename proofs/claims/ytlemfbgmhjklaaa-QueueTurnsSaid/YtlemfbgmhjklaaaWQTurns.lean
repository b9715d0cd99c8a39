/- The walk of QueueTurns. -/
import Derived.Test.YtlemfbgmhjklaaaQRead
namespace Go.Proofs.Ytlemfbgmhjklaaa
open Go.RowKit

def cntU (ps : List Pend) (a o : Nat) (u : ByteArray) : Nat := (((ps.drop a).take (o - a)).filter (fun p => decide (p.user = u))).length
theorem cnt_step {ps : List Pend} {a o : Nat} {u : ByteArray} (ha : a ≤ o) (ho : o < ps.length) : cntU ps a (o + 1) u = cntU ps a o u + if ps[o].user = u then 1 else 0 := by
  unfold cntU
  have e : o + 1 - a = (o - a) + 1 := by omega
  have hl : o - a < (ps.drop a).length := by rw [List.length_drop]; omega
  rw [e, List.take_succ_eq_append_getElem hl, List.filter_append, List.length_append]
  congr 1
  rw [List.getElem_drop]
  have e2 : a + (o - a) = o := by omega
  simp only [e2]
  by_cases h : ps[o].user = u
  · rw [if_pos h, List.filter_cons_of_pos (by simpa using h)]; rfl
  · rw [if_neg h, List.filter_cons_of_neg (by simpa using h)]; rfl
theorem cnt_le (ps : List Pend) (a o : Nat) (u : ByteArray) : cntU ps a o u ≤ ps.length := by
  unfold cntU
  refine Nat.le_trans (List.length_filter_le _ _) ?_
  rw [List.length_take, List.length_drop]
  omega

set_option maxRecDepth 100000 in
set_option maxHeartbeats 2000000 in
theorem turns_any (base i k : Nat) (v : Value) (ps : List Pend) (w : World) (h : w.ownsRow base 29 4 v ps.length (pcells ps)) (hik : i < k) (hk : k < ps.length) (hl : ps.length ≤ 1000) (hok : TurnsOk ps i k) :
    Calls Try.prog 12 #[v, .int .i64 (i : Int), .int .i64 (k : Int)] w fun e w' => e = .returned (.bool true) ∧ Below w.heap.size w w' := by
  obtain ⟨p, c, rfl, -, -⟩ := own_slice h
  obtain ⟨q, rfl, hci⟩ := pown_cell h (k := i) (by omega) rfl
  have H := Lib.hid h
  have HOK := Lib.hid hok
  have HCI := Lib.hid hci
  have hil : i < ps.length := by omega
  clear h hok hci
  go_enter Try.func12, Try.ntmps12
  go_wp2
  go_loopw [7] (fun o wc => ∃ m : Nat, i + 1 ≤ m ∧ m ≤ ps.length ∧ o = .int .i64 (m : Int) ∧ Hid (Below w.heap.size w wc)) (fun o _ => ps.length - (intOf o).toNat)
  case atStart => exact ⟨i + 1, Nat.le_refl _, by omega, by go_num, Lib.hid (Below.refl _ _)⟩
  case round =>
    obtain ⟨m, hm1, hm2, rfl, HB⟩ := hrel
    by_cases hlt : m < ps.length
    · have HO := own_keep H.out HB.out
      obtain ⟨q', e, hcm⟩ := pown_cell HO (k := m) hlt rfl
      simp only [Option.some.injEq, Addr.mk.injEq, and_true] at e
      subst e
      have c1 : wr.cell? ⟨q, m * 4 + 2, none⟩ = some (.string ps[m].user) := hcm 2 _ (by omega) rfl
      have c2 : wr.cell? ⟨q, i * 4 + 2, none⟩ = some (.string ps[i].user) := cell_kept (HCI.out 2 _ (by omega) rfl) HB.out
      obtain ⟨um, hum⟩ : ∃ um, um = ps[m].user := ⟨_, rfl⟩
      obtain ⟨ui, hui⟩ : ∃ ui, ui = ps[i].user := ⟨_, rfl⟩
      rw [← hum] at c1
      rw [← hui] at c2
      have i1 : (m : Int) < (ps.length : Int) := by omega
      have i2 : (i : Int) < (ps.length : Int) := by omega
      clear hcm
      cases hq : (um.toList == ui.toList)
      · have hne : ps[m].user ≠ (ps.getD i pend0).user := by
          rw [toList_eq] at hq
          rw [List.getD_eq_getElem?_getD, List.getElem?_eq_getElem hil, Option.getD_some, ← hum, ← hui]
          simpa using hq
        have HC : Hid (cntU ps (i + 1) k um = 1) := Lib.hid (by rw [hum]; exact HOK.out m hlt (by omega) hne)
        have HUM := Lib.hid hum
        clear hne hum hui
        go_wp2
        go_quiet (fail)
        go_wp2
        go_loopw [8, 9] (fun n o wc => ∃ (s t : Nat), n = .int .i64 (s : Int) ∧ o = .int .i64 (t : Int) ∧ i + 1 ≤ t ∧ t ≤ k ∧ Hid (s = cntU ps (i + 1) t um) ∧ Hid (Below w.heap.size w wc)) (fun _ o _ => k - (intOf o).toNat)
        case atStart => exact ⟨0, i + 1, rfl, by go_num, Nat.le_refl _, hik, Lib.hid (by unfold cntU; simp), Lib.hid (below_and HB.out (below_drewN _))⟩
        case round =>
          obtain ⟨s, t, rfl, rfl, ht1, ht2, HS, HBB⟩ := hrel
          have hsl := cnt_le ps (i + 1) t um
          rw [← HS.out] at hsl
          by_cases htk : t < k
          · have HO2 := own_keep H.out HBB.out
            obtain ⟨q', e, hct⟩ := pown_cell HO2 (k := t) (by omega) rfl
            simp only [Option.some.injEq, Addr.mk.injEq, and_true] at e
            subst e
            obtain ⟨q', e, hcm⟩ := pown_cell HO2 (k := m) hlt rfl
            simp only [Option.some.injEq, Addr.mk.injEq, and_true] at e
            subst e
            have e1 : wr.cell? ⟨q, t * 4 + 2, none⟩ = some (.string ps[t].user) := hct 2 _ (by omega) rfl
            have e2 : wr.cell? ⟨q, m * 4 + 2, none⟩ = some (.string um) := by rw [HUM.out]; exact hcm 2 _ (by omega) rfl
            have i3 : (t : Int) < (ps.length : Int) := by omega
            have i4 : (t : Int) < (k : Int) := by omega
            have hst := cnt_step (u := um) ht1 (show t < ps.length by omega)
            obtain ⟨ut, hut⟩ : ∃ ut, ut = ps[t].user := ⟨_, rfl⟩
            rw [← hut] at e1 hst
            clear hct hcm hut
            cases hq2 : (ut.toList == um.toList)
            · have HN : Hid (s = cntU ps (i + 1) (t + 1) um) := Lib.hid (by
                rw [toList_eq] at hq2
                rw [hst, if_neg (by simpa using hq2), HS.out]
                rfl)
              clear hst
              go_wp2
              go_quiet (fail)
              go_wp2
              go_roundw
              case rel => exact ⟨s, t + 1, rfl, by go_num, by omega, htk, HN, Lib.hid (below_and HBB.out (below_drewN _))⟩
              case measure => simp [intOf]; omega
            · have HN : Hid (s + 1 = cntU ps (i + 1) (t + 1) um) := Lib.hid (by
                rw [toList_eq] at hq2
                rw [hst, if_pos (by simpa using hq2), HS.out])
              clear hst
              go_wp2
              go_quiet (fail)
              go_wp2
              go_roundw
              case rel => exact ⟨s + 1, t + 1, by go_num, by go_num, by omega, htk, HN, Lib.hid (below_and HBB.out (below_drewN _))⟩
              case measure => simp [intOf]; omega
          · obtain rfl : t = k := by omega
            obtain rfl : s = 1 := by rw [HS.out, HC.out]
            go_wp2
            go_roundw
            case rel => exact ⟨m + 1, by omega, hlt, by go_num, HBB⟩
            case measure => simp [intOf]; omega
      · clear hum hui
        go_wp2
        go_quiet (fail)
        go_wp2
        go_roundw
        case rel => exact ⟨m + 1, by omega, hlt, by go_num, Lib.hid (below_and HB.out (below_drewN _))⟩
        case measure => simp [intOf]; omega
    · obtain rfl : m = ps.length := by omega
      go_wp2
      go_ret
      exact ⟨rfl, HB.out⟩
end Go.Proofs.Ytlemfbgmhjklaaa
