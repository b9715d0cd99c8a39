/- The walk of QueueTurns, whole. -/
import Derived.Test.YtlemfbgmhjklaaaWQTurns
namespace Go.Proofs.Ytlemfbgmhjklaaa
open Go.RowKit

theorem One.put {M : List MRow} {p : Pend} (h : One M) (hp : p.band = 1) : One (putS M p) := by
  unfold putS putM
  split
  · exact h
  · split
    · exact h
    · split
      · intro m hm
        obtain ⟨x, hx, rfl⟩ := List.mem_map.1 hm
        rw [updM_key]
        exact h x hx
      · intro m hm
        rcases List.mem_cons.1 ((insM_perm _ _).mem_iff.1 hm) with rfl | hm
        · exact hp
        · exact h m hm
theorem putS_len {M : List MRow} (p : Pend) (h : MI M) : (flatM (putS M p)).length ≤ (flatM M).length + 1 := by
  unfold putS
  split
  · omega
  · split
    · omega
    · unfold putM
      split
      · rename_i hk
        rw [(flat_upd p.key p h.keys hk).length_eq, List.length_cons]
        omega
      · have := ((insM_perm M (p.key, [p])).flatMap_right (·.2)).length_eq
        unfold flatM
        rw [this, List.flatMap_cons]
        simp

set_option maxRecDepth 100000 in
set_option maxHeartbeats 2000000 in
theorem queueTurns_go (v : Value) (l : List Pend) (w : World) (h : Row w v 4 l.length (pcells l)) :
    Calls Try.prog 3 #[v] w fun e w' => e = .returned (.bool true) ∧ Below w.heap.size w w' := by
  obtain ⟨p, c, rfl, hc, hm⟩ := row_shape h
  have H := Lib.hid h
  have hll : (l.length : Int) ≤ 9223372036854775807 := by unfold maxLen at hm; omega
  clear h hc hm
  by_cases hbig : 60 < l.length
  · have hb2 : (60 : Int) < (l.length : Int) := by omega
    go_enter Try.func3, Try.ntmps3
    go_wp2_with (go_at_call 8; refine (qlives _).mono ?_; rintro e w1 ⟨rfl, hb⟩; have HB1 := Lib.hid hb; clear hb)
    go_ret
    exact ⟨rfl, HB1.out⟩
  · have hb2 : ¬ (60 : Int) < (l.length : Int) := by omega
    have hl60 : l.length ≤ 60 := by omega
    go_enter Try.func3, Try.ntmps3
    go_wp2_with (first
      | (go_at_call 8; refine (qlives _).mono ?_; rintro e w1 ⟨rfl, hb⟩; have HB1 := Lib.hid hb; clear hb)
      | (go_at_call 9; refine (qnew_any _).mono ?_; rintro e w2 ⟨rfl, hq, hb⟩; have HQ2 := Lib.hid (hq.mono (Q := fun k => w.heap.size ≤ k) (fun k hk _ => Nat.le_trans HB1.out.size hk)); have HB2 := Lib.hid (below_and HB1.out hb); clear hq hb))
    obtain ⟨b, hb⟩ : ∃ b, b = w1.heap.size := ⟨_, rfl⟩
    rw [← hb] at HQ2 ⊢
    clear hb
    go_loopw [4] (fun o wc => ∃ (k : Nat) (M : List MRow), k ≤ l.length ∧ o = .int .i64 (k : Int) ∧ Hid (Qm wc b (fun k => w.heap.size ≤ k) (k : Int) M) ∧ Hid (One M) ∧ (flatM M).length ≤ k ∧ Hid (Below w.heap.size w wc)) (fun o _ => l.length - (intOf o).toNat)
    case atStart => exact ⟨0, [], Nat.zero_le _, rfl, HQ2, Lib.hid (fun m hm => by cases hm), Nat.le_refl _, HB2⟩
    case round =>
      obtain ⟨k, M, hk, rfl, HQ, HO, hfl, HB⟩ := hrel
      by_cases hlt : k < l.length
      · obtain ⟨ab, o, rfl, hcs⟩ := row_at pend_len (Row.below H.out HB.out) hlt (by omega)
        obtain ⟨x, hx⟩ : ∃ x, x = l[k] := ⟨_, rfl⟩
        rw [← hx] at hcs
        have c0 : wr.cell? ⟨ab, o + k * 4, none⟩ = some (.string x.job) := hcs 0 _ (by omega) rfl
        have c1 : wr.cell? ⟨ab, o + k * 4 + 1, none⟩ = some (.int .i64 x.idx) := hcs 1 _ (by omega) rfl
        have c2 : wr.cell? ⟨ab, o + k * 4 + 2, none⟩ = some (.string x.user) := hcs 2 _ (by omega) rfl
        have c3 : wr.cell? ⟨ab, o + k * 4 + 3, none⟩ = some (.int .i64 x.band) := hcs 3 _ (by omega) rfl
        have i1 : (k : Int) < (l.length : Int) := by omega
        have HQA : Hid (Qm (wr.alloc (.cells #[.string x.job, .int .i64 x.idx, .string x.user, .int .i64 1] 29)) b (fun k => w.heap.size ≤ k) (k : Int) M) := Lib.hid (HQ.out.kept (below_alloc wr _))
        have HBA : Hid (Below w.heap.size w (wr.alloc (.cells #[.string x.job, .int .i64 x.idx, .string x.user, .int .i64 1] 29))) := Lib.hid (below_and HB.out (below_alloc wr _))
        have HMI := Lib.hid HQ.out.mi
        clear hcs hx
        go_wp2_with (go_at_call 10; refine (qput_any b _ _ M ⟨x.job, x.idx, x.user, 1⟩ _ HQA.out (by omega) (by omega)).mono ?_; rintro e w3 ⟨rfl, hq, hf⟩; have HQ3 := Lib.hid (hq.next HBA.out); have HB3 := Lib.hid (hf.next HBA.out); clear hq hf)
        go_roundw
        case rel => exact ⟨k + 1, putS M ⟨x.job, x.idx, x.user, 1⟩, hlt, by go_num, Lib.hid (by have := HQ3.out; simpa using this), Lib.hid (HO.out.put rfl), by have := putS_len ⟨x.job, x.idx, x.user, 1⟩ HMI.out; omega, HB3⟩
        case measure => simp [intOf]; omega
      · obtain rfl : k = l.length := by omega
        have HMI := Lib.hid HQ.out.mi
        obtain ⟨n, hn⟩ : ∃ n, n = (flatM M).length := ⟨_, rfl⟩
        have HALN : Hid ((allM M).length = n) := Lib.hid (by rw [hn]; exact allM_len HMI.out)
        have hn60 : n ≤ 60 := by omega
        have HN := Lib.hid hn
        clear hn
        go_upto_region 13 with (go_at_call 11; refine (all_any b _ _ M _ HQ.out (by omega) (by omega)).mono ?_; rw [← HN.out]; rintro e w4 ⟨oa, rfl, ho, hb⟩; obtain ⟨pa, ca, rfl, -, -⟩ := own_slice ho; have HO4 := Lib.hid ho; have HB4 := Lib.hid (below_and HB.out hb); clear ho hb)
        obtain ⟨ps, hps⟩ : ∃ ps, ps = allM M := ⟨_, rfl⟩
        rw [← hps] at HO4 HALN
        have HPS := Lib.hid hps
        have hpl : ps.length = n := HALN.out
        clear hps
        rw [← hpl] at HO4 ⊢
        have hp60 : ps.length ≤ 60 := by omega
        clear hfl hpl HALN hn60
        go_wp2
        go_loopw [7] (fun o wc => ∃ i : Nat, i ≤ ps.length ∧ o = .int .i64 (i : Int) ∧ Hid (Below w4.heap.size w4 wc)) (fun o _ => ps.length - (intOf o).toNat)
        case atStart => exact ⟨0, Nat.zero_le _, rfl, Lib.hid (Below.refl _ _)⟩
        case round =>
          obtain ⟨i, hi, rfl, HBI⟩ := hrel
          by_cases hil : i < ps.length
          · have i2 : (i : Int) < (ps.length : Int) := by omega
            go_wp2
            go_loopw [8] (fun o wc => ∃ t : Nat, i + 1 ≤ t ∧ t ≤ ps.length ∧ o = .int .i64 (t : Int) ∧ Hid (∀ j (hj : j < ps.length), i < j → j < t → ps[j].user ≠ ps[i].user) ∧ Hid (Below w4.heap.size w4 wc)) (fun o _ => ps.length - (intOf o).toNat)
            case atStart => exact ⟨i + 1, Nat.le_refl _, by omega, by go_num, Lib.hid (fun j _ h1 h2 => by omega), HBI⟩
            case round =>
              obtain ⟨t, ht1, ht2, rfl, HNO, HBT⟩ := hrel
              by_cases htl : t < ps.length
              · have HOT := own_keep HO4.out HBT.out
                obtain ⟨q, e, hct⟩ := pown_cell HOT (k := t) htl rfl
                subst e
                obtain ⟨q', e, hcm⟩ := pown_cell HOT (k := i) hil rfl
                simp only [Option.some.injEq, Addr.mk.injEq, and_true] at e
                subst e
                have e1 : wr.cell? ⟨q, t * 4 + 2, none⟩ = some (.string ps[t].user) := hct 2 _ (by omega) rfl
                have e2 : wr.cell? ⟨q, i * 4 + 2, none⟩ = some (.string ps[i].user) := hcm 2 _ (by omega) rfl
                have i3 : (t : Int) < (ps.length : Int) := by omega
                have HOTH := Lib.hid HOT
                obtain ⟨ut, hut⟩ : ∃ ut, ut = ps[t].user := ⟨_, rfl⟩
                obtain ⟨ui, hui⟩ : ∃ ui, ui = ps[i].user := ⟨_, rfl⟩
                rw [← hut] at e1
                rw [← hui] at e2
                clear hct hcm
                cases hq : (ut.toList == ui.toList)
                · have hq' : (ut.toList != ui.toList) = true := by simp [bne, hq]
                  have HN2 : Hid (∀ j (hj : j < ps.length), i < j → j < t + 1 → ps[j].user ≠ ps[i].user) := Lib.hid (fun j hj h1 h2 => by
                    by_cases h3 : j < t
                    · exact HNO.out j hj h1 h3
                    · obtain rfl : j = t := by omega
                      rw [toList_eq] at hq
                      rw [← hut, ← hui]
                      simpa using hq)
                  clear hut hui
                  go_wp2
                  go_quiet (fail)
                  go_wp2
                  go_roundw
                  case rel => exact ⟨t + 1, by omega, htl, by go_num, HN2, Lib.hid (below_and HBT.out (below_drewN _))⟩
                  case measure => simp [intOf]; omega
                · have hq' : (ut.toList != ui.toList) = false := by simp [bne, hq]
                  have HOK : Hid (TurnsOk ps i t) := Lib.hid (by
                    have hgd : ps.getD i pend0 = ps[i] := by rw [List.getD_eq_getElem?_getD, List.getElem?_eq_getElem hil]; rfl
                    have hue : ps[t].user = ps[i].user := by
                      rw [toList_eq] at hq
                      rw [← hut, ← hui]
                      simpa using hq
                    obtain rfl := HPS.out
                    exact turns_all HMI.out HO.out htl (by omega) (by rw [hgd]; exact hue) (fun j hj h1 h2 => by rw [hgd]; exact HNO.out j hj h1 h2))
                  clear hut hui
                  go_wp2
                  go_quiet (fail)
                  go_wp2_with (go_at_call 12; refine (turns_any _ i t _ ps _ (own_keep HOTH.out (below_drewN _)) (by omega) htl (by omega) HOK.out).mono ?_; rintro e w5 ⟨rfl, hb⟩; have HB5 := Lib.hid (below_and HBT.out (below_and (below_drewN _) hb)); clear hb)
                  go_roundw
                  case rel => exact ⟨i + 1, hil, by go_num, HB5⟩
                  case measure => simp [intOf]; omega
              · obtain rfl : t = ps.length := by omega
                go_wp2
                go_roundw
                case rel => exact ⟨i + 1, hil, by go_num, HBT⟩
                case measure => simp [intOf]; omega
          · obtain rfl : i = ps.length := by omega
            go_wp2
            go_ret
            exact ⟨rfl, below_and HB4.out HBI.out⟩

theorem queueTurns_walk (v : Value) (es : List (List Value)) (w : World) (hr : Row w v 4 es.length es.flatten) (hf : ∀ x ∈ es, Leaves Try.prog [9, 3, 9, 3] x) :
    Calls Try.prog 3 #[v] w fun e w' => e = .returned (.bool true) ∧ Below w.heap.size w w' := by
  obtain ⟨l, h1, h2⟩ := pend_list es hf
  rw [← h1, ← h2] at hr
  exact queueTurns_go v l w hr
end Go.Proofs.Ytlemfbgmhjklaaa
