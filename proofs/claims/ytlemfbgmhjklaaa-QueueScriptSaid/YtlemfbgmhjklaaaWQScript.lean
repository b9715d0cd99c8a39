/- The walk of QueueScript (written by genqscript.py). -/
import Derived.Test.YtlemfbgmhjklaaaRQ10
import Derived.Test.YtlemfbgmhjklaaaPick
namespace Go.Proofs.Ytlemfbgmhjklaaa
open Go.RowKit

set_option maxRecDepth 100000 in
set_option maxHeartbeats 400000 in
theorem queueScript_big (v : Value) (l : List QAct) (w : World) (h : Row w v 5 l.length (actsC l)) (hl : 200 < l.length) :
    Calls Try.prog 5 #[v] w fun e w' => e = .returned (.bool true) ∧ Below w.heap.size w w' := by
  obtain ⟨p, c, rfl, -, -⟩ := row_shape h
  have hb2 : (200 : Int) < (l.length : Int) := by omega
  clear h
  go_enter Try.func5, Try.ntmps5
  go_wp2_with (go_at_call 8; refine (qlives _).mono ?_; rintro e w1 ⟨rfl, hb⟩; have HB1 := Lib.hid hb; clear hb)
  go_ret
  exact ⟨rfl, HB1.out⟩

def S4 (ga : Nat) (x : QAct) (w : World) : Prop := w.cell? ⟨ga, 1, none⟩ = some (.string x.p.job) ∧ w.cell? ⟨ga, 2, none⟩ = some (.int .i64 x.p.idx) ∧ w.cell? ⟨ga, 3, none⟩ = some (.string x.p.user) ∧ w.cell? ⟨ga, 4, none⟩ = some (.int .i64 x.p.band)
theorem s4_of {w : World} {ga : Nat} {x : QAct} (h : Blk w ga (actC x) 48) : S4 ga x w := ⟨h.cell (j := 1) rfl, h.cell (j := 2) rfl, h.cell (j := 3) rfl, h.cell (j := 4) rfl⟩
theorem queueM_len {M : List MRow} (h : MI M) (p : Pend) : (flatM (putS M p)).length ≤ (flatM M).length + 1 := by
  unfold putS
  split
  · omega
  · split
    · omega
    · rw [(putM_flat h).length_eq]; simp
theorem take_less {M : List MRow} (h : MI M) : (flatM (takeM M)).length ≤ (flatM M).length := by have := take_len h; omega
theorem drop_less (M : List MRow) (t : Tid) : (flatM (dropM M t)).length ≤ (flatM M).length := by rw [flat_drop]; exact List.length_filter_le _ _
theorem tw_mi2 {w0 w : World} {b x : Nat} {D : List Nat} {N : Int} {M1 M2 : List MRow} {L : List Pend} (h : Tw w0 w b x D N M1 M2 L) : MI M2 := by obtain ⟨A, B, -, h2, -⟩ := h; exact h2.mi

set_option maxRecDepth 100000 in
set_option maxHeartbeats 8000000 in
theorem queueScript_in (v : Value) (l : List QAct) (w : World) (h : Row w v 5 l.length (actsC l)) (hl : l.length ≤ 200) :
    Calls Try.prog 5 #[v] w fun e w' => e = .returned (.bool true) ∧ Below w.heap.size w w' := by
  obtain ⟨p, c, rfl, hlc, -⟩ := row_shape h
  have H := Lib.hid h
  have hb2 : ¬ (200 : Int) < (l.length : Int) := by omega
  clear h hlc
  go_enter Try.func5, Try.ntmps5
  go_wp2_with (first
    | (go_at_call 8; refine (qlives _).mono ?_; rintro e w1 ⟨rfl, hb⟩; have HB1 := Lib.hid hb; clear hb)
    | (go_at_call 9; refine (qnew_any _).mono ?_; rintro e w2 ⟨rfl, hq, hb⟩; have HQ2 := Lib.hid hq; have HB2 := Lib.hid hb; clear hq hb))
  obtain ⟨b, hb⟩ : ∃ b, b = w1.heap.size := ⟨_, rfl⟩
  obtain ⟨xq, hxq⟩ : ∃ xq, xq = w2.heap.size := ⟨_, rfl⟩
  obtain ⟨w3, hw3⟩ : ∃ w3, w3 = w2.alloc (.cells #[.slice none 0 0, .slice none 0 0, .slice none 0 0, .slice none 0 0, .slice none 0 0] 46) := ⟨_, rfl⟩
  have H00 : Hid (Tw w w3 b xq [] ((0 : Nat) : Int) [] [] []) := Lib.hid (by
    have hb3 : Below w2.heap.size w2 w3 := by rw [hw3]; exact below_alloc w2 _
    refine ⟨fun k => w1.heap.size ≤ k ∧ k < w2.heap.size, fun k => k = xq, ?_, ?_, fun k hk => Nat.le_trans HB1.out.size hk.1, fun k hk => ?_, fun k hk e => (by omega), fun k hk => (by cases hk), below_and (below_and HB1.out HB2.out) hb3⟩
    · rw [hb]; exact (HQ2.out.mono (fun k hk hlt => ⟨hk, hlt⟩)).kept hb3
    · refine ⟨fun _ => .slice none 0 0, .slice none 0 0, fun _ => [], ⟨by rw [hw3, hxq]; exact Blk.made w2 _ _, fun b _ => World.ownsRow_nil _ _ _ _, World.ownsRow_nil _ _ _ _, fun b _ c _ _ k hk => by simp [Value.ownBlock] at hk, Nat.zero_le _⟩, fun k hk => ?_, Dq.new, ?_⟩
      · rcases hk with hk | ⟨b, -, hk⟩ | hk
        · exact hk
        · simp [Value.ownBlock] at hk
        · simp [Value.ownBlock] at hk
      · exact HQ2.out.mi
    · rw [hk, hxq]; exact (below_and HB1.out HB2.out).size)
  rw [← hw3, ← hb, ← hxq]
  clear hb hxq hw3 HQ2 HB1 HB2
  go_loopw [5] (fun i wr => ∃ (k : Nat) (M : List MRow) (L : List Pend), k ≤ l.length ∧ i = .int .i64 (k : Int) ∧ Hid (Tw w wr b xq [] (k : Int) M M L) ∧ (flatM M).length ≤ k) (fun i _ => l.length - (intOf i).toNat)
  case atStart => exact ⟨0, [], [], by omega, rfl, H00, by simp [flatM]⟩
  case round =>
    obtain ⟨k, M, L, hk, rfl, HT0, hfl⟩ := hrel
    by_cases hlt : k < l.length
    · obtain ⟨ab, o, rfl, hcs⟩ := row_at actC_len (Row.below H.out HT0.out.bel) hlt (by omega)
      obtain ⟨x, hx⟩ : ∃ x, x = l[k] := ⟨_, rfl⟩
      rw [← hx] at hcs
      have x0 : wr.cell? ⟨ab, o + k * 5, none⟩ = some (.int .i64 x.k) := hcs 0 _ (by omega) rfl
      have x1 : wr.cell? ⟨ab, o + k * 5 + 1, none⟩ = some (.string x.p.job) := hcs 1 _ (by omega) rfl
      have x2 : wr.cell? ⟨ab, o + k * 5 + 2, none⟩ = some (.int .i64 x.p.idx) := hcs 2 _ (by omega) rfl
      have x3 : wr.cell? ⟨ab, o + k * 5 + 3, none⟩ = some (.string x.p.user) := hcs 3 _ (by omega) rfl
      have x4 : wr.cell? ⟨ab, o + k * 5 + 4, none⟩ = some (.int .i64 x.p.band) := hcs 4 _ (by omega) rfl
      have i3 : (k : Int) < (l.length : Int) := by omega
      clear hcs hx
      go_upto_region 10 with fail
      obtain ⟨ga, hga⟩ : ∃ ga, ga = wr.heap.size := ⟨_, rfl⟩
      obtain ⟨wa, hwa⟩ : ∃ wa, wa = wr.alloc (.cells #[.int .i64 x.k, .string x.p.job, .int .i64 x.p.idx, .string x.p.user, .int .i64 x.p.band] 48) := ⟨_, rfl⟩
      have HT : Hid (Tw w wa b xq [ga] (k : Int) M M L) := Lib.hid (by rw [hwa, hga]; exact HT0.out.box _)
      have HGA : Hid (Blk wa ga (actC x) 48) := Lib.hid (by rw [hwa, hga]; exact Blk.made wr (actC x) _)
      rw [← hwa, ← hga]
      clear hwa hga x0 x1 x2 x3 x4 HT0
      have a0 := HGA.out.cell (j := 0) rfl
      have HS0 : Hid (S4 ga x wa.drew) := Lib.hid (s4_of (HGA.out.kept (below_drewN 1)))
      have HM1 := Lib.hid HT.out.mi1
      have hm4 : x.k % 4 = 0 ∨ x.k % 4 = 1 ∨ x.k % 4 = 2 ∨ x.k % 4 = 3 := by omega
      have HPK : ∀ w, Calls Try.prog 20 #[.int .i64 x.k, .int .i64 4] w fun e w' => e = .returned (.int .i64 (x.k % 4)) ∧ w = w' := fun w => pickn_any x.k 4 w (by omega) (by omega)
      rcases hm4 with h4 | h4 | h4 | h4
      · have HPK := Lib.hid HPK
        rw [h4] at HPK
        clear h4
        obtain ⟨er, her⟩ : ∃ er : Int, er = (putE M x.p) := ⟨_, rfl⟩
        have HER := Lib.hid her
        clear her
        have HTD := Lib.hid (HT.out.kept (below_drewN 1))
        have HGD := Lib.hid (HGA.out.kept (below_drewN 1))
        go_wp2_with (go_at_call 20; refine (HPK.out _).mono ?_; rintro e w4 ⟨rfl, rfl⟩)
        go_region_held3 (fun w' => (w'.cell? ⟨ga, 1, none⟩ = some (.string x.p.job) ∧ w'.cell? ⟨ga, 2, none⟩ = some (.int .i64 x.p.idx) ∧ w'.cell? ⟨ga, 3, none⟩ = some (.string x.p.user) ∧ w'.cell? ⟨ga, 4, none⟩ = some (.int .i64 x.p.band)))
          (first | with_reducible exact HS0.out | with_reducible exact HS1.out | with_reducible exact HS2.out | exact HS0.out | exact HS1.out | exact HS2.out)
          (first
            | (go_at_call 10; refine (tw_put1 w _ b xq _ _ M M L x.p HTD.out (by omega) (by omega)).mono ?_; rw [← HER.out]; rintro e w5 ⟨rfl, hq, hk⟩; have HT1 := Lib.hid hq; have HG1 := Lib.hid (hk.2 ga List.mem_cons_self _ _ HGD.out); have HS1 : Hid (S4 ga x w5) := Lib.hid (s4_of HG1.out); clear hq hk)
            | (go_at_call 21; refine (tw_put2 w _ b xq _ _ (putS M x.p) M L x.p HT1.out (by omega)).mono ?_; rw [← HER.out]; rintro e w6 ⟨rfl, L6, hq, hk⟩; have HZ := Lib.hid hq; have HGZ := Lib.hid (hk.2 ga List.mem_cons_self _ _ HG1.out); have HS2 : Hid (S4 ga x w6) := Lib.hid (s4_of HGZ.out); clear hq hk))
        have hfz : (flatM (putS M x.p)).length ≤ k + 1 := by have := queueM_len HM1.out x.p; omega
        have HMZ := Lib.hid HZ.out.mi1
        have HLN : Hid ((flatM (putS M x.p)).length = L6.length) := Lib.hid HZ.out.lenL.symm
        have HHAS : Hid ((L6.any fun q => decide (q.task = (x.p.job, x.p.idx))) = hasM (putS M x.p) (x.p.job, x.p.idx)) := Lib.hid (HZ.out.has (x.p.job, x.p.idx))
        obtain ⟨pz, cz, hcz, hoz⟩ := HZ.out.cL
        have HOZ := Lib.hid hoz
        have HCZ := Lib.hid hcz
        have hzl : L6.length ≤ 201 := by have := HLN.out; omega
        clear hoz hcz
        go_wp2
        go_loopw [16, 17] (fun hv kv wc => ∃ (m : Nat) (bk : Bool), kv = .int .i64 (m : Int) ∧ hv = .bool bk ∧ m ≤ L6.length ∧ Hid (bk = (L6.take m).any fun q => decide (q.task = (x.p.job, x.p.idx))) ∧ Hid (Below w6.heap.size w6 wc)) (fun _ kv _ => L6.length - (intOf kv).toNat)
        case atStart => exact ⟨0, false, rfl, rfl, Nat.zero_le _, Lib.hid rfl, Lib.hid (Below.refl _ _)⟩
        case round =>
          obtain ⟨m, bk, rfl, rfl, hm, HBK, HBM⟩ := hrel
          have z4 := cell_kept HCZ.out HBM.out
          by_cases hml : m < L6.length
          · obtain ⟨q4, e4, hcs⟩ := pown_cell (own_keep HOZ.out HBM.out) hml rfl
            subst e4
            obtain ⟨y, hy⟩ : ∃ y, y = L6[m] := ⟨_, rfl⟩
            have HBK2 : Hid (((L6.take (m + 1)).any fun q => decide (q.task = (x.p.job, x.p.idx))) = (bk || decide (y.task = (x.p.job, x.p.idx)))) := Lib.hid (by rw [List.take_succ_eq_append_getElem hml, List.any_append, ← HBK.out, ← hy]; simp)
            rw [← hy] at hcs
            have c0 : wr.cell? ⟨q4, m * 4, none⟩ = some (.string y.job) := hcs 0 _ (by omega) rfl
            have c1 : wr.cell? ⟨q4, m * 4 + 1, none⟩ = some (.int .i64 y.idx) := hcs 1 _ (by omega) rfl
            have d1 := (HGZ.out.kept HBM.out).cell (j := 1) rfl
            have d2 := (HGZ.out.kept HBM.out).cell (j := 2) rfl
            have i6 : (m : Int) < (L6.length : Int) := by omega
            clear hcs
            cases bk
            · by_cases hq : y.task = (x.p.job, x.p.idx)
              · have HB3 : Hid (true = ((L6.take (m + 1)).any fun q => decide (q.task = (x.p.job, x.p.idx)))) := Lib.hid (by rw [HBK2.out]; simp [hq])
                have hqj : y.job = x.p.job := congrArg Prod.fst hq
                have hqi : y.idx = x.p.idx := congrArg Prod.snd hq
                rw [hqj] at c0
                rw [hqi] at c1
                clear hy hq hqj hqi
                go_wp2
                go_quiet (fail)
                go_wp2
                go_roundw
                case rel => exact ⟨m + 1, true, by go_num, rfl, hml, HB3, Lib.hid (below_and HBM.out (below_drewN _))⟩
                case measure => simp [intOf]; omega
              · have HB3 : Hid (false = ((L6.take (m + 1)).any fun q => decide (q.task = (x.p.job, x.p.idx)))) := Lib.hid (by rw [HBK2.out]; simp [hq])
                obtain ⟨yj, yi, yu, yd⟩ := y
                simp only at c0 c1
                have hq2 : (yj.toList == x.p.job.toList) = false ∨ (yi == x.p.idx) = false := by
                  rw [toList_eq]
                  simp only [decide_eq_false_iff_not, beq_eq_false_iff_ne]
                  by_cases a1 : yj = x.p.job
                  · exact .inr (fun a2 => hq (by rw [← a1, ← a2]; rfl))
                  · exact .inl a1
                clear hy hq
                rcases hq2 with ha | ha
                all_goals go_wp2
                all_goals go_quiet (fail)
                all_goals go_wp2
                all_goals exact ⟨⟨m + 1, false, by go_num, rfl, hml, HB3, Lib.hid (below_and HBM.out (below_drewN _))⟩, by simp [intOf]; omega⟩
            · have HB3 : Hid (true = ((L6.take (m + 1)).any fun q => decide (q.task = (x.p.job, x.p.idx)))) := Lib.hid (by rw [HBK2.out]; simp)
              clear hy
              go_wp2
              go_quiet (fail)
              go_wp2
              go_roundw
              case rel => exact ⟨m + 1, true, by go_num, rfl, hml, HB3, Lib.hid (below_and HBM.out (below_drewN _))⟩
              case measure => simp [intOf]; omega
          · obtain rfl : m = L6.length := by omega
            have HHB : Hid (hasM (putS M x.p) (x.p.job, x.p.idx) = bk) := Lib.hid (by rw [← HHAS.out, HBK.out, List.take_length])
            have HW := Lib.hid (HZ.out.kept HBM.out)
            have HGW := Lib.hid (HGZ.out.kept HBM.out)
            have HK0 : Hid (wr.drew.cell? ⟨xq, 4, none⟩ = some (.slice pz L6.length cz) ∧ wr.drew.cell? ⟨ga, 1, none⟩ = some (.string x.p.job) ∧ wr.drew.cell? ⟨ga, 2, none⟩ = some (.int .i64 x.p.idx)) := Lib.hid ⟨cell_kept z4 (below_drewN 1), (HGW.out.kept (below_drewN 1)).cell (j := 1) rfl, (HGW.out.kept (below_drewN 1)).cell (j := 2) rfl⟩
            have HTD := Lib.hid (HW.out.kept (below_drewN 1))
            have HGD := Lib.hid (HGW.out.kept (below_drewN 1))
            have HZD := Lib.hid (cell_kept z4 (below_drewN 1))
            go_wp2
            clear z4
            go_region_held3 (fun w' => (w'.cell? ⟨xq, 4, none⟩ = some (.slice pz L6.length cz) ∧ w'.cell? ⟨ga, 1, none⟩ = some (.string x.p.job) ∧ w'.cell? ⟨ga, 2, none⟩ = some (.int .i64 x.p.idx)))
              (first | with_reducible exact HK0.out | with_reducible exact HK1.out | with_reducible exact HK2.out | with_reducible exact HK3.out | with_reducible exact HK4.out | exact HK0.out | exact HK1.out | exact HK2.out | exact HK3.out | exact HK4.out)
              (first
                | (go_at_call 19; refine (tw_len w _ b xq _ _ (putS M x.p) (putS M x.p) L6 HTD.out (by have := HLN.out; omega)).mono ?_; rw [HLN.out]; rintro e wl ⟨rfl, rfl⟩)
                | (go_at_call 25; refine (tw_has w _ b xq _ _ (putS M x.p) (putS M x.p) L6 (x.p.job, x.p.idx) HTD.out).mono ?_; rw [HHB.out]; rintro e wh ⟨rfl, hb⟩; have HTH := Lib.hid (HTD.out.kept hb); have HGH := HGD.out.kept hb; have HK1 : Hid (wh.cell? ⟨xq, 4, none⟩ = some (.slice pz L6.length cz) ∧ wh.cell? ⟨ga, 1, none⟩ = some (.string x.p.job) ∧ wh.cell? ⟨ga, 2, none⟩ = some (.int .i64 x.p.idx)) := Lib.hid ⟨cell_kept HZD.out hb, HGH.cell (j := 1) rfl, HGH.cell (j := 2) rfl⟩; have HZH := Lib.hid (cell_kept HZD.out hb); have HG1 := Lib.hid HGH; clear hb HGH)
                | (go_at_call 11; refine (tw_all1 w _ b xq _ _ (putS M x.p) (putS M x.p) L6 HTH.out (by omega) (by have := HLN.out; omega)).mono ?_; rintro e wi ⟨o1, rfl, ho, hb⟩; rw [← allM_len HMZ.out] at ho; have HOI := Lib.hid ho; have HTI := Lib.hid (HTH.out.kept hb); have HG2 := Lib.hid (HG1.out.kept hb); have HZI := Lib.hid (cell_kept HZH.out hb); have HK2 : Hid (wi.cell? ⟨xq, 4, none⟩ = some (.slice pz L6.length cz) ∧ wi.cell? ⟨ga, 1, none⟩ = some (.string x.p.job) ∧ wi.cell? ⟨ga, 2, none⟩ = some (.int .i64 x.p.idx)) := Lib.hid ⟨HZI.out, HG2.out.cell (j := 1) rfl, HG2.out.cell (j := 2) rfl⟩; clear ho hb)
                | (go_at_call 27; refine (tw_all2 w _ b xq _ _ (putS M x.p) (putS M x.p) L6 HTI.out (by have := HLN.out; omega)).mono ?_; rintro e wj ⟨o2, rfl, ho, hb⟩; rw [← allM_len HMZ.out] at ho; have HOJ := Lib.hid ho; have HOJ1 := Lib.hid (own_keep HOI.out hb); have HTJ := Lib.hid (HTI.out.kept hb); have HG3 := Lib.hid (HG2.out.kept hb); have HZJ := Lib.hid (cell_kept HZI.out hb); have HK3 : Hid (wj.cell? ⟨xq, 4, none⟩ = some (.slice pz L6.length cz) ∧ wj.cell? ⟨ga, 1, none⟩ = some (.string x.p.job) ∧ wj.cell? ⟨ga, 2, none⟩ = some (.int .i64 x.p.idx)) := Lib.hid ⟨HZJ.out, HG3.out.cell (j := 1) rfl, HG3.out.cell (j := 2) rfl⟩; clear ho hb)
                | (go_at_call 26; refine (qsame_any _ _ _ _ (allM (putS M x.p)) _ HOJ1.out HOJ.out).mono ?_; rintro e wk ⟨rfl, hb⟩; have HTK := Lib.hid (HTJ.out.kept hb); have HG4 := Lib.hid (HG3.out.kept hb); have HZK := Lib.hid (cell_kept HZJ.out hb); have HK4 : Hid (wk.cell? ⟨xq, 4, none⟩ = some (.slice pz L6.length cz) ∧ wk.cell? ⟨ga, 1, none⟩ = some (.string x.p.job) ∧ wk.cell? ⟨ga, 2, none⟩ = some (.int .i64 x.p.idx)) := Lib.hid ⟨HZK.out, HG4.out.cell (j := 1) rfl, HG4.out.cell (j := 2) rfl⟩; clear hb))
            go_wp2
            go_roundw
            case rel => exact ⟨k + 1, (putS M x.p), L6, hlt, by go_num, Lib.hid ((HTK.out.less (fun _ h => by cases h)).grow (by omega)), by omega⟩
            case measure => simp [intOf]; omega
      · have HPK := Lib.hid HPK
        rw [h4] at HPK
        clear h4
        obtain ⟨p0, hp0⟩ : ∃ p0, p0 = headP M := ⟨_, rfl⟩
        obtain ⟨ok0, hok0⟩ : ∃ ok0, ok0 = headB M := ⟨_, rfl⟩
        have HV : Hid (headV M = .tuple #[pval p0, .bool ok0]) := Lib.hid (by rw [headV_eq, hp0, hok0])
        clear hp0 hok0
        go_upto_region 17 with (first | (go_at_call 20; refine (HPK.out _).mono ?_; rintro e w4 ⟨rfl, rfl⟩) | (go_at_call 14; refine (tw_take1 w _ b xq _ _ M M L HT.out (by omega) (by omega)).mono ?_; rw [HV.out]; rintro e w5 ⟨rfl, hq, hk⟩; have HT1 := Lib.hid hq; have HG1 := Lib.hid (hk.2 ga List.mem_cons_self _ _ HGA.out); clear hq hk))
        obtain ⟨g8, hg8⟩ : ∃ g8, g8 = w5.heap.size := ⟨_, rfl⟩
        obtain ⟨w6, hw6⟩ : ∃ w6, w6 = w5.alloc (.cells #[.string p0.job, .int .i64 p0.idx, .string p0.user, .int .i64 p0.band] 29) := ⟨_, rfl⟩
        have HT2 : Hid (Tw w w6 b xq [g8, ga] _ (takeM M) M L) := Lib.hid (by rw [hw6, hg8]; exact HT1.out.box _)
        have HG2 : Hid (Blk w6 ga (actC x) 48) := Lib.hid (by rw [hw6]; exact HG1.out.alloc _)
        have HX2 : Hid (Blk w6 g8 (pend p0) 29) := Lib.hid (by rw [hw6, hg8]; exact Blk.made w5 (pend p0) _)
        rw [← hw6, ← hg8]
        clear hw6 hg8
        go_upto_region 18 with (go_at_call 22; refine (tw_take2 w _ b xq _ _ (takeM M) M L HT2.out (by omega)).mono ?_; rw [HV.out]; rintro e w7 ⟨rfl, L6, hq, hk⟩; have HT3 := Lib.hid hq; have HG3 := Lib.hid (hk.2 ga (by simp) _ _ HG2.out); have HX3 := Lib.hid (hk.2 g8 (by simp) _ _ HX2.out); clear hq hk)
        obtain ⟨g9, hg9⟩ : ∃ g9, g9 = w7.heap.size := ⟨_, rfl⟩
        obtain ⟨w8, hw8⟩ : ∃ w8, w8 = w7.alloc (.cells #[.string p0.job, .int .i64 p0.idx, .string p0.user, .int .i64 p0.band] 29) := ⟨_, rfl⟩
        have HT4 : Hid (Tw w w8 b xq [g8, ga] _ (takeM M) (takeM M) L6) := Lib.hid (by rw [hw8]; exact HT3.out.kept (below_alloc w7 _))
        have HGZ : Hid (Blk w8 ga (actC x) 48) := Lib.hid (by rw [hw8]; exact HG3.out.alloc _)
        have HX4 : Hid (Blk w8 g8 (pend p0) 29) := Lib.hid (by rw [hw8]; exact HX3.out.alloc _)
        have HY4 : Hid (Blk w8 g9 (pend p0) 29) := Lib.hid (by rw [hw8, hg9]; exact Blk.made w7 (pend p0) _)
        rw [← hw8, ← hg9]
        clear hw8 hg9
        have e0 := HX4.out.cell (j := 0) rfl
        have e1 := HX4.out.cell (j := 1) rfl
        have e2 := HX4.out.cell (j := 2) rfl
        have e3 := HX4.out.cell (j := 3) rfl
        have f0 := HY4.out.cell (j := 0) rfl
        have f1 := HY4.out.cell (j := 1) rfl
        have f2 := HY4.out.cell (j := 2) rfl
        have f3 := HY4.out.cell (j := 3) rfl
        have HZ := Lib.hid (HT4.out.less (D' := [ga]) (fun k hk => by rw [List.mem_singleton.1 hk]; simp))
        have hfz : (flatM (takeM M)).length ≤ k + 1 := by have := take_less HM1.out; omega
        go_upto_region 23 with fail
        clear e0 e1 e2 e3 f0 f1 f2 f3
        have HMZ := Lib.hid HZ.out.mi1
        have HLN : Hid ((flatM (takeM M)).length = L6.length) := Lib.hid HZ.out.lenL.symm
        have HHAS : Hid ((L6.any fun q => decide (q.task = (x.p.job, x.p.idx))) = hasM (takeM M) (x.p.job, x.p.idx)) := Lib.hid (HZ.out.has (x.p.job, x.p.idx))
        obtain ⟨pz, cz, hcz, hoz⟩ := HZ.out.cL
        have HOZ := Lib.hid hoz
        have HCZ := Lib.hid hcz
        have hzl : L6.length ≤ 201 := by have := HLN.out; omega
        clear hoz hcz
        go_wp2
        go_loopw [16, 17] (fun hv kv wc => ∃ (m : Nat) (bk : Bool), kv = .int .i64 (m : Int) ∧ hv = .bool bk ∧ m ≤ L6.length ∧ Hid (bk = (L6.take m).any fun q => decide (q.task = (x.p.job, x.p.idx))) ∧ Hid (Below w8.heap.size w8 wc)) (fun _ kv _ => L6.length - (intOf kv).toNat)
        case atStart => exact ⟨0, false, rfl, rfl, Nat.zero_le _, Lib.hid rfl, Lib.hid (Below.refl _ _)⟩
        case round =>
          obtain ⟨m, bk, rfl, rfl, hm, HBK, HBM⟩ := hrel
          have z4 := cell_kept HCZ.out HBM.out
          by_cases hml : m < L6.length
          · obtain ⟨q4, e4, hcs⟩ := pown_cell (own_keep HOZ.out HBM.out) hml rfl
            subst e4
            obtain ⟨y, hy⟩ : ∃ y, y = L6[m] := ⟨_, rfl⟩
            have HBK2 : Hid (((L6.take (m + 1)).any fun q => decide (q.task = (x.p.job, x.p.idx))) = (bk || decide (y.task = (x.p.job, x.p.idx)))) := Lib.hid (by rw [List.take_succ_eq_append_getElem hml, List.any_append, ← HBK.out, ← hy]; simp)
            rw [← hy] at hcs
            have c0 : wr.cell? ⟨q4, m * 4, none⟩ = some (.string y.job) := hcs 0 _ (by omega) rfl
            have c1 : wr.cell? ⟨q4, m * 4 + 1, none⟩ = some (.int .i64 y.idx) := hcs 1 _ (by omega) rfl
            have d1 := (HGZ.out.kept HBM.out).cell (j := 1) rfl
            have d2 := (HGZ.out.kept HBM.out).cell (j := 2) rfl
            have i6 : (m : Int) < (L6.length : Int) := by omega
            clear hcs
            cases bk
            · by_cases hq : y.task = (x.p.job, x.p.idx)
              · have HB3 : Hid (true = ((L6.take (m + 1)).any fun q => decide (q.task = (x.p.job, x.p.idx)))) := Lib.hid (by rw [HBK2.out]; simp [hq])
                have hqj : y.job = x.p.job := congrArg Prod.fst hq
                have hqi : y.idx = x.p.idx := congrArg Prod.snd hq
                rw [hqj] at c0
                rw [hqi] at c1
                clear hy hq hqj hqi
                go_wp2
                go_quiet (fail)
                go_wp2
                go_roundw
                case rel => exact ⟨m + 1, true, by go_num, rfl, hml, HB3, Lib.hid (below_and HBM.out (below_drewN _))⟩
                case measure => simp [intOf]; omega
              · have HB3 : Hid (false = ((L6.take (m + 1)).any fun q => decide (q.task = (x.p.job, x.p.idx)))) := Lib.hid (by rw [HBK2.out]; simp [hq])
                obtain ⟨yj, yi, yu, yd⟩ := y
                simp only at c0 c1
                have hq2 : (yj.toList == x.p.job.toList) = false ∨ (yi == x.p.idx) = false := by
                  rw [toList_eq]
                  simp only [decide_eq_false_iff_not, beq_eq_false_iff_ne]
                  by_cases a1 : yj = x.p.job
                  · exact .inr (fun a2 => hq (by rw [← a1, ← a2]; rfl))
                  · exact .inl a1
                clear hy hq
                rcases hq2 with ha | ha
                all_goals go_wp2
                all_goals go_quiet (fail)
                all_goals go_wp2
                all_goals exact ⟨⟨m + 1, false, by go_num, rfl, hml, HB3, Lib.hid (below_and HBM.out (below_drewN _))⟩, by simp [intOf]; omega⟩
            · have HB3 : Hid (true = ((L6.take (m + 1)).any fun q => decide (q.task = (x.p.job, x.p.idx)))) := Lib.hid (by rw [HBK2.out]; simp)
              clear hy
              go_wp2
              go_quiet (fail)
              go_wp2
              go_roundw
              case rel => exact ⟨m + 1, true, by go_num, rfl, hml, HB3, Lib.hid (below_and HBM.out (below_drewN _))⟩
              case measure => simp [intOf]; omega
          · obtain rfl : m = L6.length := by omega
            have HHB : Hid (hasM (takeM M) (x.p.job, x.p.idx) = bk) := Lib.hid (by rw [← HHAS.out, HBK.out, List.take_length])
            have HW := Lib.hid (HZ.out.kept HBM.out)
            have HGW := Lib.hid (HGZ.out.kept HBM.out)
            have HK0 : Hid (wr.drew.cell? ⟨xq, 4, none⟩ = some (.slice pz L6.length cz) ∧ wr.drew.cell? ⟨ga, 1, none⟩ = some (.string x.p.job) ∧ wr.drew.cell? ⟨ga, 2, none⟩ = some (.int .i64 x.p.idx)) := Lib.hid ⟨cell_kept z4 (below_drewN 1), (HGW.out.kept (below_drewN 1)).cell (j := 1) rfl, (HGW.out.kept (below_drewN 1)).cell (j := 2) rfl⟩
            have HTD := Lib.hid (HW.out.kept (below_drewN 1))
            have HGD := Lib.hid (HGW.out.kept (below_drewN 1))
            have HZD := Lib.hid (cell_kept z4 (below_drewN 1))
            go_wp2
            clear z4
            go_region_held3 (fun w' => (w'.cell? ⟨xq, 4, none⟩ = some (.slice pz L6.length cz) ∧ w'.cell? ⟨ga, 1, none⟩ = some (.string x.p.job) ∧ w'.cell? ⟨ga, 2, none⟩ = some (.int .i64 x.p.idx)))
              (first | with_reducible exact HK0.out | with_reducible exact HK1.out | with_reducible exact HK2.out | with_reducible exact HK3.out | with_reducible exact HK4.out | exact HK0.out | exact HK1.out | exact HK2.out | exact HK3.out | exact HK4.out)
              (first
                | (go_at_call 19; refine (tw_len w _ b xq _ _ (takeM M) (takeM M) L6 HTD.out (by have := HLN.out; omega)).mono ?_; rw [HLN.out]; rintro e wl ⟨rfl, rfl⟩)
                | (go_at_call 25; refine (tw_has w _ b xq _ _ (takeM M) (takeM M) L6 (x.p.job, x.p.idx) HTD.out).mono ?_; rw [HHB.out]; rintro e wh ⟨rfl, hb⟩; have HTH := Lib.hid (HTD.out.kept hb); have HGH := HGD.out.kept hb; have HK1 : Hid (wh.cell? ⟨xq, 4, none⟩ = some (.slice pz L6.length cz) ∧ wh.cell? ⟨ga, 1, none⟩ = some (.string x.p.job) ∧ wh.cell? ⟨ga, 2, none⟩ = some (.int .i64 x.p.idx)) := Lib.hid ⟨cell_kept HZD.out hb, HGH.cell (j := 1) rfl, HGH.cell (j := 2) rfl⟩; have HZH := Lib.hid (cell_kept HZD.out hb); have HG1 := Lib.hid HGH; clear hb HGH)
                | (go_at_call 11; refine (tw_all1 w _ b xq _ _ (takeM M) (takeM M) L6 HTH.out (by omega) (by have := HLN.out; omega)).mono ?_; rintro e wi ⟨o1, rfl, ho, hb⟩; rw [← allM_len HMZ.out] at ho; have HOI := Lib.hid ho; have HTI := Lib.hid (HTH.out.kept hb); have HG2 := Lib.hid (HG1.out.kept hb); have HZI := Lib.hid (cell_kept HZH.out hb); have HK2 : Hid (wi.cell? ⟨xq, 4, none⟩ = some (.slice pz L6.length cz) ∧ wi.cell? ⟨ga, 1, none⟩ = some (.string x.p.job) ∧ wi.cell? ⟨ga, 2, none⟩ = some (.int .i64 x.p.idx)) := Lib.hid ⟨HZI.out, HG2.out.cell (j := 1) rfl, HG2.out.cell (j := 2) rfl⟩; clear ho hb)
                | (go_at_call 27; refine (tw_all2 w _ b xq _ _ (takeM M) (takeM M) L6 HTI.out (by have := HLN.out; omega)).mono ?_; rintro e wj ⟨o2, rfl, ho, hb⟩; rw [← allM_len HMZ.out] at ho; have HOJ := Lib.hid ho; have HOJ1 := Lib.hid (own_keep HOI.out hb); have HTJ := Lib.hid (HTI.out.kept hb); have HG3 := Lib.hid (HG2.out.kept hb); have HZJ := Lib.hid (cell_kept HZI.out hb); have HK3 : Hid (wj.cell? ⟨xq, 4, none⟩ = some (.slice pz L6.length cz) ∧ wj.cell? ⟨ga, 1, none⟩ = some (.string x.p.job) ∧ wj.cell? ⟨ga, 2, none⟩ = some (.int .i64 x.p.idx)) := Lib.hid ⟨HZJ.out, HG3.out.cell (j := 1) rfl, HG3.out.cell (j := 2) rfl⟩; clear ho hb)
                | (go_at_call 26; refine (qsame_any _ _ _ _ (allM (takeM M)) _ HOJ1.out HOJ.out).mono ?_; rintro e wk ⟨rfl, hb⟩; have HTK := Lib.hid (HTJ.out.kept hb); have HG4 := Lib.hid (HG3.out.kept hb); have HZK := Lib.hid (cell_kept HZJ.out hb); have HK4 : Hid (wk.cell? ⟨xq, 4, none⟩ = some (.slice pz L6.length cz) ∧ wk.cell? ⟨ga, 1, none⟩ = some (.string x.p.job) ∧ wk.cell? ⟨ga, 2, none⟩ = some (.int .i64 x.p.idx)) := Lib.hid ⟨HZK.out, HG4.out.cell (j := 1) rfl, HG4.out.cell (j := 2) rfl⟩; clear hb))
            go_wp2
            go_roundw
            case rel => exact ⟨k + 1, (takeM M), L6, hlt, by go_num, Lib.hid ((HTK.out.less (fun _ h => by cases h)).grow (by omega)), by omega⟩
            case measure => simp [intOf]; omega
      · have HPK := Lib.hid HPK
        rw [h4] at HPK
        clear h4
        obtain ⟨p0, hp0⟩ : ∃ p0, p0 = headP M := ⟨_, rfl⟩
        obtain ⟨ok0, hok0⟩ : ∃ ok0, ok0 = headB M := ⟨_, rfl⟩
        have HV : Hid (headV M = .tuple #[pval p0, .bool ok0]) := Lib.hid (by rw [headV_eq, hp0, hok0])
        clear hp0 hok0
        go_upto_region 21 with (first | (go_at_call 20; refine (HPK.out _).mono ?_; rintro e w4 ⟨rfl, rfl⟩) | (go_at_call 18; refine (tw_peek1 w _ b xq _ _ M M L HT.out).mono ?_; rw [HV.out]; rintro e w5 ⟨rfl, hb⟩; have HT1 := Lib.hid (HT.out.kept hb); have HG1 := Lib.hid (HGA.out.kept hb); clear hb))
        obtain ⟨g8, hg8⟩ : ∃ g8, g8 = w5.heap.size := ⟨_, rfl⟩
        obtain ⟨w6, hw6⟩ : ∃ w6, w6 = w5.alloc (.cells #[.string p0.job, .int .i64 p0.idx, .string p0.user, .int .i64 p0.band] 29) := ⟨_, rfl⟩
        have HT2 : Hid (Tw w w6 b xq [g8, ga] _ M M L) := Lib.hid (by rw [hw6, hg8]; exact HT1.out.box _)
        have HG2 : Hid (Blk w6 ga (actC x) 48) := Lib.hid (by rw [hw6]; exact HG1.out.alloc _)
        have HX2 : Hid (Blk w6 g8 (pend p0) 29) := Lib.hid (by rw [hw6, hg8]; exact Blk.made w5 (pend p0) _)
        rw [← hw6, ← hg8]
        clear hw6 hg8
        go_upto_region 22 with (go_at_call 23; refine (tw_peek2 w _ b xq _ _ M M L HT2.out).mono ?_; rw [HV.out]; rintro e w7 ⟨rfl, hb⟩; have HT3 := Lib.hid (HT2.out.kept hb); have HG3 := Lib.hid (HG2.out.kept hb); have HX3 := Lib.hid (HX2.out.kept hb); clear hb)
        obtain ⟨g9, hg9⟩ : ∃ g9, g9 = w7.heap.size := ⟨_, rfl⟩
        obtain ⟨w8, hw8⟩ : ∃ w8, w8 = w7.alloc (.cells #[.string p0.job, .int .i64 p0.idx, .string p0.user, .int .i64 p0.band] 29) := ⟨_, rfl⟩
        have HT4 : Hid (Tw w w8 b xq [g8, ga] _ M M L) := Lib.hid (by rw [hw8]; exact HT3.out.kept (below_alloc w7 _))
        have HGZ : Hid (Blk w8 ga (actC x) 48) := Lib.hid (by rw [hw8]; exact HG3.out.alloc _)
        have HX4 : Hid (Blk w8 g8 (pend p0) 29) := Lib.hid (by rw [hw8]; exact HX3.out.alloc _)
        have HY4 : Hid (Blk w8 g9 (pend p0) 29) := Lib.hid (by rw [hw8, hg9]; exact Blk.made w7 (pend p0) _)
        rw [← hw8, ← hg9]
        clear hw8 hg9
        have e0 := HX4.out.cell (j := 0) rfl
        have e1 := HX4.out.cell (j := 1) rfl
        have e2 := HX4.out.cell (j := 2) rfl
        have e3 := HX4.out.cell (j := 3) rfl
        have f0 := HY4.out.cell (j := 0) rfl
        have f1 := HY4.out.cell (j := 1) rfl
        have f2 := HY4.out.cell (j := 2) rfl
        have f3 := HY4.out.cell (j := 3) rfl
        have HZ := Lib.hid (HT4.out.less (D' := [ga]) (fun k hk => by rw [List.mem_singleton.1 hk]; simp))
        have hfz : (flatM M).length ≤ k + 1 := by omega
        go_upto_region 23 with fail
        clear e0 e1 e2 e3 f0 f1 f2 f3
        have HMZ := Lib.hid HZ.out.mi1
        have HLN : Hid ((flatM M).length = L.length) := Lib.hid HZ.out.lenL.symm
        have HHAS : Hid ((L.any fun q => decide (q.task = (x.p.job, x.p.idx))) = hasM M (x.p.job, x.p.idx)) := Lib.hid (HZ.out.has (x.p.job, x.p.idx))
        obtain ⟨pz, cz, hcz, hoz⟩ := HZ.out.cL
        have HOZ := Lib.hid hoz
        have HCZ := Lib.hid hcz
        have hzl : L.length ≤ 201 := by have := HLN.out; omega
        clear hoz hcz
        go_wp2
        go_loopw [16, 17] (fun hv kv wc => ∃ (m : Nat) (bk : Bool), kv = .int .i64 (m : Int) ∧ hv = .bool bk ∧ m ≤ L.length ∧ Hid (bk = (L.take m).any fun q => decide (q.task = (x.p.job, x.p.idx))) ∧ Hid (Below w8.heap.size w8 wc)) (fun _ kv _ => L.length - (intOf kv).toNat)
        case atStart => exact ⟨0, false, rfl, rfl, Nat.zero_le _, Lib.hid rfl, Lib.hid (Below.refl _ _)⟩
        case round =>
          obtain ⟨m, bk, rfl, rfl, hm, HBK, HBM⟩ := hrel
          have z4 := cell_kept HCZ.out HBM.out
          by_cases hml : m < L.length
          · obtain ⟨q4, e4, hcs⟩ := pown_cell (own_keep HOZ.out HBM.out) hml rfl
            subst e4
            obtain ⟨y, hy⟩ : ∃ y, y = L[m] := ⟨_, rfl⟩
            have HBK2 : Hid (((L.take (m + 1)).any fun q => decide (q.task = (x.p.job, x.p.idx))) = (bk || decide (y.task = (x.p.job, x.p.idx)))) := Lib.hid (by rw [List.take_succ_eq_append_getElem hml, List.any_append, ← HBK.out, ← hy]; simp)
            rw [← hy] at hcs
            have c0 : wr.cell? ⟨q4, m * 4, none⟩ = some (.string y.job) := hcs 0 _ (by omega) rfl
            have c1 : wr.cell? ⟨q4, m * 4 + 1, none⟩ = some (.int .i64 y.idx) := hcs 1 _ (by omega) rfl
            have d1 := (HGZ.out.kept HBM.out).cell (j := 1) rfl
            have d2 := (HGZ.out.kept HBM.out).cell (j := 2) rfl
            have i6 : (m : Int) < (L.length : Int) := by omega
            clear hcs
            cases bk
            · by_cases hq : y.task = (x.p.job, x.p.idx)
              · have HB3 : Hid (true = ((L.take (m + 1)).any fun q => decide (q.task = (x.p.job, x.p.idx)))) := Lib.hid (by rw [HBK2.out]; simp [hq])
                have hqj : y.job = x.p.job := congrArg Prod.fst hq
                have hqi : y.idx = x.p.idx := congrArg Prod.snd hq
                rw [hqj] at c0
                rw [hqi] at c1
                clear hy hq hqj hqi
                go_wp2
                go_quiet (fail)
                go_wp2
                go_roundw
                case rel => exact ⟨m + 1, true, by go_num, rfl, hml, HB3, Lib.hid (below_and HBM.out (below_drewN _))⟩
                case measure => simp [intOf]; omega
              · have HB3 : Hid (false = ((L.take (m + 1)).any fun q => decide (q.task = (x.p.job, x.p.idx)))) := Lib.hid (by rw [HBK2.out]; simp [hq])
                obtain ⟨yj, yi, yu, yd⟩ := y
                simp only at c0 c1
                have hq2 : (yj.toList == x.p.job.toList) = false ∨ (yi == x.p.idx) = false := by
                  rw [toList_eq]
                  simp only [decide_eq_false_iff_not, beq_eq_false_iff_ne]
                  by_cases a1 : yj = x.p.job
                  · exact .inr (fun a2 => hq (by rw [← a1, ← a2]; rfl))
                  · exact .inl a1
                clear hy hq
                rcases hq2 with ha | ha
                all_goals go_wp2
                all_goals go_quiet (fail)
                all_goals go_wp2
                all_goals exact ⟨⟨m + 1, false, by go_num, rfl, hml, HB3, Lib.hid (below_and HBM.out (below_drewN _))⟩, by simp [intOf]; omega⟩
            · have HB3 : Hid (true = ((L.take (m + 1)).any fun q => decide (q.task = (x.p.job, x.p.idx)))) := Lib.hid (by rw [HBK2.out]; simp)
              clear hy
              go_wp2
              go_quiet (fail)
              go_wp2
              go_roundw
              case rel => exact ⟨m + 1, true, by go_num, rfl, hml, HB3, Lib.hid (below_and HBM.out (below_drewN _))⟩
              case measure => simp [intOf]; omega
          · obtain rfl : m = L.length := by omega
            have HHB : Hid (hasM M (x.p.job, x.p.idx) = bk) := Lib.hid (by rw [← HHAS.out, HBK.out, List.take_length])
            have HW := Lib.hid (HZ.out.kept HBM.out)
            have HGW := Lib.hid (HGZ.out.kept HBM.out)
            have HK0 : Hid (wr.drew.cell? ⟨xq, 4, none⟩ = some (.slice pz L.length cz) ∧ wr.drew.cell? ⟨ga, 1, none⟩ = some (.string x.p.job) ∧ wr.drew.cell? ⟨ga, 2, none⟩ = some (.int .i64 x.p.idx)) := Lib.hid ⟨cell_kept z4 (below_drewN 1), (HGW.out.kept (below_drewN 1)).cell (j := 1) rfl, (HGW.out.kept (below_drewN 1)).cell (j := 2) rfl⟩
            have HTD := Lib.hid (HW.out.kept (below_drewN 1))
            have HGD := Lib.hid (HGW.out.kept (below_drewN 1))
            have HZD := Lib.hid (cell_kept z4 (below_drewN 1))
            go_wp2
            clear z4
            go_region_held3 (fun w' => (w'.cell? ⟨xq, 4, none⟩ = some (.slice pz L.length cz) ∧ w'.cell? ⟨ga, 1, none⟩ = some (.string x.p.job) ∧ w'.cell? ⟨ga, 2, none⟩ = some (.int .i64 x.p.idx)))
              (first | with_reducible exact HK0.out | with_reducible exact HK1.out | with_reducible exact HK2.out | with_reducible exact HK3.out | with_reducible exact HK4.out | exact HK0.out | exact HK1.out | exact HK2.out | exact HK3.out | exact HK4.out)
              (first
                | (go_at_call 19; refine (tw_len w _ b xq _ _ M M L HTD.out (by have := HLN.out; omega)).mono ?_; rw [HLN.out]; rintro e wl ⟨rfl, rfl⟩)
                | (go_at_call 25; refine (tw_has w _ b xq _ _ M M L (x.p.job, x.p.idx) HTD.out).mono ?_; rw [HHB.out]; rintro e wh ⟨rfl, hb⟩; have HTH := Lib.hid (HTD.out.kept hb); have HGH := HGD.out.kept hb; have HK1 : Hid (wh.cell? ⟨xq, 4, none⟩ = some (.slice pz L.length cz) ∧ wh.cell? ⟨ga, 1, none⟩ = some (.string x.p.job) ∧ wh.cell? ⟨ga, 2, none⟩ = some (.int .i64 x.p.idx)) := Lib.hid ⟨cell_kept HZD.out hb, HGH.cell (j := 1) rfl, HGH.cell (j := 2) rfl⟩; have HZH := Lib.hid (cell_kept HZD.out hb); have HG1 := Lib.hid HGH; clear hb HGH)
                | (go_at_call 11; refine (tw_all1 w _ b xq _ _ M M L HTH.out (by omega) (by have := HLN.out; omega)).mono ?_; rintro e wi ⟨o1, rfl, ho, hb⟩; rw [← allM_len HMZ.out] at ho; have HOI := Lib.hid ho; have HTI := Lib.hid (HTH.out.kept hb); have HG2 := Lib.hid (HG1.out.kept hb); have HZI := Lib.hid (cell_kept HZH.out hb); have HK2 : Hid (wi.cell? ⟨xq, 4, none⟩ = some (.slice pz L.length cz) ∧ wi.cell? ⟨ga, 1, none⟩ = some (.string x.p.job) ∧ wi.cell? ⟨ga, 2, none⟩ = some (.int .i64 x.p.idx)) := Lib.hid ⟨HZI.out, HG2.out.cell (j := 1) rfl, HG2.out.cell (j := 2) rfl⟩; clear ho hb)
                | (go_at_call 27; refine (tw_all2 w _ b xq _ _ M M L HTI.out (by have := HLN.out; omega)).mono ?_; rintro e wj ⟨o2, rfl, ho, hb⟩; rw [← allM_len HMZ.out] at ho; have HOJ := Lib.hid ho; have HOJ1 := Lib.hid (own_keep HOI.out hb); have HTJ := Lib.hid (HTI.out.kept hb); have HG3 := Lib.hid (HG2.out.kept hb); have HZJ := Lib.hid (cell_kept HZI.out hb); have HK3 : Hid (wj.cell? ⟨xq, 4, none⟩ = some (.slice pz L.length cz) ∧ wj.cell? ⟨ga, 1, none⟩ = some (.string x.p.job) ∧ wj.cell? ⟨ga, 2, none⟩ = some (.int .i64 x.p.idx)) := Lib.hid ⟨HZJ.out, HG3.out.cell (j := 1) rfl, HG3.out.cell (j := 2) rfl⟩; clear ho hb)
                | (go_at_call 26; refine (qsame_any _ _ _ _ (allM M) _ HOJ1.out HOJ.out).mono ?_; rintro e wk ⟨rfl, hb⟩; have HTK := Lib.hid (HTJ.out.kept hb); have HG4 := Lib.hid (HG3.out.kept hb); have HZK := Lib.hid (cell_kept HZJ.out hb); have HK4 : Hid (wk.cell? ⟨xq, 4, none⟩ = some (.slice pz L.length cz) ∧ wk.cell? ⟨ga, 1, none⟩ = some (.string x.p.job) ∧ wk.cell? ⟨ga, 2, none⟩ = some (.int .i64 x.p.idx)) := Lib.hid ⟨HZK.out, HG4.out.cell (j := 1) rfl, HG4.out.cell (j := 2) rfl⟩; clear hb))
            go_wp2
            go_roundw
            case rel => exact ⟨k + 1, M, L, hlt, by go_num, Lib.hid ((HTK.out.less (fun _ h => by cases h)).grow (by omega)), by omega⟩
            case measure => simp [intOf]; omega
      · have HPK := Lib.hid HPK
        rw [h4] at HPK
        clear h4
        obtain ⟨er, her⟩ : ∃ er : Int, er = (if hasM M (x.p.job, x.p.idx) = true then 0 else 6) := ⟨_, rfl⟩
        have HER := Lib.hid her
        clear her
        have HTD := Lib.hid (HT.out.kept (below_drewN 1))
        have HGD := Lib.hid (HGA.out.kept (below_drewN 1))
        go_wp2_with (go_at_call 20; refine (HPK.out _).mono ?_; rintro e w4 ⟨rfl, rfl⟩)
        go_region_held3 (fun w' => (w'.cell? ⟨ga, 1, none⟩ = some (.string x.p.job) ∧ w'.cell? ⟨ga, 2, none⟩ = some (.int .i64 x.p.idx) ∧ w'.cell? ⟨ga, 3, none⟩ = some (.string x.p.user) ∧ w'.cell? ⟨ga, 4, none⟩ = some (.int .i64 x.p.band)))
          (first | with_reducible exact HS0.out | with_reducible exact HS1.out | with_reducible exact HS2.out | exact HS0.out | exact HS1.out | exact HS2.out)
          (first
            | (go_at_call 17; refine (tw_drop1 w _ b xq _ _ M M L (x.p.job, x.p.idx) HTD.out (by omega)).mono ?_; rw [← HER.out]; rintro e w5 ⟨rfl, hq, hk⟩; have HT1 := Lib.hid hq; have HG1 := Lib.hid (hk.2 ga List.mem_cons_self _ _ HGD.out); have HS1 : Hid (S4 ga x w5) := Lib.hid (s4_of HG1.out); clear hq hk)
            | (go_at_call 24; refine (tw_drop2 w _ b xq _ _ (dropM M (x.p.job, x.p.idx)) M L (x.p.job, x.p.idx) HT1.out (by omega)).mono ?_; rw [← HER.out]; rintro e w6 ⟨rfl, L6, hq, hk⟩; have HZ := Lib.hid hq; have HGZ := Lib.hid (hk.2 ga List.mem_cons_self _ _ HG1.out); have HS2 : Hid (S4 ga x w6) := Lib.hid (s4_of HGZ.out); clear hq hk))
        have hfz : (flatM (dropM M (x.p.job, x.p.idx))).length ≤ k + 1 := by have := drop_less M (x.p.job, x.p.idx); omega
        have HMZ := Lib.hid HZ.out.mi1
        have HLN : Hid ((flatM (dropM M (x.p.job, x.p.idx))).length = L6.length) := Lib.hid HZ.out.lenL.symm
        have HHAS : Hid ((L6.any fun q => decide (q.task = (x.p.job, x.p.idx))) = hasM (dropM M (x.p.job, x.p.idx)) (x.p.job, x.p.idx)) := Lib.hid (HZ.out.has (x.p.job, x.p.idx))
        obtain ⟨pz, cz, hcz, hoz⟩ := HZ.out.cL
        have HOZ := Lib.hid hoz
        have HCZ := Lib.hid hcz
        have hzl : L6.length ≤ 201 := by have := HLN.out; omega
        clear hoz hcz
        go_wp2
        go_loopw [16, 17] (fun hv kv wc => ∃ (m : Nat) (bk : Bool), kv = .int .i64 (m : Int) ∧ hv = .bool bk ∧ m ≤ L6.length ∧ Hid (bk = (L6.take m).any fun q => decide (q.task = (x.p.job, x.p.idx))) ∧ Hid (Below w6.heap.size w6 wc)) (fun _ kv _ => L6.length - (intOf kv).toNat)
        case atStart => exact ⟨0, false, rfl, rfl, Nat.zero_le _, Lib.hid rfl, Lib.hid (Below.refl _ _)⟩
        case round =>
          obtain ⟨m, bk, rfl, rfl, hm, HBK, HBM⟩ := hrel
          have z4 := cell_kept HCZ.out HBM.out
          by_cases hml : m < L6.length
          · obtain ⟨q4, e4, hcs⟩ := pown_cell (own_keep HOZ.out HBM.out) hml rfl
            subst e4
            obtain ⟨y, hy⟩ : ∃ y, y = L6[m] := ⟨_, rfl⟩
            have HBK2 : Hid (((L6.take (m + 1)).any fun q => decide (q.task = (x.p.job, x.p.idx))) = (bk || decide (y.task = (x.p.job, x.p.idx)))) := Lib.hid (by rw [List.take_succ_eq_append_getElem hml, List.any_append, ← HBK.out, ← hy]; simp)
            rw [← hy] at hcs
            have c0 : wr.cell? ⟨q4, m * 4, none⟩ = some (.string y.job) := hcs 0 _ (by omega) rfl
            have c1 : wr.cell? ⟨q4, m * 4 + 1, none⟩ = some (.int .i64 y.idx) := hcs 1 _ (by omega) rfl
            have d1 := (HGZ.out.kept HBM.out).cell (j := 1) rfl
            have d2 := (HGZ.out.kept HBM.out).cell (j := 2) rfl
            have i6 : (m : Int) < (L6.length : Int) := by omega
            clear hcs
            cases bk
            · by_cases hq : y.task = (x.p.job, x.p.idx)
              · have HB3 : Hid (true = ((L6.take (m + 1)).any fun q => decide (q.task = (x.p.job, x.p.idx)))) := Lib.hid (by rw [HBK2.out]; simp [hq])
                have hqj : y.job = x.p.job := congrArg Prod.fst hq
                have hqi : y.idx = x.p.idx := congrArg Prod.snd hq
                rw [hqj] at c0
                rw [hqi] at c1
                clear hy hq hqj hqi
                go_wp2
                go_quiet (fail)
                go_wp2
                go_roundw
                case rel => exact ⟨m + 1, true, by go_num, rfl, hml, HB3, Lib.hid (below_and HBM.out (below_drewN _))⟩
                case measure => simp [intOf]; omega
              · have HB3 : Hid (false = ((L6.take (m + 1)).any fun q => decide (q.task = (x.p.job, x.p.idx)))) := Lib.hid (by rw [HBK2.out]; simp [hq])
                obtain ⟨yj, yi, yu, yd⟩ := y
                simp only at c0 c1
                have hq2 : (yj.toList == x.p.job.toList) = false ∨ (yi == x.p.idx) = false := by
                  rw [toList_eq]
                  simp only [decide_eq_false_iff_not, beq_eq_false_iff_ne]
                  by_cases a1 : yj = x.p.job
                  · exact .inr (fun a2 => hq (by rw [← a1, ← a2]; rfl))
                  · exact .inl a1
                clear hy hq
                rcases hq2 with ha | ha
                all_goals go_wp2
                all_goals go_quiet (fail)
                all_goals go_wp2
                all_goals exact ⟨⟨m + 1, false, by go_num, rfl, hml, HB3, Lib.hid (below_and HBM.out (below_drewN _))⟩, by simp [intOf]; omega⟩
            · have HB3 : Hid (true = ((L6.take (m + 1)).any fun q => decide (q.task = (x.p.job, x.p.idx)))) := Lib.hid (by rw [HBK2.out]; simp)
              clear hy
              go_wp2
              go_quiet (fail)
              go_wp2
              go_roundw
              case rel => exact ⟨m + 1, true, by go_num, rfl, hml, HB3, Lib.hid (below_and HBM.out (below_drewN _))⟩
              case measure => simp [intOf]; omega
          · obtain rfl : m = L6.length := by omega
            have HHB : Hid (hasM (dropM M (x.p.job, x.p.idx)) (x.p.job, x.p.idx) = bk) := Lib.hid (by rw [← HHAS.out, HBK.out, List.take_length])
            have HW := Lib.hid (HZ.out.kept HBM.out)
            have HGW := Lib.hid (HGZ.out.kept HBM.out)
            have HK0 : Hid (wr.drew.cell? ⟨xq, 4, none⟩ = some (.slice pz L6.length cz) ∧ wr.drew.cell? ⟨ga, 1, none⟩ = some (.string x.p.job) ∧ wr.drew.cell? ⟨ga, 2, none⟩ = some (.int .i64 x.p.idx)) := Lib.hid ⟨cell_kept z4 (below_drewN 1), (HGW.out.kept (below_drewN 1)).cell (j := 1) rfl, (HGW.out.kept (below_drewN 1)).cell (j := 2) rfl⟩
            have HTD := Lib.hid (HW.out.kept (below_drewN 1))
            have HGD := Lib.hid (HGW.out.kept (below_drewN 1))
            have HZD := Lib.hid (cell_kept z4 (below_drewN 1))
            go_wp2
            clear z4
            go_region_held3 (fun w' => (w'.cell? ⟨xq, 4, none⟩ = some (.slice pz L6.length cz) ∧ w'.cell? ⟨ga, 1, none⟩ = some (.string x.p.job) ∧ w'.cell? ⟨ga, 2, none⟩ = some (.int .i64 x.p.idx)))
              (first | with_reducible exact HK0.out | with_reducible exact HK1.out | with_reducible exact HK2.out | with_reducible exact HK3.out | with_reducible exact HK4.out | exact HK0.out | exact HK1.out | exact HK2.out | exact HK3.out | exact HK4.out)
              (first
                | (go_at_call 19; refine (tw_len w _ b xq _ _ (dropM M (x.p.job, x.p.idx)) (dropM M (x.p.job, x.p.idx)) L6 HTD.out (by have := HLN.out; omega)).mono ?_; rw [HLN.out]; rintro e wl ⟨rfl, rfl⟩)
                | (go_at_call 25; refine (tw_has w _ b xq _ _ (dropM M (x.p.job, x.p.idx)) (dropM M (x.p.job, x.p.idx)) L6 (x.p.job, x.p.idx) HTD.out).mono ?_; rw [HHB.out]; rintro e wh ⟨rfl, hb⟩; have HTH := Lib.hid (HTD.out.kept hb); have HGH := HGD.out.kept hb; have HK1 : Hid (wh.cell? ⟨xq, 4, none⟩ = some (.slice pz L6.length cz) ∧ wh.cell? ⟨ga, 1, none⟩ = some (.string x.p.job) ∧ wh.cell? ⟨ga, 2, none⟩ = some (.int .i64 x.p.idx)) := Lib.hid ⟨cell_kept HZD.out hb, HGH.cell (j := 1) rfl, HGH.cell (j := 2) rfl⟩; have HZH := Lib.hid (cell_kept HZD.out hb); have HG1 := Lib.hid HGH; clear hb HGH)
                | (go_at_call 11; refine (tw_all1 w _ b xq _ _ (dropM M (x.p.job, x.p.idx)) (dropM M (x.p.job, x.p.idx)) L6 HTH.out (by omega) (by have := HLN.out; omega)).mono ?_; rintro e wi ⟨o1, rfl, ho, hb⟩; rw [← allM_len HMZ.out] at ho; have HOI := Lib.hid ho; have HTI := Lib.hid (HTH.out.kept hb); have HG2 := Lib.hid (HG1.out.kept hb); have HZI := Lib.hid (cell_kept HZH.out hb); have HK2 : Hid (wi.cell? ⟨xq, 4, none⟩ = some (.slice pz L6.length cz) ∧ wi.cell? ⟨ga, 1, none⟩ = some (.string x.p.job) ∧ wi.cell? ⟨ga, 2, none⟩ = some (.int .i64 x.p.idx)) := Lib.hid ⟨HZI.out, HG2.out.cell (j := 1) rfl, HG2.out.cell (j := 2) rfl⟩; clear ho hb)
                | (go_at_call 27; refine (tw_all2 w _ b xq _ _ (dropM M (x.p.job, x.p.idx)) (dropM M (x.p.job, x.p.idx)) L6 HTI.out (by have := HLN.out; omega)).mono ?_; rintro e wj ⟨o2, rfl, ho, hb⟩; rw [← allM_len HMZ.out] at ho; have HOJ := Lib.hid ho; have HOJ1 := Lib.hid (own_keep HOI.out hb); have HTJ := Lib.hid (HTI.out.kept hb); have HG3 := Lib.hid (HG2.out.kept hb); have HZJ := Lib.hid (cell_kept HZI.out hb); have HK3 : Hid (wj.cell? ⟨xq, 4, none⟩ = some (.slice pz L6.length cz) ∧ wj.cell? ⟨ga, 1, none⟩ = some (.string x.p.job) ∧ wj.cell? ⟨ga, 2, none⟩ = some (.int .i64 x.p.idx)) := Lib.hid ⟨HZJ.out, HG3.out.cell (j := 1) rfl, HG3.out.cell (j := 2) rfl⟩; clear ho hb)
                | (go_at_call 26; refine (qsame_any _ _ _ _ (allM (dropM M (x.p.job, x.p.idx))) _ HOJ1.out HOJ.out).mono ?_; rintro e wk ⟨rfl, hb⟩; have HTK := Lib.hid (HTJ.out.kept hb); have HG4 := Lib.hid (HG3.out.kept hb); have HZK := Lib.hid (cell_kept HZJ.out hb); have HK4 : Hid (wk.cell? ⟨xq, 4, none⟩ = some (.slice pz L6.length cz) ∧ wk.cell? ⟨ga, 1, none⟩ = some (.string x.p.job) ∧ wk.cell? ⟨ga, 2, none⟩ = some (.int .i64 x.p.idx)) := Lib.hid ⟨HZK.out, HG4.out.cell (j := 1) rfl, HG4.out.cell (j := 2) rfl⟩; clear hb))
            go_wp2
            go_roundw
            case rel => exact ⟨k + 1, (dropM M (x.p.job, x.p.idx)), L6, hlt, by go_num, Lib.hid ((HTK.out.less (fun _ h => by cases h)).grow (by omega)), by omega⟩
            case measure => simp [intOf]; omega
    · obtain rfl : k = l.length := by omega
      go_wp2
      go_ret
      exact ⟨rfl, HT0.out.bel⟩

theorem queueScript_walk (v : Value) (es : List (List Value)) (w : World) (hr : Row w v 5 es.length es.flatten) (hf : ∀ x ∈ es, Leaves Try.prog [3, 9, 3, 9, 3] x) :
    Calls Try.prog 5 #[v] w fun e w' => e = .returned (.bool true) ∧ Below w.heap.size w w' := by
  obtain ⟨l, h1, h2⟩ := act_list es hf
  rw [← h1, ← h2] at hr
  by_cases hl : 200 < l.length
  · exact queueScript_big v l w hr hl
  · exact queueScript_in v l w hr (by omega)
end Go.Proofs.Ytlemfbgmhjklaaa
