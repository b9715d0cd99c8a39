/- The document's Parse. -/
import Derived.Test.YtmgecehdicpjnaaDoorParse
import Derived.Test.YtmgecehdicpjnaaDoorRText
namespace Go.Proofs.YtmgecehdicpjnaaDoor
open Go.RowKit

theorem numP_err (l : List UInt8) : (numP l).2 = 0 ∨ (numP l).2 = 5 ∨ (numP l).2 = 9 := by
  unfold numP
  repeat' split
  all_goals simp
theorem partE_nil (sn : Sn) : partE [] sn = 5 := by
  unfold partE
  have : (partR []).2.2 = 5 := rfl
  rw [this]
  split <;> rfl
/-- the document's reading: from a place on, whatever stands there -/
theorem parse_start (l : List UInt8) (hn : l ≠ [110, 111, 110, 101]) : parseP l = parseF (l.length + 1) l 0 .zero ⟨false, false, false, false⟩ := by
  unfold parseP
  rw [if_neg hn]
  by_cases h : l = [] ∨ l.head? = some 32
  · rw [if_pos h]
    have hw : wordL l = [] := by
      rcases h with rfl | h
      · rfl
      · cases l with
        | nil => rfl
        | cons c l => simp at h; subst h; rfl
    have he : partE (wordL l) ⟨false, false, false, false⟩ = 5 := by rw [hw]; exact partE_nil _
    rw [parse_err (by rw [he]; simp), he]; rfl
  · rw [if_neg h]
theorem parse_next {n : Nat} {r : List UInt8} {a : Nat} {f : Am} {sn : Sn} (h : partE (wordL r) sn = 0) (h2 : restL r ≠ []) :
    parseF (n + 2) r a f sn = parseF (n + 1) ((restL r).dropWhile (· == 32)) (a + (wordL r).length + (blanks (restL r)).length) (f.put (partR (wordL r)).2.1 (partR (wordL r)).1) (sn.put (partR (wordL r)).1) := by
  by_cases h3 : (restL r).dropWhile (· == 32) = []
  · rw [parse_blank h h2 h3, h3]
    have he : ∀ sn, partE (wordL []) sn = 5 := partE_nil
    rw [parse_err (by rw [he]; simp), he]
  · rw [parse_go h h2 h3]


set_option maxRecDepth 100000 in
set_option maxHeartbeats 4000000 in
theorem rparse_none (s : ByteArray) (w : World) (hn : (s.toList == [110, 111, 110, 101]) = true) (hr : parseP s.data.toList = (.zero, 0, 0)) :
    Calls Tryd.prog 13 #[.string s] w (pPost s w) := by
  have HR := Lib.hid hr
  clear hr
  obtain ⟨w3, hw3⟩ : ∃ w3, w3 = (w.alloc (.cells #[.int .i64 0, .int .i64 0, .int .i64 0, .int .i64 0] 23)).alloc (.cells #[.int .i64 0, .int .i64 0] 29) := ⟨_, rfl⟩
  obtain ⟨B, hB⟩ : ∃ B, B = w.heap.size := ⟨_, rfl⟩
  have B0 : Hid (Blk w3 B (amC .zero) 23) := Lib.hid (by
    have := (Blk.made w (amC .zero) 23).alloc (.cells #[.int .i64 0, .int .i64 0] 29)
    rw [hw3, hB]; exact this)
  have B1 : Hid (Blk w3 (B + 1) [.int .i64 0, .int .i64 0] 29) := Lib.hid (by
    have := Blk.made (w.alloc (.cells #[.int .i64 0, .int .i64 0, .int .i64 0, .int .i64 0] 23)) [.int .i64 0, .int .i64 0] 29
    rw [hw3, hB]; simpa using this)
  have HSZ : Hid (w3.heap.size = B + 2) := Lib.hid (by rw [hw3, hB]; simp)
  have HBW0 : Hid (w.heap.size ≤ B) := Lib.hid (by omega)
  have HBL : Hid (Below w.heap.size w w3) := Lib.hid (by rw [hw3]; exact below_and (below_alloc w _) (below_alloc _ _))

  have hA := B0.out; have hF := B1.out; have ra0 := hA.cell (j := 0) rfl; have fa0 := hA.free 0; have ra1 := hA.cell (j := 1) rfl; have fa1 := hA.free 1; have ra2 := hA.cell (j := 2) rfl; have fa2 := hA.free 2; have ra3 := hA.cell (j := 3) rfl; have fa3 := hA.free 3; have rf0 := hF.cell (j := 0) rfl; have ff0 := hF.free 0; have rf1 := hF.cell (j := 1) rfl; have ff1 := hF.free 1; clear hA hF
  go_enter Tryd.func13, Tryd.ntmps13
  go_upto_region 1 with fail
  rw [← hw3, ← hB]
  clear hw3 hB
  go_wp2
  refine bodyPost_ret (results_row2 rfl _ _ B (B + 1) 23 29 #[.int .i64 0, .int .i64 0, .int .i64 0, .int .i64 0] #[.int .i64 0, .int .i64 0] (0, 0) (0, 0) _ _ rfl ?_ rfl ?_ Tryd.underlying23 rfl (by kernel_rfl) Tryd.underlying29 rfl (by kernel_rfl)) rfl ⟨?_, ?_⟩
  · exact ((((((B0.out).set 0 (.int .i64 (0))).set 1 (.int .i64 (0))).set 2 (.int .i64 (0))).set 3 (.int .i64 (0))).other (a := ⟨B + 1, 0, none⟩) (by simp) _).other (a := ⟨B + 1, 1, none⟩) (by simp) _
  · exact ((((((B1.out).other (a := ⟨B, 0, none⟩) (by simp) _).other (a := ⟨B, 1, none⟩) (by simp) _).other (a := ⟨B, 2, none⟩) (by simp) _).other (a := ⟨B, 3, none⟩) (by simp) _).set 0 (.int .i64 (0))).set 1 (.int .i64 (0))
  · exact pPost_of HR.out
  · have hBw : w.heap.size ≤ B := HBW0.out
    have hBx : w.heap.size ≤ B + 1 := by omega
    exact ((((((HBL.out).setCell (p := ⟨B, 0, none⟩) hBw _).setCell (p := ⟨B, 1, none⟩) hBw _).setCell (p := ⟨B, 2, none⟩) hBw _).setCell (p := ⟨B, 3, none⟩) hBw _).setCell (p := ⟨B + 1, 0, none⟩) hBx _).setCell (p := ⟨B + 1, 1, none⟩) hBx _

set_option maxRecDepth 100000 in
set_option maxHeartbeats 8000000 in
theorem rparse_go (s : ByteArray) (w : World) (hs : s.size ≤ 140737488351232) (hn : (s.toList == [110, 111, 110, 101]) = false) (hr : parseP s.data.toList = parseF (s.size + 1) s.data.toList 0 .zero ⟨false, false, false, false⟩) :
    Calls Tryd.prog 13 #[.string s] w (pPost s w) := by
  have HR := Lib.hid hr
  have HLS : Hid (s.data.toList.length = s.size) := Lib.hid (by simp)
  clear hr
  obtain ⟨w3, hw3⟩ : ∃ w3, w3 = (w.alloc (.cells #[.int .i64 0, .int .i64 0, .int .i64 0, .int .i64 0] 23)).alloc (.cells #[.int .i64 0, .int .i64 0] 29) := ⟨_, rfl⟩
  obtain ⟨B, hB⟩ : ∃ B, B = w.heap.size := ⟨_, rfl⟩
  have B0 : Hid (Blk w3 B (amC .zero) 23) := Lib.hid (by
    have := (Blk.made w (amC .zero) 23).alloc (.cells #[.int .i64 0, .int .i64 0] 29)
    rw [hw3, hB]; exact this)
  have B1 : Hid (Blk w3 (B + 1) [.int .i64 0, .int .i64 0] 29) := Lib.hid (by
    have := Blk.made (w.alloc (.cells #[.int .i64 0, .int .i64 0, .int .i64 0, .int .i64 0] 23)) [.int .i64 0, .int .i64 0] 29
    rw [hw3, hB]; simpa using this)
  have HSZ : Hid (w3.heap.size = B + 2) := Lib.hid (by rw [hw3, hB]; simp)
  have HBW0 : Hid (w.heap.size ≤ B) := Lib.hid (by omega)
  have HBL : Hid (Below w.heap.size w w3) := Lib.hid (by rw [hw3]; exact below_and (below_alloc w _) (below_alloc _ _))
  go_enter Tryd.func13, Tryd.ntmps13
  go_upto_region 1 with fail
  rw [← hw3, ← hB]
  clear hw3 hB

  have hmk1 : ∀ w : World, (Instr.makeSlice 56 (.int .i64 4) (.int .i64 4)).run Tryd.prog w = .ok (.slice (some ⟨w.heap.size, 0, none⟩) 4 4) (w.alloc (.cells #[.int .i64 0, .int .i64 0, .int .i64 0, .int .i64 0] 2)) := fun w => by kernel_rfl
  have hmk2 : ∀ w : World, (Instr.makeSlice 65 (.int .i64 4) (.int .i64 4)).run Tryd.prog w = .ok (.slice (some ⟨w.heap.size, 0, none⟩) 4 4) (w.alloc (.cells #[.bool false, .bool false, .bool false, .bool false] 4)) := fun w => by kernel_rfl
  obtain ⟨w5, hw5⟩ : ∃ w5, w5 = (w3.alloc (.cells #[.int .i64 0, .int .i64 0, .int .i64 0, .int .i64 0] 2)).alloc (.cells #[.bool false, .bool false, .bool false, .bool false] 4) := ⟨_, rfl⟩
  obtain ⟨g, hg⟩ : ∃ g, g = w3.heap.size := ⟨_, rfl⟩
  have G0 : Hid (Blk w5 g (amC .zero) 2) := Lib.hid (by
    have := (Blk.made w3 (amC .zero) 2).alloc (.cells #[.bool false, .bool false, .bool false, .bool false] 4)
    rw [hw5, hg]; exact this)
  have G1 : Hid (Blk w5 (g + 1) (snC ⟨false, false, false, false⟩) 4) := Lib.hid (by
    have := Blk.made (w3.alloc (.cells #[.int .i64 0, .int .i64 0, .int .i64 0, .int .i64 0] 2)) (snC ⟨false, false, false, false⟩) 4
    rw [hw5, hg]; simpa using this)
  have HGB : Hid (g = B + 2) := Lib.hid (by rw [hg]; exact HSZ.out)
  have HBL5 : Hid (Below w3.heap.size w3 w5) := Lib.hid (by rw [hw5]; exact below_and (below_alloc w3 _) (below_alloc _ _))
  have HB5 : Hid (Below w.heap.size w w5) := Lib.hid (below_and HBL.out HBL5.out)
  have A5 := Lib.hid (B0.out.kept HBL5.out)
  have F5 := Lib.hid (B1.out.kept HBL5.out)
  go_upto_region 5 with fail
  rw [← hw5, ← hg]
  clear hw5 hg hmk1 hmk2 hn
  go_wp2
  go_loopw [6] (fun a wc => ∃ (n : Nat) (q : Nat) (f : Am) (sn : Sn), a = .int .i64 (q : Int) ∧ q ≤ s.size ∧ Hid (s.size - q < n) ∧ Hid (parseP s.data.toList = parseF n (s.data.toList.drop q) q f sn) ∧ Hid (Blk wc g (amC f) 2) ∧ Hid (Blk wc (g + 1) (snC sn) 4) ∧ Hid (Blk wc B (amC .zero) 23) ∧ Hid (Blk wc (B + 1) [.int .i64 0, .int .i64 0] 29) ∧ Hid (Below w.heap.size w wc)) (fun a _ => s.size - (intOf a).toNat)
  case atStart => exact ⟨s.size + 1, 0, .zero, ⟨false, false, false, false⟩, rfl, Nat.zero_le _, Lib.hid (by omega), Lib.hid (by rw [HR.out]; rfl), G0, G1, A5, F5, HB5⟩
  case round =>
    obtain ⟨n, q, f, sn, rfl, hq, HN, HP, HL, HS, HA, HF, HB⟩ := hrel
    obtain ⟨m, hm⟩ : ∃ m, n = m + 1 := ⟨n - 1, by have := HN.out; omega⟩
    subst hm
    obtain ⟨r, hrr⟩ : ∃ r, r = s.data.toList.drop q := ⟨_, rfl⟩
    rw [← hrr] at HP
    have HRR := Lib.hid hrr
    have HRL : Hid (r.length = s.size - q) := Lib.hid (by rw [hrr, List.length_drop, HLS.out])
    obtain ⟨o, ho⟩ : ∃ o, o = (wordL r).length := ⟨_, rfl⟩
    have HO := Lib.hid ho
    have hor : q + o ≤ s.size := by have h1 := tw_le (· != 32) r; have := HRL.out; rw [ho]; unfold wordL; omega
    have HGET : Hid (∀ j (h : q + j < s.size), j < o → (s[q + j]'h).toNat ≠ 32) := Lib.hid (fun j h hj => by
      have h1 := tw_get (· != 32) r j (by have := HRL.out; omega) (by rw [ho] at hj; exact hj)
      have h2 : s[q + j]'h = r[j]'(by have := HRL.out; omega) := by
        subst hrr
        rw [List.getElem_drop]; rfl
      rw [h2]
      intro h4
      have h3 : r[j]'(by have := HRL.out; omega) = 32 := UInt8.toNat_inj.1 (by rw [h4]; rfl)
      simp [h3] at h1)
    have HSTOP : Hid (∀ (h : q + o < s.size), (s[q + o]'h).toNat = 32) := Lib.hid (fun h => by
      have h1 := tw_stop (· != 32) r (by show (wordL r).length < r.length; have := HRL.out; rw [← ho]; omega)
      have h2 : s[q + o]'h = r[(r.takeWhile (· != 32)).length]'(by show (wordL r).length < r.length; have := HRL.out; rw [← ho]; omega) := by
        have h3 : (r.takeWhile (· != 32)).length = o := ho.symm
        simp only [h3]
        subst hrr
        rw [List.getElem_drop]; rfl
      rw [h2]
      have h5 : r[(r.takeWhile (· != 32)).length]'(by show (wordL r).length < r.length; have := HRL.out; rw [← ho]; omega) = 32 := by simpa using h1
      rw [h5]; rfl)
    have HX2 : Hid ((s.extract q (q + o)).data.toList = wordL r) := Lib.hid (ex_word hrr ho)
    have HX3 : Hid ((s.extract q (q + o)).size ≤ maxLen) := Lib.hid (by rw [ByteArray.size_extract]; unfold maxLen; omega)
    clear hrr ho
    by_cases hend : q + o = s.size
    · have HEND := Lib.hid hend
      clear hend
      go_wp2
      go_loop [7] (fun a => ∃ j : Nat, j ≤ o ∧ a = .int .i64 ((q + j : Nat) : Int)) (fun a => s.size - (intOf a).toNat)
      case atStart => exact ⟨0, Nat.zero_le _, by simp⟩
      case round =>
        obtain ⟨j, hj, rfl⟩ := hrel
        by_cases hjo : j < o
        · obtain ⟨c, hc⟩ : ∃ c, c = q + j := ⟨_, rfl⟩
          have hcs : c < s.size := by omega
          have h32 : (((s[c]'hcs).toNat : Int) != 32) = true := by have h9 := HGET.out j (by omega) hjo; subst hc; simp; omega
          have HCC := Lib.hid hc
          rw [← hc]
          clear hc
          go_wp2
          go_round
          case rel => exact ⟨j + 1, by omega, by rw [HCC.out]; go_num⟩
          case measure => simp [intOf]; omega
        · obtain rfl : j = o := by omega
          obtain ⟨cq, hcq⟩ : ∃ cq, cq = q + j := ⟨_, rfl⟩
          have HCQ := Lib.hid hcq
          have tl : decide (cq < s.size) = false := by have := HEND.out; simp; omega
          rw [← hcq] at HX2 HX3 ⊢
          have b0 : (0 : Int) ≤ (q : Int) := by omega
          have b1 : (q : Int) ≤ (cq : Int) := by omega
          have b2 : (cq : Int) ≤ (s.size : Int) := by omega
          clear hcq
          go_upto_region 10 with (go_at_call 44; refine (rpart_any (s.extract q cq) _ HX3.out).mono ?_; rintro e1 w6 ⟨⟨i, d, rfl, hpx, hds⟩, hb⟩; have HPX := Lib.hid hpx; have HDS := Lib.hid hds; have HL6 := Lib.hid (HL.out.kept hb); have HS6 := Lib.hid (HS.out.kept hb); have HA6 := Lib.hid (HA.out.kept hb); have HF6 := Lib.hid (HF.out.kept hb); have HB6 := Lib.hid (below_and HB.out hb); clear hb hpx hds)
          have hnt : (-1 ≤ i ∧ i < 4) := ⟨HPX.out.lo, HPX.out.hi⟩
          by_cases hi : i = -1
          · subst hi
            have HE : Hid (parseP s.data.toList = (.zero, 5, (q : Int))) := Lib.hid (by
              have h9 : partE (wordL r) sn = 5 := by (unfold partE; have h8 := HPX.out.no rfl; rw [HX2.out] at h8; rw [h8]; split <;> rfl)
              rw [HP.out, parse_err (by rw [h9]; simp), h9])
            have hA := HA6.out; have hF := HF6.out; have ra0 := hA.cell (j := 0) rfl; have fa0 := hA.free 0; have ra1 := hA.cell (j := 1) rfl; have fa1 := hA.free 1; have ra2 := hA.cell (j := 2) rfl; have fa2 := hA.free 2; have ra3 := hA.cell (j := 3) rfl; have fa3 := hA.free 3; have rf0 := hF.cell (j := 0) rfl; have ff0 := hF.free 0; have rf1 := hF.cell (j := 1) rfl; have ff1 := hF.free 1; clear hA hF
            go_wp2
            refine bodyPost_ret (results_row2 rfl _ _ B (B + 1) 23 29 #[.int .i64 0, .int .i64 0, .int .i64 0, .int .i64 0] #[.int .i64 5, .int .i64 (q : Int)] (0, 0) (0, 0) _ _ rfl ?_ rfl ?_ Tryd.underlying23 rfl (by kernel_rfl) Tryd.underlying29 rfl (by kernel_rfl)) rfl ⟨?_, ?_⟩
            · exact ((((((HA6.out).set 0 (.int .i64 (0))).set 1 (.int .i64 (0))).set 2 (.int .i64 (0))).set 3 (.int .i64 (0))).other (a := ⟨B + 1, 0, none⟩) (by simp) _).other (a := ⟨B + 1, 1, none⟩) (by simp) _
            · exact ((((((HF6.out).other (a := ⟨B, 0, none⟩) (by simp) _).other (a := ⟨B, 1, none⟩) (by simp) _).other (a := ⟨B, 2, none⟩) (by simp) _).other (a := ⟨B, 3, none⟩) (by simp) _).set 0 (.int .i64 (5))).set 1 (.int .i64 ((q : Int)))
            · exact pPost_of HE.out
            · have hBw : w.heap.size ≤ B := HBW0.out
              have hBx : w.heap.size ≤ B + 1 := by omega
              exact ((((((HB6.out).setCell (p := ⟨B, 0, none⟩) hBw _).setCell (p := ⟨B, 1, none⟩) hBw _).setCell (p := ⟨B, 2, none⟩) hBw _).setCell (p := ⟨B, 3, none⟩) hBw _).setCell (p := ⟨B + 1, 0, none⟩) hBx _).setCell (p := ⟨B + 1, 1, none⟩) hBx _
          · obtain ⟨k, hk⟩ : ∃ k : Nat, i = (k : Int) := ⟨i.toNat, by omega⟩
            subst hk
            have hk4 : k < 4 := by omega
            have HPR : Hid (partR (wordL r) = (k, numP d.data.toList)) := Lib.hid (by have h8 := HPX.out.yes k rfl; rw [HX2.out] at h8; exact h8)
            have i0 : (0 : Int) ≤ (k : Int) := by omega
            have i1 : (k : Int) < 4 := by omega
            have i2 : decide ((k : Int) < 0) = false := by simp
            have sk := HS6.out.cell (snC_get sn hk4)
            clear hnt hi
            cases hsn : sn.get k
            · rw [hsn] at sk
              have HSN := Lib.hid hsn
              clear hsn
              go_upto_region 13 with (go_at_call 45; refine (rnumber_any d _ (by have h1 := HDS.out; have h2 := HX3.out; omega)).mono ?_; rintro e1 w7 ⟨⟨x, over, ok, rfl, hnr⟩, rfl⟩; have HNR := Lib.hid hnr; clear hnr)
              cases ok
              · clear sk
                have HE : Hid (parseP s.data.toList = (.zero, 5, (q : Int))) := Lib.hid (by
                  have h9 : partE (wordL r) sn = 5 := by (have h8 := HNR.out.bad rfl; unfold partE; rw [HPR.out]; show (if ((numP d.data.toList).2 = 9 ∨ (numP d.data.toList).2 = 0) ∧ sn.get k = true then 5 else (numP d.data.toList).2) = 5; rw [h8]; simp)
                  rw [HP.out, parse_err (by rw [h9]; simp), h9])
                have hA := HA6.out; have hF := HF6.out; have ra0 := hA.cell (j := 0) rfl; have fa0 := hA.free 0; have ra1 := hA.cell (j := 1) rfl; have fa1 := hA.free 1; have ra2 := hA.cell (j := 2) rfl; have fa2 := hA.free 2; have ra3 := hA.cell (j := 3) rfl; have fa3 := hA.free 3; have rf0 := hF.cell (j := 0) rfl; have ff0 := hF.free 0; have rf1 := hF.cell (j := 1) rfl; have ff1 := hF.free 1; clear hA hF
                go_wp2
                refine bodyPost_ret (results_row2 rfl _ _ B (B + 1) 23 29 #[.int .i64 0, .int .i64 0, .int .i64 0, .int .i64 0] #[.int .i64 5, .int .i64 (q : Int)] (0, 0) (0, 0) _ _ rfl ?_ rfl ?_ Tryd.underlying23 rfl (by kernel_rfl) Tryd.underlying29 rfl (by kernel_rfl)) rfl ⟨?_, ?_⟩
                · exact ((((((HA6.out).set 0 (.int .i64 (0))).set 1 (.int .i64 (0))).set 2 (.int .i64 (0))).set 3 (.int .i64 (0))).other (a := ⟨B + 1, 0, none⟩) (by simp) _).other (a := ⟨B + 1, 1, none⟩) (by simp) _
                · exact ((((((HF6.out).other (a := ⟨B, 0, none⟩) (by simp) _).other (a := ⟨B, 1, none⟩) (by simp) _).other (a := ⟨B, 2, none⟩) (by simp) _).other (a := ⟨B, 3, none⟩) (by simp) _).set 0 (.int .i64 (5))).set 1 (.int .i64 ((q : Int)))
                · exact pPost_of HE.out
                · have hBw : w.heap.size ≤ B := HBW0.out
                  have hBx : w.heap.size ≤ B + 1 := by omega
                  exact ((((((HB6.out).setCell (p := ⟨B, 0, none⟩) hBw _).setCell (p := ⟨B, 1, none⟩) hBw _).setCell (p := ⟨B, 2, none⟩) hBw _).setCell (p := ⟨B, 3, none⟩) hBw _).setCell (p := ⟨B + 1, 0, none⟩) hBx _).setCell (p := ⟨B + 1, 1, none⟩) hBx _
              · cases over
                · have HNP : Hid (numP d.data.toList = (x, 0)) := Lib.hid (HNR.out.good rfl rfl)
                  have HE0 : Hid (partE (wordL r) sn = 0) := Lib.hid (by unfold partE; rw [HPR.out]; show (if ((numP d.data.toList).2 = 9 ∨ (numP d.data.toList).2 = 0) ∧ sn.get k = true then 5 else (numP d.data.toList).2) = 0; rw [HNP.out, HSN.out]; simp)
                  have fk := HL6.out.cell (amC_get f hk4)
                  have ff := HL6.out.free k
                  have sf := HS6.out.free k
                  skip
                  go_upto_region 18 with fail
                  obtain ⟨w8, hw8⟩ : ∃ w8, w8 = (w6.setCell ⟨g, k, none⟩ (.int .i64 x)).setCell ⟨g + 1, k, none⟩ (.bool true) := ⟨_, rfl⟩
                  rw [← hw8]
                  have HGB2 : Hid (w.heap.size ≤ g ∧ w.heap.size ≤ g + 1) := Lib.hid (by have := HGB.out; have := HBW0.out; omega)
                  have HL7 : Hid (Blk w8 g (amC (f.put x k)) 2) := Lib.hid (by rw [hw8, ← amC_set f x hk4]; exact (HL6.out.set k _).other (a := ⟨g + 1, k, none⟩) (by simp) _)
                  have HS7 : Hid (Blk w8 (g + 1) (snC (sn.put k)) 4) := Lib.hid (by rw [hw8, ← snC_set sn hk4]; exact (HS6.out.other (a := ⟨g, k, none⟩) (by simp) _).set k _)
                  have HA7 : Hid (Blk w8 B (amC .zero) 23) := Lib.hid (by have := HGB.out; rw [hw8]; exact (HA6.out.other (a := ⟨g, k, none⟩) (by simp; omega) _).other (a := ⟨g + 1, k, none⟩) (by simp; omega) _)
                  have HF7 : Hid (Blk w8 (B + 1) [.int .i64 0, .int .i64 0] 29) := Lib.hid (by have := HGB.out; rw [hw8]; exact (HF6.out.other (a := ⟨g, k, none⟩) (by simp; omega) _).other (a := ⟨g + 1, k, none⟩) (by simp; omega) _)
                  have HB7 : Hid (Below w.heap.size w w8) := Lib.hid (by rw [hw8]; exact (HB6.out.setCell (p := ⟨g, k, none⟩) HGB2.out.1 _).setCell (p := ⟨g + 1, k, none⟩) HGB2.out.2 _)
                  clear hw8 sk fk ff sf
                  have hend := HEND.out
                  have te : ((cq : Int) == (s.size : Int)) = true := by have := HCQ.out; simp; omega
                  have te3 : (cq == s.size) = true := by have := HCQ.out; simp; omega
                  obtain ⟨z, hz⟩ : ∃ z, z = f.put x k := ⟨_, rfl⟩
                  have HE : Hid (parseP s.data.toList = (z, 0, 0)) := Lib.hid (by
                    rw [HP.out, parse_end HE0.out (by unfold restL; rw [tw_drop]; exact List.drop_eq_nil_of_le (by have h1 := HRL.out; have h2 := HO.out; unfold wordL at h2; omega)), HPR.out, HNP.out, hz])
                  rw [← hz] at HL7
                  clear hz hend
                  go_wp2_with (go_at_call 46; refine (of_any g z _ HL7.out).mono ?_; rintro e1 w9 ⟨rfl, hb⟩; have hA := HA7.out.kept hb; have hF := HF7.out.kept hb; have ra0 := hA.cell (j := 0) rfl; have fa0 := hA.free 0; have ra1 := hA.cell (j := 1) rfl; have fa1 := hA.free 1; have ra2 := hA.cell (j := 2) rfl; have fa2 := hA.free 2; have ra3 := hA.cell (j := 3) rfl; have fa3 := hA.free 3; have rf0 := hF.cell (j := 0) rfl; have ff0 := hF.free 0; have rf1 := hF.cell (j := 1) rfl; have ff1 := hF.free 1; have HA9 := Lib.hid hA; have HF9 := Lib.hid hF; have HB9 := Lib.hid (below_and HB7.out hb); clear hA hF hb)
                  refine bodyPost_ret (results_row2 rfl _ _ B (B + 1) 23 29 #[.int .i64 z.c, .int .i64 z.r, .int .i64 z.d, .int .i64 z.p] #[.int .i64 0, .int .i64 0] (0, 0) (0, 0) _ _ rfl ?_ rfl ?_ Tryd.underlying23 rfl (by kernel_rfl) Tryd.underlying29 rfl (by kernel_rfl)) rfl ⟨?_, ?_⟩
                  · exact ((((((HA9.out).set 0 (.int .i64 (z.c))).set 1 (.int .i64 (z.r))).set 2 (.int .i64 (z.d))).set 3 (.int .i64 (z.p))).other (a := ⟨B + 1, 0, none⟩) (by simp) _).other (a := ⟨B + 1, 1, none⟩) (by simp) _
                  · exact ((((((HF9.out).other (a := ⟨B, 0, none⟩) (by simp) _).other (a := ⟨B, 1, none⟩) (by simp) _).other (a := ⟨B, 2, none⟩) (by simp) _).other (a := ⟨B, 3, none⟩) (by simp) _).set 0 (.int .i64 (0))).set 1 (.int .i64 (0))
                  · exact pPost_of HE.out
                  · have hBw : w.heap.size ≤ B := HBW0.out
                    have hBx : w.heap.size ≤ B + 1 := by omega
                    exact ((((((HB9.out).setCell (p := ⟨B, 0, none⟩) hBw _).setCell (p := ⟨B, 1, none⟩) hBw _).setCell (p := ⟨B, 2, none⟩) hBw _).setCell (p := ⟨B, 3, none⟩) hBw _).setCell (p := ⟨B + 1, 0, none⟩) hBx _).setCell (p := ⟨B + 1, 1, none⟩) hBx _
                · clear sk
                  have HE : Hid (parseP s.data.toList = (.zero, 9, (q : Int))) := Lib.hid (by
                    have h9 : partE (wordL r) sn = 9 := by (have h8 := HNR.out.much rfl rfl; unfold partE; rw [HPR.out]; show (if ((numP d.data.toList).2 = 9 ∨ (numP d.data.toList).2 = 0) ∧ sn.get k = true then 5 else (numP d.data.toList).2) = 9; rw [h8, HSN.out]; simp)
                    rw [HP.out, parse_err (by rw [h9]; simp), h9])
                  have hA := HA6.out; have hF := HF6.out; have ra0 := hA.cell (j := 0) rfl; have fa0 := hA.free 0; have ra1 := hA.cell (j := 1) rfl; have fa1 := hA.free 1; have ra2 := hA.cell (j := 2) rfl; have fa2 := hA.free 2; have ra3 := hA.cell (j := 3) rfl; have fa3 := hA.free 3; have rf0 := hF.cell (j := 0) rfl; have ff0 := hF.free 0; have rf1 := hF.cell (j := 1) rfl; have ff1 := hF.free 1; clear hA hF
                  go_wp2
                  refine bodyPost_ret (results_row2 rfl _ _ B (B + 1) 23 29 #[.int .i64 0, .int .i64 0, .int .i64 0, .int .i64 0] #[.int .i64 9, .int .i64 (q : Int)] (0, 0) (0, 0) _ _ rfl ?_ rfl ?_ Tryd.underlying23 rfl (by kernel_rfl) Tryd.underlying29 rfl (by kernel_rfl)) rfl ⟨?_, ?_⟩
                  · exact ((((((HA6.out).set 0 (.int .i64 (0))).set 1 (.int .i64 (0))).set 2 (.int .i64 (0))).set 3 (.int .i64 (0))).other (a := ⟨B + 1, 0, none⟩) (by simp) _).other (a := ⟨B + 1, 1, none⟩) (by simp) _
                  · exact ((((((HF6.out).other (a := ⟨B, 0, none⟩) (by simp) _).other (a := ⟨B, 1, none⟩) (by simp) _).other (a := ⟨B, 2, none⟩) (by simp) _).other (a := ⟨B, 3, none⟩) (by simp) _).set 0 (.int .i64 (9))).set 1 (.int .i64 ((q : Int)))
                  · exact pPost_of HE.out
                  · have hBw : w.heap.size ≤ B := HBW0.out
                    have hBx : w.heap.size ≤ B + 1 := by omega
                    exact ((((((HB6.out).setCell (p := ⟨B, 0, none⟩) hBw _).setCell (p := ⟨B, 1, none⟩) hBw _).setCell (p := ⟨B, 2, none⟩) hBw _).setCell (p := ⟨B, 3, none⟩) hBw _).setCell (p := ⟨B + 1, 0, none⟩) hBx _).setCell (p := ⟨B + 1, 1, none⟩) hBx _
            · rw [hsn] at sk
              have HSN := Lib.hid hsn
              clear hsn
              have HE : Hid (parseP s.data.toList = (.zero, 5, (q : Int))) := Lib.hid (by
                have h9 : partE (wordL r) sn = 5 := by (unfold partE; rw [HPR.out]; show (if ((numP d.data.toList).2 = 9 ∨ (numP d.data.toList).2 = 0) ∧ sn.get k = true then 5 else (numP d.data.toList).2) = 5; rw [HSN.out]; rcases numP_err d.data.toList with h8 | h8 | h8 <;> rw [h8] <;> simp)
                rw [HP.out, parse_err (by rw [h9]; simp), h9])
              have hA := HA6.out; have hF := HF6.out; have ra0 := hA.cell (j := 0) rfl; have fa0 := hA.free 0; have ra1 := hA.cell (j := 1) rfl; have fa1 := hA.free 1; have ra2 := hA.cell (j := 2) rfl; have fa2 := hA.free 2; have ra3 := hA.cell (j := 3) rfl; have fa3 := hA.free 3; have rf0 := hF.cell (j := 0) rfl; have ff0 := hF.free 0; have rf1 := hF.cell (j := 1) rfl; have ff1 := hF.free 1; clear hA hF
              go_wp2
              refine bodyPost_ret (results_row2 rfl _ _ B (B + 1) 23 29 #[.int .i64 0, .int .i64 0, .int .i64 0, .int .i64 0] #[.int .i64 5, .int .i64 (q : Int)] (0, 0) (0, 0) _ _ rfl ?_ rfl ?_ Tryd.underlying23 rfl (by kernel_rfl) Tryd.underlying29 rfl (by kernel_rfl)) rfl ⟨?_, ?_⟩
              · exact ((((((HA6.out).set 0 (.int .i64 (0))).set 1 (.int .i64 (0))).set 2 (.int .i64 (0))).set 3 (.int .i64 (0))).other (a := ⟨B + 1, 0, none⟩) (by simp) _).other (a := ⟨B + 1, 1, none⟩) (by simp) _
              · exact ((((((HF6.out).other (a := ⟨B, 0, none⟩) (by simp) _).other (a := ⟨B, 1, none⟩) (by simp) _).other (a := ⟨B, 2, none⟩) (by simp) _).other (a := ⟨B, 3, none⟩) (by simp) _).set 0 (.int .i64 (5))).set 1 (.int .i64 ((q : Int)))
              · exact pPost_of HE.out
              · have hBw : w.heap.size ≤ B := HBW0.out
                have hBx : w.heap.size ≤ B + 1 := by omega
                exact ((((((HB6.out).setCell (p := ⟨B, 0, none⟩) hBw _).setCell (p := ⟨B, 1, none⟩) hBw _).setCell (p := ⟨B, 2, none⟩) hBw _).setCell (p := ⟨B, 3, none⟩) hBw _).setCell (p := ⟨B + 1, 0, none⟩) hBx _).setCell (p := ⟨B + 1, 1, none⟩) hBx _
    
    · have HEND := Lib.hid hend
      clear hend
      go_wp2
      go_loop [7] (fun a => ∃ j : Nat, j ≤ o ∧ a = .int .i64 ((q + j : Nat) : Int)) (fun a => s.size - (intOf a).toNat)
      case atStart => exact ⟨0, Nat.zero_le _, by simp⟩
      case round =>
        obtain ⟨j, hj, rfl⟩ := hrel
        by_cases hjo : j < o
        · obtain ⟨c, hc⟩ : ∃ c, c = q + j := ⟨_, rfl⟩
          have hcs : c < s.size := by omega
          have h32 : (((s[c]'hcs).toNat : Int) != 32) = true := by have h9 := HGET.out j (by omega) hjo; subst hc; simp; omega
          have HCC := Lib.hid hc
          rw [← hc]
          clear hc
          go_wp2
          go_round
          case rel => exact ⟨j + 1, by omega, by rw [HCC.out]; go_num⟩
          case measure => simp [intOf]; omega
        · obtain rfl : j = o := by omega
          obtain ⟨cq, hcq⟩ : ∃ cq, cq = q + j := ⟨_, rfl⟩
          have HCQ := Lib.hid hcq
          have hcs : cq < s.size := by have := HEND.out; omega
          have h32 : (((s[cq]'hcs).toNat : Int) != 32) = false := by have h9 := HSTOP.out (by omega); subst hcq; simp; omega
          rw [← hcq] at HX2 HX3 ⊢
          have b0 : (0 : Int) ≤ (q : Int) := by omega
          have b1 : (q : Int) ≤ (cq : Int) := by omega
          have b2 : (cq : Int) ≤ (s.size : Int) := by omega
          clear hcq
          go_upto_region 10 with (go_at_call 44; refine (rpart_any (s.extract q cq) _ HX3.out).mono ?_; rintro e1 w6 ⟨⟨i, d, rfl, hpx, hds⟩, hb⟩; have HPX := Lib.hid hpx; have HDS := Lib.hid hds; have HL6 := Lib.hid (HL.out.kept hb); have HS6 := Lib.hid (HS.out.kept hb); have HA6 := Lib.hid (HA.out.kept hb); have HF6 := Lib.hid (HF.out.kept hb); have HB6 := Lib.hid (below_and HB.out hb); clear hb hpx hds)
          have hnt : (-1 ≤ i ∧ i < 4) := ⟨HPX.out.lo, HPX.out.hi⟩
          by_cases hi : i = -1
          · subst hi
            have HE : Hid (parseP s.data.toList = (.zero, 5, (q : Int))) := Lib.hid (by
              have h9 : partE (wordL r) sn = 5 := by (unfold partE; have h8 := HPX.out.no rfl; rw [HX2.out] at h8; rw [h8]; split <;> rfl)
              rw [HP.out, parse_err (by rw [h9]; simp), h9])
            have hA := HA6.out; have hF := HF6.out; have ra0 := hA.cell (j := 0) rfl; have fa0 := hA.free 0; have ra1 := hA.cell (j := 1) rfl; have fa1 := hA.free 1; have ra2 := hA.cell (j := 2) rfl; have fa2 := hA.free 2; have ra3 := hA.cell (j := 3) rfl; have fa3 := hA.free 3; have rf0 := hF.cell (j := 0) rfl; have ff0 := hF.free 0; have rf1 := hF.cell (j := 1) rfl; have ff1 := hF.free 1; clear hA hF
            go_wp2
            refine bodyPost_ret (results_row2 rfl _ _ B (B + 1) 23 29 #[.int .i64 0, .int .i64 0, .int .i64 0, .int .i64 0] #[.int .i64 5, .int .i64 (q : Int)] (0, 0) (0, 0) _ _ rfl ?_ rfl ?_ Tryd.underlying23 rfl (by kernel_rfl) Tryd.underlying29 rfl (by kernel_rfl)) rfl ⟨?_, ?_⟩
            · exact ((((((HA6.out).set 0 (.int .i64 (0))).set 1 (.int .i64 (0))).set 2 (.int .i64 (0))).set 3 (.int .i64 (0))).other (a := ⟨B + 1, 0, none⟩) (by simp) _).other (a := ⟨B + 1, 1, none⟩) (by simp) _
            · exact ((((((HF6.out).other (a := ⟨B, 0, none⟩) (by simp) _).other (a := ⟨B, 1, none⟩) (by simp) _).other (a := ⟨B, 2, none⟩) (by simp) _).other (a := ⟨B, 3, none⟩) (by simp) _).set 0 (.int .i64 (5))).set 1 (.int .i64 ((q : Int)))
            · exact pPost_of HE.out
            · have hBw : w.heap.size ≤ B := HBW0.out
              have hBx : w.heap.size ≤ B + 1 := by omega
              exact ((((((HB6.out).setCell (p := ⟨B, 0, none⟩) hBw _).setCell (p := ⟨B, 1, none⟩) hBw _).setCell (p := ⟨B, 2, none⟩) hBw _).setCell (p := ⟨B, 3, none⟩) hBw _).setCell (p := ⟨B + 1, 0, none⟩) hBx _).setCell (p := ⟨B + 1, 1, none⟩) hBx _
          · obtain ⟨k, hk⟩ : ∃ k : Nat, i = (k : Int) := ⟨i.toNat, by omega⟩
            subst hk
            have hk4 : k < 4 := by omega
            have HPR : Hid (partR (wordL r) = (k, numP d.data.toList)) := Lib.hid (by have h8 := HPX.out.yes k rfl; rw [HX2.out] at h8; exact h8)
            have i0 : (0 : Int) ≤ (k : Int) := by omega
            have i1 : (k : Int) < 4 := by omega
            have i2 : decide ((k : Int) < 0) = false := by simp
            have sk := HS6.out.cell (snC_get sn hk4)
            clear hnt hi
            cases hsn : sn.get k
            · rw [hsn] at sk
              have HSN := Lib.hid hsn
              clear hsn
              go_upto_region 13 with (go_at_call 45; refine (rnumber_any d _ (by have h1 := HDS.out; have h2 := HX3.out; omega)).mono ?_; rintro e1 w7 ⟨⟨x, over, ok, rfl, hnr⟩, rfl⟩; have HNR := Lib.hid hnr; clear hnr)
              cases ok
              · clear sk
                have HE : Hid (parseP s.data.toList = (.zero, 5, (q : Int))) := Lib.hid (by
                  have h9 : partE (wordL r) sn = 5 := by (have h8 := HNR.out.bad rfl; unfold partE; rw [HPR.out]; show (if ((numP d.data.toList).2 = 9 ∨ (numP d.data.toList).2 = 0) ∧ sn.get k = true then 5 else (numP d.data.toList).2) = 5; rw [h8]; simp)
                  rw [HP.out, parse_err (by rw [h9]; simp), h9])
                have hA := HA6.out; have hF := HF6.out; have ra0 := hA.cell (j := 0) rfl; have fa0 := hA.free 0; have ra1 := hA.cell (j := 1) rfl; have fa1 := hA.free 1; have ra2 := hA.cell (j := 2) rfl; have fa2 := hA.free 2; have ra3 := hA.cell (j := 3) rfl; have fa3 := hA.free 3; have rf0 := hF.cell (j := 0) rfl; have ff0 := hF.free 0; have rf1 := hF.cell (j := 1) rfl; have ff1 := hF.free 1; clear hA hF
                go_wp2
                refine bodyPost_ret (results_row2 rfl _ _ B (B + 1) 23 29 #[.int .i64 0, .int .i64 0, .int .i64 0, .int .i64 0] #[.int .i64 5, .int .i64 (q : Int)] (0, 0) (0, 0) _ _ rfl ?_ rfl ?_ Tryd.underlying23 rfl (by kernel_rfl) Tryd.underlying29 rfl (by kernel_rfl)) rfl ⟨?_, ?_⟩
                · exact ((((((HA6.out).set 0 (.int .i64 (0))).set 1 (.int .i64 (0))).set 2 (.int .i64 (0))).set 3 (.int .i64 (0))).other (a := ⟨B + 1, 0, none⟩) (by simp) _).other (a := ⟨B + 1, 1, none⟩) (by simp) _
                · exact ((((((HF6.out).other (a := ⟨B, 0, none⟩) (by simp) _).other (a := ⟨B, 1, none⟩) (by simp) _).other (a := ⟨B, 2, none⟩) (by simp) _).other (a := ⟨B, 3, none⟩) (by simp) _).set 0 (.int .i64 (5))).set 1 (.int .i64 ((q : Int)))
                · exact pPost_of HE.out
                · have hBw : w.heap.size ≤ B := HBW0.out
                  have hBx : w.heap.size ≤ B + 1 := by omega
                  exact ((((((HB6.out).setCell (p := ⟨B, 0, none⟩) hBw _).setCell (p := ⟨B, 1, none⟩) hBw _).setCell (p := ⟨B, 2, none⟩) hBw _).setCell (p := ⟨B, 3, none⟩) hBw _).setCell (p := ⟨B + 1, 0, none⟩) hBx _).setCell (p := ⟨B + 1, 1, none⟩) hBx _
              · cases over
                · have HNP : Hid (numP d.data.toList = (x, 0)) := Lib.hid (HNR.out.good rfl rfl)
                  have HE0 : Hid (partE (wordL r) sn = 0) := Lib.hid (by unfold partE; rw [HPR.out]; show (if ((numP d.data.toList).2 = 9 ∨ (numP d.data.toList).2 = 0) ∧ sn.get k = true then 5 else (numP d.data.toList).2) = 0; rw [HNP.out, HSN.out]; simp)
                  have fk := HL6.out.cell (amC_get f hk4)
                  have ff := HL6.out.free k
                  have sf := HS6.out.free k
                  skip
                  go_upto_region 18 with fail
                  obtain ⟨w8, hw8⟩ : ∃ w8, w8 = (w6.setCell ⟨g, k, none⟩ (.int .i64 x)).setCell ⟨g + 1, k, none⟩ (.bool true) := ⟨_, rfl⟩
                  rw [← hw8]
                  have HGB2 : Hid (w.heap.size ≤ g ∧ w.heap.size ≤ g + 1) := Lib.hid (by have := HGB.out; have := HBW0.out; omega)
                  have HL7 : Hid (Blk w8 g (amC (f.put x k)) 2) := Lib.hid (by rw [hw8, ← amC_set f x hk4]; exact (HL6.out.set k _).other (a := ⟨g + 1, k, none⟩) (by simp) _)
                  have HS7 : Hid (Blk w8 (g + 1) (snC (sn.put k)) 4) := Lib.hid (by rw [hw8, ← snC_set sn hk4]; exact (HS6.out.other (a := ⟨g, k, none⟩) (by simp) _).set k _)
                  have HA7 : Hid (Blk w8 B (amC .zero) 23) := Lib.hid (by have := HGB.out; rw [hw8]; exact (HA6.out.other (a := ⟨g, k, none⟩) (by simp; omega) _).other (a := ⟨g + 1, k, none⟩) (by simp; omega) _)
                  have HF7 : Hid (Blk w8 (B + 1) [.int .i64 0, .int .i64 0] 29) := Lib.hid (by have := HGB.out; rw [hw8]; exact (HF6.out.other (a := ⟨g, k, none⟩) (by simp; omega) _).other (a := ⟨g + 1, k, none⟩) (by simp; omega) _)
                  have HB7 : Hid (Below w.heap.size w w8) := Lib.hid (by rw [hw8]; exact (HB6.out.setCell (p := ⟨g, k, none⟩) HGB2.out.1 _).setCell (p := ⟨g + 1, k, none⟩) HGB2.out.2 _)
                  clear hw8 sk fk ff sf
                  have hend := HEND.out
                  have te : ((cq : Int) == (s.size : Int)) = false := by have := HCQ.out; simp; omega
                  have te3 : (cq == s.size) = false := by have := HCQ.out; simp; omega
                  obtain ⟨rs, hrs⟩ : ∃ rs, rs = restL r := ⟨_, rfl⟩
                  have hrsd : rs = s.data.toList.drop (q + j) := by rw [hrs]; unfold restL; rw [tw_drop]; show r.drop (wordL r).length = _; rw [← HO.out, HRR.out, List.drop_drop]
                  have hrsl : rs.length = s.size - (q + j) := by rw [hrsd, List.length_drop, HLS.out]
                  obtain ⟨m2, hm2⟩ : ∃ m2, m2 = (blanks rs).length := ⟨_, rfl⟩
                  have hm2l : m2 ≤ rs.length := by rw [hm2]; exact tw_le _ _
                  have HGET2 : Hid (∀ j2 (h : q + j + j2 < s.size), j2 < m2 → (s[q + j + j2]'h).toNat = 32) := Lib.hid (fun j2 h hj => by
                    have h1 := tw_get (· == 32) rs j2 (by omega) (by rw [hm2] at hj; exact hj)
                    have h2 : s[q + j + j2]'h = rs[j2]'(by omega) := by
                      subst hrsd
                      rw [List.getElem_drop]; rfl
                    rw [h2]
                    have h3 : rs[j2]'(by omega) = 32 := by simpa using h1
                    rw [h3]; rfl)
                  have HSTOP2 : Hid (∀ (h : q + j + m2 < s.size), (s[q + j + m2]'h).toNat ≠ 32) := Lib.hid (fun h => by
                    have h1 := tw_stop (· == 32) rs (by show (blanks rs).length < rs.length; rw [← hm2]; omega)
                    have h2 : s[q + j + m2]'h = rs[(rs.takeWhile (· == 32)).length]'(by show (blanks rs).length < rs.length; rw [← hm2]; omega) := by
                      have h3 : (rs.takeWhile (· == 32)).length = m2 := hm2.symm
                      simp only [h3]
                      subst hrsd
                      rw [List.getElem_drop]; rfl
                    rw [h2]
                    intro h4
                    have : rs[(rs.takeWhile (· == 32)).length]'(by show (blanks rs).length < rs.length; rw [← hm2]; omega) = 32 := UInt8.toNat_inj.1 (by rw [h4]; rfl)
                    simp [this] at h1)
                  have HNE : Hid (restL r ≠ []) := Lib.hid (by rw [← hrs]; intro h; rw [h] at hrsl; simp at hrsl; omega)
                  have HDW : Hid ((restL r).dropWhile (· == 32) = s.data.toList.drop (q + j + m2)) := Lib.hid (by rw [← hrs, tw_drop]; show rs.drop (blanks rs).length = _; rw [← hm2, hrsd, List.drop_drop])
                  have HM2 : Hid (q + (wordL r).length + (blanks (restL r)).length = q + j + m2) := Lib.hid (by rw [← hrs, ← hm2, HO.out])
                  have hqm : q + j + m2 ≤ s.size := by omega
                  have H1M : Hid (0 < m2) := Lib.hid (by rw [hm2, hrs]; exact blanks_pos r HNE.out)
                  obtain ⟨mm, hmm⟩ : ∃ mm, m = mm + 1 := ⟨m - 1, by have := HN.out; omega⟩
                  have HMM : Hid (m + 1 = mm + 2) := Lib.hid (by omega)
                  clear hmm
                  have HE : Hid (parseP s.data.toList = parseF (mm + 1) (s.data.toList.drop (q + j + m2)) (q + j + m2) (f.put x k) (sn.put k)) := Lib.hid (by
                    rw [HP.out, HMM.out, parse_next HE0.out HNE.out, HM2.out, HDW.out, HPR.out, HNP.out])
                  clear hrs hrsd hrsl hm2 hm2l hend
                  go_wp2
                  go_loop [7] (fun a => ∃ j2 : Nat, j2 ≤ m2 ∧ a = .int .i64 ((q + j + j2 : Nat) : Int)) (fun a => s.size - (intOf a).toNat)
                  case atStart => exact ⟨0, Nat.zero_le _, by rw [HCQ.out]; simp⟩
                  case round =>
                    obtain ⟨j2, hj2, rfl⟩ := hrel
                    by_cases hjm : j2 < m2
                    · obtain ⟨c, hc⟩ : ∃ c, c = q + j + j2 := ⟨_, rfl⟩
                      have hcs : c < s.size := by omega
                      have h32 : (((s[c]'hcs).toNat : Int) == 32) = true := by have h9 := HGET2.out j2 (by omega) hjm; subst hc; rw [h9]; rfl
                      have HCC := Lib.hid hc
                      rw [← hc]
                      clear hc
                      go_wp2
                      go_round
                      case rel => exact ⟨j2 + 1, by omega, by rw [HCC.out]; go_num⟩
                      case measure => simp [intOf]; omega
                    · obtain rfl : j2 = m2 := by omega
                      obtain ⟨c, hc⟩ : ∃ c, c = q + j + j2 := ⟨_, rfl⟩
                      have hqc : q < c := by have := H1M.out; omega
                      have hcle : c ≤ s.size := by omega
                      by_cases hcs : c < s.size
                      · have h32 : (((s[c]'hcs).toNat : Int) == 32) = false := by have h9 := HSTOP2.out (by omega); subst hc; simp; omega
                        rw [← hc] at HE ⊢
                        clear hc
                        go_wp2
                        go_roundw
                        case rel => exact ⟨mm + 1, c, f.put x k, sn.put k, rfl, hcle, Lib.hid (by have := HN.out; have := HMM.out; omega), HE, HL7, HS7, HA7, HF7, HB7⟩
                        case measure => simp [intOf]; omega
                      · have hcz : decide (c < s.size) = false := by simp; omega
                        rw [← hc] at HE ⊢
                        clear hc
                        go_wp2
                        go_roundw
                        case rel => exact ⟨mm + 1, c, f.put x k, sn.put k, rfl, hcle, Lib.hid (by have := HN.out; have := HMM.out; omega), HE, HL7, HS7, HA7, HF7, HB7⟩
                        case measure => simp [intOf]; omega
                · clear sk
                  have HE : Hid (parseP s.data.toList = (.zero, 9, (q : Int))) := Lib.hid (by
                    have h9 : partE (wordL r) sn = 9 := by (have h8 := HNR.out.much rfl rfl; unfold partE; rw [HPR.out]; show (if ((numP d.data.toList).2 = 9 ∨ (numP d.data.toList).2 = 0) ∧ sn.get k = true then 5 else (numP d.data.toList).2) = 9; rw [h8, HSN.out]; simp)
                    rw [HP.out, parse_err (by rw [h9]; simp), h9])
                  have hA := HA6.out; have hF := HF6.out; have ra0 := hA.cell (j := 0) rfl; have fa0 := hA.free 0; have ra1 := hA.cell (j := 1) rfl; have fa1 := hA.free 1; have ra2 := hA.cell (j := 2) rfl; have fa2 := hA.free 2; have ra3 := hA.cell (j := 3) rfl; have fa3 := hA.free 3; have rf0 := hF.cell (j := 0) rfl; have ff0 := hF.free 0; have rf1 := hF.cell (j := 1) rfl; have ff1 := hF.free 1; clear hA hF
                  go_wp2
                  refine bodyPost_ret (results_row2 rfl _ _ B (B + 1) 23 29 #[.int .i64 0, .int .i64 0, .int .i64 0, .int .i64 0] #[.int .i64 9, .int .i64 (q : Int)] (0, 0) (0, 0) _ _ rfl ?_ rfl ?_ Tryd.underlying23 rfl (by kernel_rfl) Tryd.underlying29 rfl (by kernel_rfl)) rfl ⟨?_, ?_⟩
                  · exact ((((((HA6.out).set 0 (.int .i64 (0))).set 1 (.int .i64 (0))).set 2 (.int .i64 (0))).set 3 (.int .i64 (0))).other (a := ⟨B + 1, 0, none⟩) (by simp) _).other (a := ⟨B + 1, 1, none⟩) (by simp) _
                  · exact ((((((HF6.out).other (a := ⟨B, 0, none⟩) (by simp) _).other (a := ⟨B, 1, none⟩) (by simp) _).other (a := ⟨B, 2, none⟩) (by simp) _).other (a := ⟨B, 3, none⟩) (by simp) _).set 0 (.int .i64 (9))).set 1 (.int .i64 ((q : Int)))
                  · exact pPost_of HE.out
                  · have hBw : w.heap.size ≤ B := HBW0.out
                    have hBx : w.heap.size ≤ B + 1 := by omega
                    exact ((((((HB6.out).setCell (p := ⟨B, 0, none⟩) hBw _).setCell (p := ⟨B, 1, none⟩) hBw _).setCell (p := ⟨B, 2, none⟩) hBw _).setCell (p := ⟨B, 3, none⟩) hBw _).setCell (p := ⟨B + 1, 0, none⟩) hBx _).setCell (p := ⟨B + 1, 1, none⟩) hBx _
            · rw [hsn] at sk
              have HSN := Lib.hid hsn
              clear hsn
              have HE : Hid (parseP s.data.toList = (.zero, 5, (q : Int))) := Lib.hid (by
                have h9 : partE (wordL r) sn = 5 := by (unfold partE; rw [HPR.out]; show (if ((numP d.data.toList).2 = 9 ∨ (numP d.data.toList).2 = 0) ∧ sn.get k = true then 5 else (numP d.data.toList).2) = 5; rw [HSN.out]; rcases numP_err d.data.toList with h8 | h8 | h8 <;> rw [h8] <;> simp)
                rw [HP.out, parse_err (by rw [h9]; simp), h9])
              have hA := HA6.out; have hF := HF6.out; have ra0 := hA.cell (j := 0) rfl; have fa0 := hA.free 0; have ra1 := hA.cell (j := 1) rfl; have fa1 := hA.free 1; have ra2 := hA.cell (j := 2) rfl; have fa2 := hA.free 2; have ra3 := hA.cell (j := 3) rfl; have fa3 := hA.free 3; have rf0 := hF.cell (j := 0) rfl; have ff0 := hF.free 0; have rf1 := hF.cell (j := 1) rfl; have ff1 := hF.free 1; clear hA hF
              go_wp2
              refine bodyPost_ret (results_row2 rfl _ _ B (B + 1) 23 29 #[.int .i64 0, .int .i64 0, .int .i64 0, .int .i64 0] #[.int .i64 5, .int .i64 (q : Int)] (0, 0) (0, 0) _ _ rfl ?_ rfl ?_ Tryd.underlying23 rfl (by kernel_rfl) Tryd.underlying29 rfl (by kernel_rfl)) rfl ⟨?_, ?_⟩
              · exact ((((((HA6.out).set 0 (.int .i64 (0))).set 1 (.int .i64 (0))).set 2 (.int .i64 (0))).set 3 (.int .i64 (0))).other (a := ⟨B + 1, 0, none⟩) (by simp) _).other (a := ⟨B + 1, 1, none⟩) (by simp) _
              · exact ((((((HF6.out).other (a := ⟨B, 0, none⟩) (by simp) _).other (a := ⟨B, 1, none⟩) (by simp) _).other (a := ⟨B, 2, none⟩) (by simp) _).other (a := ⟨B, 3, none⟩) (by simp) _).set 0 (.int .i64 (5))).set 1 (.int .i64 ((q : Int)))
              · exact pPost_of HE.out
              · have hBw : w.heap.size ≤ B := HBW0.out
                have hBx : w.heap.size ≤ B + 1 := by omega
                exact ((((((HB6.out).setCell (p := ⟨B, 0, none⟩) hBw _).setCell (p := ⟨B, 1, none⟩) hBw _).setCell (p := ⟨B, 2, none⟩) hBw _).setCell (p := ⟨B, 3, none⟩) hBw _).setCell (p := ⟨B + 1, 0, none⟩) hBx _).setCell (p := ⟨B + 1, 1, none⟩) hBx _

theorem rparse_any (s : ByteArray) (w : World) (hs : s.size ≤ 140737488351232) :
    Calls Tryd.prog 13 #[.string s] w (pPost s w) := by
  by_cases hn : s.data.toList = [110, 111, 110, 101]
  · exact rparse_none s w (by rw [Lib.toList_data, hn]; rfl) (by unfold parseP; rw [if_pos hn])
  · exact rparse_go s w hs (by rw [Lib.toList_data]; simpa using hn) (by rw [parse_start _ hn]; simp)
end Go.Proofs.YtmgecehdicpjnaaDoor
