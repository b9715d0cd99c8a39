/- resource.Parse -/
import Derived.Test.YtmgecehdicpjnaaDoorParsePlain
import Derived.Outline
namespace Go.Proofs.YtmgecehdicpjnaaDoor
open Go.RowKit

abbrev pPost (s : ByteArray) (w : World) : Ending → World → Prop := fun e w' => e = .returned (.tuple #[amV (parseP s.data.toList).1, .agg #[.int .i64 (parseP s.data.toList).2.1, .int .i64 (parseP s.data.toList).2.2]]) ∧ Below w.heap.size w w'
theorem pPost_of {s : ByteArray} {a : Am} {e p : Int} (h : parseP s.data.toList = (a, e, p)) : Ending.returned (.tuple #[amV a, .agg #[.int .i64 e, .int .i64 p]]) = .returned (.tuple #[amV (parseP s.data.toList).1, .agg #[.int .i64 (parseP s.data.toList).2.1, .int .i64 (parseP s.data.toList).2.2]]) := by rw [h]

set_option maxRecDepth 100000 in
set_option maxHeartbeats 4000000 in
theorem parse_none (s : ByteArray) (w : World) (hn : (s.toList == [110, 111, 110, 101]) = true) (hr : parseP s.data.toList = (.zero, 0, 0)) :
    Calls Tryd.prog 12 #[.string s] w (pPost s w) := by
  have HR := Lib.hid hr
  clear hr
  obtain ⟨w3, hw3⟩ : ∃ w3, w3 = (w.alloc (.cells #[.int .i64 0, .int .i64 0, .int .i64 0, .int .i64 0] 23)).alloc (.cells #[.int .i64 0, .int .i64 0] 29) := ⟨_, rfl⟩
  obtain ⟨B, hB⟩ : ∃ B, B = w.heap.size := ⟨_, rfl⟩
  have B0 : Hid (Blk w3 B (amC .zero) 23) := Lib.hid (by
    have := (Blk.made w (amC .zero) 23).alloc (.cells #[.int .i64 0, .int .i64 0] 29)
    rw [hw3, hB]; exact this)
  have B1 : Hid (Blk w3 (B + 1) [.int .i64 0, .int .i64 0] 29) := Lib.hid (by
    have := Blk.made (w.alloc (.cells #[.int .i64 0, .int .i64 0, .int .i64 0, .int .i64 0] 23)) [.int .i64 0, .int .i64 0] 29
    rw [hw3, hB]; simpa using this)
  have HSZ : Hid (w3.heap.size = B + 2) := Lib.hid (by rw [hw3, hB]; simp)
  have HBW0 : Hid (w.heap.size ≤ B) := Lib.hid (by omega)
  have HBL : Hid (Below w.heap.size w w3) := Lib.hid (by rw [hw3]; exact below_and (below_alloc w _) (below_alloc _ _))
  have hA := B0.out
  have hF := B1.out
  have ra0 := hA.cell (j := 0) rfl
  have fa0 := hA.free 0
  have ra1 := hA.cell (j := 1) rfl
  have fa1 := hA.free 1
  have ra2 := hA.cell (j := 2) rfl
  have fa2 := hA.free 2
  have ra3 := hA.cell (j := 3) rfl
  have fa3 := hA.free 3
  have rf0 := hF.cell (j := 0) rfl
  have ff0 := hF.free 0
  have rf1 := hF.cell (j := 1) rfl
  have ff1 := hF.free 1
  clear hA hF
  go_enter Tryd.func12, Tryd.ntmps12
  go_upto_region 1 with fail
  rw [← hw3, ← hB]
  clear hw3 hB
  go_wp2
  refine bodyPost_ret (results_row2 rfl _ _ B (B + 1) 23 29 #[.int .i64 0, .int .i64 0, .int .i64 0, .int .i64 0] #[.int .i64 0, .int .i64 0] (0, 0) (0, 0) _ _ rfl ?_ rfl ?_ Tryd.underlying23 rfl (by kernel_rfl) Tryd.underlying29 rfl (by kernel_rfl)) rfl ⟨?_, ?_⟩
  · exact ((((((B0.out).set 0 (.int .i64 (0))).set 1 (.int .i64 (0))).set 2 (.int .i64 (0))).set 3 (.int .i64 (0))).other (a := ⟨B + 1, 0, none⟩) (by simp) _).other (a := ⟨B + 1, 1, none⟩) (by simp) _
  · exact ((((((B1.out).other (a := ⟨B, 0, none⟩) (by simp) _).other (a := ⟨B, 1, none⟩) (by simp) _).other (a := ⟨B, 2, none⟩) (by simp) _).other (a := ⟨B, 3, none⟩) (by simp) _).set 0 (.int .i64 (0))).set 1 (.int .i64 (0))
  · exact pPost_of HR.out
  · have hBw : w.heap.size ≤ B := HBW0.out
    have hBx : w.heap.size ≤ B + 1 := by omega
    exact ((((((HBL.out).setCell (p := ⟨B, 0, none⟩) hBw _).setCell (p := ⟨B, 1, none⟩) hBw _).setCell (p := ⟨B, 2, none⟩) hBw _).setCell (p := ⟨B, 3, none⟩) hBw _).setCell (p := ⟨B + 1, 0, none⟩) hBx _).setCell (p := ⟨B + 1, 1, none⟩) hBx _

set_option maxRecDepth 100000 in
set_option maxHeartbeats 4000000 in
theorem parse_empty (s : ByteArray) (w : World) (h0 : s.toList = []) (hr : parseP s.data.toList = (.zero, 5, 0)) :
    Calls Tryd.prog 12 #[.string s] w (pPost s w) := by
  have HR := Lib.hid hr
  have hn : (s.toList == [110, 111, 110, 101]) = false := by rw [h0]; rfl
  have e0 : s.toList.isEmpty = true := by rw [h0]; rfl
  clear hr
  obtain ⟨w3, hw3⟩ : ∃ w3, w3 = (w.alloc (.cells #[.int .i64 0, .int .i64 0, .int .i64 0, .int .i64 0] 23)).alloc (.cells #[.int .i64 0, .int .i64 0] 29) := ⟨_, rfl⟩
  obtain ⟨B, hB⟩ : ∃ B, B = w.heap.size := ⟨_, rfl⟩
  have B0 : Hid (Blk w3 B (amC .zero) 23) := Lib.hid (by
    have := (Blk.made w (amC .zero) 23).alloc (.cells #[.int .i64 0, .int .i64 0] 29)
    rw [hw3, hB]; exact this)
  have B1 : Hid (Blk w3 (B + 1) [.int .i64 0, .int .i64 0] 29) := Lib.hid (by
    have := Blk.made (w.alloc (.cells #[.int .i64 0, .int .i64 0, .int .i64 0, .int .i64 0] 23)) [.int .i64 0, .int .i64 0] 29
    rw [hw3, hB]; simpa using this)
  have HSZ : Hid (w3.heap.size = B + 2) := Lib.hid (by rw [hw3, hB]; simp)
  have HBW0 : Hid (w.heap.size ≤ B) := Lib.hid (by omega)
  have HBL : Hid (Below w.heap.size w w3) := Lib.hid (by rw [hw3]; exact below_and (below_alloc w _) (below_alloc _ _))
  have hA := B0.out
  have hF := B1.out
  have ra0 := hA.cell (j := 0) rfl
  have fa0 := hA.free 0
  have ra1 := hA.cell (j := 1) rfl
  have fa1 := hA.free 1
  have ra2 := hA.cell (j := 2) rfl
  have fa2 := hA.free 2
  have ra3 := hA.cell (j := 3) rfl
  have fa3 := hA.free 3
  have rf0 := hF.cell (j := 0) rfl
  have ff0 := hF.free 0
  have rf1 := hF.cell (j := 1) rfl
  have ff1 := hF.free 1
  clear hA hF
  go_enter Tryd.func12, Tryd.ntmps12
  go_upto_region 1 with fail
  rw [← hw3, ← hB]
  clear hw3 hB
  go_wp2
  refine bodyPost_ret (results_row2 rfl _ _ B (B + 1) 23 29 #[.int .i64 0, .int .i64 0, .int .i64 0, .int .i64 0] #[.int .i64 5, .int .i64 0] (0, 0) (0, 0) _ _ rfl ?_ rfl ?_ Tryd.underlying23 rfl (by kernel_rfl) Tryd.underlying29 rfl (by kernel_rfl)) rfl ⟨?_, ?_⟩
  · exact ((((((B0.out).set 0 (.int .i64 (0))).set 1 (.int .i64 (0))).set 2 (.int .i64 (0))).set 3 (.int .i64 (0))).other (a := ⟨B + 1, 0, none⟩) (by simp) _).other (a := ⟨B + 1, 1, none⟩) (by simp) _
  · exact ((((((B1.out).other (a := ⟨B, 0, none⟩) (by simp) _).other (a := ⟨B, 1, none⟩) (by simp) _).other (a := ⟨B, 2, none⟩) (by simp) _).other (a := ⟨B, 3, none⟩) (by simp) _).set 0 (.int .i64 (5))).set 1 (.int .i64 (0))
  · exact pPost_of HR.out
  · have hBw : w.heap.size ≤ B := HBW0.out
    have hBx : w.heap.size ≤ B + 1 := by omega
    exact ((((((HBL.out).setCell (p := ⟨B, 0, none⟩) hBw _).setCell (p := ⟨B, 1, none⟩) hBw _).setCell (p := ⟨B, 2, none⟩) hBw _).setCell (p := ⟨B, 3, none⟩) hBw _).setCell (p := ⟨B + 1, 0, none⟩) hBx _).setCell (p := ⟨B + 1, 1, none⟩) hBx _

set_option maxRecDepth 100000 in
set_option maxHeartbeats 4000000 in
theorem parse_front (s : ByteArray) (w : World) (h0 : 0 < s.size) (e0 : s.toList.isEmpty = false) (e1 : ¬ s.toList = []) (hn : (s.toList == [110, 111, 110, 101]) = false) (h1 : (((s[0].toNat : Nat) : Int) == 32) = true) (hr : parseP s.data.toList = (.zero, 5, 0)) :
    Calls Tryd.prog 12 #[.string s] w (pPost s w) := by
  have HR := Lib.hid hr
  clear hr
  obtain ⟨w3, hw3⟩ : ∃ w3, w3 = (w.alloc (.cells #[.int .i64 0, .int .i64 0, .int .i64 0, .int .i64 0] 23)).alloc (.cells #[.int .i64 0, .int .i64 0] 29) := ⟨_, rfl⟩
  obtain ⟨B, hB⟩ : ∃ B, B = w.heap.size := ⟨_, rfl⟩
  have B0 : Hid (Blk w3 B (amC .zero) 23) := Lib.hid (by
    have := (Blk.made w (amC .zero) 23).alloc (.cells #[.int .i64 0, .int .i64 0] 29)
    rw [hw3, hB]; exact this)
  have B1 : Hid (Blk w3 (B + 1) [.int .i64 0, .int .i64 0] 29) := Lib.hid (by
    have := Blk.made (w.alloc (.cells #[.int .i64 0, .int .i64 0, .int .i64 0, .int .i64 0] 23)) [.int .i64 0, .int .i64 0] 29
    rw [hw3, hB]; simpa using this)
  have HSZ : Hid (w3.heap.size = B + 2) := Lib.hid (by rw [hw3, hB]; simp)
  have HBW0 : Hid (w.heap.size ≤ B) := Lib.hid (by omega)
  have HBL : Hid (Below w.heap.size w w3) := Lib.hid (by rw [hw3]; exact below_and (below_alloc w _) (below_alloc _ _))
  have hA := B0.out
  have hF := B1.out
  have ra0 := hA.cell (j := 0) rfl
  have fa0 := hA.free 0
  have ra1 := hA.cell (j := 1) rfl
  have fa1 := hA.free 1
  have ra2 := hA.cell (j := 2) rfl
  have fa2 := hA.free 2
  have ra3 := hA.cell (j := 3) rfl
  have fa3 := hA.free 3
  have rf0 := hF.cell (j := 0) rfl
  have ff0 := hF.free 0
  have rf1 := hF.cell (j := 1) rfl
  have ff1 := hF.free 1
  clear hA hF
  go_enter Tryd.func12, Tryd.ntmps12
  go_upto_region 1 with fail
  rw [← hw3, ← hB]
  clear hw3 hB
  go_wp2
  refine bodyPost_ret (results_row2 rfl _ _ B (B + 1) 23 29 #[.int .i64 0, .int .i64 0, .int .i64 0, .int .i64 0] #[.int .i64 5, .int .i64 0] (0, 0) (0, 0) _ _ rfl ?_ rfl ?_ Tryd.underlying23 rfl (by kernel_rfl) Tryd.underlying29 rfl (by kernel_rfl)) rfl ⟨?_, ?_⟩
  · exact ((((((B0.out).set 0 (.int .i64 (0))).set 1 (.int .i64 (0))).set 2 (.int .i64 (0))).set 3 (.int .i64 (0))).other (a := ⟨B + 1, 0, none⟩) (by simp) _).other (a := ⟨B + 1, 1, none⟩) (by simp) _
  · exact ((((((B1.out).other (a := ⟨B, 0, none⟩) (by simp) _).other (a := ⟨B, 1, none⟩) (by simp) _).other (a := ⟨B, 2, none⟩) (by simp) _).other (a := ⟨B, 3, none⟩) (by simp) _).set 0 (.int .i64 (5))).set 1 (.int .i64 (0))
  · exact pPost_of HR.out
  · have hBw : w.heap.size ≤ B := HBW0.out
    have hBx : w.heap.size ≤ B + 1 := by omega
    exact ((((((HBL.out).setCell (p := ⟨B, 0, none⟩) hBw _).setCell (p := ⟨B, 1, none⟩) hBw _).setCell (p := ⟨B, 2, none⟩) hBw _).setCell (p := ⟨B, 3, none⟩) hBw _).setCell (p := ⟨B + 1, 0, none⟩) hBx _).setCell (p := ⟨B + 1, 1, none⟩) hBx _

set_option maxRecDepth 100000 in
set_option maxHeartbeats 4000000 in
theorem parse_loop (s : ByteArray) (w : World) (hs : s.size ≤ 140737488351232) (h0 : 0 < s.size) (e0 : s.toList.isEmpty = false) (e1 : ¬ s.toList = []) (hn : (s.toList == [110, 111, 110, 101]) = false) (h1 : (((s[0].toNat : Nat) : Int) == 32) = false) (hr : parseP s.data.toList = parseF (s.data.toList.length + 1) s.data.toList 0 .zero ⟨false, false, false, false⟩) :
    Calls Tryd.prog 12 #[.string s] w (pPost s w) := by
  have HR := Lib.hid hr
  have HLS : Hid (s.data.toList.length = s.size) := Lib.hid (by simp)
  clear hr
  obtain ⟨w3, hw3⟩ : ∃ w3, w3 = (w.alloc (.cells #[.int .i64 0, .int .i64 0, .int .i64 0, .int .i64 0] 23)).alloc (.cells #[.int .i64 0, .int .i64 0] 29) := ⟨_, rfl⟩
  obtain ⟨B, hB⟩ : ∃ B, B = w.heap.size := ⟨_, rfl⟩
  have B0 : Hid (Blk w3 B (amC .zero) 23) := Lib.hid (by
    have := (Blk.made w (amC .zero) 23).alloc (.cells #[.int .i64 0, .int .i64 0] 29)
    rw [hw3, hB]; exact this)
  have B1 : Hid (Blk w3 (B + 1) [.int .i64 0, .int .i64 0] 29) := Lib.hid (by
    have := Blk.made (w.alloc (.cells #[.int .i64 0, .int .i64 0, .int .i64 0, .int .i64 0] 23)) [.int .i64 0, .int .i64 0] 29
    rw [hw3, hB]; simpa using this)
  have HSZ : Hid (w3.heap.size = B + 2) := Lib.hid (by rw [hw3, hB]; simp)
  have HBW0 : Hid (w.heap.size ≤ B) := Lib.hid (by omega)
  have HBL : Hid (Below w.heap.size w w3) := Lib.hid (by rw [hw3]; exact below_and (below_alloc w _) (below_alloc _ _))
  go_enter Tryd.func12, Tryd.ntmps12
  go_upto_region 1 with fail
  rw [← hw3, ← hB]
  clear hw3 hB
  obtain ⟨w5, hw5⟩ : ∃ w5, w5 = (w3.alloc (.cells #[.int .i64 0, .int .i64 0, .int .i64 0, .int .i64 0] 50)).alloc (.cells #[.bool false, .bool false, .bool false, .bool false] 60) := ⟨_, rfl⟩
  obtain ⟨g, hg⟩ : ∃ g, g = w3.heap.size := ⟨_, rfl⟩
  have G0 : Hid (Blk w5 g (amC .zero) 50) := Lib.hid (by
    have := (Blk.made w3 (amC .zero) 50).alloc (.cells #[.bool false, .bool false, .bool false, .bool false] 60)
    rw [hw5, hg]; exact this)
  have G1 : Hid (Blk w5 (g + 1) (snC ⟨false, false, false, false⟩) 60) := Lib.hid (by
    have := Blk.made (w3.alloc (.cells #[.int .i64 0, .int .i64 0, .int .i64 0, .int .i64 0] 50)) (snC ⟨false, false, false, false⟩) 60
    rw [hw5, hg]; simpa using this)
  have HB5 : Hid (Below w3.heap.size w3 w5) := Lib.hid (by rw [hw5]; exact below_and (below_alloc w3 _) (below_alloc _ _))
  have HGS : Hid (w3.heap.size ≤ g) := Lib.hid (by omega)
  go_wp2
  rw [← hw5, ← hg]
  clear hw5 hg
  go_loopw [6] (fun a wc => ∃ (n : Nat) (q : Nat) (f : Am) (sn : Sn), a = .int .i64 (q : Int) ∧ q < s.size ∧ Hid (s.size - q < n) ∧ Hid (parseP s.data.toList = parseF n (s.data.toList.drop q) q f sn) ∧ Hid (Blk wc g (amC f) 50) ∧ Hid (Blk wc (g + 1) (snC sn) 60) ∧ Hid (Below w3.heap.size w3 wc)) (fun a _ => s.size - (intOf a).toNat)
  case atStart => exact ⟨s.data.toList.length + 1, 0, .zero, _, rfl, h0, Lib.hid (by have := HLS.out; omega), Lib.hid (by rw [HR.out]; rfl), G0, G1, HB5⟩
  case round =>
    obtain ⟨n, q, f, sn, rfl, hq, HN, HP, HF, HS, HBx⟩ := hrel
    obtain ⟨m, rfl⟩ : ∃ m, n = m + 1 := ⟨n - 1, by have := HN.out; omega⟩
    obtain ⟨r, hr⟩ : ∃ r, r = s.data.toList.drop q := ⟨_, rfl⟩
    have hrl : r.length = s.size - q := by rw [hr, List.length_drop, HLS.out]
    obtain ⟨o, ho⟩ : ∃ o, o = (wordL r).length := ⟨_, rfl⟩
    have hol : o ≤ r.length := by rw [ho]; exact tw_le _ _
    have HX1 : Hid ((s.extract q s.size).data.toList = r) := Lib.hid (by rw [Lib.extract_to_end, hr])
    have HX2 : Hid ((s.extract q (q + o)).data.toList = wordL r) := Lib.hid (ex_word hr ho)
    have HX3 : Hid ((s.extract q (q + o)).size ≤ maxLen) := Lib.hid (by
      rw [← ba_len, HX2.out, ← ho]
      unfold maxLen
      omega)
    obtain ⟨i, x, e, hpr⟩ : ∃ i x e, partR (wordL r) = (i, x, e) := ⟨_, _, _, rfl⟩
    have hi4 : i < 4 := by have := partR_lt (wordL r); rw [hpr] at this; exact this
    have HPR := Lib.hid hpr
    have HO := Lib.hid ho
    have HRR := Lib.hid hr
    have HRL := Lib.hid hrl
    have HPE : Hid (partE (wordL r) sn = if (e = 9 ∨ e = 0) ∧ sn.get i = true then 5 else e) := Lib.hid (by unfold partE; rw [hpr])
    have hqo : q + o ≤ s.size := by omega
    have HIX : Hid (Lib.indexByte r 32 = -1 ∧ o = s.size - q ∨ Lib.indexByte r 32 = (o : Int)) := Lib.hid (by
      have hge := Lib.indexByte_ge r 32
      by_cases hi : Lib.indexByte r 32 = -1
      · exact .inl ⟨hi, by rw [ho, word_index hi, hrl]⟩
      · obtain ⟨k, hk⟩ : ∃ k : Nat, Lib.indexByte r 32 = (k : Int) := ⟨(Lib.indexByte r 32).toNat, by omega⟩
        exact .inr (by rw [hk, ho, (word_index' hk).1]))
    rw [← hr] at HP
    clear hr ho hpr hrl hol
    have b0 : (0 : Int) ≤ (q : Int) := by omega
    have b1 : (q : Int) ≤ (s.size : Int) := by omega
    have b2 : (0 : Int) ≤ (q : Int) + (o : Int) := by omega
    have b3 : (q : Int) + (o : Int) ≤ (s.size : Int) := by omega
    have b4 : (q : Int) ≤ (q : Int) + (o : Int) := by omega
    have b5 : ((q : Int) + (o : Int)).toNat = q + o := by omega
    have b6 : (0 : Int) ≤ (i : Int) := by omega
    have b7 : (i : Int) < 4 := by omega
    have HG0 := Lib.hid (HF.out.cell (amC_get f hi4))
    rcases HIX.out with ⟨hix, hoq⟩ | hix
    · have HIV := Lib.hid hix
      have hsub : (s.size : Int) - (q : Int) = (o : Int) := by omega
      have HOQ := Lib.hid hoq
      clear hix hoq
      by_cases he9 : e = 9
      · subst he9
        cases hsn : sn.get i
        · have HSN : Hid (sn.get i = false) := Lib.hid hsn
          have HE : Hid (parseP s.data.toList = (.zero, 9, (q : Int))) := Lib.hid (by
            have h9 : partE (wordL r) sn = 9 := by rw [HPE.out, HSN.out]; simp
            rw [HP.out, parse_err (by rw [h9]; simp), h9])
          clear hsn
          go_wp2_with (first | (go_at_call 41; refine (index_val (s.extract q s.size) _ r HX1.out _ HIV.out).mono ?_; rintro e1 w6 ⟨rfl, rfl⟩) | (go_at_call 42; refine (part_val (s.extract q (q + o)) _ HX3.out (wordL r) HX2.out i x 9 HPR.out).mono ?_; rintro e1 w6 ⟨rfl, hb⟩; have HB6 := Lib.hid (below_and HBx.out hb); have sk := (HS.out.kept hb).cell (snC_get sn hi4); rw [HSN.out] at sk; have fk := (HF.out.kept hb).cell (amC_get f hi4); have ff := (HF.out.kept hb).free i; have sf := (HS.out.kept hb).free i; have hA := B0.out.kept HB6.out; have hF := B1.out.kept HB6.out; have ra0 := hA.cell (j := 0) rfl; have fa0 := hA.free 0; have ra1 := hA.cell (j := 1) rfl; have fa1 := hA.free 1; have ra2 := hA.cell (j := 2) rfl; have fa2 := hA.free 2; have ra3 := hA.cell (j := 3) rfl; have fa3 := hA.free 3; have rf0 := hF.cell (j := 0) rfl; have fq0 := hF.free 0; have rf1 := hF.cell (j := 1) rfl; have fq1 := hF.free 1; have HA6 := Lib.hid hA; have HF6 := Lib.hid hF; have HW6 := Lib.hid (HF.out.kept hb); have HS6 := Lib.hid (HS.out.kept hb); clear hb hA hF))
          refine bodyPost_ret (results_row2 rfl _ _ B (B + 1) 23 29 #[.int .i64 0, .int .i64 0, .int .i64 0, .int .i64 0] #[.int .i64 9, .int .i64 (q : Int)] (0, 0) (0, 0) _ _ rfl ?_ rfl ?_ Tryd.underlying23 rfl (by kernel_rfl) Tryd.underlying29 rfl (by kernel_rfl)) rfl ⟨?_, ?_⟩
          · exact ((((((HA6.out).set 0 (.int .i64 (0))).set 1 (.int .i64 (0))).set 2 (.int .i64 (0))).set 3 (.int .i64 (0))).other (a := ⟨B + 1, 0, none⟩) (by simp) _).other (a := ⟨B + 1, 1, none⟩) (by simp) _
          · exact ((((((HF6.out).other (a := ⟨B, 0, none⟩) (by simp) _).other (a := ⟨B, 1, none⟩) (by simp) _).other (a := ⟨B, 2, none⟩) (by simp) _).other (a := ⟨B, 3, none⟩) (by simp) _).set 0 (.int .i64 (9))).set 1 (.int .i64 ((q : Int)))
          · exact pPost_of HE.out
          · have hBw : w.heap.size ≤ B := HBW0.out
            have hBx : w.heap.size ≤ B + 1 := by omega
            exact (((((((below_and HBL.out HB6.out)).setCell (p := ⟨B, 0, none⟩) hBw _).setCell (p := ⟨B, 1, none⟩) hBw _).setCell (p := ⟨B, 2, none⟩) hBw _).setCell (p := ⟨B, 3, none⟩) hBw _).setCell (p := ⟨B + 1, 0, none⟩) hBx _).setCell (p := ⟨B + 1, 1, none⟩) hBx _
        · have HSN : Hid (sn.get i = true) := Lib.hid hsn
          have HE : Hid (parseP s.data.toList = (.zero, 5, (q : Int))) := Lib.hid (by
            have h9 : partE (wordL r) sn = 5 := by rw [HPE.out, HSN.out]; simp
            rw [HP.out, parse_err (by rw [h9]; simp), h9])
          clear hsn
          go_wp2_with (first | (go_at_call 41; refine (index_val (s.extract q s.size) _ r HX1.out _ HIV.out).mono ?_; rintro e1 w6 ⟨rfl, rfl⟩) | (go_at_call 42; refine (part_val (s.extract q (q + o)) _ HX3.out (wordL r) HX2.out i x 9 HPR.out).mono ?_; rintro e1 w6 ⟨rfl, hb⟩; have HB6 := Lib.hid (below_and HBx.out hb); have sk := (HS.out.kept hb).cell (snC_get sn hi4); rw [HSN.out] at sk; have fk := (HF.out.kept hb).cell (amC_get f hi4); have ff := (HF.out.kept hb).free i; have sf := (HS.out.kept hb).free i; have hA := B0.out.kept HB6.out; have hF := B1.out.kept HB6.out; have ra0 := hA.cell (j := 0) rfl; have fa0 := hA.free 0; have ra1 := hA.cell (j := 1) rfl; have fa1 := hA.free 1; have ra2 := hA.cell (j := 2) rfl; have fa2 := hA.free 2; have ra3 := hA.cell (j := 3) rfl; have fa3 := hA.free 3; have rf0 := hF.cell (j := 0) rfl; have fq0 := hF.free 0; have rf1 := hF.cell (j := 1) rfl; have fq1 := hF.free 1; have HA6 := Lib.hid hA; have HF6 := Lib.hid hF; have HW6 := Lib.hid (HF.out.kept hb); have HS6 := Lib.hid (HS.out.kept hb); clear hb hA hF))
          refine bodyPost_ret (results_row2 rfl _ _ B (B + 1) 23 29 #[.int .i64 0, .int .i64 0, .int .i64 0, .int .i64 0] #[.int .i64 5, .int .i64 (q : Int)] (0, 0) (0, 0) _ _ rfl ?_ rfl ?_ Tryd.underlying23 rfl (by kernel_rfl) Tryd.underlying29 rfl (by kernel_rfl)) rfl ⟨?_, ?_⟩
          · exact ((((((HA6.out).set 0 (.int .i64 (0))).set 1 (.int .i64 (0))).set 2 (.int .i64 (0))).set 3 (.int .i64 (0))).other (a := ⟨B + 1, 0, none⟩) (by simp) _).other (a := ⟨B + 1, 1, none⟩) (by simp) _
          · exact ((((((HF6.out).other (a := ⟨B, 0, none⟩) (by simp) _).other (a := ⟨B, 1, none⟩) (by simp) _).other (a := ⟨B, 2, none⟩) (by simp) _).other (a := ⟨B, 3, none⟩) (by simp) _).set 0 (.int .i64 (5))).set 1 (.int .i64 ((q : Int)))
          · exact pPost_of HE.out
          · have hBw : w.heap.size ≤ B := HBW0.out
            have hBx : w.heap.size ≤ B + 1 := by omega
            exact (((((((below_and HBL.out HB6.out)).setCell (p := ⟨B, 0, none⟩) hBw _).setCell (p := ⟨B, 1, none⟩) hBw _).setCell (p := ⟨B, 2, none⟩) hBw _).setCell (p := ⟨B, 3, none⟩) hBw _).setCell (p := ⟨B + 1, 0, none⟩) hBx _).setCell (p := ⟨B + 1, 1, none⟩) hBx _
      · by_cases he0 : e = 0
        · subst he0
          cases hsn : sn.get i
          · have HSN : Hid (sn.get i = false) := Lib.hid hsn
            have HE0 : Hid (partE (wordL r) sn = 0) := Lib.hid (by rw [HPE.out, HSN.out]; simp)
            clear hsn
            go_upto_region 17 with (first | (go_at_call 41; refine (index_val (s.extract q s.size) _ r HX1.out _ HIV.out).mono ?_; rintro e1 w6 ⟨rfl, rfl⟩) | (go_at_call 42; refine (part_val (s.extract q (q + o)) _ HX3.out (wordL r) HX2.out i x 0 HPR.out).mono ?_; rintro e1 w6 ⟨rfl, hb⟩; have HB6 := Lib.hid (below_and HBx.out hb); have sk := (HS.out.kept hb).cell (snC_get sn hi4); rw [HSN.out] at sk; have fk := (HF.out.kept hb).cell (amC_get f hi4); have ff := (HF.out.kept hb).free i; have sf := (HS.out.kept hb).free i; have hA := B0.out.kept HB6.out; have hF := B1.out.kept HB6.out; have ra0 := hA.cell (j := 0) rfl; have fa0 := hA.free 0; have ra1 := hA.cell (j := 1) rfl; have fa1 := hA.free 1; have ra2 := hA.cell (j := 2) rfl; have fa2 := hA.free 2; have ra3 := hA.cell (j := 3) rfl; have fa3 := hA.free 3; have rf0 := hF.cell (j := 0) rfl; have fq0 := hF.free 0; have rf1 := hF.cell (j := 1) rfl; have fq1 := hF.free 1; have HA6 := Lib.hid hA; have HF6 := Lib.hid hF; have HW6 := Lib.hid (HF.out.kept hb); have HS6 := Lib.hid (HS.out.kept hb); clear hb hA hF))
            obtain ⟨w7, hw7⟩ : ∃ w7, w7 = (w6.setCell ⟨g, i, none⟩ (.int .i64 x)).setCell ⟨g + 1, i, none⟩ (.bool true) := ⟨_, rfl⟩
            have HGB : Hid (B + 2 ≤ g) := Lib.hid (by have := HSZ.out; have := HGS.out; omega)
            have HA7 : Hid (Blk w7 B (amC .zero) 23) := Lib.hid (by rw [hw7]; exact (HA6.out.other (a := ⟨g, i, none⟩) (by have := HGB.out; simp; omega) _).other (a := ⟨g + 1, i, none⟩) (by have := HGB.out; simp; omega) _)
            have HF7 : Hid (Blk w7 (B + 1) [.int .i64 0, .int .i64 0] 29) := Lib.hid (by rw [hw7]; exact (HF6.out.other (a := ⟨g, i, none⟩) (by have := HGB.out; simp; omega) _).other (a := ⟨g + 1, i, none⟩) (by have := HGB.out; simp; omega) _)
            have HW7 : Hid (Blk w7 g (amC (f.put x i)) 50) := Lib.hid (by
              rw [hw7, ← amC_set f x hi4]
              exact (HW6.out.set i (.int .i64 x)).other (a := ⟨g + 1, i, none⟩) (by simp) _)
            have HS7 : Hid (Blk w7 (g + 1) (snC (sn.put i)) 60) := Lib.hid (by
              rw [hw7, ← snC_set sn hi4]
              exact (HS6.out.other (a := ⟨g, i, none⟩) (by simp) _).set i (.bool true))
            have HB7 : Hid (Below w3.heap.size w3 w7) := Lib.hid (by
              rw [hw7]
              exact (HB6.out.setCell (p := ⟨g, i, none⟩) HGS.out _).setCell (p := ⟨g + 1, i, none⟩) (Nat.le_trans HGS.out (by simp)) _)
            rw [← hw7]
            clear hw7 sk fk ff sf ra0 ra1 ra2 ra3 fa0 fa1 fa2 fa3 rf0 rf1 fq0 fq1
            by_cases hend : q + o = s.size
            · have HE : Hid (parseP s.data.toList = (f.put x i, 0, 0)) := Lib.hid (by
                rw [HP.out, parse_end HE0.out (by unfold restL; rw [tw_drop]; exact List.drop_eq_nil_of_le (by show r.length ≤ (wordL r).length; rw [← HO.out, HRL.out]; omega)), HPR.out])
              have te : ((q : Int) + (o : Int) == (s.size : Int)) = true := by simp; omega
              obtain ⟨z, hz⟩ : ∃ z, z = f.put x i := ⟨_, rfl⟩
              rw [← hz] at HE HW7
              clear hz
              have z0 := HW7.out.cell (j := 0) rfl
              have z1 := HW7.out.cell (j := 1) rfl
              have z2 := HW7.out.cell (j := 2) rfl
              have z3 := HW7.out.cell (j := 3) rfl
              clear hend
              go_wp2_with (go_at_call 43; refine (amounts_any z _).mono ?_; rintro e1 w8 ⟨rfl, hb⟩; have hA := HA7.out.kept hb; have hF := HF7.out.kept hb; have ra0 := hA.cell (j := 0) rfl; have fa0 := hA.free 0; have ra1 := hA.cell (j := 1) rfl; have fa1 := hA.free 1; have ra2 := hA.cell (j := 2) rfl; have fa2 := hA.free 2; have ra3 := hA.cell (j := 3) rfl; have fa3 := hA.free 3; have rf0 := hF.cell (j := 0) rfl; have fq0 := hF.free 0; have rf1 := hF.cell (j := 1) rfl; have fq1 := hF.free 1; have HA8 := Lib.hid hA; have HF8 := Lib.hid hF; have HB8 := Lib.hid (below_and HBL.out (below_and HB7.out hb)); clear hb hA hF)
              refine bodyPost_ret (results_row2 rfl _ _ B (B + 1) 23 29 #[.int .i64 z.c, .int .i64 z.r, .int .i64 z.d, .int .i64 z.p] #[.int .i64 0, .int .i64 0] (0, 0) (0, 0) _ _ rfl ?_ rfl ?_ Tryd.underlying23 rfl (by kernel_rfl) Tryd.underlying29 rfl (by kernel_rfl)) rfl ⟨?_, ?_⟩
              · exact ((((((HA8.out).set 0 (.int .i64 (z.c))).set 1 (.int .i64 (z.r))).set 2 (.int .i64 (z.d))).set 3 (.int .i64 (z.p))).other (a := ⟨B + 1, 0, none⟩) (by simp) _).other (a := ⟨B + 1, 1, none⟩) (by simp) _
              · exact ((((((HF8.out).other (a := ⟨B, 0, none⟩) (by simp) _).other (a := ⟨B, 1, none⟩) (by simp) _).other (a := ⟨B, 2, none⟩) (by simp) _).other (a := ⟨B, 3, none⟩) (by simp) _).set 0 (.int .i64 (0))).set 1 (.int .i64 (0))
              · exact pPost_of HE.out
              · have hBw : w.heap.size ≤ B := HBW0.out
                have hBx : w.heap.size ≤ B + 1 := by omega
                exact ((((((HB8.out).setCell (p := ⟨B, 0, none⟩) hBw _).setCell (p := ⟨B, 1, none⟩) hBw _).setCell (p := ⟨B, 2, none⟩) hBw _).setCell (p := ⟨B, 3, none⟩) hBw _).setCell (p := ⟨B + 1, 0, none⟩) hBx _).setCell (p := ⟨B + 1, 1, none⟩) hBx _
            · exact absurd (by have := HOQ.out; omega) hend
          · have HSN : Hid (sn.get i = true) := Lib.hid hsn
            have HE : Hid (parseP s.data.toList = (.zero, 5, (q : Int))) := Lib.hid (by
              have h9 : partE (wordL r) sn = 5 := by rw [HPE.out, HSN.out]; simp
              rw [HP.out, parse_err (by rw [h9]; simp), h9])
            clear hsn
            go_wp2_with (first | (go_at_call 41; refine (index_val (s.extract q s.size) _ r HX1.out _ HIV.out).mono ?_; rintro e1 w6 ⟨rfl, rfl⟩) | (go_at_call 42; refine (part_val (s.extract q (q + o)) _ HX3.out (wordL r) HX2.out i x 0 HPR.out).mono ?_; rintro e1 w6 ⟨rfl, hb⟩; have HB6 := Lib.hid (below_and HBx.out hb); have sk := (HS.out.kept hb).cell (snC_get sn hi4); rw [HSN.out] at sk; have fk := (HF.out.kept hb).cell (amC_get f hi4); have ff := (HF.out.kept hb).free i; have sf := (HS.out.kept hb).free i; have hA := B0.out.kept HB6.out; have hF := B1.out.kept HB6.out; have ra0 := hA.cell (j := 0) rfl; have fa0 := hA.free 0; have ra1 := hA.cell (j := 1) rfl; have fa1 := hA.free 1; have ra2 := hA.cell (j := 2) rfl; have fa2 := hA.free 2; have ra3 := hA.cell (j := 3) rfl; have fa3 := hA.free 3; have rf0 := hF.cell (j := 0) rfl; have fq0 := hF.free 0; have rf1 := hF.cell (j := 1) rfl; have fq1 := hF.free 1; have HA6 := Lib.hid hA; have HF6 := Lib.hid hF; have HW6 := Lib.hid (HF.out.kept hb); have HS6 := Lib.hid (HS.out.kept hb); clear hb hA hF))
            refine bodyPost_ret (results_row2 rfl _ _ B (B + 1) 23 29 #[.int .i64 0, .int .i64 0, .int .i64 0, .int .i64 0] #[.int .i64 5, .int .i64 (q : Int)] (0, 0) (0, 0) _ _ rfl ?_ rfl ?_ Tryd.underlying23 rfl (by kernel_rfl) Tryd.underlying29 rfl (by kernel_rfl)) rfl ⟨?_, ?_⟩
            · exact ((((((HA6.out).set 0 (.int .i64 (0))).set 1 (.int .i64 (0))).set 2 (.int .i64 (0))).set 3 (.int .i64 (0))).other (a := ⟨B + 1, 0, none⟩) (by simp) _).other (a := ⟨B + 1, 1, none⟩) (by simp) _
            · exact ((((((HF6.out).other (a := ⟨B, 0, none⟩) (by simp) _).other (a := ⟨B, 1, none⟩) (by simp) _).other (a := ⟨B, 2, none⟩) (by simp) _).other (a := ⟨B, 3, none⟩) (by simp) _).set 0 (.int .i64 (5))).set 1 (.int .i64 ((q : Int)))
            · exact pPost_of HE.out
            · have hBw : w.heap.size ≤ B := HBW0.out
              have hBx : w.heap.size ≤ B + 1 := by omega
              exact (((((((below_and HBL.out HB6.out)).setCell (p := ⟨B, 0, none⟩) hBw _).setCell (p := ⟨B, 1, none⟩) hBw _).setCell (p := ⟨B, 2, none⟩) hBw _).setCell (p := ⟨B, 3, none⟩) hBw _).setCell (p := ⟨B + 1, 0, none⟩) hBx _).setCell (p := ⟨B + 1, 1, none⟩) hBx _
        · have t9 : (e == 9) = false := by simpa using he9
          have t0 : (e == 0) = false := by simpa using he0
          cases hsn : sn.get i
          · have HSN : Hid (sn.get i = false) := Lib.hid hsn
            have HE : Hid (parseP s.data.toList = (.zero, e, (q : Int))) := Lib.hid (by
              have h9 : partE (wordL r) sn = e := by rw [HPE.out, HSN.out]; (rw [if_neg (by simp [he9, he0])])
              rw [HP.out, parse_err (by rw [h9]; exact he0), h9])
            clear hsn
            go_wp2_with (first | (go_at_call 41; refine (index_val (s.extract q s.size) _ r HX1.out _ HIV.out).mono ?_; rintro e1 w6 ⟨rfl, rfl⟩) | (go_at_call 42; refine (part_val (s.extract q (q + o)) _ HX3.out (wordL r) HX2.out i x e HPR.out).mono ?_; rintro e1 w6 ⟨rfl, hb⟩; have HB6 := Lib.hid (below_and HBx.out hb); have sk := (HS.out.kept hb).cell (snC_get sn hi4); rw [HSN.out] at sk; have fk := (HF.out.kept hb).cell (amC_get f hi4); have ff := (HF.out.kept hb).free i; have sf := (HS.out.kept hb).free i; have hA := B0.out.kept HB6.out; have hF := B1.out.kept HB6.out; have ra0 := hA.cell (j := 0) rfl; have fa0 := hA.free 0; have ra1 := hA.cell (j := 1) rfl; have fa1 := hA.free 1; have ra2 := hA.cell (j := 2) rfl; have fa2 := hA.free 2; have ra3 := hA.cell (j := 3) rfl; have fa3 := hA.free 3; have rf0 := hF.cell (j := 0) rfl; have fq0 := hF.free 0; have rf1 := hF.cell (j := 1) rfl; have fq1 := hF.free 1; have HA6 := Lib.hid hA; have HF6 := Lib.hid hF; have HW6 := Lib.hid (HF.out.kept hb); have HS6 := Lib.hid (HS.out.kept hb); clear hb hA hF))
            refine bodyPost_ret (results_row2 rfl _ _ B (B + 1) 23 29 #[.int .i64 0, .int .i64 0, .int .i64 0, .int .i64 0] #[.int .i64 e, .int .i64 (q : Int)] (0, 0) (0, 0) _ _ rfl ?_ rfl ?_ Tryd.underlying23 rfl (by kernel_rfl) Tryd.underlying29 rfl (by kernel_rfl)) rfl ⟨?_, ?_⟩
            · exact ((((((HA6.out).set 0 (.int .i64 (0))).set 1 (.int .i64 (0))).set 2 (.int .i64 (0))).set 3 (.int .i64 (0))).other (a := ⟨B + 1, 0, none⟩) (by simp) _).other (a := ⟨B + 1, 1, none⟩) (by simp) _
            · exact ((((((HF6.out).other (a := ⟨B, 0, none⟩) (by simp) _).other (a := ⟨B, 1, none⟩) (by simp) _).other (a := ⟨B, 2, none⟩) (by simp) _).other (a := ⟨B, 3, none⟩) (by simp) _).set 0 (.int .i64 (e))).set 1 (.int .i64 ((q : Int)))
            · exact pPost_of HE.out
            · have hBw : w.heap.size ≤ B := HBW0.out
              have hBx : w.heap.size ≤ B + 1 := by omega
              exact (((((((below_and HBL.out HB6.out)).setCell (p := ⟨B, 0, none⟩) hBw _).setCell (p := ⟨B, 1, none⟩) hBw _).setCell (p := ⟨B, 2, none⟩) hBw _).setCell (p := ⟨B, 3, none⟩) hBw _).setCell (p := ⟨B + 1, 0, none⟩) hBx _).setCell (p := ⟨B + 1, 1, none⟩) hBx _
          · have HSN : Hid (sn.get i = true) := Lib.hid hsn
            have HE : Hid (parseP s.data.toList = (.zero, e, (q : Int))) := Lib.hid (by
              have h9 : partE (wordL r) sn = e := by rw [HPE.out, HSN.out]; (rw [if_neg (by simp [he9, he0])])
              rw [HP.out, parse_err (by rw [h9]; exact he0), h9])
            clear hsn
            go_wp2_with (first | (go_at_call 41; refine (index_val (s.extract q s.size) _ r HX1.out _ HIV.out).mono ?_; rintro e1 w6 ⟨rfl, rfl⟩) | (go_at_call 42; refine (part_val (s.extract q (q + o)) _ HX3.out (wordL r) HX2.out i x e HPR.out).mono ?_; rintro e1 w6 ⟨rfl, hb⟩; have HB6 := Lib.hid (below_and HBx.out hb); have sk := (HS.out.kept hb).cell (snC_get sn hi4); rw [HSN.out] at sk; have fk := (HF.out.kept hb).cell (amC_get f hi4); have ff := (HF.out.kept hb).free i; have sf := (HS.out.kept hb).free i; have hA := B0.out.kept HB6.out; have hF := B1.out.kept HB6.out; have ra0 := hA.cell (j := 0) rfl; have fa0 := hA.free 0; have ra1 := hA.cell (j := 1) rfl; have fa1 := hA.free 1; have ra2 := hA.cell (j := 2) rfl; have fa2 := hA.free 2; have ra3 := hA.cell (j := 3) rfl; have fa3 := hA.free 3; have rf0 := hF.cell (j := 0) rfl; have fq0 := hF.free 0; have rf1 := hF.cell (j := 1) rfl; have fq1 := hF.free 1; have HA6 := Lib.hid hA; have HF6 := Lib.hid hF; have HW6 := Lib.hid (HF.out.kept hb); have HS6 := Lib.hid (HS.out.kept hb); clear hb hA hF))
            refine bodyPost_ret (results_row2 rfl _ _ B (B + 1) 23 29 #[.int .i64 0, .int .i64 0, .int .i64 0, .int .i64 0] #[.int .i64 e, .int .i64 (q : Int)] (0, 0) (0, 0) _ _ rfl ?_ rfl ?_ Tryd.underlying23 rfl (by kernel_rfl) Tryd.underlying29 rfl (by kernel_rfl)) rfl ⟨?_, ?_⟩
            · exact ((((((HA6.out).set 0 (.int .i64 (0))).set 1 (.int .i64 (0))).set 2 (.int .i64 (0))).set 3 (.int .i64 (0))).other (a := ⟨B + 1, 0, none⟩) (by simp) _).other (a := ⟨B + 1, 1, none⟩) (by simp) _
            · exact ((((((HF6.out).other (a := ⟨B, 0, none⟩) (by simp) _).other (a := ⟨B, 1, none⟩) (by simp) _).other (a := ⟨B, 2, none⟩) (by simp) _).other (a := ⟨B, 3, none⟩) (by simp) _).set 0 (.int .i64 (e))).set 1 (.int .i64 ((q : Int)))
            · exact pPost_of HE.out
            · have hBw : w.heap.size ≤ B := HBW0.out
              have hBx : w.heap.size ≤ B + 1 := by omega
              exact (((((((below_and HBL.out HB6.out)).setCell (p := ⟨B, 0, none⟩) hBw _).setCell (p := ⟨B, 1, none⟩) hBw _).setCell (p := ⟨B, 2, none⟩) hBw _).setCell (p := ⟨B, 3, none⟩) hBw _).setCell (p := ⟨B + 1, 0, none⟩) hBx _).setCell (p := ⟨B + 1, 1, none⟩) hBx _
    · have HIV := Lib.hid hix
      clear hix
      by_cases he9 : e = 9
      · subst he9
        cases hsn : sn.get i
        · have HSN : Hid (sn.get i = false) := Lib.hid hsn
          have HE : Hid (parseP s.data.toList = (.zero, 9, (q : Int))) := Lib.hid (by
            have h9 : partE (wordL r) sn = 9 := by rw [HPE.out, HSN.out]; simp
            rw [HP.out, parse_err (by rw [h9]; simp), h9])
          clear hsn
          go_wp2_with (first | (go_at_call 41; refine (index_val (s.extract q s.size) _ r HX1.out _ HIV.out).mono ?_; rintro e1 w6 ⟨rfl, rfl⟩) | (go_at_call 42; refine (part_val (s.extract q (q + o)) _ HX3.out (wordL r) HX2.out i x 9 HPR.out).mono ?_; rintro e1 w6 ⟨rfl, hb⟩; have HB6 := Lib.hid (below_and HBx.out hb); have sk := (HS.out.kept hb).cell (snC_get sn hi4); rw [HSN.out] at sk; have fk := (HF.out.kept hb).cell (amC_get f hi4); have ff := (HF.out.kept hb).free i; have sf := (HS.out.kept hb).free i; have hA := B0.out.kept HB6.out; have hF := B1.out.kept HB6.out; have ra0 := hA.cell (j := 0) rfl; have fa0 := hA.free 0; have ra1 := hA.cell (j := 1) rfl; have fa1 := hA.free 1; have ra2 := hA.cell (j := 2) rfl; have fa2 := hA.free 2; have ra3 := hA.cell (j := 3) rfl; have fa3 := hA.free 3; have rf0 := hF.cell (j := 0) rfl; have fq0 := hF.free 0; have rf1 := hF.cell (j := 1) rfl; have fq1 := hF.free 1; have HA6 := Lib.hid hA; have HF6 := Lib.hid hF; have HW6 := Lib.hid (HF.out.kept hb); have HS6 := Lib.hid (HS.out.kept hb); clear hb hA hF))
          refine bodyPost_ret (results_row2 rfl _ _ B (B + 1) 23 29 #[.int .i64 0, .int .i64 0, .int .i64 0, .int .i64 0] #[.int .i64 9, .int .i64 (q : Int)] (0, 0) (0, 0) _ _ rfl ?_ rfl ?_ Tryd.underlying23 rfl (by kernel_rfl) Tryd.underlying29 rfl (by kernel_rfl)) rfl ⟨?_, ?_⟩
          · exact ((((((HA6.out).set 0 (.int .i64 (0))).set 1 (.int .i64 (0))).set 2 (.int .i64 (0))).set 3 (.int .i64 (0))).other (a := ⟨B + 1, 0, none⟩) (by simp) _).other (a := ⟨B + 1, 1, none⟩) (by simp) _
          · exact ((((((HF6.out).other (a := ⟨B, 0, none⟩) (by simp) _).other (a := ⟨B, 1, none⟩) (by simp) _).other (a := ⟨B, 2, none⟩) (by simp) _).other (a := ⟨B, 3, none⟩) (by simp) _).set 0 (.int .i64 (9))).set 1 (.int .i64 ((q : Int)))
          · exact pPost_of HE.out
          · have hBw : w.heap.size ≤ B := HBW0.out
            have hBx : w.heap.size ≤ B + 1 := by omega
            exact (((((((below_and HBL.out HB6.out)).setCell (p := ⟨B, 0, none⟩) hBw _).setCell (p := ⟨B, 1, none⟩) hBw _).setCell (p := ⟨B, 2, none⟩) hBw _).setCell (p := ⟨B, 3, none⟩) hBw _).setCell (p := ⟨B + 1, 0, none⟩) hBx _).setCell (p := ⟨B + 1, 1, none⟩) hBx _
        · have HSN : Hid (sn.get i = true) := Lib.hid hsn
          have HE : Hid (parseP s.data.toList = (.zero, 5, (q : Int))) := Lib.hid (by
            have h9 : partE (wordL r) sn = 5 := by rw [HPE.out, HSN.out]; simp
            rw [HP.out, parse_err (by rw [h9]; simp), h9])
          clear hsn
          go_wp2_with (first | (go_at_call 41; refine (index_val (s.extract q s.size) _ r HX1.out _ HIV.out).mono ?_; rintro e1 w6 ⟨rfl, rfl⟩) | (go_at_call 42; refine (part_val (s.extract q (q + o)) _ HX3.out (wordL r) HX2.out i x 9 HPR.out).mono ?_; rintro e1 w6 ⟨rfl, hb⟩; have HB6 := Lib.hid (below_and HBx.out hb); have sk := (HS.out.kept hb).cell (snC_get sn hi4); rw [HSN.out] at sk; have fk := (HF.out.kept hb).cell (amC_get f hi4); have ff := (HF.out.kept hb).free i; have sf := (HS.out.kept hb).free i; have hA := B0.out.kept HB6.out; have hF := B1.out.kept HB6.out; have ra0 := hA.cell (j := 0) rfl; have fa0 := hA.free 0; have ra1 := hA.cell (j := 1) rfl; have fa1 := hA.free 1; have ra2 := hA.cell (j := 2) rfl; have fa2 := hA.free 2; have ra3 := hA.cell (j := 3) rfl; have fa3 := hA.free 3; have rf0 := hF.cell (j := 0) rfl; have fq0 := hF.free 0; have rf1 := hF.cell (j := 1) rfl; have fq1 := hF.free 1; have HA6 := Lib.hid hA; have HF6 := Lib.hid hF; have HW6 := Lib.hid (HF.out.kept hb); have HS6 := Lib.hid (HS.out.kept hb); clear hb hA hF))
          refine bodyPost_ret (results_row2 rfl _ _ B (B + 1) 23 29 #[.int .i64 0, .int .i64 0, .int .i64 0, .int .i64 0] #[.int .i64 5, .int .i64 (q : Int)] (0, 0) (0, 0) _ _ rfl ?_ rfl ?_ Tryd.underlying23 rfl (by kernel_rfl) Tryd.underlying29 rfl (by kernel_rfl)) rfl ⟨?_, ?_⟩
          · exact ((((((HA6.out).set 0 (.int .i64 (0))).set 1 (.int .i64 (0))).set 2 (.int .i64 (0))).set 3 (.int .i64 (0))).other (a := ⟨B + 1, 0, none⟩) (by simp) _).other (a := ⟨B + 1, 1, none⟩) (by simp) _
          · exact ((((((HF6.out).other (a := ⟨B, 0, none⟩) (by simp) _).other (a := ⟨B, 1, none⟩) (by simp) _).other (a := ⟨B, 2, none⟩) (by simp) _).other (a := ⟨B, 3, none⟩) (by simp) _).set 0 (.int .i64 (5))).set 1 (.int .i64 ((q : Int)))
          · exact pPost_of HE.out
          · have hBw : w.heap.size ≤ B := HBW0.out
            have hBx : w.heap.size ≤ B + 1 := by omega
            exact (((((((below_and HBL.out HB6.out)).setCell (p := ⟨B, 0, none⟩) hBw _).setCell (p := ⟨B, 1, none⟩) hBw _).setCell (p := ⟨B, 2, none⟩) hBw _).setCell (p := ⟨B, 3, none⟩) hBw _).setCell (p := ⟨B + 1, 0, none⟩) hBx _).setCell (p := ⟨B + 1, 1, none⟩) hBx _
      · by_cases he0 : e = 0
        · subst he0
          cases hsn : sn.get i
          · have HSN : Hid (sn.get i = false) := Lib.hid hsn
            have HE0 : Hid (partE (wordL r) sn = 0) := Lib.hid (by rw [HPE.out, HSN.out]; simp)
            clear hsn
            go_upto_region 17 with (first | (go_at_call 41; refine (index_val (s.extract q s.size) _ r HX1.out _ HIV.out).mono ?_; rintro e1 w6 ⟨rfl, rfl⟩) | (go_at_call 42; refine (part_val (s.extract q (q + o)) _ HX3.out (wordL r) HX2.out i x 0 HPR.out).mono ?_; rintro e1 w6 ⟨rfl, hb⟩; have HB6 := Lib.hid (below_and HBx.out hb); have sk := (HS.out.kept hb).cell (snC_get sn hi4); rw [HSN.out] at sk; have fk := (HF.out.kept hb).cell (amC_get f hi4); have ff := (HF.out.kept hb).free i; have sf := (HS.out.kept hb).free i; have hA := B0.out.kept HB6.out; have hF := B1.out.kept HB6.out; have ra0 := hA.cell (j := 0) rfl; have fa0 := hA.free 0; have ra1 := hA.cell (j := 1) rfl; have fa1 := hA.free 1; have ra2 := hA.cell (j := 2) rfl; have fa2 := hA.free 2; have ra3 := hA.cell (j := 3) rfl; have fa3 := hA.free 3; have rf0 := hF.cell (j := 0) rfl; have fq0 := hF.free 0; have rf1 := hF.cell (j := 1) rfl; have fq1 := hF.free 1; have HA6 := Lib.hid hA; have HF6 := Lib.hid hF; have HW6 := Lib.hid (HF.out.kept hb); have HS6 := Lib.hid (HS.out.kept hb); clear hb hA hF))
            obtain ⟨w7, hw7⟩ : ∃ w7, w7 = (w6.setCell ⟨g, i, none⟩ (.int .i64 x)).setCell ⟨g + 1, i, none⟩ (.bool true) := ⟨_, rfl⟩
            have HGB : Hid (B + 2 ≤ g) := Lib.hid (by have := HSZ.out; have := HGS.out; omega)
            have HA7 : Hid (Blk w7 B (amC .zero) 23) := Lib.hid (by rw [hw7]; exact (HA6.out.other (a := ⟨g, i, none⟩) (by have := HGB.out; simp; omega) _).other (a := ⟨g + 1, i, none⟩) (by have := HGB.out; simp; omega) _)
            have HF7 : Hid (Blk w7 (B + 1) [.int .i64 0, .int .i64 0] 29) := Lib.hid (by rw [hw7]; exact (HF6.out.other (a := ⟨g, i, none⟩) (by have := HGB.out; simp; omega) _).other (a := ⟨g + 1, i, none⟩) (by have := HGB.out; simp; omega) _)
            have HW7 : Hid (Blk w7 g (amC (f.put x i)) 50) := Lib.hid (by
              rw [hw7, ← amC_set f x hi4]
              exact (HW6.out.set i (.int .i64 x)).other (a := ⟨g + 1, i, none⟩) (by simp) _)
            have HS7 : Hid (Blk w7 (g + 1) (snC (sn.put i)) 60) := Lib.hid (by
              rw [hw7, ← snC_set sn hi4]
              exact (HS6.out.other (a := ⟨g, i, none⟩) (by simp) _).set i (.bool true))
            have HB7 : Hid (Below w3.heap.size w3 w7) := Lib.hid (by
              rw [hw7]
              exact (HB6.out.setCell (p := ⟨g, i, none⟩) HGS.out _).setCell (p := ⟨g + 1, i, none⟩) (Nat.le_trans HGS.out (by simp)) _)
            rw [← hw7]
            clear hw7 sk fk ff sf ra0 ra1 ra2 ra3 fa0 fa1 fa2 fa3 rf0 rf1 fq0 fq1
            by_cases hend : q + o = s.size
            · have HE : Hid (parseP s.data.toList = (f.put x i, 0, 0)) := Lib.hid (by
                rw [HP.out, parse_end HE0.out (by unfold restL; rw [tw_drop]; exact List.drop_eq_nil_of_le (by show r.length ≤ (wordL r).length; rw [← HO.out, HRL.out]; omega)), HPR.out])
              have te : ((q : Int) + (o : Int) == (s.size : Int)) = true := by simp; omega
              obtain ⟨z, hz⟩ : ∃ z, z = f.put x i := ⟨_, rfl⟩
              rw [← hz] at HE HW7
              clear hz
              have z0 := HW7.out.cell (j := 0) rfl
              have z1 := HW7.out.cell (j := 1) rfl
              have z2 := HW7.out.cell (j := 2) rfl
              have z3 := HW7.out.cell (j := 3) rfl
              clear hend
              go_wp2_with (go_at_call 43; refine (amounts_any z _).mono ?_; rintro e1 w8 ⟨rfl, hb⟩; have hA := HA7.out.kept hb; have hF := HF7.out.kept hb; have ra0 := hA.cell (j := 0) rfl; have fa0 := hA.free 0; have ra1 := hA.cell (j := 1) rfl; have fa1 := hA.free 1; have ra2 := hA.cell (j := 2) rfl; have fa2 := hA.free 2; have ra3 := hA.cell (j := 3) rfl; have fa3 := hA.free 3; have rf0 := hF.cell (j := 0) rfl; have fq0 := hF.free 0; have rf1 := hF.cell (j := 1) rfl; have fq1 := hF.free 1; have HA8 := Lib.hid hA; have HF8 := Lib.hid hF; have HB8 := Lib.hid (below_and HBL.out (below_and HB7.out hb)); clear hb hA hF)
              refine bodyPost_ret (results_row2 rfl _ _ B (B + 1) 23 29 #[.int .i64 z.c, .int .i64 z.r, .int .i64 z.d, .int .i64 z.p] #[.int .i64 0, .int .i64 0] (0, 0) (0, 0) _ _ rfl ?_ rfl ?_ Tryd.underlying23 rfl (by kernel_rfl) Tryd.underlying29 rfl (by kernel_rfl)) rfl ⟨?_, ?_⟩
              · exact ((((((HA8.out).set 0 (.int .i64 (z.c))).set 1 (.int .i64 (z.r))).set 2 (.int .i64 (z.d))).set 3 (.int .i64 (z.p))).other (a := ⟨B + 1, 0, none⟩) (by simp) _).other (a := ⟨B + 1, 1, none⟩) (by simp) _
              · exact ((((((HF8.out).other (a := ⟨B, 0, none⟩) (by simp) _).other (a := ⟨B, 1, none⟩) (by simp) _).other (a := ⟨B, 2, none⟩) (by simp) _).other (a := ⟨B, 3, none⟩) (by simp) _).set 0 (.int .i64 (0))).set 1 (.int .i64 (0))
              · exact pPost_of HE.out
              · have hBw : w.heap.size ≤ B := HBW0.out
                have hBx : w.heap.size ≤ B + 1 := by omega
                exact ((((((HB8.out).setCell (p := ⟨B, 0, none⟩) hBw _).setCell (p := ⟨B, 1, none⟩) hBw _).setCell (p := ⟨B, 2, none⟩) hBw _).setCell (p := ⟨B, 3, none⟩) hBw _).setCell (p := ⟨B + 1, 0, none⟩) hBx _).setCell (p := ⟨B + 1, 1, none⟩) hBx _
            · have te : ((q : Int) + (o : Int) == (s.size : Int)) = false := by simp; omega
              obtain ⟨rs, hrs⟩ : ∃ rs, rs = restL r := ⟨_, rfl⟩
              have hrsd : rs = s.data.toList.drop (q + o) := by rw [hrs]; unfold restL; rw [tw_drop]; show r.drop (wordL r).length = _; rw [← HO.out, HRR.out, List.drop_drop]
              have hrsl : rs.length = s.size - (q + o) := by rw [hrsd, List.length_drop, HLS.out]
              obtain ⟨m2, hm2⟩ : ∃ m2, m2 = (blanks rs).length := ⟨_, rfl⟩
              have hm2l : m2 ≤ rs.length := by rw [hm2]; exact tw_le _ _
              have HGET : Hid (∀ j (h : q + o + j < s.size), j < m2 → (s[q + o + j]'h).toNat = 32) := Lib.hid (fun j h hj => by
                have h1 := tw_get (· == 32) rs j (by omega) (by rw [hm2] at hj; exact hj)
                have h2 : s[q + o + j]'h = rs[j]'(by omega) := by
                  subst hrsd
                  rw [List.getElem_drop]; rfl
                rw [h2]
                have h3 : rs[j]'(by omega) = 32 := by simpa using h1
                rw [h3]; rfl)
              have HSTOP : Hid (∀ (h : q + o + m2 < s.size), (s[q + o + m2]'h).toNat ≠ 32) := Lib.hid (fun h => by
                have h1 := tw_stop (· == 32) rs (by show (blanks rs).length < rs.length; rw [← hm2]; omega)
                have h2 : s[q + o + m2]'h = rs[(rs.takeWhile (· == 32)).length]'(by show (blanks rs).length < rs.length; rw [← hm2]; omega) := by
                  have h3 : (rs.takeWhile (· == 32)).length = m2 := hm2.symm
                  simp only [h3]
                  subst hrsd
                  rw [List.getElem_drop]; rfl
                rw [h2]
                intro h4
                have : rs[(rs.takeWhile (· == 32)).length]'(by show (blanks rs).length < rs.length; rw [← hm2]; omega) = 32 := UInt8.toNat_inj.1 (by rw [h4]; rfl)
                simp [this] at h1)
              have HNE : Hid (restL r ≠ []) := Lib.hid (by rw [← hrs]; intro h; rw [h] at hrsl; simp at hrsl; omega)
              have HDW : Hid ((restL r).dropWhile (· == 32) = s.data.toList.drop (q + o + m2)) := Lib.hid (by rw [← hrs, tw_drop]; show rs.drop (blanks rs).length = _; rw [← hm2, hrsd, List.drop_drop])
              have HM2 : Hid (q + (wordL r).length + (blanks (restL r)).length = q + o + m2) := Lib.hid (by rw [← hrs, ← hm2, HO.out])
              have hqm : q + o + m2 ≤ s.size := by omega
              have H1M : Hid (0 < m2) := Lib.hid (by rw [hm2, hrs]; exact blanks_pos r HNE.out)
              clear hrs hrsd hrsl hm2 hm2l
              go_wp2
              go_loop [6] (fun a => ∃ j : Nat, j ≤ m2 ∧ a = .int .i64 ((q + o + j : Nat) : Int)) (fun a => s.size - (intOf a).toNat)
              case atStart => exact ⟨0, Nat.zero_le _, by simp⟩
              case round =>
                obtain ⟨j, hj, rfl⟩ := hrel
                by_cases hjm : j < m2
                · obtain ⟨p, hp⟩ : ∃ p, p = q + o + j := ⟨_, rfl⟩
                  have hps : p < s.size := by omega
                  have h32 : (((s[p]'hps).toNat : Int) == 32) = true := by have h9 := HGET.out j (by omega) hjm; subst hp; rw [h9]; rfl
                  have HPP := Lib.hid hp
                  rw [← hp]
                  clear hp
                  go_wp2
                  go_round
                  case rel => exact ⟨j + 1, by omega, by rw [HPP.out]; go_num⟩
                  case measure => simp [intOf]; omega
                · obtain rfl : j = m2 := by omega
                  by_cases hlast : q + o + j = s.size
                  · have HE : Hid (parseP s.data.toList = (.zero, 5, ((q + o + j : Nat) : Int))) := Lib.hid (by
                      rw [HP.out, parse_blank HE0.out HNE.out (by rw [HDW.out]; exact List.drop_eq_nil_of_le (by rw [HLS.out]; omega)), HM2.out])
                    have hA := HA7.out
                    have hF := HF7.out
                    have ra0 := hA.cell (j := 0) rfl
                    have fa0 := hA.free 0
                    have ra1 := hA.cell (j := 1) rfl
                    have fa1 := hA.free 1
                    have ra2 := hA.cell (j := 2) rfl
                    have fa2 := hA.free 2
                    have ra3 := hA.cell (j := 3) rfl
                    have fa3 := hA.free 3
                    have rf0 := hF.cell (j := 0) rfl
                    have fq0 := hF.free 0
                    have rf1 := hF.cell (j := 1) rfl
                    have fq1 := hF.free 1
                    clear hA hF
                    rw [hlast] at HE ⊢
                    go_wp2
                    refine bodyPost_ret (results_row2 rfl _ _ B (B + 1) 23 29 #[.int .i64 0, .int .i64 0, .int .i64 0, .int .i64 0] #[.int .i64 5, .int .i64 (s.size : Int)] (0, 0) (0, 0) _ _ rfl ?_ rfl ?_ Tryd.underlying23 rfl (by kernel_rfl) Tryd.underlying29 rfl (by kernel_rfl)) rfl ⟨?_, ?_⟩
                    · exact ((((((HA7.out).set 0 (.int .i64 (0))).set 1 (.int .i64 (0))).set 2 (.int .i64 (0))).set 3 (.int .i64 (0))).other (a := ⟨B + 1, 0, none⟩) (by simp) _).other (a := ⟨B + 1, 1, none⟩) (by simp) _
                    · exact ((((((HF7.out).other (a := ⟨B, 0, none⟩) (by simp) _).other (a := ⟨B, 1, none⟩) (by simp) _).other (a := ⟨B, 2, none⟩) (by simp) _).other (a := ⟨B, 3, none⟩) (by simp) _).set 0 (.int .i64 (5))).set 1 (.int .i64 ((s.size : Int)))
                    · exact pPost_of HE.out
                    · have hBw : w.heap.size ≤ B := HBW0.out
                      have hBx : w.heap.size ≤ B + 1 := by omega
                      exact (((((((below_and HBL.out HB7.out)).setCell (p := ⟨B, 0, none⟩) hBw _).setCell (p := ⟨B, 1, none⟩) hBw _).setCell (p := ⟨B, 2, none⟩) hBw _).setCell (p := ⟨B, 3, none⟩) hBw _).setCell (p := ⟨B + 1, 0, none⟩) hBx _).setCell (p := ⟨B + 1, 1, none⟩) hBx _
                  · have HE : Hid (parseP s.data.toList = parseF m (s.data.toList.drop (q + o + j)) (q + o + j) (f.put x i) (sn.put i)) := Lib.hid (by
                      rw [HP.out, parse_go HE0.out HNE.out (by rw [HDW.out]; intro h; have := congrArg List.length h; rw [List.length_drop, HLS.out] at this; simp at this; omega), HM2.out, HDW.out, HPR.out])
                    obtain ⟨p, hp⟩ : ∃ p, p = q + o + j := ⟨_, rfl⟩
                    have hps : p < s.size := by omega
                    have h32 : (((s[p]'hps).toNat : Int) == 32) = false := by have h9 := HSTOP.out (by omega); subst hp; simp; omega
                    have hpne : (p == s.size) = false := by simp; omega
                    have hpq : q < p := by have := H1M.out; omega
                    rw [← hp] at HE ⊢
                    clear hlast hp
                    go_wp2
                    go_roundw
                    case rel => exact ⟨m, p, f.put x i, sn.put i, rfl, hps, Lib.hid (by have := HN.out; omega), HE, HW7, HS7, HB7⟩
                    case measure => simp [intOf]; omega
          · have HSN : Hid (sn.get i = true) := Lib.hid hsn
            have HE : Hid (parseP s.data.toList = (.zero, 5, (q : Int))) := Lib.hid (by
              have h9 : partE (wordL r) sn = 5 := by rw [HPE.out, HSN.out]; simp
              rw [HP.out, parse_err (by rw [h9]; simp), h9])
            clear hsn
            go_wp2_with (first | (go_at_call 41; refine (index_val (s.extract q s.size) _ r HX1.out _ HIV.out).mono ?_; rintro e1 w6 ⟨rfl, rfl⟩) | (go_at_call 42; refine (part_val (s.extract q (q + o)) _ HX3.out (wordL r) HX2.out i x 0 HPR.out).mono ?_; rintro e1 w6 ⟨rfl, hb⟩; have HB6 := Lib.hid (below_and HBx.out hb); have sk := (HS.out.kept hb).cell (snC_get sn hi4); rw [HSN.out] at sk; have fk := (HF.out.kept hb).cell (amC_get f hi4); have ff := (HF.out.kept hb).free i; have sf := (HS.out.kept hb).free i; have hA := B0.out.kept HB6.out; have hF := B1.out.kept HB6.out; have ra0 := hA.cell (j := 0) rfl; have fa0 := hA.free 0; have ra1 := hA.cell (j := 1) rfl; have fa1 := hA.free 1; have ra2 := hA.cell (j := 2) rfl; have fa2 := hA.free 2; have ra3 := hA.cell (j := 3) rfl; have fa3 := hA.free 3; have rf0 := hF.cell (j := 0) rfl; have fq0 := hF.free 0; have rf1 := hF.cell (j := 1) rfl; have fq1 := hF.free 1; have HA6 := Lib.hid hA; have HF6 := Lib.hid hF; have HW6 := Lib.hid (HF.out.kept hb); have HS6 := Lib.hid (HS.out.kept hb); clear hb hA hF))
            refine bodyPost_ret (results_row2 rfl _ _ B (B + 1) 23 29 #[.int .i64 0, .int .i64 0, .int .i64 0, .int .i64 0] #[.int .i64 5, .int .i64 (q : Int)] (0, 0) (0, 0) _ _ rfl ?_ rfl ?_ Tryd.underlying23 rfl (by kernel_rfl) Tryd.underlying29 rfl (by kernel_rfl)) rfl ⟨?_, ?_⟩
            · exact ((((((HA6.out).set 0 (.int .i64 (0))).set 1 (.int .i64 (0))).set 2 (.int .i64 (0))).set 3 (.int .i64 (0))).other (a := ⟨B + 1, 0, none⟩) (by simp) _).other (a := ⟨B + 1, 1, none⟩) (by simp) _
            · exact ((((((HF6.out).other (a := ⟨B, 0, none⟩) (by simp) _).other (a := ⟨B, 1, none⟩) (by simp) _).other (a := ⟨B, 2, none⟩) (by simp) _).other (a := ⟨B, 3, none⟩) (by simp) _).set 0 (.int .i64 (5))).set 1 (.int .i64 ((q : Int)))
            · exact pPost_of HE.out
            · have hBw : w.heap.size ≤ B := HBW0.out
              have hBx : w.heap.size ≤ B + 1 := by omega
              exact (((((((below_and HBL.out HB6.out)).setCell (p := ⟨B, 0, none⟩) hBw _).setCell (p := ⟨B, 1, none⟩) hBw _).setCell (p := ⟨B, 2, none⟩) hBw _).setCell (p := ⟨B, 3, none⟩) hBw _).setCell (p := ⟨B + 1, 0, none⟩) hBx _).setCell (p := ⟨B + 1, 1, none⟩) hBx _
        · have t9 : (e == 9) = false := by simpa using he9
          have t0 : (e == 0) = false := by simpa using he0
          cases hsn : sn.get i
          · have HSN : Hid (sn.get i = false) := Lib.hid hsn
            have HE : Hid (parseP s.data.toList = (.zero, e, (q : Int))) := Lib.hid (by
              have h9 : partE (wordL r) sn = e := by rw [HPE.out, HSN.out]; (rw [if_neg (by simp [he9, he0])])
              rw [HP.out, parse_err (by rw [h9]; exact he0), h9])
            clear hsn
            go_wp2_with (first | (go_at_call 41; refine (index_val (s.extract q s.size) _ r HX1.out _ HIV.out).mono ?_; rintro e1 w6 ⟨rfl, rfl⟩) | (go_at_call 42; refine (part_val (s.extract q (q + o)) _ HX3.out (wordL r) HX2.out i x e HPR.out).mono ?_; rintro e1 w6 ⟨rfl, hb⟩; have HB6 := Lib.hid (below_and HBx.out hb); have sk := (HS.out.kept hb).cell (snC_get sn hi4); rw [HSN.out] at sk; have fk := (HF.out.kept hb).cell (amC_get f hi4); have ff := (HF.out.kept hb).free i; have sf := (HS.out.kept hb).free i; have hA := B0.out.kept HB6.out; have hF := B1.out.kept HB6.out; have ra0 := hA.cell (j := 0) rfl; have fa0 := hA.free 0; have ra1 := hA.cell (j := 1) rfl; have fa1 := hA.free 1; have ra2 := hA.cell (j := 2) rfl; have fa2 := hA.free 2; have ra3 := hA.cell (j := 3) rfl; have fa3 := hA.free 3; have rf0 := hF.cell (j := 0) rfl; have fq0 := hF.free 0; have rf1 := hF.cell (j := 1) rfl; have fq1 := hF.free 1; have HA6 := Lib.hid hA; have HF6 := Lib.hid hF; have HW6 := Lib.hid (HF.out.kept hb); have HS6 := Lib.hid (HS.out.kept hb); clear hb hA hF))
            refine bodyPost_ret (results_row2 rfl _ _ B (B + 1) 23 29 #[.int .i64 0, .int .i64 0, .int .i64 0, .int .i64 0] #[.int .i64 e, .int .i64 (q : Int)] (0, 0) (0, 0) _ _ rfl ?_ rfl ?_ Tryd.underlying23 rfl (by kernel_rfl) Tryd.underlying29 rfl (by kernel_rfl)) rfl ⟨?_, ?_⟩
            · exact ((((((HA6.out).set 0 (.int .i64 (0))).set 1 (.int .i64 (0))).set 2 (.int .i64 (0))).set 3 (.int .i64 (0))).other (a := ⟨B + 1, 0, none⟩) (by simp) _).other (a := ⟨B + 1, 1, none⟩) (by simp) _
            · exact ((((((HF6.out).other (a := ⟨B, 0, none⟩) (by simp) _).other (a := ⟨B, 1, none⟩) (by simp) _).other (a := ⟨B, 2, none⟩) (by simp) _).other (a := ⟨B, 3, none⟩) (by simp) _).set 0 (.int .i64 (e))).set 1 (.int .i64 ((q : Int)))
            · exact pPost_of HE.out
            · have hBw : w.heap.size ≤ B := HBW0.out
              have hBx : w.heap.size ≤ B + 1 := by omega
              exact (((((((below_and HBL.out HB6.out)).setCell (p := ⟨B, 0, none⟩) hBw _).setCell (p := ⟨B, 1, none⟩) hBw _).setCell (p := ⟨B, 2, none⟩) hBw _).setCell (p := ⟨B, 3, none⟩) hBw _).setCell (p := ⟨B + 1, 0, none⟩) hBx _).setCell (p := ⟨B + 1, 1, none⟩) hBx _
          · have HSN : Hid (sn.get i = true) := Lib.hid hsn
            have HE : Hid (parseP s.data.toList = (.zero, e, (q : Int))) := Lib.hid (by
              have h9 : partE (wordL r) sn = e := by rw [HPE.out, HSN.out]; (rw [if_neg (by simp [he9, he0])])
              rw [HP.out, parse_err (by rw [h9]; exact he0), h9])
            clear hsn
            go_wp2_with (first | (go_at_call 41; refine (index_val (s.extract q s.size) _ r HX1.out _ HIV.out).mono ?_; rintro e1 w6 ⟨rfl, rfl⟩) | (go_at_call 42; refine (part_val (s.extract q (q + o)) _ HX3.out (wordL r) HX2.out i x e HPR.out).mono ?_; rintro e1 w6 ⟨rfl, hb⟩; have HB6 := Lib.hid (below_and HBx.out hb); have sk := (HS.out.kept hb).cell (snC_get sn hi4); rw [HSN.out] at sk; have fk := (HF.out.kept hb).cell (amC_get f hi4); have ff := (HF.out.kept hb).free i; have sf := (HS.out.kept hb).free i; have hA := B0.out.kept HB6.out; have hF := B1.out.kept HB6.out; have ra0 := hA.cell (j := 0) rfl; have fa0 := hA.free 0; have ra1 := hA.cell (j := 1) rfl; have fa1 := hA.free 1; have ra2 := hA.cell (j := 2) rfl; have fa2 := hA.free 2; have ra3 := hA.cell (j := 3) rfl; have fa3 := hA.free 3; have rf0 := hF.cell (j := 0) rfl; have fq0 := hF.free 0; have rf1 := hF.cell (j := 1) rfl; have fq1 := hF.free 1; have HA6 := Lib.hid hA; have HF6 := Lib.hid hF; have HW6 := Lib.hid (HF.out.kept hb); have HS6 := Lib.hid (HS.out.kept hb); clear hb hA hF))
            refine bodyPost_ret (results_row2 rfl _ _ B (B + 1) 23 29 #[.int .i64 0, .int .i64 0, .int .i64 0, .int .i64 0] #[.int .i64 e, .int .i64 (q : Int)] (0, 0) (0, 0) _ _ rfl ?_ rfl ?_ Tryd.underlying23 rfl (by kernel_rfl) Tryd.underlying29 rfl (by kernel_rfl)) rfl ⟨?_, ?_⟩
            · exact ((((((HA6.out).set 0 (.int .i64 (0))).set 1 (.int .i64 (0))).set 2 (.int .i64 (0))).set 3 (.int .i64 (0))).other (a := ⟨B + 1, 0, none⟩) (by simp) _).other (a := ⟨B + 1, 1, none⟩) (by simp) _
            · exact ((((((HF6.out).other (a := ⟨B, 0, none⟩) (by simp) _).other (a := ⟨B, 1, none⟩) (by simp) _).other (a := ⟨B, 2, none⟩) (by simp) _).other (a := ⟨B, 3, none⟩) (by simp) _).set 0 (.int .i64 (e))).set 1 (.int .i64 ((q : Int)))
            · exact pPost_of HE.out
            · have hBw : w.heap.size ≤ B := HBW0.out
              have hBx : w.heap.size ≤ B + 1 := by omega
              exact (((((((below_and HBL.out HB6.out)).setCell (p := ⟨B, 0, none⟩) hBw _).setCell (p := ⟨B, 1, none⟩) hBw _).setCell (p := ⟨B, 2, none⟩) hBw _).setCell (p := ⟨B, 3, none⟩) hBw _).setCell (p := ⟨B + 1, 0, none⟩) hBx _).setCell (p := ⟨B + 1, 1, none⟩) hBx _

theorem parse_any (s : ByteArray) (w : World) (hs : s.size ≤ 140737488351232) :
    Calls Tryd.prog 12 #[.string s] w (pPost s w) := by
  by_cases hn : s.data.toList = [110, 111, 110, 101]
  · exact parse_none s w (by rw [Lib.toList_data, hn]; rfl) (by unfold parseP; rw [if_pos hn])
  · have hn' : (s.toList == [110, 111, 110, 101]) = false := by rw [Lib.toList_data]; simpa using hn
    by_cases he : s.data.toList = []
    · exact parse_empty s w (by rw [Lib.toList_data, he]) (by unfold parseP; rw [if_neg hn, if_pos (.inl he)])
    · have h0 : 0 < s.size := by
        have := List.length_pos_iff.2 he
        simpa using this
      have e1 : ¬ s.toList = [] := by rw [Lib.toList_data]; exact he
      have e0 : s.toList.isEmpty = false := by simpa using e1
      have hhd : s.data.toList.head? = some s[0] := by
        rw [List.head?_eq_getElem?, List.getElem?_eq_getElem (by simpa using h0)]; rfl
      by_cases h1 : s[0].toNat = 32
      · have h2 : s[0] = 32 := UInt8.toNat_inj.1 (by rw [h1]; rfl)
        exact parse_front s w h0 e0 e1 hn' (by simp; omega) (by unfold parseP; rw [if_neg hn, if_pos (.inr (by rw [hhd, h2]))])
      · exact parse_loop s w hs h0 e0 e1 hn' (by simp; omega) (by
          unfold parseP
          rw [if_neg hn, if_neg]
          rintro (h | h)
          · exact he h
          · rw [hhd] at h
            have h2 : s[0] = 32 := Option.some.inj h
            rw [h2] at h1
            exact h1 rfl)
end Go.Proofs.YtmgecehdicpjnaaDoor
