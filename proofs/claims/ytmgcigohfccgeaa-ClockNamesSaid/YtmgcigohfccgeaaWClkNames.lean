/- the walk of ClockNames -/
import Derived.Test.YtmgcigohfccgeaaCOne
import Derived.Test.YtmgcigohfccgeaaTickSort
import Derived.Test.YtmgcigohfccgeaaWatch3
namespace Go.Proofs.Ytmgcigohfccgeaa
open Go.RowKit

abbrev eb : ByteArray := ⟨#[98]⟩
theorem eb_ne : eb.toList.isEmpty = false := by
  rw [ByteArray.toList, ByteArray.toList.loop, if_pos (by decide), ByteArray.toList.loop, if_neg (by decide)]
  rfl
theorem k10001 : Clk.keeps [[1], [0], [0], [0], [1]] 0 0 = (false, 0) := by decide
theorem k1001 : Clk.keeps [[1], [0], [0], [1]] 0 0 = (true, 0) := by decide
theorem w00 : Clk.waits 0 0 = (0, 2) := by decide

/-- the ends behind the three calls of Set -/
def nmA : List End := setL [] ea 5
def nmB : List End := setL nmA eb 5
def nmC : List End := setL nmB ea 3
theorem nmA_ok : Hp.IsH elt nmA nmA.length ∧ ND nmA ∧ nmA.Perm [(ea, 5)] := by
  refine ⟨set_heap _ _ (fun i _ h => by simp at h), set_nd _ _ (by simp [ND]), (set_perm _ _ (by simp [ND])).trans ?_⟩
  simp [others]
theorem nmB_ok : Hp.IsH elt nmB nmB.length ∧ ND nmB ∧ nmB.Perm [(eb, 5), (ea, 5)] := by
  refine ⟨set_heap _ _ nmA_ok.1, set_nd _ _ nmA_ok.2.1, (set_perm _ _ nmA_ok.2.1).trans ?_⟩
  exact (((nmA_ok.2.2).filter _).cons _).trans (by simp [ea, eb])
theorem nmC_ok : Hp.IsH elt nmC nmC.length ∧ ND nmC ∧ nmC.Perm [(ea, 3), (eb, 5)] := by
  refine ⟨set_heap _ _ nmB_ok.1, set_nd _ _ nmB_ok.2.1, (set_perm _ _ nmB_ok.2.1).trans ?_⟩
  exact (((nmB_ok.2.2).filter _).cons _).trans (by simp [ea, eb])
theorem srtC : Srt [(ea, 3), (eb, 5)] := by
  unfold Srt
  simp [elt]
theorem tick2 : (tick nmC 2).1 = [] ∧ (tick nmC 2).2.Perm [(ea, 3), (eb, 5)] ∧ Hp.IsH elt (tick nmC 2).2 (tick nmC 2).2.length := by
  obtain ⟨h1, h2⟩ := tick_sorted 2 _ nmC nmC_ok.2.2 nmC_ok.1 srtC
  exact ⟨by rw [h1]; rfl, h2.trans (by simp [dueP]), (tick_perm 2 _ nmC rfl nmC_ok.1).2.2⟩
def nmD : List End := (tick nmC 2).2
theorem tick5 : (tick nmD 5).1 = [(ea, 3), (eb, 5)] ∧ (tick nmD 5).2 = [] := by
  obtain ⟨h1, h2⟩ := tick_sorted 5 _ nmD tick2.2.1 tick2.2.2 srtC
  exact ⟨by rw [h1]; rfl, List.Perm.eq_nil (h2.trans (by simp [dueP]))⟩
theorem nmC_len : nmA.length ≤ 800000 ∧ nmB.length ≤ 800000 ∧ nmC.length ≤ 800000 ∧ nmD.length ≤ 800000 := by
  rw [nmA_ok.2.2.length_eq, nmB_ok.2.2.length_eq, nmC_ok.2.2.length_eq, show nmD.length = _ from tick2.2.1.length_eq]
  simp

theorem lit_ints (w : World) (zs : List Int) (hl : zs.length ≤ maxLen) : Row (w.alloc (.cells (zs.map (Value.int .i64)).toArray 3)) (.slice (some ⟨w.heap.size, 0, none⟩) zs.length zs.length) 1 zs.length (zs.map (Value.int .i64)) := by
  have := row_block (w := w.alloc (.cells (zs.map (Value.int .i64)).toArray 3)) (g := w.heap.size) (us := zs.map (Value.int .i64)) (heap_alloc_new w _) (by simpa using hl) (ints_one zs)
  simpa using this
theorem lit_texts (w : World) (ss : List ByteArray) (hl : ss.length ≤ maxLen) : Texts (w.alloc (.cells (ss.map Value.string).toArray 9)) (.slice (some ⟨w.heap.size, 0, none⟩) ss.length ss.length) ss := by
  have := row_block (w := w.alloc (.cells (ss.map Value.string).toArray 9)) (g := w.heap.size) (us := ss.map Value.string) (heap_alloc_new w _) (by simpa using hl) (by intro u hu; obtain ⟨y, -, rfl⟩ := List.mem_map.1 hu; rfl)
  unfold Texts
  simpa using this

theorem lit5 (w : World) : Row (w.alloc (.cells #[.int .i64 1, .int .i64 0, .int .i64 0, .int .i64 0, .int .i64 1] 3)) (.slice (some ⟨w.heap.size, 0, none⟩) 5 5) 1 [(1 : Int), 0, 0, 0, 1].length ([(1 : Int), 0, 0, 0, 1].map (Value.int .i64)) := lit_ints w [1, 0, 0, 0, 1] (by simp [maxLen])
theorem lit4 (w : World) : Row (w.alloc (.cells #[.int .i64 1, .int .i64 0, .int .i64 0, .int .i64 1] 3)) (.slice (some ⟨w.heap.size, 0, none⟩) 4 4) 1 [(1 : Int), 0, 0, 1].length ([(1 : Int), 0, 0, 1].map (Value.int .i64)) := lit_ints w [1, 0, 0, 1] (by simp [maxLen])
theorem one5 (w : World) : Calls Try.prog 31 #[.slice (some ⟨w.heap.size, 0, none⟩) 5 5] (w.alloc (.cells #[.int .i64 1, .int .i64 0, .int .i64 0, .int .i64 0, .int .i64 1] 3)) fun e w' => ∃ v', e = .returned v' ∧ Rows2 w' v' [[1], [0], [0], [0], [1]] ∧ Below w.heap.size w w' :=
  (one_any _ [1, 0, 0, 0, 1] _ (lit5 w) (by simp)).mono fun e w' ⟨v', h1, h2, h3⟩ => ⟨v', h1, h2, below_and (below_alloc w _) h3⟩
theorem one4 (w : World) : Calls Try.prog 31 #[.slice (some ⟨w.heap.size, 0, none⟩) 4 4] (w.alloc (.cells #[.int .i64 1, .int .i64 0, .int .i64 0, .int .i64 1] 3)) fun e w' => ∃ v', e = .returned v' ∧ Rows2 w' v' [[1], [0], [0], [1]] ∧ Below w.heap.size w w' :=
  (one_any _ [1, 0, 0, 1] _ (lit4 w) (by simp)).mono fun e w' ⟨v', h1, h2, h3⟩ => ⟨v', h1, h2, below_and (below_alloc w _) h3⟩

set_option maxRecDepth 100000 in
set_option maxHeartbeats 2000000 in
theorem clockNames_walk (w : World) :
    Calls Try.prog 7 #[] w fun e w' => e = .returned (.bool true) ∧ Below w.heap.size w w' := by
  go_enter Try.func7, Try.ntmps7
  go_wp2_with (first
    | (go_at_call 21; refine (clives _).mono ?_; rintro e w1 ⟨rfl, hb⟩; have HB1 := Lib.hid hb; clear hb)
    | (go_at_call 25; refine (wait_any _ _ _).mono ?_; rw [w00]; rintro e w2 ⟨rfl, rfl⟩)
    | (go_at_call 31; have _t := HB1; clear _t; refine (one5 _).mono ?_; rintro e w2 ⟨v2, rfl, hr, hb⟩; have HB2 := Lib.hid (below_and HB1.out hb); have HR2 := Lib.hid hr; clear hr hb HB1)
    | (go_at_call 14; have _t := HR2; clear _t; refine (keeps_any _ _ _ _ _ HR2.out).mono ?_; rw [k10001]; rintro e w3 ⟨rfl, rfl⟩; clear HR2)
    | (go_at_call 31; have _t := HB2; clear _t; refine (one4 _).mono ?_; rintro e w4 ⟨v4, rfl, hr, hb⟩; have HB4 := Lib.hid (below_and HB2.out hb); have HR4 := Lib.hid hr; clear hr hb HB2)
    | (go_at_call 14; have _t := HR4; clear _t; refine (keeps_any _ _ _ _ _ HR4.out).mono ?_; rw [k1001]; rintro e w5 ⟨rfl, rfl⟩; clear HR4)
    | (go_at_call 27; refine (wnew_any _).mono ?_; rintro e w6 ⟨b, v, rfl, hb, hv, hw, hbl⟩; have HX := Lib.hid hb; have HV := Lib.hid hv; have HA := Lib.hid hw; have HB6 := Lib.hid hbl; have HY := Lib.hid (Nat.le_trans HB4.out.size hb); clear hb hv hw hbl)
    | (go_at_call 28; have _t := HA; clear _t; refine (wset_ok b 0 5 v [] ea _ HA.out (by simp) (by omega) (by omega) ea_ne (by omega) (by omega)).mono ?_; rintro e w7 ⟨rfl, v7, hw, hs⟩; have HS7 := Lib.hid hs; have HA7 : Hid (Wt w7 b 0 v7 nmA) := Lib.hid hw; clear hw hs HA)
    | (go_at_call 28; have _t := HA7; clear _t; refine (wset_ok b 0 5 v7 nmA eb _ HA7.out nmC_len.1 (by omega) (by omega) eb_ne (by omega) (by omega)).mono ?_; rintro e w8 ⟨rfl, v8, hw, hs⟩; have HS8 := Lib.hid (HS7.out.trans hs); have HA8 : Hid (Wt w8 b 0 v8 nmB) := Lib.hid hw; clear hw hs HA7 HS7)
    | (go_at_call 28; have _t := HA8; clear _t; refine (wset_ok b 0 3 v8 nmB ea _ HA8.out nmC_len.2.1 (by omega) (by omega) ea_ne (by omega) (by omega)).mono ?_; rintro e w9 ⟨rfl, v9, hw, hs⟩; have HS9 := Lib.hid (HS8.out.trans hs); have HA9 : Hid (Wt w9 b 0 v9 nmC) := Lib.hid hw; clear hw hs HA8 HS8)
    | (go_at_call 29; have _t := HA9; clear _t; refine (wtick_ok b 0 2 2 (by omega) v9 nmC _ HA9.out nmC_len.2.2.1 (by omega) (by omega) (by omega) (by omega)).mono ?_; rintro e wa ⟨oa, va, rfl, ho, hw, hs⟩; rw [tick2.1] at ho; obtain ⟨pa, ka, rfl, -, -⟩ := own_slice ho; have HSa := Lib.hid (HS9.out.trans hs); have HAa : Hid (Wt wa b 2 va nmD) := Lib.hid hw; simp only [List.length_nil]; clear ho hw hs HA9 HS9)
    | (go_at_call 29; have _t := HAa; clear _t; refine (wtick_ok b 2 3 5 (by omega) va nmD _ HAa.out nmC_len.2.2.2 (by omega) (by omega) (by omega) (by omega)).mono ?_; rintro e wb ⟨ob, vb, rfl, ho, hw, hs⟩; rw [tick5.1] at ho; rw [tick5.2] at hw; have HTX : Hid (Texts wb ob [ea, eb]) := Lib.hid (row_of_owns ho (by intro u hu; obtain ⟨y, -, rfl⟩ := List.mem_map.1 hu; rfl)); have HSb := Lib.hid (HSa.out.trans hs); have HAb := Lib.hid hw; clear ho hw hs HAa HSa)
    | (go_at_call 32; refine (wleft_made b 5 vb [] ea _ HAb.out (by omega) (by omega) (by simp)).mono ?_; rintro e wc ⟨rfl, hb⟩; have HAc := Lib.hid ((HAb.out.kept hb).kept (below_alloc wc (.cells #[.string ea, .string eb] 9))); have HTc := Lib.hid ((HTX.out.below hb).below (below_alloc wc (.cells #[.string ea, .string eb] 9))); have HBc := Lib.hid (below_and hb (below_alloc wc (.cells #[.string ea, .string eb] 9))); rw [show leftL [] 5 ea.data.toList = (0, false) from rfl]; clear hb HAb HTX)
    | (go_at_call 33; refine (sametexts_any _ _ [ea, eb] [ea, eb] _ HTc.out (lit_texts _ [ea, eb] (by simp [maxLen]))).mono ?_; rw [show sameT [ea, eb] [ea, eb] = true from by decide]; rintro e wd ⟨rfl, hb⟩; have HAd := Lib.hid (HAc.out.kept hb); have HBd := Lib.hid (below_and HBc.out hb); clear hb HAc)
    | (go_at_call 34; refine (wnow_made b _ _ _ _ HAd.out).mono ?_; rintro e we ⟨rfl, rfl⟩)
    | (go_at_call 35; refine (wdrop_no b _ _ _ _ _ HAd.out rfl).mono ?_; rintro e wf ⟨rfl, hb⟩; have HAf := Lib.hid (HAd.out.kept hb); have HBf := Lib.hid (below_and HBd.out hb); clear hb HAd)
    | (go_at_call 28; refine (wset_bad b _ _ _ _ _ _ HAf.out (.inl (by omega))).mono ?_; rintro e wg ⟨rfl, rfl⟩))
  go_ret
  refine ⟨rfl, ?_⟩
  have h1 : Below w.heap.size w w6 := below_and HB4.out HB6.out
  exact (h1.trans (HSb.out.fr.below (fun k hk => by
    rcases mem_fpW.1 hk with rfl | hk
    · exact HY.out
    · rw [HV.out] at hk; cases hk) h1.size)).trans (HBf.out.mono (by have := h1.size; have := HSb.out.fr.size; omega))
end Go.Proofs.Ytmgcigohfccgeaa
