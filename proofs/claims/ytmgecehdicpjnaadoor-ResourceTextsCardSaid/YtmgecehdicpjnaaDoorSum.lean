/- resource.Sum -/
import Derived.Test.YtmgecehdicpjnaaDoorAdd
namespace Go.Proofs.YtmgecehdicpjnaaDoor
open Go.RowKit

/-- one behind the other is added -/
def sumF (a : Am) : List Am → Am × Int
  | [] => (a, 0)
  | x :: xs => if (addR a x).2 = 0 then sumF (addR a x).1 xs else (.zero, (addR a x).2)
def sumR (xs : List Am) : Am × Int := if allB xs = false then (.zero, 2) else sumF .zero xs

set_option maxRecDepth 100000 in
set_option maxHeartbeats 2000000 in
theorem sum_any (v : Value) (xs : List Am) (w : World) (h : Ams w v xs) :
    Calls Tryd.prog 16 #[v] w fun e w' => e = .returned (.tuple #[amV (sumR xs).1, .int .i64 (sumR xs).2]) ∧ Below w.heap.size w w' := by
  obtain ⟨p, c, rfl, hc, hm⟩ := h.shape
  have hml : maxLen ≤ 9223372036854775807 := by decide
  obtain ⟨w3, hw3⟩ : ∃ w3, w3 = w.alloc (.cells #[.int .i64 0, .int .i64 0, .int .i64 0, .int .i64 0] 23) := ⟨_, rfl⟩
  obtain ⟨B, hB⟩ : ∃ B, B = w.heap.size := ⟨_, rfl⟩
  have B2 : Hid (Blk w3 B (amC .zero) 23) := Lib.hid (by rw [hw3, hB]; exact Blk.made w (amC .zero) _)
  have HBL : Hid (Below w.heap.size w w3) := Lib.hid (by rw [hw3]; exact below_alloc w _)
  have HBW0 : Hid (w.heap.size ≤ B) := Lib.hid (by omega)
  have H3 : Hid (Ams w3 (.slice p xs.length c) xs) := Lib.hid (h.below HBL.out)
  clear h
  cases hq : allB xs
  · have HQ := Lib.hid hq
    have HR : Hid (sumR xs = (.zero, 2)) := Lib.hid (by unfold sumR; rw [if_pos hq])
    clear hq
    go_enter Tryd.func16, Tryd.ntmps16
    go_upto_region 1 with fail
    rw [← hw3, ← hB]
    clear hw3 hB
    go_wp2_with (go_at_call 32; refine (all_any _ xs _ H3.out).mono ?_; rw [HQ.out]; rintro e ws ⟨rfl, hb⟩; have hbr := B2.out.kept hb; have C2 := Lib.hid hbr; have HBS := Lib.hid (below_and HBL.out hb); have r0 := hbr.cell (j := 0) rfl; have r1 := hbr.cell (j := 1) rfl; have r2 := hbr.cell (j := 2) rfl; have r3 := hbr.cell (j := 3) rfl; have f0 := hbr.free 0; have f1 := hbr.free 1; have f2 := hbr.free 2; have f3 := hbr.free 3; clear hb hbr)
    refine bodyPost_ret (results_row_tmp rfl _ _ B 23 #[.int .i64 0, .int .i64 0, .int .i64 0, .int .i64 0] (0, 0) _ rfl ?_ Tryd.underlying23 rfl (by kernel_rfl)) rfl ⟨?_, ?_⟩
    · exact (((C2.out.set 0 (.int .i64 0)).set 1 (.int .i64 0)).set 2 (.int .i64 0)).set 3 (.int .i64 0)
    · rw [HR.out]; rfl
    · have hBw : w.heap.size ≤ B := HBW0.out
      exact (((HBS.out.setCell (p := ⟨B, 0, none⟩) hBw _).setCell (p := ⟨B, 1, none⟩) hBw _).setCell (p := ⟨B, 2, none⟩) hBw _).setCell (p := ⟨B, 3, none⟩) hBw _
  · have HQ := Lib.hid hq
    have HR : Hid (sumR xs = sumF .zero xs) := Lib.hid (by unfold sumR; rw [if_neg (by rw [hq]; decide)])
    clear hq
    go_enter Tryd.func16, Tryd.ntmps16
    go_upto_region 1 with fail
    rw [← hw3, ← hB]
    clear hw3 hB
    go_upto_region 4 with (go_at_call 32; refine (all_any _ xs _ H3.out).mono ?_; rw [HQ.out]; rintro e ws ⟨rfl, hb⟩; have C2 := Lib.hid (B2.out.kept hb); have HS := Lib.hid (H3.out.below hb); have HBS := Lib.hid (below_and HBL.out hb); clear hb)
    obtain ⟨wb, hwb⟩ : ∃ wb, wb = ws.alloc (.cells #[.int .i64 0, .int .i64 0, .int .i64 0, .int .i64 0] 23) := ⟨_, rfl⟩
    obtain ⟨g, hg⟩ : ∃ g, g = ws.heap.size := ⟨_, rfl⟩
    have HG : Hid (Blk wb g (amC .zero) 23) := Lib.hid (by rw [hwb, hg]; exact Blk.made ws (amC .zero) _)
    have HBB : Hid (Below ws.heap.size ws wb) := Lib.hid (by rw [hwb]; exact below_alloc _ _)
    have HGS : Hid (ws.heap.size ≤ g) := Lib.hid (by omega)
    rw [← hwb, ← hg]
    clear hwb hg
    go_wp2
    go_loopw [15] (fun i wc => ∃ (k : Nat) (a : Am), k ≤ xs.length ∧ i = .int .i64 (k : Int) ∧ Hid (Blk wc g (amC a) 23) ∧ Hid (Below ws.heap.size ws wc) ∧ Hid (sumF .zero xs = sumF a (xs.drop k))) (fun i _ => xs.length - (intOf i).toNat)
    case atStart => exact ⟨0, .zero, Nat.zero_le _, rfl, HG, HBB, Lib.hid (by simp)⟩
    case round =>
      obtain ⟨k, a, hk, rfl, HA, HBx, HF⟩ := hrel
      by_cases hlt : k < xs.length
      · obtain ⟨b, o, rfl, e0, e1, e2, e3⟩ := (HS.out.below HBx.out).amAt hlt
        obtain ⟨x, hx⟩ : ∃ x, x = xs[k] := ⟨_, rfl⟩
        rw [← hx] at e0 e1 e2 e3
        have HF2 : Hid (sumF .zero xs = sumF a (x :: xs.drop (k + 1))) := Lib.hid (by rw [HF.out, List.drop_eq_getElem_cons hlt, hx])
        have hga := HA.out.alloc (.cells #[.int .i64 x.c, .int .i64 x.r, .int .i64 x.d, .int .i64 x.p] 23)
        have a0 := hga.cell (j := 0) rfl
        have a1 := hga.cell (j := 1) rfl
        have a2 := hga.cell (j := 2) rfl
        have a3 := hga.cell (j := 3) rfl
        have HGA := Lib.hid hga
        have HBA : Hid (Below ws.heap.size ws (wr.alloc (.cells #[.int .i64 x.c, .int .i64 x.r, .int .i64 x.d, .int .i64 x.p] 23))) := Lib.hid (below_and HBx.out (below_alloc _ _))
        obtain ⟨z, er, hz⟩ : ∃ z er, addR a x = (z, er) := ⟨_, _, rfl⟩
        clear hx hga
        by_cases her : er = 0
        · subst her
          have HZ := Lib.hid hz
          have HF3 : Hid (sumF .zero xs = sumF z (xs.drop (k + 1))) := Lib.hid (by rw [HF2.out]; show (if (addR a x).2 = 0 then _ else _) = _; rw [hz]; rfl)
          clear hz
          go_wp2_with (go_at_call 17; refine (add_any a x _).mono ?_; rw [HZ.out]; rintro e w6 ⟨rfl, hb⟩; have hg6 := (HGA.out.kept hb).alloc (.cells #[.int .i64 z.c, .int .i64 z.r, .int .i64 z.d, .int .i64 z.p] 23); have r0 := hg6.cell (j := 0) rfl; have r1 := hg6.cell (j := 1) rfl; have r2 := hg6.cell (j := 2) rfl; have r3 := hg6.cell (j := 3) rfl; have f0 := hg6.free 0; have f1 := hg6.free 1; have f2 := hg6.free 2; have f3 := hg6.free 3; have HG6 := Lib.hid hg6; have HB6 : Hid (Below ws.heap.size ws (w6.alloc (.cells #[.int .i64 z.c, .int .i64 z.r, .int .i64 z.d, .int .i64 z.p] 23))) := Lib.hid (below_and (below_and HBA.out hb) (below_alloc _ _)); clear hb hg6)
          go_roundw
          case rel => exact ⟨k + 1, z, hlt, by go_num, Lib.hid ((((HG6.out.set 0 (.int .i64 z.c)).set 1 (.int .i64 z.r)).set 2 (.int .i64 z.d)).set 3 (.int .i64 z.p)), Lib.hid ((((HB6.out.setCell (p := ⟨g, 0, none⟩) HGS.out _).setCell (p := ⟨g, 1, none⟩) HGS.out _).setCell (p := ⟨g, 2, none⟩) HGS.out _).setCell (p := ⟨g, 3, none⟩) HGS.out _), HF3⟩
          case measure => simp [intOf]; omega
        · have HZ := Lib.hid hz
          have t1 : (er == 0) = false := by simpa using her
          have HF3 : Hid (sumF .zero xs = (.zero, er)) := Lib.hid (by rw [HF2.out]; show (if (addR a x).2 = 0 then _ else _) = _; rw [hz]; exact if_neg her)
          clear hz her
          go_wp2_with (go_at_call 17; refine (add_any a x _).mono ?_; rw [HZ.out]; rintro e w6 ⟨rfl, hb⟩; have hg6 := ((C2.out.kept (below_and HBA.out hb)).alloc (.cells #[.int .i64 z.c, .int .i64 z.r, .int .i64 z.d, .int .i64 z.p] 23)); have r0 := hg6.cell (j := 0) rfl; have r1 := hg6.cell (j := 1) rfl; have r2 := hg6.cell (j := 2) rfl; have r3 := hg6.cell (j := 3) rfl; have f0 := hg6.free 0; have f1 := hg6.free 1; have f2 := hg6.free 2; have f3 := hg6.free 3; have HG6 := Lib.hid hg6; have HB6 : Hid (Below w.heap.size w (w6.alloc (.cells #[.int .i64 z.c, .int .i64 z.r, .int .i64 z.d, .int .i64 z.p] 23))) := Lib.hid (below_and HBS.out (below_and (below_and HBA.out hb) (below_alloc _ _))); clear hb hg6)
          refine bodyPost_ret (results_row_tmp rfl _ _ B 23 #[.int .i64 0, .int .i64 0, .int .i64 0, .int .i64 0] (0, 0) _ rfl ?_ Tryd.underlying23 rfl (by kernel_rfl)) rfl ⟨?_, ?_⟩
          · exact (((HG6.out.set 0 (.int .i64 0)).set 1 (.int .i64 0)).set 2 (.int .i64 0)).set 3 (.int .i64 0)
          · rw [HR.out, HF3.out]; rfl
          · have hBw : w.heap.size ≤ B := HBW0.out
            exact (((HB6.out.setCell (p := ⟨B, 0, none⟩) hBw _).setCell (p := ⟨B, 1, none⟩) hBw _).setCell (p := ⟨B, 2, none⟩) hBw _).setCell (p := ⟨B, 3, none⟩) hBw _
      · obtain rfl : k = xs.length := by omega
        have HF3 : Hid (sumF .zero xs = (a, 0)) := Lib.hid (by rw [HF.out, List.drop_length]; rfl)
        have a0 := HA.out.cell (j := 0) rfl
        have a1 := HA.out.cell (j := 1) rfl
        have a2 := HA.out.cell (j := 2) rfl
        have a3 := HA.out.cell (j := 3) rfl
        have hbr := C2.out.kept HBx.out
        have r0 := hbr.cell (j := 0) rfl
        have r1 := hbr.cell (j := 1) rfl
        have r2 := hbr.cell (j := 2) rfl
        have r3 := hbr.cell (j := 3) rfl
        have f0 := hbr.free 0
        have f1 := hbr.free 1
        have f2 := hbr.free 2
        have f3 := hbr.free 3
        have HB5 := Lib.hid (below_and HBS.out HBx.out)
        have BR5 := Lib.hid hbr
        clear hbr
        go_wp2
        refine bodyPost_ret (results_row_tmp rfl _ _ B 23 #[.int .i64 a.c, .int .i64 a.r, .int .i64 a.d, .int .i64 a.p] (0, 0) _ rfl ?_ Tryd.underlying23 rfl (by kernel_rfl)) rfl ⟨?_, ?_⟩
        · exact (((BR5.out.set 0 (.int .i64 a.c)).set 1 (.int .i64 a.r)).set 2 (.int .i64 a.d)).set 3 (.int .i64 a.p)
        · rw [HR.out, HF3.out]; rfl
        · have hBw : w.heap.size ≤ B := HBW0.out
          exact (((HB5.out.setCell (p := ⟨B, 0, none⟩) hBw _).setCell (p := ⟨B, 1, none⟩) hBw _).setCell (p := ⟨B, 2, none⟩) hBw _).setCell (p := ⟨B, 3, none⟩) hBw _
end Go.Proofs.YtmgecehdicpjnaaDoor
