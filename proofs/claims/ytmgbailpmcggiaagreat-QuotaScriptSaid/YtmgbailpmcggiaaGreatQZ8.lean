/- Texts of one proof, laid together: RSum. No condition of ours. -/
import Derived.Test.YtmgbailpmcggiaaGreatQZ7
import Derived.Deep.DeepCutAuto
namespace Go.Proofs.YtmgbailpmcggiaaGreat
open Go.RowKit

def sumF (a : Am) : List Am → Am × Int
  | [] => (a, 0)
  | x :: xs => if (addR a x).2 = 0 then sumF (addR a x).1 xs else (.zero, (addR a x).2)
def sumR (xs : List Am) : Am × Int := if allB xs = false then (.zero, 2) else sumF .zero xs

def EightS (b0 o0 b1 o1 : Nat) (a x : Am) (w : World) : Prop := w.cell? ⟨b0, o0, none⟩ = some (.int .i64 a.c) ∧ w.cell? ⟨b0, o0 + 1, none⟩ = some (.int .i64 a.r) ∧ w.cell? ⟨b0, o0 + 2, none⟩ = some (.int .i64 a.d) ∧ w.cell? ⟨b0, o0 + 3, none⟩ = some (.int .i64 a.p) ∧ w.cell? ⟨b1, o1, none⟩ = some (.int .i64 x.c) ∧ w.cell? ⟨b1, o1 + 1, none⟩ = some (.int .i64 x.r) ∧ w.cell? ⟨b1, o1 + 2, none⟩ = some (.int .i64 x.d) ∧ w.cell? ⟨b1, o1 + 3, none⟩ = some (.int .i64 x.p)
theorem EightS.kept {b0 o0 b1 o1 : Nat} {a x : Am} {w w' : World} (h : EightS b0 o0 b1 o1 a x w) (hb : Below w.heap.size w w') : EightS b0 o0 b1 o1 a x w' :=
  ⟨cell_kept h.1 hb, cell_kept h.2.1 hb, cell_kept h.2.2.1 hb, cell_kept h.2.2.2.1 hb, cell_kept h.2.2.2.2.1 hb, cell_kept h.2.2.2.2.2.1 hb, cell_kept h.2.2.2.2.2.2.1 hb, cell_kept h.2.2.2.2.2.2.2 hb⟩

theorem bel_set4S {n : Nat} {a w : World} {k : Nat} {p q r s : Value} (h : Below n a w) (hk : n ≤ k) : Below n a ((((w.setCell ⟨k, 0, none⟩ p).setCell ⟨k, 1, none⟩ q).setCell ⟨k, 2, none⟩ r).setCell ⟨k, 3, none⟩ s) :=
  (((h.setCell (p := ⟨k, 0, none⟩) hk _).setCell (p := ⟨k, 1, none⟩) hk _).setCell (p := ⟨k, 2, none⟩) hk _).setCell (p := ⟨k, 3, none⟩) hk _
theorem radd_val (a x z : Am) (er : Int) (w : World) (h : addR a x = (z, er)) :
    Calls Tryz.prog 73 #[amV a, amV x] w fun e w' => e = .returned (.tuple #[amV z, .int .i64 er]) ∧ Below w.heap.size w w' :=
  (radd_any a x w).mono fun e w' ⟨h1, h2⟩ => ⟨by rw [h1, h], h2⟩

set_option maxRecDepth 100000 in
set_option maxHeartbeats 2000000 in
theorem rsum_any (v : Value) (xs : List Am) (w : World) (h : Ams w v xs) :
    Calls Tryz.prog 58 #[v] w fun e w' => e = .returned (.tuple #[amV (sumR xs).1, .int .i64 (sumR xs).2]) ∧ Below w.heap.size w w' := by
  obtain ⟨p, c, rfl, hc, hm⟩ := h.shape
  have hml : maxLen ≤ 9223372036854775807 := by decide
  obtain ⟨w3, hw3⟩ : ∃ w3, w3 = w.alloc (.cells #[.int .i64 0, .int .i64 0, .int .i64 0, .int .i64 0] 34) := ⟨_, rfl⟩
  obtain ⟨B, hB⟩ : ∃ B, B = w.heap.size := ⟨_, rfl⟩
  have B2 : Hid (Blk w3 B (amC .zero) 34) := Lib.hid (by rw [hw3, hB]; exact Blk.made w (amC .zero) _)
  have HBL : Hid (Below w.heap.size w w3) := Lib.hid (by rw [hw3]; exact below_alloc w _)
  have HBW0 : Hid (w.heap.size ≤ B) := Lib.hid (by omega)
  have H3 : Hid (Ams w3 (.slice p xs.length c) xs) := Lib.hid (h.below HBL.out)
  clear h
  cases hq : allB xs
  · have HQ := Lib.hid hq
    have HR : Hid (sumR xs = (.zero, 2)) := Lib.hid (by unfold sumR; rw [if_pos hq])
    clear hq
    go_enter Tryz.func58, Tryz.ntmps58
    go_upto_region 1 with fail
    rw [← hw3, ← hB]
    clear hw3 hB
    go_wp2_with (go_at_call 62; refine (wrong_any _ xs _ H3.out).mono ?_; rw [HQ.out]; rintro e ws ⟨rfl, hb⟩; have hbr := B2.out.kept hb; have C2 := Lib.hid hbr; have HBS := Lib.hid (below_and HBL.out hb); have r0 := hbr.cell (j := 0) rfl; have r1 := hbr.cell (j := 1) rfl; have r2 := hbr.cell (j := 2) rfl; have r3 := hbr.cell (j := 3) rfl; have f0 := hbr.free 0; have f1 := hbr.free 1; have f2 := hbr.free 2; have f3 := hbr.free 3; clear hb hbr)
    refine bodyPost_ret (results_row_tmp rfl _ _ B 34 #[.int .i64 0, .int .i64 0, .int .i64 0, .int .i64 0] (0, 0) _ rfl ?_ Tryz.underlying34 rfl (by kernel_rfl)) rfl ⟨?_, ?_⟩
    · exact (((C2.out.set 0 (.int .i64 0)).set 1 (.int .i64 0)).set 2 (.int .i64 0)).set 3 (.int .i64 0)
    · rw [HR.out]; rfl
    · have hBw : w.heap.size ≤ B := HBW0.out
      exact (((HBS.out.setCell (p := ⟨B, 0, none⟩) hBw _).setCell (p := ⟨B, 1, none⟩) hBw _).setCell (p := ⟨B, 2, none⟩) hBw _).setCell (p := ⟨B, 3, none⟩) hBw _
  · have HQ := Lib.hid hq
    have HR : Hid (sumR xs = sumF .zero xs) := Lib.hid (by unfold sumR; rw [if_neg (by rw [hq]; decide)])
    clear hq
    go_enter Tryz.func58, Tryz.ntmps58
    go_upto_region 1 with fail
    rw [← hw3, ← hB]
    clear hw3 hB
    go_upto_region 4 with (go_at_call 62; refine (wrong_any _ xs _ H3.out).mono ?_; rw [HQ.out]; rintro e ws ⟨rfl, hb⟩; have C2 := Lib.hid (B2.out.kept hb); have HS := Lib.hid (H3.out.below hb); have HBS := Lib.hid (below_and HBL.out hb); clear hb)
    obtain ⟨wb, hwb⟩ : ∃ wb, wb = ws.alloc (.cells #[.int .i64 0, .int .i64 0, .int .i64 0, .int .i64 0] 34) := ⟨_, rfl⟩
    obtain ⟨g, hg⟩ : ∃ g, g = ws.heap.size := ⟨_, rfl⟩
    have HG : Hid (Blk wb g (amC .zero) 34) := Lib.hid (by rw [hwb, hg]; exact Blk.made ws (amC .zero) _)
    have HBB : Hid (Below ws.heap.size ws wb) := Lib.hid (by rw [hwb]; exact below_alloc _ _)
    have HGS : Hid (ws.heap.size ≤ g) := Lib.hid (by omega)
    rw [← hwb, ← hg]
    clear hwb hg
    go_wp2
    go_loopw [5] (fun i wc => ∃ (k : Nat) (a : Am), k ≤ xs.length ∧ i = .int .i64 (k : Int) ∧ Hid (Blk wc g (amC a) 34) ∧ Hid (Below ws.heap.size ws wc) ∧ Hid (sumF .zero xs = sumF a (xs.drop k))) (fun i _ => xs.length - (intOf i).toNat)
    case atStart => exact ⟨0, .zero, Nat.zero_le _, rfl, HG, HBB, Lib.hid (by simp)⟩
    case round =>
      obtain ⟨k, a, hk, rfl, HA, HBx, HF⟩ := hrel
      by_cases hlt : k < xs.length
      · obtain ⟨b, o, rfl, e0, e1, e2, e3⟩ := (HS.out.below HBx.out).amAt hlt
        obtain ⟨x, hx⟩ : ∃ x, x = xs[k] := ⟨_, rfl⟩
        rw [← hx] at e0 e1 e2 e3
        have HE : Hid (EightS g 0 b (o + k * 4) a x wr) := Lib.hid ⟨HA.out.cell (j := 0) rfl, HA.out.cell (j := 1) rfl, HA.out.cell (j := 2) rfl, HA.out.cell (j := 3) rfl, e0, e1, e2, e3⟩
        have HF2 : Hid (sumF .zero xs = sumF a (x :: xs.drop (k + 1))) := Lib.hid (by rw [HF.out, List.drop_eq_getElem_cons hlt, hx])
        obtain ⟨z, er, hz⟩ : ∃ z er, addR a x = (z, er) := ⟨_, _, rfl⟩
        have HZ := Lib.hid hz
        clear hx e0 e1 e2 e3
        go_wp2
        go_cut [6, 7] (fun s6 s7 wx => ∃ q, s6 = ptr q ∧ s7 = .int .i64 er ∧ wr.heap.size ≤ q ∧ Blk wx q (amC z) 34 ∧ Below wr.heap.size wr wx)
        case first =>
          clear hz
          go_region_held3 (fun w' => w'.cell? ⟨g, 0, none⟩ = some (.int .i64 a.c) ∧ w'.cell? ⟨g, 1, none⟩ = some (.int .i64 a.r) ∧ w'.cell? ⟨g, 2, none⟩ = some (.int .i64 a.d) ∧ w'.cell? ⟨g, 3, none⟩ = some (.int .i64 a.p) ∧ w'.cell? ⟨b, o + k * 4, none⟩ = some (.int .i64 x.c) ∧ w'.cell? ⟨b, o + k * 4 + 1, none⟩ = some (.int .i64 x.r) ∧ w'.cell? ⟨b, o + k * 4 + 2, none⟩ = some (.int .i64 x.d) ∧ w'.cell? ⟨b, o + k * 4 + 3, none⟩ = some (.int .i64 x.p))
            (refine HE.out.kept ?_ <;> (repeat (first | exact Below.refl _ _ | exact HB6.out | apply bl_drew | (refine below_and ?_ (below_alloc _ _)) | (refine bel_set4S ?_ (Nat.le_refl _)))))
            (first | (go_at_call 73; refine (radd_val a x z er _ HZ.out).mono ?_; rintro e w6 ⟨rfl, hb⟩; have HB6 : Hid (Below wr.heap.size wr w6) := Lib.hid (by refine below_and ?_ hb; (repeat (first | exact Below.refl _ _ | apply bl_drew | (refine below_and ?_ (below_alloc _ _))))); (first | (have hq : Blk w6 wr.heap.size (amC .zero) 34 := (Blk.made wr.drew (amC .zero) 34).kept hb; have HQ6 := Lib.hid hq; have q0 := hq.cell (j := 0) rfl; have q1 := hq.cell (j := 1) rfl; have q2 := hq.cell (j := 2) rfl; have q3 := hq.cell (j := 3) rfl; have p0 := hq.free 0; have p1 := hq.free 1; have p2 := hq.free 2; have p3 := hq.free 3; clear hq) | skip); clear hb))
          all_goals go_wp2_with fail
          all_goals go_meet
          all_goals first
            | (refine ⟨_, rfl, rfl, Nat.le_refl _, ?_, ?_⟩
               · exact (((HQ6.out.set 0 (.int .i64 z.c)).set 1 (.int .i64 z.r)).set 2 (.int .i64 z.d)).set 3 (.int .i64 z.p)
               · exact (((HB6.out.setCell (p := ⟨wr.heap.size, 0, none⟩) (Nat.le_refl _) _).setCell (p := ⟨wr.heap.size, 1, none⟩) (Nat.le_refl _) _).setCell (p := ⟨wr.heap.size, 2, none⟩) (Nat.le_refl _) _).setCell (p := ⟨wr.heap.size, 3, none⟩) (Nat.le_refl _) _)
            | (refine ⟨_, rfl, rfl, HB6.out.size, ?_, ?_⟩
               · exact Blk.made w6 (amC z) _
               · exact below_and HB6.out (below_alloc _ _))
            | trace_state
        case rest =>
        obtain ⟨q, rfl, rfl, hq, hbq, hb⟩ := hcut
        have HQB := Lib.hid hbq
        have HQ0 := Lib.hid hq
        have HBQ := Lib.hid hb
        have z0 := hbq.cell (j := 0) rfl
        have z1 := hbq.cell (j := 1) rfl
        have z2 := hbq.cell (j := 2) rfl
        have z3 := hbq.cell (j := 3) rfl
        by_cases her : er = 0
        · subst her
          have HF3 : Hid (sumF .zero xs = sumF z (xs.drop (k + 1))) := Lib.hid (by rw [HF2.out]; show (if (addR a x).2 = 0 then _ else _) = _; rw [hz]; rfl)
          have hg6 := HA.out.kept hb
          have HG6 := Lib.hid hg6
          have r0 := hg6.cell (j := 0) rfl
          have r1 := hg6.cell (j := 1) rfl
          have r2 := hg6.cell (j := 2) rfl
          have r3 := hg6.cell (j := 3) rfl
          have f0 := hg6.free 0
          have f1 := hg6.free 1
          have f2 := hg6.free 2
          have f3 := hg6.free 3
          have HB6 := Lib.hid (below_and HBx.out hb)
          clear hz hg6 hb hbq hq
          go_wp2
          go_roundw
          case rel => exact ⟨k + 1, z, hlt, by go_num, Lib.hid ((((HG6.out.set 0 (.int .i64 z.c)).set 1 (.int .i64 z.r)).set 2 (.int .i64 z.d)).set 3 (.int .i64 z.p)), Lib.hid ((((HB6.out.setCell (p := ⟨g, 0, none⟩) HGS.out _).setCell (p := ⟨g, 1, none⟩) HGS.out _).setCell (p := ⟨g, 2, none⟩) HGS.out _).setCell (p := ⟨g, 3, none⟩) HGS.out _), HF3⟩
          case measure => simp [intOf]; omega
        · have t1 : (er == 0) = false := by simpa using her
          have HF3 : Hid (sumF .zero xs = (.zero, er)) := Lib.hid (by rw [HF2.out]; show (if (addR a x).2 = 0 then _ else _) = _; rw [hz]; exact if_neg her)
          have hg6 := C2.out.kept (below_and HBx.out hb)
          have HG6 := Lib.hid hg6
          have r0 := hg6.cell (j := 0) rfl
          have r1 := hg6.cell (j := 1) rfl
          have r2 := hg6.cell (j := 2) rfl
          have r3 := hg6.cell (j := 3) rfl
          have f0 := hg6.free 0
          have f1 := hg6.free 1
          have f2 := hg6.free 2
          have f3 := hg6.free 3
          have HB6 := Lib.hid (below_and HBS.out (below_and HBx.out hb))
          clear hz her hg6 hb hbq hq
          go_wp2
          refine bodyPost_ret (results_row_tmp rfl _ _ B 34 #[.int .i64 0, .int .i64 0, .int .i64 0, .int .i64 0] (0, 0) _ rfl ?_ Tryz.underlying34 rfl (by kernel_rfl)) rfl ⟨?_, ?_⟩
          · exact (((HG6.out.set 0 (.int .i64 0)).set 1 (.int .i64 0)).set 2 (.int .i64 0)).set 3 (.int .i64 0)
          · rw [HR.out, HF3.out]; rfl
          · have hBw : w.heap.size ≤ B := HBW0.out
            exact (((HB6.out.setCell (p := ⟨B, 0, none⟩) hBw _).setCell (p := ⟨B, 1, none⟩) hBw _).setCell (p := ⟨B, 2, none⟩) hBw _).setCell (p := ⟨B, 3, none⟩) hBw _
      · obtain rfl : k = xs.length := by omega
        have HF3 : Hid (sumF .zero xs = (a, 0)) := Lib.hid (by rw [HF.out, List.drop_length]; rfl)
        have a0 := HA.out.cell (j := 0) rfl
        have a1 := HA.out.cell (j := 1) rfl
        have a2 := HA.out.cell (j := 2) rfl
        have a3 := HA.out.cell (j := 3) rfl
        have hbr := C2.out.kept HBx.out
        have r0 := hbr.cell (j := 0) rfl
        have r1 := hbr.cell (j := 1) rfl
        have r2 := hbr.cell (j := 2) rfl
        have r3 := hbr.cell (j := 3) rfl
        have f0 := hbr.free 0
        have f1 := hbr.free 1
        have f2 := hbr.free 2
        have f3 := hbr.free 3
        have HB5 := Lib.hid (below_and HBS.out HBx.out)
        have BR5 := Lib.hid hbr
        clear hbr
        go_wp2
        refine bodyPost_ret (results_row_tmp rfl _ _ B 34 #[.int .i64 a.c, .int .i64 a.r, .int .i64 a.d, .int .i64 a.p] (0, 0) _ rfl ?_ Tryz.underlying34 rfl (by kernel_rfl)) rfl ⟨?_, ?_⟩
        · exact (((BR5.out.set 0 (.int .i64 a.c)).set 1 (.int .i64 a.r)).set 2 (.int .i64 a.d)).set 3 (.int .i64 a.p)
        · rw [HR.out, HF3.out]; rfl
        · have hBw : w.heap.size ≤ B := HBW0.out
          exact (((HB5.out.setCell (p := ⟨B, 0, none⟩) hBw _).setCell (p := ⟨B, 1, none⟩) hBw _).setCell (p := ⟨B, 2, none⟩) hBw _).setCell (p := ⟨B, 3, none⟩) hBw _
end Go.Proofs.YtmgbailpmcggiaaGreat
