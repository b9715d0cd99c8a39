/- NtRPut. -/
import Derived.Test.YtndjgbknhfficaaNtRef
import Derived.Test.YtndjgbknhfficaaWNetOnce
import Derived.Deep.RegionLaw
namespace Go.Proofs.Ytndjgbknhfficaa.Nt
open Go.RowKit Go.Proofs.Ytndjgbknhfficaa Go.Proofs.Ytndjgbknhfficaa.So

set_option maxRecDepth 100000 in
set_option maxHeartbeats 3000000 in
theorem rput_any {w : World} {g : Nat} {v : Value} {last : Int} {L : List En} (n0 f0 fi sd rc : Int) (pb : Option Addr) (lb cb : Nat) (h : RNet w g v last L) (hl : 0 ≤ last ∧ last ≤ 4000) (hL : L.length ≤ 4000) (hf : fi = if f0 = 0 then last + 1 else f0) :
    Calls Try.prog 39 #[ptr g, .agg #[.int .u64 n0, .int .u64 f0, .int .i64 sd, .int .i64 rc, .slice pb lb cb]] w fun e w' => e = .returned (.int .u64 (last + 1)) ∧ ∃ v', Blk w' g [v', .int .u64 (last + 1)] 50 ∧ w'.ownsRow 0 32 5 v' (L.length + 1) (rwC enC L ++ [.int .u64 (last + 1), .int .u64 fi, .int .i64 sd, .int .i64 rc, .slice pb lb cb]) ∧ Frp (fun k => k = g ∨ v.ownBlock = some k) w w' ∧ ∀ q, v'.ownBlock = some q → v.ownBlock = some q ∨ w.heap.size ≤ q := by
  obtain ⟨i0, hi0, hz0, hz1, hz2⟩ := info_parts info_let
  have H := Lib.hid h
  obtain ⟨p, c, rfl, hc, hm⟩ := own_slice h.row
  obtain ⟨m, hmm⟩ : ∃ m, m = L.length := ⟨_, rfl⟩
  have HM := Lib.hid hmm
  rw [← hmm] at hc hL H ⊢
  have HF := Lib.hid hf
  clear h hmm hf
  have c0 := H.out.blk.cell (j := 0) rfl
  have c1 := H.out.blk.cell (j := 1) rfl
  have hb1 := H.out.blk.free 1
  go_enter Try.func39, Try.ntmps39
  go_upto_region 1 with fail
  obtain ⟨X, hX⟩ : ∃ X, X = w.heap.size := ⟨_, rfl⟩
  obtain ⟨w1, hw1⟩ : ∃ w1, w1 = w.alloc (.cells #[.int .u64 n0, .int .u64 f0, .int .i64 sd, .int .i64 rc, .slice pb lb cb] 32) := ⟨_, rfl⟩
  have HX1 : Hid (Blk w1 X [.int .u64 n0, .int .u64 f0, .int .i64 sd, .int .i64 rc, .slice pb lb cb] 32) := Lib.hid (by rw [hw1, hX]; exact Blk.made w [.int .u64 n0, .int .u64 f0, .int .i64 sd, .int .i64 rc, .slice pb lb cb] _)
  have HG1 : Hid (RNet w1 g (.slice p m c) last L) := Lib.hid (by rw [hw1]; exact H.out.kept (below_alloc _ _))
  have HB1 : Hid (Below w.heap.size w w1 ∧ X = w.heap.size) := Lib.hid ⟨by rw [hw1]; exact below_alloc _ _, hX⟩
  rw [← hw1, ← hX]
  clear hw1 hX c0 c1 hb1
  have c0 := HG1.out.blk.cell (j := 0) rfl
  have c1 := HG1.out.blk.cell (j := 1) rfl
  have e1 := HG1.out.blk.free 1
  have e0 := HG1.out.blk.free 0
  have x0 := HX1.out.cell (j := 0) rfl
  have x1 := HX1.out.cell (j := 1) rfl
  have x2 := HX1.out.cell (j := 2) rfl
  have x3 := HX1.out.cell (j := 3) rfl
  have x4 := HX1.out.cell (j := 4) rfl
  have fx0 := HX1.out.free 0
  have fx1 := HX1.out.free 1
  have hne : g ≠ X := by have := H.out.blk.lt; have := HB1.out.2; omega
  have hl0 := hl.1
  have hl1 := hl.2
  by_cases hz : f0 = 0
  · have tz : (f0 == 0) = true := by simp [hz]
    obtain rfl : fi = last + 1 := by rw [HF.out, if_pos hz]
    go_upto_region 5 with fail
    have HX1Z := (HX1.out.frp ((Frp.refl (fun k => k = g) w1).set (p := ⟨g, 1, none⟩) rfl (.int .u64 (last + 1))) (fun e => hne e.symm)).set 0 (.int .u64 (last + 1))
    refine at_hide' (F := fun w' => Blk w' g [.slice p m c, .int .u64 (last + 1)] 50 ∧ Blk w' X [.int .u64 (last + 1), .int .u64 (last + 1), .int .i64 sd, .int .i64 rc, .slice pb lb cb] 32 ∧ Frp (fun k => k = g ∨ k = X) w1 w') ⟨Blk.frp (HG1.out.blk.set 1 (.int .u64 (last + 1))) (((Frp.refl (fun k => k = X) _).set (p := ⟨X, 0, none⟩) rfl _).set (p := ⟨X, 1, none⟩) rfl _) (fun e => hne e), (HX1Z.set 1 _), (((Frp.refl (fun k => k = g ∨ k = X) w1).set (p := ⟨g, 1, none⟩) (.inl rfl) _).set (p := ⟨X, 0, none⟩) (.inr rfl) _).set (p := ⟨X, 1, none⟩) (.inr rfl) _⟩ ?_
    intro w5 hF
    clear HX1Z
    have HF5 := Lib.hid hF
    have HRW : Hid (w5.ownsRow 0 32 5 (.slice p m c) m (rwC enC L)) := Lib.hid (by have h9 := own_frp HG1.out.row hF.2.2 (fun q hq hh => by rcases hh with rfl | rfl; exact own_ty HG1.out.row HG1.out.blk (by decide) hq; have h8 := own_hi H.out.row hq; have h7 := HB1.out.2; omega); rw [← HM.out] at h9; exact h9)
    clear hF c0 c1 e0 e1 x0 x1 x2 x3 x4 fx0 fx1
    have c0 := HF5.out.1.cell (j := 0) rfl
    have x0 := HF5.out.2.1.cell (j := 0) rfl
    have x1 := HF5.out.2.1.cell (j := 1) rfl
    have x2 := HF5.out.2.1.cell (j := 2) rfl
    have x3 := HF5.out.2.1.cell (j := 3) rfl
    have x4 := HF5.out.2.1.cell (j := 4) rfl
    have bb1 := (HF5.out.1.alloc (.cells #[.int .u64 (last + 1), .int .u64 (last + 1), .int .i64 sd, .int .i64 rc, .slice pb lb cb] 32)).cell (j := 0) rfl
    have bb2 : ((w5.alloc (.cells #[.int .u64 (last + 1), .int .u64 (last + 1), .int .i64 sd, .int .i64 rc, .slice pb lb cb] 32)).drew).cell? ⟨g, 0, none⟩ = some (.slice p m c) := bb1
    have b1 : Hid (Blk ((w5.alloc (.cells #[.int .u64 (last + 1), .int .u64 (last + 1), .int .i64 sd, .int .i64 rc, .slice pb lb cb] 32)).drew) g [.slice p m c, .int .u64 (last + 1)] 50) := Lib.hid (HF5.out.1.alloc _)
    have o1 : Hid (World.ownsRow ((w5.alloc (.cells #[.int .u64 (last + 1), .int .u64 (last + 1), .int .i64 sd, .int .i64 rc, .slice pb lb cb] 32)).drew) 0 32 5 (.slice p m c) m (rwC enC L)) := Lib.hid (own_drew (own_keep HRW.out (below_alloc _ _)))
    have o2 : Hid (Src Try.prog 5 40 (.slice (some ⟨w5.heap.size, 0, none⟩) 1 1) 1 [.int .u64 (last + 1), .int .u64 (last + 1), .int .i64 sd, .int .i64 rc, .slice pb lb cb] ((w5.alloc (.cells #[.int .u64 (last + 1), .int .u64 (last + 1), .int .i64 sd, .int .i64 rc, .slice pb lb cb] 32)).drew)) := Lib.hid (src_block Try.underlying40 ((w5.alloc (.cells #[.int .u64 (last + 1), .int .u64 (last + 1), .int .i64 sd, .int .i64 rc, .slice pb lb cb] 32)).drew) _ #[.int .u64 (last + 1), .int .u64 (last + 1), .int .i64 sd, .int .i64 rc, .slice pb lb cb] (heap_alloc_new w5 _) rfl (by simp [Value.oneCell']))
    have HGO : Hid (some g ≠ (Value.slice p m c).ownBlock) := Lib.hid (fun e => own_ty HRW.out HF5.out.1 (by decide) e.symm)
    have h9 := HF5.out.1.free 0
    go_region_law (refine step_app rfl (.tmp 27) (.tmp 29) 40 40 rfl 0 32 i0 zeV 5 56 Try.underlying40 hi0 hz0 hz1 hz2 rfl (.slice p m c) m (rwC enC L) (by simp [Act.eval, Act.put]) o1.out (.slice (some ⟨w5.heap.size, 0, none⟩) 1 1) 1 [.int .u64 (last + 1), .int .u64 (last + 1), .int .i64 sd, .int .i64 rc, .slice pb lb cb] (by simp [Act.eval, Act.put]) o2.out (by unfold maxLen; omega) (by omega) (Nat.zero_le _) ?_; intro v2 w2 ho2 hg2 hn2 hk2; obtain ⟨p2, k2, rfl, -, -⟩ := own_slice ho2; have d1 := ((b1.out.grown hg2 HGO.out).cell (j := 0) rfl); have d2 := ((b1.out.grown hg2 HGO.out).free 0); have HO2 := Lib.hid ho2; have HG2 := Lib.hid hg2; have HD2 := Lib.hid (b1.out.grown hg2 HGO.out); have HK2 := Lib.hid hk2; clear ho2 hg2 hn2 hk2)
    all_goals have HX6 := ((HF5.out.2.1.alloc (.cells #[.int .u64 (last + 1), .int .u64 (last + 1), .int .i64 sd, .int .i64 rc, .slice pb lb cb] 32)).kept (below_drewN 1)).grown HG2.out (fun e => by have h8 := own_hi H.out.row e.symm; have h7 := HB1.out.2; omega)
    all_goals have z0 := (HX6.other (a := ⟨g, 0, none⟩) (fun e => hne e.symm) (.slice p2 (m + 1) k2)).cell (j := 0) rfl
    all_goals clear HX6
    all_goals go_wp2
    all_goals go_ret
    all_goals exact ⟨rfl, _, HD2.out.set 0 _, own_other HO2.out (own_ty HO2.out HD2.out (by decide)) _, ((((((Frp.of_below HB1.out.1 _).trans HF5.out.2.2 (fun q hq => hq.elim (fun h => .inl (.inl h)) (fun h => .inr (by rw [h, HB1.out.2]; exact Nat.le_refl _)))).next (below_alloc _ _)).next (below_drewN 1)).grown HG2.out (fun k hk => .inl (.inr hk))).set (p := ⟨g, 0, none⟩) (.inl rfl) _), fun q hq => (HK2.out q hq).imp id (fun h => by have h1 := HB1.out.1.size; have h2 := HF5.out.2.2.size; have h3 := (below_alloc w5 (.cells #[.int .u64 (last + 1), .int .u64 (last + 1), .int .i64 sd, .int .i64 rc, .slice pb lb cb] 32)).size; have h4 : (w5.alloc (.cells #[.int .u64 (last + 1), .int .u64 (last + 1), .int .i64 sd, .int .i64 rc, .slice pb lb cb] 32)).drew.heap.size = (w5.alloc (.cells #[.int .u64 (last + 1), .int .u64 (last + 1), .int .i64 sd, .int .i64 rc, .slice pb lb cb] 32)).heap.size := rfl; omega)⟩
  · have tz : (f0 == 0) = false := by simp [hz]
    obtain rfl : fi = f0 := by rw [HF.out, if_neg hz]
    go_upto_region 5 with fail
    have HX1Z := (HX1.out.frp ((Frp.refl (fun k => k = g) w1).set (p := ⟨g, 1, none⟩) rfl (.int .u64 (last + 1))) (fun e => hne e.symm)).set 0 (.int .u64 (last + 1))
    refine at_hide' (F := fun w' => Blk w' g [.slice p m c, .int .u64 (last + 1)] 50 ∧ Blk w' X [.int .u64 (last + 1), .int .u64 fi, .int .i64 sd, .int .i64 rc, .slice pb lb cb] 32 ∧ Frp (fun k => k = g ∨ k = X) w1 w') ⟨Blk.frp (HG1.out.blk.set 1 (.int .u64 (last + 1))) ((Frp.refl (fun k => k = X) _).set (p := ⟨X, 0, none⟩) rfl _) (fun e => hne e), HX1Z, ((Frp.refl (fun k => k = g ∨ k = X) w1).set (p := ⟨g, 1, none⟩) (.inl rfl) _).set (p := ⟨X, 0, none⟩) (.inr rfl) _⟩ ?_
    intro w5 hF
    clear HX1Z
    have HF5 := Lib.hid hF
    have HRW : Hid (w5.ownsRow 0 32 5 (.slice p m c) m (rwC enC L)) := Lib.hid (by have h9 := own_frp HG1.out.row hF.2.2 (fun q hq hh => by rcases hh with rfl | rfl; exact own_ty HG1.out.row HG1.out.blk (by decide) hq; have h8 := own_hi H.out.row hq; have h7 := HB1.out.2; omega); rw [← HM.out] at h9; exact h9)
    clear hF c0 c1 e0 e1 x0 x1 x2 x3 x4 fx0 fx1
    have c0 := HF5.out.1.cell (j := 0) rfl
    have x0 := HF5.out.2.1.cell (j := 0) rfl
    have x1 := HF5.out.2.1.cell (j := 1) rfl
    have x2 := HF5.out.2.1.cell (j := 2) rfl
    have x3 := HF5.out.2.1.cell (j := 3) rfl
    have x4 := HF5.out.2.1.cell (j := 4) rfl
    have bb1 := (HF5.out.1.alloc (.cells #[.int .u64 (last + 1), .int .u64 fi, .int .i64 sd, .int .i64 rc, .slice pb lb cb] 32)).cell (j := 0) rfl
    have bb2 : ((w5.alloc (.cells #[.int .u64 (last + 1), .int .u64 fi, .int .i64 sd, .int .i64 rc, .slice pb lb cb] 32)).drew).cell? ⟨g, 0, none⟩ = some (.slice p m c) := bb1
    have b1 : Hid (Blk ((w5.alloc (.cells #[.int .u64 (last + 1), .int .u64 fi, .int .i64 sd, .int .i64 rc, .slice pb lb cb] 32)).drew) g [.slice p m c, .int .u64 (last + 1)] 50) := Lib.hid (HF5.out.1.alloc _)
    have o1 : Hid (World.ownsRow ((w5.alloc (.cells #[.int .u64 (last + 1), .int .u64 fi, .int .i64 sd, .int .i64 rc, .slice pb lb cb] 32)).drew) 0 32 5 (.slice p m c) m (rwC enC L)) := Lib.hid (own_drew (own_keep HRW.out (below_alloc _ _)))
    have o2 : Hid (Src Try.prog 5 40 (.slice (some ⟨w5.heap.size, 0, none⟩) 1 1) 1 [.int .u64 (last + 1), .int .u64 fi, .int .i64 sd, .int .i64 rc, .slice pb lb cb] ((w5.alloc (.cells #[.int .u64 (last + 1), .int .u64 fi, .int .i64 sd, .int .i64 rc, .slice pb lb cb] 32)).drew)) := Lib.hid (src_block Try.underlying40 ((w5.alloc (.cells #[.int .u64 (last + 1), .int .u64 fi, .int .i64 sd, .int .i64 rc, .slice pb lb cb] 32)).drew) _ #[.int .u64 (last + 1), .int .u64 fi, .int .i64 sd, .int .i64 rc, .slice pb lb cb] (heap_alloc_new w5 _) rfl (by simp [Value.oneCell']))
    have HGO : Hid (some g ≠ (Value.slice p m c).ownBlock) := Lib.hid (fun e => own_ty HRW.out HF5.out.1 (by decide) e.symm)
    have h9 := HF5.out.1.free 0
    go_region_law (refine step_app rfl (.tmp 27) (.tmp 29) 40 40 rfl 0 32 i0 zeV 5 56 Try.underlying40 hi0 hz0 hz1 hz2 rfl (.slice p m c) m (rwC enC L) (by simp [Act.eval, Act.put]) o1.out (.slice (some ⟨w5.heap.size, 0, none⟩) 1 1) 1 [.int .u64 (last + 1), .int .u64 fi, .int .i64 sd, .int .i64 rc, .slice pb lb cb] (by simp [Act.eval, Act.put]) o2.out (by unfold maxLen; omega) (by omega) (Nat.zero_le _) ?_; intro v2 w2 ho2 hg2 hn2 hk2; obtain ⟨p2, k2, rfl, -, -⟩ := own_slice ho2; have d1 := ((b1.out.grown hg2 HGO.out).cell (j := 0) rfl); have d2 := ((b1.out.grown hg2 HGO.out).free 0); have HO2 := Lib.hid ho2; have HG2 := Lib.hid hg2; have HD2 := Lib.hid (b1.out.grown hg2 HGO.out); have HK2 := Lib.hid hk2; clear ho2 hg2 hn2 hk2)
    all_goals have HX6 := ((HF5.out.2.1.alloc (.cells #[.int .u64 (last + 1), .int .u64 fi, .int .i64 sd, .int .i64 rc, .slice pb lb cb] 32)).kept (below_drewN 1)).grown HG2.out (fun e => by have h8 := own_hi H.out.row e.symm; have h7 := HB1.out.2; omega)
    all_goals have z0 := (HX6.other (a := ⟨g, 0, none⟩) (fun e => hne e.symm) (.slice p2 (m + 1) k2)).cell (j := 0) rfl
    all_goals clear HX6
    all_goals go_wp2
    all_goals go_ret
    all_goals exact ⟨rfl, _, HD2.out.set 0 _, own_other HO2.out (own_ty HO2.out HD2.out (by decide)) _, ((((((Frp.of_below HB1.out.1 _).trans HF5.out.2.2 (fun q hq => hq.elim (fun h => .inl (.inl h)) (fun h => .inr (by rw [h, HB1.out.2]; exact Nat.le_refl _)))).next (below_alloc _ _)).next (below_drewN 1)).grown HG2.out (fun k hk => .inl (.inr hk))).set (p := ⟨g, 0, none⟩) (.inl rfl) _), fun q hq => (HK2.out q hq).imp id (fun h => by have h1 := HB1.out.1.size; have h2 := HF5.out.2.2.size; have h3 := (below_alloc w5 (.cells #[.int .u64 (last + 1), .int .u64 fi, .int .i64 sd, .int .i64 rc, .slice pb lb cb] 32)).size; have h4 : (w5.alloc (.cells #[.int .u64 (last + 1), .int .u64 fi, .int .i64 sd, .int .i64 rc, .slice pb lb cb] 32)).drew.heap.size = (w5.alloc (.cells #[.int .u64 (last + 1), .int .u64 fi, .int .i64 sd, .int .i64 rc, .slice pb lb cb] 32)).heap.size := rfl; omega)⟩
end Go.Proofs.Ytndjgbknhfficaa.Nt
