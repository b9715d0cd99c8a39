/- Texts of one proof, laid together: QRef, QLeft, QChange, Iter, Flat, Frp, Rw, QCharges, QOver, QInv. No condition of ours. -/
import Derived.Test.YtmgbailpmcggiaaGreatQZ12
import Derived.Shelf.SlIter.Nil
import Derived.Shelf.SortM.Plain
import Derived.Shelf.SortM.SortNone
import Derived.Ground.GgzProg
import Derived.Ground.SlgmProg
import Derived.Test.YtmgbailpmcggiaaGreatProg
namespace Go.Proofs.YtmgbailpmcggiaaGreat
open Go.RowKit

theorem fr_c {w w' : World} {mg mc : Nat} {w0 : World} (h1 : Below w0.heap.size w0 w) (h2 : w.grownBy w' (some mc)) : Fr [mg, mc] w0 w' := (Fr.of_below h1 [mg, mc]).then ((Fr.of_grown h2).mono (by simp))

set_option maxRecDepth 100000 in
set_option maxHeartbeats 1000000 in
theorem brefund_b1 (b mg mc : Nat) (G : List Gr) (C : List Ch) (n : ByteArray) (w : World) (h : Bk w b mg mc G C) (hn : nmdB n = false) :
    Calls Tryz.prog 12 #[ptr b, .string n] w fun e w' => e = .returned (.int .i64 2) ∧ Below w.heap.size w w' := by
  have HNE : Hid (nmdE n = 2) := Lib.hid (by unfold nmdE; rw [hn]; rfl)
  have H := Lib.hid h
  clear h hn
  go_enter Tryz.func12, Tryz.ntmps12
  go_wp2_with (go_at_call 32; refine (named_made b mg mc G C n _ H.out).mono ?_; rw [HNE.out]; rintro e w4 ⟨rfl, rfl⟩)
  go_ret
  exact ⟨rfl, Below.refl _ _⟩
set_option maxRecDepth 100000 in
set_option maxHeartbeats 1000000 in
theorem brefund_b2 (b mg mc : Nat) (G : List Gr) (C : List Ch) (n : ByteArray) (w : World) (h : Bk w b mg mc G C) (hn : nmdB n = true) (hx : kfnd Ch.key C n.data.toList = none) :
    Calls Tryz.prog 12 #[ptr b, .string n] w fun e w' => e = .returned (.int .i64 6) ∧ Below w.heap.size w w' := by
  have HNE : Hid (nmdE n = 0) := Lib.hid (by unfold nmdE; rw [hn]; rfl)
  have HLK : Hid (∀ w', SMap Tryz.prog 9 w' mc (chM C) → (Instr.lookup 45 (.map (some mc)) (.string n) true).run Tryz.prog w' = .ok (.tuple #[chV zC, .bool false]) w') := Lib.hid (fun w' h' => by rw [charge_look h' (nmdB_len hn), hx]; rfl)
  have H := Lib.hid h
  have g1 := h.blk.cell (j := 1) rfl
  have hlk := HLK.out w h.cm
  clear h hn hx
  go_enter Tryz.func12, Tryz.ntmps12
  go_wp2_with (go_at_call 32; refine (named_made b mg mc G C n _ H.out).mono ?_; rw [HNE.out]; rintro e w4 ⟨rfl, rfl⟩)
  go_ret
  exact ⟨rfl, below_alloc w _⟩
set_option maxRecDepth 100000 in
set_option maxHeartbeats 1000000 in
theorem brefund_ok (b mg mc : Nat) (G : List Gr) (C : List Ch) (n : ByteArray) (x : Ch) (w : World) (h : Bk w b mg mc G C) (hn : nmdB n = true) (hx : kfnd Ch.key C n.data.toList = some x) :
    Calls Tryz.prog 12 #[ptr b, .string n] w fun e w' => e = .returned (.int .i64 0) ∧ Bk w' b mg mc G (krem Ch.key C n.data.toList) ∧ Fr [mg, mc] w w' := by
  have HNE : Hid (nmdE n = 0) := Lib.hid (by unfold nmdE; rw [hn]; rfl)
  have HNL : Hid (n.size ≤ maxLen) := Lib.hid (nmdB_len hn)
  have HLK : Hid (∀ w', SMap Tryz.prog 9 w' mc (chM C) → (Instr.lookup 45 (.map (some mc)) (.string n) true).run Tryz.prog w' = .ok (.tuple #[chV x, .bool true]) w') := Lib.hid (fun w' h' => by rw [charge_look h' (nmdB_len hn), hx]; rfl)
  have HPT : Hid ((chM C).del n.data.toList = chM (krem Ch.key C n.data.toList)) := Lib.hid (kM_del (key := Ch.key) (val := chV) C n.data.toList)
  have H := Lib.hid h
  have hb6 := below_alloc w (.cells #[.string x.n, .string x.u, .int .i64 x.b, .int .i64 x.a.c, .int .i64 x.a.r, .int .i64 x.a.d, .int .i64 x.a.p] 43)
  have HB6 := Lib.hid hb6
  have H6 := Lib.hid (h.kept hb6)
  have g1 := h.blk.cell (j := 1) rfl
  have g2 := H6.out.blk.cell (j := 1) rfl
  have hlk := HLK.out w h.cm
  clear h hn hx hb6
  go_enter Tryz.func12, Tryz.ntmps12
  go_wp2_with (first
    | (go_at_call 32; refine (named_made b mg mc G C n _ H.out).mono ?_; rw [HNE.out]; rintro e w4 ⟨rfl, rfl⟩)
    | (refine wpList_sdel _ rfl _ _ _ _ rfl 43 Tryz.underlying9 Tryz.underlying45 mc (chM C) rfl H6.out.cm n rfl HNL.out ?_; intro v8 hp8 hg8; rw [HPT.out] at hp8; have HP8 := Lib.hid hp8; have HG8 := Lib.hid hg8; clear hp8 hg8))
  go_ret
  exact ⟨rfl, bk_c H6.out HP8.out HG8.out, fr_c HB6.out HG8.out⟩
theorem brefund_any (b mg mc : Nat) (G : List Gr) (C : List Ch) (n : ByteArray) (w : World) (h : Bk w b mg mc G C) :
    Calls Tryz.prog 12 #[ptr b, .string n] w fun e w' => e = .returned (.int .i64 (refundP C n).1) ∧ Bk w' b mg mc G (refundP C n).2 ∧ Fr [mg, mc] w w' := by
  cases hn : nmdB n
  · have hr : refundP C n = (2, C) := by unfold refundP; rw [if_pos hn]
    rw [hr]
    exact (brefund_b1 b mg mc G C n w h hn).mono fun e w' ⟨h1, h2⟩ => ⟨h1, bk_stay h h2⟩
  cases hx : kfnd Ch.key C n.data.toList with
  | none =>
    have hr : refundP C n = (6, C) := by unfold refundP; rw [if_neg (by rw [hn]; simp), if_pos (by rw [hx]; rfl)]
    rw [hr]
    exact (brefund_b2 b mg mc G C n w h hn hx).mono fun e w' ⟨h1, h2⟩ => ⟨h1, bk_stay h h2⟩
  | some x =>
    have hr : refundP C n = (0, krem Ch.key C n.data.toList) := by unfold refundP; rw [if_neg (by rw [hn]; simp), if_neg (by rw [hx]; simp)]
    rw [hr]
    exact brefund_ok b mg mc G C n x w h hn hx

/-! Used -/
theorem hit_empty {C : List Ch} (hn : ∀ e ∈ C, 0 < e.n.size) (u : ByteArray) (d : Int) : psum (hit u d ⟨#[]⟩) C = psum (onB u d) C := Am.ext_get fun k hk => by
  rw [psum_get _ C hk, psum_get _ C hk]
  unfold ksum
  congr 1
  refine List.map_congr_left fun e he => ?_
  have h1 : (e.n.toList == (⟨#[]⟩ : ByteArray).toList) = false := by
    rw [Lib.toList_data, Lib.toList_data]
    have h2 := hn e he
    have h3 : e.n.data.toList.length = e.n.size := by simp
    cases h4 : e.n.data.toList with
    | nil => rw [h4] at h3; simp at h3; omega
    | cons => rfl
  unfold pf hit onB
  rw [h1]
  simp
set_option maxRecDepth 100000 in
set_option maxHeartbeats 1000000 in
theorem bUsed_any (b mg mc : Nat) (G : List Gr) (C : List Ch) (u : ByteArray) (d : Int) (w : World) (h : Bk w b mg mc G C) (hi : ChI C) (hnm : ∀ e ∈ C, 0 < e.n.size) (hd1 : -9223372036854775808 ≤ d) (hd2 : d ≤ 9223372036854775807) :
    Calls Tryz.prog 18 #[ptr b, .string u, .int .i64 d] w fun e w' => e = .returned (.tuple #[amV (usedP C u d).1, .int .i64 (usedP C u d).2]) ∧ Below w.heap.size w w' := by
  obtain ⟨w3, hw3⟩ : ∃ w3, w3 = w.alloc (.cells #[.int .i64 0, .int .i64 0, .int .i64 0, .int .i64 0] 34) := ⟨_, rfl⟩
  obtain ⟨B, hB⟩ : ∃ B, B = w.heap.size := ⟨_, rfl⟩
  have B0 : Hid (Blk w3 B (amC .zero) 34) := Lib.hid (by rw [hw3, hB]; exact Blk.made w (amC .zero) _)
  have HBL : Hid (Below w.heap.size w w3) := Lib.hid (by rw [hw3]; exact below_alloc w _)
  have HBW : Hid (w.heap.size ≤ B) := Lib.hid (by omega)
  have H3 := Lib.hid (h.kept HBL.out)
  cases hk : askB u d
  · have HK : Hid (askE u d = 2) := Lib.hid (by unfold askE; rw [hk]; rfl)
    have HR : Hid (usedP C u d = (.zero, 2)) := Lib.hid (by unfold usedP; rw [hk]; rfl)
    clear h hi hk hnm
    have r0 := B0.out.cell (j := 0) rfl
    have r1 := B0.out.cell (j := 1) rfl
    have r2 := B0.out.cell (j := 2) rfl
    have r3 := B0.out.cell (j := 3) rfl
    go_enter Tryz.func18, Tryz.ntmps18
    go_upto_region 1 with fail
    rw [← hw3, ← hB]
    clear hw3 hB
    go_wp2_with (go_at_call 30; refine (asked_made b mg mc G C u d _ H3.out hd1 hd2).mono ?_; rw [HK.out]; rintro e w4 ⟨rfl, hb⟩; have HB4 := Lib.hid (below_and HBL.out hb); have hb0 := B0.out.kept hb; have C0 := Lib.hid hb0; clear r0 r1 r2 r3; have r0 := hb0.cell (j := 0) rfl; have r1 := hb0.cell (j := 1) rfl; have r2 := hb0.cell (j := 2) rfl; have r3 := hb0.cell (j := 3) rfl; have f0 := hb0.free 0; have f1 := hb0.free 1; have f2 := hb0.free 2; have f3 := hb0.free 3; clear hb hb0)
    refine bodyPost_ret (results_row_tmp rfl _ _ B 34 #[.int .i64 0, .int .i64 0, .int .i64 0, .int .i64 0] (0, 0) _ rfl ?_ Tryz.underlying34 rfl (by kernel_rfl)) rfl ⟨by rw [HR.out]; rfl, ?_⟩
    · exact (((C0.out.set 0 (.int .i64 0)).set 1 (.int .i64 0)).set 2 (.int .i64 0)).set 3 (.int .i64 0)
    · exact (((HB4.out.setCell (p := ⟨B, 0, none⟩) HBW.out _).setCell (p := ⟨B, 1, none⟩) HBW.out _).setCell (p := ⟨B, 2, none⟩) HBW.out _).setCell (p := ⟨B, 3, none⟩) HBW.out _
  · have HK : Hid (askE u d = 0) := Lib.hid (by unfold askE; rw [hk]; rfl)
    obtain ⟨y, hy⟩ : ∃ y, y = psum (onB u d) C := ⟨_, rfl⟩
    have HR : Hid (usedP C u d = (y, 0)) := Lib.hid (by unfold usedP; rw [hk, hy]; rfl)
    have HUS : Hid (∀ w', Bk w' b mg mc G C → Calls Tryz.prog 41 #[ptr b, .string u, .int .i64 d, .string ⟨#[]⟩] w' fun e w2 => e = .returned (.tuple #[amV y, .bool true]) ∧ Below w'.heap.size w' w2) := Lib.hid (fun w' h' => by rw [hy, ← hit_empty hnm]; exact bused_any b mg mc G C u ⟨#[]⟩ d w' h' hi.rise.apart hi.ok (hi.hit u d _))
    clear h hi hk hnm hy
    go_enter Tryz.func18, Tryz.ntmps18
    go_upto_region 1 with fail
    rw [← hw3, ← hB]
    clear hw3 hB
    go_wp2_with (first
      | (go_at_call 30; refine (asked_made b mg mc G C u d _ H3.out hd1 hd2).mono ?_; rw [HK.out]; rintro e w4 ⟨rfl, hb⟩; have HB4 := Lib.hid (below_and HBL.out hb); have H4 := Lib.hid (H3.out.kept hb); have C4 := Lib.hid (B0.out.kept hb); clear hb)
      | (go_at_call 41; refine (HUS.out _ H4.out).mono ?_; rintro e w5 ⟨rfl, hb⟩; have hbz := below_and hb (below_alloc w5 (.cells #[.int .i64 y.c, .int .i64 y.r, .int .i64 y.d, .int .i64 y.p] 34)); have HB5 := Lib.hid (below_and HB4.out hbz); have hb0 := C4.out.kept hbz; have C0 := Lib.hid hb0; have r0 := hb0.cell (j := 0) rfl; have r1 := hb0.cell (j := 1) rfl; have r2 := hb0.cell (j := 2) rfl; have r3 := hb0.cell (j := 3) rfl; have f0 := hb0.free 0; have f1 := hb0.free 1; have f2 := hb0.free 2; have f3 := hb0.free 3; clear hb hb0 hbz))
    refine bodyPost_ret (results_row_tmp rfl _ _ B 34 #[.int .i64 y.c, .int .i64 y.r, .int .i64 y.d, .int .i64 y.p] (0, 0) _ rfl ?_ Tryz.underlying34 rfl (by kernel_rfl)) rfl ⟨by rw [HR.out]; rfl, ?_⟩
    · exact (((C0.out.set 0 (.int .i64 y.c)).set 1 (.int .i64 y.r)).set 2 (.int .i64 y.d)).set 3 (.int .i64 y.p)
    · exact (((HB5.out.setCell (p := ⟨B, 0, none⟩) HBW.out _).setCell (p := ⟨B, 1, none⟩) HBW.out _).setCell (p := ⟨B, 2, none⟩) HBW.out _).setCell (p := ⟨B, 3, none⟩) HBW.out _

/-! Granted -/
set_option maxRecDepth 100000 in
set_option maxHeartbeats 1000000 in
theorem bgranted_any (b mg mc : Nat) (G : List Gr) (C : List Ch) (u : ByteArray) (d : Int) (w : World) (h : Bk w b mg mc G C) (hd1 : -9223372036854775808 ≤ d) (hd2 : d ≤ 9223372036854775807) :
    Calls Tryz.prog 20 #[ptr b, .string u, .int .i64 d] w fun e w' => e = .returned (.tuple #[amV (grantedP G u d).1, .int .i64 (grantedP G u d).2]) ∧ Below w.heap.size w w' := by
  obtain ⟨w3, hw3⟩ : ∃ w3, w3 = w.alloc (.cells #[.int .i64 0, .int .i64 0, .int .i64 0, .int .i64 0] 34) := ⟨_, rfl⟩
  obtain ⟨B, hB⟩ : ∃ B, B = w.heap.size := ⟨_, rfl⟩
  have B0 : Hid (Blk w3 B (amC .zero) 34) := Lib.hid (by rw [hw3, hB]; exact Blk.made w (amC .zero) _)
  have HBL : Hid (Below w.heap.size w w3) := Lib.hid (by rw [hw3]; exact below_alloc w _)
  have HBW : Hid (w.heap.size ≤ B) := Lib.hid (by omega)
  have H3 := Lib.hid (h.kept HBL.out)
  cases hk : askB u d
  · have HK : Hid (askE u d = 2) := Lib.hid (by unfold askE; rw [hk]; rfl)
    have HR : Hid (grantedP G u d = (.zero, 2)) := Lib.hid (by unfold grantedP; rw [hk]; rfl)
    clear h hk
    go_enter Tryz.func20, Tryz.ntmps20
    go_upto_region 1 with fail
    rw [← hw3, ← hB]
    clear hw3 hB
    go_wp2_with (go_at_call 30; refine (asked_made b mg mc G C u d _ H3.out hd1 hd2).mono ?_; rw [HK.out]; rintro e w4 ⟨rfl, hb⟩; have HB4 := Lib.hid (below_and HBL.out hb); have hb0 := B0.out.kept hb; have C0 := Lib.hid hb0; have r0 := hb0.cell (j := 0) rfl; have r1 := hb0.cell (j := 1) rfl; have r2 := hb0.cell (j := 2) rfl; have r3 := hb0.cell (j := 3) rfl; have f0 := hb0.free 0; have f1 := hb0.free 1; have f2 := hb0.free 2; have f3 := hb0.free 3; clear hb hb0)
    refine bodyPost_ret (results_row_tmp rfl _ _ B 34 #[.int .i64 0, .int .i64 0, .int .i64 0, .int .i64 0] (0, 0) _ rfl ?_ Tryz.underlying34 rfl (by kernel_rfl)) rfl ⟨by rw [HR.out]; rfl, ?_⟩
    · exact (((C0.out.set 0 (.int .i64 0)).set 1 (.int .i64 0)).set 2 (.int .i64 0)).set 3 (.int .i64 0)
    · exact (((HB4.out.setCell (p := ⟨B, 0, none⟩) HBW.out _).setCell (p := ⟨B, 1, none⟩) HBW.out _).setCell (p := ⟨B, 2, none⟩) HBW.out _).setCell (p := ⟨B, 3, none⟩) HBW.out _
  · have HK : Hid (askE u d = 0) := Lib.hid (by unfold askE; rw [hk]; rfl)
    have hn := askB_name hk
    have HKO : Hid (keyOf Tryz.prog 60 (kV u d) = some (.string (kT u d))) := Lib.hid (keyOf_k (by unfold maxLen; omega) (band_wf hn.2))
    obtain ⟨y, hy⟩ : ∃ y, y = grantA G u d := ⟨_, rfl⟩
    have HR : Hid (grantedP G u d = (y, 0)) := Lib.hid (by unfold grantedP; rw [hk, hy]; rfl)
    have HLK : Hid (∀ w', SMap Tryz.prog 60 w' mg (grM G) → (Instr.lookup 44 (.map (some mg)) (kV u d) false).run Tryz.prog w' = .ok (amV y) w') := Lib.hid (fun w' h' => by rw [hy]; exact grant_look h' HKO.out)
    clear h hk hn hy
    go_enter Tryz.func20, Tryz.ntmps20
    go_upto_region 1 with fail
    rw [← hw3, ← hB]
    clear hw3 hB
    go_wp2_with (go_at_call 30; refine (asked_made b mg mc G C u d _ H3.out hd1 hd2).mono ?_; rw [HK.out]; rintro e w4 ⟨rfl, hb⟩; have HB4 := Lib.hid (below_and HBL.out hb); have H4 := H3.out.kept hb; have g0 := H4.blk.cell (j := 0) rfl; have hlk := HLK.out _ H4.gm; have hb0 := B0.out.kept hb; have C0 := Lib.hid hb0; have r0 := hb0.cell (j := 0) rfl; have r1 := hb0.cell (j := 1) rfl; have r2 := hb0.cell (j := 2) rfl; have r3 := hb0.cell (j := 3) rfl; have f0 := hb0.free 0; have f1 := hb0.free 1; have f2 := hb0.free 2; have f3 := hb0.free 3; clear hb hb0 H4)
    refine bodyPost_ret (results_row_tmp rfl _ _ B 34 #[.int .i64 y.c, .int .i64 y.r, .int .i64 y.d, .int .i64 y.p] (0, 0) _ rfl ?_ Tryz.underlying34 rfl (by kernel_rfl)) rfl ⟨by rw [HR.out]; rfl, ?_⟩
    · exact (((C0.out.set 0 (.int .i64 y.c)).set 1 (.int .i64 y.r)).set 2 (.int .i64 y.d)).set 3 (.int .i64 y.p)
    · exact (((HB4.out.setCell (p := ⟨B, 0, none⟩) HBW.out _).setCell (p := ⟨B, 1, none⟩) HBW.out _).setCell (p := ⟨B, 2, none⟩) HBW.out _).setCell (p := ⟨B, 3, none⟩) HBW.out _
end Go.Proofs.YtmgbailpmcggiaaGreat
namespace Go.Proofs.YtmgbailpmcggiaaGreat
open Go.RowKit

theorem bel_set4 {n g : Nat} {w v : World} {a b c d : Value} (h : Below n w v) (hg : n ≤ g) : Below n w ((((v.setCell ⟨g, 0, none⟩ a).setCell ⟨g, 1, none⟩ b).setCell ⟨g, 2, none⟩ c).setCell ⟨g, 3, none⟩ d) :=
  (((h.setCell (p := ⟨g, 0, none⟩) hg _).setCell (p := ⟨g, 1, none⟩) hg _).setCell (p := ⟨g, 2, none⟩) hg _).setCell (p := ⟨g, 3, none⟩) hg _
theorem at_hide {Q F : World → Prop} {w : World} (hf : F w) (h : ∀ w', F w' → Q w') : Q w := h w hf
theorem blk4 {w : World} {g : Nat} {p q r s : Value} {t : TypeId} {a b c d : Value} (h : Blk w g [p, q, r, s] t) : Blk ((((w.setCell ⟨g, 0, none⟩ a).setCell ⟨g, 1, none⟩ b).setCell ⟨g, 2, none⟩ c).setCell ⟨g, 3, none⟩ d) g [a, b, c, d] t :=
  (((h.set 0 a).set 1 b).set 2 c).set 3 d
theorem blk4_other {w : World} {g k : Nat} {cs : List Value} {t : TypeId} {a b c d : Value} (h : Blk w k cs t) (hk : k ≠ g) : Blk ((((w.setCell ⟨g, 0, none⟩ a).setCell ⟨g, 1, none⟩ b).setCell ⟨g, 2, none⟩ c).setCell ⟨g, 3, none⟩ d) k cs t :=
  (((h.other (a := ⟨g, 0, none⟩) (by simpa using hk) _).other (a := ⟨g, 1, none⟩) (by simpa using hk) _).other (a := ⟨g, 2, none⟩) (by simpa using hk) _).other (a := ⟨g, 3, none⟩) (by simpa using hk) _
theorem left_sub {G : List Gr} {C : List Ch} {u : ByteArray} {d : Int} (hg : (grantA G u d).okB = true) (hs : (psum (onB u d) C).okB = true) (z : Am) (hz : ∀ k, k < 4 → z.get k = if (grantA G u d).get k < (psum (onB u d) C).get k then (grantA G u d).get k else (psum (onB u d) C).get k) :
    subR (grantA G u d) z = (leftA G C u d, 0) := by
  have hzk : ∀ k, k < 4 → 0 ≤ z.get k ∧ z.get k ≤ 1099511627776 ∧ z.get k ≤ (grantA G u d).get k := fun k hk => by
    have h1 := ok_get hg hk
    have h2 := ok_get hs hk
    rw [hz k hk]
    split <;> omega
  refine subR_ok ?_ ?_ (fun k hk => ?_)
  · rw [hg, (Am.okB_iff z).2 (fun k hk => ⟨(hzk k hk).1, (hzk k hk).2.1⟩)]; rfl
  · unfold fitsB
    rw [any4_no (fun k hk => by have := (hzk k hk).2.2; simpa using this)]
    rfl
  · unfold leftA
    rw [Am.of_get _ k hk, hz k hk]
    split <;> omega

set_option maxRecDepth 100000 in
set_option maxHeartbeats 2000000 in
theorem bleft_bad (b mg mc : Nat) (G : List Gr) (C : List Ch) (u : ByteArray) (d : Int) (w : World) (h : Bk w b mg mc G C) (hi : ChI C) (hnm : ∀ e ∈ C, 0 < e.n.size) (hd1 : -9223372036854775808 ≤ d) (hd2 : d ≤ 9223372036854775807) (hk : askB u d = false) :
    Calls Tryz.prog 22 #[ptr b, .string u, .int .i64 d] w fun e w' => e = .returned (.tuple #[amV .zero, .int .i64 2]) ∧ Below w.heap.size w w' := by
  obtain ⟨w3, hw3⟩ : ∃ w3, w3 = w.alloc (.cells #[.int .i64 0, .int .i64 0, .int .i64 0, .int .i64 0] 34) := ⟨_, rfl⟩
  obtain ⟨B, hB⟩ : ∃ B, B = w.heap.size := ⟨_, rfl⟩
  have B0 : Hid (Blk w3 B (amC .zero) 34) := Lib.hid (by rw [hw3, hB]; exact Blk.made w (amC .zero) _)
  have HBL : Hid (Below w.heap.size w w3) := Lib.hid (by rw [hw3]; exact below_alloc w _)
  have HBW : Hid (w.heap.size ≤ B) := Lib.hid (by omega)
  have H3 := Lib.hid (h.kept HBL.out)
  have HU : Hid (∀ w', Bk w' b mg mc G C → Calls Tryz.prog 18 #[ptr b, .string u, .int .i64 d] w' fun e w2 => e = .returned (.tuple #[amV .zero, .int .i64 2]) ∧ Below w'.heap.size w' w2) := Lib.hid (fun w' h' => by
    have h9 := bUsed_any b mg mc G C u d w' h' hi hnm hd1 hd2
    unfold usedP at h9
    rw [hk] at h9
    exact h9)
  clear h hi hk hnm
  go_enter Tryz.func22, Tryz.ntmps22
  go_upto_region 1 with fail
  rw [← hw3, ← hB]
  clear hw3 hB
  go_wp2_with (go_at_call 18; refine (HU.out _ H3.out).mono ?_; rintro e w4 ⟨rfl, hb⟩; have hbz := below_and hb (below_alloc w4 (.cells #[.int .i64 Am.zero.c, .int .i64 Am.zero.r, .int .i64 Am.zero.d, .int .i64 Am.zero.p] 34)); have HB4 := Lib.hid (below_and HBL.out hbz); have hb0 := B0.out.kept hbz; have C0 := Lib.hid hb0; have r0 := hb0.cell (j := 0) rfl; have r1 := hb0.cell (j := 1) rfl; have r2 := hb0.cell (j := 2) rfl; have r3 := hb0.cell (j := 3) rfl; have f0 := hb0.free 0; have f1 := hb0.free 1; have f2 := hb0.free 2; have f3 := hb0.free 3; clear hb hb0 hbz)
  refine bodyPost_ret (results_row_tmp rfl _ _ B 34 #[.int .i64 0, .int .i64 0, .int .i64 0, .int .i64 0] (0, 0) _ rfl ?_ Tryz.underlying34 rfl (by kernel_rfl)) rfl ⟨rfl, ?_⟩
  · exact (((C0.out.set 0 (.int .i64 0)).set 1 (.int .i64 0)).set 2 (.int .i64 0)).set 3 (.int .i64 0)
  · exact bel_set4 HB4.out HBW.out

set_option maxRecDepth 100000 in
set_option maxHeartbeats 4000000 in
theorem bleft_ok (b mg mc : Nat) (G : List Gr) (C : List Ch) (u : ByteArray) (d : Int) (w : World) (h : Bk w b mg mc G C) (hi : ChI C) (hnm : ∀ e ∈ C, 0 < e.n.size) (hg : (grantA G u d).okB = true) (hk : askB u d = true) :
    Calls Tryz.prog 22 #[ptr b, .string u, .int .i64 d] w fun e w' => e = .returned (.tuple #[amV (leftA G C u d), .int .i64 0]) ∧ Below w.heap.size w w' := by
  obtain ⟨w3, hw3⟩ : ∃ w3, w3 = w.alloc (.cells #[.int .i64 0, .int .i64 0, .int .i64 0, .int .i64 0] 34) := ⟨_, rfl⟩
  obtain ⟨B, hB⟩ : ∃ B, B = w.heap.size := ⟨_, rfl⟩
  have B0 : Hid (Blk w3 B (amC .zero) 34) := Lib.hid (by rw [hw3, hB]; exact Blk.made w (amC .zero) _)
  have HBL : Hid (Below w.heap.size w w3) := Lib.hid (by rw [hw3]; exact below_alloc w _)
  have HBW : Hid (w.heap.size ≤ B) := Lib.hid (by omega)
  have H3 := Lib.hid (h.kept HBL.out)
  have hn := askB_name hk
  have HKO : Hid (keyOf Tryz.prog 60 (kV u d) = some (.string (kT u d))) := Lib.hid (keyOf_k (by unfold maxLen; omega) (band_wf hn.2))
  obtain ⟨gr, hgr⟩ : ∃ gr, gr = grantA G u d := ⟨_, rfl⟩
  obtain ⟨y, hy⟩ : ∃ y, y = psum (onB u d) C := ⟨_, rfl⟩
  obtain ⟨lf, hlf⟩ : ∃ lf, lf = leftA G C u d := ⟨_, rfl⟩
  obtain ⟨z, hz⟩ : ∃ z : Am, ∀ k, k < 4 → z.get k = if gr.get k < y.get k then gr.get k else y.get k := ⟨.of fun k => if gr.get k < y.get k then gr.get k else y.get k, fun k hk => Am.of_get _ k hk⟩
  have HU : Hid (∀ w', Bk w' b mg mc G C → Calls Tryz.prog 18 #[ptr b, .string u, .int .i64 d] w' fun e w2 => e = .returned (.tuple #[amV y, .int .i64 0]) ∧ Below w'.heap.size w' w2) := Lib.hid (fun w' h' => by
    have h9 := bUsed_any b mg mc G C u d w' h' hi hnm (by omega) (by omega)
    unfold usedP at h9
    rw [hk] at h9
    rw [hy]
    exact h9)
  have HLK : Hid (∀ w', SMap Tryz.prog 60 w' mg (grM G) → (Instr.lookup 44 (.map (some mg)) (kV u d) false).run Tryz.prog w' = .ok (amV gr) w') := Lib.hid (fun w' h' => by rw [hgr]; exact grant_look h' HKO.out)
  have HLE : Hid (∀ w', Calls Tryz.prog 43 #[amV y, amV gr] w' fun e w2 => e = .returned (amV z) ∧ Below w'.heap.size w' w2) := Lib.hid (fun w' => least_any y gr z w' hz)
  have HSU : Hid (∀ w', Calls Tryz.prog 42 #[amV gr, amV z] w' fun e w2 => e = .returned (.tuple #[amV lf, .int .i64 0]) ∧ Below w'.heap.size w' w2) := Lib.hid (fun w' => by
    have h9 := sub_any gr z w'
    subst hgr hy
    rw [left_sub hg (hi.fit u d) z hz, ← hlf] at h9
    exact h9)
  rw [← hlf]
  clear h hi hk hnm hn hgr hy hlf hz hg
  go_enter Tryz.func22, Tryz.ntmps22
  go_upto_region 1 with fail
  rw [← hw3, ← hB]
  clear hw3 hB
  go_upto_region 5 with (go_at_call 18; refine (HU.out _ H3.out).mono ?_; rintro e w5 ⟨rfl, hb⟩; have hbz := below_alloc w5 (.cells #[.int .i64 y.c, .int .i64 y.r, .int .i64 y.d, .int .i64 y.p] 34); have H4 := (H3.out.kept hb).kept hbz; have g0 := H4.blk.cell (j := 0) rfl; have hlk := HLK.out _ H4.gm; obtain ⟨wq, hwq⟩ : ∃ wq, wq = (w5.alloc (.cells #[.int .i64 y.c, .int .i64 y.r, .int .i64 y.d, .int .i64 y.p] 34)).alloc (.cells #[.int .i64 gr.c, .int .i64 gr.r, .int .i64 gr.d, .int .i64 gr.p] 34) := ⟨_, rfl⟩; have hb5 : Below w5.heap.size w5 wq := (by rw [hwq]; exact below_and hbz (below_alloc _ _)); have HB5 := Lib.hid (below_and (below_and HBL.out hb) hb5); have C5 := Lib.hid ((B0.out.kept hb).kept hb5); obtain ⟨Y, hY⟩ : ∃ Y, Y = w5.heap.size := ⟨_, rfl⟩; have CY : Hid (Blk wq Y (amC y) 34) := Lib.hid (by rw [hwq, hY]; exact (Blk.made w5 (amC y) _).alloc _); have CG : Hid (Blk wq (Y + 1) (amC gr) 34) := Lib.hid (by rw [hwq, hY]; simpa using Blk.made (w5.alloc (.cells #[.int .i64 y.c, .int .i64 y.r, .int .i64 y.d, .int .i64 y.p] 34)) (amC gr) 34); clear hb hbz H4 hb5)
  rw [← hwq, ← hY]
  clear hwq hY g0 hlk
  have HE8 : Hid (∀ w', Below wq.heap.size wq w' → w'.cell? ⟨Y, 0, none⟩ = some (.int .i64 y.c) ∧ w'.cell? ⟨Y, 1, none⟩ = some (.int .i64 y.r) ∧ w'.cell? ⟨Y, 2, none⟩ = some (.int .i64 y.d) ∧ w'.cell? ⟨Y, 3, none⟩ = some (.int .i64 y.p) ∧ w'.cell? ⟨Y + 1, 0, none⟩ = some (.int .i64 gr.c) ∧ w'.cell? ⟨Y + 1, 1, none⟩ = some (.int .i64 gr.r) ∧ w'.cell? ⟨Y + 1, 2, none⟩ = some (.int .i64 gr.d) ∧ w'.cell? ⟨Y + 1, 3, none⟩ = some (.int .i64 gr.p)) := Lib.hid (fun w' hb => eight (CY.out.kept hb) (CG.out.kept hb))
  have HBB : Hid (∀ w', Below wq.heap.size wq w' → Blk w' B (amC .zero) 34) := Lib.hid (fun w' hb => C5.out.kept hb)
  go_region_held3 (fun w' => w'.cell? ⟨Y, 0, none⟩ = some (.int .i64 y.c) ∧ w'.cell? ⟨Y, 1, none⟩ = some (.int .i64 y.r) ∧ w'.cell? ⟨Y, 2, none⟩ = some (.int .i64 y.d) ∧ w'.cell? ⟨Y, 3, none⟩ = some (.int .i64 y.p) ∧ w'.cell? ⟨Y + 1, 0, none⟩ = some (.int .i64 gr.c) ∧ w'.cell? ⟨Y + 1, 1, none⟩ = some (.int .i64 gr.r) ∧ w'.cell? ⟨Y + 1, 2, none⟩ = some (.int .i64 gr.d) ∧ w'.cell? ⟨Y + 1, 3, none⟩ = some (.int .i64 gr.p))
    (refine HE8.out _ ?_ <;> (repeat (first | with_reducible exact HB7.out | with_reducible exact HB6.out | with_reducible exact Below.refl _ _ | with_reducible (refine bel_set4 ?_ (Nat.le_refl _)) | with_reducible (refine bel_set4 ?_ HB6.out.size) | with_reducible (refine bel_set4 ?_ HB7.out.size) | with_reducible (apply bl_drew) | with_reducible (refine below_and ?_ (below_alloc _ _)))))
    (first
      | (go_at_call 43; refine (HLE.out _).mono ?_; rintro e w6 ⟨rfl, hb⟩; have HB6 : Hid (Below wq.heap.size wq w6) := Lib.hid (by refine below_and ?_ hb; (repeat (first | with_reducible exact HB7.out | with_reducible exact HB6.out | with_reducible exact Below.refl _ _ | apply bl_drew | (refine below_and ?_ (below_alloc _ _))))); (first | (have hq : Blk w6 wq.heap.size [.int .i64 0, .int .i64 0, .int .i64 0, .int .i64 0] 34 := (Blk.made wq.drew [.int .i64 0, .int .i64 0, .int .i64 0, .int .i64 0] 34).kept hb; have HQ6 := Lib.hid hq; clear hq) | skip); clear hb)
      | (go_at_call 42; refine (HSU.out _).mono ?_; rintro e w7 ⟨rfl, hb⟩; have HB7 : Hid (Below wq.heap.size wq w7) := Lib.hid (by refine below_and ?_ hb; (repeat (first | with_reducible exact HB7.out | with_reducible exact HB6.out | with_reducible exact Below.refl _ _ | apply bl_drew | (refine below_and ?_ (below_alloc _ _))))); (first | (have hq : Blk w7 wq.heap.size [.int .i64 0, .int .i64 0, .int .i64 0, .int .i64 0] 34 := HQ6.out.kept hb; have HQ7 := Lib.hid hq; have q0 := hq.cell (j := 0) rfl; have q1 := hq.cell (j := 1) rfl; have q2 := hq.cell (j := 2) rfl; have q3 := hq.cell (j := 3) rfl; have p0 := hq.free 0; have p1 := hq.free 1; have p2 := hq.free 2; have p3 := hq.free 3; clear hq) | (have hq : Blk w7 w6.heap.size [.int .i64 0, .int .i64 0, .int .i64 0, .int .i64 0] 34 := (Blk.made w6 [.int .i64 0, .int .i64 0, .int .i64 0, .int .i64 0] 34).kept hb; have HQ7 := Lib.hid hq; have q0 := hq.cell (j := 0) rfl; have q1 := hq.cell (j := 1) rfl; have q2 := hq.cell (j := 2) rfl; have q3 := hq.cell (j := 3) rfl; have p0 := hq.free 0; have p1 := hq.free 1; have p2 := hq.free 2; have p3 := hq.free 3; clear hq) | skip); clear hb))
  · refine at_hide (F := fun w' => Blk w' w7.heap.size (amC lf) 34 ∧ Blk w' B (amC .zero) 34 ∧ Below wq.heap.size wq w') ?_ ?_
    · exact ⟨Blk.made w7 (amC lf) _, (HBB.out _ HB7.out).alloc _, below_and HB7.out (below_alloc _ _)⟩
    intro w8 hF
    have HL8 := Lib.hid hF.1
    have HZ8 := Lib.hid hF.2.1
    have HB8 := Lib.hid (below_and HB5.out hF.2.2)
    have l0 := HL8.out.cell (j := 0) rfl
    have l1 := HL8.out.cell (j := 1) rfl
    have l2 := HL8.out.cell (j := 2) rfl
    have l3 := HL8.out.cell (j := 3) rfl
    have r0 := HZ8.out.cell (j := 0) rfl
    have r1 := HZ8.out.cell (j := 1) rfl
    have r2 := HZ8.out.cell (j := 2) rfl
    have r3 := HZ8.out.cell (j := 3) rfl
    have f0 := HZ8.out.free 0
    have f1 := HZ8.out.free 1
    have f2 := HZ8.out.free 2
    have f3 := HZ8.out.free 3
    clear hF
    skip
    go_wp2_with fail
    refine bodyPost_ret (results_row_tmp rfl _ _ B 34 #[.int .i64 lf.c, .int .i64 lf.r, .int .i64 lf.d, .int .i64 lf.p] (0, 0) _ rfl ?_ Tryz.underlying34 rfl (by kernel_rfl)) rfl ⟨rfl, ?_⟩
    · exact (((HZ8.out.set 0 (.int .i64 lf.c)).set 1 (.int .i64 lf.r)).set 2 (.int .i64 lf.d)).set 3 (.int .i64 lf.p)
    · exact bel_set4 HB8.out HBW.out
  · refine at_hide (F := fun w' => Blk w' w6.heap.size (amC lf) 34 ∧ Blk w' B (amC .zero) 34 ∧ Below wq.heap.size wq w') ?_ ?_
    · exact ⟨blk4 HQ7.out, blk4_other (HBB.out _ HB7.out) (by have h1 := HB6.out.size; have h2 := C5.out.lt; omega), bel_set4 HB7.out HB6.out.size⟩
    intro w8 hF
    have HL8 := Lib.hid hF.1
    have HZ8 := Lib.hid hF.2.1
    have HB8 := Lib.hid (below_and HB5.out hF.2.2)
    have l0 := HL8.out.cell (j := 0) rfl
    have l1 := HL8.out.cell (j := 1) rfl
    have l2 := HL8.out.cell (j := 2) rfl
    have l3 := HL8.out.cell (j := 3) rfl
    have r0 := HZ8.out.cell (j := 0) rfl
    have r1 := HZ8.out.cell (j := 1) rfl
    have r2 := HZ8.out.cell (j := 2) rfl
    have r3 := HZ8.out.cell (j := 3) rfl
    have f0 := HZ8.out.free 0
    have f1 := HZ8.out.free 1
    have f2 := HZ8.out.free 2
    have f3 := HZ8.out.free 3
    clear hF
    clear q0 q1 q2 q3 p0 p1 p2 p3
    go_wp2_with fail
    refine bodyPost_ret (results_row_tmp rfl _ _ B 34 #[.int .i64 lf.c, .int .i64 lf.r, .int .i64 lf.d, .int .i64 lf.p] (0, 0) _ rfl ?_ Tryz.underlying34 rfl (by kernel_rfl)) rfl ⟨rfl, ?_⟩
    · exact (((HZ8.out.set 0 (.int .i64 lf.c)).set 1 (.int .i64 lf.r)).set 2 (.int .i64 lf.d)).set 3 (.int .i64 lf.p)
    · exact bel_set4 HB8.out HBW.out
  · refine at_hide (F := fun w' => Blk w' wq.heap.size (amC lf) 34 ∧ Blk w' B (amC .zero) 34 ∧ Below wq.heap.size wq w') ?_ ?_
    · exact ⟨blk4 HQ7.out, blk4_other (HBB.out _ HB7.out) (by have h1 := (Nat.le_refl wq.heap.size); have h2 := C5.out.lt; omega), bel_set4 HB7.out (Nat.le_refl wq.heap.size)⟩
    intro w8 hF
    have HL8 := Lib.hid hF.1
    have HZ8 := Lib.hid hF.2.1
    have HB8 := Lib.hid (below_and HB5.out hF.2.2)
    have l0 := HL8.out.cell (j := 0) rfl
    have l1 := HL8.out.cell (j := 1) rfl
    have l2 := HL8.out.cell (j := 2) rfl
    have l3 := HL8.out.cell (j := 3) rfl
    have r0 := HZ8.out.cell (j := 0) rfl
    have r1 := HZ8.out.cell (j := 1) rfl
    have r2 := HZ8.out.cell (j := 2) rfl
    have r3 := HZ8.out.cell (j := 3) rfl
    have f0 := HZ8.out.free 0
    have f1 := HZ8.out.free 1
    have f2 := HZ8.out.free 2
    have f3 := HZ8.out.free 3
    clear hF
    clear q0 q1 q2 q3 p0 p1 p2 p3
    go_wp2_with fail
    refine bodyPost_ret (results_row_tmp rfl _ _ B 34 #[.int .i64 lf.c, .int .i64 lf.r, .int .i64 lf.d, .int .i64 lf.p] (0, 0) _ rfl ?_ Tryz.underlying34 rfl (by kernel_rfl)) rfl ⟨rfl, ?_⟩
    · exact (((HZ8.out.set 0 (.int .i64 lf.c)).set 1 (.int .i64 lf.r)).set 2 (.int .i64 lf.d)).set 3 (.int .i64 lf.p)
    · exact bel_set4 HB8.out HBW.out
/-- what Left answers -/
theorem bleft_any (b mg mc : Nat) (G : List Gr) (C : List Ch) (u : ByteArray) (d : Int) (w : World) (h : Bk w b mg mc G C) (hi : ChI C) (hnm : ∀ e ∈ C, 0 < e.n.size) (hg : ∀ u d, (grantA G u d).okB = true) (hd1 : -9223372036854775808 ≤ d) (hd2 : d ≤ 9223372036854775807) :
    Calls Tryz.prog 22 #[ptr b, .string u, .int .i64 d] w fun e w' => e = .returned (.tuple #[amV (leftP G C u d).1, .int .i64 (leftP G C u d).2]) ∧ Below w.heap.size w w' := by
  unfold leftP
  cases hk : askB u d
  · exact bleft_bad b mg mc G C u d w h hi hnm hd1 hd2 hk
  · exact bleft_ok b mg mc G C u d w h hi hnm (hg u d) hk
end Go.Proofs.YtmgbailpmcggiaaGreat
namespace Go.Proofs.YtmgbailpmcggiaaGreat
open Go.RowKit


set_option maxRecDepth 100000 in
set_option maxHeartbeats 2000000 in
theorem bchange_b1 (b mg mc : Nat) (G : List Gr) (C : List Ch) (n : ByteArray) (a : Am) (w : World) (h : Bk w b mg mc G C) (hn : nmdB n = false) :
    Calls Tryz.prog 13 #[ptr b, .string n, amV a] w fun e w' => e = .returned (.int .i64 2) ∧ Below w.heap.size w w' := by
  obtain ⟨w3, hw3⟩ : ∃ w3, w3 = w.alloc (.cells #[.int .i64 a.c, .int .i64 a.r, .int .i64 a.d, .int .i64 a.p] 34) := ⟨_, rfl⟩
  obtain ⟨B, hB⟩ : ∃ B, B = w.heap.size := ⟨_, rfl⟩
  have B0 : Hid (Blk w3 B (amC a) 34) := Lib.hid (by rw [hw3, hB]; exact Blk.made w (amC a) _)
  have HBL : Hid (Below w.heap.size w w3) := Lib.hid (by rw [hw3]; exact below_alloc w _)
  have H3 := Lib.hid (h.kept HBL.out)
  have c0 := B0.out.cell (j := 0) rfl
  have c1 := B0.out.cell (j := 1) rfl
  have c2 := B0.out.cell (j := 2) rfl
  have c3 := B0.out.cell (j := 3) rfl
  have HNE : Hid (nmdE n = 2) := Lib.hid (by unfold nmdE; rw [hn]; rfl)
  clear h hn
  go_enter Tryz.func13, Tryz.ntmps13
  go_upto_region 1 with fail
  rw [← hw3, ← hB]
  clear hw3 hB
  go_wp2_with (go_at_call 32; refine (named_made b mg mc G C n _ H3.out).mono ?_; rw [HNE.out]; rintro e w4 ⟨rfl, rfl⟩)
  go_ret
  exact ⟨rfl, HBL.out⟩

set_option maxRecDepth 100000 in
set_option maxHeartbeats 2000000 in
theorem bchange_b2 (b mg mc : Nat) (G : List Gr) (C : List Ch) (n : ByteArray) (a : Am) (w : World) (h : Bk w b mg mc G C) (hn : nmdB n = true) (ha : a.okB = false) :
    Calls Tryz.prog 13 #[ptr b, .string n, amV a] w fun e w' => e = .returned (.int .i64 2) ∧ Below w.heap.size w w' := by
  obtain ⟨w3, hw3⟩ : ∃ w3, w3 = w.alloc (.cells #[.int .i64 a.c, .int .i64 a.r, .int .i64 a.d, .int .i64 a.p] 34) := ⟨_, rfl⟩
  obtain ⟨B, hB⟩ : ∃ B, B = w.heap.size := ⟨_, rfl⟩
  have B0 : Hid (Blk w3 B (amC a) 34) := Lib.hid (by rw [hw3, hB]; exact Blk.made w (amC a) _)
  have HBL : Hid (Below w.heap.size w w3) := Lib.hid (by rw [hw3]; exact below_alloc w _)
  have H3 := Lib.hid (h.kept HBL.out)
  have c0 := B0.out.cell (j := 0) rfl
  have c1 := B0.out.cell (j := 1) rfl
  have c2 := B0.out.cell (j := 2) rfl
  have c3 := B0.out.cell (j := 3) rfl
  have HNE : Hid (nmdE n = 0) := Lib.hid (by unfold nmdE; rw [hn]; rfl)
  have HA : Hid (a.chk = 2) := Lib.hid (Am.chk_no ha)
  clear h hn ha
  go_enter Tryz.func13, Tryz.ntmps13
  go_upto_region 1 with fail
  rw [← hw3, ← hB]
  clear hw3 hB
  go_wp2_with (first | (go_at_call 32; refine (named_made b mg mc G C n _ H3.out).mono ?_; rw [HNE.out]; rintro e w4 ⟨rfl, rfl⟩) | (go_at_call 31; refine (check_any a _).mono ?_; rw [HA.out]; rintro e w4 ⟨rfl, hb⟩; have HB4 := Lib.hid (below_and HBL.out hb); have H4 := Lib.hid (H3.out.kept hb); have C4 := Lib.hid (B0.out.kept hb); clear hb c0 c1 c2 c3))
  go_ret
  exact ⟨rfl, HB4.out⟩

set_option maxRecDepth 100000 in
set_option maxHeartbeats 2000000 in
theorem bchange_b3 (b mg mc : Nat) (G : List Gr) (C : List Ch) (n : ByteArray) (a : Am) (w : World) (h : Bk w b mg mc G C) (hn : nmdB n = true) (ha : a.okB = true) (hx : kfnd Ch.key C n.data.toList = none) :
    Calls Tryz.prog 13 #[ptr b, .string n, amV a] w fun e w' => e = .returned (.int .i64 6) ∧ Below w.heap.size w w' := by
  obtain ⟨w3, hw3⟩ : ∃ w3, w3 = w.alloc (.cells #[.int .i64 a.c, .int .i64 a.r, .int .i64 a.d, .int .i64 a.p] 34) := ⟨_, rfl⟩
  obtain ⟨B, hB⟩ : ∃ B, B = w.heap.size := ⟨_, rfl⟩
  have B0 : Hid (Blk w3 B (amC a) 34) := Lib.hid (by rw [hw3, hB]; exact Blk.made w (amC a) _)
  have HBL : Hid (Below w.heap.size w w3) := Lib.hid (by rw [hw3]; exact below_alloc w _)
  have H3 := Lib.hid (h.kept HBL.out)
  have c0 := B0.out.cell (j := 0) rfl
  have c1 := B0.out.cell (j := 1) rfl
  have c2 := B0.out.cell (j := 2) rfl
  have c3 := B0.out.cell (j := 3) rfl
  have HNE : Hid (nmdE n = 0) := Lib.hid (by unfold nmdE; rw [hn]; rfl)
  have HA : Hid (a.chk = 0) := Lib.hid (Am.chk_yes ha)
  have HLK : Hid (∀ w', SMap Tryz.prog 9 w' mc (chM C) → (Instr.lookup 45 (.map (some mc)) (.string n) true).run Tryz.prog w' = .ok (.tuple #[chV zC, .bool false]) w') := Lib.hid (fun w' h' => by rw [charge_look h' (nmdB_len hn), hx]; rfl)
  clear h hn ha hx
  go_enter Tryz.func13, Tryz.ntmps13
  go_upto_region 1 with fail
  rw [← hw3, ← hB]
  clear hw3 hB
  go_upto_region 7 with (first | (go_at_call 32; refine (named_made b mg mc G C n _ H3.out).mono ?_; rw [HNE.out]; rintro e w4 ⟨rfl, rfl⟩) | (go_at_call 31; refine (check_any a _).mono ?_; rw [HA.out]; rintro e w4 ⟨rfl, hb⟩; have HB4 := Lib.hid (below_and HBL.out hb); have H4 := Lib.hid (H3.out.kept hb); have C4 := Lib.hid (B0.out.kept hb); clear hb c0 c1 c2 c3))
  have g1 := H4.out.blk.cell (j := 1) rfl
  have hlk := HLK.out _ H4.out.cm
  go_wp2_with fail
  go_ret
  exact ⟨rfl, below_and HB4.out (below_alloc _ _)⟩

theorem Bk.set {w : World} {b mg mc : Nat} {G : List Gr} {C : List Ch} (h : Bk w b mg mc G C) {X : Nat} (h1 : X ≠ b) (h2 : X ≠ mg) (h3 : X ≠ mc) (k : Nat) (v : Value) : Bk (w.setCell ⟨X, k, none⟩ v) b mg mc G C := by
  have hg : w.grownBy (w.setCell ⟨X, k, none⟩ v) (some X) := grown_set (grown_refl w (some X)) k v
  exact ⟨h.blk.other (a := ⟨X, k, none⟩) (by simpa using Ne.symm h1) v, h.gm.grown hg (by simpa using Ne.symm h2), h.cm.grown hg (by simpa using Ne.symm h3), h.n1, h.n2, h.n3⟩


set_option maxRecDepth 100000 in
set_option maxHeartbeats 2000000 in
theorem bchange_b4 (b mg mc : Nat) (G : List Gr) (C : List Ch) (n : ByteArray) (a : Am) (w : World) (h : Bk w b mg mc G C) (x : Ch) (hi : ChI C) (hn : nmdB n = true) (ha : a.okB = true) (hx : kfnd Ch.key C n.data.toList = some x) (hk : askB x.u x.b = true) (m : Int) (hm : mayP G C ⟨x.n, x.u, x.b, a⟩ (fitsB a x.a) = m) (hm0 : m ≠ 0) :
    Calls Tryz.prog 13 #[ptr b, .string n, amV a] w fun e w' => e = .returned (.int .i64 m) ∧ Below w.heap.size w w' := by
  obtain ⟨w3, hw3⟩ : ∃ w3, w3 = w.alloc (.cells #[.int .i64 a.c, .int .i64 a.r, .int .i64 a.d, .int .i64 a.p] 34) := ⟨_, rfl⟩
  obtain ⟨B, hB⟩ : ∃ B, B = w.heap.size := ⟨_, rfl⟩
  have B0 : Hid (Blk w3 B (amC a) 34) := Lib.hid (by rw [hw3, hB]; exact Blk.made w (amC a) _)
  have HBL : Hid (Below w.heap.size w w3) := Lib.hid (by rw [hw3]; exact below_alloc w _)
  have H3 := Lib.hid (h.kept HBL.out)
  have c0 := B0.out.cell (j := 0) rfl
  have c1 := B0.out.cell (j := 1) rfl
  have c2 := B0.out.cell (j := 2) rfl
  have c3 := B0.out.cell (j := 3) rfl
  have HNE : Hid (nmdE n = 0) := Lib.hid (by unfold nmdE; rw [hn]; rfl)
  have HA : Hid (a.chk = 0) := Lib.hid (Am.chk_yes ha)
  have HLK : Hid (∀ w', SMap Tryz.prog 9 w' mc (chM C) → (Instr.lookup 45 (.map (some mc)) (.string n) true).run Tryz.prog w' = .ok (.tuple #[chV x, .bool true]) w') := Lib.hid (fun w' h' => by rw [charge_look h' (nmdB_len hn), hx]; rfl)
  obtain ⟨ls, hls⟩ : ∃ ls, ls = fitsB a x.a := ⟨_, rfl⟩
  have HFT : Hid (∀ w', Calls Tryz.prog 34 #[amV a, amV x.a] w' fun e w2 => e = .returned (.bool ls) ∧ Below w'.heap.size w' w2) := Lib.hid (fun w' => by rw [hls]; exact fits_any a x.a w')
  have HMY : Hid (∀ w', Bk w' b mg mc G C → Calls Tryz.prog 33 #[ptr b, chV ⟨x.n, x.u, x.b, a⟩, .bool ls] w' fun e w2 => e = .returned (.int .i64 m) ∧ Below w'.heap.size w' w2) := Lib.hid (fun w' h' => by have h9 := bmay_any b mg mc G C ⟨x.n, x.u, x.b, a⟩ ls w' h' hi hk; rw [hls, hm] at h9; rw [hls]; exact h9)
  have m0 : (m != 0) = true := by simpa using hm0
  clear h hi hn ha hx hk hm hm0 hls
  go_enter Tryz.func13, Tryz.ntmps13
  go_upto_region 1 with fail
  rw [← hw3, ← hB]
  clear hw3 hB
  go_upto_region 7 with (first | (go_at_call 32; refine (named_made b mg mc G C n _ H3.out).mono ?_; rw [HNE.out]; rintro e w4 ⟨rfl, rfl⟩) | (go_at_call 31; refine (check_any a _).mono ?_; rw [HA.out]; rintro e w4 ⟨rfl, hb⟩; have HB4 := Lib.hid (below_and HBL.out hb); have H4 := Lib.hid (H3.out.kept hb); have C4 := Lib.hid (B0.out.kept hb); clear hb c0 c1 c2 c3))
  have g1 := H4.out.blk.cell (j := 1) rfl
  have hlk := HLK.out _ H4.out.cm
  go_upto_region 10 with fail
  obtain ⟨w5, hw5⟩ : ∃ w5, w5 = w4.alloc (.cells #[.string x.n, .string x.u, .int .i64 x.b, .int .i64 x.a.c, .int .i64 x.a.r, .int .i64 x.a.d, .int .i64 x.a.p] 43) := ⟨_, rfl⟩
  obtain ⟨X, hX⟩ : ∃ X, X = w4.heap.size := ⟨_, rfl⟩
  have hb5 : Below w4.heap.size w4 w5 := by rw [hw5]; exact below_alloc _ _
  have HB5 := Lib.hid (below_and HB4.out hb5)
  have H5 := Lib.hid (H4.out.kept hb5)
  have C5 := Lib.hid (C4.out.kept hb5)
  have X5 : Hid (Blk w5 X (chC x) 43) := Lib.hid (by rw [hw5, hX]; exact Blk.made w4 (chC x) _)
  have HXW : Hid (w.heap.size ≤ X ∧ w4.heap.size ≤ X) := Lib.hid (by have := HB4.out.size; omega)
  have HXN : Hid (X ≠ b ∧ X ≠ mg ∧ X ≠ mc ∧ X ≠ B) := Lib.hid (by have h1 := H4.out.blk.lt; have h2 := H4.out.gm.lt; have h3 := H4.out.cm.lt; have h4 := C4.out.lt; omega)
  rw [← hw5, ← hX]
  clear hw5 hX hb5 g1 hlk
  have c0 := C5.out.cell (j := 0) rfl
  have c1 := C5.out.cell (j := 1) rfl
  have c2 := C5.out.cell (j := 2) rfl
  have c3 := C5.out.cell (j := 3) rfl
  have x0 := X5.out.cell (j := 0) rfl
  have x1 := X5.out.cell (j := 1) rfl
  have x2 := X5.out.cell (j := 2) rfl
  have x3 := X5.out.cell (j := 3) rfl
  have x4 := X5.out.cell (j := 4) rfl
  have x5 := X5.out.cell (j := 5) rfl
  have x6 := X5.out.cell (j := 6) rfl
  go_upto_region 11 with (go_at_call 34; refine (HFT.out _).mono ?_; rintro e w6 ⟨rfl, hb⟩; have HB6 := Lib.hid (below_and HB5.out hb); have H6 := Lib.hid (H5.out.kept hb); have C6 := Lib.hid (C5.out.kept hb); have X6 := Lib.hid (X5.out.kept hb); clear hb c0 c1 c2 c3 x0 x1 x2 x3 x4 x5 x6)
  have c0 := C6.out.cell (j := 0) rfl
  have c1 := C6.out.cell (j := 1) rfl
  have c2 := C6.out.cell (j := 2) rfl
  have c3 := C6.out.cell (j := 3) rfl
  have x3 := X6.out.cell (j := 3) rfl
  have f3 := X6.out.free 3
  have x4 := X6.out.cell (j := 4) rfl
  have f4 := X6.out.free 4
  have x5 := X6.out.cell (j := 5) rfl
  have f5 := X6.out.free 5
  have x6 := X6.out.cell (j := 6) rfl
  have f6 := X6.out.free 6
  go_upto_region 12 with fail
  refine at_hide (F := fun w' => Blk w' X (chC ⟨x.n, x.u, x.b, a⟩) 43 ∧ Bk w' b mg mc G C ∧ Below w.heap.size w w') ?_ ?_
  · refine ⟨(((X6.out.set 3 (.int .i64 a.c)).set 4 (.int .i64 a.r)).set 5 (.int .i64 a.d)).set 6 (.int .i64 a.p), ?_, ?_⟩
    · exact (((H6.out.set HXN.out.1 HXN.out.2.1 HXN.out.2.2.1 3 _).set HXN.out.1 HXN.out.2.1 HXN.out.2.2.1 4 _).set HXN.out.1 HXN.out.2.1 HXN.out.2.2.1 5 _).set HXN.out.1 HXN.out.2.1 HXN.out.2.2.1 6 _
    · exact (((HB6.out.setCell (p := ⟨X, 3, none⟩) HXW.out.1 _).setCell (p := ⟨X, 4, none⟩) HXW.out.1 _).setCell (p := ⟨X, 5, none⟩) HXW.out.1 _).setCell (p := ⟨X, 6, none⟩) HXW.out.1 _
  intro w7 hF
  have X7 := Lib.hid hF.1
  have H7 := Lib.hid hF.2.1
  have HB7 := Lib.hid hF.2.2
  clear hF c0 c1 c2 c3 x3 x4 x5 x6 f3 f4 f5 f6
  have x0 := X7.out.cell (j := 0) rfl
  have x1 := X7.out.cell (j := 1) rfl
  have x2 := X7.out.cell (j := 2) rfl
  have x3 := X7.out.cell (j := 3) rfl
  have x4 := X7.out.cell (j := 4) rfl
  have x5 := X7.out.cell (j := 5) rfl
  have x6 := X7.out.cell (j := 6) rfl
  go_wp2_with (go_at_call 33; refine (HMY.out _ H7.out).mono ?_; rintro e w8 ⟨rfl, hb⟩; have HB8 := Lib.hid (below_and HB7.out hb); have H8 := Lib.hid (H7.out.kept hb); have X8 := Lib.hid (X7.out.kept hb); clear hb)
  go_ret
  exact ⟨rfl, HB8.out⟩

set_option maxRecDepth 100000 in
set_option maxHeartbeats 2000000 in
theorem bchange_ok (b mg mc : Nat) (G : List Gr) (C : List Ch) (n : ByteArray) (a : Am) (w : World) (h : Bk w b mg mc G C) (x : Ch) (hi : ChI C) (hn : nmdB n = true) (ha : a.okB = true) (hx : kfnd Ch.key C n.data.toList = some x) (hk : askB x.u x.b = true) (hm : mayP G C ⟨x.n, x.u, x.b, a⟩ (fitsB a x.a) = 0) (hl : C.length < maxLen) :
    Calls Tryz.prog 13 #[ptr b, .string n, amV a] w fun e w' => e = .returned (.int .i64 0) ∧ Bk w' b mg mc G (kput Ch.key C ⟨x.n, x.u, x.b, a⟩) ∧ Fr [mg, mc] w w' := by
  obtain ⟨w3, hw3⟩ : ∃ w3, w3 = w.alloc (.cells #[.int .i64 a.c, .int .i64 a.r, .int .i64 a.d, .int .i64 a.p] 34) := ⟨_, rfl⟩
  obtain ⟨B, hB⟩ : ∃ B, B = w.heap.size := ⟨_, rfl⟩
  have B0 : Hid (Blk w3 B (amC a) 34) := Lib.hid (by rw [hw3, hB]; exact Blk.made w (amC a) _)
  have HBL : Hid (Below w.heap.size w w3) := Lib.hid (by rw [hw3]; exact below_alloc w _)
  have H3 := Lib.hid (h.kept HBL.out)
  have c0 := B0.out.cell (j := 0) rfl
  have c1 := B0.out.cell (j := 1) rfl
  have c2 := B0.out.cell (j := 2) rfl
  have c3 := B0.out.cell (j := 3) rfl
  have HNE : Hid (nmdE n = 0) := Lib.hid (by unfold nmdE; rw [hn]; rfl)
  have HA : Hid (a.chk = 0) := Lib.hid (Am.chk_yes ha)
  have HLK : Hid (∀ w', SMap Tryz.prog 9 w' mc (chM C) → (Instr.lookup 45 (.map (some mc)) (.string n) true).run Tryz.prog w' = .ok (.tuple #[chV x, .bool true]) w') := Lib.hid (fun w' h' => by rw [charge_look h' (nmdB_len hn), hx]; rfl)
  obtain ⟨ls, hls⟩ : ∃ ls, ls = fitsB a x.a := ⟨_, rfl⟩
  have HFT : Hid (∀ w', Calls Tryz.prog 34 #[amV a, amV x.a] w' fun e w2 => e = .returned (.bool ls) ∧ Below w'.heap.size w' w2) := Lib.hid (fun w' => by rw [hls]; exact fits_any a x.a w')
  have HMY : Hid (∀ w', Bk w' b mg mc G C → Calls Tryz.prog 33 #[ptr b, chV ⟨x.n, x.u, x.b, a⟩, .bool ls] w' fun e w2 => e = .returned (.int .i64 0) ∧ Below w'.heap.size w' w2) := Lib.hid (fun w' h' => by have h9 := bmay_any b mg mc G C ⟨x.n, x.u, x.b, a⟩ ls w' h' hi hk; rw [hls, hm] at h9; rw [hls]; exact h9)
  have HL : Hid ((chM C).length < maxLen) := Lib.hid (by unfold chM; rw [kM_len]; exact hl)
  have HPT : Hid ((chM C).put n.data.toList (chV ⟨x.n, x.u, x.b, a⟩) = chM (kput Ch.key C ⟨x.n, x.u, x.b, a⟩)) := Lib.hid (by rw [← (kfnd_mem hx).2]; exact kM_put (key := Ch.key) (val := chV) C ⟨x.n, x.u, x.b, a⟩)
  have HNL : Hid (n.size ≤ maxLen) := Lib.hid (nmdB_len hn)
  clear h hi hn ha hx hk hm hl hls
  go_enter Tryz.func13, Tryz.ntmps13
  go_upto_region 1 with fail
  rw [← hw3, ← hB]
  clear hw3 hB
  go_upto_region 7 with (first | (go_at_call 32; refine (named_made b mg mc G C n _ H3.out).mono ?_; rw [HNE.out]; rintro e w4 ⟨rfl, rfl⟩) | (go_at_call 31; refine (check_any a _).mono ?_; rw [HA.out]; rintro e w4 ⟨rfl, hb⟩; have HB4 := Lib.hid (below_and HBL.out hb); have H4 := Lib.hid (H3.out.kept hb); have C4 := Lib.hid (B0.out.kept hb); clear hb c0 c1 c2 c3))
  have g1 := H4.out.blk.cell (j := 1) rfl
  have hlk := HLK.out _ H4.out.cm
  go_upto_region 10 with fail
  obtain ⟨w5, hw5⟩ : ∃ w5, w5 = w4.alloc (.cells #[.string x.n, .string x.u, .int .i64 x.b, .int .i64 x.a.c, .int .i64 x.a.r, .int .i64 x.a.d, .int .i64 x.a.p] 43) := ⟨_, rfl⟩
  obtain ⟨X, hX⟩ : ∃ X, X = w4.heap.size := ⟨_, rfl⟩
  have hb5 : Below w4.heap.size w4 w5 := by rw [hw5]; exact below_alloc _ _
  have HB5 := Lib.hid (below_and HB4.out hb5)
  have H5 := Lib.hid (H4.out.kept hb5)
  have C5 := Lib.hid (C4.out.kept hb5)
  have X5 : Hid (Blk w5 X (chC x) 43) := Lib.hid (by rw [hw5, hX]; exact Blk.made w4 (chC x) _)
  have HXW : Hid (w.heap.size ≤ X ∧ w4.heap.size ≤ X) := Lib.hid (by have := HB4.out.size; omega)
  have HXN : Hid (X ≠ b ∧ X ≠ mg ∧ X ≠ mc ∧ X ≠ B) := Lib.hid (by have h1 := H4.out.blk.lt; have h2 := H4.out.gm.lt; have h3 := H4.out.cm.lt; have h4 := C4.out.lt; omega)
  rw [← hw5, ← hX]
  clear hw5 hX hb5 g1 hlk
  have c0 := C5.out.cell (j := 0) rfl
  have c1 := C5.out.cell (j := 1) rfl
  have c2 := C5.out.cell (j := 2) rfl
  have c3 := C5.out.cell (j := 3) rfl
  have x0 := X5.out.cell (j := 0) rfl
  have x1 := X5.out.cell (j := 1) rfl
  have x2 := X5.out.cell (j := 2) rfl
  have x3 := X5.out.cell (j := 3) rfl
  have x4 := X5.out.cell (j := 4) rfl
  have x5 := X5.out.cell (j := 5) rfl
  have x6 := X5.out.cell (j := 6) rfl
  go_upto_region 11 with (go_at_call 34; refine (HFT.out _).mono ?_; rintro e w6 ⟨rfl, hb⟩; have HB6 := Lib.hid (below_and HB5.out hb); have H6 := Lib.hid (H5.out.kept hb); have C6 := Lib.hid (C5.out.kept hb); have X6 := Lib.hid (X5.out.kept hb); clear hb c0 c1 c2 c3 x0 x1 x2 x3 x4 x5 x6)
  have c0 := C6.out.cell (j := 0) rfl
  have c1 := C6.out.cell (j := 1) rfl
  have c2 := C6.out.cell (j := 2) rfl
  have c3 := C6.out.cell (j := 3) rfl
  have x3 := X6.out.cell (j := 3) rfl
  have f3 := X6.out.free 3
  have x4 := X6.out.cell (j := 4) rfl
  have f4 := X6.out.free 4
  have x5 := X6.out.cell (j := 5) rfl
  have f5 := X6.out.free 5
  have x6 := X6.out.cell (j := 6) rfl
  have f6 := X6.out.free 6
  go_upto_region 12 with fail
  refine at_hide (F := fun w' => Blk w' X (chC ⟨x.n, x.u, x.b, a⟩) 43 ∧ Bk w' b mg mc G C ∧ Below w.heap.size w w') ?_ ?_
  · refine ⟨(((X6.out.set 3 (.int .i64 a.c)).set 4 (.int .i64 a.r)).set 5 (.int .i64 a.d)).set 6 (.int .i64 a.p), ?_, ?_⟩
    · exact (((H6.out.set HXN.out.1 HXN.out.2.1 HXN.out.2.2.1 3 _).set HXN.out.1 HXN.out.2.1 HXN.out.2.2.1 4 _).set HXN.out.1 HXN.out.2.1 HXN.out.2.2.1 5 _).set HXN.out.1 HXN.out.2.1 HXN.out.2.2.1 6 _
    · exact (((HB6.out.setCell (p := ⟨X, 3, none⟩) HXW.out.1 _).setCell (p := ⟨X, 4, none⟩) HXW.out.1 _).setCell (p := ⟨X, 5, none⟩) HXW.out.1 _).setCell (p := ⟨X, 6, none⟩) HXW.out.1 _
  intro w7 hF
  have X7 := Lib.hid hF.1
  have H7 := Lib.hid hF.2.1
  have HB7 := Lib.hid hF.2.2
  clear hF c0 c1 c2 c3 x3 x4 x5 x6 f3 f4 f5 f6
  have x0 := X7.out.cell (j := 0) rfl
  have x1 := X7.out.cell (j := 1) rfl
  have x2 := X7.out.cell (j := 2) rfl
  have x3 := X7.out.cell (j := 3) rfl
  have x4 := X7.out.cell (j := 4) rfl
  have x5 := X7.out.cell (j := 5) rfl
  have x6 := X7.out.cell (j := 6) rfl
  go_upto_region 15 with (go_at_call 33; refine (HMY.out _ H7.out).mono ?_; rintro e w8 ⟨rfl, hb⟩; have HB8 := Lib.hid (below_and HB7.out hb); have H8 := Lib.hid (H7.out.kept hb); have X8 := Lib.hid (X7.out.kept hb); clear hb)
  clear x0 x1 x2 x3 x4 x5 x6
  have x0 := Past.blk X8.out (j := 0) rfl
  have x1 := Past.blk X8.out (j := 1) rfl
  have x2 := Past.blk X8.out (j := 2) rfl
  have x3 := Past.blk X8.out (j := 3) rfl
  have x4 := Past.blk X8.out (j := 4) rfl
  have x5 := Past.blk X8.out (j := 5) rfl
  have x6 := Past.blk X8.out (j := 6) rfl
  have g1 := Past.blk H8.out.blk (j := 1) rfl
  refine wp_region_past_one rfl (by kernel_rfl) (by kernel_rfl) (by kernel_rfl) ?_
  repeat (go_big_quiet_step (fail))
  refine wpQuiet_nil ?_
  intro _ hw'
  obtain ⟨s9, hw''⟩ := hw'
  subst hw''
  obtain ⟨w9, h9, e9⟩ : ∃ w9, Below w8.heap.size w8 w9 ∧ w9 = s9.val := ⟨_, s9.h, rfl⟩
  rw [← e9]
  have HB9 := Lib.hid (below_and HB8.out h9)
  have H9 := Lib.hid (H8.out.kept h9)
  clear h9 e9 x0 x1 x2 x3 x4 x5 x6 g1
  go_wp2_with (refine wpList_sput _ rfl _ _ _ _ rfl 9 43 Tryz.underlying9 Tryz.underlying45 mc (chM C) rfl H9.out.cm HL.out n (chV ⟨x.n, x.u, x.b, a⟩) rfl rfl HNL.out ?_; intro v8 hp8 hg8; rw [HPT.out] at hp8; have HP8 := Lib.hid hp8; have HG8 := Lib.hid hg8; clear hp8 hg8)
  go_ret
  exact ⟨rfl, bk_c H9.out HP8.out HG8.out, fr_c HB9.out HG8.out⟩

theorem bchange_any (b mg mc : Nat) (G : List Gr) (C : List Ch) (n : ByteArray) (a : Am) (w : World) (h : Bk w b mg mc G C) (hi : ChI C) (hu : ∀ e ∈ C, askB e.u e.b = true) (hl : C.length < maxLen) :
    Calls Tryz.prog 13 #[ptr b, .string n, amV a] w fun e w' => e = .returned (.int .i64 (changeP G C n a).1) ∧ Bk w' b mg mc G (changeP G C n a).2 ∧ Fr [mg, mc] w w' := by
  have up : ∀ r, changeP G C n a = (r, C) → (Calls Tryz.prog 13 #[ptr b, .string n, amV a] w fun e w' => e = .returned (.int .i64 r) ∧ Below w.heap.size w w') → Calls Tryz.prog 13 #[ptr b, .string n, amV a] w fun e w' => e = .returned (.int .i64 (changeP G C n a).1) ∧ Bk w' b mg mc G (changeP G C n a).2 ∧ Fr [mg, mc] w w' := by
    intro r hr hc
    rw [hr]
    exact hc.mono fun e w' ⟨h1, h2⟩ => ⟨h1, bk_stay h h2⟩
  cases hn : nmdB n
  · exact up 2 (by unfold changeP; rw [hn]; rfl) (bchange_b1 b mg mc G C n a w h hn)
  cases ha : a.okB
  · exact up 2 (by unfold changeP; rw [hn, ha]; rfl) (bchange_b2 b mg mc G C n a w h hn ha)
  have h0 : ¬ (nmdB n && a.okB) = false := by rw [hn, ha]; simp
  cases hx : kfnd Ch.key C n.data.toList with
  | none => exact up 6 (by unfold changeP; rw [if_neg h0, hx]) (bchange_b3 b mg mc G C n a w h hn ha hx)
  | some x =>
    have hk := hu x (kfnd_mem hx).1
    by_cases hm : mayP G C ⟨x.n, x.u, x.b, a⟩ (fitsB a x.a) = 0
    · have hr : changeP G C n a = (0, kput Ch.key C ⟨x.n, x.u, x.b, a⟩) := by
        unfold changeP
        rw [if_neg h0, hx]
        show (if _ then _ else _) = _
        rw [if_neg (by simpa using hm)]
      rw [hr]
      exact bchange_ok b mg mc G C n a w h x hi hn ha hx hk hm hl
    · refine up (mayP G C ⟨x.n, x.u, x.b, a⟩ (fitsB a x.a)) ?_ (bchange_b4 b mg mc G C n a w h x hi hn ha hx hk _ rfl hm)
      unfold changeP
      rw [if_neg h0, hx]
      show (if _ then _ else _) = _
      rw [if_pos hm]
end Go.Proofs.YtmgbailpmcggiaaGreat
namespace Go.Proofs
open Go.RowKit Go.Maps Go.Sort Go.Shelf
def Tryz.keys47_ren : Go.Shelf.Ren := ⟨fun | 7 => 47 | 10 => 66 | n => n, fun | 23 => 45 | 26 => 9 | 3 => 43 | 28 => 77 | 0 => 0 | 27 => 76 | 33 => 83 | 4 => 4 | n => n, fun | n => n⟩
theorem Tryz.keys47 : Go.Proofs.SlLaysZ.n7 Tryz.prog Tryz.keys47_ren := {
  mixed := by kernel_rfl
  f7 := ⟨Tryz.f47.name, by decide, Tryz.func47.trans (congrArg some (by kernel_rfl))⟩
  f10 := ⟨Tryz.f66.name, by decide, Tryz.func66.trans (congrArg some (by kernel_rfl))⟩
  t0 := Tryz.underlying0
  a0 := Tryz.isAgg0
  z0 := Tryz.sizeOf0
  v0 := Tryz.zeroValue0
  t4 := Tryz.underlying4
  a4 := Tryz.isAgg4
  z4 := Tryz.sizeOf4
  v4 := Tryz.zeroValue4
  t23 := Tryz.underlying45
  a23 := Tryz.isAgg45
  z23 := Tryz.sizeOf45
  v23 := Tryz.zeroValue45
  t26 := Tryz.underlying9
  a26 := Tryz.isAgg9
  z26 := Tryz.sizeOf9
  v26 := Tryz.zeroValue9
  t27 := Tryz.underlying76
  a27 := Tryz.isAgg76
  z27 := Tryz.sizeOf76
  v27 := Tryz.zeroValue76
  t28 := Tryz.underlying77
  a28 := Tryz.isAgg77
  z28 := Tryz.sizeOf77
  v28 := Tryz.zeroValue77
  t33 := Tryz.underlying83
  a33 := Tryz.isAgg83
  z33 := Tryz.sizeOf83
  v33 := Tryz.zeroValue83 }
def Tryz.sorted46_ren : Go.Shelf.Ren := ⟨fun | 6 => 46 | 8 => 64 | 9 => 65 | 11 => 74 | 13 => 68 | 12 => 75 | 23 => 84 | 24 => 85 | 14 => 86 | 15 => 87 | 16 => 88 | 17 => 89 | 18 => 90 | 19 => 91 | 20 => 92 | 21 => 93 | 22 => 94 | 25 => 100 | 26 => 96 | 27 => 97 | 28 => 101 | 29 => 102 | 30 => 69 | 31 => 104 | n => n, fun | 26 => 9 | 28 => 77 | 24 => 74 | 0 => 0 | 3 => 3 | 37 => 98 | 48 => 115 | 50 => 117 | 4 => 4 | 40 => 108 | 39 => 107 | 45 => 112 | 5 => 5 | 9 => 9 | 51 => 124 | 55 => 128 | 57 => 132 | 58 => 133 | 33 => 83 | n => n, fun | n => n⟩
theorem Tryz.sorted46 : Go.Proofs.SlLaysZ.n6 Tryz.prog Tryz.sorted46_ren := {
  mixed := by kernel_rfl
  f6 := ⟨Tryz.f46.name, by decide, Tryz.func46.trans (congrArg some (by kernel_rfl))⟩
  f8 := ⟨Tryz.f64.name, by decide, Tryz.func64.trans (congrArg some (by kernel_rfl))⟩
  f11 := ⟨Tryz.f74.name, by decide, Tryz.func74.trans (congrArg some (by kernel_rfl))⟩
  t0 := Tryz.underlying0
  a0 := Tryz.isAgg0
  z0 := Tryz.sizeOf0
  v0 := Tryz.zeroValue0
  t24 := Tryz.underlying74
  a24 := Tryz.isAgg74
  z24 := Tryz.sizeOf74
  v24 := Tryz.zeroValue74
  t26 := Tryz.underlying9
  a26 := Tryz.isAgg9
  z26 := Tryz.sizeOf9
  v26 := Tryz.zeroValue9
  t28 := Tryz.underlying77
  a28 := Tryz.isAgg77
  z28 := Tryz.sizeOf77
  v28 := Tryz.zeroValue77
  i26 := by kernel_rfl }
def Tryz.sort65_ren : Go.Shelf.Ren := ⟨fun | 6 => 65 | 8 => 68 | 9 => 75 | 19 => 84 | 20 => 85 | 21 => 86 | 22 => 87 | 23 => 88 | 24 => 89 | 25 => 90 | 26 => 91 | 27 => 92 | 28 => 93 | 29 => 94 | 36 => 100 | 31 => 96 | 32 => 97 | 37 => 101 | 38 => 102 | 39 => 69 | 41 => 104 | n => n, fun | 27 => 74 | 29 => 9 | 3 => 3 | 32 => 98 | 26 => 74 | 0 => 0 | 44 => 115 | 46 => 117 | 4 => 4 | 36 => 108 | 35 => 107 | 41 => 112 | 5 => 5 | 9 => 9 | 53 => 124 | 57 => 128 | 63 => 132 | 64 => 133 | n => n, fun | n => n⟩
theorem Tryz.sort65 : Go.Proofs.SlLaysM.n6 Tryz.prog Tryz.sort65_ren := {
  mixed := by kernel_rfl
  f6 := ⟨Tryz.f65.name, by decide, Tryz.func65.trans (congrArg some (by kernel_rfl))⟩
  f8 := Tryz.func68.trans (congrArg some (by kernel_rfl))
  f9 := ⟨Tryz.f75.name, by decide, Tryz.func75.trans (congrArg some (by kernel_rfl))⟩
  f19 := Tryz.func84.trans (congrArg some (by kernel_rfl))
  f20 := Tryz.func85.trans (congrArg some (by kernel_rfl))
  f21 := ⟨Tryz.f86.name, by decide, Tryz.func86.trans (congrArg some (by kernel_rfl))⟩
  f22 := ⟨Tryz.f87.name, by decide, Tryz.func87.trans (congrArg some (by kernel_rfl))⟩
  f23 := ⟨Tryz.f88.name, by decide, Tryz.func88.trans (congrArg some (by kernel_rfl))⟩
  f24 := ⟨Tryz.f89.name, by decide, Tryz.func89.trans (congrArg some (by kernel_rfl))⟩
  f25 := ⟨Tryz.f90.name, by decide, Tryz.func90.trans (congrArg some (by kernel_rfl))⟩
  f26 := ⟨Tryz.f91.name, by decide, Tryz.func91.trans (congrArg some (by kernel_rfl))⟩
  f27 := ⟨Tryz.f92.name, by decide, Tryz.func92.trans (congrArg some (by kernel_rfl))⟩
  f28 := ⟨Tryz.f93.name, by decide, Tryz.func93.trans (congrArg some (by kernel_rfl))⟩
  f29 := ⟨Tryz.f94.name, by decide, Tryz.func94.trans (congrArg some (by kernel_rfl))⟩
  f31 := Tryz.func96.trans (congrArg some (by kernel_rfl))
  f32 := Tryz.func97.trans (congrArg some (by kernel_rfl))
  f36 := ⟨Tryz.f100.name, by decide, Tryz.func100.trans (congrArg some (by kernel_rfl))⟩
  f37 := ⟨Tryz.f101.name, by decide, Tryz.func101.trans (congrArg some (by kernel_rfl))⟩
  f38 := ⟨Tryz.f102.name, by decide, Tryz.func102.trans (congrArg some (by kernel_rfl))⟩
  f39 := ⟨Tryz.f69.name, by decide, Tryz.func69.trans (congrArg some (by kernel_rfl))⟩
  f41 := ⟨Tryz.f104.name, by decide, Tryz.func104.trans (congrArg some (by kernel_rfl))⟩
  t0 := Tryz.underlying0
  a0 := Tryz.isAgg0
  z0 := Tryz.sizeOf0
  v0 := Tryz.zeroValue0
  t3 := Tryz.underlying3
  a3 := Tryz.isAgg3
  z3 := Tryz.sizeOf3
  v3 := Tryz.zeroValue3
  t4 := Tryz.underlying4
  a4 := Tryz.isAgg4
  z4 := Tryz.sizeOf4
  v4 := Tryz.zeroValue4
  t5 := Tryz.underlying5
  a5 := Tryz.isAgg5
  z5 := Tryz.sizeOf5
  v5 := Tryz.zeroValue5
  t9 := Tryz.underlying9
  a9 := Tryz.isAgg9
  z9 := Tryz.sizeOf9
  v9 := Tryz.zeroValue9
  t26 := Tryz.underlying74
  a26 := Tryz.isAgg74
  z26 := Tryz.sizeOf74
  v26 := Tryz.zeroValue74
  t27 := Tryz.underlying74
  a27 := Tryz.isAgg74
  z27 := Tryz.sizeOf74
  v27 := Tryz.zeroValue74
  t29 := Tryz.underlying9
  a29 := Tryz.isAgg9
  z29 := Tryz.sizeOf9
  v29 := Tryz.zeroValue9
  t32 := Tryz.underlying98
  a32 := Tryz.isAgg98
  z32 := Tryz.sizeOf98
  v32 := Tryz.zeroValue98
  t35 := Tryz.underlying107
  a35 := Tryz.isAgg107
  z35 := Tryz.sizeOf107
  v35 := Tryz.zeroValue107
  t36 := Tryz.underlying108
  a36 := Tryz.isAgg108
  z36 := Tryz.sizeOf108
  v36 := Tryz.zeroValue108
  t41 := Tryz.underlying112
  a41 := Tryz.isAgg112
  z41 := Tryz.sizeOf112
  v41 := Tryz.zeroValue112
  t44 := Tryz.underlying115
  a44 := Tryz.isAgg115
  z44 := Tryz.sizeOf115
  v44 := Tryz.zeroValue115
  t46 := Tryz.underlying117
  a46 := Tryz.isAgg117
  z46 := Tryz.sizeOf117
  v46 := Tryz.zeroValue117
  t53 := Tryz.underlying124
  a53 := Tryz.isAgg124
  z53 := Tryz.sizeOf124
  v53 := Tryz.zeroValue124
  t57 := Tryz.underlying128
  a57 := Tryz.isAgg128
  z57 := Tryz.sizeOf128
  v57 := Tryz.zeroValue128
  t63 := Tryz.underlying132
  a63 := Tryz.isAgg132
  z63 := Tryz.sizeOf132
  v63 := Tryz.zeroValue132
  t64 := Tryz.underlying133
  a64 := Tryz.isAgg133
  z64 := Tryz.sizeOf133
  v64 := Tryz.zeroValue133 }
/-- slices.Sort's two contracts at this dump, at the fence that asks nothing. -/
theorem Tryz.sorts46 (m : Nat) : AnyZ.SortsIn Tryz.prog Tryz.sorted46_ren Fence.wide m :=
  ⟨fun blk off cap ss W hH hblk hsz => callsIn_wide.2 (AnyM.slices_Sort_string Tryz.sort65 blk off cap ss W hH hblk hsz),
   fun p cap W => callsIn_wide.2 (AnyM.slices_Sort_string_none Tryz.sort65 p cap W)⟩

/-- **maps.Keys[map[string]berthmaster/api.Charge,string,berthmaster/api.Charge], at whatever map, the nil one too:** a function value over ONE NEW BLOCK, which holds the map. -/
theorem Tryz.maps_Keys_47 (mb : Option Nat) (W : World) : CallsIn Fence.wide 5 Tryz.prog 47 #[.map mb] W fun e w' => e = .returned (.func (.func 66) #[] #[.pointer (some ⟨W.heap.size, 0, none⟩)]) ∧ w' = W.alloc (.cells #[.map mb] 45) :=
  AnyZ.keys_in Tryz.keys47 Fence.wide 5 trivial rfl mb W

set_option maxHeartbeats 1000000 in
/-- **slices.Sorted[string] AT WHAT maps.Keys[map[string]berthmaster/api.Charge,string,berthmaster/api.Charge] HANDED BACK FOR A MAP THAT IS NOT nil** ('w': the world AHEAD of maps.Keys' call): A NEW SLICE THAT HOLDS THE MAP's KEYS, SORTED; nil just where it has none; nothing that lay before has turned. -/
theorem Tryz.slices_Sorted_keys_46_47 {H : Type} (b nn : Nat) (D0 : DataW H) (R : Value → Option (DataW H × List MemPlace)) (w : World) (hown : w.ownsMap Tryz.prog 9 R b nn D0) (hmax : Maps.size D0 ≤ maxLen) (hbytes : Maps.size D0 * 16 ≤ 140737488355328) :
    CallsIn Fence.wide 5 Tryz.prog 46 #[.func (.func 66) #[] #[.pointer (some ⟨w.heap.size, 0, none⟩)]] (w.alloc (.cells #[.map (some b)] 45)) fun e w' => ∃ (v : Value) (ss : List (List UInt8)), e = .returned v ∧ ss.Perm (strKeys D0) ∧
      w'.ownsRow (w.alloc (.cells #[.map (some b)] 45)).heap.size 9 1 v ss.length ((ss.mergeSort (fun x y => decide (x ≤ y))).map encStr) ∧ (v = .slice none 0 0 ↔ ss = []) ∧ Below (w.alloc (.cells #[.map (some b)] 45)).heap.size (w.alloc (.cells #[.map (some b)] 45)) w' := by
  have hbl := hown.lt
  have hseq : SeqGives Fence.wide 2 Tryz.prog 66 #[.pointer (some ⟨w.heap.size, 0, none⟩)] encStr (fun ss => ss.Perm (strKeys D0)) (Maps.size D0) (w.alloc (.cells #[.map (some b)] 45)) :=
    AnyZ.keys_gives (ρ := Tryz.keys47_ren) { Tryz.keys47 with } Fence.wide _ trivial rfl (by omega) w.heap.size b nn D0 _ (by simp) (by simp) (by
      obtain ⟨es, clock, hb, Ft, hs, hD⟩ := hown
      exact ⟨es, clock, (Below.heap_alloc _ _ b hbl).trans hb, Ft, hs, hD⟩)
  exact AnyZ.sorted_in Tryz.sorted46 Fence.wide 5 trivial trivial trivial trivial rfl (by omega) (Tryz.sorts46 _) (enters_of Tryz.func65 (by kernel_rfl) rfl) 66 #[.pointer (some ⟨w.heap.size, 0, none⟩)] trivial (enters_of Tryz.func66 (by kernel_rfl) rfl) _ _ hmax hbytes _ hseq

set_option maxHeartbeats 1000000 in
/-- **.. AND FOR THE nil MAP: nil.** -/
theorem Tryz.slices_Sorted_keys_nil_46_47 (w : World) :
    CallsIn Fence.wide 5 Tryz.prog 46 #[.func (.func 66) #[] #[.pointer (some ⟨w.heap.size, 0, none⟩)]] (w.alloc (.cells #[.map none] 45)) fun e w' => ∃ (v : Value) (ss : List (List UInt8)), e = .returned v ∧ ss = [] ∧
      w'.ownsRow (w.alloc (.cells #[.map none] 45)).heap.size 9 1 v ss.length ((ss.mergeSort (fun x y => decide (x ≤ y))).map encStr) ∧ (v = .slice none 0 0 ↔ ss = []) ∧ Below (w.alloc (.cells #[.map none] 45)).heap.size (w.alloc (.cells #[.map none] 45)) w' := by
  have hseq : SeqGives Fence.wide 2 Tryz.prog 66 #[.pointer (some ⟨w.heap.size, 0, none⟩)] encStr (fun ss : List (List UInt8) => ss = []) 0 (w.alloc (.cells #[.map none] 45)) :=
    AnyZ.keys_gives_nil (ρ := Tryz.keys47_ren) { Tryz.keys47 with } Fence.wide _ trivial rfl w.heap.size _ (by simp) (by simp)
  exact AnyZ.sorted_in Tryz.sorted46 Fence.wide 5 trivial trivial trivial trivial rfl (by omega) (Tryz.sorts46 _) (enters_of Tryz.func65 (by kernel_rfl) rfl) 66 #[.pointer (some ⟨w.heap.size, 0, none⟩)] trivial (enters_of Tryz.func66 (by kernel_rfl) rfl) _ 0 (Nat.zero_le _) (by omega) _ hseq


end Go.Proofs
namespace Go.Proofs.YtmgbailpmcggiaaGreat
open Go.RowKit

section
variable {α : Type} {c : α → List Value} {n : Nat}
theorem flat_len (h : ∀ x, (c x).length = n) : ∀ L : List α, (L.flatMap c).length = L.length * n
  | [] => by simp
  | x :: L => by
    rw [List.flatMap_cons, List.length_append, h, flat_len h L, List.length_cons, Nat.add_mul]
    omega
theorem flat_at (h : ∀ x, (c x).length = n) : ∀ (L : List α) (k : Nat) (hk : k < L.length) (j : Nat), j < n → (L.flatMap c)[k * n + j]? = (c L[k])[j]?
  | [], k, hk, _, _ => absurd hk (Nat.not_lt_zero _)
  | x :: L, 0, _, j, hj => by
    rw [List.flatMap_cons, Nat.zero_mul, Nat.zero_add, List.getElem?_append_left (by rw [h]; exact hj)]
    rfl
  | x :: L, k + 1, hk, j, hj => by
    rw [List.flatMap_cons, List.getElem?_append_right (by rw [h, Nat.add_mul]; omega), h, show (k + 1) * n + j - n = k * n + j from by rw [Nat.add_mul]; omega]
    exact flat_at h L k (by simpa using hk) j hj
theorem flat_snoc (L : List α) (x : α) : (L ++ [x]).flatMap c = L.flatMap c ++ c x := by
  rw [List.flatMap_append, List.flatMap_cons, List.flatMap_nil, List.append_nil]
theorem flat_take {L : List α} {x : α} {k : Nat} (hlt : k < L.length) (hx : x = L[k]) : (L.take (k + 1)).flatMap c = (L.take k).flatMap c ++ c x := by
  rw [List.take_succ_eq_append_getElem hlt, ← hx, flat_snoc]
theorem flat_one (h1 : ∀ x, ∀ u ∈ c x, u.oneCell' = true) (L : List α) : ∀ u ∈ L.flatMap c, u.oneCell' = true := by
  intro u hu
  obtain ⟨x, -, hx⟩ := List.mem_flatMap.1 hu
  exact h1 x u hx
theorem flat_takeN (h : ∀ x, (c x).length = n) : ∀ (L : List α) (k : Nat), (L.flatMap c).take (k * n) = (L.take k).flatMap c
  | [], k => by simp
  | x :: L, 0 => by simp
  | x :: L, k + 1 => by
    rw [List.flatMap_cons, List.take_succ_cons, List.flatMap_cons, List.take_append, h, List.take_of_length_le (by rw [h, Nat.add_mul]; omega), show (k + 1) * n - n = k * n from by rw [Nat.add_mul]; omega, flat_takeN h L k]
theorem flat_dropN (h : ∀ x, (c x).length = n) : ∀ (L : List α) (k : Nat), (L.flatMap c).drop (k * n) = (L.drop k).flatMap c
  | [], k => by simp
  | x :: L, 0 => by simp
  | x :: L, k + 1 => by
    rw [List.flatMap_cons, List.drop_succ_cons, List.drop_append, h, List.drop_of_length_le (by rw [h, Nat.add_mul]; omega), show (k + 1) * n - n = k * n from by rw [Nat.add_mul]; omega, flat_dropN h L k, List.nil_append]
end
/-- a run of cells, written over -/
def setRun (l : List Value) (o : Nat) : List Value → List Value
  | [] => l
  | u :: us => setRun (l.set o u) (o + 1) us
theorem setRun_append_right : ∀ (us : List Value) (a b : List Value) (o : Nat), a.length ≤ o → setRun (a ++ b) o us = a ++ setRun b (o - a.length) us
  | [], _, _, _, _ => rfl
  | u :: us, a, b, o, h => by
    unfold setRun
    rw [List.set_append_right _ _ h, setRun_append_right us a _ (o + 1) (by omega)]
    rw [show o + 1 - a.length = o - a.length + 1 from by omega]
theorem setRun_whole : ∀ (us c r : List Value), c.length = us.length → setRun (c ++ r) 0 us = us ++ r := by
  suffices h : ∀ (us p c r : List Value), c.length = us.length → setRun (p ++ (c ++ r)) p.length us = p ++ (us ++ r) by
    intro us c r hc
    simpa using h us [] c r hc
  intro us
  induction us with
  | nil =>
    intro p c r hc
    have : c = [] := List.eq_nil_of_length_eq_zero hc
    subst this
    rfl
  | cons u us ih =>
    intro p c r hc
    match c, hc with
    | x :: c, hc =>
      unfold setRun
      rw [List.set_append_right _ _ (Nat.le_refl _), Nat.sub_self]
      show setRun (p ++ (u :: (c ++ r))) (p.length + 1) us = _
      have := ih (p ++ [u]) c r (by simpa using hc)
      simpa using this
/-- one record written over -/
theorem flat_set {α : Type} {c : α → List Value} {n : Nat} (h : ∀ x, (c x).length = n) (y : α) : ∀ (L : List α) (k : Nat), k < L.length → setRun (L.flatMap c) (k * n) (c y) = (L.set k y).flatMap c
  | [], k, hk => absurd hk (Nat.not_lt_zero _)
  | x :: L, 0, _ => by
    rw [List.flatMap_cons, List.set_cons_zero, List.flatMap_cons, Nat.zero_mul]
    exact setRun_whole _ _ _ (by rw [h, h])
  | x :: L, k + 1, hk => by
    rw [List.flatMap_cons, List.set_cons_succ, List.flatMap_cons, setRun_append_right _ _ _ _ (by rw [h, Nat.add_mul]; omega), h, show (k + 1) * n - n = k * n from by rw [Nat.add_mul]; omega]
    rw [flat_set h y L k (by simpa using hk)]
theorem own_setRun {base : Nat} {e : TypeId} {size g n cap : Nat} : ∀ (us : List Value) (o : Nat) (w : World) (xs : List Value), w.ownsRow base e size (.slice (some ⟨g, 0, none⟩) n cap) n xs → o + us.length ≤ n * size →
    (w.setCells g o us).ownsRow base e size (.slice (some ⟨g, 0, none⟩) n cap) n (setRun xs o us)
  | [], _, _, _, h, _ => h
  | u :: us, o, w, xs, h, hl => own_setRun us (o + 1) _ _ (own_set h (by simp only [List.length_cons] at hl; omega) u) (by simp only [List.length_cons] at hl; omega)
theorem setRun_take : ∀ (us xs : List Value) (o m : Nat), m ≤ o → (setRun xs o us).take m = xs.take m
  | [], _, _, _, _ => rfl
  | u :: us, xs, o, m, h => by
    unfold setRun
    rw [setRun_take us _ (o + 1) m (by omega), List.take_set_of_le h]
theorem fr_setCells {S : List Nat} {g : Nat} (hg : g ∈ S) : ∀ (us : List Value) (o : Nat) (a w : World), Fr S a w → Fr S a (w.setCells g o us)
  | [], _, _, _, h => h
  | u :: us, o, a, w, h => fr_setCells hg us (o + 1) a _ (h.set (p := ⟨g, o, none⟩) hg u)
theorem own_lo {w : World} {base : Nat} {e : TypeId} {size : Nat} {v : Value} {n : Nat} {xs : List Value} (h : w.ownsRow base e size v n xs) {g : Nat} (hg : v.ownBlock = some g) : base ≤ g := by
  rcases h.2 with ⟨rfl, -⟩ | ⟨g', cap, cur, rfl, hb, -⟩
  · cases hg
  · cases hg
    exact hb
theorem own_mono {w : World} {base base' : Nat} {e : TypeId} {size : Nat} {v : Value} {n : Nat} {xs : List Value} (h : w.ownsRow base e size v n xs) (hb : base' ≤ base) : w.ownsRow base' e size v n xs := by
  refine ⟨h.1, ?_⟩
  rcases h.2 with hn | ⟨g, cap, cur, hv, hbg, rest⟩
  · exact .inl hn
  · exact .inr ⟨g, cap, cur, hv, Nat.le_trans hb hbg, rest⟩
theorem own_hi {w : World} {base : Nat} {e : TypeId} {size n : Nat} {v : Value} {xs : List Value} (h : w.ownsRow base e size v n xs) {g : Nat} (hg : v.ownBlock = some g) : g < w.heap.size := by
  rcases h.2 with ⟨rfl, -⟩ | ⟨g', cap, cur, rfl, -, hh, -⟩
  · cases hg
  · cases hg
    exact (Array.getElem?_eq_some_iff.1 hh).1
theorem own_keep {w w' : World} {base : Nat} {e : TypeId} {size : Nat} {v : Value} {n : Nat} {xs : List Value} (h : w.ownsRow base e size v n xs) (hb : Below w.heap.size w w') : w'.ownsRow base e size v n xs := own_fr h (Fr.of_below hb []) (fun _ _ => by simp)
end Go.Proofs.YtmgbailpmcggiaaGreat
namespace Go.Proofs.YtmgbailpmcggiaaGreat
open Go.RowKit

/-- nothing but blocks of P has turned of what was there -/
def Frp (P : Nat → Prop) (w w' : World) : Prop := ∃ S, Fr S w w' ∧ ∀ x ∈ S, P x
theorem Frp.of_below {w w' : World} (h : Below w.heap.size w w') (P : Nat → Prop) : Frp P w w' := ⟨[], Fr.of_below h [], by simp⟩
theorem Frp.refl (P : Nat → Prop) (w : World) : Frp P w w := ⟨[], Fr.refl _ _, by simp⟩
theorem Frp.size {P : Nat → Prop} {w w' : World} (h : Frp P w w') : w.heap.size ≤ w'.heap.size := by obtain ⟨S, h, -⟩ := h; exact h.size
theorem Frp.mono {P Q : Nat → Prop} {w w' : World} (h : Frp P w w') (hp : ∀ k, P k → Q k) : Frp Q w w' := by
  obtain ⟨S, h, h2⟩ := h
  exact ⟨S, h, fun x hx => hp x (h2 x hx)⟩
theorem Frp.trans {P Q : Nat → Prop} {a b c : World} (h : Frp P a b) (k : Frp Q b c) (hq : ∀ x, Q x → P x ∨ a.heap.size ≤ x) : Frp P a c := by
  obtain ⟨S, h1, h2⟩ := h
  obtain ⟨S2, h3, h4⟩ := k
  classical
  refine ⟨S ++ S2.filter (fun x => decide (P x)), (h1.mono (fun x hx => List.mem_append_left _ hx)).trans h3 (fun x hx => ?_), fun x hx => ?_⟩
  · rcases hq x (h4 x hx) with h5 | h5
    · exact .inl (List.mem_append_right _ (List.mem_filter.2 ⟨hx, by simpa using h5⟩))
    · exact .inr h5
  · rcases List.mem_append.1 hx with hx | hx
    · exact h2 x hx
    · simpa using (List.mem_filter.1 hx).2
theorem Frp.then {P : Nat → Prop} {a b c : World} (h : Frp P a b) (k : Frp P b c) : Frp P a c := h.trans k fun _ hx => .inl hx
theorem Frp.below {P : Nat → Prop} {n : Nat} {w w' : World} (h : Frp P w w') (hp : ∀ k, P k → n ≤ k) (hn : n ≤ w.heap.size) : Below n w w' := by
  obtain ⟨S, h, h2⟩ := h
  exact h.below (fun x hx => hp x (h2 x hx)) hn
theorem Frp.set {P : Nat → Prop} {a w : World} (h : Frp P a w) {p : Addr} (hp : P p.block) (u : Value) : Frp P a (w.setCell p u) :=
  h.then ⟨[p.block], (Fr.refl _ _).set (p := p) (by simp) u, fun x hx => by rw [List.mem_singleton.1 hx]; exact hp⟩
theorem Frp.grown {P : Nat → Prop} {a w w' : World} {row : Option Nat} (h : Frp P a w) (hg : w.grownBy w' row) (hp : ∀ k, row = some k → P k ∨ a.heap.size ≤ k) : Frp P a w' :=
  h.trans (Q := fun k => row = some k) ⟨row.toList, Fr.of_grown hg, fun x hx => Option.mem_toList.1 hx⟩ hp
theorem Frp.next {P : Nat → Prop} {a w w' : World} (h : Frp P a w) (hb : Below w.heap.size w w') : Frp P a w' := h.then (Frp.of_below hb P)
theorem Blk.frp {Q : Nat → Prop} {w w' : World} {g : Nat} {cs : List Value} {t : TypeId} (h : Blk w g cs t) (hf : Frp Q w w') (hg : ¬ Q g) : Blk w' g cs t := by
  obtain ⟨S, hS, hS2⟩ := hf
  exact h.fr hS (fun hm => hg (hS2 _ hm))
theorem own_frp {Q : Nat → Prop} {w w' : World} {base : Nat} {e : TypeId} {size : Nat} {v : Value} {n : Nat} {xs : List Value} (h : w.ownsRow base e size v n xs) (hf : Frp Q w w') (hg : ∀ g, v.ownBlock = some g → ¬ Q g) : w'.ownsRow base e size v n xs := by
  obtain ⟨S, hS, hS2⟩ := hf
  exact own_fr h hS fun g hv hm => hg g hv (hS2 _ hm)
theorem cell_frp {Q : Nat → Prop} {w w' : World} {a : Addr} {v : Value} (h : w.cell? a = some v) (hf : Frp Q w w') (hg : ¬ Q a.block) : w'.cell? a = some v := by
  obtain ⟨S, hS, hS2⟩ := hf
  exact cell_fr h hS (fun hm => hg (hS2 _ hm))
theorem SMap.fr {P : Program} {k : TypeId} {S : List Nat} {w w' : World} {b : Nat} {m : SM} (h : SMap P k w b m) (hf : Fr S w w') (hb : b ∉ S) : SMap P k w' b m := by
  have hl := h.lt
  obtain ⟨es, clock, h1, h2⟩ := h
  refine ⟨es, clock, ?_, h2⟩
  rw [hf.block b hl hb]
  exact h1
theorem SMap.frp {P : Program} {k : TypeId} {Q : Nat → Prop} {w w' : World} {b : Nat} {m : SM} (h : SMap P k w b m) (hf : Frp Q w w') (hb : ¬ Q b) : SMap P k w' b m := by
  obtain ⟨S, hS, hS2⟩ := hf
  exact h.fr hS (fun hm => hb (hS2 _ hm))
/-- a row's block is not a block of another type -/
theorem own_ty {w : World} {base : Nat} {e t : TypeId} {size n : Nat} {v : Value} {xs cs : List Value} {g : Nat} (h : w.ownsRow base e size v n xs) (hb : Blk w g cs t) (ht : t ≠ e) : v.ownBlock ≠ some g := by
  intro hv
  rcases h.2 with ⟨rfl, -⟩ | ⟨q, cap, cur, rfl, -, hh, -⟩
  · simp [Value.ownBlock] at hv
  · simp only [Value.ownBlock, Option.some.injEq] at hv
    subst hv
    unfold Blk at hb
    rw [hh] at hb
    simp only [Option.some.injEq, Obj.cells.injEq] at hb
    exact ht hb.2.1.symm
theorem blk_ty {w : World} {g : Nat} {cs ds : List Value} {t u : TypeId} (h : Blk w g cs t) (k : Blk w g ds u) : t = u := by
  unfold Blk at h k
  rw [h] at k
  simp only [Option.some.injEq, Obj.cells.injEq] at k
  exact k.2.1
theorem blk_map {P : Program} {k : TypeId} {w : World} {g : Nat} {cs : List Value} {t : TypeId} {m : SM} (h : Blk w g cs t) (hm : SMap P k w g m) : False := by
  obtain ⟨es, clock, h1, -⟩ := hm
  unfold Blk at h
  rw [h] at h1
  cases h1
theorem own_map {P : Program} {k : TypeId} {w : World} {base : Nat} {e : TypeId} {size n : Nat} {v : Value} {xs : List Value} {g : Nat} {m : SM} (h : w.ownsRow base e size v n xs) (hm : SMap P k w g m) : v.ownBlock ≠ some g := by
  intro hv
  obtain ⟨es, clock, h1, -⟩ := hm
  rcases h.2 with ⟨rfl, -⟩ | ⟨q, cap, cur, rfl, -, hh, -⟩
  · simp [Value.ownBlock] at hv
  · simp only [Value.ownBlock, Option.some.injEq] at hv
    subst hv
    rw [hh] at h1
    cases h1
end Go.Proofs.YtmgbailpmcggiaaGreat
namespace Go.Proofs.YtmgbailpmcggiaaGreat
open Go.RowKit

section
variable {α : Type} (c : α → List Value)
def rwC (L : List α) : List Value := L.flatMap c
end
section
variable {α : Type} {c : α → List Value} {k : Nat}
theorem rwC_nil : rwC c [] = [] := rfl
theorem rwC_cons (x : α) (L : List α) : rwC c (x :: L) = c x ++ rwC c L := by unfold rwC; rw [List.flatMap_cons]
theorem rwC_append (L M : List α) : rwC c (L ++ M) = rwC c L ++ rwC c M := by unfold rwC; rw [List.flatMap_append]
theorem rwC_snoc (L : List α) (x : α) : rwC c (L ++ [x]) = rwC c L ++ c x := by rw [rwC_append, rwC_cons, rwC_nil, List.append_nil]
theorem rwC_len (hk : ∀ x, (c x).length = k) : ∀ L : List α, (rwC c L).length = L.length * k
  | [] => by simp [rwC]
  | x :: L => by rw [rwC_cons, List.length_append, hk, rwC_len hk L, List.length_cons, Nat.add_mul]; omega
theorem rwC_one (h1 : ∀ x, ∀ u ∈ c x, u.oneCell' = true) (L : List α) : ∀ u ∈ rwC c L, u.oneCell' = true := by
  intro u hu
  obtain ⟨x, -, hx⟩ := List.mem_flatMap.1 hu
  exact h1 x u hx
theorem rwC_take (hk : ∀ x, (c x).length = k) {L : List α} {m : Nat} (hm : m ≤ L.length) : (rwC c L).take (m * k) = rwC c (L.take m) := by
  conv => lhs; rw [← List.take_append_drop m L, rwC_append]
  rw [List.take_left' (by rw [rwC_len hk, List.length_take, Nat.min_eq_left hm])]
theorem rwC_drop (hk : ∀ x, (c x).length = k) {L : List α} {m : Nat} (hm : m ≤ L.length) : (rwC c L).drop (m * k) = rwC c (L.drop m) := by
  conv => lhs; rw [← List.take_append_drop m L, rwC_append]
  rw [List.drop_left' (by rw [rwC_len hk, List.length_take, Nat.min_eq_left hm])]
theorem rwC_at (hk : ∀ x, (c x).length = k) {L : List α} {i : Nat} (hi : i < L.length) {j : Nat} (hj : j < k) : (rwC c L)[i * k + j]? = (c L[i])[j]? := by
  have h1 := rwC_drop hk (L := L) (m := i) (by omega)
  have h2 : (rwC c L)[i * k + j]? = ((rwC c L).drop (i * k))[j]? := by rw [List.getElem?_drop]
  rw [h2, h1, List.drop_eq_getElem_cons hi, rwC_cons, List.getElem?_append_left (by rw [hk]; exact hj)]
theorem rwC_set (hk : ∀ x, (c x).length = k) {L : List α} {i : Nat} (hi : i < L.length) {j : Nat} (hj : j < k) {u : Value} {x : α} (hx : c x = (c L[i]).set j u) : (rwC c L).set (i * k + j) u = rwC c (L.set i x) := by
  have e : L = L.take i ++ L[i] :: L.drop (i + 1) := by rw [List.getElem_cons_drop, List.take_append_drop]
  have e2 : L.set i x = L.take i ++ x :: L.drop (i + 1) := by
    rw [List.set_eq_take_append_cons_drop, if_pos hi]
  have hl : (rwC c (L.take i)).length = i * k := by rw [rwC_len hk, List.length_take, Nat.min_eq_left (by omega)]
  rw [e2, rwC_append, rwC_cons, hx]
  conv => lhs; rw [e]
  rw [rwC_append, rwC_cons, List.set_append_right _ _ (by omega), hl, Nat.add_sub_cancel_left, List.set_append_left _ _ (by rw [hk]; exact hj)]
theorem rwC_erase (L : List α) (i : Nat) : rwC c (L.take i) ++ rwC c (L.drop (i + 1)) = rwC c (L.eraseIdx i) := by rw [← rwC_append, List.eraseIdx_eq_take_drop_succ]
theorem rwC_map {β : Type} (f : β → α) (L : List β) : rwC c (L.map f) = rwC (fun x => c (f x)) L := by unfold rwC; rw [List.flatMap_map]
end

/-- the first of a row -/
theorem row_first {w : World} {p : Option Addr} {n c m size : Nat} {cs : List Value} (h : Row w (.slice p n c) size n cs) (hm : m ≤ n) : Row w (.slice p m c) size m (cs.take (m * size)) := by
  obtain ⟨p1, c1, hv, h1, h2, h3, h4, h5, h6⟩ := h
  simp only [Value.slice.injEq] at hv
  obtain ⟨rfl, -, rfl⟩ := hv
  have hms : m * size ≤ n * size := Nat.mul_le_mul_right _ hm
  refine ⟨p, c, rfl, by omega, h2, by rw [List.length_take]; omega, fun u hu => h4 u (List.mem_of_mem_take hu), fun e => ?_, ?_⟩
  · have := h5 e
    omega
  · rcases h6 with h6 | ⟨b, o, hp, ha⟩
    · subst h6; left; simp
    · refine .inr ⟨b, o, hp, fun j u hj => ha j u ?_⟩
      rw [List.getElem?_take] at hj
      split at hj
      · exact hj
      · cases hj
/-- the rest of a row -/
theorem row_rest {w : World} {p : Option Addr} {n c m size : Nat} {cs : List Value} (h : Row w (.slice p n c) size n cs) (hm : m ≤ n) : Row w (.slice (if c = m then p else Option.map (fun x => x.add (m * size)) p) (n - m) (c - m)) size (n - m) (cs.drop (m * size)) := by
  obtain ⟨p1, c1, hv, h1, h2, h3, h4, h5, h6⟩ := h
  simp only [Value.slice.injEq] at hv
  obtain ⟨rfl, -, rfl⟩ := hv
  refine ⟨_, c - m, rfl, by omega, by omega, by rw [List.length_drop, h3, Nat.sub_mul], fun u hu => h4 u (List.mem_of_mem_drop hu), fun e => ?_, ?_⟩
  · have : p = none := by split at e <;> simp_all
    have := h5 this
    omega
  · by_cases hlt : m < n
    · rcases h6 with h6 | ⟨b, o, rfl, ha⟩
      · subst h6; left; simp
      · refine .inr ⟨b, o + m * size, by rw [if_neg (by omega)]; simp [add_off], fun j u hj => ?_⟩
        rw [List.getElem?_drop] at hj
        have := ha _ u hj
        rw [Nat.add_assoc]
        exact this
    · left
      rw [List.drop_eq_nil_iff, h3]
      exact Nat.mul_le_mul_right _ (by omega)
theorem row_own {w : World} {base : Nat} {e : TypeId} {size n : Nat} {v : Value} {cs : List Value} (h : w.ownsRow base e size v n cs) (h1 : ∀ u ∈ cs, u.oneCell' = true) : ∃ p c, v = .slice p n c ∧ n ≤ c ∧ c ≤ maxLen ∧ Row w (.slice p n c) size n cs := by
  obtain ⟨p, c, rfl, hc, hm⟩ := own_slice h
  exact ⟨p, c, rfl, hc, hm, row_of_owns h h1⟩
/-- two rows of elements of other types lie apart -/
theorem own_own {w : World} {base base' : Nat} {e e' : TypeId} {size size' n n' : Nat} {v v' : Value} {xs ys : List Value} (h : w.ownsRow base e size v n xs) (k : w.ownsRow base' e' size' v' n' ys) (ht : e ≠ e') {g : Nat} (hg : v.ownBlock = some g) : v'.ownBlock ≠ some g := by
  intro hg'
  rcases h.2 with ⟨rfl, -⟩ | ⟨q, cap, cur, rfl, -, hh, -⟩
  · simp [Value.ownBlock] at hg
  · rcases k.2 with ⟨rfl, -⟩ | ⟨q', cap', cur', rfl, -, hh', -⟩
    · simp [Value.ownBlock] at hg'
    · simp only [Value.ownBlock, Option.some.injEq] at hg hg'
      subst hg hg'
      rw [hh] at hh'
      simp only [Option.some.injEq, Obj.cells.injEq] at hh'
      exact ht hh'.2.1
end Go.Proofs.YtmgbailpmcggiaaGreat
namespace Go.Proofs.YtmgbailpmcggiaaGreat
open Go.RowKit

theorem chC_len (c : Ch) : (chC c).length = 7 := rfl
theorem chC_one (c : Ch) : ∀ u ∈ chC c, u.oneCell' = true := by
  intro u hx
  simp only [List.mem_cons, List.not_mem_nil, or_false] at hx
  rcases hx with rfl | rfl | rfl | rfl | rfl | rfl | rfl <;> rfl
/-- the names, rising -/
theorem names_sorted (b mg mc : Nat) (G : List Gr) (C : List Ch) (w : World) (h : Bk w b mg mc G C) (hr : KRise Ch.key C) (hl : C.length ≤ 100000) :
    Calls Tryz.prog 46 #[.func (.func 66) #[] #[.pointer (some ⟨w.heap.size, 0, none⟩)]] (w.alloc (.cells #[.map (some mc)] 45)) fun e w' => ∃ v, e = .returned v ∧
      w'.ownsRow (w.heap.size + 1) 9 1 v C.length (C.map fun e => .string e.n) ∧ Below (w.heap.size + 1) (w.alloc (.cells #[.map (some mc)] 45)) w' := by
  have hsz : Go.Maps.size (chM C).dat = C.length := kM_size C
  refine (callsIn_wide.1 (Tryz.slices_Sorted_keys_46_47 mc (chM C).length (chM C).dat anyElem w h.cm (by rw [hsz]; unfold maxLen; omega) (by rw [hsz]; omega))).mono ?_
  rintro e w' ⟨v, ss, he, hp, hown, -, hb⟩
  rw [show Go.strKeys (chM C).dat = C.map Ch.key from kM_keys C] at hp
  have hlen := hp.length_eq
  simp only [List.length_map] at hlen
  have hso : ss.mergeSort (fun x y => decide (x ≤ y)) = C.map Ch.key := sort_rises hp hr.keys
  have hmap : (C.map Ch.key).map Go.Proofs.encStr = C.map fun e => Value.string e.n := by
    rw [List.map_map]
    rfl
  rw [hso, hlen, hmap] at hown
  exact ⟨v, he, by simpa using hown, by simpa using hb⟩

theorem info_ch : (Tryz.prog.info? 43).map (fun i => (i.zero, i.size, i.bytes)) = some (some (chV zC), 7, 72) := by kernel_rfl

set_option maxRecDepth 100000 in
set_option maxHeartbeats 2000000 in
theorem charges_made (b mg mc : Nat) (G : List Gr) (C : List Ch) (w : World) (h : Bk w b mg mc G C) (hr : KRise Ch.key C) (hk : ∀ e ∈ C, e.n.size ≤ maxLen) (hl : C.length ≤ 100000) :
    Calls Tryz.prog 25 #[ptr b] w fun e w' => ∃ v, e = .returned v ∧ w'.ownsRow w.heap.size 43 7 v C.length (rwC chC C) ∧ Below w.heap.size w w' := by
  obtain ⟨i0, hi, hz0, hz1, hz2⟩ := info_parts info_ch
  have H := Lib.hid h
  have HK := Lib.hid hk
  have HAP := Lib.hid hr.apart
  have HL := Lib.hid hl
  have hml : maxLen ≤ 9223372036854775807 := by decide
  have c4 := h.blk.cell (j := 1) rfl
  have HKE := Lib.hid (callsIn_wide.1 (Tryz.maps_Keys_47 (some mc) w))
  have HSO := Lib.hid (names_sorted b mg mc G C w h hr hl)
  clear h hr hk
  go_enter Tryz.func25, Tryz.ntmps25
  go_wp2_with (first
    | (go_at_call 47; refine HKE.out.mono ?_; rintro e w' ⟨rfl, rfl⟩)
    | (go_at_call 46; refine HSO.out.mono ?_; rintro e w3 ⟨v3, rfl, ho3, hb3⟩; obtain ⟨p3, k3, rfl, hk3, hm3⟩ := own_slice ho3; have HO3 := Lib.hid ho3; have HB3 : Hid (Below w.heap.size w w3) := Lib.hid ((below_alloc w _).trans (hb3.mono (by omega))); clear ho3 hb3))
  go_loopw [3, 15] (fun o i wr => ∃ k : Nat, k ≤ C.length ∧ i = .int .i64 (k : Int) ∧ Hid (wr.ownsRow w.heap.size 43 7 o k (rwC chC (C.take k)) ∧ ∀ x, o.ownBlock = some x → w3.heap.size ≤ x) ∧ Hid (Below w3.heap.size w3 wr)) (fun _ i _ => C.length - (intOf i).toNat)
  case atStart => exact ⟨0, Nat.zero_le _, rfl, Lib.hid ⟨World.ownsRow_nil _ _ _ _, fun x h => by simp [Value.ownBlock] at h⟩, Lib.hid (Below.refl _ _)⟩
  case round =>
    obtain ⟨k, hk, rfl, HO, HB⟩ := hrel
    by_cases hlt : k < C.length
    · obtain ⟨g3, cap3, e3, -, -, -⟩ := own_block HO3.out (by omega)
      simp only [Value.slice.injEq] at e3
      obtain ⟨rfl, -, rfl⟩ := e3
      obtain ⟨x, hx⟩ : ∃ x, x = C[k] := ⟨_, rfl⟩
      have hc := cell_kept (own_cell HO3.out (j := k) (u := .string x.n) (by rw [hx]; simp [hlt])) HB.out
      have hmem : x ∈ C := by rw [hx]; exact List.getElem_mem hlt
      have HG := Lib.hid (chM_get_some (kfnd_of HAP.out hmem))
      have HXS := Lib.hid (HK.out x hmem)
      have HHR := Lib.hid (H.out.kept (below_and HB3.out HB.out))
      have c4r := HHR.out.blk.cell (j := 1) rfl
      have hoa := own_fr HO.out.1 (Fr.of_below (below_alloc wr (.cells #[.string x.n, .string x.u, .int .i64 x.b, .int .i64 x.a.c, .int .i64 x.a.r, .int .i64 x.a.d, .int .i64 x.a.p] 43)) []) (fun _ _ => by simp)
      have HOA := Lib.hid hoa
      have hwz := (below_and HB3.out HB.out).size
      have HWZ := Lib.hid hwz
      have HT : Hid (rwC chC (C.take (k + 1)) = rwC chC (C.take k) ++ chC x) := Lib.hid (by rw [List.take_succ_eq_append_getElem hlt, ← hx, rwC_snoc])
      have i1 : (k : Int) < (C.length : Int) := by omega
      clear hx hmem hoa hwz
      go_wp2_with (first
        | (at_lookup; refine wpList_slook _ rfl _ _ _ rfl 9 43 Tryz.underlying9 Tryz.underlying45 (czero _) mc (chM C) rfl HHR.out.cm x.n rfl HXS.out ?_; rw [show (chM C).get x.n.data.toList = some (chV x) from HG.out.1]; simp only [Option.getD_some])
        | (at_builtin; go_loud (refine wpList_app5 rfl _ _ 28 28 rfl w.heap.size 43 i0 (chV zC) 7 72 Tryz.underlying28 hi hz0 hz1 hz2 rfl _ k (rwC chC (C.take k)) rfl HOA.out _ 1 _ rfl (src_block Tryz.underlying28 _ _ #[_, _, _, _, _, _, _] (heap_alloc_new wr _) rfl (chC_one x)) (by have := HL.out; unfold maxLen; omega) (by have := HL.out; omega) (by have := HWZ.out; simp; omega) ?_; intro o4 w4 ho4 hg4 hn4; have HO4 := Lib.hid ho4; have HN4 : Hid (∀ x, o4.ownBlock = some x → w3.heap.size ≤ x) := Lib.hid (fun y hy => by rcases hn4 y hy with h1 | h1; exact HO.out.2 y h1; have := HB.out.size; simp at h1; omega); have HB4 : Hid (Below w3.heap.size w3 w4) := Lib.hid ((below_and HB.out (below_alloc wr _)).trans ((Fr.of_grown hg4).below (by intro y hy; exact HO.out.2 y (Option.mem_toList.1 hy)) (by have := HB.out.size; simp; omega))); clear ho4 hg4 hn4)))
      go_roundw
      case rel => exact ⟨k + 1, hlt, by go_num, Lib.hid ⟨by rw [HT.out]; exact HO4.out, HN4.out⟩, HB4⟩
      case measure => simp [intOf]; omega
    · obtain rfl : k = C.length := by omega
      have HE := HO.out.1
      rw [List.take_length] at HE
      have HEE := Lib.hid HE
      clear HE
      go_wp2
      go_ret
      exact ⟨_, rfl, HEE.out, below_and HB3.out HB.out⟩
end Go.Proofs.YtmgbailpmcggiaaGreat
namespace Go.Proofs.YtmgbailpmcggiaaGreat
open Go.RowKit

theorem overB_eq (G : List Gr) (C : List Ch) (x : Ch) : overB G C x = (!(x.b == 0) && !fitsB (psum (onB x.u x.b) C) (grantA G x.u x.b)) := rfl
theorem filter_take {C : List Ch} {p : Ch → Bool} {k : Nat} (h : k < C.length) : (C.take (k + 1)).filter p = (C.take k).filter p ++ (if p C[k] then [C[k]] else []) := by
  rw [List.take_succ_eq_append_getElem h, List.filter_append]
  congr 1
  cases hp : p C[k]
  · simp [hp]
  · simp [hp]

set_option maxRecDepth 100000 in
set_option maxHeartbeats 4000000 in
theorem over_made (b mg mc : Nat) (G : List Gr) (C : List Ch) (w : World) (h : Bk w b mg mc G C) (hi : ChI C) (hk : ∀ e ∈ C, nmdB e.n = true ∧ askB e.u e.b = true) (hl : C.length ≤ 100000) :
    Calls Tryz.prog 28 #[ptr b] w fun e w' => ∃ v, e = .returned v ∧ w'.ownsRow w.heap.size 43 7 v (overP G C).length (rwC chC (overP G C)) ∧ Below w.heap.size w w' := by
  obtain ⟨i0, hi0, hz0, hz1, hz2⟩ := info_parts info_ch
  have H := Lib.hid h
  have HK := Lib.hid hk
  have HL := Lib.hid hl
  have HCI := Lib.hid hi
  have hnm : ∀ e ∈ C, 0 < e.n.size := fun e he => by have := (hk e he).1; unfold nmdB at this; simp only [decide_eq_true_eq] at this; omega
  have HNM := Lib.hid hnm
  have hml : maxLen ≤ 9223372036854775807 := by decide
  have HCH := Lib.hid (charges_made b mg mc G C w h hi.rise (fun e he => nmdB_len (hk e he).1) hl)
  clear h hk hi hnm
  go_enter Tryz.func28, Tryz.ntmps28
  go_wp2_with (go_at_call 25; refine HCH.out.mono ?_; rintro e w3 ⟨v3, rfl, ho3, hb3⟩; obtain ⟨p3, k3, rfl, hk3, hm3⟩ := own_slice ho3; have HO3 := Lib.hid ho3; have HB3 := Lib.hid hb3; clear ho3 hb3)
  go_loopw [3, 11] (fun o i wr => ∃ k : Nat, k ≤ C.length ∧ i = .int .i64 (k : Int) ∧ Hid (wr.ownsRow w.heap.size 43 7 o ((C.take k).filter (overB G C)).length (rwC chC ((C.take k).filter (overB G C))) ∧ ∀ x, o.ownBlock = some x → w3.heap.size ≤ x) ∧ Hid (Below w3.heap.size w3 wr)) (fun _ i _ => C.length - (intOf i).toNat)
  case atStart => exact ⟨0, Nat.zero_le _, rfl, Lib.hid ⟨World.ownsRow_nil _ _ _ _, fun x h => by simp [Value.ownBlock] at h⟩, Lib.hid (Below.refl _ _)⟩
  case round =>
    obtain ⟨k, hk, rfl, HO, HB⟩ := hrel
    by_cases hlt : k < C.length
    · obtain ⟨g3, cap3, e3, -, -, -⟩ := own_block HO3.out (by omega)
      simp only [Value.slice.injEq] at e3
      obtain ⟨rfl, -, rfl⟩ := e3
      obtain ⟨x, hx⟩ : ∃ x, x = C[k] := ⟨_, rfl⟩
      have hxk := HK.out x (by rw [hx]; exact List.getElem_mem hlt)
      have hnn := askB_name hxk.2
      have HKO : Hid (keyOf Tryz.prog 60 (kV x.u x.b) = some (.string (kT x.u x.b))) := Lib.hid (keyOf_k (by unfold maxLen; omega) (band_wf hnn.2))
      have hee : ∀ j u, j < 7 → (chC x)[j]? = some u → wr.cell? ⟨g3, k * 7 + j, none⟩ = some u := fun j u hj hu => cell_kept (own_cell HO3.out (by rw [rwC_at chC_len hlt hj, ← hx]; exact hu)) HB.out
      have e0 : wr.cell? ⟨g3, k * 7, none⟩ = some (.string x.n) := hee 0 _ (by omega) rfl
      have e1 := hee 1 _ (by omega) rfl
      have e2 := hee 2 _ (by omega) rfl
      have e3 := hee 3 _ (by omega) rfl
      have e4 := hee 4 _ (by omega) rfl
      have e5 := hee 5 _ (by omega) rfl
      have e6 := hee 6 _ (by omega) rfl
      obtain ⟨y, hy⟩ : ∃ y, y = psum (onB x.u x.b) C := ⟨_, rfl⟩
      obtain ⟨ga, hga⟩ : ∃ ga, ga = grantA G x.u x.b := ⟨_, rfl⟩
      have HHR := Lib.hid (H.out.kept (below_and HB3.out HB.out))
      have HUS : Hid (∀ w', Bk w' b mg mc G C → Calls Tryz.prog 41 #[ptr b, .string x.u, .int .i64 x.b, .string ⟨#[]⟩] w' fun e w2 => e = .returned (.tuple #[amV y, .bool true]) ∧ Below w'.heap.size w' w2) := Lib.hid (fun w' h' => by rw [hy, ← hit_empty HNM.out]; exact bused_any b mg mc G C x.u ⟨#[]⟩ x.b w' h' HCI.out.rise.apart HCI.out.ok (HCI.out.hit x.u x.b _))
      have HLK : Hid (∀ w', SMap Tryz.prog 60 w' mg (grM G) → (Instr.lookup 44 (.map (some mg)) (kV x.u x.b) false).run Tryz.prog w' = .ok (amV ga) w') := Lib.hid (fun w' h' => by rw [hga]; exact grant_look h' HKO.out)
      have HOV : Hid (overB G C x = (!(x.b == 0) && !fitsB y ga)) := Lib.hid (by rw [overB_eq, hy, hga])
      have HT := Lib.hid (filter_take (p := overB G C) hlt)
      rw [← hx] at HT
      have i1 : (k : Int) < (C.length : Int) := by omega
      have i0' : (0 : Int) ≤ (k : Int) := by omega
      clear hx hxk hnn hee hy hga
      go_upto_region 5 with fail
      obtain ⟨w5, hw5⟩ : ∃ w5, w5 = wr.alloc (.cells #[.string x.n, .string x.u, .int .i64 x.b, .int .i64 x.a.c, .int .i64 x.a.r, .int .i64 x.a.d, .int .i64 x.a.p] 43) := ⟨_, rfl⟩
      obtain ⟨X, hX⟩ : ∃ X, X = wr.heap.size := ⟨_, rfl⟩
      have hb5 : Below wr.heap.size wr w5 := by rw [hw5]; exact below_alloc _ _
      have H5 := Lib.hid (HHR.out.kept hb5)
      have X5 : Hid (Blk w5 X (chC x) 43) := Lib.hid (by rw [hw5, hX]; exact Blk.made wr (chC x) _)
      have HB5 := Lib.hid (below_and HB.out hb5)
      have HR5 := Lib.hid hb5
      rw [← hw5, ← hX]
      clear hw5 hX hb5 e0 e1 e2 e3 e4 e5 e6
      have x1 := X5.out.cell (j := 1) rfl
      have x2 := X5.out.cell (j := 2) rfl
      go_upto_region 6 with (go_at_call 41; refine (HUS.out _ H5.out).mono ?_; rintro e w6 ⟨rfl, hb⟩; have hbz := below_and hb (below_alloc w6 (.cells #[.int .i64 y.c, .int .i64 y.r, .int .i64 y.d, .int .i64 y.p] 34)); have HB6 := Lib.hid (below_and HB5.out hbz); have HR6 := Lib.hid (below_and HR5.out hbz); have H6 := Lib.hid (H5.out.kept hbz); have X6 := Lib.hid (X5.out.kept hbz); have Z6 := Lib.hid (Blk.made w6 (amC y) 34); clear hb hbz x1 x2)
      have x1 := Past.blk X6.out (j := 1) rfl
      have x2 := Past.blk X6.out (j := 2) rfl
      have z0 := Past.blk Z6.out (j := 0) rfl
      have z1 := Past.blk Z6.out (j := 1) rfl
      have z2 := Past.blk Z6.out (j := 2) rfl
      have z3 := Past.blk Z6.out (j := 3) rfl
      have g0 := Past.blk H6.out.blk (j := 0) rfl
      have hlk : ∀ s : Past (w6.alloc (.cells #[.int .i64 y.c, .int .i64 y.r, .int .i64 y.d, .int .i64 y.p] 34)), (Instr.lookup 44 (.map (some mg)) (kV x.u x.b) false).run Tryz.prog s.val = .ok (amV ga) s.val := fun s => HLK.out _ (H6.out.gm.kept s.h)
      have HFT : Hid (∀ w, Calls Tryz.prog 34 #[amV y, amV ga] w fun e w' => e = .returned (.bool (fitsB y ga)) ∧ Below w.heap.size w w') := Lib.hid (fun w => fits_any y ga w)
      cases hbz : (x.b == 0)
      · have t1 : (x.b != 0) = true := by rw [bne, hbz]; rfl
        cases hfz : fitsB y ga
        · have HP : Hid (overB G C x = true) := Lib.hid (by rw [HOV.out, hbz, hfz]; rfl)
          rw [hfz] at HFT
          refine wp_region_past (by kernel_rfl) (by kernel_rfl) ?_
          repeat (go_big_quiet_step (first | (go_at_call 34; exact past_call (HFT.out _))))
          refine wpQuiet_nil ?_
          intro _ hw'
          obtain ⟨s9, hw''⟩ := hw'
          subst hw''
          obtain ⟨w9, h9, e9⟩ : ∃ w9, Below (w6.alloc (.cells #[.int .i64 y.c, .int .i64 y.r, .int .i64 y.d, .int .i64 y.p] 34)).heap.size (w6.alloc (.cells #[.int .i64 y.c, .int .i64 y.r, .int .i64 y.d, .int .i64 y.p] 34)) w9 ∧ w9 = s9.val := ⟨_, s9.h, rfl⟩
          rw [← e9]
          have HB9 := Lib.hid (below_and HB6.out h9)
          have HBW9 := Lib.hid (below_and HR6.out h9)
          have X9 := Lib.hid (X6.out.kept h9)
          clear h9 e9 x1 x2 z0 z1 z2 z3 g0 hlk
          have y0 := X9.out.cell (j := 0) rfl
          have y1 := X9.out.cell (j := 1) rfl
          have y2 := X9.out.cell (j := 2) rfl
          have y3 := X9.out.cell (j := 3) rfl
          have y4 := X9.out.cell (j := 4) rfl
          have y5 := X9.out.cell (j := 5) rfl
          have y6 := X9.out.cell (j := 6) rfl
          have HOA : Hid ((w9.alloc (.cells #[.string x.n, .string x.u, .int .i64 x.b, .int .i64 x.a.c, .int .i64 x.a.r, .int .i64 x.a.d, .int .i64 x.a.p] 43)).ownsRow w.heap.size 43 7 u3 ((C.take k).filter (overB G C)).length (rwC chC ((C.take k).filter (overB G C)))) := Lib.hid (own_fr HO.out.1 (Fr.of_below (below_and HBW9.out (below_alloc w9 _)) []) (fun _ _ => by simp))
          have HWZ : Hid (w.heap.size ≤ w9.heap.size ∧ w3.heap.size ≤ w9.heap.size) := Lib.hid ⟨(below_and HB3.out HB9.out).size, HB9.out.size⟩
          have HFL : Hid (((C.take k).filter (overB G C)).length ≤ 100000) := Lib.hid (by have h1 := List.length_filter_le (overB G C) (C.take k); have h2 := HL.out; rw [List.length_take] at h1; omega)
          go_wp2_with (at_builtin; go_loud (refine wpList_app5 rfl _ _ 28 28 rfl w.heap.size 43 i0 (chV zC) 7 72 Tryz.underlying28 hi0 hz0 hz1 hz2 rfl _ _ (rwC chC ((C.take k).filter (overB G C))) rfl HOA.out _ 1 _ rfl (src_block Tryz.underlying28 _ _ #[_, _, _, _, _, _, _] (heap_alloc_new w9 _) rfl (chC_one x)) (by have := HFL.out; unfold maxLen; omega) (by have := HFL.out; omega) (by have := HWZ.out; simp; omega) ?_; intro o4 w4 ho4 hg4 hn4; have HO4 := Lib.hid ho4; have HN4 : Hid (∀ x, o4.ownBlock = some x → w3.heap.size ≤ x) := Lib.hid (fun y hy => by rcases hn4 y hy with h1 | h1; exact HO.out.2 y h1; have := HWZ.out; simp at h1; omega); have HB4 : Hid (Below w3.heap.size w3 w4) := Lib.hid ((below_and HB9.out (below_alloc w9 _)).trans ((Fr.of_grown hg4).below (by intro y hy; exact HO.out.2 y (Option.mem_toList.1 hy)) (by have := HWZ.out; simp; omega))); clear ho4 hg4 hn4))
          go_roundw
          case rel => exact ⟨k + 1, hlt, by go_num, Lib.hid ⟨by rw [HT.out, HP.out]; simpa [rwC_append, rwC_cons, rwC_nil] using HO4.out, HN4.out⟩, HB4⟩
          case measure => simp [intOf]; omega
        · have HP : Hid (overB G C x = false) := Lib.hid (by rw [HOV.out, hbz, hfz]; rfl)
          rw [hfz] at HFT
          refine wp_region_past (by kernel_rfl) (by kernel_rfl) ?_
          repeat (go_big_quiet_step (first | (go_at_call 34; exact past_call (HFT.out _))))
          refine wpQuiet_nil ?_
          intro _ hw'
          obtain ⟨s9, hw''⟩ := hw'
          subst hw''
          obtain ⟨w9, h9, e9⟩ : ∃ w9, Below (w6.alloc (.cells #[.int .i64 y.c, .int .i64 y.r, .int .i64 y.d, .int .i64 y.p] 34)).heap.size (w6.alloc (.cells #[.int .i64 y.c, .int .i64 y.r, .int .i64 y.d, .int .i64 y.p] 34)) w9 ∧ w9 = s9.val := ⟨_, s9.h, rfl⟩
          rw [← e9]
          have HB9 := Lib.hid (below_and HB6.out h9)
          have HBW9 := Lib.hid (below_and HR6.out h9)
          have X9 := Lib.hid (X6.out.kept h9)
          clear h9 e9 x1 x2 z0 z1 z2 z3 g0 hlk
          go_wp2
          go_roundw
          case rel => exact ⟨k + 1, hlt, by go_num, Lib.hid ⟨by
              have hh := own_fr HO.out.1 (Fr.of_below HBW9.out []) (fun _ _ => by simp)
              rw [HT.out, HP.out]; simpa using hh, HO.out.2⟩, HB9⟩
          case measure => simp [intOf]; omega
      · have t1 : (x.b != 0) = false := by rw [bne, hbz]; rfl
        have HP : Hid (overB G C x = false) := Lib.hid (by rw [HOV.out, hbz]; rfl)
        clear hbz
        skip
        refine wp_region_past (by kernel_rfl) (by kernel_rfl) ?_
        repeat (go_big_quiet_step (first | (go_at_call 34; exact past_call (HFT.out _))))
        refine wpQuiet_nil ?_
        intro _ hw'
        obtain ⟨s9, hw''⟩ := hw'
        subst hw''
        obtain ⟨w9, h9, e9⟩ : ∃ w9, Below (w6.alloc (.cells #[.int .i64 y.c, .int .i64 y.r, .int .i64 y.d, .int .i64 y.p] 34)).heap.size (w6.alloc (.cells #[.int .i64 y.c, .int .i64 y.r, .int .i64 y.d, .int .i64 y.p] 34)) w9 ∧ w9 = s9.val := ⟨_, s9.h, rfl⟩
        rw [← e9]
        have HB9 := Lib.hid (below_and HB6.out h9)
        have HBW9 := Lib.hid (below_and HR6.out h9)
        have X9 := Lib.hid (X6.out.kept h9)
        clear h9 e9 x1 x2 z0 z1 z2 z3 g0 hlk
        go_wp2
        go_roundw
        case rel => exact ⟨k + 1, hlt, by go_num, Lib.hid ⟨by
            have hh := own_fr HO.out.1 (Fr.of_below HBW9.out []) (fun _ _ => by simp)
            rw [HT.out, HP.out]; simpa using hh, HO.out.2⟩, HB9⟩
        case measure => simp [intOf]; omega
    · obtain rfl : k = C.length := by omega
      have HE := HO.out.1
      rw [List.take_length] at HE
      have HEE := Lib.hid HE
      clear HE
      go_wp2
      go_ret
      exact ⟨_, rfl, HEE.out, below_and HB3.out HB.out⟩
end Go.Proofs.YtmgbailpmcggiaaGreat
namespace Go.Proofs.YtmgbailpmcggiaaGreat
open Go.RowKit

structure QI (n : Nat) (G : List Gr) (C : List Ch) : Prop where
  ch : ChI C
  nm : ∀ e ∈ C, nmdB e.n = true ∧ askB e.u e.b = true
  gr : ∀ g ∈ G, askB g.u g.b = true ∧ g.a.okB = true
  rise : KRise Gr.key G
  lenG : G.length ≤ n
  lenC : C.length ≤ n

theorem QI.pos {n : Nat} {G : List Gr} {C : List Ch} (h : QI n G C) : ∀ e ∈ C, 0 < e.n.size := fun e he => by
  have := (h.nm e he).1
  unfold nmdB at this
  simp only [decide_eq_true_eq] at this
  omega
theorem QI.user {n : Nat} {G : List Gr} {C : List Ch} (h : QI n G C) : ∀ e ∈ C, askB e.u e.b = true := fun e he => (h.nm e he).2
theorem QI.grok {n : Nat} {G : List Gr} {C : List Ch} (h : QI n G C) (u : ByteArray) (d : Int) : (grantA G u d).okB = true := by
  unfold grantA
  cases hx : kfnd Gr.key G (kT u d) with
  | none => rfl
  | some g => exact (h.gr g (kfnd_mem hx).1).2
theorem QI.nil : QI 0 [] [] := ⟨⟨List.Pairwise.nil, fun e h => (by cases h), fun u d => rfl⟩, fun e h => (by cases h), fun g h => (by cases h), List.Pairwise.nil, Nat.le_refl _, Nat.le_refl _⟩
theorem QI.mono {n m : Nat} {G : List Gr} {C : List Ch} (h : QI n G C) (hm : n ≤ m) : QI m G C := ⟨h.ch, h.nm, h.gr, h.rise, Nat.le_trans h.lenG hm, Nat.le_trans h.lenC hm⟩

theorem kput_len {α : Type} (key : α → List UInt8) (L : List α) (x : α) : (kput key L x).length ≤ L.length + 1 := by
  unfold kput
  rw [(kins_perm x _).length_eq, List.length_cons]
  have : (krem key L (key x)).length ≤ L.length := List.length_filter_le _ _
  omega
theorem QI.grant {n : Nat} {G : List Gr} {C : List Ch} (h : QI n G C) (u : ByteArray) (d : Int) (a : Am) : QI (n + 1) (grantP G u d a).2 C := by
  unfold grantP
  split
  · rename_i hk
    rw [Bool.and_eq_true] at hk
    refine ⟨h.ch, h.nm, fun g hg => ?_, h.rise.put _, ?_, by have := h.lenC; omega⟩
    · rcases (kput_mem G _ g).1 hg with rfl | hg
      · exact hk
      · exact h.gr g hg.1
    · have := kput_len Gr.key G ⟨u, d, a⟩
      have := h.lenG
      show (kput Gr.key G ⟨u, d, a⟩).length ≤ _
      omega
  · exact h.mono (by omega)

theorem ksum_filter {f : Ch → Int} (q : Ch → Bool) : ∀ C : List Ch, ksum f (C.filter q) = ksum (fun e => if q e then f e else 0) C
  | [] => rfl
  | e :: C => by
    rw [List.filter_cons, ksum_cons]
    cases hq : q e
    · rw [if_neg (by simp), ksum_filter q C]; simp
    · rw [if_pos rfl, ksum_cons, ksum_filter q C]; simp
theorem psum_put (C : List Ch) (c : Ch) (u : ByteArray) (d : Int) {k : Nat} (hk : k < 4) : (psum (onB u d) (kput Ch.key C c)).get k = pf (onB u d) k c + (psum (hit u d c.n) C).get k := by
  rw [psum_get _ _ hk, psum_get _ _ hk]
  unfold kput
  rw [ksum_ins]
  congr 1
  unfold krem
  rw [ksum_filter]
  unfold ksum
  congr 1
  refine List.map_congr_left fun e _ => ?_
  have h1 : (e.n.toList == c.n.toList) = (e.key == c.key) := by rw [Lib.toList_data, Lib.toList_data]; rfl
  unfold pf hit onB
  rw [h1]
  cases e.key == c.key <;> simp
theorem addR_zero {x y : Am} (h : (addR x y).2 = 0) : ∀ k, k < 4 → x.get k + y.get k ≤ 1099511627776 := by
  intro k hk
  unfold addR at h
  split at h
  · cases h
  · split at h
    · cases h
    · rename_i h1
      have := any4_false (Bool.eq_false_iff.2 h1) hk
      simp only [decide_eq_false_iff_not] at this
      omega
theorem mayP_zero {G : List Gr} {C : List Ch} {c : Ch} {l : Bool} (h : mayP G C c l = 0) : (addR (psum (hit c.u c.b c.n) C) c.a).2 = 0 := by
  unfold mayP at h
  split at h
  · cases h
  · rename_i h1
    simpa using h1
theorem chI_put {C : List Ch} (h : ChI C) {G : List Gr} {c : Ch} {l : Bool} (ha : c.a.okB = true) (hm : mayP G C c l = 0) : ChI (kput Ch.key C c) := by
  have hs := addR_zero (mayP_zero hm)
  refine ⟨h.rise.put _, fun e he => ?_, fun u d => ?_⟩
  · rcases (kput_mem C _ e).1 he with rfl | he
    · exact ha
    · exact h.ok e he.1
  · unfold Fit
    rw [Am.okB_iff]
    intro k hk
    rw [psum_put C c u d hk]
    have hp := psum_nonneg (p := hit u d c.n) h.ok hk
    have hc := ok_get ha hk
    cases ho : onB u d c
    · have h1 := ok_get (h.hit u d c.n) hk
      unfold pf
      rw [ho]
      simp
      omega
    · have h2 := hs k hk
      have he : hit u d c.n = hit c.u c.b c.n := by
        unfold onB at ho
        rw [Bool.and_eq_true] at ho
        funext e
        unfold hit
        have h3 : c.u.toList = u.toList := by simpa using ho.1
        have h4 : c.b = d := by simpa using ho.2
        rw [h3, h4]
      rw [he] at hp ⊢
      unfold pf
      rw [if_pos ho]
      omega
theorem chI_rem {C : List Ch} (h : ChI C) (s : List UInt8) : ChI (krem Ch.key C s) := by
  refine ⟨h.rise.rem s, fun e he => h.ok e ((krem_mem C s e).1 he).1, fun u d => ?_⟩
  unfold Fit
  rw [Am.okB_iff]
  intro k hk
  have h1 := ok_get (h.fit u d) hk
  rw [psum_get _ _ hk] at h1 ⊢
  have h3 := pf_nonneg (p := onB u d) h.ok hk
  unfold krem
  rw [ksum_filter]
  have h4 : ∀ (L : List Ch), (∀ e ∈ L, 0 ≤ pf (onB u d) k e) → 0 ≤ ksum (fun e => if (!(e.key == s)) = true then pf (onB u d) k e else 0) L ∧ ksum (fun e => if (!(e.key == s)) = true then pf (onB u d) k e else 0) L ≤ ksum (pf (onB u d) k) L := by
    intro L
    induction L with
    | nil => intro _; exact ⟨Int.le_refl _, Int.le_refl _⟩
    | cons e L ih =>
      intro hL
      rw [ksum_cons, ksum_cons]
      have h5 := ih (fun x hx => hL x (by simp [hx]))
      have h6 := hL e (by simp)
      split <;> omega
  have := h4 C h3
  omega
theorem QI.charge {n : Nat} {G : List Gr} {C : List Ch} (h : QI n G C) (c : Ch) : QI (n + 1) G (chargeP G C c).2 := by
  unfold chargeP
  by_cases h0 : (nmdB c.n && askB c.u c.b && c.a.okB) = false
  · rw [if_pos h0]; exact h.mono (by omega)
  rw [if_neg h0]
  by_cases h1 : (kfnd Ch.key C c.key).isSome = true
  · rw [if_pos h1]; exact h.mono (by omega)
  rw [if_neg h1]
  by_cases h2 : mayP G C c false ≠ 0
  · rw [if_pos h2]; exact h.mono (by omega)
  rw [if_neg h2]
  have h3 : (nmdB c.n = true ∧ askB c.u c.b = true) ∧ c.a.okB = true := by simp at h0; exact ⟨⟨h0.1, h0.2.1⟩, h0.2.2⟩
  have h4 : mayP G C c false = 0 := by simpa using h2
  refine ⟨chI_put h.ch h3.2 h4, fun e he => ?_, h.gr, h.rise, by have := h.lenG; omega, ?_⟩
  · rcases (kput_mem C _ e).1 he with rfl | he
    · exact h3.1
    · exact h.nm e he.1
  · have := kput_len Ch.key C c
    have := h.lenC
    show (kput Ch.key C c).length ≤ _
    omega
theorem QI.refund {n : Nat} {G : List Gr} {C : List Ch} (h : QI n G C) (s : ByteArray) : QI (n + 1) G (refundP C s).2 := by
  unfold refundP
  split
  · exact h.mono (by omega)
  split
  · exact h.mono (by omega)
  · refine ⟨chI_rem h.ch _, fun e he => h.nm e ((krem_mem C _ e).1 he).1, h.gr, h.rise, by have := h.lenG; omega, ?_⟩
    have : (krem Ch.key C s.data.toList).length ≤ C.length := List.length_filter_le _ _
    have := h.lenC
    show (krem Ch.key C s.data.toList).length ≤ _
    omega
theorem QI.change {n : Nat} {G : List Gr} {C : List Ch} (h : QI n G C) (s : ByteArray) (a : Am) : QI (n + 1) G (changeP G C s a).2 := by
  unfold changeP
  by_cases h0 : (nmdB s && a.okB) = false
  · rw [if_pos h0]; exact h.mono (by omega)
  rw [if_neg h0]
  cases hx : kfnd Ch.key C s.data.toList with
  | none => exact h.mono (by omega)
  | some c =>
    show QI (n + 1) G (if mayP G C ⟨c.n, c.u, c.b, a⟩ (fitsB a c.a) ≠ 0 then (mayP G C ⟨c.n, c.u, c.b, a⟩ (fitsB a c.a), C) else (0, kput Ch.key C ⟨c.n, c.u, c.b, a⟩)).2
    by_cases h2 : mayP G C ⟨c.n, c.u, c.b, a⟩ (fitsB a c.a) ≠ 0
    · rw [if_pos h2]; exact h.mono (by omega)
    rw [if_neg h2]
    have h4 : mayP G C ⟨c.n, c.u, c.b, a⟩ (fitsB a c.a) = 0 := by simpa using h2
    have h3 : nmdB s = true ∧ a.okB = true := by simpa using h0
    have hc := h.nm c (kfnd_mem hx).1
    refine ⟨chI_put h.ch (c := ⟨c.n, c.u, c.b, a⟩) h3.2 h4, fun e he => ?_, h.gr, h.rise, by have := h.lenG; omega, ?_⟩
    · rcases (kput_mem C _ e).1 he with rfl | he
      · exact hc
      · exact h.nm e he.1
    · have := kput_len Ch.key C ⟨c.n, c.u, c.b, a⟩
      have := h.lenC
      show (kput Ch.key C ⟨c.n, c.u, c.b, a⟩).length ≤ _
      omega
end Go.Proofs.YtmgbailpmcggiaaGreat
