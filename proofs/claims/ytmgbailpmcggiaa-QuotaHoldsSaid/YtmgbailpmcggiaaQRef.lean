/- The book's Refund, Used, Granted, Left. -/
import Derived.Test.YtmgbailpmcggiaaQCharge
namespace Go.Proofs.Ytmgbailpmcggiaa
open Go.RowKit

theorem fr_c {w w' : World} {mg mc : Nat} {w0 : World} (h1 : Below w0.heap.size w0 w) (h2 : w.grownBy w' (some mc)) : Fr [mg, mc] w0 w' := (Fr.of_below h1 [mg, mc]).then ((Fr.of_grown h2).mono (by simp))

set_option maxRecDepth 100000 in
set_option maxHeartbeats 1000000 in
theorem brefund_b1 (b mg mc : Nat) (G : List Gr) (C : List Ch) (n : ByteArray) (w : World) (h : Bk w b mg mc G C) (hn : nmdB n = false) :
    Calls Try.prog 14 #[ptr b, .string n] w fun e w' => e = .returned (.int .i64 2) ∧ Below w.heap.size w w' := by
  have HNE : Hid (nmdE n = 2) := Lib.hid (by unfold nmdE; rw [hn]; rfl)
  have H := Lib.hid h
  clear h hn
  go_enter Try.func14, Try.ntmps14
  go_wp2_with (go_at_call 26; refine (named_made b mg mc G C n _ H.out).mono ?_; rw [HNE.out]; rintro e w4 ⟨rfl, rfl⟩)
  go_ret
  exact ⟨rfl, Below.refl _ _⟩
set_option maxRecDepth 100000 in
set_option maxHeartbeats 1000000 in
theorem brefund_b2 (b mg mc : Nat) (G : List Gr) (C : List Ch) (n : ByteArray) (w : World) (h : Bk w b mg mc G C) (hn : nmdB n = true) (hx : kfnd Ch.key C n.data.toList = none) :
    Calls Try.prog 14 #[ptr b, .string n] w fun e w' => e = .returned (.int .i64 6) ∧ Below w.heap.size w w' := by
  have HNE : Hid (nmdE n = 0) := Lib.hid (by unfold nmdE; rw [hn]; rfl)
  have HLK : Hid (∀ w', SMap Try.prog 9 w' mc (chM C) → (Instr.lookup 52 (.map (some mc)) (.string n) true).run Try.prog w' = .ok (.tuple #[chV zC, .bool false]) w') := Lib.hid (fun w' h' => by rw [charge_look h' (nmdB_len hn), hx]; rfl)
  have H := Lib.hid h
  have g1 := h.blk.cell (j := 1) rfl
  have hlk := HLK.out w h.cm
  clear h hn hx
  go_enter Try.func14, Try.ntmps14
  go_wp2_with (go_at_call 26; refine (named_made b mg mc G C n _ H.out).mono ?_; rw [HNE.out]; rintro e w4 ⟨rfl, rfl⟩)
  go_ret
  exact ⟨rfl, below_alloc w _⟩
set_option maxRecDepth 100000 in
set_option maxHeartbeats 1000000 in
theorem brefund_ok (b mg mc : Nat) (G : List Gr) (C : List Ch) (n : ByteArray) (x : Ch) (w : World) (h : Bk w b mg mc G C) (hn : nmdB n = true) (hx : kfnd Ch.key C n.data.toList = some x) :
    Calls Try.prog 14 #[ptr b, .string n] w fun e w' => e = .returned (.int .i64 0) ∧ Bk w' b mg mc G (krem Ch.key C n.data.toList) ∧ Fr [mg, mc] w w' := by
  have HNE : Hid (nmdE n = 0) := Lib.hid (by unfold nmdE; rw [hn]; rfl)
  have HNL : Hid (n.size ≤ maxLen) := Lib.hid (nmdB_len hn)
  have HLK : Hid (∀ w', SMap Try.prog 9 w' mc (chM C) → (Instr.lookup 52 (.map (some mc)) (.string n) true).run Try.prog w' = .ok (.tuple #[chV x, .bool true]) w') := Lib.hid (fun w' h' => by rw [charge_look h' (nmdB_len hn), hx]; rfl)
  have HPT : Hid ((chM C).del n.data.toList = chM (krem Ch.key C n.data.toList)) := Lib.hid (kM_del (key := Ch.key) (val := chV) C n.data.toList)
  have H := Lib.hid h
  have hb6 := below_alloc w (.cells #[.string x.n, .string x.u, .int .i64 x.b, .int .i64 x.a.c, .int .i64 x.a.r, .int .i64 x.a.d, .int .i64 x.a.p] 31)
  have HB6 := Lib.hid hb6
  have H6 := Lib.hid (h.kept hb6)
  have g1 := h.blk.cell (j := 1) rfl
  have g2 := H6.out.blk.cell (j := 1) rfl
  have hlk := HLK.out w h.cm
  clear h hn hx hb6
  go_enter Try.func14, Try.ntmps14
  go_wp2_with (first
    | (go_at_call 26; refine (named_made b mg mc G C n _ H.out).mono ?_; rw [HNE.out]; rintro e w4 ⟨rfl, rfl⟩)
    | (refine wpList_sdel _ rfl _ _ _ _ rfl 31 Try.underlying9 Try.underlying52 mc (chM C) rfl H6.out.cm n rfl HNL.out ?_; intro v8 hp8 hg8; rw [HPT.out] at hp8; have HP8 := Lib.hid hp8; have HG8 := Lib.hid hg8; clear hp8 hg8))
  go_ret
  exact ⟨rfl, bk_c H6.out HP8.out HG8.out, fr_c HB6.out HG8.out⟩
theorem brefund_any (b mg mc : Nat) (G : List Gr) (C : List Ch) (n : ByteArray) (w : World) (h : Bk w b mg mc G C) :
    Calls Try.prog 14 #[ptr b, .string n] w fun e w' => e = .returned (.int .i64 (refundP C n).1) ∧ Bk w' b mg mc G (refundP C n).2 ∧ Fr [mg, mc] w w' := by
  cases hn : nmdB n
  · have hr : refundP C n = (2, C) := by unfold refundP; rw [if_pos hn]
    rw [hr]
    exact (brefund_b1 b mg mc G C n w h hn).mono fun e w' ⟨h1, h2⟩ => ⟨h1, bk_stay h h2⟩
  cases hx : kfnd Ch.key C n.data.toList with
  | none =>
    have hr : refundP C n = (6, C) := by unfold refundP; rw [if_neg (by rw [hn]; simp), if_pos (by rw [hx]; rfl)]
    rw [hr]
    exact (brefund_b2 b mg mc G C n w h hn hx).mono fun e w' ⟨h1, h2⟩ => ⟨h1, bk_stay h h2⟩
  | some x =>
    have hr : refundP C n = (0, krem Ch.key C n.data.toList) := by unfold refundP; rw [if_neg (by rw [hn]; simp), if_neg (by rw [hx]; simp)]
    rw [hr]
    exact brefund_ok b mg mc G C n x w h hn hx

/-! Used -/
theorem hit_empty {C : List Ch} (hn : ∀ e ∈ C, 0 < e.n.size) (u : ByteArray) (d : Int) : psum (hit u d ⟨#[]⟩) C = psum (onB u d) C := Am.ext_get fun k hk => by
  rw [psum_get _ C hk, psum_get _ C hk]
  unfold ksum
  congr 1
  refine List.map_congr_left fun e he => ?_
  have h1 : (e.n.toList == (⟨#[]⟩ : ByteArray).toList) = false := by
    rw [Lib.toList_data, Lib.toList_data]
    have h2 := hn e he
    have h3 : e.n.data.toList.length = e.n.size := by simp
    cases h4 : e.n.data.toList with
    | nil => rw [h4] at h3; simp at h3; omega
    | cons => rfl
  unfold pf hit onB
  rw [h1]
  simp
set_option maxRecDepth 100000 in
set_option maxHeartbeats 1000000 in
theorem bUsed_any (b mg mc : Nat) (G : List Gr) (C : List Ch) (u : ByteArray) (d : Int) (w : World) (h : Bk w b mg mc G C) (hi : ChI C) (hnm : ∀ e ∈ C, 0 < e.n.size) (hd1 : -9223372036854775808 ≤ d) (hd2 : d ≤ 9223372036854775807) :
    Calls Try.prog 22 #[ptr b, .string u, .int .i64 d] w fun e w' => e = .returned (.tuple #[amV (usedP C u d).1, .int .i64 (usedP C u d).2]) ∧ Below w.heap.size w w' := by
  obtain ⟨w3, hw3⟩ : ∃ w3, w3 = w.alloc (.cells #[.int .i64 0, .int .i64 0, .int .i64 0, .int .i64 0] 28) := ⟨_, rfl⟩
  obtain ⟨B, hB⟩ : ∃ B, B = w.heap.size := ⟨_, rfl⟩
  have B0 : Hid (Blk w3 B (amC .zero) 28) := Lib.hid (by rw [hw3, hB]; exact Blk.made w (amC .zero) _)
  have HBL : Hid (Below w.heap.size w w3) := Lib.hid (by rw [hw3]; exact below_alloc w _)
  have HBW : Hid (w.heap.size ≤ B) := Lib.hid (by omega)
  have H3 := Lib.hid (h.kept HBL.out)
  cases hk : askB u d
  · have HK : Hid (askE u d = 2) := Lib.hid (by unfold askE; rw [hk]; rfl)
    have HR : Hid (usedP C u d = (.zero, 2)) := Lib.hid (by unfold usedP; rw [hk]; rfl)
    clear h hi hk hnm
    have r0 := B0.out.cell (j := 0) rfl
    have r1 := B0.out.cell (j := 1) rfl
    have r2 := B0.out.cell (j := 2) rfl
    have r3 := B0.out.cell (j := 3) rfl
    go_enter Try.func22, Try.ntmps22
    go_upto_region 1 with fail
    rw [← hw3, ← hB]
    clear hw3 hB
    go_wp2_with (go_at_call 24; refine (asked_made b mg mc G C u d _ H3.out hd1 hd2).mono ?_; rw [HK.out]; rintro e w4 ⟨rfl, hb⟩; have HB4 := Lib.hid (below_and HBL.out hb); have hb0 := B0.out.kept hb; have C0 := Lib.hid hb0; clear r0 r1 r2 r3; have r0 := hb0.cell (j := 0) rfl; have r1 := hb0.cell (j := 1) rfl; have r2 := hb0.cell (j := 2) rfl; have r3 := hb0.cell (j := 3) rfl; have f0 := hb0.free 0; have f1 := hb0.free 1; have f2 := hb0.free 2; have f3 := hb0.free 3; clear hb hb0)
    refine bodyPost_ret (results_row_tmp rfl _ _ B 28 #[.int .i64 0, .int .i64 0, .int .i64 0, .int .i64 0] (0, 0) _ rfl ?_ Try.underlying28 rfl (by kernel_rfl)) rfl ⟨by rw [HR.out]; rfl, ?_⟩
    · exact (((C0.out.set 0 (.int .i64 0)).set 1 (.int .i64 0)).set 2 (.int .i64 0)).set 3 (.int .i64 0)
    · exact (((HB4.out.setCell (p := ⟨B, 0, none⟩) HBW.out _).setCell (p := ⟨B, 1, none⟩) HBW.out _).setCell (p := ⟨B, 2, none⟩) HBW.out _).setCell (p := ⟨B, 3, none⟩) HBW.out _
  · have HK : Hid (askE u d = 0) := Lib.hid (by unfold askE; rw [hk]; rfl)
    obtain ⟨y, hy⟩ : ∃ y, y = psum (onB u d) C := ⟨_, rfl⟩
    have HR : Hid (usedP C u d = (y, 0)) := Lib.hid (by unfold usedP; rw [hk, hy]; rfl)
    have HUS : Hid (∀ w', Bk w' b mg mc G C → Calls Try.prog 28 #[ptr b, .string u, .int .i64 d, .string ⟨#[]⟩] w' fun e w2 => e = .returned (.tuple #[amV y, .bool true]) ∧ Below w'.heap.size w' w2) := Lib.hid (fun w' h' => by rw [hy, ← hit_empty hnm]; exact bused_any b mg mc G C u ⟨#[]⟩ d w' h' hi.rise.apart hi.ok (hi.hit u d _))
    clear h hi hk hnm hy
    go_enter Try.func22, Try.ntmps22
    go_upto_region 1 with fail
    rw [← hw3, ← hB]
    clear hw3 hB
    go_wp2_with (first
      | (go_at_call 24; refine (asked_made b mg mc G C u d _ H3.out hd1 hd2).mono ?_; rw [HK.out]; rintro e w4 ⟨rfl, hb⟩; have HB4 := Lib.hid (below_and HBL.out hb); have H4 := Lib.hid (H3.out.kept hb); have C4 := Lib.hid (B0.out.kept hb); clear hb)
      | (go_at_call 28; refine (HUS.out _ H4.out).mono ?_; rintro e w5 ⟨rfl, hb⟩; have hbz := below_and hb (below_alloc w5 (.cells #[.int .i64 y.c, .int .i64 y.r, .int .i64 y.d, .int .i64 y.p] 28)); have HB5 := Lib.hid (below_and HB4.out hbz); have hb0 := C4.out.kept hbz; have C0 := Lib.hid hb0; have r0 := hb0.cell (j := 0) rfl; have r1 := hb0.cell (j := 1) rfl; have r2 := hb0.cell (j := 2) rfl; have r3 := hb0.cell (j := 3) rfl; have f0 := hb0.free 0; have f1 := hb0.free 1; have f2 := hb0.free 2; have f3 := hb0.free 3; clear hb hb0 hbz))
    refine bodyPost_ret (results_row_tmp rfl _ _ B 28 #[.int .i64 y.c, .int .i64 y.r, .int .i64 y.d, .int .i64 y.p] (0, 0) _ rfl ?_ Try.underlying28 rfl (by kernel_rfl)) rfl ⟨by rw [HR.out]; rfl, ?_⟩
    · exact (((C0.out.set 0 (.int .i64 y.c)).set 1 (.int .i64 y.r)).set 2 (.int .i64 y.d)).set 3 (.int .i64 y.p)
    · exact (((HB5.out.setCell (p := ⟨B, 0, none⟩) HBW.out _).setCell (p := ⟨B, 1, none⟩) HBW.out _).setCell (p := ⟨B, 2, none⟩) HBW.out _).setCell (p := ⟨B, 3, none⟩) HBW.out _

/-! Granted -/
set_option maxRecDepth 100000 in
set_option maxHeartbeats 1000000 in
theorem bgranted_any (b mg mc : Nat) (G : List Gr) (C : List Ch) (u : ByteArray) (d : Int) (w : World) (h : Bk w b mg mc G C) (hd1 : -9223372036854775808 ≤ d) (hd2 : d ≤ 9223372036854775807) :
    Calls Try.prog 16 #[ptr b, .string u, .int .i64 d] w fun e w' => e = .returned (.tuple #[amV (grantedP G u d).1, .int .i64 (grantedP G u d).2]) ∧ Below w.heap.size w w' := by
  obtain ⟨w3, hw3⟩ : ∃ w3, w3 = w.alloc (.cells #[.int .i64 0, .int .i64 0, .int .i64 0, .int .i64 0] 28) := ⟨_, rfl⟩
  obtain ⟨B, hB⟩ : ∃ B, B = w.heap.size := ⟨_, rfl⟩
  have B0 : Hid (Blk w3 B (amC .zero) 28) := Lib.hid (by rw [hw3, hB]; exact Blk.made w (amC .zero) _)
  have HBL : Hid (Below w.heap.size w w3) := Lib.hid (by rw [hw3]; exact below_alloc w _)
  have HBW : Hid (w.heap.size ≤ B) := Lib.hid (by omega)
  have H3 := Lib.hid (h.kept HBL.out)
  cases hk : askB u d
  · have HK : Hid (askE u d = 2) := Lib.hid (by unfold askE; rw [hk]; rfl)
    have HR : Hid (grantedP G u d = (.zero, 2)) := Lib.hid (by unfold grantedP; rw [hk]; rfl)
    clear h hk
    go_enter Try.func16, Try.ntmps16
    go_upto_region 1 with fail
    rw [← hw3, ← hB]
    clear hw3 hB
    go_wp2_with (go_at_call 24; refine (asked_made b mg mc G C u d _ H3.out hd1 hd2).mono ?_; rw [HK.out]; rintro e w4 ⟨rfl, hb⟩; have HB4 := Lib.hid (below_and HBL.out hb); have hb0 := B0.out.kept hb; have C0 := Lib.hid hb0; have r0 := hb0.cell (j := 0) rfl; have r1 := hb0.cell (j := 1) rfl; have r2 := hb0.cell (j := 2) rfl; have r3 := hb0.cell (j := 3) rfl; have f0 := hb0.free 0; have f1 := hb0.free 1; have f2 := hb0.free 2; have f3 := hb0.free 3; clear hb hb0)
    refine bodyPost_ret (results_row_tmp rfl _ _ B 28 #[.int .i64 0, .int .i64 0, .int .i64 0, .int .i64 0] (0, 0) _ rfl ?_ Try.underlying28 rfl (by kernel_rfl)) rfl ⟨by rw [HR.out]; rfl, ?_⟩
    · exact (((C0.out.set 0 (.int .i64 0)).set 1 (.int .i64 0)).set 2 (.int .i64 0)).set 3 (.int .i64 0)
    · exact (((HB4.out.setCell (p := ⟨B, 0, none⟩) HBW.out _).setCell (p := ⟨B, 1, none⟩) HBW.out _).setCell (p := ⟨B, 2, none⟩) HBW.out _).setCell (p := ⟨B, 3, none⟩) HBW.out _
  · have HK : Hid (askE u d = 0) := Lib.hid (by unfold askE; rw [hk]; rfl)
    have hn := askB_name hk
    have HKO : Hid (keyOf Try.prog 60 (kV u d) = some (.string (kT u d))) := Lib.hid (keyOf_k (by unfold maxLen; omega) (band_wf hn.2))
    obtain ⟨y, hy⟩ : ∃ y, y = grantA G u d := ⟨_, rfl⟩
    have HR : Hid (grantedP G u d = (y, 0)) := Lib.hid (by unfold grantedP; rw [hk, hy]; rfl)
    have HLK : Hid (∀ w', SMap Try.prog 60 w' mg (grM G) → (Instr.lookup 51 (.map (some mg)) (kV u d) false).run Try.prog w' = .ok (amV y) w') := Lib.hid (fun w' h' => by rw [hy]; exact grant_look h' HKO.out)
    clear h hk hn hy
    go_enter Try.func16, Try.ntmps16
    go_upto_region 1 with fail
    rw [← hw3, ← hB]
    clear hw3 hB
    go_wp2_with (go_at_call 24; refine (asked_made b mg mc G C u d _ H3.out hd1 hd2).mono ?_; rw [HK.out]; rintro e w4 ⟨rfl, hb⟩; have HB4 := Lib.hid (below_and HBL.out hb); have H4 := H3.out.kept hb; have g0 := H4.blk.cell (j := 0) rfl; have hlk := HLK.out _ H4.gm; have hb0 := B0.out.kept hb; have C0 := Lib.hid hb0; have r0 := hb0.cell (j := 0) rfl; have r1 := hb0.cell (j := 1) rfl; have r2 := hb0.cell (j := 2) rfl; have r3 := hb0.cell (j := 3) rfl; have f0 := hb0.free 0; have f1 := hb0.free 1; have f2 := hb0.free 2; have f3 := hb0.free 3; clear hb hb0 H4)
    refine bodyPost_ret (results_row_tmp rfl _ _ B 28 #[.int .i64 y.c, .int .i64 y.r, .int .i64 y.d, .int .i64 y.p] (0, 0) _ rfl ?_ Try.underlying28 rfl (by kernel_rfl)) rfl ⟨by rw [HR.out]; rfl, ?_⟩
    · exact (((C0.out.set 0 (.int .i64 y.c)).set 1 (.int .i64 y.r)).set 2 (.int .i64 y.d)).set 3 (.int .i64 y.p)
    · exact (((HB4.out.setCell (p := ⟨B, 0, none⟩) HBW.out _).setCell (p := ⟨B, 1, none⟩) HBW.out _).setCell (p := ⟨B, 2, none⟩) HBW.out _).setCell (p := ⟨B, 3, none⟩) HBW.out _
end Go.Proofs.Ytmgbailpmcggiaa
