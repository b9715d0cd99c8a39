/- Texts of one proof, laid together: RLed, RAdd, RSum, RLed2, RFits, RSub, RRoom. No condition of ours. -/
import Derived.Test.YtighcnecajgkpaaLS5
import Derived.Deep.DeepCutAuto
namespace Go.Proofs.Ytighcnecajgkpaa
open Go.RowKit

/-- block g is a ledger of the document's, v its entries -/
structure RLed (base : Nat) (w : World) (g : Nat) (v : Value) (cap : Am) (L : List Ent) : Prop where
  blk : Blk w g [.int .i64 cap.c, .int .i64 cap.r, .int .i64 cap.d, .int .i64 cap.p, v] 68
  row : w.ownsRow base 48 6 v L.length (entsC L)
  ne : v.ownBlock ≠ some g
theorem RLed.kept {base : Nat} {w w' : World} {g : Nat} {v : Value} {cap : Am} {L : List Ent} (h : RLed base w g v cap L) (hb : Below w.heap.size w w') : RLed base w' g v cap L := ⟨h.blk.kept hb, own_fr h.row (Fr.of_below hb []) (fun _ _ => by simp), h.ne⟩
theorem RLed.fr {S : List Nat} {base : Nat} {w w' : World} {g : Nat} {v : Value} {cap : Am} {L : List Ent} (h : RLed base w g v cap L) (hf : Fr S w w') (hg : g ∉ S) (hv : ∀ k, v.ownBlock = some k → k ∉ S) : RLed base w' g v cap L := ⟨h.blk.fr hf hg, own_fr h.row hf hv, h.ne⟩
theorem RLed.shape {base : Nat} {w : World} {g : Nat} {v : Value} {cap : Am} {L : List Ent} (h : RLed base w g v cap L) : ∃ p c, v = .slice p L.length c ∧ L.length ≤ c ∧ c ≤ maxLen := own_slice h.row
theorem RLed.at {base : Nat} {w : World} {g : Nat} {p : Option Addr} {n c : Nat} {cap : Am} {L : List Ent} (h : RLed base w g (.slice p n c) cap L) {k : Nat} (hk : k < L.length) :
    ∃ q, p = some ⟨q, 0, none⟩ ∧ ∀ j u, j < 6 → (entC L[k])[j]? = some u → w.cell? ⟨q, k * 6 + j, none⟩ = some u := by
  obtain ⟨q, c', e, -, -, -⟩ := own_block h.row (by omega)
  simp only [Value.slice.injEq] at e
  obtain ⟨rfl, rfl, rfl⟩ := e
  exact ⟨q, rfl, fun j u hj hu => own_cell h.row (by rw [entsC_at L k hk j hj]; exact hu)⟩

set_option maxRecDepth 100000 in
set_option maxHeartbeats 1000000 in
theorem rnew_bad (cap : Am) (w : World) (hc : cap.okB = false) :
    Calls Try.prog 14 #[amV cap] w fun e w' => e = .returned (.tuple #[.pointer none, .int .i64 2]) ∧ Below w.heap.size w w' := by
  have HC := Lib.hid (Am.chk_no hc)
  clear hc
  go_enter Try.func14, Try.ntmps14
  go_wp2_with (go_at_call 34; refine (rcheck_any cap _).mono ?_; rw [HC.out]; rintro e w1 ⟨rfl, hb⟩; have HB1 := Lib.hid (below_and (below_alloc w _) hb); clear hb)
  go_ret2
  exact ⟨rfl, HB1.out⟩
set_option maxRecDepth 100000 in
set_option maxHeartbeats 1000000 in
theorem rnew_ok (base : Nat) (cap : Am) (w : World) (hc : cap.okB = true) :
    Calls Try.prog 14 #[amV cap] w fun e w' => ∃ g, e = .returned (.tuple #[ptr g, .int .i64 0]) ∧ w.heap.size ≤ g ∧ RLed base w' g (.slice none 0 0) cap [] ∧ Below w.heap.size w w' := by
  have HC := Lib.hid (Am.chk_yes hc)
  clear hc
  go_enter Try.func14, Try.ntmps14
  go_wp2_with (go_at_call 34; refine (rcheck_any cap _).mono ?_; rw [HC.out]; rintro e w1 ⟨rfl, hb⟩; have hq := (Blk.made w (amC cap) 28).kept hb; have c0 := hq.cell (j := 0) rfl; have c1 := hq.cell (j := 1) rfl; have c2 := hq.cell (j := 2) rfl; have c3 := hq.cell (j := 3) rfl; have HB1 := Lib.hid (below_and (below_alloc w _) hb); clear hb hq)
  go_ret2
  have hs := HB1.out.size
  refine ⟨w1.heap.size, rfl, hs, ⟨Blk.made w1 [.int .i64 cap.c, .int .i64 cap.r, .int .i64 cap.d, .int .i64 cap.p, .slice none 0 0] 68, World.ownsRow_nil _ _ _ _, by simp [Value.ownBlock]⟩, below_and HB1.out (below_alloc w1 _)⟩

/-! place -/
def plc (L : List Ent) (s : ByteArray) : Option Nat := L.findIdx? fun e => e.n.toList == s.toList
def plcI (L : List Ent) (s : ByteArray) : Int := match plc L s with | some k => (k : Int) | none => -1
theorem plc_some {L : List Ent} {s : ByteArray} {k : Nat} (h : plc L s = some k) : ∃ hk : k < L.length, L[k].n.toList = s.toList ∧ fnd L s.data.toList = some L[k] := by
  unfold plc at h
  rw [List.findIdx?_eq_some_iff_getElem] at h
  obtain ⟨hk, h1, h2⟩ := h
  have h1' : L[k].n.toList = s.toList := by simpa using h1
  refine ⟨hk, h1', ?_⟩
  unfold fnd
  rw [List.find?_eq_some_iff_getElem]
  refine ⟨by rw [← tl_key, h1', Lib.toList_data]; simp, k, hk, rfl, fun j hj => ?_⟩
  have h3 := h2 j hj
  rw [← tl_key, ← Lib.toList_data]
  simpa using h3
theorem plc_none {L : List Ent} {s : ByteArray} (h : plc L s = none) : fnd L s.data.toList = none := by
  unfold plc at h
  rw [List.findIdx?_eq_none_iff] at h
  unfold fnd
  rw [List.find?_eq_none]
  intro e he
  have h1 := h e he
  rw [← tl_key, ← Lib.toList_data]
  simpa using h1
theorem plc_of {L : List Ent} {s : ByteArray} : (∃ k, plc L s = some k) ↔ (fnd L s.data.toList).isSome = true := by
  cases h : plc L s with
  | none => rw [plc_none h]; simp
  | some k => obtain ⟨_, _, h1⟩ := plc_some h; rw [h1]; simp

set_option maxRecDepth 100000 in
set_option maxHeartbeats 2000000 in
theorem place_any (base g : Nat) (v : Value) (cap : Am) (L : List Ent) (s : ByteArray) (w : World) (h : RLed base w g v cap L) :
    Calls Try.prog 35 #[ptr g, .string s] w fun e w' => e = .returned (.int .i64 (plcI L s)) ∧ Below w.heap.size w w' := by
  obtain ⟨p, c, rfl, hc, hm⟩ := h.shape
  have hml : maxLen ≤ 9223372036854775807 := by decide
  have H := Lib.hid h
  have c4 := h.blk.cell (j := 4) rfl
  clear h
  go_enter Try.func35, Try.ntmps35
  go_wp2
  go_loopw [5] (fun i wr => ∃ k : Nat, k ≤ L.length ∧ i = .int .i64 (k : Int) ∧ Hid (wr = w) ∧ Hid (∀ j (hj : j < L.length), j < k → (L[j].n.toList == s.toList) = false)) (fun i _ => L.length - (intOf i).toNat)
  case atStart => exact ⟨0, Nat.zero_le _, rfl, Lib.hid rfl, Lib.hid (fun j _ hj => absurd hj (Nat.not_lt_zero _))⟩
  case round =>
    obtain ⟨k, hk, rfl, HWW, HN⟩ := hrel
    obtain rfl := HWW.out
    by_cases hlt : k < L.length
    · obtain ⟨q, rfl, hcs⟩ := H.out.at hlt
      obtain ⟨x, hx⟩ : ∃ x, x = L[k] := ⟨_, rfl⟩
      rw [← hx] at hcs
      have e0 : wr.cell? ⟨q, k * 6, none⟩ = some (.string x.n) := hcs 0 _ (by omega) rfl
      have i1 : (k : Int) < (L.length : Int) := by omega
      cases hq : (x.n.toList == s.toList)
      · have HN2 : Hid (∀ j (hj : j < L.length), j < k + 1 → (L[j].n.toList == s.toList) = false) := Lib.hid (fun j hj hjk => by
          by_cases hjk2 : j < k
          · exact HN.out j hj hjk2
          · obtain rfl : j = k := by omega
            rw [← hx]; exact hq)
        clear hcs hx
        go_wp2
        go_roundw
        case rel => exact ⟨k + 1, hlt, by go_num, Lib.hid trivial, HN2⟩
        case measure => simp [intOf]; omega
      · have HP : Hid (plcI L s = (k : Int)) := Lib.hid (by
          have : plc L s = some k := by
            unfold plc
            rw [List.findIdx?_eq_some_iff_getElem]
            exact ⟨hlt, by rw [← hx]; exact hq, fun j hj => by rw [HN.out j (by omega) hj]; decide⟩
          unfold plcI
          rw [this])
        clear hcs hx
        go_wp2
        go_ret
        exact ⟨ret_int HP.out.symm, Below.refl _ _⟩
    · obtain rfl : k = L.length := by omega
      have HP : Hid (plcI L s = -1) := Lib.hid (by
        have : plc L s = none := by
          unfold plc
          rw [List.findIdx?_eq_none_iff]
          intro e he
          obtain ⟨j, hj, rfl⟩ := List.mem_iff_getElem.1 he
          exact HN.out j hj hj
        unfold plcI
        rw [this])
      go_wp2
      go_ret
      exact ⟨ret_int HP.out.symm, Below.refl _ _⟩
end Go.Proofs.Ytighcnecajgkpaa
namespace Go.Proofs.Ytighcnecajgkpaa
open Go.RowKit

set_option maxRecDepth 100000 in
set_option maxHeartbeats 4000000 in
theorem radd_bad (x y : Am) (w : World) (ha : (x.okB && y.okB) = false) :
    Calls Try.prog 63 #[amV x, amV y] w fun e w' => e = .returned (.tuple #[amV (addR x y).1, .int .i64 (addR x y).2]) ∧ Below w.heap.size w w' := by
  have HA : Hid ((x.okB && y.okB) = false) := Lib.hid ha
  have HR := Lib.hid (addR_bad ha)
  clear ha
  obtain ⟨w3, hw3⟩ : ∃ w3, w3 = (((w.alloc (.cells #[.int .i64 x.c, .int .i64 x.r, .int .i64 x.d, .int .i64 x.p] 28)).alloc (.cells #[.int .i64 y.c, .int .i64 y.r, .int .i64 y.d, .int .i64 y.p] 28)).alloc (.cells #[.int .i64 0, .int .i64 0, .int .i64 0, .int .i64 0] 28)) := ⟨_, rfl⟩
  obtain ⟨B, hB⟩ : ∃ B, B = w.heap.size := ⟨_, rfl⟩
  have B0 : Hid (Blk w3 B (amC x) 28) := Lib.hid (by
    have := ((Blk.made w (amC x) 28).alloc (.cells #[.int .i64 y.c, .int .i64 y.r, .int .i64 y.d, .int .i64 y.p] 28)).alloc (.cells #[.int .i64 0, .int .i64 0, .int .i64 0, .int .i64 0] 28)
    rw [hw3, hB]; exact this)
  have B1 : Hid (Blk w3 (B + 1) (amC y) 28) := Lib.hid (by
    have := (Blk.made (w.alloc (.cells #[.int .i64 x.c, .int .i64 x.r, .int .i64 x.d, .int .i64 x.p] 28)) (amC y) 28).alloc (.cells #[.int .i64 0, .int .i64 0, .int .i64 0, .int .i64 0] 28)
    rw [hw3, hB]; simpa using this)
  have B2 : Hid (Blk w3 (B + 1 + 1) (amC .zero) 28) := Lib.hid (by
    have := Blk.made ((w.alloc (.cells #[.int .i64 x.c, .int .i64 x.r, .int .i64 x.d, .int .i64 x.p] 28)).alloc (.cells #[.int .i64 y.c, .int .i64 y.r, .int .i64 y.d, .int .i64 y.p] 28)) (amC .zero) 28
    rw [hw3, hB]; simpa [Am.zero] using this)
  have HBL : Hid (Below w.heap.size w w3) := Lib.hid (by rw [hw3]; exact below_and (below_and (below_alloc w _) (below_alloc _ _)) (below_alloc _ _))
  have HSZ : Hid (w3.heap.size = B + 3) := Lib.hid (by rw [hw3, hB]; simp)
  have HBW0 : Hid (w.heap.size ≤ B) := Lib.hid (by omega)
  have c0 := B0.out.cell (j := 0) rfl
  have c1 := B0.out.cell (j := 1) rfl
  have c2 := B0.out.cell (j := 2) rfl
  have c3 := B0.out.cell (j := 3) rfl
  have c4 := B1.out.cell (j := 0) rfl
  have c5 := B1.out.cell (j := 1) rfl
  have c6 := B1.out.cell (j := 2) rfl
  have c7 := B1.out.cell (j := 3) rfl
  go_enter Try.func63, Try.ntmps63
  go_upto_region 1 with fail
  rw [← hw3, ← hB]
  clear hw3 hB
  go_wp2_with (go_at_call 57; refine (wrong_two w3 x y).mono ?_; rw [HA.out]; rintro e ws ⟨rfl, hb⟩; have C0 := Lib.hid (B0.out.kept hb); have C1 := Lib.hid (B1.out.kept hb); have HBS := Lib.hid (below_and HBL.out hb); have HSS : Hid (B + 3 ≤ ws.heap.size) := Lib.hid (by have := hb.size; have := HSZ.out; omega); have hbr := B2.out.kept hb; have C2 := Lib.hid hbr; have r0 := hbr.cell (j := 0) rfl; have f0 := hbr.free 0; have r1 := hbr.cell (j := 1) rfl; have f1 := hbr.free 1; have r2 := hbr.cell (j := 2) rfl; have f2 := hbr.free 2; have r3 := hbr.cell (j := 3) rfl; have f3 := hbr.free 3; clear hb hbr; clear c0 c1 c2 c3 c4 c5 c6 c7; have c0 := C0.out.cell (j := 0) rfl; have c1 := C0.out.cell (j := 1) rfl; have c2 := C0.out.cell (j := 2) rfl; have c3 := C0.out.cell (j := 3) rfl; have c4 := C1.out.cell (j := 0) rfl; have c5 := C1.out.cell (j := 1) rfl; have c6 := C1.out.cell (j := 2) rfl; have c7 := C1.out.cell (j := 3) rfl)
  refine bodyPost_ret (results_row_tmp rfl _ _ (B + 1 + 1) 28 #[.int .i64 0, .int .i64 0, .int .i64 0, .int .i64 0] (0, 0) _ rfl ?_ Try.underlying28 rfl (by kernel_rfl)) rfl ⟨?_, ?_⟩
  · exact (((C2.out.set 0 (.int .i64 0)).set 1 (.int .i64 0)).set 2 (.int .i64 0)).set 3 (.int .i64 0)
  · first | rfl | (rw [HR.out]; rfl)
  · have hBw : w.heap.size ≤ B + 1 + 1 := by have := HBW0.out; omega
    exact (((HBS.out.setCell (p := ⟨B + 1 + 1, 0, none⟩) hBw _).setCell (p := ⟨B + 1 + 1, 1, none⟩) hBw _).setCell (p := ⟨B + 1 + 1, 2, none⟩) hBw _).setCell (p := ⟨B + 1 + 1, 3, none⟩) hBw _

set_option maxRecDepth 100000 in
set_option maxHeartbeats 4000000 in
theorem radd_good (x y : Am) (w : World) (ha : (x.okB && y.okB) = true) :
    Calls Try.prog 63 #[amV x, amV y] w fun e w' => e = .returned (.tuple #[amV (addR x y).1, .int .i64 (addR x y).2]) ∧ Below w.heap.size w w' := by
  have HA : Hid ((x.okB && y.okB) = true) := Lib.hid ha
  have HX : Hid (x.okB = true) := Lib.hid (by simp at ha; exact ha.1)
  have HY : Hid (y.okB = true) := Lib.hid (by simp at ha; exact ha.2)
  clear ha
  obtain ⟨w3, hw3⟩ : ∃ w3, w3 = (((w.alloc (.cells #[.int .i64 x.c, .int .i64 x.r, .int .i64 x.d, .int .i64 x.p] 28)).alloc (.cells #[.int .i64 y.c, .int .i64 y.r, .int .i64 y.d, .int .i64 y.p] 28)).alloc (.cells #[.int .i64 0, .int .i64 0, .int .i64 0, .int .i64 0] 28)) := ⟨_, rfl⟩
  obtain ⟨B, hB⟩ : ∃ B, B = w.heap.size := ⟨_, rfl⟩
  have B0 : Hid (Blk w3 B (amC x) 28) := Lib.hid (by
    have := ((Blk.made w (amC x) 28).alloc (.cells #[.int .i64 y.c, .int .i64 y.r, .int .i64 y.d, .int .i64 y.p] 28)).alloc (.cells #[.int .i64 0, .int .i64 0, .int .i64 0, .int .i64 0] 28)
    rw [hw3, hB]; exact this)
  have B1 : Hid (Blk w3 (B + 1) (amC y) 28) := Lib.hid (by
    have := (Blk.made (w.alloc (.cells #[.int .i64 x.c, .int .i64 x.r, .int .i64 x.d, .int .i64 x.p] 28)) (amC y) 28).alloc (.cells #[.int .i64 0, .int .i64 0, .int .i64 0, .int .i64 0] 28)
    rw [hw3, hB]; simpa using this)
  have B2 : Hid (Blk w3 (B + 1 + 1) (amC .zero) 28) := Lib.hid (by
    have := Blk.made ((w.alloc (.cells #[.int .i64 x.c, .int .i64 x.r, .int .i64 x.d, .int .i64 x.p] 28)).alloc (.cells #[.int .i64 y.c, .int .i64 y.r, .int .i64 y.d, .int .i64 y.p] 28)) (amC .zero) 28
    rw [hw3, hB]; simpa [Am.zero] using this)
  have HBL : Hid (Below w.heap.size w w3) := Lib.hid (by rw [hw3]; exact below_and (below_and (below_alloc w _) (below_alloc _ _)) (below_alloc _ _))
  have HSZ : Hid (w3.heap.size = B + 3) := Lib.hid (by rw [hw3, hB]; simp)
  have HBW0 : Hid (w.heap.size ≤ B) := Lib.hid (by omega)
  have c0 := B0.out.cell (j := 0) rfl
  have c1 := B0.out.cell (j := 1) rfl
  have c2 := B0.out.cell (j := 2) rfl
  have c3 := B0.out.cell (j := 3) rfl
  have c4 := B1.out.cell (j := 0) rfl
  have c5 := B1.out.cell (j := 1) rfl
  have c6 := B1.out.cell (j := 2) rfl
  have c7 := B1.out.cell (j := 3) rfl
  go_enter Try.func63, Try.ntmps63
  go_upto_region 1 with fail
  rw [← hw3, ← hB]
  clear hw3 hB
  go_upto_region 3 with (first | (go_at_call 57; refine (wrong_two w3 x y).mono ?_; rw [HA.out]; rintro e ws ⟨rfl, hb⟩; have C0 := Lib.hid (B0.out.kept hb); have C1 := Lib.hid (B1.out.kept hb); have HBS := Lib.hid (below_and HBL.out hb); have HSS : Hid (B + 3 ≤ ws.heap.size) := Lib.hid (by have := hb.size; have := HSZ.out; omega); have hbr := B2.out.kept hb; have C2 := Lib.hid hbr; have r0 := hbr.cell (j := 0) rfl; have f0 := hbr.free 0; have r1 := hbr.cell (j := 1) rfl; have f1 := hbr.free 1; have r2 := hbr.cell (j := 2) rfl; have f2 := hbr.free 2; have r3 := hbr.cell (j := 3) rfl; have f3 := hbr.free 3; clear hb hbr; clear c0 c1 c2 c3 c4 c5 c6 c7; have c0 := C0.out.cell (j := 0) rfl; have c1 := C0.out.cell (j := 1) rfl; have c2 := C0.out.cell (j := 2) rfl; have c3 := C0.out.cell (j := 3) rfl; have c4 := C1.out.cell (j := 0) rfl; have c5 := C1.out.cell (j := 1) rfl; have c6 := C1.out.cell (j := 2) rfl; have c7 := C1.out.cell (j := 3) rfl))
  clear c0 c1 c2 c3 c4 c5 c6 c7 r0 r1 r2 r3 f0 f1 f2 f3
  go_cut [6, 7] (fun sa sb wx => TwoS ws.heap.size wx sa sb x y ∧ Below ws.heap.size ws wx)
  case first =>
    go_region_held3 (fun w' => w'.cell? ⟨B, 0, none⟩ = some (.int .i64 x.c) ∧ w'.cell? ⟨B, 1, none⟩ = some (.int .i64 x.r) ∧ w'.cell? ⟨B, 2, none⟩ = some (.int .i64 x.d) ∧ w'.cell? ⟨B, 3, none⟩ = some (.int .i64 x.p) ∧ w'.cell? ⟨B + 1, 0, none⟩ = some (.int .i64 y.c) ∧ w'.cell? ⟨B + 1, 1, none⟩ = some (.int .i64 y.r) ∧ w'.cell? ⟨B + 1, 2, none⟩ = some (.int .i64 y.d) ∧ w'.cell? ⟨B + 1, 3, none⟩ = some (.int .i64 y.p)) (refine eight (t := 28) (u := 28) ?_ ?_ <;> (repeat (first | exact C0.out | exact C1.out | apply Blk.drew | apply Blk.alloc)))
      (first | (go_at_call 48; refine (four_exact _ _).mono ?_; rintro e w1 ⟨rfl, rfl⟩))
    all_goals go_wp2_with fail
    all_goals go_meet
    all_goals refine ⟨⟨_, _, rfl, rfl, by first | omega | (simp; omega), by first | omega | (simp; omega), by first | omega | (simp; omega), ?_, ?_⟩, ?_⟩
    all_goals first
      | ((repeat (first | exact Below.refl _ _ | apply bl_drew | (refine bl_alloc _ ?_ (by simp <;> omega)))); done)
      | ((repeat (first | (refine Blk.made_at (cs := amC x) ?_; simp; done) | (refine Blk.made_at (cs := amC y) ?_; simp; done) | apply Blk.drew | apply Blk.alloc)); done)
  case rest =>
    obtain ⟨⟨g, h, rfl, rfl, hgh, hg, hh, hb1, hb2⟩, hbl⟩ := hcut
    have HB1 := Lib.hid hb1
    have HB2 := Lib.hid hb2
    have HBW := Lib.hid hbl
    have HGH := Lib.hid (show g ≠ h ∧ ws.heap.size ≤ g ∧ ws.heap.size ≤ h from ⟨hgh, hg, hh⟩)
    clear hb1 hb2 hbl hgh hg hh
    obtain ⟨z, hz⟩ : ∃ z : Am, z = .of fun k => x.get k + y.get k := ⟨_, rfl⟩
    have HZ : Hid (∀ k, k < 4 → z.get k = x.get k + y.get k) := Lib.hid (fun k hk => by rw [hz, Am.of_get _ k hk])
    clear hz
    go_wp2
    go_loopw [8] (fun i wc => ∃ k : Nat, k ≤ 4 ∧ i = .int .i64 (k : Int) ∧ Hid (Blk wc g (amC (Am.mix k x z)) 2) ∧ Hid (Blk wc h (amC y) 2) ∧ Hid (Below ws.heap.size ws wc) ∧ Hid (∀ j, j < k → x.get j + y.get j ≤ 1099511627776)) (fun i _ => 4 - (intOf i).toNat)
    case atStart => exact ⟨0, Nat.zero_le _, rfl, HB1, HB2, HBW, Lib.hid (fun j h => by omega)⟩
    case round =>
      obtain ⟨k, hk, rfl, HXa, HYa, HBx, HO⟩ := hrel
      by_cases hlt : k < 4
      · have i0 : (0 : Int) ≤ (k : Int) := by omega
        have i1 : (k : Int) < 4 := by omega
        have hx := HXa.out.cell (Am.mix_get k hlt x z)
        have hy := HYa.out.cell (amC_get y hlt)
        have fx := HXa.out.free k
        have hzk := HZ.out k hlt
        have hnx := ((HXa.out.set k (.int .i64 (z.get k))).cell (j := k) (u := .int .i64 (z.get k)) (List.getElem?_set_self (by simpa using hlt)))
        obtain ⟨p, hp⟩ : ∃ p, p = x.get k := ⟨_, rfl⟩
        obtain ⟨q, hq⟩ : ∃ q, q = y.get k := ⟨_, rfl⟩
        have p0 : 0 ≤ p ∧ p ≤ 1099511627776 := by rw [hp]; exact ok_get HX.out hlt
        have q0 : 0 ≤ q ∧ q ≤ 1099511627776 := by rw [hq]; exact ok_get HY.out hlt
        obtain ⟨p1, p2⟩ := p0
        obtain ⟨q1, q2⟩ := q0
        rw [← hp] at hx
        rw [← hq] at hy
        rw [← hp, ← hq] at hzk
        rw [hzk] at hnx
        have HZK := Lib.hid hzk
        have HPQ := Lib.hid (show p = x.get k ∧ q = y.get k from ⟨hp, hq⟩)
        have BR : Hid (Blk wr (B + 1 + 1) (amC .zero) 28) := Lib.hid (C2.out.kept HBx.out)
        have HNX : Hid (Blk (wr.setCell ⟨g, k, none⟩ (.int .i64 (p + q))) g (amC (Am.mix (k + 1) x z)) 2) := Lib.hid (by
          have := HXa.out.set k (.int .i64 (z.get k))
          rw [Am.mix_set k hlt, hzk] at this
          exact this)
        have HNY : Hid (Blk (wr.setCell ⟨g, k, none⟩ (.int .i64 (p + q))) h (amC y) 2) := Lib.hid (HYa.out.other (Ne.symm HGH.out.1) _)
        have HNB : Hid (Below ws.heap.size ws (wr.setCell ⟨g, k, none⟩ (.int .i64 (p + q))).drew) := Lib.hid (bl_drew (HBx.out.setCell (p := ⟨g, k, none⟩) HGH.out.2.1 _))
        have s1 : IntKind.i64.wrap (p + q) = p + q := by rw [IntKind.wrap_i64]; omega
        have s2 : wrap64 (p + q) = p + q := by unfold wrap64; omega
        clear hp hq hzk
        by_cases hov : 1099511627776 < p + q
        · have HR := Lib.hid (addR_over (x := x) (y := y) (by rw [HX.out, HY.out]; rfl) hlt (by have := HPQ.out; omega))
          have hbr : Blk (wr.setCell ⟨g, k, none⟩ (.int .i64 (p + q))) (B + 1 + 1) (amC .zero) 28 := BR.out.other (by have := HGH.out; have := HSS.out; first | omega | (simp; omega)) _
          have r0 := hbr.cell (j := 0) rfl
          have f0 := hbr.free 0
          have r1 := hbr.cell (j := 1) rfl
          have f1 := hbr.free 1
          have r2 := hbr.cell (j := 2) rfl
          have f2 := hbr.free 2
          have r3 := hbr.cell (j := 3) rfl
          have f3 := hbr.free 3
          have BRS := Lib.hid hbr
          clear hbr
          go_wp2
          go_region
          all_goals go_wp2
          refine bodyPost_ret (results_row_tmp rfl _ _ (B + 1 + 1) 28 #[.int .i64 0, .int .i64 0, .int .i64 0, .int .i64 0] (0, 0) _ rfl ?_ Try.underlying28 rfl (by kernel_rfl)) rfl ⟨?_, ?_⟩
          · exact (((BRS.out.set 0 (.int .i64 0)).set 1 (.int .i64 0)).set 2 (.int .i64 0)).set 3 (.int .i64 0)
          · first | rfl | (rw [HR.out]; rfl)
          · have hBw : w.heap.size ≤ B + 1 + 1 := by have := HBW0.out; omega
            exact ((((below_and HBS.out HNB.out).setCell (p := ⟨B + 1 + 1, 0, none⟩) hBw _).setCell (p := ⟨B + 1 + 1, 1, none⟩) hBw _).setCell (p := ⟨B + 1 + 1, 2, none⟩) hBw _).setCell (p := ⟨B + 1 + 1, 3, none⟩) hBw _
        · have hd : decide (1099511627776 < p + q) = false := by simpa using hov
          have HO2 : Hid (∀ j, j < k + 1 → x.get j + y.get j ≤ 1099511627776) := Lib.hid (fun j hj => by
            by_cases h : j < k
            · exact HO.out j h
            · obtain rfl : j = k := by omega
              have := HPQ.out; omega)
          go_wp2
          go_region
          all_goals go_wp2
          go_roundw
          case rel => exact ⟨k + 1, by omega, by go_num, HNX, HNY, HNB, HO2⟩
          case measure => simp [intOf]; omega
      · obtain rfl : k = 4 := by omega
        have HR := Lib.hid (addR_ok (x := x) (y := y) (z := z) (by rw [HX.out, HY.out]; rfl) HO.out HZ.out)
        have HX4 : Hid (Blk wr g (amC z) 2) := HXa
        have BR : Hid (Blk wr (B + 1 + 1) (amC .zero) 28) := Lib.hid (C2.out.kept HBx.out)
        go_wp2_with (go_at_call 58; refine (of_any g z _ HX4.out).mono ?_; rintro e w5 ⟨rfl, hb⟩; have hbr := BR.out.kept hb; have r0 := hbr.cell (j := 0) rfl; have f0 := hbr.free 0; have r1 := hbr.cell (j := 1) rfl; have f1 := hbr.free 1; have r2 := hbr.cell (j := 2) rfl; have f2 := hbr.free 2; have r3 := hbr.cell (j := 3) rfl; have f3 := hbr.free 3; have BR5 := Lib.hid hbr; have HB5 := Lib.hid (below_and HBS.out (below_and HBx.out hb)); clear hb hbr)
        refine bodyPost_ret (results_row_tmp rfl _ _ (B + 1 + 1) 28 #[.int .i64 z.c, .int .i64 z.r, .int .i64 z.d, .int .i64 z.p] (0, 0) _ rfl ?_ Try.underlying28 rfl (by kernel_rfl)) rfl ⟨?_, ?_⟩
        · exact (((BR5.out.set 0 (.int .i64 z.c)).set 1 (.int .i64 z.r)).set 2 (.int .i64 z.d)).set 3 (.int .i64 z.p)
        · first | rfl | (rw [HR.out]; rfl)
        · have hBw : w.heap.size ≤ B + 1 + 1 := by have := HBW0.out; omega
          exact (((HB5.out.setCell (p := ⟨B + 1 + 1, 0, none⟩) hBw _).setCell (p := ⟨B + 1 + 1, 1, none⟩) hBw _).setCell (p := ⟨B + 1 + 1, 2, none⟩) hBw _).setCell (p := ⟨B + 1 + 1, 3, none⟩) hBw _

theorem radd_any (x y : Am) (w : World) :
    Calls Try.prog 63 #[amV x, amV y] w fun e w' => e = .returned (.tuple #[amV (addR x y).1, .int .i64 (addR x y).2]) ∧ Below w.heap.size w w' := by
  cases h : x.okB && y.okB
  · exact radd_bad x y w h
  · exact radd_good x y w h
end Go.Proofs.Ytighcnecajgkpaa
namespace Go.Proofs.Ytighcnecajgkpaa
open Go.RowKit

def sumF (a : Am) : List Am → Am × Int
  | [] => (a, 0)
  | x :: xs => if (addR a x).2 = 0 then sumF (addR a x).1 xs else (.zero, (addR a x).2)
def sumR (xs : List Am) : Am × Int := if allB xs = false then (.zero, 2) else sumF .zero xs

def EightS (b0 o0 b1 o1 : Nat) (a x : Am) (w : World) : Prop := w.cell? ⟨b0, o0, none⟩ = some (.int .i64 a.c) ∧ w.cell? ⟨b0, o0 + 1, none⟩ = some (.int .i64 a.r) ∧ w.cell? ⟨b0, o0 + 2, none⟩ = some (.int .i64 a.d) ∧ w.cell? ⟨b0, o0 + 3, none⟩ = some (.int .i64 a.p) ∧ w.cell? ⟨b1, o1, none⟩ = some (.int .i64 x.c) ∧ w.cell? ⟨b1, o1 + 1, none⟩ = some (.int .i64 x.r) ∧ w.cell? ⟨b1, o1 + 2, none⟩ = some (.int .i64 x.d) ∧ w.cell? ⟨b1, o1 + 3, none⟩ = some (.int .i64 x.p)
theorem EightS.kept {b0 o0 b1 o1 : Nat} {a x : Am} {w w' : World} (h : EightS b0 o0 b1 o1 a x w) (hb : Below w.heap.size w w') : EightS b0 o0 b1 o1 a x w' :=
  ⟨cell_kept h.1 hb, cell_kept h.2.1 hb, cell_kept h.2.2.1 hb, cell_kept h.2.2.2.1 hb, cell_kept h.2.2.2.2.1 hb, cell_kept h.2.2.2.2.2.1 hb, cell_kept h.2.2.2.2.2.2.1 hb, cell_kept h.2.2.2.2.2.2.2 hb⟩

theorem bel_set4S {n : Nat} {a w : World} {k : Nat} {p q r s : Value} (h : Below n a w) (hk : n ≤ k) : Below n a ((((w.setCell ⟨k, 0, none⟩ p).setCell ⟨k, 1, none⟩ q).setCell ⟨k, 2, none⟩ r).setCell ⟨k, 3, none⟩ s) :=
  (((h.setCell (p := ⟨k, 0, none⟩) hk _).setCell (p := ⟨k, 1, none⟩) hk _).setCell (p := ⟨k, 2, none⟩) hk _).setCell (p := ⟨k, 3, none⟩) hk _
theorem radd_val (a x z : Am) (er : Int) (w : World) (h : addR a x = (z, er)) :
    Calls Try.prog 63 #[amV a, amV x] w fun e w' => e = .returned (.tuple #[amV z, .int .i64 er]) ∧ Below w.heap.size w w' :=
  (radd_any a x w).mono fun e w' ⟨h1, h2⟩ => ⟨by rw [h1, h], h2⟩

set_option maxRecDepth 100000 in
set_option maxHeartbeats 2000000 in
theorem rsum_any (v : Value) (xs : List Am) (w : World) (h : Ams w v xs) :
    Calls Try.prog 59 #[v] w fun e w' => e = .returned (.tuple #[amV (sumR xs).1, .int .i64 (sumR xs).2]) ∧ Below w.heap.size w w' := by
  obtain ⟨p, c, rfl, hc, hm⟩ := h.shape
  have hml : maxLen ≤ 9223372036854775807 := by decide
  obtain ⟨w3, hw3⟩ : ∃ w3, w3 = w.alloc (.cells #[.int .i64 0, .int .i64 0, .int .i64 0, .int .i64 0] 28) := ⟨_, rfl⟩
  obtain ⟨B, hB⟩ : ∃ B, B = w.heap.size := ⟨_, rfl⟩
  have B2 : Hid (Blk w3 B (amC .zero) 28) := Lib.hid (by rw [hw3, hB]; exact Blk.made w (amC .zero) _)
  have HBL : Hid (Below w.heap.size w w3) := Lib.hid (by rw [hw3]; exact below_alloc w _)
  have HBW0 : Hid (w.heap.size ≤ B) := Lib.hid (by omega)
  have H3 : Hid (Ams w3 (.slice p xs.length c) xs) := Lib.hid (h.below HBL.out)
  clear h
  cases hq : allB xs
  · have HQ := Lib.hid hq
    have HR : Hid (sumR xs = (.zero, 2)) := Lib.hid (by unfold sumR; rw [if_pos hq])
    clear hq
    go_enter Try.func59, Try.ntmps59
    go_upto_region 1 with fail
    rw [← hw3, ← hB]
    clear hw3 hB
    go_wp2_with (go_at_call 57; refine (wrong_any _ xs _ H3.out).mono ?_; rw [HQ.out]; rintro e ws ⟨rfl, hb⟩; have hbr := B2.out.kept hb; have C2 := Lib.hid hbr; have HBS := Lib.hid (below_and HBL.out hb); have r0 := hbr.cell (j := 0) rfl; have r1 := hbr.cell (j := 1) rfl; have r2 := hbr.cell (j := 2) rfl; have r3 := hbr.cell (j := 3) rfl; have f0 := hbr.free 0; have f1 := hbr.free 1; have f2 := hbr.free 2; have f3 := hbr.free 3; clear hb hbr)
    refine bodyPost_ret (results_row_tmp rfl _ _ B 28 #[.int .i64 0, .int .i64 0, .int .i64 0, .int .i64 0] (0, 0) _ rfl ?_ Try.underlying28 rfl (by kernel_rfl)) rfl ⟨?_, ?_⟩
    · exact (((C2.out.set 0 (.int .i64 0)).set 1 (.int .i64 0)).set 2 (.int .i64 0)).set 3 (.int .i64 0)
    · rw [HR.out]; rfl
    · have hBw : w.heap.size ≤ B := HBW0.out
      exact (((HBS.out.setCell (p := ⟨B, 0, none⟩) hBw _).setCell (p := ⟨B, 1, none⟩) hBw _).setCell (p := ⟨B, 2, none⟩) hBw _).setCell (p := ⟨B, 3, none⟩) hBw _
  · have HQ := Lib.hid hq
    have HR : Hid (sumR xs = sumF .zero xs) := Lib.hid (by unfold sumR; rw [if_neg (by rw [hq]; decide)])
    clear hq
    go_enter Try.func59, Try.ntmps59
    go_upto_region 1 with fail
    rw [← hw3, ← hB]
    clear hw3 hB
    go_upto_region 4 with (go_at_call 57; refine (wrong_any _ xs _ H3.out).mono ?_; rw [HQ.out]; rintro e ws ⟨rfl, hb⟩; have C2 := Lib.hid (B2.out.kept hb); have HS := Lib.hid (H3.out.below hb); have HBS := Lib.hid (below_and HBL.out hb); clear hb)
    obtain ⟨wb, hwb⟩ : ∃ wb, wb = ws.alloc (.cells #[.int .i64 0, .int .i64 0, .int .i64 0, .int .i64 0] 28) := ⟨_, rfl⟩
    obtain ⟨g, hg⟩ : ∃ g, g = ws.heap.size := ⟨_, rfl⟩
    have HG : Hid (Blk wb g (amC .zero) 28) := Lib.hid (by rw [hwb, hg]; exact Blk.made ws (amC .zero) _)
    have HBB : Hid (Below ws.heap.size ws wb) := Lib.hid (by rw [hwb]; exact below_alloc _ _)
    have HGS : Hid (ws.heap.size ≤ g) := Lib.hid (by omega)
    rw [← hwb, ← hg]
    clear hwb hg
    go_wp2
    go_loopw [5] (fun i wc => ∃ (k : Nat) (a : Am), k ≤ xs.length ∧ i = .int .i64 (k : Int) ∧ Hid (Blk wc g (amC a) 28) ∧ Hid (Below ws.heap.size ws wc) ∧ Hid (sumF .zero xs = sumF a (xs.drop k))) (fun i _ => xs.length - (intOf i).toNat)
    case atStart => exact ⟨0, .zero, Nat.zero_le _, rfl, HG, HBB, Lib.hid (by simp)⟩
    case round =>
      obtain ⟨k, a, hk, rfl, HA, HBx, HF⟩ := hrel
      by_cases hlt : k < xs.length
      · obtain ⟨b, o, rfl, e0, e1, e2, e3⟩ := (HS.out.below HBx.out).amAt hlt
        obtain ⟨x, hx⟩ : ∃ x, x = xs[k] := ⟨_, rfl⟩
        rw [← hx] at e0 e1 e2 e3
        have HE : Hid (EightS g 0 b (o + k * 4) a x wr) := Lib.hid ⟨HA.out.cell (j := 0) rfl, HA.out.cell (j := 1) rfl, HA.out.cell (j := 2) rfl, HA.out.cell (j := 3) rfl, e0, e1, e2, e3⟩
        have HF2 : Hid (sumF .zero xs = sumF a (x :: xs.drop (k + 1))) := Lib.hid (by rw [HF.out, List.drop_eq_getElem_cons hlt, hx])
        obtain ⟨z, er, hz⟩ : ∃ z er, addR a x = (z, er) := ⟨_, _, rfl⟩
        have HZ := Lib.hid hz
        clear hx e0 e1 e2 e3
        go_wp2
        go_cut [6, 7] (fun s6 s7 wx => ∃ q, s6 = ptr q ∧ s7 = .int .i64 er ∧ wr.heap.size ≤ q ∧ Blk wx q (amC z) 28 ∧ Below wr.heap.size wr wx)
        case first =>
          clear hz
          go_region_held3 (fun w' => w'.cell? ⟨g, 0, none⟩ = some (.int .i64 a.c) ∧ w'.cell? ⟨g, 1, none⟩ = some (.int .i64 a.r) ∧ w'.cell? ⟨g, 2, none⟩ = some (.int .i64 a.d) ∧ w'.cell? ⟨g, 3, none⟩ = some (.int .i64 a.p) ∧ w'.cell? ⟨b, o + k * 4, none⟩ = some (.int .i64 x.c) ∧ w'.cell? ⟨b, o + k * 4 + 1, none⟩ = some (.int .i64 x.r) ∧ w'.cell? ⟨b, o + k * 4 + 2, none⟩ = some (.int .i64 x.d) ∧ w'.cell? ⟨b, o + k * 4 + 3, none⟩ = some (.int .i64 x.p))
            (refine HE.out.kept ?_ <;> (repeat (first | exact Below.refl _ _ | exact HB6.out | apply bl_drew | (refine below_and ?_ (below_alloc _ _)) | (refine bel_set4S ?_ (Nat.le_refl _)))))
            (first | (go_at_call 63; refine (radd_val a x z er _ HZ.out).mono ?_; rintro e w6 ⟨rfl, hb⟩; have HB6 : Hid (Below wr.heap.size wr w6) := Lib.hid (by refine below_and ?_ hb; (repeat (first | exact Below.refl _ _ | apply bl_drew | (refine below_and ?_ (below_alloc _ _))))); (first | (have hq : Blk w6 wr.heap.size (amC .zero) 28 := (Blk.made wr.drew (amC .zero) 28).kept hb; have HQ6 := Lib.hid hq; have q0 := hq.cell (j := 0) rfl; have q1 := hq.cell (j := 1) rfl; have q2 := hq.cell (j := 2) rfl; have q3 := hq.cell (j := 3) rfl; have p0 := hq.free 0; have p1 := hq.free 1; have p2 := hq.free 2; have p3 := hq.free 3; clear hq) | skip); clear hb))
          all_goals go_wp2_with fail
          all_goals go_meet
          all_goals first
            | (refine ⟨_, rfl, rfl, Nat.le_refl _, ?_, ?_⟩
               · exact (((HQ6.out.set 0 (.int .i64 z.c)).set 1 (.int .i64 z.r)).set 2 (.int .i64 z.d)).set 3 (.int .i64 z.p)
               · exact (((HB6.out.setCell (p := ⟨wr.heap.size, 0, none⟩) (Nat.le_refl _) _).setCell (p := ⟨wr.heap.size, 1, none⟩) (Nat.le_refl _) _).setCell (p := ⟨wr.heap.size, 2, none⟩) (Nat.le_refl _) _).setCell (p := ⟨wr.heap.size, 3, none⟩) (Nat.le_refl _) _)
            | (refine ⟨_, rfl, rfl, HB6.out.size, ?_, ?_⟩
               · exact Blk.made w6 (amC z) _
               · exact below_and HB6.out (below_alloc _ _))
            | trace_state
        case rest =>
        obtain ⟨q, rfl, rfl, hq, hbq, hb⟩ := hcut
        have HQB := Lib.hid hbq
        have HQ0 := Lib.hid hq
        have HBQ := Lib.hid hb
        have z0 := hbq.cell (j := 0) rfl
        have z1 := hbq.cell (j := 1) rfl
        have z2 := hbq.cell (j := 2) rfl
        have z3 := hbq.cell (j := 3) rfl
        by_cases her : er = 0
        · subst her
          have HF3 : Hid (sumF .zero xs = sumF z (xs.drop (k + 1))) := Lib.hid (by rw [HF2.out]; show (if (addR a x).2 = 0 then _ else _) = _; rw [hz]; rfl)
          have hg6 := HA.out.kept hb
          have HG6 := Lib.hid hg6
          have r0 := hg6.cell (j := 0) rfl
          have r1 := hg6.cell (j := 1) rfl
          have r2 := hg6.cell (j := 2) rfl
          have r3 := hg6.cell (j := 3) rfl
          have f0 := hg6.free 0
          have f1 := hg6.free 1
          have f2 := hg6.free 2
          have f3 := hg6.free 3
          have HB6 := Lib.hid (below_and HBx.out hb)
          clear hz hg6 hb hbq hq
          go_wp2
          go_roundw
          case rel => exact ⟨k + 1, z, hlt, by go_num, Lib.hid ((((HG6.out.set 0 (.int .i64 z.c)).set 1 (.int .i64 z.r)).set 2 (.int .i64 z.d)).set 3 (.int .i64 z.p)), Lib.hid ((((HB6.out.setCell (p := ⟨g, 0, none⟩) HGS.out _).setCell (p := ⟨g, 1, none⟩) HGS.out _).setCell (p := ⟨g, 2, none⟩) HGS.out _).setCell (p := ⟨g, 3, none⟩) HGS.out _), HF3⟩
          case measure => simp [intOf]; omega
        · have t1 : (er == 0) = false := by simpa using her
          have HF3 : Hid (sumF .zero xs = (.zero, er)) := Lib.hid (by rw [HF2.out]; show (if (addR a x).2 = 0 then _ else _) = _; rw [hz]; exact if_neg her)
          have hg6 := C2.out.kept (below_and HBx.out hb)
          have HG6 := Lib.hid hg6
          have r0 := hg6.cell (j := 0) rfl
          have r1 := hg6.cell (j := 1) rfl
          have r2 := hg6.cell (j := 2) rfl
          have r3 := hg6.cell (j := 3) rfl
          have f0 := hg6.free 0
          have f1 := hg6.free 1
          have f2 := hg6.free 2
          have f3 := hg6.free 3
          have HB6 := Lib.hid (below_and HBS.out (below_and HBx.out hb))
          clear hz her hg6 hb hbq hq
          go_wp2
          refine bodyPost_ret (results_row_tmp rfl _ _ B 28 #[.int .i64 0, .int .i64 0, .int .i64 0, .int .i64 0] (0, 0) _ rfl ?_ Try.underlying28 rfl (by kernel_rfl)) rfl ⟨?_, ?_⟩
          · exact (((HG6.out.set 0 (.int .i64 0)).set 1 (.int .i64 0)).set 2 (.int .i64 0)).set 3 (.int .i64 0)
          · rw [HR.out, HF3.out]; rfl
          · have hBw : w.heap.size ≤ B := HBW0.out
            exact (((HB6.out.setCell (p := ⟨B, 0, none⟩) hBw _).setCell (p := ⟨B, 1, none⟩) hBw _).setCell (p := ⟨B, 2, none⟩) hBw _).setCell (p := ⟨B, 3, none⟩) hBw _
      · obtain rfl : k = xs.length := by omega
        have HF3 : Hid (sumF .zero xs = (a, 0)) := Lib.hid (by rw [HF.out, List.drop_length]; rfl)
        have a0 := HA.out.cell (j := 0) rfl
        have a1 := HA.out.cell (j := 1) rfl
        have a2 := HA.out.cell (j := 2) rfl
        have a3 := HA.out.cell (j := 3) rfl
        have hbr := C2.out.kept HBx.out
        have r0 := hbr.cell (j := 0) rfl
        have r1 := hbr.cell (j := 1) rfl
        have r2 := hbr.cell (j := 2) rfl
        have r3 := hbr.cell (j := 3) rfl
        have f0 := hbr.free 0
        have f1 := hbr.free 1
        have f2 := hbr.free 2
        have f3 := hbr.free 3
        have HB5 := Lib.hid (below_and HBS.out HBx.out)
        have BR5 := Lib.hid hbr
        clear hbr
        go_wp2
        refine bodyPost_ret (results_row_tmp rfl _ _ B 28 #[.int .i64 a.c, .int .i64 a.r, .int .i64 a.d, .int .i64 a.p] (0, 0) _ rfl ?_ Try.underlying28 rfl (by kernel_rfl)) rfl ⟨?_, ?_⟩
        · exact (((BR5.out.set 0 (.int .i64 a.c)).set 1 (.int .i64 a.r)).set 2 (.int .i64 a.d)).set 3 (.int .i64 a.p)
        · rw [HR.out, HF3.out]; rfl
        · have hBw : w.heap.size ≤ B := HBW0.out
          exact (((HB5.out.setCell (p := ⟨B, 0, none⟩) hBw _).setCell (p := ⟨B, 1, none⟩) hBw _).setCell (p := ⟨B, 2, none⟩) hBw _).setCell (p := ⟨B, 3, none⟩) hBw _
end Go.Proofs.Ytighcnecajgkpaa
namespace Go.Proofs.Ytighcnecajgkpaa
open Go.RowKit

set_option maxRecDepth 100000 in
set_option maxHeartbeats 2000000 in
theorem rin_any (base g : Nat) (v : Value) (cap : Am) (L : List Ent) (s : ByteArray) (w : World) (h : RLed base w g v cap L) (hl : L.length ≤ 100000) :
    Calls Try.prog 21 #[ptr g, .string s] w fun e w' => ∃ v, e = .returned v ∧ w'.ownsRow w.heap.size 9 1 v (inL s L).length (inL s L) ∧ Below w.heap.size w w' := by
  obtain ⟨i0, hi, hz0, hz1, hz2⟩ := info_parts (show (Try.prog.info? 9).map (fun i => (i.zero, i.size, i.bytes)) = some (some (.string ⟨#[]⟩), 1, 16) by kernel_rfl)
  obtain ⟨p, c, rfl, hc, hm⟩ := h.shape
  have hml : maxLen ≤ 9223372036854775807 := by decide
  have H := Lib.hid h
  have HL := Lib.hid hl
  clear h
  go_enter Try.func21, Try.ntmps21
  go_wp2
  go_loopw [5, 6] (fun o i wr => ∃ k : Nat, k ≤ L.length ∧ i = .int .i64 (k : Int) ∧ Hid (wr.ownsRow w.heap.size 9 1 o (inL s (L.take k)).length (inL s (L.take k))) ∧ Hid (Below w.heap.size w wr)) (fun _ i _ => L.length - (intOf i).toNat)
  case atStart => exact ⟨0, Nat.zero_le _, rfl, Lib.hid (World.ownsRow_nil _ _ _ _), Lib.hid (Below.refl _ _)⟩
  case round =>
    obtain ⟨k, hk, rfl, HO, HB⟩ := hrel
    have HR := Lib.hid (H.out.kept HB.out)
    have c4 := HR.out.blk.cell (j := 4) rfl
    by_cases hlt : k < L.length
    · have i1 : (k : Int) < (L.length : Int) := by omega
      cases he : s.toList.isEmpty
      · obtain ⟨q, rfl, hcs⟩ := HR.out.at hlt
        obtain ⟨x, hx⟩ : ∃ x, x = L[k] := ⟨_, rfl⟩
        rw [← hx] at hcs
        have e0 : wr.cell? ⟨q, k * 6, none⟩ = some (.string x.n) := hcs 0 _ (by omega) rfl
        have e1 := hcs 1 _ (by omega) rfl
        cases hq : (x.i.toList == s.toList)
        · have HY : Hid (inL s (L.take (k + 1)) = inL s (L.take k)) := Lib.hid (inL_no hlt hx (by unfold inP; simp [hq]))
          clear hcs hx
          go_wp2
          go_roundw
          case rel => exact ⟨k + 1, hlt, by go_num, Lib.hid (by rw [HY.out]; exact HO.out), HB⟩
          case measure => simp [intOf]; omega
        · have HY : Hid (inL s (L.take (k + 1)) = inL s (L.take k) ++ [.string x.n]) := Lib.hid (inL_yes hlt hx (by unfold inP; rw [hq, he]; rfl))
          have HLE : Hid ((inL s (L.take k)).length ≤ k) := Lib.hid (Nat.le_trans (inL_len _ _) (by simp; omega))
          have HSZ := Lib.hid HB.out.size
          clear hcs hx
          go_wp2_with (at_builtin; go_loud (refine wpList_app5 rfl _ _ 45 45 rfl w.heap.size 9 i0 (.string ⟨#[]⟩) 1 16 Try.underlying45 hi hz0 hz1 hz2 rfl _ (inL s (L.take k)).length (inL s (L.take k)) rfl (own_fr HO.out (Fr.of_below (below_alloc wr (.cells #[.string x.n] 9)) []) (fun _ _ => by simp)) _ 1 _ rfl (src_block Try.underlying45 _ _ #[_] (heap_alloc_new wr _) rfl (by simp [Value.oneCell'])) (by have := HL.out; have := HLE.out; unfold maxLen; omega) (by have := HL.out; have := HLE.out; omega) (by have := HSZ.out; simp; omega) ?_; intro o4 w4 ho4 hg4 hn4; have HO4 := Lib.hid ho4; have HB4 : Hid (Below w.heap.size w w4) := Lib.hid ((below_and HB.out (below_alloc wr _)).trans ((Fr.of_grown hg4).below (by intro y hy; exact own_base HO.out (Option.mem_toList.1 hy)) (by have := HSZ.out; simp; omega))); clear ho4 hg4 hn4))
          go_roundw
          case rel => exact ⟨k + 1, hlt, by go_num, Lib.hid (by rw [HY.out, List.length_append]; exact HO4.out), HB4⟩
          case measure => simp [intOf]; omega
      · have HY : Hid (∀ M, inL s M = []) := Lib.hid (fun M => by
          unfold inL
          have : M.filter (fun x => inP s x) = [] := List.filter_eq_nil_iff.2 fun x _ => by unfold inP; simp [he]
          rw [this]; rfl)
        have HO2 := Lib.hid (show wr.ownsRow w.heap.size 9 1 u5 (inL s L).length (inL s L) by rw [HY.out]; have := HO.out; rw [HY.out] at this; exact this)
        go_wp2
        go_ret
        exact ⟨_, rfl, HO2.out, HB.out⟩
    · obtain rfl : k = L.length := by omega
      have HE := HO.out
      rw [List.take_length] at HE
      have HEE := Lib.hid HE
      clear HE
      go_wp2
      go_ret
      exact ⟨_, rfl, HEE.out, HB.out⟩

/-! taken -/
def amL (p : Ent → Bool) (L : List Ent) : List Am := (L.filter p).map Ent.a
theorem amL_yes {p : Ent → Bool} {L : List Ent} {x : Ent} {k : Nat} (hlt : k < L.length) (hx : x = L[k]) (h : p x = true) : amL p (L.take (k + 1)) = amL p (L.take k) ++ [x.a] := by
  unfold amL
  rw [List.take_succ_eq_append_getElem hlt, ← hx, List.filter_append, List.map_append, List.filter_cons_of_pos h]
  rfl
theorem amL_no {p : Ent → Bool} {L : List Ent} {x : Ent} {k : Nat} (hlt : k < L.length) (hx : x = L[k]) (h : p x = false) : amL p (L.take (k + 1)) = amL p (L.take k) := by
  unfold amL
  rw [List.take_succ_eq_append_getElem hlt, ← hx, List.filter_append, List.map_append, List.filter_cons_of_neg (by simp [h])]
  simp
theorem amL_len (p : Ent → Bool) (L : List Ent) : (amL p L).length ≤ L.length := by
  unfold amL
  rw [List.length_map]
  exact List.length_filter_le _ _
theorem sumF_part {p : Ent → Bool} {L : List Ent} (ho : Oks L) {top : Am} (ht : top.okB = true) (h : ∀ j, j < 4 → Am.zero.get j + (sumA p L).get j = top.get j) : ∀ (m k : Nat), k + m = L.length → sumF (partF p .zero L k) (amL p (L.drop k)) = (top, 0)
  | 0, k, hk => by
    rw [show k = L.length from by omega, List.drop_length, partF_end h]
    rfl
  | m + 1, k, hk => by
    have hlt : k < L.length := by omega
    have ih := sumF_part ho ht h m (k + 1) (by omega)
    rw [List.drop_eq_getElem_cons hlt]
    unfold amL at ih ⊢
    cases hp : p L[k]
    · rw [List.filter_cons_of_neg (by simp [hp])]
      rw [partF_skip hlt rfl hp] at ih
      exact ih
    · rw [List.filter_cons_of_pos hp, List.map_cons]
      show (if (addR (partF p .zero L k) L[k].a).2 = 0 then sumF (addR (partF p .zero L k) L[k].a).1 _ else _) = _
      rw [partF_add ho (by decide) ht h hlt rfl hp, if_pos rfl]
      exact ih
theorem sumR_part {p : Ent → Bool} {L : List Ent} (ho : Oks L) (hf : Fit p L) : sumR (amL p L) = (sumA p L, 0) := by
  have hall : allB (amL p L) = true := by
    unfold allB amL
    rw [List.all_eq_true]
    intro x hx
    obtain ⟨e, he, rfl⟩ := List.mem_map.1 hx
    exact ho e (List.mem_filter.1 he).1
  unfold sumR
  rw [if_neg (by rw [hall]; decide)]
  have := sumF_part (p := p) ho (top := sumA p L) hf (fun j hj => by rw [zero_get j hj]; omega) L.length 0 (by omega)
  rw [partF_zero, List.drop_zero] at this
  exact this
theorem amsC_snoc (xs : List Am) (x : Am) : amsC (xs ++ [x]) = amsC xs ++ amC x := by
  unfold amsC
  rw [List.flatMap_append, List.flatMap_cons, List.flatMap_nil, List.append_nil]
theorem amC_one (x : Am) : ∀ u ∈ amC x, u.oneCell' = true := by
  intro u hx
  simp only [List.mem_cons, List.not_mem_nil, or_false] at hx
  rcases hx with rfl | rfl | rfl | rfl <;> rfl
set_option maxRecDepth 100000 in
set_option maxHeartbeats 4000000 in
theorem taken_any (base g : Nat) (v : Value) (cap : Am) (L : List Ent) (s t : ByteArray) (w : World) (h : RLed base w g v cap L) (ho : Oks L) (hf : Fit (inB s t) L) (hl : L.length ≤ 100000) :
    Calls Try.prog 50 #[ptr g, .string s, .string t] w fun e w' => e = .returned (amV (sumA (inB s t) L)) ∧ Below w.heap.size w w' := by
  obtain ⟨i0, hi, hz0, hz1, hz2⟩ := info_parts (show (Try.prog.info? 28).map (fun i => (i.zero, i.size, i.bytes)) = some (some (amV .zero), 4, 32) by kernel_rfl)
  obtain ⟨p, c, rfl, hc, hm⟩ := h.shape
  have hml : maxLen ≤ 9223372036854775807 := by decide
  obtain ⟨w3, hw3⟩ : ∃ w3, w3 = w.alloc (.cells #[.int .i64 0, .int .i64 0, .int .i64 0, .int .i64 0] 28) := ⟨_, rfl⟩
  obtain ⟨B, hB⟩ : ∃ B, B = w.heap.size := ⟨_, rfl⟩
  have S0 : Hid (Blk w3 B (amC .zero) 28) := Lib.hid (by rw [hw3, hB]; exact Blk.made w (amC .zero) _)
  have HBL : Hid (Below w.heap.size w w3) := Lib.hid (by rw [hw3]; exact below_alloc w _)
  have HBW : Hid (w.heap.size ≤ B ∧ w.heap.size ≤ w3.heap.size) := Lib.hid ⟨by omega, by rw [hw3]; simp⟩
  have H := Lib.hid (h.kept HBL.out)
  have HL := Lib.hid hl
  have HSUM := Lib.hid (sumR_part ho hf)
  clear h ho hf
  go_enter Try.func50, Try.ntmps50
  go_upto_region 1 with fail
  rw [← hw3, ← hB]
  clear hw3 hB
  go_wp2
  go_loopw [7, 8] (fun o i wr => ∃ k : Nat, k ≤ L.length ∧ i = .int .i64 (k : Int) ∧ Hid (wr.ownsRow w3.heap.size 28 4 o (amL (inB s t) (L.take k)).length (amsC (amL (inB s t) (L.take k)))) ∧ Hid (Below w3.heap.size w3 wr)) (fun _ i _ => L.length - (intOf i).toNat)
  case atStart => exact ⟨0, Nat.zero_le _, rfl, Lib.hid (World.ownsRow_nil _ _ _ _), Lib.hid (Below.refl _ _)⟩
  case round =>
    obtain ⟨k, hk, rfl, HO, HB⟩ := hrel
    have HR := Lib.hid (H.out.kept HB.out)
    have c4 := HR.out.blk.cell (j := 4) rfl
    by_cases hlt : k < L.length
    · have i1 : (k : Int) < (L.length : Int) := by omega
      obtain ⟨q, rfl, hcs⟩ := HR.out.at hlt
      obtain ⟨x, hx⟩ : ∃ x, x = L[k] := ⟨_, rfl⟩
      rw [← hx] at hcs
      have e0 : wr.cell? ⟨q, k * 6, none⟩ = some (.string x.n) := hcs 0 _ (by omega) rfl
      have e1 := hcs 1 _ (by omega) rfl
      have HCS := Lib.hid hcs
      cases hq : (x.i.toList == s.toList)
      · have HY : Hid (amL (inB s t) (L.take (k + 1)) = amL (inB s t) (L.take k)) := Lib.hid (amL_no hlt hx (by unfold inB; rw [hq]; rfl))
        clear hcs hx
        go_wp2
        go_roundw
        case rel => exact ⟨k + 1, hlt, by go_num, Lib.hid (by rw [HY.out]; exact HO.out), HB⟩
        case measure => simp [intOf]; omega
      cases hn : (x.n.toList == t.toList)
      · have HY : Hid (amL (inB s t) (L.take (k + 1)) = amL (inB s t) (L.take k) ++ [x.a]) := Lib.hid (amL_yes hlt hx (by unfold inB; rw [hq, hn]; rfl))
        have HLE : Hid ((amL (inB s t) (L.take k)).length ≤ k) := Lib.hid (Nat.le_trans (amL_len _ _) (by simp; omega))
        have HSZ := Lib.hid HB.out.size
        have e2 : wr.cell? ⟨q, k * 6 + 2, none⟩ = some (.int .i64 x.a.c) := hcs 2 _ (by omega) rfl
        have e3 : wr.cell? ⟨q, k * 6 + 2 + 1, none⟩ = some (.int .i64 x.a.r) := hcs 3 _ (by omega) rfl
        have e4 : wr.cell? ⟨q, k * 6 + 2 + 2, none⟩ = some (.int .i64 x.a.d) := hcs 4 _ (by omega) rfl
        have e5 : wr.cell? ⟨q, k * 6 + 2 + 3, none⟩ = some (.int .i64 x.a.p) := hcs 5 _ (by omega) rfl
        clear hcs hx
        go_wp2_with (at_builtin; go_loud (refine wpList_app5 rfl _ _ 85 85 rfl w3.heap.size 28 i0 (amV .zero) 4 32 Try.underlying85 hi hz0 hz1 hz2 rfl _ (amL (inB s t) (L.take k)).length (amsC (amL (inB s t) (L.take k))) rfl (own_fr HO.out (Fr.of_below (below_alloc wr (.cells #[.int .i64 x.a.c, .int .i64 x.a.r, .int .i64 x.a.d, .int .i64 x.a.p] 28)) []) (fun _ _ => by simp)) _ 1 _ rfl (src_block Try.underlying85 _ _ #[_, _, _, _] (heap_alloc_new wr _) rfl (amC_one x.a)) (by have := HL.out; have := HLE.out; unfold maxLen; omega) (by have := HL.out; have := HLE.out; omega) (by have := HSZ.out; simp; omega) ?_; intro o4 w4 ho4 hg4 hn4; have HO4 := Lib.hid ho4; have HB4 : Hid (Below w3.heap.size w3 w4) := Lib.hid ((below_and HB.out (below_alloc wr _)).trans ((Fr.of_grown hg4).below (by intro y hy; exact own_base HO.out (Option.mem_toList.1 hy)) (by have := HSZ.out; simp; omega))); clear ho4 hg4 hn4))
        go_roundw
        case rel => exact ⟨k + 1, hlt, by go_num, Lib.hid (by rw [HY.out, List.length_append, amsC_snoc]; exact HO4.out), HB4⟩
        case measure => simp [intOf]; omega
      · have HY : Hid (amL (inB s t) (L.take (k + 1)) = amL (inB s t) (L.take k)) := Lib.hid (amL_no hlt hx (by unfold inB; rw [hq, hn]; rfl))
        clear hcs hx
        go_wp2
        go_roundw
        case rel => exact ⟨k + 1, hlt, by go_num, Lib.hid (by rw [HY.out]; exact HO.out), HB⟩
        case measure => simp [intOf]; omega
    · obtain rfl : k = L.length := by omega
      have hams : Ams wr u7 (amL (inB s t) L) := by
        have := row_of_owns HO.out (amsC_one _)
        rw [List.take_length] at this
        exact this
      obtain ⟨p7, c7, rfl, hc7, hm7⟩ := hams.shape
      have HAM := Lib.hid hams
      clear hams
      go_upto_region 8 with (go_at_call 59; refine (rsum_any _ _ _ HAM.out).mono ?_; rw [HSUM.out]; rintro e w5 ⟨rfl, hb⟩; have hb0 := (S0.out.kept HB.out).kept hb; have HB5 := Lib.hid (below_and HBL.out (below_and HB.out hb)); have C5 := Lib.hid hb0; clear hb hb0)
      have hb0 := C5.out.alloc (.cells #[.int .i64 (sumA (inB s t) L).c, .int .i64 (sumA (inB s t) L).r, .int .i64 (sumA (inB s t) L).d, .int .i64 (sumA (inB s t) L).p] 28)
      have CA := Lib.hid hb0
      have HBA := Lib.hid (below_and HB5.out (below_alloc w5 (.cells #[.int .i64 (sumA (inB s t) L).c, .int .i64 (sumA (inB s t) L).r, .int .i64 (sumA (inB s t) L).d, .int .i64 (sumA (inB s t) L).p] 28)))
      have r0 := hb0.cell (j := 0) rfl
      have r1 := hb0.cell (j := 1) rfl
      have r2 := hb0.cell (j := 2) rfl
      have r3 := hb0.cell (j := 3) rfl
      have f0 := hb0.free 0
      have f1 := hb0.free 1
      have f2 := hb0.free 2
      have f3 := hb0.free 3
      clear hb0
      go_wp2
      refine bodyPost_ret (results_row rfl _ _ B 28 #[.int .i64 (sumA (inB s t) L).c, .int .i64 (sumA (inB s t) L).r, .int .i64 (sumA (inB s t) L).d, .int .i64 (sumA (inB s t) L).p] (0, 0) _ rfl ?_ Try.underlying28 rfl (by kernel_rfl)) rfl ⟨rfl, bel_set4 HBA.out HBW.out.1⟩
      exact (((CA.out.set 0 (.int .i64 (sumA (inB s t) L).c)).set 1 (.int .i64 (sumA (inB s t) L).r)).set 2 (.int .i64 (sumA (inB s t) L).d)).set 3 (.int .i64 (sumA (inB s t) L).p)
end Go.Proofs.Ytighcnecajgkpaa
namespace Go.Proofs.Ytighcnecajgkpaa
open Go.RowKit

set_option maxRecDepth 100000 in
set_option maxHeartbeats 4000000 in
theorem rfits_any (x y : Am) (w : World) :
    Calls Try.prog 51 #[amV x, amV y] w fun e w' => e = .returned (.bool (fitsB x y)) ∧ Below w.heap.size w w' := by
  obtain ⟨w3, hw3⟩ : ∃ w3, w3 = ((w.alloc (.cells #[.int .i64 x.c, .int .i64 x.r, .int .i64 x.d, .int .i64 x.p] 28)).alloc (.cells #[.int .i64 y.c, .int .i64 y.r, .int .i64 y.d, .int .i64 y.p] 28)) := ⟨_, rfl⟩
  obtain ⟨B, hB⟩ : ∃ B, B = w.heap.size := ⟨_, rfl⟩
  have B0 : Hid (Blk w3 B (amC x) 28) := Lib.hid (by
    have := (Blk.made w (amC x) 28).alloc (.cells #[.int .i64 y.c, .int .i64 y.r, .int .i64 y.d, .int .i64 y.p] 28)
    rw [hw3, hB]; exact this)
  have B1 : Hid (Blk w3 (B + 1) (amC y) 28) := Lib.hid (by
    have := Blk.made (w.alloc (.cells #[.int .i64 x.c, .int .i64 x.r, .int .i64 x.d, .int .i64 x.p] 28)) (amC y) 28
    rw [hw3, hB]; simpa using this)
  have HBL : Hid (Below w.heap.size w w3) := Lib.hid (by rw [hw3]; exact below_and (below_alloc w _) (below_alloc _ _))
  have HSZ : Hid (w3.heap.size = B + 2) := Lib.hid (by rw [hw3, hB]; simp)
  have HBW0 : Hid (w.heap.size ≤ B) := Lib.hid (by omega)
  go_enter Try.func51, Try.ntmps51
  go_upto_region 1 with fail
  rw [← hw3, ← hB]
  clear hw3 hB
  go_cut [5, 6] (fun sa sb wx => TwoS w3.heap.size wx sa sb x y ∧ Below w3.heap.size w3 wx)
  case first =>
    go_region_held3 (fun w' => w'.cell? ⟨B, 0, none⟩ = some (.int .i64 x.c) ∧ w'.cell? ⟨B, 1, none⟩ = some (.int .i64 x.r) ∧ w'.cell? ⟨B, 2, none⟩ = some (.int .i64 x.d) ∧ w'.cell? ⟨B, 3, none⟩ = some (.int .i64 x.p) ∧ w'.cell? ⟨B + 1, 0, none⟩ = some (.int .i64 y.c) ∧ w'.cell? ⟨B + 1, 1, none⟩ = some (.int .i64 y.r) ∧ w'.cell? ⟨B + 1, 2, none⟩ = some (.int .i64 y.d) ∧ w'.cell? ⟨B + 1, 3, none⟩ = some (.int .i64 y.p)) (refine eight (t := 28) (u := 28) ?_ ?_ <;> (repeat (first | exact B0.out | exact B1.out | apply Blk.drew | apply Blk.alloc)))
      (first | (go_at_call 48; refine (four_exact _ _).mono ?_; rintro e w1 ⟨rfl, rfl⟩))
    all_goals go_wp2_with fail
    all_goals go_meet
    all_goals refine ⟨⟨_, _, rfl, rfl, by first | omega | (simp; omega), by first | omega | (simp; omega), by first | omega | (simp; omega), ?_, ?_⟩, ?_⟩
    all_goals first
      | ((repeat (first | exact Below.refl _ _ | apply bl_drew | (refine bl_alloc _ ?_ (by simp <;> omega)))); done)
      | ((repeat (first | (refine Blk.made_at (cs := amC x) ?_; simp; done) | (refine Blk.made_at (cs := amC y) ?_; simp; done) | apply Blk.drew | apply Blk.alloc)); done)
  case rest =>
    obtain ⟨⟨g, h, rfl, rfl, hgh, hg, hh, hb1, hb2⟩, hbl⟩ := hcut
    have HB1 := Lib.hid hb1
    have HB2 := Lib.hid hb2
    have HBW := Lib.hid hbl
    have HGH := Lib.hid (show g ≠ h ∧ w3.heap.size ≤ g ∧ w3.heap.size ≤ h from ⟨hgh, hg, hh⟩)
    clear hb1 hb2 hbl hgh hg hh
    go_wp2
    go_loopw [7] (fun i wc => ∃ k : Nat, k ≤ 4 ∧ i = .int .i64 (k : Int) ∧ Hid (∀ j, j < k → x.get j ≤ y.get j) ∧ Hid (Below w3.heap.size w3 wc) ∧ Hid (Blk wc g (amC x) 2) ∧ Hid (Blk wc h (amC y) 2)) (fun i _ => 4 - (intOf i).toNat)
    case atStart => exact ⟨0, Nat.zero_le _, rfl, Lib.hid (fun j h => by omega), HBW, HB1, HB2⟩
    case round =>
      obtain ⟨k, hk, rfl, HAx, HBx, HXa, HYa⟩ := hrel
      by_cases hlt : k < 4
      · have i0 : (0 : Int) ≤ (k : Int) := by omega
        have i1 : (k : Int) < 4 := by omega
        have hx := HXa.out.cell (amC_get x hlt)
        have hy := HYa.out.cell (amC_get y hlt)
        obtain ⟨p, hp⟩ : ∃ p, p = x.get k := ⟨_, rfl⟩
        obtain ⟨q, hq⟩ : ∃ q, q = y.get k := ⟨_, rfl⟩
        rw [← hp] at hx
        rw [← hq] at hy
        have HPQ := Lib.hid (show p = x.get k ∧ q = y.get k from ⟨hp, hq⟩)
        clear hp hq
        by_cases hov : q < p
        · have HN : Hid (fitsB x y = false) := Lib.hid (by unfold fitsB; rw [any4_yes hlt (by have := HPQ.out; simp only [decide_eq_true_eq]; omega)]; rfl)
          go_wp2
          go_quiet (fail)
          go_wp2
          go_ret
          exact ⟨ret_bool HN.out.symm, below_and HBL.out (below_and HBx.out (below_drewN nq))⟩
        · have hd : decide (q < p) = false := by simpa using hov
          have HA2 : Hid (∀ j, j < k + 1 → x.get j ≤ y.get j) := Lib.hid (fun j hj => by
            by_cases h : j < k
            · exact HAx.out j h
            · obtain rfl : j = k := by omega
              have := HPQ.out; omega)
          go_wp2
          go_quiet (fail)
          go_wp2
          go_roundw
          case rel => exact ⟨k + 1, by omega, by go_num, HA2, Lib.hid (below_and HBx.out (below_drewN nq)), Lib.hid (HXa.out.kept (below_drewN nq)), Lib.hid (HYa.out.kept (below_drewN nq))⟩
          case measure => simp [intOf]; omega
      · obtain rfl : k = 4 := by omega
        have HN : Hid (fitsB x y = true) := Lib.hid (by unfold fitsB; rw [any4_no (fun j hj => by have := HAx.out j hj; simpa using this)]; rfl)
        go_wp2
        go_ret
        exact ⟨ret_bool HN.out.symm, below_and HBL.out HBx.out⟩

end Go.Proofs.Ytighcnecajgkpaa
namespace Go.Proofs.Ytighcnecajgkpaa
open Go.RowKit

set_option maxRecDepth 100000 in
set_option maxHeartbeats 4000000 in
theorem rsub_bad (x y : Am) (w : World) (ha : (x.okB && y.okB) = false) :
    Calls Try.prog 49 #[amV x, amV y] w fun e w' => e = .returned (.tuple #[amV (subR x y).1, .int .i64 (subR x y).2]) ∧ Below w.heap.size w w' := by
  have HA : Hid ((x.okB && y.okB) = false) := Lib.hid ha
  have HR := Lib.hid (subR_bad ha)
  clear ha
  obtain ⟨w3, hw3⟩ : ∃ w3, w3 = (((w.alloc (.cells #[.int .i64 x.c, .int .i64 x.r, .int .i64 x.d, .int .i64 x.p] 28)).alloc (.cells #[.int .i64 y.c, .int .i64 y.r, .int .i64 y.d, .int .i64 y.p] 28)).alloc (.cells #[.int .i64 0, .int .i64 0, .int .i64 0, .int .i64 0] 28)) := ⟨_, rfl⟩
  obtain ⟨B, hB⟩ : ∃ B, B = w.heap.size := ⟨_, rfl⟩
  have B0 : Hid (Blk w3 B (amC x) 28) := Lib.hid (by
    have := ((Blk.made w (amC x) 28).alloc (.cells #[.int .i64 y.c, .int .i64 y.r, .int .i64 y.d, .int .i64 y.p] 28)).alloc (.cells #[.int .i64 0, .int .i64 0, .int .i64 0, .int .i64 0] 28)
    rw [hw3, hB]; exact this)
  have B1 : Hid (Blk w3 (B + 1) (amC y) 28) := Lib.hid (by
    have := (Blk.made (w.alloc (.cells #[.int .i64 x.c, .int .i64 x.r, .int .i64 x.d, .int .i64 x.p] 28)) (amC y) 28).alloc (.cells #[.int .i64 0, .int .i64 0, .int .i64 0, .int .i64 0] 28)
    rw [hw3, hB]; simpa using this)
  have B2 : Hid (Blk w3 (B + 1 + 1) (amC .zero) 28) := Lib.hid (by
    have := Blk.made ((w.alloc (.cells #[.int .i64 x.c, .int .i64 x.r, .int .i64 x.d, .int .i64 x.p] 28)).alloc (.cells #[.int .i64 y.c, .int .i64 y.r, .int .i64 y.d, .int .i64 y.p] 28)) (amC .zero) 28
    rw [hw3, hB]; simpa [Am.zero] using this)
  have HBL : Hid (Below w.heap.size w w3) := Lib.hid (by rw [hw3]; exact below_and (below_and (below_alloc w _) (below_alloc _ _)) (below_alloc _ _))
  have HSZ : Hid (w3.heap.size = B + 3) := Lib.hid (by rw [hw3, hB]; simp)
  have HBW0 : Hid (w.heap.size ≤ B) := Lib.hid (by omega)
  have c0 := B0.out.cell (j := 0) rfl
  have c1 := B0.out.cell (j := 1) rfl
  have c2 := B0.out.cell (j := 2) rfl
  have c3 := B0.out.cell (j := 3) rfl
  have c4 := B1.out.cell (j := 0) rfl
  have c5 := B1.out.cell (j := 1) rfl
  have c6 := B1.out.cell (j := 2) rfl
  have c7 := B1.out.cell (j := 3) rfl
  go_enter Try.func49, Try.ntmps49
  go_upto_region 1 with fail
  rw [← hw3, ← hB]
  clear hw3 hB
  go_wp2_with (go_at_call 57; refine (wrong_two w3 x y).mono ?_; rw [HA.out]; rintro e ws ⟨rfl, hb⟩; have C0 := Lib.hid (B0.out.kept hb); have C1 := Lib.hid (B1.out.kept hb); have HBS := Lib.hid (below_and HBL.out hb); have HSS : Hid (B + 3 ≤ ws.heap.size) := Lib.hid (by have := hb.size; have := HSZ.out; omega); have hbr := B2.out.kept hb; have C2 := Lib.hid hbr; have r0 := hbr.cell (j := 0) rfl; have f0 := hbr.free 0; have r1 := hbr.cell (j := 1) rfl; have f1 := hbr.free 1; have r2 := hbr.cell (j := 2) rfl; have f2 := hbr.free 2; have r3 := hbr.cell (j := 3) rfl; have f3 := hbr.free 3; clear hb hbr; clear c0 c1 c2 c3 c4 c5 c6 c7; have c0 := C0.out.cell (j := 0) rfl; have c1 := C0.out.cell (j := 1) rfl; have c2 := C0.out.cell (j := 2) rfl; have c3 := C0.out.cell (j := 3) rfl; have c4 := C1.out.cell (j := 0) rfl; have c5 := C1.out.cell (j := 1) rfl; have c6 := C1.out.cell (j := 2) rfl; have c7 := C1.out.cell (j := 3) rfl)
  refine bodyPost_ret (results_row_tmp rfl _ _ (B + 1 + 1) 28 #[.int .i64 0, .int .i64 0, .int .i64 0, .int .i64 0] (0, 0) _ rfl ?_ Try.underlying28 rfl (by kernel_rfl)) rfl ⟨?_, ?_⟩
  · exact (((C2.out.set 0 (.int .i64 0)).set 1 (.int .i64 0)).set 2 (.int .i64 0)).set 3 (.int .i64 0)
  · first | rfl | (rw [HR.out]; rfl)
  · have hBw : w.heap.size ≤ B + 1 + 1 := by have := HBW0.out; omega
    exact (((HBS.out.setCell (p := ⟨B + 1 + 1, 0, none⟩) hBw _).setCell (p := ⟨B + 1 + 1, 1, none⟩) hBw _).setCell (p := ⟨B + 1 + 1, 2, none⟩) hBw _).setCell (p := ⟨B + 1 + 1, 3, none⟩) hBw _

set_option maxRecDepth 100000 in
set_option maxHeartbeats 4000000 in
theorem rsub_no (x y : Am) (w : World) (ha : (x.okB && y.okB) = true) (hf : fitsB y x = false) :
    Calls Try.prog 49 #[amV x, amV y] w fun e w' => e = .returned (.tuple #[amV (subR x y).1, .int .i64 (subR x y).2]) ∧ Below w.heap.size w w' := by
  have HA : Hid ((x.okB && y.okB) = true) := Lib.hid ha
  have HF : Hid (fitsB y x = false) := Lib.hid hf
  have HR := Lib.hid (subR_fit ha hf)
  clear ha hf
  obtain ⟨w3, hw3⟩ : ∃ w3, w3 = (((w.alloc (.cells #[.int .i64 x.c, .int .i64 x.r, .int .i64 x.d, .int .i64 x.p] 28)).alloc (.cells #[.int .i64 y.c, .int .i64 y.r, .int .i64 y.d, .int .i64 y.p] 28)).alloc (.cells #[.int .i64 0, .int .i64 0, .int .i64 0, .int .i64 0] 28)) := ⟨_, rfl⟩
  obtain ⟨B, hB⟩ : ∃ B, B = w.heap.size := ⟨_, rfl⟩
  have B0 : Hid (Blk w3 B (amC x) 28) := Lib.hid (by
    have := ((Blk.made w (amC x) 28).alloc (.cells #[.int .i64 y.c, .int .i64 y.r, .int .i64 y.d, .int .i64 y.p] 28)).alloc (.cells #[.int .i64 0, .int .i64 0, .int .i64 0, .int .i64 0] 28)
    rw [hw3, hB]; exact this)
  have B1 : Hid (Blk w3 (B + 1) (amC y) 28) := Lib.hid (by
    have := (Blk.made (w.alloc (.cells #[.int .i64 x.c, .int .i64 x.r, .int .i64 x.d, .int .i64 x.p] 28)) (amC y) 28).alloc (.cells #[.int .i64 0, .int .i64 0, .int .i64 0, .int .i64 0] 28)
    rw [hw3, hB]; simpa using this)
  have B2 : Hid (Blk w3 (B + 1 + 1) (amC .zero) 28) := Lib.hid (by
    have := Blk.made ((w.alloc (.cells #[.int .i64 x.c, .int .i64 x.r, .int .i64 x.d, .int .i64 x.p] 28)).alloc (.cells #[.int .i64 y.c, .int .i64 y.r, .int .i64 y.d, .int .i64 y.p] 28)) (amC .zero) 28
    rw [hw3, hB]; simpa [Am.zero] using this)
  have HBL : Hid (Below w.heap.size w w3) := Lib.hid (by rw [hw3]; exact below_and (below_and (below_alloc w _) (below_alloc _ _)) (below_alloc _ _))
  have HSZ : Hid (w3.heap.size = B + 3) := Lib.hid (by rw [hw3, hB]; simp)
  have HBW0 : Hid (w.heap.size ≤ B) := Lib.hid (by omega)
  have c0 := B0.out.cell (j := 0) rfl
  have c1 := B0.out.cell (j := 1) rfl
  have c2 := B0.out.cell (j := 2) rfl
  have c3 := B0.out.cell (j := 3) rfl
  have c4 := B1.out.cell (j := 0) rfl
  have c5 := B1.out.cell (j := 1) rfl
  have c6 := B1.out.cell (j := 2) rfl
  have c7 := B1.out.cell (j := 3) rfl
  go_enter Try.func49, Try.ntmps49
  go_upto_region 1 with fail
  rw [← hw3, ← hB]
  clear hw3 hB
  go_wp2_with (first | (go_at_call 57; refine (wrong_two w3 x y).mono ?_; rw [HA.out]; rintro e ws ⟨rfl, hb⟩; have C0 := Lib.hid (B0.out.kept hb); have C1 := Lib.hid (B1.out.kept hb); have HBS := Lib.hid (below_and HBL.out hb); have HSS : Hid (B + 3 ≤ ws.heap.size) := Lib.hid (by have := hb.size; have := HSZ.out; omega); have hbr := B2.out.kept hb; have C2 := Lib.hid hbr; have r0 := hbr.cell (j := 0) rfl; have f0 := hbr.free 0; have r1 := hbr.cell (j := 1) rfl; have f1 := hbr.free 1; have r2 := hbr.cell (j := 2) rfl; have f2 := hbr.free 2; have r3 := hbr.cell (j := 3) rfl; have f3 := hbr.free 3; clear hb hbr; clear c0 c1 c2 c3 c4 c5 c6 c7; have c0 := C0.out.cell (j := 0) rfl; have c1 := C0.out.cell (j := 1) rfl; have c2 := C0.out.cell (j := 2) rfl; have c3 := C0.out.cell (j := 3) rfl; have c4 := C1.out.cell (j := 0) rfl; have c5 := C1.out.cell (j := 1) rfl; have c6 := C1.out.cell (j := 2) rfl; have c7 := C1.out.cell (j := 3) rfl) | (go_at_call 51; refine (rfits_any y x _).mono ?_; rw [HF.out]; rintro e wt ⟨rfl, hb⟩; have D0 := Lib.hid (C0.out.kept hb); have D1 := Lib.hid (C1.out.kept hb); have HBT := Lib.hid (below_and HBS.out hb); clear r0 r1 r2 r3 f0 f1 f2 f3; have hbr := C2.out.kept hb; have D2 := Lib.hid hbr; have r0 := hbr.cell (j := 0) rfl; have f0 := hbr.free 0; have r1 := hbr.cell (j := 1) rfl; have f1 := hbr.free 1; have r2 := hbr.cell (j := 2) rfl; have f2 := hbr.free 2; have r3 := hbr.cell (j := 3) rfl; have f3 := hbr.free 3; clear hbr; clear hb))
  refine bodyPost_ret (results_row_tmp rfl _ _ (B + 1 + 1) 28 #[.int .i64 0, .int .i64 0, .int .i64 0, .int .i64 0] (0, 0) _ rfl ?_ Try.underlying28 rfl (by kernel_rfl)) rfl ⟨?_, ?_⟩
  · exact (((D2.out.set 0 (.int .i64 0)).set 1 (.int .i64 0)).set 2 (.int .i64 0)).set 3 (.int .i64 0)
  · first | rfl | (rw [HR.out]; rfl)
  · have hBw : w.heap.size ≤ B + 1 + 1 := by have := HBW0.out; omega
    exact (((HBT.out.setCell (p := ⟨B + 1 + 1, 0, none⟩) hBw _).setCell (p := ⟨B + 1 + 1, 1, none⟩) hBw _).setCell (p := ⟨B + 1 + 1, 2, none⟩) hBw _).setCell (p := ⟨B + 1 + 1, 3, none⟩) hBw _

set_option maxRecDepth 100000 in
set_option maxHeartbeats 4000000 in
theorem rsub_good (x y : Am) (w : World) (ha : (x.okB && y.okB) = true) (hf : fitsB y x = true) :
    Calls Try.prog 49 #[amV x, amV y] w fun e w' => e = .returned (.tuple #[amV (subR x y).1, .int .i64 (subR x y).2]) ∧ Below w.heap.size w w' := by
  have HA : Hid ((x.okB && y.okB) = true) := Lib.hid ha
  have HF : Hid (fitsB y x = true) := Lib.hid hf
  have HX : Hid (x.okB = true) := Lib.hid (by simp at ha; exact ha.1)
  have HY : Hid (y.okB = true) := Lib.hid (by simp at ha; exact ha.2)
  clear ha hf
  obtain ⟨w3, hw3⟩ : ∃ w3, w3 = (((w.alloc (.cells #[.int .i64 x.c, .int .i64 x.r, .int .i64 x.d, .int .i64 x.p] 28)).alloc (.cells #[.int .i64 y.c, .int .i64 y.r, .int .i64 y.d, .int .i64 y.p] 28)).alloc (.cells #[.int .i64 0, .int .i64 0, .int .i64 0, .int .i64 0] 28)) := ⟨_, rfl⟩
  obtain ⟨B, hB⟩ : ∃ B, B = w.heap.size := ⟨_, rfl⟩
  have B0 : Hid (Blk w3 B (amC x) 28) := Lib.hid (by
    have := ((Blk.made w (amC x) 28).alloc (.cells #[.int .i64 y.c, .int .i64 y.r, .int .i64 y.d, .int .i64 y.p] 28)).alloc (.cells #[.int .i64 0, .int .i64 0, .int .i64 0, .int .i64 0] 28)
    rw [hw3, hB]; exact this)
  have B1 : Hid (Blk w3 (B + 1) (amC y) 28) := Lib.hid (by
    have := (Blk.made (w.alloc (.cells #[.int .i64 x.c, .int .i64 x.r, .int .i64 x.d, .int .i64 x.p] 28)) (amC y) 28).alloc (.cells #[.int .i64 0, .int .i64 0, .int .i64 0, .int .i64 0] 28)
    rw [hw3, hB]; simpa using this)
  have B2 : Hid (Blk w3 (B + 1 + 1) (amC .zero) 28) := Lib.hid (by
    have := Blk.made ((w.alloc (.cells #[.int .i64 x.c, .int .i64 x.r, .int .i64 x.d, .int .i64 x.p] 28)).alloc (.cells #[.int .i64 y.c, .int .i64 y.r, .int .i64 y.d, .int .i64 y.p] 28)) (amC .zero) 28
    rw [hw3, hB]; simpa [Am.zero] using this)
  have HBL : Hid (Below w.heap.size w w3) := Lib.hid (by rw [hw3]; exact below_and (below_and (below_alloc w _) (below_alloc _ _)) (below_alloc _ _))
  have HSZ : Hid (w3.heap.size = B + 3) := Lib.hid (by rw [hw3, hB]; simp)
  have HBW0 : Hid (w.heap.size ≤ B) := Lib.hid (by omega)
  have c0 := B0.out.cell (j := 0) rfl
  have c1 := B0.out.cell (j := 1) rfl
  have c2 := B0.out.cell (j := 2) rfl
  have c3 := B0.out.cell (j := 3) rfl
  have c4 := B1.out.cell (j := 0) rfl
  have c5 := B1.out.cell (j := 1) rfl
  have c6 := B1.out.cell (j := 2) rfl
  have c7 := B1.out.cell (j := 3) rfl
  go_enter Try.func49, Try.ntmps49
  go_upto_region 1 with fail
  rw [← hw3, ← hB]
  clear hw3 hB
  go_upto_region 5 with (first | (go_at_call 57; refine (wrong_two w3 x y).mono ?_; rw [HA.out]; rintro e ws ⟨rfl, hb⟩; have C0 := Lib.hid (B0.out.kept hb); have C1 := Lib.hid (B1.out.kept hb); have HBS := Lib.hid (below_and HBL.out hb); have HSS : Hid (B + 3 ≤ ws.heap.size) := Lib.hid (by have := hb.size; have := HSZ.out; omega); have hbr := B2.out.kept hb; have C2 := Lib.hid hbr; have r0 := hbr.cell (j := 0) rfl; have f0 := hbr.free 0; have r1 := hbr.cell (j := 1) rfl; have f1 := hbr.free 1; have r2 := hbr.cell (j := 2) rfl; have f2 := hbr.free 2; have r3 := hbr.cell (j := 3) rfl; have f3 := hbr.free 3; clear hb hbr; clear c0 c1 c2 c3 c4 c5 c6 c7; have c0 := C0.out.cell (j := 0) rfl; have c1 := C0.out.cell (j := 1) rfl; have c2 := C0.out.cell (j := 2) rfl; have c3 := C0.out.cell (j := 3) rfl; have c4 := C1.out.cell (j := 0) rfl; have c5 := C1.out.cell (j := 1) rfl; have c6 := C1.out.cell (j := 2) rfl; have c7 := C1.out.cell (j := 3) rfl) | (go_at_call 51; refine (rfits_any y x _).mono ?_; rw [HF.out]; rintro e wt ⟨rfl, hb⟩; have D0 := Lib.hid (C0.out.kept hb); have D1 := Lib.hid (C1.out.kept hb); have HBT := Lib.hid (below_and HBS.out hb); clear r0 r1 r2 r3 f0 f1 f2 f3; have hbr := C2.out.kept hb; have D2 := Lib.hid hbr; have r0 := hbr.cell (j := 0) rfl; have f0 := hbr.free 0; have r1 := hbr.cell (j := 1) rfl; have f1 := hbr.free 1; have r2 := hbr.cell (j := 2) rfl; have f2 := hbr.free 2; have r3 := hbr.cell (j := 3) rfl; have f3 := hbr.free 3; clear hbr; clear hb))
  clear c0 c1 c2 c3 c4 c5 c6 c7 r0 r1 r2 r3 f0 f1 f2 f3
  go_cut [6, 7] (fun sa sb wx => TwoS wt.heap.size wx sa sb x y ∧ Below wt.heap.size wt wx)
  case first =>
    go_region_held3 (fun w' => w'.cell? ⟨B, 0, none⟩ = some (.int .i64 x.c) ∧ w'.cell? ⟨B, 1, none⟩ = some (.int .i64 x.r) ∧ w'.cell? ⟨B, 2, none⟩ = some (.int .i64 x.d) ∧ w'.cell? ⟨B, 3, none⟩ = some (.int .i64 x.p) ∧ w'.cell? ⟨B + 1, 0, none⟩ = some (.int .i64 y.c) ∧ w'.cell? ⟨B + 1, 1, none⟩ = some (.int .i64 y.r) ∧ w'.cell? ⟨B + 1, 2, none⟩ = some (.int .i64 y.d) ∧ w'.cell? ⟨B + 1, 3, none⟩ = some (.int .i64 y.p)) (refine eight (t := 28) (u := 28) ?_ ?_ <;> (repeat (first | exact D0.out | exact D1.out | apply Blk.drew | apply Blk.alloc)))
      (first | (go_at_call 48; refine (four_exact _ _).mono ?_; rintro e w1 ⟨rfl, rfl⟩))
    all_goals go_wp2_with fail
    all_goals go_meet
    all_goals refine ⟨⟨_, _, rfl, rfl, by first | omega | (simp; omega), by first | omega | (simp; omega), by first | omega | (simp; omega), ?_, ?_⟩, ?_⟩
    all_goals first
      | ((repeat (first | exact Below.refl _ _ | apply bl_drew | (refine bl_alloc _ ?_ (by simp <;> omega)))); done)
      | ((repeat (first | (refine Blk.made_at (cs := amC x) ?_; simp; done) | (refine Blk.made_at (cs := amC y) ?_; simp; done) | apply Blk.drew | apply Blk.alloc)); done)
  case rest =>
    obtain ⟨⟨g, h, rfl, rfl, hgh, hg, hh, hb1, hb2⟩, hbl⟩ := hcut
    have HB1 := Lib.hid hb1
    have HB2 := Lib.hid hb2
    have HBW := Lib.hid hbl
    have HGH := Lib.hid (show g ≠ h ∧ wt.heap.size ≤ g ∧ wt.heap.size ≤ h from ⟨hgh, hg, hh⟩)
    clear hb1 hb2 hbl hgh hg hh
    obtain ⟨z, hz⟩ : ∃ z : Am, z = .of fun k => x.get k - y.get k := ⟨_, rfl⟩
    have HZ : Hid (∀ k, k < 4 → z.get k = x.get k - y.get k) := Lib.hid (fun k hk => by rw [hz, Am.of_get _ k hk])
    clear hz
    go_wp2
    go_loopw [8] (fun i wc => ∃ k : Nat, k ≤ 4 ∧ i = .int .i64 (k : Int) ∧ Hid (Blk wc g (amC (Am.mix k x z)) 2) ∧ Hid (Blk wc h (amC y) 2) ∧ Hid (Below wt.heap.size wt wc)) (fun i _ => 4 - (intOf i).toNat)
    case atStart => exact ⟨0, Nat.zero_le _, rfl, HB1, HB2, HBW⟩
    case round =>
      obtain ⟨k, hk, rfl, HXa, HYa, HBx⟩ := hrel
      by_cases hlt : k < 4
      · have i0 : (0 : Int) ≤ (k : Int) := by omega
        have i1 : (k : Int) < 4 := by omega
        have hx := HXa.out.cell (Am.mix_get k hlt x z)
        have hy := HYa.out.cell (amC_get y hlt)
        have fx := HXa.out.free k
        have hzk := HZ.out k hlt
        obtain ⟨p, hp⟩ : ∃ p, p = x.get k := ⟨_, rfl⟩
        obtain ⟨q, hq⟩ : ∃ q, q = y.get k := ⟨_, rfl⟩
        have p0 : 0 ≤ p ∧ p ≤ 1099511627776 := by rw [hp]; exact ok_get HX.out hlt
        have q0 : 0 ≤ q ∧ q ≤ 1099511627776 := by rw [hq]; exact ok_get HY.out hlt
        obtain ⟨p1, p2⟩ := p0
        obtain ⟨q1, q2⟩ := q0
        rw [← hp] at hx
        rw [← hq] at hy
        rw [← hp, ← hq] at hzk
        have HNX : Hid (Blk (wr.setCell ⟨g, k, none⟩ (.int .i64 (p - q))) g (amC (Am.mix (k + 1) x z)) 2) := Lib.hid (by
          have := HXa.out.set k (.int .i64 (z.get k))
          rw [Am.mix_set k hlt, hzk] at this
          exact this)
        have HNY : Hid (Blk (wr.setCell ⟨g, k, none⟩ (.int .i64 (p - q))) h (amC y) 2) := Lib.hid (HYa.out.other (Ne.symm HGH.out.1) _)
        have HNB : Hid (Below wt.heap.size wt (wr.setCell ⟨g, k, none⟩ (.int .i64 (p - q))).drew) := Lib.hid (bl_drew (HBx.out.setCell (p := ⟨g, k, none⟩) HGH.out.2.1 _))
        have s1 : IntKind.i64.wrap (p - q) = p - q := by rw [IntKind.wrap_i64]; omega
        have s2 : wrap64 (p - q) = p - q := by unfold wrap64; omega
        clear hp hq hzk
        go_wp2
        go_region
        all_goals go_wp2
        go_roundw
        case rel => exact ⟨k + 1, by omega, by go_num, HNX, HNY, HNB⟩
        case measure => simp [intOf]; omega
      · obtain rfl : k = 4 := by omega
        have HR := Lib.hid (subR_ok (x := x) (y := y) (z := z) (by rw [HX.out, HY.out]; rfl) HF.out HZ.out)
        have HX4 : Hid (Blk wr g (amC z) 2) := HXa
        have BR : Hid (Blk wr (B + 1 + 1) (amC .zero) 28) := Lib.hid (D2.out.kept HBx.out)
        go_wp2_with (go_at_call 58; refine (of_any g z _ HX4.out).mono ?_; rintro e w5 ⟨rfl, hb⟩; have hbr := BR.out.kept hb; have r0 := hbr.cell (j := 0) rfl; have f0 := hbr.free 0; have r1 := hbr.cell (j := 1) rfl; have f1 := hbr.free 1; have r2 := hbr.cell (j := 2) rfl; have f2 := hbr.free 2; have r3 := hbr.cell (j := 3) rfl; have f3 := hbr.free 3; have BR5 := Lib.hid hbr; have HB5 := Lib.hid (below_and HBT.out (below_and HBx.out hb)); clear hb hbr)
        refine bodyPost_ret (results_row_tmp rfl _ _ (B + 1 + 1) 28 #[.int .i64 z.c, .int .i64 z.r, .int .i64 z.d, .int .i64 z.p] (0, 0) _ rfl ?_ Try.underlying28 rfl (by kernel_rfl)) rfl ⟨?_, ?_⟩
        · exact (((BR5.out.set 0 (.int .i64 z.c)).set 1 (.int .i64 z.r)).set 2 (.int .i64 z.d)).set 3 (.int .i64 z.p)
        · first | rfl | (rw [HR.out]; rfl)
        · have hBw : w.heap.size ≤ B + 1 + 1 := by have := HBW0.out; omega
          exact (((HB5.out.setCell (p := ⟨B + 1 + 1, 0, none⟩) hBw _).setCell (p := ⟨B + 1 + 1, 1, none⟩) hBw _).setCell (p := ⟨B + 1 + 1, 2, none⟩) hBw _).setCell (p := ⟨B + 1 + 1, 3, none⟩) hBw _

theorem rsub_any (x y : Am) (w : World) :
    Calls Try.prog 49 #[amV x, amV y] w fun e w' => e = .returned (.tuple #[amV (subR x y).1, .int .i64 (subR x y).2]) ∧ Below w.heap.size w w' := by
  cases h : x.okB && y.okB
  · exact rsub_bad x y w h
  · cases hf : fitsB y x
    · exact rsub_no x y w h hf
    · exact rsub_good x y w h hf
end Go.Proofs.Ytighcnecajgkpaa
namespace Go.Proofs.Ytighcnecajgkpaa
open Go.RowKit

theorem rsub_val (a x z : Am) (er : Int) (w : World) (h : subR a x = (z, er)) :
    Calls Try.prog 49 #[amV a, amV x] w fun e w' => e = .returned (.tuple #[.agg #[.int .i64 z.c, .int .i64 z.r, .int .i64 z.d, .int .i64 z.p], .int .i64 er]) ∧ Below w.heap.size w w' :=
  (rsub_any a x w).mono fun e w' ⟨h1, h2⟩ => ⟨by rw [h1, h], h2⟩
def Four (g : Nat) (a : Am) (w : World) : Prop := w.cell? ⟨g, 0, none⟩ = some (.int .i64 a.c) ∧ w.cell? ⟨g, 1, none⟩ = some (.int .i64 a.r) ∧ w.cell? ⟨g, 2, none⟩ = some (.int .i64 a.d) ∧ w.cell? ⟨g, 3, none⟩ = some (.int .i64 a.p)
theorem Four.kept {g : Nat} {a : Am} {w w' : World} (h : Four g a w) (hb : Below w.heap.size w w') : Four g a w' := ⟨cell_kept h.1 hb, cell_kept h.2.1 hb, cell_kept h.2.2.1 hb, cell_kept h.2.2.2 hb⟩

set_option maxRecDepth 100000 in
set_option maxHeartbeats 4000000 in
theorem rroom_top (base g : Nat) (v : Value) (cap : Am) (L : List Ent) (s t : ByteArray) (w : World) (h : RLed base w g v cap L) (ho : Oks L) (hf : Fit (inB s t) L) (hl : L.length ≤ 100000) (hs : s.toList.isEmpty = true) (z : Am) (er : Int) (hz : subR cap (sumA (inB s t) L) = (z, er)) :
    Calls Try.prog 36 #[ptr g, .string s, .string t] w fun e w' => e = .returned (amV z) ∧ Below w.heap.size w w' := by
  obtain ⟨p, c, rfl, hc, hm⟩ := h.shape
  have hml : maxLen ≤ 9223372036854775807 := by decide
  obtain ⟨w3, hw3⟩ : ∃ w3, w3 = w.alloc (.cells #[.int .i64 0, .int .i64 0, .int .i64 0, .int .i64 0] 28) := ⟨_, rfl⟩
  obtain ⟨B, hB⟩ : ∃ B, B = w.heap.size := ⟨_, rfl⟩
  obtain ⟨w4, hw4⟩ : ∃ w4, w4 = w3.alloc (.cells #[.int .i64 cap.c, .int .i64 cap.r, .int .i64 cap.d, .int .i64 cap.p] 28) := ⟨_, rfl⟩
  obtain ⟨A, hA⟩ : ∃ A, A = w3.heap.size := ⟨_, rfl⟩
  have hb3 : Below w.heap.size w w3 := by rw [hw3]; exact below_alloc w _
  have hb4 : Below w3.heap.size w3 w4 := by rw [hw4]; exact below_alloc w3 _
  have HBB : Hid (w.heap.size ≤ B) := Lib.hid (by omega)
  have HC4 : Hid (Blk w4 B (amC .zero) 28) := Lib.hid (by have : Blk w3 B (amC .zero) 28 := (by rw [hw3, hB]; exact Blk.made w (amC .zero) _); exact this.kept hb4)
  have HA4 : Hid (Blk w4 A (amC cap) 28) := Lib.hid (by rw [hw4, hA]; exact Blk.made w3 (amC cap) _)
  have HBA4 : Hid (Below w.heap.size w w4) := Lib.hid (below_and hb3 hb4)
  have HSZA : Hid (B ≠ A ∧ w.heap.size ≤ A) := Lib.hid (by rw [hA, hB, hw3]; simp)
  have HR4 := Lib.hid (h.kept HBA4.out)
  have HR3 := Lib.hid (h.kept hb3)
  have HTK : Hid (∀ w, RLed base w g (.slice p L.length c) cap L → Calls Try.prog 50 #[ptr g, .string s, .string t] w fun e w' => e = .returned (amV (sumA (inB s t) L)) ∧ Below w.heap.size w w') := Lib.hid (fun w h => taken_any base g _ cap L s t w h ho hf hl)
  have HZ := Lib.hid hz
  have c0 := HR3.out.blk.cell (j := 0) rfl
  have c1 := HR3.out.blk.cell (j := 1) rfl
  have c2 := HR3.out.blk.cell (j := 2) rfl
  have c3 := HR3.out.blk.cell (j := 3) rfl
  have HW4 := Lib.hid hw4
  have HWA := Lib.hid hA
  clear h ho hf hz hb3 hb4 hw4 hA
  go_enter Try.func36, Try.ntmps36
  go_upto_region 1 with fail
  rw [← hw3, ← hB]
  clear hw3 hB
  go_upto_region 2 with fail
  rw [← HW4.out, ← HWA.out]
  clear HW4 HWA
  obtain ⟨a, ha⟩ : ∃ a, a = cap := ⟨_, rfl⟩
  rw [← ha] at HA4 HZ
  have HE : Hid (Four A a w4) := Lib.hid ⟨HA4.out.cell (j := 0) rfl, HA4.out.cell (j := 1) rfl, HA4.out.cell (j := 2) rfl, HA4.out.cell (j := 3) rfl⟩
  have HRW := HR4
  have HC0 := HC4
  have HBW := HBA4
  clear ha c0 c1 c2 c3
  go_wp2
  go_cut [8, 9] (fun s8 s9 wx => ∃ q, s8 = ptr q ∧ s9 = .int .i64 er ∧ w4.heap.size ≤ q ∧ Blk wx q (amC z) 28 ∧ Below w4.heap.size w4 wx)
  case first =>
    go_region_held3 (fun w' => w'.cell? ⟨A, 0, none⟩ = some (.int .i64 a.c) ∧ w'.cell? ⟨A, 1, none⟩ = some (.int .i64 a.r) ∧ w'.cell? ⟨A, 2, none⟩ = some (.int .i64 a.d) ∧ w'.cell? ⟨A, 3, none⟩ = some (.int .i64 a.p))
      (refine HE.out.kept ?_ <;> (repeat (first | with_reducible exact Below.refl _ _ | with_reducible exact HB7.out | with_reducible exact HB6.out | apply bl_drew | with_reducible (refine below_and ?_ (below_alloc _ _)) | with_reducible (refine bel_set4 ?_ (Nat.le_refl _)) | with_reducible (refine bel_set4 ?_ HB6.out.size))))
      (first
        | (go_at_call 50; refine (HTK.out _ (HRW.out.kept (by (repeat (first | with_reducible exact Below.refl _ _ | with_reducible exact HB7.out | with_reducible exact HB6.out | apply bl_drew | with_reducible (refine below_and ?_ (below_alloc _ _)) | with_reducible (refine bel_set4 ?_ (Nat.le_refl _)) | with_reducible (refine bel_set4 ?_ HB6.out.size)))))).mono ?_; rintro e w6 ⟨rfl, hb⟩; have HB6 : Hid (Below w4.heap.size w4 w6) := Lib.hid (by refine below_and ?_ hb; (repeat (first | with_reducible exact Below.refl _ _ | with_reducible exact HB7.out | with_reducible exact HB6.out | apply bl_drew | with_reducible (refine below_and ?_ (below_alloc _ _)) | with_reducible (refine bel_set4 ?_ (Nat.le_refl _)) | with_reducible (refine bel_set4 ?_ HB6.out.size)))); (first | (have hq : Blk w6 w4.heap.size (amC .zero) 28 := (Blk.made w4.drew (amC .zero) 28).kept hb; have HQ6 := Lib.hid hq; have q0 := hq.cell (j := 0) rfl; have q1 := hq.cell (j := 1) rfl; have q2 := hq.cell (j := 2) rfl; have q3 := hq.cell (j := 3) rfl; have p0 := hq.free 0; have p1 := hq.free 1; have p2 := hq.free 2; have p3 := hq.free 3; clear hq) | skip); clear hb)
        | (go_at_call 49; refine (rsub_val _ _ z er _ HZ.out).mono ?_; rintro e w7 ⟨rfl, hb⟩; have HB7 : Hid (Below w4.heap.size w4 w7) := Lib.hid (by refine below_and ?_ hb; (repeat (first | with_reducible exact Below.refl _ _ | with_reducible exact HB7.out | with_reducible exact HB6.out | apply bl_drew | with_reducible (refine below_and ?_ (below_alloc _ _)) | with_reducible (refine bel_set4 ?_ (Nat.le_refl _)) | with_reducible (refine bel_set4 ?_ HB6.out.size)))); (first | (have hq : Blk w7 w4.heap.size (amC .zero) 28 := HQ6.out.kept hb; have HQ7 := Lib.hid hq; have q0 := hq.cell (j := 0) rfl; have q1 := hq.cell (j := 1) rfl; have q2 := hq.cell (j := 2) rfl; have q3 := hq.cell (j := 3) rfl; have p0 := hq.free 0; have p1 := hq.free 1; have p2 := hq.free 2; have p3 := hq.free 3; clear hq) | (have hq : Blk w7 w6.heap.size (amC .zero) 28 := (Blk.made w6 (amC .zero) 28).kept hb; have HQ7 := Lib.hid hq; have q0 := hq.cell (j := 0) rfl; have q1 := hq.cell (j := 1) rfl; have q2 := hq.cell (j := 2) rfl; have q3 := hq.cell (j := 3) rfl; have p0 := hq.free 0; have p1 := hq.free 1; have p2 := hq.free 2; have p3 := hq.free 3; clear hq) | skip); clear hb))
    all_goals go_wp2_with fail
    all_goals go_meet
    all_goals first
      | (refine ⟨_, rfl, rfl, Nat.le_refl _, ?_, ?_⟩
         · exact (((HQ7.out.set 0 (.int .i64 z.c)).set 1 (.int .i64 z.r)).set 2 (.int .i64 z.d)).set 3 (.int .i64 z.p)
         · exact bel_set4 HB7.out (Nat.le_refl _))
      | (refine ⟨_, rfl, rfl, HB6.out.size, ?_, ?_⟩
         · exact (((HQ7.out.set 0 (.int .i64 z.c)).set 1 (.int .i64 z.r)).set 2 (.int .i64 z.d)).set 3 (.int .i64 z.p)
         · exact bel_set4 HB7.out HB6.out.size)
      | (refine ⟨_, rfl, rfl, HB7.out.size, ?_, ?_⟩
         · exact Blk.made w7 (amC z) _
         · exact below_and HB7.out (below_alloc _ _))
      | trace_state
  case rest =>
  obtain ⟨q, rfl, rfl, hq, hbq, hb⟩ := hcut
  have z0 := hbq.cell (j := 0) rfl
  have z1 := hbq.cell (j := 1) rfl
  have z2 := hbq.cell (j := 2) rfl
  have z3 := hbq.cell (j := 3) rfl
  have hb0 := HC0.out.kept hb
  have CA := Lib.hid hb0
  have HBA := Lib.hid (below_and HBW.out hb)
  have r0 := hb0.cell (j := 0) rfl
  have r1 := hb0.cell (j := 1) rfl
  have r2 := hb0.cell (j := 2) rfl
  have r3 := hb0.cell (j := 3) rfl
  have f0 := hb0.free 0
  have f1 := hb0.free 1
  have f2 := hb0.free 2
  have f3 := hb0.free 3
  clear hq hbq hb hb0
  go_wp2
  refine bodyPost_ret (results_row rfl _ _ B 28 #[.int .i64 z.c, .int .i64 z.r, .int .i64 z.d, .int .i64 z.p] (0, 0) _ rfl ?_ Try.underlying28 rfl (by kernel_rfl)) rfl ⟨rfl, bel_set4 HBA.out HBB.out⟩
  exact (((CA.out.set 0 (.int .i64 z.c)).set 1 (.int .i64 z.r)).set 2 (.int .i64 z.d)).set 3 (.int .i64 z.p)

set_option maxRecDepth 100000 in
set_option maxHeartbeats 4000000 in
theorem rroom_in (base g : Nat) (v : Value) (cap : Am) (L : List Ent) (s t : ByteArray) (w : World) (h : RLed base w g v cap L) (ho : Oks L) (hf : Fit (inB s t) L) (hl : L.length ≤ 100000) (hs : s.toList.isEmpty = false) (k : Nat) (hk : k < L.length) (hp : plc L s = some k) (z : Am) (er : Int) (hz : subR L[k].a (sumA (inB s t) L) = (z, er)) :
    Calls Try.prog 36 #[ptr g, .string s, .string t] w fun e w' => e = .returned (amV z) ∧ Below w.heap.size w w' := by
  obtain ⟨p, c, rfl, hc, hm⟩ := h.shape
  have hml : maxLen ≤ 9223372036854775807 := by decide
  obtain ⟨w3, hw3⟩ : ∃ w3, w3 = w.alloc (.cells #[.int .i64 0, .int .i64 0, .int .i64 0, .int .i64 0] 28) := ⟨_, rfl⟩
  obtain ⟨B, hB⟩ : ∃ B, B = w.heap.size := ⟨_, rfl⟩
  obtain ⟨w4, hw4⟩ : ∃ w4, w4 = w3.alloc (.cells #[.int .i64 cap.c, .int .i64 cap.r, .int .i64 cap.d, .int .i64 cap.p] 28) := ⟨_, rfl⟩
  obtain ⟨A, hA⟩ : ∃ A, A = w3.heap.size := ⟨_, rfl⟩
  have hb3 : Below w.heap.size w w3 := by rw [hw3]; exact below_alloc w _
  have hb4 : Below w3.heap.size w3 w4 := by rw [hw4]; exact below_alloc w3 _
  have HBB : Hid (w.heap.size ≤ B) := Lib.hid (by omega)
  have HC4 : Hid (Blk w4 B (amC .zero) 28) := Lib.hid (by have : Blk w3 B (amC .zero) 28 := (by rw [hw3, hB]; exact Blk.made w (amC .zero) _); exact this.kept hb4)
  have HA4 : Hid (Blk w4 A (amC cap) 28) := Lib.hid (by rw [hw4, hA]; exact Blk.made w3 (amC cap) _)
  have HBA4 : Hid (Below w.heap.size w w4) := Lib.hid (below_and hb3 hb4)
  have HSZA : Hid (B ≠ A ∧ w.heap.size ≤ A) := Lib.hid (by rw [hA, hB, hw3]; simp)
  have HR4 := Lib.hid (h.kept HBA4.out)
  have HR3 := Lib.hid (h.kept hb3)
  have HA3 : Hid (A = w3.heap.size) := Lib.hid hA
  have HTK : Hid (∀ w, RLed base w g (.slice p L.length c) cap L → Calls Try.prog 50 #[ptr g, .string s, .string t] w fun e w' => e = .returned (amV (sumA (inB s t) L)) ∧ Below w.heap.size w w') := Lib.hid (fun w h => taken_any base g _ cap L s t w h ho hf hl)
  have HZ := Lib.hid hz
  have c0 := HR3.out.blk.cell (j := 0) rfl
  have c1 := HR3.out.blk.cell (j := 1) rfl
  have c2 := HR3.out.blk.cell (j := 2) rfl
  have c3 := HR3.out.blk.cell (j := 3) rfl
  have HW4 := Lib.hid hw4
  have HWA := Lib.hid hA
  clear h ho hf hz hb3 hb4 hw4 hA
  have HPI : Hid (plcI L s = (k : Int)) := Lib.hid (by unfold plcI; rw [hp])
  have i1 : (k : Int) < (L.length : Int) := by omega
  obtain ⟨x, hx⟩ : ∃ x, x = L[k] := ⟨_, rfl⟩
  obtain ⟨q0, rfl, hcs⟩ := HR4.out.at hk
  rw [← hx] at hcs HZ
  have HPL : Hid (∀ w, RLed base w g (.slice (some ⟨q0, 0, none⟩) L.length c) cap L → Calls Try.prog 35 #[ptr g, .string s] w fun e w' => e = .returned (.int .i64 (k : Int)) ∧ Below w.heap.size w w') := Lib.hid (fun w h => by have := place_any base g _ cap L s w h; rw [HPI.out] at this; exact this)
  have x0 : ∀ y : Past w4, y.val.cell? ⟨q0, k * 6 + 2, none⟩ = some (.int .i64 x.a.c) := Past.cell (hcs 2 _ (by omega) rfl)
  have x1 : ∀ y : Past w4, y.val.cell? ⟨q0, k * 6 + 2 + 1, none⟩ = some (.int .i64 x.a.r) := Past.cell (hcs 3 _ (by omega) rfl)
  have x2 : ∀ y : Past w4, y.val.cell? ⟨q0, k * 6 + 2 + 2, none⟩ = some (.int .i64 x.a.d) := Past.cell (hcs 4 _ (by omega) rfl)
  have x3 : ∀ y : Past w4, y.val.cell? ⟨q0, k * 6 + 2 + 3, none⟩ = some (.int .i64 x.a.p) := Past.cell (hcs 5 _ (by omega) rfl)
  have x4 : ∀ y : Past w4, y.val.cell? ⟨g, 4, none⟩ = some (.slice (some ⟨q0, 0, none⟩) L.length c) := Past.blk HR4.out.blk (j := 4) rfl
  clear hcs hx hp
  go_enter Try.func36, Try.ntmps36
  go_upto_region 1 with fail
  rw [← hw3, ← hB]
  clear hw3 hB
  go_upto_region 2 with fail
  rw [← HW4.out, ← HWA.out]
  clear HW4 HWA
  go_wp2
  refine wp_region_past_one rfl (by kernel_rfl) (by kernel_rfl) (by kernel_rfl) ?_
  repeat (go_big_quiet_step (first | (go_at_call 35; exact past_call (HPL.out _ (HR4.out.kept (Past.h _))))))
  refine wpQuiet_nil ?_
  intro _ hw'
  obtain ⟨s9, hw''⟩ := hw'
  subst hw''
  obtain ⟨w9, h9, e9⟩ : ∃ w9, Below w4.heap.size w4 w9 ∧ w9 = s9.val := ⟨_, s9.h, rfl⟩
  rw [← e9]
  have ha9 := HA4.out.kept h9
  have HA9 := Lib.hid ha9
  have HC9 := Lib.hid (HC4.out.kept h9)
  have HR9 := Lib.hid (HR4.out.kept h9)
  have HB9 := Lib.hid (below_and HBA4.out h9)
  have r0 := ha9.cell (j := 0) rfl
  have r1 := ha9.cell (j := 1) rfl
  have r2 := ha9.cell (j := 2) rfl
  have r3 := ha9.cell (j := 3) rfl
  have f0 := ha9.free 0
  have f1 := ha9.free 1
  have f2 := ha9.free 2
  have f3 := ha9.free 3
  have HGA : Hid (g ≠ A ∧ ∀ y, (Value.slice (some ⟨q0, 0, none⟩) L.length c).ownBlock = some y → y ≠ A) := Lib.hid ⟨by have h1 := HR3.out.blk.lt; have h2 := HA3.out; omega, fun y hy => by have h1 := (own_block HR3.out.row (by omega)).choose_spec.choose_spec; simp only [Value.slice.injEq, Option.some.injEq, Addr.mk.injEq] at h1; simp [Value.ownBlock] at hy; have h2 := HA3.out; omega⟩
  clear h9 e9 ha9 x0 x1 x2 x3 x4 c0 c1 c2 c3
  go_upto_region 4 with fail
  obtain ⟨a, ha⟩ : ∃ a, a = x.a := ⟨_, rfl⟩
  rw [← ha] at HZ ⊢
  obtain ⟨wv, hwv⟩ : ∃ wv, wv = (((w9.setCell ⟨A, 0, none⟩ (.int .i64 a.c)).setCell ⟨A, 1, none⟩ (.int .i64 a.r)).setCell ⟨A, 2, none⟩ (.int .i64 a.d)).setCell ⟨A, 3, none⟩ (.int .i64 a.p) := ⟨_, rfl⟩
  have hfr : Fr [A] w9 wv := by rw [hwv]; exact ((((Fr.refl [A] w9).set (p := ⟨A, 0, none⟩) (by simp) _).set (p := ⟨A, 1, none⟩) (by simp) _).set (p := ⟨A, 2, none⟩) (by simp) _).set (p := ⟨A, 3, none⟩) (by simp) _
  have hav : Blk wv A (amC a) 28 := by rw [hwv]; exact (((HA9.out.set 0 (.int .i64 a.c)).set 1 (.int .i64 a.r)).set 2 (.int .i64 a.d)).set 3 (.int .i64 a.p)
  have HE : Hid (Four A a wv) := Lib.hid ⟨hav.cell (j := 0) rfl, hav.cell (j := 1) rfl, hav.cell (j := 2) rfl, hav.cell (j := 3) rfl⟩
  have HRW : Hid (RLed base wv g (.slice (some ⟨q0, 0, none⟩) L.length c) cap L) := Lib.hid (HR9.out.fr hfr (by simpa using HGA.out.1) (fun y hy => by simpa using HGA.out.2 y hy))
  have HC0 : Hid (Blk wv B (amC .zero) 28) := Lib.hid (HC9.out.fr hfr (by simpa using HSZA.out.1))
  have HBW : Hid (Below w.heap.size w wv) := Lib.hid (by rw [hwv]; exact bel_set4 HB9.out HSZA.out.2)
  rw [← hwv]
  clear hwv hfr hav ha r0 r1 r2 r3 f0 f1 f2 f3
  go_wp2
  go_cut [8, 9] (fun s8 s9 wx => ∃ q, s8 = ptr q ∧ s9 = .int .i64 er ∧ wv.heap.size ≤ q ∧ Blk wx q (amC z) 28 ∧ Below wv.heap.size wv wx)
  case first =>
    go_region_held3 (fun w' => w'.cell? ⟨A, 0, none⟩ = some (.int .i64 a.c) ∧ w'.cell? ⟨A, 1, none⟩ = some (.int .i64 a.r) ∧ w'.cell? ⟨A, 2, none⟩ = some (.int .i64 a.d) ∧ w'.cell? ⟨A, 3, none⟩ = some (.int .i64 a.p))
      (refine HE.out.kept ?_ <;> (repeat (first | with_reducible exact Below.refl _ _ | with_reducible exact HB7.out | with_reducible exact HB6.out | apply bl_drew | with_reducible (refine below_and ?_ (below_alloc _ _)) | with_reducible (refine bel_set4 ?_ (Nat.le_refl _)) | with_reducible (refine bel_set4 ?_ HB6.out.size))))
      (first
        | (go_at_call 50; refine (HTK.out _ (HRW.out.kept (by (repeat (first | with_reducible exact Below.refl _ _ | with_reducible exact HB7.out | with_reducible exact HB6.out | apply bl_drew | with_reducible (refine below_and ?_ (below_alloc _ _)) | with_reducible (refine bel_set4 ?_ (Nat.le_refl _)) | with_reducible (refine bel_set4 ?_ HB6.out.size)))))).mono ?_; rintro e w6 ⟨rfl, hb⟩; have HB6 : Hid (Below wv.heap.size wv w6) := Lib.hid (by refine below_and ?_ hb; (repeat (first | with_reducible exact Below.refl _ _ | with_reducible exact HB7.out | with_reducible exact HB6.out | apply bl_drew | with_reducible (refine below_and ?_ (below_alloc _ _)) | with_reducible (refine bel_set4 ?_ (Nat.le_refl _)) | with_reducible (refine bel_set4 ?_ HB6.out.size)))); (first | (have hq : Blk w6 wv.heap.size (amC .zero) 28 := (Blk.made wv.drew (amC .zero) 28).kept hb; have HQ6 := Lib.hid hq; have q0 := hq.cell (j := 0) rfl; have q1 := hq.cell (j := 1) rfl; have q2 := hq.cell (j := 2) rfl; have q3 := hq.cell (j := 3) rfl; have p0 := hq.free 0; have p1 := hq.free 1; have p2 := hq.free 2; have p3 := hq.free 3; clear hq) | skip); clear hb)
        | (go_at_call 49; refine (rsub_val _ _ z er _ HZ.out).mono ?_; rintro e w7 ⟨rfl, hb⟩; have HB7 : Hid (Below wv.heap.size wv w7) := Lib.hid (by refine below_and ?_ hb; (repeat (first | with_reducible exact Below.refl _ _ | with_reducible exact HB7.out | with_reducible exact HB6.out | apply bl_drew | with_reducible (refine below_and ?_ (below_alloc _ _)) | with_reducible (refine bel_set4 ?_ (Nat.le_refl _)) | with_reducible (refine bel_set4 ?_ HB6.out.size)))); (first | (have hq : Blk w7 wv.heap.size (amC .zero) 28 := HQ6.out.kept hb; have HQ7 := Lib.hid hq; have q0 := hq.cell (j := 0) rfl; have q1 := hq.cell (j := 1) rfl; have q2 := hq.cell (j := 2) rfl; have q3 := hq.cell (j := 3) rfl; have p0 := hq.free 0; have p1 := hq.free 1; have p2 := hq.free 2; have p3 := hq.free 3; clear hq) | (have hq : Blk w7 w6.heap.size (amC .zero) 28 := (Blk.made w6 (amC .zero) 28).kept hb; have HQ7 := Lib.hid hq; have q0 := hq.cell (j := 0) rfl; have q1 := hq.cell (j := 1) rfl; have q2 := hq.cell (j := 2) rfl; have q3 := hq.cell (j := 3) rfl; have p0 := hq.free 0; have p1 := hq.free 1; have p2 := hq.free 2; have p3 := hq.free 3; clear hq) | skip); clear hb))
    all_goals go_wp2_with fail
    all_goals go_meet
    all_goals first
      | (refine ⟨_, rfl, rfl, Nat.le_refl _, ?_, ?_⟩
         · exact (((HQ7.out.set 0 (.int .i64 z.c)).set 1 (.int .i64 z.r)).set 2 (.int .i64 z.d)).set 3 (.int .i64 z.p)
         · exact bel_set4 HB7.out (Nat.le_refl _))
      | (refine ⟨_, rfl, rfl, HB6.out.size, ?_, ?_⟩
         · exact (((HQ7.out.set 0 (.int .i64 z.c)).set 1 (.int .i64 z.r)).set 2 (.int .i64 z.d)).set 3 (.int .i64 z.p)
         · exact bel_set4 HB7.out HB6.out.size)
      | (refine ⟨_, rfl, rfl, HB7.out.size, ?_, ?_⟩
         · exact Blk.made w7 (amC z) _
         · exact below_and HB7.out (below_alloc _ _))
      | trace_state
  case rest =>
  obtain ⟨q, rfl, rfl, hq, hbq, hb⟩ := hcut
  have z0 := hbq.cell (j := 0) rfl
  have z1 := hbq.cell (j := 1) rfl
  have z2 := hbq.cell (j := 2) rfl
  have z3 := hbq.cell (j := 3) rfl
  have hb0 := HC0.out.kept hb
  have CA := Lib.hid hb0
  have HBA := Lib.hid (below_and HBW.out hb)
  have r0 := hb0.cell (j := 0) rfl
  have r1 := hb0.cell (j := 1) rfl
  have r2 := hb0.cell (j := 2) rfl
  have r3 := hb0.cell (j := 3) rfl
  have f0 := hb0.free 0
  have f1 := hb0.free 1
  have f2 := hb0.free 2
  have f3 := hb0.free 3
  clear hq hbq hb hb0
  go_wp2
  refine bodyPost_ret (results_row rfl _ _ B 28 #[.int .i64 z.c, .int .i64 z.r, .int .i64 z.d, .int .i64 z.p] (0, 0) _ rfl ?_ Try.underlying28 rfl (by kernel_rfl)) rfl ⟨rfl, bel_set4 HBA.out HBB.out⟩
  exact (((CA.out.set 0 (.int .i64 z.c)).set 1 (.int .i64 z.r)).set 2 (.int .i64 z.d)).set 3 (.int .i64 z.p)
end Go.Proofs.Ytighcnecajgkpaa
