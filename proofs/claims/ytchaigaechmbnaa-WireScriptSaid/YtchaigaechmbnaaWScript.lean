/- WireScript, walked -/
import Derived.Test.YtchaigaechmbnaaWScript0
namespace Go.Proofs.Ytchaigaechmbnaa
open Go.RowKit

theorem Row.num {w : World} {p : Option Addr} {n c : Nat} {k : IntKind} {zs : List Int} (h : Row w (.slice p n c) 1 zs.length (zs.map (Value.int k))) {i : Nat} (hi : i < zs.length) : ∃ b o, p = some ⟨b, o, none⟩ ∧ w.cell? ⟨b, o + i, none⟩ = some (.int k zs[i]) := by
  obtain ⟨p', c', hv, h1, h2, h3, h4, h5, h6⟩ := h
  simp only [Value.slice.injEq] at hv
  obtain ⟨rfl, -, rfl⟩ := hv
  rcases h6 with h6 | ⟨b, o, rfl, ha⟩
  · have : zs = [] := by simpa using h6
    subst this; simp at hi
  · exact ⟨b, o, rfl, ha i _ (by simp [hi])⟩

set_option maxRecDepth 100000 in
set_option maxHeartbeats 2000000 in
theorem wireScript_long (v vc : Value) (zs : List Int) (w : World) (h : Row w vc 1 zs.length (zs.map (Value.int .i64))) (hl : 200 < zs.length) (hl2 : zs.length ≤ 9223372036854775807) :
    Calls Try.prog 8 #[v, vc] w fun e w' => e = .returned (.bool true) ∧ Below w.heap.size w w' := by
  obtain ⟨p, c, rfl, -⟩ := h
  go_enter Try.func8, Try.ntmps8
  go_wp2_with fail
  refine (lives_any w).mono ?_
  rintro e w1 ⟨rfl, hb⟩
  have HB1 := Lib.hid hb
  clear hb
  go_wp2_with fail
  go_ret
  exact ⟨rfl, HB1.out⟩

set_option maxRecDepth 100000 in
set_option maxHeartbeats 2000000 in
theorem wireScript_short (v vc : Value) (l : List UInt8) (zs : List Int) (w : World) (h : Rd w v l) (hl : l.length ≤ 140737488351232) (hc : Row w vc 1 zs.length (zs.map (Value.int .i64))) (hwf : ∀ n ∈ zs, (Lit.int .i64 n).wf = true) (hz : zs.length ≤ 200) :
    Calls Try.prog 8 #[v, vc] w fun e w' => e = .returned (.bool true) ∧ Below w.heap.size w w' := by
  obtain ⟨i0, hi, hz0, hz1, hz2⟩ := info_parts Try.uinfo
  have hc' := hc
  obtain ⟨p, c, rfl, -⟩ := hc'
  obtain ⟨pv, cv, rfl, -⟩ := h.parts
  have HV := Lib.hid h
  have HO := Lib.hid (own_lt h)
  have HC := Lib.hid hc
  have HW := Lib.hid hwf
  have HL := Lib.hid (room_reach hl)
  have HL2 := Lib.hid (show l.length ≤ 9223372036854775807 by omega)
  clear h hc hwf hl
  go_enter Try.func8, Try.ntmps8
  go_wp2_with fail
  refine (lives_any w).mono ?_
  rintro e w1 ⟨rfl, hb⟩
  have HB1 := Lib.hid hb
  clear hb
  go_wp2_with (at_builtin; refine wpList_app _ rfl _ _ 22 22 rfl w1.heap.size 5 i0 (.int .u8 0) 1 1 Try.underlying22 hi hz0 hz1 hz2 rfl _ 0 [] rfl (own_none _) _ l.length (l.map B) rfl ((HV.out.below HB1.out).lit0) HL.out.h630 HL.out.bytes0 (by simp) ?_; intro v2 w2 hown' hgrow hnil; have HF2 := Lib.hid (fresh_zero hown'); have HB2 := Lib.hid (below_and HB1.out (below_grown ((Below.refl _ _).alloc (Nat.le_refl _) _) (by simp) (own_none _) hgrow)); clear hown' hgrow hnil)
  refine (new_any v2 l w2 HF2.out.rd (fun _ b hb => (HF2.out.lt b hb).2)).mono ?_
  rintro e w3 ⟨rfl, hr, hb, hs3⟩
  have HR3 := Lib.hid hr
  have HB3 := Lib.hid (below_and HB2.out hb)
  have hs2 : w.heap.size ≤ w2.heap.size := HB2.out.size
  have HS3 := Lib.hid hs3
  have HS2 := Lib.hid hs2
  clear hb hr hs3 hs2 HB1
  go_wp2_with fail
  rw [HS3.out]
  obtain ⟨b, hbr⟩ : ∃ b, b = w2.heap.size := ⟨_, rfl⟩
  have HRX := Lib.hid (show RRdr (w3.alloc (.cells #[.slice pv l.length cv, .int .i64 0, .int .i64 0] 48)) (b + 1) l 0 0 from
    ⟨_, by rw [hbr, ← HS3.out]; exact Blk.made w3 [.slice pv l.length cv, .int .i64 0, .int .i64 0] _, (HV.out.below HB3.out).below (below_alloc _ _), fun hl c hc => by have := HO.out c hc hl; have := HS2.out; omega, Nat.zero_le _⟩)
  have HRR := Lib.hid (show Rdr (w3.alloc (.cells #[.slice pv l.length cv, .int .i64 0, .int .i64 0] 48)) b l 0 0 from by rw [hbr]; exact HR3.out.kept (below_alloc _ _))
  have HB := Lib.hid (below_and HB3.out (below_alloc _ (.cells #[.slice pv l.length cv, .int .i64 0, .int .i64 0] 48)))
  have HN := Lib.hid (show w.heap.size ≤ b by have := HS2.out; omega)
  rw [← hbr]
  clear HB2 HB3 HF2 HR3 HS3 HS2 hbr
  go_loopw [7] (fun i wr => ∃ (k a : Nat) (e : Int), k ≤ zs.length ∧ i = .int .i64 (k : Int) ∧ Hid (Rdr wr b l a e) ∧ Hid (RRdr wr (b + 1) l a e) ∧ Hid (Below w.heap.size w wr)) (fun i _ => zs.length - (intOf i).toNat)
  case atStart => exact ⟨0, 0, 0, Nat.zero_le _, rfl, HRR, HRX, HB⟩
  case round =>
    obtain ⟨k, a, e, hk, rfl, hr, hx, hb⟩ := hrel
    clear HRR HRX HB
    by_cases hlt : k < zs.length
    · obtain ⟨bc, oc, rfl, e1⟩ := (HC.out.below hb.out).num hlt
      have hwx := HW.out zs[k] (List.getElem_mem hlt)
      generalize zs[k] = x at e1 hwx
      have hx2 : x ≤ 9223372036854775807 := by
        have : -9223372036854775808 ≤ x ∧ x ≤ 9223372036854775807 := by simpa [Lit.wf, IntKind.min, IntKind.max, IntKind.signed, IntKind.bits] using hwx
        exact this.2
      have HX2 := Lib.hid hx2
      clear hwx hx2
      have h7 : x % 7 = 0 ∨ x % 7 = 1 ∨ x % 7 = 2 ∨ x % 7 = 3 ∨ x % 7 = 4 ∨ x % 7 = 5 ∨ x % 7 = 6 := by omega
      rcases h7 with h7 | h7 | h7 | h7 | h7 | h7 | h7
      · -- Uint
        have t0 : (x % 7 == 0) = true := by rw [h7]; rfl
        clear h7
        go_wp2_with fail
        refine (opq_same (pick_any x _)).mono ?_
        rintro ε w4 ⟨rfl, hb4⟩
        have hr := Lib.hid (hr.out.kept hb4)
        have hx := Lib.hid (hx.out.kept hb4)
        have hb := Lib.hid (below_and hb.out hb4)
        clear hb4
        go_wp2_with fail
        refine (uint_any b l a e _ hr.out HL2.out).mono ?_
        rintro ε w5 ⟨rfl, hr5, hg5⟩
        have hx1 := hx.out.keptR hg5 rfl
        have HX1 := Lib.hid hx1
        have HR5 := Lib.hid hr5
        have HB5 := Lib.hid (below_andG hb.out hg5 HN.out)
        clear hr5 hg5 hr hx hb hx1
        go_wp2_with fail
        refine (ruint_any (b + 1) l a e _ HX1.out HL2.out).mono ?_
        rintro ε w6 ⟨rfl, hx6, hg6⟩
        have HR6 := Lib.hid (HR5.out.keptX hg6 rfl)
        have HX6 := Lib.hid hx6
        have HB6 := Lib.hid (below_andG HB5.out hg6 (Nat.le_succ_of_le HN.out))
        clear hx6 hg6 HR5 HX1 HB5
        go_wp2_with fail
        refine (opq (same_readers b (b + 1) l _ _ _ HR6.out HX6.out)).mono ?_
        rintro ε w7 ⟨rfl, hb7⟩
        have HR7 := Lib.hid (HR6.out.kept hb7)
        have HX7 := Lib.hid (HX6.out.kept hb7)
        have HB7 := Lib.hid (below_and HB6.out hb7)
        clear hb7 HR6 HX6 HB6
        go_wp2_with fail
        go_roundw
        case rel => exact ⟨k + 1, _, _, by omega, by go_num, HR7, HX7, HB7⟩
        case measure => simp [intOf]; omega
      · -- Int
        have t0 : (x % 7 == 0) = false := by rw [h7]; rfl
        have t1 : (x % 7 == 1) = true := by rw [h7]; rfl
        clear h7
        go_wp2_with fail
        refine (opq_same (pick_any x _)).mono ?_
        rintro ε w4 ⟨rfl, hb4⟩
        have hr := Lib.hid (hr.out.kept hb4)
        have hx := Lib.hid (hx.out.kept hb4)
        have hb := Lib.hid (below_and hb.out hb4)
        clear hb4
        go_wp2_with fail
        refine (int_any b l a e _ hr.out HL2.out).mono ?_
        rintro ε w5 ⟨rfl, hr5, hg5⟩
        have hx1 := hx.out.keptR hg5 rfl
        have HX1 := Lib.hid hx1
        have HR5 := Lib.hid hr5
        have HB5 := Lib.hid (below_andG hb.out hg5 HN.out)
        clear hr5 hg5 hr hx hb hx1
        go_wp2_with fail
        refine (rint_any (b + 1) l a e _ HX1.out HL2.out).mono ?_
        rintro ε w6 ⟨rfl, hx6, hg6⟩
        have HR6 := Lib.hid (HR5.out.keptX hg6 rfl)
        have HX6 := Lib.hid hx6
        have HB6 := Lib.hid (below_andG HB5.out hg6 (Nat.le_succ_of_le HN.out))
        clear hx6 hg6 HR5 HX1 HB5
        go_wp2_with fail
        refine (opq (same_readers b (b + 1) l _ _ _ HR6.out HX6.out)).mono ?_
        rintro ε w7 ⟨rfl, hb7⟩
        have HR7 := Lib.hid (HR6.out.kept hb7)
        have HX7 := Lib.hid (HX6.out.kept hb7)
        have HB7 := Lib.hid (below_and HB6.out hb7)
        clear hb7 HR6 HX6 HB6
        go_wp2_with fail
        go_roundw
        case rel => exact ⟨k + 1, _, _, by omega, by go_num, HR7, HX7, HB7⟩
        case measure => simp [intOf]; omega
      · -- Bool
        have t0 : (x % 7 == 0) = false := by rw [h7]; rfl
        have t1 : (x % 7 == 1) = false := by rw [h7]; rfl
        have t2 : (x % 7 == 2) = true := by rw [h7]; rfl
        clear h7
        go_wp2_with fail
        refine (opq_same (pick_any x _)).mono ?_
        rintro ε w4 ⟨rfl, hb4⟩
        have hr := Lib.hid (hr.out.kept hb4)
        have hx := Lib.hid (hx.out.kept hb4)
        have hb := Lib.hid (below_and hb.out hb4)
        clear hb4
        go_wp2_with fail
        refine (bool_any b l a e _ hr.out).mono ?_
        rintro ε w5 ⟨rfl, hr5, hg5⟩
        have hx1 := hx.out.keptR hg5 rfl
        have HX1 := Lib.hid hx1
        have HR5 := Lib.hid hr5
        have HB5 := Lib.hid (below_andG hb.out hg5 HN.out)
        clear hr5 hg5 hr hx hb hx1
        go_wp2_with fail
        refine (rbool_any (b + 1) l a e _ HX1.out).mono ?_
        rintro ε w6 ⟨rfl, hx6, hg6⟩
        have HR6 := Lib.hid (HR5.out.keptX hg6 rfl)
        have HX6 := Lib.hid hx6
        have HB6 := Lib.hid (below_andG HB5.out hg6 (Nat.le_succ_of_le HN.out))
        clear hx6 hg6 HR5 HX1 HB5
        go_wp2_with fail
        refine (opq (same_readers b (b + 1) l _ _ _ HR6.out HX6.out)).mono ?_
        rintro ε w7 ⟨rfl, hb7⟩
        have HR7 := Lib.hid (HR6.out.kept hb7)
        have HX7 := Lib.hid (HX6.out.kept hb7)
        have HB7 := Lib.hid (below_and HB6.out hb7)
        clear hb7 HR6 HX6 HB6
        go_wp2_with fail
        go_roundw
        case rel => exact ⟨k + 1, _, _, by omega, by go_num, HR7, HX7, HB7⟩
        case measure => simp [intOf]; omega
      · -- Text
        have t0 : (x % 7 == 0) = false := by rw [h7]; rfl
        have t1 : (x % 7 == 1) = false := by rw [h7]; rfl
        have t2 : (x % 7 == 2) = false := by rw [h7]; rfl
        have t3 : (x % 7 == 3) = true := by rw [h7]; rfl
        clear h7
        go_wp2_with fail
        refine (opq_same (pick_any x _)).mono ?_
        rintro ε w4 ⟨rfl, hb4⟩
        have hr := Lib.hid (hr.out.kept hb4)
        have hx := Lib.hid (hx.out.kept hb4)
        have hb := Lib.hid (below_and hb.out hb4)
        clear hb4
        go_wp2_with fail
        refine (text_any b l a e _ hr.out HL2.out).mono ?_
        rintro ε w5 ⟨rfl, hr5, hg5⟩
        have hx1 := hx.out.keptR hg5 rfl
        have HX1 := Lib.hid hx1
        have HR5 := Lib.hid hr5
        have HB5 := Lib.hid (below_andG hb.out hg5 HN.out)
        clear hr5 hg5 hr hx hb hx1
        go_wp2_with fail
        refine (rtext_any (b + 1) l a e _ HX1.out HL2.out).mono ?_
        rintro ε w6 ⟨rfl, hx6, hg6⟩
        have HR6 := Lib.hid (HR5.out.keptX hg6 rfl)
        have HX6 := Lib.hid hx6
        have HB6 := Lib.hid (below_andG HB5.out hg6 (Nat.le_succ_of_le HN.out))
        clear hx6 hg6 HR5 HX1 HB5
        go_wp2_with fail
        refine (opq (same_readers b (b + 1) l _ _ _ HR6.out HX6.out)).mono ?_
        rintro ε w7 ⟨rfl, hb7⟩
        have HR7 := Lib.hid (HR6.out.kept hb7)
        have HX7 := Lib.hid (HX6.out.kept hb7)
        have HB7 := Lib.hid (below_and HB6.out hb7)
        clear hb7 HR6 HX6 HB6
        go_wp2_with fail
        go_roundw
        case rel => exact ⟨k + 1, _, _, by omega, by go_num, HR7, HX7, HB7⟩
        case measure => simp [intOf]; omega
      · -- Count
        have t0 : (x % 7 == 0) = false := by rw [h7]; rfl
        have t1 : (x % 7 == 1) = false := by rw [h7]; rfl
        have t2 : (x % 7 == 2) = false := by rw [h7]; rfl
        have t3 : (x % 7 == 3) = false := by rw [h7]; rfl
        have t4 : (x % 7 == 4) = true := by rw [h7]; rfl
        clear h7
        go_wp2_with fail
        refine (opq_same (pick_any x _)).mono ?_
        rintro ε w4 ⟨rfl, hb4⟩
        have hr := Lib.hid (hr.out.kept hb4)
        have hx := Lib.hid (hx.out.kept hb4)
        have hb := Lib.hid (below_and hb.out hb4)
        clear hb4
        go_wp2_with fail
        refine (count_any b l a x e _ hr.out HL2.out HX2.out).mono ?_
        rintro ε w5 ⟨rfl, hr5, hg5⟩
        have hx1 := hx.out.keptR hg5 rfl
        have HX1 := Lib.hid hx1
        have HR5 := Lib.hid hr5
        have HB5 := Lib.hid (below_andG hb.out hg5 HN.out)
        clear hr5 hg5 hr hx hb hx1
        go_wp2_with fail
        refine (rcount_any (b + 1) l a x e _ HX1.out HL2.out HX2.out).mono ?_
        rintro ε w6 ⟨rfl, hx6, hg6⟩
        have HR6 := Lib.hid (HR5.out.keptX hg6 rfl)
        have HX6 := Lib.hid hx6
        have HB6 := Lib.hid (below_andG HB5.out hg6 (Nat.le_succ_of_le HN.out))
        clear hx6 hg6 HR5 HX1 HB5
        go_wp2_with fail
        refine (opq (same_readers b (b + 1) l _ _ _ HR6.out HX6.out)).mono ?_
        rintro ε w7 ⟨rfl, hb7⟩
        have HR7 := Lib.hid (HR6.out.kept hb7)
        have HX7 := Lib.hid (HX6.out.kept hb7)
        have HB7 := Lib.hid (below_and HB6.out hb7)
        clear hb7 HR6 HX6 HB6
        go_wp2_with fail
        go_roundw
        case rel => exact ⟨k + 1, _, _, by omega, by go_num, HR7, HX7, HB7⟩
        case measure => simp [intOf]; omega
      · -- Fail
        have t0 : (x % 7 == 0) = false := by rw [h7]; rfl
        have t1 : (x % 7 == 1) = false := by rw [h7]; rfl
        have t2 : (x % 7 == 2) = false := by rw [h7]; rfl
        have t3 : (x % 7 == 3) = false := by rw [h7]; rfl
        have t4 : (x % 7 == 4) = false := by rw [h7]; rfl
        have t5 : (x % 7 == 5) = true := by rw [h7]; rfl
        clear h7
        go_wp2_with fail
        refine (opq_same (pick_any x _)).mono ?_
        rintro ε w4 ⟨rfl, hb4⟩
        have hr := Lib.hid (hr.out.kept hb4)
        have hx := Lib.hid (hx.out.kept hb4)
        have hb := Lib.hid (below_and hb.out hb4)
        clear hb4
        go_wp2_with fail
        refine (fail_any b l a e _ _ hr.out).mono ?_
        rintro ε w5 ⟨rfl, hr5, hg5⟩
        have hx1 := hx.out.keptR hg5 rfl
        have HX1 := Lib.hid hx1
        have HR5 := Lib.hid hr5
        have HB5 := Lib.hid (below_andG hb.out hg5 HN.out)
        clear hr5 hg5 hr hx hb hx1
        go_wp2_with fail
        refine (rfail_any (b + 1) l a e _ _ HX1.out).mono ?_
        rintro ε w6 ⟨rfl, hx6, hg6⟩
        have HR6 := Lib.hid (HR5.out.keptX hg6 rfl)
        have HX6 := Lib.hid hx6
        have HB6 := Lib.hid (below_andG HB5.out hg6 (Nat.le_succ_of_le HN.out))
        clear hx6 hg6 HR5 HX1 HB5
        go_wp2_with fail
        refine (opq (same_readers b (b + 1) l _ _ _ HR6.out HX6.out)).mono ?_
        rintro ε w7 ⟨rfl, hb7⟩
        have HR7 := Lib.hid (HR6.out.kept hb7)
        have HX7 := Lib.hid (HX6.out.kept hb7)
        have HB7 := Lib.hid (below_and HB6.out hb7)
        clear hb7 HR6 HX6 HB6
        go_wp2_with fail
        go_roundw
        case rel => exact ⟨k + 1, _, _, by omega, by go_num, HR7, HX7, HB7⟩
        case measure => simp [intOf]; omega
      · -- Done
        have t0 : (x % 7 == 0) = false := by rw [h7]; rfl
        have t1 : (x % 7 == 1) = false := by rw [h7]; rfl
        have t2 : (x % 7 == 2) = false := by rw [h7]; rfl
        have t3 : (x % 7 == 3) = false := by rw [h7]; rfl
        have t4 : (x % 7 == 4) = false := by rw [h7]; rfl
        have t5 : (x % 7 == 5) = false := by rw [h7]; rfl
        clear h7
        go_wp2_with fail
        refine (opq_same (pick_any x _)).mono ?_
        rintro ε w4 ⟨rfl, hb4⟩
        have hr := Lib.hid (hr.out.kept hb4)
        have hx := Lib.hid (hx.out.kept hb4)
        have hb := Lib.hid (below_and hb.out hb4)
        clear hb4
        go_wp2_with fail
        refine (done_any b l a e _ hr.out).mono ?_
        rintro ε w5 ⟨rfl, hr5, hg5⟩
        have hx1 := hx.out.keptR hg5 rfl
        have HX1 := Lib.hid hx1
        have HR5 := Lib.hid hr5
        have HB5 := Lib.hid (below_andG hb.out hg5 HN.out)
        clear hr5 hg5 hr hx hb hx1
        go_wp2_with fail
        refine (rdone_any (b + 1) l a e _ HX1.out).mono ?_
        rintro ε w6 ⟨rfl, hx6, hg6⟩
        have HR6 := Lib.hid (HR5.out.keptX hg6 rfl)
        have HX6 := Lib.hid hx6
        have HB6 := Lib.hid (below_andG HB5.out hg6 (Nat.le_succ_of_le HN.out))
        clear hx6 hg6 HR5 HX1 HB5
        go_wp2_with fail
        refine (opq (same_readers b (b + 1) l _ _ _ HR6.out HX6.out)).mono ?_
        rintro ε w7 ⟨rfl, hb7⟩
        have HR7 := Lib.hid (HR6.out.kept hb7)
        have HX7 := Lib.hid (HX6.out.kept hb7)
        have HB7 := Lib.hid (below_and HB6.out hb7)
        clear hb7 HR6 HX6 HB6
        go_wp2_with fail
        go_roundw
        case rel => exact ⟨k + 1, _, _, by omega, by go_num, HR7, HX7, HB7⟩
        case measure => simp [intOf]; omega
    · go_wp2_with fail
      go_ret
      exact ⟨rfl, hb.out⟩

theorem wireScript_walk (v : Value) (l : List UInt8) (vc : Value) (zs : List Int) (w : World) (h : Rd w v l) (hl : l.length ≤ 140737488351232) (hc : Row w vc 1 zs.length (zs.map (Value.int .i64))) (hwf : ∀ n ∈ zs, (Lit.int .i64 n).wf = true) (hz : zs.length * 8 ≤ 140737488351232) :
    Calls Try.prog 8 #[v, vc] w fun e w' => e = .returned (.bool true) ∧ Below w.heap.size w w' := by
  by_cases h2 : zs.length ≤ 200
  · exact wireScript_short v vc l zs w h hl hc hwf h2
  · exact wireScript_long v vc zs w hc (by omega) (by omega)
end Go.Proofs.Ytchaigaechmbnaa
