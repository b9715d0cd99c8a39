/- The book's used. -/
import Derived.Test.YtmgbailpmcggiaaQBook
namespace Go.Proofs.Ytmgbailpmcggiaa
open Go.RowKit

theorem chM_get_some {C : List Ch} {s : List UInt8} {e : Ch} (h : kfnd Ch.key C s = some e) : (chM C).get s = some (chV e) ∧ (chM C).hasK s = true := by unfold chM; rw [kM_get, kM_has, h]; exact ⟨rfl, rfl⟩
theorem chM_get_none {C : List Ch} {s : List UInt8} (h : kfnd Ch.key C s = none) : (chM C).get s = none ∧ (chM C).hasK s = false := by unfold chM; rw [kM_get, kM_has, h]; exact ⟨rfl, rfl⟩

set_option maxRecDepth 100000 in
set_option maxHeartbeats 2000000 in
theorem bused_any (b mg mc : Nat) (G : List Gr) (C : List Ch) (u t : ByteArray) (d : Int) (w : World) (h : Bk w b mg mc G C) (hd : KApart Ch.key C) (ho : Oks C) (hf : Fit (hit u d t) C) :
    Calls Try.prog 28 #[ptr b, .string u, .int .i64 d, .string t] w fun e w' => e = .returned (.tuple #[amV (psum (hit u d t) C), .bool true]) ∧ Below w.heap.size w w' := by
  obtain ⟨P, hP⟩ : ∃ P : Ch → Bool, P = hit u d t := ⟨_, rfl⟩
  have HPE : Hid (P = hit u d t) := Lib.hid hP
  rw [← hP] at hf ⊢
  obtain ⟨w3, hw3⟩ : ∃ w3, w3 = (w.alloc (.cells #[.int .i64 0, .int .i64 0, .int .i64 0, .int .i64 0] 28)).alloc (.cells #[.int .i64 0, .int .i64 0, .int .i64 0, .int .i64 0] 28) := ⟨_, rfl⟩
  obtain ⟨B, hB⟩ : ∃ B, B = w.heap.size := ⟨_, rfl⟩
  have B0 : Hid (Blk w3 B (amC .zero) 28) := Lib.hid (by rw [hw3, hB]; exact (Blk.made w (amC .zero) _).alloc _)
  have B1 : Hid (Blk w3 (B + 1) (amC .zero) 28) := Lib.hid (by
    have := Blk.made (w.alloc (.cells #[.int .i64 0, .int .i64 0, .int .i64 0, .int .i64 0] 28)) (amC .zero) 28
    rw [hw3, hB]; simpa [Am.zero] using this)
  have HSZ : Hid (w3.heap.size = B + 2 ∧ w.heap.size = B) := Lib.hid (by rw [hw3, hB]; simp)
  have HBL : Hid (Below w.heap.size w w3) := Lib.hid (by rw [hw3]; exact below_and (below_alloc w _) (below_alloc _ _))
  have H3 : Hid (Bk w3 b mg mc G C) := Lib.hid (h.kept HBL.out)
  have HML : Hid (mc < B) := Lib.hid (by rw [hB]; exact h.cm.lt)
  have HD := Lib.hid hd
  have HO := Lib.hid ho
  have HF := Lib.hid hf
  have c4 := H3.out.blk.cell (j := 1) rfl
  clear h hd ho hf hP
  go_enter Try.func28, Try.ntmps28
  go_upto_region 2 with fail
  rw [← hw3, ← hB]
  clear hw3 hB
  go_wp2_with (at_range; refine wpList_srange _ rfl _ _ rfl 9 31 Try.underlying9 Try.underlying52 mc (chM C) rfl H3.out.cm ?_; intro w4 hrg0 hb0 hs0; have HRG := Lib.hid hrg0; have HB4 := Lib.hid hb0; have HS4 := Lib.hid hs0; clear hrg0 hb0 hs0)
  go_frame
  go_loopw [9] (fun _ wr => ∃ (left : Lit → Bool) (cnt : Nat), Hid (SRange Try.prog 9 wr mc w3.heap.size (chM C) left cnt) ∧ Hid (Blk wr (B + 1) (amC (pdone P C left)) 28) ∧ Hid (Blk wr B (amC .zero) 28) ∧ Hid (Below w.heap.size w wr)) (fun _ wr => wr.rangeLeft mc w3.heap.size)
  case atStart =>
    refine ⟨_, _, HRG, Lib.hid ?_, Lib.hid (B0.out.kept HB4.out), Lib.hid (below_and HBL.out HB4.out)⟩
    rw [pdone_start (fun e he => by
      show Maps.has (chM C).dat (.string e.key) = true
      rw [SM.dat_has]
      unfold chM
      rw [kM_has, kfnd_of HD.out he]; rfl)]
    exact B1.out.kept HB4.out
  case round =>
    obtain ⟨left, cnt, HR, HA, HZ, HBx⟩ := hrel
    go_wp2_with (at_next; refine wpList_snext _ rfl _ rfl 9 Try.underlying9 mc w3.heap.size (chM C) left cnt rfl HR.out ?_ ?_)
    · intro hl0
      have HE := Lib.hid (pdone_end (p := P) (C := C) hl0)
      have a0 := HA.out.cell (j := 0) rfl
      have a1 := HA.out.cell (j := 1) rfl
      have a2 := HA.out.cell (j := 2) rfl
      have a3 := HA.out.cell (j := 3) rfl
      have r0 := HZ.out.cell (j := 0) rfl
      have r1 := HZ.out.cell (j := 1) rfl
      have r2 := HZ.out.cell (j := 2) rfl
      have r3 := HZ.out.cell (j := 3) rfl
      have f0 := HZ.out.free 0
      have f1 := HZ.out.free 1
      have f2 := HZ.out.free 2
      have f3 := HZ.out.free 3
      obtain ⟨z, hz⟩ : ∃ z, z = pdone P C left := ⟨_, rfl⟩
      rw [← hz] at a0 a1 a2 a3
      have HZE : Hid (z = psum P C) := Lib.hid (by rw [hz]; exact HE.out)
      clear hz hl0
      go_wp2
      refine bodyPost_ret (results_row_tmp rfl _ _ B 28 #[.int .i64 z.c, .int .i64 z.r, .int .i64 z.d, .int .i64 z.p] (0, 0) _ rfl ?_ Try.underlying28 rfl (by kernel_rfl)) rfl ⟨by rw [← HZE.out]; rfl, ?_⟩
      · exact (((HZ.out.set 0 (.int .i64 z.c)).set 1 (.int .i64 z.r)).set 2 (.int .i64 z.d)).set 3 (.int .i64 z.p)
      · have hBw : w.heap.size ≤ B := by have := HSZ.out; omega
        exact (((HBx.out.setCell (p := ⟨B, 0, none⟩) hBw _).setCell (p := ⟨B, 1, none⟩) hBw _).setCell (p := ⟨B, 2, none⟩) hBw _).setCell (p := ⟨B, 3, none⟩) hBw _
    · intro x c w5 cnt5 hlx hgx hrg5 hlt5 hg5 hs5 hen
      obtain ⟨e, hfe, hc⟩ : ∃ e, kfnd Ch.key C x.data.toList = some e ∧ c = chV e := by
        unfold chM at hgx
        rw [kM_get] at hgx
        cases hq : kfnd Ch.key C x.data.toList with
        | none => rw [hq] at hgx; cases hgx
        | some e => rw [hq] at hgx; exact ⟨e, rfl, (Option.some.inj hgx).symm⟩
      subst hc
      obtain ⟨hem, hek⟩ := kfnd_mem hfe
      rw [← hek] at hlx hrg5
      have HA5 := Lib.hid (HA.out.grown hg5 (by have := HSZ.out; simp; omega))
      have HZ5 := Lib.hid (HZ.out.grown hg5 (by have := HSZ.out; simp; omega))
      have HB5 : Hid (Below w.heap.size w w5) := Lib.hid (HBx.out.trans (grown_below hg5 (by have := HSZ.out; omega) HBx.out.size))
      have HR5 := Lib.hid hrg5
      have HL5 := Lib.hid hlt5
      have hb6 := below_alloc w5 (.cells #[.string e.n, .string e.u, .int .i64 e.b, .int .i64 e.a.c, .int .i64 e.a.r, .int .i64 e.a.d, .int .i64 e.a.p] 31)
      have HB6 := Lib.hid hb6
      have HME : Hid (e ∈ C ∧ left (.string e.key) = true) := Lib.hid ⟨hem, hlx⟩
      clear hgx hfe hem hek hlx hrg5 hlt5 hg5 hs5 hb6
      cases hp : P e
      · have HS := Lib.hid (pdone_skip HD.out HME.out.1 HME.out.2 hp)
        have hp2 : ¬ ((e.u.toList == u.toList) = true ∧ (e.b == d) = true ∧ (e.n.toList == t.toList) = false) := by
          rw [HPE.out] at hp
          unfold hit at hp
          rintro ⟨h1, h2, h3⟩
          rw [h1, h2, h3] at hp
          simp at hp
        clear hp
        cases hq1 : (e.u.toList == u.toList)
        · have g1 : (e.u.toList != u.toList) = true := by rw [bne, hq1]; rfl
          clear hp2
          go_wp2
          go_roundw
          case rel => exact ⟨_, cnt5, Lib.hid (HR5.out.below HB6.out), Lib.hid (by rw [HS.out]; exact HA5.out.kept HB6.out), Lib.hid (HZ5.out.kept HB6.out), Lib.hid (below_and HB5.out HB6.out)⟩
          case measure => rw [(HR5.out.below HB6.out).left, HR.out.left]; exact HL5.out
        · have g1 : (e.u.toList != u.toList) = false := by rw [bne, hq1]; rfl
          cases hq2 : (e.b == d)
          · have g2 : (e.b != d) = true := by rw [bne, hq2]; rfl
            clear hp2
            go_wp2
            go_roundw
            case rel => exact ⟨_, cnt5, Lib.hid (HR5.out.below HB6.out), Lib.hid (by rw [HS.out]; exact HA5.out.kept HB6.out), Lib.hid (HZ5.out.kept HB6.out), Lib.hid (below_and HB5.out HB6.out)⟩
            case measure => rw [(HR5.out.below HB6.out).left, HR.out.left]; exact HL5.out
          · have hbd : d = e.b := by have := hq2; simp at this; exact this.symm
            subst hbd
            have g3 : (e.n.toList == t.toList) = true := by
              cases hq3 : (e.n.toList == t.toList)
              · exact absurd ⟨hq1, by simp, hq3⟩ hp2
              · rfl
            clear hp2
            go_wp2
            go_roundw
            case rel => exact ⟨_, cnt5, Lib.hid (HR5.out.below HB6.out), Lib.hid (by rw [HS.out]; exact HA5.out.kept HB6.out), Lib.hid (HZ5.out.kept HB6.out), Lib.hid (below_and HB5.out HB6.out)⟩
            case measure => rw [(HR5.out.below HB6.out).left, HR.out.left]; exact HL5.out
      · have HS := Lib.hid (pdone_add HD.out HO.out HF.out HME.out.1 HME.out.2 hp)
        have hp2 : ((e.u.toList == u.toList) = true ∧ (e.b == d) = true) ∧ (e.n.toList == t.toList) = false := by
          rw [HPE.out] at hp
          unfold hit at hp
          rw [Bool.and_eq_true, Bool.and_eq_true, Bool.not_eq_true'] at hp
          exact hp
        obtain ⟨⟨hq1, hq2⟩, g3⟩ := hp2
        have g1 : (e.u.toList != u.toList) = false := by rw [bne, hq1]; rfl
        have hbd : d = e.b := by have := hq2; simp at this; exact this.symm
        subst hbd
        obtain ⟨z, hz⟩ : ∃ z, z = pdone P C (fun z => left z && !z.sameKey (.string e.key)) := ⟨_, rfl⟩
        rw [← hz] at HS
        obtain ⟨y, hy⟩ : ∃ y, y = pdone P C left := ⟨_, rfl⟩
        rw [← hy] at HS HA5
        have HZZ := Lib.hid hz
        have HADD : Hid (∀ w, Calls Try.prog 40 #[amV y, amV e.a] w fun e' w' => e' = .returned (.tuple #[amV z, .int .i64 0]) ∧ Below w.heap.size w w') := Lib.hid (fun w => (add_any y e.a w).mono fun e' w' ⟨h1, h2⟩ => ⟨by rw [h1, HS.out], h2⟩)
        have ha6 := HA5.out.kept HB6.out
        have a0 := ha6.cell (j := 0) rfl
        have a1 := ha6.cell (j := 1) rfl
        have a2 := ha6.cell (j := 2) rfl
        have a3 := ha6.cell (j := 3) rfl
        clear hp hz hy ha6
        go_wp2_with (go_at_call 40; refine (HADD.out _).mono ?_; rintro e' w8 ⟨rfl, hb⟩; have hb9 := below_alloc w8 (.cells #[.int .i64 z.c, .int .i64 z.r, .int .i64 z.d, .int .i64 z.p] 28); have HB8 := Lib.hid (below_and (below_and HB6.out hb) hb9); have ha8 := HA5.out.kept HB8.out; clear a0 a1 a2 a3; have HA9 := Lib.hid ha8; have a0 := ha8.cell (j := 0) rfl; have a1 := ha8.cell (j := 1) rfl; have a2 := ha8.cell (j := 2) rfl; have a3 := ha8.cell (j := 3) rfl; have f0 := ha8.free 0; have f1 := ha8.free 1; have f2 := ha8.free 2; have f3 := ha8.free 3; have HR9 := Lib.hid (HR5.out.below HB8.out); have HZ9 := Lib.hid (HZ5.out.kept HB8.out); have HB9 := Lib.hid (below_and HB5.out HB8.out); clear hb hb9 ha8)
        go_roundw
        case rel =>
          have hq : ∀ j : Nat, (⟨B + 1, j, none⟩ : Addr).block ≠ mc ∧ (⟨B + 1, j, none⟩ : Addr).block ≠ w3.heap.size := fun j => by have := HSZ.out; have := HML.out; simp; omega
          have hBw : w.heap.size ≤ B + 1 := by have := HSZ.out; omega
          exact ⟨_, cnt5, Lib.hid ((((HR9.out.set (hq 0).1 (hq 0).2 _).set (hq 1).1 (hq 1).2 _).set (hq 2).1 (hq 2).2 _).set (hq 3).1 (hq 3).2 _), Lib.hid (by rw [← HZZ.out]; exact (((HA9.out.set 0 (.int .i64 z.c)).set 1 (.int .i64 z.r)).set 2 (.int .i64 z.d)).set 3 (.int .i64 z.p)), Lib.hid ((((HZ9.out.other (a := ⟨B + 1, 0, none⟩) (by simp) _).other (a := ⟨B + 1, 1, none⟩) (by simp) _).other (a := ⟨B + 1, 2, none⟩) (by simp) _).other (a := ⟨B + 1, 3, none⟩) (by simp) _), Lib.hid ((((HB9.out.setCell (p := ⟨B + 1, 0, none⟩) hBw _).setCell (p := ⟨B + 1, 1, none⟩) hBw _).setCell (p := ⟨B + 1, 2, none⟩) hBw _).setCell (p := ⟨B + 1, 3, none⟩) hBw _)⟩
        case measure =>
          have hq : ∀ j : Nat, (⟨B + 1, j, none⟩ : Addr).block ≠ mc ∧ (⟨B + 1, j, none⟩ : Addr).block ≠ w3.heap.size := fun j => by have := HSZ.out; have := HML.out; simp; omega
          rw [((((HR9.out.set (hq 0).1 (hq 0).2 (.int .i64 z.c)).set (hq 1).1 (hq 1).2 (.int .i64 z.r)).set (hq 2).1 (hq 2).2 (.int .i64 z.d)).set (hq 3).1 (hq 3).2 (.int .i64 z.p)).left, HR.out.left]
          exact HL5.out
end Go.Proofs.Ytmgbailpmcggiaa
