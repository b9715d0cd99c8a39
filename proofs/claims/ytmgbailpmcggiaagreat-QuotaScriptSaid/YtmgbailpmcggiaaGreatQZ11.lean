/- Texts of one proof, laid together: QBook, QUsed, QCalls, QMay. No condition of ours. -/
import Derived.Test.YtmgbailpmcggiaaGreatQZ10
import Derived.Outline
namespace Go.Proofs.YtmgbailpmcggiaaGreat
open Go.RowKit

/-- block b is a book that was made, its grants in block mg, its charges in block mc -/
structure Bk (w : World) (b mg mc : Nat) (G : List Gr) (C : List Ch) : Prop where
  blk : Blk w b [.map (some mg), .map (some mc)] 47
  gm : SMap Tryz.prog 60 w mg (grM G)
  cm : SMap Tryz.prog 9 w mc (chM C)
  n1 : mg ≠ b
  n2 : mc ≠ b
  n3 : mg ≠ mc
theorem Bk.kept {w w' : World} {b mg mc : Nat} {G : List Gr} {C : List Ch} (h : Bk w b mg mc G C) (hb : Below w.heap.size w w') : Bk w' b mg mc G C := ⟨h.blk.kept hb, h.gm.kept hb, h.cm.kept hb, h.n1, h.n2, h.n3⟩

theorem zero_run {P : Program} {t : TypeId} {z : Value} (h : (P.info? t).bind (·.zero) = some z) (w : World) : (zeroValue t).run P w = .ok z w := by
  cases hi : P.info? t with
  | none => rw [hi] at h; cases h
  | some i =>
    rw [hi] at h
    have hz : i.zero = some z := h
    simp [zeroValue, typeInfo, hi, hz, Result.andThen]
abbrev zC : Ch := ⟨⟨#[]⟩, ⟨#[]⟩, 0, ⟨0, 0, 0, 0⟩⟩
theorem czero (w : World) : (zeroValue 43).run Tryz.prog w = .ok (chV zC) w := zero_run (by kernel_rfl) w
theorem azero (w : World) : (zeroValue 34).run Tryz.prog w = .ok (amV .zero) w := zero_run (by kernel_rfl) w

/-! New -/
set_option maxRecDepth 100000 in
set_option maxHeartbeats 1000000 in
theorem bnew_ok (w : World) :
    Calls Tryz.prog 5 #[] w fun e w' => ∃ b mg mc, e = .returned (ptr b) ∧ w.heap.size ≤ b ∧ w.heap.size ≤ mg ∧ w.heap.size ≤ mc ∧ Bk w' b mg mc [] [] ∧ Below w.heap.size w w' := by
  have hmm := @run_makeMap Tryz.prog
  go_enter Tryz.func5, Tryz.ntmps5
  go_wp2
  go_ret
  refine ⟨w.heap.size + 1 + 1, w.heap.size, w.heap.size + 1, rfl, by omega, by omega, by omega, ⟨?_, ?_, ?_, by omega, by omega, by omega⟩, below_and (below_and (below_alloc w _) (below_alloc _ _)) (below_alloc _ _)⟩
  · simpa using Blk.made ((w.alloc (.map #[] 0)).alloc (.map #[] 0)) [.map (some w.heap.size), .map (some (w.heap.size + 1))] 47
  · exact ((smap_made w _ _).kept (below_alloc _ _)).kept (below_alloc _ _)
  · have := (smap_made (w.alloc (.map #[] 0)) Tryz.prog 9).kept (below_alloc _ (.cells #[.map (some w.heap.size), .map (some (w.heap.size + 1))] 47))
    show SMap Tryz.prog 9 _ (w.heap.size + 1) []
    simpa using this

/-! asked, named -/
def askE (u : ByteArray) (b : Int) : Int := if askB u b then 0 else 2
def nmdE (n : ByteArray) : Int := if nmdB n then 0 else 2
set_option maxRecDepth 100000 in
set_option maxHeartbeats 1000000 in
theorem asked_made (b mg mc : Nat) (G : List Gr) (C : List Ch) (u : ByteArray) (d : Int) (w : World) (h : Bk w b mg mc G C) (hd1 : -9223372036854775808 ≤ d) (hd2 : d ≤ 9223372036854775807) :
    Calls Tryz.prog 30 #[ptr b, .string u, .int .i64 d] w fun e w' => e = .returned (.int .i64 (askE u d)) ∧ Below w.heap.size w w' := by
  have c1 := h.blk.cell (j := 1) rfl
  clear h
  have he := fun w r => run_eql_map_nil (P := Tryz.prog) w 45 9 43 r Tryz.underlying45
  cases hn : nameB 16 u.data.toList
  · have HR : Hid (askE u d = 2) := Lib.hid (by unfold askE askB; rw [hn]; rfl)
    have HN := Lib.hid hn
    clear hn
    go_enter Tryz.func30, Tryz.ntmps30
    go_wp2_with (go_at_call 53; refine (sname_any u _).mono ?_; rw [HN.out]; rintro e w1 ⟨rfl, hb⟩; have HB1 := Lib.hid hb; clear hb)
    go_ret
    exact ⟨ret_int HR.out.symm, HB1.out⟩
  · have hbe := bandS_empty d
    have HN := Lib.hid hn
    obtain ⟨sb, hsb⟩ : ∃ sb, sb = bandS d := ⟨_, rfl⟩
    have HSB : Hid (∀ w, Calls Tryz.prog 54 #[.int .i64 d] w fun e w' => e = .returned (.string sb) ∧ Below w.heap.size w w') := Lib.hid (fun w => by rw [hsb]; exact sbands_any d w hd1 hd2)
    rw [← hsb] at hbe
    clear hsb
    cases hq : bandB d
    · have HR : Hid (askE u d = 2) := Lib.hid (by unfold askE askB; rw [hn, hq]; rfl)
      rw [hq] at hbe
      have h2 : sb.toList = [] := by simpa using hbe
      have h3 : sb.toList.isEmpty = true := by simpa using hbe
      clear hn hq hbe
      go_enter Tryz.func30, Tryz.ntmps30
      go_wp2_with (first | (go_at_call 53; refine (sname_any u _).mono ?_; rw [HN.out]; rintro e w1 ⟨rfl, hb⟩; have HB1 := Lib.hid hb; clear hb) | (go_at_call 54; refine (HSB.out _).mono ?_; rintro e w2 ⟨rfl, hb⟩; have HB2 := Lib.hid (below_and HB1.out hb); clear hb))
      go_ret
      exact ⟨ret_int HR.out.symm, HB2.out⟩
    · have HR : Hid (askE u d = 0) := Lib.hid (by unfold askE askB; rw [hn, hq]; rfl)
      rw [hq] at hbe
      have h3 : sb.toList.isEmpty = false := by simpa using hbe
      have h2 : ¬ sb.toList = [] := by simpa using h3
      clear hn hq hbe
      go_enter Tryz.func30, Tryz.ntmps30
      go_wp2_with (first | (go_at_call 53; refine (sname_any u _).mono ?_; rw [HN.out]; rintro e w1 ⟨rfl, hb⟩; have HB1 := Lib.hid hb; clear hb) | (go_at_call 54; refine (HSB.out _).mono ?_; rintro e w2 ⟨rfl, hb⟩; have HB2 := Lib.hid (below_and HB1.out hb); clear hb))
      go_ret
      exact ⟨ret_int HR.out.symm, HB2.out⟩
set_option maxRecDepth 100000 in
set_option maxHeartbeats 1000000 in
theorem named_made (b mg mc : Nat) (G : List Gr) (C : List Ch) (n : ByteArray) (w : World) (h : Bk w b mg mc G C) :
    Calls Tryz.prog 32 #[ptr b, .string n] w fun e w' => e = .returned (.int .i64 (nmdE n)) ∧ w = w' := by
  have c1 := h.blk.cell (j := 1) rfl
  clear h
  have he := fun w r => run_eql_map_nil (P := Tryz.prog) w 45 9 43 r Tryz.underlying45
  by_cases h1 : n.size < 1
  · have HR : Hid (nmdE n = 2) := Lib.hid (by unfold nmdE nmdB; rw [decide_eq_false (by omega)]; rfl)
    have d1 : decide ((n.size : Int) < 1) = true := by simp; omega
    go_enter Tryz.func32, Tryz.ntmps32
    go_wp2
    go_ret
    exact ⟨ret_int HR.out.symm, rfl⟩
  · have d1 : decide ((n.size : Int) < 1) = false := by simp; omega
    by_cases h2 : 64 < n.size
    · have HR : Hid (nmdE n = 2) := Lib.hid (by unfold nmdE nmdB; rw [decide_eq_false (by omega)]; rfl)
      have d2 : decide ((64 : Int) < (n.size : Int)) = true := by simp; omega
      go_enter Tryz.func32, Tryz.ntmps32
      go_wp2
      go_ret
      exact ⟨ret_int HR.out.symm, rfl⟩
    · have HR : Hid (nmdE n = 0) := Lib.hid (by unfold nmdE nmdB; rw [decide_eq_true (by omega)]; rfl)
      have d2 : decide ((64 : Int) < (n.size : Int)) = false := by simp; omega
      go_enter Tryz.func32, Tryz.ntmps32
      go_wp2
      go_ret
      exact ⟨ret_int HR.out.symm, rfl⟩
end Go.Proofs.YtmgbailpmcggiaaGreat
namespace Go.Proofs.YtmgbailpmcggiaaGreat
open Go.RowKit

theorem chM_get_some {C : List Ch} {s : List UInt8} {e : Ch} (h : kfnd Ch.key C s = some e) : (chM C).get s = some (chV e) ∧ (chM C).hasK s = true := by unfold chM; rw [kM_get, kM_has, h]; exact ⟨rfl, rfl⟩
theorem chM_get_none {C : List Ch} {s : List UInt8} (h : kfnd Ch.key C s = none) : (chM C).get s = none ∧ (chM C).hasK s = false := by unfold chM; rw [kM_get, kM_has, h]; exact ⟨rfl, rfl⟩

set_option maxRecDepth 100000 in
set_option maxHeartbeats 2000000 in
theorem bused_any (b mg mc : Nat) (G : List Gr) (C : List Ch) (u t : ByteArray) (d : Int) (w : World) (h : Bk w b mg mc G C) (hd : KApart Ch.key C) (ho : Oks C) (hf : Fit (hit u d t) C) :
    Calls Tryz.prog 41 #[ptr b, .string u, .int .i64 d, .string t] w fun e w' => e = .returned (.tuple #[amV (psum (hit u d t) C), .bool true]) ∧ Below w.heap.size w w' := by
  obtain ⟨P, hP⟩ : ∃ P : Ch → Bool, P = hit u d t := ⟨_, rfl⟩
  have HPE : Hid (P = hit u d t) := Lib.hid hP
  rw [← hP] at hf ⊢
  obtain ⟨w3, hw3⟩ : ∃ w3, w3 = (w.alloc (.cells #[.int .i64 0, .int .i64 0, .int .i64 0, .int .i64 0] 34)).alloc (.cells #[.int .i64 0, .int .i64 0, .int .i64 0, .int .i64 0] 34) := ⟨_, rfl⟩
  obtain ⟨B, hB⟩ : ∃ B, B = w.heap.size := ⟨_, rfl⟩
  have B0 : Hid (Blk w3 B (amC .zero) 34) := Lib.hid (by rw [hw3, hB]; exact (Blk.made w (amC .zero) _).alloc _)
  have B1 : Hid (Blk w3 (B + 1) (amC .zero) 34) := Lib.hid (by
    have := Blk.made (w.alloc (.cells #[.int .i64 0, .int .i64 0, .int .i64 0, .int .i64 0] 34)) (amC .zero) 34
    rw [hw3, hB]; simpa [Am.zero] using this)
  have HSZ : Hid (w3.heap.size = B + 2 ∧ w.heap.size = B) := Lib.hid (by rw [hw3, hB]; simp)
  have HBL : Hid (Below w.heap.size w w3) := Lib.hid (by rw [hw3]; exact below_and (below_alloc w _) (below_alloc _ _))
  have H3 : Hid (Bk w3 b mg mc G C) := Lib.hid (h.kept HBL.out)
  have HML : Hid (mc < B) := Lib.hid (by rw [hB]; exact h.cm.lt)
  have HD := Lib.hid hd
  have HO := Lib.hid ho
  have HF := Lib.hid hf
  have c4 := H3.out.blk.cell (j := 1) rfl
  clear h hd ho hf hP
  go_enter Tryz.func41, Tryz.ntmps41
  go_upto_region 2 with fail
  rw [← hw3, ← hB]
  clear hw3 hB
  go_wp2_with (at_range; refine wpList_srange _ rfl _ _ rfl 9 43 Tryz.underlying9 Tryz.underlying45 mc (chM C) rfl H3.out.cm ?_; intro w4 hrg0 hb0 hs0; have HRG := Lib.hid hrg0; have HB4 := Lib.hid hb0; have HS4 := Lib.hid hs0; clear hrg0 hb0 hs0)
  go_frame
  go_loopw [9] (fun _ wr => ∃ (left : Lit → Bool) (cnt : Nat), Hid (SRange Tryz.prog 9 wr mc w3.heap.size (chM C) left cnt) ∧ Hid (Blk wr (B + 1) (amC (pdone P C left)) 34) ∧ Hid (Blk wr B (amC .zero) 34) ∧ Hid (Below w.heap.size w wr)) (fun _ wr => wr.rangeLeft mc w3.heap.size)
  case atStart =>
    refine ⟨_, _, HRG, Lib.hid ?_, Lib.hid (B0.out.kept HB4.out), Lib.hid (below_and HBL.out HB4.out)⟩
    rw [pdone_start (fun e he => by
      show Maps.has (chM C).dat (.string e.key) = true
      rw [SM.dat_has]
      unfold chM
      rw [kM_has, kfnd_of HD.out he]; rfl)]
    exact B1.out.kept HB4.out
  case round =>
    obtain ⟨left, cnt, HR, HA, HZ, HBx⟩ := hrel
    go_wp2_with (at_next; refine wpList_snext _ rfl _ rfl 9 Tryz.underlying9 mc w3.heap.size (chM C) left cnt rfl HR.out ?_ ?_)
    · intro hl0
      have HE := Lib.hid (pdone_end (p := P) (C := C) hl0)
      have a0 := HA.out.cell (j := 0) rfl
      have a1 := HA.out.cell (j := 1) rfl
      have a2 := HA.out.cell (j := 2) rfl
      have a3 := HA.out.cell (j := 3) rfl
      have r0 := HZ.out.cell (j := 0) rfl
      have r1 := HZ.out.cell (j := 1) rfl
      have r2 := HZ.out.cell (j := 2) rfl
      have r3 := HZ.out.cell (j := 3) rfl
      have f0 := HZ.out.free 0
      have f1 := HZ.out.free 1
      have f2 := HZ.out.free 2
      have f3 := HZ.out.free 3
      obtain ⟨z, hz⟩ : ∃ z, z = pdone P C left := ⟨_, rfl⟩
      rw [← hz] at a0 a1 a2 a3
      have HZE : Hid (z = psum P C) := Lib.hid (by rw [hz]; exact HE.out)
      clear hz hl0
      go_wp2
      refine bodyPost_ret (results_row_tmp rfl _ _ B 34 #[.int .i64 z.c, .int .i64 z.r, .int .i64 z.d, .int .i64 z.p] (0, 0) _ rfl ?_ Tryz.underlying34 rfl (by kernel_rfl)) rfl ⟨by rw [← HZE.out]; rfl, ?_⟩
      · exact (((HZ.out.set 0 (.int .i64 z.c)).set 1 (.int .i64 z.r)).set 2 (.int .i64 z.d)).set 3 (.int .i64 z.p)
      · have hBw : w.heap.size ≤ B := by have := HSZ.out; omega
        exact (((HBx.out.setCell (p := ⟨B, 0, none⟩) hBw _).setCell (p := ⟨B, 1, none⟩) hBw _).setCell (p := ⟨B, 2, none⟩) hBw _).setCell (p := ⟨B, 3, none⟩) hBw _
    · intro x c w5 cnt5 hlx hgx hrg5 hlt5 hg5 hs5 hen
      obtain ⟨e, hfe, hc⟩ : ∃ e, kfnd Ch.key C x.data.toList = some e ∧ c = chV e := by
        unfold chM at hgx
        rw [kM_get] at hgx
        cases hq : kfnd Ch.key C x.data.toList with
        | none => rw [hq] at hgx; cases hgx
        | some e => rw [hq] at hgx; exact ⟨e, rfl, (Option.some.inj hgx).symm⟩
      subst hc
      obtain ⟨hem, hek⟩ := kfnd_mem hfe
      rw [← hek] at hlx hrg5
      have HA5 := Lib.hid (HA.out.grown hg5 (by have := HSZ.out; simp; omega))
      have HZ5 := Lib.hid (HZ.out.grown hg5 (by have := HSZ.out; simp; omega))
      have HB5 : Hid (Below w.heap.size w w5) := Lib.hid (HBx.out.trans (grown_below hg5 (by have := HSZ.out; omega) HBx.out.size))
      have HR5 := Lib.hid hrg5
      have HL5 := Lib.hid hlt5
      have hb6 := below_alloc w5 (.cells #[.string e.n, .string e.u, .int .i64 e.b, .int .i64 e.a.c, .int .i64 e.a.r, .int .i64 e.a.d, .int .i64 e.a.p] 43)
      have HB6 := Lib.hid hb6
      have HME : Hid (e ∈ C ∧ left (.string e.key) = true) := Lib.hid ⟨hem, hlx⟩
      clear hgx hfe hem hek hlx hrg5 hlt5 hg5 hs5 hb6
      cases hp : P e
      · have HS := Lib.hid (pdone_skip HD.out HME.out.1 HME.out.2 hp)
        have hp2 : ¬ ((e.u.toList == u.toList) = true ∧ (e.b == d) = true ∧ (e.n.toList == t.toList) = false) := by
          rw [HPE.out] at hp
          unfold hit at hp
          rintro ⟨h1, h2, h3⟩
          rw [h1, h2, h3] at hp
          simp at hp
        clear hp
        cases hq1 : (e.u.toList == u.toList)
        · have g1 : (e.u.toList != u.toList) = true := by rw [bne, hq1]; rfl
          clear hp2
          go_wp2
          go_roundw
          case rel => exact ⟨_, cnt5, Lib.hid (HR5.out.below HB6.out), Lib.hid (by rw [HS.out]; exact HA5.out.kept HB6.out), Lib.hid (HZ5.out.kept HB6.out), Lib.hid (below_and HB5.out HB6.out)⟩
          case measure => rw [(HR5.out.below HB6.out).left, HR.out.left]; exact HL5.out
        · have g1 : (e.u.toList != u.toList) = false := by rw [bne, hq1]; rfl
          cases hq2 : (e.b == d)
          · have g2 : (e.b != d) = true := by rw [bne, hq2]; rfl
            clear hp2
            go_wp2
            go_roundw
            case rel => exact ⟨_, cnt5, Lib.hid (HR5.out.below HB6.out), Lib.hid (by rw [HS.out]; exact HA5.out.kept HB6.out), Lib.hid (HZ5.out.kept HB6.out), Lib.hid (below_and HB5.out HB6.out)⟩
            case measure => rw [(HR5.out.below HB6.out).left, HR.out.left]; exact HL5.out
          · have hbd : d = e.b := by have := hq2; simp at this; exact this.symm
            subst hbd
            have g3 : (e.n.toList == t.toList) = true := by
              cases hq3 : (e.n.toList == t.toList)
              · exact absurd ⟨hq1, by simp, hq3⟩ hp2
              · rfl
            clear hp2
            go_wp2
            go_roundw
            case rel => exact ⟨_, cnt5, Lib.hid (HR5.out.below HB6.out), Lib.hid (by rw [HS.out]; exact HA5.out.kept HB6.out), Lib.hid (HZ5.out.kept HB6.out), Lib.hid (below_and HB5.out HB6.out)⟩
            case measure => rw [(HR5.out.below HB6.out).left, HR.out.left]; exact HL5.out
      · have HS := Lib.hid (pdone_add HD.out HO.out HF.out HME.out.1 HME.out.2 hp)
        have hp2 : ((e.u.toList == u.toList) = true ∧ (e.b == d) = true) ∧ (e.n.toList == t.toList) = false := by
          rw [HPE.out] at hp
          unfold hit at hp
          rw [Bool.and_eq_true, Bool.and_eq_true, Bool.not_eq_true'] at hp
          exact hp
        obtain ⟨⟨hq1, hq2⟩, g3⟩ := hp2
        have g1 : (e.u.toList != u.toList) = false := by rw [bne, hq1]; rfl
        have hbd : d = e.b := by have := hq2; simp at this; exact this.symm
        subst hbd
        obtain ⟨z, hz⟩ : ∃ z, z = pdone P C (fun z => left z && !z.sameKey (.string e.key)) := ⟨_, rfl⟩
        rw [← hz] at HS
        obtain ⟨y, hy⟩ : ∃ y, y = pdone P C left := ⟨_, rfl⟩
        rw [← hy] at HS HA5
        have HZZ := Lib.hid hz
        have HADD : Hid (∀ w, Calls Tryz.prog 56 #[amV y, amV e.a] w fun e' w' => e' = .returned (.tuple #[amV z, .int .i64 0]) ∧ Below w.heap.size w w') := Lib.hid (fun w => (add_any y e.a w).mono fun e' w' ⟨h1, h2⟩ => ⟨by rw [h1, HS.out], h2⟩)
        have ha6 := HA5.out.kept HB6.out
        have a0 := ha6.cell (j := 0) rfl
        have a1 := ha6.cell (j := 1) rfl
        have a2 := ha6.cell (j := 2) rfl
        have a3 := ha6.cell (j := 3) rfl
        clear hp hz hy ha6
        go_wp2_with (go_at_call 56; refine (HADD.out _).mono ?_; rintro e' w8 ⟨rfl, hb⟩; have hb9 := below_alloc w8 (.cells #[.int .i64 z.c, .int .i64 z.r, .int .i64 z.d, .int .i64 z.p] 34); have HB8 := Lib.hid (below_and (below_and HB6.out hb) hb9); have ha8 := HA5.out.kept HB8.out; clear a0 a1 a2 a3; have HA9 := Lib.hid ha8; have a0 := ha8.cell (j := 0) rfl; have a1 := ha8.cell (j := 1) rfl; have a2 := ha8.cell (j := 2) rfl; have a3 := ha8.cell (j := 3) rfl; have f0 := ha8.free 0; have f1 := ha8.free 1; have f2 := ha8.free 2; have f3 := ha8.free 3; have HR9 := Lib.hid (HR5.out.below HB8.out); have HZ9 := Lib.hid (HZ5.out.kept HB8.out); have HB9 := Lib.hid (below_and HB5.out HB8.out); clear hb hb9 ha8)
        go_roundw
        case rel =>
          have hq : ∀ j : Nat, (⟨B + 1, j, none⟩ : Addr).block ≠ mc ∧ (⟨B + 1, j, none⟩ : Addr).block ≠ w3.heap.size := fun j => by have := HSZ.out; have := HML.out; simp; omega
          have hBw : w.heap.size ≤ B + 1 := by have := HSZ.out; omega
          exact ⟨_, cnt5, Lib.hid ((((HR9.out.set (hq 0).1 (hq 0).2 _).set (hq 1).1 (hq 1).2 _).set (hq 2).1 (hq 2).2 _).set (hq 3).1 (hq 3).2 _), Lib.hid (by rw [← HZZ.out]; exact (((HA9.out.set 0 (.int .i64 z.c)).set 1 (.int .i64 z.r)).set 2 (.int .i64 z.d)).set 3 (.int .i64 z.p)), Lib.hid ((((HZ9.out.other (a := ⟨B + 1, 0, none⟩) (by simp) _).other (a := ⟨B + 1, 1, none⟩) (by simp) _).other (a := ⟨B + 1, 2, none⟩) (by simp) _).other (a := ⟨B + 1, 3, none⟩) (by simp) _), Lib.hid ((((HB9.out.setCell (p := ⟨B + 1, 0, none⟩) hBw _).setCell (p := ⟨B + 1, 1, none⟩) hBw _).setCell (p := ⟨B + 1, 2, none⟩) hBw _).setCell (p := ⟨B + 1, 3, none⟩) hBw _)⟩
        case measure =>
          have hq : ∀ j : Nat, (⟨B + 1, j, none⟩ : Addr).block ≠ mc ∧ (⟨B + 1, j, none⟩ : Addr).block ≠ w3.heap.size := fun j => by have := HSZ.out; have := HML.out; simp; omega
          rw [((((HR9.out.set (hq 0).1 (hq 0).2 (.int .i64 z.c)).set (hq 1).1 (hq 1).2 (.int .i64 z.r)).set (hq 2).1 (hq 2).2 (.int .i64 z.d)).set (hq 3).1 (hq 3).2 (.int .i64 z.p)).left, HR.out.left]
          exact HL5.out
end Go.Proofs.YtmgbailpmcggiaaGreat
namespace Go.Proofs.YtmgbailpmcggiaaGreat
open Go.RowKit

/-- what a book's charges keep to -/
structure ChI (C : List Ch) : Prop where
  rise : KRise Ch.key C
  ok : Oks C
  fit : ∀ u d, Fit (onB u d) C
theorem ChI.hit {C : List Ch} (h : ChI C) (u : ByteArray) (d : Int) (t : ByteArray) : Fit (hit u d t) C := (h.fit u d).le h.ok (fun _ h => hit_on h)

theorem bk_g {w w' : World} {b mg mc : Nat} {G G' : List Gr} {C : List Ch} (h : Bk w b mg mc G C) (hp : SMap Tryz.prog 60 w' mg (grM G')) (hg : w.grownBy w' (some mg)) : Bk w' b mg mc G' C :=
  ⟨h.blk.grown hg (by have := h.n1; simp; omega), hp, h.cm.grown hg (by have := h.n3; simp; omega), h.n1, h.n2, h.n3⟩
theorem bk_c {w w' : World} {b mg mc : Nat} {G : List Gr} {C C' : List Ch} (h : Bk w b mg mc G C) (hp : SMap Tryz.prog 9 w' mc (chM C')) (hg : w.grownBy w' (some mc)) : Bk w' b mg mc G C' :=
  ⟨h.blk.grown hg (by have := h.n2; simp; omega), h.gm.grown hg (by have := h.n3; simp; omega), hp, h.n1, h.n2, h.n3⟩
theorem bk_stay {w w' : World} {b mg mc : Nat} {G : List Gr} {C : List Ch} (h : Bk w b mg mc G C) (hb : Below w.heap.size w w') : Bk w' b mg mc G C ∧ Fr [mg, mc] w w' := ⟨h.kept hb, Fr.of_below hb _⟩

set_option maxRecDepth 100000 in
set_option maxHeartbeats 1000000 in
theorem bgrant_bad (b mg mc : Nat) (G : List Gr) (C : List Ch) (u : ByteArray) (d : Int) (a : Am) (w : World) (h : Bk w b mg mc G C) (hd1 : -9223372036854775808 ≤ d) (hd2 : d ≤ 9223372036854775807) (hq : (askB u d && a.okB) = false) :
    Calls Tryz.prog 9 #[ptr b, .string u, .int .i64 d, amV a] w fun e w' => e = .returned (.int .i64 2) ∧ Below w.heap.size w w' := by
  obtain ⟨w3, hw3⟩ : ∃ w3, w3 = w.alloc (.cells #[.int .i64 a.c, .int .i64 a.r, .int .i64 a.d, .int .i64 a.p] 34) := ⟨_, rfl⟩
  obtain ⟨B, hB⟩ : ∃ B, B = w.heap.size := ⟨_, rfl⟩
  have B0 : Hid (Blk w3 B (amC a) 34) := Lib.hid (by rw [hw3, hB]; exact Blk.made w (amC a) _)
  have HBL : Hid (Below w.heap.size w w3) := Lib.hid (by rw [hw3]; exact below_alloc w _)
  have H3 := Lib.hid (h.kept HBL.out)
  cases hk : askB u d
  · have HK : Hid (askE u d = 2) := Lib.hid (by unfold askE; rw [hk]; rfl)
    clear h hq hk
    go_enter Tryz.func9, Tryz.ntmps9
    go_upto_region 1 with fail
    rw [← hw3, ← hB]
    clear hw3 hB
    go_wp2_with (go_at_call 30; refine (asked_made b mg mc G C u d _ H3.out hd1 hd2).mono ?_; rw [HK.out]; rintro e w4 ⟨rfl, hb⟩; have HB4 := Lib.hid (below_and HBL.out hb); clear hb)
    go_ret
    exact ⟨rfl, HB4.out⟩
  · have HK : Hid (askE u d = 0) := Lib.hid (by unfold askE; rw [hk]; rfl)
    have HA : Hid (a.chk = 2) := Lib.hid (Am.chk_no (by rw [hk] at hq; simpa using hq))
    clear h hq hk
    go_enter Tryz.func9, Tryz.ntmps9
    go_upto_region 1 with fail
    rw [← hw3, ← hB]
    clear hw3 hB
    go_wp2_with (first
      | (go_at_call 30; refine (asked_made b mg mc G C u d _ H3.out hd1 hd2).mono ?_; rw [HK.out]; rintro e w4 ⟨rfl, hb⟩; have HB4 := Lib.hid (below_and HBL.out hb); have hb0 := B0.out.kept hb; have c0 := hb0.cell (j := 0) rfl; have c1 := hb0.cell (j := 1) rfl; have c2 := hb0.cell (j := 2) rfl; have c3 := hb0.cell (j := 3) rfl; clear hb hb0)
      | (go_at_call 31; refine (check_any a _).mono ?_; rw [HA.out]; rintro e w5 ⟨rfl, hb⟩; have HB5 := Lib.hid (below_and HB4.out hb); clear hb))
    go_ret
    exact ⟨rfl, HB5.out⟩

theorem askB_name {u : ByteArray} {d : Int} (h : askB u d = true) : u.size ≤ 16 ∧ 0 ≤ d ∧ d ≤ 3 := by
  unfold askB bandB nameB at h
  simp only [Bool.and_eq_true, decide_eq_true_eq] at h
  have h2 : u.data.toList.length = u.size := by simp
  omega
theorem band_wf {d : Int} (h : 0 ≤ d ∧ d ≤ 3) : (Lit.int .i64 d).wf = true := by
  have h2 : d = 0 ∨ d = 1 ∨ d = 2 ∨ d = 3 := by omega
  rcases h2 with rfl | rfl | rfl | rfl <;> rfl

set_option maxRecDepth 100000 in
set_option maxHeartbeats 1000000 in
theorem bgrant_ok (b mg mc : Nat) (G : List Gr) (C : List Ch) (u : ByteArray) (d : Int) (a : Am) (w : World) (h : Bk w b mg mc G C) (hk : askB u d = true) (ha : a.okB = true) (hl : G.length < maxLen) :
    Calls Tryz.prog 9 #[ptr b, .string u, .int .i64 d, amV a] w fun e w' => e = .returned (.int .i64 0) ∧ Bk w' b mg mc (kput Gr.key G ⟨u, d, a⟩) C ∧ Fr [mg, mc] w w' := by
  obtain ⟨w3, hw3⟩ : ∃ w3, w3 = w.alloc (.cells #[.int .i64 a.c, .int .i64 a.r, .int .i64 a.d, .int .i64 a.p] 34) := ⟨_, rfl⟩
  obtain ⟨B, hB⟩ : ∃ B, B = w.heap.size := ⟨_, rfl⟩
  have B0 : Hid (Blk w3 B (amC a) 34) := Lib.hid (by rw [hw3, hB]; exact Blk.made w (amC a) _)
  have HBL : Hid (Below w.heap.size w w3) := Lib.hid (by rw [hw3]; exact below_alloc w _)
  have H3 := Lib.hid (h.kept HBL.out)
  have hn := askB_name hk
  have HKO : Hid (keyOf Tryz.prog 60 (kV u d) = some (.string (kT u d))) := Lib.hid (keyOf_k (by unfold maxLen; omega) (band_wf hn.2))
  have HK : Hid (askE u d = 0) := Lib.hid (by unfold askE; rw [hk]; rfl)
  have HA : Hid (a.chk = 0) := Lib.hid (Am.chk_yes ha)
  have HL : Hid ((grM G).length < maxLen) := Lib.hid (by unfold grM; rw [kM_len]; exact hl)
  have HPT : Hid ((grM G).put (kT u d) (amV a) = grM (kput Gr.key G ⟨u, d, a⟩)) := Lib.hid (kM_put (key := Gr.key) (val := fun g => amV g.a) G ⟨u, d, a⟩)
  have hd1 : -9223372036854775808 ≤ d := by omega
  have hd2 : d ≤ 9223372036854775807 := by omega
  clear h hk ha hl hn
  go_enter Tryz.func9, Tryz.ntmps9
  go_upto_region 1 with fail
  rw [← hw3, ← hB]
  clear hw3 hB
  go_upto_region 7 with (first
    | (go_at_call 30; refine (asked_made b mg mc G C u d _ H3.out hd1 hd2).mono ?_; rw [HK.out]; rintro e w4 ⟨rfl, hb⟩; have HB4 := Lib.hid (below_and HBL.out hb); have H4 := Lib.hid (H3.out.kept hb); have hb0 := B0.out.kept hb; have C0 := Lib.hid hb0; have c0 := hb0.cell (j := 0) rfl; have c1 := hb0.cell (j := 1) rfl; have c2 := hb0.cell (j := 2) rfl; have c3 := hb0.cell (j := 3) rfl; clear hb hb0)
    | (go_at_call 31; refine (check_any a _).mono ?_; rw [HA.out]; rintro e w5 ⟨rfl, hb⟩; have HB5 := Lib.hid (below_and HB4.out hb); have H5 := Lib.hid (H4.out.kept hb); have hb0 := C0.out.kept hb; clear c0 c1 c2 c3; have C5 := Lib.hid hb0; clear hb hb0))
  have c0 := Past.blk C5.out (j := 0) rfl
  have c1 := Past.blk C5.out (j := 1) rfl
  have c2 := Past.blk C5.out (j := 2) rfl
  have c3 := Past.blk C5.out (j := 3) rfl
  have g0 := Past.blk H5.out.blk (j := 0) rfl
  refine wp_region_past_one rfl (by kernel_rfl) (by kernel_rfl) (by kernel_rfl) ?_
  repeat (go_big_quiet_step (fail))
  refine wpQuiet_nil ?_
  intro _ hw'
  obtain ⟨s9, hw''⟩ := hw'
  subst hw''
  obtain ⟨w9, h9, e9⟩ : ∃ w9, Below w5.heap.size w5 w9 ∧ w9 = s9.val := ⟨_, s9.h, rfl⟩
  rw [← e9]
  have HB9 := Lib.hid (below_and HB5.out h9)
  have H9 := Lib.hid (H5.out.kept h9)
  clear h9 e9 c0 c1 c2 c3 g0
  go_wp2_with (refine wpList_tput _ rfl _ _ _ _ rfl 60 34 gkeyed Tryz.underlying44 mg (grM G) rfl H9.out.gm HL.out (kV u d) (amV a) (kT u d) rfl rfl HKO.out ?_; intro v8 hp8 hg8; rw [HPT.out] at hp8; have HP8 := Lib.hid hp8; have HG8 := Lib.hid hg8; clear hp8 hg8)
  go_ret
  exact ⟨rfl, bk_g H9.out HP8.out HG8.out, (Fr.of_below HB9.out [mg, mc]).then ((Fr.of_grown HG8.out).mono (by simp))⟩
theorem bgrant_any (b mg mc : Nat) (G : List Gr) (C : List Ch) (u : ByteArray) (d : Int) (a : Am) (w : World) (h : Bk w b mg mc G C) (hd1 : -9223372036854775808 ≤ d) (hd2 : d ≤ 9223372036854775807) (hl : G.length < maxLen) :
    Calls Tryz.prog 9 #[ptr b, .string u, .int .i64 d, amV a] w fun e w' => e = .returned (.int .i64 (grantP G u d a).1) ∧ Bk w' b mg mc (grantP G u d a).2 C ∧ Fr [mg, mc] w w' := by
  cases hq : (askB u d && a.okB)
  · refine (bgrant_bad b mg mc G C u d a w h hd1 hd2 hq).mono fun e w' ⟨h1, h2⟩ => ?_
    unfold grantP
    rw [hq]
    exact ⟨h1, bk_stay h h2⟩
  · have h1 := hq
    rw [Bool.and_eq_true] at h1
    refine (bgrant_ok b mg mc G C u d a w h h1.1 h1.2 hl).mono fun e w' h2 => ?_
    unfold grantP
    rw [hq]
    exact h2
end Go.Proofs.YtmgbailpmcggiaaGreat
namespace Go.Proofs.YtmgbailpmcggiaaGreat
open Go.RowKit

theorem grant_look {w : World} {mg : Nat} {G : List Gr} {u : ByteArray} {d : Int} (h : SMap Tryz.prog 60 w mg (grM G)) (hk : keyOf Tryz.prog 60 (kV u d) = some (.string (kT u d))) :
    (Instr.lookup 44 (.map (some mg)) (kV u d) false).run Tryz.prog w = .ok (amV (grantA G u d)) w := by
  rw [SMap.tlook (e := 34) h gkeyed Tryz.underlying44 (azero w) hk, grantA_look]

set_option maxRecDepth 100000 in
set_option maxHeartbeats 2000000 in
theorem bmay_any (b mg mc : Nat) (G : List Gr) (C : List Ch) (c : Ch) (less : Bool) (w : World) (h : Bk w b mg mc G C) (hi : ChI C) (hk : askB c.u c.b = true) :
    Calls Tryz.prog 33 #[ptr b, chV c, .bool less] w fun e w' => e = .returned (.int .i64 (mayP G C c less)) ∧ Below w.heap.size w w' := by
  obtain ⟨w3, hw3⟩ : ∃ w3, w3 = w.alloc (.cells #[.string c.n, .string c.u, .int .i64 c.b, .int .i64 c.a.c, .int .i64 c.a.r, .int .i64 c.a.d, .int .i64 c.a.p] 43) := ⟨_, rfl⟩
  obtain ⟨B, hB⟩ : ∃ B, B = w.heap.size := ⟨_, rfl⟩
  have B0 : Hid (Blk w3 B (chC c) 43) := Lib.hid (by rw [hw3, hB]; exact Blk.made w (chC c) _)
  have HBL : Hid (Below w.heap.size w w3) := Lib.hid (by rw [hw3]; exact below_alloc w _)
  have H3 := Lib.hid (h.kept HBL.out)
  have hn := askB_name hk
  have HKO : Hid (keyOf Tryz.prog 60 (kV c.u c.b) = some (.string (kT c.u c.b))) := Lib.hid (keyOf_k (by unfold maxLen; omega) (band_wf hn.2))
  obtain ⟨y, hy⟩ : ∃ y, y = psum (hit c.u c.b c.n) C := ⟨_, rfl⟩
  obtain ⟨z, hz⟩ : ∃ z, z = (addR y c.a).1 := ⟨_, rfl⟩
  obtain ⟨er, her⟩ : ∃ er, er = (addR y c.a).2 := ⟨_, rfl⟩
  obtain ⟨ga, hga⟩ : ∃ ga, ga = grantA G c.u c.b := ⟨_, rfl⟩
  have HUS : Hid (∀ w', Bk w' b mg mc G C → Calls Tryz.prog 41 #[ptr b, .string c.u, .int .i64 c.b, .string c.n] w' fun e w2 => e = .returned (.tuple #[amV y, .bool true]) ∧ Below w'.heap.size w' w2) := Lib.hid (fun w' h' => by rw [hy]; exact bused_any b mg mc G C c.u c.n c.b w' h' hi.rise.apart hi.ok (hi.hit c.u c.b c.n))
  have HAD : Hid (∀ w', Calls Tryz.prog 56 #[amV y, amV c.a] w' fun e w2 => e = .returned (.tuple #[amV z, .int .i64 er]) ∧ Below w'.heap.size w' w2) := Lib.hid (fun w' => by rw [hz, her]; exact add_any y c.a w')
  have HLK : Hid (∀ w', SMap Tryz.prog 60 w' mg (grM G) → (Instr.lookup 44 (.map (some mg)) (kV c.u c.b) false).run Tryz.prog w' = .ok (amV ga) w') := Lib.hid (fun w' h' => by rw [hga]; exact grant_look h' HKO.out)
  have HM : Hid (mayP G C c less = if er ≠ 0 then 9 else if (!less && !(c.b == 0) && !fitsB z ga) = true then 12 else 0) := Lib.hid (by unfold mayP; rw [← hy, ← hz, ← her, ← hga])
  have c0 := B0.out.cell (j := 0) rfl
  have c1 := B0.out.cell (j := 1) rfl
  have c2 := B0.out.cell (j := 2) rfl
  clear h hi hk hn hy hz her hga
  go_enter Tryz.func33, Tryz.ntmps33
  go_upto_region 1 with fail
  rw [← hw3, ← hB]
  clear hw3 hB
  go_upto_region 3 with (first
    | (go_at_call 41; refine (HUS.out _ H3.out).mono ?_; rintro e w4 ⟨rfl, hb⟩; have hb9 := below_alloc w4 (.cells #[.int .i64 y.c, .int .i64 y.r, .int .i64 y.d, .int .i64 y.p] 34); have HB4 := Lib.hid (below_and HBL.out hb); have H4 := Lib.hid (H3.out.kept hb); have hb0 := (B0.out.kept hb).kept hb9; have C4 := Lib.hid (B0.out.kept hb); clear c0 c1 c2; have c3 := hb0.cell (j := 3) rfl; have c4 := hb0.cell (j := 4) rfl; have c5 := hb0.cell (j := 5) rfl; have c6 := hb0.cell (j := 6) rfl; clear hb hb0 hb9)
    | (go_at_call 56; refine (HAD.out _).mono ?_; rintro e w5 ⟨rfl, hb⟩; have hba := below_and (below_alloc w4 (.cells #[.int .i64 y.c, .int .i64 y.r, .int .i64 y.d, .int .i64 y.p] 34)) hb; clear c3 c4 c5 c6; have hbz := below_and hba (below_alloc w5 (.cells #[.int .i64 z.c, .int .i64 z.r, .int .i64 z.d, .int .i64 z.p] 34)); have HB5 := Lib.hid (below_and HB4.out hbz); have H5 := Lib.hid (H4.out.kept hbz); have C5 := Lib.hid (C4.out.kept hbz); have Z5 := Lib.hid (Blk.made w5 (amC z) 34); clear hb hba hbz))
  have c1 := C5.out.cell (j := 1) rfl
  have c2 := C5.out.cell (j := 2) rfl
  by_cases he : er = 0
  · have HE := Lib.hid he
    subst he
    cases less
    · cases hb : (c.b == 0)
      · cases hf : fitsB z ga
        · have HR : Hid (mayP G C c false = 12) := Lib.hid (by rw [HM.out, if_neg (by simp), if_pos (by rw [hb, hf]; rfl)])
          have t1 : (c.b != 0) = true := by rw [bne, hb]; rfl
          go_wp2
          clear c1 c2
          have c1 := Past.blk C5.out (j := 1) rfl
          have c2 := Past.blk C5.out (j := 2) rfl
          have z0 := Past.blk Z5.out (j := 0) rfl
          have z1 := Past.blk Z5.out (j := 1) rfl
          have z2 := Past.blk Z5.out (j := 2) rfl
          have z3 := Past.blk Z5.out (j := 3) rfl
          have g0 := Past.blk H5.out.blk (j := 0) rfl
          have hlk : ∀ s : Past (w5.alloc (.cells #[.int .i64 z.c, .int .i64 z.r, .int .i64 z.d, .int .i64 z.p] 34)), (Instr.lookup 44 (.map (some mg)) (kV c.u c.b) false).run Tryz.prog s.val = .ok (amV ga) s.val := fun s => HLK.out _ (H5.out.gm.kept s.h)
          have HFT : Hid (∀ w, Calls Tryz.prog 34 #[amV z, amV ga] w fun e w' => e = .returned (.bool (fitsB z ga)) ∧ Below w.heap.size w w') := Lib.hid (fun w => fits_any z ga w)
          rw [hf] at HFT
          refine wp_region_past (by kernel_rfl) (by kernel_rfl) ?_
          repeat (go_big_quiet_step (first | (go_at_call 34; exact past_call (HFT.out _))))
          refine wpQuiet_nil ?_
          intro _ hw'
          obtain ⟨s9, hw''⟩ := hw'
          subst hw''
          obtain ⟨w9, h9, e9⟩ : ∃ w9, Below (w5.alloc (.cells #[.int .i64 z.c, .int .i64 z.r, .int .i64 z.d, .int .i64 z.p] 34)).heap.size (w5.alloc (.cells #[.int .i64 z.c, .int .i64 z.r, .int .i64 z.d, .int .i64 z.p] 34)) w9 ∧ w9 = s9.val := ⟨_, s9.h, rfl⟩
          rw [← e9]
          have HB9 := Lib.hid (below_and HB5.out h9)
          clear h9 e9 c1 c2 z0 z1 z2 z3 g0 hlk
          go_wp2
          go_ret
          exact ⟨ret_int HR.out.symm, HB9.out⟩
        · have HR : Hid (mayP G C c false = 0) := Lib.hid (by rw [HM.out, if_neg (by simp), if_neg (by rw [hb, hf]; simp)])
          have t1 : (c.b != 0) = true := by rw [bne, hb]; rfl
          go_wp2
          clear c1 c2
          have c1 := Past.blk C5.out (j := 1) rfl
          have c2 := Past.blk C5.out (j := 2) rfl
          have z0 := Past.blk Z5.out (j := 0) rfl
          have z1 := Past.blk Z5.out (j := 1) rfl
          have z2 := Past.blk Z5.out (j := 2) rfl
          have z3 := Past.blk Z5.out (j := 3) rfl
          have g0 := Past.blk H5.out.blk (j := 0) rfl
          have hlk : ∀ s : Past (w5.alloc (.cells #[.int .i64 z.c, .int .i64 z.r, .int .i64 z.d, .int .i64 z.p] 34)), (Instr.lookup 44 (.map (some mg)) (kV c.u c.b) false).run Tryz.prog s.val = .ok (amV ga) s.val := fun s => HLK.out _ (H5.out.gm.kept s.h)
          have HFT : Hid (∀ w, Calls Tryz.prog 34 #[amV z, amV ga] w fun e w' => e = .returned (.bool (fitsB z ga)) ∧ Below w.heap.size w w') := Lib.hid (fun w => fits_any z ga w)
          rw [hf] at HFT
          refine wp_region_past (by kernel_rfl) (by kernel_rfl) ?_
          repeat (go_big_quiet_step (first | (go_at_call 34; exact past_call (HFT.out _))))
          refine wpQuiet_nil ?_
          intro _ hw'
          obtain ⟨s9, hw''⟩ := hw'
          subst hw''
          obtain ⟨w9, h9, e9⟩ : ∃ w9, Below (w5.alloc (.cells #[.int .i64 z.c, .int .i64 z.r, .int .i64 z.d, .int .i64 z.p] 34)).heap.size (w5.alloc (.cells #[.int .i64 z.c, .int .i64 z.r, .int .i64 z.d, .int .i64 z.p] 34)) w9 ∧ w9 = s9.val := ⟨_, s9.h, rfl⟩
          rw [← e9]
          have HB9 := Lib.hid (below_and HB5.out h9)
          clear h9 e9 c1 c2 z0 z1 z2 z3 g0 hlk
          go_wp2
          go_ret
          exact ⟨ret_int HR.out.symm, HB9.out⟩
      · have HR : Hid (mayP G C c false = 0) := Lib.hid (by rw [HM.out, if_neg (by simp), if_neg (by rw [hb]; simp)])
        have t1 : (c.b != 0) = false := by rw [bne, hb]; rfl
        clear hb
        go_wp2
        clear c1 c2
        have c1 := Past.blk C5.out (j := 1) rfl
        have c2 := Past.blk C5.out (j := 2) rfl
        have z0 := Past.blk Z5.out (j := 0) rfl
        have z1 := Past.blk Z5.out (j := 1) rfl
        have z2 := Past.blk Z5.out (j := 2) rfl
        have z3 := Past.blk Z5.out (j := 3) rfl
        have g0 := Past.blk H5.out.blk (j := 0) rfl
        have hlk : ∀ s : Past (w5.alloc (.cells #[.int .i64 z.c, .int .i64 z.r, .int .i64 z.d, .int .i64 z.p] 34)), (Instr.lookup 44 (.map (some mg)) (kV c.u c.b) false).run Tryz.prog s.val = .ok (amV ga) s.val := fun s => HLK.out _ (H5.out.gm.kept s.h)
        have HFT : Hid (∀ w, Calls Tryz.prog 34 #[amV z, amV ga] w fun e w' => e = .returned (.bool (fitsB z ga)) ∧ Below w.heap.size w w') := Lib.hid (fun w => fits_any z ga w)
        skip
        refine wp_region_past (by kernel_rfl) (by kernel_rfl) ?_
        repeat (go_big_quiet_step (first | (go_at_call 34; exact past_call (HFT.out _))))
        refine wpQuiet_nil ?_
        intro _ hw'
        obtain ⟨s9, hw''⟩ := hw'
        subst hw''
        obtain ⟨w9, h9, e9⟩ : ∃ w9, Below (w5.alloc (.cells #[.int .i64 z.c, .int .i64 z.r, .int .i64 z.d, .int .i64 z.p] 34)).heap.size (w5.alloc (.cells #[.int .i64 z.c, .int .i64 z.r, .int .i64 z.d, .int .i64 z.p] 34)) w9 ∧ w9 = s9.val := ⟨_, s9.h, rfl⟩
        rw [← e9]
        have HB9 := Lib.hid (below_and HB5.out h9)
        clear h9 e9 c1 c2 z0 z1 z2 z3 g0 hlk
        go_wp2
        go_ret
        exact ⟨ret_int HR.out.symm, HB9.out⟩
    · have HR : Hid (mayP G C c true = 0) := Lib.hid (by rw [HM.out, if_neg (by simp), if_neg (by simp)])
      go_wp2
      clear c1 c2
      have c1 := Past.blk C5.out (j := 1) rfl
      have c2 := Past.blk C5.out (j := 2) rfl
      have z0 := Past.blk Z5.out (j := 0) rfl
      have z1 := Past.blk Z5.out (j := 1) rfl
      have z2 := Past.blk Z5.out (j := 2) rfl
      have z3 := Past.blk Z5.out (j := 3) rfl
      have g0 := Past.blk H5.out.blk (j := 0) rfl
      have hlk : ∀ s : Past (w5.alloc (.cells #[.int .i64 z.c, .int .i64 z.r, .int .i64 z.d, .int .i64 z.p] 34)), (Instr.lookup 44 (.map (some mg)) (kV c.u c.b) false).run Tryz.prog s.val = .ok (amV ga) s.val := fun s => HLK.out _ (H5.out.gm.kept s.h)
      have HFT : Hid (∀ w, Calls Tryz.prog 34 #[amV z, amV ga] w fun e w' => e = .returned (.bool (fitsB z ga)) ∧ Below w.heap.size w w') := Lib.hid (fun w => fits_any z ga w)
      skip
      refine wp_region_past (by kernel_rfl) (by kernel_rfl) ?_
      repeat (go_big_quiet_step (first | (go_at_call 34; exact past_call (HFT.out _))))
      refine wpQuiet_nil ?_
      intro _ hw'
      obtain ⟨s9, hw''⟩ := hw'
      subst hw''
      obtain ⟨w9, h9, e9⟩ : ∃ w9, Below (w5.alloc (.cells #[.int .i64 z.c, .int .i64 z.r, .int .i64 z.d, .int .i64 z.p] 34)).heap.size (w5.alloc (.cells #[.int .i64 z.c, .int .i64 z.r, .int .i64 z.d, .int .i64 z.p] 34)) w9 ∧ w9 = s9.val := ⟨_, s9.h, rfl⟩
      rw [← e9]
      have HB9 := Lib.hid (below_and HB5.out h9)
      clear h9 e9 c1 c2 z0 z1 z2 z3 g0 hlk
      go_wp2
      go_ret
      exact ⟨ret_int HR.out.symm, HB9.out⟩
  · have HR : Hid (mayP G C c less = 9) := Lib.hid (by rw [HM.out, if_pos he])
    have t1 : (er != 0) = true := by simpa using he
    go_wp2
    go_ret
    exact ⟨ret_int HR.out.symm, HB5.out⟩
end Go.Proofs.YtmgbailpmcggiaaGreat
