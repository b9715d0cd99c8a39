/- The program's table of leases: Heard, whole. -/
import Derived.Test.YtmgcigohfccgeaaLsOver
namespace Go.Proofs.Ytmgcigohfccgeaa
open Go.RowKit

set_option maxRecDepth 100000 in
set_option maxHeartbeats 2000000 in
theorem lheard_same (b mb : Nat) (lease wait now : Int) (m : SM) (s : ByteArray) (boot nw at_ bt n : Int) (w : World) (h : LTab w b mb lease wait now m) (h0 : wait ≠ 0) (hs : s.size ≤ maxLen) (hg : m.get s.data.toList = some (hv boot nw at_)) (hl : m.length < maxLen)
    (h1 : (bt == 0) = false) (h2 : decide (n < 0) = false) (h3 : decide (bt < boot) = false) (h4 : (bt == boot) = true) (h5 : decide (n < nw) = false) :
    Calls Try.prog 18 #[ptr b, .string s, .int .u64 bt, .int .i64 n] w fun e w' => e = .returned (.int .i64 0) ∧ LTab w' b mb lease wait now (m.put s.data.toList (hv bt n now)) ∧ w.grownBy w' (some mb) := by
  have H := Lib.hid h
  have H0 := Lib.hid h0
  have HS := Lib.hid hs
  have HG := Lib.hid hg
  have HL := Lib.hid hl
  clear h h0 hs hg hl
  go_enter Try.func18, Try.ntmps18
  go_wp2_with (first
    | (go_at_call 58; refine (lfind_yes b mb _ _ _ _ _ _ _ _ _ H.out H0.out HS.out HG.out).mono ?_; rintro e w1 ⟨rfl, hb⟩; have HB := Lib.hid hb; clear hb))
  have HT := Lib.hid ((H.out.kept HB.out).kept (below_alloc w1 (.cells #[.int .u64 boot, .int .i64 nw, .int .i64 at_] 91)))
  have d2 := HT.out.blk.cell (j := 2) rfl
  have d3 := HT.out.blk.cell (j := 3) rfl
  obtain ⟨w3, hrun, hm3, hg3⟩ := SMap.store (HT.out.map.kept (below_drewN 1)) Try.underlying9 Try.underlying69 HL.out HS.out (hv bt n now)
  have hrun' : (Instr.mapUpdate 69 (.map (some mb)) (.string s) (hv bt n now)).run Try.prog (w1.alloc (.cells #[.int .u64 boot, .int .i64 nw, .int .i64 at_] 91)).drew = .ok () w3 := hrun
  have HM3 := Lib.hid hm3
  have HG3 := Lib.hid hg3
  clear hm3 hg3 hrun
  go_region_with (fail)
  all_goals go_wp2
  all_goals go_ret
  all_goals exact ⟨rfl, ⟨(HT.out.blk.kept (below_drewN 1)).grown HG3.out (by simpa using fun e => H.out.ne e.symm), HM3.out, H.out.ne⟩, grown_trans (below_grownBy (Below.drewN' (below_and HB.out (below_alloc _ _)) 1)) HG3.out⟩

theorem lsheard_all (k b mb : Nat) (n : Int) (x : Ls) (s : ByteArray) (bt nw : Int) (w : World) (h : LsT w b mb n x) (hI : LsI k x) (hk : k ≤ 100000) (hs : s.size ≤ maxLen) :
    Calls Try.prog 18 #[ptr b, .string s, .int .u64 bt, .int .i64 nw] w fun e w' => e = .returned (.int .i64 (lsHeard x s bt nw).1) ∧ LsT w' b mb n (lsHeard x s bt nw).2 ∧ Fr [mb] w w' := by
  have hlen : (hrM x.R).length < maxLen := by rw [hrM_len]; have := hI.len; unfold maxLen; omega
  unfold lsHeard
  cases hf : hfd x.R s.data.toList with
  | none =>
    refine (lsheard_no b mb n x s bt nw w h hI.w0 hs hf).mono ?_
    rintro e w' ⟨rfl, hb⟩
    exact ⟨rfl, h.kept hb, Fr.of_below hb _⟩
  | some y =>
    simp only []
    by_cases c1 : bt = 0 ∨ nw < 0
    · rw [if_pos c1]
      refine (lsheard_ref b mb n x s bt nw y w h hI.w0 hs hf 2 ?_).mono ?_
      · by_cases c2 : bt = 0
        · exact .inl ⟨rfl, by simp [c2]⟩
        · exact .inr (.inl ⟨rfl, by simpa using c2, by simpa using c1.resolve_left c2⟩)
      · rintro e w' ⟨rfl, hb⟩
        exact ⟨rfl, h.kept hb, Fr.of_below hb _⟩
    · rw [if_neg c1]
      have d1 : (bt == 0) = false := by simp; omega
      have d2 : decide (nw < 0) = false := by simp; omega
      by_cases c2 : bt < y.b ∨ (bt = y.b ∧ nw < y.m)
      · rw [if_pos c2]
        refine (lsheard_ref b mb n x s bt nw y w h hI.w0 hs hf 11 ?_).mono ?_
        · by_cases c3 : bt < y.b
          · exact .inr (.inr (.inl ⟨rfl, d1, d2, by simpa using c3⟩))
          · have c4 := c2.resolve_left c3
            exact .inr (.inr (.inr ⟨rfl, d1, d2, by simp; omega, by simp [c4.1], by simp [c4.2]⟩))
        · rintro e w' ⟨rfl, hb⟩
          exact ⟨rfl, h.kept hb, Fr.of_below hb _⟩
      · rw [if_neg c2]
        have d3 : decide (bt < y.b) = false := by simp; omega
        have hp : (hrM x.R).put s.data.toList (hv bt nw x.now) = hrM (putR x.R ⟨s, bt, nw, x.now⟩) := hrM_put x.R ⟨s, bt, nw, x.now⟩
        by_cases c3 : bt = y.b
        · refine (lheard_same b mb n x.wait x.now _ s y.b y.m y.a bt nw w h hI.w0 hs (hr_get hf) hlen d1 d2 d3 (by simp [c3]) (by simp; omega)).mono ?_
          rintro e w' ⟨rfl, h1, h2⟩
          rw [hp] at h1
          exact ⟨rfl, h1, by simpa using Fr.of_grown h2⟩
        · refine (lheard_new b mb n x.wait x.now _ s y.b y.m y.a bt nw w h hI.w0 hs (hr_get hf) hlen d1 d2 d3 (by simp [c3])).mono ?_
          rintro e w' ⟨rfl, h1, h2⟩
          rw [hp] at h1
          exact ⟨rfl, h1, by simpa using Fr.of_grown h2⟩
end Go.Proofs.Ytmgcigohfccgeaa
