/- The program's table of leases: every call at a table that was made. -/
import Derived.Test.YtmgcigohfccgeaaLsPlain
import Derived.Test.YtmgcigohfccgeaaLTab2
import Derived.Test.YtmgcigohfccgeaaSep
import Derived.BigQuiet
namespace Go.Proofs.Ytmgcigohfccgeaa
open Go.RowKit

/-- block b is a table with lease n, its rows x.R -/
abbrev LsT (w : World) (b mb : Nat) (n : Int) (x : Ls) : Prop := LTab w b mb n x.wait x.now (hrM x.R)
theorem LsI.w0 {k : Nat} {x : Ls} (h : LsI k x) : x.wait ≠ 0 := by have := h.wait; omega
theorem hr_get {x : Ls} {s : List UInt8} {h : Hr} (hf : hfd x.R s = some h) : (hrM x.R).get s = some (hv h.b h.m h.a) := by rw [hrM_get, hf]; rfl
theorem hr_no {x : Ls} {s : List UInt8} (hf : hfd x.R s = none) : (hrM x.R).hasK s = false := by rw [hrM_has, hf]; rfl

set_option maxRecDepth 100000 in
set_option maxHeartbeats 1000000 in
theorem lfind_no (b mb : Nat) (n : Int) (x : Ls) (s : ByteArray) (w : World) (h : LsT w b mb n x) (h0 : x.wait ≠ 0) (hs : s.size ≤ maxLen) (hf : hfd x.R s.data.toList = none) :
    Calls Try.prog 58 #[ptr b, .string s] w fun e w' => e = .returned (.tuple #[hv 0 0 0, .int .i64 6]) ∧ Below w.heap.size w w' := by
  have H := Lib.hid h
  have H0 := Lib.hid h0
  have HS := Lib.hid hs
  have HK := Lib.hid (hr_no hf)
  have HG := Lib.hid (get_of_no (hr_no hf))
  have c3 := ((h.kept (below_alloc w (.cells #[.int .u64 0, .int .i64 0, .int .i64 0] 91))).blk).cell (j := 3) rfl
  clear h h0 hs hf
  go_enter Try.func58, Try.ntmps58
  go_wp2_with (first
    | (go_at_call 57; refine (lnone_made b mb _ _ _ _ _ (by exact H.out.kept (below_alloc _ _)) H0.out).mono ?_; rintro e w' ⟨rfl, rfl⟩)
    | (at_lookup; refine wpList_slook_ok _ rfl _ _ _ rfl 9 91 Try.underlying9 Try.underlying69 (hzero _) mb _ rfl (by exact (H.out.kept (below_alloc _ _)).map) s rfl HS.out ?_; rw [HG.out, HK.out]; simp only [Option.getD_none]))
  refine bodyPost_ret (results_row_tmp rfl _ _ w.heap.size 91 #[.int .u64 0, .int .i64 0, .int .i64 0] (0, 0) _ rfl ((Blk.made w [.int .u64 0, .int .i64 0, .int .i64 0] 91).kept (below_alloc _ _)) Try.underlying91 rfl (by kernel_rfl)) rfl ?_
  exact ⟨rfl, below_and (below_alloc w _) (below_alloc _ _)⟩

/-! Add -/
set_option maxRecDepth 100000 in
set_option maxHeartbeats 1000000 in
theorem lsadd_all (k b mb : Nat) (n : Int) (x : Ls) (s : ByteArray) (w : World) (h : LsT w b mb n x) (hI : LsI k x) (hk : k ≤ 100000) (hs : s.size ≤ maxLen) :
    Calls Try.prog 16 #[ptr b, .string s] w fun e w' => e = .returned (.int .i64 (lsAdd x s).1) ∧ LsT w' b mb n (lsAdd x s).2 ∧ Fr [mb] w w' := by
  have H := Lib.hid h
  have H0 := Lib.hid hI.w0
  have HS := Lib.hid hs
  have HL : Hid ((hrM x.R).length < maxLen) := Lib.hid (by rw [hrM_len]; have := hI.len; unfold maxLen; omega)
  unfold lsAdd
  cases he : s.toList.isEmpty
  · cases hf : hfd x.R s.data.toList with
    | none =>
      refine (ladd_ok b mb n x.wait x.now _ s w h H0.out hs he (hr_no hf) HL.out).mono ?_
      rintro e w' ⟨rfl, h1, h2⟩
      refine ⟨by simp, ?_, by simpa using Fr.of_grown h2⟩
      have h3 : (hrM x.R).put s.data.toList (hv 0 0 x.now) = hrM (putR x.R ⟨s, 0, 0, x.now⟩) := hrM_put x.R ⟨s, 0, 0, x.now⟩
      rw [h3] at h1
      simpa using h1
    | some y =>
      have HG := Lib.hid (hr_get hf)
      have HK := Lib.hid (has_of_get (hr_get hf))
      have c3 := h.blk.cell (j := 3) rfl
      clear h hs hf
      go_enter Try.func16, Try.ntmps16
      go_wp2_with (first
        | (go_at_call 57; refine (lnone_made b mb _ _ _ _ _ (by exact H.out) H0.out).mono ?_; rintro e w' ⟨rfl, rfl⟩)
        | (at_lookup; refine wpList_slook_ok _ rfl _ _ _ rfl 9 91 Try.underlying9 Try.underlying69 (hzero _) mb _ rfl (by exact H.out.map) s rfl HS.out ?_; rw [HG.out, HK.out]; simp only [Option.getD_some]))
      go_ret
      exact ⟨by simp, by simpa using H.out.kept (below_alloc w _), Fr.of_below (below_alloc w _) _⟩
  · clear h hs
    go_enter Try.func16, Try.ntmps16
    go_wp2_with (go_at_call 57; refine (lnone_made b mb _ _ _ _ _ (by exact H.out) H0.out).mono ?_; rintro e w' ⟨rfl, rfl⟩)
    go_ret
    exact ⟨by simp, by simpa using H.out, Fr.refl _ _⟩

/-! Tick -/
set_option maxRecDepth 100000 in
set_option maxHeartbeats 1000000 in
theorem lstick_all (k b mb : Nat) (n : Int) (x : Ls) (d : Int) (w : World) (h : LsT w b mb n x) (hI : LsI k x) (hk : k ≤ 100000) :
    Calls Try.prog 19 #[ptr b, .int .i64 d] w fun e w' => e = .returned (.int .i64 (lsTick x d).1) ∧ LsT w' b mb n (lsTick x d).2 ∧ Fr [b] w w' := by
  have H := Lib.hid h
  have H0 := Lib.hid hI.w0
  unfold lsTick
  by_cases hd : d < 0 ∨ 1048576 < d
  · rw [if_pos hd]
    clear h
    by_cases h1 : d < 0
    · clear hd
      go_enter Try.func19, Try.ntmps19
      go_wp2_with (go_at_call 57; refine (lnone_made b mb _ _ _ _ _ (by exact H.out) H0.out).mono ?_; rintro e w' ⟨rfl, rfl⟩)
      go_ret
      exact ⟨rfl, H.out, Fr.refl _ _⟩
    · have h2 : 1048576 < d := by omega
      clear hd
      go_enter Try.func19, Try.ntmps19
      go_wp2_with (go_at_call 57; refine (lnone_made b mb _ _ _ _ _ (by exact H.out) H0.out).mono ?_; rintro e w' ⟨rfl, rfl⟩)
      go_ret
      exact ⟨rfl, H.out, Fr.refl _ _⟩
  · rw [if_neg hd]
    have hn := hI.now
    refine (ltick_ok b mb n x.wait x.now _ d w h H0.out (by omega) ⟨hn.1, by omega⟩).mono ?_
    rintro e w' ⟨rfl, h1, h2⟩
    exact ⟨rfl, h1, by simpa using Fr.of_grown h2⟩

/-! Echo -/
set_option maxRecDepth 100000 in
set_option maxHeartbeats 1000000 in
theorem lsecho_all (k b mb : Nat) (n : Int) (x : Ls) (s : ByteArray) (w : World) (h : LsT w b mb n x) (hI : LsI k x) (hs : s.size ≤ maxLen) :
    Calls Try.prog 37 #[ptr b, .string s] w fun e w' => e = .returned (.tuple #[.int .u64 (lsEcho x s).1, .int .i64 (lsEcho x s).2.1, .int .i64 (lsEcho x s).2.2]) ∧ Below w.heap.size w w' := by
  obtain ⟨bt, m, a, er, hfd1, hres⟩ : ∃ bt m a er, (∀ w, LsT w b mb n x → Calls Try.prog 58 #[ptr b, .string s] w fun e w' => e = .returned (.tuple #[hv bt m a, .int .i64 er]) ∧ Below w.heap.size w w') ∧ lsEcho x s = (bt, m, er) := by
    unfold lsEcho
    cases hf : hfd x.R s.data.toList with
    | none => exact ⟨0, 0, 0, 6, fun w h => lfind_no b mb n x s w h hI.w0 hs hf, rfl⟩
    | some y => exact ⟨y.b, y.m, y.a, 0, fun w h => lfind_yes b mb n x.wait x.now _ s _ _ _ w h hI.w0 hs (hr_get hf), rfl⟩
  rw [hres]
  have H := Lib.hid h
  have HF := Lib.hid hfd1
  clear h hfd1 hres
  go_enter Try.func37, Try.ntmps37
  go_wp2_with (first
    | (go_at_call 58; refine (HF.out _ H.out).mono ?_; rintro e w1 ⟨rfl, hb⟩; have HB := Lib.hid (below_and hb (below_alloc w1 (.cells #[.int .u64 bt, .int .i64 m, .int .i64 a] 91))); clear hb)
    | go_quiet (fail))
  go_ret3
  exact ⟨rfl, Below.drewN' HB.out _⟩
/-! Sure, Left -/
set_option maxRecDepth 100000 in
set_option maxHeartbeats 1000000 in
theorem lssure_all (k b mb : Nat) (n : Int) (x : Ls) (s : ByteArray) (w : World) (h : LsT w b mb n x) (hI : LsI k x) (hk : k ≤ 100000) (hs : s.size ≤ maxLen) :
    Calls Try.prog 20 #[ptr b, .string s] w fun e w' => e = .returned (.tuple #[.bool (lsSure x s).1, .int .i64 (lsSure x s).2]) ∧ Below w.heap.size w w' := by
  unfold lsSure
  cases hf : hfd x.R s.data.toList with
  | none =>
    have H := Lib.hid h
    have HF := Lib.hid (fun w h => lfind_no b mb n x s w h hI.w0 hs hf)
    clear h hf
    go_enter Try.func20, Try.ntmps20
    go_wp2_with (go_at_call 58; refine (HF.out _ H.out).mono ?_; rintro e w1 ⟨rfl, hb⟩; have HB := Lib.hid (below_and hb (below_alloc w1 (.cells #[.int .u64 0, .int .i64 0, .int .i64 0] 91))); clear hb)
    go_ret2
    exact ⟨rfl, HB.out⟩
  | some y =>
    have hn := hI.now
    have hw := hI.wait
    have hy := hI.seen y (hfd_mem hf).1
    exact lsure_yes b mb n x.wait x.now _ s y.b y.m y.a w h hI.w0 hs (hr_get hf) (by omega) (by omega) (by omega) _ rfl
set_option maxRecDepth 100000 in
set_option maxHeartbeats 1000000 in
theorem lsleft_all (k b mb : Nat) (n : Int) (x : Ls) (s : ByteArray) (w : World) (h : LsT w b mb n x) (hI : LsI k x) (hk : k ≤ 100000) (hs : s.size ≤ maxLen) :
    Calls Try.prog 50 #[ptr b, .string s] w fun e w' => e = .returned (.tuple #[.int .i64 (lsLeft x s).1, .int .i64 (lsLeft x s).2]) ∧ Below w.heap.size w w' := by
  unfold lsLeft
  cases hf : hfd x.R s.data.toList with
  | none =>
    have H := Lib.hid h
    have HF := Lib.hid (fun w h => lfind_no b mb n x s w h hI.w0 hs hf)
    clear h hf
    go_enter Try.func50, Try.ntmps50
    go_wp2_with (go_at_call 58; refine (HF.out _ H.out).mono ?_; rintro e w1 ⟨rfl, hb⟩; have HB := Lib.hid (below_and hb (below_alloc w1 (.cells #[.int .u64 0, .int .i64 0, .int .i64 0] 91))); clear hb)
    go_ret2
    exact ⟨rfl, HB.out⟩
  | some y =>
    have hn := hI.now
    have hw := hI.wait
    have hy := hI.seen y (hfd_mem hf).1
    exact lLeft_yes b mb n x.wait x.now _ s y.b y.m y.a w h hI.w0 hs (hr_get hf) (by omega) (by omega) (by omega) _ rfl
/-! Now, Lease -/
set_option maxRecDepth 100000 in
set_option maxHeartbeats 1000000 in
theorem lsnow_all (b mb : Nat) (n : Int) (x : Ls) (w : World) (h : LsT w b mb n x) (h0 : x.wait ≠ 0) :
    Calls Try.prog 38 #[ptr b] w fun e w' => e = .returned (.int .i64 x.now) ∧ w = w' := by
  have c2 := h.blk.cell (j := 2) rfl
  have H := Lib.hid h
  have H0 := Lib.hid h0
  clear h h0
  go_enter Try.func38, Try.ntmps38
  go_wp2_with (go_at_call 57; refine (lnone_made b mb _ _ _ _ _ (by exact H.out) H0.out).mono ?_; rintro e w' ⟨rfl, rfl⟩)
  go_ret
  exact ⟨rfl, rfl⟩
set_option maxRecDepth 100000 in
set_option maxHeartbeats 1000000 in
theorem lslease_all (b mb : Nat) (n : Int) (x : Ls) (w : World) (h : LsT w b mb n x) (h0 : x.wait ≠ 0) :
    Calls Try.prog 39 #[ptr b] w fun e w' => e = .returned (.int .i64 n) ∧ w = w' := by
  have c2 := h.blk.cell (j := 0) rfl
  have H := Lib.hid h
  have H0 := Lib.hid h0
  clear h h0
  go_enter Try.func39, Try.ntmps39
  go_wp2_with (go_at_call 57; refine (lnone_made b mb _ _ _ _ _ (by exact H.out) H0.out).mono ?_; rintro e w' ⟨rfl, rfl⟩)
  go_ret
  exact ⟨rfl, rfl⟩
set_option maxRecDepth 100000 in
set_option maxHeartbeats 1000000 in
theorem lnew_bad (n d e0 : Int) (w : World) (hw : Clk.waits n d = (0, e0)) (he : e0 ≠ 0) :
    Calls Try.prog 15 #[.int .i64 n, .int .i64 d] w fun e w' => e = .returned (.tuple #[.pointer none, .int .i64 e0]) ∧ w = w' := by
  have HW := Lib.hid hw
  have t0 : (e0 == 0) = false := by simpa using he
  clear hw he
  go_enter Try.func15, Try.ntmps15
  go_wp2_with (go_at_call 25; refine (wait_any _ _ _).mono ?_; rw [HW.out]; rintro e w' ⟨rfl, rfl⟩)
  go_ret2
  exact ⟨rfl, rfl⟩
end Go.Proofs.Ytmgcigohfccgeaa
