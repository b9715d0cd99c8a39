/- The book's Grant, may, Used, Granted, Left. -/
import Derived.Test.YtmgbailpmcggiaaQUsed
namespace Go.Proofs.Ytmgbailpmcggiaa
open Go.RowKit

/-- what a book's charges keep to -/
structure ChI (C : List Ch) : Prop where
  rise : KRise Ch.key C
  ok : Oks C
  fit : ∀ u d, Fit (onB u d) C
theorem ChI.hit {C : List Ch} (h : ChI C) (u : ByteArray) (d : Int) (t : ByteArray) : Fit (hit u d t) C := (h.fit u d).le h.ok (fun _ h => hit_on h)

theorem bk_g {w w' : World} {b mg mc : Nat} {G G' : List Gr} {C : List Ch} (h : Bk w b mg mc G C) (hp : SMap Try.prog 60 w' mg (grM G')) (hg : w.grownBy w' (some mg)) : Bk w' b mg mc G' C :=
  ⟨h.blk.grown hg (by have := h.n1; simp; omega), hp, h.cm.grown hg (by have := h.n3; simp; omega), h.n1, h.n2, h.n3⟩
theorem bk_c {w w' : World} {b mg mc : Nat} {G : List Gr} {C C' : List Ch} (h : Bk w b mg mc G C) (hp : SMap Try.prog 9 w' mc (chM C')) (hg : w.grownBy w' (some mc)) : Bk w' b mg mc G C' :=
  ⟨h.blk.grown hg (by have := h.n2; simp; omega), h.gm.grown hg (by have := h.n3; simp; omega), hp, h.n1, h.n2, h.n3⟩
theorem bk_stay {w w' : World} {b mg mc : Nat} {G : List Gr} {C : List Ch} (h : Bk w b mg mc G C) (hb : Below w.heap.size w w') : Bk w' b mg mc G C ∧ Fr [mg, mc] w w' := ⟨h.kept hb, Fr.of_below hb _⟩

set_option maxRecDepth 100000 in
set_option maxHeartbeats 1000000 in
theorem bgrant_bad (b mg mc : Nat) (G : List Gr) (C : List Ch) (u : ByteArray) (d : Int) (a : Am) (w : World) (h : Bk w b mg mc G C) (hd1 : -9223372036854775808 ≤ d) (hd2 : d ≤ 9223372036854775807) (hq : (askB u d && a.okB) = false) :
    Calls Try.prog 8 #[ptr b, .string u, .int .i64 d, amV a] w fun e w' => e = .returned (.int .i64 2) ∧ Below w.heap.size w w' := by
  obtain ⟨w3, hw3⟩ : ∃ w3, w3 = w.alloc (.cells #[.int .i64 a.c, .int .i64 a.r, .int .i64 a.d, .int .i64 a.p] 28) := ⟨_, rfl⟩
  obtain ⟨B, hB⟩ : ∃ B, B = w.heap.size := ⟨_, rfl⟩
  have B0 : Hid (Blk w3 B (amC a) 28) := Lib.hid (by rw [hw3, hB]; exact Blk.made w (amC a) _)
  have HBL : Hid (Below w.heap.size w w3) := Lib.hid (by rw [hw3]; exact below_alloc w _)
  have H3 := Lib.hid (h.kept HBL.out)
  cases hk : askB u d
  · have HK : Hid (askE u d = 2) := Lib.hid (by unfold askE; rw [hk]; rfl)
    clear h hq hk
    go_enter Try.func8, Try.ntmps8
    go_upto_region 1 with fail
    rw [← hw3, ← hB]
    clear hw3 hB
    go_wp2_with (go_at_call 24; refine (asked_made b mg mc G C u d _ H3.out hd1 hd2).mono ?_; rw [HK.out]; rintro e w4 ⟨rfl, hb⟩; have HB4 := Lib.hid (below_and HBL.out hb); clear hb)
    go_ret
    exact ⟨rfl, HB4.out⟩
  · have HK : Hid (askE u d = 0) := Lib.hid (by unfold askE; rw [hk]; rfl)
    have HA : Hid (a.chk = 2) := Lib.hid (Am.chk_no (by rw [hk] at hq; simpa using hq))
    clear h hq hk
    go_enter Try.func8, Try.ntmps8
    go_upto_region 1 with fail
    rw [← hw3, ← hB]
    clear hw3 hB
    go_wp2_with (first
      | (go_at_call 24; refine (asked_made b mg mc G C u d _ H3.out hd1 hd2).mono ?_; rw [HK.out]; rintro e w4 ⟨rfl, hb⟩; have HB4 := Lib.hid (below_and HBL.out hb); have hb0 := B0.out.kept hb; have c0 := hb0.cell (j := 0) rfl; have c1 := hb0.cell (j := 1) rfl; have c2 := hb0.cell (j := 2) rfl; have c3 := hb0.cell (j := 3) rfl; clear hb hb0)
      | (go_at_call 25; refine (check_any a _).mono ?_; rw [HA.out]; rintro e w5 ⟨rfl, hb⟩; have HB5 := Lib.hid (below_and HB4.out hb); clear hb))
    go_ret
    exact ⟨rfl, HB5.out⟩

theorem askB_name {u : ByteArray} {d : Int} (h : askB u d = true) : u.size ≤ 16 ∧ 0 ≤ d ∧ d ≤ 3 := by
  unfold askB bandB nameB at h
  simp only [Bool.and_eq_true, decide_eq_true_eq] at h
  have h2 : u.data.toList.length = u.size := by simp
  omega
theorem band_wf {d : Int} (h : 0 ≤ d ∧ d ≤ 3) : (Lit.int .i64 d).wf = true := by
  have h2 : d = 0 ∨ d = 1 ∨ d = 2 ∨ d = 3 := by omega
  rcases h2 with rfl | rfl | rfl | rfl <;> rfl

set_option maxRecDepth 100000 in
set_option maxHeartbeats 1000000 in
theorem bgrant_ok (b mg mc : Nat) (G : List Gr) (C : List Ch) (u : ByteArray) (d : Int) (a : Am) (w : World) (h : Bk w b mg mc G C) (hk : askB u d = true) (ha : a.okB = true) (hl : G.length < maxLen) :
    Calls Try.prog 8 #[ptr b, .string u, .int .i64 d, amV a] w fun e w' => e = .returned (.int .i64 0) ∧ Bk w' b mg mc (kput Gr.key G ⟨u, d, a⟩) C ∧ Fr [mg, mc] w w' := by
  obtain ⟨w3, hw3⟩ : ∃ w3, w3 = w.alloc (.cells #[.int .i64 a.c, .int .i64 a.r, .int .i64 a.d, .int .i64 a.p] 28) := ⟨_, rfl⟩
  obtain ⟨B, hB⟩ : ∃ B, B = w.heap.size := ⟨_, rfl⟩
  have B0 : Hid (Blk w3 B (amC a) 28) := Lib.hid (by rw [hw3, hB]; exact Blk.made w (amC a) _)
  have HBL : Hid (Below w.heap.size w w3) := Lib.hid (by rw [hw3]; exact below_alloc w _)
  have H3 := Lib.hid (h.kept HBL.out)
  have hn := askB_name hk
  have HKO : Hid (keyOf Try.prog 60 (kV u d) = some (.string (kT u d))) := Lib.hid (keyOf_k (by unfold maxLen; omega) (band_wf hn.2))
  have HK : Hid (askE u d = 0) := Lib.hid (by unfold askE; rw [hk]; rfl)
  have HA : Hid (a.chk = 0) := Lib.hid (Am.chk_yes ha)
  have HL : Hid ((grM G).length < maxLen) := Lib.hid (by unfold grM; rw [kM_len]; exact hl)
  have HPT : Hid ((grM G).put (kT u d) (amV a) = grM (kput Gr.key G ⟨u, d, a⟩)) := Lib.hid (kM_put (key := Gr.key) (val := fun g => amV g.a) G ⟨u, d, a⟩)
  have hd1 : -9223372036854775808 ≤ d := by omega
  have hd2 : d ≤ 9223372036854775807 := by omega
  clear h hk ha hl hn
  go_enter Try.func8, Try.ntmps8
  go_upto_region 1 with fail
  rw [← hw3, ← hB]
  clear hw3 hB
  go_upto_region 7 with (first
    | (go_at_call 24; refine (asked_made b mg mc G C u d _ H3.out hd1 hd2).mono ?_; rw [HK.out]; rintro e w4 ⟨rfl, hb⟩; have HB4 := Lib.hid (below_and HBL.out hb); have H4 := Lib.hid (H3.out.kept hb); have hb0 := B0.out.kept hb; have C0 := Lib.hid hb0; have c0 := hb0.cell (j := 0) rfl; have c1 := hb0.cell (j := 1) rfl; have c2 := hb0.cell (j := 2) rfl; have c3 := hb0.cell (j := 3) rfl; clear hb hb0)
    | (go_at_call 25; refine (check_any a _).mono ?_; rw [HA.out]; rintro e w5 ⟨rfl, hb⟩; have HB5 := Lib.hid (below_and HB4.out hb); have H5 := Lib.hid (H4.out.kept hb); have hb0 := C0.out.kept hb; clear c0 c1 c2 c3; have C5 := Lib.hid hb0; clear hb hb0))
  have c0 := Past.blk C5.out (j := 0) rfl
  have c1 := Past.blk C5.out (j := 1) rfl
  have c2 := Past.blk C5.out (j := 2) rfl
  have c3 := Past.blk C5.out (j := 3) rfl
  have g0 := Past.blk H5.out.blk (j := 0) rfl
  refine wp_region_past_one rfl (by kernel_rfl) (by kernel_rfl) (by kernel_rfl) ?_
  repeat (go_big_quiet_step (fail))
  refine wpQuiet_nil ?_
  intro _ hw'
  obtain ⟨s9, hw''⟩ := hw'
  subst hw''
  obtain ⟨w9, h9, e9⟩ : ∃ w9, Below w5.heap.size w5 w9 ∧ w9 = s9.val := ⟨_, s9.h, rfl⟩
  rw [← e9]
  have HB9 := Lib.hid (below_and HB5.out h9)
  have H9 := Lib.hid (H5.out.kept h9)
  clear h9 e9 c0 c1 c2 c3 g0
  go_wp2_with (refine wpList_tput _ rfl _ _ _ _ rfl 60 28 gkeyed Try.underlying51 mg (grM G) rfl H9.out.gm HL.out (kV u d) (amV a) (kT u d) rfl rfl HKO.out ?_; intro v8 hp8 hg8; rw [HPT.out] at hp8; have HP8 := Lib.hid hp8; have HG8 := Lib.hid hg8; clear hp8 hg8)
  go_ret
  exact ⟨rfl, bk_g H9.out HP8.out HG8.out, (Fr.of_below HB9.out [mg, mc]).then ((Fr.of_grown HG8.out).mono (by simp))⟩
theorem bgrant_any (b mg mc : Nat) (G : List Gr) (C : List Ch) (u : ByteArray) (d : Int) (a : Am) (w : World) (h : Bk w b mg mc G C) (hd1 : -9223372036854775808 ≤ d) (hd2 : d ≤ 9223372036854775807) (hl : G.length < maxLen) :
    Calls Try.prog 8 #[ptr b, .string u, .int .i64 d, amV a] w fun e w' => e = .returned (.int .i64 (grantP G u d a).1) ∧ Bk w' b mg mc (grantP G u d a).2 C ∧ Fr [mg, mc] w w' := by
  cases hq : (askB u d && a.okB)
  · refine (bgrant_bad b mg mc G C u d a w h hd1 hd2 hq).mono fun e w' ⟨h1, h2⟩ => ?_
    unfold grantP
    rw [hq]
    exact ⟨h1, bk_stay h h2⟩
  · have h1 := hq
    rw [Bool.and_eq_true] at h1
    refine (bgrant_ok b mg mc G C u d a w h h1.1 h1.2 hl).mono fun e w' h2 => ?_
    unfold grantP
    rw [hq]
    exact h2
end Go.Proofs.Ytmgbailpmcggiaa
