/- The book's may. -/
import Derived.Test.YtmgbailpmcggiaaQCalls
namespace Go.Proofs.Ytmgbailpmcggiaa
open Go.RowKit

theorem grant_look {w : World} {mg : Nat} {G : List Gr} {u : ByteArray} {d : Int} (h : SMap Try.prog 60 w mg (grM G)) (hk : keyOf Try.prog 60 (kV u d) = some (.string (kT u d))) :
    (Instr.lookup 51 (.map (some mg)) (kV u d) false).run Try.prog w = .ok (amV (grantA G u d)) w := by
  rw [SMap.tlook (e := 28) h gkeyed Try.underlying51 (azero w) hk, grantA_look]

set_option maxRecDepth 100000 in
set_option maxHeartbeats 2000000 in
theorem bmay_any (b mg mc : Nat) (G : List Gr) (C : List Ch) (c : Ch) (less : Bool) (w : World) (h : Bk w b mg mc G C) (hi : ChI C) (hk : askB c.u c.b = true) :
    Calls Try.prog 27 #[ptr b, chV c, .bool less] w fun e w' => e = .returned (.int .i64 (mayP G C c less)) ∧ Below w.heap.size w w' := by
  obtain ⟨w3, hw3⟩ : ∃ w3, w3 = w.alloc (.cells #[.string c.n, .string c.u, .int .i64 c.b, .int .i64 c.a.c, .int .i64 c.a.r, .int .i64 c.a.d, .int .i64 c.a.p] 31) := ⟨_, rfl⟩
  obtain ⟨B, hB⟩ : ∃ B, B = w.heap.size := ⟨_, rfl⟩
  have B0 : Hid (Blk w3 B (chC c) 31) := Lib.hid (by rw [hw3, hB]; exact Blk.made w (chC c) _)
  have HBL : Hid (Below w.heap.size w w3) := Lib.hid (by rw [hw3]; exact below_alloc w _)
  have H3 := Lib.hid (h.kept HBL.out)
  have hn := askB_name hk
  have HKO : Hid (keyOf Try.prog 60 (kV c.u c.b) = some (.string (kT c.u c.b))) := Lib.hid (keyOf_k (by unfold maxLen; omega) (band_wf hn.2))
  obtain ⟨y, hy⟩ : ∃ y, y = psum (hit c.u c.b c.n) C := ⟨_, rfl⟩
  obtain ⟨z, hz⟩ : ∃ z, z = (addR y c.a).1 := ⟨_, rfl⟩
  obtain ⟨er, her⟩ : ∃ er, er = (addR y c.a).2 := ⟨_, rfl⟩
  obtain ⟨ga, hga⟩ : ∃ ga, ga = grantA G c.u c.b := ⟨_, rfl⟩
  have HUS : Hid (∀ w', Bk w' b mg mc G C → Calls Try.prog 28 #[ptr b, .string c.u, .int .i64 c.b, .string c.n] w' fun e w2 => e = .returned (.tuple #[amV y, .bool true]) ∧ Below w'.heap.size w' w2) := Lib.hid (fun w' h' => by rw [hy]; exact bused_any b mg mc G C c.u c.n c.b w' h' hi.rise.apart hi.ok (hi.hit c.u c.b c.n))
  have HAD : Hid (∀ w', Calls Try.prog 40 #[amV y, amV c.a] w' fun e w2 => e = .returned (.tuple #[amV z, .int .i64 er]) ∧ Below w'.heap.size w' w2) := Lib.hid (fun w' => by rw [hz, her]; exact add_any y c.a w')
  have HLK : Hid (∀ w', SMap Try.prog 60 w' mg (grM G) → (Instr.lookup 51 (.map (some mg)) (kV c.u c.b) false).run Try.prog w' = .ok (amV ga) w') := Lib.hid (fun w' h' => by rw [hga]; exact grant_look h' HKO.out)
  have HM : Hid (mayP G C c less = if er ≠ 0 then 9 else if (!less && !(c.b == 0) && !fitsB z ga) = true then 12 else 0) := Lib.hid (by unfold mayP; rw [← hy, ← hz, ← her, ← hga])
  have c0 := B0.out.cell (j := 0) rfl
  have c1 := B0.out.cell (j := 1) rfl
  have c2 := B0.out.cell (j := 2) rfl
  clear h hi hk hn hy hz her hga
  go_enter Try.func27, Try.ntmps27
  go_upto_region 1 with fail
  rw [← hw3, ← hB]
  clear hw3 hB
  go_upto_region 3 with (first
    | (go_at_call 28; refine (HUS.out _ H3.out).mono ?_; rintro e w4 ⟨rfl, hb⟩; have hb9 := below_alloc w4 (.cells #[.int .i64 y.c, .int .i64 y.r, .int .i64 y.d, .int .i64 y.p] 28); have HB4 := Lib.hid (below_and HBL.out hb); have H4 := Lib.hid (H3.out.kept hb); have hb0 := (B0.out.kept hb).kept hb9; have C4 := Lib.hid (B0.out.kept hb); clear c0 c1 c2; have c3 := hb0.cell (j := 3) rfl; have c4 := hb0.cell (j := 4) rfl; have c5 := hb0.cell (j := 5) rfl; have c6 := hb0.cell (j := 6) rfl; clear hb hb0 hb9)
    | (go_at_call 40; refine (HAD.out _).mono ?_; rintro e w5 ⟨rfl, hb⟩; have hba := below_and (below_alloc w4 (.cells #[.int .i64 y.c, .int .i64 y.r, .int .i64 y.d, .int .i64 y.p] 28)) hb; clear c3 c4 c5 c6; have hbz := below_and hba (below_alloc w5 (.cells #[.int .i64 z.c, .int .i64 z.r, .int .i64 z.d, .int .i64 z.p] 28)); have HB5 := Lib.hid (below_and HB4.out hbz); have H5 := Lib.hid (H4.out.kept hbz); have C5 := Lib.hid (C4.out.kept hbz); have Z5 := Lib.hid (Blk.made w5 (amC z) 28); clear hb hba hbz))
  have c1 := C5.out.cell (j := 1) rfl
  have c2 := C5.out.cell (j := 2) rfl
  by_cases he : er = 0
  · have HE := Lib.hid he
    subst he
    cases less
    · cases hb : (c.b == 0)
      · cases hf : fitsB z ga
        · have HR : Hid (mayP G C c false = 12) := Lib.hid (by rw [HM.out, if_neg (by simp), if_pos (by rw [hb, hf]; rfl)])
          have t1 : (c.b != 0) = true := by rw [bne, hb]; rfl
          go_wp2
          clear c1 c2
          have c1 := Past.blk C5.out (j := 1) rfl
          have c2 := Past.blk C5.out (j := 2) rfl
          have z0 := Past.blk Z5.out (j := 0) rfl
          have z1 := Past.blk Z5.out (j := 1) rfl
          have z2 := Past.blk Z5.out (j := 2) rfl
          have z3 := Past.blk Z5.out (j := 3) rfl
          have g0 := Past.blk H5.out.blk (j := 0) rfl
          have hlk : ∀ s : Past (w5.alloc (.cells #[.int .i64 z.c, .int .i64 z.r, .int .i64 z.d, .int .i64 z.p] 28)), (Instr.lookup 51 (.map (some mg)) (kV c.u c.b) false).run Try.prog s.val = .ok (amV ga) s.val := fun s => HLK.out _ (H5.out.gm.kept s.h)
          have HFT : Hid (∀ w, Calls Try.prog 17 #[amV z, amV ga] w fun e w' => e = .returned (.bool (fitsB z ga)) ∧ Below w.heap.size w w') := Lib.hid (fun w => fits_any z ga w)
          rw [hf] at HFT
          refine wp_region_past (by kernel_rfl) (by kernel_rfl) ?_
          repeat (go_big_quiet_step (first | (go_at_call 17; exact past_call (HFT.out _))))
          refine wpQuiet_nil ?_
          intro _ hw'
          obtain ⟨s9, hw''⟩ := hw'
          subst hw''
          obtain ⟨w9, h9, e9⟩ : ∃ w9, Below (w5.alloc (.cells #[.int .i64 z.c, .int .i64 z.r, .int .i64 z.d, .int .i64 z.p] 28)).heap.size (w5.alloc (.cells #[.int .i64 z.c, .int .i64 z.r, .int .i64 z.d, .int .i64 z.p] 28)) w9 ∧ w9 = s9.val := ⟨_, s9.h, rfl⟩
          rw [← e9]
          have HB9 := Lib.hid (below_and HB5.out h9)
          clear h9 e9 c1 c2 z0 z1 z2 z3 g0 hlk
          go_wp2
          go_ret
          exact ⟨ret_int HR.out.symm, HB9.out⟩
        · have HR : Hid (mayP G C c false = 0) := Lib.hid (by rw [HM.out, if_neg (by simp), if_neg (by rw [hb, hf]; simp)])
          have t1 : (c.b != 0) = true := by rw [bne, hb]; rfl
          go_wp2
          clear c1 c2
          have c1 := Past.blk C5.out (j := 1) rfl
          have c2 := Past.blk C5.out (j := 2) rfl
          have z0 := Past.blk Z5.out (j := 0) rfl
          have z1 := Past.blk Z5.out (j := 1) rfl
          have z2 := Past.blk Z5.out (j := 2) rfl
          have z3 := Past.blk Z5.out (j := 3) rfl
          have g0 := Past.blk H5.out.blk (j := 0) rfl
          have hlk : ∀ s : Past (w5.alloc (.cells #[.int .i64 z.c, .int .i64 z.r, .int .i64 z.d, .int .i64 z.p] 28)), (Instr.lookup 51 (.map (some mg)) (kV c.u c.b) false).run Try.prog s.val = .ok (amV ga) s.val := fun s => HLK.out _ (H5.out.gm.kept s.h)
          have HFT : Hid (∀ w, Calls Try.prog 17 #[amV z, amV ga] w fun e w' => e = .returned (.bool (fitsB z ga)) ∧ Below w.heap.size w w') := Lib.hid (fun w => fits_any z ga w)
          rw [hf] at HFT
          refine wp_region_past (by kernel_rfl) (by kernel_rfl) ?_
          repeat (go_big_quiet_step (first | (go_at_call 17; exact past_call (HFT.out _))))
          refine wpQuiet_nil ?_
          intro _ hw'
          obtain ⟨s9, hw''⟩ := hw'
          subst hw''
          obtain ⟨w9, h9, e9⟩ : ∃ w9, Below (w5.alloc (.cells #[.int .i64 z.c, .int .i64 z.r, .int .i64 z.d, .int .i64 z.p] 28)).heap.size (w5.alloc (.cells #[.int .i64 z.c, .int .i64 z.r, .int .i64 z.d, .int .i64 z.p] 28)) w9 ∧ w9 = s9.val := ⟨_, s9.h, rfl⟩
          rw [← e9]
          have HB9 := Lib.hid (below_and HB5.out h9)
          clear h9 e9 c1 c2 z0 z1 z2 z3 g0 hlk
          go_wp2
          go_ret
          exact ⟨ret_int HR.out.symm, HB9.out⟩
      · have HR : Hid (mayP G C c false = 0) := Lib.hid (by rw [HM.out, if_neg (by simp), if_neg (by rw [hb]; simp)])
        have t1 : (c.b != 0) = false := by rw [bne, hb]; rfl
        clear hb
        go_wp2
        clear c1 c2
        have c1 := Past.blk C5.out (j := 1) rfl
        have c2 := Past.blk C5.out (j := 2) rfl
        have z0 := Past.blk Z5.out (j := 0) rfl
        have z1 := Past.blk Z5.out (j := 1) rfl
        have z2 := Past.blk Z5.out (j := 2) rfl
        have z3 := Past.blk Z5.out (j := 3) rfl
        have g0 := Past.blk H5.out.blk (j := 0) rfl
        have hlk : ∀ s : Past (w5.alloc (.cells #[.int .i64 z.c, .int .i64 z.r, .int .i64 z.d, .int .i64 z.p] 28)), (Instr.lookup 51 (.map (some mg)) (kV c.u c.b) false).run Try.prog s.val = .ok (amV ga) s.val := fun s => HLK.out _ (H5.out.gm.kept s.h)
        have HFT : Hid (∀ w, Calls Try.prog 17 #[amV z, amV ga] w fun e w' => e = .returned (.bool (fitsB z ga)) ∧ Below w.heap.size w w') := Lib.hid (fun w => fits_any z ga w)
        skip
        refine wp_region_past (by kernel_rfl) (by kernel_rfl) ?_
        repeat (go_big_quiet_step (first | (go_at_call 17; exact past_call (HFT.out _))))
        refine wpQuiet_nil ?_
        intro _ hw'
        obtain ⟨s9, hw''⟩ := hw'
        subst hw''
        obtain ⟨w9, h9, e9⟩ : ∃ w9, Below (w5.alloc (.cells #[.int .i64 z.c, .int .i64 z.r, .int .i64 z.d, .int .i64 z.p] 28)).heap.size (w5.alloc (.cells #[.int .i64 z.c, .int .i64 z.r, .int .i64 z.d, .int .i64 z.p] 28)) w9 ∧ w9 = s9.val := ⟨_, s9.h, rfl⟩
        rw [← e9]
        have HB9 := Lib.hid (below_and HB5.out h9)
        clear h9 e9 c1 c2 z0 z1 z2 z3 g0 hlk
        go_wp2
        go_ret
        exact ⟨ret_int HR.out.symm, HB9.out⟩
    · have HR : Hid (mayP G C c true = 0) := Lib.hid (by rw [HM.out, if_neg (by simp), if_neg (by simp)])
      go_wp2
      clear c1 c2
      have c1 := Past.blk C5.out (j := 1) rfl
      have c2 := Past.blk C5.out (j := 2) rfl
      have z0 := Past.blk Z5.out (j := 0) rfl
      have z1 := Past.blk Z5.out (j := 1) rfl
      have z2 := Past.blk Z5.out (j := 2) rfl
      have z3 := Past.blk Z5.out (j := 3) rfl
      have g0 := Past.blk H5.out.blk (j := 0) rfl
      have hlk : ∀ s : Past (w5.alloc (.cells #[.int .i64 z.c, .int .i64 z.r, .int .i64 z.d, .int .i64 z.p] 28)), (Instr.lookup 51 (.map (some mg)) (kV c.u c.b) false).run Try.prog s.val = .ok (amV ga) s.val := fun s => HLK.out _ (H5.out.gm.kept s.h)
      have HFT : Hid (∀ w, Calls Try.prog 17 #[amV z, amV ga] w fun e w' => e = .returned (.bool (fitsB z ga)) ∧ Below w.heap.size w w') := Lib.hid (fun w => fits_any z ga w)
      skip
      refine wp_region_past (by kernel_rfl) (by kernel_rfl) ?_
      repeat (go_big_quiet_step (first | (go_at_call 17; exact past_call (HFT.out _))))
      refine wpQuiet_nil ?_
      intro _ hw'
      obtain ⟨s9, hw''⟩ := hw'
      subst hw''
      obtain ⟨w9, h9, e9⟩ : ∃ w9, Below (w5.alloc (.cells #[.int .i64 z.c, .int .i64 z.r, .int .i64 z.d, .int .i64 z.p] 28)).heap.size (w5.alloc (.cells #[.int .i64 z.c, .int .i64 z.r, .int .i64 z.d, .int .i64 z.p] 28)) w9 ∧ w9 = s9.val := ⟨_, s9.h, rfl⟩
      rw [← e9]
      have HB9 := Lib.hid (below_and HB5.out h9)
      clear h9 e9 c1 c2 z0 z1 z2 z3 g0 hlk
      go_wp2
      go_ret
      exact ⟨ret_int HR.out.symm, HB9.out⟩
  · have HR : Hid (mayP G C c less = 9) := Lib.hid (by rw [HM.out, if_pos he])
    have t1 : (er != 0) = true := by simpa using he
    go_wp2
    go_ret
    exact ⟨ret_int HR.out.symm, HB5.out⟩
end Go.Proofs.Ytmgbailpmcggiaa
