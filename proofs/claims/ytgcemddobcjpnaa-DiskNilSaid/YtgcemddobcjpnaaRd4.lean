/- The document's disk: Make, Sync, Remove (written by genrd4.py). -/
import Derived.Test.YtgcemddobcjpnaaRd3
namespace Go.Proofs.Ytgcemddobcjpnaa
open Go.RowKit

theorem RSt.sub {w w' : World} {g : Nat} {v v' : Value} {L L' : List Rf} {x : Rf} (h : RSt w w' g v v' (x :: L) L') (hx : ∀ k, x.v.ownBlock = some k → fpR g v L k ∨ w.heap.size ≤ k) : RSt w w' g v v' L L' := by
  have hc : ∀ k, fpR g v (x :: L) k → fpR g v L k ∨ w.heap.size ≤ k := fun k hk => by
    rcases hk with hk | hk | ⟨r, hr, hk⟩
    · exact .inl (.inl hk)
    · exact .inl (.inr (.inl hk))
    · rcases List.mem_cons.1 hr with rfl | hr
      · exact hx k hk
      · exact .inl (.inr (.inr ⟨r, hr, hk⟩))
  refine ⟨?_, fun k hk => (h.new k hk).elim (hc k) .inr⟩
  exact (Frp.refl (fpR g v L) w).trans h.fr hc
theorem fpR_set {g : Nat} {v : Value} {L : List Rf} {i k : Nat} {x : Rf} (h : fpR g v (L.set i x) k) : fpR g v L k ∨ x.v.ownBlock = some k := by
  rcases h with h | h | ⟨r, hr, h⟩
  · exact .inl (.inl h)
  · exact .inl (.inr (.inl h))
  · rcases List.mem_or_eq_of_mem_set hr with h1 | rfl
    · exact .inl (.inr (.inr ⟨r, h1, h⟩))
    · exact .inr h
theorem map_place {w : World} {g : Nat} {vF : Value} {D : Dk} {L : List Rf} (h : RDk w g vF D L) (s : List UInt8) : kpl Fl.key D.F s = kpl Rf.key L s := by
  rw [← h.eq]
  exact kpl_map (key := Rf.key) (key' := Fl.key) (f := Rf.f) (fun _ => rfl) L s
/-- a file in place of the one at its place -/
theorem put_set {w : World} {g : Nat} {vF : Value} {D : Dk} {L : List Rf} (h : RDk w g vF D L) (hr : KRise Fl.key D.F) {s : List UInt8} {r : Rf} (hp : kfnd Rf.key L s = some r) {f : Fl} (hf : f.key = s) : kput Fl.key D.F f = D.F.set (kpl Rf.key L s) f := by
  rw [kput_same (s := s) hr (by rw [h.find, hp]; rfl) hf, map_place h]
/-- a file that was not there -/
theorem put_new {w : World} {g : Nat} {vF : Value} {D : Dk} {L : List Rf} (h : RDk w g vF D L) (hr : KRise Fl.key D.F) {f : Fl} (hp : kfnd Rf.key L f.key = none) : kput Fl.key D.F f = D.F.take (kpl Rf.key L f.key) ++ f :: D.F.drop (kpl Rf.key L f.key) := by
  have hn : ∀ e ∈ D.F, e.key ≠ f.key := kfnd_none (by rw [h.find, hp]; rfl)
  unfold kput
  rw [krem_no hn, kins_places hr hn, map_place h]
/-- a file is no more -/
theorem cut_erase {w : World} {g : Nat} {vF : Value} {D : Dk} {L : List Rf} (h : RDk w g vF D L) (hr : KRise Fl.key D.F) {s : List UInt8} {r : Rf} (hp : kfnd Rf.key L s = some r) : krem Fl.key D.F s = D.F.eraseIdx (kpl Rf.key L s) := by
  rw [krem_place hr (by rw [h.find, hp]; rfl), map_place h]
theorem rcases_may (D : Dk) : D.may = true ∨ D.may = false := by cases D.may <;> simp

section
variable (g : Nat) (vF : Value) (D : Dk) (L : List Rf) (M : Nat) (N : Int) (s : ByteArray) (w : World) (h : RDk w g vF D L) (hi : DkI D M N) (hM : M ≤ 100000) (hN : N < 4611686018427387904) (hs : s.size ≤ maxLen)
include h hi hM hN hs

/-! Make -/
set_option maxRecDepth 100000 in
set_option maxHeartbeats 2000000 in
theorem rmake_any : Calls Try.prog 46 #[ptr g, .string s] w fun e w' => e = .returned (.int .i64 (D.make s).1) ∧ RdTo w w' g vF L (D.make s).2 := by
  have hb0 := below_alloc w (.cells #[.string s] 9)
  have HB0 := Lib.hid hb0
  have h0 := h.kept hb0
  have H := Lib.hid h
  have H0 := Lib.hid h0
  have hr := hi.rise
  have HLN : Hid (L.length ≤ 100000) := Lib.hid (by rw [h.len]; have := hi.len; omega)
  by_cases ha : D.ask [s] = 0
  · have HA := Lib.hid (rask0 [s] _ h0 (row1r w s 9) (by simpa using hs) ha)
    have ha1 : ¬ (D.ask [s] ≠ 0) := by rw [ha]; simp
    cases hp : kfnd Rf.key L s.data.toList with
    | some r =>
      have HF : Hid (D.make s = (7, D)) := Lib.hid (by unfold Dk.make; rw [if_neg ha1, if_pos (by rw [h.get_some hp]; rfl)])
      have HP := Lib.hid (place_yes h0 hr hp)
      clear h h0 hi hM hN hs hr ha ha1 hp hb0
      go_enter Try.func46, Try.ntmps46
      go_wp2_with (first
        | (go_at_call 63; refine HA.out.mono ?_; rintro e w3 ⟨rfl, rfl⟩)
        | (go_at_call 64; refine HP.out.mono ?_; rintro e w3 ⟨rfl, rfl⟩))
      go_ret
      rw [HF.out]
      exact ⟨rfl, RdTo.same H.out HB0.out⟩
    | none =>
      have HP := Lib.hid (place_no h0 hr hp)
      rcases rcases_may D with hm | hm
      · have HF : Hid (D.make s = (0, D.stepped.put ⟨s, [], 0⟩)) := Lib.hid (by unfold Dk.make; rw [if_neg ha1, if_neg (by rw [h.get_none hp]; simp), if_pos hm])
        have HST := Lib.hid (rstep_yes g vF D L M N _ h0 hi hN hm)
        have HPUT : Hid (∀ w5, RDk w5 g vF D.stepped L → Calls Try.prog 66 #[ptr g, .agg #[.string s, .slice none 0 0, .int .i64 0]] w5 fun e w' => e = .returned (.tuple #[]) ∧ ∃ vF' L', RDk w' g vF' (D.stepped.put ⟨s, [], 0⟩) L' ∧ RSt w5 w' g vF vF' L L') := Lib.hid (fun w5 h5 => by
          have := rput_any g vF D.stepped (D.stepped.put ⟨s, [], 0⟩) L ⟨⟨s, [], 0⟩, .slice none 0 0⟩ w5 h5 hr (World.ownsRow_nil _ _ _ _) HLN.out (put_new (f := ⟨s, [], 0⟩) h5 hr hp) (fun _ => rfl)
          exact this.mono fun e w' ⟨he, v', h1, h2⟩ => ⟨he, v', _, h1, h2.sub (fun k hk => by cases hk)⟩)
        clear h h0 hi hM hN hs hr ha ha1 hp hb0 hm
        go_enter Try.func46, Try.ntmps46
        go_wp2_with (first
          | (go_at_call 63; refine HA.out.mono ?_; rintro e w3 ⟨rfl, rfl⟩)
          | (go_at_call 64; refine HP.out.mono ?_; rintro e w3 ⟨rfl, rfl⟩)
          | (go_at_call 65; refine HST.out.mono ?_; rintro e w5 ⟨rfl, h5, s5⟩; have H5 := Lib.hid h5; have S5 := Lib.hid s5; clear h5 s5)
          | (go_at_call 66; refine (HPUT.out _ H5.out).mono ?_; rintro e w6 ⟨rfl, v6, L6, h6, s6⟩; have H6 := Lib.hid h6; have S6 := Lib.hid s6; clear h6 s6))
        go_ret
        rw [HF.out]
        exact ⟨rfl, v6, L6, H6.out, (S5.out.trans S6.out).box HB0.out⟩
      · have HF : Hid (D.make s = (10, D.dead)) := Lib.hid (by unfold Dk.make; rw [if_neg ha1, if_neg (by rw [h.get_none hp]; simp), if_neg (by rw [hm]; simp)])
        have HST := Lib.hid (rstep_no g vF D L _ h0 hm)
        clear h h0 hi hM hN hs hr ha ha1 hp hb0 hm
        go_enter Try.func46, Try.ntmps46
        go_wp2_with (first
          | (go_at_call 63; refine HA.out.mono ?_; rintro e w3 ⟨rfl, rfl⟩)
          | (go_at_call 64; refine HP.out.mono ?_; rintro e w3 ⟨rfl, rfl⟩)
          | (go_at_call 65; refine HST.out.mono ?_; rintro e w5 ⟨rfl, h5, s5⟩; have H5 := Lib.hid h5; have S5 := Lib.hid s5; clear h5 s5))
        go_ret
        rw [HF.out]
        exact ⟨rfl, vF, L, H5.out, S5.out.box HB0.out⟩
  · have HA := Lib.hid (rasked_any g vF D L [s] _ _ h0 (row1r w s 9) (by simpa using hs))
    have HF : Hid (D.make s = (D.ask [s], D)) := Lib.hid (by unfold Dk.make; rw [if_pos ha])
    obtain ⟨q, hq⟩ : ∃ q, q = D.ask [s] := ⟨_, rfl⟩
    rw [← hq] at ha HF HA
    have q0 : (q != 0) = true := by simpa using ha
    clear h h0 hi hM hN hs hr ha hq hb0
    go_enter Try.func46, Try.ntmps46
    go_wp2_with (go_at_call 63; refine HA.out.mono ?_; rintro e w3 ⟨rfl, rfl⟩)
    go_ret
    rw [HF.out]
    exact ⟨rfl, RdTo.same H.out HB0.out⟩

/-! Sync -/
set_option maxRecDepth 100000 in
set_option maxHeartbeats 2000000 in
theorem rsync_any : Calls Try.prog 48 #[ptr g, .string s] w fun e w' => e = .returned (.int .i64 (D.sync s).1) ∧ RdTo w w' g vF L (D.sync s).2 := by
  have hb0 := below_alloc w (.cells #[.string s] 9)
  have HB0 := Lib.hid hb0
  have h0 := h.kept hb0
  have H := Lib.hid h
  have H0 := Lib.hid h0
  have hr := hi.rise
  have HLN : Hid (L.length ≤ 100000) := Lib.hid (by rw [h.len]; have := hi.len; omega)
  by_cases ha : D.ask [s] = 0
  · have HA := Lib.hid (rask0 [s] _ h0 (row1r w s 9) (by simpa using hs) ha)
    have ha1 : ¬ (D.ask [s] ≠ 0) := by rw [ha]; simp
    cases hp : kfnd Rf.key L s.data.toList with
    | none =>
      have HF : Hid (D.sync s = (6, D)) := Lib.hid (by unfold Dk.sync; rw [if_neg ha1, h.get_none hp])
      have HP := Lib.hid (place_no h0 hr hp)
      clear h h0 hi hM hN hs hr ha ha1 hp hb0
      go_enter Try.func48, Try.ntmps48
      go_wp2_with (first
        | (go_at_call 63; refine HA.out.mono ?_; rintro e w3 ⟨rfl, rfl⟩)
        | (go_at_call 64; refine HP.out.mono ?_; rintro e w3 ⟨rfl, rfl⟩))
      go_ret
      rw [HF.out]
      exact ⟨rfl, RdTo.same H.out HB0.out⟩
    | some r =>
      have HP := Lib.hid (place_yes h0 hr hp)
      obtain ⟨hk, he⟩ := kfnd_place (h.rise hr) hp
      obtain ⟨k, hkk⟩ : ∃ k, k = kpl Rf.key L s.data.toList := ⟨_, rfl⟩
      simp only [← hkk] at hk he HP
      rcases rcases_may D with hm | hm
      · have HF : Hid (D.sync s = (0, D.stepped.put { r.f with s := r.f.b.length })) := Lib.hid (by unfold Dk.sync; rw [if_neg ha1, h.get_some hp]; simp only; rw [if_pos hm])
        have HST := Lib.hid (rstep_yes g vF D L M N _ h0 hi hN hm)
        have hmem := (kfnd_mem hp).1
        obtain ⟨pv, pc, hv, hpc, -⟩ := own_slice (h0.body r hmem)
        obtain ⟨q, c, rfl, hc, -, -, -⟩ := h0.at hk
        have HSET : Hid (∀ w6, RDk w6 g (.slice (some ⟨q, 0, none⟩) L.length c) D.stepped L → ∃ L', RDk (w6.setCell ⟨q, k * 3 + 2, none⟩ (.int .i64 (r.f.b.length : Int))) g (.slice (some ⟨q, 0, none⟩) L.length c) (D.stepped.put { r.f with s := r.f.b.length }) L' ∧ RSt w6 (w6.setCell ⟨q, k * 3 + 2, none⟩ (.int .i64 (r.f.b.length : Int))) g (.slice (some ⟨q, 0, none⟩) L.length c) (.slice (some ⟨q, 0, none⟩) L.length c) L L') := Lib.hid (fun w6 h6 => by
          have hset := h6.setAt (i := k) (j := 2) (u := .int .i64 (r.f.b.length : Int)) (x := ⟨{ r.f with s := r.f.b.length }, r.v⟩) (D' := D.stepped.put { r.f with s := r.f.b.length }) hk (by omega) (by rw [he]; rfl) rfl (h6.body r hmem) (by rw [hkk]; exact put_set h6 hr hp (kfnd_mem hp).2) rfl
          refine ⟨_, hset, ⟨((Frp.refl (fpR g (.slice (some ⟨q, 0, none⟩) L.length c) L) w6).set (p := ⟨q, k * 3 + 2, none⟩) (.inr (.inl rfl)) _), fun y hy => ?_⟩⟩
          rcases fpR_set hy with h1 | h1
          · exact .inl h1
          · exact .inl (.inr (.inr ⟨r, hmem, h1⟩)))
        have HFC : Hid (∀ w6, RDk w6 g (.slice (some ⟨q, 0, none⟩) L.length c) D.stepped L → w6.cell? ⟨g, 1, none⟩ = some (.slice (some ⟨q, 0, none⟩) L.length c) ∧ w6.cell? ⟨q, k * 3 + 1, none⟩ = some (.slice pv r.f.b.length pc) ∧ w6.cell? ⟨q, k * 3 + 2, none⟩ = some (.int .i64 (r.f.s : Int)) ∧ w6.frozen? ⟨q, k * 3 + 2, none⟩ = false) := Lib.hid (fun w6 h6 => by
          obtain ⟨q2, c2, e, -, -, e1, e2⟩ := h6.at hk
          simp only [Value.slice.injEq, Option.some.injEq, Addr.mk.injEq, and_true, true_and] at e
          obtain ⟨rfl, rfl⟩ := e
          rw [he] at e1 e2
          exact ⟨h6.blk.cell (j := 1) rfl, by rw [← hv]; exact e1, e2, own_free h6.row _⟩)
        have b0 : (0 : Int) ≤ (k : Int) := by omega
        have i1 : (k : Int) < (L.length : Int) := by omega
        clear h h0 hi hM hN hs hr ha ha1 hp hb0 hm  hk he hkk hmem hv
        go_enter Try.func48, Try.ntmps48
        go_upto_region 9 with (first
          | (go_at_call 63; refine HA.out.mono ?_; rintro e w3 ⟨rfl, rfl⟩)
          | (go_at_call 64; refine HP.out.mono ?_; rintro e w3 ⟨rfl, rfl⟩)
          | (go_at_call 65; refine HST.out.mono ?_; rintro e w5 ⟨rfl, h5, s5⟩; have H5 := Lib.hid h5; have S5 := Lib.hid s5; clear h5 s5))
        have q0 := Past.cell (HFC.out _ H5.out).1
        have q1 := Past.cell (HFC.out _ H5.out).2.1
        refine wp_region_past_one rfl (by kernel_rfl) (by kernel_rfl) (by kernel_rfl) ?_
        repeat (go_big_quiet_step (fail))
        refine wpQuiet_nil ?_
        intro _ hw'
        obtain ⟨s', hw''⟩ := hw'
        subst hw''
        obtain ⟨w6, h6, e6⟩ : ∃ w6, Below w5.heap.size w5 w6 ∧ w6 = s'.val := ⟨_, s'.h, rfl⟩
        rw [← e6]
        have H6 := Lib.hid (H5.out.kept h6)
        have S6 := Lib.hid (S5.out.trans (RSt.of_below h6))
        obtain ⟨-, -, d2, f2⟩ := HFC.out _ H6.out
        clear h6 e6 q0 q1
        go_wp2
        go_ret
        rw [HF.out]
        obtain ⟨L', h7, s7⟩ := HSET.out _ H6.out
        exact ⟨rfl, _, L', h7, (S6.out.trans s7).box HB0.out⟩
      · have HF : Hid (D.sync s = (10, D.dead)) := Lib.hid (by unfold Dk.sync; rw [if_neg ha1, h.get_some hp]; simp only; rw [if_neg (by rw [hm]; simp)])
        have HST := Lib.hid (rstep_no g vF D L _ h0 hm)
        clear h h0 hi hM hN hs hr ha ha1 hp hb0 hm  hk he hkk
        go_enter Try.func48, Try.ntmps48
        go_wp2_with (first
          | (go_at_call 63; refine HA.out.mono ?_; rintro e w3 ⟨rfl, rfl⟩)
          | (go_at_call 64; refine HP.out.mono ?_; rintro e w3 ⟨rfl, rfl⟩)
          | (go_at_call 65; refine HST.out.mono ?_; rintro e w5 ⟨rfl, h5, s5⟩; have H5 := Lib.hid h5; have S5 := Lib.hid s5; clear h5 s5))
        go_ret
        rw [HF.out]
        exact ⟨rfl, vF, L, H5.out, S5.out.box HB0.out⟩
  · have HA := Lib.hid (rasked_any g vF D L [s] _ _ h0 (row1r w s 9) (by simpa using hs))
    have HF : Hid (D.sync s = (D.ask [s], D)) := Lib.hid (by unfold Dk.sync; rw [if_pos ha])
    obtain ⟨q, hq⟩ : ∃ q, q = D.ask [s] := ⟨_, rfl⟩
    rw [← hq] at ha HF HA
    have q0 : (q != 0) = true := by simpa using ha
    clear h h0 hi hM hN hs hr ha hq hb0
    go_enter Try.func48, Try.ntmps48
    go_wp2_with (go_at_call 63; refine HA.out.mono ?_; rintro e w3 ⟨rfl, rfl⟩)
    go_ret
    rw [HF.out]
    exact ⟨rfl, RdTo.same H.out HB0.out⟩

/-! Remove -/
set_option maxRecDepth 100000 in
set_option maxHeartbeats 2000000 in
theorem rremove_any : Calls Try.prog 50 #[ptr g, .string s] w fun e w' => e = .returned (.int .i64 (D.remove s).1) ∧ RdTo w w' g vF L (D.remove s).2 := by
  have hb0 := below_alloc w (.cells #[.string s] 9)
  have HB0 := Lib.hid hb0
  have h0 := h.kept hb0
  have H := Lib.hid h
  have H0 := Lib.hid h0
  have hr := hi.rise
  have HLN : Hid (L.length ≤ 100000) := Lib.hid (by rw [h.len]; have := hi.len; omega)
  by_cases ha : D.ask [s] = 0
  · have HA := Lib.hid (rask0 [s] _ h0 (row1r w s 9) (by simpa using hs) ha)
    have ha1 : ¬ (D.ask [s] ≠ 0) := by rw [ha]; simp
    cases hp : kfnd Rf.key L s.data.toList with
    | none =>
      have HF : Hid (D.remove s = (6, D)) := Lib.hid (by unfold Dk.remove; rw [if_neg ha1, h.get_none hp])
      have HP := Lib.hid (place_no h0 hr hp)
      clear h h0 hi hM hN hs hr ha ha1 hp hb0
      go_enter Try.func50, Try.ntmps50
      go_wp2_with (first
        | (go_at_call 63; refine HA.out.mono ?_; rintro e w3 ⟨rfl, rfl⟩)
        | (go_at_call 64; refine HP.out.mono ?_; rintro e w3 ⟨rfl, rfl⟩))
      go_ret
      rw [HF.out]
      exact ⟨rfl, RdTo.same H.out HB0.out⟩
    | some r =>
      have HP := Lib.hid (place_yes h0 hr hp)
      obtain ⟨hk, he⟩ := kfnd_place (h.rise hr) hp
      obtain ⟨k, hkk⟩ : ∃ k, k = kpl Rf.key L s.data.toList := ⟨_, rfl⟩
      simp only [← hkk] at hk he HP
      rcases rcases_may D with hm | hm
      · have HF : Hid (D.remove s = (0, D.stepped.cut s)) := Lib.hid (by unfold Dk.remove; rw [if_neg ha1, h.get_some hp]; simp only; rw [if_pos hm])
        have HST := Lib.hid (rstep_yes g vF D L M N _ h0 hi hN hm)
        have HCUT : Hid (∀ w5, RDk w5 g vF D.stepped L → Calls Try.prog 68 #[ptr g, .int .i64 (k : Int)] w5 fun e w' => e = .returned (.tuple #[]) ∧ ∃ vF', RDk w' g vF' (D.stepped.cut s) (L.eraseIdx k) ∧ RSt w5 w' g vF vF' L (L.eraseIdx k) ∧ Frp (fun j => j = g) w5 w') := Lib.hid (fun w5 h5 => rcut_any g k vF D.stepped (D.stepped.cut s) L w5 h5 hk HLN.out (by rw [hkk]; exact cut_erase h5 hr hp) (fun _ => rfl))
        clear h h0 hi hM hN hs hr ha ha1 hp hb0 hm  hk he hkk
        go_enter Try.func50, Try.ntmps50
        go_wp2_with (first
          | (go_at_call 63; refine HA.out.mono ?_; rintro e w3 ⟨rfl, rfl⟩)
          | (go_at_call 64; refine HP.out.mono ?_; rintro e w3 ⟨rfl, rfl⟩)
          | (go_at_call 65; refine HST.out.mono ?_; rintro e w5 ⟨rfl, h5, s5⟩; have H5 := Lib.hid h5; have S5 := Lib.hid s5; clear h5 s5)
          | (go_at_call 68; refine (HCUT.out _ H5.out).mono ?_; rintro e w6 ⟨rfl, v6, h6, s6, -⟩; have H6 := Lib.hid h6; have S6 := Lib.hid s6; clear h6 s6))
        go_ret
        rw [HF.out]
        exact ⟨rfl, v6, _, H6.out, (S5.out.trans S6.out).box HB0.out⟩
      · have HF : Hid (D.remove s = (10, D.dead)) := Lib.hid (by unfold Dk.remove; rw [if_neg ha1, h.get_some hp]; simp only; rw [if_neg (by rw [hm]; simp)])
        have HST := Lib.hid (rstep_no g vF D L _ h0 hm)
        clear h h0 hi hM hN hs hr ha ha1 hp hb0 hm  hk he hkk
        go_enter Try.func50, Try.ntmps50
        go_wp2_with (first
          | (go_at_call 63; refine HA.out.mono ?_; rintro e w3 ⟨rfl, rfl⟩)
          | (go_at_call 64; refine HP.out.mono ?_; rintro e w3 ⟨rfl, rfl⟩)
          | (go_at_call 65; refine HST.out.mono ?_; rintro e w5 ⟨rfl, h5, s5⟩; have H5 := Lib.hid h5; have S5 := Lib.hid s5; clear h5 s5))
        go_ret
        rw [HF.out]
        exact ⟨rfl, vF, L, H5.out, S5.out.box HB0.out⟩
  · have HA := Lib.hid (rasked_any g vF D L [s] _ _ h0 (row1r w s 9) (by simpa using hs))
    have HF : Hid (D.remove s = (D.ask [s], D)) := Lib.hid (by unfold Dk.remove; rw [if_pos ha])
    obtain ⟨q, hq⟩ : ∃ q, q = D.ask [s] := ⟨_, rfl⟩
    rw [← hq] at ha HF HA
    have q0 : (q != 0) = true := by simpa using ha
    clear h h0 hi hM hN hs hr ha hq hb0
    go_enter Try.func50, Try.ntmps50
    go_wp2_with (go_at_call 63; refine HA.out.mono ?_; rintro e w3 ⟨rfl, rfl⟩)
    go_ret
    rw [HF.out]
    exact ⟨rfl, RdTo.same H.out HB0.out⟩
end
end Go.Proofs.Ytgcemddobcjpnaa
