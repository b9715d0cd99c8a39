/- the walk of ClockOnce -/
import Derived.Test.YtmgcigohfccgeaaOncePlain2
import Derived.Test.YtmgcigohfccgeaaWatch3
import Derived.Test.YtmgcigohfccgeaaCLives
import Derived.Test.YtmgcigohfccgeaaPick
import Derived.Deep.OwnRows
namespace Go.Proofs.Ytmgcigohfccgeaa
open Go.RowKit

set_option maxRecDepth 100000 in
set_option maxHeartbeats 600000 in
theorem clockOnce_big (v1 v2 v3 : Value) (ns : List ByteArray) (ts th : List Int) (w : World) (h1 : Texts w v1 ns) (h3 : Row w v3 1 th.length (th.map (Value.int .i64))) (hb : 200 < ns.length ∨ 200 < th.length) :
    Calls Try.prog 6 #[v1, v2, v3] w fun e w' => e = .returned (.bool true) ∧ Below w.heap.size w w' := by
  obtain ⟨p1, c1, rfl, -⟩ := h1.parts
  obtain ⟨p3, c3, rfl, -⟩ := h3
  go_enter Try.func6, Try.ntmps6
  by_cases hl : 200 < ns.length
  · clear hb
    go_wp2_with (go_at_call 21; refine (clives _).mono ?_; rintro e w1 ⟨rfl, hb⟩; have HB := Lib.hid hb; clear hb)
    go_ret
    exact ⟨rfl, HB.out⟩
  · have hl2 : 200 < th.length := by omega
    clear hb
    go_wp2_with (go_at_call 21; refine (clives _).mono ?_; rintro e w1 ⟨rfl, hb⟩; have HB := Lib.hid hb; clear hb)
    go_ret
    exact ⟨rfl, HB.out⟩

theorem info_int'' : (Try.prog.info? 3).map (fun i => (i.zero, i.size, i.bytes)) = some (some (.int .i64 0), 1, 8) := by kernel_rfl

set_option maxRecDepth 100000 in
set_option maxHeartbeats 600000 in
theorem clockOnce_in (v1 v2 v3 : Value) (ns : List ByteArray) (ts th : List Int) (w : World) (h1 : Texts w v1 ns) (h2 : Row w v2 1 ts.length (ts.map (Value.int .i64))) (h3 : Row w v3 1 th.length (th.map (Value.int .i64))) (l1 : ns.length ≤ 200) (l3 : th.length ≤ 200) :
    Calls Try.prog 6 #[v1, v2, v3] w fun e w' => e = .returned (.bool true) ∧ Below w.heap.size w w' := by
  have H1 := Lib.hid h1
  have H2 := Lib.hid h2
  have H3 := Lib.hid h3
  obtain ⟨p1, c1, rfl, -⟩ := h1.parts
  obtain ⟨p2, c2, rfl, -⟩ := h2
  obtain ⟨p3, c3, rfl, -⟩ := h3
  have HMK := Lib.hid (fun w2 => run_make_row' (P := Try.prog) 24 3 (.int .i64 0) 8 Try.underlying24 info_int'' rfl .i64 .i64 ns.length (by omega) (by omega) w2)
  clear h1
  go_enter Try.func6, Try.ntmps6
  go_wp2_with (first
    | (go_at_call 21; refine (clives _).mono ?_; rintro e w1 ⟨rfl, hb⟩; have HB := Lib.hid hb; clear hb)
    | (go_at_call 27; refine (wnew_any _).mono ?_; rintro e w2 ⟨b, v, rfl, hb, hv, hw, hbl⟩; have HX := Lib.hid hb; have HV := Lib.hid hv; have HW2 := Lib.hid hw; have HB2 := Lib.hid (below_and HB.out hbl); have hmk := HMK.out w2; clear hb hv hw hbl))
  obtain ⟨G, hG⟩ : ∃ G, G = w2.heap.size := ⟨_, rfl⟩
  have hmade : (madeCells #[Value.int .i64 0] ns.length) = ((List.replicate ns.length (0 : Int)).map (Value.int .i64)).toArray := by
    apply Array.ext
    · simp [madeCells]
    · intro i h1 h2; simp [madeCells, Nat.mod_one]
  rw [hmade]
  obtain ⟨w3, hw3⟩ : ∃ w3, w3 = w2.alloc (.cells ((List.replicate ns.length (0 : Int)).map (Value.int .i64)).toArray 3) := ⟨_, rfl⟩
  have B3 : Hid (Blk w3 G ((List.replicate ns.length (0 : Int)).map (Value.int .i64)) 3) := Lib.hid (by rw [hw3, hG]; exact Blk.made w2 _ _)
  have W3 : Hid (Wt w3 b 0 v []) := Lib.hid (by rw [hw3]; exact HW2.out.kept (below_alloc w2 _))
  have HB3 : Hid (Below w.heap.size w w3) := Lib.hid (by rw [hw3]; exact below_and HB2.out (below_alloc w2 _))
  have HGb : Hid (G ≠ b ∧ w.heap.size ≤ G ∧ w.heap.size ≤ b) := Lib.hid ⟨fun e => absurd HW2.out.blk.lt (by omega), by rw [hG]; exact HB2.out.size, Nat.le_trans HB.out.size HX.out⟩
  rw [← hw3, ← hG]
  clear hw3 hG hmade hmk
  go_loopw [9] (fun i wc => ∃ (k : Nat) (X : List Int) (v2 : Value) (L : List End), k ≤ ns.length ∧ i = .int .i64 (k : Int) ∧ X.length = k ∧ L.length ≤ k ∧ Hid (Blk wc G ((X ++ List.replicate (ns.length - k) 0).map (Value.int .i64)) 3) ∧ Hid (Wt wc b 0 v2 L) ∧ Hid (v2.ownBlock ≠ some G) ∧ Hid (Below w.heap.size w wc) ∧ Hid (∀ g, v2.ownBlock = some g → w.heap.size ≤ g) ∧ Hid (Hp.IsH elt L L.length ∧ ND L ∧ L.Perm (act (ns.take k) X)) ∧ Hid (∀ x ∈ X, 0 ≤ x ∧ x ≤ 1073741824)) (fun i _ => ns.length - (intOf i).toNat)
  case atStart => exact ⟨0, [], v, [], Nat.zero_le _, rfl, rfl, Nat.le_refl _, by simpa using B3, W3, by rw [HV.out]; simp [Hid], HB3, Lib.hid (fun g hg => by rw [HV.out] at hg; cases hg), Lib.hid ⟨fun i _ h => by simp at h, by simp [ND], by simp [act_nil]⟩, Lib.hid (fun x hx => by simp at hx)⟩
  case round =>
    obtain ⟨k, X, v2, L, hk, rfl, hX, hL, HBl, HW, HD, HB4, HF, HI, HXb⟩ := hrel
    by_cases hlt : k < ns.length
    · obtain ⟨q1, o1, rfl, e1⟩ := (H1.out.below HB4.out).textAt hlt
      obtain ⟨s, hs⟩ : ∃ s, s = ns[k] := ⟨_, rfl⟩
      rw [← hs] at e1
      have HSK := Lib.hid hs
      have hact0 : Hid (act (ns.take (k + 1)) (X ++ [0]) = act (ns.take k) X) := Lib.hid (by rw [List.take_succ_eq_append_getElem hlt, act_append (by simp; omega)]; simp [act])
      have hrep : Hid (List.replicate (ns.length - k) (0 : Int) = 0 :: List.replicate (ns.length - (k + 1)) 0) := Lib.hid (by rw [← List.replicate_succ]; congr 1; omega)
      have HBl0 : Hid (Blk wr G (((X ++ [0]) ++ List.replicate (ns.length - (k + 1)) 0).map (Value.int .i64)) 3) := Lib.hid (by have := HBl.out; rw [hrep.out] at this; simpa using this)
      clear hs
      by_cases hts : k < ts.length
      · obtain ⟨q4, o4, rfl, c6⟩ := (H2.out.below HB4.out).num hts
        obtain ⟨n, hn⟩ : ∃ n, n = ts[k] := ⟨_, rfl⟩
        rw [← hn] at c6
        clear hn
        by_cases hbad : n < 1 ∨ 1073741824 < n ∨ s.toList.isEmpty = true
        · have HBAD := Lib.hid hbad
          clear hbad
          go_wp2_with (go_at_call 28; refine (wset_bad b 0 _ v2 L s _ HW.out HBAD.out).mono ?_; rintro e w5 ⟨rfl, rfl⟩)
          go_roundw
          case rel => exact ⟨k + 1, X ++ [0], v2, L, hlt, by go_num, by simp [hX], by omega, HBl0, HW, HD, HB4, HF, Lib.hid (by rw [hact0.out]; exact HI.out), Lib.hid (fun x hx => by rcases List.mem_append.1 hx with h | h; exact HXb.out x h; simp at h; omega)⟩
          case measure => simp [intOf]; omega
        · have hn1 : 1 ≤ n := by omega
          have hn2 : n ≤ 1073741824 := by omega
          have hse : ¬ s.toList.isEmpty = true := fun h => hbad (.inr (.inr h))
          clear hbad
          have hse2 : s.toList.isEmpty = false := by simpa using hse
          have HGK : Hid (((X ++ List.replicate (ns.length - k) 0).map (Value.int .i64))[k]? = some (.int .i64 0)) := Lib.hid (by rw [hrep.out, ← hX]; simp)
          have HBk : Hid (Blk wr G ((X ++ List.replicate (ns.length - k) 0).map (Value.int .i64)) 3) := HBl
          go_wp2_with (go_at_call 28; refine (wset_ok b 0 _ v2 L s _ HW.out (by omega) (by omega) (by omega) hse2 (by omega) (by omega)).mono ?_; rintro e w5 ⟨rfl, v5, hw, hs5⟩; have HW5 := Lib.hid hw; have HS5 := Lib.hid hs5; have HB5 : Hid (Blk w5 G ((X ++ List.replicate (ns.length - k) 0).map (Value.int .i64)) 3) := Lib.hid (HBk.out.fr hs5.fr (fun hm => by rcases mem_fpW.1 hm with h | h; exact HGb.out.1 h; exact HD.out h)); have g5 := HB5.out.cell (j := k) (u := .int .i64 0) HGK.out; have f5 := HB5.out.free k; clear hw hs5)
          obtain ⟨w6, hw6⟩ : ∃ w6, w6 = w5.setCell ⟨G, k, none⟩ (.int .i64 n) := ⟨_, rfl⟩
          have HBl6 : Hid (Blk w6 G ((mixC s.data.toList ns X (n :: List.replicate (ns.length - (k + 1)) 0) 0).map (Value.int .i64)) 3) := Lib.hid (by
            rw [hw6, mixC_zero]
            have := HB5.out.set k (.int .i64 n)
            rw [hrep.out] at this
            rw [show (X ++ 0 :: List.replicate (ns.length - (k + 1)) (0 : Int)).map (Value.int .i64) = X.map (Value.int .i64) ++ (.int .i64 0 :: (List.replicate (ns.length - (k + 1)) (0 : Int)).map (Value.int .i64)) from by simp, List.set_append_right _ _ (by simp; omega)] at this
            simpa [hX] using this)
          have HD5 : Hid (v5.ownBlock ≠ some G) := Lib.hid (fun e => by
            rcases HS5.out.new G e with h | h
            · exact HD.out h
            · have := HBl.out.lt; omega)
          have HW6 : Hid (Wt w6 b 0 v5 (setL L s n)) := Lib.hid (by
            rw [hw6]
            have := HW5.out
            rw [show (0 : Int) + n = n from by omega] at this
            exact this.fr ((Fr.refl [G] _).set (p := ⟨G, k, none⟩) (by simp) _) (fun q hq hm => by
              rcases mem_fpW.1 hq with rfl | h
              · simp at hm; exact HGb.out.1 hm.symm
              · simp at hm; subst hm; exact HD5.out h))
          have HB6 : Hid (Below w.heap.size w w6) := Lib.hid (by
            rw [hw6]
            have h1 : Fr (fpW b v2) wr w5 := HS5.out.fr
            have h2 : Below w.heap.size wr w5 := h1.below (fun q hq => by
              rcases mem_fpW.1 hq with rfl | h
              · exact HGb.out.2.2
              · exact HF.out q h) HB4.out.size
            exact (HB4.out.trans h2).setCell HGb.out.2.1 _)
          have HF6 : Hid (∀ g, v5.ownBlock = some g → w.heap.size ≤ g) := Lib.hid (fun g hg => by
            rcases HS5.out.new g hg with h | h
            · exact HF.out g h
            · exact Nat.le_trans HB4.out.size h)
          rw [← hw6]
          clear hw6 g5 f5 HB5 HS5 HW5 e1 HGK HBk
          go_loopw [11] (fun i wc => ∃ m : Nat, m ≤ k ∧ i = .int .i64 (m : Int) ∧ Hid (Blk wc G ((mixC s.data.toList ns X (n :: List.replicate (ns.length - (k + 1)) 0) m).map (Value.int .i64)) 3) ∧ Hid (Wt wc b 0 v5 (setL L s n)) ∧ Hid (Below w.heap.size w wc)) (fun i _ => k - (intOf i).toNat)
          case atStart => exact ⟨0, Nat.zero_le _, rfl, HBl6, HW6, HB6⟩
          case round =>
            obtain ⟨m, hm, rfl, HBm, HWm, HBw⟩ := hrel
            by_cases hmk : m < k
            · obtain ⟨q2, o2, eq2, c3⟩ := (H1.out.below HBw.out).textAt (i := m) (by omega)
              simp only [Option.some.injEq, Addr.mk.injEq, and_true] at eq2
              obtain ⟨rfl, rfl⟩ := eq2
              obtain ⟨q3, o3, eq3, c4⟩ := (H1.out.below HBw.out).textAt (i := k) hlt
              simp only [Option.some.injEq, Addr.mk.injEq, and_true] at eq3
              obtain ⟨rfl, rfl⟩ := eq3
              rw [← HSK.out] at c4
              obtain ⟨sm, hsm⟩ : ∃ sm, sm = ns[m] := ⟨_, rfl⟩
              rw [← hsm] at c3
              cases hq : (sm.data.toList == s.data.toList)
              · have t1 : (sm.toList == s.toList) = false := by rw [Lib.toList_data, Lib.toList_data]; exact hq
                have HK : Hid (mixC s.data.toList ns X (n :: List.replicate (ns.length - (k + 1)) 0) m = mixC s.data.toList ns X (n :: List.replicate (ns.length - (k + 1)) 0) (m + 1)) := Lib.hid (mixC_keep _ _ _ _ _ (by omega) (by omega) (by rw [← hsm]; exact hq))
                clear hq hsm
                go_wp2
                go_quiet (fail)
                go_wp2
                go_roundw
                case rel => exact ⟨m + 1, hmk, by go_num, Lib.hid (by rw [← HK.out]; exact HBm.out.kept (below_drewN nq)), Lib.hid (HWm.out.kept (below_drewN nq)), Below.drewN' HBw.out nq⟩
                case measure => simp [intOf]; omega
              · have t1 : (sm.toList == s.toList) = true := by rw [Lib.toList_data, Lib.toList_data]; exact hq
                have HK : Hid ((mixC s.data.toList ns X (n :: List.replicate (ns.length - (k + 1)) 0) m).set m 0 = mixC s.data.toList ns X (n :: List.replicate (ns.length - (k + 1)) 0) (m + 1)) := Lib.hid (mixC_set _ _ _ _ _ (by omega) (by omega) (by rw [← hsm]; exact hq))
                have HG : Hid ((mixC s.data.toList ns X (n :: List.replicate (ns.length - (k + 1)) 0) m)[m]? = some X[m]) := Lib.hid (mixC_get _ _ _ _ _ (by omega) (by omega))
                clear hq hsm
                go_wp2
                go_quiet (fail)
                have HBq : Hid (Blk (wr.drewN nq) G ((mixC s.data.toList ns X (n :: List.replicate (ns.length - (k + 1)) 0) m).map (Value.int .i64)) 3) := Lib.hid (HBm.out.kept (below_drewN nq))
                have c5 := HBq.out.cell (j := m) (u := .int .i64 X[m]) (by rw [List.getElem?_map, HG.out]; rfl)
                have f5 := HBq.out.free m
                go_wp2
                go_roundw
                case rel => exact ⟨m + 1, hmk, by go_num, Lib.hid (by
                    have := HBq.out.set m (.int .i64 0)
                    rw [← HK.out, List.map_set]
                    exact this), Lib.hid ((HWm.out.kept (below_drewN nq)).fr ((Fr.refl [G] _).set (p := ⟨G, m, none⟩) (by simp) _) (fun q hq hm => by
                      rcases mem_fpW.1 hq with rfl | h
                      · simp at hm; exact HGb.out.1 hm.symm
                      · simp at hm; subst hm; exact HD5.out h)), Lib.hid ((Below.drewN' HBw.out nq).setCell HGb.out.2.1 _)⟩
                case measure => simp [intOf]; omega
            · obtain rfl : m = X.length := by omega
              have HBe : Hid (Blk wr G (((clearN s.data.toList (ns.take k) X ++ [n]) ++ List.replicate (ns.length - (k + 1)) 0).map (Value.int .i64)) 3) := Lib.hid (by have := HBm.out; rw [mixC_end, hX] at this; simpa using this)
              go_wp2
              go_roundw
              case rel => exact ⟨k + 1, clearN s.data.toList (ns.take k) X ++ [n], v5, setL L s n, hlt, by go_num, by simp [length_clearN, hX]; omega, Nat.le_trans (length_setL L s _ HI.out.2.1) (by omega), HBe, HWm, HD5, HBw, HF6, Lib.hid ⟨set_heap s _ HI.out.1, set_nd s _ HI.out.2.1, by rw [HSK.out]; exact set_once hlt hX (by omega) HI.out.2.1 HI.out.2.2⟩, Lib.hid (fun x hx => by
                rcases List.mem_append.1 hx with h | h
                · rcases mem_clearN h with h | h
                  · omega
                  · exact HXb.out x h
                · simp at h; omega)⟩
              case measure => simp [intOf]; omega
      · by_cases hse : s.toList.isEmpty = true
        · go_wp2_with (go_at_call 28; refine (wset_bad b 0 _ v2 L s _ HW.out (.inr (.inr hse))).mono ?_; rintro e w5 ⟨rfl, rfl⟩)
          go_roundw
          case rel => exact ⟨k + 1, X ++ [0], v2, L, hlt, by go_num, by simp [hX], by omega, HBl0, HW, HD, HB4, HF, Lib.hid (by rw [hact0.out]; exact HI.out), Lib.hid (fun x hx => by rcases List.mem_append.1 hx with h | h; exact HXb.out x h; simp at h; omega)⟩
          case measure => simp [intOf]; omega
        · have hse2 : s.toList.isEmpty = false := by simpa using hse
          have HGK : Hid (((X ++ List.replicate (ns.length - k) 0).map (Value.int .i64))[k]? = some (.int .i64 0)) := Lib.hid (by rw [hrep.out, ← hX]; simp)
          have HBk : Hid (Blk wr G ((X ++ List.replicate (ns.length - k) 0).map (Value.int .i64)) 3) := HBl
          go_wp2_with (go_at_call 28; refine (wset_ok b 0 _ v2 L s _ HW.out (by omega) (by omega) (by omega) hse2 (by omega) (by omega)).mono ?_; rintro e w5 ⟨rfl, v5, hw, hs5⟩; have HW5 := Lib.hid hw; have HS5 := Lib.hid hs5; have HB5 : Hid (Blk w5 G ((X ++ List.replicate (ns.length - k) 0).map (Value.int .i64)) 3) := Lib.hid (HBk.out.fr hs5.fr (fun hm => by rcases mem_fpW.1 hm with h | h; exact HGb.out.1 h; exact HD.out h)); have g5 := HB5.out.cell (j := k) (u := .int .i64 0) HGK.out; have f5 := HB5.out.free k; clear hw hs5)
          obtain ⟨w6, hw6⟩ : ∃ w6, w6 = w5.setCell ⟨G, k, none⟩ (.int .i64 1) := ⟨_, rfl⟩
          have HBl6 : Hid (Blk w6 G ((mixC s.data.toList ns X (1 :: List.replicate (ns.length - (k + 1)) 0) 0).map (Value.int .i64)) 3) := Lib.hid (by
            rw [hw6, mixC_zero]
            have := HB5.out.set k (.int .i64 1)
            rw [hrep.out] at this
            rw [show (X ++ 0 :: List.replicate (ns.length - (k + 1)) (0 : Int)).map (Value.int .i64) = X.map (Value.int .i64) ++ (.int .i64 0 :: (List.replicate (ns.length - (k + 1)) (0 : Int)).map (Value.int .i64)) from by simp, List.set_append_right _ _ (by simp; omega)] at this
            simpa [hX] using this)
          have HD5 : Hid (v5.ownBlock ≠ some G) := Lib.hid (fun e => by
            rcases HS5.out.new G e with h | h
            · exact HD.out h
            · have := HBl.out.lt; omega)
          have HW6 : Hid (Wt w6 b 0 v5 (setL L s 1)) := Lib.hid (by
            rw [hw6]
            have := HW5.out
            rw [show (0 : Int) + 1 = 1 from by omega] at this
            exact this.fr ((Fr.refl [G] _).set (p := ⟨G, k, none⟩) (by simp) _) (fun q hq hm => by
              rcases mem_fpW.1 hq with rfl | h
              · simp at hm; exact HGb.out.1 hm.symm
              · simp at hm; subst hm; exact HD5.out h))
          have HB6 : Hid (Below w.heap.size w w6) := Lib.hid (by
            rw [hw6]
            have h1 : Fr (fpW b v2) wr w5 := HS5.out.fr
            have h2 : Below w.heap.size wr w5 := h1.below (fun q hq => by
              rcases mem_fpW.1 hq with rfl | h
              · exact HGb.out.2.2
              · exact HF.out q h) HB4.out.size
            exact (HB4.out.trans h2).setCell HGb.out.2.1 _)
          have HF6 : Hid (∀ g, v5.ownBlock = some g → w.heap.size ≤ g) := Lib.hid (fun g hg => by
            rcases HS5.out.new g hg with h | h
            · exact HF.out g h
            · exact Nat.le_trans HB4.out.size h)
          rw [← hw6]
          clear hw6 g5 f5 HB5 HS5 HW5 e1 HGK HBk
          go_loopw [11] (fun i wc => ∃ m : Nat, m ≤ k ∧ i = .int .i64 (m : Int) ∧ Hid (Blk wc G ((mixC s.data.toList ns X (1 :: List.replicate (ns.length - (k + 1)) 0) m).map (Value.int .i64)) 3) ∧ Hid (Wt wc b 0 v5 (setL L s 1)) ∧ Hid (Below w.heap.size w wc)) (fun i _ => k - (intOf i).toNat)
          case atStart => exact ⟨0, Nat.zero_le _, rfl, HBl6, HW6, HB6⟩
          case round =>
            obtain ⟨m, hm, rfl, HBm, HWm, HBw⟩ := hrel
            by_cases hmk : m < k
            · obtain ⟨q2, o2, eq2, c3⟩ := (H1.out.below HBw.out).textAt (i := m) (by omega)
              simp only [Option.some.injEq, Addr.mk.injEq, and_true] at eq2
              obtain ⟨rfl, rfl⟩ := eq2
              obtain ⟨q3, o3, eq3, c4⟩ := (H1.out.below HBw.out).textAt (i := k) hlt
              simp only [Option.some.injEq, Addr.mk.injEq, and_true] at eq3
              obtain ⟨rfl, rfl⟩ := eq3
              rw [← HSK.out] at c4
              obtain ⟨sm, hsm⟩ : ∃ sm, sm = ns[m] := ⟨_, rfl⟩
              rw [← hsm] at c3
              cases hq : (sm.data.toList == s.data.toList)
              · have t1 : (sm.toList == s.toList) = false := by rw [Lib.toList_data, Lib.toList_data]; exact hq
                have HK : Hid (mixC s.data.toList ns X (1 :: List.replicate (ns.length - (k + 1)) 0) m = mixC s.data.toList ns X (1 :: List.replicate (ns.length - (k + 1)) 0) (m + 1)) := Lib.hid (mixC_keep _ _ _ _ _ (by omega) (by omega) (by rw [← hsm]; exact hq))
                clear hq hsm
                go_wp2
                go_quiet (fail)
                go_wp2
                go_roundw
                case rel => exact ⟨m + 1, hmk, by go_num, Lib.hid (by rw [← HK.out]; exact HBm.out.kept (below_drewN nq)), Lib.hid (HWm.out.kept (below_drewN nq)), Below.drewN' HBw.out nq⟩
                case measure => simp [intOf]; omega
              · have t1 : (sm.toList == s.toList) = true := by rw [Lib.toList_data, Lib.toList_data]; exact hq
                have HK : Hid ((mixC s.data.toList ns X (1 :: List.replicate (ns.length - (k + 1)) 0) m).set m 0 = mixC s.data.toList ns X (1 :: List.replicate (ns.length - (k + 1)) 0) (m + 1)) := Lib.hid (mixC_set _ _ _ _ _ (by omega) (by omega) (by rw [← hsm]; exact hq))
                have HG : Hid ((mixC s.data.toList ns X (1 :: List.replicate (ns.length - (k + 1)) 0) m)[m]? = some X[m]) := Lib.hid (mixC_get _ _ _ _ _ (by omega) (by omega))
                clear hq hsm
                go_wp2
                go_quiet (fail)
                have HBq : Hid (Blk (wr.drewN nq) G ((mixC s.data.toList ns X (1 :: List.replicate (ns.length - (k + 1)) 0) m).map (Value.int .i64)) 3) := Lib.hid (HBm.out.kept (below_drewN nq))
                have c5 := HBq.out.cell (j := m) (u := .int .i64 X[m]) (by rw [List.getElem?_map, HG.out]; rfl)
                have f5 := HBq.out.free m
                go_wp2
                go_roundw
                case rel => exact ⟨m + 1, hmk, by go_num, Lib.hid (by
                    have := HBq.out.set m (.int .i64 0)
                    rw [← HK.out, List.map_set]
                    exact this), Lib.hid ((HWm.out.kept (below_drewN nq)).fr ((Fr.refl [G] _).set (p := ⟨G, m, none⟩) (by simp) _) (fun q hq hm => by
                      rcases mem_fpW.1 hq with rfl | h
                      · simp at hm; exact HGb.out.1 hm.symm
                      · simp at hm; subst hm; exact HD5.out h)), Lib.hid ((Below.drewN' HBw.out nq).setCell HGb.out.2.1 _)⟩
                case measure => simp [intOf]; omega
            · obtain rfl : m = X.length := by omega
              have HBe : Hid (Blk wr G (((clearN s.data.toList (ns.take k) X ++ [1]) ++ List.replicate (ns.length - (k + 1)) 0).map (Value.int .i64)) 3) := Lib.hid (by have := HBm.out; rw [mixC_end, hX] at this; simpa using this)
              go_wp2
              go_roundw
              case rel => exact ⟨k + 1, clearN s.data.toList (ns.take k) X ++ [1], v5, setL L s 1, hlt, by go_num, by simp [length_clearN, hX]; omega, Nat.le_trans (length_setL L s _ HI.out.2.1) (by omega), HBe, HWm, HD5, HBw, HF6, Lib.hid ⟨set_heap s _ HI.out.1, set_nd s _ HI.out.2.1, by rw [HSK.out]; exact set_once hlt hX (by omega) HI.out.2.1 HI.out.2.2⟩, Lib.hid (fun x hx => by
                rcases List.mem_append.1 hx with h | h
                · rcases mem_clearN h with h | h
                  · omega
                  · exact HXb.out x h
                · simp at h; omega)⟩
              case measure => simp [intOf]; omega
    · obtain rfl : k = ns.length := by omega
      have HX0 : Hid (X.length = ns.length) := Lib.hid hX
      have HB0 : Hid (Blk wr G (X.map (Value.int .i64)) 3) := Lib.hid (by have := HBl.out; simpa using this)
      have HI0 : Hid (Hp.IsH elt L L.length ∧ ND L ∧ L.Perm (act ns X)) := Lib.hid (by have := HI.out; rwa [List.take_length] at this)
      clear hX HBl HI
      go_wp2
      go_loopw [12, 13] (fun t i wc => ∃ (j : Nat) (T : Int) (xs : List Int) (v3 : Value) (L3 : List End), j ≤ th.length ∧ i = .int .i64 (j : Int) ∧ t = .int .i64 T ∧ 0 ≤ T ∧ T ≤ j * 1048576 ∧ L3.length ≤ ns.length ∧ Hid (xs.length = ns.length) ∧ Hid (Blk wc G (xs.map (Value.int .i64)) 3) ∧ Hid (Wt wc b T v3 L3) ∧ Hid (v3.ownBlock ≠ some G) ∧ Hid (Below w.heap.size w wc) ∧ Hid (∀ g, v3.ownBlock = some g → w.heap.size ≤ g) ∧ Hid (Hp.IsH elt L3 L3.length ∧ ND L3 ∧ L3.Perm (act ns xs)) ∧ Hid (∀ x ∈ xs, 0 ≤ x ∧ x ≤ 1073741824)) (fun _ i _ => th.length - (intOf i).toNat)
      case atStart => exact ⟨0, 0, X, v2, L, Nat.zero_le _, rfl, rfl, by omega, by simp, hL, HX0, HB0, HW, HD, HB4, HF, HI0, HXb⟩
      case round =>
        clear HX0 HB0 HI0 HW HD HB4 HF HXb hL
        obtain ⟨j, T, xs, v3, L3, hj, rfl, rfl, hT0, hT1, hL3, HXl, HBx, HWx, HDx, HBw, HFx, HIx, HXx⟩ := hrel
        by_cases hlt : j < th.length
        · obtain ⟨q4, o4, rfl, c6⟩ := (H3.out.below HBw.out).num hlt
          obtain ⟨n0, hn0⟩ : ∃ n, n = th[j] := ⟨_, rfl⟩
          rw [← hn0] at c6
          have e0 := Int.emod_nonneg n0 (show (1048576 : Int) ≠ 0 by omega)
          have e1 := Int.emod_lt_of_pos n0 (show (0 : Int) < 1048576 by omega)
          obtain ⟨n, hn⟩ : ∃ n, n = n0 % 1048576 := ⟨_, rfl⟩
          rw [← hn] at e0 e1
          have HN := Lib.hid hn
          have u1 : wrap64 (T + n) = T + n := by unfold wrap64; omega
          have HTT : Hid (0 ≤ T + n ∧ T + n ≤ ((j + 1 : Nat) : Int) * 1048576) := Lib.hid ⟨by omega, by push_cast; omega⟩
          obtain ⟨T', hT'⟩ : ∃ T', T + n = T' := ⟨_, rfl⟩
          have HT' := Lib.hid hT'
          clear hn0 hn hT'
          go_wp2_with (first
            | (go_at_call 17; refine (pickn_any _ _ _ (by omega) (by omega)).mono ?_; rintro e w5 ⟨rfl, rfl⟩; rw [← HN.out])
            | (go_at_call 29; refine (wtick_ok b T n T' HT'.out v3 L3 _ HWx.out (by omega) e0 (by omega) hT0 (by omega)).mono ?_; rintro e w5 ⟨o5, v5, rfl, ho5, hw5, hs5⟩; have HO5 := Lib.hid ho5; have HW5 := Lib.hid hw5; have HS5 := Lib.hid hs5; clear ho5 hw5 hs5))
          have hh := HT'.out
          clear HT'
          subst hh
          obtain ⟨told, htold⟩ : ∃ t, t = (tick L3 (T + n)).1 := ⟨_, rfl⟩
          obtain ⟨L5, hL5⟩ : ∃ t, t = (tick L3 (T + n)).2 := ⟨_, rfl⟩
          have HB5 : Hid (Blk w5 G (xs.map (Value.int .i64)) 3) := Lib.hid (HBx.out.fr HS5.out.fr (fun hm => by rcases mem_fpW.1 hm with h | h; exact HGb.out.1 h; exact HDx.out h))
          have HBe5 : Hid (Below w.heap.size w w5) := Lib.hid (HBw.out.trans (HS5.out.fr.below (fun q hq => by
            rcases mem_fpW.1 hq with rfl | h
            · exact HGb.out.2.2
            · exact HFx.out q h) HBw.out.size))
          have HD5 : Hid (v5.ownBlock ≠ some G) := Lib.hid (fun e => by
            rcases HS5.out.new G e with h | h
            · exact HDx.out h
            · have := HBx.out.lt; omega)
          have HF5 : Hid (∀ g, v5.ownBlock = some g → w.heap.size ≤ g) := Lib.hid (fun g hg => by
            rcases HS5.out.new g hg with h | h
            · exact HFx.out g h
            · exact Nat.le_trans HBw.out.size h)
          have HTX : Hid (Texts w5 o5 (told.map (·.1))) := Lib.hid (by
            rw [htold]
            have := row_of_owns HO5.out (by intro u hu; obtain ⟨y, -, rfl⟩ := List.mem_map.1 hu; rfl)
            unfold Texts
            simpa [names, List.map_map, Function.comp_def] using this)
          have HOG : Hid (o5.ownBlock ≠ some G) := Lib.hid (fun e => by
            have := (HO5.out.lt G e).1
            have := HBx.out.lt; omega)
          have HW6 : Hid (Wt w5 b (T + n) v5 L5) := Lib.hid (by rw [hL5]; exact HW5.out)
          have HTL : Hid (told.length = dueN (T + n) ns xs) := Lib.hid (by rw [htold]; exact told_len HIx.out.1 HIx.out.2.2)
          have HTH : Hid (∀ k (h1 : k < ns.length) (h2 : k < xs.length), 0 < xs[k] → xs[k] ≤ T + n → hasT (told.map (·.1)) ns[k].data.toList = true) := Lib.hid (fun k h1 h2 h3 h4 => by rw [htold]; exact told_has HIx.out.1 HIx.out.2.2 h1 h2 h3 h4)
          have HI5 : Hid (Hp.IsH elt L5 L5.length ∧ ND L5 ∧ L5.Perm (act ns (due (T + n) xs))) := Lib.hid (by rw [hL5]; exact tick_rest HTT.out.1 HIx.out.1 HIx.out.2.1 HIx.out.2.2)
          have HL5 : Hid (L5.length ≤ ns.length) := Lib.hid (by rw [hL5]; have := tick_rest_len (T := T + n) HIx.out.1; omega)
          obtain ⟨p5, k5, rfl, hs5a, hs5b⟩ := HTX.out.parts
          rw [List.length_map] at hs5a
          simp only [List.length_map] at HTX HOG
          simp only [List.length_map]
          clear HO5 HW5 HS5 htold hL5 HBx HWx HDx HBw HFx HIx c6
          go_loopw [17, 18] (fun c i wc => ∃ (k m : Nat), k ≤ ns.length ∧ i = .int .i64 (k : Int) ∧ c = .int .i64 (m : Int) ∧ m ≤ k ∧ Hid (m = dueN (T + n) (ns.take k) (xs.take k)) ∧ Hid (Blk wc G ((mixD (T + n) xs k).map (Value.int .i64)) 3) ∧ Hid (Fr [G] w5 wc)) (fun _ i _ => ns.length - (intOf i).toNat)
          case atStart => exact ⟨0, 0, Nat.zero_le _, rfl, rfl, Nat.le_refl _, Lib.hid (dueN_zero _ _ _).symm, Lib.hid (by rw [mixD_zero]; exact HB5.out), Lib.hid (Fr.refl _ _)⟩
          case round =>
            obtain ⟨k, m, hk, rfl, rfl, hmk, HM, HBm, HFm⟩ := hrel
            have HBel : Hid (Below w.heap.size w wr) := Lib.hid (HBe5.out.trans (HFm.out.below (by intro q hq; simp at hq; subst hq; exact HGb.out.2.1) HBe5.out.size))
            by_cases hkl : k < ns.length
            · have hkx : k < xs.length := by have := HXl.out; omega
              obtain ⟨q2, o2, eq2, c3⟩ := (H1.out.below HBel.out).textAt (i := k) hkl
              obtain rfl := eq2
              obtain ⟨x, hx⟩ : ∃ x, x = xs[k] := ⟨_, rfl⟩
              have HX := Lib.hid hx
              have hx0 : 0 ≤ x ∧ x ≤ 1073741824 := by rw [hx]; exact HXx.out _ (List.getElem_mem hkx)
              have c5 := HBm.out.cell (j := k) (u := .int .i64 x) (by rw [List.getElem?_map, mixD_get _ _ _ hkx, hx]; rfl)
              have f5 := HBm.out.free k
              obtain ⟨q3, o3, eq3, c4⟩ := (H1.out.below (HBel.out.setCell (p := ⟨G, k, none⟩) HGb.out.2.1 (.int .i64 0))).textAt (i := k) hkl
              simp only [Option.some.injEq, Addr.mk.injEq, and_true] at eq3
              obtain ⟨rfl, rfl⟩ := eq3
              clear hx
              by_cases hp : 0 < x
              · by_cases hxt : x ≤ T + n
                · have HTXs : Hid (Texts (wr.setCell ⟨G, k, none⟩ (.int .i64 0)) (.slice p5 told.length k5) (told.map (·.1))) := Lib.hid (Row.grown HTX.out (row := some G) (grown_set ⟨HFm.out.os, HFm.out.tape, HFm.out.output, HFm.out.size, fun q hq hr => HFm.out.block q hq (by simp; exact fun e => hr (by rw [e]))⟩ k _) (.inr HOG.out))
                  have HHas : Hid (hasT (told.map (·.1)) ns[k].data.toList = true) := Lib.hid (HTH.out k hkl hkx (by rw [← HX.out]; exact hp) (by rw [← HX.out]; exact hxt))
                  have HD1 := Lib.hid (dueN_yes (T + n) ns xs k hkl hkx (by rw [← HX.out]; exact hp) (by rw [← HX.out]; exact hxt))
                  go_wp2_with (go_at_call 30; refine (has_any _ _ _ _ HTXs.out).mono ?_; rintro e w7 ⟨rfl, rfl⟩; rw [HHas.out])
                  go_roundw
                  case rel => exact ⟨k + 1, m + 1, hkl, by go_num, by go_num, by omega, Lib.hid (by rw [HD1.out, HM.out]), Lib.hid (by
                    have := HBm.out.set k (.int .i64 0)
                    rw [← mixD_set _ _ _ hkx (by rw [← HX.out]; exact hxt), List.map_set]
                    exact this), Lib.hid (HFm.out.set (p := ⟨G, k, none⟩) (by simp) _)⟩
                  case measure => simp [intOf]; omega
                · have HD1 := Lib.hid (dueN_no (T + n) ns xs k hkl hkx (by rw [← HX.out]; omega))
                  have hd : decide (x ≤ T + n) = false := by simpa using hxt
                  go_wp2
                  go_roundw
                  case rel => exact ⟨k + 1, m, hkl, by go_num, rfl, by omega, Lib.hid (by rw [HD1.out, HM.out]), Lib.hid (by rw [← mixD_keep _ _ _ hkx (by rw [← HX.out]; omega)]; exact HBm.out), HFm⟩
                  case measure => simp [intOf]; omega
              · have HD1 := Lib.hid (dueN_no (T + n) ns xs k hkl hkx (by rw [← HX.out]; omega))
                have hd : decide (0 < x) = false := by simpa using hp
                go_wp2
                go_roundw
                case rel => exact ⟨k + 1, m, hkl, by go_num, rfl, by omega, Lib.hid (by rw [HD1.out, HM.out]), Lib.hid (by rw [← mixD_keep _ _ _ hkx (by rw [← HX.out]; omega)]; exact HBm.out), HFm⟩
                case measure => simp [intOf]; omega
            · obtain rfl : k = ns.length := by omega
              obtain rfl : m = told.length := by rw [HM.out, HTL.out, List.take_length, ← HXl.out, List.take_length]
              go_wp2
              go_roundw
              case rel => exact ⟨j + 1, T + n, due (T + n) xs, v5, L5, hlt, by go_num, rfl, HTT.out.1, HTT.out.2, HL5.out, Lib.hid (by rw [due_len]; exact HXl.out), Lib.hid (by have := HBm.out; rw [← HXl.out, mixD_end] at this; exact this), Lib.hid (HW6.out.fr HFm.out (fun q hq hm => by
                rcases mem_fpW.1 hq with rfl | h
                · simp at hm; exact HGb.out.1 hm.symm
                · simp at hm; subst hm; exact HD5.out h)), HD5, HBel, HF5, HI5, Lib.hid (fun x hx => by
                rcases mem_due hx with h | h
                · omega
                · exact HXx.out x h)⟩
              case measure => simp [intOf]; omega
        · go_wp2
          go_ret
          exact ⟨rfl, HBw.out⟩

theorem clockOnce_walk (v1 : Value) (ns : List ByteArray) (v2 : Value) (ts : List Int) (v3 : Value) (th : List Int) (w : World) (h1 : Texts w v1 ns) (_ : ∀ s ∈ ns, s.size ≤ maxLen) (h2 : Row w v2 1 ts.length (ts.map (Value.int .i64))) (_ : ∀ x ∈ ts, (Lit.int .i64 x).wf = true) (_ : ts.length * 8 ≤ 140737488351232) (h3 : Row w v3 1 th.length (th.map (Value.int .i64))) (_ : ∀ x ∈ th, (Lit.int .i64 x).wf = true) (_ : th.length * 8 ≤ 140737488351232) :
    Calls Try.prog 6 #[v1, v2, v3] w fun e w' => e = .returned (.bool true) ∧ Below w.heap.size w w' := by
  by_cases hb : 200 < ns.length ∨ 200 < th.length
  · exact clockOnce_big v1 v2 v3 ns ts th w h1 h3 hb
  · exact clockOnce_in v1 v2 v3 ns ts th w h1 h2 h3 (by omega) (by omega)
end Go.Proofs.Ytmgcigohfccgeaa
