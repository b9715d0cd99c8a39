/- WNetScript. -/
import Derived.Test.YtndjgbknhfficaaNtSc
import Derived.Test.YtndjgbknhfficaaWNetOnce
import Derived.Deep.RegionHeld3
import Derived.Deep.DeepCutAuto
import Derived.Deep.CutBlock
namespace Go.Proofs.Ytndjgbknhfficaa.Nt
open Go.RowKit Go.Proofs.Ytndjgbknhfficaa Go.Proofs.Ytndjgbknhfficaa.So

theorem ns_drew {w0 w : World} {b mb g : Nat} {v : Value} {last : Int} {E : List En} {lr : Int} {L : List En} (h : NS w0 w b mb g v last E lr L) : NS w0 w.drew b mb g v last E lr L := h.kept (below_drewN 1)
theorem lts_drew {w : World} {base : Nat} {v : Value} {L : List En} (h : Lts w base v L) : Lts w.drew base v L := h.kept (below_drewN 1)
theorem flsame_of {w : World} {g m : Nat} {v va : Value} {p : Option Addr} {c base : Nat} {last : Int} {L Ls : List En} (hv : v = .slice p m c) (hm : m = L.length) (h : RNet w g v last L) (hl : Lts w base va Ls) (he : lts Ls = lts L) : Calls Try.prog 29 #[va, .slice p m c] w fun e w' => e = .returned (.bool true) ∧ Below w.heap.size w w' := by
  subst hv hm
  exact flsame_any va _ Ls L w hl.row (fun e he => Fresh.rd (hl.own e he)) h.row (fun e he => Fresh.rd (base := 0) (h.own e he)) he
theorem blk_drew {w : World} {g : Nat} {cs : List Value} {t : TypeId} (h : Blk w g cs t) : Blk w.drew g cs t := h.kept (below_drewN 1)
set_option maxRecDepth 100000 in
set_option maxHeartbeats 6000000 in
theorem netScript_any (v : Value) (l : List Na) (w : World) (h : Nas w v l) : Calls Try.prog 5 #[v] w fun e w' => e = .returned (.bool true) ∧ Below w.heap.size w w' := by
  have H := Lib.hid h
  obtain ⟨p, c, rfl, hc, hm, -, -, -, hat⟩ := h.row
  have HAT := Lib.hid hat
  obtain ⟨n, hn⟩ : ∃ n, n = l.length := ⟨_, rfl⟩
  have HNN := Lib.hid hn
  rw [← hn] at hc ⊢
  unfold maxLen at hm
  clear h hat hn
  go_enter Try.func5, Try.ntmps5
  by_cases hbig : 200 < n
  · have i1 : (200 : Int) < (n : Int) := by omega
    go_wp2_with (go_at_call 7; refine (nlives _).mono ?_; rintro e w1 ⟨rfl, hb⟩; have HB0 := Lib.hid hb; clear hb)
    go_ret
    exact ⟨rfl, HB0.out⟩
  have i1 : ¬ (200 : Int) < (n : Int) := by omega
  have hn2 : n ≤ 200 := by omega
  clear hbig
  go_upto_region 6 with (first | (go_at_call 7; refine (nlives _).mono ?_; rintro e w1 ⟨rfl, hb⟩; have HB0 := Lib.hid hb; clear hb) | (go_at_call 8; refine (new_any _).mono ?_; rintro e wn ⟨b, mb, rfl, hb1, hb2, hp, hb⟩; have HN := Lib.hid (ON.of_new HB0.out hb1 hb2 hp hb); clear hb1 hb2 hp hb))
  obtain ⟨g, hg⟩ : ∃ g, g = wn.heap.size := ⟨_, rfl⟩
  obtain ⟨w2, hw2⟩ : ∃ w2, w2 = wn.alloc (.cells #[.slice none 0 0, .int .u64 0] 50) := ⟨_, rfl⟩
  have H2 : Hid (NS w w2 b mb g (.slice none 0 0) 0 [] 0 []) := Lib.hid (by rw [hw2, hg]; exact ⟨HN.out.kept (below_alloc _ _), ⟨Blk.made wn [.slice none 0 0, .int .u64 0] _, ⟨rfl, .inl ⟨rfl, rfl⟩⟩, fun e he => by cases he⟩, HN.out.bel.size, fun k hk => by simp [Value.ownBlock] at hk⟩)
  rw [← hw2, ← hg]
  clear hw2 hg
  go_upto_region 7 with fail
  go_loopw [5] (fun vi wr => ∃ k : Nat, vi = .int .i64 k ∧ k ≤ n ∧ Hid (NF w wr b mb g k)) (fun vi _ => n - (So.intOf vi).toNat)
  case atStart => exact ⟨0, by go_num, Nat.zero_le _, Lib.hid ⟨0, [], [], _, H2.out, rfl, ni0, by simp⟩⟩
  case round =>
    obtain ⟨k, rfl, hkn, HR⟩ := hrel
    by_cases hlt : k < n
    rotate_left
    · obtain rfl : k = n := by omega
      go_wp2
      go_ret
      obtain ⟨_, _, _, _, h1, -⟩ := HR.out
      exact ⟨rfl, h1.n.bel⟩
    obtain ⟨last, E, L, vL, hs, heq, hni, hbd⟩ := HR.out
    have HW := Lib.hid hs
    have HEQ := Lib.hid heq
    have HNI := Lib.hid hni
    have HBD := Lib.hid hbd
    have HLL : Hid (L.length ≤ 4000) := Lib.hid (by have := lts_len heq; have := hni.len; omega)
    have HLA : Hid (0 ≤ last ∧ last ≤ 4000) := Lib.hid (by have := hni.last; omega)
    clear hs heq hni hbd HR
    have K1 : Hid (k < l.length) := Lib.hid (by rw [← HNN.out]; exact hlt)
    rcases HAT.out with ha | ⟨ab, o, rfl, ha⟩
    · exact absurd (congrArg List.length ha) (by rw [rwC_len naC_len]; have := K1.out; simp; omega)
    obtain ⟨a, ha5⟩ : ∃ a, a = l[k]'K1.out := ⟨_, rfl⟩
    have HOK := Lib.hid (H.out.ok a (by rw [ha5]; exact List.getElem_mem _))
    have hc5 : ∀ j u, j < 5 → (Na.c a)[j]? = some u → wr.cell? ⟨ab, o + (k * 5 + j), none⟩ = some u := fun j u hj hu => cell_kept (ha _ u (by rw [rwC_at naC_len K1.out hj, ← ha5]; exact hu)) HW.out.n.bel
    obtain ⟨pb, cb, hvb, -⟩ := HOK.out.v.parts
    have x0 : wr.cell? ⟨ab, o + k * 5, none⟩ = some (.int .i64 a.k) := by have := hc5 0 (.int .i64 a.k) (by omega) rfl; simpa [Nat.add_assoc] using this
    have x1 : wr.cell? ⟨ab, o + k * 5 + 1, none⟩ = some (.int .i64 a.f) := by have := hc5 1 (.int .i64 a.f) (by omega) rfl; simpa [Nat.add_assoc] using this
    have x2 : wr.cell? ⟨ab, o + k * 5 + 2, none⟩ = some (.int .i64 a.t) := by have := hc5 2 (.int .i64 a.t) (by omega) rfl; simpa [Nat.add_assoc] using this
    have x3 : wr.cell? ⟨ab, o + k * 5 + 3, none⟩ = some (.slice pb a.bd.length cb) := by have := hc5 3 a.v (by omega) rfl; rw [hvb] at this; simpa [Nat.add_assoc] using this
    have x4 : wr.cell? ⟨ab, o + k * 5 + 4, none⟩ = some (.int .u64 a.n) := by have := hc5 4 (.int .u64 a.n) (by omega) rfl; simpa [Nat.add_assoc] using this
    have HV : Hid (Go.Proofs.Ytndjgbknhfficaa.Rd w (.slice pb a.bd.length cb) a.bd) := Lib.hid (by rw [← hvb]; exact HOK.out.v)
    have hwfn := Lib.hid HOK.out.n
    clear ha hc5 ha5 hvb HOK
    go_upto_region 10 with fail
    obtain ⟨A, hA⟩ : ∃ A, A = wr.heap.size := ⟨_, rfl⟩
    obtain ⟨w5, hw5⟩ : ∃ w5, w5 = wr.alloc (.cells #[.int .i64 a.k, .int .i64 a.f, .int .i64 a.t, .slice pb a.bd.length cb, .int .u64 a.n] 42) := ⟨_, rfl⟩
    have HA5 : Hid (Blk w5 A [.int .i64 a.k, .int .i64 a.f, .int .i64 a.t, .slice pb a.bd.length cb, .int .u64 a.n] 42) := Lib.hid (by rw [hw5, hA]; exact Blk.made wr [.int .i64 a.k, .int .i64 a.f, .int .i64 a.t, .slice pb a.bd.length cb, .int .u64 a.n] _)
    have HW5 : Hid (NS w w5 b mb g vL last E last L) := Lib.hid (by rw [hw5]; exact HW.out.kept (below_alloc _ _))
    rw [← hw5, ← hA]
    clear hw5 hA x0 x1 x2 x3 x4 HW
    have a0 := HA5.out.cell (j := 0) rfl
    have a1 := HA5.out.cell (j := 1) rfl
    have a2 := HA5.out.cell (j := 2) rfl
    have a3 := HA5.out.cell (j := 3) rfl
    have a4 := HA5.out.cell (j := 4) rfl
    obtain ⟨q, hq⟩ : ∃ q, q = a.k % 5 := ⟨_, rfl⟩
    have HPK := Lib.hid (fun w' => pickn_any a.k 5 w' (by omega) (by omega))
    rw [← hq] at HPK
    have hq5 : q = 0 ∨ q = 1 ∨ q = 2 ∨ q = 3 ∨ q = 4 := by omega
    clear hq
    go_upto_block 2 with (go_at_call 15; refine (HPK.out _).mono ?_; rintro e w6 ⟨rfl, rfl⟩)
    clear HPK
    go_cut [7] (fun v7 wx => v7 = .bool true ∧ Hid (NF w wx b mb g (k + 1) ∧ Blk wx A [.int .i64 a.k, .int .i64 a.f, .int .i64 a.t, .slice pb a.bd.length cb, .int .u64 a.n] 42))
    case first =>
      rcases hq5 with rfl | rfl | rfl | rfl | rfl
      · by_cases hlb : 20000 < a.bd.length
        · have t0 : (20000 : Int) < (a.bd.length : Int) := by omega
          go_wp2
          go_ret
          exact ⟨rfl, HW5.out.n.bel⟩
        have t0 : ¬ (20000 : Int) < (a.bd.length : Int) := by omega
        have HRM : Hid (Room a.bd.length) := Lib.hid (by unfold Room; omega)
        cases hnd : (nodeB a.f && nodeB a.t)
        · have HND := Lib.hid hnd
          clear hnd
          go_wp2_with (first | (go_at_call 19; refine (own_any _ a.bd _ ((HV.out.below HW5.out.n.bel)) HRM.out).mono ?_; rintro e w7 ⟨v7, rfl, ho, hb⟩; have HA7 := Lib.hid (HA5.out.kept hb); have HW7 := Lib.hid (HW5.out.kept hb); obtain ⟨q7, hv7, -⟩ := id ho; subst hv7; have HO7 := Lib.hid ho; have b0 := HA7.out.cell (j := 0) rfl; have b1 := HA7.out.cell (j := 1) rfl; have b2 := HA7.out.cell (j := 2) rfl; have b3 := HA7.out.cell (j := 3) rfl; have b4 := HA7.out.cell (j := 4) rfl; clear ho hb) | (go_at_call 9; refine (send_arg a.f a.t _ HW7.out.n.p HND.out).mono ?_; rintro e w8 ⟨rfl, rfl⟩) | (go_at_call 20; refine (rsend_arg a.f a.t _ HND.out).mono ?_; rintro e w9 ⟨rfl, rfl⟩) | (go_at_call 21; refine (kept_any _ _ a.bd _ HO7.out ((HV.out.below HW7.out.n.bel)) HRM.out).mono ?_; rintro e w10 ⟨rfl, n10, rfl⟩))
          go_meet
          exact ⟨rfl, Lib.hid ⟨⟨last, E, L, vL, HW7.out.kept (below_drewN _), HEQ.out, HNI.out.more (by omega), HBD.out⟩, HA7.out.kept (below_drewN _)⟩⟩
        have HND := Lib.hid hnd
        clear hnd
        by_cases hln : 16384 < a.bd.length
        · have HLN := Lib.hid hln
          clear hln
          go_wp2_with (first | (go_at_call 19; refine (own_any _ a.bd _ ((HV.out.below HW5.out.n.bel)) HRM.out).mono ?_; rintro e w7 ⟨v7, rfl, ho, hb⟩; have HA7 := Lib.hid (HA5.out.kept hb); have HW7 := Lib.hid (HW5.out.kept hb); obtain ⟨q7, hv7, -⟩ := id ho; subst hv7; have HO7 := Lib.hid ho; have b0 := HA7.out.cell (j := 0) rfl; have b1 := HA7.out.cell (j := 1) rfl; have b2 := HA7.out.cell (j := 2) rfl; have b3 := HA7.out.cell (j := 3) rfl; have b4 := HA7.out.cell (j := 4) rfl; clear ho hb) | (go_at_call 9; refine (send_long a.f a.t _ a.bd HW7.out.n.p (HO7.out.rd HRM.out) HND.out HLN.out).mono ?_; rintro e w8 ⟨rfl, rfl⟩) | (go_at_call 20; refine (rsend_long a.f a.t _ a.bd (HV.out.below HW7.out.n.bel) HND.out HLN.out).mono ?_; rintro e w9 ⟨rfl, rfl⟩) | (go_at_call 21; refine (kept_any _ _ a.bd _ HO7.out ((HV.out.below HW7.out.n.bel)) HRM.out).mono ?_; rintro e w10 ⟨rfl, n10, rfl⟩))
          go_meet
          exact ⟨rfl, Lib.hid ⟨⟨last, E, L, vL, HW7.out.kept (below_drewN _), HEQ.out, HNI.out.more (by omega), HBD.out⟩, HA7.out.kept (below_drewN _)⟩⟩
        have HLN : Hid (a.bd.length ≤ 16384) := Lib.hid (by omega)
        clear hln
        go_wp2_with (first | (go_at_call 19; refine (own_any _ a.bd _ ((HV.out.below HW5.out.n.bel)) HRM.out).mono ?_; rintro e w7 ⟨v7, rfl, ho, hb⟩; have HA7 := Lib.hid (HA5.out.kept hb); have HW7 := Lib.hid (HW5.out.kept hb); obtain ⟨q7, hv7, -⟩ := id ho; subst hv7; have HO7 := Lib.hid ho; have b0 := HA7.out.cell (j := 0) rfl; have b1 := HA7.out.cell (j := 1) rfl; have b2 := HA7.out.cell (j := 2) rfl; have b3 := HA7.out.cell (j := 3) rfl; have b4 := HA7.out.cell (j := 4) rfl; clear ho hb) | (go_at_call 9; refine (send_ok a.f a.t _ a.bd HW7.out.n.p HNI.out (by omega) (HO7.out.rd HRM.out) HND.out HLN.out).mono ?_; rintro e w8 ⟨rfl, u8, hp, hf⟩; have HA8 := Lib.hid (HA7.out.frp hf (HW7.out.n.p.apB HA7.out (by decide))); have HO8 := Lib.hid (OwnAt.prog HO7.out HW7.out hf); have HW8 := Lib.hid (HW7.out.prog hp hf); have d0 := HA8.out.cell (j := 0) rfl; have d1 := HA8.out.cell (j := 1) rfl; have d2 := HA8.out.cell (j := 2) rfl; have d3 := HA8.out.cell (j := 3) rfl; have d4 := HA8.out.cell (j := 4) rfl; clear hp hf) | (go_at_call 20; refine (rsend_ok a.f a.t _ a.bd HW8.out.r HLA.out HLL.out (HV.out.below HW8.out.n.bel) HND.out HLN.out).mono ?_; rintro e w9 ⟨rfl, v9, u9, hr⟩; have HA9 := Lib.hid (HA8.out.frp hr.fr (HW8.out.apA HA8.out (by decide) (by decide))); have HO9 := Lib.hid (OwnAt.doc HO8.out HW8.out hr.fr); have HW9 := Lib.hid (HW8.out.doc hr); have x0 := HA9.out.cell (j := 0) rfl; have x1 := HA9.out.cell (j := 1) rfl; have x2 := HA9.out.cell (j := 2) rfl; have x3 := HA9.out.cell (j := 3) rfl; have x4 := HA9.out.cell (j := 4) rfl; clear hr) | (go_at_call 21; refine (kept_any _ _ a.bd _ HO9.out ((HV.out.below HW9.out.n.bel)) HRM.out).mono ?_; rintro e w10 ⟨rfl, n10, rfl⟩))
        go_meet
        exact ⟨rfl, Lib.hid ⟨⟨_, _, _, _, HW9.out.kept (below_drewN _), lts_add HEQ.out rfl, HNI.out.add rfl ⟨by have := HLA.out; show 1 ≤ last + 1; omega, Int.le_refl _⟩, bd_add HBD.out HLN.out⟩, HA9.out.kept (below_drewN _)⟩⟩
      · cases hg : eget E a.n
        · have HNO := Lib.hid (lts_none HEQ.out hg)
          have HG := Lib.hid hg
          clear hg
          go_upto_region 23 with (go_at_call 11; refine (deliver_no a.n HW5.out.n.p hwfn.out HG.out).mono ?_; rintro e w7 ⟨rfl, hb⟩; have HA7 := Lib.hid (HA5.out.kept hb); have HW7 := Lib.hid (HW5.out.kept hb); clear hb)
          obtain ⟨Z, hZ⟩ : ∃ q, q = w7.heap.size := ⟨_, rfl⟩
          obtain ⟨w8, hw8⟩ : ∃ q, q = w7.alloc (.cells #[.int .u64 0, .int .u64 0, .int .i64 0, .int .i64 0, .slice none 0 0] 32) := ⟨_, rfl⟩
          have HXZ : Hid (Blk w8 Z [.int .u64 0, .int .u64 0, .int .i64 0, .int .i64 0, .slice none 0 0] 32) := Lib.hid (by rw [hw8, hZ]; exact Blk.made w7 [.int .u64 0, .int .u64 0, .int .i64 0, .int .i64 0, .slice none 0 0] _)
          have HW8 : Hid (NS w w8 b mb g vL last E last L) := Lib.hid (by rw [hw8]; exact HW7.out.kept (below_alloc _ _))
          have HA8 : Hid (Blk w8 A [.int .i64 a.k, .int .i64 a.f, .int .i64 a.t, .slice pb a.bd.length cb, .int .u64 a.n] 42) := Lib.hid (by rw [hw8]; exact HA7.out.alloc _)
          rw [← hw8, ← hZ]
          clear hw8 hZ
          have d0 := HA8.out.cell (j := 0) rfl
          have d1 := HA8.out.cell (j := 1) rfl
          have d2 := HA8.out.cell (j := 2) rfl
          have d3 := HA8.out.cell (j := 3) rfl
          have d4 := HA8.out.cell (j := 4) rfl
          clear a0 a1 a2 a3 a4
          go_upto_region 24 with (go_at_call 22; refine (rdeliver_no a.n HW8.out.r HNO.out).mono ?_; rintro e w9 ⟨rfl, hb⟩; have HA9 := Lib.hid (HA8.out.kept hb); have HW9 := Lib.hid (HW8.out.kept hb); have HXZ9 := Lib.hid (HXZ.out.kept hb); clear hb)
          obtain ⟨Y, hY⟩ : ∃ q, q = w9.heap.size := ⟨_, rfl⟩
          obtain ⟨w10, hw10⟩ : ∃ q, q = w9.alloc (.cells #[.int .u64 0, .int .u64 0, .int .i64 0, .int .i64 0, .slice none 0 0] 32) := ⟨_, rfl⟩
          have HXY : Hid (Blk w10 Y [.int .u64 0, .int .u64 0, .int .i64 0, .int .i64 0, .slice none 0 0] 32) := Lib.hid (by rw [hw10, hY]; exact Blk.made w9 [.int .u64 0, .int .u64 0, .int .i64 0, .int .i64 0, .slice none 0 0] _)
          have HW10 : Hid (NS w w10 b mb g vL last E last L) := Lib.hid (by rw [hw10]; exact HW9.out.kept (below_alloc _ _))
          have HA10 : Hid (Blk w10 A [.int .i64 a.k, .int .i64 a.f, .int .i64 a.t, .slice pb a.bd.length cb, .int .u64 a.n] 42) := Lib.hid (by rw [hw10]; exact HA9.out.alloc _)
          have HXZ10 : Hid (Blk w10 Z [.int .u64 0, .int .u64 0, .int .i64 0, .int .i64 0, .slice none 0 0] 32) := Lib.hid (by rw [hw10]; exact HXZ9.out.alloc _)
          rw [← hw10, ← hY]
          clear hw10 hY
          have y0 := HXY.out.cell (j := 0) rfl
          have y1 := HXY.out.cell (j := 1) rfl
          have y2 := HXY.out.cell (j := 2) rfl
          have y3 := HXY.out.cell (j := 3) rfl
          have y4 := HXY.out.cell (j := 4) rfl
          have z0 := HXZ10.out.cell (j := 0) rfl
          have z1 := HXZ10.out.cell (j := 1) rfl
          have z2 := HXZ10.out.cell (j := 2) rfl
          have z3 := HXZ10.out.cell (j := 3) rfl
          have z4 := HXZ10.out.cell (j := 4) rfl
          have HSA := Lib.hid (samelt_any ⟨0, 0, 0, 0, []⟩ ⟨0, 0, 0, 0, []⟩ (.slice none 0 0) (.slice none 0 0) w10 (Fresh.rd (base := 0) ⟨rfl, .inl ⟨rfl, rfl⟩⟩) (Fresh.rd (base := 0) ⟨rfl, .inl ⟨rfl, rfl⟩⟩))
          rw [sameL_self] at HSA
          simp only [ltV] at HSA
          go_wp2_with (go_at_call 23; refine HSA.out.mono ?_; rintro e w11 ⟨rfl, hb⟩; have HB11 := Lib.hid hb; clear hb)
          go_meet
          exact ⟨rfl, Lib.hid ⟨⟨last, E, L, vL, HW10.out.kept HB11.out, HEQ.out, HNI.out.more (by omega), HBD.out⟩, HA10.out.kept HB11.out⟩⟩
        rename_i x
        obtain ⟨i, hi, hix, hnx, hbf, hers⟩ := lts_some HNI.out.rise HEQ.out hg
        have hmx := (eget_mem hg).1
        obtain ⟨y, hy⟩ : ∃ y, L[i]'hi = y := ⟨_, rfl⟩
        have hyx : y.l = x.l := by rw [← hy]; exact hix
        have DE := deliver_yes a.n x HW5.out.n.p hwfn.out hg
        have hox := HW5.out.n.p.own x hmx
        obtain ⟨px, cx, hvx, -, -⟩ := own_slice hox
        have hoy := HW5.out.r.own y (by rw [← hy]; exact List.getElem_mem _)
        obtain ⟨py, cy, hvy, -, -⟩ := own_slice hoy
        have RDE := fun (w' : World) (h1 : RNet w' g vL last L) => rdeliver_yes a.n h1 HLL.out i hi y hy (by rw [hyx]; exact hnx) (by simpa using hbf)
        rw [hvx] at DE hox
        rw [hvy] at RDE hoy
        rw [hyx] at RDE hoy
        have HSS : Hid (∀ w', w'.ownsRow 0 5 1 (.slice px x.l.bd.length cx) x.l.bd.length (x.l.bd.map B) → w'.ownsRow 0 5 1 (.slice py x.l.bd.length cy) x.l.bd.length (x.l.bd.map B) → Calls Try.prog 23 #[ltV x.l (.slice px x.l.bd.length cx), ltV x.l (.slice py x.l.bd.length cy)] w' fun e w'' => e = .returned (.bool true) ∧ Below w'.heap.size w' w'') := Lib.hid (fun w' h1 h2 => by have h9 := samelt_any x.l x.l _ _ w' (Fresh.rd (base := 0) h1) (Fresh.rd (base := 0) h2); rw [sameL_self] at h9; exact h9)
        have HDE := Lib.hid DE
        have HRDE := Lib.hid RDE
        have HOX := Lib.hid hox
        have HOY := Lib.hid hoy
        have HERS := Lib.hid hers
        obtain ⟨lx, hlx⟩ : ∃ lx, lx = x.l.bd.length := ⟨_, rfl⟩
        rw [← hlx] at HDE HRDE HOX HOY HSS
        simp only [ltV] at HDE HRDE HSS
        clear DE RDE hox hoy hers hg hvx hvy hyx hnx hbf hix hy hmx hlx
        go_upto_region 23 with (go_at_call 11; refine HDE.out.mono ?_; rintro e w7 ⟨rfl, hp, hf⟩; have HA7 := Lib.hid (HA5.out.frp hf (HW5.out.n.p.apB HA5.out (by decide))); have HX7 := Lib.hid (own_frp HOX.out hf (HW5.out.n.p.ap HOX.out)); have HY7 := Lib.hid (own_frp HOY.out hf (HW5.out.n.p.ap HOY.out)); have HW7 := Lib.hid (HW5.out.prog hp hf); clear hp hf)
        obtain ⟨Z, hZ⟩ : ∃ q, q = w7.heap.size := ⟨_, rfl⟩
        obtain ⟨w8, hw8⟩ : ∃ q, q = w7.alloc (.cells #[.int .u64 x.l.no, .int .u64 x.l.fi, .int .i64 x.l.sd, .int .i64 x.l.rc, .slice px lx cx] 32) := ⟨_, rfl⟩
        have HXZ : Hid (Blk w8 Z [.int .u64 x.l.no, .int .u64 x.l.fi, .int .i64 x.l.sd, .int .i64 x.l.rc, .slice px lx cx] 32) := Lib.hid (by rw [hw8, hZ]; exact Blk.made w7 [.int .u64 x.l.no, .int .u64 x.l.fi, .int .i64 x.l.sd, .int .i64 x.l.rc, .slice px lx cx] _)
        have HW8 : Hid (NS w w8 b mb g vL last (edel E a.n) last L) := Lib.hid (by rw [hw8]; exact HW7.out.kept (below_alloc _ _))
        have HA8 : Hid (Blk w8 A [.int .i64 a.k, .int .i64 a.f, .int .i64 a.t, .slice pb a.bd.length cb, .int .u64 a.n] 42) := Lib.hid (by rw [hw8]; exact HA7.out.alloc _)
        have HX8 : Hid (w8.ownsRow 0 5 1 (.slice px lx cx) lx (x.l.bd.map B)) := Lib.hid (by rw [hw8]; exact own_keep HX7.out (below_alloc _ _))
        have HY8 : Hid (w8.ownsRow 0 5 1 (.slice py lx cy) lx (x.l.bd.map B)) := Lib.hid (by rw [hw8]; exact own_keep HY7.out (below_alloc _ _))
        have HAPZ : Hid (¬ DP g vL Z) := Lib.hid (by rw [hZ]; exact HW7.out.apN (Nat.le_refl _))
        rw [← hw8, ← hZ]
        clear hw8 hZ
        clear a0 a1 a2 a3 a4
        have d0 := HA8.out.cell (j := 0) rfl; have d1 := HA8.out.cell (j := 1) rfl; have d2 := HA8.out.cell (j := 2) rfl; have d3 := HA8.out.cell (j := 3) rfl; have d4 := HA8.out.cell (j := 4) rfl
        go_upto_region 24 with (go_at_call 22; refine (HRDE.out _ HW8.out.r).mono ?_; rintro e w9 ⟨rfl, v9, hr⟩; have HA9 := Lib.hid (HA8.out.frp hr.fr (HW8.out.apA HA8.out (by decide) (by decide))); have HX9 := Lib.hid (own_frp HX8.out hr.fr (HW8.out.r.apU HX8.out)); have HY9 := Lib.hid (own_frp HY8.out hr.fr (HW8.out.r.apU HY8.out)); have HXZ9 := Lib.hid (HXZ.out.frp hr.fr HAPZ.out); have HW9 := Lib.hid (HW8.out.doc hr); clear hr)
        obtain ⟨Y, hY⟩ : ∃ q, q = w9.heap.size := ⟨_, rfl⟩
        obtain ⟨w10, hw10⟩ : ∃ q, q = w9.alloc (.cells #[.int .u64 x.l.no, .int .u64 x.l.fi, .int .i64 x.l.sd, .int .i64 x.l.rc, .slice py lx cy] 32) := ⟨_, rfl⟩
        have HXY : Hid (Blk w10 Y [.int .u64 x.l.no, .int .u64 x.l.fi, .int .i64 x.l.sd, .int .i64 x.l.rc, .slice py lx cy] 32) := Lib.hid (by rw [hw10, hY]; exact Blk.made w9 [.int .u64 x.l.no, .int .u64 x.l.fi, .int .i64 x.l.sd, .int .i64 x.l.rc, .slice py lx cy] _)
        have HW10 : Hid (NS w w10 b mb g v9 last (edel E a.n) last (L.eraseIdx i)) := Lib.hid (by rw [hw10]; exact HW9.out.kept (below_alloc _ _))
        have HA10 : Hid (Blk w10 A [.int .i64 a.k, .int .i64 a.f, .int .i64 a.t, .slice pb a.bd.length cb, .int .u64 a.n] 42) := Lib.hid (by rw [hw10]; exact HA9.out.alloc _)
        have HX10 : Hid (w10.ownsRow 0 5 1 (.slice px lx cx) lx (x.l.bd.map B)) := Lib.hid (by rw [hw10]; exact own_keep HX9.out (below_alloc _ _))
        have HY10 : Hid (w10.ownsRow 0 5 1 (.slice py lx cy) lx (x.l.bd.map B)) := Lib.hid (by rw [hw10]; exact own_keep HY9.out (below_alloc _ _))
        have HXZ10 : Hid (Blk w10 Z [.int .u64 x.l.no, .int .u64 x.l.fi, .int .i64 x.l.sd, .int .i64 x.l.rc, .slice px lx cx] 32) := Lib.hid (by rw [hw10]; exact HXZ9.out.alloc _)
        rw [← hw10, ← hY]
        clear hw10 hY
        have y0 := HXY.out.cell (j := 0) rfl
        have y1 := HXY.out.cell (j := 1) rfl
        have y2 := HXY.out.cell (j := 2) rfl
        have y3 := HXY.out.cell (j := 3) rfl
        have y4 := HXY.out.cell (j := 4) rfl
        have z0 := HXZ10.out.cell (j := 0) rfl
        have z1 := HXZ10.out.cell (j := 1) rfl
        have z2 := HXZ10.out.cell (j := 2) rfl
        have z3 := HXZ10.out.cell (j := 3) rfl
        have z4 := HXZ10.out.cell (j := 4) rfl
        go_wp2_with (go_at_call 23; refine (HSS.out _ HX10.out HY10.out).mono ?_; rintro e w11 ⟨rfl, hb⟩; have HB11 := Lib.hid hb; clear hb)
        go_meet
        exact ⟨rfl, Lib.hid ⟨⟨last, _, _, _, HW10.out.kept HB11.out, HERS.out, (HNI.out.del a.n).more (by omega), bd_del HBD.out a.n⟩, HA10.out.kept HB11.out⟩⟩
      · cases hg : eget E a.n
        · have HNO := Lib.hid (lts_none HEQ.out hg)
          have HG := Lib.hid hg
          clear hg
          go_upto_region 26 with fail
          go_region_held3 (fun w' => w'.cell? ⟨A, 4, none⟩ = some (.int .u64 a.n))
            (((refine Blk.cell (t := 42) (cs := [.int .i64 a.k, .int .i64 a.f, .int .i64 a.t, .slice pb a.bd.length cb, .int .u64 a.n]) (j := 4) ?_ rfl); (repeat (first | with_reducible exact HA9.out | with_reducible exact HA8.out | with_reducible exact HA5.out | with_reducible apply blk_drew))))
            (first
              | (go_at_call 14; refine (lose_no a.n (NS.n (w0 := w) (g := g) (v := vL) (last := last) (E := E) (lr := last) (L := L) (by repeat (first | with_reducible exact HW8.out | with_reducible exact HW5.out | with_reducible apply ns_drew))).p hwfn.out HG.out).mono ?_; rintro e w8 ⟨rfl, hb⟩; have HA8 := Lib.hid (Blk.kept (by repeat (first | with_reducible exact HA8.out | with_reducible exact HA5.out | with_reducible apply blk_drew)) hb); have HW8 := Lib.hid (NS.kept (w0 := w) (g := g) (v := vL) (last := last) (E := E) (lr := last) (L := L) (by repeat (first | with_reducible exact HW8.out | with_reducible exact HW5.out | with_reducible apply ns_drew)) hb); clear hb)
              | (go_at_call 24; refine (rlose_no a.n (NS.r (w0 := w) (b := b) (mb := mb) (v := vL) (last := last) (E := E) (lr := last) (L := L) (by repeat (first | with_reducible exact HW8.out | with_reducible exact HW5.out | with_reducible apply ns_drew))) HNO.out).mono ?_; rintro e w9 ⟨rfl, hb⟩; have HA9 := Lib.hid (Blk.kept (by repeat (first | with_reducible exact HA8.out | with_reducible exact HA5.out | with_reducible apply blk_drew)) hb); have HW9 := Lib.hid (NS.kept (w0 := w) (b := b) (mb := mb) (v := vL) (last := last) (E := E) (lr := last) (L := L) (by repeat (first | with_reducible exact HW8.out | with_reducible exact HW5.out | with_reducible apply ns_drew)) hb); clear hb))
          go_wp2
          go_meet
          exact ⟨rfl, Lib.hid ⟨⟨last, E, L, vL, by repeat (first | with_reducible exact HW9.out | with_reducible exact HW5.out | with_reducible apply ns_drew), HEQ.out, HNI.out.more (by omega), HBD.out⟩, by repeat (first | with_reducible exact HA9.out | with_reducible exact HA5.out | with_reducible apply blk_drew)⟩⟩
        rename_i x
        obtain ⟨i, hi, hix, hnx, hbf, hers⟩ := lts_some HNI.out.rise HEQ.out hg
        have HG := Lib.hid hg
        obtain ⟨y, hy⟩ : ∃ y, L[i]'hi = y := ⟨_, rfl⟩
        have HRL := Lib.hid (fun (w' : World) (h1 : RNet w' g vL last L) => rlose_yes a.n h1 HLL.out i hi y hy (by rw [← hy, hix]; exact hnx) (by simpa using hbf))
        have HERS := Lib.hid hers
        clear hers hbf hnx hix hg hy
        go_upto_region 26 with fail
        go_region_held3 (fun w' => w'.cell? ⟨A, 4, none⟩ = some (.int .u64 a.n))
          (((refine Blk.cell (t := 42) (cs := [.int .i64 a.k, .int .i64 a.f, .int .i64 a.t, .slice pb a.bd.length cb, .int .u64 a.n]) (j := 4) ?_ rfl); (repeat (first | with_reducible exact HA9.out | with_reducible exact HA8.out | with_reducible exact HA5.out | with_reducible apply blk_drew))))
          (first
            | (go_at_call 14; refine (lose_yes a.n x (NS.n (w0 := w) (g := g) (v := vL) (last := last) (E := E) (lr := last) (L := L) (by repeat (first | with_reducible exact HW8.out | with_reducible exact HW5.out | with_reducible apply ns_drew))).p hwfn.out HG.out).mono ?_; rintro e w8 ⟨rfl, hp, hf⟩; have HA8 := Lib.hid (Blk.frp (by repeat (first | with_reducible exact HA8.out | with_reducible exact HA5.out | with_reducible apply blk_drew)) hf (PNet.apB (b := b) (mb := mb) (last := last) (E := E) (NS.n (w0 := w) (g := g) (v := vL) (last := last) (E := E) (lr := last) (L := L) (by repeat (first | with_reducible exact HW8.out | with_reducible exact HW5.out | with_reducible apply ns_drew))).p (by repeat (first | with_reducible exact HA8.out | with_reducible exact HA5.out | with_reducible apply blk_drew)) (by decide))); have HW8 := Lib.hid (NS.prog (w0 := w) (g := g) (v := vL) (last := last) (E := E) (lr := last) (L := L) (by repeat (first | with_reducible exact HW8.out | with_reducible exact HW5.out | with_reducible apply ns_drew)) hp hf); clear hp hf)
            | (go_at_call 24; refine (HRL.out _ (NS.r (w0 := w) (b := b) (mb := mb) (v := vL) (last := last) (E := edel E a.n) (lr := last) (L := L) (by repeat (first | with_reducible exact HW8.out | with_reducible exact HW5.out | with_reducible apply ns_drew)))).mono ?_; rintro e w9 ⟨rfl, v9, hr⟩; have HA9 := Lib.hid (Blk.frp (by repeat (first | with_reducible exact HA8.out | with_reducible exact HA5.out | with_reducible apply blk_drew)) hr.fr (NS.apA (w0 := w) (b := b) (mb := mb) (v := vL) (last := last) (E := edel E a.n) (lr := last) (L := L) (by repeat (first | with_reducible exact HW8.out | with_reducible exact HW5.out | with_reducible apply ns_drew)) (by repeat (first | with_reducible exact HA8.out | with_reducible exact HA5.out | with_reducible apply blk_drew)) (by decide) (by decide))); have HW9 := Lib.hid (NS.doc (w0 := w) (b := b) (mb := mb) (v := vL) (last := last) (E := edel E a.n) (lr := last) (L := L) (by repeat (first | with_reducible exact HW8.out | with_reducible exact HW5.out | with_reducible apply ns_drew)) hr); clear hr))
        go_wp2
        go_meet
        exact ⟨rfl, Lib.hid ⟨⟨last, _, _, _, by repeat (first | with_reducible exact HW9.out | with_reducible exact HW5.out | with_reducible apply ns_drew), HERS.out, (HNI.out.del a.n).more (by omega), bd_del HBD.out a.n⟩, by repeat (first | with_reducible exact HA9.out | with_reducible exact HA5.out | with_reducible apply blk_drew)⟩⟩
      · cases hg : eget E a.n
        · have HNO := Lib.hid (lts_none HEQ.out hg)
          have HG := Lib.hid hg
          clear hg
          go_wp2_with (first | (go_at_call 10; refine (double_no a.n HW5.out.n.p hwfn.out HG.out).mono ?_; rintro e w7 ⟨rfl, hb⟩; have HA7 := Lib.hid (HA5.out.kept hb); have HW7 := Lib.hid (HW5.out.kept hb); have d0 := HA7.out.cell (j := 0) rfl; have d1 := HA7.out.cell (j := 1) rfl; have d2 := HA7.out.cell (j := 2) rfl; have d3 := HA7.out.cell (j := 3) rfl; have d4 := HA7.out.cell (j := 4) rfl; clear hb) | (go_at_call 25; refine (rdouble_no a.n HW7.out.r HNO.out).mono ?_; rintro e w8 ⟨rfl, hb⟩; have HA8 := Lib.hid (HA7.out.kept hb); have HW8 := Lib.hid (HW7.out.kept hb); clear hb))
          go_meet
          exact ⟨rfl, Lib.hid ⟨⟨last, E, L, vL, HW8.out, HEQ.out, HNI.out.more (by omega), HBD.out⟩, HA8.out⟩⟩
        rename_i x
        obtain ⟨i, hi, hix, hnx, hbf, -⟩ := lts_some HNI.out.rise HEQ.out hg
        have HG := Lib.hid hg
        obtain ⟨y, hy⟩ : ∃ y, L[i]'hi = y := ⟨_, rfl⟩
        have hyx : y.l = x.l := by rw [← hy]; exact hix
        have HFX := Lib.hid (HNI.out.fi x (eget_mem hg).1)
        have HBX := Lib.hid (HBD.out x (eget_mem hg).1)
        have HRD := fun (w' : World) (h1 : RNet w' g vL last L) => rdouble_yes a.n h1 HLA.out HLL.out i hi y hy (by rw [hyx]; exact hnx) (by simpa using hbf) (by rw [hyx]; have := HFX.out; omega)
        rw [hyx] at HRD
        have HRDD := Lib.hid HRD
        clear HRD hbf hnx hix hg hy hyx
        go_wp2_with (first | (go_at_call 10; refine (double_yes a.n x HW5.out.n.p HNI.out (by omega) hwfn.out HG.out (by have := HBX.out; omega)).mono ?_; rintro e w7 ⟨rfl, u7, hp, hf⟩; have HA7 := Lib.hid (HA5.out.frp hf (HW5.out.n.p.apB HA5.out (by decide))); have HW7 := Lib.hid (HW5.out.prog hp hf); have d0 := HA7.out.cell (j := 0) rfl; have d1 := HA7.out.cell (j := 1) rfl; have d2 := HA7.out.cell (j := 2) rfl; have d3 := HA7.out.cell (j := 3) rfl; have d4 := HA7.out.cell (j := 4) rfl; clear hp hf) | (go_at_call 25; refine (HRDD.out _ HW7.out.r).mono ?_; rintro e w8 ⟨rfl, v8, hr⟩; have HA8 := Lib.hid (HA7.out.frp hr.fr (HW7.out.apA HA7.out (by decide) (by decide))); have HW8 := Lib.hid (HW7.out.doc hr); clear hr))
        go_meet
        exact ⟨rfl, Lib.hid ⟨⟨_, _, _, _, HW8.out, lts_add HEQ.out rfl, HNI.out.add rfl ⟨HFX.out.1, by have := HFX.out.2; show x.l.fi ≤ last + 1; omega⟩, bd_add HBD.out HBX.out⟩, HA8.out⟩⟩
      · go_wp2_with (first | (go_at_call 18; refine (clear_any a.t HW5.out.n.p HNI.out (by omega)).mono ?_; rintro e w7 ⟨rfl, hp, hf⟩; have HA7 := Lib.hid (HA5.out.frp hf (HW5.out.n.p.apB HA5.out (by decide))); have HW7 := Lib.hid (HW5.out.prog hp hf); have d0 := HA7.out.cell (j := 0) rfl; have d1 := HA7.out.cell (j := 1) rfl; have d2 := HA7.out.cell (j := 2) rfl; have d3 := HA7.out.cell (j := 3) rfl; have d4 := HA7.out.cell (j := 4) rfl; clear hp hf) | (go_at_call 26; refine (rclear_any a.t HW7.out.r HLL.out).mono ?_; rintro e w8 ⟨rfl, v8, hr⟩; have HA8 := Lib.hid (HA7.out.frp hr.fr (HW7.out.apA HA7.out (by decide) (by decide))); have HW8 := Lib.hid (HW7.out.doc hr); clear hr))
        go_meet
        exact ⟨rfl, Lib.hid ⟨⟨_, _, _, _, HW8.out, lts_filter HEQ.out (fun l => !(l.rc == a.t)), (HNI.out.filter _).more (by omega), fun e he => HBD.out e (List.mem_filter.1 he).1⟩, HA8.out⟩⟩
    case rest =>
      obtain ⟨rfl, HC⟩ := hcut
      obtain ⟨⟨last1, E1, L1, v1, hs, heq, hni, hbd⟩, hA1⟩ := HC.out
      obtain ⟨pL, cL, hv1, -, -⟩ := own_slice hs.r.row
      have HPI := Lib.hid (lts_pick heq a.t)
      have HLL1 : Hid (L1.length ≤ 4000) := Lib.hid (by have := lts_len heq; have := hni.len; omega)
      have HNF : Hid (∀ w', NS w w' b mb g v1 last1 E1 last1 L1 → NF w w' b mb g (k + 1)) := Lib.hid (fun w' h1 => ⟨_, _, _, _, h1, heq, hni, hbd⟩)
      have HEQ1 := Lib.hid heq
      have HNI1 := Lib.hid hni
      have HBD1 := Lib.hid hbd
      have HD0 := Lib.hid hs
      have HE0 := Lib.hid hA1
      have HV1 := Lib.hid hv1
      obtain ⟨mL, hmL⟩ : ∃ mL, mL = L1.length := ⟨_, rfl⟩
      rw [← hmL] at HV1
      have HML := Lib.hid hmL
      have HSS : Hid (∀ w', NS w w' b mb g v1 last1 E1 last1 L1 → Blk w' A [.int .i64 a.k, .int .i64 a.f, .int .i64 a.t, .slice pb a.bd.length cb, .int .u64 a.n] 42 → (w'.cell? ⟨g, 1, none⟩ = some (.int .u64 last1) ∧ w'.cell? ⟨g, 0, none⟩ = some (.slice pL mL cL) ∧ w'.cell? ⟨A, 2, none⟩ = some (.int .i64 a.t))) := Lib.hid (fun w' h1 h2 => ⟨h1.r.blk.cell (j := 1) rfl, by rw [← HV1.out]; exact h1.r.blk.cell (j := 0) rfl, h2.cell (j := 2) rfl⟩)
      clear hs heq hni hbd hA1 hv1 hmL
      obtain ⟨wc9, hwc⟩ : ∃ q, q = wc := ⟨_, rfl⟩
      rw [← hwc] at HD0 HE0 ⊢
      clear hwc HC
      go_upto_region 31 with fail
      go_region_held3 (fun w' => w'.cell? ⟨g, 1, none⟩ = some (.int .u64 last1) ∧ w'.cell? ⟨g, 0, none⟩ = some (.slice pL mL cL) ∧ w'.cell? ⟨A, 2, none⟩ = some (.int .i64 a.t))
        ((refine HSS.out _ ?_ ?_ <;> (repeat (first | with_reducible exact HD5.out | with_reducible exact HD4.out | with_reducible exact HD3.out | with_reducible exact HD2.out | with_reducible exact HD1.out | with_reducible exact HD0.out | with_reducible exact HE5.out | with_reducible exact HE4.out | with_reducible exact HE3.out | with_reducible exact HE2.out | with_reducible exact HE1.out | with_reducible exact HE0.out | with_reducible apply ns_drew | with_reducible apply blk_drew))))
        (first
          | (go_at_call 27; refine (sent_any (NS.n (w0 := w) (b := b) (mb := mb) (g := g) (v := v1) (last := last1) (E := E1) (lr := last1) (L := L1) (by repeat (first | with_reducible exact HD0.out | with_reducible apply ns_drew))).p).mono ?_; rintro e ws ⟨rfl, rfl⟩)
          | (go_at_call 13; refine (to_any a.t (NS.n (w0 := w) (b := b) (mb := mb) (g := g) (v := v1) (last := last1) (E := E1) (lr := last1) (L := L1) (by repeat (first | with_reducible exact HD0.out | with_reducible apply ns_drew))).p HNI1.out (by omega)).mono ?_; rintro e w1 ⟨vt, rfl, ho, hb⟩; have HD1 : Hid (NS w w1 b mb g v1 last1 E1 last1 L1) := Lib.hid (NS.kept (by repeat (first | with_reducible exact HD0.out | with_reducible apply ns_drew)) hb); have HE1 : Hid (Blk w1 A [.int .i64 a.k, .int .i64 a.f, .int .i64 a.t, .slice pb a.bd.length cb, .int .u64 a.n] 42) := Lib.hid (Blk.kept (by repeat (first | with_reducible exact HE0.out | with_reducible apply blk_drew)) hb); have HT1 := Lib.hid ho; clear ho hb)
          | (go_at_call 28; refine (rto_any a.t (NS.r (w0 := w) (b := b) (mb := mb) (g := g) (v := v1) (last := last1) (E := E1) (lr := last1) (L := L1) (by repeat (first | with_reducible exact HD1.out | with_reducible apply ns_drew))) HLL1.out).mono ?_; rw [HPI.out]; rintro e w2 ⟨vu, rfl, ho, hb⟩; have HD2 : Hid (NS w w2 b mb g v1 last1 E1 last1 L1) := Lib.hid (NS.kept (by repeat (first | with_reducible exact HD1.out | with_reducible apply ns_drew)) hb); have HE2 : Hid (Blk w2 A [.int .i64 a.k, .int .i64 a.f, .int .i64 a.t, .slice pb a.bd.length cb, .int .u64 a.n] 42) := Lib.hid (Blk.kept (by repeat (first | with_reducible exact HE1.out | with_reducible apply blk_drew)) hb); have HT2 := Lib.hid (own_keep (by repeat (first | with_reducible exact HT1.out | with_reducible apply own_drew)) hb); have HU2 := Lib.hid ho; clear ho hb)
          | (go_at_call 12; refine (samenum_any _ _ _ (pick (fun e => e.l.rc == a.t) E1) _ (by repeat (first | with_reducible exact HT2.out | with_reducible apply own_drew)) (by repeat (first | with_reducible exact HU2.out | with_reducible apply own_drew))).mono ?_; rintro e w3 ⟨rfl, hb⟩; have HD3 : Hid (NS w w3 b mb g v1 last1 E1 last1 L1) := Lib.hid (NS.kept (by repeat (first | with_reducible exact HD2.out | with_reducible apply ns_drew)) hb); have HE3 : Hid (Blk w3 A [.int .i64 a.k, .int .i64 a.f, .int .i64 a.t, .slice pb a.bd.length cb, .int .u64 a.n] 42) := Lib.hid (Blk.kept (by repeat (first | with_reducible exact HE2.out | with_reducible apply blk_drew)) hb); clear hb)
          | (go_at_call 30; refine (flight_any (NS.n (w0 := w) (b := b) (mb := mb) (g := g) (v := v1) (last := last1) (E := E1) (lr := last1) (L := L1) (by repeat (first | with_reducible exact HD3.out | with_reducible apply ns_drew))).p HNI1.out (by omega) (fun e he => by have := HBD1.out e he; omega)).mono ?_; rintro e w4 ⟨vf, Ls, rfl, hls, hlt9, hb⟩; have HD4 : Hid (NS w w4 b mb g v1 last1 E1 last1 L1) := Lib.hid (NS.kept (by repeat (first | with_reducible exact HD3.out | with_reducible apply ns_drew)) hb); have HE4 : Hid (Blk w4 A [.int .i64 a.k, .int .i64 a.f, .int .i64 a.t, .slice pb a.bd.length cb, .int .u64 a.n] 42) := Lib.hid (Blk.kept (by repeat (first | with_reducible exact HE3.out | with_reducible apply blk_drew)) hb); have HF4 := Lib.hid hlt9; have HLS := Lib.hid hls; clear hls hlt9 hb)
          | (go_at_call 29; refine (flsame_of HV1.out HML.out (NS.r (w0 := w) (b := b) (mb := mb) (g := g) (v := v1) (last := last1) (E := E1) (lr := last1) (L := L1) (by repeat (first | with_reducible exact HD4.out | with_reducible apply ns_drew))) (by repeat (first | with_reducible exact HF4.out | with_reducible apply lts_drew)) (show lts _ = lts _ from HLS.out.trans HEQ1.out.symm)).mono ?_; rintro e w5 ⟨rfl, hb⟩; have HD5 : Hid (NS w w5 b mb g v1 last1 E1 last1 L1) := Lib.hid (NS.kept (by repeat (first | with_reducible exact HD4.out | with_reducible apply ns_drew)) hb); have HE5 : Hid (Blk w5 A [.int .i64 a.k, .int .i64 a.f, .int .i64 a.t, .slice pb a.bd.length cb, .int .u64 a.n] 42) := Lib.hid (Blk.kept (by repeat (first | with_reducible exact HE4.out | with_reducible apply blk_drew)) hb); clear hb))
      go_wp2
      go_roundw
      case rel => exact ⟨k + 1, by go_num, by omega, Lib.hid (HNF.out _ (by repeat (first | with_reducible exact HD5.out | with_reducible apply ns_drew)))⟩
      case measure => first | (simp [So.intOf]; done) | (simp [So.intOf]; omega)
theorem netScript_walk (v : Value) (es : List (List Value)) (w : World) (hr : Row w v 5 es.length es.flatten) (hf : ∀ x ∈ es, Go.Proofs.Ytndjgbknhfficaa.Leavz Try.prog w naLs x) : Calls Try.prog 5 #[v] w fun e w' => e = .returned (.bool true) ∧ Below w.heap.size w w' := by
  obtain ⟨l, hl⟩ := nas_of hr hf (by kernel_rfl)
  exact netScript_any v l w hl
end Go.Proofs.Ytndjgbknhfficaa.Nt
