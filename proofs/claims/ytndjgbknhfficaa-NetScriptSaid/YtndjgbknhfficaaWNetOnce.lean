/- WNetOnce. -/
import Derived.Test.YtndjgbknhfficaaNtOnceW
import Derived.Test.YtndjgbknhfficaaNtWas
import Derived.Test.YtndjgbknhfficaaNtAct
import Derived.Test.YtndjgbknhfficaaNtLives
import Derived.Test.YtndjgbknhfficaaPick
import Derived.Deep.RegionHeld3
namespace Go.Proofs.Ytndjgbknhfficaa.Nt
open Go.RowKit Go.Proofs.Ytndjgbknhfficaa Go.Proofs.Ytndjgbknhfficaa.So

theorem info_let : (Try.prog.info? 32).map (fun i => (i.zero, i.size, i.bytes)) = some (some zeV, 5, 56) := by kernel_rfl
theorem naC_len (x : Na) : (Na.c x).length = 5 := rfl
set_option maxRecDepth 100000 in
set_option maxHeartbeats 3000000 in
theorem netOnce_any (v : Value) (l : List Na) (w : World) (h : Nas w v l) : Calls Try.prog 4 #[v] w fun e w' => e = .returned (.bool true) ∧ Below w.heap.size w w' := by
  have H := Lib.hid h
  obtain ⟨p, c, rfl, hc, hm, -, -, -, hat⟩ := h.row
  have HAT := Lib.hid hat
  obtain ⟨n, hn⟩ : ∃ n, n = l.length := ⟨_, rfl⟩
  have HNN := Lib.hid hn
  rw [← hn] at hc ⊢
  unfold maxLen at hm
  clear h hat hn
  obtain ⟨i0, hi0, hz0, hz1, hz2⟩ := info_parts info_let
  obtain ⟨j0, hj0, hy0, hy1, hy2⟩ := info_parts info_u64
  obtain ⟨k0, hk0, hx0, hx1, hx2⟩ := info_parts Try.uinfo
  go_enter Try.func4, Try.ntmps4
  by_cases hbig : 200 < n
  · have i1 : (200 : Int) < (n : Int) := by omega
    go_wp2_with (go_at_call 7; refine (nlives _).mono ?_; rintro e w1 ⟨rfl, hb⟩; have HB0 := Lib.hid hb; clear hb)
    go_ret
    exact ⟨rfl, HB0.out⟩
  have i1 : ¬ (200 : Int) < (n : Int) := by omega
  have hn2 : n ≤ 200 := by omega
  clear hbig
  go_upto_region 9 with (first | (go_at_call 7; refine (nlives _).mono ?_; rintro e w1 ⟨rfl, hb⟩; have HB0 := Lib.hid hb; clear hb) | (go_at_call 8; refine (new_any _).mono ?_; rintro e wn ⟨b, mb, rfl, hb1, hb2, hp, hb⟩; have HN := Lib.hid (ON.of_new HB0.out hb1 hb2 hp hb); clear hb1 hb2 hp hb))
  go_loopw [4, 5, 6] (fun vs vo vi wr => ∃ (k qs cs qo co : Nat) (ps po : Option Addr), vs = .slice ps qs cs ∧ vo = .slice po qo co ∧ vi = .int .i64 k ∧ k ≤ n ∧ qs ≤ k ∧ qo ≤ k ∧ Hid (∃ last E Sn Ov, OW w wr b mb last E Sn Ov (.slice ps qs cs) (.slice po qo co) ∧ OnceP last E Sn Ov k ∧ qs = Sn.length ∧ qo = Ov.length)) (fun _ _ vi _ => n - (So.intOf vi).toNat)
  case atStart => exact ⟨0, 0, 0, 0, 0, none, none, rfl, rfl, by go_num, Nat.zero_le _, Nat.le_refl _, Nat.le_refl _, Lib.hid ⟨0, [], [], [], OW.start HN.out, OnceP.nil, rfl, rfl⟩⟩
  case round =>
    obtain ⟨k, qs, cs, qo, co, ps, po, rfl, rfl, rfl, hkn, hqs, hqo, HR⟩ := hrel
    by_cases hlt : k < n
    rotate_left
    · obtain rfl : k = n := by omega
      go_wp2
      go_ret
      obtain ⟨_, _, _, _, h1, -⟩ := HR.out
      exact ⟨rfl, h1.n.bel⟩
    obtain ⟨last, E, Sn, Ov, hw, hp, hqsE, hqoE⟩ := HR.out
    have HW := Lib.hid hw
    have HP := Lib.hid hp
    have HQS := Lib.hid hqsE
    have HQO := Lib.hid hqoE
    clear hw hp hqsE hqoE HR
    have K1 : Hid (k < l.length) := Lib.hid (by rw [← HNN.out]; exact hlt)
    rcases HAT.out with ha | ⟨ab, o, rfl, ha⟩
    · exact absurd (congrArg List.length ha) (by rw [rwC_len naC_len]; have := K1.out; simp; omega)
    obtain ⟨a, ha5⟩ : ∃ a, a = l[k]'K1.out := ⟨_, rfl⟩
    have HOK := Lib.hid (H.out.ok a (by rw [ha5]; exact List.getElem_mem _))
    have hc5 : ∀ j u, j < 5 → (Na.c a)[j]? = some u → wr.cell? ⟨ab, o + (k * 5 + j), none⟩ = some u := fun j u hj hu => cell_kept (ha _ u (by rw [rwC_at naC_len K1.out hj, ← ha5]; exact hu)) HW.out.n.bel
    obtain ⟨pb, cb, hvb, -⟩ := HOK.out.v.parts
    have x0 : wr.cell? ⟨ab, o + k * 5, none⟩ = some (.int .i64 a.k) := by have := hc5 0 (.int .i64 a.k) (by omega) rfl; simpa [Nat.add_assoc] using this
    have x1 : wr.cell? ⟨ab, o + k * 5 + 1, none⟩ = some (.int .i64 a.f) := by have := hc5 1 (.int .i64 a.f) (by omega) rfl; simpa [Nat.add_assoc] using this
    have x2 : wr.cell? ⟨ab, o + k * 5 + 2, none⟩ = some (.int .i64 a.t) := by have := hc5 2 (.int .i64 a.t) (by omega) rfl; simpa [Nat.add_assoc] using this
    have x3 : wr.cell? ⟨ab, o + k * 5 + 3, none⟩ = some (.slice pb a.bd.length cb) := by have := hc5 3 a.v (by omega) rfl; rw [hvb] at this; simpa [Nat.add_assoc] using this
    have x4 : wr.cell? ⟨ab, o + k * 5 + 4, none⟩ = some (.int .u64 a.n) := by have := hc5 4 (.int .u64 a.n) (by omega) rfl; simpa [Nat.add_assoc] using this
    have HV : Hid (Go.Proofs.Ytndjgbknhfficaa.Rd w (.slice pb a.bd.length cb) a.bd) := Lib.hid (by rw [← hvb]; exact HOK.out.v)
    have hwfn := Lib.hid HOK.out.n
    have hwff := Lib.hid (And.intro HOK.out.f HOK.out.t)
    have hvE := Lib.hid hvb
    clear ha hc5 ha5 hvb HOK
    go_upto_region 12 with fail
    obtain ⟨A, hA⟩ : ∃ A, A = wr.heap.size := ⟨_, rfl⟩
    obtain ⟨w5, hw5⟩ : ∃ w5, w5 = wr.alloc (.cells #[.int .i64 a.k, .int .i64 a.f, .int .i64 a.t, .slice pb a.bd.length cb, .int .u64 a.n] 42) := ⟨_, rfl⟩
    have HA5 : Hid (Blk w5 A [.int .i64 a.k, .int .i64 a.f, .int .i64 a.t, .slice pb a.bd.length cb, .int .u64 a.n] 42) := Lib.hid (by rw [hw5, hA]; exact Blk.made wr [.int .i64 a.k, .int .i64 a.f, .int .i64 a.t, .slice pb a.bd.length cb, .int .u64 a.n] _)
    have HW5 : Hid (OW w w5 b mb last E Sn Ov (.slice ps qs cs) (.slice po qo co)) := Lib.hid (by rw [hw5]; exact HW.out.kept (below_alloc _ _))
    rw [← hw5, ← hA]
    clear hw5 hA x0 x1 x2 x3 x4 HW
    have a0 := HA5.out.cell (j := 0) rfl
    have a1 := HA5.out.cell (j := 1) rfl
    have a2 := HA5.out.cell (j := 2) rfl
    have a3 := HA5.out.cell (j := 3) rfl
    have a4 := HA5.out.cell (j := 4) rfl
    obtain ⟨q, hq⟩ : ∃ q, q = a.k % 5 := ⟨_, rfl⟩
    have HPK := Lib.hid (fun w' => pickn_any a.k 5 w' (by omega) (by omega))
    rw [← hq] at HPK
    have hq5 : q = 0 ∨ q = 1 ∨ q = 2 ∨ q = 3 ∨ q = 4 := by omega
    clear hq
    go_upto_region 14 with (go_at_call 15; refine (HPK.out _).mono ?_; rintro e w6 ⟨rfl, rfl⟩)
    clear HPK
    rcases hq5 with rfl | rfl | rfl | rfl | rfl
    · by_cases hlb : 20000 < a.bd.length
      · have t0 : (20000 : Int) < (a.bd.length : Int) := by omega
        go_wp2
        go_ret
        exact ⟨rfl, HW5.out.n.bel⟩
      have t0 : ¬ (20000 : Int) < (a.bd.length : Int) := by omega
      have HSS : Hid (∀ w', Frp (NP b mb) w5 w' → w'.cell? ⟨A, 1, none⟩ = some (.int .i64 a.f) ∧ w'.cell? ⟨A, 2, none⟩ = some (.int .i64 a.t) ∧ w'.cell? ⟨A, 3, none⟩ = some (.slice pb a.bd.length cb)) := Lib.hid (fun w' hf => by have h1 := HA5.out.frp hf (HW5.out.n.p.apB HA5.out (by decide)); exact ⟨h1.cell (j := 1) rfl, h1.cell (j := 2) rfl, h1.cell (j := 3) rfl⟩)
      cases hnd : (nodeB a.f && nodeB a.t)
      · have HND := Lib.hid hnd
        clear hnd
        go_upto_region 17 with fail
        go_region_held3 (fun w' => w'.cell? ⟨A, 1, none⟩ = some (.int .i64 a.f) ∧ w'.cell? ⟨A, 2, none⟩ = some (.int .i64 a.t) ∧ w'.cell? ⟨A, 3, none⟩ = some (.slice pb a.bd.length cb))
          (refine HSS.out _ ?_ <;> (repeat (first | with_reducible exact Frp.refl _ _ | with_reducible exact HF8.out | with_reducible exact HF7.out | apply frp_drew | apply frp_alloc)))
          (first
            | (refine step_app rfl (.tmp 47) (.tmp 49) 29 29 rfl w5.heap.size 5 k0 (.int .u8 0) 1 1 Try.underlying29 hk0 hx0 hx1 hx2 rfl (.slice (some ⟨w5.heap.size, 0, none⟩) 0 0) 0 [] (by rfl) (own_drew (own_e w5 w5.heap.size (Nat.le_refl _))) (.slice pb a.bd.length cb) a.bd.length (a.bd.map B) (by rfl) ((HV.out.below (below_and HW5.out.n.bel (below_drew' (below_alloc w5 _)))).src Try.underlying29) (by unfold maxLen; omega) (by omega) (Below.size (below_drew' (below_alloc w5 (.cells #[] 5)))) ?_; intro v7 w7 ho7 hg7 _ _; rw [Nat.zero_add, List.nil_append] at ho7; have HE7 : Hid (Frp (fun _ => False) w5 w7) := Lib.hid (Frp.grown (frp_drew (frp_alloc (Frp.refl _ w5) _)) hg7 (by intro k hk; right; cases hk; exact Nat.le_refl _)); have HB7 : Hid (Below w5.heap.size w5 w7) := Lib.hid (HE7.out.below (fun k hk => hk.elim) (Nat.le_refl _)); have HF7 : Hid (Frp (NP b mb) w5 w7) := Lib.hid (HE7.out.mono (fun k hk => hk.elim)); obtain ⟨p7, c7, rfl, -, -⟩ := own_slice ho7; have HR7 : Hid (Go.Proofs.Ytndjgbknhfficaa.Rd w7 (.slice p7 a.bd.length c7) a.bd) := Lib.hid (Fresh.rd ho7); have HP7 : Hid (PNet w7 b mb last E) := Lib.hid (HW5.out.n.p.kept HB7.out); clear ho7 hg7 HE7)
            | (go_at_call 9; refine (send_arg a.f a.t _ (HP7.out.kept (by repeat (first | with_reducible exact Below.refl _ _ | apply below_drew'))) HND.out).mono ?_; rintro e w8 ⟨rfl, rfl⟩))
        refine at_hide' (F := fun w' => PNet w' b mb last E ∧ Frp (NP b mb) w5 w' ∧ Blk w' A [.int .i64 a.k, .int .i64 a.f, .int .i64 a.t, .slice pb a.bd.length cb, .int .u64 a.n] 42) ⟨by repeat (first | with_reducible exact HP7.out | apply pnet_drew), by repeat (first | with_reducible exact HF7.out | apply frp_drew), HA5.out.frp (by repeat (first | with_reducible exact HF7.out | apply frp_drew)) (HW5.out.n.p.apB HA5.out (by decide))⟩ ?_
        intro w9 h9
        have HW9 := Lib.hid (HW5.out.step h9.1 h9.2.1)
        have HA9 := Lib.hid h9.2.2
        clear h9
        have d0 := HA9.out.cell (j := 0) rfl
        have d1 := HA9.out.cell (j := 1) rfl
        have d2 := HA9.out.cell (j := 2) rfl
        have d3 := HA9.out.cell (j := 3) rfl
        have d4 := HA9.out.cell (j := 4) rfl
        go_wp2
        go_roundw
        case rel => exact ⟨k + 1, qs, cs, qo, co, ps, po, rfl, rfl, by go_num, by omega, by omega, by omega, Lib.hid ⟨_, _, _, _, HW9.out, HP.out.more, HQS.out, HQO.out⟩⟩
        case measure => first | (simp [So.intOf]; done) | (simp [So.intOf]; omega)
      by_cases hln : 16384 < a.bd.length
      · have HND := Lib.hid hnd
        have HLN := Lib.hid hln
        clear hnd hln
        go_upto_region 17 with fail
        go_region_held3 (fun w' => w'.cell? ⟨A, 1, none⟩ = some (.int .i64 a.f) ∧ w'.cell? ⟨A, 2, none⟩ = some (.int .i64 a.t) ∧ w'.cell? ⟨A, 3, none⟩ = some (.slice pb a.bd.length cb))
          (refine HSS.out _ ?_ <;> (repeat (first | with_reducible exact Frp.refl _ _ | with_reducible exact HF8.out | with_reducible exact HF7.out | apply frp_drew | apply frp_alloc)))
          (first
            | (refine step_app rfl (.tmp 47) (.tmp 49) 29 29 rfl w5.heap.size 5 k0 (.int .u8 0) 1 1 Try.underlying29 hk0 hx0 hx1 hx2 rfl (.slice (some ⟨w5.heap.size, 0, none⟩) 0 0) 0 [] (by rfl) (own_drew (own_e w5 w5.heap.size (Nat.le_refl _))) (.slice pb a.bd.length cb) a.bd.length (a.bd.map B) (by rfl) ((HV.out.below (below_and HW5.out.n.bel (below_drew' (below_alloc w5 _)))).src Try.underlying29) (by unfold maxLen; omega) (by omega) (Below.size (below_drew' (below_alloc w5 (.cells #[] 5)))) ?_; intro v7 w7 ho7 hg7 _ _; rw [Nat.zero_add, List.nil_append] at ho7; have HE7 : Hid (Frp (fun _ => False) w5 w7) := Lib.hid (Frp.grown (frp_drew (frp_alloc (Frp.refl _ w5) _)) hg7 (by intro k hk; right; cases hk; exact Nat.le_refl _)); have HB7 : Hid (Below w5.heap.size w5 w7) := Lib.hid (HE7.out.below (fun k hk => hk.elim) (Nat.le_refl _)); have HF7 : Hid (Frp (NP b mb) w5 w7) := Lib.hid (HE7.out.mono (fun k hk => hk.elim)); obtain ⟨p7, c7, rfl, -, -⟩ := own_slice ho7; have HR7 : Hid (Go.Proofs.Ytndjgbknhfficaa.Rd w7 (.slice p7 a.bd.length c7) a.bd) := Lib.hid (Fresh.rd ho7); have HP7 : Hid (PNet w7 b mb last E) := Lib.hid (HW5.out.n.p.kept HB7.out); clear ho7 hg7 HE7)
            | (go_at_call 9; refine (send_long a.f a.t _ a.bd (HP7.out.kept (by repeat (first | with_reducible exact Below.refl _ _ | apply below_drew'))) (HR7.out.below (by repeat (first | with_reducible exact Below.refl _ _ | apply below_drew'))) HND.out HLN.out).mono ?_; rintro e w8 ⟨rfl, rfl⟩))
        refine at_hide' (F := fun w' => PNet w' b mb last E ∧ Frp (NP b mb) w5 w' ∧ Blk w' A [.int .i64 a.k, .int .i64 a.f, .int .i64 a.t, .slice pb a.bd.length cb, .int .u64 a.n] 42) ⟨by repeat (first | with_reducible exact HP7.out | apply pnet_drew), by repeat (first | with_reducible exact HF7.out | apply frp_drew), HA5.out.frp (by repeat (first | with_reducible exact HF7.out | apply frp_drew)) (HW5.out.n.p.apB HA5.out (by decide))⟩ ?_
        intro w9 h9
        have HW9 := Lib.hid (HW5.out.step h9.1 h9.2.1)
        have HA9 := Lib.hid h9.2.2
        clear h9
        have d0 := HA9.out.cell (j := 0) rfl
        have d1 := HA9.out.cell (j := 1) rfl
        have d2 := HA9.out.cell (j := 2) rfl
        have d3 := HA9.out.cell (j := 3) rfl
        have d4 := HA9.out.cell (j := 4) rfl
        go_wp2
        go_roundw
        case rel => exact ⟨k + 1, qs, cs, qo, co, ps, po, rfl, rfl, by go_num, by omega, by omega, by omega, Lib.hid ⟨_, _, _, _, HW9.out, HP.out.more, HQS.out, HQO.out⟩⟩
        case measure => first | (simp [So.intOf]; done) | (simp [So.intOf]; omega)
      · have HND := Lib.hid hnd
        have HLN : Hid (a.bd.length ≤ 16384) := Lib.hid (by omega)
        clear hnd hln
        go_upto_region 17 with fail
        go_region_held3 (fun w' => w'.cell? ⟨A, 1, none⟩ = some (.int .i64 a.f) ∧ w'.cell? ⟨A, 2, none⟩ = some (.int .i64 a.t) ∧ w'.cell? ⟨A, 3, none⟩ = some (.slice pb a.bd.length cb))
          (refine HSS.out _ ?_ <;> (repeat (first | with_reducible exact Frp.refl _ _ | with_reducible exact HF8.out | with_reducible exact HF7.out | apply frp_drew | apply frp_alloc)))
          (first
            | (refine step_app rfl (.tmp 47) (.tmp 49) 29 29 rfl w5.heap.size 5 k0 (.int .u8 0) 1 1 Try.underlying29 hk0 hx0 hx1 hx2 rfl (.slice (some ⟨w5.heap.size, 0, none⟩) 0 0) 0 [] (by rfl) (own_drew (own_e w5 w5.heap.size (Nat.le_refl _))) (.slice pb a.bd.length cb) a.bd.length (a.bd.map B) (by rfl) ((HV.out.below (below_and HW5.out.n.bel (below_drew' (below_alloc w5 _)))).src Try.underlying29) (by unfold maxLen; omega) (by omega) (Below.size (below_drew' (below_alloc w5 (.cells #[] 5)))) ?_; intro v7 w7 ho7 hg7 _ _; rw [Nat.zero_add, List.nil_append] at ho7; have HE7 : Hid (Frp (fun _ => False) w5 w7) := Lib.hid (Frp.grown (frp_drew (frp_alloc (Frp.refl _ w5) _)) hg7 (by intro k hk; right; cases hk; exact Nat.le_refl _)); have HB7 : Hid (Below w5.heap.size w5 w7) := Lib.hid (HE7.out.below (fun k hk => hk.elim) (Nat.le_refl _)); have HF7 : Hid (Frp (NP b mb) w5 w7) := Lib.hid (HE7.out.mono (fun k hk => hk.elim)); obtain ⟨p7, c7, rfl, -, -⟩ := own_slice ho7; have HR7 : Hid (Go.Proofs.Ytndjgbknhfficaa.Rd w7 (.slice p7 a.bd.length c7) a.bd) := Lib.hid (Fresh.rd ho7); have HP7 : Hid (PNet w7 b mb last E) := Lib.hid (HW5.out.n.p.kept HB7.out); clear ho7 hg7 HE7)
            | (go_at_call 9; refine (send_ok a.f a.t _ a.bd (HP7.out.kept (by repeat (first | with_reducible exact Below.refl _ _ | apply below_drew'))) HP.out.ni (by omega) (HR7.out.below (by repeat (first | with_reducible exact Below.refl _ _ | apply below_drew'))) HND.out HLN.out).mono ?_; rintro e w8 ⟨rfl, u, hp, hf⟩; have HF8 : Hid (Frp (NP b mb) w5 w8) := Lib.hid (Frp.then (by repeat (first | with_reducible exact HF7.out | apply frp_drew)) hf); have HP8 := Lib.hid hp; clear hp hf))
        refine at_hide' (F := fun w' => PNet w' b mb (last + 1) (E ++ [⟨⟨last + 1, last + 1, a.f, a.t, a.bd⟩, u⟩]) ∧ Frp (NP b mb) w5 w' ∧ Blk w' A [.int .i64 a.k, .int .i64 a.f, .int .i64 a.t, .slice pb a.bd.length cb, .int .u64 a.n] 42) ⟨by repeat (first | with_reducible exact HP8.out | apply pnet_drew), by repeat (first | with_reducible exact HF8.out | apply frp_drew), HA5.out.frp (by repeat (first | with_reducible exact HF8.out | apply frp_drew)) (HW5.out.n.p.apB HA5.out (by decide))⟩ ?_
        intro w9 h9
        have HW9 := Lib.hid (HW5.out.step h9.1 h9.2.1)
        have HA9 := Lib.hid h9.2.2
        clear h9
        have d0 := HA9.out.cell (j := 0) rfl
        have d1 := HA9.out.cell (j := 1) rfl
        have d2 := HA9.out.cell (j := 2) rfl
        have d3 := HA9.out.cell (j := 3) rfl
        have d4 := HA9.out.cell (j := 4) rfl
        have HS := Lib.hid (src_block Try.underlying40 _ w9.heap.size #[.int .u64 (last + 1), .int .u64 (last + 1), .int .i64 a.f, .int .i64 a.t, .slice pb a.bd.length cb] (Blk.made w9 [.int .u64 (last + 1), .int .u64 (last + 1), .int .i64 a.f, .int .i64 a.t, .slice pb a.bd.length cb] 32) rfl (by simp [Value.oneCell']))
        have HOA := Lib.hid (HW9.out.kept (below_alloc w9 (.cells #[.int .u64 (last + 1), .int .u64 (last + 1), .int .i64 a.f, .int .i64 a.t, .slice pb a.bd.length cb] 32)))
        have HRO : Hid ((w9.alloc (.cells #[.int .u64 (last + 1), .int .u64 (last + 1), .int .i64 a.f, .int .i64 a.t, .slice pb a.bd.length cb] 32)).ownsRow w.heap.size 32 5 (.slice ps qs cs) qs (rwC enC Sn)) := Lib.hid (by have h9 := HOA.out.rs; rw [← HQS.out] at h9; exact h9)
        go_wp2_with (at_builtin; refine wpList_app _ rfl _ _ 40 40 rfl w.heap.size 32 i0 zeV 5 56 Try.underlying40 hi0 hz0 hz1 hz2 rfl _ qs _ rfl HRO.out _ 1 _ rfl HS.out (by unfold maxLen; omega) (by omega) HOA.out.n.bel.size ?_; intro v9 w10 ho9 hg9 _; obtain ⟨p9, c9, rfl, -, -⟩ := own_slice ho9; have HO9 := Lib.hid ho9; have HG9 := Lib.hid hg9; clear ho9 hg9)
        go_roundw
        case rel => exact ⟨k + 1, qs + 1, c9, qo, co, p9, po, rfl, rfl, by go_num, by omega, by omega, by omega, Lib.hid ⟨_, _, _, _, HOA.out.sent (s := ⟨⟨last + 1, last + 1, a.f, a.t, a.bd⟩, .slice pb a.bd.length cb⟩) HG9.out (by have h9 := HO9.out; rw [HQS.out] at h9 ⊢; exact h9) HV.out, HP.out.send a.f a.t a.bd u _ HLN.out, by rw [List.length_append, HQS.out]; rfl, HQO.out⟩⟩
        case measure => first | (simp [So.intOf]; done) | (simp [So.intOf]; omega)
    · cases hg : eget E a.n
      · have HG := Lib.hid hg
        clear hg
        go_wp2_with (go_at_call 11; refine (deliver_no a.n HW5.out.n.p hwfn.out HG.out).mono ?_; rintro e w7 ⟨rfl, hb⟩; have HW7 := Lib.hid (HW5.out.kept hb); clear hb)
        go_roundw
        case rel => exact ⟨k + 1, qs, cs, qo, co, ps, po, rfl, rfl, by go_num, by omega, by omega, by omega, Lib.hid ⟨_, _, _, _, HW7.out.kept (below_alloc _ _), HP.out.more, HQS.out, HQO.out⟩⟩
        case measure => first | (simp [So.intOf]; done) | (simp [So.intOf]; omega)
      · rename_i x
        have HG := Lib.hid hg
        have hno := (eget_mem hg).2
        have tno : (x.l.no != a.n) = false := by simp [hno]
        have hox := HW5.out.n.p.own x (eget_mem hg).1
        obtain ⟨px, cx, hv, -, -⟩ := own_slice hox
        have DE := deliver_yes a.n x HW5.out.n.p hwfn.out hg
        have HOX := Lib.hid hox
        rw [hv] at DE HOX
        have HDE := Lib.hid DE
        clear DE hv hox hg hno
        go_upto_region 22 with (go_at_call 11; refine HDE.out.mono ?_; rintro e w7 ⟨rfl, hp, hf⟩; have HA7 := Lib.hid (HA5.out.frp hf (HW5.out.n.p.apB HA5.out (by decide))); have HW7 := Lib.hid (HW5.out.step hp hf); have HX7 := Lib.hid (own_frp HOX.out hf (HW5.out.n.p.ap HOX.out)); clear hp hf)
        obtain ⟨K, hK⟩ : ∃ K, K = w7.heap.size := ⟨_, rfl⟩
        obtain ⟨w8, hw8⟩ : ∃ w8, w8 = w7.alloc (.cells #[.int .u64 x.l.no, .int .u64 x.l.fi, .int .i64 x.l.sd, .int .i64 x.l.rc, .slice px x.l.bd.length cx] 32) := ⟨_, rfl⟩
        have HK8 : Hid (Blk w8 K [.int .u64 x.l.no, .int .u64 x.l.fi, .int .i64 x.l.sd, .int .i64 x.l.rc, .slice px x.l.bd.length cx] 32) := Lib.hid (by rw [hw8, hK]; exact Blk.made w7 [.int .u64 x.l.no, .int .u64 x.l.fi, .int .i64 x.l.sd, .int .i64 x.l.rc, .slice px x.l.bd.length cx] _)
        have HA8 : Hid (Blk w8 A [.int .i64 a.k, .int .i64 a.f, .int .i64 a.t, .slice pb a.bd.length cb, .int .u64 a.n] 42) := Lib.hid (by rw [hw8]; exact HA7.out.kept (below_alloc _ _))
        have HW8 : Hid (OW w w8 b mb last (edel E a.n) Sn Ov (.slice ps qs cs) (.slice po qo co)) := Lib.hid (by rw [hw8]; exact HW7.out.kept (below_alloc _ _))
        have HX8 : Hid (Go.Proofs.Ytndjgbknhfficaa.Rd w8 (.slice px x.l.bd.length cx) x.l.bd) := Lib.hid (by rw [hw8]; exact (Fresh.rd (base := 0) HX7.out).below (below_alloc _ _))
        rw [← hw8, ← hK]
        clear hw8 hK HW7 HA7 HX7 a0 a1 a2 a3 a4 HDE HOX
        have c84 := HA8.out.cell (j := 4) rfl
        obtain ⟨i, hi, hbf, hqi⟩ := HP.out.was (eget_mem HG.out).1
        have HWAS := Lib.hid (fun w' (h1 : w'.ownsRow w.heap.size 32 5 (.slice ps qs cs) Sn.length (rwC enC Sn)) (h2 : ∀ e ∈ Sn, Go.Proofs.Ytndjgbknhfficaa.Rd w' e.v e.l.bd) (h3 : Go.Proofs.Ytndjgbknhfficaa.Rd w' (.slice px x.l.bd.length cx) x.l.bd) => was_any (.slice ps qs cs) Sn x.l _ w' h1 h2 h3 i hi hbf hqi)
        simp only [ltV] at HWAS
        clear hbf hqi hi
        go_upto_region 25 with (first | (go_at_call 16; refine (in_any _ Ov a.n w8 HW8.out.ro).mono ?_; rw [HP.out.fresh HG.out]; rintro e w9 ⟨rfl, hb⟩; have HA9 := Lib.hid (HA8.out.kept hb); have HW9 := Lib.hid (HW8.out.kept hb); have c94 := HA9.out.cell (j := 4) rfl; have HK9 := Lib.hid (HK8.out.kept hb); have HX9 := Lib.hid (HX8.out.below hb); have e0 := HK9.out.cell (j := 0) rfl; have e1 := HK9.out.cell (j := 1) rfl; have e2 := HK9.out.cell (j := 2) rfl; have e3 := HK9.out.cell (j := 3) rfl; have e4 := HK9.out.cell (j := 4) rfl; clear hb) | (go_at_call 17; refine (HWAS.out w9 HW9.out.rs (fun e he => (HW9.out.rb e he).below HW9.out.n.bel) HX9.out).mono ?_; rintro e w10 ⟨rfl, hb⟩; have HA10 := Lib.hid (HA9.out.kept hb); have HW10 := Lib.hid (HW9.out.kept hb); have d4 := HA10.out.cell (j := 4) rfl; clear hb))
        have HS := Lib.hid (src_block Try.underlying36 _ w10.heap.size #[.int .u64 a.n] (Blk.made w10 [.int .u64 a.n] 25) rfl (by simp [Value.oneCell']))
        have HOA := Lib.hid (HW10.out.kept (below_alloc w10 (.cells #[.int .u64 a.n] 25)))
        have HRO : Hid ((w10.alloc (.cells #[.int .u64 a.n] 25)).ownsRow w.heap.size 25 1 (.slice po qo co) qo (Ov.map encU)) := Lib.hid (by have h9 := HOA.out.ro; rw [← HQO.out] at h9; exact h9)
        go_wp2_with (at_builtin; refine wpList_app _ rfl _ _ 36 36 rfl w.heap.size 25 j0 (.int .u64 0) 1 8 Try.underlying36 hj0 hy0 hy1 hy2 rfl _ qo _ rfl HRO.out _ 1 _ rfl HS.out (by unfold maxLen; omega) (by omega) HOA.out.n.bel.size ?_; intro v9 w9 ho9 hg9 _; obtain ⟨p9, c9, rfl, -, -⟩ := own_slice ho9; have HO9 := Lib.hid ho9; have HG9 := Lib.hid hg9; clear ho9 hg9)
        go_roundw
        case rel => exact ⟨k + 1, qs, cs, qo + 1, c9, ps, p9, rfl, rfl, by go_num, by omega, by omega, by omega, Lib.hid ⟨_, _, _, _, HOA.out.over HG9.out (by have h9 := HO9.out; rw [HQO.out] at h9 ⊢; exact h9), HP.out.gone HG.out, HQS.out, by rw [List.length_append, HQO.out]; rfl⟩⟩
        case measure => first | (simp [So.intOf]; done) | (simp [So.intOf]; omega)
    · cases hg : eget E a.n
      · have HG := Lib.hid hg
        clear hg
        go_wp2_with (go_at_call 14; refine (lose_no a.n HW5.out.n.p hwfn.out HG.out).mono ?_; rintro e w7 ⟨rfl, hb⟩; have HW7 := Lib.hid (HW5.out.kept hb); clear hb)
        go_roundw
        case rel => exact ⟨k + 1, qs, cs, qo, co, ps, po, rfl, rfl, by go_num, by omega, by omega, by omega, Lib.hid ⟨_, _, _, _, HW7.out, HP.out.more, HQS.out, HQO.out⟩⟩
        case measure => first | (simp [So.intOf]; done) | (simp [So.intOf]; omega)
      · rename_i x
        have HG := Lib.hid hg
        clear hg
        go_upto_region 30 with (first | (go_at_call 14; refine (lose_yes a.n x HW5.out.n.p hwfn.out HG.out).mono ?_; rintro e w7 ⟨rfl, hp, hf⟩; have HA7 := Lib.hid (HA5.out.frp hf (HW5.out.n.p.apB HA5.out (by decide))); have HW7 := Lib.hid (HW5.out.step hp hf); have c74 := HA7.out.cell (j := 4) rfl; clear hp hf) | (go_at_call 16; refine (in_any _ Ov a.n w7 HW7.out.ro).mono ?_; rw [HP.out.fresh HG.out]; rintro e w8 ⟨rfl, hb⟩; have HA8 := Lib.hid (HA7.out.kept hb); have HW8 := Lib.hid (HW7.out.kept hb); have c84 := HA8.out.cell (j := 4) rfl; clear hb))
        have HS := Lib.hid (src_block Try.underlying36 _ w8.heap.size #[.int .u64 a.n] (Blk.made w8 [.int .u64 a.n] 25) rfl (by simp [Value.oneCell']))
        have HOA := Lib.hid (HW8.out.kept (below_alloc w8 (.cells #[.int .u64 a.n] 25)))
        have HRO : Hid ((w8.alloc (.cells #[.int .u64 a.n] 25)).ownsRow w.heap.size 25 1 (.slice po qo co) qo (Ov.map encU)) := Lib.hid (by have h9 := HOA.out.ro; rw [← HQO.out] at h9; exact h9)
        go_wp2_with (at_builtin; refine wpList_app _ rfl _ _ 36 36 rfl w.heap.size 25 j0 (.int .u64 0) 1 8 Try.underlying36 hj0 hy0 hy1 hy2 rfl _ qo _ rfl HRO.out _ 1 _ rfl HS.out (by unfold maxLen; omega) (by omega) HOA.out.n.bel.size ?_; intro v9 w9 ho9 hg9 _; obtain ⟨p9, c9, rfl, -, -⟩ := own_slice ho9; have HO9 := Lib.hid ho9; have HG9 := Lib.hid hg9; clear ho9 hg9)
        go_roundw
        case rel => exact ⟨k + 1, qs, cs, qo + 1, c9, ps, p9, rfl, rfl, by go_num, by omega, by omega, by omega, Lib.hid ⟨_, _, _, _, HOA.out.over HG9.out (by have h9 := HO9.out; rw [HQO.out] at h9 ⊢; exact h9), HP.out.gone HG.out, HQS.out, by rw [List.length_append, HQO.out]; rfl⟩⟩
        case measure => first | (simp [So.intOf]; done) | (simp [So.intOf]; omega)
    · cases hg : eget E a.n
      · have HG := Lib.hid hg
        clear hg
        go_wp2_with (go_at_call 10; refine (double_no a.n HW5.out.n.p hwfn.out HG.out).mono ?_; rintro e w7 ⟨rfl, hb⟩; have HW7 := Lib.hid (HW5.out.kept hb); clear hb)
        go_roundw
        case rel => exact ⟨k + 1, qs, cs, qo, co, ps, po, rfl, rfl, by go_num, by omega, by omega, by omega, Lib.hid ⟨_, _, _, _, HW7.out, HP.out.more, HQS.out, HQO.out⟩⟩
        case measure => first | (simp [So.intOf]; done) | (simp [So.intOf]; omega)
      · rename_i x
        have HG := Lib.hid hg
        clear hg
        go_wp2_with (go_at_call 10; refine (double_yes a.n x HW5.out.n.p HP.out.ni (by omega) hwfn.out HG.out (by have := HP.out.bd x (eget_mem HG.out).1; omega)).mono ?_; rintro e w7 ⟨rfl, u, hp, hf⟩; have HW7 := Lib.hid (HW5.out.step hp hf); clear hp hf)
        go_roundw
        case rel => exact ⟨k + 1, qs, cs, qo, co, ps, po, rfl, rfl, by go_num, by omega, by omega, by omega, Lib.hid ⟨_, _, _, _, HW7.out, (HP.out.double (eget_mem HG.out).1 u), HQS.out, HQO.out⟩⟩
        case measure => first | (simp [So.intOf]; done) | (simp [So.intOf]; omega)
    · go_wp2_with (go_at_call 18; refine (clear_any a.t HW5.out.n.p HP.out.ni (by omega)).mono ?_; rintro e w7 ⟨rfl, hp, hf⟩; have HW7 := Lib.hid (HW5.out.step hp hf); clear hp hf)
      go_roundw
      case rel => exact ⟨k + 1, qs, cs, qo, co, ps, po, rfl, rfl, by go_num, by omega, by omega, by omega, Lib.hid ⟨_, _, _, _, HW7.out, (HP.out.sub _), HQS.out, HQO.out⟩⟩
      case measure => first | (simp [So.intOf]; done) | (simp [So.intOf]; omega)
theorem netOnce_walk (v : Value) (es : List (List Value)) (w : World) (hr : Row w v 5 es.length es.flatten) (hf : ∀ x ∈ es, Go.Proofs.Ytndjgbknhfficaa.Leavz Try.prog w naLs x) : Calls Try.prog 4 #[v] w fun e w' => e = .returned (.bool true) ∧ Below w.heap.size w w' := by
  obtain ⟨l, hl⟩ := nas_of hr hf (by kernel_rfl)
  exact netOnce_any v l w hl
end Go.Proofs.Ytndjgbknhfficaa.Nt
