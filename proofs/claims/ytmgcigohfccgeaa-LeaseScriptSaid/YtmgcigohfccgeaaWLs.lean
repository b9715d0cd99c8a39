/- The walk of LeaseScript (written by genls.py). -/
import Derived.Test.YtmgcigohfccgeaaLsRef5
import Derived.Test.YtmgcigohfccgeaaLsActs
import Derived.Test.YtmgcigohfccgeaaLsLaw
import Derived.Test.YtmgcigohfccgeaaLLives
import Derived.Test.YtmgcigohfccgeaaPick
namespace Go.Proofs.Ytmgcigohfccgeaa
open Go.RowKit

/-- both tables, and the act that is read -/
structure Lqa (w0 : World) (b mb G ga : Nat) (a : La) (v : Value) (n : Int) (x y : Ls) (w : World) : Prop where
  q : Lq w0 b mb G v n x y w
  act : Blk w ga [.int .i64 a.k, .string a.s, .int .u64 a.bt, .int .i64 a.nw, .int .i64 a.n] 66
  ne : ga ≠ b ∧ ga ≠ mb ∧ ga ≠ G ∧ ∀ q, v.ownBlock = some q → q ≠ ga
theorem Lqa.kept {w0 : World} {b mb G ga : Nat} {a : La} {v : Value} {n : Int} {x y : Ls} {w w' : World} (h : Lqa w0 b mb G ga a v n x y w) (hb : Below w.heap.size w w') : Lqa w0 b mb G ga a v n x y w' := ⟨h.q.kept hb, h.act.kept hb, h.ne⟩
theorem Lqa.drew {w0 : World} {b mb G ga : Nat} {a : La} {v : Value} {n : Int} {x y : Ls} {w : World} (h : Lqa w0 b mb G ga a v n x y w) : Lqa w0 b mb G ga a v n x y w.drew := h.kept (Below.drewN' (Below.refl _ _) 1)
theorem Lqa.one {w0 : World} {b mb G ga : Nat} {a : La} {v : Value} {n : Int} {x x' y : Ls} {w w' : World} (h : Lqa w0 b mb G ga a v n x y w) (ht : LsT w' b mb n x') (hf : Fr [b, mb] w w') : Lqa w0 b mb G ga a v n x' y w' :=
  ⟨h.q.one ht hf, h.act.fr hf (by simp; exact ⟨h.ne.1, h.ne.2.1⟩), h.ne⟩
theorem Lqa.two {w0 : World} {b mb G ga : Nat} {a : La} {v v' : Value} {n : Int} {x y y' : Ls} {w w' : World} (h : Lqa w0 b mb G ga a v n x y w) (hr : RTab w0.heap.size w' G v' n y') (hf : Fr (G :: v.ownBlock.toList) w w') (hn : RNew w w' v v') : Lqa w0 b mb G ga a v' n x y' w' := by
  refine ⟨h.q.two hr hf hn, h.act.fr hf (fun hm => ?_), h.ne.1, h.ne.2.1, h.ne.2.2.1, fun q hq e => ?_⟩
  · rcases List.mem_cons.1 hm with e | hm
    · exact h.ne.2.2.1 e
    · exact h.ne.2.2.2 ga (Option.mem_toList.1 hm) rfl
  · rcases hn q hq with h1 | h1
    · exact h.ne.2.2.2 q h1 e
    · have := h.act.lt
      omega
theorem Lqa.cells {w0 : World} {b mb G ga : Nat} {a : La} {v : Value} {n : Int} {x y : Ls} {w : World} (h : Lqa w0 b mb G ga a v n x y w) : w.cell? ⟨ga, 0, none⟩ = some (.int .i64 a.k) ∧ w.cell? ⟨ga, 1, none⟩ = some (.string a.s) ∧ w.cell? ⟨ga, 2, none⟩ = some (.int .u64 a.bt) ∧ w.cell? ⟨ga, 3, none⟩ = some (.int .i64 a.nw) ∧ w.cell? ⟨ga, 4, none⟩ = some (.int .i64 a.n) :=
  ⟨h.act.cell (j := 0) rfl, h.act.cell (j := 1) rfl, h.act.cell (j := 2) rfl, h.act.cell (j := 3) rfl, h.act.cell (j := 4) rfl⟩
theorem Lqa.c123 {w0 : World} {b mb G ga : Nat} {a : La} {v : Value} {n : Int} {x y : Ls} {w : World} (h : Lqa w0 b mb G ga a v n x y w) : w.cell? ⟨ga, 1, none⟩ = some (.string a.s) ∧ w.cell? ⟨ga, 2, none⟩ = some (.int .u64 a.bt) ∧ w.cell? ⟨ga, 3, none⟩ = some (.int .i64 a.nw) := ⟨h.cells.2.1, h.cells.2.2.1, h.cells.2.2.2.1⟩
theorem Lqa.c1 {w0 : World} {b mb G ga : Nat} {a : La} {v : Value} {n : Int} {x y : Ls} {w : World} (h : Lqa w0 b mb G ga a v n x y w) : w.cell? ⟨ga, 1, none⟩ = some (.string a.s) := h.cells.2.1
theorem Lqa.c4 {w0 : World} {b mb G ga : Nat} {a : La} {v : Value} {n : Int} {x y : Ls} {w : World} (h : Lqa w0 b mb G ga a v n x y w) : w.cell? ⟨ga, 4, none⟩ = some (.int .i64 a.n) := h.cells.2.2.2.2
set_option maxRecDepth 100000 in
set_option maxHeartbeats 600000 in
theorem leaseScript_big (n d : Int) (v : Value) (l : List La) (w : World) (h : Las w v l) (hl : 200 < l.length) :
    Calls Try.prog 9 #[.int .i64 n, .int .i64 d, v] w fun e w' => e = .returned (.bool true) ∧ Below w.heap.size w w' := by
  obtain ⟨p, c, rfl, hlc, hcm⟩ := h.shape
  have hml : maxLen ≤ 9223372036854775807 := by decide
  clear h
  go_enter Try.func9, Try.ntmps9
  go_wp2_with (go_at_call 13; refine (llives _).mono ?_; rintro e w1 ⟨rfl, hb⟩; have HB := Lib.hid hb; clear hb)
  go_ret
  exact ⟨rfl, HB.out⟩
set_option maxRecDepth 100000 in
set_option maxHeartbeats 600000 in
theorem leaseScript_bad (n d : Int) (v : Value) (l : List La) (w : World) (h : Las w v l) (hl : l.length ≤ 200) (hw : Clk.waits n d = (0, 2)) :
    Calls Try.prog 9 #[.int .i64 n, .int .i64 d, v] w fun e w' => e = .returned (.bool true) ∧ Below w.heap.size w w' := by
  obtain ⟨p, c, rfl, hlc, hcm⟩ := h.shape
  have hml : maxLen ≤ 9223372036854775807 := by decide
  have HW := Lib.hid hw
  clear h hw
  go_enter Try.func9, Try.ntmps9
  go_wp2_with (first
    | (go_at_call 13; refine (llives _).mono ?_; rintro e w1 ⟨rfl, hb⟩; have HB := Lib.hid hb; clear hb)
    | (go_at_call 15; refine (lnew_bad n d 2 _ HW.out (by decide)).mono ?_; rintro e w1 ⟨rfl, rfl⟩)
    | (go_at_call 40; refine (rtnew_bad n d 2 _ HW.out (by decide)).mono ?_; rintro e w1 ⟨rfl, rfl⟩))
  go_ret
  exact ⟨rfl, HB.out⟩

set_option maxRecDepth 100000 in
set_option maxHeartbeats 4000000 in
theorem leaseScript_in (n d : Int) (v : Value) (l : List La) (w : World) (h : Las w v l) (hl : l.length ≤ 200) (hw : Clk.waits n d = (Clk.wait n d, 0)) (hwb : 2 ≤ Clk.wait n d ∧ Clk.wait n d ≤ 1099511627776) :
    Calls Try.prog 9 #[.int .i64 n, .int .i64 d, v] w fun e w' => e = .returned (.bool true) ∧ Below w.heap.size w w' := by
  obtain ⟨p, c, rfl, hlc, hcm⟩ := h.shape
  have hml : maxLen ≤ 9223372036854775807 := by decide
  have H := Lib.hid h
  have HL := Lib.hid hl
  have HW := Lib.hid hw
  have HWB := Lib.hid hwb
  clear h hw hwb
  go_enter Try.func9, Try.ntmps9
  go_wp2_with (first
    | (go_at_call 13; refine (llives _).mono ?_; rintro e w1 ⟨rfl, hb⟩; have HB := Lib.hid hb; clear hb)
    | (go_at_call 15; refine (lnew_ok n d _ HW.out).mono ?_; rintro e w2 ⟨b, mb, rfl, hb1, hb2, ht, hbl⟩; have HX := Lib.hid (And.intro hb1 hb2); have HT2 := Lib.hid ht; have HB2 := Lib.hid (below_and HB.out hbl); clear hb1 hb2 ht hbl)
    | (go_at_call 40; refine (rtnew_ok w.heap.size n d _ HW.out).mono ?_; rintro e w3 ⟨G, rfl, hg, hr, hbl⟩; have C3 : Hid (Lq w b mb G (.slice none 0 0) n ⟨Clk.wait n d, 0, []⟩ ⟨Clk.wait n d, 0, []⟩ w3) := Lib.hid ⟨HT2.out.kept hbl, hr, below_and HB2.out hbl, ⟨Nat.le_trans HB.out.size HX.out.1, Nat.le_trans HB.out.size HX.out.2, Nat.le_trans HB2.out.size hg, fun e => by have h9 := HT2.out.blk.lt; omega, fun e => by have h9 := HT2.out.mlt; omega⟩, fun q hq => by simp [Value.ownBlock] at hq⟩; clear hg hr hbl))
  go_loopw [11] (fun i wr => ∃ (k : Nat) (x : Ls) (v1 : Value), k ≤ l.length ∧ i = .int .i64 (k : Int) ∧ Hid (LsI k x) ∧ Hid (Lq w b mb G v1 n x x wr)) (fun i _ => l.length - (intOf i).toNat)
  case atStart => exact ⟨0, ⟨Clk.wait n d, 0, []⟩, .slice none 0 0, Nat.zero_le _, rfl, Lib.hid (LsI.new _ HWB.out), C3⟩
  case round =>
    obtain ⟨k, x, v1, hik, rfl, HI, H0⟩ := hrel
    by_cases hlt : k < l.length
    · obtain ⟨ab, o, rfl, hcs⟩ := (H.out.below H0.out.bel).at hlt
      obtain ⟨a, ha⟩ : ∃ a, a = l[k] := ⟨_, rfl⟩
      have HAS : Hid (a.s.size ≤ maxLen) := Lib.hid (by rw [ha]; exact (H.out.2 _ (List.getElem_mem hlt)).1)
      rw [← ha] at hcs
      have x0 : wr.cell? ⟨ab, o + k * 5, none⟩ = some (.int .i64 a.k) := hcs 0 _ (by omega) rfl
      have x1 : wr.cell? ⟨ab, o + k * 5 + 1, none⟩ = some (.string a.s) := hcs 1 _ (by omega) rfl
      have x2 : wr.cell? ⟨ab, o + k * 5 + 2, none⟩ = some (.int .u64 a.bt) := hcs 2 _ (by omega) rfl
      have x3 : wr.cell? ⟨ab, o + k * 5 + 3, none⟩ = some (.int .i64 a.nw) := hcs 3 _ (by omega) rfl
      have x4 : wr.cell? ⟨ab, o + k * 5 + 4, none⟩ = some (.int .i64 a.n) := hcs 4 _ (by omega) rfl
      have i2 : (k : Int) < (l.length : Int) := by omega
      have hk200 : k ≤ 200 := by omega
      have hk1 : k + 1 ≤ 201 := by omega
      clear hcs ha
      go_upto_region 15 with fail
      obtain ⟨wa, hwa⟩ : ∃ wa, wa = wr.alloc (.cells #[.int .i64 a.k, .string a.s, .int .u64 a.bt, .int .i64 a.nw, .int .i64 a.n] 66) := ⟨_, rfl⟩
      obtain ⟨ga, hga⟩ : ∃ ga, ga = wr.heap.size := ⟨_, rfl⟩
      have HC : Hid (Lqa w b mb G ga a v1 n x x wa) := Lib.hid (by
        rw [hwa, hga]
        have h1 := H0.out.t.blk.lt
        have h2 := H0.out.t.mlt
        have h3 := H0.out.r.blk.lt
        exact ⟨H0.out.kept (below_alloc wr _), Blk.made wr [.int .i64 a.k, .string a.s, .int .u64 a.bt, .int .i64 a.nw, .int .i64 a.n] _, by omega, by omega, by omega, fun q hq e => by have h4 := own_hi H0.out.r.row hq; omega⟩)
      rw [← hwa, ← hga]
      clear hwa hga x0 x1 x2 x3 x4 H0
      obtain ⟨a0, a1, a2, a3, a4⟩ := HC.out.cells
      have hm3 : a.k % 3 = 0 ∨ a.k % 3 = 1 ∨ a.k % 3 = 2 := by omega
      have HPK : ∀ w, Calls Try.prog 17 #[.int .i64 a.k, .int .i64 3] w fun e w' => e = .returned (.int .i64 (a.k % 3)) ∧ w = w' := fun w => pickn_any a.k 3 w (by omega) (by omega)
      rcases hm3 with h4 | h4 | h4
      · have HPK := Lib.hid HPK
        rw [h4] at HPK
        obtain ⟨er, x', hI, ht1, ht2⟩ := ls_add HI.out a.s hk200 HAS.out
        have HT1 := Lib.hid ht1
        have HR1 := Lib.hid ht2
        have HI' := Lib.hid hI
        clear ht1 ht2 hI h4 HI
        go_wp2_with (go_at_call 17; refine (HPK.out _).mono ?_; rintro e w4 ⟨rfl, rfl⟩)
        go_region_held3 (fun w' => w'.cell? ⟨ga, 1, none⟩ = some (.string a.s))
          ((apply Lqa.c1; (repeat (first | with_reducible exact HC7.out | with_reducible exact HC5.out | with_reducible exact HC.out | apply Lqa.drew))))
          (first
            | (go_at_call 16; refine (HT1.out _ _ _ _ (Lqa.q (w0 := w) (b := b) (mb := mb) (G := G) (ga := ga) (a := a) (v := v1) (n := n) (x := x) (y := x) (by (repeat (first | with_reducible exact HC.out | apply Lqa.drew)))).t).mono ?_; rintro e w5 ⟨rfl, ht, hf⟩; have HC5 : Hid (Lqa w b mb G ga a v1 n x' x w5) := Lib.hid (Lqa.one (x := x) (by (repeat (first | with_reducible exact HC.out | apply Lqa.drew))) ht hf); clear ht hf)
            | (go_at_call 41; refine (HR1.out _ _ _ _ _ (Lqa.q (w0 := w) (b := b) (mb := mb) (G := G) (ga := ga) (a := a) (v := v1) (n := n) (x := x') (y := x) (by (repeat (first | with_reducible exact HC5.out | with_reducible exact HC.out | apply Lqa.drew)))).r (Below.size (Lqa.q (w0 := w) (b := b) (mb := mb) (G := G) (ga := ga) (a := a) (v := v1) (n := n) (x := x') (y := x) (by (repeat (first | with_reducible exact HC5.out | with_reducible exact HC.out | apply Lqa.drew)))).bel)).mono ?_; rintro e w6 ⟨v2, rfl, hr, hf, hn⟩; have HC7 : Hid (Lqa w b mb G ga a v2 n x' x' w6) := Lib.hid (Lqa.two (v := v1) (y := x) (by (repeat (first | with_reducible exact HC5.out | with_reducible exact HC.out | apply Lqa.drew))) hr hf hn); clear hr hf hn))
        obtain ⟨-, d1, -, -, -⟩ := HC7.out.cells
        have HSM := Lib.hid (lsame_any w (k + 1) b mb G v2 n x' a.s)
        have qe : (er != er) = false := by simp
        have qn : (x'.now != x'.now) = false := by simp
        have ql : (n != n) = false := by simp
        have hk2 : k + 1 ≤ 100000 := by omega
        have HLN : Hid (x'.R.length ≤ 100000) := Lib.hid (by have := HI'.out.len; omega)
        go_wp2_with (first
          | (go_at_call 44; refine (HSM.out _ HC7.out.q HI'.out hk2 HAS.out).mono ?_; rintro e wb ⟨rfl, hb⟩; have HD1 := Lib.hid (HC7.out.q.kept hb); clear hb)
          | (go_at_call 45; refine (lsnames_all (k + 1) b mb n x' _ HD1.out.t HI'.out hk2).mono ?_; rintro e wc ⟨n1, rfl, ho, hb⟩; have HD2 := Lib.hid (HD1.out.kept hb); have HN1 := Lib.hid ho; clear ho hb)
          | (go_at_call 46; refine (rtnames _ G _ n x' _ HD2.out.r HLN.out).mono ?_; rintro e wd ⟨n2, rfl, ho, hb⟩; have HD3 := Lib.hid (HD2.out.kept hb); have HN2 := Lib.hid ho; have HN3 := Lib.hid (own_keep HN1.out hb); clear ho hb)
          | (go_at_call 33; refine (same_strV _ HN6.out HN5.out).mono ?_; rintro e wh ⟨rfl, hb⟩; have HD7 := Lib.hid (HD6.out.kept hb); clear hb)
          | (go_at_call 33; refine (same_strV _ HN3.out HN2.out).mono ?_; rintro e we ⟨rfl, hb⟩; have HD4 := Lib.hid (HD3.out.kept hb); clear hb)
          | (go_at_call 36; refine (lsover_all (k + 1) b mb n x' _ HD4.out.t HI'.out hk2).mono ?_; rintro e wf ⟨n4, rfl, ho, hb⟩; have HD5 := Lib.hid (HD4.out.kept hb); have HN4 := Lib.hid ho; clear ho hb)
          | (go_at_call 47; refine (rtover _ (k + 1) G _ n x' _ HD5.out.r HI'.out hk2).mono ?_; rintro e wg ⟨n5, rfl, ho, hb⟩; have HD6 := Lib.hid (HD5.out.kept hb); have HN5 := Lib.hid ho; have HN6 := Lib.hid (own_keep HN4.out hb); clear ho hb)
          | (go_at_call 38; refine (lsnow_all b mb n x' _ HD7.out.t HI'.out.w0).mono ?_; rintro e wi ⟨rfl, rfl⟩)
          | (go_at_call 48; refine (rtnow _ G _ n x' _ HD7.out.r).mono ?_; rintro e wi ⟨rfl, rfl⟩)
          | (go_at_call 39; refine (lslease_all b mb n x' _ HD7.out.t HI'.out.w0).mono ?_; rintro e wi ⟨rfl, rfl⟩)
          | (go_at_call 49; refine (rtlease _ G _ n x' _ HD7.out.r).mono ?_; rintro e wi ⟨rfl, rfl⟩))
        go_roundw
        case rel => exact ⟨k + 1, x', v2, hlt, by go_num, HI', HD7⟩
        case measure => simp [intOf]; omega
      · have HPK := Lib.hid HPK
        rw [h4] at HPK
        obtain ⟨er, x', hI, ht1, ht2⟩ := ls_heard HI.out a.s a.bt a.nw hk200 HAS.out
        have HT1 := Lib.hid ht1
        have HR1 := Lib.hid ht2
        have HI' := Lib.hid hI
        clear ht1 ht2 hI h4 HI
        go_wp2_with (go_at_call 17; refine (HPK.out _).mono ?_; rintro e w4 ⟨rfl, rfl⟩)
        go_region_held3 (fun w' => w'.cell? ⟨ga, 1, none⟩ = some (.string a.s) ∧ w'.cell? ⟨ga, 2, none⟩ = some (.int .u64 a.bt) ∧ w'.cell? ⟨ga, 3, none⟩ = some (.int .i64 a.nw))
          ((apply Lqa.c123; (repeat (first | with_reducible exact HC7.out | with_reducible exact HC5.out | with_reducible exact HC.out | apply Lqa.drew))))
          (first
            | (go_at_call 18; refine (HT1.out _ _ _ _ (Lqa.q (w0 := w) (b := b) (mb := mb) (G := G) (ga := ga) (a := a) (v := v1) (n := n) (x := x) (y := x) (by (repeat (first | with_reducible exact HC.out | apply Lqa.drew)))).t).mono ?_; rintro e w5 ⟨rfl, ht, hf⟩; have HC5 : Hid (Lqa w b mb G ga a v1 n x' x w5) := Lib.hid (Lqa.one (x := x) (by (repeat (first | with_reducible exact HC.out | apply Lqa.drew))) ht hf); clear ht hf)
            | (go_at_call 42; refine (HR1.out _ _ _ _ _ (Lqa.q (w0 := w) (b := b) (mb := mb) (G := G) (ga := ga) (a := a) (v := v1) (n := n) (x := x') (y := x) (by (repeat (first | with_reducible exact HC5.out | with_reducible exact HC.out | apply Lqa.drew)))).r (Below.size (Lqa.q (w0 := w) (b := b) (mb := mb) (G := G) (ga := ga) (a := a) (v := v1) (n := n) (x := x') (y := x) (by (repeat (first | with_reducible exact HC5.out | with_reducible exact HC.out | apply Lqa.drew)))).bel)).mono ?_; rintro e w6 ⟨v2, rfl, hr, hf, hn⟩; have HC7 : Hid (Lqa w b mb G ga a v2 n x' x' w6) := Lib.hid (Lqa.two (v := v1) (y := x) (by (repeat (first | with_reducible exact HC5.out | with_reducible exact HC.out | apply Lqa.drew))) hr hf hn); clear hr hf hn))
        obtain ⟨-, d1, -, -, -⟩ := HC7.out.cells
        have HSM := Lib.hid (lsame_any w (k + 1) b mb G v2 n x' a.s)
        have qe : (er != er) = false := by simp
        have qn : (x'.now != x'.now) = false := by simp
        have ql : (n != n) = false := by simp
        have hk2 : k + 1 ≤ 100000 := by omega
        have HLN : Hid (x'.R.length ≤ 100000) := Lib.hid (by have := HI'.out.len; omega)
        go_wp2_with (first
          | (go_at_call 44; refine (HSM.out _ HC7.out.q HI'.out hk2 HAS.out).mono ?_; rintro e wb ⟨rfl, hb⟩; have HD1 := Lib.hid (HC7.out.q.kept hb); clear hb)
          | (go_at_call 45; refine (lsnames_all (k + 1) b mb n x' _ HD1.out.t HI'.out hk2).mono ?_; rintro e wc ⟨n1, rfl, ho, hb⟩; have HD2 := Lib.hid (HD1.out.kept hb); have HN1 := Lib.hid ho; clear ho hb)
          | (go_at_call 46; refine (rtnames _ G _ n x' _ HD2.out.r HLN.out).mono ?_; rintro e wd ⟨n2, rfl, ho, hb⟩; have HD3 := Lib.hid (HD2.out.kept hb); have HN2 := Lib.hid ho; have HN3 := Lib.hid (own_keep HN1.out hb); clear ho hb)
          | (go_at_call 33; refine (same_strV _ HN6.out HN5.out).mono ?_; rintro e wh ⟨rfl, hb⟩; have HD7 := Lib.hid (HD6.out.kept hb); clear hb)
          | (go_at_call 33; refine (same_strV _ HN3.out HN2.out).mono ?_; rintro e we ⟨rfl, hb⟩; have HD4 := Lib.hid (HD3.out.kept hb); clear hb)
          | (go_at_call 36; refine (lsover_all (k + 1) b mb n x' _ HD4.out.t HI'.out hk2).mono ?_; rintro e wf ⟨n4, rfl, ho, hb⟩; have HD5 := Lib.hid (HD4.out.kept hb); have HN4 := Lib.hid ho; clear ho hb)
          | (go_at_call 47; refine (rtover _ (k + 1) G _ n x' _ HD5.out.r HI'.out hk2).mono ?_; rintro e wg ⟨n5, rfl, ho, hb⟩; have HD6 := Lib.hid (HD5.out.kept hb); have HN5 := Lib.hid ho; have HN6 := Lib.hid (own_keep HN4.out hb); clear ho hb)
          | (go_at_call 38; refine (lsnow_all b mb n x' _ HD7.out.t HI'.out.w0).mono ?_; rintro e wi ⟨rfl, rfl⟩)
          | (go_at_call 48; refine (rtnow _ G _ n x' _ HD7.out.r).mono ?_; rintro e wi ⟨rfl, rfl⟩)
          | (go_at_call 39; refine (lslease_all b mb n x' _ HD7.out.t HI'.out.w0).mono ?_; rintro e wi ⟨rfl, rfl⟩)
          | (go_at_call 49; refine (rtlease _ G _ n x' _ HD7.out.r).mono ?_; rintro e wi ⟨rfl, rfl⟩))
        go_roundw
        case rel => exact ⟨k + 1, x', v2, hlt, by go_num, HI', HD7⟩
        case measure => simp [intOf]; omega
      · have HPK := Lib.hid HPK
        rw [h4] at HPK
        obtain ⟨er, x', hI, ht1, ht2⟩ := ls_tick HI.out a.n hk200
        have HT1 := Lib.hid ht1
        have HR1 := Lib.hid ht2
        have HI' := Lib.hid hI
        clear ht1 ht2 hI h4 HI
        go_wp2_with (go_at_call 17; refine (HPK.out _).mono ?_; rintro e w4 ⟨rfl, rfl⟩)
        go_region_held3 (fun w' => w'.cell? ⟨ga, 4, none⟩ = some (.int .i64 a.n))
          ((apply Lqa.c4; (repeat (first | with_reducible exact HC7.out | with_reducible exact HC5.out | with_reducible exact HC.out | apply Lqa.drew))))
          (first
            | (go_at_call 19; refine (HT1.out _ _ _ _ (Lqa.q (w0 := w) (b := b) (mb := mb) (G := G) (ga := ga) (a := a) (v := v1) (n := n) (x := x) (y := x) (by (repeat (first | with_reducible exact HC.out | apply Lqa.drew)))).t).mono ?_; rintro e w5 ⟨rfl, ht, hf⟩; have HC5 : Hid (Lqa w b mb G ga a v1 n x' x w5) := Lib.hid (Lqa.one (x := x) (by (repeat (first | with_reducible exact HC.out | apply Lqa.drew))) ht hf); clear ht hf)
            | (go_at_call 43; refine (HR1.out _ _ _ _ _ (Lqa.q (w0 := w) (b := b) (mb := mb) (G := G) (ga := ga) (a := a) (v := v1) (n := n) (x := x') (y := x) (by (repeat (first | with_reducible exact HC5.out | with_reducible exact HC.out | apply Lqa.drew)))).r (Below.size (Lqa.q (w0 := w) (b := b) (mb := mb) (G := G) (ga := ga) (a := a) (v := v1) (n := n) (x := x') (y := x) (by (repeat (first | with_reducible exact HC5.out | with_reducible exact HC.out | apply Lqa.drew)))).bel)).mono ?_; rintro e w6 ⟨v2, rfl, hr, hf, hn⟩; have HC7 : Hid (Lqa w b mb G ga a v2 n x' x' w6) := Lib.hid (Lqa.two (v := v1) (y := x) (by (repeat (first | with_reducible exact HC5.out | with_reducible exact HC.out | apply Lqa.drew))) hr hf hn); clear hr hf hn))
        obtain ⟨-, d1, -, -, -⟩ := HC7.out.cells
        have HSM := Lib.hid (lsame_any w (k + 1) b mb G v2 n x' a.s)
        have qe : (er != er) = false := by simp
        have qn : (x'.now != x'.now) = false := by simp
        have ql : (n != n) = false := by simp
        have hk2 : k + 1 ≤ 100000 := by omega
        have HLN : Hid (x'.R.length ≤ 100000) := Lib.hid (by have := HI'.out.len; omega)
        go_wp2_with (first
          | (go_at_call 44; refine (HSM.out _ HC7.out.q HI'.out hk2 HAS.out).mono ?_; rintro e wb ⟨rfl, hb⟩; have HD1 := Lib.hid (HC7.out.q.kept hb); clear hb)
          | (go_at_call 45; refine (lsnames_all (k + 1) b mb n x' _ HD1.out.t HI'.out hk2).mono ?_; rintro e wc ⟨n1, rfl, ho, hb⟩; have HD2 := Lib.hid (HD1.out.kept hb); have HN1 := Lib.hid ho; clear ho hb)
          | (go_at_call 46; refine (rtnames _ G _ n x' _ HD2.out.r HLN.out).mono ?_; rintro e wd ⟨n2, rfl, ho, hb⟩; have HD3 := Lib.hid (HD2.out.kept hb); have HN2 := Lib.hid ho; have HN3 := Lib.hid (own_keep HN1.out hb); clear ho hb)
          | (go_at_call 33; refine (same_strV _ HN6.out HN5.out).mono ?_; rintro e wh ⟨rfl, hb⟩; have HD7 := Lib.hid (HD6.out.kept hb); clear hb)
          | (go_at_call 33; refine (same_strV _ HN3.out HN2.out).mono ?_; rintro e we ⟨rfl, hb⟩; have HD4 := Lib.hid (HD3.out.kept hb); clear hb)
          | (go_at_call 36; refine (lsover_all (k + 1) b mb n x' _ HD4.out.t HI'.out hk2).mono ?_; rintro e wf ⟨n4, rfl, ho, hb⟩; have HD5 := Lib.hid (HD4.out.kept hb); have HN4 := Lib.hid ho; clear ho hb)
          | (go_at_call 47; refine (rtover _ (k + 1) G _ n x' _ HD5.out.r HI'.out hk2).mono ?_; rintro e wg ⟨n5, rfl, ho, hb⟩; have HD6 := Lib.hid (HD5.out.kept hb); have HN5 := Lib.hid ho; have HN6 := Lib.hid (own_keep HN4.out hb); clear ho hb)
          | (go_at_call 38; refine (lsnow_all b mb n x' _ HD7.out.t HI'.out.w0).mono ?_; rintro e wi ⟨rfl, rfl⟩)
          | (go_at_call 48; refine (rtnow _ G _ n x' _ HD7.out.r).mono ?_; rintro e wi ⟨rfl, rfl⟩)
          | (go_at_call 39; refine (lslease_all b mb n x' _ HD7.out.t HI'.out.w0).mono ?_; rintro e wi ⟨rfl, rfl⟩)
          | (go_at_call 49; refine (rtlease _ G _ n x' _ HD7.out.r).mono ?_; rintro e wi ⟨rfl, rfl⟩))
        go_roundw
        case rel => exact ⟨k + 1, x', v2, hlt, by go_num, HI', HD7⟩
        case measure => simp [intOf]; omega
    · obtain rfl : k = l.length := by omega
      go_wp2
      go_ret
      exact ⟨rfl, H0.out.bel⟩

theorem leaseScript_walk (n d : Int) (v2 : Value) (es : List (List Value)) (w : World) (w0 : (Lit.int .i64 n).wf = true) (w1 : (Lit.int .i64 d).wf = true) (hr : Row w v2 5 es.length es.flatten) (hf : ∀ x ∈ es, x.length = 5 ∧ fieldOk Try.prog 3 (x.getD 0 undef) ∧ fieldOk Try.prog 9 (x.getD 1 undef) ∧ fieldOk Try.prog 34 (x.getD 2 undef) ∧ fieldOk Try.prog 2 (x.getD 3 undef) ∧ fieldOk Try.prog 3 (x.getD 4 undef)) :
    Calls Try.prog 9 #[.int .i64 n, .int .i64 d, v2] w fun e w' => e = .returned (.bool true) ∧ Below w.heap.size w w' := by
  obtain ⟨l, hl⟩ := las_of hr fun x hx => ⟨(hf x hx).1, fun i t ht => by
    obtain ⟨-, h0, h1, h2, h3, h4⟩ := hf x hx
    match i, ht with
    | 0, ht => cases ht; exact h0
    | 1, ht => cases ht; exact h1
    | 2, ht => cases ht; exact h2
    | 3, ht => cases ht; exact h3
    | 4, ht => cases ht; exact h4
    | i + 5, ht => simp at ht⟩
  by_cases h : l.length ≤ 200
  · by_cases hb : n < 1 ∨ 1048576 < n ∨ d < 0 ∨ 500 < d
    · exact leaseScript_bad n d v2 l w hl h (by unfold Clk.waits; rw [if_pos hb])
    · exact leaseScript_in n d v2 l w hl h (by unfold Clk.waits; rw [if_neg hb]) (wait_bounds hb)
  · exact leaseScript_big n d v2 l w hl (by omega)
end Go.Proofs.Ytmgcigohfccgeaa
