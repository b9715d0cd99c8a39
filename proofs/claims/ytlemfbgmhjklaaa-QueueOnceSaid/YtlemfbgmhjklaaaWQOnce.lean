/- The walk of QueueOnce (written by genqonce.py). -/
import Derived.Test.YtlemfbgmhjklaaaQRead
import Derived.Test.YtlemfbgmhjklaaaQOnceP
import Derived.Test.YtlemfbgmhjklaaaPick
namespace Go.Proofs.Ytlemfbgmhjklaaa
open Go.RowKit

/-- the queue and the law's own list, between two acts -/
structure O0 (w0 : World) (b : Nat) (v : Value) (I : List Pend) (M : List MRow) (N : Int) (w : World) : Prop where
  q : Qm w b (fun k => w0.heap.size ≤ k ∧ v.ownBlock ≠ some k) N M
  own : w.ownsRow w0.heap.size 29 4 v I.length (pcells I)
  bel : Below w0.heap.size w0 w
  perm : I.Perm (flatM M)
/-- and with the act in its box -/
structure On (w0 : World) (b ga : Nat) (x : QAct) (v : Value) (I : List Pend) (M : List MRow) (N : Int) (w : World) : Prop where
  q : Qm w b (fun k => w0.heap.size ≤ k ∧ v.ownBlock ≠ some k ∧ k ≠ ga) N M
  own : w.ownsRow w0.heap.size 29 4 v I.length (pcells I)
  box : Blk w ga (actC x) 48
  ne : v.ownBlock ≠ some ga
  lo : w0.heap.size ≤ ga
  bel : Below w0.heap.size w0 w
section
variable {w0 : World} {b ga : Nat} {x : QAct} {v : Value} {I : List Pend} {M : List MRow} {N : Int} {w w' : World}
theorem O0.act (h : O0 w0 b v I M N w) (x : QAct) : On w0 b w.heap.size x v I M N (w.alloc (.cells (actC x).toArray 48)) :=
  ⟨(h.q.mono (fun k hk hlt => ⟨hk.1, hk.2, by omega⟩)).kept (below_alloc w _), h.own.alloc _, Blk.made w (actC x) _, fun e => by have := own_hi h.own e; omega, h.bel.size, below_and h.bel (below_alloc w _)⟩
theorem On.kept (h : On w0 b ga x v I M N w) (hb : Below w.heap.size w w') : On w0 b ga x v I M N w' :=
  ⟨h.q.kept hb, own_keep h.own hb, h.box.kept hb, h.ne, h.lo, below_and h.bel hb⟩
theorem On.call {N' : Int} {M' : List MRow} (h : On w0 b ga x v I M N w) (hq : Qm w' b (fun k => (fun k => w0.heap.size ≤ k ∧ v.ownBlock ≠ some k ∧ k ≠ ga) k ∨ w.heap.size ≤ k) N' M') (hf : Frp (fun k => w0.heap.size ≤ k ∧ v.ownBlock ≠ some k ∧ k ≠ ga) w w') : On w0 b ga x v I M' N' w' := by
  have hga := h.box.lt
  obtain ⟨S, hS, hS2⟩ := hf
  exact ⟨hq.mono (fun k hk _ => hk.elim id (fun h1 => ⟨Nat.le_trans h.bel.size h1, fun e => by have := own_hi h.own e; omega, by omega⟩)), own_fr h.own hS (fun g hg hm => (hS2 g hm).2.1 hg), h.box.fr hS (fun hm => (hS2 _ hm).2.2 rfl), h.ne, h.lo, h.bel.trans (hS.below (fun k hk => (hS2 k hk).1) h.bel.size)⟩
theorem On.forget {N' : Int} (h : On w0 b ga x v I M N w) (hp : I.Perm (flatM M)) (hn : N ≤ N') : O0 w0 b v I M N' w := ⟨(h.q.mono (fun k hk _ => ⟨hk.1, hk.2.1⟩)).grow hn, h.own, h.bel, hp⟩
/-- another list, in memory that was just made -/
theorem On.list {v' : Value} {I' : List Pend} (h : On w0 b ga x v I M N w) (hb : Below w.heap.size w w') (ho : w'.ownsRow w0.heap.size 29 4 v' I'.length (pcells I')) (hn : ∀ k, v'.ownBlock = some k → w.heap.size ≤ k) : On w0 b ga x v' I' M N w' :=
  ⟨(h.q.mono (fun k hk hlt => ⟨hk.1, fun e => by have := hn k e; omega, hk.2.2⟩)).kept hb, ho, h.box.kept hb, fun e => by have := hn _ e; have := h.box.lt; omega, h.lo, below_and h.bel hb⟩
/-- the list grown, where it lies or in new memory -/
theorem On.grow {v' : Value} {I' : List Pend} {o : Obj} (h : On w0 b ga x v I M N w) (ho : w'.ownsRow w0.heap.size 29 4 v' I'.length (pcells I')) (hg : (w.alloc o).grownBy w' v.ownBlock) (hn : ∀ k, v'.ownBlock = some k → v.ownBlock = some k ∨ (w.alloc o).heap.size ≤ k) : On w0 b ga x v' I' M N w' := by
  have hk := h.kept (below_alloc w o)
  have hbox := h.box.lt
  have hsz : (w.alloc o).heap.size = w.heap.size + 1 := by simp
  refine ⟨?_, ho, hk.box.grown hg (fun e => h.ne e.symm), fun e => ?_, h.lo, hk.bel.trans ((Fr.of_grown hg).below (fun k hkk => own_lo h.own (Option.mem_toList.1 hkk)) hk.bel.size)⟩
  · have h1 := h.q.mono (Q := fun k => (w0.heap.size ≤ k ∧ v.ownBlock ≠ some k ∧ k ≠ ga) ∧ v'.ownBlock ≠ some k) (fun k hkk hlt => ⟨hkk, fun e => by
      rcases hn k e with h2 | h2
      · exact hkk.2.1 h2
      · omega⟩)
    exact ((h1.kept (below_alloc w o)).fr (Fr.of_grown hg) (fun k hkk hP => hP.1.2.1 (Option.mem_toList.1 hkk))).mono (fun k hkk _ => ⟨hkk.1.1, hkk.2, hkk.1.2.2⟩)
  · rcases hn _ e with h2 | h2
    · exact h.ne h2
    · omega
theorem On.c0 (h : On w0 b ga x v I M N w) : w.cell? ⟨ga, 0, none⟩ = some (.int .i64 x.k) := h.box.cell (j := 0) rfl
theorem On.c1 (h : On w0 b ga x v I M N w) : w.cell? ⟨ga, 1, none⟩ = some (.string x.p.job) := h.box.cell (j := 1) rfl
theorem On.c2 (h : On w0 b ga x v I M N w) : w.cell? ⟨ga, 2, none⟩ = some (.int .i64 x.p.idx) := h.box.cell (j := 2) rfl
theorem On.c3 (h : On w0 b ga x v I M N w) : w.cell? ⟨ga, 3, none⟩ = some (.string x.p.user) := h.box.cell (j := 3) rfl
theorem On.c4 (h : On w0 b ga x v I M N w) : w.cell? ⟨ga, 4, none⟩ = some (.int .i64 x.p.band) := h.box.cell (j := 4) rfl
end

set_option maxRecDepth 100000 in
set_option maxHeartbeats 400000 in
theorem queueOnce_big (v : Value) (l : List QAct) (w : World) (h : Row w v 5 l.length (actsC l)) (hl : 200 < l.length) :
    Calls Try.prog 7 #[v] w fun e w' => e = .returned (.bool true) ∧ Below w.heap.size w w' := by
  obtain ⟨p, c, rfl, -, -⟩ := row_shape h
  have hb2 : (200 : Int) < (l.length : Int) := by omega
  clear h
  go_enter Try.func7, Try.ntmps7
  go_wp2_with (go_at_call 8; refine (qlives _).mono ?_; rintro e w1 ⟨rfl, hb⟩; have HB1 := Lib.hid hb; clear hb)
  go_ret
  exact ⟨rfl, HB1.out⟩


set_option maxRecDepth 100000 in
set_option maxHeartbeats 8000000 in
theorem queueOnce_in (v : Value) (l : List QAct) (w : World) (h : Row w v 5 l.length (actsC l)) (hl : l.length ≤ 200) :
    Calls Try.prog 7 #[v] w fun e w' => e = .returned (.bool true) ∧ Below w.heap.size w w' := by
  obtain ⟨p, c, rfl, hlc, -⟩ := row_shape h
  have H := Lib.hid h
  have hb2 : ¬ (200 : Int) < (l.length : Int) := by omega
  clear h hlc
  go_enter Try.func7, Try.ntmps7
  go_wp2_with (first
    | (go_at_call 8; refine (qlives _).mono ?_; rintro e w1 ⟨rfl, hb⟩; have HB1 := Lib.hid hb; clear hb)
    | (go_at_call 9; refine (qnew_any _).mono ?_; rintro e w2 ⟨rfl, hq, hb⟩; have HQ2 := Lib.hid hq; have HB2 := Lib.hid (below_and HB1.out hb); clear hq hb))
  obtain ⟨b, hb⟩ : ∃ b, b = w1.heap.size := ⟨_, rfl⟩
  have H00 : Hid (O0 w b (.slice none 0 0) [] [] ((0 : Nat) : Int) w2) := Lib.hid (by
    rw [hb]
    exact ⟨HQ2.out.mono (fun k hk _ => ⟨Nat.le_trans HB1.out.size hk, by simp [Value.ownBlock]⟩), World.ownsRow_nil _ _ _ _, HB2.out, List.Perm.refl _⟩)
  rw [← hb]
  clear hb HQ2
  go_loopw [4, 5] (fun v4 i wr => ∃ (k : Nat) (I : List Pend) (M : List MRow), k ≤ l.length + 201 ∧ i = .int .i64 (k : Int) ∧ Hid (O0 w b v4 I M (k : Int) wr) ∧ I.length ≤ 200 ∧ (k ≤ l.length → I.length ≤ k) ∧ (l.length ≤ k → I.length + (k - l.length) ≤ 200 ∨ I.length = 0)) (fun _ i _ => l.length + 201 - (intOf i).toNat)
  case atStart => exact ⟨0, [], [], by omega, rfl, H00, by simp, fun _ => Nat.le_refl _, fun _ => .inl (by simp)⟩
  case round =>
    obtain ⟨k, I, M, hk, rfl, HO0, hI2, hA, hB⟩ := hrel
    obtain ⟨p4, c4, rfl, -, -⟩ := own_slice HO0.out.own
    have HMI := Lib.hid HO0.out.q.mi
    have HPM := Lib.hid HO0.out.perm
    have hfl : (flatM M).length ≤ 200 := by rw [← HPM.out.length_eq]; exact hI2
    have hk401 : k ≤ 401 := by omega
    by_cases hlt : k < l.length
    · have hA' := hA (by omega)
      clear hA hB
      obtain ⟨ab, o, rfl, hcs⟩ := row_at actC_len (Row.below H.out HO0.out.bel) hlt (by omega)
      obtain ⟨x, hx⟩ : ∃ x, x = l[k] := ⟨_, rfl⟩
      rw [← hx] at hcs
      have x0 : wr.cell? ⟨ab, o + k * 5, none⟩ = some (.int .i64 x.k) := hcs 0 _ (by omega) rfl
      have x1 : wr.cell? ⟨ab, o + k * 5 + 1, none⟩ = some (.string x.p.job) := hcs 1 _ (by omega) rfl
      have x2 : wr.cell? ⟨ab, o + k * 5 + 2, none⟩ = some (.int .i64 x.p.idx) := hcs 2 _ (by omega) rfl
      have x3 : wr.cell? ⟨ab, o + k * 5 + 3, none⟩ = some (.string x.p.user) := hcs 3 _ (by omega) rfl
      have x4 : wr.cell? ⟨ab, o + k * 5 + 4, none⟩ = some (.int .i64 x.p.band) := hcs 4 _ (by omega) rfl
      have y0 := cell_kept x0 (below_alloc wr (.cells #[.int .i64 0, .string ⟨#[]⟩, .int .i64 0, .string ⟨#[]⟩, .int .i64 0] 48))
      have y1 := cell_kept x1 (below_alloc wr (.cells #[.int .i64 0, .string ⟨#[]⟩, .int .i64 0, .string ⟨#[]⟩, .int .i64 0] 48))
      have y2 := cell_kept x2 (below_alloc wr (.cells #[.int .i64 0, .string ⟨#[]⟩, .int .i64 0, .string ⟨#[]⟩, .int .i64 0] 48))
      have y3 := cell_kept x3 (below_alloc wr (.cells #[.int .i64 0, .string ⟨#[]⟩, .int .i64 0, .string ⟨#[]⟩, .int .i64 0] 48))
      have y4 := cell_kept x4 (below_alloc wr (.cells #[.int .i64 0, .string ⟨#[]⟩, .int .i64 0, .string ⟨#[]⟩, .int .i64 0] 48))
      have i2 : (k : Int) < (l.length : Int) + 200 + 1 := by omega
      have i3 : (k : Int) < (l.length : Int) := by omega
      clear hcs hx
      go_upto_region 14 with fail
      obtain ⟨ga, hga⟩ : ∃ ga, ga = wr.heap.size := ⟨_, rfl⟩
      obtain ⟨wa, hwa⟩ : ∃ wa, wa = wr.alloc (.cells #[.int .i64 x.k, .string x.p.job, .int .i64 x.p.idx, .string x.p.user, .int .i64 x.p.band] 48) := ⟨_, rfl⟩
      have HON : Hid (On w b ga x (.slice p4 I.length c4) I M (k : Int) wa) := Lib.hid (by rw [hwa, hga]; exact HO0.out.act x)
      rw [← hwa, ← hga]
      clear hwa hga x0 x1 x2 x3 x4 y0 y1 y2 y3 y4 HO0
      have a0 := HON.out.c0
      have a1 := HON.out.c1
      have a2 := HON.out.c2
      have a3 := HON.out.c3
      have a4 := HON.out.c4
      have hm4 : x.k % 4 = 0 ∨ x.k % 4 = 1 ∨ x.k % 4 = 2 ∨ x.k % 4 = 3 := by omega
      have HPK : ∀ w, Calls Try.prog 20 #[.int .i64 x.k, .int .i64 4] w fun e w' => e = .returned (.int .i64 (x.k % 4)) ∧ w = w' := fun w => pickn_any x.k 4 w (by omega) (by omega)
      rcases hm4 with h4 | h4 | h4 | h4
      · have HPK := Lib.hid HPK
        rw [h4] at HPK
        clear h4
        by_cases hE : putE M x.p = 0
        · obtain ⟨-, hno, hps⟩ := putE_zero hE
          have HE := Lib.hid hE
          have HPN : Hid ((I ++ [x.p]).Perm (flatM (putS M x.p))) := Lib.hid (by
            rw [hps]
            exact (List.perm_append_comm.trans ((List.perm_cons x.p).2 HPM.out)).trans (putM_flat HMI.out).symm)
          have HLM : Hid ((flatM (putS M x.p)).length = I.length + 1) := Lib.hid (by rw [← HPN.out.length_eq]; simp)
          obtain ⟨j0, hj0, hz0, hz1, hz2⟩ := info_parts info_pend
          clear hE hno hps
          go_upto_region 42 with (first
            | (go_at_call 20; refine (HPK.out _).mono ?_; rintro e w4 ⟨rfl, rfl⟩)
            | (go_at_call 10; refine (qput_any b _ _ M x.p _ HON.out.q (by omega) (by omega)).mono ?_; rw [HE.out]; rintro e w5 ⟨rfl, hq, hf⟩; have H5 := Lib.hid (HON.out.call hq hf); have e1 := H5.out.c1; have e2 := H5.out.c2; have e3 := H5.out.c3; have e4 := H5.out.c4; have HOA := Lib.hid (H5.out.own.alloc (.cells #[.string x.p.job, .int .i64 x.p.idx, .string x.p.user, .int .i64 x.p.band] 29)); have HSZ : Hid (w.heap.size ≤ w5.heap.size) := Lib.hid H5.out.bel.size; clear hq hf)
            | (at_builtin; go_loud (refine wpList_app5 rfl _ _ 22 22 rfl w.heap.size 29 j0 pzv 4 48 Try.underlying22 hj0 hz0 hz1 hz2 rfl _ I.length (pcells I) rfl HOA.out _ 1 _ rfl (src_block Try.underlying22 _ _ #[_, _, _, _] (heap_alloc_new _ _) rfl (pend_one x.p)) (by unfold maxLen; omega) (by omega) (by have := HSZ.out; simp; omega) ?_; intro v6 w6 ho hg hn; obtain ⟨p6, c6, rfl, -, -⟩ := own_slice ho; have H6 : Hid (On w b ga x (.slice p6 (I.length + 1) c6) (I ++ [x.p]) (putS M x.p) ((k : Int) + 1) w6) := Lib.hid (H5.out.grow (by rw [pcells_append]; simpa [pcells, pend] using ho) hg hn); clear ho hg hn)))
          have HQL := Lib.hid H6.out.q
          go_wp2_with (go_at_call 19; refine (qlen_any b _ _ _ _ HQL.out (by have := HLM.out; omega)).mono ?_; rw [HLM.out]; rintro e w10 ⟨rfl, rfl⟩)
          go_roundw
          case rel => exact ⟨k + 1, I ++ [x.p], putS M x.p, by omega, by go_num, Lib.hid (by have := H6.out.forget (N' := ((k + 1 : Nat) : Int)) HPN.out (by omega); simpa using this), by simp; omega, fun _ => by simp; omega, fun _ => .inl (by simp; omega)⟩
          case measure => simp [intOf]; omega
        · have HPS : Hid (putS M x.p = M) := Lib.hid (putE_not hE)
          obtain ⟨er, her⟩ : ∃ er, er = putE M x.p := ⟨_, rfl⟩
          have HER := Lib.hid her
          have her0 : (er == 0) = false := by rw [her]; simpa using hE
          have HLM : Hid ((flatM M).length = I.length) := Lib.hid HPM.out.length_eq.symm
          clear her hE
          go_upto_region 42 with (first
            | (go_at_call 20; refine (HPK.out _).mono ?_; rintro e w4 ⟨rfl, rfl⟩)
            | (go_at_call 10; refine (qput_any b _ _ M x.p _ HON.out.q (by omega) (by omega)).mono ?_; rw [← HER.out, HPS.out]; rintro e w5 ⟨rfl, hq, hf⟩; have H5 := Lib.hid (HON.out.call hq hf); clear hq hf))
          have HQL := Lib.hid H5.out.q
          go_wp2_with (go_at_call 19; refine (qlen_any b _ _ _ _ HQL.out (by have := HLM.out; omega)).mono ?_; rw [HLM.out]; rintro e w10 ⟨rfl, rfl⟩)
          go_roundw
          case rel => exact ⟨k + 1, I, M, by omega, by go_num, Lib.hid (H5.out.forget HPM.out (by omega)), hI2, fun _ => by omega, fun _ => .inl (by omega)⟩
          case measure => simp [intOf]; omega
      · have HPK := Lib.hid HPK
        rw [h4] at HPK
        clear h4
        cases hh : headM M with
        | none =>
          have hM := headM_none HMI.out hh
          subst hM
          have hI : I = [] := List.eq_nil_of_length_eq_zero HPM.out.length_eq
          subst hI
          have HV : Hid (headV [] = .tuple #[pzv, .bool false]) := Lib.hid rfl
          clear hh
          go_wp2_with (first | (go_at_call 20; refine (HPK.out _).mono ?_; rintro e w4 ⟨rfl, rfl⟩) | (go_at_call 14; refine (qtake_any b _ _ [] _ HON.out.q (by omega) (by simp [flatM])).mono ?_; rw [HV.out]; rintro e w5 ⟨rfl, hq, hf⟩; have H5 := Lib.hid ((HON.out.call hq hf).kept (below_alloc w5 (.cells #[.string ⟨#[]⟩, .int .i64 0, .string ⟨#[]⟩, .int .i64 0] 29))); clear hq hf))
          go_roundw
          case rel => exact ⟨k + 1, [], [], by omega, by go_num, Lib.hid (H5.out.forget HPM.out (by omega)), by simp, fun _ => by simp, fun _ => .inr rfl⟩
          case measure => simp [intOf]; omega
        | some xp =>
          have HTOP := Lib.hid (head_top HMI.out hh)
          have HHH := Lib.hid hh
          have HTK : Hid ((flatM M).Perm (xp :: flatM (takeM M))) := Lib.hid (flatM_take HMI.out hh)
          have hxm : xp ∈ I := HPM.out.mem_iff.2 (HTK.out.mem_iff.2 List.mem_cons_self)
          have hpos : 0 < I.length := List.length_pos_of_mem hxm
          have i5 : (0 : Int) < (I.length : Int) := by omega
          have HV : Hid (headV M = .tuple #[pval xp, .bool true]) := Lib.hid (by unfold headV; rw [hh])
          have HXM := Lib.hid hxm
          clear hh hxm
          go_wp2_with (first | (go_at_call 20; refine (HPK.out _).mono ?_; rintro e w4 ⟨rfl, rfl⟩) | (go_at_call 14; refine (qtake_any b _ _ M _ HON.out.q (by omega) (by omega)).mono ?_; rw [HV.out]; rintro e w5 ⟨rfl, hq, hf⟩; have H5 := Lib.hid (HON.out.call hq hf); clear hq hf))
          obtain ⟨g8, hg8⟩ : ∃ g8, g8 = w5.heap.size := ⟨_, rfl⟩
          obtain ⟨w6, hw6⟩ : ∃ w6, w6 = w5.alloc (.cells #[.string xp.job, .int .i64 xp.idx, .string xp.user, .int .i64 xp.band] 29) := ⟨_, rfl⟩
          have H6 : Hid (On w b ga x (.slice p4 I.length c4) I (takeM M) ((k : Int) + 1) w6) := Lib.hid (by rw [hw6]; exact H5.out.kept (below_alloc w5 _))
          have HX6 : Hid (Blk w6 g8 (pend xp) 29) := Lib.hid (by rw [hw6, hg8]; exact Blk.made w5 (pend xp) _)
          rw [← hw6, ← hg8]
          clear hw6 hg8
          go_loopw [10, 11] (fun kv mv wc => ∃ (kz : Int) (m : Nat), kv = .int .i64 kz ∧ mv = .int .i64 (m : Int) ∧ m ≤ I.length ∧ Hid ((kz = -1 ∧ ∀ j (hj : j < I.length), j < m → I[j] ≠ xp) ∨ ∃ k0, ∃ hk0 : k0 < I.length, kz = (k0 : Int) ∧ I[k0] = xp) ∧ Hid (Below w6.heap.size w6 wc)) (fun _ mv _ => I.length - (intOf mv).toNat)
          case atStart => exact ⟨-1, 0, rfl, rfl, Nat.zero_le _, Lib.hid (.inl ⟨rfl, fun _ _ h => absurd h (Nat.not_lt_zero _)⟩), Lib.hid (Below.refl _ _)⟩
          case round =>
            obtain ⟨kz, m, rfl, rfl, hm, HK, HBM⟩ := hrel
            by_cases hml : m < I.length
            · have HO := own_keep H6.out.own HBM.out
              obtain ⟨q4, e4, hcs⟩ := pown_cell HO hml rfl
              subst e4
              obtain ⟨y, hy⟩ : ∃ y, y = I[m] := ⟨_, rfl⟩
              rw [← hy] at hcs
              have c0 : wr.cell? ⟨q4, m * 4, none⟩ = some (.string y.job) := hcs 0 _ (by omega) rfl
              have c1 : wr.cell? ⟨q4, m * 4 + 1, none⟩ = some (.int .i64 y.idx) := hcs 1 _ (by omega) rfl
              have c2 : wr.cell? ⟨q4, m * 4 + 2, none⟩ = some (.string y.user) := hcs 2 _ (by omega) rfl
              have c3 : wr.cell? ⟨q4, m * 4 + 3, none⟩ = some (.int .i64 y.band) := hcs 3 _ (by omega) rfl
              have hx := HX6.out.kept HBM.out
              have d0 := hx.cell (j := 0) rfl
              have d1 := hx.cell (j := 1) rfl
              have d2 := hx.cell (j := 2) rfl
              have d3 := hx.cell (j := 3) rfl
              have hd : Below wr.heap.size wr wr.drew := below_drewN 1
              have c3' : (wr.drewN 1).cell? ⟨q4, m * 4 + 3, none⟩ = some (.int .i64 y.band) := cell_kept c3 hd
              have d3' : (wr.drewN 1).cell? ⟨g8, 3, none⟩ = some (.int .i64 xp.band) := cell_kept d3 hd
              have hband : ¬ (xp.band < y.band) := by have := HTOP.out y (HPM.out.mem_iff.1 (by rw [hy]; exact List.getElem_mem hml)); omega
              have i6 : (m : Int) < (I.length : Int) := by omega
              clear hcs hx
              by_cases hq : y = xp
              · have HN : Hid (((m : Int) = -1 ∧ ∀ j (hj : j < I.length), j < m + 1 → I[j] ≠ xp) ∨ ∃ k0, ∃ hk0 : k0 < I.length, (m : Int) = (k0 : Int) ∧ I[k0] = xp) := Lib.hid (.inr ⟨m, hml, rfl, by rw [← hy]; exact hq⟩)
                rw [hq] at c0 c1 c2 c3 c3' hband
                clear hy hq
                go_wp2
                go_quiet (fail)
                go_wp2
                go_quiet (fail)
                go_wp2
                go_roundw
                case rel => exact ⟨(m : Int), m + 1, rfl, by go_num, hml, HN, Lib.hid (below_and HBM.out (below_drewN _))⟩
                case measure => simp [intOf]; omega
              · have HN : Hid ((kz = -1 ∧ ∀ j (hj : j < I.length), j < m + 1 → I[j] ≠ xp) ∨ ∃ k0, ∃ hk0 : k0 < I.length, kz = (k0 : Int) ∧ I[k0] = xp) := Lib.hid (HK.out.imp (fun h => ⟨h.1, fun j hj hjm => by
                    by_cases h3 : j < m
                    · exact h.2 j hj h3
                    · obtain rfl : j = m := by omega
                      rw [← hy]; exact hq⟩) id)
                obtain ⟨yj, yi, yu, yd⟩ := y
                obtain ⟨xj, xi, xu, xd⟩ := xp
                simp only at c0 c1 c2 c3 c3' d0 d1 d2 d3 d3' hband
                have hq4 : (yj.toList == xj.toList) = false ∨ (yi == xi) = false ∨ (yu.toList == xu.toList) = false ∨ (yd == xd) = false := by
                  rw [toList_eq, toList_eq]
                  simp only [decide_eq_false_iff_not, beq_eq_false_iff_ne]
                  by_cases a1 : yj = xj
                  · by_cases a2 : yi = xi
                    · by_cases a3 : yu = xu
                      · by_cases a4 : yd = xd
                        · subst a1 a2 a3 a4; exact absurd rfl hq
                        · exact .inr (.inr (.inr a4))
                      · exact .inr (.inr (.inl a3))
                    · exact .inr (.inl a2)
                  · exact .inl a1
                clear hy hq
                rcases hq4 with ha | ha | ha | ha
                all_goals go_wp2
                all_goals go_quiet (fail)
                all_goals go_wp2
                all_goals go_quiet (fail)
                all_goals go_wp2
                all_goals exact ⟨⟨kz, m + 1, rfl, by go_num, hml, HN, Lib.hid (below_and HBM.out (below_drewN _))⟩, by simp [intOf]; omega⟩
            · obtain rfl : m = I.length := by omega
              obtain ⟨k0, hk0, rfl, hke⟩ := HK.out.resolve_left (fun h => by
                obtain ⟨j, hj, e⟩ := List.getElem_of_mem HXM.out
                exact h.2 j hj hj e)
              have HPN := Lib.hid (once_take HMI.out HPM.out hk0 HHH.out hke)
              have H7 := Lib.hid (H6.out.kept HBM.out)
              obtain ⟨r, hr⟩ : ∃ r, I.length = k0 + r + 1 := ⟨I.length - k0 - 1, by omega⟩
              have i7 : ¬ ((k0 : Int) < 0) := by omega
              clear hke
              have HOW := H7.out.own
              rw [hr] at HOW
              obtain ⟨q4, c5, e4, hc4, hm4, -⟩ := own_block HOW (by omega)
              simp only [Value.slice.injEq] at e4
              obtain ⟨rfl, -, rfl⟩ := e4
              have HOWH := Lib.hid HOW
              have HO7 : Hid (((wr.alloc (.cells #[] 29)).drew).ownsRow w.heap.size 29 4 (.slice (some ⟨wr.heap.size, 0, none⟩) 0 0) 0 []) := Lib.hid ⟨by simp, .inr ⟨wr.heap.size, 0, #[], rfl, H7.out.bel.size, heap_alloc_new wr _, Nat.le_refl _, Nat.zero_le _, by simp, by simp⟩⟩
              have HSZ : Hid (w.heap.size ≤ wr.heap.size) := Lib.hid H7.out.bel.size
              have HS1 : Hid (Src Try.prog 4 22 (.slice (some ⟨q4, 0, none⟩) k0 c4) k0 (pcells (I.take k0)) ((wr.alloc (.cells #[] 29)).drew)) := Lib.hid (by
                have h1 := own_cut (own_keep HOW (below_ad wr (.cells #[] 29))) (m := k0) (by omega)
                rw [pcells_take] at h1
                exact Row.src Try.underlying22 (row_of_owns h1 (pcells_one _)))
              have HEI : Hid (pcells (I.take k0) ++ pcells (I.drop (k0 + 1)) = pcells (I.eraseIdx k0)) := Lib.hid (by rw [← pcells_append, List.eraseIdx_eq_take_drop_succ])
              have HEL : Hid ((I.eraseIdx k0).length = k0 + r) := Lib.hid (by rw [List.length_eraseIdx, if_pos (by omega), hr]; omega)
              have HS2 : Hid (∀ w8 : World, Below wr.heap.size wr w8 → Src Try.prog 4 22 (.slice (if c4 = k0 + 1 then some ⟨q4, 0, none⟩ else some ⟨q4, (k0 + 1) * 4, none⟩) r (c4 - (k0 + 1))) r (pcells (I.drop (k0 + 1))) w8) := Lib.hid (fun w8 hb => by
                split
                · have hr0 : r = 0 := by omega
                  subst hr0
                  have h0 : pcells (I.drop (k0 + 1)) = [] := by rw [List.drop_of_length_le (by omega)]; rfl
                  rw [h0]
                  exact src_none Try.underlying22 _ _
                · have h1 := (OwnO.of_own (own_keep HOWH.out hb) (by simp)).back (m := k0 + 1) (by omega)
                  rw [pcells_drop, show k0 + r + 1 - (k0 + 1) = r by omega, Nat.zero_add] at h1
                  exact h1.src Try.underlying22 (pcells_one _))
              have i31 : (k0 : Int) ≤ (k0 : Int) + 1 := by omega
              have i32 : 0 ≤ (k0 : Int) + 1 := by omega
              have i33 : (k0 : Int) ≤ (c4 : Int) := by omega
              have i34 : (k0 : Int) ≤ (k0 : Int) + (r : Int) := by omega
              have i35 : (k0 : Int) + 1 ≤ (c4 : Int) := by omega
              have i36 : k0 + r ≤ 200 := by omega
              have i37 : IntKind.i64.wrap ((k0 : Int) + 1) = (k0 : Int) + 1 := by rw [IntKind.wrap_i64]; omega
              obtain ⟨j0, hj0, hz0, hz1, hz2⟩ := info_parts info_pend
              clear HOW hm4
              go_wp2
              go_region_law (first | (refine step_app rfl (.tmp 93) (.tmp 97) 22 22 rfl w.heap.size 29 j0 pzv 4 48 Try.underlying22 hj0 hz0 hz1 hz2 rfl (.slice p8 k0 c8) k0 (pcells (I.take k0)) (by simp [Act.eval, Act.put]) HO8.out (.slice (if c4 = k0 + 1 then some ⟨q4, 0, none⟩ else some ⟨q4, (k0 + 1) * 4, none⟩) r (c4 - (k0 + 1))) r (pcells (I.drop (k0 + 1))) (by simp [Act.eval, Act.put]) (HS2.out _ HF8.out) (by unfold maxLen; omega) (by omega) (by have := HF8.out.size; have := HSZ.out; omega) ?_; intro v9 w9 ho9 hg9 hn9 hk9; rw [HEI.out] at ho9; obtain ⟨p9, c9, rfl, -, -⟩ := own_slice ho9; have HO9 := Lib.hid ho9; have HB9 : Hid (Below wr.heap.size wr w9) := Lib.hid (HF8.out.trans ((Fr.of_grown hg9).below (fun k hk => HK8.out k (Option.mem_toList.1 hk)) HF8.out.size)); have HK9 : Hid (∀ k, (Value.slice p9 (k0 + r) c9).ownBlock = some k → wr.heap.size ≤ k) := Lib.hid (fun k hk => (hk9 k hk).elim (HK8.out k) (fun h => Nat.le_trans HF8.out.size h)); clear ho9 hg9 hn9 hk9) | (refine step_app rfl (.tmp 89) (.tmp 92) 22 22 rfl w.heap.size 29 j0 pzv 4 48 Try.underlying22 hj0 hz0 hz1 hz2 rfl (.slice (some ⟨wr.heap.size, 0, none⟩) 0 0) 0 [] (by simp [Act.eval, Act.put]) HO7.out (.slice (some ⟨q4, 0, none⟩) k0 c4) k0 (pcells (I.take k0)) (by simp [Act.eval, Act.put]) HS1.out (by unfold maxLen; omega) (by omega) (by have := HSZ.out; simp; omega) ?_; intro v8 w8 ho8 hg8 hn8 hk8; rw [Nat.zero_add, List.nil_append] at ho8; obtain ⟨p8, c8, rfl, -, -⟩ := own_slice ho8; have HO8 := Lib.hid ho8; have HK8 : Hid (∀ k, (Value.slice p8 k0 c8).ownBlock = some k → wr.heap.size ≤ k) := Lib.hid (fun k hk => (hk8 k hk).elim (fun h => by simp [Value.ownBlock] at h; omega) (fun h => by have h2 : wr.heap.size + 1 ≤ k := (by simpa using h); omega)); have HF8 : Hid (Below wr.heap.size wr w8) := Lib.hid ((below_ad wr (.cells #[] 29)).trans (grown_below (b := wr.heap.size) hg8 (Nat.le_refl _) (by simp))); clear ho8 hg8 hn8 hk8))
              all_goals (
                have H9 : Hid (On w b ga x (.slice p9 (k0 + r) c9) (I.eraseIdx k0) (takeM M) ((k : Int) + 1) w9) := Lib.hid (H7.out.list HB9.out (by rw [HEL.out]; exact HO9.out) HK9.out)
                have HQL := Lib.hid H9.out.q
                have HLM : Hid ((flatM (takeM M)).length = k0 + r) := Lib.hid (by rw [← HPN.out.length_eq, HEL.out])
                go_wp2_with (go_at_call 19; refine (qlen_any b _ _ _ _ HQL.out (by have := HLM.out; omega)).mono ?_; rw [HLM.out]; rintro e w10 ⟨rfl, rfl⟩)
                go_roundw
                case rel => exact ⟨k + 1, I.eraseIdx k0, takeM M, by omega, by go_num, Lib.hid (H9.out.forget HPN.out (by omega)), by rw [HEL.out]; omega, fun _ => by rw [HEL.out]; omega, fun _ => .inl (by rw [HEL.out]; omega)⟩
                case measure => simp [intOf]; omega)

      · have HPK := Lib.hid HPK
        rw [h4] at HPK
        clear h4
        have HLM : Hid ((flatM M).length = I.length) := Lib.hid HPM.out.length_eq.symm
        have HQL := Lib.hid HON.out.q
        go_wp2_with (first
          | (go_at_call 20; refine (HPK.out _).mono ?_; rintro e w4 ⟨rfl, rfl⟩)
          | (go_at_call 19; refine (qlen_any b _ _ _ _ HQL.out (by have := HLM.out; omega)).mono ?_; rw [HLM.out]; rintro e w10 ⟨rfl, rfl⟩))
        go_roundw
        case rel => exact ⟨k + 1, I, M, by omega, by go_num, Lib.hid (HON.out.forget HPM.out (by omega)), hI2, fun _ => by omega, fun _ => .inl (by omega)⟩
        case measure => simp [intOf]; omega
      · have HPK := Lib.hid HPK
        rw [h4] at HPK
        clear h4
        cases hh : hasM M (x.p.job, x.p.idx)
        · have HDV : Hid ((if hasM M (x.p.job, x.p.idx) = true then (0 : Int) else 6) = 6) := Lib.hid (by rw [hh]; rfl)
          have HFD : Hid (flatM (dropM M (x.p.job, x.p.idx)) = flatM M) := Lib.hid (once_none HPM.out (x.p.job, x.p.idx) hh)
          have HLM : Hid ((flatM (dropM M (x.p.job, x.p.idx))).length = I.length) := Lib.hid (by rw [HFD.out]; exact HPM.out.length_eq.symm)
          clear hh
          go_upto_region 42 with (first
            | (go_at_call 20; refine (HPK.out _).mono ?_; rintro e w4 ⟨rfl, rfl⟩)
            | (go_at_call 17; refine (qdrop_any b _ _ M (x.p.job, x.p.idx) _ HON.out.q (by omega)).mono ?_; rw [HDV.out]; rintro e w5 ⟨rfl, hq, hf⟩; have H5 := Lib.hid (HON.out.call hq hf); clear hq hf))
          have HQL := Lib.hid H5.out.q
          go_wp2_with (go_at_call 19; refine (qlen_any b _ _ _ _ HQL.out (by have := HLM.out; omega)).mono ?_; rw [HLM.out]; rintro e w10 ⟨rfl, rfl⟩)
          go_roundw
          case rel => exact ⟨k + 1, I, dropM M (x.p.job, x.p.idx), by omega, by go_num, Lib.hid (H5.out.forget (by rw [HFD.out]; exact HPM.out) (by omega)), hI2, fun _ => by omega, fun _ => .inl (by omega)⟩
          case measure => simp [intOf]; omega
        · have HDV : Hid ((if hasM M (x.p.job, x.p.idx) = true then (0 : Int) else 6) = 0) := Lib.hid (by rw [hh]; rfl)
          have HEX := Lib.hid (once_find HPM.out hh)
          clear hh
          go_upto_region 37 with (first
            | (go_at_call 20; refine (HPK.out _).mono ?_; rintro e w4 ⟨rfl, rfl⟩)
            | (go_at_call 17; refine (qdrop_any b _ _ M (x.p.job, x.p.idx) _ HON.out.q (by omega)).mono ?_; rw [HDV.out]; rintro e w5 ⟨rfl, hq, hf⟩; have H5 := Lib.hid (HON.out.call hq hf); clear hq hf))
          go_wp2
          go_loopw [4, 12] (fun iv mv wc => ∃ m : Nat, iv = .slice p4 I.length c4 ∧ mv = .int .i64 (m : Int) ∧ m ≤ I.length ∧ Hid (∀ j (hj : j < I.length), j < m → I[j].task ≠ (x.p.job, x.p.idx)) ∧ Hid (Below w5.heap.size w5 wc)) (fun _ mv _ => I.length - (intOf mv).toNat)
          case atStart => exact ⟨0, rfl, rfl, Nat.zero_le _, Lib.hid (fun _ _ h => absurd h (Nat.not_lt_zero _)), Lib.hid (Below.refl _ _)⟩
          case round =>
            obtain ⟨m, rfl, rfl, hm, HNO, HBM⟩ := hrel
            have H6 := Lib.hid (H5.out.kept HBM.out)
            by_cases hml : m < I.length
            · obtain ⟨q4, e4, hcs⟩ := pown_cell H6.out.own hml rfl
              subst e4
              obtain ⟨y, hy⟩ : ∃ y, y = I[m] := ⟨_, rfl⟩
              rw [← hy] at hcs
              have c0 : wr.cell? ⟨q4, m * 4, none⟩ = some (.string y.job) := hcs 0 _ (by omega) rfl
              have c1 : wr.cell? ⟨q4, m * 4 + 1, none⟩ = some (.int .i64 y.idx) := hcs 1 _ (by omega) rfl
              have d1 := H6.out.c1
              have d2 := H6.out.c2
              have i6 : (m : Int) < (I.length : Int) := by omega
              clear hcs
              by_cases hq : y.task = (x.p.job, x.p.idx)
              · have HPN : Hid ((I.eraseIdx m).Perm (flatM (dropM M (x.p.job, x.p.idx)))) := Lib.hid (by
                  have := once_drop HMI.out HPM.out hml
                  rw [← hy, hq] at this
                  exact this)
                obtain ⟨r, hr⟩ : ∃ r, I.length = m + r + 1 := ⟨I.length - m - 1, by omega⟩
                have hqj : y.job = x.p.job := congrArg Prod.fst hq
                have hqi : y.idx = x.p.idx := congrArg Prod.snd hq
                rw [hqj] at c0
                rw [hqi] at c1
                clear hy hq hqj hqi
                go_wp2
                go_quiet (fail)
                go_wp2
                obtain ⟨wq, hwq⟩ : ∃ wq, wq = wr.drewN nq := ⟨_, rfl⟩
                have H7 : Hid (On w b ga x (.slice (some ⟨q4, 0, none⟩) I.length c4) I (dropM M (x.p.job, x.p.idx)) (k : Int) wq) := Lib.hid (by rw [hwq]; exact H6.out.kept (below_drewN _))
                rw [← hwq]
                clear hwq
                have HOW := H7.out.own
                rw [hr] at HOW
                obtain ⟨q4, c5, e4, hc4, hm4, -⟩ := own_block HOW (by omega)
                simp only [Value.slice.injEq, Option.some.injEq, Addr.mk.injEq, and_true, true_and] at e4
                obtain ⟨rfl, rfl⟩ := e4
                have HOWH := Lib.hid HOW
                have HO7 : Hid (((wq.alloc (.cells #[] 29)).drew).ownsRow w.heap.size 29 4 (.slice (some ⟨wq.heap.size, 0, none⟩) 0 0) 0 []) := Lib.hid ⟨by simp, .inr ⟨wq.heap.size, 0, #[], rfl, H7.out.bel.size, heap_alloc_new wq _, Nat.le_refl _, Nat.zero_le _, by simp, by simp⟩⟩
                have HSZ : Hid (w.heap.size ≤ wq.heap.size) := Lib.hid H7.out.bel.size
                have HS1 : Hid (Src Try.prog 4 22 (.slice (some ⟨q4, 0, none⟩) m c4) m (pcells (I.take m)) ((wq.alloc (.cells #[] 29)).drew)) := Lib.hid (by
                  have h1 := own_cut (own_keep HOW (below_ad wq (.cells #[] 29))) (m := m) (by omega)
                  rw [pcells_take] at h1
                  exact Row.src Try.underlying22 (row_of_owns h1 (pcells_one _)))
                have HEI : Hid (pcells (I.take m) ++ pcells (I.drop (m + 1)) = pcells (I.eraseIdx m)) := Lib.hid (by rw [← pcells_append, List.eraseIdx_eq_take_drop_succ])
                have HEL : Hid ((I.eraseIdx m).length = m + r) := Lib.hid (by rw [List.length_eraseIdx, if_pos (by omega), hr]; omega)
                have HS2 : Hid (∀ w8 : World, Below wq.heap.size wq w8 → Src Try.prog 4 22 (.slice (if c4 = m + 1 then some ⟨q4, 0, none⟩ else some ⟨q4, (m + 1) * 4, none⟩) r (c4 - (m + 1))) r (pcells (I.drop (m + 1))) w8) := Lib.hid (fun w8 hb => by
                  split
                  · have hr0 : r = 0 := by omega
                    subst hr0
                    have h0 : pcells (I.drop (m + 1)) = [] := by rw [List.drop_of_length_le (by omega)]; rfl
                    rw [h0]
                    exact src_none Try.underlying22 _ _
                  · have h1 := (OwnO.of_own (own_keep HOWH.out hb) (by simp)).back (m := m + 1) (by omega)
                    rw [pcells_drop, show m + r + 1 - (m + 1) = r by omega, Nat.zero_add] at h1
                    exact h1.src Try.underlying22 (pcells_one _))
                have i31 : (m : Int) ≤ (m : Int) + 1 := by omega
                have i32 : 0 ≤ (m : Int) + 1 := by omega
                have i33 : (m : Int) ≤ (c4 : Int) := by omega
                have i34 : (m : Int) ≤ (m : Int) + (r : Int) := by omega
                have i35 : (m : Int) + 1 ≤ (c4 : Int) := by omega
                have i36 : m + r ≤ 200 := by omega
                have i37 : IntKind.i64.wrap ((m : Int) + 1) = (m : Int) + 1 := by rw [IntKind.wrap_i64]; omega
                obtain ⟨j0, hj0, hz0, hz1, hz2⟩ := info_parts info_pend
                clear HOW hm4
                go_wp2
                go_region_law (first | (refine step_app rfl (.tmp 126) (.tmp 130) 22 22 rfl w.heap.size 29 j0 pzv 4 48 Try.underlying22 hj0 hz0 hz1 hz2 rfl (.slice p8 m c8) m (pcells (I.take m)) (by simp [Act.eval, Act.put]) HO8.out (.slice (if c4 = m + 1 then some ⟨q4, 0, none⟩ else some ⟨q4, (m + 1) * 4, none⟩) r (c4 - (m + 1))) r (pcells (I.drop (m + 1))) (by simp [Act.eval, Act.put]) (HS2.out _ HF8.out) (by unfold maxLen; omega) (by omega) (by have := HF8.out.size; have := HSZ.out; omega) ?_; intro v9 w9 ho9 hg9 hn9 hk9; rw [HEI.out] at ho9; obtain ⟨p9, c9, rfl, -, -⟩ := own_slice ho9; have HO9 := Lib.hid ho9; have HB9 : Hid (Below wq.heap.size wq w9) := Lib.hid (HF8.out.trans ((Fr.of_grown hg9).below (fun k hk => HK8.out k (Option.mem_toList.1 hk)) HF8.out.size)); have HK9 : Hid (∀ k, (Value.slice p9 (m + r) c9).ownBlock = some k → wq.heap.size ≤ k) := Lib.hid (fun k hk => (hk9 k hk).elim (HK8.out k) (fun h => Nat.le_trans HF8.out.size h)); clear ho9 hg9 hn9 hk9) | (refine step_app rfl (.tmp 122) (.tmp 125) 22 22 rfl w.heap.size 29 j0 pzv 4 48 Try.underlying22 hj0 hz0 hz1 hz2 rfl (.slice (some ⟨wq.heap.size, 0, none⟩) 0 0) 0 [] (by simp [Act.eval, Act.put]) HO7.out (.slice (some ⟨q4, 0, none⟩) m c4) m (pcells (I.take m)) (by simp [Act.eval, Act.put]) HS1.out (by unfold maxLen; omega) (by omega) (by have := HSZ.out; simp; omega) ?_; intro v8 w8 ho8 hg8 hn8 hk8; rw [Nat.zero_add, List.nil_append] at ho8; obtain ⟨p8, c8, rfl, -, -⟩ := own_slice ho8; have HO8 := Lib.hid ho8; have HK8 : Hid (∀ k, (Value.slice p8 m c8).ownBlock = some k → wq.heap.size ≤ k) := Lib.hid (fun k hk => (hk8 k hk).elim (fun h => by simp [Value.ownBlock] at h; omega) (fun h => by have h2 : wq.heap.size + 1 ≤ k := (by simpa using h); omega)); have HF8 : Hid (Below wq.heap.size wq w8) := Lib.hid ((below_ad wq (.cells #[] 29)).trans (grown_below (b := wq.heap.size) hg8 (Nat.le_refl _) (by simp))); clear ho8 hg8 hn8 hk8))
                all_goals (
                  have H9 : Hid (On w b ga x (.slice p9 (m + r) c9) (I.eraseIdx m) (dropM M (x.p.job, x.p.idx)) (k : Int) w9) := Lib.hid (H7.out.list HB9.out (by rw [HEL.out]; exact HO9.out) HK9.out)
                  have HQL := Lib.hid H9.out.q
                  have HLM : Hid ((flatM (dropM M (x.p.job, x.p.idx))).length = m + r) := Lib.hid (by rw [← HPN.out.length_eq, HEL.out])
                  go_wp2_with (go_at_call 19; refine (qlen_any b _ _ _ _ HQL.out (by have := HLM.out; omega)).mono ?_; rw [HLM.out]; rintro e w10 ⟨rfl, rfl⟩)
                  go_roundw
                  case rel => exact ⟨k + 1, I.eraseIdx m, dropM M (x.p.job, x.p.idx), by omega, by go_num, Lib.hid (H9.out.forget HPN.out (by omega)), by rw [HEL.out]; omega, fun _ => by rw [HEL.out]; omega, fun _ => .inl (by rw [HEL.out]; omega)⟩
                  case measure => simp [intOf]; omega)
              · have HN2 : Hid (∀ j (hj : j < I.length), j < m + 1 → I[j].task ≠ (x.p.job, x.p.idx)) := Lib.hid (fun j hj hjm => by
                  by_cases h3 : j < m
                  · exact HNO.out j hj h3
                  · obtain rfl : j = m := by omega
                    rw [← hy]; exact hq)
                obtain ⟨yj, yi, yu, yd⟩ := y
                simp only at c0 c1
                have hq2 : (yj.toList == x.p.job.toList) = false ∨ (yi == x.p.idx) = false := by
                  rw [toList_eq]
                  simp only [decide_eq_false_iff_not, beq_eq_false_iff_ne]
                  by_cases a1 : yj = x.p.job
                  · exact .inr (fun a2 => hq (by subst a1 a2; rfl))
                  · exact .inl a1
                clear hy hq
                rcases hq2 with ha | ha
                all_goals go_wp2
                all_goals go_quiet (fail)
                all_goals go_wp2
                all_goals exact ⟨⟨m + 1, rfl, by go_num, hml, HN2, Lib.hid (below_and HBM.out (below_drewN _))⟩, by simp [intOf]; omega⟩
            · obtain rfl : m = I.length := by omega
              obtain ⟨k1, hk1, hk2⟩ := HEX.out
              exact absurd hk2 (HNO.out k1 hk1 hk1)
    · have hB' := hB (by omega)
      clear hA hB
      by_cases hend : k < l.length + 201
      · have i2 : (k : Int) < (l.length : Int) + 200 + 1 := by omega
        have i3 : ¬ (k : Int) < (l.length : Int) := by omega
        obtain ⟨x, hx⟩ : ∃ x : QAct, x = ⟨0, pend0⟩ := ⟨_, rfl⟩
        go_upto_region 15 with fail
        obtain ⟨ga, hga⟩ : ∃ ga, ga = wr.heap.size := ⟨_, rfl⟩
        obtain ⟨wa, hwa⟩ : ∃ wa, wa = wr.alloc (.cells #[.int .i64 0, .string ⟨#[]⟩, .int .i64 0, .string ⟨#[]⟩, .int .i64 0] 48) := ⟨_, rfl⟩
        have HON : Hid (On w b ga x (.slice p4 I.length c4) I M (k : Int) wa) := Lib.hid (by rw [hwa, hga, hx]; exact HO0.out.act ⟨0, pend0⟩)
        rw [← hwa, ← hga]
        clear hwa hga hx HO0
        cases hh : headM M with
        | none =>
          have hM := headM_none HMI.out hh
          subst hM
          have hI : I = [] := List.eq_nil_of_length_eq_zero HPM.out.length_eq
          subst hI
          have HV : Hid (headV [] = .tuple #[pzv, .bool false]) := Lib.hid rfl
          clear hh
          go_wp2_with (first | (go_at_call 14; refine (qtake_any b _ _ [] _ HON.out.q (by omega) (by simp [flatM])).mono ?_; rw [HV.out]; rintro e w5 ⟨rfl, hq, hf⟩; have H5 := Lib.hid ((HON.out.call hq hf).kept (below_alloc w5 (.cells #[.string ⟨#[]⟩, .int .i64 0, .string ⟨#[]⟩, .int .i64 0] 29))); clear hq hf))
          go_roundw
          case rel => exact ⟨k + 1, [], [], by omega, by go_num, Lib.hid (H5.out.forget HPM.out (by omega)), by simp, fun _ => by simp, fun _ => .inr rfl⟩
          case measure => simp [intOf]; omega
        | some xp =>
          have HTOP := Lib.hid (head_top HMI.out hh)
          have HHH := Lib.hid hh
          have HTK : Hid ((flatM M).Perm (xp :: flatM (takeM M))) := Lib.hid (flatM_take HMI.out hh)
          have hxm : xp ∈ I := HPM.out.mem_iff.2 (HTK.out.mem_iff.2 List.mem_cons_self)
          have hpos : 0 < I.length := List.length_pos_of_mem hxm
          have i5 : (0 : Int) < (I.length : Int) := by omega
          have HV : Hid (headV M = .tuple #[pval xp, .bool true]) := Lib.hid (by unfold headV; rw [hh])
          have HXM := Lib.hid hxm
          clear hh hxm
          go_wp2_with (first | (go_at_call 14; refine (qtake_any b _ _ M _ HON.out.q (by omega) (by omega)).mono ?_; rw [HV.out]; rintro e w5 ⟨rfl, hq, hf⟩; have H5 := Lib.hid (HON.out.call hq hf); clear hq hf))
          obtain ⟨g8, hg8⟩ : ∃ g8, g8 = w5.heap.size := ⟨_, rfl⟩
          obtain ⟨w6, hw6⟩ : ∃ w6, w6 = w5.alloc (.cells #[.string xp.job, .int .i64 xp.idx, .string xp.user, .int .i64 xp.band] 29) := ⟨_, rfl⟩
          have H6 : Hid (On w b ga x (.slice p4 I.length c4) I (takeM M) ((k : Int) + 1) w6) := Lib.hid (by rw [hw6]; exact H5.out.kept (below_alloc w5 _))
          have HX6 : Hid (Blk w6 g8 (pend xp) 29) := Lib.hid (by rw [hw6, hg8]; exact Blk.made w5 (pend xp) _)
          rw [← hw6, ← hg8]
          clear hw6 hg8
          go_loopw [10, 11] (fun kv mv wc => ∃ (kz : Int) (m : Nat), kv = .int .i64 kz ∧ mv = .int .i64 (m : Int) ∧ m ≤ I.length ∧ Hid ((kz = -1 ∧ ∀ j (hj : j < I.length), j < m → I[j] ≠ xp) ∨ ∃ k0, ∃ hk0 : k0 < I.length, kz = (k0 : Int) ∧ I[k0] = xp) ∧ Hid (Below w6.heap.size w6 wc)) (fun _ mv _ => I.length - (intOf mv).toNat)
          case atStart => exact ⟨-1, 0, rfl, rfl, Nat.zero_le _, Lib.hid (.inl ⟨rfl, fun _ _ h => absurd h (Nat.not_lt_zero _)⟩), Lib.hid (Below.refl _ _)⟩
          case round =>
            obtain ⟨kz, m, rfl, rfl, hm, HK, HBM⟩ := hrel
            by_cases hml : m < I.length
            · have HO := own_keep H6.out.own HBM.out
              obtain ⟨q4, e4, hcs⟩ := pown_cell HO hml rfl
              subst e4
              obtain ⟨y, hy⟩ : ∃ y, y = I[m] := ⟨_, rfl⟩
              rw [← hy] at hcs
              have c0 : wr.cell? ⟨q4, m * 4, none⟩ = some (.string y.job) := hcs 0 _ (by omega) rfl
              have c1 : wr.cell? ⟨q4, m * 4 + 1, none⟩ = some (.int .i64 y.idx) := hcs 1 _ (by omega) rfl
              have c2 : wr.cell? ⟨q4, m * 4 + 2, none⟩ = some (.string y.user) := hcs 2 _ (by omega) rfl
              have c3 : wr.cell? ⟨q4, m * 4 + 3, none⟩ = some (.int .i64 y.band) := hcs 3 _ (by omega) rfl
              have hx := HX6.out.kept HBM.out
              have d0 := hx.cell (j := 0) rfl
              have d1 := hx.cell (j := 1) rfl
              have d2 := hx.cell (j := 2) rfl
              have d3 := hx.cell (j := 3) rfl
              have hd : Below wr.heap.size wr wr.drew := below_drewN 1
              have c3' : (wr.drewN 1).cell? ⟨q4, m * 4 + 3, none⟩ = some (.int .i64 y.band) := cell_kept c3 hd
              have d3' : (wr.drewN 1).cell? ⟨g8, 3, none⟩ = some (.int .i64 xp.band) := cell_kept d3 hd
              have hband : ¬ (xp.band < y.band) := by have := HTOP.out y (HPM.out.mem_iff.1 (by rw [hy]; exact List.getElem_mem hml)); omega
              have i6 : (m : Int) < (I.length : Int) := by omega
              clear hcs hx
              by_cases hq : y = xp
              · have HN : Hid (((m : Int) = -1 ∧ ∀ j (hj : j < I.length), j < m + 1 → I[j] ≠ xp) ∨ ∃ k0, ∃ hk0 : k0 < I.length, (m : Int) = (k0 : Int) ∧ I[k0] = xp) := Lib.hid (.inr ⟨m, hml, rfl, by rw [← hy]; exact hq⟩)
                rw [hq] at c0 c1 c2 c3 c3' hband
                clear hy hq
                go_wp2
                go_quiet (fail)
                go_wp2
                go_quiet (fail)
                go_wp2
                go_roundw
                case rel => exact ⟨(m : Int), m + 1, rfl, by go_num, hml, HN, Lib.hid (below_and HBM.out (below_drewN _))⟩
                case measure => simp [intOf]; omega
              · have HN : Hid ((kz = -1 ∧ ∀ j (hj : j < I.length), j < m + 1 → I[j] ≠ xp) ∨ ∃ k0, ∃ hk0 : k0 < I.length, kz = (k0 : Int) ∧ I[k0] = xp) := Lib.hid (HK.out.imp (fun h => ⟨h.1, fun j hj hjm => by
                    by_cases h3 : j < m
                    · exact h.2 j hj h3
                    · obtain rfl : j = m := by omega
                      rw [← hy]; exact hq⟩) id)
                obtain ⟨yj, yi, yu, yd⟩ := y
                obtain ⟨xj, xi, xu, xd⟩ := xp
                simp only at c0 c1 c2 c3 c3' d0 d1 d2 d3 d3' hband
                have hq4 : (yj.toList == xj.toList) = false ∨ (yi == xi) = false ∨ (yu.toList == xu.toList) = false ∨ (yd == xd) = false := by
                  rw [toList_eq, toList_eq]
                  simp only [decide_eq_false_iff_not, beq_eq_false_iff_ne]
                  by_cases a1 : yj = xj
                  · by_cases a2 : yi = xi
                    · by_cases a3 : yu = xu
                      · by_cases a4 : yd = xd
                        · subst a1 a2 a3 a4; exact absurd rfl hq
                        · exact .inr (.inr (.inr a4))
                      · exact .inr (.inr (.inl a3))
                    · exact .inr (.inl a2)
                  · exact .inl a1
                clear hy hq
                rcases hq4 with ha | ha | ha | ha
                all_goals go_wp2
                all_goals go_quiet (fail)
                all_goals go_wp2
                all_goals go_quiet (fail)
                all_goals go_wp2
                all_goals exact ⟨⟨kz, m + 1, rfl, by go_num, hml, HN, Lib.hid (below_and HBM.out (below_drewN _))⟩, by simp [intOf]; omega⟩
            · obtain rfl : m = I.length := by omega
              obtain ⟨k0, hk0, rfl, hke⟩ := HK.out.resolve_left (fun h => by
                obtain ⟨j, hj, e⟩ := List.getElem_of_mem HXM.out
                exact h.2 j hj hj e)
              have HPN := Lib.hid (once_take HMI.out HPM.out hk0 HHH.out hke)
              have H7 := Lib.hid (H6.out.kept HBM.out)
              obtain ⟨r, hr⟩ : ∃ r, I.length = k0 + r + 1 := ⟨I.length - k0 - 1, by omega⟩
              have i7 : ¬ ((k0 : Int) < 0) := by omega
              clear hke
              have HOW := H7.out.own
              rw [hr] at HOW
              obtain ⟨q4, c5, e4, hc4, hm4, -⟩ := own_block HOW (by omega)
              simp only [Value.slice.injEq] at e4
              obtain ⟨rfl, -, rfl⟩ := e4
              have HOWH := Lib.hid HOW
              have HO7 : Hid (((wr.alloc (.cells #[] 29)).drew).ownsRow w.heap.size 29 4 (.slice (some ⟨wr.heap.size, 0, none⟩) 0 0) 0 []) := Lib.hid ⟨by simp, .inr ⟨wr.heap.size, 0, #[], rfl, H7.out.bel.size, heap_alloc_new wr _, Nat.le_refl _, Nat.zero_le _, by simp, by simp⟩⟩
              have HSZ : Hid (w.heap.size ≤ wr.heap.size) := Lib.hid H7.out.bel.size
              have HS1 : Hid (Src Try.prog 4 22 (.slice (some ⟨q4, 0, none⟩) k0 c4) k0 (pcells (I.take k0)) ((wr.alloc (.cells #[] 29)).drew)) := Lib.hid (by
                have h1 := own_cut (own_keep HOW (below_ad wr (.cells #[] 29))) (m := k0) (by omega)
                rw [pcells_take] at h1
                exact Row.src Try.underlying22 (row_of_owns h1 (pcells_one _)))
              have HEI : Hid (pcells (I.take k0) ++ pcells (I.drop (k0 + 1)) = pcells (I.eraseIdx k0)) := Lib.hid (by rw [← pcells_append, List.eraseIdx_eq_take_drop_succ])
              have HEL : Hid ((I.eraseIdx k0).length = k0 + r) := Lib.hid (by rw [List.length_eraseIdx, if_pos (by omega), hr]; omega)
              have HS2 : Hid (∀ w8 : World, Below wr.heap.size wr w8 → Src Try.prog 4 22 (.slice (if c4 = k0 + 1 then some ⟨q4, 0, none⟩ else some ⟨q4, (k0 + 1) * 4, none⟩) r (c4 - (k0 + 1))) r (pcells (I.drop (k0 + 1))) w8) := Lib.hid (fun w8 hb => by
                split
                · have hr0 : r = 0 := by omega
                  subst hr0
                  have h0 : pcells (I.drop (k0 + 1)) = [] := by rw [List.drop_of_length_le (by omega)]; rfl
                  rw [h0]
                  exact src_none Try.underlying22 _ _
                · have h1 := (OwnO.of_own (own_keep HOWH.out hb) (by simp)).back (m := k0 + 1) (by omega)
                  rw [pcells_drop, show k0 + r + 1 - (k0 + 1) = r by omega, Nat.zero_add] at h1
                  exact h1.src Try.underlying22 (pcells_one _))
              have i31 : (k0 : Int) ≤ (k0 : Int) + 1 := by omega
              have i32 : 0 ≤ (k0 : Int) + 1 := by omega
              have i33 : (k0 : Int) ≤ (c4 : Int) := by omega
              have i34 : (k0 : Int) ≤ (k0 : Int) + (r : Int) := by omega
              have i35 : (k0 : Int) + 1 ≤ (c4 : Int) := by omega
              have i36 : k0 + r ≤ 200 := by omega
              have i37 : IntKind.i64.wrap ((k0 : Int) + 1) = (k0 : Int) + 1 := by rw [IntKind.wrap_i64]; omega
              obtain ⟨j0, hj0, hz0, hz1, hz2⟩ := info_parts info_pend
              clear HOW hm4
              go_wp2
              go_region_law (first | (refine step_app rfl (.tmp 93) (.tmp 97) 22 22 rfl w.heap.size 29 j0 pzv 4 48 Try.underlying22 hj0 hz0 hz1 hz2 rfl (.slice p8 k0 c8) k0 (pcells (I.take k0)) (by simp [Act.eval, Act.put]) HO8.out (.slice (if c4 = k0 + 1 then some ⟨q4, 0, none⟩ else some ⟨q4, (k0 + 1) * 4, none⟩) r (c4 - (k0 + 1))) r (pcells (I.drop (k0 + 1))) (by simp [Act.eval, Act.put]) (HS2.out _ HF8.out) (by unfold maxLen; omega) (by omega) (by have := HF8.out.size; have := HSZ.out; omega) ?_; intro v9 w9 ho9 hg9 hn9 hk9; rw [HEI.out] at ho9; obtain ⟨p9, c9, rfl, -, -⟩ := own_slice ho9; have HO9 := Lib.hid ho9; have HB9 : Hid (Below wr.heap.size wr w9) := Lib.hid (HF8.out.trans ((Fr.of_grown hg9).below (fun k hk => HK8.out k (Option.mem_toList.1 hk)) HF8.out.size)); have HK9 : Hid (∀ k, (Value.slice p9 (k0 + r) c9).ownBlock = some k → wr.heap.size ≤ k) := Lib.hid (fun k hk => (hk9 k hk).elim (HK8.out k) (fun h => Nat.le_trans HF8.out.size h)); clear ho9 hg9 hn9 hk9) | (refine step_app rfl (.tmp 89) (.tmp 92) 22 22 rfl w.heap.size 29 j0 pzv 4 48 Try.underlying22 hj0 hz0 hz1 hz2 rfl (.slice (some ⟨wr.heap.size, 0, none⟩) 0 0) 0 [] (by simp [Act.eval, Act.put]) HO7.out (.slice (some ⟨q4, 0, none⟩) k0 c4) k0 (pcells (I.take k0)) (by simp [Act.eval, Act.put]) HS1.out (by unfold maxLen; omega) (by omega) (by have := HSZ.out; simp; omega) ?_; intro v8 w8 ho8 hg8 hn8 hk8; rw [Nat.zero_add, List.nil_append] at ho8; obtain ⟨p8, c8, rfl, -, -⟩ := own_slice ho8; have HO8 := Lib.hid ho8; have HK8 : Hid (∀ k, (Value.slice p8 k0 c8).ownBlock = some k → wr.heap.size ≤ k) := Lib.hid (fun k hk => (hk8 k hk).elim (fun h => by simp [Value.ownBlock] at h; omega) (fun h => by have h2 : wr.heap.size + 1 ≤ k := (by simpa using h); omega)); have HF8 : Hid (Below wr.heap.size wr w8) := Lib.hid ((below_ad wr (.cells #[] 29)).trans (grown_below (b := wr.heap.size) hg8 (Nat.le_refl _) (by simp))); clear ho8 hg8 hn8 hk8))
              all_goals (
                have H9 : Hid (On w b ga x (.slice p9 (k0 + r) c9) (I.eraseIdx k0) (takeM M) ((k : Int) + 1) w9) := Lib.hid (H7.out.list HB9.out (by rw [HEL.out]; exact HO9.out) HK9.out)
                have HQL := Lib.hid H9.out.q
                have HLM : Hid ((flatM (takeM M)).length = k0 + r) := Lib.hid (by rw [← HPN.out.length_eq, HEL.out])
                go_wp2_with (go_at_call 19; refine (qlen_any b _ _ _ _ HQL.out (by have := HLM.out; omega)).mono ?_; rw [HLM.out]; rintro e w10 ⟨rfl, rfl⟩)
                go_roundw
                case rel => exact ⟨k + 1, I.eraseIdx k0, takeM M, by omega, by go_num, Lib.hid (H9.out.forget HPN.out (by omega)), by rw [HEL.out]; omega, fun _ => by rw [HEL.out]; omega, fun _ => .inl (by rw [HEL.out]; omega)⟩
                case measure => simp [intOf]; omega)

      · obtain rfl : k = l.length + 201 := by omega
        have hI0 : I.length = 0 := by omega
        have hIn := List.eq_nil_of_length_eq_zero hI0
        subst hIn
        have i2 : ¬ ((l.length : Int) + 201 < (l.length : Int) + 200 + 1) := by omega
        go_wp2
        go_ret
        exact ⟨rfl, HO0.out.bel⟩

theorem queueOnce_walk (v : Value) (es : List (List Value)) (w : World) (hr : Row w v 5 es.length es.flatten) (hf : ∀ x ∈ es, Leaves Try.prog [3, 9, 3, 9, 3] x) :
    Calls Try.prog 7 #[v] w fun e w' => e = .returned (.bool true) ∧ Below w.heap.size w w' := by
  obtain ⟨l, h1, h2⟩ := act_list es hf
  rw [← h1, ← h2] at hr
  by_cases hl : 200 < l.length
  · exact queueOnce_big v l w hr hl
  · exact queueOnce_in v l w hr (by omega)
end Go.Proofs.Ytlemfbgmhjklaaa
