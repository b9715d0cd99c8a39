/- The law's p, told, example, lives. -/
import Derived.Test.YtlemfbgmhjklaaaQAll
import Derived.BigRegion
namespace Go.Proofs.Ytlemfbgmhjklaaa
open Go.RowKit

theorem ret_cell1 {P : Program} {fn : Func} {R : Ending → World → Prop} {a : Act} {w : World} {p : Tmp} {ty t : TypeId} {g : Nat} {cs : List Value} {d : TypeDesc} (h : fn.results = #[.cell p ty]) (hd : a.defers = [])
    (hp : a.tmps.getD p undef = .pointer (some ⟨g, 0, none⟩)) (hg : Blk w g cs t) (hu : P.underlying ty = some d) (hs : (match d with | .struct _ | .array _ _ => true | _ => false) = true) (hi : (P.info? ty).map (·.size) = some cs.length)
    (hR : R (.returned (.agg cs.toArray)) w) : bodyPost P fn R .ret a w :=
  bodyPost_ret (results_cell_row h a.tmps w g t cs.toArray (0, 0) d hp hg hu hs (by simpa using hi)) hd hR

set_option maxRecDepth 100000 in
set_option maxHeartbeats 400000 in
theorem p_any (j u : ByteArray) (i d : Int) (w : World) :
    Calls Try.prog 15 #[.string j, .int .i64 i, .string u, .int .i64 d] w fun e w' => e = .returned (pval ⟨j, i, u, d⟩) ∧ Below w.heap.size w w' := by
  go_enter Try.func15, Try.ntmps15
  go_wp2
  exact ret_cell1 rfl rfl rfl (Blk.made w (pend ⟨j, i, u, d⟩) 29) Try.underlying29 rfl info_pend2 ⟨rfl, below_alloc w _⟩

set_option maxRecDepth 100000 in
set_option maxHeartbeats 400000 in
theorem qnew_any (w : World) :
    Calls Try.prog 9 #[] w fun e w' => e = .returned (ptr w.heap.size) ∧ Qm w' w.heap.size (fun k => w.heap.size ≤ k) 0 [] ∧ Below w.heap.size w w' := by
  go_enter Try.func9, Try.ntmps9
  go_wp2
  go_ret
  refine ⟨rfl, ⟨0, .slice none 0 0, [], ⟨Blk.made w [.slice none 0 0, .int .u64 0, .bool true] _, World.ownsRow_nil _ _ _ _, by simp [Value.ownBlock], fun r hr => (by cases hr)⟩, List.Pairwise.nil, fun j hj => ?_, fun r hr => (by cases hr), ⟨fun i h1 h2 => absurd h2 (Nat.not_lt_zero _), fun r hr => (by cases hr), List.nodup_nil⟩, ⟨[], List.Perm.refl _, List.Pairwise.nil, rfl⟩, ⟨List.nodup_nil, fun m hm => (by cases hm), fun m hm => (by cases hm), List.nodup_nil, List.Pairwise.nil, fun m hm => (by cases hm)⟩, Int.le_refl _, Int.le_refl _⟩, below_alloc w _⟩
  rcases mem_fpW.1 hj with rfl | hj
  · exact Nat.le_refl _
  · simp [Value.ownBlock] at hj

def digB (i : Int) : ByteArray := ⟨#[UInt8.ofNat (48 + i.toNat)]⟩
def toldS (ps : List Pend) : ByteArray := ps.foldl (fun s p => s ++ p.job ++ digB p.idx) ⟨#[]⟩
theorem told_next (ps : List Pend) (p : Pend) : toldS (ps ++ [p]) = toldS ps ++ p.job ++ digB p.idx := by unfold toldS; rw [List.foldl_append]; rfl

set_option maxRecDepth 100000 in
set_option maxHeartbeats 1000000 in
theorem told_any (base : Nat) (v : Value) (ps : List Pend) (w : World) (h : w.ownsRow base 29 4 v ps.length (pcells ps)) (hp : ∀ p ∈ ps, 0 ≤ p.idx ∧ p.idx < 10 ∧ p.job.size ≤ 10) (hl : ps.length ≤ 1000) :
    Calls Try.prog 16 #[v] w fun e w' => e = .returned (.string (toldS ps)) ∧ Below w.heap.size w w' := by
  have hml : maxLen ≤ 9223372036854775807 := by decide
  obtain ⟨p, c, rfl, hc, hm⟩ := own_slice h
  have H := Lib.hid h
  have HP := Lib.hid hp
  clear h hp
  go_enter Try.func16, Try.ntmps16
  go_wp2
  go_loopw [3, 4] (fun s i wc => ∃ (k : Nat) (t : ByteArray), k ≤ ps.length ∧ i = .int .i64 (k : Int) ∧ s = .string t ∧ t.size ≤ 11 * k ∧ Hid (t = toldS (ps.take k)) ∧ Hid (Below w.heap.size w wc)) (fun _ i _ => ps.length - (intOf i).toNat)
  case atStart => exact ⟨0, ⟨#[]⟩, Nat.zero_le _, rfl, rfl, Nat.le_refl _, Lib.hid rfl, Lib.hid (Below.refl _ _)⟩
  case round =>
    obtain ⟨k, s, hk, rfl, rfl, hsz, HT, HB⟩ := hrel
    by_cases hlt : k < ps.length
    · obtain ⟨x, hxe⟩ : ∃ x, x = ps[k] := ⟨_, rfl⟩
      obtain ⟨q, cap, e, -⟩ := own_block H.out (by omega)
      simp only [Value.slice.injEq] at e
      obtain ⟨rfl, -, rfl⟩ := e
      have hcs : ∀ j u, j < 4 → (pend x)[j]? = some u → wr.cell? ⟨q, k * 4 + j, none⟩ = some u := fun j u hj hu => own_cell (own_keep H.out HB.out) (by unfold pcells; rw [flat_at pend_len ps k hlt j hj, ← hxe]; exact hu)
      have c0 : wr.cell? ⟨q, k * 4, none⟩ = some (.string x.job) := hcs 0 _ (by omega) rfl
      have c1 : wr.cell? ⟨q, k * 4 + 1, none⟩ = some (.int .i64 x.idx) := hcs 1 _ (by omega) rfl
      obtain ⟨hx0, hx1, hx2⟩ := HP.out x (by rw [hxe]; exact List.getElem_mem hlt)
      have HN : Hid (toldS (ps.take (k + 1)) = s ++ x.job ++ digB x.idx) := Lib.hid (by rw [List.take_succ_eq_append_getElem hlt, ← hxe, told_next, HT.out])
      have i1 : (k : Int) < (ps.length : Int) := by omega
      obtain ⟨n, hn⟩ : ∃ n : Nat, x.idx = (n : Int) := ⟨x.idx.toNat, by omega⟩
      rw [hn] at c1
      clear hml hc hm
      have q1 : wrap64 ((n : Int).tmod 10) = (n : Int) := by rw [Int.tmod_eq_emod_of_nonneg (by omega)]; unfold wrap64; omega
      have q1' : (n : Int).tmod 10 = (n : Int) := by rw [Int.tmod_eq_emod_of_nonneg (by omega)]; omega
      have q2 : wrap64 (48 + (n : Int)) = 48 + (n : Int) := by unfold wrap64; omega
      have q3 : (48 + (n : Int)) % 256 = 48 + (n : Int) := by omega
      have z1 : ¬ (9223372036854775807 < s.size + x.job.size) := by omega
      have z2 : ¬ (9223372036854775807 < (s ++ x.job).size + 1) := by rw [ByteArray.size_append]; omega
      have hdig : (UInt8.ofNat (48 + n)).toNat = 48 + n := by simp; omega
      have HRD : Rd ((wr.alloc (.cells #[.int .u8 (48 + (n : Int))] 5)).drew) (.slice (some ⟨wr.heap.size, 0, none⟩) 1 1) [UInt8.ofNat (48 + n)] := by
        refine ⟨some ⟨wr.heap.size, 0, none⟩, 1, rfl, Nat.le_refl _, by unfold maxLen; omega, by simp, bytes_one _, by simp, .inr ⟨wr.heap.size, 0, rfl, fun j u hj => ?_⟩⟩
        have hb := (Blk.made wr [.int .u8 (48 + (n : Int))] 5).kept (below_drewN 1)
        cases j with
        | zero =>
          simp only [List.map_cons, List.map_nil, List.getElem?_cons_zero, Option.some.injEq] at hj
          rw [← hj]
          have h9 := hb.cell (j := 0) (u := .int .u8 (48 + (n : Int))) rfl
          have h10 : (B (UInt8.ofNat (48 + n))) = .int .u8 (48 + (n : Int)) := by show Value.int .u8 _ = _; rw [hdig]; rfl
          rw [h10]
          exact h9
        | succ j => simp at hj
      have hst := run_str HRD Try.underlying68 Try.underlying5 9 Try.underlying9
      have hdb : digB x.idx = ⟨[UInt8.ofNat (48 + n)].toArray⟩ := by unfold digB; rw [hn]; rfl
      rw [hdb] at HN
      have hsn : (s ++ x.job ++ (⟨[UInt8.ofNat (48 + n)].toArray⟩ : ByteArray)).size ≤ 11 * (k + 1) := by
        rw [ByteArray.size_append, ByteArray.size_append]
        have : (⟨[UInt8.ofNat (48 + n)].toArray⟩ : ByteArray).size = 1 := rfl
        omega
      obtain ⟨dg, hdg⟩ : ∃ dg : ByteArray, dg = ⟨[UInt8.ofNat (48 + n)].toArray⟩ := ⟨_, rfl⟩
      have hds : dg.size = 1 := by rw [hdg]; rfl
      rw [← hdg] at HN hst hsn
      clear hcs hxe HRD hdb hdg hdig
      have c0' := cell_kept c0 (below_drewN 1)
      have c1' := cell_kept c1 (below_drewN 1)
      have c0a := cell_kept c0 (below_ad wr (.cells #[.int .u8 (48 + (n : Int))] 5))
      have c1a := cell_kept c1 (below_ad wr (.cells #[.int .u8 (48 + (n : Int))] 5))
      have q5 : IntKind.i64.wrap (48 + (n : Int)) = 48 + (n : Int) := by rw [IntKind.wrap_i64]; omega
      have q6 : IntKind.u8.wrap (48 + (n : Int)) = 48 + (n : Int) := by
        unfold IntKind.wrap
        simp only [IntKind.bits, IntKind.signed, Bool.false_and, Bool.false_eq_true, if_false]
        omega
      go_wp2
      go_region
      all_goals go_wp2
      all_goals exact ⟨⟨k + 1, s ++ x.job ++ dg, hlt, by go_num, rfl, hsn, Lib.hid HN.out.symm, Lib.hid (below_and HB.out (below_ad wr _))⟩, by simp [intOf]; omega⟩
    · obtain rfl : k = ps.length := by omega
      have HE : Hid (s = toldS ps) := Lib.hid (by rw [HT.out, List.take_length])
      go_wp2
      go_ret
      exact ⟨ret_val (by rw [HE.out]; rfl), HB.out⟩

def pa0 : Pend := ⟨⟨#[97]⟩, 0, ⟨#[97, 110, 110]⟩, 1⟩
def pa1 : Pend := ⟨⟨#[97]⟩, 1, ⟨#[97, 110, 110]⟩, 1⟩
def pb0 : Pend := ⟨⟨#[98]⟩, 0, ⟨#[98, 111, 98]⟩, 1⟩
def pc0 : Pend := ⟨⟨#[99]⟩, 0, ⟨#[99, 121]⟩, 2⟩
def exM1 : List MRow := [(pa0.key, [pa0])]
def exM2 : List MRow := [(pa0.key, [pa0, pa1])]
def exM3 : List MRow := [(pa0.key, [pa0, pa1]), (pb0.key, [pb0])]
def exM : List MRow := [(pc0.key, [pc0]), (pa0.key, [pa0, pa1]), (pb0.key, [pb0])]
theorem ex1 : putE [] pa0 = 0 ∧ putS [] pa0 = exM1 := ⟨by kernel_rfl, by kernel_rfl⟩
theorem ex2 : putE exM1 pa1 = 0 ∧ putS exM1 pa1 = exM2 := ⟨by kernel_rfl, by kernel_rfl⟩
theorem ex3 : putE exM2 pb0 = 0 ∧ putS exM2 pb0 = exM3 := ⟨by kernel_rfl, by kernel_rfl⟩
theorem ex4 : putE exM3 pc0 = 0 ∧ putS exM3 pc0 = exM := ⟨by kernel_rfl, by kernel_rfl⟩
theorem exAll : allM exM = [pc0, pa0, pb0, pa1] := by kernel_rfl
theorem exTold : toldS [pc0, pa0, pb0, pa1] = ⟨#[99, 48, 97, 48, 98, 48, 97, 49]⟩ := by kernel_rfl

/-- a call on a queue, behind others -/
theorem Qm.next {w0 w w' : World} {b : Nat} {N : Int} {M : List MRow} (hb : Below w0.heap.size w0 w) (h : Qm w' b (fun k => (fun k => w0.heap.size ≤ k) k ∨ w.heap.size ≤ k) N M) : Qm w' b (fun k => w0.heap.size ≤ k) N M :=
  h.mono (fun k hk _ => hk.elim id (fun h => Nat.le_trans hb.size h))
theorem Frp.next {w0 w w' : World} (hb : Below w0.heap.size w0 w) (h : Frp (fun k => w0.heap.size ≤ k) w w') : Below w0.heap.size w0 w' := hb.trans (h.below (fun _ h => h) hb.size)

set_option maxRecDepth 100000 in
set_option maxHeartbeats 1000000 in
theorem example_any (w : World) :
    Calls Try.prog 13 #[] w fun e w' => ∃ b, e = .returned (ptr b) ∧ w.heap.size ≤ b ∧ Qm w' b (fun k => w.heap.size ≤ k) 4 exM ∧ Below w.heap.size w w' := by
  go_enter Try.func13, Try.ntmps13
  go_upto_region 3 with (first
    | (go_at_call 9; refine (qnew_any _).mono ?_; rintro e w1 ⟨rfl, hq, hb⟩; have HQ1 := Lib.hid hq; have HB1 := Lib.hid hb; clear hq hb)
    | (go_at_call 15; refine (p_any _ _ _ _ _).mono ?_; rintro e w2 ⟨rfl, hb⟩; have HQ2 := Lib.hid (HQ1.out.kept hb); have HB2 := Lib.hid (below_and HB1.out hb); clear hb)
    | (go_at_call 10; refine (qput_any w.heap.size _ 0 [] pa0 _ HQ2.out (by decide) (by decide)).mono ?_; rw [ex1.1, ex1.2]; rintro e w3 ⟨rfl, hq, hf⟩; have HQ3 := Lib.hid (hq.next HB2.out); have HB3 := Lib.hid (hf.next HB2.out); clear hq hf))
  go_upto_region 4 with (first
    | (go_at_call 15; refine (p_any _ _ _ _ _).mono ?_; rintro e w4 ⟨rfl, hb⟩; have HQ4 := Lib.hid (HQ3.out.kept hb); have HB4 := Lib.hid (below_and HB3.out hb); clear hb)
    | (go_at_call 10; refine (qput_any w.heap.size _ _ _ pa1 _ HQ4.out (by decide) (by decide)).mono ?_; rw [ex2.1, ex2.2]; rintro e w5 ⟨rfl, hq, hf⟩; have HQ5 := Lib.hid (hq.next HB4.out); have HB5 := Lib.hid (hf.next HB4.out); clear hq hf))
  go_upto_region 5 with (first
    | (go_at_call 15; refine (p_any _ _ _ _ _).mono ?_; rintro e w6 ⟨rfl, hb⟩; have HQ6 := Lib.hid (HQ5.out.kept hb); have HB6 := Lib.hid (below_and HB5.out hb); clear hb)
    | (go_at_call 10; refine (qput_any w.heap.size _ _ _ pb0 _ HQ6.out (by decide) (by decide)).mono ?_; rw [ex3.1, ex3.2]; rintro e w7 ⟨rfl, hq, hf⟩; have HQ7 := Lib.hid (hq.next HB6.out); have HB7 := Lib.hid (hf.next HB6.out); clear hq hf))
  go_wp2_with (first
    | (go_at_call 15; refine (p_any _ _ _ _ _).mono ?_; rintro e w8 ⟨rfl, hb⟩; have HQ8 := Lib.hid (HQ7.out.kept hb); have HB8 := Lib.hid (below_and HB7.out hb); clear hb)
    | (go_at_call 10; refine (qput_any w.heap.size _ _ _ pc0 _ HQ8.out (by decide) (by decide)).mono ?_; rw [ex4.1, ex4.2]; rintro e w9 ⟨rfl, hq, hf⟩; have HQ9 := Lib.hid (hq.next HB8.out); have HB9 := Lib.hid (hf.next HB8.out); clear hq hf))
  go_ret
  exact ⟨w.heap.size, rfl, Nat.le_refl _, HQ9.out, HB9.out⟩

set_option maxRecDepth 100000 in
set_option maxHeartbeats 1000000 in
theorem qlives (w : World) :
    Calls Try.prog 8 #[] w fun e w' => e = .returned (.bool true) ∧ Below w.heap.size w w' := by
  have tq : ((toldS [pc0, pa0, pb0, pa1]).toList == [99, 48, 97, 48, 98, 48, 97, 49]) = true := by rw [exTold]; kernel_rfl
  obtain ⟨ts, hts⟩ : ∃ ts, ts = toldS [pc0, pa0, pb0, pa1] := ⟨_, rfl⟩
  rw [← hts] at tq
  have HTS := Lib.hid hts
  clear hts
  go_enter Try.func8, Try.ntmps8
  go_wp2_with (first
    | (go_at_call 13; refine (example_any _).mono ?_; rintro e w1 ⟨b, rfl, hb1, hq, hb⟩; have HQ1 := Lib.hid hq; have HB1 := Lib.hid hb; clear hq hb)
    | (go_at_call 11; refine (all_any b _ 4 exM _ HQ1.out (by decide) (by decide)).mono ?_; rw [exAll]; rintro e w2 ⟨o, rfl, ho, hb⟩; have HO2 := Lib.hid ho; have HB2 := Lib.hid (below_and HB1.out hb); clear ho hb)
    | (go_at_call 16; refine (told_any _ _ [pc0, pa0, pb0, pa1] _ HO2.out (by decide) (by decide)).mono ?_; rw [← HTS.out]; rintro e w3 ⟨rfl, hb⟩; have HB3 := Lib.hid (below_and HB2.out hb); clear hb)
    | (go_at_call 19; refine (qlen_any b _ 4 exM _ HQ1.out (by decide)).mono ?_; rintro e w5 ⟨rfl, rfl⟩))
  go_ret
  exact ⟨rfl, below_and HB3.out HB1.out⟩
end Go.Proofs.Ytlemfbgmhjklaaa
