/- NtFlight. -/
import Derived.Test.YtndjgbknhfficaaNtNum
import Derived.Test.YtndjgbknhfficaaRw
namespace Go.Proofs.Ytndjgbknhfficaa.Nt
open Go.RowKit Go.Proofs.Ytndjgbknhfficaa Go.Proofs.Ytndjgbknhfficaa.So

def enC (e : En) : List Value := ltC e.l e.v
theorem info_lt : (Try.prog.info? 32).map (fun i => (i.zero, i.size, i.bytes)) = some (some zeV, 5, 56) := by kernel_rfl
/-- a list of letters of one's own: the row, and each one's bytes -/
structure Lts (w : World) (base : Nat) (v : Value) (L : List En) : Prop where
  row : w.ownsRow base 32 5 v L.length (rwC enC L)
  own : ∀ e ∈ L, w.ownsRow base 5 1 e.v e.l.bd.length (e.l.bd.map B)
theorem Lts.kept {w w' : World} {base : Nat} {v : Value} {L : List En} (h : Lts w base v L) (hb : Below w.heap.size w w') : Lts w' base v L := ⟨own_fr h.row (Fr.of_below hb []) (fun _ _ => by simp), fun e he => own_fr (h.own e he) (Fr.of_below hb []) (fun _ _ => by simp)⟩
theorem Lts.low {w : World} {a base : Nat} {v : Value} {L : List En} (h : Lts w base v L) (hab : a ≤ base) : Lts w a v L := ⟨So.row_low h.row hab, fun e he => So.row_low (h.own e he) hab⟩
theorem Lts.set {w : World} {base : Nat} {v : Value} {L : List En} (h : Lts w base v L) {g : Nat} {C : List Value} (hg : Blk w g C 32) (hr : v.ownBlock ≠ some g) (j : Nat) (u : Value) : Lts (w.setCell ⟨g, j, none⟩ u) base v L := by
  have hf : Frp (fun q => q = g) w (w.setCell ⟨g, j, none⟩ u) := (Frp.refl (fun q => q = g) w).set (p := ⟨g, j, none⟩) rfl _
  exact ⟨own_frp h.row hf (fun q hq hqg => by subst hqg; exact hr hq), fun e he => own_frp (h.own e he) hf (fun q hq hqg => by subst hqg; exact own_ty (h.own e he) hg (by decide) hq)⟩
theorem Lts.nil (w : World) (base : Nat) : Lts w base (.slice none 0 0) [] := ⟨⟨rfl, .inl ⟨rfl, rfl⟩⟩, fun e he => by cases he⟩
theorem Lts.add {w w' : World} {base n : Nat} {v v' : Value} {L : List En} {e : En} (h : Lts w base v L) (hg : w.grownBy w' v.ownBlock) (hr : w'.ownsRow base 32 5 v' (L.length + 1) (rwC enC L ++ enC e)) (he : w.ownsRow base 5 1 e.v e.l.bd.length (e.l.bd.map B)) (hn : n = L.length) : Lts w' base v' (L ++ [e]) := by
  have hk : ∀ {u : Value} {m : Nat} {xs : List Value}, w.ownsRow base 5 1 u m xs → w'.ownsRow base 5 1 u m xs := fun hu => own_fr hu (Fr.of_grown hg) (fun q hq hm => own_own hu h.row (by decide) hq (Option.mem_toList.1 hm))
  refine ⟨?_, fun x hx => ?_⟩
  · rw [List.length_append]
    have : rwC enC (L ++ [e]) = rwC enC L ++ enC e := by rw [rwC_append]; simp [rwC]
    rw [this]
    exact hr
  · rcases List.mem_append.1 hx with hx | hx
    · exact hk (h.own x hx)
    · simp at hx
      subst hx
      exact hk he
/-- the loop's state -/
structure FlW (wk wr : World) (p : Option Addr) (q c i : Nat) (E Ls : List En) : Prop where
  l : Lts wr wk.heap.size (.slice p q c) Ls
  q : q = Ls.length
  e : Ls.map (·.l) = (E.take i).map (·.l)
  b : Below wk.heap.size wk wr

set_option maxRecDepth 100000 in
set_option maxHeartbeats 6000000 in
theorem flight_any {w : World} {b mb : Nat} {last : Int} {E : List En} {k : Nat} (h : PNet w b mb last E) (hi : NI last E k) (hk : k ≤ 4000) (hbd : ∀ e ∈ E, e.l.bd.length ≤ 100000) :
    Calls Try.prog 30 #[ptr b] w fun e w' => ∃ v Ls, e = .returned v ∧ Ls.map (·.l) = E.map (·.l) ∧ Lts w' w.heap.size v Ls ∧ Below w.heap.size w w' := by
  obtain ⟨i0, hi0, hz0, hz1, hz2⟩ := info_parts info_lt
  have hna := numall_any h hi hk
  have hel : E.length ≤ 4000 := by have := hi.len; omega
  have hpa : pick allP E = nos E := by unfold pick; have h0 : E.filter allP = E := List.filter_eq_self.2 (fun _ _ => rfl); rw [h0]
  rw [hpa] at hna
  obtain ⟨n, hn⟩ : ∃ n, n = E.length := ⟨_, rfl⟩
  have hnl : (nos E).length = n := by unfold nos; rw [List.length_map, hn]
  rw [hnl] at hna
  rw [← hn] at hel
  have HNA := Lib.hid hna
  have HN := Lib.hid hn
  have H := Lib.hid h
  have HI := Lib.hid hi
  have HBD := Lib.hid hbd
  clear h hi hbd hna hpa hnl hn
  go_enter Try.func30, Try.ntmps30
  go_upto_region 3 with (go_at_call 36; refine HNA.out.mono ?_; rintro e wk ⟨vk, rfl, ho, hb⟩; have HOK := Lib.hid ho; have HBK := Lib.hid hb; obtain ⟨pk, ck, rfl, -, -⟩ := own_slice ho; clear ho hb HNA)
  go_loopw [3, 10] (fun vo vi wr => ∃ (i : Nat) (p : Option Addr) (q c : Nat), vo = .slice p q c ∧ vi = .int .i64 i ∧ i ≤ n ∧ Hid (∃ Ls, FlW wk wr p q c i E Ls)) (fun _ vi _ => n - (So.intOf vi).toNat)
  case atStart => exact ⟨0, none, 0, 0, rfl, by go_num, Nat.zero_le _, ⟨[], Lts.nil _ _, rfl, by simp, Below.refl _ _⟩⟩
  case round =>
    obtain ⟨i, p, q, c, rfl, rfl, hin, HR⟩ := hrel
    by_cases hlt : i < n
    rotate_left
    · have h9 : i = n := by omega
      subst h9
      go_wp2
      go_ret
      obtain ⟨Ls, hf⟩ := HR.out
      have e9 : E.take i = E := by rw [HN.out, List.take_length]
      have h4 := hf.e
      rw [e9] at h4
      exact ⟨_, Ls, rfl, h4, hf.l.low HBK.out.size, below_and HBK.out hf.b⟩
    obtain ⟨Ls, hfl⟩ := HR.out
    have HFL := Lib.hid hfl
    clear hfl HR
    have HKE : Hid (i < E.length) := Lib.hid (by have := HN.out; omega)
    obtain ⟨e, he⟩ : ∃ e, e = E[i]'HKE.out := ⟨_, rfl⟩
    have hme : e ∈ E := by rw [he]; exact List.getElem_mem _
    have HGE : Hid (eget E e.l.no = some e) := Lib.hid (by rw [he]; exact eget_at HI.out.rise HKE.out)
    have HTK : Hid ((E.take (i + 1)).map (·.l) = (E.take i).map (·.l) ++ [e.l]) := Lib.hid (by rw [List.take_succ_eq_append_getElem HKE.out, List.map_append, he]; rfl)
    have hbr : Below wk.heap.size wk wr := HFL.out.b
    have hokr : wr.ownsRow w.heap.size 25 1 (.slice pk n ck) n ((nos E).map So.encU) := own_fr HOK.out (Fr.of_below hbr []) (fun _ _ => by simp)
    obtain ⟨g, rfl⟩ := own_some hokr (by omega)
    have ck1 : wr.cell? ⟨g, i, none⟩ = some (.int .u64 e.l.no) := own_cell hokr (j := i) (by rw [List.getElem?_map]; unfold nos; rw [List.getElem?_map, List.getElem?_eq_getElem HKE.out, ← he]; rfl)
    have Hr := Lib.hid ((H.out.kept HBK.out).kept hbr)
    obtain ⟨pe, ce, hve, -, -⟩ := own_slice (Hr.out.own e hme)
    have HWF := Lib.hid (HI.out.wf (by omega) hme)
    have HGT : Hid ((nM E).get e.l.no = some (ltV e.l (.slice pe e.l.bd.length ce))) := Lib.hid (by rw [nM_get, HGE.out, ← hve]; rfl)
    have hrd : Rd wr (.slice pe e.l.bd.length ce) e.l.bd := by rw [← hve]; exact Fresh.rd (base := 0) (Hr.out.own e hme)
    have HRD := Lib.hid hrd
    have HCL := Lib.hid (fun (w' : World) (hb : Below wr.heap.size wr w') => clone_any (.slice pe e.l.bd.length ce) e.l.bd w' (HRD.out.below hb) (by have := HBD.out e hme; unfold Room; omega))
    obtain ⟨le, hle⟩ : ∃ le, le = e.l.bd.length := ⟨_, rfl⟩
    have HLE := Lib.hid hle
    rw [← hle] at HGT HCL
    have c0 := Hr.out.blk.cell (j := 0) rfl
    clear he hme hbr hokr hve hle hrd
    go_upto_region 6 with (at_lookup; refine wpList_nlook _ rfl _ _ _ rfl 25 32 Try.underlying25 Try.underlying57 (lzero _) mb (nM E) rfl Hr.out.map e.l.no rfl HWF.out ?_; rw [HGT.out]; simp only [Option.getD_some])
    obtain ⟨K, hK⟩ : ∃ K, K = wr.heap.size := ⟨_, rfl⟩
    obtain ⟨w3, hw3⟩ : ∃ w3, w3 = wr.alloc (.cells #[.int .u64 e.l.no, .int .u64 e.l.fi, .int .i64 e.l.sd, .int .i64 e.l.rc, .slice pe le ce] 32) := ⟨_, rfl⟩
    have HK3 : Hid (Blk w3 K [.int .u64 e.l.no, .int .u64 e.l.fi, .int .i64 e.l.sd, .int .i64 e.l.rc, .slice pe le ce] 32) := Lib.hid (by rw [hw3, hK]; exact Blk.made wr [.int .u64 e.l.no, .int .u64 e.l.fi, .int .i64 e.l.sd, .int .i64 e.l.rc, .slice pe le ce] _)
    have HB3 : Hid (Below wr.heap.size wr w3) := Lib.hid (by rw [hw3]; exact below_alloc _ _)
    have HKR : Hid (K = wr.heap.size) := Lib.hid hK
    rw [← hw3, ← hK]
    clear hw3 hK c0 ck1
    have x0 := HK3.out.cell (j := 0) rfl
    have x1 := HK3.out.cell (j := 1) rfl
    have x2 := HK3.out.cell (j := 2) rfl
    have x3 := HK3.out.cell (j := 3) rfl
    have x4 := HK3.out.cell (j := 4) rfl
    go_upto_region 7 with (go_at_call 34; refine (HCL.out _ HB3.out).mono ?_; rintro e4 w4 ⟨v', rfl, ho, hb⟩; obtain ⟨p9, c9, rfl, -, -⟩ := own_slice ho; have HO4 := Lib.hid ho; have HB4 := Lib.hid (below_and HB3.out hb); have HK4 := Lib.hid (HK3.out.kept hb); have z4 := HK4.out.cell (j := 4) rfl; have g4 := HK4.out.free 4; clear ho hb)
    obtain ⟨w5, hw5⟩ : ∃ w5, w5 = w4.setCell ⟨K, 4, none⟩ (.slice p9 e.l.bd.length c9) := ⟨_, rfl⟩
    have HK5 : Hid (Blk w5 K [.int .u64 e.l.no, .int .u64 e.l.fi, .int .i64 e.l.sd, .int .i64 e.l.rc, .slice p9 e.l.bd.length c9] 32) := Lib.hid (by rw [hw5]; exact HK4.out.set 4 _)
    have HL5 : Hid (Lts w5 wk.heap.size (.slice p q c) Ls) := Lib.hid (by rw [hw5]; exact (HFL.out.l.kept HB4.out).set HK4.out (fun hh => by have h9 := own_hi HFL.out.l.row hh; have := HKR.out; omega) 4 _)
    have HO5 : Hid (w5.ownsRow wk.heap.size 5 1 (.slice p9 e.l.bd.length c9) e.l.bd.length (e.l.bd.map B)) := Lib.hid (by rw [hw5]; exact So.row_low (own_frp HO4.out ((Frp.refl (fun z => z = K) w4).set (p := ⟨K, 4, none⟩) rfl _) (fun z hz hzg => by subst hzg; exact own_ty HO4.out HK4.out (by decide) hz)) (Nat.le_trans HFL.out.b.size HB3.out.size))
    have HB5 : Hid (Below wk.heap.size wk w5) := Lib.hid (by rw [hw5]; exact (HFL.out.b.trans (HB4.out.mono HFL.out.b.size)).setCell (by have h8 := HFL.out.b.size; have h9 := HKR.out; simp; omega) _)
    rw [← hw5]
    clear hw5 x0 x1 x2 x3 x4 z4 g4 HK4 HO4 HK3
    have x0 := HK5.out.cell (j := 0) rfl
    have x1 := HK5.out.cell (j := 1) rfl
    have x2 := HK5.out.cell (j := 2) rfl
    have x3 := HK5.out.cell (j := 3) rfl
    have x4 := HK5.out.cell (j := 4) rfl
    have HS5 := Lib.hid (src_block Try.underlying40 _ w5.heap.size #[.int .u64 e.l.no, .int .u64 e.l.fi, .int .i64 e.l.sd, .int .i64 e.l.rc, .slice p9 e.l.bd.length c9] (Blk.made w5 [.int .u64 e.l.no, .int .u64 e.l.fi, .int .i64 e.l.sd, .int .i64 e.l.rc, .slice p9 e.l.bd.length c9] 32) rfl (by simp [Value.oneCell']))
    have HR5 : Hid ((w5.alloc (.cells #[.int .u64 e.l.no, .int .u64 e.l.fi, .int .i64 e.l.sd, .int .i64 e.l.rc, .slice p9 e.l.bd.length c9] 32)).ownsRow wk.heap.size 32 5 (.slice p q c) q (rwC enC Ls)) := Lib.hid (by rw [HFL.out.q]; have h8 := (HL5.out.kept (below_alloc w5 (.cells #[.int .u64 e.l.no, .int .u64 e.l.fi, .int .i64 e.l.sd, .int .i64 e.l.rc, .slice p9 e.l.bd.length c9] 32))).row; rw [HFL.out.q] at h8; exact h8)
    have HQI : Hid (q = i) := Lib.hid (by have h8 := congrArg List.length HFL.out.e; rw [List.length_map, List.length_map, List.length_take] at h8; have h9 := HFL.out.q; have h7 := HKE.out; omega)
    have hq4 : q ≤ 4000 := by have := HQI.out; omega
    go_wp2_with (at_builtin; refine wpList_app _ rfl _ _ 40 40 rfl wk.heap.size 32 i0 zeV 5 56 Try.underlying40 hi0 hz0 hz1 hz2 rfl _ q _ rfl HR5.out _ 1 _ rfl HS5.out (by unfold maxLen; omega) (by omega) (by have := HB5.out.size; simp; omega) ?_; intro v6 w6 ho6 hg6 _; obtain ⟨p6, c6, rfl, -, -⟩ := own_slice ho6; have HO6 := Lib.hid ho6; have HG6 := Lib.hid hg6; clear ho6 hg6)
    go_roundw
    case rel =>
      refine ⟨i + 1, p6, q + 1, c6, rfl, by go_num, by omega, ⟨Ls ++ [⟨e.l, .slice p9 e.l.bd.length c9⟩], ?_, ?_, ?_, ?_⟩⟩
      · have h6 := HO6.out
        rw [show q + 1 = Ls.length + 1 by rw [HFL.out.q]] at h6 ⊢
        have hq9 := HFL.out.q
        refine Lts.add (e := ⟨e.l, .slice p9 e.l.bd.length c9⟩) (HL5.out.kept (below_alloc w5 (.cells #[.int .u64 e.l.no, .int .u64 e.l.fi, .int .i64 e.l.sd, .int .i64 e.l.rc, .slice p9 e.l.bd.length c9] 32))) HG6.out h6 (own_fr HO5.out (Fr.of_below (below_alloc w5 _) []) (fun _ _ => by simp)) rfl
      · rw [List.length_append, HFL.out.q]
        rfl
      · rw [List.map_append, HFL.out.e, HTK.out]
        rfl
      · exact (HB5.out.trans ((below_alloc w5 _).mono HB5.out.size)).trans ((Fr.of_grown HG6.out).below (by intro y hy; exact own_lo HR5.out (Option.mem_toList.1 hy)) (by have := HB5.out.size; simp; omega))
    case measure => first | (simp [So.intOf]; done) | (simp [So.intOf]; omega)
end Go.Proofs.Ytndjgbknhfficaa.Nt
