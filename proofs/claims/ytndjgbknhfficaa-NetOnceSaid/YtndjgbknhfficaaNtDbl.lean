/- Lose, Double (written by gennet.py). -/
import Derived.Test.YtndjgbknhfficaaNtFind
namespace Go.Proofs.Ytndjgbknhfficaa.Nt
open Go.RowKit Go.Proofs.Ytndjgbknhfficaa Go.Proofs.Ytndjgbknhfficaa.So

set_option maxRecDepth 100000 in
set_option maxHeartbeats 2000000 in
theorem lose_no {w : World} {b mb : Nat} {last : Int} {E : List En} (n : Int) (h : PNet w b mb last E) (hw : (Lit.int .u64 n).wf = true) (hg : eget E n = none) :
    Calls Try.prog 14 #[ptr b, .int .u64 n] w fun e w' => e = .returned (.int .i64 6) ∧ Below w.heap.size w w' := by
  have H := Lib.hid (deliver_no n h hw hg)
  clear h hw hg
  go_enter Try.func14, Try.ntmps14
  go_wp2_with (go_at_call 11; refine H.out.mono ?_; rintro e w2 ⟨rfl, hb⟩; have HB := Lib.hid hb; clear hb H)
  go_ret
  exact ⟨rfl, below_and HB.out (below_alloc _ _)⟩
set_option maxRecDepth 100000 in
set_option maxHeartbeats 2000000 in
theorem lose_yes {w : World} {b mb : Nat} {last : Int} {E : List En} (n : Int) (x : En) (h : PNet w b mb last E) (hw : (Lit.int .u64 n).wf = true) (hg : eget E n = some x) :
    Calls Try.prog 14 #[ptr b, .int .u64 n] w fun e w' => e = .returned (.int .i64 0) ∧ PNet w' b mb last (edel E n) ∧ Frp (NP b mb) w w' := by
  have H := Lib.hid (deliver_yes n x h hw hg)
  obtain ⟨p, c, hv, -, -⟩ := own_slice (h.own x (eget_mem hg).1)
  obtain ⟨len, hlen⟩ : ∃ len, len = x.l.bd.length := ⟨_, rfl⟩
  rw [hv, ← hlen] at H
  clear h hw hg hv hlen
  go_enter Try.func14, Try.ntmps14
  go_wp2_with (go_at_call 11; refine H.out.mono ?_; rintro e w2 ⟨rfl, hp, hf⟩; have HP := Lib.hid hp; have HF := Lib.hid hf; clear hp hf H)
  go_ret
  exact ⟨rfl, HP.out.kept (below_alloc _ _), HF.out.next (below_alloc _ _)⟩
set_option maxRecDepth 100000 in
set_option maxHeartbeats 2000000 in
theorem double_no {w : World} {b mb : Nat} {last : Int} {E : List En} (n : Int) (h : PNet w b mb last E) (hw : (Lit.int .u64 n).wf = true) (hg : eget E n = none) :
    Calls Try.prog 10 #[ptr b, .int .u64 n] w fun e w' => e = .returned (.tuple #[.int .u64 0, .int .i64 6]) ∧ Below w.heap.size w w' := by
  have H := Lib.hid (find_no n h hw hg)
  clear h hw hg
  go_enter Try.func10, Try.ntmps10
  go_wp2_with (go_at_call 35; refine H.out.mono ?_; rintro e w2 ⟨rfl, hb⟩; have HB := Lib.hid hb; clear hb H)
  go_ret2
  exact ⟨rfl, below_and HB.out (below_alloc _ _)⟩
set_option maxRecDepth 100000 in
set_option maxHeartbeats 2000000 in
theorem double_yes {w : World} {b mb : Nat} {last : Int} {E : List En} {k : Nat} (n : Int) (x : En) (h : PNet w b mb last E) (hi : NI last E k) (hk : k ≤ 4000) (hw : (Lit.int .u64 n).wf = true) (hg : eget E n = some x) (hbd : x.l.bd.length ≤ 100000) :
    Calls Try.prog 10 #[ptr b, .int .u64 n] w fun e w' => e = .returned (.tuple #[.int .u64 (last + 1), .int .i64 0]) ∧ ∃ v', PNet w' b mb (last + 1) (E ++ [⟨⟨last + 1, x.l.fi, x.l.sd, x.l.rc, x.l.bd⟩, v'⟩]) ∧ Frp (NP b mb) w w' := by
  have HF := Lib.hid (find_yes n x h hw hg)
  have hme := (eget_mem hg).1
  have hfi := hi.fi x hme
  have hox := h.own x hme
  obtain ⟨p, c, hv, -, -⟩ := own_slice hox
  obtain ⟨len, hlen⟩ : ∃ len, len = x.l.bd.length := ⟨_, rfl⟩
  rw [hv, ← hlen] at HF
  rw [hv] at hox
  have HRD : Hid (Rd w (.slice p x.l.bd.length c) x.l.bd) := Lib.hid (Fresh.rd (base := 0) hox)
  have HCL := Lib.hid (fun (w' : World) (hb : Below w.heap.size w w') => clone_any (.slice p x.l.bd.length c) x.l.bd w' (HRD.out.below hb) (by unfold Room; omega))
  rw [← hlen] at HCL
  have HPU := Lib.hid (fun (w' : World) (v' : Value) (h1 : PNet w' b mb last E) (h2 : w'.ownsRow 0 5 1 v' x.l.bd.length (x.l.bd.map B)) => put_any x.l.no x.l.fi x.l.fi x.l.sd x.l.rc x.l.bd v' h1 hi hk (by rw [if_neg (by omega)]) h2)
  simp only [ltV] at HPU
  have HLN := Lib.hid hlen
  have H := Lib.hid h
  clear h hi hw hg hme hfi hox hv hlen hbd
  go_enter Try.func10, Try.ntmps10
  go_upto_region 2 with (go_at_call 35; refine HF.out.mono ?_; rintro e w2 ⟨rfl, hb⟩; have HB2 := Lib.hid hb; have H2 := Lib.hid (H.out.kept hb); clear hb HF)
  obtain ⟨w3, hw3⟩ : ∃ w3, w3 = w2.alloc (.cells #[.int .u64 x.l.no, .int .u64 x.l.fi, .int .i64 x.l.sd, .int .i64 x.l.rc, .slice p len c] 32) := ⟨_, rfl⟩
  obtain ⟨K, hK⟩ : ∃ K, K = w2.heap.size := ⟨_, rfl⟩
  have HB3 : Hid (Below w.heap.size w w3) := Lib.hid (by rw [hw3]; exact below_and HB2.out (below_alloc _ _))
  have HK3 : Hid (Blk w3 K [.int .u64 x.l.no, .int .u64 x.l.fi, .int .i64 x.l.sd, .int .i64 x.l.rc, .slice p len c] 32) := Lib.hid (by rw [hw3, hK]; exact Blk.made w2 [.int .u64 x.l.no, .int .u64 x.l.fi, .int .i64 x.l.sd, .int .i64 x.l.rc, .slice p len c] 32)
  have H3 : Hid (PNet w3 b mb last E) := Lib.hid (by rw [hw3]; exact H2.out.kept (below_alloc _ _))
  have HKW : Hid (w.heap.size ≤ K) := Lib.hid (by rw [hK]; exact HB2.out.size)
  rw [← hw3, ← hK]
  clear hw3 hK H2 HB2
  have x0 := HK3.out.cell (j := 0) rfl
  have x1 := HK3.out.cell (j := 1) rfl
  have x2 := HK3.out.cell (j := 2) rfl
  have x3 := HK3.out.cell (j := 3) rfl
  have x4 := HK3.out.cell (j := 4) rfl
  go_upto_region 5 with (go_at_call 34; refine (HCL.out _ HB3.out).mono ?_; rintro e w4 ⟨v', rfl, ho, hb⟩; obtain ⟨p9, c9, rfl, -, -⟩ := own_slice ho; have HO4 := Lib.hid (So.row_low ho (Nat.zero_le _)); have H4 := Lib.hid (H3.out.kept hb); have HB4 := Lib.hid (below_and HB3.out hb); have HK4 := Lib.hid (HK3.out.kept hb); have z4 := HK4.out.cell (j := 4) rfl; have g4 := HK4.out.free 4; clear ho hb)
  obtain ⟨w5, hw5⟩ : ∃ w5, w5 = w4.setCell ⟨K, 4, none⟩ (.slice p9 x.l.bd.length c9) := ⟨_, rfl⟩
  have hf5 : Frp (fun q => q = K) w4 w5 := by rw [hw5]; exact (Frp.refl (fun q => q = K) w4).set (p := ⟨K, 4, none⟩) rfl _
  have HK5 : Hid (Blk w5 K [.int .u64 x.l.no, .int .u64 x.l.fi, .int .i64 x.l.sd, .int .i64 x.l.rc, .slice p9 x.l.bd.length c9] 32) := Lib.hid (by rw [hw5]; exact HK4.out.set 4 _)
  have H5 : Hid (PNet w5 b mb last E) := Lib.hid (H4.out.frp hf5 (fun e => by subst e; exact absurd (blk_ty H4.out.blk HK4.out) (by decide)) (fun e => by subst e; exact blk_nmap HK4.out H4.out.map) (fun e he q hq hqg => by subst hqg; exact own_ty (H4.out.own e he) HK4.out (by decide) hq))
  have HO5 : Hid (w5.ownsRow 0 5 1 (.slice p9 x.l.bd.length c9) x.l.bd.length (x.l.bd.map B)) := Lib.hid (own_frp HO4.out hf5 (fun q hq hqg => by subst hqg; exact own_ty HO4.out HK4.out (by decide) hq))
  have HF5 : Hid (Frp (NP b mb) w w5) := Lib.hid ((Frp.of_below HB4.out (NP b mb)).trans hf5 (fun q hq => by subst hq; exact .inr HKW.out))
  rw [← hw5]
  clear hw5 hf5 x0 x1 x2 x3 x4 z4 g4 H4 HO4 HK4 H3 HB3 HK3
  have x0 := HK5.out.cell (j := 0) rfl
  have x1 := HK5.out.cell (j := 1) rfl
  have x2 := HK5.out.cell (j := 2) rfl
  have x3 := HK5.out.cell (j := 3) rfl
  have x4 := HK5.out.cell (j := 4) rfl
  have HP5 := Lib.hid (HPU.out w5 _ H5.out HO5.out)
  go_wp2_with (go_at_call 33; refine HP5.out.mono ?_; rintro e w6 ⟨rfl, hp, hf⟩; have HP := Lib.hid hp; have HF := Lib.hid hf; clear hp hf HP5)
  go_ret2
  exact ⟨rfl, _, HP.out, HF5.out.then HF.out⟩
end Go.Proofs.Ytndjgbknhfficaa.Nt
