/- The program's disk: find, left, step. -/
import Derived.Test.YtgcemddobcjpnaaDk1
import Derived.Test.YtgcemddobcjpnaaDkInv
import Derived.Lib.SliceRun
import Derived.Shelf.Abstract
namespace Go.Proofs.Ytgcemddobcjpnaa
open Go.RowKit

theorem zero_run {P : Program} {t : TypeId} {z : Value} (h : (P.info? t).bind (·.zero) = some z) (w : World) : (zeroValue t).run P w = .ok z w := by
  cases hi : P.info? t with
  | none => rw [hi] at h; cases h
  | some i =>
    rw [hi] at h
    have hz : i.zero = some z := h
    simp [zeroValue, typeInfo, hi, hz, Result.andThen]
theorem fzero (w : World) : (zeroValue 66).run Try.prog w = .ok (.pointer none) w := zero_run (by kernel_rfl) w
theorem row1 (w : World) (s : ByteArray) (t : TypeId) : Row (w.alloc (.cells #[.string s] t)) (.slice (some ⟨w.heap.size, 0, none⟩) 1 1) 1 [s].length ([s].map Value.string) :=
  ⟨_, 1, rfl, Nat.le_refl _, by simp [maxLen], by simp, by simp [Value.oneCell'], by simp, .inr ⟨w.heap.size, 0, rfl, fun j u hj => by
    match j, hj with
    | 0, hj =>
      simp at hj
      subst hj
      exact (Blk.made w [.string s] t).cell (j := 0) rfl
    | j + 1, hj => simp at hj⟩⟩
theorem row2 (w : World) (s r : ByteArray) (t : TypeId) : Row (w.alloc (.cells #[.string s, .string r] t)) (.slice (some ⟨w.heap.size, 0, none⟩) 2 2) 1 [s, r].length ([s, r].map Value.string) :=
  ⟨_, 2, rfl, Nat.le_refl _, by simp [maxLen], by simp, by simp [Value.oneCell'], by simp, .inr ⟨w.heap.size, 0, rfl, fun j u hj => by
    match j, hj with
    | 0, hj =>
      simp at hj
      subst hj
      exact (Blk.made w [.string s, .string r] t).cell (j := 0) rfl
    | 1, hj =>
      simp at hj
      subst hj
      exact (Blk.made w [.string s, .string r] t).cell (j := 1) rfl
    | j + 2, hj => simp at hj⟩⟩
theorem kget_some {L : List Pf} {s : List UInt8} {p : Pf} (h : kfnd Pf.key L s = some p) : (kM Pf.key Pf.val L).get s = some (ptr p.a) ∧ (kM Pf.key Pf.val L).hasK s = true := by rw [kM_get, kM_has, h]; exact ⟨rfl, rfl⟩
theorem kget_none {L : List Pf} {s : List UInt8} (h : kfnd Pf.key L s = none) : (kM Pf.key Pf.val L).get s = none ∧ (kM Pf.key Pf.val L).hasK s = false := by rw [kM_get, kM_has, h]; exact ⟨rfl, rfl⟩

theorem ask0 (b mb : Nat) (D : Dk) (L : List Pf) (l : List ByteArray) (v : Value) (w : World) (h : PDk w b mb D L) (hv : Row w v 1 l.length (l.map Value.string)) (hl : ∀ s ∈ l, s.size ≤ maxLen) (ha : D.ask l = 0) :
    Calls Try.prog 33 #[ptr b, v] w fun e w' => e = .returned (.int .i64 0) ∧ Below w.heap.size w w' :=
  (asked_any b mb D L l v w h hv hl).mono fun _ _ ⟨h1, h2⟩ => ⟨by rw [h1, ha], h2⟩
section
variable (b mb : Nat) (D : Dk) (L : List Pf) (s : ByteArray) (w : World) (h : PDk w b mb D L) (hs : s.size ≤ maxLen)
include h hs
set_option maxRecDepth 100000 in
set_option maxHeartbeats 1000000 in
theorem find_yes (ha : D.ask [s] = 0) (p : Pf) (hp : kfnd Pf.key L s.data.toList = some p) :
    Calls Try.prog 36 #[ptr b, .string s] w fun e w' => e = .returned (.tuple #[ptr p.a, .int .i64 0]) ∧ Below w.heap.size w w' := by
  have H := Lib.hid h
  have HS := Lib.hid hs
  have HG := Lib.hid (kget_some hp)
  have HA := Lib.hid (ask0 b mb D L [s] _ _ (h.kept (below_alloc w (.cells #[.string s] 9))) (row1 w s 9) (by simpa using hs) ha)
  have HB0 := Lib.hid (below_alloc w (.cells #[.string s] 9))
  clear h hs ha hp
  go_enter Try.func36, Try.ntmps36
  go_wp2_with (first
    | (go_at_call 33; refine HA.out.mono ?_; rintro e w3 ⟨rfl, hb⟩; have H3 := Lib.hid (H.out.kept (below_and HB0.out hb)); have c0 := H3.out.blk.cell (j := 0) rfl; have HB3 := Lib.hid (below_and HB0.out hb); clear hb)
    | (at_lookup; refine wpList_slook _ rfl _ _ _ rfl 9 66 Try.underlying9 Try.underlying52 (fzero _) mb (kM Pf.key Pf.val L) rfl H3.out.map s rfl HS.out ?_; rw [HG.out.1]; simp only [Option.getD_some]))
  go_ret2
  exact ⟨rfl, HB3.out⟩
set_option maxRecDepth 100000 in
set_option maxHeartbeats 1000000 in
theorem find_no (ha : D.ask [s] = 0) (hp : kfnd Pf.key L s.data.toList = none) :
    Calls Try.prog 36 #[ptr b, .string s] w fun e w' => e = .returned (.tuple #[.pointer none, .int .i64 6]) ∧ Below w.heap.size w w' := by
  have H := Lib.hid h
  have HS := Lib.hid hs
  have HG := Lib.hid (kget_none hp)
  have HA := Lib.hid (ask0 b mb D L [s] _ _ (h.kept (below_alloc w (.cells #[.string s] 9))) (row1 w s 9) (by simpa using hs) ha)
  have HB0 := Lib.hid (below_alloc w (.cells #[.string s] 9))
  clear h hs ha hp
  go_enter Try.func36, Try.ntmps36
  go_wp2_with (first
    | (go_at_call 33; refine HA.out.mono ?_; rintro e w3 ⟨rfl, hb⟩; have H3 := Lib.hid (H.out.kept (below_and HB0.out hb)); have c0 := H3.out.blk.cell (j := 0) rfl; have HB3 := Lib.hid (below_and HB0.out hb); clear hb)
    | (at_lookup; refine wpList_slook _ rfl _ _ _ rfl 9 66 Try.underlying9 Try.underlying52 (fzero _) mb (kM Pf.key Pf.val L) rfl H3.out.map s rfl HS.out ?_; rw [HG.out.1]; simp only [Option.getD_none]))
  go_ret2
  exact ⟨rfl, HB3.out⟩
set_option maxRecDepth 100000 in
set_option maxHeartbeats 1000000 in
theorem find_bad (ha : D.ask [s] ≠ 0) :
    Calls Try.prog 36 #[ptr b, .string s] w fun e w' => e = .returned (.tuple #[.pointer none, .int .i64 (D.ask [s])]) ∧ Below w.heap.size w w' := by
  have H := Lib.hid h
  have HA := Lib.hid (asked_any b mb D L [s] _ _ (h.kept (below_alloc w (.cells #[.string s] 9))) (row1 w s 9) (by simpa using hs))
  have HB0 := Lib.hid (below_alloc w (.cells #[.string s] 9))
  obtain ⟨q, hq⟩ : ∃ q, q = D.ask [s] := ⟨_, rfl⟩
  rw [← hq] at ha HA ⊢
  have q0 : (q != 0) = true := by simpa using ha
  clear h hs ha hq
  go_enter Try.func36, Try.ntmps36
  go_wp2_with (go_at_call 33; refine HA.out.mono ?_; rintro e w3 ⟨rfl, hb⟩; have HB3 := Lib.hid (below_and HB0.out hb); clear hb)
  go_ret2
  exact ⟨rfl, HB3.out⟩
end

/-! left -/
set_option maxRecDepth 100000 in
set_option maxHeartbeats 2000000 in
theorem left_any (b mb : Nat) (D : Dk) (L : List Pf) (M : Nat) (N : Int) (w : World) (h : PDk w b mb D L) (hi : DkI D M N) :
    Calls Try.prog 37 #[ptr b] w fun e w' => e = .returned (.int .i64 D.left) ∧ Below w.heap.size w w' := by
  have H := Lib.hid h
  have c0 := h.blk.cell (j := 0) rfl
  have c1 := h.blk.cell (j := 1) rfl
  have HAP := Lib.hid (h.rise hi.rise).apart
  have hsum : ksum (fun p : Pf => lenF p.f) L = Dk.bytes D.F := by rw [bytes_sum, ← h.eq, ksum_map]
  have HSU := Lib.hid hsum
  have hn : ∀ p ∈ L, 0 ≤ lenF p.f := fun p _ => by unfold lenF; omega
  have HN := Lib.hid hn
  have hf := hi.fits
  have hr := hi.room
  have HF := Lib.hid hf
  have HR := Lib.hid hr
  clear h hi hsum hn hf hr
  go_enter Try.func37, Try.ntmps37
  go_wp2_with (at_range; refine wpList_srange _ rfl _ _ rfl 9 66 Try.underlying9 Try.underlying52 mb (kM Pf.key Pf.val L) rfl H.out.map ?_; intro w4 hrg0 hb0 hs0; have HRG := Lib.hid hrg0; have HB4 := Lib.hid hb0; have HS4 := Lib.hid hs0; clear hrg0 hb0 hs0)
  go_frame
  go_loopw [3, 15] (fun n _ wr => ∃ (left : Lit → Bool) (cnt : Nat), n = .int .i64 (D.room - kdone Pf.key (fun p => lenF p.f) left L) ∧ Hid (SRange Try.prog 9 wr mb w.heap.size (kM Pf.key Pf.val L) left cnt) ∧ Hid (Below w.heap.size w wr)) (fun _ _ wr => wr.rangeLeft mb w.heap.size)
  case atStart =>
    refine ⟨_, _, ?_, HRG, HB4⟩
    rw [kdone_start (fun e he => by
      show Maps.has (kM Pf.key Pf.val L).dat (.string e.key) = true
      rw [SM.dat_has, kM_has, kfnd_of HAP.out he]; rfl), Int.sub_zero]
  case round =>
    obtain ⟨left, cnt, rfl, HRL, HB⟩ := hrel
    have hbd := kdone_bd (key := Pf.key) (f := fun p : Pf => lenF p.f) (L := L) left HN.out
    rw [HSU.out] at hbd
    obtain ⟨d, hd⟩ : ∃ d, d = kdone Pf.key (fun p : Pf => lenF p.f) left L := ⟨_, rfl⟩
    rw [← hd] at hbd ⊢
    obtain ⟨bd1, bd2⟩ := hbd
    have i1 : d ≤ D.room := by have := HF.out; omega
    have i2 : D.room ≤ 1073741824 := HR.out
    have HD := Lib.hid hd
    clear hd bd2
    go_wp2_with (at_next; refine wpList_snext _ rfl _ rfl 9 Try.underlying9 mb w.heap.size (kM Pf.key Pf.val L) left cnt rfl HRL.out ?_ ?_)
    · intro hl0
      have HE : Hid (d = Dk.bytes D.F) := Lib.hid (by rw [HD.out, kdone_end hl0, HSU.out])
      clear hl0
      go_wp2
      go_ret
      exact ⟨ret_int (by rw [HE.out]; rfl), HB.out⟩
    · intro x c w5 cnt5 hlx hgx hrg5 hlt5 hg5 hs5 hen
      obtain ⟨p, hfe, hc⟩ : ∃ p, kfnd Pf.key L x.data.toList = some p ∧ c = ptr p.a := by
        rw [kM_get] at hgx
        cases hq : kfnd Pf.key L x.data.toList with
        | none => rw [hq] at hgx; cases hgx
        | some e => rw [hq] at hgx; exact ⟨e, rfl, (Option.some.inj hgx).symm⟩
      subst hc
      obtain ⟨hem, hek⟩ := kfnd_mem hfe
      rw [← hek] at hlx hrg5
      have HB5 : Hid (Below w.heap.size w w5) := Lib.hid (HB.out.trans (grown_below hg5 (Nat.le_refl _) HB.out.size))
      have HR5 := Lib.hid hrg5
      have HL5 := Lib.hid hlt5
      have hst := kdone_step (f := fun p : Pf => lenF p.f) HAP.out hem hlx
      have hbd5 := kdone_bd (key := Pf.key) (f := fun p : Pf => lenF p.f) (L := L) (fun z => left z && !z.sameKey (.string p.key)) HN.out
      rw [HSU.out] at hbd5
      have hbd6 := hbd5.2
      rw [hst, ← HD.out] at hbd6
      have e0 := ((H.out.kept HB5.out).file p hem).cell (j := 0) rfl
      obtain ⟨q, k, hv, -, -⟩ := own_slice ((H.out.kept HB5.out).body p hem)
      rw [hv] at e0
      have i3 : (p.f.b.length : Int) ≤ D.room - d := by have := HF.out; unfold lenF at hbd6; omega
      have i4 : (0 : Int) ≤ (p.f.b.length : Int) := by omega
      have HST : Hid (kdone Pf.key (fun p : Pf => lenF p.f) (fun z => left z && !z.sameKey (.string p.key)) L = d + (p.f.b.length : Int)) := Lib.hid (by rw [hst, ← HD.out]; rfl)
      clear hgx hfe hem hek hlx hrg5 hlt5 hg5 hs5 hst hbd5 hbd6 hv
      go_wp2
      go_roundw
      case rel => exact ⟨_, cnt5, by rw [HST.out]; go_num, HR5, HB5⟩
      case measure => rw [HR5.out.left, HRL.out.left]; exact HL5.out

/-! step -/
theorem may_no {D : Dk} (h : D.may = false) : D.fused = true ∧ D.fuse = 0 := by
  unfold Dk.may at h
  simpa using h
theorem may_yes {D : Dk} (h : D.may = true) : D.fused = false ∨ (D.fused = true ∧ D.fuse ≠ 0) := by
  unfold Dk.may at h
  cases hf : D.fused
  · exact .inl rfl
  · rw [hf] at h
    exact .inr ⟨rfl, by simpa using h⟩
set_option maxRecDepth 100000 in
set_option maxHeartbeats 1000000 in
theorem step_no (b mb : Nat) (D : Dk) (L : List Pf) (w : World) (h : PDk w b mb D L) (hm : D.may = false) (v : Value) :
    Calls Try.prog 34 #[ptr b, v] w fun e w' => e = .returned (.int .i64 10) ∧ PDk w' b mb D.dead L ∧ Frp (fun k => k = b) w w' := by
  have H := Lib.hid h
  obtain ⟨h1, h2⟩ := may_no hm
  have c2 := h.blk.cell (j := 2) rfl
  have c3 := h.blk.cell (j := 3) rfl
  have f4 := h.blk.free 4
  rw [h1] at c2
  rw [h2] at c3
  have d4 := h.blk.cell (j := 4) rfl
  clear h hm h1 h2
  go_enter Try.func34, Try.ntmps34
  go_wp2
  go_ret
  have hf : Frp (fun k => k = b) w (w.setCell ⟨b, 4, none⟩ (.bool true)) := (Frp.refl (fun k => k = b) w).set (p := ⟨b, 4, none⟩) rfl _
  exact ⟨rfl, H.out.flds rfl hf (H.out.blk.set 4 _), hf⟩
set_option maxRecDepth 100000 in
set_option maxHeartbeats 2000000 in
theorem step_yes (b mb : Nat) (D : Dk) (L : List Pf) (M : Nat) (N : Int) (w : World) (h : PDk w b mb D L) (hi : DkI D M N) (hN : N < 4611686018427387904) (hm : D.may = true) (f : FuncId) (caps : Array Value) (Q : World → Prop)
    (eg : ∀ args w, (callFunc f args).run Try.prog w = .ok (.enter f args) w) (hq : ∀ w1, PDk w1 b mb D.stepped L → Frp (fun k => k = b) w w1 → Calls Try.prog f caps w1 fun e w' => e = .returned (.tuple #[]) ∧ Q w') :
    Calls Try.prog 34 #[ptr b, .func (.func f) #[] caps] w fun e w' => e = .returned (.int .i64 0) ∧ Q w' := by
  have c2 := h.blk.cell (j := 2) rfl
  have c3 := h.blk.cell (j := 3) rfl
  have c5 := h.blk.cell (j := 5) rfl
  have f3 := h.blk.free 3
  have f5 := h.blk.free 5
  have s1 := hi.steps.1
  have s2 := hi.steps.2
  have s3 : D.steps ≤ 4611686018427387904 := by omega
  have u1 := hi.fuse.1
  have u2 := hi.fuse.2
  rcases may_yes hm with hfu | ⟨hfu, hne⟩
  · rw [hfu] at c2
    have hw : PDk (w.setCell ⟨b, 5, none⟩ (.int .i64 (D.steps + 1))) b mb D.stepped L := h.flds rfl ((Frp.refl (fun k => k = b) w).set (p := ⟨b, 5, none⟩) rfl _) (by
      have := h.blk.set 5 (.int .i64 (D.steps + 1))
      unfold dkC at this
      simpa [dkC, Dk.stepped, hfu] using this)
    have HC := Lib.hid (hq _ hw ((Frp.refl (fun k => k = b) w).set (p := ⟨b, 5, none⟩) rfl _))
    clear h hi hm hq hw hfu s2
    go_enter Try.func34, Try.ntmps34
    go_wp2_with (go_at_fn f; refine HC.out.mono ?_; rintro e w2 ⟨rfl, hq2⟩; have HQ := Lib.hid hq2; clear hq2)
    go_ret
    exact ⟨rfl, HQ.out⟩
  · rw [hfu] at c2
    have hne2 : (D.fuse == 0) = false := by simpa using hne
    have hf1 : Frp (fun k => k = b) w ((w.setCell ⟨b, 3, none⟩ (.int .i64 (D.fuse - 1))).setCell ⟨b, 5, none⟩ (.int .i64 (D.steps + 1))) := ((Frp.refl (fun k => k = b) w).set (p := ⟨b, 3, none⟩) rfl _).set (p := ⟨b, 5, none⟩) rfl _
    have hw : PDk ((w.setCell ⟨b, 3, none⟩ (.int .i64 (D.fuse - 1))).setCell ⟨b, 5, none⟩ (.int .i64 (D.steps + 1))) b mb D.stepped L := h.flds rfl hf1 (by
      have := (h.blk.set 3 (.int .i64 (D.fuse - 1))).set 5 (.int .i64 (D.steps + 1))
      unfold dkC at this
      simpa [dkC, Dk.stepped, hfu] using this)
    have c53 := (h.blk.set 3 (.int .i64 (D.fuse - 1))).cell (j := 5) rfl
    have HC := Lib.hid (hq _ hw hf1)
    clear h hi hm hq hw hfu s2 hf1 hne
    go_enter Try.func34, Try.ntmps34
    go_wp2_with (go_at_fn f; refine HC.out.mono ?_; rintro e w2 ⟨rfl, hq2⟩; have HQ := Lib.hid hq2; clear hq2)
    go_ret
    exact ⟨rfl, HQ.out⟩
end Go.Proofs.Ytgcemddobcjpnaa
