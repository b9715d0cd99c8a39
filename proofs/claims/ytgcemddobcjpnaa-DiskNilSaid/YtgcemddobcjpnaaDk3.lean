/- The program's disk: what its steps do. -/
import Derived.Test.YtgcemddobcjpnaaDk2
import Derived.Test.YtgcemddobcjpnaaCutH
import Derived.Test.YtgcemddobcjpnaaOwnO
import Derived.Deep.DeepCutAuto
namespace Go.Proofs.Ytgcemddobcjpnaa
open Go.RowKit

/-- what a call turns of the disk's blocks -/
structure DSt (w w' : World) (b mb : Nat) (L L' : List Pf) : Prop where
  fr : Frp (fpP b mb L) w w'
  new : ∀ k, fpP b mb L' k → fpP b mb L k ∨ w.heap.size ≤ k
theorem DSt.of_below {w w' : World} {b mb : Nat} {L : List Pf} (h : Below w.heap.size w w') : DSt w w' b mb L L := ⟨Frp.of_below h _, fun _ h => .inl h⟩
theorem DSt.trans {a w w' : World} {b mb : Nat} {L L' L2 : List Pf} (h : DSt a w b mb L L') (k : DSt w w' b mb L' L2) : DSt a w' b mb L L2 :=
  ⟨h.fr.trans k.fr h.new, fun x hx => (k.new x hx).elim (h.new x) (fun h2 => .inr (Nat.le_trans h.fr.size h2))⟩
theorem DSt.sub {a w w' : World} {b mb : Nat} {L L' : List Pf} (h : DSt w w' b mb L L') (k : Frp (fun k => k = b) a w) : DSt a w' b mb L L' :=
  ⟨(k.mono (fun x hx => (.inl hx : fpP b mb L x))).then h.fr, fun x hx => (h.new x hx).imp id (fun h2 => Nat.le_trans k.size h2)⟩
theorem DSt.box {a w w' : World} {b mb : Nat} {L L' : List Pf} (h : DSt w w' b mb L L') (k : Below a.heap.size a w) : DSt a w' b mb L L' :=
  ⟨(Frp.of_below k _).then h.fr, fun x hx => (h.new x hx).imp id (fun h2 => Nat.le_trans k.size h2)⟩
theorem fp_put {b mb : Nat} {L : List Pf} {x : Pf} {k : Nat} (h : fpP b mb (kput Pf.key L x) k) : fpP b mb L k ∨ k = x.a ∨ x.v.ownBlock = some k := by
  rcases h with h | h | ⟨p, hp, h⟩
  · exact .inl (.inl h)
  · exact .inl (.inr (.inl h))
  · rcases (kput_mem L x p).1 hp with rfl | ⟨hp, -⟩
    · exact .inr h
    · exact .inl (.inr (.inr ⟨p, hp, h⟩))
theorem fp_rem {b mb : Nat} {L : List Pf} {s : List UInt8} {k : Nat} (h : fpP b mb (krem Pf.key L s) k) : fpP b mb L k := by
  rcases h with h | h | ⟨p, hp, h⟩
  · exact .inl h
  · exact .inr (.inl h)
  · exact .inr (.inr ⟨p, ((krem_mem L s p).1 hp).1, h⟩)

set_option maxRecDepth 100000 in
set_option maxHeartbeats 1000000 in
theorem remove1 (b mb pd pn : Nat) (D : Dk) (L : List Pf) (s : ByteArray) (w : World) (h : PDk w b mb D L) (hs : s.size ≤ maxLen) (hd : w.cell? ⟨pd, 0, none⟩ = some (ptr b)) (hn : w.cell? ⟨pn, 0, none⟩ = some (.string s)) :
    Calls Try.prog 59 #[ptr pd, ptr pn] w fun e w' => e = .returned (.tuple #[]) ∧ PDk w' b mb (D.cut s) (krem Pf.key L s.data.toList) ∧ DSt w w' b mb L (krem Pf.key L s.data.toList) := by
  have H := Lib.hid h
  have HS := Lib.hid hs
  have q0 := Past.cell hd
  have q1 := Past.cell hn
  have q2 := Past.blk h.blk (j := 0) rfl
  clear h hs hd hn
  go_enter Try.func59, Try.ntmps59
  refine wp_region_past_one rfl (by kernel_rfl) (by kernel_rfl) (by kernel_rfl) ?_
  repeat (go_big_quiet_step (fail))
  refine wpQuiet_nil ?_
  intro _ hw'
  obtain ⟨s', hw''⟩ := hw'
  subst hw''
  obtain ⟨w6, h6, e6⟩ : ∃ w6, Below w.heap.size w w6 ∧ w6 = s'.val := ⟨_, s'.h, rfl⟩
  rw [← e6]
  have H6 := Lib.hid (H.out.kept h6)
  have HB6 := Lib.hid h6
  clear h6 e6 q0 q1 q2
  go_wp2_with (refine wpList_sdel _ rfl _ _ _ _ rfl 66 Try.underlying9 Try.underlying52 mb (kM Pf.key Pf.val L) rfl H6.out.map s rfl HS.out ?_; intro w8 hp8 hg8; have HP8 := Lib.hid hp8; have HG8 := Lib.hid hg8; clear hp8 hg8)
  have hf : Frp (fun k => k = mb) w6 w8 := (Frp.refl (fun k => k = mb) w6).grown HG8.out (fun k hk => .inl (Option.some.inj hk).symm)
  have hp := H6.out.del (D' := D.cut s) s rfl rfl hf HP8.out
  refine end0 rfl rfl ⟨rfl, hp, ?_⟩
  exact (⟨hf.mono (fun k hk => .inr (.inl hk)), fun k hk => .inl (fp_rem hk)⟩ : DSt w6 w8 b mb L _).box HB6.out

set_option maxRecDepth 100000 in
set_option maxHeartbeats 1000000 in
theorem sync1 (b mb pf : Nat) (D : Dk) (L : List Pf) (p : Pf) (w : World) (h : PDk w b mb D L) (hr : KRise Fl.key D.F) (hp : kfnd Pf.key L p.key = some p) (hd : w.cell? ⟨pf, 0, none⟩ = some (ptr p.a)) :
    Calls Try.prog 39 #[ptr pf] w fun e w' => e = .returned (.tuple #[]) ∧ ∃ L', PDk w' b mb (D.put { p.f with s := p.f.b.length }) L' ∧ DSt w w' b mb L L' := by
  have hmem := (kfnd_mem hp).1
  have H := Lib.hid h
  have HP := Lib.hid hp
  have HR := Lib.hid hr
  have hfile := h.file p hmem
  obtain ⟨q, c, hv, hc, hm⟩ := own_slice (h.body p hmem)
  have HF := Lib.hid hfile
  rw [hv] at hfile
  have q0 := Past.cell hd
  have q1 := Past.blk hfile (j := 0) rfl
  have HM := Lib.hid hmem
  clear h hd hp hr hmem hfile hv hm
  go_enter Try.func39, Try.ntmps39
  refine wp_region_past_one rfl (by kernel_rfl) (by kernel_rfl) (by kernel_rfl) ?_
  repeat (go_big_quiet_step (fail))
  refine wpQuiet_nil ?_
  intro _ hw'
  obtain ⟨s', hw''⟩ := hw'
  subst hw''
  obtain ⟨w6, h6, e6⟩ : ∃ w6, Below w.heap.size w w6 ∧ w6 = s'.val := ⟨_, s'.h, rfl⟩
  rw [← e6]
  have H6 := Lib.hid (H.out.kept h6)
  have HF6 := Lib.hid (HF.out.kept h6)
  have HB6 := Lib.hid h6
  clear h6 e6 q0 q1
  have d1 := HF6.out.cell (j := 1) rfl
  have f1 := HF6.out.free 1
  go_wp2
  have hf : Frp (fun k => k = p.a ∨ p.v.ownBlock = some k) w6 (w6.setCell ⟨p.a, 1, none⟩ (.int .i64 (p.f.b.length : Int))) := (Frp.refl (fun k => k = p.a ∨ p.v.ownBlock = some k) w6).set (p := ⟨p.a, 1, none⟩) (.inl rfl) _
  have hbody : Fresh 0 (w6.setCell ⟨p.a, 1, none⟩ (.int .i64 (p.f.b.length : Int))) p.v p.f.b := own_other (H6.out.body p HM.out) (fun e => (H6.out.ne_v HM.out).2.2 p HM.out e) _
  have hpd := H6.out.turn (D' := D.put { p.f with s := p.f.b.length }) (x := ⟨{ p.f with s := p.f.b.length }, p.a, p.v⟩) HR.out HP.out rfl rfl rfl hf (HF6.out.set 1 _) hbody (fun k hk => .inl hk)
  refine end0 rfl rfl ⟨rfl, _, hpd, ?_⟩
  exact (⟨hf.mono (fun k hk => .inr (.inr ⟨p, HM.out, hk⟩)), fun k hk => (fp_put hk).elim .inl (fun h2 => .inl (.inr (.inr ⟨p, HM.out, h2⟩)))⟩ : DSt w6 _ b mb L (kput Pf.key L ⟨{ p.f with s := p.f.b.length }, p.a, p.v⟩)).box HB6.out

theorem mem_apart {b mb : Nat} {D : Dk} {L : List Pf} {w : World} (h : PDk w b mb D L) (hr : KRise Fl.key D.F) {p : Pf} (hp : p ∈ L) : ∀ q ∈ krem Pf.key L p.key, ApP p q := fun q hq => by
  obtain ⟨h1, h2⟩ := (krem_mem L _ q).1 hq
  exact h.mem_ne hr hp h1 h2

set_option maxRecDepth 100000 in
set_option maxHeartbeats 1000000 in
theorem rename1 (b mb pd ps pf pt : Nat) (D : Dk) (L : List Pf) (s t : ByteArray) (p : Pf) (w : World) (h : PDk w b mb D L) (hr : KRise Fl.key D.F) (hs : s.size ≤ maxLen) (ht : t.size ≤ maxLen) (hl : L.length < maxLen) (hp : kfnd Pf.key L s.data.toList = some p) (hst : s.data.toList ≠ t.data.toList)
    (hd : w.cell? ⟨pd, 0, none⟩ = some (ptr b)) (hcs : w.cell? ⟨ps, 0, none⟩ = some (.string s)) (hcf : w.cell? ⟨pf, 0, none⟩ = some (ptr p.a)) (hct : w.cell? ⟨pt, 0, none⟩ = some (.string t)) (hbx : pd < w.heap.size ∧ ∀ k, fpP b mb L k → k ≠ pd ∧ k ≠ pf ∧ k ≠ pt) :
    Calls Try.prog 44 #[ptr pd, ptr ps, ptr pf, ptr pt] w fun e w' => e = .returned (.tuple #[]) ∧ ∃ L', PDk w' b mb ((D.cut s).put { p.f with n := t }) L' ∧ DSt w w' b mb L L' := by
  have H := Lib.hid h
  have HS := Lib.hid hs
  have HT := Lib.hid ht
  have HLN := Lib.hid hl
  have HP := Lib.hid hp
  have HR := Lib.hid hr
  have q0 := Past.cell hd
  have q1 := Past.cell hcs
  have q2 := Past.blk h.blk (j := 0) rfl
  have HCD := Lib.hid hd
  have HCF := Lib.hid hcf
  have HCT := Lib.hid hct
  have HBX := Lib.hid hbx.2
  have HST := Lib.hid hst
  clear h hs ht hl hp hr hd hcs hcf hct hbx hst
  go_enter Try.func44, Try.ntmps44
  go_upto_region 0 with fail
  refine wp_region_past_one rfl (by kernel_rfl) (by kernel_rfl) (by kernel_rfl) ?_
  repeat (go_big_quiet_step (fail))
  refine wpQuiet_nil ?_
  intro _ hw'
  obtain ⟨s', hw''⟩ := hw'
  subst hw''
  obtain ⟨w6, h6, e6⟩ : ∃ w6, Below w.heap.size w w6 ∧ w6 = s'.val := ⟨_, s'.h, rfl⟩
  rw [← e6]
  have H6 := Lib.hid (H.out.kept h6)
  have HB6 := Lib.hid h6
  clear h6 e6 q0 q1 q2
  go_upto_region 1 with (refine wpList_sdel _ rfl _ _ _ _ rfl 66 Try.underlying9 Try.underlying52 mb (kM Pf.key Pf.val L) rfl H6.out.map s rfl HS.out ?_; intro w8 hp8 hg8; have HP8 := Lib.hid hp8; have HG8 := Lib.hid hg8; clear hp8 hg8)
  have hf : Frp (fun k => k = mb) w6 w8 := (Frp.refl (fun k => k = mb) w6).grown HG8.out (fun k hk => .inl (Option.some.inj hk).symm)
  have HF8 := Lib.hid hf
  have H8 := Lib.hid (H6.out.del (D' := D.cut s) s rfl rfl hf HP8.out)
  have HNE : Hid (mb ≠ pd ∧ mb ≠ pf ∧ mb ≠ pt) := Lib.hid (HBX.out mb (.inr (.inl rfl)))
  have q0 := Past.cell (cell_frp (cell_kept HCD.out HB6.out) hf (fun e => HNE.out.1 e.symm))
  have q1 := Past.cell (cell_frp (cell_kept HCF.out HB6.out) hf (fun e => HNE.out.2.1 e.symm))
  have q3 := Past.cell (cell_frp (cell_kept HCT.out HB6.out) hf (fun e => HNE.out.2.2 e.symm))
  have q2 := Past.blk H8.out.blk (j := 0) rfl
  clear hf HP8 HG8
  simp only [Act.put]
  refine wp_region_past_one rfl (by kernel_rfl) (by kernel_rfl) (by kernel_rfl) ?_
  repeat (go_big_quiet_step (fail))
  refine wpQuiet_nil ?_
  intro _ hw'
  obtain ⟨s2, hw''⟩ := hw'
  subst hw''
  obtain ⟨w9, h9, e9⟩ : ∃ w9, Below w8.heap.size w8 w9 ∧ w9 = s2.val := ⟨_, s2.h, rfl⟩
  rw [← e9]
  have H9 := Lib.hid (H8.out.kept h9)
  have HB9 := Lib.hid h9
  have HLN9 : Hid ((kM Pf.key Pf.val (krem Pf.key L s.data.toList)).length < maxLen) := Lib.hid (by
    rw [kM_len]
    exact Nat.lt_of_le_of_lt (List.length_filter_le _ _) HLN.out)
  clear h9 e9 q0 q1 q2 q3
  go_wp2_with (refine wpList_sput _ rfl _ _ _ _ rfl 9 66 Try.underlying9 Try.underlying52 mb _ rfl H9.out.map HLN9.out t (ptr p.a) rfl rfl HT.out ?_; intro w10 hp10 hg10; have HP10 := Lib.hid hp10; have HG10 := Lib.hid hg10; clear hp10 hg10)
  have hf10 : Frp (fun k => k = mb) w9 w10 := (Frp.refl (fun k => k = mb) w9).grown HG10.out (fun k hk => .inl (Option.some.inj hk).symm)
  obtain ⟨hmem, hkey⟩ := kfnd_mem HP.out
  have hfa : ∀ k, (k = p.a ∨ p.v.ownBlock = some k) → k ≠ mb := fun k hk e => by
    subst e
    rcases hk with hk | hk
    · exact (H6.out.ne_a hmem).2 hk.symm
    · exact (H6.out.ne_v hmem).2.1 hk
  have hfile : Blk w9 p.a [p.v, .int .i64 (p.f.s : Int)] 69 := ((H6.out.file p hmem).frp HF8.out (hfa _ (.inl rfl))).kept HB9.out
  have hbody : Fresh 0 w9 p.v p.f.b := own_keep (own_frp (H6.out.body p hmem) HF8.out (fun g hg => hfa g (.inr hg))) HB9.out
  have hpd := H9.out.again (D' := (D.cut s).put { p.f with n := t }) (x := ⟨{ p.f with n := t }, p.a, p.v⟩) rfl rfl hf10 HP10.out hfile hbody (fun q hq => by
    rw [← hkey] at hq
    have := mem_apart H6.out HR.out hmem q hq
    exact ⟨this.1, this.2⟩)
  refine end0 rfl rfl ⟨rfl, _, hpd, ?_⟩
  have hfr : Frp (fpP b mb L) w6 w10 := ((HF8.out.mono (fun k hk => (.inr (.inl hk) : fpP b mb L k))).next HB9.out).then (hf10.mono (fun k hk => (.inr (.inl hk) : fpP b mb L k)))
  refine DSt.box ⟨hfr, fun k hk => ?_⟩ HB6.out
  rcases fp_put hk with h1 | h1
  · exact .inl (fp_rem h1)
  · exact .inl (.inr (.inr ⟨p, hmem, h1⟩))
end Go.Proofs.Ytgcemddobcjpnaa
