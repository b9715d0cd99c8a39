/- The program's disk: what Make and Append do at a step (written by gendk4.py). -/
import Derived.Test.YtgcemddobcjpnaaDk3
namespace Go.Proofs.Ytgcemddobcjpnaa
open Go.RowKit

set_option maxRecDepth 100000 in
set_option maxHeartbeats 4000000 in
theorem make1 (b mb pd pn : Nat) (D : Dk) (L : List Pf) (s : ByteArray) (w : World) (h : PDk w b mb D L) (hs : s.size ≤ maxLen) (hl : L.length < maxLen) (hp : kfnd Pf.key L s.data.toList = none)
    (hd : w.cell? ⟨pd, 0, none⟩ = some (ptr b)) (hn : w.cell? ⟨pn, 0, none⟩ = some (.string s)) :
    Calls Try.prog 35 #[ptr pd, ptr pn] w fun e w' => e = .returned (.tuple #[]) ∧ ∃ L', PDk w' b mb (D.put ⟨s, [], 0⟩) L' ∧ DSt w w' b mb L L' := by
  have H := Lib.hid h
  have HS := Lib.hid hs
  have HLN : Hid ((kM Pf.key Pf.val L).length < maxLen) := Lib.hid (by rw [kM_len]; exact hl)
  have HP := Lib.hid (kfnd_none hp)
  have HCD := Lib.hid hd
  have HCN := Lib.hid hn
  have c0 := h.blk.cell (j := 0) rfl
  clear h hs hl hp
  go_enter Try.func35, Try.ntmps35
  refine wp_region_noPanic ?_
  refine wp_region_lastH (fun w' => w'.cell? ⟨pd, 0, none⟩ = some (ptr b) ∧ w'.cell? ⟨b, 0, none⟩ = some (.map (some mb)) ∧ w'.cell? ⟨pn, 0, none⟩ = some (.string s) ∧ Below w.heap.size w w') 7 rfl rfl (by kernel_rfl) (by kernel_rfl) ⟨hd, c0, hn, below_drewN 1⟩ (fun hHeld => ?_)
  refine wpAnyH_take (i := 0) (v := ?v1) rfl (by kernel_rfl) (by kernel_rfl) (by kernel_rfl) (fun _ _ _ h => h) (Or.inl ⟨by rfl, ?hy1⟩) (by assumption) ?rest1
  case hy1 => (intro _ hSw; (try dsimp only at hSw); go_simp; (try with_reducible rfl))
  (try simp only [Act.put]); (try simp only [List.setIfInBounds_toArray]); (try simp only [List.set_cons_succ]); (try simp only [List.set_cons_zero])
  refine wpAnyH_take (i := 1) (v := ?v2) rfl (by kernel_rfl) (by kernel_rfl) (by kernel_rfl) (fun _ _ _ h => h) (Or.inl ⟨by rfl, ?hy2⟩) (by assumption) ?rest2
  case hy2 => (intro _ hSw; (try dsimp only at hSw); go_simp; (try with_reducible rfl))
  (try simp only [Act.put]); (try simp only [List.setIfInBounds_toArray]); (try simp only [List.set_cons_succ]); (try simp only [List.set_cons_zero])
  refine wpAnyH_take (i := 2) (v := ?v3) rfl (by kernel_rfl) (by kernel_rfl) (by kernel_rfl) (fun _ _ _ h => h) (Or.inl ⟨by rfl, ?hy3⟩) (by assumption) ?rest3
  case hy3 => (intro _ hSw; (try dsimp only at hSw); go_simp; (try with_reducible rfl))
  (try simp only [Act.put]); (try simp only [List.setIfInBounds_toArray]); (try simp only [List.set_cons_succ]); (try simp only [List.set_cons_zero])
  refine wpAnyH_take (i := 3) (v := ?v4) rfl (by kernel_rfl) (by kernel_rfl) (by kernel_rfl) (fun _ _ _ h => h) (Or.inl ⟨by rfl, ?hy4⟩) (by assumption) ?rest4
  case hy4 => (intro _ hSw; (try dsimp only at hSw); go_simp; (try with_reducible rfl))
  (try simp only [Act.put]); (try simp only [List.setIfInBounds_toArray]); (try simp only [List.set_cons_succ]); (try simp only [List.set_cons_zero])
  refine wpAnyH_take (i := 4) (v := ?v5) rfl (by kernel_rfl) (by kernel_rfl) (by kernel_rfl) (fun _ _ _ h => h) (Or.inl ⟨by rfl, ?hy5⟩) (by assumption) ?rest5
  case hy5 => (intro _ hSw; (try dsimp only at hSw); go_simp; (try with_reducible rfl))
  (try simp only [Act.put]); (try simp only [List.setIfInBounds_toArray]); (try simp only [List.set_cons_succ]); (try simp only [List.set_cons_zero])
  refine wpAnyH_take (i := 5) (v := ?v6) rfl (by kernel_rfl) (by kernel_rfl) (by kernel_rfl) (fun _ _ _ h => h) (Or.inl ⟨by rfl, ?hy6⟩) (by assumption) ?rest6
  case hy6 => (intro _ hSw; (try dsimp only at hSw); go_simp; (try with_reducible rfl))
  (try simp only [Act.put]); (try simp only [List.setIfInBounds_toArray]); (try simp only [List.set_cons_succ]); (try simp only [List.set_cons_zero])
  refine wpAnyH_ready (rs := [6]) (by kernel_rfl) (by simp) ?_
  refine (AllReadyH.cons rfl (fun K hK => ?_) AllReadyH.nil)
  (try simp only [List.getElem_toArray]); (try simp only [List.getElem_cons_succ]); (try simp only [List.getElem_cons_zero])
  go_simp
  obtain ⟨w6, hw6⟩ : ∃ w6, w6 = (w.alloc (.cells #[.slice none 0 0, .int .i64 0] 69)).drew := ⟨_, rfl⟩
  obtain ⟨z, hz⟩ : ∃ z, z = w.heap.size := ⟨_, rfl⟩
  have hb6 : Below w.heap.size w w6 := by rw [hw6]; exact below_ad _ _
  have HFI : Hid (Blk w6 z [.slice none 0 0, .int .i64 0] 69) := Lib.hid (by rw [hw6, hz]; exact (Blk.made w [.slice none 0 0, .int .i64 0] 69).kept (below_drewN 1))
  have HZ : Hid (w.heap.size ≤ z) := Lib.hid (by rw [hz]; exact Nat.le_refl _)
  have H6 := Lib.hid (H.out.kept hb6)
  have HB6 := Lib.hid hb6
  rw [← hw6, ← hz]
  refine hK.out _ _ ⟨cell_kept HCD.out hb6, H6.out.blk.cell (j := 0) rfl, cell_kept HCN.out hb6, hb6⟩ (fun hS1 => ?_)
  clear hw6 hz hb6 hK K hS1
  (try simp only [Act.put]); (try simp only [List.setIfInBounds_toArray]); (try simp only [List.set_cons_succ]); (try simp only [List.set_cons_zero])
  refine wpAnyH_done (by kernel_rfl) ?_ _
  refine LastQ.start rfl ?_
  clear hHeld hd hn c0
  go_wp2_with (refine wpList_sput _ rfl _ _ _ _ rfl 9 66 Try.underlying9 Try.underlying52 mb _ rfl H6.out.map HLN.out s (ptr z) rfl rfl HS.out ?_; intro w8 hp8 hg8; have HP8 := Lib.hid hp8; have HG8 := Lib.hid hg8; clear hp8 hg8)
  refine NoPanic.normal ?_
  (try go_wp2)
  have hf : Frp (fun k => k = mb) w6 w8 := (Frp.refl (fun k => k = mb) w6).grown HG8.out (fun k hk => .inl (Option.some.inj hk).symm)
  have hzm : z ≠ mb := fun e => by have := H.out.map.lt; have := HZ.out; omega
  have hpd := H.out.add (D' := D.put ⟨s, [], 0⟩) (x := ⟨⟨s, [], 0⟩, z, .slice none 0 0⟩) HP.out rfl rfl ((Frp.of_below HB6.out _).then hf) HP8.out (HFI.out.frp hf hzm) (World.ownsRow_nil _ _ _ _) HZ.out (fun k h1 => by cases h1)
  refine end0 rfl rfl ⟨rfl, _, hpd, ?_⟩
  refine ⟨(Frp.of_below HB6.out _).then (hf.mono (fun k hk => .inr (.inl hk))), fun k hk => ?_⟩
  rcases fp_put hk with h1 | h1 | h1
  · exact .inl h1
  · exact .inr (by rw [h1]; exact HZ.out)
  · cases h1

set_option maxRecDepth 100000 in
set_option maxHeartbeats 4000000 in
theorem append1 (b mb pf pb pn : Nat) (D : Dk) (L : List Pf) (p : Pf) (q : Option Addr) (c k : Nat) (l : List UInt8) (w : World) (h : PDk w b mb D L) (hr : KRise Fl.key D.F) (hp : kfnd Pf.key L p.key = some p) (hbl : p.f.b.length ≤ 1073741824) (hk : k ≤ l.length) (hk64 : k ≤ 64) (hrd : Rd w (.slice q l.length c) l)
    (hd : w.cell? ⟨pf, 0, none⟩ = some (ptr p.a)) (hb : w.cell? ⟨pb, 0, none⟩ = some (.slice q l.length c)) (hn : w.cell? ⟨pn, 0, none⟩ = some (.int .i64 (k : Int))) (hbx : ∀ g, fpP b mb L g → g ≠ pf ∧ g ≠ pb ∧ g ≠ pn) :
    Calls Try.prog 38 #[ptr pf, ptr pb, ptr pn] w fun e w' => e = .returned (.tuple #[]) ∧ ∃ v', PDk w' b mb (D.addB p.f (l.take k)) (kput Pf.key L ⟨{ p.f with b := p.f.b ++ l.take k }, p.a, v'⟩) ∧ DSt w w' b mb L (kput Pf.key L ⟨{ p.f with b := p.f.b ++ l.take k }, p.a, v'⟩) := by
  obtain ⟨i0, hi, hz0, hz1, hz2⟩ := info_parts Try.uinfo
  have hmem := (kfnd_mem hp).1
  have H := Lib.hid h
  have HP := Lib.hid hp
  have HR := Lib.hid hr
  have HM := Lib.hid hmem
  have HCD := Lib.hid hd
  have HCB := Lib.hid hb
  have HCN := Lib.hid hn
  have hfile := h.file p hmem
  have hbody := h.body p hmem
  have HF := Lib.hid hfile
  have HBY := Lib.hid hbody
  have HNE : Hid (∀ g, p.v.ownBlock = some g → g ≠ pf ∧ g ≠ pb ∧ g ≠ pn) := Lib.hid (fun g hg => hbx g (.inr (.inr ⟨p, hmem, .inr hg⟩)))
  have HNA : Hid (∀ g, p.v.ownBlock = some g → g ≠ p.a) := Lib.hid (fun g hg e => (h.ne_v hmem).2.2 p hmem (by rw [hg, e]))
  obtain ⟨pv, pc, hv, hpc, hpm⟩ := own_slice hbody
  have HV := Lib.hid hv
  rw [hv] at hfile
  have c0 := hfile.cell (j := 0) rfl
  have HSR : Hid (∀ w', Below w.heap.size w w' → Src Try.prog 1 29 (.slice q k c) k ((l.take k).map B) w') := Lib.hid (fun w' hb' => by
    obtain ⟨hlc, hlm⟩ : l.length ≤ c ∧ c ≤ maxLen := by
      obtain ⟨p1, c1, e1, e2, e3, -⟩ := hrd.parts
      simp only [Value.slice.injEq] at e1
      obtain ⟨-, -, rfl⟩ := e1
      exact ⟨e2, e3⟩
    have hc0 : 0 + k ≤ l.length := by omega
    have := rd_piece (hrd.below hb') (j := 0) (k := k) hc0
    rw [List.drop_zero] at this
    unfold Rd at this
    rw [List.length_take, Nat.min_eq_left hk] at this
    have hcut : cutP q c 0 = q := by unfold cutP; split <;> cases q <;> simp [Addr.add]
    rw [hcut, Nat.sub_zero] at this
    exact Row.src Try.underlying29 this)
  have b1 : (0 : Int) ≤ (k : Int) := by omega
  have b2 : (k : Int) ≤ (c : Int) := by
    obtain ⟨p1, c1, e1, e2, e3, -⟩ := hrd.parts
    simp only [Value.slice.injEq] at e1
    obtain ⟨-, -, rfl⟩ := e1
    omega
  clear h hp hr hmem hfile hbody hv hpm hrd hk hbx
  go_enter Try.func38, Try.ntmps38
  refine wp_region_noPanic ?_
  refine wp_region_lastH (fun w' => w'.cell? ⟨pf, 0, none⟩ = some (ptr p.a) ∧ w'.cell? ⟨p.a, 0, none⟩ = some (.slice pv p.f.b.length pc) ∧ w'.cell? ⟨pb, 0, none⟩ = some (.slice q l.length c) ∧ w'.cell? ⟨pn, 0, none⟩ = some (.int .i64 (k : Int))) 11 rfl rfl (by kernel_rfl) (by kernel_rfl) ⟨hd, c0, hb, hn⟩ (fun hHeld => ?_)
  refine wpAnyH_take (i := 0) (v := ?v7) rfl (by kernel_rfl) (by kernel_rfl) (by kernel_rfl) (fun _ _ _ h => h) (Or.inl ⟨by rfl, ?hy7⟩) (by assumption) ?rest7
  case hy7 => (intro _ hSw; (try dsimp only at hSw); go_simp; (try with_reducible rfl))
  (try simp only [Act.put]); (try simp only [List.setIfInBounds_toArray]); (try simp only [List.set_cons_succ]); (try simp only [List.set_cons_zero])
  refine wpAnyH_take (i := 1) (v := ?v8) rfl (by kernel_rfl) (by kernel_rfl) (by kernel_rfl) (fun _ _ _ h => h) (Or.inl ⟨by rfl, ?hy8⟩) (by assumption) ?rest8
  case hy8 => (intro _ hSw; (try dsimp only at hSw); go_simp; (try with_reducible rfl))
  (try simp only [Act.put]); (try simp only [List.setIfInBounds_toArray]); (try simp only [List.set_cons_succ]); (try simp only [List.set_cons_zero])
  refine wpAnyH_take (i := 2) (v := ?v9) rfl (by kernel_rfl) (by kernel_rfl) (by kernel_rfl) (fun _ _ _ h => h) (Or.inl ⟨by rfl, ?hy9⟩) (by assumption) ?rest9
  case hy9 => (intro _ hSw; (try dsimp only at hSw); go_simp; (try with_reducible rfl))
  (try simp only [Act.put]); (try simp only [List.setIfInBounds_toArray]); (try simp only [List.set_cons_succ]); (try simp only [List.set_cons_zero])
  refine wpAnyH_take (i := 3) (v := ?v10) rfl (by kernel_rfl) (by kernel_rfl) (by kernel_rfl) (fun _ _ _ h => h) (Or.inl ⟨by rfl, ?hy10⟩) (by assumption) ?rest10
  case hy10 => (intro _ hSw; (try dsimp only at hSw); go_simp; (try with_reducible rfl))
  (try simp only [Act.put]); (try simp only [List.setIfInBounds_toArray]); (try simp only [List.set_cons_succ]); (try simp only [List.set_cons_zero])
  refine wpAnyH_take (i := 4) (v := ?v11) rfl (by kernel_rfl) (by kernel_rfl) (by kernel_rfl) (fun _ _ _ h => h) (Or.inl ⟨by rfl, ?hy11⟩) (by assumption) ?rest11
  case hy11 => (intro _ hSw; (try dsimp only at hSw); go_simp; (try with_reducible rfl))
  (try simp only [Act.put]); (try simp only [List.setIfInBounds_toArray]); (try simp only [List.set_cons_succ]); (try simp only [List.set_cons_zero])
  refine wpAnyH_take (i := 5) (v := ?v12) rfl (by kernel_rfl) (by kernel_rfl) (by kernel_rfl) (fun _ _ _ h => h) (Or.inl ⟨by rfl, ?hy12⟩) (by assumption) ?rest12
  case hy12 => (intro _ hSw; (try dsimp only at hSw); go_simp; (try with_reducible rfl))
  (try simp only [Act.put]); (try simp only [List.setIfInBounds_toArray]); (try simp only [List.set_cons_succ]); (try simp only [List.set_cons_zero])
  refine wpAnyH_take (i := 6) (v := ?v13) rfl (by kernel_rfl) (by kernel_rfl) (by kernel_rfl) (fun _ _ _ h => h) (Or.inl ⟨by rfl, ?hy13⟩) (by assumption) ?rest13
  case hy13 => (intro _ hSw; (try dsimp only at hSw); go_simp; (try with_reducible rfl))
  (try simp only [Act.put]); (try simp only [List.setIfInBounds_toArray]); (try simp only [List.set_cons_succ]); (try simp only [List.set_cons_zero])
  refine wpAnyH_take (i := 7) (v := ?v14) rfl (by kernel_rfl) (by kernel_rfl) (by kernel_rfl) (fun _ _ _ h => h) (Or.inl ⟨by rfl, ?hy14⟩) (by assumption) ?rest14
  case hy14 => (intro _ hSw; (try dsimp only at hSw); go_simp; (try with_reducible rfl))
  (try simp only [Act.put]); (try simp only [List.setIfInBounds_toArray]); (try simp only [List.set_cons_succ]); (try simp only [List.set_cons_zero])
  (try simp only [List.getElem_toArray]); (try simp only [List.getElem_cons_succ]); (try simp only [List.getElem_cons_zero]); (try simp only [List.setIfInBounds_toArray]); (try simp only [List.set_cons_succ, List.set_cons_zero])
  refine wpAnyH_ready (rs := [8]) (by kernel_rfl) (by simp) ?_
  refine (AllReadyH.cons rfl (fun K hK => ?_) AllReadyH.nil)
  obtain ⟨w5, hw5⟩ : ∃ w5, w5 = w.drew := ⟨_, rfl⟩
  have hb5 : Below w.heap.size w w5 := by rw [hw5]; exact below_drewN 1
  have HO5 : Hid (w5.ownsRow 0 5 1 (.slice pv p.f.b.length pc) p.f.b.length (p.f.b.map B)) := Lib.hid (by have := own_keep HBY.out hb5; rw [HV.out] at this; exact this)
  have HS5 := Lib.hid (HSR.out w5 hb5)
  have HB5 := Lib.hid hb5
  rw [← hw5] at hHeld ⊢
  clear hw5 hb5
  refine step_app rfl (.tmp 7) (.tmp 10) 29 29 rfl 0 5 i0 (.int .u8 0) 1 1 Try.underlying29 hi hz0 hz1 hz2 rfl (.slice pv p.f.b.length pc) p.f.b.length (p.f.b.map B) (by rfl) HO5.out (.slice q k c) k ((l.take k).map B) (by rfl) HS5.out (by unfold maxLen; omega) (by omega) (Nat.zero_le _) ?_
  intro v7 w7 ho7 hg7 hn7 hk7
  have hg7' : w5.grownBy w7 p.v.ownBlock := by rw [HV.out]; exact hg7
  have hfr7 : Frp (fun g => g = p.a ∨ p.v.ownBlock = some g) w5 w7 := (Frp.refl _ w5).grown hg7' (fun g hg => .inl (.inr hg))
  have hown7 : Frp (fun g => p.v.ownBlock = some g) w5 w7 := (Frp.refl _ w5).grown hg7' (fun g hg => .inl hg)
  have HK7 : Hid (∀ g, v7.ownBlock = some g → p.v.ownBlock = some g ∨ w5.heap.size ≤ g) := Lib.hid (fun g hg => by rw [HV.out]; exact hk7 g hg)
  have HO7 := Lib.hid ho7
  have HFR := Lib.hid hfr7
  have HF7 := Lib.hid ((HF.out.kept HB5.out).frp hown7 (fun e => HNA.out _ e rfl))
  refine hK.out _ _ ⟨cell_frp (cell_kept HCD.out HB5.out) hown7 (fun e => (HNE.out _ e).1 rfl), by have := HF7.out.cell (j := 0) rfl; rw [HV.out] at this; exact this, cell_frp (cell_kept HCB.out HB5.out) hown7 (fun e => (HNE.out _ e).2.1 rfl), cell_frp (cell_kept HCN.out HB5.out) hown7 (fun e => (HNE.out _ e).2.2 rfl)⟩ (fun hS1 => ?_)
  clear hK K ho7 hg7 hn7 hk7 hg7' hfr7 hown7 hHeld
  (try simp only [Act.put]); (try simp only [List.setIfInBounds_toArray]); (try simp only [List.set_cons_succ]); (try simp only [List.set_cons_zero])
  refine wpAnyH_take (i := 9) (v := ?v15) rfl (by kernel_rfl) (by kernel_rfl) (by kernel_rfl) (fun _ _ _ h => h) (Or.inl ⟨by rfl, ?hy15⟩) (by assumption) ?rest15
  case hy15 => (intro _ hSw; (try dsimp only at hSw); go_simp; (try with_reducible rfl))
  (try simp only [Act.put]); (try simp only [List.setIfInBounds_toArray]); (try simp only [List.set_cons_succ]); (try simp only [List.set_cons_zero])
  refine wpAnyH_take (i := 10) (v := ?v16) rfl (by kernel_rfl) (by kernel_rfl) (by kernel_rfl) (fun _ _ _ h => h) (Or.inl ⟨by rfl, ?hy16⟩) (by assumption) ?rest16
  case hy16 => (intro _ hSw; (try dsimp only at hSw); go_simp; (try with_reducible rfl))
  (try simp only [Act.put]); (try simp only [List.setIfInBounds_toArray]); (try simp only [List.set_cons_succ]); (try simp only [List.set_cons_zero])
  refine wpAnyH_done (by kernel_rfl) ?_ _
  refine LastQ.start rfl ?_
  have d0 := HF7.out.cell (j := 0) rfl
  have f0 := HF7.out.free 0
  rw [HV.out] at d0
  obtain ⟨p8, c8, rfl, -, -⟩ := own_slice HO7.out
  clear hS1 hd hb hn c0
  go_wp2
  refine NoPanic.normal ?_
  (try go_wp2)
  have hset : Frp (fun g => g = p.a ∨ p.v.ownBlock = some g) w5 (w7.setCell ⟨p.a, 0, none⟩ (.slice p8 (p.f.b.length + k) c8)) := HFR.out.set (p := ⟨p.a, 0, none⟩) (.inl rfl) _
  have hlk : (p.f.b ++ l.take k).length = p.f.b.length + k := by rw [List.length_append, List.length_take]; have := HS5.out.newsLen; simp at this; omega
  have hpd := (H.out.kept HB5.out).turn (D' := D.addB p.f (l.take k)) (p := p) (x := ⟨{ p.f with b := p.f.b ++ l.take k }, p.a, .slice p8 (p.f.b.length + k) c8⟩) HR.out HP.out rfl rfl rfl hset (HF7.out.set 0 _) (by
    show World.ownsRow _ 0 5 1 _ (p.f.b ++ l.take k).length ((p.f.b ++ l.take k).map B)
    rw [hlk, List.map_append]
    refine own_other HO7.out (fun e => ?_) _
    rcases HK7.out _ e with h1 | h1
    · exact HNA.out _ h1 rfl
    · have := (HF.out.kept HB5.out).lt
      simp only at h1
      omega) (fun g hg => HK7.out g hg)
  refine end0 rfl rfl ⟨rfl, _, hpd, ?_⟩
  refine DSt.box ⟨hset.mono (fun g hg => .inr (.inr ⟨p, HM.out, hg⟩)), fun g hg => ?_⟩ HB5.out
  rcases fp_put hg with h1 | h1 | h1
  · exact .inl h1
  · exact .inl (.inr (.inr ⟨p, HM.out, .inl h1⟩))
  · rcases HK7.out g h1 with h2 | h2
    · exact .inl (.inr (.inr ⟨p, HM.out, .inr h2⟩))
    · exact .inr h2
end Go.Proofs.Ytgcemddobcjpnaa
