/- Texts of one proof, laid together: Rd5, Dk2, OwnO, Dk3, Dk4, Iter, Dk5. No condition of ours. -/
import Derived.Test.YtgcemddobcjpnaaDK3
import Derived.Lib.SliceRun
import Derived.Shelf.Abstract
import Derived.Deep.DeepCutAuto
import Derived.Shelf.SlIter.Nil
import Derived.Shelf.SortM.Plain
import Derived.Shelf.SortM.SortNone
import Derived.Ground.GgzProg
import Derived.Ground.SlgmProg
import Derived.Test.YtgcemddobcjpnaaProg
namespace Go.Proofs.Ytgcemddobcjpnaa
open Go.RowKit

theorem kput_krem {α : Type} {key : α → List UInt8} (L : List α) (x : α) : kput key (krem key L (key x)) x = kput key L x := by
  unfold kput krem
  rw [List.filter_filter]
  simp
theorem row2r (w : World) (s r : ByteArray) (t : TypeId) : Row (w.alloc (.cells #[.string s, .string r] t)) (.slice (some ⟨w.heap.size, 0, none⟩) 2 2) 1 [s, r].length ([s, r].map Value.string) :=
  ⟨_, 2, rfl, Nat.le_refl _, by simp [maxLen], by simp, by simp [Value.oneCell'], by simp, .inr ⟨w.heap.size, 0, rfl, fun j u hj => by
    match j, hj with
    | 0, hj =>
      simp at hj
      subst hj
      exact (Blk.made w [.string s, .string r] t).cell (j := 0) rfl
    | 1, hj =>
      simp at hj
      subst hj
      exact (Blk.made w [.string s, .string r] t).cell (j := 1) rfl
    | j + 2, hj => simp at hj⟩⟩
theorem toLr_ne {s t : ByteArray} (h : s ≠ t) : (s.toList == t.toList) = false := by
  rw [Lib.toList_data, Lib.toList_data]
  simp only [beq_eq_false_iff_ne, ne_eq]
  exact fun e => h (by cases s; cases t; simp only at e; rw [Array.toList_inj.1 e])

section
variable (g : Nat) (vF : Value) (D : Dk) (L : List Rf) (M : Nat) (N : Int) (s t : ByteArray) (w : World) (h : RDk w g vF D L) (hi : DkI D M N) (hM : M ≤ 100000) (hN : N < 4611686018427387904) (hs : s.size ≤ maxLen) (ht : t.size ≤ maxLen)
include h hi hM hN hs ht
set_option maxRecDepth 100000 in
set_option maxHeartbeats 4000000 in
theorem rrename_any : Calls Try.prog 49 #[ptr g, .string s, .string t] w fun e w' => e = .returned (.int .i64 (D.rename s t).1) ∧ RdTo w w' g vF L (D.rename s t).2 := by
  have hb0 := below_alloc w (.cells #[.string s, .string t] 9)
  have HB0 := Lib.hid hb0
  have h0 := h.kept hb0
  have H := Lib.hid h
  have H0 := Lib.hid h0
  have hr := hi.rise
  have hst : ∀ x ∈ [s, t], x.size ≤ maxLen := by simpa using ⟨hs, ht⟩
  have HLN : Hid (L.length ≤ 100000) := Lib.hid (by rw [h.len]; have := hi.len; omega)
  by_cases ha : D.ask [s, t] = 0
  · have HA := Lib.hid (rask0 [s, t] _ h0 (row2r w s t 9) hst ha)
    have ha1 : ¬ (D.ask [s, t] ≠ 0) := by rw [ha]; simp
    cases hp : kfnd Rf.key L s.data.toList with
    | none =>
      have HF : Hid (D.rename s t = (6, D)) := Lib.hid (by unfold Dk.rename; rw [if_neg ha1, h.get_none hp])
      have HP := Lib.hid (place_no h0 hr hp)
      clear h h0 hi hM hN hs ht hr ha ha1 hp hb0 hst
      go_enter Try.func49, Try.ntmps49
      go_wp2_with (first
        | (go_at_call 63; refine HA.out.mono ?_; rintro e w3 ⟨rfl, rfl⟩)
        | (go_at_call 64; refine HP.out.mono ?_; rintro e w3 ⟨rfl, rfl⟩))
      go_ret
      rw [HF.out]
      exact ⟨rfl, RdTo.same H.out HB0.out⟩
    | some r =>
      have HP := Lib.hid (place_yes h0 hr hp)
      obtain ⟨hk, he⟩ := kfnd_place (h.rise hr) hp
      obtain ⟨k, hkk⟩ : ∃ k, k = kpl Rf.key L s.data.toList := ⟨_, rfl⟩
      simp only [← hkk] at hk he HP
      by_cases hst2 : s = t
      · subst hst2
        have HF : Hid (D.rename s s = (0, D)) := Lib.hid (by unfold Dk.rename; rw [if_neg ha1, h.get_some hp]; simp)
        clear h h0 hi hM hN hs ht hr ha ha1 hp hb0 hst hk he hkk
        go_enter Try.func49, Try.ntmps49
        go_wp2_with (first
          | (go_at_call 63; refine HA.out.mono ?_; rintro e w3 ⟨rfl, rfl⟩)
          | (go_at_call 64; refine HP.out.mono ?_; rintro e w3 ⟨rfl, rfl⟩))
        go_ret
        rw [HF.out]
        exact ⟨rfl, RdTo.same H.out HB0.out⟩
      · have hne := toLr_ne hst2
        rcases rcases_may D with hm | hm
        · have HF : Hid (D.rename s t = (0, (D.stepped.cut s).put { r.f with n := t })) := Lib.hid (by unfold Dk.rename; rw [if_neg ha1, h.get_some hp]; simp only; rw [if_neg hst2, if_pos hm])
          have HST := Lib.hid (rstep_yes g vF D L M N _ h0 hi hN hm)
          have hmem := (kfnd_mem hp).1
          have HM := Lib.hid hmem
          obtain ⟨pv, pc, hv, hpc, -⟩ := own_slice (h0.body r hmem)
          have HV := Lib.hid hv
          have HCUT : Hid (∀ w5, RDk w5 g vF D.stepped L → Calls Try.prog 68 #[ptr g, .int .i64 (k : Int)] w5 fun e w' => e = .returned (.tuple #[]) ∧ ∃ vF', RDk w' g vF' (D.stepped.cut s) (L.eraseIdx k) ∧ RSt w5 w' g vF vF' L (L.eraseIdx k) ∧ Frp (fun j => j = g) w5 w') := Lib.hid (fun w5 h5 => rcut_any g k vF D.stepped (D.stepped.cut s) L w5 h5 hk HLN.out (by rw [hkk]; exact cut_erase h5 hr hp) (fun _ => rfl))
          obtain ⟨q, c, hvF, hc, -, -, -⟩ := h0.at hk
          have HVF := Lib.hid hvF
          have HFC : Hid (∀ w6, RDk w6 g vF D.stepped L → w6.cell? ⟨g, 1, none⟩ = some (.slice (some ⟨q, 0, none⟩) L.length c) ∧ w6.cell? ⟨q, k * 3, none⟩ = some (.string r.f.n) ∧ w6.cell? ⟨q, k * 3 + 1, none⟩ = some (.slice pv r.f.b.length pc) ∧ w6.cell? ⟨q, k * 3 + 2, none⟩ = some (.int .i64 (r.f.s : Int))) := Lib.hid (fun w6 h6 => by
            obtain ⟨q2, c2, e, -, e0, e1, e2⟩ := h6.at hk
            rw [hvF] at e
            simp only [Value.slice.injEq, Option.some.injEq, Addr.mk.injEq, and_true, true_and] at e
            obtain ⟨rfl, rfl⟩ := e
            rw [he] at e0 e1 e2
            exact ⟨by rw [← hvF]; exact h6.blk.cell (j := 1) rfl, e0, by rw [← hv]; exact e1, e2⟩)
          have HRC : Hid (KRise Fl.key (D.stepped.cut s).F) := Lib.hid (hr.rem _)
          have HT := Lib.hid ht
          have HLE : Hid ((L.eraseIdx k).length ≤ 100000) := Lib.hid (Nat.le_trans (List.length_eraseIdx_le L k) HLN.out)
          have b0 : (0 : Int) ≤ (k : Int) := by omega
          have i1 : (k : Int) < (L.length : Int) := by omega
          have HLT : Hid (∀ y, fpR g vF L y → y < w.heap.size) := Lib.hid (fun y hy => h.lt hy)
          clear h h0 hi hM hN hs ht hr ha ha1 hp hb0 hst hk he hkk hst2 hm hmem hv hvF
          go_enter Try.func49, Try.ntmps49
          go_upto_region 12 with (first
            | (go_at_call 63; refine HA.out.mono ?_; rintro e w3 ⟨rfl, rfl⟩)
            | (go_at_call 64; refine HP.out.mono ?_; rintro e w3 ⟨rfl, rfl⟩)
            | (go_at_call 65; refine HST.out.mono ?_; rintro e w5 ⟨rfl, h5, s5⟩; have H5 := Lib.hid h5; have S5 := Lib.hid s5; obtain ⟨x0, x1, x2, x3⟩ := HFC.out _ h5; clear h5 s5))
          clear x0 x1 x2 x3
          obtain ⟨w6, hw6⟩ : ∃ w6, w6 = w5.alloc (.cells #[.string r.f.n, .slice pv r.f.b.length pc, .int .i64 (r.f.s : Int)] 86) := ⟨_, rfl⟩
          obtain ⟨z, hz⟩ : ∃ z, z = w5.heap.size := ⟨_, rfl⟩
          have hb6 : Below w5.heap.size w5 w6 := by rw [hw6]; exact below_alloc _ _
          have HBX : Hid (Blk w6 z [.string r.f.n, .slice pv r.f.b.length pc, .int .i64 (r.f.s : Int)] 86) := Lib.hid (by rw [hw6, hz]; exact Blk.made w5 _ _)
          have H6 := Lib.hid (H5.out.kept hb6)
          have HZ : Hid (w.heap.size ≤ z) := Lib.hid (by rw [hz]; have h1 := S5.out.fr.size; simp at h1; omega)
          have HBD : Hid (Fresh 0 w6 r.v r.f.b) := Lib.hid (H6.out.body r HM.out)
          have HS6 := Lib.hid (S5.out.trans (RSt.of_below hb6))
          have HZ2 : Hid (z = w5.heap.size) := Lib.hid hz
          rw [← hw6, ← hz]
          clear hw6 hz hb6
          go_upto_region 13 with (go_at_call 68; refine (HCUT.out _ H6.out).mono ?_; rintro e w7 ⟨rfl, v7, h7, s7, f7⟩; have H7 := Lib.hid h7; have S7 := Lib.hid s7; have F7 := Lib.hid f7; clear h7 s7 f7)
          have HZG : Hid (z ≠ g) := Lib.hid (fun e => by have := HLT.out g (.inl rfl); have := HZ.out; omega)
          have HBX7 := Lib.hid (HBX.out.frp F7.out HZG.out)
          have HBD7 : Hid (Fresh 0 w7 r.v r.f.b) := Lib.hid (own_frp HBD.out F7.out (fun y hy e => by subst e; exact own_ty HBD.out H6.out.blk (by decide) hy))
          have HLT7 : Hid (∀ y, fpR g v7 (L.eraseIdx k) y → y ≠ z) := Lib.hid (fun y hy e => by
            subst e
            rcases S7.out.new y hy with h1 | h1
            · have := HLT.out y h1
              have := HZ.out
              omega
            · have := HBX.out.lt
              omega)
          have HPUT : Hid (∀ w8 v8 D8 L8, RDk w8 g v8 D8 L8 → KRise Fl.key D8.F → L8.length ≤ 100000 → kfnd Rf.key L8 t.data.toList = none → Fresh 0 w8 r.v r.f.b → kput Fl.key D8.F { r.f with n := t } = kput Fl.key (D.stepped.cut s).F { r.f with n := t } → (∀ v, rdC v D8 = rdC v (D.stepped.cut s)) →
              Calls Try.prog 66 #[ptr g, .agg #[.string t, .slice pv r.f.b.length pc, .int .i64 (r.f.s : Int)]] w8 fun e w' => e = .returned (.tuple #[]) ∧ ∃ vF' L', RDk w' g vF' ((D.stepped.cut s).put { r.f with n := t }) L' ∧ RSt w8 w' g v8 vF' (⟨{ r.f with n := t }, r.v⟩ :: L8) L') := Lib.hid (fun w8 v8 D8 L8 h8 r8 l8 n8 f8 e8 c8 => by
            have := rput_any g v8 D8 ((D.stepped.cut s).put { r.f with n := t }) L8 ⟨{ r.f with n := t }, r.v⟩ w8 h8 r8 f8 l8 (by
              show kput Fl.key (D.stepped.cut s).F { r.f with n := t } = _
              rw [← e8]
              exact put_new (f := { r.f with n := t }) h8 r8 n8) (fun v => (c8 v).symm)
            rw [HV.out] at this
            rw [HV.out]
            exact this.mono fun e w' ⟨he, v', h1, h2⟩ => ⟨he, v', _, h1, h2⟩)
          have HSUB : Hid (∀ k, (r.v).ownBlock = some k → fpR g vF L k) := Lib.hid (fun y hy => .inr (.inr ⟨r, HM.out, hy⟩))
          cases hq : kfnd Rf.key (L.eraseIdx k) t.data.toList with
          | none =>
            have HP2 := Lib.hid (place_no H7.out HRC.out hq)
            have HQ := Lib.hid hq
            clear hq
            have y0 := HBX7.out.cell (j := 0) rfl
            have y1 := HBX7.out.cell (j := 1) rfl
            have y2 := HBX7.out.cell (j := 2) rfl
            have fz := HBX7.out.free 0
            go_upto_region 17 with (go_at_call 64; refine HP2.out.mono ?_; rintro e w8 ⟨rfl, rfl⟩)
            obtain ⟨w9, hw9⟩ : ∃ w9, w9 = w7.setCell ⟨z, 0, none⟩ (.string t) := ⟨_, rfl⟩
            rw [← hw9]
            have hfz : Frp (fun j => j = z) w7 w9 := by rw [hw9]; exact (Frp.refl (fun j => j = z) w7).set (p := ⟨z, 0, none⟩) rfl _
            have HBX9 : Hid (Blk w9 z [.string t, .slice pv r.f.b.length pc, .int .i64 (r.f.s : Int)] 86) := Lib.hid (by rw [hw9]; exact HBX7.out.set 0 _)
            have H9 : Hid (RDk w9 g v7 (D.stepped.cut s) (L.eraseIdx k)) := Lib.hid (H7.out.frp hfz (fun y hy => HLT7.out y hy))
            have HBD9 : Hid (Fresh 0 w9 r.v r.f.b) := Lib.hid (own_frp HBD7.out hfz (fun y hy e => by subst e; exact own_ty HBD7.out HBX7.out (by decide) hy))
            have HFZ := Lib.hid hfz
            have HNF9 : Hid (kfnd Rf.key (L.eraseIdx k) t.data.toList = none) := Lib.hid (HQ.out)
            clear hw9 y0 y1 y2 fz hfz
            have y0 := HBX9.out.cell (j := 0) rfl
            have y1 := HBX9.out.cell (j := 1) rfl
            have y2 := HBX9.out.cell (j := 2) rfl
            go_wp2_with (go_at_call 66; refine (HPUT.out _ _ _ _ H9.out HRC.out HLE.out HNF9.out HBD9.out rfl (fun _ => rfl)).mono ?_; rintro e w10 ⟨rfl, v10, L10, h10, s10⟩; have H10 := Lib.hid h10; have S10 := Lib.hid s10; clear h10 s10)
            go_ret
            rw [HF.out]
            refine ⟨rfl, v10, L10, H10.out, RSt.box ?_ HB0.out⟩
            have hA : RSt (w.alloc (.cells #[.string s, .string t] 9)) w7 g vF v7 L (L.eraseIdx k) := HS6.out.trans S7.out
            have hZ0 : (w.alloc (.cells #[.string s, .string t] 9)).heap.size ≤ z := by have h1 := S5.out.fr.size; have := HZ2.out; omega
            have hsub : ∀ yy, fpR g v7 (⟨{ r.f with n := t }, r.v⟩ :: (L.eraseIdx k)) yy → fpR g vF L yy ∨ (w.alloc (.cells #[.string s, .string t] 9)).heap.size ≤ yy := fun y hy => by
              rcases hy with hy | hy | ⟨x, hx, hy⟩
              · exact hA.new y (.inl hy)
              · exact hA.new y (.inr (.inl hy))
              · rcases List.mem_cons.1 hx with rfl | hx
                · exact .inl (HSUB.out y hy)
                · exact hA.new y (.inr (.inr ⟨x, hx, hy⟩))
            refine ⟨((hA.fr.trans HFZ.out (fun y hy => .inr (by rw [hy]; exact hZ0))).trans S10.out.fr hsub), fun y hy => ?_⟩
            rcases S10.out.new y hy with h1 | h1
            · exact hsub y h1
            · exact .inr (by have h2 := hA.fr.size; have h3 := HFZ.out.size; omega)
          | some r2 =>
            have HP2 := Lib.hid (place_yes H7.out HRC.out hq)
            obtain ⟨hk2, he2⟩ := kfnd_place (H7.out.rise HRC.out) hq
            obtain ⟨k2, hkk2⟩ : ∃ k2, k2 = kpl Rf.key (L.eraseIdx k) t.data.toList := ⟨_, rfl⟩
            simp only [← hkk2] at hk2 he2 HP2
            have HCUT2 : Hid (Calls Try.prog 68 #[ptr g, .int .i64 (k2 : Int)] w7 fun e w' => e = .returned (.tuple #[]) ∧ ∃ vF', RDk w' g vF' ((D.stepped.cut s).cut t) ((L.eraseIdx k).eraseIdx k2) ∧ RSt w7 w' g v7 vF' (L.eraseIdx k) ((L.eraseIdx k).eraseIdx k2) ∧ Frp (fun j => j = g) w7 w') := Lib.hid (rcut_any g k2 v7 (D.stepped.cut s) ((D.stepped.cut s).cut t) (L.eraseIdx k) w7 H7.out hk2 HLE.out (by rw [hkk2]; exact cut_erase H7.out HRC.out hq) (fun _ => rfl))
            have HNF : Hid (∀ w8 v8, RDk w8 g v8 ((D.stepped.cut s).cut t) ((L.eraseIdx k).eraseIdx k2) → kfnd Rf.key ((L.eraseIdx k).eraseIdx k2) t.data.toList = none) := Lib.hid (fun w8 v8 h8 => by
              have e1 := h8.find t.data.toList
              have e2 : kfnd Fl.key ((D.stepped.cut s).cut t).F t.data.toList = none := kfnd_no (fun e he => ((krem_mem _ _ e).1 he).2)
              rw [e2] at e1
              cases hx : kfnd Rf.key ((L.eraseIdx k).eraseIdx k2) t.data.toList with
              | none => rfl
              | some y => rw [hx] at e1; cases e1)
            clear hq he2 hk2 hkk2
            go_upto_region 16 with (first
              | (go_at_call 64; refine HP2.out.mono ?_; rintro e w8 ⟨rfl, rfl⟩)
              | (go_at_call 68; refine HCUT2.out.mono ?_; rintro e w8 ⟨rfl, v8, h8, s8, f8⟩; have H8 := Lib.hid h8; have S8 := Lib.hid s8; have F8 := Lib.hid f8; clear h8 s8 f8))
            have HBX8 := Lib.hid (HBX7.out.frp F8.out HZG.out)
            have HBD8 : Hid (Fresh 0 w8 r.v r.f.b) := Lib.hid (own_frp HBD7.out F8.out (fun y hy e => by subst e; exact own_ty HBD7.out H7.out.blk (by decide) hy))
            have HLT8 : Hid (∀ y, fpR g v8 ((L.eraseIdx k).eraseIdx k2) y → y ≠ z) := Lib.hid (fun y hy e => by
              rcases S8.out.new y hy with h1 | h1
              · exact HLT7.out y h1 e
              · have := HBX7.out.lt
                omega)
            have y0 := HBX8.out.cell (j := 0) rfl
            have y1 := HBX8.out.cell (j := 1) rfl
            have y2 := HBX8.out.cell (j := 2) rfl
            have fz := HBX8.out.free 0
            go_upto_region 17 with fail
            obtain ⟨w9, hw9⟩ : ∃ w9, w9 = w8.setCell ⟨z, 0, none⟩ (.string t) := ⟨_, rfl⟩
            rw [← hw9]
            have hfz : Frp (fun j => j = z) w8 w9 := by rw [hw9]; exact (Frp.refl (fun j => j = z) w8).set (p := ⟨z, 0, none⟩) rfl _
            have HBX9 : Hid (Blk w9 z [.string t, .slice pv r.f.b.length pc, .int .i64 (r.f.s : Int)] 86) := Lib.hid (by rw [hw9]; exact HBX8.out.set 0 _)
            have H9 : Hid (RDk w9 g v8 ((D.stepped.cut s).cut t) ((L.eraseIdx k).eraseIdx k2)) := Lib.hid (H8.out.frp hfz (fun y hy => HLT8.out y hy))
            have HBD9 : Hid (Fresh 0 w9 r.v r.f.b) := Lib.hid (own_frp HBD8.out hfz (fun y hy e => by subst e; exact own_ty HBD8.out HBX8.out (by decide) hy))
            have HFZ := Lib.hid hfz
            have HNF9 : Hid (kfnd Rf.key ((L.eraseIdx k).eraseIdx k2) t.data.toList = none) := Lib.hid (HNF.out _ _ H8.out)
            clear hw9 y0 y1 y2 fz hfz
            have y0 := HBX9.out.cell (j := 0) rfl
            have y1 := HBX9.out.cell (j := 1) rfl
            have y2 := HBX9.out.cell (j := 2) rfl
            go_wp2_with (go_at_call 66; refine (HPUT.out _ _ _ _ H9.out (HRC.out.rem _) (Nat.le_trans (List.length_eraseIdx_le _ _) HLE.out) HNF9.out HBD9.out (kput_krem (key := Fl.key) (D.stepped.cut s).F { r.f with n := t }) (fun _ => rfl)).mono ?_; rintro e w10 ⟨rfl, v10, L10, h10, s10⟩; have H10 := Lib.hid h10; have S10 := Lib.hid s10; clear h10 s10)
            go_ret
            rw [HF.out]
            refine ⟨rfl, v10, L10, H10.out, RSt.box ?_ HB0.out⟩
            have hA : RSt (w.alloc (.cells #[.string s, .string t] 9)) w8 g vF v8 L ((L.eraseIdx k).eraseIdx k2) := (HS6.out.trans S7.out).trans S8.out
            have hZ0 : (w.alloc (.cells #[.string s, .string t] 9)).heap.size ≤ z := by have h1 := S5.out.fr.size; have := HZ2.out; omega
            have hsub : ∀ yy, fpR g v8 (⟨{ r.f with n := t }, r.v⟩ :: ((L.eraseIdx k).eraseIdx k2)) yy → fpR g vF L yy ∨ (w.alloc (.cells #[.string s, .string t] 9)).heap.size ≤ yy := fun y hy => by
              rcases hy with hy | hy | ⟨x, hx, hy⟩
              · exact hA.new y (.inl hy)
              · exact hA.new y (.inr (.inl hy))
              · rcases List.mem_cons.1 hx with rfl | hx
                · exact .inl (HSUB.out y hy)
                · exact hA.new y (.inr (.inr ⟨x, hx, hy⟩))
            refine ⟨((hA.fr.trans HFZ.out (fun y hy => .inr (by rw [hy]; exact hZ0))).trans S10.out.fr hsub), fun y hy => ?_⟩
            rcases S10.out.new y hy with h1 | h1
            · exact hsub y h1
            · exact .inr (by have h2 := hA.fr.size; have h3 := HFZ.out.size; omega)
        · have HF : Hid (D.rename s t = (10, D.dead)) := Lib.hid (by unfold Dk.rename; rw [if_neg ha1, h.get_some hp]; simp only; rw [if_neg hst2, if_neg (by rw [hm]; simp)])
          have HST := Lib.hid (rstep_no g vF D L _ h0 hm)
          clear h h0 hi hM hN hs ht hr ha ha1 hp hb0 hst hk he hkk hst2 hm
          go_enter Try.func49, Try.ntmps49
          go_wp2_with (first
            | (go_at_call 63; refine HA.out.mono ?_; rintro e w3 ⟨rfl, rfl⟩)
            | (go_at_call 64; refine HP.out.mono ?_; rintro e w3 ⟨rfl, rfl⟩)
            | (go_at_call 65; refine HST.out.mono ?_; rintro e w5 ⟨rfl, h5, s5⟩; have H5 := Lib.hid h5; have S5 := Lib.hid s5; clear h5 s5))
          go_ret
          rw [HF.out]
          exact ⟨rfl, vF, L, H5.out, S5.out.box HB0.out⟩
  · have HA := Lib.hid (rasked_any g vF D L [s, t] _ _ h0 (row2r w s t 9) hst)
    have HF : Hid (D.rename s t = (D.ask [s, t], D)) := Lib.hid (by unfold Dk.rename; rw [if_pos ha])
    obtain ⟨q, hq⟩ : ∃ q, q = D.ask [s, t] := ⟨_, rfl⟩
    rw [← hq] at ha HF HA
    have q0 : (q != 0) = true := by simpa using ha
    clear h h0 hi hM hN hs ht hr ha hq hb0 hst
    go_enter Try.func49, Try.ntmps49
    go_wp2_with (go_at_call 63; refine HA.out.mono ?_; rintro e w3 ⟨rfl, rfl⟩)
    go_ret
    rw [HF.out]
    exact ⟨rfl, RdTo.same H.out HB0.out⟩
end
end Go.Proofs.Ytgcemddobcjpnaa
namespace Go.Proofs.Ytgcemddobcjpnaa
open Go.RowKit

theorem zero_run {P : Program} {t : TypeId} {z : Value} (h : (P.info? t).bind (·.zero) = some z) (w : World) : (zeroValue t).run P w = .ok z w := by
  cases hi : P.info? t with
  | none => rw [hi] at h; cases h
  | some i =>
    rw [hi] at h
    have hz : i.zero = some z := h
    simp [zeroValue, typeInfo, hi, hz, Result.andThen]
theorem fzero (w : World) : (zeroValue 66).run Try.prog w = .ok (.pointer none) w := zero_run (by kernel_rfl) w
theorem row1 (w : World) (s : ByteArray) (t : TypeId) : Row (w.alloc (.cells #[.string s] t)) (.slice (some ⟨w.heap.size, 0, none⟩) 1 1) 1 [s].length ([s].map Value.string) :=
  ⟨_, 1, rfl, Nat.le_refl _, by simp [maxLen], by simp, by simp [Value.oneCell'], by simp, .inr ⟨w.heap.size, 0, rfl, fun j u hj => by
    match j, hj with
    | 0, hj =>
      simp at hj
      subst hj
      exact (Blk.made w [.string s] t).cell (j := 0) rfl
    | j + 1, hj => simp at hj⟩⟩
theorem row2 (w : World) (s r : ByteArray) (t : TypeId) : Row (w.alloc (.cells #[.string s, .string r] t)) (.slice (some ⟨w.heap.size, 0, none⟩) 2 2) 1 [s, r].length ([s, r].map Value.string) :=
  ⟨_, 2, rfl, Nat.le_refl _, by simp [maxLen], by simp, by simp [Value.oneCell'], by simp, .inr ⟨w.heap.size, 0, rfl, fun j u hj => by
    match j, hj with
    | 0, hj =>
      simp at hj
      subst hj
      exact (Blk.made w [.string s, .string r] t).cell (j := 0) rfl
    | 1, hj =>
      simp at hj
      subst hj
      exact (Blk.made w [.string s, .string r] t).cell (j := 1) rfl
    | j + 2, hj => simp at hj⟩⟩
theorem kget_some {L : List Pf} {s : List UInt8} {p : Pf} (h : kfnd Pf.key L s = some p) : (kM Pf.key Pf.val L).get s = some (ptr p.a) ∧ (kM Pf.key Pf.val L).hasK s = true := by rw [kM_get, kM_has, h]; exact ⟨rfl, rfl⟩
theorem kget_none {L : List Pf} {s : List UInt8} (h : kfnd Pf.key L s = none) : (kM Pf.key Pf.val L).get s = none ∧ (kM Pf.key Pf.val L).hasK s = false := by rw [kM_get, kM_has, h]; exact ⟨rfl, rfl⟩

theorem ask0 (b mb : Nat) (D : Dk) (L : List Pf) (l : List ByteArray) (v : Value) (w : World) (h : PDk w b mb D L) (hv : Row w v 1 l.length (l.map Value.string)) (hl : ∀ s ∈ l, s.size ≤ maxLen) (ha : D.ask l = 0) :
    Calls Try.prog 33 #[ptr b, v] w fun e w' => e = .returned (.int .i64 0) ∧ Below w.heap.size w w' :=
  (asked_any b mb D L l v w h hv hl).mono fun _ _ ⟨h1, h2⟩ => ⟨by rw [h1, ha], h2⟩
section
variable (b mb : Nat) (D : Dk) (L : List Pf) (s : ByteArray) (w : World) (h : PDk w b mb D L) (hs : s.size ≤ maxLen)
include h hs
set_option maxRecDepth 100000 in
set_option maxHeartbeats 1000000 in
theorem find_yes (ha : D.ask [s] = 0) (p : Pf) (hp : kfnd Pf.key L s.data.toList = some p) :
    Calls Try.prog 36 #[ptr b, .string s] w fun e w' => e = .returned (.tuple #[ptr p.a, .int .i64 0]) ∧ Below w.heap.size w w' := by
  have H := Lib.hid h
  have HS := Lib.hid hs
  have HG := Lib.hid (kget_some hp)
  have HA := Lib.hid (ask0 b mb D L [s] _ _ (h.kept (below_alloc w (.cells #[.string s] 9))) (row1 w s 9) (by simpa using hs) ha)
  have HB0 := Lib.hid (below_alloc w (.cells #[.string s] 9))
  clear h hs ha hp
  go_enter Try.func36, Try.ntmps36
  go_wp2_with (first
    | (go_at_call 33; refine HA.out.mono ?_; rintro e w3 ⟨rfl, hb⟩; have H3 := Lib.hid (H.out.kept (below_and HB0.out hb)); have c0 := H3.out.blk.cell (j := 0) rfl; have HB3 := Lib.hid (below_and HB0.out hb); clear hb)
    | (at_lookup; refine wpList_slook _ rfl _ _ _ rfl 9 66 Try.underlying9 Try.underlying52 (fzero _) mb (kM Pf.key Pf.val L) rfl H3.out.map s rfl HS.out ?_; rw [HG.out.1]; simp only [Option.getD_some]))
  go_ret2
  exact ⟨rfl, HB3.out⟩
set_option maxRecDepth 100000 in
set_option maxHeartbeats 1000000 in
theorem find_no (ha : D.ask [s] = 0) (hp : kfnd Pf.key L s.data.toList = none) :
    Calls Try.prog 36 #[ptr b, .string s] w fun e w' => e = .returned (.tuple #[.pointer none, .int .i64 6]) ∧ Below w.heap.size w w' := by
  have H := Lib.hid h
  have HS := Lib.hid hs
  have HG := Lib.hid (kget_none hp)
  have HA := Lib.hid (ask0 b mb D L [s] _ _ (h.kept (below_alloc w (.cells #[.string s] 9))) (row1 w s 9) (by simpa using hs) ha)
  have HB0 := Lib.hid (below_alloc w (.cells #[.string s] 9))
  clear h hs ha hp
  go_enter Try.func36, Try.ntmps36
  go_wp2_with (first
    | (go_at_call 33; refine HA.out.mono ?_; rintro e w3 ⟨rfl, hb⟩; have H3 := Lib.hid (H.out.kept (below_and HB0.out hb)); have c0 := H3.out.blk.cell (j := 0) rfl; have HB3 := Lib.hid (below_and HB0.out hb); clear hb)
    | (at_lookup; refine wpList_slook _ rfl _ _ _ rfl 9 66 Try.underlying9 Try.underlying52 (fzero _) mb (kM Pf.key Pf.val L) rfl H3.out.map s rfl HS.out ?_; rw [HG.out.1]; simp only [Option.getD_none]))
  go_ret2
  exact ⟨rfl, HB3.out⟩
set_option maxRecDepth 100000 in
set_option maxHeartbeats 1000000 in
theorem find_bad (ha : D.ask [s] ≠ 0) :
    Calls Try.prog 36 #[ptr b, .string s] w fun e w' => e = .returned (.tuple #[.pointer none, .int .i64 (D.ask [s])]) ∧ Below w.heap.size w w' := by
  have H := Lib.hid h
  have HA := Lib.hid (asked_any b mb D L [s] _ _ (h.kept (below_alloc w (.cells #[.string s] 9))) (row1 w s 9) (by simpa using hs))
  have HB0 := Lib.hid (below_alloc w (.cells #[.string s] 9))
  obtain ⟨q, hq⟩ : ∃ q, q = D.ask [s] := ⟨_, rfl⟩
  rw [← hq] at ha HA ⊢
  have q0 : (q != 0) = true := by simpa using ha
  clear h hs ha hq
  go_enter Try.func36, Try.ntmps36
  go_wp2_with (go_at_call 33; refine HA.out.mono ?_; rintro e w3 ⟨rfl, hb⟩; have HB3 := Lib.hid (below_and HB0.out hb); clear hb)
  go_ret2
  exact ⟨rfl, HB3.out⟩
end

/-! left -/
set_option maxRecDepth 100000 in
set_option maxHeartbeats 2000000 in
theorem left_any (b mb : Nat) (D : Dk) (L : List Pf) (M : Nat) (N : Int) (w : World) (h : PDk w b mb D L) (hi : DkI D M N) :
    Calls Try.prog 37 #[ptr b] w fun e w' => e = .returned (.int .i64 D.left) ∧ Below w.heap.size w w' := by
  have H := Lib.hid h
  have c0 := h.blk.cell (j := 0) rfl
  have c1 := h.blk.cell (j := 1) rfl
  have HAP := Lib.hid (h.rise hi.rise).apart
  have hsum : ksum (fun p : Pf => lenF p.f) L = Dk.bytes D.F := by rw [bytes_sum, ← h.eq, ksum_map]
  have HSU := Lib.hid hsum
  have hn : ∀ p ∈ L, 0 ≤ lenF p.f := fun p _ => by unfold lenF; omega
  have HN := Lib.hid hn
  have hf := hi.fits
  have hr := hi.room
  have HF := Lib.hid hf
  have HR := Lib.hid hr
  clear h hi hsum hn hf hr
  go_enter Try.func37, Try.ntmps37
  go_wp2_with (at_range; refine wpList_srange _ rfl _ _ rfl 9 66 Try.underlying9 Try.underlying52 mb (kM Pf.key Pf.val L) rfl H.out.map ?_; intro w4 hrg0 hb0 hs0; have HRG := Lib.hid hrg0; have HB4 := Lib.hid hb0; have HS4 := Lib.hid hs0; clear hrg0 hb0 hs0)
  go_frame
  go_loopw [3, 15] (fun n _ wr => ∃ (left : Lit → Bool) (cnt : Nat), n = .int .i64 (D.room - kdone Pf.key (fun p => lenF p.f) left L) ∧ Hid (SRange Try.prog 9 wr mb w.heap.size (kM Pf.key Pf.val L) left cnt) ∧ Hid (Below w.heap.size w wr)) (fun _ _ wr => wr.rangeLeft mb w.heap.size)
  case atStart =>
    refine ⟨_, _, ?_, HRG, HB4⟩
    rw [kdone_start (fun e he => by
      show Maps.has (kM Pf.key Pf.val L).dat (.string e.key) = true
      rw [SM.dat_has, kM_has, kfnd_of HAP.out he]; rfl), Int.sub_zero]
  case round =>
    obtain ⟨left, cnt, rfl, HRL, HB⟩ := hrel
    have hbd := kdone_bd (key := Pf.key) (f := fun p : Pf => lenF p.f) (L := L) left HN.out
    rw [HSU.out] at hbd
    obtain ⟨d, hd⟩ : ∃ d, d = kdone Pf.key (fun p : Pf => lenF p.f) left L := ⟨_, rfl⟩
    rw [← hd] at hbd ⊢
    obtain ⟨bd1, bd2⟩ := hbd
    have i1 : d ≤ D.room := by have := HF.out; omega
    have i2 : D.room ≤ 1073741824 := HR.out
    have HD := Lib.hid hd
    clear hd bd2
    go_wp2_with (at_next; refine wpList_snext _ rfl _ rfl 9 Try.underlying9 mb w.heap.size (kM Pf.key Pf.val L) left cnt rfl HRL.out ?_ ?_)
    · intro hl0
      have HE : Hid (d = Dk.bytes D.F) := Lib.hid (by rw [HD.out, kdone_end hl0, HSU.out])
      clear hl0
      go_wp2
      go_ret
      exact ⟨ret_int (by rw [HE.out]; rfl), HB.out⟩
    · intro x c w5 cnt5 hlx hgx hrg5 hlt5 hg5 hs5 hen
      obtain ⟨p, hfe, hc⟩ : ∃ p, kfnd Pf.key L x.data.toList = some p ∧ c = ptr p.a := by
        rw [kM_get] at hgx
        cases hq : kfnd Pf.key L x.data.toList with
        | none => rw [hq] at hgx; cases hgx
        | some e => rw [hq] at hgx; exact ⟨e, rfl, (Option.some.inj hgx).symm⟩
      subst hc
      obtain ⟨hem, hek⟩ := kfnd_mem hfe
      rw [← hek] at hlx hrg5
      have HB5 : Hid (Below w.heap.size w w5) := Lib.hid (HB.out.trans (grown_below hg5 (Nat.le_refl _) HB.out.size))
      have HR5 := Lib.hid hrg5
      have HL5 := Lib.hid hlt5
      have hst := kdone_step (f := fun p : Pf => lenF p.f) HAP.out hem hlx
      have hbd5 := kdone_bd (key := Pf.key) (f := fun p : Pf => lenF p.f) (L := L) (fun z => left z && !z.sameKey (.string p.key)) HN.out
      rw [HSU.out] at hbd5
      have hbd6 := hbd5.2
      rw [hst, ← HD.out] at hbd6
      have e0 := ((H.out.kept HB5.out).file p hem).cell (j := 0) rfl
      obtain ⟨q, k, hv, -, -⟩ := own_slice ((H.out.kept HB5.out).body p hem)
      rw [hv] at e0
      have i3 : (p.f.b.length : Int) ≤ D.room - d := by have := HF.out; unfold lenF at hbd6; omega
      have i4 : (0 : Int) ≤ (p.f.b.length : Int) := by omega
      have HST : Hid (kdone Pf.key (fun p : Pf => lenF p.f) (fun z => left z && !z.sameKey (.string p.key)) L = d + (p.f.b.length : Int)) := Lib.hid (by rw [hst, ← HD.out]; rfl)
      clear hgx hfe hem hek hlx hrg5 hlt5 hg5 hs5 hst hbd5 hbd6 hv
      go_wp2
      go_roundw
      case rel => exact ⟨_, cnt5, by rw [HST.out]; go_num, HR5, HB5⟩
      case measure => rw [HR5.out.left, HRL.out.left]; exact HL5.out

/-! step -/
theorem may_no {D : Dk} (h : D.may = false) : D.fused = true ∧ D.fuse = 0 := by
  unfold Dk.may at h
  simpa using h
theorem may_yes {D : Dk} (h : D.may = true) : D.fused = false ∨ (D.fused = true ∧ D.fuse ≠ 0) := by
  unfold Dk.may at h
  cases hf : D.fused
  · exact .inl rfl
  · rw [hf] at h
    exact .inr ⟨rfl, by simpa using h⟩
set_option maxRecDepth 100000 in
set_option maxHeartbeats 1000000 in
theorem step_no (b mb : Nat) (D : Dk) (L : List Pf) (w : World) (h : PDk w b mb D L) (hm : D.may = false) (v : Value) :
    Calls Try.prog 34 #[ptr b, v] w fun e w' => e = .returned (.int .i64 10) ∧ PDk w' b mb D.dead L ∧ Frp (fun k => k = b) w w' := by
  have H := Lib.hid h
  obtain ⟨h1, h2⟩ := may_no hm
  have c2 := h.blk.cell (j := 2) rfl
  have c3 := h.blk.cell (j := 3) rfl
  have f4 := h.blk.free 4
  rw [h1] at c2
  rw [h2] at c3
  have d4 := h.blk.cell (j := 4) rfl
  clear h hm h1 h2
  go_enter Try.func34, Try.ntmps34
  go_wp2
  go_ret
  have hf : Frp (fun k => k = b) w (w.setCell ⟨b, 4, none⟩ (.bool true)) := (Frp.refl (fun k => k = b) w).set (p := ⟨b, 4, none⟩) rfl _
  exact ⟨rfl, H.out.flds rfl hf (H.out.blk.set 4 _), hf⟩
set_option maxRecDepth 100000 in
set_option maxHeartbeats 2000000 in
theorem step_yes (b mb : Nat) (D : Dk) (L : List Pf) (M : Nat) (N : Int) (w : World) (h : PDk w b mb D L) (hi : DkI D M N) (hN : N < 4611686018427387904) (hm : D.may = true) (f : FuncId) (caps : Array Value) (Q : World → Prop)
    (eg : ∀ args w, (callFunc f args).run Try.prog w = .ok (.enter f args) w) (hq : ∀ w1, PDk w1 b mb D.stepped L → Frp (fun k => k = b) w w1 → Calls Try.prog f caps w1 fun e w' => e = .returned (.tuple #[]) ∧ Q w') :
    Calls Try.prog 34 #[ptr b, .func (.func f) #[] caps] w fun e w' => e = .returned (.int .i64 0) ∧ Q w' := by
  have c2 := h.blk.cell (j := 2) rfl
  have c3 := h.blk.cell (j := 3) rfl
  have c5 := h.blk.cell (j := 5) rfl
  have f3 := h.blk.free 3
  have f5 := h.blk.free 5
  have s1 := hi.steps.1
  have s2 := hi.steps.2
  have s3 : D.steps ≤ 4611686018427387904 := by omega
  have u1 := hi.fuse.1
  have u2 := hi.fuse.2
  rcases may_yes hm with hfu | ⟨hfu, hne⟩
  · rw [hfu] at c2
    have hw : PDk (w.setCell ⟨b, 5, none⟩ (.int .i64 (D.steps + 1))) b mb D.stepped L := h.flds rfl ((Frp.refl (fun k => k = b) w).set (p := ⟨b, 5, none⟩) rfl _) (by
      have := h.blk.set 5 (.int .i64 (D.steps + 1))
      unfold dkC at this
      simpa [dkC, Dk.stepped, hfu] using this)
    have HC := Lib.hid (hq _ hw ((Frp.refl (fun k => k = b) w).set (p := ⟨b, 5, none⟩) rfl _))
    clear h hi hm hq hw hfu s2
    go_enter Try.func34, Try.ntmps34
    go_wp2_with (go_at_fn f; refine HC.out.mono ?_; rintro e w2 ⟨rfl, hq2⟩; have HQ := Lib.hid hq2; clear hq2)
    go_ret
    exact ⟨rfl, HQ.out⟩
  · rw [hfu] at c2
    have hne2 : (D.fuse == 0) = false := by simpa using hne
    have hf1 : Frp (fun k => k = b) w ((w.setCell ⟨b, 3, none⟩ (.int .i64 (D.fuse - 1))).setCell ⟨b, 5, none⟩ (.int .i64 (D.steps + 1))) := ((Frp.refl (fun k => k = b) w).set (p := ⟨b, 3, none⟩) rfl _).set (p := ⟨b, 5, none⟩) rfl _
    have hw : PDk ((w.setCell ⟨b, 3, none⟩ (.int .i64 (D.fuse - 1))).setCell ⟨b, 5, none⟩ (.int .i64 (D.steps + 1))) b mb D.stepped L := h.flds rfl hf1 (by
      have := (h.blk.set 3 (.int .i64 (D.fuse - 1))).set 5 (.int .i64 (D.steps + 1))
      unfold dkC at this
      simpa [dkC, Dk.stepped, hfu] using this)
    have c53 := (h.blk.set 3 (.int .i64 (D.fuse - 1))).cell (j := 5) rfl
    have HC := Lib.hid (hq _ hw hf1)
    clear h hi hm hq hw hfu s2 hf1 hne
    go_enter Try.func34, Try.ntmps34
    go_wp2_with (go_at_fn f; refine HC.out.mono ?_; rintro e w2 ⟨rfl, hq2⟩; have HQ := Lib.hid hq2; clear hq2)
    go_ret
    exact ⟨rfl, HQ.out⟩
end Go.Proofs.Ytgcemddobcjpnaa
namespace Go.Proofs.Ytgcemddobcjpnaa
open Go.RowKit

/-- the slice reads as xs, and has its block for itself -/
def OwnO (w : World) (e : TypeId) (size : Nat) (v : Value) (n : Nat) (xs : List Value) : Prop :=
  xs.length = n * size ∧ ∃ g o cap cur, v = .slice (some ⟨g, o, none⟩) n cap ∧ w.heap[g]? = some (.cells cur e (0, 0)) ∧ n ≤ cap ∧ cap ≤ maxLen ∧ o + cap * size ≤ cur.size ∧ (cur.toList.drop o).take (n * size) = xs

variable {w w' : World} {e : TypeId} {size n : Nat} {v : Value} {xs : List Value}
theorem OwnO.of_own {base : Nat} (h : w.ownsRow base e size v n xs) (hv : v ≠ .slice none 0 0) : OwnO w e size v n xs := by
  refine ⟨h.1, ?_⟩
  rcases h.2 with ⟨rfl, -⟩ | ⟨g, cap, cur, rfl, hb, hg, h1, h2, h3, h4⟩
  · exact absurd rfl hv
  · exact ⟨g, 0, cap, cur, rfl, hg, h1, h2, by omega, by simpa using h4⟩
theorem OwnO.shape (h : OwnO w e size v n xs) : ∃ g o c, v = .slice (some ⟨g, o, none⟩) n c ∧ n ≤ c ∧ c ≤ maxLen ∧ g < w.heap.size := by
  obtain ⟨-, g, o, cap, cur, rfl, hg, h1, h2, -⟩ := h
  exact ⟨g, o, cap, rfl, h1, h2, (Array.getElem?_eq_some_iff.1 hg).1⟩
theorem OwnO.lt (h : OwnO w e size v n xs) {g : Nat} (hg : v.ownBlock = some g) : g < w.heap.size := by
  obtain ⟨g', o, c, rfl, -, -, h1⟩ := h.shape
  simp [Value.ownBlock] at hg
  omega
theorem OwnO.fr {S : List Nat} (h : OwnO w e size v n xs) (hf : Fr S w w') (hg : ∀ g, v.ownBlock = some g → g ∉ S) : OwnO w' e size v n xs := by
  obtain ⟨h0, g, o, cap, cur, rfl, hh, rest⟩ := h
  refine ⟨h0, g, o, cap, cur, rfl, ?_, rest⟩
  rw [hf.block g (Array.getElem?_eq_some_iff.1 hh).1 (hg g rfl)]
  exact hh
theorem OwnO.kept (h : OwnO w e size v n xs) (hb : Below w.heap.size w w') : OwnO w' e size v n xs := h.fr (Fr.of_below hb []) (fun _ _ => by simp)
theorem OwnO.cell {g o c : Nat} (h : OwnO w e size (.slice (some ⟨g, o, none⟩) n c) n xs) {j : Nat} {u : Value} (hj : xs[j]? = some u) : w.cell? ⟨g, o + j, none⟩ = some u := by
  obtain ⟨h0, g', o', cap, cur, hv, hh, h1, h2, h3, h4⟩ := h
  simp only [Value.slice.injEq, Option.some.injEq, Addr.mk.injEq, and_true, true_and] at hv
  obtain ⟨⟨rfl, rfl⟩, rfl⟩ := hv
  have hjl : j < n * size := by rw [← h0]; exact (List.getElem?_eq_some_iff.1 hj).1
  rw [cell_of_row _ g (o + j) cur e (0, 0) hh]
  rw [← h4, List.getElem?_take_of_lt hjl, List.getElem?_drop] at hj
  simpa using hj
theorem OwnO.free {g o c : Nat} (h : OwnO w e size (.slice (some ⟨g, o, none⟩) n c) n xs) (j : Nat) : w.frozen? ⟨g, j, none⟩ = false := by
  obtain ⟨-, g', o', cap, cur, hv, hh, -⟩ := h
  simp only [Value.slice.injEq, Option.some.injEq, Addr.mk.injEq, and_true, true_and] at hv
  obtain ⟨⟨rfl, rfl⟩, rfl⟩ := hv
  exact frozen_of_row w g j cur e hh
/-- its first part -/
theorem OwnO.front {g o c : Nat} (h : OwnO w e size (.slice (some ⟨g, o, none⟩) n c) n xs) {m : Nat} (hm : m ≤ n) : OwnO w e size (.slice (some ⟨g, o, none⟩) m c) m (xs.take (m * size)) := by
  obtain ⟨h0, g', o', cap, cur, hv, hh, h1, h2, h3, h4⟩ := h
  simp only [Value.slice.injEq, Option.some.injEq, Addr.mk.injEq, and_true, true_and] at hv
  obtain ⟨⟨rfl, rfl⟩, rfl⟩ := hv
  have hmm : m * size ≤ n * size := Nat.mul_le_mul_right _ hm
  refine ⟨by rw [List.length_take]; omega, g, o, c, cur, rfl, hh, by omega, h2, h3, ?_⟩
  rw [← h4, List.take_take]
  congr 1
  omega
/-- what is left behind its first ones -/
theorem OwnO.back {g o c : Nat} (h : OwnO w e size (.slice (some ⟨g, o, none⟩) n c) n xs) {m : Nat} (hm : m ≤ n) : OwnO w e size (.slice (some ⟨g, o + m * size, none⟩) (n - m) (c - m)) (n - m) (xs.drop (m * size)) := by
  obtain ⟨h0, g', o', cap, cur, hv, hh, h1, h2, h3, h4⟩ := h
  simp only [Value.slice.injEq, Option.some.injEq, Addr.mk.injEq, and_true, true_and] at hv
  obtain ⟨⟨rfl, rfl⟩, rfl⟩ := hv
  have hmm : m * size ≤ n * size := Nat.mul_le_mul_right _ hm
  have e1 : (n - m) * size = n * size - m * size := Nat.sub_mul _ _ _
  have e2 : (c - m) * size = c * size - m * size := Nat.sub_mul _ _ _
  have e3 : m * size ≤ c * size := Nat.mul_le_mul_right _ (by omega)
  refine ⟨by rw [List.length_drop]; omega, g, _, c - m, cur, rfl, hh, by omega, by omega, by omega, ?_⟩
  rw [← h4, List.drop_take, List.drop_drop, e1]
theorem OwnO.empty {g o c : Nat} (h : OwnO w e size (.slice (some ⟨g, o, none⟩) n c) n xs) {q : Nat} (hq : q + (c - n) * size ≤ o + c * size) : OwnO w e size (.slice (some ⟨g, q, none⟩) 0 (c - n)) 0 [] := by
  obtain ⟨h0, g', o', cap, cur, hv, hh, h1, h2, h3, h4⟩ := h
  simp only [Value.slice.injEq, Option.some.injEq, Addr.mk.injEq, and_true, true_and] at hv
  obtain ⟨⟨rfl, rfl⟩, rfl⟩ := hv
  exact ⟨by simp, g, q, c - n, cur, rfl, hh, by omega, by omega, by omega, by simp⟩

section
variable {P : Program}
/-- 'append' onto it, of whatever source -/
theorem run_appO (t tx ty e : TypeId) (i : TypeInfo) (z : Value) (size bytes : Nat) (ht : P.underlying t = some (.slice e)) (hi : P.info? e = some i) (hz : i.zero = some z)
    (hsize : i.size = size) (hby : i.bytes = bytes) (hzs : z.cells.size = size)
    (g o cap n : Nat) (xs : List Value) (hown : OwnO w e size (.slice (some ⟨g, o, none⟩) n cap) n xs)
    (x : Value) (m : Nat) (news : List Value) (hs : Src P size tx x m news w)
    (h63 : n + m ≤ maxLen) (hbytes : (n + m + (n + m) / 4 + 256) * bytes ≤ 281474976710656) :
    ∃ v' w', (Builtin.append_ #[t, tx] ty #[.slice (some ⟨g, o, none⟩) n cap, x]).run P w = .ok v' w' ∧ OwnO w' e size v' (n + m) (xs ++ news) ∧ w.grownBy w' (some g) ∧
      (n + m ≤ cap → v' = .slice (some ⟨g, o, none⟩) (n + m) cap) ∧ (∀ k, v'.ownBlock = some k → k = g ∨ w.heap.size ≤ k) := by
  subst hsize
  subst hby
  have hsmall : ((n + m : Nat) : Int) ≤ 9223372036854775807 := by simp only [maxLen] at h63; omega
  have hl := hs.newsLen
  have hlen : (xs ++ news).length = (n + m) * i.size := by rw [List.length_append, hown.1, hl, Nat.add_mul]
  have hfit : ∀ old, old < n + m → Builtin.nextslicecap (n + m) old * i.bytes ≤ 281474976710656 := fun old h =>
    Nat.le_trans (Nat.mul_le_mul_right _ (nsc_le h)) hbytes
  have hcell := fun j u => hown.cell (j := j) (u := u)
  obtain ⟨h0, g', o', cap', cur, hv, hg, hnc, hcm, hcs, htake⟩ := hown
  simp only [Value.slice.injEq, Option.some.injEq, Addr.mk.injEq, and_true, true_and] at hv
  obtain ⟨⟨rfl, rfl⟩, rfl⟩ := hv
  by_cases hroom : n + m ≤ cap
  · have hnm : n * i.size + news.length ≤ cap * i.size := by rw [hl, ← Nat.add_mul]; exact Nat.mul_le_mul_right _ hroom
    have hfitc : o + n * i.size + news.length ≤ cur.size := by omega
    have hst := run_storeCells_at P g (o + n * i.size) e news 0 cur w hg (by simpa using hfitc) hs.one
    simp only [Nat.add_zero] at hst
    have hr : (Builtin.append_ #[t, tx] ty #[.slice (some ⟨g, o, none⟩) n cap, x]).run P w =
        .ok (.slice (some ⟨g, o, none⟩) (n + m) cap) (w.setRow g (cur.toList.take (o + n * i.size) ++ news ++ cur.toList.drop (o + n * i.size + news.length)).toArray) := by
      rcases hs.kind with ⟨e', hk⟩ | hk <;> simp [Builtin.append_, run_underlying ht, run_underlying hk, sizeOf, typeInfo, hi, hs.len, hroom, hs.cells, add_off, hst]
    refine ⟨_, _, hr, ⟨hlen, g, o, cap, _, rfl, setRow_heap w g cur _ e _ hg, hroom, hcm, ?_, ?_⟩, ⟨rfl, rfl, rfl, by simp, fun k _ hk => setRow_other w g k _ (fun e => hk (by simp [e]))⟩, fun _ => rfl, fun k hk => .inl (by simp [Value.ownBlock] at hk; exact hk.symm)⟩
    · simp only [List.size_toArray, List.length_append, List.length_take, List.length_drop, Array.length_toList]
      omega
    · have hlt : (cur.toList.take (o + n * i.size)).length = o + n * i.size := by rw [List.length_take, Array.length_toList]; omega
      simp only []
      rw [← hlen, List.append_assoc, List.drop_append, List.take_append]
      have e1 : o - (cur.toList.take (o + n * i.size)).length = 0 := by omega
      have e2 : ((cur.toList.take (o + n * i.size)).drop o) = xs := by rw [List.drop_take, ← htake]; congr 1; omega
      rw [e1, e2, List.drop_zero, List.take_of_length_le (by rw [List.length_append]; omega), List.length_append, List.take_append, List.take_of_length_le (by omega)]
      have e3 : xs.length + news.length - xs.length - news.length = 0 := by omega
      rw [e3, List.take_zero, List.append_nil]
  · have hr := run_append_grow_src (P := P) w t tx ty e i z ht hi hz (some ⟨g, o, none⟩) n cap xs (run_firstCells_some w.drew i.size n ⟨g, o, none⟩ n cap xs h0 (fun j u hj => by rw [add_off]; exact hcell j u hj)) x m news hs (by omega) hsmall (hfit cap (by omega))
    have hge := grownCap_ge w (n + m) cap e
    have hcm2 : grownCap w (n + m) cap e ≤ maxLen := grownCap_le_maxLen w (n + m) cap e h63
    refine ⟨_, _, hr, ⟨hlen, w.heap.size, 0, _, _, rfl, heap_alloc_new w.drew _, hge, hcm2, ?_, ?_⟩, ⟨rfl, rfl, rfl, by simp, fun k hk _ => Below.heap_alloc w.drew _ k hk⟩, fun h => absurd h hroom, fun k hk => .inr (by simp [Value.ownBlock] at hk; omega)⟩
    · simp only [Array.size_append, List.size_toArray, size_zeroCells, hzs, hlen, ← Nat.add_mul, Nat.zero_add]
      exact Nat.mul_le_mul_right _ (by omega)
    · simp only [Array.toList_append, List.drop_zero]
      rw [← hlen]
      exact List.take_left

theorem step_appO {ops : Array Oper} {o : Oper} {a : Act} {K : Act → World → Prop} {Q : Exit → Act → World → Prop} {E : Prop} (hgd : o.guard = none) (s x : Operand) (t tx : TypeId)
    (ho : o.op = .call { callee := .builtin .append, args := #[s, x], argTypes := #[t, tx] })
    (e : TypeId) (i : TypeInfo) (z : Value) (size bytes : Nat) (ht : P.underlying t = some (.slice e)) (hi : P.info? e = some i) (hz : i.zero = some z)
    (hsize : i.size = size) (hby : i.bytes = bytes) (hzs : z.cells.size = size)
    (g off cap n : Nat) (xs : List Value) (hv : a.eval s = .slice (some ⟨g, off, none⟩) n cap) (hown : OwnO w e size (.slice (some ⟨g, off, none⟩) n cap) n xs)
    (xv : Value) (m : Nat) (news : List Value) (hx : a.eval x = xv) (hs : Src P size tx xv m news w)
    (h63 : n + m ≤ maxLen) (hbytes : (n + m + (n + m) / 4 + 256) * bytes ≤ 281474976710656)
    (h : ∀ v' w', OwnO w' e size v' (n + m) (xs ++ news) → w.grownBy w' (some g) → (n + m ≤ cap → v' = .slice (some ⟨g, off, none⟩) (n + m) cap) → (∀ k, v'.ownBlock = some k → k = g ∨ w.heap.size ≤ k) → K (a.put o.dst v') w') :
    if Region.wanted o (yielded ops a.tmps) = true then Oper.wp P o a w K Q else E := by
  have hw : Region.wanted o (yielded ops a.tmps) = true := by simp [Region.wanted, hgd]
  rw [if_pos hw]
  obtain ⟨v', w', hr, h2, h3, h4, h5⟩ := run_appO (P := P) t tx o.type e i z size bytes ht hi hz hsize hby hzs g off cap n xs hown xv m news hs h63 hbytes
  unfold Oper.wp execOp
  simp only [ho, resolve, invoke, builtin, Sem.run_bind, Sem.run_pure, Result.andThen_ok, List.map_toArray, List.map_cons, List.map_nil, hv, hx, hr]
  exact h _ _ h2 h3 h4 h5

theorem wpList_appO {ops : Array Oper} {rest : List Oper} {o : Oper} {a : Act} {Q : Exit → Act → World → Prop} (hgd : o.guard = none) (s x : Operand) (t tx : TypeId)
    (ho : o.op = .call { callee := .builtin .append, args := #[s, x], argTypes := #[t, tx] })
    (e : TypeId) (i : TypeInfo) (z : Value) (size bytes : Nat) (ht : P.underlying t = some (.slice e)) (hi : P.info? e = some i) (hz : i.zero = some z)
    (hsize : i.size = size) (hby : i.bytes = bytes) (hzs : z.cells.size = size)
    (g off cap n : Nat) (xs : List Value) (hv : a.eval s = .slice (some ⟨g, off, none⟩) n cap) (hown : OwnO w e size (.slice (some ⟨g, off, none⟩) n cap) n xs)
    (xv : Value) (m : Nat) (news : List Value) (hx : a.eval x = xv) (hs : Src P size tx xv m news w)
    (h63 : n + m ≤ maxLen) (hbytes : (n + m + (n + m) / 4 + 256) * bytes ≤ 281474976710656)
    (h : ∀ v' w', OwnO w' e size v' (n + m) (xs ++ news) → w.grownBy w' (some g) → (n + m ≤ cap → v' = .slice (some ⟨g, off, none⟩) (n + m) cap) → (∀ k, v'.ownBlock = some k → k = g ∨ w.heap.size ≤ k) → wpList P ops Q rest (a.put o.dst v') w') : wpList P ops Q (o :: rest) a w := by
  refine wpList_plain hgd fun K hK => ?_
  obtain ⟨v', w', hr, h2, h3, h4, h5⟩ := run_appO (P := P) t tx o.type e i z size bytes ht hi hz hsize hby hzs g off cap n xs hown xv m news hs h63 hbytes
  unfold Oper.wp execOp
  simp only [ho, resolve, invoke, builtin, Sem.run_bind, Sem.run_pure, Result.andThen_ok, List.map_toArray, List.map_cons, List.map_nil, hv, hx, hr]
  exact hK _ _ (h v' w' h2 h3 h4 h5)

/-- the slice as a source -/
theorem OwnO.src {g o c : Nat} (h : OwnO w e size (.slice (some ⟨g, o, none⟩) n c) n xs) {t : TypeId} (ht : P.underlying t = some (.slice e)) (h1 : ∀ u ∈ xs, u.oneCell' = true) : Src P size t (.slice (some ⟨g, o, none⟩) n c) n xs w :=
  Src.ofSlice _ ht _ n c xs h.1 (fun j x hj => by rw [add_off]; exact h.cell hj) h1

/-- 'clear' of one element of several cells -/
theorem run_clear_one (w : World) (t e ty : TypeId) (z : Value) (ht : P.underlying t = some (.slice e)) (hv : ∀ w, (zeroValue e).run P w = .ok z w) (h1 : ∀ u ∈ z.cells.toList, u.oneCell' = true) (b o c : Nat)
    (hc : ∀ j, j < z.cells.size → (w.cell? ⟨b, o + j, none⟩).isSome = true) (hf : ∀ j, j < z.cells.size → w.frozen? ⟨b, o + j, none⟩ = false) :
    (Builtin.clear_ #[t] ty #[.slice (some ⟨b, o, none⟩) 1 c]).run P w = .ok (.tuple #[]) (w.setCells b o z.cells.toList) := by
  have hzc : (Builtin.zeroCells z.cells 1).toList = z.cells.toList := by
    simp only [Builtin.zeroCells]
    apply List.ext_getElem
    · simp
    · intro i h1 h2
      simp at h1
      simp [Nat.mod_eq_of_lt (show i < z.cells.size by omega)]
      rw [getElem!_pos z.cells i h1]
  have hst := run_storeCells_cells (P := P) b o z.cells.toList 0 w (by simpa using hc) (by simpa using hf) h1
  simp only [Nat.add_zero] at hst
  simp [Builtin.clear_, run_underlying ht, hv, hzc, hst]
end
theorem OwnO.setCells {g o c : Nat} : ∀ (us : List Value) (q : Nat) (w : World) (xs : List Value), OwnO w e size (.slice (some ⟨g, o, none⟩) n c) n xs → o + n * size ≤ q → OwnO (w.setCells g q us) e size (.slice (some ⟨g, o, none⟩) n c) n xs
  | [], _, _, _, h, _ => h
  | u :: us, q, w, xs, h, hq => by
    refine OwnO.setCells us (q + 1) _ xs ?_ (by omega)
    obtain ⟨h0, g', o', cap, cur, hv, hh, h1, h2, h3, h4⟩ := h
    simp only [Value.slice.injEq, Option.some.injEq, Addr.mk.injEq, and_true, true_and] at hv
    obtain ⟨⟨rfl, rfl⟩, rfl⟩ := hv
    refine ⟨h0, g, o, c, cur.setIfInBounds q u, rfl, ?_, h1, h2, by simpa using h3, ?_⟩
    · rw [heap_setCell_same w g q cur e u hh]
    · rw [Array.toList_setIfInBounds, List.drop_set, if_neg (by omega), List.take_set_of_le (by omega)]
      exact h4
end Go.Proofs.Ytgcemddobcjpnaa
namespace Go.Proofs.Ytgcemddobcjpnaa
open Go.RowKit

/-- what a call turns of the disk's blocks -/
structure DSt (w w' : World) (b mb : Nat) (L L' : List Pf) : Prop where
  fr : Frp (fpP b mb L) w w'
  new : ∀ k, fpP b mb L' k → fpP b mb L k ∨ w.heap.size ≤ k
theorem DSt.of_below {w w' : World} {b mb : Nat} {L : List Pf} (h : Below w.heap.size w w') : DSt w w' b mb L L := ⟨Frp.of_below h _, fun _ h => .inl h⟩
theorem DSt.trans {a w w' : World} {b mb : Nat} {L L' L2 : List Pf} (h : DSt a w b mb L L') (k : DSt w w' b mb L' L2) : DSt a w' b mb L L2 :=
  ⟨h.fr.trans k.fr h.new, fun x hx => (k.new x hx).elim (h.new x) (fun h2 => .inr (Nat.le_trans h.fr.size h2))⟩
theorem DSt.sub {a w w' : World} {b mb : Nat} {L L' : List Pf} (h : DSt w w' b mb L L') (k : Frp (fun k => k = b) a w) : DSt a w' b mb L L' :=
  ⟨(k.mono (fun x hx => (.inl hx : fpP b mb L x))).then h.fr, fun x hx => (h.new x hx).imp id (fun h2 => Nat.le_trans k.size h2)⟩
theorem DSt.box {a w w' : World} {b mb : Nat} {L L' : List Pf} (h : DSt w w' b mb L L') (k : Below a.heap.size a w) : DSt a w' b mb L L' :=
  ⟨(Frp.of_below k _).then h.fr, fun x hx => (h.new x hx).imp id (fun h2 => Nat.le_trans k.size h2)⟩
theorem fp_put {b mb : Nat} {L : List Pf} {x : Pf} {k : Nat} (h : fpP b mb (kput Pf.key L x) k) : fpP b mb L k ∨ k = x.a ∨ x.v.ownBlock = some k := by
  rcases h with h | h | ⟨p, hp, h⟩
  · exact .inl (.inl h)
  · exact .inl (.inr (.inl h))
  · rcases (kput_mem L x p).1 hp with rfl | ⟨hp, -⟩
    · exact .inr h
    · exact .inl (.inr (.inr ⟨p, hp, h⟩))
theorem fp_rem {b mb : Nat} {L : List Pf} {s : List UInt8} {k : Nat} (h : fpP b mb (krem Pf.key L s) k) : fpP b mb L k := by
  rcases h with h | h | ⟨p, hp, h⟩
  · exact .inl h
  · exact .inr (.inl h)
  · exact .inr (.inr ⟨p, ((krem_mem L s p).1 hp).1, h⟩)

set_option maxRecDepth 100000 in
set_option maxHeartbeats 1000000 in
theorem remove1 (b mb pd pn : Nat) (D : Dk) (L : List Pf) (s : ByteArray) (w : World) (h : PDk w b mb D L) (hs : s.size ≤ maxLen) (hd : w.cell? ⟨pd, 0, none⟩ = some (ptr b)) (hn : w.cell? ⟨pn, 0, none⟩ = some (.string s)) :
    Calls Try.prog 59 #[ptr pd, ptr pn] w fun e w' => e = .returned (.tuple #[]) ∧ PDk w' b mb (D.cut s) (krem Pf.key L s.data.toList) ∧ DSt w w' b mb L (krem Pf.key L s.data.toList) := by
  have H := Lib.hid h
  have HS := Lib.hid hs
  have q0 := Past.cell hd
  have q1 := Past.cell hn
  have q2 := Past.blk h.blk (j := 0) rfl
  clear h hs hd hn
  go_enter Try.func59, Try.ntmps59
  refine wp_region_past_one rfl (by kernel_rfl) (by kernel_rfl) (by kernel_rfl) ?_
  repeat (go_big_quiet_step (fail))
  refine wpQuiet_nil ?_
  intro _ hw'
  obtain ⟨s', hw''⟩ := hw'
  subst hw''
  obtain ⟨w6, h6, e6⟩ : ∃ w6, Below w.heap.size w w6 ∧ w6 = s'.val := ⟨_, s'.h, rfl⟩
  rw [← e6]
  have H6 := Lib.hid (H.out.kept h6)
  have HB6 := Lib.hid h6
  clear h6 e6 q0 q1 q2
  go_wp2_with (refine wpList_sdel _ rfl _ _ _ _ rfl 66 Try.underlying9 Try.underlying52 mb (kM Pf.key Pf.val L) rfl H6.out.map s rfl HS.out ?_; intro w8 hp8 hg8; have HP8 := Lib.hid hp8; have HG8 := Lib.hid hg8; clear hp8 hg8)
  have hf : Frp (fun k => k = mb) w6 w8 := (Frp.refl (fun k => k = mb) w6).grown HG8.out (fun k hk => .inl (Option.some.inj hk).symm)
  have hp := H6.out.del (D' := D.cut s) s rfl rfl hf HP8.out
  refine end0 rfl rfl ⟨rfl, hp, ?_⟩
  exact (⟨hf.mono (fun k hk => .inr (.inl hk)), fun k hk => .inl (fp_rem hk)⟩ : DSt w6 w8 b mb L _).box HB6.out

set_option maxRecDepth 100000 in
set_option maxHeartbeats 1000000 in
theorem sync1 (b mb pf : Nat) (D : Dk) (L : List Pf) (p : Pf) (w : World) (h : PDk w b mb D L) (hr : KRise Fl.key D.F) (hp : kfnd Pf.key L p.key = some p) (hd : w.cell? ⟨pf, 0, none⟩ = some (ptr p.a)) :
    Calls Try.prog 39 #[ptr pf] w fun e w' => e = .returned (.tuple #[]) ∧ ∃ L', PDk w' b mb (D.put { p.f with s := p.f.b.length }) L' ∧ DSt w w' b mb L L' := by
  have hmem := (kfnd_mem hp).1
  have H := Lib.hid h
  have HP := Lib.hid hp
  have HR := Lib.hid hr
  have hfile := h.file p hmem
  obtain ⟨q, c, hv, hc, hm⟩ := own_slice (h.body p hmem)
  have HF := Lib.hid hfile
  rw [hv] at hfile
  have q0 := Past.cell hd
  have q1 := Past.blk hfile (j := 0) rfl
  have HM := Lib.hid hmem
  clear h hd hp hr hmem hfile hv hm
  go_enter Try.func39, Try.ntmps39
  refine wp_region_past_one rfl (by kernel_rfl) (by kernel_rfl) (by kernel_rfl) ?_
  repeat (go_big_quiet_step (fail))
  refine wpQuiet_nil ?_
  intro _ hw'
  obtain ⟨s', hw''⟩ := hw'
  subst hw''
  obtain ⟨w6, h6, e6⟩ : ∃ w6, Below w.heap.size w w6 ∧ w6 = s'.val := ⟨_, s'.h, rfl⟩
  rw [← e6]
  have H6 := Lib.hid (H.out.kept h6)
  have HF6 := Lib.hid (HF.out.kept h6)
  have HB6 := Lib.hid h6
  clear h6 e6 q0 q1
  have d1 := HF6.out.cell (j := 1) rfl
  have f1 := HF6.out.free 1
  go_wp2
  have hf : Frp (fun k => k = p.a ∨ p.v.ownBlock = some k) w6 (w6.setCell ⟨p.a, 1, none⟩ (.int .i64 (p.f.b.length : Int))) := (Frp.refl (fun k => k = p.a ∨ p.v.ownBlock = some k) w6).set (p := ⟨p.a, 1, none⟩) (.inl rfl) _
  have hbody : Fresh 0 (w6.setCell ⟨p.a, 1, none⟩ (.int .i64 (p.f.b.length : Int))) p.v p.f.b := own_other (H6.out.body p HM.out) (fun e => (H6.out.ne_v HM.out).2.2 p HM.out e) _
  have hpd := H6.out.turn (D' := D.put { p.f with s := p.f.b.length }) (x := ⟨{ p.f with s := p.f.b.length }, p.a, p.v⟩) HR.out HP.out rfl rfl rfl hf (HF6.out.set 1 _) hbody (fun k hk => .inl hk)
  refine end0 rfl rfl ⟨rfl, _, hpd, ?_⟩
  exact (⟨hf.mono (fun k hk => .inr (.inr ⟨p, HM.out, hk⟩)), fun k hk => (fp_put hk).elim .inl (fun h2 => .inl (.inr (.inr ⟨p, HM.out, h2⟩)))⟩ : DSt w6 _ b mb L (kput Pf.key L ⟨{ p.f with s := p.f.b.length }, p.a, p.v⟩)).box HB6.out

theorem mem_apart {b mb : Nat} {D : Dk} {L : List Pf} {w : World} (h : PDk w b mb D L) (hr : KRise Fl.key D.F) {p : Pf} (hp : p ∈ L) : ∀ q ∈ krem Pf.key L p.key, ApP p q := fun q hq => by
  obtain ⟨h1, h2⟩ := (krem_mem L _ q).1 hq
  exact h.mem_ne hr hp h1 h2

set_option maxRecDepth 100000 in
set_option maxHeartbeats 1000000 in
theorem rename1 (b mb pd ps pf pt : Nat) (D : Dk) (L : List Pf) (s t : ByteArray) (p : Pf) (w : World) (h : PDk w b mb D L) (hr : KRise Fl.key D.F) (hs : s.size ≤ maxLen) (ht : t.size ≤ maxLen) (hl : L.length < maxLen) (hp : kfnd Pf.key L s.data.toList = some p) (hst : s.data.toList ≠ t.data.toList)
    (hd : w.cell? ⟨pd, 0, none⟩ = some (ptr b)) (hcs : w.cell? ⟨ps, 0, none⟩ = some (.string s)) (hcf : w.cell? ⟨pf, 0, none⟩ = some (ptr p.a)) (hct : w.cell? ⟨pt, 0, none⟩ = some (.string t)) (hbx : pd < w.heap.size ∧ ∀ k, fpP b mb L k → k ≠ pd ∧ k ≠ pf ∧ k ≠ pt) :
    Calls Try.prog 44 #[ptr pd, ptr ps, ptr pf, ptr pt] w fun e w' => e = .returned (.tuple #[]) ∧ ∃ L', PDk w' b mb ((D.cut s).put { p.f with n := t }) L' ∧ DSt w w' b mb L L' := by
  have H := Lib.hid h
  have HS := Lib.hid hs
  have HT := Lib.hid ht
  have HLN := Lib.hid hl
  have HP := Lib.hid hp
  have HR := Lib.hid hr
  have q0 := Past.cell hd
  have q1 := Past.cell hcs
  have q2 := Past.blk h.blk (j := 0) rfl
  have HCD := Lib.hid hd
  have HCF := Lib.hid hcf
  have HCT := Lib.hid hct
  have HBX := Lib.hid hbx.2
  have HST := Lib.hid hst
  clear h hs ht hl hp hr hd hcs hcf hct hbx hst
  go_enter Try.func44, Try.ntmps44
  go_upto_region 0 with fail
  refine wp_region_past_one rfl (by kernel_rfl) (by kernel_rfl) (by kernel_rfl) ?_
  repeat (go_big_quiet_step (fail))
  refine wpQuiet_nil ?_
  intro _ hw'
  obtain ⟨s', hw''⟩ := hw'
  subst hw''
  obtain ⟨w6, h6, e6⟩ : ∃ w6, Below w.heap.size w w6 ∧ w6 = s'.val := ⟨_, s'.h, rfl⟩
  rw [← e6]
  have H6 := Lib.hid (H.out.kept h6)
  have HB6 := Lib.hid h6
  clear h6 e6 q0 q1 q2
  go_upto_region 1 with (refine wpList_sdel _ rfl _ _ _ _ rfl 66 Try.underlying9 Try.underlying52 mb (kM Pf.key Pf.val L) rfl H6.out.map s rfl HS.out ?_; intro w8 hp8 hg8; have HP8 := Lib.hid hp8; have HG8 := Lib.hid hg8; clear hp8 hg8)
  have hf : Frp (fun k => k = mb) w6 w8 := (Frp.refl (fun k => k = mb) w6).grown HG8.out (fun k hk => .inl (Option.some.inj hk).symm)
  have HF8 := Lib.hid hf
  have H8 := Lib.hid (H6.out.del (D' := D.cut s) s rfl rfl hf HP8.out)
  have HNE : Hid (mb ≠ pd ∧ mb ≠ pf ∧ mb ≠ pt) := Lib.hid (HBX.out mb (.inr (.inl rfl)))
  have q0 := Past.cell (cell_frp (cell_kept HCD.out HB6.out) hf (fun e => HNE.out.1 e.symm))
  have q1 := Past.cell (cell_frp (cell_kept HCF.out HB6.out) hf (fun e => HNE.out.2.1 e.symm))
  have q3 := Past.cell (cell_frp (cell_kept HCT.out HB6.out) hf (fun e => HNE.out.2.2 e.symm))
  have q2 := Past.blk H8.out.blk (j := 0) rfl
  clear hf HP8 HG8
  simp only [Act.put]
  refine wp_region_past_one rfl (by kernel_rfl) (by kernel_rfl) (by kernel_rfl) ?_
  repeat (go_big_quiet_step (fail))
  refine wpQuiet_nil ?_
  intro _ hw'
  obtain ⟨s2, hw''⟩ := hw'
  subst hw''
  obtain ⟨w9, h9, e9⟩ : ∃ w9, Below w8.heap.size w8 w9 ∧ w9 = s2.val := ⟨_, s2.h, rfl⟩
  rw [← e9]
  have H9 := Lib.hid (H8.out.kept h9)
  have HB9 := Lib.hid h9
  have HLN9 : Hid ((kM Pf.key Pf.val (krem Pf.key L s.data.toList)).length < maxLen) := Lib.hid (by
    rw [kM_len]
    exact Nat.lt_of_le_of_lt (List.length_filter_le _ _) HLN.out)
  clear h9 e9 q0 q1 q2 q3
  go_wp2_with (refine wpList_sput _ rfl _ _ _ _ rfl 9 66 Try.underlying9 Try.underlying52 mb _ rfl H9.out.map HLN9.out t (ptr p.a) rfl rfl HT.out ?_; intro w10 hp10 hg10; have HP10 := Lib.hid hp10; have HG10 := Lib.hid hg10; clear hp10 hg10)
  have hf10 : Frp (fun k => k = mb) w9 w10 := (Frp.refl (fun k => k = mb) w9).grown HG10.out (fun k hk => .inl (Option.some.inj hk).symm)
  obtain ⟨hmem, hkey⟩ := kfnd_mem HP.out
  have hfa : ∀ k, (k = p.a ∨ p.v.ownBlock = some k) → k ≠ mb := fun k hk e => by
    subst e
    rcases hk with hk | hk
    · exact (H6.out.ne_a hmem).2 hk.symm
    · exact (H6.out.ne_v hmem).2.1 hk
  have hfile : Blk w9 p.a [p.v, .int .i64 (p.f.s : Int)] 69 := ((H6.out.file p hmem).frp HF8.out (hfa _ (.inl rfl))).kept HB9.out
  have hbody : Fresh 0 w9 p.v p.f.b := own_keep (own_frp (H6.out.body p hmem) HF8.out (fun g hg => hfa g (.inr hg))) HB9.out
  have hpd := H9.out.again (D' := (D.cut s).put { p.f with n := t }) (x := ⟨{ p.f with n := t }, p.a, p.v⟩) rfl rfl hf10 HP10.out hfile hbody (fun q hq => by
    rw [← hkey] at hq
    have := mem_apart H6.out HR.out hmem q hq
    exact ⟨this.1, this.2⟩)
  refine end0 rfl rfl ⟨rfl, _, hpd, ?_⟩
  have hfr : Frp (fpP b mb L) w6 w10 := ((HF8.out.mono (fun k hk => (.inr (.inl hk) : fpP b mb L k))).next HB9.out).then (hf10.mono (fun k hk => (.inr (.inl hk) : fpP b mb L k)))
  refine DSt.box ⟨hfr, fun k hk => ?_⟩ HB6.out
  rcases fp_put hk with h1 | h1
  · exact .inl (fp_rem h1)
  · exact .inl (.inr (.inr ⟨p, hmem, h1⟩))
end Go.Proofs.Ytgcemddobcjpnaa
namespace Go.Proofs.Ytgcemddobcjpnaa
open Go.RowKit

set_option maxRecDepth 100000 in
set_option maxHeartbeats 4000000 in
theorem make1 (b mb pd pn : Nat) (D : Dk) (L : List Pf) (s : ByteArray) (w : World) (h : PDk w b mb D L) (hs : s.size ≤ maxLen) (hl : L.length < maxLen) (hp : kfnd Pf.key L s.data.toList = none)
    (hd : w.cell? ⟨pd, 0, none⟩ = some (ptr b)) (hn : w.cell? ⟨pn, 0, none⟩ = some (.string s)) :
    Calls Try.prog 35 #[ptr pd, ptr pn] w fun e w' => e = .returned (.tuple #[]) ∧ ∃ L', PDk w' b mb (D.put ⟨s, [], 0⟩) L' ∧ DSt w w' b mb L L' := by
  have H := Lib.hid h
  have HS := Lib.hid hs
  have HLN : Hid ((kM Pf.key Pf.val L).length < maxLen) := Lib.hid (by rw [kM_len]; exact hl)
  have HP := Lib.hid (kfnd_none hp)
  have HCD := Lib.hid hd
  have HCN := Lib.hid hn
  have c0 := h.blk.cell (j := 0) rfl
  clear h hs hl hp
  go_enter Try.func35, Try.ntmps35
  refine wp_region_noPanic ?_
  refine wp_region_lastH (fun w' => w'.cell? ⟨pd, 0, none⟩ = some (ptr b) ∧ w'.cell? ⟨b, 0, none⟩ = some (.map (some mb)) ∧ w'.cell? ⟨pn, 0, none⟩ = some (.string s) ∧ Below w.heap.size w w') 7 rfl rfl (by kernel_rfl) (by kernel_rfl) ⟨hd, c0, hn, below_drewN 1⟩ (fun hHeld => ?_)
  refine wpAnyH_take (i := 0) (v := ?v1) rfl (by kernel_rfl) (by kernel_rfl) (by kernel_rfl) (fun _ _ _ h => h) (Or.inl ⟨by rfl, ?hy1⟩) (by assumption) ?rest1
  case hy1 => (intro _ hSw; (try dsimp only at hSw); go_simp; (try with_reducible rfl))
  (try simp only [Act.put]); (try simp only [List.setIfInBounds_toArray]); (try simp only [List.set_cons_succ]); (try simp only [List.set_cons_zero])
  refine wpAnyH_take (i := 1) (v := ?v2) rfl (by kernel_rfl) (by kernel_rfl) (by kernel_rfl) (fun _ _ _ h => h) (Or.inl ⟨by rfl, ?hy2⟩) (by assumption) ?rest2
  case hy2 => (intro _ hSw; (try dsimp only at hSw); go_simp; (try with_reducible rfl))
  (try simp only [Act.put]); (try simp only [List.setIfInBounds_toArray]); (try simp only [List.set_cons_succ]); (try simp only [List.set_cons_zero])
  refine wpAnyH_take (i := 2) (v := ?v3) rfl (by kernel_rfl) (by kernel_rfl) (by kernel_rfl) (fun _ _ _ h => h) (Or.inl ⟨by rfl, ?hy3⟩) (by assumption) ?rest3
  case hy3 => (intro _ hSw; (try dsimp only at hSw); go_simp; (try with_reducible rfl))
  (try simp only [Act.put]); (try simp only [List.setIfInBounds_toArray]); (try simp only [List.set_cons_succ]); (try simp only [List.set_cons_zero])
  refine wpAnyH_take (i := 3) (v := ?v4) rfl (by kernel_rfl) (by kernel_rfl) (by kernel_rfl) (fun _ _ _ h => h) (Or.inl ⟨by rfl, ?hy4⟩) (by assumption) ?rest4
  case hy4 => (intro _ hSw; (try dsimp only at hSw); go_simp; (try with_reducible rfl))
  (try simp only [Act.put]); (try simp only [List.setIfInBounds_toArray]); (try simp only [List.set_cons_succ]); (try simp only [List.set_cons_zero])
  refine wpAnyH_take (i := 4) (v := ?v5) rfl (by kernel_rfl) (by kernel_rfl) (by kernel_rfl) (fun _ _ _ h => h) (Or.inl ⟨by rfl, ?hy5⟩) (by assumption) ?rest5
  case hy5 => (intro _ hSw; (try dsimp only at hSw); go_simp; (try with_reducible rfl))
  (try simp only [Act.put]); (try simp only [List.setIfInBounds_toArray]); (try simp only [List.set_cons_succ]); (try simp only [List.set_cons_zero])
  refine wpAnyH_take (i := 5) (v := ?v6) rfl (by kernel_rfl) (by kernel_rfl) (by kernel_rfl) (fun _ _ _ h => h) (Or.inl ⟨by rfl, ?hy6⟩) (by assumption) ?rest6
  case hy6 => (intro _ hSw; (try dsimp only at hSw); go_simp; (try with_reducible rfl))
  (try simp only [Act.put]); (try simp only [List.setIfInBounds_toArray]); (try simp only [List.set_cons_succ]); (try simp only [List.set_cons_zero])
  refine wpAnyH_ready (rs := [6]) (by kernel_rfl) (by simp) ?_
  refine (AllReadyH.cons rfl (fun K hK => ?_) AllReadyH.nil)
  (try simp only [List.getElem_toArray]); (try simp only [List.getElem_cons_succ]); (try simp only [List.getElem_cons_zero])
  go_simp
  obtain ⟨w6, hw6⟩ : ∃ w6, w6 = (w.alloc (.cells #[.slice none 0 0, .int .i64 0] 69)).drew := ⟨_, rfl⟩
  obtain ⟨z, hz⟩ : ∃ z, z = w.heap.size := ⟨_, rfl⟩
  have hb6 : Below w.heap.size w w6 := by rw [hw6]; exact below_ad _ _
  have HFI : Hid (Blk w6 z [.slice none 0 0, .int .i64 0] 69) := Lib.hid (by rw [hw6, hz]; exact (Blk.made w [.slice none 0 0, .int .i64 0] 69).kept (below_drewN 1))
  have HZ : Hid (w.heap.size ≤ z) := Lib.hid (by rw [hz]; exact Nat.le_refl _)
  have H6 := Lib.hid (H.out.kept hb6)
  have HB6 := Lib.hid hb6
  rw [← hw6, ← hz]
  refine hK.out _ _ ⟨cell_kept HCD.out hb6, H6.out.blk.cell (j := 0) rfl, cell_kept HCN.out hb6, hb6⟩ (fun hS1 => ?_)
  clear hw6 hz hb6 hK K hS1
  (try simp only [Act.put]); (try simp only [List.setIfInBounds_toArray]); (try simp only [List.set_cons_succ]); (try simp only [List.set_cons_zero])
  refine wpAnyH_done (by kernel_rfl) ?_ _
  refine LastQ.start rfl ?_
  clear hHeld hd hn c0
  go_wp2_with (refine wpList_sput _ rfl _ _ _ _ rfl 9 66 Try.underlying9 Try.underlying52 mb _ rfl H6.out.map HLN.out s (ptr z) rfl rfl HS.out ?_; intro w8 hp8 hg8; have HP8 := Lib.hid hp8; have HG8 := Lib.hid hg8; clear hp8 hg8)
  refine NoPanic.normal ?_
  (try go_wp2)
  have hf : Frp (fun k => k = mb) w6 w8 := (Frp.refl (fun k => k = mb) w6).grown HG8.out (fun k hk => .inl (Option.some.inj hk).symm)
  have hzm : z ≠ mb := fun e => by have := H.out.map.lt; have := HZ.out; omega
  have hpd := H.out.add (D' := D.put ⟨s, [], 0⟩) (x := ⟨⟨s, [], 0⟩, z, .slice none 0 0⟩) HP.out rfl rfl ((Frp.of_below HB6.out _).then hf) HP8.out (HFI.out.frp hf hzm) (World.ownsRow_nil _ _ _ _) HZ.out (fun k h1 => by cases h1)
  refine end0 rfl rfl ⟨rfl, _, hpd, ?_⟩
  refine ⟨(Frp.of_below HB6.out _).then (hf.mono (fun k hk => .inr (.inl hk))), fun k hk => ?_⟩
  rcases fp_put hk with h1 | h1 | h1
  · exact .inl h1
  · exact .inr (by rw [h1]; exact HZ.out)
  · cases h1

set_option maxRecDepth 100000 in
set_option maxHeartbeats 4000000 in
theorem append1 (b mb pf pb pn : Nat) (D : Dk) (L : List Pf) (p : Pf) (q : Option Addr) (c k : Nat) (l : List UInt8) (w : World) (h : PDk w b mb D L) (hr : KRise Fl.key D.F) (hp : kfnd Pf.key L p.key = some p) (hbl : p.f.b.length ≤ 1073741824) (hk : k ≤ l.length) (hk64 : k ≤ 64) (hrd : Rd w (.slice q l.length c) l)
    (hd : w.cell? ⟨pf, 0, none⟩ = some (ptr p.a)) (hb : w.cell? ⟨pb, 0, none⟩ = some (.slice q l.length c)) (hn : w.cell? ⟨pn, 0, none⟩ = some (.int .i64 (k : Int))) (hbx : ∀ g, fpP b mb L g → g ≠ pf ∧ g ≠ pb ∧ g ≠ pn) :
    Calls Try.prog 38 #[ptr pf, ptr pb, ptr pn] w fun e w' => e = .returned (.tuple #[]) ∧ ∃ v', PDk w' b mb (D.addB p.f (l.take k)) (kput Pf.key L ⟨{ p.f with b := p.f.b ++ l.take k }, p.a, v'⟩) ∧ DSt w w' b mb L (kput Pf.key L ⟨{ p.f with b := p.f.b ++ l.take k }, p.a, v'⟩) := by
  obtain ⟨i0, hi, hz0, hz1, hz2⟩ := info_parts Try.uinfo
  have hmem := (kfnd_mem hp).1
  have H := Lib.hid h
  have HP := Lib.hid hp
  have HR := Lib.hid hr
  have HM := Lib.hid hmem
  have HCD := Lib.hid hd
  have HCB := Lib.hid hb
  have HCN := Lib.hid hn
  have hfile := h.file p hmem
  have hbody := h.body p hmem
  have HF := Lib.hid hfile
  have HBY := Lib.hid hbody
  have HNE : Hid (∀ g, p.v.ownBlock = some g → g ≠ pf ∧ g ≠ pb ∧ g ≠ pn) := Lib.hid (fun g hg => hbx g (.inr (.inr ⟨p, hmem, .inr hg⟩)))
  have HNA : Hid (∀ g, p.v.ownBlock = some g → g ≠ p.a) := Lib.hid (fun g hg e => (h.ne_v hmem).2.2 p hmem (by rw [hg, e]))
  obtain ⟨pv, pc, hv, hpc, hpm⟩ := own_slice hbody
  have HV := Lib.hid hv
  rw [hv] at hfile
  have c0 := hfile.cell (j := 0) rfl
  have HSR : Hid (∀ w', Below w.heap.size w w' → Src Try.prog 1 29 (.slice q k c) k ((l.take k).map B) w') := Lib.hid (fun w' hb' => by
    obtain ⟨hlc, hlm⟩ : l.length ≤ c ∧ c ≤ maxLen := by
      obtain ⟨p1, c1, e1, e2, e3, -⟩ := hrd.parts
      simp only [Value.slice.injEq] at e1
      obtain ⟨-, -, rfl⟩ := e1
      exact ⟨e2, e3⟩
    have hc0 : 0 + k ≤ l.length := by omega
    have := rd_piece (hrd.below hb') (j := 0) (k := k) hc0
    rw [List.drop_zero] at this
    unfold Rd at this
    rw [List.length_take, Nat.min_eq_left hk] at this
    have hcut : cutP q c 0 = q := by unfold cutP; split <;> cases q <;> simp [Addr.add]
    rw [hcut, Nat.sub_zero] at this
    exact Row.src Try.underlying29 this)
  have b1 : (0 : Int) ≤ (k : Int) := by omega
  have b2 : (k : Int) ≤ (c : Int) := by
    obtain ⟨p1, c1, e1, e2, e3, -⟩ := hrd.parts
    simp only [Value.slice.injEq] at e1
    obtain ⟨-, -, rfl⟩ := e1
    omega
  clear h hp hr hmem hfile hbody hv hpm hrd hk hbx
  go_enter Try.func38, Try.ntmps38
  refine wp_region_noPanic ?_
  refine wp_region_lastH (fun w' => w'.cell? ⟨pf, 0, none⟩ = some (ptr p.a) ∧ w'.cell? ⟨p.a, 0, none⟩ = some (.slice pv p.f.b.length pc) ∧ w'.cell? ⟨pb, 0, none⟩ = some (.slice q l.length c) ∧ w'.cell? ⟨pn, 0, none⟩ = some (.int .i64 (k : Int))) 11 rfl rfl (by kernel_rfl) (by kernel_rfl) ⟨hd, c0, hb, hn⟩ (fun hHeld => ?_)
  refine wpAnyH_take (i := 0) (v := ?v7) rfl (by kernel_rfl) (by kernel_rfl) (by kernel_rfl) (fun _ _ _ h => h) (Or.inl ⟨by rfl, ?hy7⟩) (by assumption) ?rest7
  case hy7 => (intro _ hSw; (try dsimp only at hSw); go_simp; (try with_reducible rfl))
  (try simp only [Act.put]); (try simp only [List.setIfInBounds_toArray]); (try simp only [List.set_cons_succ]); (try simp only [List.set_cons_zero])
  refine wpAnyH_take (i := 1) (v := ?v8) rfl (by kernel_rfl) (by kernel_rfl) (by kernel_rfl) (fun _ _ _ h => h) (Or.inl ⟨by rfl, ?hy8⟩) (by assumption) ?rest8
  case hy8 => (intro _ hSw; (try dsimp only at hSw); go_simp; (try with_reducible rfl))
  (try simp only [Act.put]); (try simp only [List.setIfInBounds_toArray]); (try simp only [List.set_cons_succ]); (try simp only [List.set_cons_zero])
  refine wpAnyH_take (i := 2) (v := ?v9) rfl (by kernel_rfl) (by kernel_rfl) (by kernel_rfl) (fun _ _ _ h => h) (Or.inl ⟨by rfl, ?hy9⟩) (by assumption) ?rest9
  case hy9 => (intro _ hSw; (try dsimp only at hSw); go_simp; (try with_reducible rfl))
  (try simp only [Act.put]); (try simp only [List.setIfInBounds_toArray]); (try simp only [List.set_cons_succ]); (try simp only [List.set_cons_zero])
  refine wpAnyH_take (i := 3) (v := ?v10) rfl (by kernel_rfl) (by kernel_rfl) (by kernel_rfl) (fun _ _ _ h => h) (Or.inl ⟨by rfl, ?hy10⟩) (by assumption) ?rest10
  case hy10 => (intro _ hSw; (try dsimp only at hSw); go_simp; (try with_reducible rfl))
  (try simp only [Act.put]); (try simp only [List.setIfInBounds_toArray]); (try simp only [List.set_cons_succ]); (try simp only [List.set_cons_zero])
  refine wpAnyH_take (i := 4) (v := ?v11) rfl (by kernel_rfl) (by kernel_rfl) (by kernel_rfl) (fun _ _ _ h => h) (Or.inl ⟨by rfl, ?hy11⟩) (by assumption) ?rest11
  case hy11 => (intro _ hSw; (try dsimp only at hSw); go_simp; (try with_reducible rfl))
  (try simp only [Act.put]); (try simp only [List.setIfInBounds_toArray]); (try simp only [List.set_cons_succ]); (try simp only [List.set_cons_zero])
  refine wpAnyH_take (i := 5) (v := ?v12) rfl (by kernel_rfl) (by kernel_rfl) (by kernel_rfl) (fun _ _ _ h => h) (Or.inl ⟨by rfl, ?hy12⟩) (by assumption) ?rest12
  case hy12 => (intro _ hSw; (try dsimp only at hSw); go_simp; (try with_reducible rfl))
  (try simp only [Act.put]); (try simp only [List.setIfInBounds_toArray]); (try simp only [List.set_cons_succ]); (try simp only [List.set_cons_zero])
  refine wpAnyH_take (i := 6) (v := ?v13) rfl (by kernel_rfl) (by kernel_rfl) (by kernel_rfl) (fun _ _ _ h => h) (Or.inl ⟨by rfl, ?hy13⟩) (by assumption) ?rest13
  case hy13 => (intro _ hSw; (try dsimp only at hSw); go_simp; (try with_reducible rfl))
  (try simp only [Act.put]); (try simp only [List.setIfInBounds_toArray]); (try simp only [List.set_cons_succ]); (try simp only [List.set_cons_zero])
  refine wpAnyH_take (i := 7) (v := ?v14) rfl (by kernel_rfl) (by kernel_rfl) (by kernel_rfl) (fun _ _ _ h => h) (Or.inl ⟨by rfl, ?hy14⟩) (by assumption) ?rest14
  case hy14 => (intro _ hSw; (try dsimp only at hSw); go_simp; (try with_reducible rfl))
  (try simp only [Act.put]); (try simp only [List.setIfInBounds_toArray]); (try simp only [List.set_cons_succ]); (try simp only [List.set_cons_zero])
  (try simp only [List.getElem_toArray]); (try simp only [List.getElem_cons_succ]); (try simp only [List.getElem_cons_zero]); (try simp only [List.setIfInBounds_toArray]); (try simp only [List.set_cons_succ, List.set_cons_zero])
  refine wpAnyH_ready (rs := [8]) (by kernel_rfl) (by simp) ?_
  refine (AllReadyH.cons rfl (fun K hK => ?_) AllReadyH.nil)
  obtain ⟨w5, hw5⟩ : ∃ w5, w5 = w.drew := ⟨_, rfl⟩
  have hb5 : Below w.heap.size w w5 := by rw [hw5]; exact below_drewN 1
  have HO5 : Hid (w5.ownsRow 0 5 1 (.slice pv p.f.b.length pc) p.f.b.length (p.f.b.map B)) := Lib.hid (by have := own_keep HBY.out hb5; rw [HV.out] at this; exact this)
  have HS5 := Lib.hid (HSR.out w5 hb5)
  have HB5 := Lib.hid hb5
  rw [← hw5] at hHeld ⊢
  clear hw5 hb5
  refine step_app rfl (.tmp 7) (.tmp 10) 29 29 rfl 0 5 i0 (.int .u8 0) 1 1 Try.underlying29 hi hz0 hz1 hz2 rfl (.slice pv p.f.b.length pc) p.f.b.length (p.f.b.map B) (by rfl) HO5.out (.slice q k c) k ((l.take k).map B) (by rfl) HS5.out (by unfold maxLen; omega) (by omega) (Nat.zero_le _) ?_
  intro v7 w7 ho7 hg7 hn7 hk7
  have hg7' : w5.grownBy w7 p.v.ownBlock := by rw [HV.out]; exact hg7
  have hfr7 : Frp (fun g => g = p.a ∨ p.v.ownBlock = some g) w5 w7 := (Frp.refl _ w5).grown hg7' (fun g hg => .inl (.inr hg))
  have hown7 : Frp (fun g => p.v.ownBlock = some g) w5 w7 := (Frp.refl _ w5).grown hg7' (fun g hg => .inl hg)
  have HK7 : Hid (∀ g, v7.ownBlock = some g → p.v.ownBlock = some g ∨ w5.heap.size ≤ g) := Lib.hid (fun g hg => by rw [HV.out]; exact hk7 g hg)
  have HO7 := Lib.hid ho7
  have HFR := Lib.hid hfr7
  have HF7 := Lib.hid ((HF.out.kept HB5.out).frp hown7 (fun e => HNA.out _ e rfl))
  refine hK.out _ _ ⟨cell_frp (cell_kept HCD.out HB5.out) hown7 (fun e => (HNE.out _ e).1 rfl), by have := HF7.out.cell (j := 0) rfl; rw [HV.out] at this; exact this, cell_frp (cell_kept HCB.out HB5.out) hown7 (fun e => (HNE.out _ e).2.1 rfl), cell_frp (cell_kept HCN.out HB5.out) hown7 (fun e => (HNE.out _ e).2.2 rfl)⟩ (fun hS1 => ?_)
  clear hK K ho7 hg7 hn7 hk7 hg7' hfr7 hown7 hHeld
  (try simp only [Act.put]); (try simp only [List.setIfInBounds_toArray]); (try simp only [List.set_cons_succ]); (try simp only [List.set_cons_zero])
  refine wpAnyH_take (i := 9) (v := ?v15) rfl (by kernel_rfl) (by kernel_rfl) (by kernel_rfl) (fun _ _ _ h => h) (Or.inl ⟨by rfl, ?hy15⟩) (by assumption) ?rest15
  case hy15 => (intro _ hSw; (try dsimp only at hSw); go_simp; (try with_reducible rfl))
  (try simp only [Act.put]); (try simp only [List.setIfInBounds_toArray]); (try simp only [List.set_cons_succ]); (try simp only [List.set_cons_zero])
  refine wpAnyH_take (i := 10) (v := ?v16) rfl (by kernel_rfl) (by kernel_rfl) (by kernel_rfl) (fun _ _ _ h => h) (Or.inl ⟨by rfl, ?hy16⟩) (by assumption) ?rest16
  case hy16 => (intro _ hSw; (try dsimp only at hSw); go_simp; (try with_reducible rfl))
  (try simp only [Act.put]); (try simp only [List.setIfInBounds_toArray]); (try simp only [List.set_cons_succ]); (try simp only [List.set_cons_zero])
  refine wpAnyH_done (by kernel_rfl) ?_ _
  refine LastQ.start rfl ?_
  have d0 := HF7.out.cell (j := 0) rfl
  have f0 := HF7.out.free 0
  rw [HV.out] at d0
  obtain ⟨p8, c8, rfl, -, -⟩ := own_slice HO7.out
  clear hS1 hd hb hn c0
  go_wp2
  refine NoPanic.normal ?_
  (try go_wp2)
  have hset : Frp (fun g => g = p.a ∨ p.v.ownBlock = some g) w5 (w7.setCell ⟨p.a, 0, none⟩ (.slice p8 (p.f.b.length + k) c8)) := HFR.out.set (p := ⟨p.a, 0, none⟩) (.inl rfl) _
  have hlk : (p.f.b ++ l.take k).length = p.f.b.length + k := by rw [List.length_append, List.length_take]; have := HS5.out.newsLen; simp at this; omega
  have hpd := (H.out.kept HB5.out).turn (D' := D.addB p.f (l.take k)) (p := p) (x := ⟨{ p.f with b := p.f.b ++ l.take k }, p.a, .slice p8 (p.f.b.length + k) c8⟩) HR.out HP.out rfl rfl rfl hset (HF7.out.set 0 _) (by
    show World.ownsRow _ 0 5 1 _ (p.f.b ++ l.take k).length ((p.f.b ++ l.take k).map B)
    rw [hlk, List.map_append]
    refine own_other HO7.out (fun e => ?_) _
    rcases HK7.out _ e with h1 | h1
    · exact HNA.out _ h1 rfl
    · have := (HF.out.kept HB5.out).lt
      simp only at h1
      omega) (fun g hg => HK7.out g hg)
  refine end0 rfl rfl ⟨rfl, _, hpd, ?_⟩
  refine DSt.box ⟨hset.mono (fun g hg => .inr (.inr ⟨p, HM.out, hg⟩)), fun g hg => ?_⟩ HB5.out
  rcases fp_put hg with h1 | h1 | h1
  · exact .inl h1
  · exact .inl (.inr (.inr ⟨p, HM.out, .inl h1⟩))
  · rcases HK7.out g h1 with h2 | h2
    · exact .inl (.inr (.inr ⟨p, HM.out, .inr h2⟩))
    · exact .inr h2
end Go.Proofs.Ytgcemddobcjpnaa
namespace Go.Proofs
open Go.RowKit Go.Maps Go.Sort Go.Shelf
def Try.keys42_ren : Go.Shelf.Ren := ⟨fun | 7 => 42 | 10 => 62 | n => n, fun | 23 => 52 | 26 => 9 | 3 => 66 | 28 => 74 | 0 => 0 | 27 => 73 | 33 => 77 | 4 => 4 | n => n, fun | n => n⟩
theorem Try.keys42 : Go.Proofs.SlLaysZ.n7 Try.prog Try.keys42_ren := {
  mixed := by kernel_rfl
  f7 := ⟨Try.f42.name, by decide, Try.func42.trans (congrArg some (by kernel_rfl))⟩
  f10 := ⟨Try.f62.name, by decide, Try.func62.trans (congrArg some (by kernel_rfl))⟩
  t0 := Try.underlying0
  a0 := Try.isAgg0
  z0 := Try.sizeOf0
  v0 := Try.zeroValue0
  t4 := Try.underlying4
  a4 := Try.isAgg4
  z4 := Try.sizeOf4
  v4 := Try.zeroValue4
  t23 := Try.underlying52
  a23 := Try.isAgg52
  z23 := Try.sizeOf52
  v23 := Try.zeroValue52
  t26 := Try.underlying9
  a26 := Try.isAgg9
  z26 := Try.sizeOf9
  v26 := Try.zeroValue9
  t27 := Try.underlying73
  a27 := Try.isAgg73
  z27 := Try.sizeOf73
  v27 := Try.zeroValue73
  t28 := Try.underlying74
  a28 := Try.isAgg74
  z28 := Try.sizeOf74
  v28 := Try.zeroValue74
  t33 := Try.underlying77
  a33 := Try.isAgg77
  z33 := Try.sizeOf77
  v33 := Try.zeroValue77 }
def Try.sorted41_ren : Go.Shelf.Ren := ⟨fun | 6 => 41 | 8 => 60 | 9 => 61 | 11 => 70 | 13 => 72 | 12 => 71 | 23 => 82 | 24 => 83 | 14 => 73 | 15 => 74 | 16 => 75 | 17 => 76 | 18 => 77 | 19 => 78 | 20 => 79 | 21 => 80 | 22 => 81 | 25 => 84 | 26 => 85 | 27 => 86 | 28 => 87 | 29 => 88 | 30 => 89 | 31 => 90 | n => n, fun | 26 => 9 | 28 => 74 | 24 => 40 | 0 => 0 | 3 => 3 | 37 => 91 | 48 => 101 | 50 => 103 | 4 => 4 | 40 => 94 | 39 => 93 | 45 => 82 | 5 => 5 | 9 => 9 | 51 => 104 | 55 => 108 | 57 => 110 | 58 => 111 | 33 => 77 | n => n, fun | n => n⟩
theorem Try.sorted41 : Go.Proofs.SlLaysZ.n6 Try.prog Try.sorted41_ren := {
  mixed := by kernel_rfl
  f6 := ⟨Try.f41.name, by decide, Try.func41.trans (congrArg some (by kernel_rfl))⟩
  f8 := ⟨Try.f60.name, by decide, Try.func60.trans (congrArg some (by kernel_rfl))⟩
  f11 := ⟨Try.f70.name, by decide, Try.func70.trans (congrArg some (by kernel_rfl))⟩
  t0 := Try.underlying0
  a0 := Try.isAgg0
  z0 := Try.sizeOf0
  v0 := Try.zeroValue0
  t24 := Try.underlying40
  a24 := Try.isAgg40
  z24 := Try.sizeOf40
  v24 := Try.zeroValue40
  t26 := Try.underlying9
  a26 := Try.isAgg9
  z26 := Try.sizeOf9
  v26 := Try.zeroValue9
  t28 := Try.underlying74
  a28 := Try.isAgg74
  z28 := Try.sizeOf74
  v28 := Try.zeroValue74
  i26 := by kernel_rfl }
def Try.sort61_ren : Go.Shelf.Ren := ⟨fun | 6 => 61 | 8 => 72 | 9 => 71 | 19 => 82 | 20 => 83 | 21 => 73 | 22 => 74 | 23 => 75 | 24 => 76 | 25 => 77 | 26 => 78 | 27 => 79 | 28 => 80 | 29 => 81 | 36 => 84 | 31 => 85 | 32 => 86 | 37 => 87 | 38 => 88 | 39 => 89 | 41 => 90 | n => n, fun | 27 => 40 | 29 => 9 | 3 => 3 | 32 => 91 | 26 => 40 | 0 => 0 | 44 => 101 | 46 => 103 | 4 => 4 | 36 => 94 | 35 => 93 | 41 => 82 | 5 => 5 | 9 => 9 | 53 => 104 | 57 => 108 | 63 => 110 | 64 => 111 | n => n, fun | n => n⟩
theorem Try.sort61 : Go.Proofs.SlLaysM.n6 Try.prog Try.sort61_ren := {
  mixed := by kernel_rfl
  f6 := ⟨Try.f61.name, by decide, Try.func61.trans (congrArg some (by kernel_rfl))⟩
  f8 := Try.func72.trans (congrArg some (by kernel_rfl))
  f9 := ⟨Try.f71.name, by decide, Try.func71.trans (congrArg some (by kernel_rfl))⟩
  f19 := Try.func82.trans (congrArg some (by kernel_rfl))
  f20 := Try.func83.trans (congrArg some (by kernel_rfl))
  f21 := ⟨Try.f73.name, by decide, Try.func73.trans (congrArg some (by kernel_rfl))⟩
  f22 := ⟨Try.f74.name, by decide, Try.func74.trans (congrArg some (by kernel_rfl))⟩
  f23 := ⟨Try.f75.name, by decide, Try.func75.trans (congrArg some (by kernel_rfl))⟩
  f24 := ⟨Try.f76.name, by decide, Try.func76.trans (congrArg some (by kernel_rfl))⟩
  f25 := ⟨Try.f77.name, by decide, Try.func77.trans (congrArg some (by kernel_rfl))⟩
  f26 := ⟨Try.f78.name, by decide, Try.func78.trans (congrArg some (by kernel_rfl))⟩
  f27 := ⟨Try.f79.name, by decide, Try.func79.trans (congrArg some (by kernel_rfl))⟩
  f28 := ⟨Try.f80.name, by decide, Try.func80.trans (congrArg some (by kernel_rfl))⟩
  f29 := ⟨Try.f81.name, by decide, Try.func81.trans (congrArg some (by kernel_rfl))⟩
  f31 := Try.func85.trans (congrArg some (by kernel_rfl))
  f32 := Try.func86.trans (congrArg some (by kernel_rfl))
  f36 := ⟨Try.f84.name, by decide, Try.func84.trans (congrArg some (by kernel_rfl))⟩
  f37 := ⟨Try.f87.name, by decide, Try.func87.trans (congrArg some (by kernel_rfl))⟩
  f38 := ⟨Try.f88.name, by decide, Try.func88.trans (congrArg some (by kernel_rfl))⟩
  f39 := ⟨Try.f89.name, by decide, Try.func89.trans (congrArg some (by kernel_rfl))⟩
  f41 := ⟨Try.f90.name, by decide, Try.func90.trans (congrArg some (by kernel_rfl))⟩
  t0 := Try.underlying0
  a0 := Try.isAgg0
  z0 := Try.sizeOf0
  v0 := Try.zeroValue0
  t3 := Try.underlying3
  a3 := Try.isAgg3
  z3 := Try.sizeOf3
  v3 := Try.zeroValue3
  t4 := Try.underlying4
  a4 := Try.isAgg4
  z4 := Try.sizeOf4
  v4 := Try.zeroValue4
  t5 := Try.underlying5
  a5 := Try.isAgg5
  z5 := Try.sizeOf5
  v5 := Try.zeroValue5
  t9 := Try.underlying9
  a9 := Try.isAgg9
  z9 := Try.sizeOf9
  v9 := Try.zeroValue9
  t26 := Try.underlying40
  a26 := Try.isAgg40
  z26 := Try.sizeOf40
  v26 := Try.zeroValue40
  t27 := Try.underlying40
  a27 := Try.isAgg40
  z27 := Try.sizeOf40
  v27 := Try.zeroValue40
  t29 := Try.underlying9
  a29 := Try.isAgg9
  z29 := Try.sizeOf9
  v29 := Try.zeroValue9
  t32 := Try.underlying91
  a32 := Try.isAgg91
  z32 := Try.sizeOf91
  v32 := Try.zeroValue91
  t35 := Try.underlying93
  a35 := Try.isAgg93
  z35 := Try.sizeOf93
  v35 := Try.zeroValue93
  t36 := Try.underlying94
  a36 := Try.isAgg94
  z36 := Try.sizeOf94
  v36 := Try.zeroValue94
  t41 := Try.underlying82
  a41 := Try.isAgg82
  z41 := Try.sizeOf82
  v41 := Try.zeroValue82
  t44 := Try.underlying101
  a44 := Try.isAgg101
  z44 := Try.sizeOf101
  v44 := Try.zeroValue101
  t46 := Try.underlying103
  a46 := Try.isAgg103
  z46 := Try.sizeOf103
  v46 := Try.zeroValue103
  t53 := Try.underlying104
  a53 := Try.isAgg104
  z53 := Try.sizeOf104
  v53 := Try.zeroValue104
  t57 := Try.underlying108
  a57 := Try.isAgg108
  z57 := Try.sizeOf108
  v57 := Try.zeroValue108
  t63 := Try.underlying110
  a63 := Try.isAgg110
  z63 := Try.sizeOf110
  v63 := Try.zeroValue110
  t64 := Try.underlying111
  a64 := Try.isAgg111
  z64 := Try.sizeOf111
  v64 := Try.zeroValue111 }
/-- slices.Sort's two contracts at this dump, at the fence that asks nothing. -/
theorem Try.sorts41 (m : Nat) : AnyZ.SortsIn Try.prog Try.sorted41_ren Fence.wide m :=
  ⟨fun blk off cap ss W hH hblk hsz => callsIn_wide.2 (AnyM.slices_Sort_string Try.sort61 blk off cap ss W hH hblk hsz),
   fun p cap W => callsIn_wide.2 (AnyM.slices_Sort_string_none Try.sort61 p cap W)⟩

/-- **maps.Keys[map[string]*berthmaster/disk.file,string,*berthmaster/disk.file], at whatever map, the nil one too:** a function value over ONE NEW BLOCK, which holds the map. -/
theorem Try.maps_Keys_42 (mb : Option Nat) (W : World) : CallsIn Fence.wide 5 Try.prog 42 #[.map mb] W fun e w' => e = .returned (.func (.func 62) #[] #[.pointer (some ⟨W.heap.size, 0, none⟩)]) ∧ w' = W.alloc (.cells #[.map mb] 52) :=
  AnyZ.keys_in Try.keys42 Fence.wide 5 trivial rfl mb W

set_option maxHeartbeats 1000000 in
/-- **slices.Sorted[string] AT WHAT maps.Keys[map[string]*berthmaster/disk.file,string,*berthmaster/disk.file] HANDED BACK FOR A MAP THAT IS NOT nil** ('w': the world AHEAD of maps.Keys' call): A NEW SLICE THAT HOLDS THE MAP's KEYS, SORTED; nil just where it has none; nothing that lay before has turned. -/
theorem Try.slices_Sorted_keys_41_42 {H : Type} (b nn : Nat) (D0 : DataW H) (R : Value → Option (DataW H × List MemPlace)) (w : World) (hown : w.ownsMap Try.prog 9 R b nn D0) (hmax : Maps.size D0 ≤ maxLen) (hbytes : Maps.size D0 * 16 ≤ 140737488355328) :
    CallsIn Fence.wide 5 Try.prog 41 #[.func (.func 62) #[] #[.pointer (some ⟨w.heap.size, 0, none⟩)]] (w.alloc (.cells #[.map (some b)] 52)) fun e w' => ∃ (v : Value) (ss : List (List UInt8)), e = .returned v ∧ ss.Perm (strKeys D0) ∧
      w'.ownsRow (w.alloc (.cells #[.map (some b)] 52)).heap.size 9 1 v ss.length ((ss.mergeSort (fun x y => decide (x ≤ y))).map encStr) ∧ (v = .slice none 0 0 ↔ ss = []) ∧ Below (w.alloc (.cells #[.map (some b)] 52)).heap.size (w.alloc (.cells #[.map (some b)] 52)) w' := by
  have hbl := hown.lt
  have hseq : SeqGives Fence.wide 2 Try.prog 62 #[.pointer (some ⟨w.heap.size, 0, none⟩)] encStr (fun ss => ss.Perm (strKeys D0)) (Maps.size D0) (w.alloc (.cells #[.map (some b)] 52)) :=
    AnyZ.keys_gives (ρ := Try.keys42_ren) { Try.keys42 with } Fence.wide _ trivial rfl (by omega) w.heap.size b nn D0 _ (by simp) (by simp) (by
      obtain ⟨es, clock, hb, Ft, hs, hD⟩ := hown
      exact ⟨es, clock, (Below.heap_alloc _ _ b hbl).trans hb, Ft, hs, hD⟩)
  exact AnyZ.sorted_in Try.sorted41 Fence.wide 5 trivial trivial trivial trivial rfl (by omega) (Try.sorts41 _) (enters_of Try.func61 (by kernel_rfl) rfl) 62 #[.pointer (some ⟨w.heap.size, 0, none⟩)] trivial (enters_of Try.func62 (by kernel_rfl) rfl) _ _ hmax hbytes _ hseq

set_option maxHeartbeats 1000000 in
/-- **.. AND FOR THE nil MAP: nil.** -/
theorem Try.slices_Sorted_keys_nil_41_42 (w : World) :
    CallsIn Fence.wide 5 Try.prog 41 #[.func (.func 62) #[] #[.pointer (some ⟨w.heap.size, 0, none⟩)]] (w.alloc (.cells #[.map none] 52)) fun e w' => ∃ (v : Value) (ss : List (List UInt8)), e = .returned v ∧ ss = [] ∧
      w'.ownsRow (w.alloc (.cells #[.map none] 52)).heap.size 9 1 v ss.length ((ss.mergeSort (fun x y => decide (x ≤ y))).map encStr) ∧ (v = .slice none 0 0 ↔ ss = []) ∧ Below (w.alloc (.cells #[.map none] 52)).heap.size (w.alloc (.cells #[.map none] 52)) w' := by
  have hseq : SeqGives Fence.wide 2 Try.prog 62 #[.pointer (some ⟨w.heap.size, 0, none⟩)] encStr (fun ss : List (List UInt8) => ss = []) 0 (w.alloc (.cells #[.map none] 52)) :=
    AnyZ.keys_gives_nil (ρ := Try.keys42_ren) { Try.keys42 with } Fence.wide _ trivial rfl w.heap.size _ (by simp) (by simp)
  exact AnyZ.sorted_in Try.sorted41 Fence.wide 5 trivial trivial trivial trivial rfl (by omega) (Try.sorts41 _) (enters_of Try.func61 (by kernel_rfl) rfl) 62 #[.pointer (some ⟨w.heap.size, 0, none⟩)] trivial (enters_of Try.func62 (by kernel_rfl) rfl) _ 0 (Nat.zero_le _) (by omega) _ hseq


end Go.Proofs
namespace Go.Proofs.Ytgcemddobcjpnaa
open Go.RowKit

/-- what a call leaves -/
def DkTo (w w' : World) (b mb : Nat) (L : List Pf) (D' : Dk) : Prop := ∃ L', PDk w' b mb D' L' ∧ DSt w w' b mb L L'
theorem DkTo.same {w w' : World} {b mb : Nat} {L : List Pf} {D : Dk} (h : PDk w b mb D L) (hb : Below w.heap.size w w') : DkTo w w' b mb L D := ⟨L, h.kept hb, DSt.of_below hb⟩

/-! New -/
set_option maxRecDepth 100000 in
set_option maxHeartbeats 1000000 in
theorem new_ok (r : Int) (w : World) (h1 : 0 ≤ r) (h2 : r ≤ 1073741824) :
    Calls Try.prog 9 #[.int .i64 r] w fun e w' => ∃ b mb, e = .returned (.tuple #[ptr b, .int .i64 0]) ∧ w.heap.size ≤ b ∧ w.heap.size ≤ mb ∧ PDk w' b mb ⟨r, [], false, 0, false, 0⟩ [] ∧ Below w.heap.size w w' := by
  have d1 : decide (r < 0) = false := by simp; omega
  have d2 : decide (1073741824 < r) = false := by simp; omega
  have hmm := @run_makeMap Try.prog
  clear h1 h2
  go_enter Try.func9, Try.ntmps9
  go_wp2
  go_ret2
  refine ⟨w.heap.size + 1, w.heap.size, rfl, by omega, Nat.le_refl _, ⟨by simpa [dkC] using Blk.made (w.alloc (.map #[] 0)) (dkC w.heap.size ⟨r, [], false, 0, false, 0⟩) 54, (smap_made w _ _).kept (below_alloc _ _), rfl, by simp, by simp, List.Pairwise.nil⟩, below_and (below_alloc w _) (below_alloc _ _)⟩
set_option maxRecDepth 100000 in
set_option maxHeartbeats 1000000 in
theorem new_bad (r : Int) (w : World) (h : r < 0 ∨ 1073741824 < r) :
    Calls Try.prog 9 #[.int .i64 r] w fun e w' => e = .returned (.tuple #[.pointer none, .int .i64 2]) ∧ w = w' := by
  by_cases h0 : r < 0
  · have d1 : decide (r < 0) = true := by simp; omega
    clear h h0
    go_enter Try.func9, Try.ntmps9
    go_wp2
    go_ret2
    exact ⟨rfl, rfl⟩
  · have d1 : decide (r < 0) = false := by simp; omega
    have d2 : decide (1073741824 < r) = true := by simp; omega
    clear h h0
    go_enter Try.func9, Try.ntmps9
    go_wp2
    go_ret2
    exact ⟨rfl, rfl⟩

section
variable (b mb : Nat) (D : Dk) (L : List Pf) (w : World) (h : PDk w b mb D L)
include h
set_option maxRecDepth 100000 in
set_option maxHeartbeats 1000000 in
theorem on_any : Calls Try.prog 17 #[ptr b] w fun e w' => e = .returned (.bool (!D.off)) ∧ w = w' := by
  have H := Lib.hid h
  have c4 := h.blk.cell (j := 4) rfl
  clear h
  go_enter Try.func17, Try.ntmps17
  go_wp2_with (go_at_call 40; refine (none_made b mb D L _ H.out).mono ?_; rintro e w' ⟨rfl, rfl⟩)
  go_ret
  exact ⟨rfl, rfl⟩
set_option maxRecDepth 100000 in
set_option maxHeartbeats 1000000 in
theorem steps_any : Calls Try.prog 28 #[ptr b] w fun e w' => e = .returned (.int .i64 D.steps) ∧ w = w' := by
  have H := Lib.hid h
  have c5 := h.blk.cell (j := 5) rfl
  clear h
  go_enter Try.func28, Try.ntmps28
  go_wp2_with (go_at_call 40; refine (none_made b mb D L _ H.out).mono ?_; rintro e w' ⟨rfl, rfl⟩)
  go_ret
  exact ⟨rfl, rfl⟩
set_option maxRecDepth 100000 in
set_option maxHeartbeats 1000000 in
theorem free_any : Calls Try.prog 27 #[ptr b] w fun e w' => e = .returned (.int .i64 0) ∧ DkTo w w' b mb L D.free := by
  have H := Lib.hid h
  have c2 := h.blk.cell (j := 2) rfl
  have c3 := (h.blk.set 2 (.bool false)).cell (j := 3) rfl
  have f2 := h.blk.free 2
  have f3 := (h.blk.set 2 (.bool false)).free 3
  clear h
  go_enter Try.func27, Try.ntmps27
  go_wp2_with (go_at_call 40; refine (none_made b mb D L _ H.out).mono ?_; rintro e w' ⟨rfl, rfl⟩)
  go_ret
  have hf : Frp (fun k => k = b) w ((w.setCell ⟨b, 2, none⟩ (.bool false)).setCell ⟨b, 3, none⟩ (.int .i64 0)) := ((Frp.refl (fun k => k = b) w).set (p := ⟨b, 2, none⟩) rfl _).set (p := ⟨b, 3, none⟩) rfl _
  exact ⟨rfl, L, H.out.flds (D' := D.free) rfl hf ((H.out.blk.set 2 _).set 3 _), ⟨hf.mono (fun k hk => .inl hk), fun k hk => .inl hk⟩⟩
theorem ask_nil : Calls Try.prog 33 #[ptr b, .slice none 0 0] w fun e w' => e = .returned (.int .i64 (if D.off = true then 10 else 0)) ∧ Below w.heap.size w w' := by
  have := asked_any b mb D L [] _ w h (row_nil w 1) (by simp)
  unfold Dk.ask at this
  simpa using this
set_option maxRecDepth 100000 in
set_option maxHeartbeats 1000000 in
theorem fuse_any (n : Int) : Calls Try.prog 16 #[ptr b, .int .i64 n] w fun e w' => e = .returned (.int .i64 (D.setFuse n).1) ∧ DkTo w w' b mb L (D.setFuse n).2 := by
  have H := Lib.hid h
  cases hoff : D.off
  · have HA : Hid (Calls Try.prog 33 #[ptr b, .slice none 0 0] w fun e w' => e = .returned (.int .i64 0) ∧ Below w.heap.size w w') := Lib.hid (by have := ask_nil b mb D L w h; rw [hoff] at this; exact this)
    by_cases hn : n < 0
    · have HF : Hid (D.setFuse n = (2, D)) := Lib.hid (by unfold Dk.setFuse; rw [if_neg (by rw [hoff]; simp), if_pos hn])
      clear h hoff
      go_enter Try.func16, Try.ntmps16
      go_wp2_with (go_at_call 33; refine HA.out.mono ?_; rintro e w3 ⟨rfl, hb⟩; have HB3 := Lib.hid hb; clear hb)
      go_ret
      rw [HF.out]
      exact ⟨rfl, DkTo.same H.out HB3.out⟩
    · have HF : Hid (D.setFuse n = (0, { D with fused := true, fuse := n })) := Lib.hid (by unfold Dk.setFuse; rw [if_neg (by rw [hoff]; simp), if_neg hn])
      clear h hoff
      go_enter Try.func16, Try.ntmps16
      go_wp2_with (go_at_call 33; refine HA.out.mono ?_; rintro e w3 ⟨rfl, hb⟩; have HB3 := Lib.hid hb; have H3 := Lib.hid (H.out.kept hb); have c2 := H3.out.blk.cell (j := 2) rfl; have c3 := (H3.out.blk.set 2 (.bool true)).cell (j := 3) rfl; have f2 := H3.out.blk.free 2; have f3 := (H3.out.blk.set 2 (.bool true)).free 3; clear hb)
      go_ret
      rw [HF.out]
      have hf : Frp (fun k => k = b) w3 ((w3.setCell ⟨b, 2, none⟩ (.bool true)).setCell ⟨b, 3, none⟩ (.int .i64 n)) := ((Frp.refl (fun k => k = b) w3).set (p := ⟨b, 2, none⟩) rfl _).set (p := ⟨b, 3, none⟩) rfl _
      exact ⟨rfl, L, H3.out.flds (D' := { D with fused := true, fuse := n }) rfl hf ((H3.out.blk.set 2 _).set 3 _), (⟨hf.mono (fun k hk => .inl hk), fun k hk => .inl hk⟩ : DSt w3 _ b mb L L).box HB3.out⟩
  · have HA : Hid (Calls Try.prog 33 #[ptr b, .slice none 0 0] w fun e w' => e = .returned (.int .i64 10) ∧ Below w.heap.size w w') := Lib.hid (by have := ask_nil b mb D L w h; rw [hoff] at this; exact this)
    have HF : Hid (D.setFuse n = (10, D)) := Lib.hid (by unfold Dk.setFuse; rw [if_pos hoff])
    clear h hoff
    go_enter Try.func16, Try.ntmps16
    go_wp2_with (go_at_call 33; refine HA.out.mono ?_; rintro e w3 ⟨rfl, hb⟩; have HB3 := Lib.hid hb; clear hb)
    go_ret
    rw [HF.out]
    exact ⟨rfl, DkTo.same H.out HB3.out⟩
set_option maxRecDepth 100000 in
set_option maxHeartbeats 1000000 in
theorem leftP_any (M : Nat) (N : Int) (hi : DkI D M N) : Calls Try.prog 18 #[ptr b] w fun e w' => e = .returned (.int .i64 D.leftP) ∧ Below w.heap.size w w' := by
  have H := Lib.hid h
  have HI := Lib.hid hi
  cases hoff : D.off
  · have HA : Hid (Calls Try.prog 33 #[ptr b, .slice none 0 0] w fun e w' => e = .returned (.int .i64 0) ∧ Below w.heap.size w w') := Lib.hid (by have := ask_nil b mb D L w h; rw [hoff] at this; exact this)
    have HF : Hid (D.leftP = D.left) := Lib.hid (by unfold Dk.leftP; rw [if_neg (by rw [hoff]; simp)])
    clear h hoff hi
    go_enter Try.func18, Try.ntmps18
    go_wp2_with (first
      | (go_at_call 33; refine HA.out.mono ?_; rintro e w3 ⟨rfl, hb⟩; have HB3 := Lib.hid hb; have H3 := Lib.hid (H.out.kept hb); clear hb)
      | (go_at_call 37; refine (left_any b mb D L M N _ H3.out HI.out).mono ?_; rintro e w4 ⟨rfl, hb⟩; have HB4 := Lib.hid (below_and HB3.out hb); clear hb))
    go_ret
    rw [HF.out]
    exact ⟨rfl, HB4.out⟩
  · have HA : Hid (Calls Try.prog 33 #[ptr b, .slice none 0 0] w fun e w' => e = .returned (.int .i64 10) ∧ Below w.heap.size w w') := Lib.hid (by have := ask_nil b mb D L w h; rw [hoff] at this; exact this)
    have HF : Hid (D.leftP = 0) := Lib.hid (by unfold Dk.leftP; rw [if_pos hoff])
    clear h hoff hi
    go_enter Try.func18, Try.ntmps18
    go_wp2_with (go_at_call 33; refine HA.out.mono ?_; rintro e w3 ⟨rfl, hb⟩; have HB3 := Lib.hid hb; clear hb)
    go_ret
    rw [HF.out]
    exact ⟨rfl, HB3.out⟩

/-- the names, rising, in memory of the call's own -/
theorem names_sorted (hr : KRise Fl.key D.F) (hl : D.F.length ≤ 100000) :
    Calls Try.prog 41 #[.func (.func 62) #[] #[.pointer (some ⟨w.heap.size, 0, none⟩)]] (w.alloc (.cells #[.map (some mb)] 52)) fun e w' => ∃ v, e = .returned v ∧
      w'.ownsRow (w.heap.size + 1) 9 1 v D.F.length (D.F.map fun f => .string f.n) ∧ Below (w.heap.size + 1) (w.alloc (.cells #[.map (some mb)] 52)) w' := by
  have hsz : Go.Maps.size (kM Pf.key Pf.val L).dat = D.F.length := by rw [kM_size, h.len]
  refine (callsIn_wide.1 (Try.slices_Sorted_keys_41_42 mb (kM Pf.key Pf.val L).length (kM Pf.key Pf.val L).dat anyElem w h.map (by rw [hsz]; unfold maxLen; omega) (by rw [hsz]; omega))).mono ?_
  rintro e w' ⟨v, ss, he, hp, hown, -, hb⟩
  rw [kM_keys] at hp
  have hk : L.map Pf.key = D.F.map Fl.key := by rw [← h.eq, List.map_map]; rfl
  rw [hk] at hp
  have hlen := hp.length_eq
  simp only [List.length_map] at hlen
  have hso : ss.mergeSort (fun x y => decide (x ≤ y)) = D.F.map Fl.key := sort_rises hp hr.keys
  have hmap : (D.F.map Fl.key).map Go.Proofs.encStr = D.F.map fun f => Value.string f.n := by
    rw [List.map_map]
    rfl
  rw [hso, hlen, hmap] at hown
  exact ⟨v, he, by simpa using hown, by simpa using hb⟩
set_option maxRecDepth 100000 in
set_option maxHeartbeats 1000000 in
theorem names_any (hr : KRise Fl.key D.F) (hl : D.F.length ≤ 100000) :
    Calls Try.prog 21 #[ptr b] w fun e w' => ∃ v, e = .returned v ∧ w'.ownsRow w.heap.size 9 1 v D.names.length (D.names.map Value.string) ∧ Below w.heap.size w w' := by
  have H := Lib.hid h
  cases hoff : D.off
  · have HA : Hid (Calls Try.prog 33 #[ptr b, .slice none 0 0] w fun e w' => e = .returned (.int .i64 0) ∧ Below w.heap.size w w') := Lib.hid (by have := ask_nil b mb D L w h; rw [hoff] at this; exact this)
    have HF : Hid (D.names = D.F.map Fl.n) := Lib.hid (by unfold Dk.names; rw [if_neg (by rw [hoff]; simp)])
    have HR := Lib.hid hr
    have HL := Lib.hid hl
    clear h hoff hr hl
    go_enter Try.func21, Try.ntmps21
    go_wp2_with (first
      | (go_at_call 33; refine HA.out.mono ?_; rintro e w3 ⟨rfl, hb⟩; have HB3 := Lib.hid hb; have H3 := Lib.hid (H.out.kept hb); have c0 := H3.out.blk.cell (j := 0) rfl; have HKE := Lib.hid (callsIn_wide.1 (Try.maps_Keys_42 (some mb) w3)); have HSO := Lib.hid (names_sorted b mb D L w3 H3.out HR.out HL.out); clear hb)
      | (go_at_call 42; refine HKE.out.mono ?_; rintro e w' ⟨rfl, rfl⟩)
      | (go_at_call 41; refine HSO.out.mono ?_; rintro e w4 ⟨v4, rfl, ho4, hb4⟩; have HO4 := Lib.hid ho4; have HB4 : Hid (Below w.heap.size w w4) := Lib.hid (below_and HB3.out ((below_alloc w3 _).trans (hb4.mono (by omega)))); clear ho4 hb4))
    go_ret
    refine ⟨_, rfl, ?_, HB4.out⟩
    rw [HF.out, List.length_map, List.map_map]
    have := HB3.out.size
    exact own_mono HO4.out (by omega)
  · have HA : Hid (Calls Try.prog 33 #[ptr b, .slice none 0 0] w fun e w' => e = .returned (.int .i64 10) ∧ Below w.heap.size w w') := Lib.hid (by have := ask_nil b mb D L w h; rw [hoff] at this; exact this)
    have HF : Hid (D.names = []) := Lib.hid (by unfold Dk.names; rw [if_pos hoff])
    clear h hoff hr hl
    go_enter Try.func21, Try.ntmps21
    go_wp2_with (go_at_call 33; refine HA.out.mono ?_; rintro e w3 ⟨rfl, hb⟩; have HB3 := Lib.hid hb; clear hb)
    go_ret
    rw [HF.out]
    exact ⟨_, rfl, World.ownsRow_nil _ _ _ _, HB3.out⟩

/-! with a name: Synced, Read -/
variable (s : ByteArray) (hs : s.size ≤ maxLen)
include hs
set_option maxRecDepth 100000 in
set_option maxHeartbeats 1000000 in
theorem synced_any : Calls Try.prog 15 #[ptr b, .string s] w fun e w' => e = .returned (.tuple #[.int .i64 (D.synced s).2, .int .i64 (D.synced s).1]) ∧ Below w.heap.size w w' := by
  have H := Lib.hid h
  by_cases ha : D.ask [s] = 0
  · cases hp : kfnd Pf.key L s.data.toList with
    | none =>
      have hg : D.get s = none := by unfold Dk.get; rw [h.find, hp]; rfl
      have HF : Hid (D.synced s = (6, 0)) := Lib.hid (by unfold Dk.synced; rw [if_neg (by rw [ha]; simp), hg])
      have HFI := Lib.hid (find_no b mb D L s w h hs ha hp)
      clear h hs ha hp hg
      go_enter Try.func15, Try.ntmps15
      go_wp2_with (go_at_call 36; refine HFI.out.mono ?_; rintro e w3 ⟨rfl, hb⟩; have HB3 := Lib.hid hb; clear hb)
      go_ret2
      rw [HF.out]
      exact ⟨rfl, HB3.out⟩
    | some p =>
      have hg : D.get s = some p.f := by unfold Dk.get; rw [h.find, hp]; rfl
      have HF : Hid (D.synced s = (0, (p.f.s : Int))) := Lib.hid (by unfold Dk.synced; rw [if_neg (by rw [ha]; simp), hg])
      have HFI := Lib.hid (find_yes b mb D L s w h hs ha p hp)
      have HM := Lib.hid (kfnd_mem hp).1
      clear h hs ha hp hg
      go_enter Try.func15, Try.ntmps15
      go_wp2_with (go_at_call 36; refine HFI.out.mono ?_; rintro e w3 ⟨rfl, hb⟩; have HB3 := Lib.hid hb; have c1 := ((H.out.kept hb).file p HM.out).cell (j := 1) rfl; clear hb)
      go_ret2
      rw [HF.out]
      exact ⟨rfl, HB3.out⟩
  · have HF : Hid (D.synced s = (D.ask [s], 0)) := Lib.hid (by unfold Dk.synced; rw [if_pos ha])
    have HFI := Lib.hid (find_bad b mb D L s w h hs ha)
    obtain ⟨q, hq⟩ : ∃ q, q = D.ask [s] := ⟨_, rfl⟩
    rw [← hq] at ha HF HFI
    have q0 : (q != 0) = true := by simpa using ha
    clear h hs ha hq
    go_enter Try.func15, Try.ntmps15
    go_wp2_with (go_at_call 36; refine HFI.out.mono ?_; rintro e w3 ⟨rfl, hb⟩; have HB3 := Lib.hid hb; clear hb)
    go_ret2
    rw [HF.out]
    exact ⟨rfl, HB3.out⟩
set_option maxRecDepth 100000 in
set_option maxHeartbeats 1000000 in
theorem read_any (M : Nat) (N : Int) (hi : DkI D M N) : Calls Try.prog 14 #[ptr b, .string s] w fun e w' => ∃ v, e = .returned (.tuple #[v, .int .i64 (D.read s).1]) ∧ Fresh w.heap.size w' v (D.read s).2 ∧ Below w.heap.size w w' := by
  have H := Lib.hid h
  by_cases ha : D.ask [s] = 0
  · cases hp : kfnd Pf.key L s.data.toList with
    | none =>
      have hg : D.get s = none := by unfold Dk.get; rw [h.find, hp]; rfl
      have HF : Hid (D.read s = (6, [])) := Lib.hid (by unfold Dk.read; rw [if_neg (by rw [ha]; simp), hg])
      have HFI := Lib.hid (find_no b mb D L s w h hs ha hp)
      clear h hs ha hp hg hi
      go_enter Try.func14, Try.ntmps14
      go_wp2_with (go_at_call 36; refine HFI.out.mono ?_; rintro e w3 ⟨rfl, hb⟩; have HB3 := Lib.hid hb; clear hb)
      go_ret2
      rw [HF.out]
      exact ⟨_, rfl, World.ownsRow_nil _ _ _ _, HB3.out⟩
    | some p =>
      have hg : D.get s = some p.f := by unfold Dk.get; rw [h.find, hp]; rfl
      have HF : Hid (D.read s = (0, p.f.b)) := Lib.hid (by unfold Dk.read; rw [if_neg (by rw [ha]; simp), hg])
      have HFI := Lib.hid (find_yes b mb D L s w h hs ha p hp)
      have hmem := (kfnd_mem hp).1
      have HM := Lib.hid hmem
      have HRM : Hid (Room p.f.b.length) := Lib.hid (by
        have h1 : p.f ∈ D.F := by rw [← h.eq]; exact List.mem_map_of_mem hmem
        have h2 := ksum_mem (f := lenF) (L := D.F) (fun e _ => by unfold lenF; omega) h1
        have h3 := hi.fits
        have h4 := hi.room
        rw [bytes_sum] at h3
        have h5 : (p.f.b.length : Int) ≤ ksum lenF D.F := h2
        unfold Room
        omega)
      clear h hs ha hp hg hmem hi
      go_enter Try.func14, Try.ntmps14
      go_wp2_with (first
        | (go_at_call 36; refine HFI.out.mono ?_; rintro e w3 ⟨rfl, hb⟩; have HB3 := Lib.hid hb; have H3 := Lib.hid (H.out.kept hb); have c0 := (H3.out.file p HM.out).cell (j := 0) rfl; clear hb)
        | (go_at_call 43; refine (clone_any p.v p.f.b _ (H3.out.body p HM.out).rd HRM.out).mono ?_; rintro e w4 ⟨v4, rfl, hf, hb⟩; have HB4 := Lib.hid (below_and HB3.out hb); have HF4 := Lib.hid hf; clear hb hf))
      go_ret2
      rw [HF.out]
      have := HB3.out.size
      exact ⟨_, rfl, HF4.out.mono this, HB4.out⟩
  · have HF : Hid (D.read s = (D.ask [s], [])) := Lib.hid (by unfold Dk.read; rw [if_pos ha])
    have HFI := Lib.hid (find_bad b mb D L s w h hs ha)
    obtain ⟨q, hq⟩ : ∃ q, q = D.ask [s] := ⟨_, rfl⟩
    rw [← hq] at ha HF HFI
    have q0 : (q != 0) = true := by simpa using ha
    clear h hs ha hq hi
    go_enter Try.func14, Try.ntmps14
    go_wp2_with (go_at_call 36; refine HFI.out.mono ?_; rintro e w3 ⟨rfl, hb⟩; have HB3 := Lib.hid hb; clear hb)
    go_ret2
    rw [HF.out]
    exact ⟨_, rfl, World.ownsRow_nil _ _ _ _, HB3.out⟩
end
end Go.Proofs.Ytgcemddobcjpnaa
