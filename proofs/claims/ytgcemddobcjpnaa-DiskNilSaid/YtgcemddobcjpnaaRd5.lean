/- The document's disk: Rename (written by genrd5.py). -/
import Derived.Test.YtgcemddobcjpnaaRd4
namespace Go.Proofs.Ytgcemddobcjpnaa
open Go.RowKit

theorem kput_krem {α : Type} {key : α → List UInt8} (L : List α) (x : α) : kput key (krem key L (key x)) x = kput key L x := by
  unfold kput krem
  rw [List.filter_filter]
  simp
theorem row2r (w : World) (s r : ByteArray) (t : TypeId) : Row (w.alloc (.cells #[.string s, .string r] t)) (.slice (some ⟨w.heap.size, 0, none⟩) 2 2) 1 [s, r].length ([s, r].map Value.string) :=
  ⟨_, 2, rfl, Nat.le_refl _, by simp [maxLen], by simp, by simp [Value.oneCell'], by simp, .inr ⟨w.heap.size, 0, rfl, fun j u hj => by
    match j, hj with
    | 0, hj =>
      simp at hj
      subst hj
      exact (Blk.made w [.string s, .string r] t).cell (j := 0) rfl
    | 1, hj =>
      simp at hj
      subst hj
      exact (Blk.made w [.string s, .string r] t).cell (j := 1) rfl
    | j + 2, hj => simp at hj⟩⟩
theorem toLr_ne {s t : ByteArray} (h : s ≠ t) : (s.toList == t.toList) = false := by
  rw [Lib.toList_data, Lib.toList_data]
  simp only [beq_eq_false_iff_ne, ne_eq]
  exact fun e => h (by cases s; cases t; simp only at e; rw [Array.toList_inj.1 e])

section
variable (g : Nat) (vF : Value) (D : Dk) (L : List Rf) (M : Nat) (N : Int) (s t : ByteArray) (w : World) (h : RDk w g vF D L) (hi : DkI D M N) (hM : M ≤ 100000) (hN : N < 4611686018427387904) (hs : s.size ≤ maxLen) (ht : t.size ≤ maxLen)
include h hi hM hN hs ht
set_option maxRecDepth 100000 in
set_option maxHeartbeats 4000000 in
theorem rrename_any : Calls Try.prog 49 #[ptr g, .string s, .string t] w fun e w' => e = .returned (.int .i64 (D.rename s t).1) ∧ RdTo w w' g vF L (D.rename s t).2 := by
  have hb0 := below_alloc w (.cells #[.string s, .string t] 9)
  have HB0 := Lib.hid hb0
  have h0 := h.kept hb0
  have H := Lib.hid h
  have H0 := Lib.hid h0
  have hr := hi.rise
  have hst : ∀ x ∈ [s, t], x.size ≤ maxLen := by simpa using ⟨hs, ht⟩
  have HLN : Hid (L.length ≤ 100000) := Lib.hid (by rw [h.len]; have := hi.len; omega)
  by_cases ha : D.ask [s, t] = 0
  · have HA := Lib.hid (rask0 [s, t] _ h0 (row2r w s t 9) hst ha)
    have ha1 : ¬ (D.ask [s, t] ≠ 0) := by rw [ha]; simp
    cases hp : kfnd Rf.key L s.data.toList with
    | none =>
      have HF : Hid (D.rename s t = (6, D)) := Lib.hid (by unfold Dk.rename; rw [if_neg ha1, h.get_none hp])
      have HP := Lib.hid (place_no h0 hr hp)
      clear h h0 hi hM hN hs ht hr ha ha1 hp hb0 hst
      go_enter Try.func49, Try.ntmps49
      go_wp2_with (first
        | (go_at_call 63; refine HA.out.mono ?_; rintro e w3 ⟨rfl, rfl⟩)
        | (go_at_call 64; refine HP.out.mono ?_; rintro e w3 ⟨rfl, rfl⟩))
      go_ret
      rw [HF.out]
      exact ⟨rfl, RdTo.same H.out HB0.out⟩
    | some r =>
      have HP := Lib.hid (place_yes h0 hr hp)
      obtain ⟨hk, he⟩ := kfnd_place (h.rise hr) hp
      obtain ⟨k, hkk⟩ : ∃ k, k = kpl Rf.key L s.data.toList := ⟨_, rfl⟩
      simp only [← hkk] at hk he HP
      by_cases hst2 : s = t
      · subst hst2
        have HF : Hid (D.rename s s = (0, D)) := Lib.hid (by unfold Dk.rename; rw [if_neg ha1, h.get_some hp]; simp)
        clear h h0 hi hM hN hs ht hr ha ha1 hp hb0 hst hk he hkk
        go_enter Try.func49, Try.ntmps49
        go_wp2_with (first
          | (go_at_call 63; refine HA.out.mono ?_; rintro e w3 ⟨rfl, rfl⟩)
          | (go_at_call 64; refine HP.out.mono ?_; rintro e w3 ⟨rfl, rfl⟩))
        go_ret
        rw [HF.out]
        exact ⟨rfl, RdTo.same H.out HB0.out⟩
      · have hne := toLr_ne hst2
        rcases rcases_may D with hm | hm
        · have HF : Hid (D.rename s t = (0, (D.stepped.cut s).put { r.f with n := t })) := Lib.hid (by unfold Dk.rename; rw [if_neg ha1, h.get_some hp]; simp only; rw [if_neg hst2, if_pos hm])
          have HST := Lib.hid (rstep_yes g vF D L M N _ h0 hi hN hm)
          have hmem := (kfnd_mem hp).1
          have HM := Lib.hid hmem
          obtain ⟨pv, pc, hv, hpc, -⟩ := own_slice (h0.body r hmem)
          have HV := Lib.hid hv
          have HCUT : Hid (∀ w5, RDk w5 g vF D.stepped L → Calls Try.prog 68 #[ptr g, .int .i64 (k : Int)] w5 fun e w' => e = .returned (.tuple #[]) ∧ ∃ vF', RDk w' g vF' (D.stepped.cut s) (L.eraseIdx k) ∧ RSt w5 w' g vF vF' L (L.eraseIdx k) ∧ Frp (fun j => j = g) w5 w') := Lib.hid (fun w5 h5 => rcut_any g k vF D.stepped (D.stepped.cut s) L w5 h5 hk HLN.out (by rw [hkk]; exact cut_erase h5 hr hp) (fun _ => rfl))
          obtain ⟨q, c, hvF, hc, -, -, -⟩ := h0.at hk
          have HVF := Lib.hid hvF
          have HFC : Hid (∀ w6, RDk w6 g vF D.stepped L → w6.cell? ⟨g, 1, none⟩ = some (.slice (some ⟨q, 0, none⟩) L.length c) ∧ w6.cell? ⟨q, k * 3, none⟩ = some (.string r.f.n) ∧ w6.cell? ⟨q, k * 3 + 1, none⟩ = some (.slice pv r.f.b.length pc) ∧ w6.cell? ⟨q, k * 3 + 2, none⟩ = some (.int .i64 (r.f.s : Int))) := Lib.hid (fun w6 h6 => by
            obtain ⟨q2, c2, e, -, e0, e1, e2⟩ := h6.at hk
            rw [hvF] at e
            simp only [Value.slice.injEq, Option.some.injEq, Addr.mk.injEq, and_true, true_and] at e
            obtain ⟨rfl, rfl⟩ := e
            rw [he] at e0 e1 e2
            exact ⟨by rw [← hvF]; exact h6.blk.cell (j := 1) rfl, e0, by rw [← hv]; exact e1, e2⟩)
          have HRC : Hid (KRise Fl.key (D.stepped.cut s).F) := Lib.hid (hr.rem _)
          have HT := Lib.hid ht
          have HLE : Hid ((L.eraseIdx k).length ≤ 100000) := Lib.hid (Nat.le_trans (List.length_eraseIdx_le L k) HLN.out)
          have b0 : (0 : Int) ≤ (k : Int) := by omega
          have i1 : (k : Int) < (L.length : Int) := by omega
          have HLT : Hid (∀ y, fpR g vF L y → y < w.heap.size) := Lib.hid (fun y hy => h.lt hy)
          clear h h0 hi hM hN hs ht hr ha ha1 hp hb0 hst hk he hkk hst2 hm hmem hv hvF
          go_enter Try.func49, Try.ntmps49
          go_upto_region 12 with (first
            | (go_at_call 63; refine HA.out.mono ?_; rintro e w3 ⟨rfl, rfl⟩)
            | (go_at_call 64; refine HP.out.mono ?_; rintro e w3 ⟨rfl, rfl⟩)
            | (go_at_call 65; refine HST.out.mono ?_; rintro e w5 ⟨rfl, h5, s5⟩; have H5 := Lib.hid h5; have S5 := Lib.hid s5; obtain ⟨x0, x1, x2, x3⟩ := HFC.out _ h5; clear h5 s5))
          clear x0 x1 x2 x3
          obtain ⟨w6, hw6⟩ : ∃ w6, w6 = w5.alloc (.cells #[.string r.f.n, .slice pv r.f.b.length pc, .int .i64 (r.f.s : Int)] 86) := ⟨_, rfl⟩
          obtain ⟨z, hz⟩ : ∃ z, z = w5.heap.size := ⟨_, rfl⟩
          have hb6 : Below w5.heap.size w5 w6 := by rw [hw6]; exact below_alloc _ _
          have HBX : Hid (Blk w6 z [.string r.f.n, .slice pv r.f.b.length pc, .int .i64 (r.f.s : Int)] 86) := Lib.hid (by rw [hw6, hz]; exact Blk.made w5 _ _)
          have H6 := Lib.hid (H5.out.kept hb6)
          have HZ : Hid (w.heap.size ≤ z) := Lib.hid (by rw [hz]; have h1 := S5.out.fr.size; simp at h1; omega)
          have HBD : Hid (Fresh 0 w6 r.v r.f.b) := Lib.hid (H6.out.body r HM.out)
          have HS6 := Lib.hid (S5.out.trans (RSt.of_below hb6))
          have HZ2 : Hid (z = w5.heap.size) := Lib.hid hz
          rw [← hw6, ← hz]
          clear hw6 hz hb6
          go_upto_region 13 with (go_at_call 68; refine (HCUT.out _ H6.out).mono ?_; rintro e w7 ⟨rfl, v7, h7, s7, f7⟩; have H7 := Lib.hid h7; have S7 := Lib.hid s7; have F7 := Lib.hid f7; clear h7 s7 f7)
          have HZG : Hid (z ≠ g) := Lib.hid (fun e => by have := HLT.out g (.inl rfl); have := HZ.out; omega)
          have HBX7 := Lib.hid (HBX.out.frp F7.out HZG.out)
          have HBD7 : Hid (Fresh 0 w7 r.v r.f.b) := Lib.hid (own_frp HBD.out F7.out (fun y hy e => by subst e; exact own_ty HBD.out H6.out.blk (by decide) hy))
          have HLT7 : Hid (∀ y, fpR g v7 (L.eraseIdx k) y → y ≠ z) := Lib.hid (fun y hy e => by
            subst e
            rcases S7.out.new y hy with h1 | h1
            · have := HLT.out y h1
              have := HZ.out
              omega
            · have := HBX.out.lt
              omega)
          have HPUT : Hid (∀ w8 v8 D8 L8, RDk w8 g v8 D8 L8 → KRise Fl.key D8.F → L8.length ≤ 100000 → kfnd Rf.key L8 t.data.toList = none → Fresh 0 w8 r.v r.f.b → kput Fl.key D8.F { r.f with n := t } = kput Fl.key (D.stepped.cut s).F { r.f with n := t } → (∀ v, rdC v D8 = rdC v (D.stepped.cut s)) →
              Calls Try.prog 66 #[ptr g, .agg #[.string t, .slice pv r.f.b.length pc, .int .i64 (r.f.s : Int)]] w8 fun e w' => e = .returned (.tuple #[]) ∧ ∃ vF' L', RDk w' g vF' ((D.stepped.cut s).put { r.f with n := t }) L' ∧ RSt w8 w' g v8 vF' (⟨{ r.f with n := t }, r.v⟩ :: L8) L') := Lib.hid (fun w8 v8 D8 L8 h8 r8 l8 n8 f8 e8 c8 => by
            have := rput_any g v8 D8 ((D.stepped.cut s).put { r.f with n := t }) L8 ⟨{ r.f with n := t }, r.v⟩ w8 h8 r8 f8 l8 (by
              show kput Fl.key (D.stepped.cut s).F { r.f with n := t } = _
              rw [← e8]
              exact put_new (f := { r.f with n := t }) h8 r8 n8) (fun v => (c8 v).symm)
            rw [HV.out] at this
            rw [HV.out]
            exact this.mono fun e w' ⟨he, v', h1, h2⟩ => ⟨he, v', _, h1, h2⟩)
          have HSUB : Hid (∀ k, (r.v).ownBlock = some k → fpR g vF L k) := Lib.hid (fun y hy => .inr (.inr ⟨r, HM.out, hy⟩))
          cases hq : kfnd Rf.key (L.eraseIdx k) t.data.toList with
          | none =>
            have HP2 := Lib.hid (place_no H7.out HRC.out hq)
            have HQ := Lib.hid hq
            clear hq
            have y0 := HBX7.out.cell (j := 0) rfl
            have y1 := HBX7.out.cell (j := 1) rfl
            have y2 := HBX7.out.cell (j := 2) rfl
            have fz := HBX7.out.free 0
            go_upto_region 17 with (go_at_call 64; refine HP2.out.mono ?_; rintro e w8 ⟨rfl, rfl⟩)
            obtain ⟨w9, hw9⟩ : ∃ w9, w9 = w7.setCell ⟨z, 0, none⟩ (.string t) := ⟨_, rfl⟩
            rw [← hw9]
            have hfz : Frp (fun j => j = z) w7 w9 := by rw [hw9]; exact (Frp.refl (fun j => j = z) w7).set (p := ⟨z, 0, none⟩) rfl _
            have HBX9 : Hid (Blk w9 z [.string t, .slice pv r.f.b.length pc, .int .i64 (r.f.s : Int)] 86) := Lib.hid (by rw [hw9]; exact HBX7.out.set 0 _)
            have H9 : Hid (RDk w9 g v7 (D.stepped.cut s) (L.eraseIdx k)) := Lib.hid (H7.out.frp hfz (fun y hy => HLT7.out y hy))
            have HBD9 : Hid (Fresh 0 w9 r.v r.f.b) := Lib.hid (own_frp HBD7.out hfz (fun y hy e => by subst e; exact own_ty HBD7.out HBX7.out (by decide) hy))
            have HFZ := Lib.hid hfz
            have HNF9 : Hid (kfnd Rf.key (L.eraseIdx k) t.data.toList = none) := Lib.hid (HQ.out)
            clear hw9 y0 y1 y2 fz hfz
            have y0 := HBX9.out.cell (j := 0) rfl
            have y1 := HBX9.out.cell (j := 1) rfl
            have y2 := HBX9.out.cell (j := 2) rfl
            go_wp2_with (go_at_call 66; refine (HPUT.out _ _ _ _ H9.out HRC.out HLE.out HNF9.out HBD9.out rfl (fun _ => rfl)).mono ?_; rintro e w10 ⟨rfl, v10, L10, h10, s10⟩; have H10 := Lib.hid h10; have S10 := Lib.hid s10; clear h10 s10)
            go_ret
            rw [HF.out]
            refine ⟨rfl, v10, L10, H10.out, RSt.box ?_ HB0.out⟩
            have hA : RSt (w.alloc (.cells #[.string s, .string t] 9)) w7 g vF v7 L (L.eraseIdx k) := HS6.out.trans S7.out
            have hZ0 : (w.alloc (.cells #[.string s, .string t] 9)).heap.size ≤ z := by have h1 := S5.out.fr.size; have := HZ2.out; omega
            have hsub : ∀ yy, fpR g v7 (⟨{ r.f with n := t }, r.v⟩ :: (L.eraseIdx k)) yy → fpR g vF L yy ∨ (w.alloc (.cells #[.string s, .string t] 9)).heap.size ≤ yy := fun y hy => by
              rcases hy with hy | hy | ⟨x, hx, hy⟩
              · exact hA.new y (.inl hy)
              · exact hA.new y (.inr (.inl hy))
              · rcases List.mem_cons.1 hx with rfl | hx
                · exact .inl (HSUB.out y hy)
                · exact hA.new y (.inr (.inr ⟨x, hx, hy⟩))
            refine ⟨((hA.fr.trans HFZ.out (fun y hy => .inr (by rw [hy]; exact hZ0))).trans S10.out.fr hsub), fun y hy => ?_⟩
            rcases S10.out.new y hy with h1 | h1
            · exact hsub y h1
            · exact .inr (by have h2 := hA.fr.size; have h3 := HFZ.out.size; omega)
          | some r2 =>
            have HP2 := Lib.hid (place_yes H7.out HRC.out hq)
            obtain ⟨hk2, he2⟩ := kfnd_place (H7.out.rise HRC.out) hq
            obtain ⟨k2, hkk2⟩ : ∃ k2, k2 = kpl Rf.key (L.eraseIdx k) t.data.toList := ⟨_, rfl⟩
            simp only [← hkk2] at hk2 he2 HP2
            have HCUT2 : Hid (Calls Try.prog 68 #[ptr g, .int .i64 (k2 : Int)] w7 fun e w' => e = .returned (.tuple #[]) ∧ ∃ vF', RDk w' g vF' ((D.stepped.cut s).cut t) ((L.eraseIdx k).eraseIdx k2) ∧ RSt w7 w' g v7 vF' (L.eraseIdx k) ((L.eraseIdx k).eraseIdx k2) ∧ Frp (fun j => j = g) w7 w') := Lib.hid (rcut_any g k2 v7 (D.stepped.cut s) ((D.stepped.cut s).cut t) (L.eraseIdx k) w7 H7.out hk2 HLE.out (by rw [hkk2]; exact cut_erase H7.out HRC.out hq) (fun _ => rfl))
            have HNF : Hid (∀ w8 v8, RDk w8 g v8 ((D.stepped.cut s).cut t) ((L.eraseIdx k).eraseIdx k2) → kfnd Rf.key ((L.eraseIdx k).eraseIdx k2) t.data.toList = none) := Lib.hid (fun w8 v8 h8 => by
              have e1 := h8.find t.data.toList
              have e2 : kfnd Fl.key ((D.stepped.cut s).cut t).F t.data.toList = none := kfnd_no (fun e he => ((krem_mem _ _ e).1 he).2)
              rw [e2] at e1
              cases hx : kfnd Rf.key ((L.eraseIdx k).eraseIdx k2) t.data.toList with
              | none => rfl
              | some y => rw [hx] at e1; cases e1)
            clear hq he2 hk2 hkk2
            go_upto_region 16 with (first
              | (go_at_call 64; refine HP2.out.mono ?_; rintro e w8 ⟨rfl, rfl⟩)
              | (go_at_call 68; refine HCUT2.out.mono ?_; rintro e w8 ⟨rfl, v8, h8, s8, f8⟩; have H8 := Lib.hid h8; have S8 := Lib.hid s8; have F8 := Lib.hid f8; clear h8 s8 f8))
            have HBX8 := Lib.hid (HBX7.out.frp F8.out HZG.out)
            have HBD8 : Hid (Fresh 0 w8 r.v r.f.b) := Lib.hid (own_frp HBD7.out F8.out (fun y hy e => by subst e; exact own_ty HBD7.out H7.out.blk (by decide) hy))
            have HLT8 : Hid (∀ y, fpR g v8 ((L.eraseIdx k).eraseIdx k2) y → y ≠ z) := Lib.hid (fun y hy e => by
              rcases S8.out.new y hy with h1 | h1
              · exact HLT7.out y h1 e
              · have := HBX7.out.lt
                omega)
            have y0 := HBX8.out.cell (j := 0) rfl
            have y1 := HBX8.out.cell (j := 1) rfl
            have y2 := HBX8.out.cell (j := 2) rfl
            have fz := HBX8.out.free 0
            go_upto_region 17 with fail
            obtain ⟨w9, hw9⟩ : ∃ w9, w9 = w8.setCell ⟨z, 0, none⟩ (.string t) := ⟨_, rfl⟩
            rw [← hw9]
            have hfz : Frp (fun j => j = z) w8 w9 := by rw [hw9]; exact (Frp.refl (fun j => j = z) w8).set (p := ⟨z, 0, none⟩) rfl _
            have HBX9 : Hid (Blk w9 z [.string t, .slice pv r.f.b.length pc, .int .i64 (r.f.s : Int)] 86) := Lib.hid (by rw [hw9]; exact HBX8.out.set 0 _)
            have H9 : Hid (RDk w9 g v8 ((D.stepped.cut s).cut t) ((L.eraseIdx k).eraseIdx k2)) := Lib.hid (H8.out.frp hfz (fun y hy => HLT8.out y hy))
            have HBD9 : Hid (Fresh 0 w9 r.v r.f.b) := Lib.hid (own_frp HBD8.out hfz (fun y hy e => by subst e; exact own_ty HBD8.out HBX8.out (by decide) hy))
            have HFZ := Lib.hid hfz
            have HNF9 : Hid (kfnd Rf.key ((L.eraseIdx k).eraseIdx k2) t.data.toList = none) := Lib.hid (HNF.out _ _ H8.out)
            clear hw9 y0 y1 y2 fz hfz
            have y0 := HBX9.out.cell (j := 0) rfl
            have y1 := HBX9.out.cell (j := 1) rfl
            have y2 := HBX9.out.cell (j := 2) rfl
            go_wp2_with (go_at_call 66; refine (HPUT.out _ _ _ _ H9.out (HRC.out.rem _) (Nat.le_trans (List.length_eraseIdx_le _ _) HLE.out) HNF9.out HBD9.out (kput_krem (key := Fl.key) (D.stepped.cut s).F { r.f with n := t }) (fun _ => rfl)).mono ?_; rintro e w10 ⟨rfl, v10, L10, h10, s10⟩; have H10 := Lib.hid h10; have S10 := Lib.hid s10; clear h10 s10)
            go_ret
            rw [HF.out]
            refine ⟨rfl, v10, L10, H10.out, RSt.box ?_ HB0.out⟩
            have hA : RSt (w.alloc (.cells #[.string s, .string t] 9)) w8 g vF v8 L ((L.eraseIdx k).eraseIdx k2) := (HS6.out.trans S7.out).trans S8.out
            have hZ0 : (w.alloc (.cells #[.string s, .string t] 9)).heap.size ≤ z := by have h1 := S5.out.fr.size; have := HZ2.out; omega
            have hsub : ∀ yy, fpR g v8 (⟨{ r.f with n := t }, r.v⟩ :: ((L.eraseIdx k).eraseIdx k2)) yy → fpR g vF L yy ∨ (w.alloc (.cells #[.string s, .string t] 9)).heap.size ≤ yy := fun y hy => by
              rcases hy with hy | hy | ⟨x, hx, hy⟩
              · exact hA.new y (.inl hy)
              · exact hA.new y (.inr (.inl hy))
              · rcases List.mem_cons.1 hx with rfl | hx
                · exact .inl (HSUB.out y hy)
                · exact hA.new y (.inr (.inr ⟨x, hx, hy⟩))
            refine ⟨((hA.fr.trans HFZ.out (fun y hy => .inr (by rw [hy]; exact hZ0))).trans S10.out.fr hsub), fun y hy => ?_⟩
            rcases S10.out.new y hy with h1 | h1
            · exact hsub y h1
            · exact .inr (by have h2 := hA.fr.size; have h3 := HFZ.out.size; omega)
        · have HF : Hid (D.rename s t = (10, D.dead)) := Lib.hid (by unfold Dk.rename; rw [if_neg ha1, h.get_some hp]; simp only; rw [if_neg hst2, if_neg (by rw [hm]; simp)])
          have HST := Lib.hid (rstep_no g vF D L _ h0 hm)
          clear h h0 hi hM hN hs ht hr ha ha1 hp hb0 hst hk he hkk hst2 hm
          go_enter Try.func49, Try.ntmps49
          go_wp2_with (first
            | (go_at_call 63; refine HA.out.mono ?_; rintro e w3 ⟨rfl, rfl⟩)
            | (go_at_call 64; refine HP.out.mono ?_; rintro e w3 ⟨rfl, rfl⟩)
            | (go_at_call 65; refine HST.out.mono ?_; rintro e w5 ⟨rfl, h5, s5⟩; have H5 := Lib.hid h5; have S5 := Lib.hid s5; clear h5 s5))
          go_ret
          rw [HF.out]
          exact ⟨rfl, vF, L, H5.out, S5.out.box HB0.out⟩
  · have HA := Lib.hid (rasked_any g vF D L [s, t] _ _ h0 (row2r w s t 9) hst)
    have HF : Hid (D.rename s t = (D.ask [s, t], D)) := Lib.hid (by unfold Dk.rename; rw [if_pos ha])
    obtain ⟨q, hq⟩ : ∃ q, q = D.ask [s, t] := ⟨_, rfl⟩
    rw [← hq] at ha HF HA
    have q0 : (q != 0) = true := by simpa using ha
    clear h h0 hi hM hN hs ht hr ha hq hb0 hst
    go_enter Try.func49, Try.ntmps49
    go_wp2_with (go_at_call 63; refine HA.out.mono ?_; rintro e w3 ⟨rfl, rfl⟩)
    go_ret
    rw [HF.out]
    exact ⟨rfl, RdTo.same H.out HB0.out⟩
end
end Go.Proofs.Ytgcemddobcjpnaa
