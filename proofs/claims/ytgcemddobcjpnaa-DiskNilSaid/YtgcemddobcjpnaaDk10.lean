/- The program's disk: Turn. -/
import Derived.Test.YtgcemddobcjpnaaDk9
namespace Go.Proofs.Ytgcemddobcjpnaa
open Go.RowKit

theorem xor_u8 (x y : UInt8) : bits .xor .u8 (x.toNat : Int) (y.toNat : Int) = ((x ^^^ y).toNat : Int) := by
  have h1 := x.toNat_lt
  have h2 := y.toNat_lt
  have h4 : x.toNat ^^^ y.toNat < 2 ^ 8 := Nat.xor_lt_two_pow (by omega) (by omega)
  rw [UInt8.toNat_xor]
  have e1 : (BitVec.ofInt 8 (x.toNat : Int)).toNat = x.toNat := by
    rw [BitVec.ofInt_natCast, BitVec.toNat_ofNat]; exact Nat.mod_eq_of_lt (by omega)
  have e2 : (BitVec.ofInt 8 (y.toNat : Int)).toNat = y.toNat := by
    rw [BitVec.ofInt_natCast, BitVec.toNat_ofNat]; exact Nat.mod_eq_of_lt (by omega)
  show IntKind.u8.wrap ((BitVec.ofInt 8 (x.toNat : Int) ^^^ BitVec.ofInt 8 (y.toNat : Int)).toNat : Int) = _
  rw [BitVec.toNat_xor, e1, e2, IntKind.wrap_u8]
  omega
theorem modify_set {l : List UInt8} {j : Nat} (h : j < l.length) (f : UInt8 → UInt8) : l.modify j f = l.set j (f l[j]) := by
  apply List.ext_getElem?
  intro i
  rw [List.getElem?_modify, List.getElem?_set]
  by_cases e : j = i
  · subst e
    simp [h]
  · simp [e]

theorem turn_none {D : Dk} {s : ByteArray} {k : Int} {c : UInt8} (hn : nameB s = true) (hg : D.get s = none) : D.turn s k c = (6, D) := by unfold Dk.turn; rw [if_pos hn, hg]
theorem turn_out {D : Dk} {s : ByteArray} {k : Int} {c : UInt8} {f : Fl} (hn : nameB s = true) (hg : D.get s = some f) (h : ¬ (0 ≤ k ∧ k < (f.b.length : Int))) : D.turn s k c = (6, D) := by unfold Dk.turn; rw [if_pos hn, hg]; simp only; rw [if_neg h]
theorem turn_in {D : Dk} {s : ByteArray} {k : Int} {c : UInt8} {f : Fl} (hn : nameB s = true) (hg : D.get s = some f) (h : 0 ≤ k ∧ k < (f.b.length : Int)) : D.turn s k c = (0, D.put (Dk.turned f k.toNat c)) := by unfold Dk.turn; rw [if_pos hn, hg]; simp only; rw [if_pos h]

section
variable (b mb : Nat) (D : Dk) (L : List Pf) (M : Nat) (N : Int) (s : ByteArray) (k : Int) (c : UInt8) (w : World) (h : PDk w b mb D L) (hi : DkI D M N) (hs : s.size ≤ maxLen)
include h hi hs
set_option maxRecDepth 100000 in
set_option maxHeartbeats 2000000 in
theorem turn_any : Calls Try.prog 22 #[ptr b, .string s, .int .i64 k, .int .u8 (c.toNat : Int)] w fun e w' => e = .returned (.int .i64 (D.turn s k c).1) ∧ DkTo w w' b mb L (D.turn s k c).2 := by
  have H := Lib.hid h
  cases hn : nameB s
  · have HF : Hid (D.turn s k c = (2, D)) := Lib.hid (by unfold Dk.turn; rw [if_neg (by rw [hn]; simp)])
    have HNM : Hid (∀ w : World, Calls Try.prog 45 #[.string s] w fun e w' => e = .returned (.bool false) ∧ Below w.heap.size w w') := Lib.hid (fun w => by have := named_any s w hs; rwa [hn] at this)
    clear h hi hs hn
    go_enter Try.func22, Try.ntmps22
    go_wp2_with (first
      | (go_at_call 40; refine (none_made b mb D L _ H.out).mono ?_; rintro e w' ⟨rfl, rfl⟩)
      | (go_at_call 45; refine (HNM.out _).mono ?_; rintro e w3 ⟨rfl, hb⟩; have HB3 := Lib.hid hb; clear hb))
    go_ret
    rw [HF.out]
    exact ⟨rfl, DkTo.same H.out HB3.out⟩
  · have HNM : Hid (∀ w : World, Calls Try.prog 45 #[.string s] w fun e w' => e = .returned (.bool true) ∧ Below w.heap.size w w') := Lib.hid (fun w => by have := named_any s w hs; rwa [hn] at this)
    have HS := Lib.hid hs
    cases hp : kfnd Pf.key L s.data.toList with
    | none =>
      have HF : Hid (D.turn s k c = (6, D)) := Lib.hid (turn_none hn (h.get_none hp))
      have HG := Lib.hid (kget_none hp)
      clear h hi hs hn hp
      go_enter Try.func22, Try.ntmps22
      go_wp2_with (first
        | (go_at_call 40; refine (none_made b mb D L _ H.out).mono ?_; rintro e w' ⟨rfl, rfl⟩)
        | (go_at_call 45; refine (HNM.out _).mono ?_; rintro e w3 ⟨rfl, hb⟩; have HB3 := Lib.hid hb; have H3 := Lib.hid (H.out.kept hb); have c0 := H3.out.blk.cell (j := 0) rfl; clear hb)
        | (at_lookup; refine wpList_slook _ rfl _ _ _ rfl 9 66 Try.underlying9 Try.underlying52 (fzero _) mb (kM Pf.key Pf.val L) rfl H3.out.map s rfl HS.out ?_; rw [HG.out.1]; simp only [Option.getD_none]))
      go_ret
      rw [HF.out]
      exact ⟨rfl, DkTo.same H.out HB3.out⟩
    | some p =>
      obtain ⟨hmem, hkey⟩ := kfnd_mem hp
      have HG := Lib.hid (kget_some hp)
      have HM := Lib.hid hmem
      obtain ⟨pv, pc, hv, hpc, hpm⟩ := own_slice (h.body p hmem)
      have HV := Lib.hid hv
      by_cases h0 : 0 ≤ k
      · have i0 : decide (k < 0) = false := by simp; omega
        by_cases h1 : k < (p.f.b.length : Int)
        · have HF : Hid (D.turn s k c = (0, D.put (Dk.turned p.f k.toNat c))) := Lib.hid (turn_in hn (h.get_some hp) ⟨h0, h1⟩)
          obtain ⟨j, rfl⟩ : ∃ j : Nat, k = (j : Int) := ⟨k.toNat, by omega⟩
          have hj : j < p.f.b.length := by omega
          have i1 : decide ((p.f.b.length : Int) ≤ (j : Int)) = false := by simp; omega
          have HP : Hid (kfnd Pf.key L p.key = some p) := Lib.hid (by rw [hkey]; exact hp)
          have HR := Lib.hid hi.rise
          obtain ⟨g, cap, e1, -, -, -⟩ := own_block (h.body p hmem) (by omega)
          have hve := hv
          rw [e1] at hve
          simp only [Value.slice.injEq] at hve
          obtain ⟨rfl, -, rfl⟩ := hve
          have HJ := Lib.hid hj
          obtain ⟨y, hy⟩ : ∃ y, y = p.f.b[j] := ⟨_, rfl⟩
          have HY := Lib.hid hy
          have b1 : (0 : Int) ≤ (j : Int) := by omega
          clear h hi hs hn hp hmem hkey hv hpm e1 hy h0
          go_enter Try.func22, Try.ntmps22
          go_wp2_with (first
            | (go_at_call 40; refine (none_made b mb D L _ H.out).mono ?_; rintro e w' ⟨rfl, rfl⟩)
            | (go_at_call 45; refine (HNM.out _).mono ?_; rintro e w3 ⟨rfl, hb⟩; have HB3 := Lib.hid hb; have H3 := Lib.hid (H.out.kept hb); have c0 := H3.out.blk.cell (j := 0) rfl; have d0 := (H3.out.file p HM.out).cell (j := 0) rfl; rw [HV.out] at d0; have hbd := H3.out.body p HM.out; rw [HV.out] at hbd; have y0 := own_cell hbd (j := j) (u := B y) (by rw [HY.out, List.getElem?_map, List.getElem?_eq_getElem HJ.out]; rfl); have fy := own_free hbd j; clear hb hbd)
            | (at_lookup; refine wpList_slook _ rfl _ _ _ rfl 9 66 Try.underlying9 Try.underlying52 (fzero _) mb (kM Pf.key Pf.val L) rfl H3.out.map s rfl HS.out ?_; rw [HG.out.1]; simp only [Option.getD_some]))
          go_ret
          rw [HF.out, xor_u8]
          have hbd := H3.out.body p HM.out
          rw [HV.out] at hbd
          have hlt : (Dk.turned p.f (j : Int).toNat c).b = p.f.b.set j (y ^^^ c) := by
            unfold Dk.turned
            simp only [Int.toNat_natCast]
            rw [modify_set HJ.out, HY.out]
            rfl
          have hset : Frp (fun k => k = p.a ∨ p.v.ownBlock = some k) w3 (w3.setCell ⟨g, j, none⟩ (B (y ^^^ c))) := (Frp.refl _ w3).set (p := ⟨g, j, none⟩) (.inr (by rw [HV.out]; rfl)) _
          have hbody : Fresh 0 (w3.setCell ⟨g, j, none⟩ (B (y ^^^ c))) p.v (Dk.turned p.f (j : Int).toNat c).b := by
            have := own_set hbd (k := j) (by have := HJ.out; omega) (B (y ^^^ c))
            rw [hlt]
            unfold Fresh
            rw [List.length_set, List.map_set, HV.out]
            exact this
          have hfile := (H3.out.file p HM.out).other (a := ⟨g, j, none⟩) (fun e => (H3.out.ne_v HM.out).2.2 p HM.out (by rw [HV.out, e]; rfl)) (B (y ^^^ c))
          have hpd := H3.out.turn (D' := D.put (Dk.turned p.f (j : Int).toNat c)) (p := p) (x := ⟨Dk.turned p.f (j : Int).toNat c, p.a, p.v⟩) HR.out HP.out rfl rfl rfl hset hfile hbody (fun k hk => .inl hk)
          refine ⟨rfl, _, hpd, DSt.box ⟨hset.mono (fun k hk => .inr (.inr ⟨p, HM.out, hk⟩)), fun k hk => ?_⟩ HB3.out⟩
          rcases fp_put hk with h1 | h1
          · exact .inl h1
          · exact .inl (.inr (.inr ⟨p, HM.out, h1⟩))
        · have HF : Hid (D.turn s k c = (6, D)) := Lib.hid (turn_out hn (h.get_some hp) (by omega))
          have i1 : decide ((p.f.b.length : Int) ≤ k) = true := by simp; omega
          clear h hi hs hn hp hmem hkey hv hpm h0 h1
          go_enter Try.func22, Try.ntmps22
          go_wp2_with (first
            | (go_at_call 40; refine (none_made b mb D L _ H.out).mono ?_; rintro e w' ⟨rfl, rfl⟩)
            | (go_at_call 45; refine (HNM.out _).mono ?_; rintro e w3 ⟨rfl, hb⟩; have HB3 := Lib.hid hb; have H3 := Lib.hid (H.out.kept hb); have c0 := H3.out.blk.cell (j := 0) rfl; have d0 := (H3.out.file p HM.out).cell (j := 0) rfl; rw [HV.out] at d0; clear hb)
            | (at_lookup; refine wpList_slook _ rfl _ _ _ rfl 9 66 Try.underlying9 Try.underlying52 (fzero _) mb (kM Pf.key Pf.val L) rfl H3.out.map s rfl HS.out ?_; rw [HG.out.1]; simp only [Option.getD_some]))
          go_ret
          rw [HF.out]
          exact ⟨rfl, DkTo.same H.out HB3.out⟩
      · have HF : Hid (D.turn s k c = (6, D)) := Lib.hid (turn_out hn (h.get_some hp) (by omega))
        have i0 : decide (k < 0) = true := by simp; omega
        clear h hi hs hn hp hmem hkey hv hpm h0
        go_enter Try.func22, Try.ntmps22
        go_wp2_with (first
          | (go_at_call 40; refine (none_made b mb D L _ H.out).mono ?_; rintro e w' ⟨rfl, rfl⟩)
          | (go_at_call 45; refine (HNM.out _).mono ?_; rintro e w3 ⟨rfl, hb⟩; have HB3 := Lib.hid hb; have H3 := Lib.hid (H.out.kept hb); have c0 := H3.out.blk.cell (j := 0) rfl; clear hb)
          | (at_lookup; refine wpList_slook _ rfl _ _ _ rfl 9 66 Try.underlying9 Try.underlying52 (fzero _) mb (kM Pf.key Pf.val L) rfl H3.out.map s rfl HS.out ?_; rw [HG.out.1]; simp only [Option.getD_some]))
        go_ret
        rw [HF.out]
        exact ⟨rfl, DkTo.same H.out HB3.out⟩
end
end Go.Proofs.Ytgcemddobcjpnaa
