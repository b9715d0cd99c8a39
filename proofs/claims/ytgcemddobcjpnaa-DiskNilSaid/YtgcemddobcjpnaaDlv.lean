/- Chapter 4's lives answers true. -/
import Derived.Test.YtgcemddobcjpnaaDop
import Derived.Test.YtgcemddobcjpnaaIRows
namespace Go.Proofs.Ytgcemddobcjpnaa
open Go.RowKit

abbrev ea : ByteArray := ⟨#[97]⟩
theorem ea_len : ea.size ≤ maxLen := by decide
def NoX (_ : Nat) : Prop := False
abbrev z70 : List UInt8 := List.replicate 70 0
abbrev dk0 : Dk := ⟨100, [], false, 0, false, 0⟩
abbrev dk1 : Dk := ⟨100, [⟨ea, [], 0⟩], false, 0, false, 1⟩
abbrev dk2 : Dk := ⟨100, [⟨ea, z70, 0⟩], false, 0, false, 3⟩
abbrev dk3 : Dk := ⟨100, [⟨ea, z70, 70⟩], false, 0, false, 4⟩
theorem dk_m : dk0.make ea = (0, dk1) := by kernel_rfl
theorem dk_a : dk1.append ea z70 = (0, dk2) := by kernel_rfl
theorem dk_s : dk2.sync ea = (0, dk3) := by kernel_rfl
theorem dk0_I : DkI dk0 0 0 := ⟨List.Pairwise.nil, by simp, by simp, by decide, by decide, by decide, by decide, by decide⟩
theorem dk1_I : DkI dk1 1 1 := by have := dk0_I.make ea; rwa [dk_m] at this
theorem dk2_I : DkI dk2 1 71 := by have := dk1_I.append ea z70; rwa [dk_a] at this
theorem dk3_I : DkI dk3 1 72 := by have := dk2_I.sync ea; rwa [dk_s] at this
theorem dk_left : dk3.leftP = 30 := by kernel_rfl
theorem goodOf {D : Dk} {M : Nat} {N : Int} (h : DkI D M N) (hm : M ≤ 100000) (hn : N + 2000 < 4611686018427387904) : Good D M N := ⟨h, hm, hn⟩
theorem Od.new {w0 w w' : World} {b mb : Nat} {D : Dk} (h0 : Below w0.heap.size w0 w) (h : PDk w' b mb D []) (hb : w.heap.size ≤ b) (hm : w.heap.size ≤ mb) (hbl : Below w.heap.size w w') : Od NoX w' w0 w' b D :=
  ⟨⟨mb, [], h, fun k hk => ⟨(by
    have := h0.size
    rcases hk with hk | hk | ⟨p, hp, -⟩
    · omega
    · omega
    · cases hp), fun hx => hx⟩⟩, fun k hk => hk.elim, Frp.refl _ _, below_and h0 hbl⟩
theorem od_new (r : Int) (w0 w : World) (h0 : Below w0.heap.size w0 w) (h1 : 0 ≤ r) (h2 : r ≤ 1073741824) : Calls Try.prog 9 #[.int .i64 r] w fun e w' => ∃ b, e = .returned (.tuple #[ptr b, .int .i64 0]) ∧ w.heap.size ≤ b ∧ Od NoX w' w0 w' b ⟨r, [], false, 0, false, 0⟩ ∧ Below w.heap.size w w' :=
  (new_ok r w h1 h2).mono fun e w' ⟨b, mb, he, hb, hm, hp, hbl⟩ => ⟨b, he, hb, Od.new h0 hp hb hm hbl, hbl⟩
/-- blocks are no longer watched -/
theorem Od.free_ {X : Nat → Prop} {wx w0 w : World} {b : Nat} {D : Dk} (h : Od X wx w0 w b D) : Od NoX w w0 w b D := by
  obtain ⟨mb, L, h1, h2⟩ := h.d
  exact ⟨⟨mb, L, h1, fun k hk => ⟨(h2 k hk).1, fun hx => hx⟩⟩, fun k hk => hk.elim, Frp.refl _ _, h.bel⟩
/-- a row that was just made is lent -/
theorem od_append_new {wx w0 wa w : World} {b : Nat} {D : Dk} {M : Nat} {N : Int} (ho : Od NoX wx w0 wa b D) (hb : Below wa.heap.size wa w) (gd : Good D M N) (s : ByteArray) (hs : s.size ≤ maxLen) (g n c : Nat) (l : List UInt8) (hrd : Rd w (.slice (some ⟨g, 0, none⟩) n c) l) (hl : l.length ≤ 2000) (hg : wa.heap.size ≤ g) (hlt : g < w.heap.size) :
    Calls Try.prog 11 #[ptr b, .string s, .slice (some ⟨g, 0, none⟩) n c] w fun e w' => e = .returned (.int .i64 (D.append s l).1) ∧ Od NoX w' w0 w' b (D.append s l).2 := by
  have h1 := ho.watch hb (fun k => k = g) (fun k hk => by rw [hk]; exact hlt) (fun k hk => .inr (by rw [hk]; exact hg))
  exact (od_append h1 gd s hs _ l hrd hl (fun _ k hk => .inl (by simpa [Value.ownBlock] using hk.symm))).mono fun e w' ⟨he, ho⟩ => ⟨he, ho.free_⟩
theorem make_bytes (m : Nat) (hm : m ≤ 100) (w : World) : (Instr.makeSlice 29 (.int .i64 (m : Int)) (.int .i64 (m : Int))).run Try.prog w = .ok (.slice (some ⟨w.heap.size, 0, none⟩) m m) (w.alloc (.cells (List.replicate m (B 0)).toArray 5)) := by
  obtain ⟨i, hi, hz0, hz1, hz2⟩ := info_parts Try.uinfo
  have h := run_make (P := Try.prog) w 29 5 i _ Try.underlying29 hi hz0 .i64 .i64 (m : Int) (m : Int) (by omega) (Int.le_refl _) (by rw [hz2]; omega) (by omega)
  rw [Int.toNat_natCast, hz1] at h
  have e : (madeCells (Value.cells (.int .u8 0)) (m * 1)).toList = List.replicate m (B 0) := by rw [Nat.mul_one]; exact toList_madeCells_one _ _
  have e2 : madeCells (Value.cells (.int .u8 0)) (m * 1) = (List.replicate m (B 0)).toArray := by rw [← e]
  rw [e2] at h
  exact h
theorem made_rd (w : World) (m : Nat) (hm : m ≤ 100) : Rd (w.alloc (.cells (List.replicate m (B 0)).toArray 5)) (.slice (some ⟨w.heap.size, 0, none⟩) m m) (List.replicate m 0) := by
  have hb := Blk.made w (List.replicate m (B 0)) 5
  have := row_block (us := List.replicate m (B 0)) hb (by simp; unfold maxLen; omega) (by simp [Value.oneCell'])
  unfold Rd
  simpa [List.map_replicate] using this

set_option maxRecDepth 100000 in
set_option maxHeartbeats 2000000 in
theorem dlives (w : World) :
    Calls Try.prog 8 #[] w fun e w' => e = .returned (.bool true) ∧ Below w.heap.size w w' := by
  have HMK : ∀ w2 : World, (Instr.makeSlice 29 (.int .i64 70) (.int .i64 70)).run Try.prog w2 = .ok (.slice (some ⟨w2.heap.size, 0, none⟩) 70 70) (w2.alloc (.cells (List.replicate 70 (B 0)).toArray 5)) := fun w2 => make_bytes 70 (by decide) w2
  obtain ⟨zz, hzz⟩ : ∃ zz, zz = (List.replicate 70 (B 0)).toArray := ⟨_, rfl⟩
  rw [← hzz] at HMK
  have HRD : Hid (∀ w2 : World, Rd (w2.alloc (.cells zz 5)) (.slice (some ⟨w2.heap.size, 0, none⟩) 70 70) z70) := Lib.hid (fun w2 => by rw [hzz]; exact made_rd w2 70 (by decide))
  clear hzz
  go_enter Try.func8, Try.ntmps8
  go_wp2_with (first
    | (go_at_call 9; refine (od_new 100 w _ (Below.refl _ _) (by decide) (by decide)).mono ?_; rintro e w1 ⟨b, rfl, -, ho, -⟩; have HO1 := Lib.hid ho; clear ho)
    | (go_at_call 10; refine (od_make HO1.out (goodOf dk0_I (by decide) (by decide)) ea ea_len).mono ?_; rw [dk_m]; rintro e w2 ⟨rfl, ho⟩; have HO2 := Lib.hid ho; clear ho)
    | (go_at_call 11; refine (od_append_new HO2.out.free_ (below_alloc _ _) (goodOf dk1_I (by decide) (by decide)) ea ea_len w2.heap.size 70 70 z70 (HRD.out w2) (by decide) (Nat.le_refl _) (by simp)).mono ?_; rw [dk_a]; rintro e w3 ⟨rfl, ho⟩; have HO3 := Lib.hid ho; clear ho)
    | (go_at_call 12; refine (od_sync HO3.out (goodOf dk2_I (by decide) (by decide)) ea ea_len).mono ?_; rw [dk_s]; rintro e w4 ⟨rfl, ho⟩; have HO4 := Lib.hid ho; clear ho)
    | (go_at_call 28; refine (od_steps HO4.out).mono ?_; rintro e w5 ⟨rfl, rfl⟩)
    | (go_at_call 17; refine (od_on HO4.out).mono ?_; rintro e w5 ⟨rfl, rfl⟩)
    | (go_at_call 18; refine (od_left HO4.out (goodOf dk3_I (by decide) (by decide))).mono ?_; rw [dk_left]; rintro e w5 ⟨rfl, hb⟩; have HB5 := Lib.hid hb; clear hb))
  go_ret
  exact ⟨rfl, below_and HO4.out.bel HB5.out⟩
end Go.Proofs.Ytgcemddobcjpnaa
