/- The walk of DiskNames. -/
import Derived.Test.YtgcemddobcjpnaaDlv
import Derived.Test.YtgcemddobcjpnaaTexts
import Derived.Sort.Walk0
import Derived.Lib.SlBytesConst
namespace Go.Proofs.Ytgcemddobcjpnaa
open Go.RowKit

theorem lit_ints (w : World) (zs : List Int) (hl : zs.length ≤ maxLen) : Row (w.alloc (.cells (zs.map (Value.int .i64)).toArray 3)) (.slice (some ⟨w.heap.size, 0, none⟩) zs.length zs.length) 1 zs.length (zs.map (Value.int .i64)) := by
  have := row_block (w := w.alloc (.cells (zs.map (Value.int .i64)).toArray 3)) (g := w.heap.size) (us := zs.map (Value.int .i64)) (heap_alloc_new w _) (by simpa using hl) (by intro u hu; obtain ⟨y, -, rfl⟩ := List.mem_map.1 hu; rfl)
  simpa using this
theorem lit_texts (w : World) (ss : List ByteArray) (hl : ss.length ≤ maxLen) : Texts (w.alloc (.cells (ss.map Value.string).toArray 9)) (.slice (some ⟨w.heap.size, 0, none⟩) ss.length ss.length) ss := by
  have := row_block (w := w.alloc (.cells (ss.map Value.string).toArray 9)) (g := w.heap.size) (us := ss.map Value.string) (heap_alloc_new w _) (by simpa using hl) (by intro u hu; obtain ⟨y, -, rfl⟩ := List.mem_map.1 hu; rfl)
  unfold Texts
  simpa using this
theorem lit_bytes (w : World) (l : List UInt8) (hl : l.length ≤ maxLen) (fr : Nat × Nat) : Rd (w.alloc (.cells (l.map B).toArray 5 fr)) (.slice (some ⟨w.heap.size, 0, none⟩) l.length l.length) l := by
  have := row_block (w := w.alloc (.cells (l.map B).toArray 5 fr)) (g := w.heap.size) (us := l.map B) (heap_alloc_new w _) (by simpa using hl) (by intro u hu; obtain ⟨y, -, rfl⟩ := List.mem_map.1 hu; rfl)
  unfold Rd
  simpa using this
theorem texts_names {w : World} {base : Nat} {v : Value} {ns : List ByteArray} {n : Nat} (h : w.ownsRow base 9 1 v n (ns.map Value.string)) : Texts w v ns := by
  have hl := h.1
  have h1 := row_of_owns h (fun u hu => by obtain ⟨y, -, rfl⟩ := List.mem_map.1 hu; rfl)
  unfold Texts
  rw [show ns.length = n from by simpa using hl]
  exact h1
theorem same_own {w : World} {b1 b2 n1 n2 : Nat} {v1 v2 : Value} (ns : List ByteArray) (h1 : w.ownsRow b1 9 1 v1 n1 (ns.map Value.string)) (h2 : w.ownsRow b2 9 1 v2 n2 (ns.map Value.string)) :
    Calls Try.prog 20 #[v1, v2] w fun e w' => e = .returned (.bool true) ∧ Below w.heap.size w w' := by
  have := sametexts_any v1 v2 _ _ w (texts_names h1) (texts_names h2)
  rw [show ∀ a : List ByteArray, sameT a a = true from fun a => by unfold sameT; simp] at this
  exact this
theorem od_crash_new {wx w0 wa w : World} {b : Nat} {D : Dk} {M : Nat} {N : Int} (ho : Od NoX wx w0 wa b D) (hb : Below wa.heap.size wa w) (gd : Good D M N) (g n c : Nat) (keep : List Int) (hk : Row w (.slice (some ⟨g, 0, none⟩) n c) 1 keep.length (keep.map (Value.int .i64))) (hwf : ∀ x ∈ keep, x ≤ 9223372036854775807) (hg : wa.heap.size ≤ g) (hlt : g < w.heap.size) :
    Calls Try.prog 13 #[ptr b, .slice (some ⟨g, 0, none⟩) n c] w fun e w' => e = .returned (.int .i64 (D.crash keep).1) ∧ Od NoX w' w0 w' b (D.crash keep).2 := by
  have h1 := ho.watch hb (fun k => k = g) (fun k hk => by rw [hk]; exact hlt) (fun k hk => .inr (by rw [hk]; exact hg))
  exact (od_crash h1 gd keep _ hk hwf (fun k hk => .inl (by simpa [Value.ownBlock] using hk.symm))).mono fun e w' ⟨he, ho⟩ => ⟨he, ho.free_⟩

abbrev eb : ByteArray := ⟨#[98]⟩
theorem eb_len : eb.size ≤ maxLen := by decide
abbrev xyz : List UInt8 := [120, 121, 122]
abbrev z29 : List UInt8 := List.replicate 29 0
abbrev z72 : List UInt8 := z70 ++ [120, 121]
abbrev dk4 : Dk := ⟨100, [⟨ea, z70 ++ xyz, 70⟩], false, 0, false, 5⟩
abbrev dk5 : Dk := ⟨100, [⟨ea, z72, 72⟩], false, 0, false, 5⟩
abbrev dk6 : Dk := ⟨100, [⟨ea, z72, 72⟩], true, 0, false, 5⟩
abbrev dk7 : Dk := ⟨100, [⟨ea, z72, 72⟩], true, 0, true, 5⟩
abbrev dk8 : Dk := ⟨100, [⟨ea, z72, 72⟩], false, 0, false, 5⟩
abbrev dk9 : Dk := ⟨100, [⟨eb, z72, 72⟩], false, 0, false, 6⟩
abbrev dk10 : Dk := ⟨100, [⟨eb, 1 :: z72.tail, 72⟩], false, 0, false, 6⟩
theorem dk_a4 : dk3.append ea xyz = (0, dk4) := by kernel_rfl
theorem dk_c5 : dk4.crash [2] = (0, dk5) := by kernel_rfl
theorem dk_r5 : dk5.read ea = (0, z72) := by kernel_rfl
theorem dk_s5 : dk5.synced ea = (0, 72) := by kernel_rfl
theorem dk_a5 : dk5.append ea z29 = (8, dk5) := by kernel_rfl
theorem dk_f6 : dk5.setFuse 0 = (0, dk6) := by kernel_rfl
theorem dk_s7 : dk6.sync ea = (10, dk7) := by kernel_rfl
theorem dk_c8 : dk7.crash [] = (0, dk8) := by kernel_rfl
theorem dk_l8 : dk8.leftP = 28 := by kernel_rfl
theorem dk_r9 : dk8.rename ea eb = (0, dk9) := by kernel_rfl
theorem dk_n9 : dk9.names = [eb] := by kernel_rfl
theorem dk_d9 : dk9.read ea = (6, []) := by kernel_rfl
theorem dk_t9 : dk9.turn eb 0 1 = (0, dk10) := by kernel_rfl
theorem dk_t10 : dk10.turn eb 72 1 = (6, dk10) := by kernel_rfl
theorem dk4_I : DkI dk4 1 75 := by have := dk3_I.append ea xyz; rwa [dk_a4] at this
theorem dk5_I : DkI dk5 1 75 := by have := dk4_I.crash [2]; rwa [dk_c5] at this
theorem dk6_I : DkI dk6 1 75 := by have := dk5_I.setFuse 0 (by decide); rwa [dk_f6] at this
theorem dk7_I : DkI dk7 1 76 := by have := dk6_I.sync ea; rwa [dk_s7] at this
theorem dk8_I : DkI dk8 1 76 := by have := dk7_I.crash []; rwa [dk_c8] at this
theorem dk9_I : DkI dk9 1 77 := by have := dk8_I.rename ea eb; rwa [dk_r9] at this
theorem dk10_I : DkI dk10 1 77 := by have := dk9_I.turn eb 0 1; rwa [dk_t9] at this

set_option maxRecDepth 100000 in
set_option maxHeartbeats 8000000 in
theorem diskNames_walk (w : World) :
    Calls Try.prog 3 #[] w fun e w' => e = .returned (.bool true) ∧ Below w.heap.size w w' := by
  have HMK : ∀ w2 : World, (Instr.makeSlice 29 (.int .i64 70) (.int .i64 70)).run Try.prog w2 = .ok (.slice (some ⟨w2.heap.size, 0, none⟩) 70 70) (w2.alloc (.cells (List.replicate 70 (B 0)).toArray 5)) := fun w2 => make_bytes 70 (by decide) w2
  obtain ⟨zz, hzz⟩ : ∃ zz, zz = (List.replicate 70 (B 0)).toArray := ⟨_, rfl⟩
  rw [← hzz] at HMK
  have HRD : Hid (∀ w2 : World, Rd (w2.alloc (.cells zz 5)) (.slice (some ⟨w2.heap.size, 0, none⟩) 70 70) z70) := Lib.hid (fun w2 => by rw [hzz]; exact made_rd w2 70 (by decide))
  clear hzz
  have HMK2 : ∀ w2 : World, (Instr.makeSlice 29 (.int .i64 29) (.int .i64 29)).run Try.prog w2 = .ok (.slice (some ⟨w2.heap.size, 0, none⟩) 29 29) (w2.alloc (.cells (List.replicate 29 (B 0)).toArray 5)) := fun w2 => make_bytes 29 (by decide) w2
  obtain ⟨zy, hzy⟩ : ∃ zy, zy = (List.replicate 29 (B 0)).toArray := ⟨_, rfl⟩
  rw [← hzy] at HMK2
  have HRD2 : Hid (∀ w2 : World, Rd (w2.alloc (.cells zy 5)) (.slice (some ⟨w2.heap.size, 0, none⟩) 29 29) z29) := Lib.hid (fun w2 => by rw [hzy]; exact made_rd w2 29 (by decide))
  clear hzy
  have hz72 : z72.length = 72 := by decide
  have hcv := fun (w : World) (C : Array Value) (n c : Nat) => Lib.run_convert_bytes_const (P := Try.prog) w 29 5 C n c Try.underlying29 Try.underlying5
  go_enter Try.func3, Try.ntmps3
  go_wp2_with (first
    | (go_at_call 8; refine (dlives _).mono ?_; rintro e w0 ⟨rfl, hb⟩; have HB0 := Lib.hid hb; clear hb)
    | (go_at_call 9; refine (od_new 100 w _ HB0.out (by decide) (by decide)).mono ?_; rintro e w1 ⟨b, rfl, -, ho, -⟩; have HO1 := Lib.hid ho; clear ho)
    | (go_at_call 10; refine (od_make HO1.out (goodOf dk0_I (by decide) (by decide)) ea ea_len).mono ?_; rw [dk_m]; rintro e w2 ⟨rfl, ho⟩; have HO2 := Lib.hid ho; clear ho)
    | (go_at_call 11; have _t := HO5; clear _t; refine (od_append_new HO5.out.free_ (below_alloc _ _) (goodOf dk5_I (by decide) (by decide)) ea ea_len w5.heap.size 29 29 z29 (HRD2.out w5) (by decide) (Nat.le_refl _) (by simp)).mono ?_; rw [dk_a5]; rintro e w5c ⟨rfl, ho⟩; have HO5c := Lib.hid ho; clear ho HO5)
    | (go_at_call 11; have _t := HO4; clear _t; refine (od_append_new HO4.out.free_ (below_alloc _ _) (goodOf dk3_I (by decide) (by decide)) ea ea_len w4.heap.size 3 3 xyz (lit_bytes w4 xyz (by decide) _) (by decide) (Nat.le_refl _) (by simp)).mono ?_; rw [dk_a4]; rintro e w4c ⟨rfl, ho⟩; have HO4c := Lib.hid ho; clear ho HO4)
    | (go_at_call 11; refine (od_append_new HO2.out.free_ (below_alloc _ _) (goodOf dk1_I (by decide) (by decide)) ea ea_len w2.heap.size 70 70 z70 (HRD.out w2) (by decide) (Nat.le_refl _) (by simp)).mono ?_; rw [dk_a]; rintro e w3 ⟨rfl, ho⟩; have HO3 := Lib.hid ho; clear ho HO2)
    | (go_at_call 12; have _t := HO3; clear _t; refine (od_sync HO3.out (goodOf dk2_I (by decide) (by decide)) ea ea_len).mono ?_; rw [dk_s]; rintro e w4 ⟨rfl, ho⟩; have HO4 := Lib.hid ho; clear ho HO3)
    | (go_at_call 13; have _t := HO4c; clear _t; refine (od_crash_new HO4c.out.free_ (below_alloc _ _) (goodOf dk4_I (by decide) (by decide)) w4c.heap.size 1 1 [2] (lit_ints w4c [2] (by decide)) (by simp) (Nat.le_refl _) (by simp)).mono ?_; rw [dk_c5]; rintro e w5a ⟨rfl, ho⟩; have HO5a := Lib.hid ho; clear ho HO4c)
    | (go_at_call 14; have _t := HO5a; clear _t; refine (od_read HO5a.out (goodOf dk5_I (by decide) (by decide)) ea ea_len).mono ?_; rw [dk_r5]; rintro e w5b ⟨v5, rfl, hf, hb⟩; simp only [hz72]; obtain ⟨p5, c5, rfl, -, -⟩ := own_slice hf; have HO5b := Lib.hid (HO5a.out.kept hb); simp only [hz72]; clear hf hb HO5a)
    | (go_at_call 15; have _t := HO5b; clear _t; refine (od_synced HO5b.out ea ea_len).mono ?_; rw [dk_s5]; rintro e w5 ⟨rfl, hb⟩; have HO5 := Lib.hid (HO5b.out.kept hb); clear hb HO5b)
    | (go_at_call 16; have _t := HO5c; clear _t; refine (od_fuse HO5c.out 0).mono ?_; rw [dk_f6]; rintro e w6 ⟨rfl, ho⟩; have HO6 := Lib.hid ho; clear ho HO5c)
    | (go_at_call 12; have _t := HO6; clear _t; refine (od_sync HO6.out (goodOf dk6_I (by decide) (by decide)) ea ea_len).mono ?_; rw [dk_s7]; rintro e w7 ⟨rfl, ho⟩; have HO7 := Lib.hid ho; clear ho HO6)
    | (go_at_call 17; have _t := HO7; refine (od_on HO7.out).mono ?_; rintro e w7 ⟨rfl, rfl⟩)
    | (go_at_call 13; have _t := HO7; clear _t; refine (od_crash HO7.out (goodOf dk7_I (by decide) (by decide)) [] _ (row_nil _ 1) (by simp) (by simp [Value.ownBlock])).mono ?_; rw [dk_c8]; rintro e w8 ⟨rfl, ho⟩; have HO8 := Lib.hid ho; clear ho HO7)
    | (go_at_call 17; refine (od_on HO8.out).mono ?_; rintro e w8 ⟨rfl, rfl⟩)
    | (go_at_call 18; refine (od_left HO8.out (goodOf dk8_I (by decide) (by decide))).mono ?_; rw [dk_l8]; rintro e w8b ⟨rfl, hb⟩; have HO8b := Lib.hid (HO8.out.kept hb); clear hb HO8)
    | (go_at_call 19; refine (od_rename HO8b.out (goodOf dk8_I (by decide) (by decide)) ea ea_len eb eb_len).mono ?_; rw [dk_r9]; rintro e w9 ⟨rfl, ho⟩; have HO9 := Lib.hid ho; clear ho HO8b)
    | (go_at_call 21; refine (od_names HO9.out (goodOf dk9_I (by decide) (by decide))).mono ?_; rw [dk_n9]; rintro e w9b ⟨v9, rfl, hn, hb⟩; have HN9 := Lib.hid (own_keep hn (below_alloc w9b (.cells #[.string eb] 9))); have HO9b := Lib.hid ((HO9.out.kept hb).kept (below_alloc w9b (.cells #[.string eb] 9))); clear hn hb HO9)
    | (go_at_call 20; refine (sametexts_any _ _ [eb] [eb] _ (texts_names HN9.out) (lit_texts w9b [eb] (by decide))).mono ?_; rw [show sameT [eb] [eb] = true from by decide]; rintro e w9c ⟨rfl, hb⟩; have HO9c := Lib.hid (HO9b.out.kept hb); clear hb HO9b)
    | (go_at_call 14; have _t := HO9c; clear _t; refine (od_read HO9c.out (goodOf dk9_I (by decide) (by decide)) ea ea_len).mono ?_; rw [dk_d9]; rintro e w9d ⟨v9d, rfl, hf, hb⟩; have HO9d := Lib.hid (HO9c.out.kept hb); clear hf hb HO9c)
    | (go_at_call 22; have _t := HO9d; clear _t; refine (od_turn HO9d.out (goodOf dk9_I (by decide) (by decide)) eb eb_len 0 1).mono ?_; rw [dk_t9]; rintro e w10 ⟨rfl, ho⟩; have HO10 := Lib.hid ho; clear ho HO9d)
    | (go_at_call 22; have _t := HO10; clear _t; refine (od_turn HO10.out (goodOf dk10_I (by decide) (by decide)) eb eb_len 72 1).mono ?_; rw [dk_t10]; rintro e w11 ⟨rfl, ho⟩; have HO11 := Lib.hid ho; clear ho HO10))
  go_ret
  exact ⟨rfl, HO11.out.bel⟩
end Go.Proofs.Ytgcemddobcjpnaa
