/- The document's watch: Set (written by genrset.py). -/
import Derived.Test.YtmgcigohfccgeaaRW2
import Derived.Test.YtmgcigohfccgeaaByteOrd
import Derived.Deep.DeepCutAuto
namespace Go.Proofs.Ytmgcigohfccgeaa
open Go.RowKit

/-- how the document compares two ends -/
def eltB (y x : End) : Bool := decide (y.2 < x.2) || (decide (y.2 = x.2) && Op.bytesLess y.1.toList x.1.toList)
def insJ (S : List End) (x : End) : Nat := S.findIdx fun y => !eltB y x
theorem insJ_lt {S : List End} {x : End} {j : Nat} (h : j < S.length) (hj : j < insJ S x) : eltB S[j] x = true := by
  have := List.not_of_lt_findIdx hj
  simpa using this
theorem insJ_at {S : List End} {x : End} (h : insJ S x < S.length) : eltB S[insJ S x] x = false := by
  have : (fun y : End => !eltB y x) S[insJ S x] = true := List.findIdx_getElem (w := h)
  simpa using this

set_option maxRecDepth 100000 in
set_option maxHeartbeats 4000000 in
theorem rset_go (b : Nat) (T n : Int) (v0 : Value) (S0 : List End) (s : ByteArray) (w : World) (hn : 1 ≤ n) (hn2 : n ≤ 1073741824) (hT : 0 ≤ T) (hT2 : T ≤ 2305843009213693952) (hs : s.toList.isEmpty = false) (a : Int) (ha : a = T + n)
    (S : List End) (hl : S.length ≤ 700000) (hd : Calls Try.prog 53 #[ptr b, .string s] w fun e w' => (∃ r, e = .returned (.int .i64 r)) ∧ ∃ v', RWt w' b T v' S ∧ RStp w w' b v0 v' ∧ Sh v') :
    Calls Try.prog 52 #[ptr b, .string s, .int .i64 n] w fun e w' => e = .returned (.int .i64 0) ∧ ∃ v', RWt w' b T v' (S.take (insJ S (s, a)) ++ (s, a) :: S.drop (insJ S (s, a))) ∧ RStp w w' b v0 v' ∧ Sh v' := by
  obtain ⟨i0, hi0, hz0, hz1, hz2⟩ := info_parts info_rend
  have hml : maxLen ≤ 9223372036854775807 := by decide
  have HD := Lib.hid hd
  have HSL := Lib.hid hl
  have HJ0 : Hid (insJ S (s, a) ≤ S.length) := Lib.hid List.findIdx_le_length
  have j1 : ¬ n < 1 := by omega
  have j2 : ¬ (1073741824 : Int) < n := by omega
  have u1 : IntKind.i64.wrap (T + n) = T + n := i64_in (by omega)
  have HA := Lib.hid ha
  clear hd hl hn hn2 hT hT2 ha
  go_enter Try.func52, Try.ntmps52
  go_wp2_with fail
  refine HD.out.mono ?_
  rintro e w4 ⟨⟨r, rfl⟩, v, hr, hst, hsh⟩
  have HR4 := Lib.hid hr
  have HS4 := Lib.hid hst
  have c0 := hr.blk.cell (j := 0) rfl
  have c1 := hr.blk.cell (j := 1) rfl
  clear hr hst
  go_upto_region 5 with fail
  rw [← HA.out]
  obtain ⟨w5, hw5⟩ : ∃ w5, w5 = w4.alloc (.cells #[.string s, .int .i64 a] 117) := ⟨_, rfl⟩
  obtain ⟨B, hB⟩ : ∃ B, B = w4.heap.size := ⟨_, rfl⟩
  have hb5 : Below w4.heap.size w4 w5 := by rw [hw5]; exact below_alloc _ _
  have HX5 : Hid (Blk w5 B [.string s, .int .i64 a] 117) := Lib.hid (by rw [hw5, hB]; exact Blk.made w4 [.string s, .int .i64 a] _)
  have HR5 := Lib.hid (HR4.out.kept hb5)
  have HS5 : Hid (RStp w w5 b v0 v) := Lib.hid (HS4.out.trans (RStp.of_below hb5 _ _))
  rw [← hw5, ← hB]
  clear hw5 hB hb5 c0 c1
  go_wp2
  go_loopw [8] (fun i wr => ∃ k : Nat, k ≤ insJ S (s, a) ∧ i = .int .i64 (k : Int) ∧ Hid (Below w5.heap.size w5 wr)) (fun i _ => insJ S (s, a) - (intOf i).toNat)
  case atStart => exact ⟨0, Nat.zero_le _, rfl, Lib.hid (Below.refl _ _)⟩
  case round =>
    obtain ⟨k, hk, rfl, HB⟩ := hrel
    have HRw := Lib.hid (HR5.out.kept HB.out)
    have HXw := Lib.hid (HX5.out.kept HB.out)
    by_cases hlt : k < insJ S (s, a)
    · have hkl : k < S.length := by have := HJ0.out; omega
      obtain ⟨g, o, c, rfl, hc1, hc2, e0, e1⟩ := HRw.out.endAt hkl
      have hel := insJ_lt hkl hlt
      obtain ⟨nm, hnm⟩ : ∃ nm, nm = S[k].1 := ⟨_, rfl⟩
      obtain ⟨at_, hat⟩ : ∃ at_, at_ = S[k].2 := ⟨_, rfl⟩
      rw [← hnm] at e0
      rw [← hat] at e1
      have hel2 : (decide (at_ < a) || (decide (at_ = a) && Op.bytesLess nm.toList s.toList)) = true := by rw [hnm, hat]; exact hel
      have x0 : ∀ y : Past wr, y.val.cell? ⟨g, o + k * 2, none⟩ = some (.string nm) := Past.cell e0
      have x1 : ∀ y : Past wr, y.val.cell? ⟨g, o + k * 2 + 1, none⟩ = some (.int .i64 at_) := Past.cell (by rw [Nat.add_assoc]; exact e1)
      have x4 : ∀ y : Past wr, y.val.cell? ⟨b, 1, none⟩ = some (.slice (some ⟨g, o, none⟩) S.length c) := Past.blk HRw.out.blk (j := 1) rfl
      have y1 : ∀ y : Past wr, y.val.cell? ⟨B, 1, none⟩ = some (.int .i64 a) := Past.blk HXw.out (j := 1) rfl
      have i5 : (k : Int) < (S.length : Int) := by omega
      clear e0 e1 hel hnm hat
      by_cases h1 : at_ < a
      · clear hel2
        go_wp2
        refine wp_region_past (by kernel_rfl) (by kernel_rfl) ?_
        repeat (go_big_quiet_step (fail))
        refine wpQuiet_nil ?_
        intro _ hw'
        obtain ⟨s9, hw''⟩ := hw'
        subst hw''
        obtain ⟨w9, h9, e9⟩ : ∃ w9, Below wr.heap.size wr w9 ∧ w9 = s9.val := ⟨_, s9.h, rfl⟩
        rw [← e9]
        have HB9 := Lib.hid (below_and HB.out h9)
        clear h9 e9 x0 x1 x4 y1
        go_wp2
        go_roundw
        case rel => exact ⟨k + 1, hlt, by go_num, HB9⟩
        case measure => simp [intOf]; omega
      · have h2 : at_ = a ∧ Op.bytesLess nm.toList s.toList = true := by simpa [h1] using hel2
        obtain ⟨rfl, h3⟩ := h2
        clear hel2
        go_wp2
        refine wp_region_past (by kernel_rfl) (by kernel_rfl) ?_
        repeat (go_big_quiet_step (fail))
        refine wpQuiet_nil ?_
        intro _ hw'
        obtain ⟨s9, hw''⟩ := hw'
        subst hw''
        obtain ⟨w9, h9, e9⟩ : ∃ w9, Below wr.heap.size wr w9 ∧ w9 = s9.val := ⟨_, s9.h, rfl⟩
        rw [← e9]
        have HB9 := Lib.hid (below_and HB.out h9)
        clear h9 e9 x0 x1 x4 y1
        go_wp2
        go_roundw
        case rel => exact ⟨k + 1, hlt, by go_num, HB9⟩
        case measure => simp [intOf]; omega
    · have hkj : k = insJ S (s, a) := by omega
      have HKJ := Lib.hid hkj
      have HJ : Hid (k ≤ S.length) := Lib.hid (by rw [hkj]; exact HJ0.out)
      have HL1 : Hid ((S.take k).length = k) := Lib.hid (by have := HJ.out; simp; omega)
      have HL2 : Hid ((S.drop k).length = S.length - k) := Lib.hid (by simp)
      have y1 : ∀ y : Past wr, y.val.cell? ⟨B, 1, none⟩ = some (.int .i64 a) := Past.blk HXw.out (j := 1) rfl
      have x4 : ∀ y : Past wr, y.val.cell? ⟨b, 1, none⟩ = some v := Past.blk HRw.out.blk (j := 1) rfl
      have HEX : Hid (∀ h : k < S.length, eltB S[k] (s, a) = false) := Lib.hid (fun h => by subst hkj; exact insJ_at h)
      clear hk hlt hkj
      rw [← HKJ.out]
      rcases hsh with rfl | ⟨g, o, n', c, rfl⟩
      · obtain rfl : S = [] := by
          obtain ⟨p', c', hv, -⟩ := HRw.out.row
          simp only [Value.slice.injEq] at hv
          exact List.length_eq_zero_iff.1 hv.2.1.symm
        obtain rfl : k = 0 := by have := HJ.out; simpa using this
        clear HKJ HEX HL1 HL2
        go_wp2
        refine wp_region_past (by kernel_rfl) (by kernel_rfl) ?_
        repeat (go_big_quiet_step (fail))
        refine wpQuiet_nil ?_
        intro _ hw'
        obtain ⟨s9, hw''⟩ := hw'
        subst hw''
        obtain ⟨w9, h9, e9⟩ : ∃ w9, Below wr.heap.size wr w9 ∧ w9 = s9.val := ⟨_, s9.h, rfl⟩
        rw [← e9]
        have HRr := Lib.hid (HRw.out.kept h9)
        have HXr := Lib.hid (HXw.out.kept h9)
        have HST : Hid (RStp w w9 b v0 (.slice none 0 0)) := Lib.hid (HS5.out.trans (RStp.of_below (below_and HB.out h9) _ _))
        clear h9 e9 x4 y1
        go_upto_region 8 with fail
        refine wp_region_noPanic ?_
        refine wp_region_lastH (fun w' => w'.cell? ⟨b, 1, none⟩ = some (.slice none 0 0) ∧ w'.cell? ⟨B, 0, none⟩ = some (.string s) ∧ w'.cell? ⟨B, 1, none⟩ = some (.int .i64 a) ∧ Below w9.heap.size w9 w') 21 rfl rfl (by kernel_rfl) (by kernel_rfl) ⟨HRr.out.blk.cell (j := 1) rfl, HXr.out.cell (j := 0) rfl, HXr.out.cell (j := 1) rfl, below_drewN 1⟩ (fun hHeld => ?_)
        have HB1 : Hid (Below w9.heap.size w9 w9.drew) := Lib.hid (below_drewN 1)
        have HR1 := Lib.hid (HRr.out.kept HB1.out)
        have hS1 : True := trivial
        obtain ⟨wd1, hwd⟩ : ∃ x, x = w9.drew := ⟨_, rfl⟩
        rw [← hwd] at hHeld HB1 HR1 ⊢
        clear hwd
        refine wpAnyH_take (i := 0) (v := ?v2) rfl (by kernel_rfl) (by kernel_rfl) (by kernel_rfl) (fun _ _ _ h => h) (Or.inl ⟨by rfl, ?hy2⟩) (by assumption) ?rest2
        case hy2 => (intro _ hSw; (try dsimp only at hSw); go_simp; (try with_reducible rfl))
        (try simp only [Act.put]); (try simp only [List.setIfInBounds_toArray]); (try simp only [List.set_cons_succ]); (try simp only [List.set_cons_zero])
        refine wpAnyH_take (i := 2) (v := ?v3) rfl (by kernel_rfl) (by kernel_rfl) (by kernel_rfl) (fun _ _ _ h => h) (Or.inl ⟨by rfl, ?hy3⟩) (by assumption) ?rest3
        case hy3 => (intro _ hSw; (try dsimp only at hSw); go_simp; (try with_reducible rfl))
        (try simp only [Act.put]); (try simp only [List.setIfInBounds_toArray]); (try simp only [List.set_cons_succ]); (try simp only [List.set_cons_zero])
        refine wpAnyH_take (i := 3) (v := ?v4) rfl (by kernel_rfl) (by kernel_rfl) (by kernel_rfl) (fun _ _ _ h => h) (Or.inl ⟨by rfl, ?hy4⟩) (by assumption) ?rest4
        case hy4 => (intro _ hSw; (try dsimp only at hSw); go_simp; (try with_reducible rfl))
        (try simp only [Act.put]); (try simp only [List.setIfInBounds_toArray]); (try simp only [List.set_cons_succ]); (try simp only [List.set_cons_zero])
        refine wpAnyH_take (i := 4) (v := ?v5) rfl (by kernel_rfl) (by kernel_rfl) (by kernel_rfl) (fun _ _ _ h => h) (Or.inl ⟨by rfl, ?hy5⟩) (by assumption) ?rest5
        case hy5 => (intro _ hSw; (try dsimp only at hSw); go_simp; (try with_reducible rfl))
        (try simp only [Act.put]); (try simp only [List.setIfInBounds_toArray]); (try simp only [List.set_cons_succ]); (try simp only [List.set_cons_zero])
        refine wpAnyH_take (i := 5) (v := ?v6) rfl (by kernel_rfl) (by kernel_rfl) (by kernel_rfl) (fun _ _ _ h => h) (Or.inl ⟨by rfl, ?hy6⟩) (by assumption) ?rest6
        case hy6 => (intro _ hSw; (try dsimp only at hSw); go_simp; (try with_reducible rfl))
        (try simp only [Act.put]); (try simp only [List.setIfInBounds_toArray]); (try simp only [List.set_cons_succ]); (try simp only [List.set_cons_zero])
        refine wpAnyH_take (i := 6) (v := ?v7) rfl (by kernel_rfl) (by kernel_rfl) (by kernel_rfl) (fun _ _ _ h => h) (Or.inl ⟨by rfl, ?hy7⟩) (by assumption) ?rest7
        case hy7 => (intro _ hSw; (try dsimp only at hSw); go_simp; (try with_reducible rfl))
        (try simp only [Act.put]); (try simp only [List.setIfInBounds_toArray]); (try simp only [List.set_cons_succ]); (try simp only [List.set_cons_zero])
        refine wpAnyH_take (i := 7) (v := ?v8) rfl (by kernel_rfl) (by kernel_rfl) (by kernel_rfl) (fun _ _ _ h => h) (Or.inl ⟨by rfl, ?hy8⟩) (by assumption) ?rest8
        case hy8 => (intro _ hSw; (try dsimp only at hSw); go_simp; (try with_reducible rfl))
        (try simp only [Act.put]); (try simp only [List.setIfInBounds_toArray]); (try simp only [List.set_cons_succ]); (try simp only [List.set_cons_zero])
        refine wpAnyH_take (i := 9) (v := ?v9) rfl (by kernel_rfl) (by kernel_rfl) (by kernel_rfl) (fun _ _ _ h => h) (Or.inl ⟨by rfl, ?hy9⟩) (by assumption) ?rest9
        case hy9 => (intro _ hSw; (try dsimp only at hSw); go_simp; (try with_reducible rfl))
        (try simp only [Act.put]); (try simp only [List.setIfInBounds_toArray]); (try simp only [List.set_cons_succ]); (try simp only [List.set_cons_zero])
        refine wpAnyH_take (i := 12) (v := ?v10) rfl (by kernel_rfl) (by kernel_rfl) (by kernel_rfl) (fun _ _ _ h => h) (Or.inl ⟨by rfl, ?hy10⟩) (by assumption) ?rest10
        case hy10 => (intro _ hSw; (try dsimp only at hSw); go_simp; (try with_reducible rfl))
        (try simp only [Act.put]); (try simp only [List.setIfInBounds_toArray]); (try simp only [List.set_cons_succ]); (try simp only [List.set_cons_zero])
        refine wpAnyH_take (i := 13) (v := ?v11) rfl (by kernel_rfl) (by kernel_rfl) (by kernel_rfl) (fun _ _ _ h => h) (Or.inl ⟨by rfl, ?hy11⟩) (by assumption) ?rest11
        case hy11 => (intro _ hSw; (try dsimp only at hSw); go_simp; (try with_reducible rfl))
        (try simp only [Act.put]); (try simp only [List.setIfInBounds_toArray]); (try simp only [List.set_cons_succ]); (try simp only [List.set_cons_zero])
        refine wpAnyH_take (i := 14) (v := ?v12) rfl (by kernel_rfl) (by kernel_rfl) (by kernel_rfl) (fun _ _ _ h => h) (Or.inl ⟨by rfl, ?hy12⟩) (by assumption) ?rest12
        case hy12 => (intro _ hSw; (try dsimp only at hSw); go_simp; (try with_reducible rfl))
        (try simp only [Act.put]); (try simp only [List.setIfInBounds_toArray]); (try simp only [List.set_cons_succ]); (try simp only [List.set_cons_zero])
        refine wpAnyH_take (i := 15) (v := ?v13) rfl (by kernel_rfl) (by kernel_rfl) (by kernel_rfl) (fun _ _ _ h => h) (Or.inl ⟨by rfl, ?hy13⟩) (by assumption) ?rest13
        case hy13 => (intro _ hSw; (try dsimp only at hSw); go_simp; (try with_reducible rfl))
        (try simp only [Act.put]); (try simp only [List.setIfInBounds_toArray]); (try simp only [List.set_cons_succ]); (try simp only [List.set_cons_zero])
        refine wpAnyH_take (i := 16) (v := ?v14) rfl (by kernel_rfl) (by kernel_rfl) (by kernel_rfl) (fun _ _ _ h => h) (Or.inl ⟨by rfl, ?hy14⟩) (by assumption) ?rest14
        case hy14 => (intro _ hSw; (try dsimp only at hSw); go_simp; (try with_reducible rfl))
        (try simp only [Act.put]); (try simp only [List.setIfInBounds_toArray]); (try simp only [List.set_cons_succ]); (try simp only [List.set_cons_zero])
        refine wpAnyH_take (i := 17) (v := ?v15) rfl (by kernel_rfl) (by kernel_rfl) (by kernel_rfl) (fun _ _ _ h => h) (Or.inl ⟨by rfl, ?hy15⟩) (by assumption) ?rest15
        case hy15 => (intro _ hSw; (try dsimp only at hSw); go_simp; (try with_reducible rfl))
        (try simp only [Act.put]); (try simp only [List.setIfInBounds_toArray]); (try simp only [List.set_cons_succ]); (try simp only [List.set_cons_zero])
        refine wpAnyH_ready (rs := [1, 10]) (by kernel_rfl) (by simp) ?_
        refine (AllReadyH.cons rfl (fun K hK => ?_) (AllReadyH.cons rfl (fun K hK => ?_) AllReadyH.nil))
        · (try simp only [List.getElem_toArray]); (try simp only [List.getElem_cons_succ]); (try simp only [List.getElem_cons_zero])
          go_simp
          obtain ⟨w16x, hw16⟩ : ∃ x, x = wd1.alloc (.cells #[] 117) := ⟨_, rfl⟩
          obtain ⟨z16, hz16⟩ : ∃ x, x = wd1.heap.size := ⟨_, rfl⟩
          have hn16 : Below wd1.heap.size wd1 w16x := by rw [hw16]; exact below_alloc _ _
          have hb16 : Below w9.heap.size w9 w16x := below_and HB1.out hn16
          have HB16 := Lib.hid hb16
          have HO16 : Hid (w16x.ownsRow w9.heap.size 117 2 (.slice (some ⟨z16, 0, none⟩) 0 0) 0 []) := Lib.hid (by rw [hw16, hz16]; exact World.ownsRow_made wd1 #[] 0 HB1.out.size (by decide) rfl)
          rw [← hw16, ← hz16]
          have HR16 := Lib.hid (HRr.out.kept hb16)
          have HS16 := Lib.hid (HXr.out.kept hb16)
          refine hK.out _ _ ⟨HR16.out.blk.cell (j := 1) rfl, HS16.out.cell (j := 0) rfl, HS16.out.cell (j := 1) rfl, hb16⟩ (fun hS16 => ?_)
          clear hK K hb16 hw16 hz16 hn16 hS1
          (try simp only [Act.put]); (try simp only [List.setIfInBounds_toArray]); (try simp only [List.set_cons_succ]); (try simp only [List.set_cons_zero])
          refine wpAnyH_ready (rs := [8, 10]) (by kernel_rfl) (by simp) ?_
          refine (AllReadyH.cons rfl (fun K hK => ?_) (AllReadyH.cons rfl (fun K hK => ?_) AllReadyH.nil))
          · refine step_app rfl (.tmp 78) (.tmp 84) 78 78 rfl w9.heap.size 117 i0 (.agg #[.string ⟨#[]⟩, .int .i64 0]) 2 24 Try.underlying78 hi0 hz0 hz1 hz2 rfl (.slice (some ⟨z16, 0, none⟩) 0 0) 0 [] (by rfl) HO16.out (.slice none 0 0) 0 (ecells (([] : List End).take 0)) (by rfl) (Row.src Try.underlying78 (row_nil _ 2)) (by have := HSL.out; have := HJ.out; unfold maxLen; omega) (by have := HSL.out; have := HJ.out; omega) HB16.out.size ?_
            intro v17 w17x ho17 hg17 hn17 hk17
            have HO17 : Hid (w17x.ownsRow w9.heap.size 117 2 v17 0 (ecells (([] : List End).take 0))) := Lib.hid (by simpa using ho17)
            have hb17 : Below w9.heap.size w9 w17x := HB16.out.trans ((Fr.of_grown hg17).below (by intro y hy; exact own_base HO16.out (Option.mem_toList.1 hy)) HB16.out.size)
            have HB17 := Lib.hid hb17
            have HR17 := Lib.hid (HRr.out.kept hb17)
            have HS17 := Lib.hid (HXr.out.kept hb17)
            refine hK.out _ _ ⟨HR17.out.blk.cell (j := 1) rfl, HS17.out.cell (j := 0) rfl, HS17.out.cell (j := 1) rfl, hb17⟩ (fun hS17 => ?_)
            clear hK K hb17 ho17 hg17 hn17 hk17 hS16
            (try simp only [Act.put]); (try simp only [List.setIfInBounds_toArray]); (try simp only [List.set_cons_succ]); (try simp only [List.set_cons_zero])
            refine wpAnyH_ready (rs := [10]) (by kernel_rfl) (by simp) ?_
            refine (AllReadyH.cons rfl (fun K hK => ?_) AllReadyH.nil)
            (try simp only [List.getElem_toArray]); (try simp only [List.getElem_cons_succ]); (try simp only [List.getElem_cons_zero])
            go_simp
            obtain ⟨w18x, hw18⟩ : ∃ x, x = w17x.alloc (.cells #[.string s, .int .i64 a] 117) := ⟨_, rfl⟩
            obtain ⟨z18, hz18⟩ : ∃ x, x = w17x.heap.size := ⟨_, rfl⟩
            have hn18 : Below w17x.heap.size w17x w18x := by rw [hw18]; exact below_alloc _ _
            have hb18 : Below w9.heap.size w9 w18x := below_and HB17.out hn18
            have HB18 := Lib.hid hb18
            have HY18 : Hid (Blk w18x z18 [.string s, .int .i64 a] 117) := Lib.hid (by rw [hw18, hz18]; exact Blk.made w17x [.string s, .int .i64 a] _)
            have HO18 := Lib.hid (own_fr HO17.out (Fr.of_below hn18 []) (fun _ _ => by simp))
            have HNE18 : Hid (∀ q, (v17 : Value).ownBlock = some q → q ≠ z18) := Lib.hid (fun q hq => by have := own_lt HO17.out hq; omega)
            rw [← hw18, ← hz18]
            have HR18 := Lib.hid (HRr.out.kept hb18)
            have HS18 := Lib.hid (HXr.out.kept hb18)
            refine hK.out _ _ ⟨HR18.out.blk.cell (j := 1) rfl, HS18.out.cell (j := 0) rfl, HS18.out.cell (j := 1) rfl, hb18⟩ (fun hS18 => ?_)
            clear hK K hb18 hw18 hz18 hn18 hS17
            (try simp only [Act.put]); (try simp only [List.setIfInBounds_toArray]); (try simp only [List.set_cons_succ]); (try simp only [List.set_cons_zero])
            refine wpAnyH_ready (rs := [11]) (by kernel_rfl) (by simp) ?_
            refine (AllReadyH.cons rfl (fun K hK => ?_) AllReadyH.nil)
            refine step_app rfl (.tmp 85) (.tmp 87) 78 78 rfl w9.heap.size 117 i0 (.agg #[.string ⟨#[]⟩, .int .i64 0]) 2 24 Try.underlying78 hi0 hz0 hz1 hz2 rfl v17 0 (ecells (([] : List End).take 0)) (by rfl) HO18.out (.slice (some ⟨z18, 0, none⟩) 1 1) 1 [.string s, .int .i64 a] (by rfl) (src_block Try.underlying78 _ z18 #[.string s, .int .i64 a] HY18.out rfl (by simp [Value.oneCell'])) (by have := HSL.out; have := HJ.out; unfold maxLen; omega) (by have := HSL.out; have := HJ.out; omega) HB18.out.size ?_
            intro v19 w19x ho19 hg19 hn19 hk19
            have HO19 : Hid (w19x.ownsRow w9.heap.size 117 2 v19 (0 + 1) (ecells (([] : List End).take 0) ++ [.string s, .int .i64 a])) := Lib.hid (ho19)
            have hb19 : Below w9.heap.size w9 w19x := HB18.out.trans ((Fr.of_grown hg19).below (by intro y hy; exact own_base HO18.out (Option.mem_toList.1 hy)) HB18.out.size)
            have HB19 := Lib.hid hb19
            have HR19 := Lib.hid (HRr.out.kept hb19)
            have HS19 := Lib.hid (HXr.out.kept hb19)
            refine hK.out _ _ ⟨HR19.out.blk.cell (j := 1) rfl, HS19.out.cell (j := 0) rfl, HS19.out.cell (j := 1) rfl, hb19⟩ (fun hS19 => ?_)
            clear hK K hb19 ho19 hg19 hn19 hk19 hS18
            (try simp only [Act.put]); (try simp only [List.setIfInBounds_toArray]); (try simp only [List.set_cons_succ]); (try simp only [List.set_cons_zero])
            refine wpAnyH_ready (rs := [18]) (by kernel_rfl) (by simp) ?_
            refine (AllReadyH.cons rfl (fun K hK => ?_) AllReadyH.nil)
            refine step_app rfl (.tmp 88) (.tmp 94) 78 78 rfl w9.heap.size 117 i0 (.agg #[.string ⟨#[]⟩, .int .i64 0]) 2 24 Try.underlying78 hi0 hz0 hz1 hz2 rfl v19 (0 + 1) (ecells (([] : List End).take 0) ++ [.string s, .int .i64 a]) (by rfl) HO19.out (.slice none 0 0) (([] : List End).length - 0) (ecells (([] : List End).drop 0)) (by rfl) (Row.src Try.underlying78 (row_nil _ 2)) (by have := HSL.out; have := HJ.out; unfold maxLen; omega) (by have := HSL.out; have := HJ.out; omega) HB19.out.size ?_
            intro v20 w20x ho20 hg20 hn20 hk20
            have HO20 : Hid (w20x.ownsRow w9.heap.size 117 2 v20 (0 + 1 + (([] : List End).length - 0)) (ecells (([] : List End).take 0) ++ [.string s, .int .i64 a] ++ ecells (([] : List End).drop 0))) := Lib.hid (ho20)
            have hb20 : Below w9.heap.size w9 w20x := HB19.out.trans ((Fr.of_grown hg20).below (by intro y hy; exact own_base HO19.out (Option.mem_toList.1 hy)) HB19.out.size)
            have HB20 := Lib.hid hb20
            have HR20 := Lib.hid (HRr.out.kept hb20)
            have HS20 := Lib.hid (HXr.out.kept hb20)
            refine hK.out _ _ ⟨HR20.out.blk.cell (j := 1) rfl, HS20.out.cell (j := 0) rfl, HS20.out.cell (j := 1) rfl, hb20⟩ (fun hS20 => ?_)
            clear hK K hb20 ho20 hg20 hn20 hk20 hS19
            (try simp only [Act.put]); (try simp only [List.setIfInBounds_toArray]); (try simp only [List.set_cons_succ]); (try simp only [List.set_cons_zero])
            refine wpAnyH_take (i := 19) (v := ?v21) rfl (by kernel_rfl) (by kernel_rfl) (by kernel_rfl) (fun _ _ _ h => h) (Or.inl ⟨by rfl, ?hy21⟩) (by assumption) ?rest21
            case hy21 => (intro _ hSw; (try dsimp only at hSw); go_simp; (try with_reducible rfl))
            (try simp only [Act.put]); (try simp only [List.setIfInBounds_toArray]); (try simp only [List.set_cons_succ]); (try simp only [List.set_cons_zero])
            refine wpAnyH_take (i := 20) (v := ?v22) rfl (by kernel_rfl) (by kernel_rfl) (by kernel_rfl) (fun _ _ _ h => h) (Or.inl ⟨by rfl, ?hy22⟩) (by assumption) ?rest22
            case hy22 => (intro _ hSw; (try dsimp only at hSw); go_simp; (try with_reducible rfl))
            (try simp only [Act.put]); (try simp only [List.setIfInBounds_toArray]); (try simp only [List.set_cons_succ]); (try simp only [List.set_cons_zero])
            refine wpAnyH_done (by kernel_rfl) ?_ _
            refine LastQ.start rfl ?_
            have d4 := HR20.out.blk.cell (j := 1) rfl
            have f4 := HR20.out.blk.free 1
            clear hS20 hHeld
            have hshv := own_sh HO20.out
            obtain ⟨p8, c8, rfl, -, -⟩ := own_slice HO20.out
            go_wp2
            refine NoPanic.normal ?_
            go_wp2
            go_ret
            have e1 : ecells (([] : List End).take 0) ++ [.string s, .int .i64 a] ++ ecells (([] : List End).drop 0) = ecells (([] : List End).take 0 ++ (s, a) :: ([] : List End).drop 0) := by rw [ecells_append, ecells_cons, List.append_assoc]; rfl
            have e2 : 0 + 1 + (([] : List End).length - 0) = (([] : List End).take 0 ++ (s, a) :: ([] : List End).drop 0).length := by have := HJ.out; rw [List.length_append, List.length_cons, List.length_take, List.length_drop]; omega
            have ho := HO20.out
            have hgz : b < w9.heap.size := HRr.out.blk.lt
            have h5 := own_fr ho ((Fr.refl [b] w20x).set (p := ⟨b, 1, none⟩) (by simp) (.slice p8 (0 + 1 + (([] : List End).length - 0)) c8)) (fun y hy => by have := own_base ho hy; simp; omega)
            rw [e1, e2] at h5
            try rw [← HKJ.out]
            refine ⟨rfl, _, ⟨HR20.out.blk.set 1 _, ?_, fun hq => ?_⟩, ⟨?_, fun y hy => ?_⟩, hshv⟩
            · have h6 := row_of_owns h5 (ecells_one _)
              simpa [e2] using h6
            · have := own_base ho hq; omega
            · exact (HST.out.fr.then (Fr.of_below HB20.out _)).set (p := ⟨b, 1, none⟩) (by simp) _
            · have := own_base ho hy; exact .inr ⟨by have := HST.out.fr.size; omega, by have := own_lt ho hy; simpa [World.setCell] using this⟩
          · (try simp only [List.getElem_toArray]); (try simp only [List.getElem_cons_succ]); (try simp only [List.getElem_cons_zero])
            go_simp
            obtain ⟨w23x, hw23⟩ : ∃ x, x = w16x.alloc (.cells #[.string s, .int .i64 a] 117) := ⟨_, rfl⟩
            obtain ⟨z23, hz23⟩ : ∃ x, x = w16x.heap.size := ⟨_, rfl⟩
            have hn23 : Below w16x.heap.size w16x w23x := by rw [hw23]; exact below_alloc _ _
            have hb23 : Below w9.heap.size w9 w23x := below_and HB16.out hn23
            have HB23 := Lib.hid hb23
            have HY23 : Hid (Blk w23x z23 [.string s, .int .i64 a] 117) := Lib.hid (by rw [hw23, hz23]; exact Blk.made w16x [.string s, .int .i64 a] _)
            have HO23 := Lib.hid (own_fr HO16.out (Fr.of_below hn23 []) (fun _ _ => by simp))
            have HNE23 : Hid (∀ q, ((.slice (some ⟨z16, 0, none⟩) 0 0) : Value).ownBlock = some q → q ≠ z23) := Lib.hid (fun q hq => by have := own_lt HO16.out hq; omega)
            rw [← hw23, ← hz23]
            have HR23 := Lib.hid (HRr.out.kept hb23)
            have HS23 := Lib.hid (HXr.out.kept hb23)
            refine hK.out _ _ ⟨HR23.out.blk.cell (j := 1) rfl, HS23.out.cell (j := 0) rfl, HS23.out.cell (j := 1) rfl, hb23⟩ (fun hS23 => ?_)
            clear hK K hb23 hw23 hz23 hn23 hS16
            (try simp only [Act.put]); (try simp only [List.setIfInBounds_toArray]); (try simp only [List.set_cons_succ]); (try simp only [List.set_cons_zero])
            refine wpAnyH_ready (rs := [8]) (by kernel_rfl) (by simp) ?_
            refine (AllReadyH.cons rfl (fun K hK => ?_) AllReadyH.nil)
            refine step_app rfl (.tmp 78) (.tmp 84) 78 78 rfl w9.heap.size 117 i0 (.agg #[.string ⟨#[]⟩, .int .i64 0]) 2 24 Try.underlying78 hi0 hz0 hz1 hz2 rfl (.slice (some ⟨z16, 0, none⟩) 0 0) 0 [] (by rfl) HO23.out (.slice none 0 0) 0 (ecells (([] : List End).take 0)) (by rfl) (Row.src Try.underlying78 (row_nil _ 2)) (by have := HSL.out; have := HJ.out; unfold maxLen; omega) (by have := HSL.out; have := HJ.out; omega) HB23.out.size ?_
            intro v24 w24x ho24 hg24 hn24 hk24
            have HO24 : Hid (w24x.ownsRow w9.heap.size 117 2 v24 0 (ecells (([] : List End).take 0))) := Lib.hid (by simpa using ho24)
            have hb24 : Below w9.heap.size w9 w24x := HB23.out.trans ((Fr.of_grown hg24).below (by intro y hy; exact own_base HO23.out (Option.mem_toList.1 hy)) HB23.out.size)
            have HB24 := Lib.hid hb24
            have HY24 := Lib.hid (HY23.out.fr (Fr.of_grown hg24) (fun hm => HNE23.out _ (Option.mem_toList.1 hm) rfl))
            have HNE24 : Hid (∀ q, v24.ownBlock = some q → q ≠ z23) := Lib.hid (fun q hq => by rcases hk24 q hq with h1 | h1; exact HNE23.out q h1; have := HY23.out.lt; omega)
            have HR24 := Lib.hid (HRr.out.kept hb24)
            have HS24 := Lib.hid (HXr.out.kept hb24)
            refine hK.out _ _ ⟨HR24.out.blk.cell (j := 1) rfl, HS24.out.cell (j := 0) rfl, HS24.out.cell (j := 1) rfl, hb24⟩ (fun hS24 => ?_)
            clear hK K hb24 ho24 hg24 hn24 hk24 hS23
            (try simp only [Act.put]); (try simp only [List.setIfInBounds_toArray]); (try simp only [List.set_cons_succ]); (try simp only [List.set_cons_zero])
            refine wpAnyH_ready (rs := [11]) (by kernel_rfl) (by simp) ?_
            refine (AllReadyH.cons rfl (fun K hK => ?_) AllReadyH.nil)
            refine step_app rfl (.tmp 85) (.tmp 87) 78 78 rfl w9.heap.size 117 i0 (.agg #[.string ⟨#[]⟩, .int .i64 0]) 2 24 Try.underlying78 hi0 hz0 hz1 hz2 rfl v24 0 (ecells (([] : List End).take 0)) (by rfl) HO24.out (.slice (some ⟨z23, 0, none⟩) 1 1) 1 [.string s, .int .i64 a] (by rfl) (src_block Try.underlying78 _ z23 #[.string s, .int .i64 a] HY24.out rfl (by simp [Value.oneCell'])) (by have := HSL.out; have := HJ.out; unfold maxLen; omega) (by have := HSL.out; have := HJ.out; omega) HB24.out.size ?_
            intro v25 w25x ho25 hg25 hn25 hk25
            have HO25 : Hid (w25x.ownsRow w9.heap.size 117 2 v25 (0 + 1) (ecells (([] : List End).take 0) ++ [.string s, .int .i64 a])) := Lib.hid (ho25)
            have hb25 : Below w9.heap.size w9 w25x := HB24.out.trans ((Fr.of_grown hg25).below (by intro y hy; exact own_base HO24.out (Option.mem_toList.1 hy)) HB24.out.size)
            have HB25 := Lib.hid hb25
            have HR25 := Lib.hid (HRr.out.kept hb25)
            have HS25 := Lib.hid (HXr.out.kept hb25)
            refine hK.out _ _ ⟨HR25.out.blk.cell (j := 1) rfl, HS25.out.cell (j := 0) rfl, HS25.out.cell (j := 1) rfl, hb25⟩ (fun hS25 => ?_)
            clear hK K hb25 ho25 hg25 hn25 hk25 hS24
            (try simp only [Act.put]); (try simp only [List.setIfInBounds_toArray]); (try simp only [List.set_cons_succ]); (try simp only [List.set_cons_zero])
            refine wpAnyH_ready (rs := [18]) (by kernel_rfl) (by simp) ?_
            refine (AllReadyH.cons rfl (fun K hK => ?_) AllReadyH.nil)
            refine step_app rfl (.tmp 88) (.tmp 94) 78 78 rfl w9.heap.size 117 i0 (.agg #[.string ⟨#[]⟩, .int .i64 0]) 2 24 Try.underlying78 hi0 hz0 hz1 hz2 rfl v25 (0 + 1) (ecells (([] : List End).take 0) ++ [.string s, .int .i64 a]) (by rfl) HO25.out (.slice none 0 0) (([] : List End).length - 0) (ecells (([] : List End).drop 0)) (by rfl) (Row.src Try.underlying78 (row_nil _ 2)) (by have := HSL.out; have := HJ.out; unfold maxLen; omega) (by have := HSL.out; have := HJ.out; omega) HB25.out.size ?_
            intro v26 w26x ho26 hg26 hn26 hk26
            have HO26 : Hid (w26x.ownsRow w9.heap.size 117 2 v26 (0 + 1 + (([] : List End).length - 0)) (ecells (([] : List End).take 0) ++ [.string s, .int .i64 a] ++ ecells (([] : List End).drop 0))) := Lib.hid (ho26)
            have hb26 : Below w9.heap.size w9 w26x := HB25.out.trans ((Fr.of_grown hg26).below (by intro y hy; exact own_base HO25.out (Option.mem_toList.1 hy)) HB25.out.size)
            have HB26 := Lib.hid hb26
            have HR26 := Lib.hid (HRr.out.kept hb26)
            have HS26 := Lib.hid (HXr.out.kept hb26)
            refine hK.out _ _ ⟨HR26.out.blk.cell (j := 1) rfl, HS26.out.cell (j := 0) rfl, HS26.out.cell (j := 1) rfl, hb26⟩ (fun hS26 => ?_)
            clear hK K hb26 ho26 hg26 hn26 hk26 hS25
            (try simp only [Act.put]); (try simp only [List.setIfInBounds_toArray]); (try simp only [List.set_cons_succ]); (try simp only [List.set_cons_zero])
            refine wpAnyH_take (i := 19) (v := ?v27) rfl (by kernel_rfl) (by kernel_rfl) (by kernel_rfl) (fun _ _ _ h => h) (Or.inl ⟨by rfl, ?hy27⟩) (by assumption) ?rest27
            case hy27 => (intro _ hSw; (try dsimp only at hSw); go_simp; (try with_reducible rfl))
            (try simp only [Act.put]); (try simp only [List.setIfInBounds_toArray]); (try simp only [List.set_cons_succ]); (try simp only [List.set_cons_zero])
            refine wpAnyH_take (i := 20) (v := ?v28) rfl (by kernel_rfl) (by kernel_rfl) (by kernel_rfl) (fun _ _ _ h => h) (Or.inl ⟨by rfl, ?hy28⟩) (by assumption) ?rest28
            case hy28 => (intro _ hSw; (try dsimp only at hSw); go_simp; (try with_reducible rfl))
            (try simp only [Act.put]); (try simp only [List.setIfInBounds_toArray]); (try simp only [List.set_cons_succ]); (try simp only [List.set_cons_zero])
            refine wpAnyH_done (by kernel_rfl) ?_ _
            refine LastQ.start rfl ?_
            have d4 := HR26.out.blk.cell (j := 1) rfl
            have f4 := HR26.out.blk.free 1
            clear hS26 hHeld
            have hshv := own_sh HO26.out
            obtain ⟨p8, c8, rfl, -, -⟩ := own_slice HO26.out
            go_wp2
            refine NoPanic.normal ?_
            go_wp2
            go_ret
            have e1 : ecells (([] : List End).take 0) ++ [.string s, .int .i64 a] ++ ecells (([] : List End).drop 0) = ecells (([] : List End).take 0 ++ (s, a) :: ([] : List End).drop 0) := by rw [ecells_append, ecells_cons, List.append_assoc]; rfl
            have e2 : 0 + 1 + (([] : List End).length - 0) = (([] : List End).take 0 ++ (s, a) :: ([] : List End).drop 0).length := by have := HJ.out; rw [List.length_append, List.length_cons, List.length_take, List.length_drop]; omega
            have ho := HO26.out
            have hgz : b < w9.heap.size := HRr.out.blk.lt
            have h5 := own_fr ho ((Fr.refl [b] w26x).set (p := ⟨b, 1, none⟩) (by simp) (.slice p8 (0 + 1 + (([] : List End).length - 0)) c8)) (fun y hy => by have := own_base ho hy; simp; omega)
            rw [e1, e2] at h5
            try rw [← HKJ.out]
            refine ⟨rfl, _, ⟨HR26.out.blk.set 1 _, ?_, fun hq => ?_⟩, ⟨?_, fun y hy => ?_⟩, hshv⟩
            · have h6 := row_of_owns h5 (ecells_one _)
              simpa [e2] using h6
            · have := own_base ho hq; omega
            · exact (HST.out.fr.then (Fr.of_below HB26.out _)).set (p := ⟨b, 1, none⟩) (by simp) _
            · have := own_base ho hy; exact .inr ⟨by have := HST.out.fr.size; omega, by have := own_lt ho hy; simpa [World.setCell] using this⟩
        · (try simp only [List.getElem_toArray]); (try simp only [List.getElem_cons_succ]); (try simp only [List.getElem_cons_zero])
          go_simp
          obtain ⟨w29x, hw29⟩ : ∃ x, x = wd1.alloc (.cells #[.string s, .int .i64 a] 117) := ⟨_, rfl⟩
          obtain ⟨z29, hz29⟩ : ∃ x, x = wd1.heap.size := ⟨_, rfl⟩
          have hn29 : Below wd1.heap.size wd1 w29x := by rw [hw29]; exact below_alloc _ _
          have hb29 : Below w9.heap.size w9 w29x := below_and HB1.out hn29
          have HB29 := Lib.hid hb29
          have HY29 : Hid (Blk w29x z29 [.string s, .int .i64 a] 117) := Lib.hid (by rw [hw29, hz29]; exact Blk.made wd1 [.string s, .int .i64 a] _)
          rw [← hw29, ← hz29]
          have HR29 := Lib.hid (HRr.out.kept hb29)
          have HS29 := Lib.hid (HXr.out.kept hb29)
          refine hK.out _ _ ⟨HR29.out.blk.cell (j := 1) rfl, HS29.out.cell (j := 0) rfl, HS29.out.cell (j := 1) rfl, hb29⟩ (fun hS29 => ?_)
          clear hK K hb29 hw29 hz29 hn29 hS1
          (try simp only [Act.put]); (try simp only [List.setIfInBounds_toArray]); (try simp only [List.set_cons_succ]); (try simp only [List.set_cons_zero])
          refine wpAnyH_ready (rs := [1]) (by kernel_rfl) (by simp) ?_
          refine (AllReadyH.cons rfl (fun K hK => ?_) AllReadyH.nil)
          (try simp only [List.getElem_toArray]); (try simp only [List.getElem_cons_succ]); (try simp only [List.getElem_cons_zero])
          go_simp
          obtain ⟨w30x, hw30⟩ : ∃ x, x = w29x.alloc (.cells #[] 117) := ⟨_, rfl⟩
          obtain ⟨z30, hz30⟩ : ∃ x, x = w29x.heap.size := ⟨_, rfl⟩
          have hn30 : Below w29x.heap.size w29x w30x := by rw [hw30]; exact below_alloc _ _
          have hb30 : Below w9.heap.size w9 w30x := below_and HB29.out hn30
          have HB30 := Lib.hid hb30
          have HO30 : Hid (w30x.ownsRow w9.heap.size 117 2 (.slice (some ⟨z30, 0, none⟩) 0 0) 0 []) := Lib.hid (by rw [hw30, hz30]; exact World.ownsRow_made w29x #[] 0 HB29.out.size (by decide) rfl)
          have HY30 := Lib.hid (HY29.out.kept hn30)
          have HNE30 : Hid (∀ q, (Value.slice (some ⟨z30, 0, none⟩) 0 0).ownBlock = some q → q ≠ z29) := Lib.hid (fun q hq => by simp [Value.ownBlock] at hq; have := HY29.out.lt; omega)
          rw [← hw30, ← hz30]
          have HR30 := Lib.hid (HRr.out.kept hb30)
          have HS30 := Lib.hid (HXr.out.kept hb30)
          refine hK.out _ _ ⟨HR30.out.blk.cell (j := 1) rfl, HS30.out.cell (j := 0) rfl, HS30.out.cell (j := 1) rfl, hb30⟩ (fun hS30 => ?_)
          clear hK K hb30 hw30 hz30 hn30 hS29
          (try simp only [Act.put]); (try simp only [List.setIfInBounds_toArray]); (try simp only [List.set_cons_succ]); (try simp only [List.set_cons_zero])
          refine wpAnyH_ready (rs := [8]) (by kernel_rfl) (by simp) ?_
          refine (AllReadyH.cons rfl (fun K hK => ?_) AllReadyH.nil)
          refine step_app rfl (.tmp 78) (.tmp 84) 78 78 rfl w9.heap.size 117 i0 (.agg #[.string ⟨#[]⟩, .int .i64 0]) 2 24 Try.underlying78 hi0 hz0 hz1 hz2 rfl (.slice (some ⟨z30, 0, none⟩) 0 0) 0 [] (by rfl) HO30.out (.slice none 0 0) 0 (ecells (([] : List End).take 0)) (by rfl) (Row.src Try.underlying78 (row_nil _ 2)) (by have := HSL.out; have := HJ.out; unfold maxLen; omega) (by have := HSL.out; have := HJ.out; omega) HB30.out.size ?_
          intro v31 w31x ho31 hg31 hn31 hk31
          have HO31 : Hid (w31x.ownsRow w9.heap.size 117 2 v31 0 (ecells (([] : List End).take 0))) := Lib.hid (by simpa using ho31)
          have hb31 : Below w9.heap.size w9 w31x := HB30.out.trans ((Fr.of_grown hg31).below (by intro y hy; exact own_base HO30.out (Option.mem_toList.1 hy)) HB30.out.size)
          have HB31 := Lib.hid hb31
          have HY31 := Lib.hid (HY30.out.fr (Fr.of_grown hg31) (fun hm => HNE30.out _ (Option.mem_toList.1 hm) rfl))
          have HNE31 : Hid (∀ q, v31.ownBlock = some q → q ≠ z29) := Lib.hid (fun q hq => by rcases hk31 q hq with h1 | h1; exact HNE30.out q h1; have := HY30.out.lt; omega)
          have HR31 := Lib.hid (HRr.out.kept hb31)
          have HS31 := Lib.hid (HXr.out.kept hb31)
          refine hK.out _ _ ⟨HR31.out.blk.cell (j := 1) rfl, HS31.out.cell (j := 0) rfl, HS31.out.cell (j := 1) rfl, hb31⟩ (fun hS31 => ?_)
          clear hK K hb31 ho31 hg31 hn31 hk31 hS30
          (try simp only [Act.put]); (try simp only [List.setIfInBounds_toArray]); (try simp only [List.set_cons_succ]); (try simp only [List.set_cons_zero])
          refine wpAnyH_ready (rs := [11]) (by kernel_rfl) (by simp) ?_
          refine (AllReadyH.cons rfl (fun K hK => ?_) AllReadyH.nil)
          refine step_app rfl (.tmp 85) (.tmp 87) 78 78 rfl w9.heap.size 117 i0 (.agg #[.string ⟨#[]⟩, .int .i64 0]) 2 24 Try.underlying78 hi0 hz0 hz1 hz2 rfl v31 0 (ecells (([] : List End).take 0)) (by rfl) HO31.out (.slice (some ⟨z29, 0, none⟩) 1 1) 1 [.string s, .int .i64 a] (by rfl) (src_block Try.underlying78 _ z29 #[.string s, .int .i64 a] HY31.out rfl (by simp [Value.oneCell'])) (by have := HSL.out; have := HJ.out; unfold maxLen; omega) (by have := HSL.out; have := HJ.out; omega) HB31.out.size ?_
          intro v32 w32x ho32 hg32 hn32 hk32
          have HO32 : Hid (w32x.ownsRow w9.heap.size 117 2 v32 (0 + 1) (ecells (([] : List End).take 0) ++ [.string s, .int .i64 a])) := Lib.hid (ho32)
          have hb32 : Below w9.heap.size w9 w32x := HB31.out.trans ((Fr.of_grown hg32).below (by intro y hy; exact own_base HO31.out (Option.mem_toList.1 hy)) HB31.out.size)
          have HB32 := Lib.hid hb32
          have HR32 := Lib.hid (HRr.out.kept hb32)
          have HS32 := Lib.hid (HXr.out.kept hb32)
          refine hK.out _ _ ⟨HR32.out.blk.cell (j := 1) rfl, HS32.out.cell (j := 0) rfl, HS32.out.cell (j := 1) rfl, hb32⟩ (fun hS32 => ?_)
          clear hK K hb32 ho32 hg32 hn32 hk32 hS31
          (try simp only [Act.put]); (try simp only [List.setIfInBounds_toArray]); (try simp only [List.set_cons_succ]); (try simp only [List.set_cons_zero])
          refine wpAnyH_ready (rs := [18]) (by kernel_rfl) (by simp) ?_
          refine (AllReadyH.cons rfl (fun K hK => ?_) AllReadyH.nil)
          refine step_app rfl (.tmp 88) (.tmp 94) 78 78 rfl w9.heap.size 117 i0 (.agg #[.string ⟨#[]⟩, .int .i64 0]) 2 24 Try.underlying78 hi0 hz0 hz1 hz2 rfl v32 (0 + 1) (ecells (([] : List End).take 0) ++ [.string s, .int .i64 a]) (by rfl) HO32.out (.slice none 0 0) (([] : List End).length - 0) (ecells (([] : List End).drop 0)) (by rfl) (Row.src Try.underlying78 (row_nil _ 2)) (by have := HSL.out; have := HJ.out; unfold maxLen; omega) (by have := HSL.out; have := HJ.out; omega) HB32.out.size ?_
          intro v33 w33x ho33 hg33 hn33 hk33
          have HO33 : Hid (w33x.ownsRow w9.heap.size 117 2 v33 (0 + 1 + (([] : List End).length - 0)) (ecells (([] : List End).take 0) ++ [.string s, .int .i64 a] ++ ecells (([] : List End).drop 0))) := Lib.hid (ho33)
          have hb33 : Below w9.heap.size w9 w33x := HB32.out.trans ((Fr.of_grown hg33).below (by intro y hy; exact own_base HO32.out (Option.mem_toList.1 hy)) HB32.out.size)
          have HB33 := Lib.hid hb33
          have HR33 := Lib.hid (HRr.out.kept hb33)
          have HS33 := Lib.hid (HXr.out.kept hb33)
          refine hK.out _ _ ⟨HR33.out.blk.cell (j := 1) rfl, HS33.out.cell (j := 0) rfl, HS33.out.cell (j := 1) rfl, hb33⟩ (fun hS33 => ?_)
          clear hK K hb33 ho33 hg33 hn33 hk33 hS32
          (try simp only [Act.put]); (try simp only [List.setIfInBounds_toArray]); (try simp only [List.set_cons_succ]); (try simp only [List.set_cons_zero])
          refine wpAnyH_take (i := 19) (v := ?v34) rfl (by kernel_rfl) (by kernel_rfl) (by kernel_rfl) (fun _ _ _ h => h) (Or.inl ⟨by rfl, ?hy34⟩) (by assumption) ?rest34
          case hy34 => (intro _ hSw; (try dsimp only at hSw); go_simp; (try with_reducible rfl))
          (try simp only [Act.put]); (try simp only [List.setIfInBounds_toArray]); (try simp only [List.set_cons_succ]); (try simp only [List.set_cons_zero])
          refine wpAnyH_take (i := 20) (v := ?v35) rfl (by kernel_rfl) (by kernel_rfl) (by kernel_rfl) (fun _ _ _ h => h) (Or.inl ⟨by rfl, ?hy35⟩) (by assumption) ?rest35
          case hy35 => (intro _ hSw; (try dsimp only at hSw); go_simp; (try with_reducible rfl))
          (try simp only [Act.put]); (try simp only [List.setIfInBounds_toArray]); (try simp only [List.set_cons_succ]); (try simp only [List.set_cons_zero])
          refine wpAnyH_done (by kernel_rfl) ?_ _
          refine LastQ.start rfl ?_
          have d4 := HR33.out.blk.cell (j := 1) rfl
          have f4 := HR33.out.blk.free 1
          clear hS33 hHeld
          have hshv := own_sh HO33.out
          obtain ⟨p8, c8, rfl, -, -⟩ := own_slice HO33.out
          go_wp2
          refine NoPanic.normal ?_
          go_wp2
          go_ret
          have e1 : ecells (([] : List End).take 0) ++ [.string s, .int .i64 a] ++ ecells (([] : List End).drop 0) = ecells (([] : List End).take 0 ++ (s, a) :: ([] : List End).drop 0) := by rw [ecells_append, ecells_cons, List.append_assoc]; rfl
          have e2 : 0 + 1 + (([] : List End).length - 0) = (([] : List End).take 0 ++ (s, a) :: ([] : List End).drop 0).length := by have := HJ.out; rw [List.length_append, List.length_cons, List.length_take, List.length_drop]; omega
          have ho := HO33.out
          have hgz : b < w9.heap.size := HRr.out.blk.lt
          have h5 := own_fr ho ((Fr.refl [b] w33x).set (p := ⟨b, 1, none⟩) (by simp) (.slice p8 (0 + 1 + (([] : List End).length - 0)) c8)) (fun y hy => by have := own_base ho hy; simp; omega)
          rw [e1, e2] at h5
          try rw [← HKJ.out]
          refine ⟨rfl, _, ⟨HR33.out.blk.set 1 _, ?_, fun hq => ?_⟩, ⟨?_, fun y hy => ?_⟩, hshv⟩
          · have h6 := row_of_owns h5 (ecells_one _)
            simpa [e2] using h6
          · have := own_base ho hq; omega
          · exact (HST.out.fr.then (Fr.of_below HB33.out _)).set (p := ⟨b, 1, none⟩) (by simp) _
          · have := own_base ho hy; exact .inr ⟨by have := HST.out.fr.size; omega, by have := own_lt ho hy; simpa [World.setCell] using this⟩
      · obtain ⟨hn', hcb, hcm⟩ : n' = S.length ∧ S.length ≤ c ∧ c ≤ maxLen := by
          obtain ⟨p', c', hv, h1, h2, -⟩ := HRw.out.row
          simp only [Value.slice.injEq] at hv
          obtain ⟨-, rfl, rfl⟩ := hv
          exact ⟨rfl, h1, h2⟩
        subst hn'
        have b1 : (0 : Int) ≤ (k : Int) := by omega
        have b2 : (k : Int) ≤ (S.length : Int) := by have := HJ.out; omega
        have b6 : (S.length : Int) ≤ (c : Int) := by omega
        have b3 : (k : Int) ≤ (c : Int) := by omega
        by_cases hin : k < S.length
        · obtain ⟨g', o', c', e', -, -, e0, e1⟩ := HRw.out.endAt hin
          simp only [Value.slice.injEq, Option.some.injEq, Addr.mk.injEq, and_true, true_and] at e'
          obtain ⟨⟨rfl, rfl⟩, rfl⟩ := e'
          have hel := HEX.out hin
          obtain ⟨nm, hnm⟩ : ∃ nm, nm = S[k].1 := ⟨_, rfl⟩
          obtain ⟨at_, hat⟩ : ∃ at_, at_ = S[k].2 := ⟨_, rfl⟩
          rw [← hnm] at e0
          rw [← hat] at e1
          have hel2 : (decide (at_ < a) || (decide (at_ = a) && Op.bytesLess nm.toList s.toList)) = false := by rw [hnm, hat]; exact hel
          have x0 : ∀ y : Past wr, y.val.cell? ⟨g, o + k * 2, none⟩ = some (.string nm) := Past.cell e0
          have x1 : ∀ y : Past wr, y.val.cell? ⟨g, o + k * 2 + 1, none⟩ = some (.int .i64 at_) := Past.cell (by rw [Nat.add_assoc]; exact e1)
          have i5 : (k : Int) < (S.length : Int) := by omega
          have h1 : ¬ at_ < a := by intro h; simp [h] at hel2
          clear e0 e1 hel hnm hat
          by_cases h2 : at_ = a
          · subst h2
            have h3 : Op.bytesLess nm.toList s.toList = false := by simpa [h1] using hel2
            clear hel2
            go_wp2
            refine wp_region_past (by kernel_rfl) (by kernel_rfl) ?_
            repeat (go_big_quiet_step (fail))
            refine wpQuiet_nil ?_
            intro _ hw'
            obtain ⟨s9, hw''⟩ := hw'
            subst hw''
            obtain ⟨w9, h9, e9⟩ : ∃ w9, Below wr.heap.size wr w9 ∧ w9 = s9.val := ⟨_, s9.h, rfl⟩
            rw [← e9]
            have HRr := Lib.hid (HRw.out.kept h9)
            have HXr := Lib.hid (HXw.out.kept h9)
            have HST : Hid (RStp w w9 b v0 (.slice (some ⟨g, o, none⟩) S.length c)) := Lib.hid (HS5.out.trans (RStp.of_below (below_and HB.out h9) _ _))
            clear h9 e9 x0 x1 x4 y1
            go_upto_region 8 with fail
            refine wp_region_noPanic ?_
            refine wp_region_lastH (fun w' => w'.cell? ⟨b, 1, none⟩ = some (.slice (some ⟨g, o, none⟩) S.length c) ∧ w'.cell? ⟨B, 0, none⟩ = some (.string s) ∧ w'.cell? ⟨B, 1, none⟩ = some (.int .i64 at_) ∧ Below w9.heap.size w9 w') 21 rfl rfl (by kernel_rfl) (by kernel_rfl) ⟨HRr.out.blk.cell (j := 1) rfl, HXr.out.cell (j := 0) rfl, HXr.out.cell (j := 1) rfl, below_drewN 1⟩ (fun hHeld => ?_)
            have HB36 : Hid (Below w9.heap.size w9 w9.drew) := Lib.hid (below_drewN 1)
            have HR36 := Lib.hid (HRr.out.kept HB36.out)
            have hS36 : True := trivial
            obtain ⟨wd36, hwd⟩ : ∃ x, x = w9.drew := ⟨_, rfl⟩
            rw [← hwd] at hHeld HB36 HR36 ⊢
            clear hwd
            refine wpAnyH_take (i := 0) (v := ?v37) rfl (by kernel_rfl) (by kernel_rfl) (by kernel_rfl) (fun _ _ _ h => h) (Or.inl ⟨by rfl, ?hy37⟩) (by assumption) ?rest37
            case hy37 => (intro _ hSw; (try dsimp only at hSw); go_simp; (try with_reducible rfl))
            (try simp only [Act.put]); (try simp only [List.setIfInBounds_toArray]); (try simp only [List.set_cons_succ]); (try simp only [List.set_cons_zero])
            refine wpAnyH_take (i := 2) (v := ?v38) rfl (by kernel_rfl) (by kernel_rfl) (by kernel_rfl) (fun _ _ _ h => h) (Or.inl ⟨by rfl, ?hy38⟩) (by assumption) ?rest38
            case hy38 => (intro _ hSw; (try dsimp only at hSw); go_simp; (try with_reducible rfl))
            (try simp only [Act.put]); (try simp only [List.setIfInBounds_toArray]); (try simp only [List.set_cons_succ]); (try simp only [List.set_cons_zero])
            refine wpAnyH_take (i := 3) (v := ?v39) rfl (by kernel_rfl) (by kernel_rfl) (by kernel_rfl) (fun _ _ _ h => h) (Or.inl ⟨by rfl, ?hy39⟩) (by assumption) ?rest39
            case hy39 => (intro _ hSw; (try dsimp only at hSw); go_simp; (try with_reducible rfl))
            (try simp only [Act.put]); (try simp only [List.setIfInBounds_toArray]); (try simp only [List.set_cons_succ]); (try simp only [List.set_cons_zero])
            refine wpAnyH_take (i := 4) (v := ?v40) rfl (by kernel_rfl) (by kernel_rfl) (by kernel_rfl) (fun _ _ _ h => h) (Or.inl ⟨by rfl, ?hy40⟩) (by assumption) ?rest40
            case hy40 => (intro _ hSw; (try dsimp only at hSw); go_simp; (try with_reducible rfl))
            (try simp only [Act.put]); (try simp only [List.setIfInBounds_toArray]); (try simp only [List.set_cons_succ]); (try simp only [List.set_cons_zero])
            refine wpAnyH_take (i := 5) (v := ?v41) rfl (by kernel_rfl) (by kernel_rfl) (by kernel_rfl) (fun _ _ _ h => h) (Or.inl ⟨by rfl, ?hy41⟩) (by assumption) ?rest41
            case hy41 => (intro _ hSw; (try dsimp only at hSw); go_simp; (try with_reducible rfl))
            (try simp only [Act.put]); (try simp only [List.setIfInBounds_toArray]); (try simp only [List.set_cons_succ]); (try simp only [List.set_cons_zero])
            refine wpAnyH_take (i := 6) (v := ?v42) rfl (by kernel_rfl) (by kernel_rfl) (by kernel_rfl) (fun _ _ _ h => h) (Or.inl ⟨by rfl, ?hy42⟩) (by assumption) ?rest42
            case hy42 => (intro _ hSw; (try dsimp only at hSw); go_simp; (try with_reducible rfl))
            (try simp only [Act.put]); (try simp only [List.setIfInBounds_toArray]); (try simp only [List.set_cons_succ]); (try simp only [List.set_cons_zero])
            refine wpAnyH_take (i := 7) (v := ?v43) rfl (by kernel_rfl) (by kernel_rfl) (by kernel_rfl) (fun _ _ _ h => h) (Or.inl ⟨by rfl, ?hy43⟩) (by assumption) ?rest43
            case hy43 => (intro _ hSw; (try dsimp only at hSw); go_simp; (try with_reducible rfl))
            (try simp only [Act.put]); (try simp only [List.setIfInBounds_toArray]); (try simp only [List.set_cons_succ]); (try simp only [List.set_cons_zero])
            refine wpAnyH_take (i := 9) (v := ?v44) rfl (by kernel_rfl) (by kernel_rfl) (by kernel_rfl) (fun _ _ _ h => h) (Or.inl ⟨by rfl, ?hy44⟩) (by assumption) ?rest44
            case hy44 => (intro _ hSw; (try dsimp only at hSw); go_simp; (try with_reducible rfl))
            (try simp only [Act.put]); (try simp only [List.setIfInBounds_toArray]); (try simp only [List.set_cons_succ]); (try simp only [List.set_cons_zero])
            refine wpAnyH_take (i := 12) (v := ?v45) rfl (by kernel_rfl) (by kernel_rfl) (by kernel_rfl) (fun _ _ _ h => h) (Or.inl ⟨by rfl, ?hy45⟩) (by assumption) ?rest45
            case hy45 => (intro _ hSw; (try dsimp only at hSw); go_simp; (try with_reducible rfl))
            (try simp only [Act.put]); (try simp only [List.setIfInBounds_toArray]); (try simp only [List.set_cons_succ]); (try simp only [List.set_cons_zero])
            refine wpAnyH_take (i := 13) (v := ?v46) rfl (by kernel_rfl) (by kernel_rfl) (by kernel_rfl) (fun _ _ _ h => h) (Or.inl ⟨by rfl, ?hy46⟩) (by assumption) ?rest46
            case hy46 => (intro _ hSw; (try dsimp only at hSw); go_simp; (try with_reducible rfl))
            (try simp only [Act.put]); (try simp only [List.setIfInBounds_toArray]); (try simp only [List.set_cons_succ]); (try simp only [List.set_cons_zero])
            refine wpAnyH_take (i := 14) (v := ?v47) rfl (by kernel_rfl) (by kernel_rfl) (by kernel_rfl) (fun _ _ _ h => h) (Or.inl ⟨by rfl, ?hy47⟩) (by assumption) ?rest47
            case hy47 => (intro _ hSw; (try dsimp only at hSw); go_simp; (try with_reducible rfl))
            (try simp only [Act.put]); (try simp only [List.setIfInBounds_toArray]); (try simp only [List.set_cons_succ]); (try simp only [List.set_cons_zero])
            refine wpAnyH_take (i := 15) (v := ?v48) rfl (by kernel_rfl) (by kernel_rfl) (by kernel_rfl) (fun _ _ _ h => h) (Or.inl ⟨by rfl, ?hy48⟩) (by assumption) ?rest48
            case hy48 => (intro _ hSw; (try dsimp only at hSw); go_simp; (try with_reducible rfl))
            (try simp only [Act.put]); (try simp only [List.setIfInBounds_toArray]); (try simp only [List.set_cons_succ]); (try simp only [List.set_cons_zero])
            refine wpAnyH_take (i := 16) (v := ?v49) rfl (by kernel_rfl) (by kernel_rfl) (by kernel_rfl) (fun _ _ _ h => h) (Or.inl ⟨by rfl, ?hy49⟩) (by assumption) ?rest49
            case hy49 => (intro _ hSw; (try dsimp only at hSw); go_simp; (try with_reducible rfl))
            (try simp only [Act.put]); (try simp only [List.setIfInBounds_toArray]); (try simp only [List.set_cons_succ]); (try simp only [List.set_cons_zero])
            refine wpAnyH_take (i := 17) (v := ?v50) rfl (by kernel_rfl) (by kernel_rfl) (by kernel_rfl) (fun _ _ _ h => h) (Or.inl ⟨by rfl, ?hy50⟩) (by assumption) ?rest50
            case hy50 => (intro _ hSw; (try dsimp only at hSw); go_simp; (try with_reducible rfl))
            (try simp only [Act.put]); (try simp only [List.setIfInBounds_toArray]); (try simp only [List.set_cons_succ]); (try simp only [List.set_cons_zero])
            refine wpAnyH_ready (rs := [1, 10]) (by kernel_rfl) (by simp) ?_
            refine (AllReadyH.cons rfl (fun K hK => ?_) (AllReadyH.cons rfl (fun K hK => ?_) AllReadyH.nil))
            · (try simp only [List.getElem_toArray]); (try simp only [List.getElem_cons_succ]); (try simp only [List.getElem_cons_zero])
              go_simp
              obtain ⟨w51x, hw51⟩ : ∃ x, x = wd36.alloc (.cells #[] 117) := ⟨_, rfl⟩
              obtain ⟨z51, hz51⟩ : ∃ x, x = wd36.heap.size := ⟨_, rfl⟩
              have hn51 : Below wd36.heap.size wd36 w51x := by rw [hw51]; exact below_alloc _ _
              have hb51 : Below w9.heap.size w9 w51x := below_and HB36.out hn51
              have HB51 := Lib.hid hb51
              have HO51 : Hid (w51x.ownsRow w9.heap.size 117 2 (.slice (some ⟨z51, 0, none⟩) 0 0) 0 []) := Lib.hid (by rw [hw51, hz51]; exact World.ownsRow_made wd36 #[] 0 HB36.out.size (by decide) rfl)
              rw [← hw51, ← hz51]
              have HR51 := Lib.hid (HRr.out.kept hb51)
              have HS51 := Lib.hid (HXr.out.kept hb51)
              refine hK.out _ _ ⟨HR51.out.blk.cell (j := 1) rfl, HS51.out.cell (j := 0) rfl, HS51.out.cell (j := 1) rfl, hb51⟩ (fun hS51 => ?_)
              clear hK K hb51 hw51 hz51 hn51 hS36
              (try simp only [Act.put]); (try simp only [List.setIfInBounds_toArray]); (try simp only [List.set_cons_succ]); (try simp only [List.set_cons_zero])
              refine wpAnyH_ready (rs := [8, 10]) (by kernel_rfl) (by simp) ?_
              refine (AllReadyH.cons rfl (fun K hK => ?_) (AllReadyH.cons rfl (fun K hK => ?_) AllReadyH.nil))
              · refine step_app rfl (.tmp 78) (.tmp 84) 78 78 rfl w9.heap.size 117 i0 (.agg #[.string ⟨#[]⟩, .int .i64 0]) 2 24 Try.underlying78 hi0 hz0 hz1 hz2 rfl (.slice (some ⟨z51, 0, none⟩) 0 0) 0 [] (by rfl) HO51.out (.slice (some ⟨g, o, none⟩) k c) k (ecells (S.take k)) (by rfl) (by have := row_first HR51.out.row (m := k) (by have := HJ.out; omega); rw [HL1.out] at this; exact Row.src Try.underlying78 this) (by have := HSL.out; have := HJ.out; unfold maxLen; omega) (by have := HSL.out; have := HJ.out; omega) HB51.out.size ?_
                intro v52 w52x ho52 hg52 hn52 hk52
                have HO52 : Hid (w52x.ownsRow w9.heap.size 117 2 v52 k (ecells (S.take k))) := Lib.hid (by simpa using ho52)
                have hb52 : Below w9.heap.size w9 w52x := HB51.out.trans ((Fr.of_grown hg52).below (by intro y hy; exact own_base HO51.out (Option.mem_toList.1 hy)) HB51.out.size)
                have HB52 := Lib.hid hb52
                have HR52 := Lib.hid (HRr.out.kept hb52)
                have HS52 := Lib.hid (HXr.out.kept hb52)
                refine hK.out _ _ ⟨HR52.out.blk.cell (j := 1) rfl, HS52.out.cell (j := 0) rfl, HS52.out.cell (j := 1) rfl, hb52⟩ (fun hS52 => ?_)
                clear hK K hb52 ho52 hg52 hn52 hk52 hS51
                (try simp only [Act.put]); (try simp only [List.setIfInBounds_toArray]); (try simp only [List.set_cons_succ]); (try simp only [List.set_cons_zero])
                refine wpAnyH_ready (rs := [10]) (by kernel_rfl) (by simp) ?_
                refine (AllReadyH.cons rfl (fun K hK => ?_) AllReadyH.nil)
                (try simp only [List.getElem_toArray]); (try simp only [List.getElem_cons_succ]); (try simp only [List.getElem_cons_zero])
                go_simp
                obtain ⟨w53x, hw53⟩ : ∃ x, x = w52x.alloc (.cells #[.string s, .int .i64 at_] 117) := ⟨_, rfl⟩
                obtain ⟨z53, hz53⟩ : ∃ x, x = w52x.heap.size := ⟨_, rfl⟩
                have hn53 : Below w52x.heap.size w52x w53x := by rw [hw53]; exact below_alloc _ _
                have hb53 : Below w9.heap.size w9 w53x := below_and HB52.out hn53
                have HB53 := Lib.hid hb53
                have HY53 : Hid (Blk w53x z53 [.string s, .int .i64 at_] 117) := Lib.hid (by rw [hw53, hz53]; exact Blk.made w52x [.string s, .int .i64 at_] _)
                have HO53 := Lib.hid (own_fr HO52.out (Fr.of_below hn53 []) (fun _ _ => by simp))
                have HNE53 : Hid (∀ q, (v52 : Value).ownBlock = some q → q ≠ z53) := Lib.hid (fun q hq => by have := own_lt HO52.out hq; omega)
                rw [← hw53, ← hz53]
                have HR53 := Lib.hid (HRr.out.kept hb53)
                have HS53 := Lib.hid (HXr.out.kept hb53)
                refine hK.out _ _ ⟨HR53.out.blk.cell (j := 1) rfl, HS53.out.cell (j := 0) rfl, HS53.out.cell (j := 1) rfl, hb53⟩ (fun hS53 => ?_)
                clear hK K hb53 hw53 hz53 hn53 hS52
                (try simp only [Act.put]); (try simp only [List.setIfInBounds_toArray]); (try simp only [List.set_cons_succ]); (try simp only [List.set_cons_zero])
                refine wpAnyH_ready (rs := [11]) (by kernel_rfl) (by simp) ?_
                refine (AllReadyH.cons rfl (fun K hK => ?_) AllReadyH.nil)
                refine step_app rfl (.tmp 85) (.tmp 87) 78 78 rfl w9.heap.size 117 i0 (.agg #[.string ⟨#[]⟩, .int .i64 0]) 2 24 Try.underlying78 hi0 hz0 hz1 hz2 rfl v52 k (ecells (S.take k)) (by rfl) HO53.out (.slice (some ⟨z53, 0, none⟩) 1 1) 1 [.string s, .int .i64 at_] (by rfl) (src_block Try.underlying78 _ z53 #[.string s, .int .i64 at_] HY53.out rfl (by simp [Value.oneCell'])) (by have := HSL.out; have := HJ.out; unfold maxLen; omega) (by have := HSL.out; have := HJ.out; omega) HB53.out.size ?_
                intro v54 w54x ho54 hg54 hn54 hk54
                have HO54 : Hid (w54x.ownsRow w9.heap.size 117 2 v54 (k + 1) (ecells (S.take k) ++ [.string s, .int .i64 at_])) := Lib.hid (ho54)
                have hb54 : Below w9.heap.size w9 w54x := HB53.out.trans ((Fr.of_grown hg54).below (by intro y hy; exact own_base HO53.out (Option.mem_toList.1 hy)) HB53.out.size)
                have HB54 := Lib.hid hb54
                have HR54 := Lib.hid (HRr.out.kept hb54)
                have HS54 := Lib.hid (HXr.out.kept hb54)
                refine hK.out _ _ ⟨HR54.out.blk.cell (j := 1) rfl, HS54.out.cell (j := 0) rfl, HS54.out.cell (j := 1) rfl, hb54⟩ (fun hS54 => ?_)
                clear hK K hb54 ho54 hg54 hn54 hk54 hS53
                (try simp only [Act.put]); (try simp only [List.setIfInBounds_toArray]); (try simp only [List.set_cons_succ]); (try simp only [List.set_cons_zero])
                refine wpAnyH_ready (rs := [18]) (by kernel_rfl) (by simp) ?_
                refine (AllReadyH.cons rfl (fun K hK => ?_) AllReadyH.nil)
                refine step_app rfl (.tmp 88) (.tmp 94) 78 78 rfl w9.heap.size 117 i0 (.agg #[.string ⟨#[]⟩, .int .i64 0]) 2 24 Try.underlying78 hi0 hz0 hz1 hz2 rfl v54 (k + 1) (ecells (S.take k) ++ [.string s, .int .i64 at_]) (by rfl) HO54.out (.slice (if c = k then some ⟨g, o, none⟩ else some ⟨g, o + k * 2, none⟩) (S.length - k) (c - k)) (S.length - k) (ecells (S.drop k)) (by rfl) (by have := row_from HR54.out.row (m := k) (by have := HJ.out; omega); rw [HL2.out] at this; exact Row.src Try.underlying78 this) (by have := HSL.out; have := HJ.out; unfold maxLen; omega) (by have := HSL.out; have := HJ.out; omega) HB54.out.size ?_
                intro v55 w55x ho55 hg55 hn55 hk55
                have HO55 : Hid (w55x.ownsRow w9.heap.size 117 2 v55 (k + 1 + (S.length - k)) (ecells (S.take k) ++ [.string s, .int .i64 at_] ++ ecells (S.drop k))) := Lib.hid (ho55)
                have hb55 : Below w9.heap.size w9 w55x := HB54.out.trans ((Fr.of_grown hg55).below (by intro y hy; exact own_base HO54.out (Option.mem_toList.1 hy)) HB54.out.size)
                have HB55 := Lib.hid hb55
                have HR55 := Lib.hid (HRr.out.kept hb55)
                have HS55 := Lib.hid (HXr.out.kept hb55)
                refine hK.out _ _ ⟨HR55.out.blk.cell (j := 1) rfl, HS55.out.cell (j := 0) rfl, HS55.out.cell (j := 1) rfl, hb55⟩ (fun hS55 => ?_)
                clear hK K hb55 ho55 hg55 hn55 hk55 hS54
                (try simp only [Act.put]); (try simp only [List.setIfInBounds_toArray]); (try simp only [List.set_cons_succ]); (try simp only [List.set_cons_zero])
                refine wpAnyH_take (i := 19) (v := ?v56) rfl (by kernel_rfl) (by kernel_rfl) (by kernel_rfl) (fun _ _ _ h => h) (Or.inl ⟨by rfl, ?hy56⟩) (by assumption) ?rest56
                case hy56 => (intro _ hSw; (try dsimp only at hSw); go_simp; (try with_reducible rfl))
                (try simp only [Act.put]); (try simp only [List.setIfInBounds_toArray]); (try simp only [List.set_cons_succ]); (try simp only [List.set_cons_zero])
                refine wpAnyH_take (i := 20) (v := ?v57) rfl (by kernel_rfl) (by kernel_rfl) (by kernel_rfl) (fun _ _ _ h => h) (Or.inl ⟨by rfl, ?hy57⟩) (by assumption) ?rest57
                case hy57 => (intro _ hSw; (try dsimp only at hSw); go_simp; (try with_reducible rfl))
                (try simp only [Act.put]); (try simp only [List.setIfInBounds_toArray]); (try simp only [List.set_cons_succ]); (try simp only [List.set_cons_zero])
                refine wpAnyH_done (by kernel_rfl) ?_ _
                refine LastQ.start rfl ?_
                have d4 := HR55.out.blk.cell (j := 1) rfl
                have f4 := HR55.out.blk.free 1
                clear hS55 hHeld
                have hshv := own_sh HO55.out
                obtain ⟨p8, c8, rfl, -, -⟩ := own_slice HO55.out
                generalize (if c = k then some (⟨g, o, none⟩ : Addr) else some ⟨g, o + k * 2, none⟩) = pp
                go_wp2
                refine NoPanic.normal ?_
                go_wp2
                go_ret
                have e1 : ecells (S.take k) ++ [.string s, .int .i64 at_] ++ ecells (S.drop k) = ecells (S.take k ++ (s, at_) :: S.drop k) := by rw [ecells_append, ecells_cons, List.append_assoc]; rfl
                have e2 : k + 1 + (S.length - k) = (S.take k ++ (s, at_) :: S.drop k).length := by have := HJ.out; rw [List.length_append, List.length_cons, List.length_take, List.length_drop]; omega
                have ho := HO55.out
                have hgz : b < w9.heap.size := HRr.out.blk.lt
                have h5 := own_fr ho ((Fr.refl [b] w55x).set (p := ⟨b, 1, none⟩) (by simp) (.slice p8 (k + 1 + (S.length - k)) c8)) (fun y hy => by have := own_base ho hy; simp; omega)
                rw [e1, e2] at h5
                try rw [← HKJ.out]
                refine ⟨rfl, _, ⟨HR55.out.blk.set 1 _, ?_, fun hq => ?_⟩, ⟨?_, fun y hy => ?_⟩, hshv⟩
                · have h6 := row_of_owns h5 (ecells_one _)
                  simpa [e2] using h6
                · have := own_base ho hq; omega
                · exact (HST.out.fr.then (Fr.of_below HB55.out _)).set (p := ⟨b, 1, none⟩) (by simp) _
                · have := own_base ho hy; exact .inr ⟨by have := HST.out.fr.size; omega, by have := own_lt ho hy; simpa [World.setCell] using this⟩
              · (try simp only [List.getElem_toArray]); (try simp only [List.getElem_cons_succ]); (try simp only [List.getElem_cons_zero])
                go_simp
                obtain ⟨w58x, hw58⟩ : ∃ x, x = w51x.alloc (.cells #[.string s, .int .i64 at_] 117) := ⟨_, rfl⟩
                obtain ⟨z58, hz58⟩ : ∃ x, x = w51x.heap.size := ⟨_, rfl⟩
                have hn58 : Below w51x.heap.size w51x w58x := by rw [hw58]; exact below_alloc _ _
                have hb58 : Below w9.heap.size w9 w58x := below_and HB51.out hn58
                have HB58 := Lib.hid hb58
                have HY58 : Hid (Blk w58x z58 [.string s, .int .i64 at_] 117) := Lib.hid (by rw [hw58, hz58]; exact Blk.made w51x [.string s, .int .i64 at_] _)
                have HO58 := Lib.hid (own_fr HO51.out (Fr.of_below hn58 []) (fun _ _ => by simp))
                have HNE58 : Hid (∀ q, ((.slice (some ⟨z51, 0, none⟩) 0 0) : Value).ownBlock = some q → q ≠ z58) := Lib.hid (fun q hq => by have := own_lt HO51.out hq; omega)
                rw [← hw58, ← hz58]
                have HR58 := Lib.hid (HRr.out.kept hb58)
                have HS58 := Lib.hid (HXr.out.kept hb58)
                refine hK.out _ _ ⟨HR58.out.blk.cell (j := 1) rfl, HS58.out.cell (j := 0) rfl, HS58.out.cell (j := 1) rfl, hb58⟩ (fun hS58 => ?_)
                clear hK K hb58 hw58 hz58 hn58 hS51
                (try simp only [Act.put]); (try simp only [List.setIfInBounds_toArray]); (try simp only [List.set_cons_succ]); (try simp only [List.set_cons_zero])
                refine wpAnyH_ready (rs := [8]) (by kernel_rfl) (by simp) ?_
                refine (AllReadyH.cons rfl (fun K hK => ?_) AllReadyH.nil)
                refine step_app rfl (.tmp 78) (.tmp 84) 78 78 rfl w9.heap.size 117 i0 (.agg #[.string ⟨#[]⟩, .int .i64 0]) 2 24 Try.underlying78 hi0 hz0 hz1 hz2 rfl (.slice (some ⟨z51, 0, none⟩) 0 0) 0 [] (by rfl) HO58.out (.slice (some ⟨g, o, none⟩) k c) k (ecells (S.take k)) (by rfl) (by have := row_first HR58.out.row (m := k) (by have := HJ.out; omega); rw [HL1.out] at this; exact Row.src Try.underlying78 this) (by have := HSL.out; have := HJ.out; unfold maxLen; omega) (by have := HSL.out; have := HJ.out; omega) HB58.out.size ?_
                intro v59 w59x ho59 hg59 hn59 hk59
                have HO59 : Hid (w59x.ownsRow w9.heap.size 117 2 v59 k (ecells (S.take k))) := Lib.hid (by simpa using ho59)
                have hb59 : Below w9.heap.size w9 w59x := HB58.out.trans ((Fr.of_grown hg59).below (by intro y hy; exact own_base HO58.out (Option.mem_toList.1 hy)) HB58.out.size)
                have HB59 := Lib.hid hb59
                have HY59 := Lib.hid (HY58.out.fr (Fr.of_grown hg59) (fun hm => HNE58.out _ (Option.mem_toList.1 hm) rfl))
                have HNE59 : Hid (∀ q, v59.ownBlock = some q → q ≠ z58) := Lib.hid (fun q hq => by rcases hk59 q hq with h1 | h1; exact HNE58.out q h1; have := HY58.out.lt; omega)
                have HR59 := Lib.hid (HRr.out.kept hb59)
                have HS59 := Lib.hid (HXr.out.kept hb59)
                refine hK.out _ _ ⟨HR59.out.blk.cell (j := 1) rfl, HS59.out.cell (j := 0) rfl, HS59.out.cell (j := 1) rfl, hb59⟩ (fun hS59 => ?_)
                clear hK K hb59 ho59 hg59 hn59 hk59 hS58
                (try simp only [Act.put]); (try simp only [List.setIfInBounds_toArray]); (try simp only [List.set_cons_succ]); (try simp only [List.set_cons_zero])
                refine wpAnyH_ready (rs := [11]) (by kernel_rfl) (by simp) ?_
                refine (AllReadyH.cons rfl (fun K hK => ?_) AllReadyH.nil)
                refine step_app rfl (.tmp 85) (.tmp 87) 78 78 rfl w9.heap.size 117 i0 (.agg #[.string ⟨#[]⟩, .int .i64 0]) 2 24 Try.underlying78 hi0 hz0 hz1 hz2 rfl v59 k (ecells (S.take k)) (by rfl) HO59.out (.slice (some ⟨z58, 0, none⟩) 1 1) 1 [.string s, .int .i64 at_] (by rfl) (src_block Try.underlying78 _ z58 #[.string s, .int .i64 at_] HY59.out rfl (by simp [Value.oneCell'])) (by have := HSL.out; have := HJ.out; unfold maxLen; omega) (by have := HSL.out; have := HJ.out; omega) HB59.out.size ?_
                intro v60 w60x ho60 hg60 hn60 hk60
                have HO60 : Hid (w60x.ownsRow w9.heap.size 117 2 v60 (k + 1) (ecells (S.take k) ++ [.string s, .int .i64 at_])) := Lib.hid (ho60)
                have hb60 : Below w9.heap.size w9 w60x := HB59.out.trans ((Fr.of_grown hg60).below (by intro y hy; exact own_base HO59.out (Option.mem_toList.1 hy)) HB59.out.size)
                have HB60 := Lib.hid hb60
                have HR60 := Lib.hid (HRr.out.kept hb60)
                have HS60 := Lib.hid (HXr.out.kept hb60)
                refine hK.out _ _ ⟨HR60.out.blk.cell (j := 1) rfl, HS60.out.cell (j := 0) rfl, HS60.out.cell (j := 1) rfl, hb60⟩ (fun hS60 => ?_)
                clear hK K hb60 ho60 hg60 hn60 hk60 hS59
                (try simp only [Act.put]); (try simp only [List.setIfInBounds_toArray]); (try simp only [List.set_cons_succ]); (try simp only [List.set_cons_zero])
                refine wpAnyH_ready (rs := [18]) (by kernel_rfl) (by simp) ?_
                refine (AllReadyH.cons rfl (fun K hK => ?_) AllReadyH.nil)
                refine step_app rfl (.tmp 88) (.tmp 94) 78 78 rfl w9.heap.size 117 i0 (.agg #[.string ⟨#[]⟩, .int .i64 0]) 2 24 Try.underlying78 hi0 hz0 hz1 hz2 rfl v60 (k + 1) (ecells (S.take k) ++ [.string s, .int .i64 at_]) (by rfl) HO60.out (.slice (if c = k then some ⟨g, o, none⟩ else some ⟨g, o + k * 2, none⟩) (S.length - k) (c - k)) (S.length - k) (ecells (S.drop k)) (by rfl) (by have := row_from HR60.out.row (m := k) (by have := HJ.out; omega); rw [HL2.out] at this; exact Row.src Try.underlying78 this) (by have := HSL.out; have := HJ.out; unfold maxLen; omega) (by have := HSL.out; have := HJ.out; omega) HB60.out.size ?_
                intro v61 w61x ho61 hg61 hn61 hk61
                have HO61 : Hid (w61x.ownsRow w9.heap.size 117 2 v61 (k + 1 + (S.length - k)) (ecells (S.take k) ++ [.string s, .int .i64 at_] ++ ecells (S.drop k))) := Lib.hid (ho61)
                have hb61 : Below w9.heap.size w9 w61x := HB60.out.trans ((Fr.of_grown hg61).below (by intro y hy; exact own_base HO60.out (Option.mem_toList.1 hy)) HB60.out.size)
                have HB61 := Lib.hid hb61
                have HR61 := Lib.hid (HRr.out.kept hb61)
                have HS61 := Lib.hid (HXr.out.kept hb61)
                refine hK.out _ _ ⟨HR61.out.blk.cell (j := 1) rfl, HS61.out.cell (j := 0) rfl, HS61.out.cell (j := 1) rfl, hb61⟩ (fun hS61 => ?_)
                clear hK K hb61 ho61 hg61 hn61 hk61 hS60
                (try simp only [Act.put]); (try simp only [List.setIfInBounds_toArray]); (try simp only [List.set_cons_succ]); (try simp only [List.set_cons_zero])
                refine wpAnyH_take (i := 19) (v := ?v62) rfl (by kernel_rfl) (by kernel_rfl) (by kernel_rfl) (fun _ _ _ h => h) (Or.inl ⟨by rfl, ?hy62⟩) (by assumption) ?rest62
                case hy62 => (intro _ hSw; (try dsimp only at hSw); go_simp; (try with_reducible rfl))
                (try simp only [Act.put]); (try simp only [List.setIfInBounds_toArray]); (try simp only [List.set_cons_succ]); (try simp only [List.set_cons_zero])
                refine wpAnyH_take (i := 20) (v := ?v63) rfl (by kernel_rfl) (by kernel_rfl) (by kernel_rfl) (fun _ _ _ h => h) (Or.inl ⟨by rfl, ?hy63⟩) (by assumption) ?rest63
                case hy63 => (intro _ hSw; (try dsimp only at hSw); go_simp; (try with_reducible rfl))
                (try simp only [Act.put]); (try simp only [List.setIfInBounds_toArray]); (try simp only [List.set_cons_succ]); (try simp only [List.set_cons_zero])
                refine wpAnyH_done (by kernel_rfl) ?_ _
                refine LastQ.start rfl ?_
                have d4 := HR61.out.blk.cell (j := 1) rfl
                have f4 := HR61.out.blk.free 1
                clear hS61 hHeld
                have hshv := own_sh HO61.out
                obtain ⟨p8, c8, rfl, -, -⟩ := own_slice HO61.out
                generalize (if c = k then some (⟨g, o, none⟩ : Addr) else some ⟨g, o + k * 2, none⟩) = pp
                go_wp2
                refine NoPanic.normal ?_
                go_wp2
                go_ret
                have e1 : ecells (S.take k) ++ [.string s, .int .i64 at_] ++ ecells (S.drop k) = ecells (S.take k ++ (s, at_) :: S.drop k) := by rw [ecells_append, ecells_cons, List.append_assoc]; rfl
                have e2 : k + 1 + (S.length - k) = (S.take k ++ (s, at_) :: S.drop k).length := by have := HJ.out; rw [List.length_append, List.length_cons, List.length_take, List.length_drop]; omega
                have ho := HO61.out
                have hgz : b < w9.heap.size := HRr.out.blk.lt
                have h5 := own_fr ho ((Fr.refl [b] w61x).set (p := ⟨b, 1, none⟩) (by simp) (.slice p8 (k + 1 + (S.length - k)) c8)) (fun y hy => by have := own_base ho hy; simp; omega)
                rw [e1, e2] at h5
                try rw [← HKJ.out]
                refine ⟨rfl, _, ⟨HR61.out.blk.set 1 _, ?_, fun hq => ?_⟩, ⟨?_, fun y hy => ?_⟩, hshv⟩
                · have h6 := row_of_owns h5 (ecells_one _)
                  simpa [e2] using h6
                · have := own_base ho hq; omega
                · exact (HST.out.fr.then (Fr.of_below HB61.out _)).set (p := ⟨b, 1, none⟩) (by simp) _
                · have := own_base ho hy; exact .inr ⟨by have := HST.out.fr.size; omega, by have := own_lt ho hy; simpa [World.setCell] using this⟩
            · (try simp only [List.getElem_toArray]); (try simp only [List.getElem_cons_succ]); (try simp only [List.getElem_cons_zero])
              go_simp
              obtain ⟨w64x, hw64⟩ : ∃ x, x = wd36.alloc (.cells #[.string s, .int .i64 at_] 117) := ⟨_, rfl⟩
              obtain ⟨z64, hz64⟩ : ∃ x, x = wd36.heap.size := ⟨_, rfl⟩
              have hn64 : Below wd36.heap.size wd36 w64x := by rw [hw64]; exact below_alloc _ _
              have hb64 : Below w9.heap.size w9 w64x := below_and HB36.out hn64
              have HB64 := Lib.hid hb64
              have HY64 : Hid (Blk w64x z64 [.string s, .int .i64 at_] 117) := Lib.hid (by rw [hw64, hz64]; exact Blk.made wd36 [.string s, .int .i64 at_] _)
              rw [← hw64, ← hz64]
              have HR64 := Lib.hid (HRr.out.kept hb64)
              have HS64 := Lib.hid (HXr.out.kept hb64)
              refine hK.out _ _ ⟨HR64.out.blk.cell (j := 1) rfl, HS64.out.cell (j := 0) rfl, HS64.out.cell (j := 1) rfl, hb64⟩ (fun hS64 => ?_)
              clear hK K hb64 hw64 hz64 hn64 hS36
              (try simp only [Act.put]); (try simp only [List.setIfInBounds_toArray]); (try simp only [List.set_cons_succ]); (try simp only [List.set_cons_zero])
              refine wpAnyH_ready (rs := [1]) (by kernel_rfl) (by simp) ?_
              refine (AllReadyH.cons rfl (fun K hK => ?_) AllReadyH.nil)
              (try simp only [List.getElem_toArray]); (try simp only [List.getElem_cons_succ]); (try simp only [List.getElem_cons_zero])
              go_simp
              obtain ⟨w65x, hw65⟩ : ∃ x, x = w64x.alloc (.cells #[] 117) := ⟨_, rfl⟩
              obtain ⟨z65, hz65⟩ : ∃ x, x = w64x.heap.size := ⟨_, rfl⟩
              have hn65 : Below w64x.heap.size w64x w65x := by rw [hw65]; exact below_alloc _ _
              have hb65 : Below w9.heap.size w9 w65x := below_and HB64.out hn65
              have HB65 := Lib.hid hb65
              have HO65 : Hid (w65x.ownsRow w9.heap.size 117 2 (.slice (some ⟨z65, 0, none⟩) 0 0) 0 []) := Lib.hid (by rw [hw65, hz65]; exact World.ownsRow_made w64x #[] 0 HB64.out.size (by decide) rfl)
              have HY65 := Lib.hid (HY64.out.kept hn65)
              have HNE65 : Hid (∀ q, (Value.slice (some ⟨z65, 0, none⟩) 0 0).ownBlock = some q → q ≠ z64) := Lib.hid (fun q hq => by simp [Value.ownBlock] at hq; have := HY64.out.lt; omega)
              rw [← hw65, ← hz65]
              have HR65 := Lib.hid (HRr.out.kept hb65)
              have HS65 := Lib.hid (HXr.out.kept hb65)
              refine hK.out _ _ ⟨HR65.out.blk.cell (j := 1) rfl, HS65.out.cell (j := 0) rfl, HS65.out.cell (j := 1) rfl, hb65⟩ (fun hS65 => ?_)
              clear hK K hb65 hw65 hz65 hn65 hS64
              (try simp only [Act.put]); (try simp only [List.setIfInBounds_toArray]); (try simp only [List.set_cons_succ]); (try simp only [List.set_cons_zero])
              refine wpAnyH_ready (rs := [8]) (by kernel_rfl) (by simp) ?_
              refine (AllReadyH.cons rfl (fun K hK => ?_) AllReadyH.nil)
              refine step_app rfl (.tmp 78) (.tmp 84) 78 78 rfl w9.heap.size 117 i0 (.agg #[.string ⟨#[]⟩, .int .i64 0]) 2 24 Try.underlying78 hi0 hz0 hz1 hz2 rfl (.slice (some ⟨z65, 0, none⟩) 0 0) 0 [] (by rfl) HO65.out (.slice (some ⟨g, o, none⟩) k c) k (ecells (S.take k)) (by rfl) (by have := row_first HR65.out.row (m := k) (by have := HJ.out; omega); rw [HL1.out] at this; exact Row.src Try.underlying78 this) (by have := HSL.out; have := HJ.out; unfold maxLen; omega) (by have := HSL.out; have := HJ.out; omega) HB65.out.size ?_
              intro v66 w66x ho66 hg66 hn66 hk66
              have HO66 : Hid (w66x.ownsRow w9.heap.size 117 2 v66 k (ecells (S.take k))) := Lib.hid (by simpa using ho66)
              have hb66 : Below w9.heap.size w9 w66x := HB65.out.trans ((Fr.of_grown hg66).below (by intro y hy; exact own_base HO65.out (Option.mem_toList.1 hy)) HB65.out.size)
              have HB66 := Lib.hid hb66
              have HY66 := Lib.hid (HY65.out.fr (Fr.of_grown hg66) (fun hm => HNE65.out _ (Option.mem_toList.1 hm) rfl))
              have HNE66 : Hid (∀ q, v66.ownBlock = some q → q ≠ z64) := Lib.hid (fun q hq => by rcases hk66 q hq with h1 | h1; exact HNE65.out q h1; have := HY65.out.lt; omega)
              have HR66 := Lib.hid (HRr.out.kept hb66)
              have HS66 := Lib.hid (HXr.out.kept hb66)
              refine hK.out _ _ ⟨HR66.out.blk.cell (j := 1) rfl, HS66.out.cell (j := 0) rfl, HS66.out.cell (j := 1) rfl, hb66⟩ (fun hS66 => ?_)
              clear hK K hb66 ho66 hg66 hn66 hk66 hS65
              (try simp only [Act.put]); (try simp only [List.setIfInBounds_toArray]); (try simp only [List.set_cons_succ]); (try simp only [List.set_cons_zero])
              refine wpAnyH_ready (rs := [11]) (by kernel_rfl) (by simp) ?_
              refine (AllReadyH.cons rfl (fun K hK => ?_) AllReadyH.nil)
              refine step_app rfl (.tmp 85) (.tmp 87) 78 78 rfl w9.heap.size 117 i0 (.agg #[.string ⟨#[]⟩, .int .i64 0]) 2 24 Try.underlying78 hi0 hz0 hz1 hz2 rfl v66 k (ecells (S.take k)) (by rfl) HO66.out (.slice (some ⟨z64, 0, none⟩) 1 1) 1 [.string s, .int .i64 at_] (by rfl) (src_block Try.underlying78 _ z64 #[.string s, .int .i64 at_] HY66.out rfl (by simp [Value.oneCell'])) (by have := HSL.out; have := HJ.out; unfold maxLen; omega) (by have := HSL.out; have := HJ.out; omega) HB66.out.size ?_
              intro v67 w67x ho67 hg67 hn67 hk67
              have HO67 : Hid (w67x.ownsRow w9.heap.size 117 2 v67 (k + 1) (ecells (S.take k) ++ [.string s, .int .i64 at_])) := Lib.hid (ho67)
              have hb67 : Below w9.heap.size w9 w67x := HB66.out.trans ((Fr.of_grown hg67).below (by intro y hy; exact own_base HO66.out (Option.mem_toList.1 hy)) HB66.out.size)
              have HB67 := Lib.hid hb67
              have HR67 := Lib.hid (HRr.out.kept hb67)
              have HS67 := Lib.hid (HXr.out.kept hb67)
              refine hK.out _ _ ⟨HR67.out.blk.cell (j := 1) rfl, HS67.out.cell (j := 0) rfl, HS67.out.cell (j := 1) rfl, hb67⟩ (fun hS67 => ?_)
              clear hK K hb67 ho67 hg67 hn67 hk67 hS66
              (try simp only [Act.put]); (try simp only [List.setIfInBounds_toArray]); (try simp only [List.set_cons_succ]); (try simp only [List.set_cons_zero])
              refine wpAnyH_ready (rs := [18]) (by kernel_rfl) (by simp) ?_
              refine (AllReadyH.cons rfl (fun K hK => ?_) AllReadyH.nil)
              refine step_app rfl (.tmp 88) (.tmp 94) 78 78 rfl w9.heap.size 117 i0 (.agg #[.string ⟨#[]⟩, .int .i64 0]) 2 24 Try.underlying78 hi0 hz0 hz1 hz2 rfl v67 (k + 1) (ecells (S.take k) ++ [.string s, .int .i64 at_]) (by rfl) HO67.out (.slice (if c = k then some ⟨g, o, none⟩ else some ⟨g, o + k * 2, none⟩) (S.length - k) (c - k)) (S.length - k) (ecells (S.drop k)) (by rfl) (by have := row_from HR67.out.row (m := k) (by have := HJ.out; omega); rw [HL2.out] at this; exact Row.src Try.underlying78 this) (by have := HSL.out; have := HJ.out; unfold maxLen; omega) (by have := HSL.out; have := HJ.out; omega) HB67.out.size ?_
              intro v68 w68x ho68 hg68 hn68 hk68
              have HO68 : Hid (w68x.ownsRow w9.heap.size 117 2 v68 (k + 1 + (S.length - k)) (ecells (S.take k) ++ [.string s, .int .i64 at_] ++ ecells (S.drop k))) := Lib.hid (ho68)
              have hb68 : Below w9.heap.size w9 w68x := HB67.out.trans ((Fr.of_grown hg68).below (by intro y hy; exact own_base HO67.out (Option.mem_toList.1 hy)) HB67.out.size)
              have HB68 := Lib.hid hb68
              have HR68 := Lib.hid (HRr.out.kept hb68)
              have HS68 := Lib.hid (HXr.out.kept hb68)
              refine hK.out _ _ ⟨HR68.out.blk.cell (j := 1) rfl, HS68.out.cell (j := 0) rfl, HS68.out.cell (j := 1) rfl, hb68⟩ (fun hS68 => ?_)
              clear hK K hb68 ho68 hg68 hn68 hk68 hS67
              (try simp only [Act.put]); (try simp only [List.setIfInBounds_toArray]); (try simp only [List.set_cons_succ]); (try simp only [List.set_cons_zero])
              refine wpAnyH_take (i := 19) (v := ?v69) rfl (by kernel_rfl) (by kernel_rfl) (by kernel_rfl) (fun _ _ _ h => h) (Or.inl ⟨by rfl, ?hy69⟩) (by assumption) ?rest69
              case hy69 => (intro _ hSw; (try dsimp only at hSw); go_simp; (try with_reducible rfl))
              (try simp only [Act.put]); (try simp only [List.setIfInBounds_toArray]); (try simp only [List.set_cons_succ]); (try simp only [List.set_cons_zero])
              refine wpAnyH_take (i := 20) (v := ?v70) rfl (by kernel_rfl) (by kernel_rfl) (by kernel_rfl) (fun _ _ _ h => h) (Or.inl ⟨by rfl, ?hy70⟩) (by assumption) ?rest70
              case hy70 => (intro _ hSw; (try dsimp only at hSw); go_simp; (try with_reducible rfl))
              (try simp only [Act.put]); (try simp only [List.setIfInBounds_toArray]); (try simp only [List.set_cons_succ]); (try simp only [List.set_cons_zero])
              refine wpAnyH_done (by kernel_rfl) ?_ _
              refine LastQ.start rfl ?_
              have d4 := HR68.out.blk.cell (j := 1) rfl
              have f4 := HR68.out.blk.free 1
              clear hS68 hHeld
              have hshv := own_sh HO68.out
              obtain ⟨p8, c8, rfl, -, -⟩ := own_slice HO68.out
              generalize (if c = k then some (⟨g, o, none⟩ : Addr) else some ⟨g, o + k * 2, none⟩) = pp
              go_wp2
              refine NoPanic.normal ?_
              go_wp2
              go_ret
              have e1 : ecells (S.take k) ++ [.string s, .int .i64 at_] ++ ecells (S.drop k) = ecells (S.take k ++ (s, at_) :: S.drop k) := by rw [ecells_append, ecells_cons, List.append_assoc]; rfl
              have e2 : k + 1 + (S.length - k) = (S.take k ++ (s, at_) :: S.drop k).length := by have := HJ.out; rw [List.length_append, List.length_cons, List.length_take, List.length_drop]; omega
              have ho := HO68.out
              have hgz : b < w9.heap.size := HRr.out.blk.lt
              have h5 := own_fr ho ((Fr.refl [b] w68x).set (p := ⟨b, 1, none⟩) (by simp) (.slice p8 (k + 1 + (S.length - k)) c8)) (fun y hy => by have := own_base ho hy; simp; omega)
              rw [e1, e2] at h5
              try rw [← HKJ.out]
              refine ⟨rfl, _, ⟨HR68.out.blk.set 1 _, ?_, fun hq => ?_⟩, ⟨?_, fun y hy => ?_⟩, hshv⟩
              · have h6 := row_of_owns h5 (ecells_one _)
                simpa [e2] using h6
              · have := own_base ho hq; omega
              · exact (HST.out.fr.then (Fr.of_below HB68.out _)).set (p := ⟨b, 1, none⟩) (by simp) _
              · have := own_base ho hy; exact .inr ⟨by have := HST.out.fr.size; omega, by have := own_lt ho hy; simpa [World.setCell] using this⟩
          · have HH1 : Hid (decide (at_ < a) = false) := Lib.hid (by simpa using h1)
            have HH2 : Hid ((at_ == a) = false) := Lib.hid (by simpa using h2)
            have HH3 : Hid (decide (at_ = a) = false) := Lib.hid (by simpa using h2)
            clear hel2 h1 h2
            go_wp2
            refine wp_region_past (by kernel_rfl) (by kernel_rfl) ?_
            repeat (go_big_quiet_step (fail))
            rw [HH1.out]
            repeat (go_big_quiet_step (fail))
            first | rw [HH2.out] | rw [HH3.out]
            repeat (go_big_quiet_step (fail))
            refine wpQuiet_nil ?_
            intro _ hw'
            obtain ⟨s9, hw''⟩ := hw'
            subst hw''
            obtain ⟨w9, h9, e9⟩ : ∃ w9, Below wr.heap.size wr w9 ∧ w9 = s9.val := ⟨_, s9.h, rfl⟩
            rw [← e9]
            have HRr := Lib.hid (HRw.out.kept h9)
            have HXr := Lib.hid (HXw.out.kept h9)
            have HST : Hid (RStp w w9 b v0 (.slice (some ⟨g, o, none⟩) S.length c)) := Lib.hid (HS5.out.trans (RStp.of_below (below_and HB.out h9) _ _))
            clear h9 e9 x0 x1 x4 y1
            go_upto_region 8 with fail
            refine wp_region_noPanic ?_
            refine wp_region_lastH (fun w' => w'.cell? ⟨b, 1, none⟩ = some (.slice (some ⟨g, o, none⟩) S.length c) ∧ w'.cell? ⟨B, 0, none⟩ = some (.string s) ∧ w'.cell? ⟨B, 1, none⟩ = some (.int .i64 a) ∧ Below w9.heap.size w9 w') 21 rfl rfl (by kernel_rfl) (by kernel_rfl) ⟨HRr.out.blk.cell (j := 1) rfl, HXr.out.cell (j := 0) rfl, HXr.out.cell (j := 1) rfl, below_drewN 1⟩ (fun hHeld => ?_)
            have HB71 : Hid (Below w9.heap.size w9 w9.drew) := Lib.hid (below_drewN 1)
            have HR71 := Lib.hid (HRr.out.kept HB71.out)
            have hS71 : True := trivial
            obtain ⟨wd71, hwd⟩ : ∃ x, x = w9.drew := ⟨_, rfl⟩
            rw [← hwd] at hHeld HB71 HR71 ⊢
            clear hwd
            refine wpAnyH_take (i := 0) (v := ?v72) rfl (by kernel_rfl) (by kernel_rfl) (by kernel_rfl) (fun _ _ _ h => h) (Or.inl ⟨by rfl, ?hy72⟩) (by assumption) ?rest72
            case hy72 => (intro _ hSw; (try dsimp only at hSw); go_simp; (try with_reducible rfl))
            (try simp only [Act.put]); (try simp only [List.setIfInBounds_toArray]); (try simp only [List.set_cons_succ]); (try simp only [List.set_cons_zero])
            refine wpAnyH_take (i := 2) (v := ?v73) rfl (by kernel_rfl) (by kernel_rfl) (by kernel_rfl) (fun _ _ _ h => h) (Or.inl ⟨by rfl, ?hy73⟩) (by assumption) ?rest73
            case hy73 => (intro _ hSw; (try dsimp only at hSw); go_simp; (try with_reducible rfl))
            (try simp only [Act.put]); (try simp only [List.setIfInBounds_toArray]); (try simp only [List.set_cons_succ]); (try simp only [List.set_cons_zero])
            refine wpAnyH_take (i := 3) (v := ?v74) rfl (by kernel_rfl) (by kernel_rfl) (by kernel_rfl) (fun _ _ _ h => h) (Or.inl ⟨by rfl, ?hy74⟩) (by assumption) ?rest74
            case hy74 => (intro _ hSw; (try dsimp only at hSw); go_simp; (try with_reducible rfl))
            (try simp only [Act.put]); (try simp only [List.setIfInBounds_toArray]); (try simp only [List.set_cons_succ]); (try simp only [List.set_cons_zero])
            refine wpAnyH_take (i := 4) (v := ?v75) rfl (by kernel_rfl) (by kernel_rfl) (by kernel_rfl) (fun _ _ _ h => h) (Or.inl ⟨by rfl, ?hy75⟩) (by assumption) ?rest75
            case hy75 => (intro _ hSw; (try dsimp only at hSw); go_simp; (try with_reducible rfl))
            (try simp only [Act.put]); (try simp only [List.setIfInBounds_toArray]); (try simp only [List.set_cons_succ]); (try simp only [List.set_cons_zero])
            refine wpAnyH_take (i := 5) (v := ?v76) rfl (by kernel_rfl) (by kernel_rfl) (by kernel_rfl) (fun _ _ _ h => h) (Or.inl ⟨by rfl, ?hy76⟩) (by assumption) ?rest76
            case hy76 => (intro _ hSw; (try dsimp only at hSw); go_simp; (try with_reducible rfl))
            (try simp only [Act.put]); (try simp only [List.setIfInBounds_toArray]); (try simp only [List.set_cons_succ]); (try simp only [List.set_cons_zero])
            refine wpAnyH_take (i := 6) (v := ?v77) rfl (by kernel_rfl) (by kernel_rfl) (by kernel_rfl) (fun _ _ _ h => h) (Or.inl ⟨by rfl, ?hy77⟩) (by assumption) ?rest77
            case hy77 => (intro _ hSw; (try dsimp only at hSw); go_simp; (try with_reducible rfl))
            (try simp only [Act.put]); (try simp only [List.setIfInBounds_toArray]); (try simp only [List.set_cons_succ]); (try simp only [List.set_cons_zero])
            refine wpAnyH_take (i := 7) (v := ?v78) rfl (by kernel_rfl) (by kernel_rfl) (by kernel_rfl) (fun _ _ _ h => h) (Or.inl ⟨by rfl, ?hy78⟩) (by assumption) ?rest78
            case hy78 => (intro _ hSw; (try dsimp only at hSw); go_simp; (try with_reducible rfl))
            (try simp only [Act.put]); (try simp only [List.setIfInBounds_toArray]); (try simp only [List.set_cons_succ]); (try simp only [List.set_cons_zero])
            refine wpAnyH_take (i := 9) (v := ?v79) rfl (by kernel_rfl) (by kernel_rfl) (by kernel_rfl) (fun _ _ _ h => h) (Or.inl ⟨by rfl, ?hy79⟩) (by assumption) ?rest79
            case hy79 => (intro _ hSw; (try dsimp only at hSw); go_simp; (try with_reducible rfl))
            (try simp only [Act.put]); (try simp only [List.setIfInBounds_toArray]); (try simp only [List.set_cons_succ]); (try simp only [List.set_cons_zero])
            refine wpAnyH_take (i := 12) (v := ?v80) rfl (by kernel_rfl) (by kernel_rfl) (by kernel_rfl) (fun _ _ _ h => h) (Or.inl ⟨by rfl, ?hy80⟩) (by assumption) ?rest80
            case hy80 => (intro _ hSw; (try dsimp only at hSw); go_simp; (try with_reducible rfl))
            (try simp only [Act.put]); (try simp only [List.setIfInBounds_toArray]); (try simp only [List.set_cons_succ]); (try simp only [List.set_cons_zero])
            refine wpAnyH_take (i := 13) (v := ?v81) rfl (by kernel_rfl) (by kernel_rfl) (by kernel_rfl) (fun _ _ _ h => h) (Or.inl ⟨by rfl, ?hy81⟩) (by assumption) ?rest81
            case hy81 => (intro _ hSw; (try dsimp only at hSw); go_simp; (try with_reducible rfl))
            (try simp only [Act.put]); (try simp only [List.setIfInBounds_toArray]); (try simp only [List.set_cons_succ]); (try simp only [List.set_cons_zero])
            refine wpAnyH_take (i := 14) (v := ?v82) rfl (by kernel_rfl) (by kernel_rfl) (by kernel_rfl) (fun _ _ _ h => h) (Or.inl ⟨by rfl, ?hy82⟩) (by assumption) ?rest82
            case hy82 => (intro _ hSw; (try dsimp only at hSw); go_simp; (try with_reducible rfl))
            (try simp only [Act.put]); (try simp only [List.setIfInBounds_toArray]); (try simp only [List.set_cons_succ]); (try simp only [List.set_cons_zero])
            refine wpAnyH_take (i := 15) (v := ?v83) rfl (by kernel_rfl) (by kernel_rfl) (by kernel_rfl) (fun _ _ _ h => h) (Or.inl ⟨by rfl, ?hy83⟩) (by assumption) ?rest83
            case hy83 => (intro _ hSw; (try dsimp only at hSw); go_simp; (try with_reducible rfl))
            (try simp only [Act.put]); (try simp only [List.setIfInBounds_toArray]); (try simp only [List.set_cons_succ]); (try simp only [List.set_cons_zero])
            refine wpAnyH_take (i := 16) (v := ?v84) rfl (by kernel_rfl) (by kernel_rfl) (by kernel_rfl) (fun _ _ _ h => h) (Or.inl ⟨by rfl, ?hy84⟩) (by assumption) ?rest84
            case hy84 => (intro _ hSw; (try dsimp only at hSw); go_simp; (try with_reducible rfl))
            (try simp only [Act.put]); (try simp only [List.setIfInBounds_toArray]); (try simp only [List.set_cons_succ]); (try simp only [List.set_cons_zero])
            refine wpAnyH_take (i := 17) (v := ?v85) rfl (by kernel_rfl) (by kernel_rfl) (by kernel_rfl) (fun _ _ _ h => h) (Or.inl ⟨by rfl, ?hy85⟩) (by assumption) ?rest85
            case hy85 => (intro _ hSw; (try dsimp only at hSw); go_simp; (try with_reducible rfl))
            (try simp only [Act.put]); (try simp only [List.setIfInBounds_toArray]); (try simp only [List.set_cons_succ]); (try simp only [List.set_cons_zero])
            refine wpAnyH_ready (rs := [1, 10]) (by kernel_rfl) (by simp) ?_
            refine (AllReadyH.cons rfl (fun K hK => ?_) (AllReadyH.cons rfl (fun K hK => ?_) AllReadyH.nil))
            · (try simp only [List.getElem_toArray]); (try simp only [List.getElem_cons_succ]); (try simp only [List.getElem_cons_zero])
              go_simp
              obtain ⟨w86x, hw86⟩ : ∃ x, x = wd71.alloc (.cells #[] 117) := ⟨_, rfl⟩
              obtain ⟨z86, hz86⟩ : ∃ x, x = wd71.heap.size := ⟨_, rfl⟩
              have hn86 : Below wd71.heap.size wd71 w86x := by rw [hw86]; exact below_alloc _ _
              have hb86 : Below w9.heap.size w9 w86x := below_and HB71.out hn86
              have HB86 := Lib.hid hb86
              have HO86 : Hid (w86x.ownsRow w9.heap.size 117 2 (.slice (some ⟨z86, 0, none⟩) 0 0) 0 []) := Lib.hid (by rw [hw86, hz86]; exact World.ownsRow_made wd71 #[] 0 HB71.out.size (by decide) rfl)
              rw [← hw86, ← hz86]
              have HR86 := Lib.hid (HRr.out.kept hb86)
              have HS86 := Lib.hid (HXr.out.kept hb86)
              refine hK.out _ _ ⟨HR86.out.blk.cell (j := 1) rfl, HS86.out.cell (j := 0) rfl, HS86.out.cell (j := 1) rfl, hb86⟩ (fun hS86 => ?_)
              clear hK K hb86 hw86 hz86 hn86 hS71
              (try simp only [Act.put]); (try simp only [List.setIfInBounds_toArray]); (try simp only [List.set_cons_succ]); (try simp only [List.set_cons_zero])
              refine wpAnyH_ready (rs := [8, 10]) (by kernel_rfl) (by simp) ?_
              refine (AllReadyH.cons rfl (fun K hK => ?_) (AllReadyH.cons rfl (fun K hK => ?_) AllReadyH.nil))
              · refine step_app rfl (.tmp 78) (.tmp 84) 78 78 rfl w9.heap.size 117 i0 (.agg #[.string ⟨#[]⟩, .int .i64 0]) 2 24 Try.underlying78 hi0 hz0 hz1 hz2 rfl (.slice (some ⟨z86, 0, none⟩) 0 0) 0 [] (by rfl) HO86.out (.slice (some ⟨g, o, none⟩) k c) k (ecells (S.take k)) (by rfl) (by have := row_first HR86.out.row (m := k) (by have := HJ.out; omega); rw [HL1.out] at this; exact Row.src Try.underlying78 this) (by have := HSL.out; have := HJ.out; unfold maxLen; omega) (by have := HSL.out; have := HJ.out; omega) HB86.out.size ?_
                intro v87 w87x ho87 hg87 hn87 hk87
                have HO87 : Hid (w87x.ownsRow w9.heap.size 117 2 v87 k (ecells (S.take k))) := Lib.hid (by simpa using ho87)
                have hb87 : Below w9.heap.size w9 w87x := HB86.out.trans ((Fr.of_grown hg87).below (by intro y hy; exact own_base HO86.out (Option.mem_toList.1 hy)) HB86.out.size)
                have HB87 := Lib.hid hb87
                have HR87 := Lib.hid (HRr.out.kept hb87)
                have HS87 := Lib.hid (HXr.out.kept hb87)
                refine hK.out _ _ ⟨HR87.out.blk.cell (j := 1) rfl, HS87.out.cell (j := 0) rfl, HS87.out.cell (j := 1) rfl, hb87⟩ (fun hS87 => ?_)
                clear hK K hb87 ho87 hg87 hn87 hk87 hS86
                (try simp only [Act.put]); (try simp only [List.setIfInBounds_toArray]); (try simp only [List.set_cons_succ]); (try simp only [List.set_cons_zero])
                refine wpAnyH_ready (rs := [10]) (by kernel_rfl) (by simp) ?_
                refine (AllReadyH.cons rfl (fun K hK => ?_) AllReadyH.nil)
                (try simp only [List.getElem_toArray]); (try simp only [List.getElem_cons_succ]); (try simp only [List.getElem_cons_zero])
                go_simp
                obtain ⟨w88x, hw88⟩ : ∃ x, x = w87x.alloc (.cells #[.string s, .int .i64 a] 117) := ⟨_, rfl⟩
                obtain ⟨z88, hz88⟩ : ∃ x, x = w87x.heap.size := ⟨_, rfl⟩
                have hn88 : Below w87x.heap.size w87x w88x := by rw [hw88]; exact below_alloc _ _
                have hb88 : Below w9.heap.size w9 w88x := below_and HB87.out hn88
                have HB88 := Lib.hid hb88
                have HY88 : Hid (Blk w88x z88 [.string s, .int .i64 a] 117) := Lib.hid (by rw [hw88, hz88]; exact Blk.made w87x [.string s, .int .i64 a] _)
                have HO88 := Lib.hid (own_fr HO87.out (Fr.of_below hn88 []) (fun _ _ => by simp))
                have HNE88 : Hid (∀ q, (v87 : Value).ownBlock = some q → q ≠ z88) := Lib.hid (fun q hq => by have := own_lt HO87.out hq; omega)
                rw [← hw88, ← hz88]
                have HR88 := Lib.hid (HRr.out.kept hb88)
                have HS88 := Lib.hid (HXr.out.kept hb88)
                refine hK.out _ _ ⟨HR88.out.blk.cell (j := 1) rfl, HS88.out.cell (j := 0) rfl, HS88.out.cell (j := 1) rfl, hb88⟩ (fun hS88 => ?_)
                clear hK K hb88 hw88 hz88 hn88 hS87
                (try simp only [Act.put]); (try simp only [List.setIfInBounds_toArray]); (try simp only [List.set_cons_succ]); (try simp only [List.set_cons_zero])
                refine wpAnyH_ready (rs := [11]) (by kernel_rfl) (by simp) ?_
                refine (AllReadyH.cons rfl (fun K hK => ?_) AllReadyH.nil)
                refine step_app rfl (.tmp 85) (.tmp 87) 78 78 rfl w9.heap.size 117 i0 (.agg #[.string ⟨#[]⟩, .int .i64 0]) 2 24 Try.underlying78 hi0 hz0 hz1 hz2 rfl v87 k (ecells (S.take k)) (by rfl) HO88.out (.slice (some ⟨z88, 0, none⟩) 1 1) 1 [.string s, .int .i64 a] (by rfl) (src_block Try.underlying78 _ z88 #[.string s, .int .i64 a] HY88.out rfl (by simp [Value.oneCell'])) (by have := HSL.out; have := HJ.out; unfold maxLen; omega) (by have := HSL.out; have := HJ.out; omega) HB88.out.size ?_
                intro v89 w89x ho89 hg89 hn89 hk89
                have HO89 : Hid (w89x.ownsRow w9.heap.size 117 2 v89 (k + 1) (ecells (S.take k) ++ [.string s, .int .i64 a])) := Lib.hid (ho89)
                have hb89 : Below w9.heap.size w9 w89x := HB88.out.trans ((Fr.of_grown hg89).below (by intro y hy; exact own_base HO88.out (Option.mem_toList.1 hy)) HB88.out.size)
                have HB89 := Lib.hid hb89
                have HR89 := Lib.hid (HRr.out.kept hb89)
                have HS89 := Lib.hid (HXr.out.kept hb89)
                refine hK.out _ _ ⟨HR89.out.blk.cell (j := 1) rfl, HS89.out.cell (j := 0) rfl, HS89.out.cell (j := 1) rfl, hb89⟩ (fun hS89 => ?_)
                clear hK K hb89 ho89 hg89 hn89 hk89 hS88
                (try simp only [Act.put]); (try simp only [List.setIfInBounds_toArray]); (try simp only [List.set_cons_succ]); (try simp only [List.set_cons_zero])
                refine wpAnyH_ready (rs := [18]) (by kernel_rfl) (by simp) ?_
                refine (AllReadyH.cons rfl (fun K hK => ?_) AllReadyH.nil)
                refine step_app rfl (.tmp 88) (.tmp 94) 78 78 rfl w9.heap.size 117 i0 (.agg #[.string ⟨#[]⟩, .int .i64 0]) 2 24 Try.underlying78 hi0 hz0 hz1 hz2 rfl v89 (k + 1) (ecells (S.take k) ++ [.string s, .int .i64 a]) (by rfl) HO89.out (.slice (if c = k then some ⟨g, o, none⟩ else some ⟨g, o + k * 2, none⟩) (S.length - k) (c - k)) (S.length - k) (ecells (S.drop k)) (by rfl) (by have := row_from HR89.out.row (m := k) (by have := HJ.out; omega); rw [HL2.out] at this; exact Row.src Try.underlying78 this) (by have := HSL.out; have := HJ.out; unfold maxLen; omega) (by have := HSL.out; have := HJ.out; omega) HB89.out.size ?_
                intro v90 w90x ho90 hg90 hn90 hk90
                have HO90 : Hid (w90x.ownsRow w9.heap.size 117 2 v90 (k + 1 + (S.length - k)) (ecells (S.take k) ++ [.string s, .int .i64 a] ++ ecells (S.drop k))) := Lib.hid (ho90)
                have hb90 : Below w9.heap.size w9 w90x := HB89.out.trans ((Fr.of_grown hg90).below (by intro y hy; exact own_base HO89.out (Option.mem_toList.1 hy)) HB89.out.size)
                have HB90 := Lib.hid hb90
                have HR90 := Lib.hid (HRr.out.kept hb90)
                have HS90 := Lib.hid (HXr.out.kept hb90)
                refine hK.out _ _ ⟨HR90.out.blk.cell (j := 1) rfl, HS90.out.cell (j := 0) rfl, HS90.out.cell (j := 1) rfl, hb90⟩ (fun hS90 => ?_)
                clear hK K hb90 ho90 hg90 hn90 hk90 hS89
                (try simp only [Act.put]); (try simp only [List.setIfInBounds_toArray]); (try simp only [List.set_cons_succ]); (try simp only [List.set_cons_zero])
                refine wpAnyH_take (i := 19) (v := ?v91) rfl (by kernel_rfl) (by kernel_rfl) (by kernel_rfl) (fun _ _ _ h => h) (Or.inl ⟨by rfl, ?hy91⟩) (by assumption) ?rest91
                case hy91 => (intro _ hSw; (try dsimp only at hSw); go_simp; (try with_reducible rfl))
                (try simp only [Act.put]); (try simp only [List.setIfInBounds_toArray]); (try simp only [List.set_cons_succ]); (try simp only [List.set_cons_zero])
                refine wpAnyH_take (i := 20) (v := ?v92) rfl (by kernel_rfl) (by kernel_rfl) (by kernel_rfl) (fun _ _ _ h => h) (Or.inl ⟨by rfl, ?hy92⟩) (by assumption) ?rest92
                case hy92 => (intro _ hSw; (try dsimp only at hSw); go_simp; (try with_reducible rfl))
                (try simp only [Act.put]); (try simp only [List.setIfInBounds_toArray]); (try simp only [List.set_cons_succ]); (try simp only [List.set_cons_zero])
                refine wpAnyH_done (by kernel_rfl) ?_ _
                refine LastQ.start rfl ?_
                have d4 := HR90.out.blk.cell (j := 1) rfl
                have f4 := HR90.out.blk.free 1
                clear hS90 hHeld
                have hshv := own_sh HO90.out
                obtain ⟨p8, c8, rfl, -, -⟩ := own_slice HO90.out
                generalize (if c = k then some (⟨g, o, none⟩ : Addr) else some ⟨g, o + k * 2, none⟩) = pp
                go_wp2
                refine NoPanic.normal ?_
                go_wp2
                go_ret
                have e1 : ecells (S.take k) ++ [.string s, .int .i64 a] ++ ecells (S.drop k) = ecells (S.take k ++ (s, a) :: S.drop k) := by rw [ecells_append, ecells_cons, List.append_assoc]; rfl
                have e2 : k + 1 + (S.length - k) = (S.take k ++ (s, a) :: S.drop k).length := by have := HJ.out; rw [List.length_append, List.length_cons, List.length_take, List.length_drop]; omega
                have ho := HO90.out
                have hgz : b < w9.heap.size := HRr.out.blk.lt
                have h5 := own_fr ho ((Fr.refl [b] w90x).set (p := ⟨b, 1, none⟩) (by simp) (.slice p8 (k + 1 + (S.length - k)) c8)) (fun y hy => by have := own_base ho hy; simp; omega)
                rw [e1, e2] at h5
                try rw [← HKJ.out]
                refine ⟨rfl, _, ⟨HR90.out.blk.set 1 _, ?_, fun hq => ?_⟩, ⟨?_, fun y hy => ?_⟩, hshv⟩
                · have h6 := row_of_owns h5 (ecells_one _)
                  simpa [e2] using h6
                · have := own_base ho hq; omega
                · exact (HST.out.fr.then (Fr.of_below HB90.out _)).set (p := ⟨b, 1, none⟩) (by simp) _
                · have := own_base ho hy; exact .inr ⟨by have := HST.out.fr.size; omega, by have := own_lt ho hy; simpa [World.setCell] using this⟩
              · (try simp only [List.getElem_toArray]); (try simp only [List.getElem_cons_succ]); (try simp only [List.getElem_cons_zero])
                go_simp
                obtain ⟨w93x, hw93⟩ : ∃ x, x = w86x.alloc (.cells #[.string s, .int .i64 a] 117) := ⟨_, rfl⟩
                obtain ⟨z93, hz93⟩ : ∃ x, x = w86x.heap.size := ⟨_, rfl⟩
                have hn93 : Below w86x.heap.size w86x w93x := by rw [hw93]; exact below_alloc _ _
                have hb93 : Below w9.heap.size w9 w93x := below_and HB86.out hn93
                have HB93 := Lib.hid hb93
                have HY93 : Hid (Blk w93x z93 [.string s, .int .i64 a] 117) := Lib.hid (by rw [hw93, hz93]; exact Blk.made w86x [.string s, .int .i64 a] _)
                have HO93 := Lib.hid (own_fr HO86.out (Fr.of_below hn93 []) (fun _ _ => by simp))
                have HNE93 : Hid (∀ q, ((.slice (some ⟨z86, 0, none⟩) 0 0) : Value).ownBlock = some q → q ≠ z93) := Lib.hid (fun q hq => by have := own_lt HO86.out hq; omega)
                rw [← hw93, ← hz93]
                have HR93 := Lib.hid (HRr.out.kept hb93)
                have HS93 := Lib.hid (HXr.out.kept hb93)
                refine hK.out _ _ ⟨HR93.out.blk.cell (j := 1) rfl, HS93.out.cell (j := 0) rfl, HS93.out.cell (j := 1) rfl, hb93⟩ (fun hS93 => ?_)
                clear hK K hb93 hw93 hz93 hn93 hS86
                (try simp only [Act.put]); (try simp only [List.setIfInBounds_toArray]); (try simp only [List.set_cons_succ]); (try simp only [List.set_cons_zero])
                refine wpAnyH_ready (rs := [8]) (by kernel_rfl) (by simp) ?_
                refine (AllReadyH.cons rfl (fun K hK => ?_) AllReadyH.nil)
                refine step_app rfl (.tmp 78) (.tmp 84) 78 78 rfl w9.heap.size 117 i0 (.agg #[.string ⟨#[]⟩, .int .i64 0]) 2 24 Try.underlying78 hi0 hz0 hz1 hz2 rfl (.slice (some ⟨z86, 0, none⟩) 0 0) 0 [] (by rfl) HO93.out (.slice (some ⟨g, o, none⟩) k c) k (ecells (S.take k)) (by rfl) (by have := row_first HR93.out.row (m := k) (by have := HJ.out; omega); rw [HL1.out] at this; exact Row.src Try.underlying78 this) (by have := HSL.out; have := HJ.out; unfold maxLen; omega) (by have := HSL.out; have := HJ.out; omega) HB93.out.size ?_
                intro v94 w94x ho94 hg94 hn94 hk94
                have HO94 : Hid (w94x.ownsRow w9.heap.size 117 2 v94 k (ecells (S.take k))) := Lib.hid (by simpa using ho94)
                have hb94 : Below w9.heap.size w9 w94x := HB93.out.trans ((Fr.of_grown hg94).below (by intro y hy; exact own_base HO93.out (Option.mem_toList.1 hy)) HB93.out.size)
                have HB94 := Lib.hid hb94
                have HY94 := Lib.hid (HY93.out.fr (Fr.of_grown hg94) (fun hm => HNE93.out _ (Option.mem_toList.1 hm) rfl))
                have HNE94 : Hid (∀ q, v94.ownBlock = some q → q ≠ z93) := Lib.hid (fun q hq => by rcases hk94 q hq with h1 | h1; exact HNE93.out q h1; have := HY93.out.lt; omega)
                have HR94 := Lib.hid (HRr.out.kept hb94)
                have HS94 := Lib.hid (HXr.out.kept hb94)
                refine hK.out _ _ ⟨HR94.out.blk.cell (j := 1) rfl, HS94.out.cell (j := 0) rfl, HS94.out.cell (j := 1) rfl, hb94⟩ (fun hS94 => ?_)
                clear hK K hb94 ho94 hg94 hn94 hk94 hS93
                (try simp only [Act.put]); (try simp only [List.setIfInBounds_toArray]); (try simp only [List.set_cons_succ]); (try simp only [List.set_cons_zero])
                refine wpAnyH_ready (rs := [11]) (by kernel_rfl) (by simp) ?_
                refine (AllReadyH.cons rfl (fun K hK => ?_) AllReadyH.nil)
                refine step_app rfl (.tmp 85) (.tmp 87) 78 78 rfl w9.heap.size 117 i0 (.agg #[.string ⟨#[]⟩, .int .i64 0]) 2 24 Try.underlying78 hi0 hz0 hz1 hz2 rfl v94 k (ecells (S.take k)) (by rfl) HO94.out (.slice (some ⟨z93, 0, none⟩) 1 1) 1 [.string s, .int .i64 a] (by rfl) (src_block Try.underlying78 _ z93 #[.string s, .int .i64 a] HY94.out rfl (by simp [Value.oneCell'])) (by have := HSL.out; have := HJ.out; unfold maxLen; omega) (by have := HSL.out; have := HJ.out; omega) HB94.out.size ?_
                intro v95 w95x ho95 hg95 hn95 hk95
                have HO95 : Hid (w95x.ownsRow w9.heap.size 117 2 v95 (k + 1) (ecells (S.take k) ++ [.string s, .int .i64 a])) := Lib.hid (ho95)
                have hb95 : Below w9.heap.size w9 w95x := HB94.out.trans ((Fr.of_grown hg95).below (by intro y hy; exact own_base HO94.out (Option.mem_toList.1 hy)) HB94.out.size)
                have HB95 := Lib.hid hb95
                have HR95 := Lib.hid (HRr.out.kept hb95)
                have HS95 := Lib.hid (HXr.out.kept hb95)
                refine hK.out _ _ ⟨HR95.out.blk.cell (j := 1) rfl, HS95.out.cell (j := 0) rfl, HS95.out.cell (j := 1) rfl, hb95⟩ (fun hS95 => ?_)
                clear hK K hb95 ho95 hg95 hn95 hk95 hS94
                (try simp only [Act.put]); (try simp only [List.setIfInBounds_toArray]); (try simp only [List.set_cons_succ]); (try simp only [List.set_cons_zero])
                refine wpAnyH_ready (rs := [18]) (by kernel_rfl) (by simp) ?_
                refine (AllReadyH.cons rfl (fun K hK => ?_) AllReadyH.nil)
                refine step_app rfl (.tmp 88) (.tmp 94) 78 78 rfl w9.heap.size 117 i0 (.agg #[.string ⟨#[]⟩, .int .i64 0]) 2 24 Try.underlying78 hi0 hz0 hz1 hz2 rfl v95 (k + 1) (ecells (S.take k) ++ [.string s, .int .i64 a]) (by rfl) HO95.out (.slice (if c = k then some ⟨g, o, none⟩ else some ⟨g, o + k * 2, none⟩) (S.length - k) (c - k)) (S.length - k) (ecells (S.drop k)) (by rfl) (by have := row_from HR95.out.row (m := k) (by have := HJ.out; omega); rw [HL2.out] at this; exact Row.src Try.underlying78 this) (by have := HSL.out; have := HJ.out; unfold maxLen; omega) (by have := HSL.out; have := HJ.out; omega) HB95.out.size ?_
                intro v96 w96x ho96 hg96 hn96 hk96
                have HO96 : Hid (w96x.ownsRow w9.heap.size 117 2 v96 (k + 1 + (S.length - k)) (ecells (S.take k) ++ [.string s, .int .i64 a] ++ ecells (S.drop k))) := Lib.hid (ho96)
                have hb96 : Below w9.heap.size w9 w96x := HB95.out.trans ((Fr.of_grown hg96).below (by intro y hy; exact own_base HO95.out (Option.mem_toList.1 hy)) HB95.out.size)
                have HB96 := Lib.hid hb96
                have HR96 := Lib.hid (HRr.out.kept hb96)
                have HS96 := Lib.hid (HXr.out.kept hb96)
                refine hK.out _ _ ⟨HR96.out.blk.cell (j := 1) rfl, HS96.out.cell (j := 0) rfl, HS96.out.cell (j := 1) rfl, hb96⟩ (fun hS96 => ?_)
                clear hK K hb96 ho96 hg96 hn96 hk96 hS95
                (try simp only [Act.put]); (try simp only [List.setIfInBounds_toArray]); (try simp only [List.set_cons_succ]); (try simp only [List.set_cons_zero])
                refine wpAnyH_take (i := 19) (v := ?v97) rfl (by kernel_rfl) (by kernel_rfl) (by kernel_rfl) (fun _ _ _ h => h) (Or.inl ⟨by rfl, ?hy97⟩) (by assumption) ?rest97
                case hy97 => (intro _ hSw; (try dsimp only at hSw); go_simp; (try with_reducible rfl))
                (try simp only [Act.put]); (try simp only [List.setIfInBounds_toArray]); (try simp only [List.set_cons_succ]); (try simp only [List.set_cons_zero])
                refine wpAnyH_take (i := 20) (v := ?v98) rfl (by kernel_rfl) (by kernel_rfl) (by kernel_rfl) (fun _ _ _ h => h) (Or.inl ⟨by rfl, ?hy98⟩) (by assumption) ?rest98
                case hy98 => (intro _ hSw; (try dsimp only at hSw); go_simp; (try with_reducible rfl))
                (try simp only [Act.put]); (try simp only [List.setIfInBounds_toArray]); (try simp only [List.set_cons_succ]); (try simp only [List.set_cons_zero])
                refine wpAnyH_done (by kernel_rfl) ?_ _
                refine LastQ.start rfl ?_
                have d4 := HR96.out.blk.cell (j := 1) rfl
                have f4 := HR96.out.blk.free 1
                clear hS96 hHeld
                have hshv := own_sh HO96.out
                obtain ⟨p8, c8, rfl, -, -⟩ := own_slice HO96.out
                generalize (if c = k then some (⟨g, o, none⟩ : Addr) else some ⟨g, o + k * 2, none⟩) = pp
                go_wp2
                refine NoPanic.normal ?_
                go_wp2
                go_ret
                have e1 : ecells (S.take k) ++ [.string s, .int .i64 a] ++ ecells (S.drop k) = ecells (S.take k ++ (s, a) :: S.drop k) := by rw [ecells_append, ecells_cons, List.append_assoc]; rfl
                have e2 : k + 1 + (S.length - k) = (S.take k ++ (s, a) :: S.drop k).length := by have := HJ.out; rw [List.length_append, List.length_cons, List.length_take, List.length_drop]; omega
                have ho := HO96.out
                have hgz : b < w9.heap.size := HRr.out.blk.lt
                have h5 := own_fr ho ((Fr.refl [b] w96x).set (p := ⟨b, 1, none⟩) (by simp) (.slice p8 (k + 1 + (S.length - k)) c8)) (fun y hy => by have := own_base ho hy; simp; omega)
                rw [e1, e2] at h5
                try rw [← HKJ.out]
                refine ⟨rfl, _, ⟨HR96.out.blk.set 1 _, ?_, fun hq => ?_⟩, ⟨?_, fun y hy => ?_⟩, hshv⟩
                · have h6 := row_of_owns h5 (ecells_one _)
                  simpa [e2] using h6
                · have := own_base ho hq; omega
                · exact (HST.out.fr.then (Fr.of_below HB96.out _)).set (p := ⟨b, 1, none⟩) (by simp) _
                · have := own_base ho hy; exact .inr ⟨by have := HST.out.fr.size; omega, by have := own_lt ho hy; simpa [World.setCell] using this⟩
            · (try simp only [List.getElem_toArray]); (try simp only [List.getElem_cons_succ]); (try simp only [List.getElem_cons_zero])
              go_simp
              obtain ⟨w99x, hw99⟩ : ∃ x, x = wd71.alloc (.cells #[.string s, .int .i64 a] 117) := ⟨_, rfl⟩
              obtain ⟨z99, hz99⟩ : ∃ x, x = wd71.heap.size := ⟨_, rfl⟩
              have hn99 : Below wd71.heap.size wd71 w99x := by rw [hw99]; exact below_alloc _ _
              have hb99 : Below w9.heap.size w9 w99x := below_and HB71.out hn99
              have HB99 := Lib.hid hb99
              have HY99 : Hid (Blk w99x z99 [.string s, .int .i64 a] 117) := Lib.hid (by rw [hw99, hz99]; exact Blk.made wd71 [.string s, .int .i64 a] _)
              rw [← hw99, ← hz99]
              have HR99 := Lib.hid (HRr.out.kept hb99)
              have HS99 := Lib.hid (HXr.out.kept hb99)
              refine hK.out _ _ ⟨HR99.out.blk.cell (j := 1) rfl, HS99.out.cell (j := 0) rfl, HS99.out.cell (j := 1) rfl, hb99⟩ (fun hS99 => ?_)
              clear hK K hb99 hw99 hz99 hn99 hS71
              (try simp only [Act.put]); (try simp only [List.setIfInBounds_toArray]); (try simp only [List.set_cons_succ]); (try simp only [List.set_cons_zero])
              refine wpAnyH_ready (rs := [1]) (by kernel_rfl) (by simp) ?_
              refine (AllReadyH.cons rfl (fun K hK => ?_) AllReadyH.nil)
              (try simp only [List.getElem_toArray]); (try simp only [List.getElem_cons_succ]); (try simp only [List.getElem_cons_zero])
              go_simp
              obtain ⟨w100x, hw100⟩ : ∃ x, x = w99x.alloc (.cells #[] 117) := ⟨_, rfl⟩
              obtain ⟨z100, hz100⟩ : ∃ x, x = w99x.heap.size := ⟨_, rfl⟩
              have hn100 : Below w99x.heap.size w99x w100x := by rw [hw100]; exact below_alloc _ _
              have hb100 : Below w9.heap.size w9 w100x := below_and HB99.out hn100
              have HB100 := Lib.hid hb100
              have HO100 : Hid (w100x.ownsRow w9.heap.size 117 2 (.slice (some ⟨z100, 0, none⟩) 0 0) 0 []) := Lib.hid (by rw [hw100, hz100]; exact World.ownsRow_made w99x #[] 0 HB99.out.size (by decide) rfl)
              have HY100 := Lib.hid (HY99.out.kept hn100)
              have HNE100 : Hid (∀ q, (Value.slice (some ⟨z100, 0, none⟩) 0 0).ownBlock = some q → q ≠ z99) := Lib.hid (fun q hq => by simp [Value.ownBlock] at hq; have := HY99.out.lt; omega)
              rw [← hw100, ← hz100]
              have HR100 := Lib.hid (HRr.out.kept hb100)
              have HS100 := Lib.hid (HXr.out.kept hb100)
              refine hK.out _ _ ⟨HR100.out.blk.cell (j := 1) rfl, HS100.out.cell (j := 0) rfl, HS100.out.cell (j := 1) rfl, hb100⟩ (fun hS100 => ?_)
              clear hK K hb100 hw100 hz100 hn100 hS99
              (try simp only [Act.put]); (try simp only [List.setIfInBounds_toArray]); (try simp only [List.set_cons_succ]); (try simp only [List.set_cons_zero])
              refine wpAnyH_ready (rs := [8]) (by kernel_rfl) (by simp) ?_
              refine (AllReadyH.cons rfl (fun K hK => ?_) AllReadyH.nil)
              refine step_app rfl (.tmp 78) (.tmp 84) 78 78 rfl w9.heap.size 117 i0 (.agg #[.string ⟨#[]⟩, .int .i64 0]) 2 24 Try.underlying78 hi0 hz0 hz1 hz2 rfl (.slice (some ⟨z100, 0, none⟩) 0 0) 0 [] (by rfl) HO100.out (.slice (some ⟨g, o, none⟩) k c) k (ecells (S.take k)) (by rfl) (by have := row_first HR100.out.row (m := k) (by have := HJ.out; omega); rw [HL1.out] at this; exact Row.src Try.underlying78 this) (by have := HSL.out; have := HJ.out; unfold maxLen; omega) (by have := HSL.out; have := HJ.out; omega) HB100.out.size ?_
              intro v101 w101x ho101 hg101 hn101 hk101
              have HO101 : Hid (w101x.ownsRow w9.heap.size 117 2 v101 k (ecells (S.take k))) := Lib.hid (by simpa using ho101)
              have hb101 : Below w9.heap.size w9 w101x := HB100.out.trans ((Fr.of_grown hg101).below (by intro y hy; exact own_base HO100.out (Option.mem_toList.1 hy)) HB100.out.size)
              have HB101 := Lib.hid hb101
              have HY101 := Lib.hid (HY100.out.fr (Fr.of_grown hg101) (fun hm => HNE100.out _ (Option.mem_toList.1 hm) rfl))
              have HNE101 : Hid (∀ q, v101.ownBlock = some q → q ≠ z99) := Lib.hid (fun q hq => by rcases hk101 q hq with h1 | h1; exact HNE100.out q h1; have := HY100.out.lt; omega)
              have HR101 := Lib.hid (HRr.out.kept hb101)
              have HS101 := Lib.hid (HXr.out.kept hb101)
              refine hK.out _ _ ⟨HR101.out.blk.cell (j := 1) rfl, HS101.out.cell (j := 0) rfl, HS101.out.cell (j := 1) rfl, hb101⟩ (fun hS101 => ?_)
              clear hK K hb101 ho101 hg101 hn101 hk101 hS100
              (try simp only [Act.put]); (try simp only [List.setIfInBounds_toArray]); (try simp only [List.set_cons_succ]); (try simp only [List.set_cons_zero])
              refine wpAnyH_ready (rs := [11]) (by kernel_rfl) (by simp) ?_
              refine (AllReadyH.cons rfl (fun K hK => ?_) AllReadyH.nil)
              refine step_app rfl (.tmp 85) (.tmp 87) 78 78 rfl w9.heap.size 117 i0 (.agg #[.string ⟨#[]⟩, .int .i64 0]) 2 24 Try.underlying78 hi0 hz0 hz1 hz2 rfl v101 k (ecells (S.take k)) (by rfl) HO101.out (.slice (some ⟨z99, 0, none⟩) 1 1) 1 [.string s, .int .i64 a] (by rfl) (src_block Try.underlying78 _ z99 #[.string s, .int .i64 a] HY101.out rfl (by simp [Value.oneCell'])) (by have := HSL.out; have := HJ.out; unfold maxLen; omega) (by have := HSL.out; have := HJ.out; omega) HB101.out.size ?_
              intro v102 w102x ho102 hg102 hn102 hk102
              have HO102 : Hid (w102x.ownsRow w9.heap.size 117 2 v102 (k + 1) (ecells (S.take k) ++ [.string s, .int .i64 a])) := Lib.hid (ho102)
              have hb102 : Below w9.heap.size w9 w102x := HB101.out.trans ((Fr.of_grown hg102).below (by intro y hy; exact own_base HO101.out (Option.mem_toList.1 hy)) HB101.out.size)
              have HB102 := Lib.hid hb102
              have HR102 := Lib.hid (HRr.out.kept hb102)
              have HS102 := Lib.hid (HXr.out.kept hb102)
              refine hK.out _ _ ⟨HR102.out.blk.cell (j := 1) rfl, HS102.out.cell (j := 0) rfl, HS102.out.cell (j := 1) rfl, hb102⟩ (fun hS102 => ?_)
              clear hK K hb102 ho102 hg102 hn102 hk102 hS101
              (try simp only [Act.put]); (try simp only [List.setIfInBounds_toArray]); (try simp only [List.set_cons_succ]); (try simp only [List.set_cons_zero])
              refine wpAnyH_ready (rs := [18]) (by kernel_rfl) (by simp) ?_
              refine (AllReadyH.cons rfl (fun K hK => ?_) AllReadyH.nil)
              refine step_app rfl (.tmp 88) (.tmp 94) 78 78 rfl w9.heap.size 117 i0 (.agg #[.string ⟨#[]⟩, .int .i64 0]) 2 24 Try.underlying78 hi0 hz0 hz1 hz2 rfl v102 (k + 1) (ecells (S.take k) ++ [.string s, .int .i64 a]) (by rfl) HO102.out (.slice (if c = k then some ⟨g, o, none⟩ else some ⟨g, o + k * 2, none⟩) (S.length - k) (c - k)) (S.length - k) (ecells (S.drop k)) (by rfl) (by have := row_from HR102.out.row (m := k) (by have := HJ.out; omega); rw [HL2.out] at this; exact Row.src Try.underlying78 this) (by have := HSL.out; have := HJ.out; unfold maxLen; omega) (by have := HSL.out; have := HJ.out; omega) HB102.out.size ?_
              intro v103 w103x ho103 hg103 hn103 hk103
              have HO103 : Hid (w103x.ownsRow w9.heap.size 117 2 v103 (k + 1 + (S.length - k)) (ecells (S.take k) ++ [.string s, .int .i64 a] ++ ecells (S.drop k))) := Lib.hid (ho103)
              have hb103 : Below w9.heap.size w9 w103x := HB102.out.trans ((Fr.of_grown hg103).below (by intro y hy; exact own_base HO102.out (Option.mem_toList.1 hy)) HB102.out.size)
              have HB103 := Lib.hid hb103
              have HR103 := Lib.hid (HRr.out.kept hb103)
              have HS103 := Lib.hid (HXr.out.kept hb103)
              refine hK.out _ _ ⟨HR103.out.blk.cell (j := 1) rfl, HS103.out.cell (j := 0) rfl, HS103.out.cell (j := 1) rfl, hb103⟩ (fun hS103 => ?_)
              clear hK K hb103 ho103 hg103 hn103 hk103 hS102
              (try simp only [Act.put]); (try simp only [List.setIfInBounds_toArray]); (try simp only [List.set_cons_succ]); (try simp only [List.set_cons_zero])
              refine wpAnyH_take (i := 19) (v := ?v104) rfl (by kernel_rfl) (by kernel_rfl) (by kernel_rfl) (fun _ _ _ h => h) (Or.inl ⟨by rfl, ?hy104⟩) (by assumption) ?rest104
              case hy104 => (intro _ hSw; (try dsimp only at hSw); go_simp; (try with_reducible rfl))
              (try simp only [Act.put]); (try simp only [List.setIfInBounds_toArray]); (try simp only [List.set_cons_succ]); (try simp only [List.set_cons_zero])
              refine wpAnyH_take (i := 20) (v := ?v105) rfl (by kernel_rfl) (by kernel_rfl) (by kernel_rfl) (fun _ _ _ h => h) (Or.inl ⟨by rfl, ?hy105⟩) (by assumption) ?rest105
              case hy105 => (intro _ hSw; (try dsimp only at hSw); go_simp; (try with_reducible rfl))
              (try simp only [Act.put]); (try simp only [List.setIfInBounds_toArray]); (try simp only [List.set_cons_succ]); (try simp only [List.set_cons_zero])
              refine wpAnyH_done (by kernel_rfl) ?_ _
              refine LastQ.start rfl ?_
              have d4 := HR103.out.blk.cell (j := 1) rfl
              have f4 := HR103.out.blk.free 1
              clear hS103 hHeld
              have hshv := own_sh HO103.out
              obtain ⟨p8, c8, rfl, -, -⟩ := own_slice HO103.out
              generalize (if c = k then some (⟨g, o, none⟩ : Addr) else some ⟨g, o + k * 2, none⟩) = pp
              go_wp2
              refine NoPanic.normal ?_
              go_wp2
              go_ret
              have e1 : ecells (S.take k) ++ [.string s, .int .i64 a] ++ ecells (S.drop k) = ecells (S.take k ++ (s, a) :: S.drop k) := by rw [ecells_append, ecells_cons, List.append_assoc]; rfl
              have e2 : k + 1 + (S.length - k) = (S.take k ++ (s, a) :: S.drop k).length := by have := HJ.out; rw [List.length_append, List.length_cons, List.length_take, List.length_drop]; omega
              have ho := HO103.out
              have hgz : b < w9.heap.size := HRr.out.blk.lt
              have h5 := own_fr ho ((Fr.refl [b] w103x).set (p := ⟨b, 1, none⟩) (by simp) (.slice p8 (k + 1 + (S.length - k)) c8)) (fun y hy => by have := own_base ho hy; simp; omega)
              rw [e1, e2] at h5
              try rw [← HKJ.out]
              refine ⟨rfl, _, ⟨HR103.out.blk.set 1 _, ?_, fun hq => ?_⟩, ⟨?_, fun y hy => ?_⟩, hshv⟩
              · have h6 := row_of_owns h5 (ecells_one _)
                simpa [e2] using h6
              · have := own_base ho hq; omega
              · exact (HST.out.fr.then (Fr.of_below HB103.out _)).set (p := ⟨b, 1, none⟩) (by simp) _
              · have := own_base ho hy; exact .inr ⟨by have := HST.out.fr.size; omega, by have := own_lt ho hy; simpa [World.setCell] using this⟩
        · have HI5 : Hid (decide (k < S.length) = false) := Lib.hid (by simpa using hin)
          clear hin
          go_wp2
          refine wp_region_past (by kernel_rfl) (by kernel_rfl) ?_
          repeat (go_big_quiet_step (fail))
          rw [HI5.out]
          repeat (go_big_quiet_step (fail))
          refine wpQuiet_nil ?_
          intro _ hw'
          obtain ⟨s9, hw''⟩ := hw'
          subst hw''
          obtain ⟨w9, h9, e9⟩ : ∃ w9, Below wr.heap.size wr w9 ∧ w9 = s9.val := ⟨_, s9.h, rfl⟩
          rw [← e9]
          have HRr := Lib.hid (HRw.out.kept h9)
          have HXr := Lib.hid (HXw.out.kept h9)
          have HST : Hid (RStp w w9 b v0 (.slice (some ⟨g, o, none⟩) S.length c)) := Lib.hid (HS5.out.trans (RStp.of_below (below_and HB.out h9) _ _))
          clear h9 e9 x4 y1
          go_upto_region 8 with fail
          refine wp_region_noPanic ?_
          refine wp_region_lastH (fun w' => w'.cell? ⟨b, 1, none⟩ = some (.slice (some ⟨g, o, none⟩) S.length c) ∧ w'.cell? ⟨B, 0, none⟩ = some (.string s) ∧ w'.cell? ⟨B, 1, none⟩ = some (.int .i64 a) ∧ Below w9.heap.size w9 w') 21 rfl rfl (by kernel_rfl) (by kernel_rfl) ⟨HRr.out.blk.cell (j := 1) rfl, HXr.out.cell (j := 0) rfl, HXr.out.cell (j := 1) rfl, below_drewN 1⟩ (fun hHeld => ?_)
          have HB106 : Hid (Below w9.heap.size w9 w9.drew) := Lib.hid (below_drewN 1)
          have HR106 := Lib.hid (HRr.out.kept HB106.out)
          have hS106 : True := trivial
          obtain ⟨wd106, hwd⟩ : ∃ x, x = w9.drew := ⟨_, rfl⟩
          rw [← hwd] at hHeld HB106 HR106 ⊢
          clear hwd
          refine wpAnyH_take (i := 0) (v := ?v107) rfl (by kernel_rfl) (by kernel_rfl) (by kernel_rfl) (fun _ _ _ h => h) (Or.inl ⟨by rfl, ?hy107⟩) (by assumption) ?rest107
          case hy107 => (intro _ hSw; (try dsimp only at hSw); go_simp; (try with_reducible rfl))
          (try simp only [Act.put]); (try simp only [List.setIfInBounds_toArray]); (try simp only [List.set_cons_succ]); (try simp only [List.set_cons_zero])
          refine wpAnyH_take (i := 2) (v := ?v108) rfl (by kernel_rfl) (by kernel_rfl) (by kernel_rfl) (fun _ _ _ h => h) (Or.inl ⟨by rfl, ?hy108⟩) (by assumption) ?rest108
          case hy108 => (intro _ hSw; (try dsimp only at hSw); go_simp; (try with_reducible rfl))
          (try simp only [Act.put]); (try simp only [List.setIfInBounds_toArray]); (try simp only [List.set_cons_succ]); (try simp only [List.set_cons_zero])
          refine wpAnyH_take (i := 3) (v := ?v109) rfl (by kernel_rfl) (by kernel_rfl) (by kernel_rfl) (fun _ _ _ h => h) (Or.inl ⟨by rfl, ?hy109⟩) (by assumption) ?rest109
          case hy109 => (intro _ hSw; (try dsimp only at hSw); go_simp; (try with_reducible rfl))
          (try simp only [Act.put]); (try simp only [List.setIfInBounds_toArray]); (try simp only [List.set_cons_succ]); (try simp only [List.set_cons_zero])
          refine wpAnyH_take (i := 4) (v := ?v110) rfl (by kernel_rfl) (by kernel_rfl) (by kernel_rfl) (fun _ _ _ h => h) (Or.inl ⟨by rfl, ?hy110⟩) (by assumption) ?rest110
          case hy110 => (intro _ hSw; (try dsimp only at hSw); go_simp; (try with_reducible rfl))
          (try simp only [Act.put]); (try simp only [List.setIfInBounds_toArray]); (try simp only [List.set_cons_succ]); (try simp only [List.set_cons_zero])
          refine wpAnyH_take (i := 5) (v := ?v111) rfl (by kernel_rfl) (by kernel_rfl) (by kernel_rfl) (fun _ _ _ h => h) (Or.inl ⟨by rfl, ?hy111⟩) (by assumption) ?rest111
          case hy111 => (intro _ hSw; (try dsimp only at hSw); go_simp; (try with_reducible rfl))
          (try simp only [Act.put]); (try simp only [List.setIfInBounds_toArray]); (try simp only [List.set_cons_succ]); (try simp only [List.set_cons_zero])
          refine wpAnyH_take (i := 6) (v := ?v112) rfl (by kernel_rfl) (by kernel_rfl) (by kernel_rfl) (fun _ _ _ h => h) (Or.inl ⟨by rfl, ?hy112⟩) (by assumption) ?rest112
          case hy112 => (intro _ hSw; (try dsimp only at hSw); go_simp; (try with_reducible rfl))
          (try simp only [Act.put]); (try simp only [List.setIfInBounds_toArray]); (try simp only [List.set_cons_succ]); (try simp only [List.set_cons_zero])
          refine wpAnyH_take (i := 7) (v := ?v113) rfl (by kernel_rfl) (by kernel_rfl) (by kernel_rfl) (fun _ _ _ h => h) (Or.inl ⟨by rfl, ?hy113⟩) (by assumption) ?rest113
          case hy113 => (intro _ hSw; (try dsimp only at hSw); go_simp; (try with_reducible rfl))
          (try simp only [Act.put]); (try simp only [List.setIfInBounds_toArray]); (try simp only [List.set_cons_succ]); (try simp only [List.set_cons_zero])
          refine wpAnyH_take (i := 9) (v := ?v114) rfl (by kernel_rfl) (by kernel_rfl) (by kernel_rfl) (fun _ _ _ h => h) (Or.inl ⟨by rfl, ?hy114⟩) (by assumption) ?rest114
          case hy114 => (intro _ hSw; (try dsimp only at hSw); go_simp; (try with_reducible rfl))
          (try simp only [Act.put]); (try simp only [List.setIfInBounds_toArray]); (try simp only [List.set_cons_succ]); (try simp only [List.set_cons_zero])
          refine wpAnyH_take (i := 12) (v := ?v115) rfl (by kernel_rfl) (by kernel_rfl) (by kernel_rfl) (fun _ _ _ h => h) (Or.inl ⟨by rfl, ?hy115⟩) (by assumption) ?rest115
          case hy115 => (intro _ hSw; (try dsimp only at hSw); go_simp; (try with_reducible rfl))
          (try simp only [Act.put]); (try simp only [List.setIfInBounds_toArray]); (try simp only [List.set_cons_succ]); (try simp only [List.set_cons_zero])
          refine wpAnyH_take (i := 13) (v := ?v116) rfl (by kernel_rfl) (by kernel_rfl) (by kernel_rfl) (fun _ _ _ h => h) (Or.inl ⟨by rfl, ?hy116⟩) (by assumption) ?rest116
          case hy116 => (intro _ hSw; (try dsimp only at hSw); go_simp; (try with_reducible rfl))
          (try simp only [Act.put]); (try simp only [List.setIfInBounds_toArray]); (try simp only [List.set_cons_succ]); (try simp only [List.set_cons_zero])
          refine wpAnyH_take (i := 14) (v := ?v117) rfl (by kernel_rfl) (by kernel_rfl) (by kernel_rfl) (fun _ _ _ h => h) (Or.inl ⟨by rfl, ?hy117⟩) (by assumption) ?rest117
          case hy117 => (intro _ hSw; (try dsimp only at hSw); go_simp; (try with_reducible rfl))
          (try simp only [Act.put]); (try simp only [List.setIfInBounds_toArray]); (try simp only [List.set_cons_succ]); (try simp only [List.set_cons_zero])
          refine wpAnyH_take (i := 15) (v := ?v118) rfl (by kernel_rfl) (by kernel_rfl) (by kernel_rfl) (fun _ _ _ h => h) (Or.inl ⟨by rfl, ?hy118⟩) (by assumption) ?rest118
          case hy118 => (intro _ hSw; (try dsimp only at hSw); go_simp; (try with_reducible rfl))
          (try simp only [Act.put]); (try simp only [List.setIfInBounds_toArray]); (try simp only [List.set_cons_succ]); (try simp only [List.set_cons_zero])
          refine wpAnyH_take (i := 16) (v := ?v119) rfl (by kernel_rfl) (by kernel_rfl) (by kernel_rfl) (fun _ _ _ h => h) (Or.inl ⟨by rfl, ?hy119⟩) (by assumption) ?rest119
          case hy119 => (intro _ hSw; (try dsimp only at hSw); go_simp; (try with_reducible rfl))
          (try simp only [Act.put]); (try simp only [List.setIfInBounds_toArray]); (try simp only [List.set_cons_succ]); (try simp only [List.set_cons_zero])
          refine wpAnyH_take (i := 17) (v := ?v120) rfl (by kernel_rfl) (by kernel_rfl) (by kernel_rfl) (fun _ _ _ h => h) (Or.inl ⟨by rfl, ?hy120⟩) (by assumption) ?rest120
          case hy120 => (intro _ hSw; (try dsimp only at hSw); go_simp; (try with_reducible rfl))
          (try simp only [Act.put]); (try simp only [List.setIfInBounds_toArray]); (try simp only [List.set_cons_succ]); (try simp only [List.set_cons_zero])
          refine wpAnyH_ready (rs := [1, 10]) (by kernel_rfl) (by simp) ?_
          refine (AllReadyH.cons rfl (fun K hK => ?_) (AllReadyH.cons rfl (fun K hK => ?_) AllReadyH.nil))
          · (try simp only [List.getElem_toArray]); (try simp only [List.getElem_cons_succ]); (try simp only [List.getElem_cons_zero])
            go_simp
            obtain ⟨w121x, hw121⟩ : ∃ x, x = wd106.alloc (.cells #[] 117) := ⟨_, rfl⟩
            obtain ⟨z121, hz121⟩ : ∃ x, x = wd106.heap.size := ⟨_, rfl⟩
            have hn121 : Below wd106.heap.size wd106 w121x := by rw [hw121]; exact below_alloc _ _
            have hb121 : Below w9.heap.size w9 w121x := below_and HB106.out hn121
            have HB121 := Lib.hid hb121
            have HO121 : Hid (w121x.ownsRow w9.heap.size 117 2 (.slice (some ⟨z121, 0, none⟩) 0 0) 0 []) := Lib.hid (by rw [hw121, hz121]; exact World.ownsRow_made wd106 #[] 0 HB106.out.size (by decide) rfl)
            rw [← hw121, ← hz121]
            have HR121 := Lib.hid (HRr.out.kept hb121)
            have HS121 := Lib.hid (HXr.out.kept hb121)
            refine hK.out _ _ ⟨HR121.out.blk.cell (j := 1) rfl, HS121.out.cell (j := 0) rfl, HS121.out.cell (j := 1) rfl, hb121⟩ (fun hS121 => ?_)
            clear hK K hb121 hw121 hz121 hn121 hS106
            (try simp only [Act.put]); (try simp only [List.setIfInBounds_toArray]); (try simp only [List.set_cons_succ]); (try simp only [List.set_cons_zero])
            refine wpAnyH_ready (rs := [8, 10]) (by kernel_rfl) (by simp) ?_
            refine (AllReadyH.cons rfl (fun K hK => ?_) (AllReadyH.cons rfl (fun K hK => ?_) AllReadyH.nil))
            · refine step_app rfl (.tmp 78) (.tmp 84) 78 78 rfl w9.heap.size 117 i0 (.agg #[.string ⟨#[]⟩, .int .i64 0]) 2 24 Try.underlying78 hi0 hz0 hz1 hz2 rfl (.slice (some ⟨z121, 0, none⟩) 0 0) 0 [] (by rfl) HO121.out (.slice (some ⟨g, o, none⟩) k c) k (ecells (S.take k)) (by rfl) (by have := row_first HR121.out.row (m := k) (by have := HJ.out; omega); rw [HL1.out] at this; exact Row.src Try.underlying78 this) (by have := HSL.out; have := HJ.out; unfold maxLen; omega) (by have := HSL.out; have := HJ.out; omega) HB121.out.size ?_
              intro v122 w122x ho122 hg122 hn122 hk122
              have HO122 : Hid (w122x.ownsRow w9.heap.size 117 2 v122 k (ecells (S.take k))) := Lib.hid (by simpa using ho122)
              have hb122 : Below w9.heap.size w9 w122x := HB121.out.trans ((Fr.of_grown hg122).below (by intro y hy; exact own_base HO121.out (Option.mem_toList.1 hy)) HB121.out.size)
              have HB122 := Lib.hid hb122
              have HR122 := Lib.hid (HRr.out.kept hb122)
              have HS122 := Lib.hid (HXr.out.kept hb122)
              refine hK.out _ _ ⟨HR122.out.blk.cell (j := 1) rfl, HS122.out.cell (j := 0) rfl, HS122.out.cell (j := 1) rfl, hb122⟩ (fun hS122 => ?_)
              clear hK K hb122 ho122 hg122 hn122 hk122 hS121
              (try simp only [Act.put]); (try simp only [List.setIfInBounds_toArray]); (try simp only [List.set_cons_succ]); (try simp only [List.set_cons_zero])
              refine wpAnyH_ready (rs := [10]) (by kernel_rfl) (by simp) ?_
              refine (AllReadyH.cons rfl (fun K hK => ?_) AllReadyH.nil)
              (try simp only [List.getElem_toArray]); (try simp only [List.getElem_cons_succ]); (try simp only [List.getElem_cons_zero])
              go_simp
              obtain ⟨w123x, hw123⟩ : ∃ x, x = w122x.alloc (.cells #[.string s, .int .i64 a] 117) := ⟨_, rfl⟩
              obtain ⟨z123, hz123⟩ : ∃ x, x = w122x.heap.size := ⟨_, rfl⟩
              have hn123 : Below w122x.heap.size w122x w123x := by rw [hw123]; exact below_alloc _ _
              have hb123 : Below w9.heap.size w9 w123x := below_and HB122.out hn123
              have HB123 := Lib.hid hb123
              have HY123 : Hid (Blk w123x z123 [.string s, .int .i64 a] 117) := Lib.hid (by rw [hw123, hz123]; exact Blk.made w122x [.string s, .int .i64 a] _)
              have HO123 := Lib.hid (own_fr HO122.out (Fr.of_below hn123 []) (fun _ _ => by simp))
              have HNE123 : Hid (∀ q, (v122 : Value).ownBlock = some q → q ≠ z123) := Lib.hid (fun q hq => by have := own_lt HO122.out hq; omega)
              rw [← hw123, ← hz123]
              have HR123 := Lib.hid (HRr.out.kept hb123)
              have HS123 := Lib.hid (HXr.out.kept hb123)
              refine hK.out _ _ ⟨HR123.out.blk.cell (j := 1) rfl, HS123.out.cell (j := 0) rfl, HS123.out.cell (j := 1) rfl, hb123⟩ (fun hS123 => ?_)
              clear hK K hb123 hw123 hz123 hn123 hS122
              (try simp only [Act.put]); (try simp only [List.setIfInBounds_toArray]); (try simp only [List.set_cons_succ]); (try simp only [List.set_cons_zero])
              refine wpAnyH_ready (rs := [11]) (by kernel_rfl) (by simp) ?_
              refine (AllReadyH.cons rfl (fun K hK => ?_) AllReadyH.nil)
              refine step_app rfl (.tmp 85) (.tmp 87) 78 78 rfl w9.heap.size 117 i0 (.agg #[.string ⟨#[]⟩, .int .i64 0]) 2 24 Try.underlying78 hi0 hz0 hz1 hz2 rfl v122 k (ecells (S.take k)) (by rfl) HO123.out (.slice (some ⟨z123, 0, none⟩) 1 1) 1 [.string s, .int .i64 a] (by rfl) (src_block Try.underlying78 _ z123 #[.string s, .int .i64 a] HY123.out rfl (by simp [Value.oneCell'])) (by have := HSL.out; have := HJ.out; unfold maxLen; omega) (by have := HSL.out; have := HJ.out; omega) HB123.out.size ?_
              intro v124 w124x ho124 hg124 hn124 hk124
              have HO124 : Hid (w124x.ownsRow w9.heap.size 117 2 v124 (k + 1) (ecells (S.take k) ++ [.string s, .int .i64 a])) := Lib.hid (ho124)
              have hb124 : Below w9.heap.size w9 w124x := HB123.out.trans ((Fr.of_grown hg124).below (by intro y hy; exact own_base HO123.out (Option.mem_toList.1 hy)) HB123.out.size)
              have HB124 := Lib.hid hb124
              have HR124 := Lib.hid (HRr.out.kept hb124)
              have HS124 := Lib.hid (HXr.out.kept hb124)
              refine hK.out _ _ ⟨HR124.out.blk.cell (j := 1) rfl, HS124.out.cell (j := 0) rfl, HS124.out.cell (j := 1) rfl, hb124⟩ (fun hS124 => ?_)
              clear hK K hb124 ho124 hg124 hn124 hk124 hS123
              (try simp only [Act.put]); (try simp only [List.setIfInBounds_toArray]); (try simp only [List.set_cons_succ]); (try simp only [List.set_cons_zero])
              refine wpAnyH_ready (rs := [18]) (by kernel_rfl) (by simp) ?_
              refine (AllReadyH.cons rfl (fun K hK => ?_) AllReadyH.nil)
              refine step_app rfl (.tmp 88) (.tmp 94) 78 78 rfl w9.heap.size 117 i0 (.agg #[.string ⟨#[]⟩, .int .i64 0]) 2 24 Try.underlying78 hi0 hz0 hz1 hz2 rfl v124 (k + 1) (ecells (S.take k) ++ [.string s, .int .i64 a]) (by rfl) HO124.out (.slice (if c = k then some ⟨g, o, none⟩ else some ⟨g, o + k * 2, none⟩) (S.length - k) (c - k)) (S.length - k) (ecells (S.drop k)) (by rfl) (by have := row_from HR124.out.row (m := k) (by have := HJ.out; omega); rw [HL2.out] at this; exact Row.src Try.underlying78 this) (by have := HSL.out; have := HJ.out; unfold maxLen; omega) (by have := HSL.out; have := HJ.out; omega) HB124.out.size ?_
              intro v125 w125x ho125 hg125 hn125 hk125
              have HO125 : Hid (w125x.ownsRow w9.heap.size 117 2 v125 (k + 1 + (S.length - k)) (ecells (S.take k) ++ [.string s, .int .i64 a] ++ ecells (S.drop k))) := Lib.hid (ho125)
              have hb125 : Below w9.heap.size w9 w125x := HB124.out.trans ((Fr.of_grown hg125).below (by intro y hy; exact own_base HO124.out (Option.mem_toList.1 hy)) HB124.out.size)
              have HB125 := Lib.hid hb125
              have HR125 := Lib.hid (HRr.out.kept hb125)
              have HS125 := Lib.hid (HXr.out.kept hb125)
              refine hK.out _ _ ⟨HR125.out.blk.cell (j := 1) rfl, HS125.out.cell (j := 0) rfl, HS125.out.cell (j := 1) rfl, hb125⟩ (fun hS125 => ?_)
              clear hK K hb125 ho125 hg125 hn125 hk125 hS124
              (try simp only [Act.put]); (try simp only [List.setIfInBounds_toArray]); (try simp only [List.set_cons_succ]); (try simp only [List.set_cons_zero])
              refine wpAnyH_take (i := 19) (v := ?v126) rfl (by kernel_rfl) (by kernel_rfl) (by kernel_rfl) (fun _ _ _ h => h) (Or.inl ⟨by rfl, ?hy126⟩) (by assumption) ?rest126
              case hy126 => (intro _ hSw; (try dsimp only at hSw); go_simp; (try with_reducible rfl))
              (try simp only [Act.put]); (try simp only [List.setIfInBounds_toArray]); (try simp only [List.set_cons_succ]); (try simp only [List.set_cons_zero])
              refine wpAnyH_take (i := 20) (v := ?v127) rfl (by kernel_rfl) (by kernel_rfl) (by kernel_rfl) (fun _ _ _ h => h) (Or.inl ⟨by rfl, ?hy127⟩) (by assumption) ?rest127
              case hy127 => (intro _ hSw; (try dsimp only at hSw); go_simp; (try with_reducible rfl))
              (try simp only [Act.put]); (try simp only [List.setIfInBounds_toArray]); (try simp only [List.set_cons_succ]); (try simp only [List.set_cons_zero])
              refine wpAnyH_done (by kernel_rfl) ?_ _
              refine LastQ.start rfl ?_
              have d4 := HR125.out.blk.cell (j := 1) rfl
              have f4 := HR125.out.blk.free 1
              clear hS125 hHeld
              have hshv := own_sh HO125.out
              obtain ⟨p8, c8, rfl, -, -⟩ := own_slice HO125.out
              generalize (if c = k then some (⟨g, o, none⟩ : Addr) else some ⟨g, o + k * 2, none⟩) = pp
              go_wp2
              refine NoPanic.normal ?_
              go_wp2
              go_ret
              have e1 : ecells (S.take k) ++ [.string s, .int .i64 a] ++ ecells (S.drop k) = ecells (S.take k ++ (s, a) :: S.drop k) := by rw [ecells_append, ecells_cons, List.append_assoc]; rfl
              have e2 : k + 1 + (S.length - k) = (S.take k ++ (s, a) :: S.drop k).length := by have := HJ.out; rw [List.length_append, List.length_cons, List.length_take, List.length_drop]; omega
              have ho := HO125.out
              have hgz : b < w9.heap.size := HRr.out.blk.lt
              have h5 := own_fr ho ((Fr.refl [b] w125x).set (p := ⟨b, 1, none⟩) (by simp) (.slice p8 (k + 1 + (S.length - k)) c8)) (fun y hy => by have := own_base ho hy; simp; omega)
              rw [e1, e2] at h5
              try rw [← HKJ.out]
              refine ⟨rfl, _, ⟨HR125.out.blk.set 1 _, ?_, fun hq => ?_⟩, ⟨?_, fun y hy => ?_⟩, hshv⟩
              · have h6 := row_of_owns h5 (ecells_one _)
                simpa [e2] using h6
              · have := own_base ho hq; omega
              · exact (HST.out.fr.then (Fr.of_below HB125.out _)).set (p := ⟨b, 1, none⟩) (by simp) _
              · have := own_base ho hy; exact .inr ⟨by have := HST.out.fr.size; omega, by have := own_lt ho hy; simpa [World.setCell] using this⟩
            · (try simp only [List.getElem_toArray]); (try simp only [List.getElem_cons_succ]); (try simp only [List.getElem_cons_zero])
              go_simp
              obtain ⟨w128x, hw128⟩ : ∃ x, x = w121x.alloc (.cells #[.string s, .int .i64 a] 117) := ⟨_, rfl⟩
              obtain ⟨z128, hz128⟩ : ∃ x, x = w121x.heap.size := ⟨_, rfl⟩
              have hn128 : Below w121x.heap.size w121x w128x := by rw [hw128]; exact below_alloc _ _
              have hb128 : Below w9.heap.size w9 w128x := below_and HB121.out hn128
              have HB128 := Lib.hid hb128
              have HY128 : Hid (Blk w128x z128 [.string s, .int .i64 a] 117) := Lib.hid (by rw [hw128, hz128]; exact Blk.made w121x [.string s, .int .i64 a] _)
              have HO128 := Lib.hid (own_fr HO121.out (Fr.of_below hn128 []) (fun _ _ => by simp))
              have HNE128 : Hid (∀ q, ((.slice (some ⟨z121, 0, none⟩) 0 0) : Value).ownBlock = some q → q ≠ z128) := Lib.hid (fun q hq => by have := own_lt HO121.out hq; omega)
              rw [← hw128, ← hz128]
              have HR128 := Lib.hid (HRr.out.kept hb128)
              have HS128 := Lib.hid (HXr.out.kept hb128)
              refine hK.out _ _ ⟨HR128.out.blk.cell (j := 1) rfl, HS128.out.cell (j := 0) rfl, HS128.out.cell (j := 1) rfl, hb128⟩ (fun hS128 => ?_)
              clear hK K hb128 hw128 hz128 hn128 hS121
              (try simp only [Act.put]); (try simp only [List.setIfInBounds_toArray]); (try simp only [List.set_cons_succ]); (try simp only [List.set_cons_zero])
              refine wpAnyH_ready (rs := [8]) (by kernel_rfl) (by simp) ?_
              refine (AllReadyH.cons rfl (fun K hK => ?_) AllReadyH.nil)
              refine step_app rfl (.tmp 78) (.tmp 84) 78 78 rfl w9.heap.size 117 i0 (.agg #[.string ⟨#[]⟩, .int .i64 0]) 2 24 Try.underlying78 hi0 hz0 hz1 hz2 rfl (.slice (some ⟨z121, 0, none⟩) 0 0) 0 [] (by rfl) HO128.out (.slice (some ⟨g, o, none⟩) k c) k (ecells (S.take k)) (by rfl) (by have := row_first HR128.out.row (m := k) (by have := HJ.out; omega); rw [HL1.out] at this; exact Row.src Try.underlying78 this) (by have := HSL.out; have := HJ.out; unfold maxLen; omega) (by have := HSL.out; have := HJ.out; omega) HB128.out.size ?_
              intro v129 w129x ho129 hg129 hn129 hk129
              have HO129 : Hid (w129x.ownsRow w9.heap.size 117 2 v129 k (ecells (S.take k))) := Lib.hid (by simpa using ho129)
              have hb129 : Below w9.heap.size w9 w129x := HB128.out.trans ((Fr.of_grown hg129).below (by intro y hy; exact own_base HO128.out (Option.mem_toList.1 hy)) HB128.out.size)
              have HB129 := Lib.hid hb129
              have HY129 := Lib.hid (HY128.out.fr (Fr.of_grown hg129) (fun hm => HNE128.out _ (Option.mem_toList.1 hm) rfl))
              have HNE129 : Hid (∀ q, v129.ownBlock = some q → q ≠ z128) := Lib.hid (fun q hq => by rcases hk129 q hq with h1 | h1; exact HNE128.out q h1; have := HY128.out.lt; omega)
              have HR129 := Lib.hid (HRr.out.kept hb129)
              have HS129 := Lib.hid (HXr.out.kept hb129)
              refine hK.out _ _ ⟨HR129.out.blk.cell (j := 1) rfl, HS129.out.cell (j := 0) rfl, HS129.out.cell (j := 1) rfl, hb129⟩ (fun hS129 => ?_)
              clear hK K hb129 ho129 hg129 hn129 hk129 hS128
              (try simp only [Act.put]); (try simp only [List.setIfInBounds_toArray]); (try simp only [List.set_cons_succ]); (try simp only [List.set_cons_zero])
              refine wpAnyH_ready (rs := [11]) (by kernel_rfl) (by simp) ?_
              refine (AllReadyH.cons rfl (fun K hK => ?_) AllReadyH.nil)
              refine step_app rfl (.tmp 85) (.tmp 87) 78 78 rfl w9.heap.size 117 i0 (.agg #[.string ⟨#[]⟩, .int .i64 0]) 2 24 Try.underlying78 hi0 hz0 hz1 hz2 rfl v129 k (ecells (S.take k)) (by rfl) HO129.out (.slice (some ⟨z128, 0, none⟩) 1 1) 1 [.string s, .int .i64 a] (by rfl) (src_block Try.underlying78 _ z128 #[.string s, .int .i64 a] HY129.out rfl (by simp [Value.oneCell'])) (by have := HSL.out; have := HJ.out; unfold maxLen; omega) (by have := HSL.out; have := HJ.out; omega) HB129.out.size ?_
              intro v130 w130x ho130 hg130 hn130 hk130
              have HO130 : Hid (w130x.ownsRow w9.heap.size 117 2 v130 (k + 1) (ecells (S.take k) ++ [.string s, .int .i64 a])) := Lib.hid (ho130)
              have hb130 : Below w9.heap.size w9 w130x := HB129.out.trans ((Fr.of_grown hg130).below (by intro y hy; exact own_base HO129.out (Option.mem_toList.1 hy)) HB129.out.size)
              have HB130 := Lib.hid hb130
              have HR130 := Lib.hid (HRr.out.kept hb130)
              have HS130 := Lib.hid (HXr.out.kept hb130)
              refine hK.out _ _ ⟨HR130.out.blk.cell (j := 1) rfl, HS130.out.cell (j := 0) rfl, HS130.out.cell (j := 1) rfl, hb130⟩ (fun hS130 => ?_)
              clear hK K hb130 ho130 hg130 hn130 hk130 hS129
              (try simp only [Act.put]); (try simp only [List.setIfInBounds_toArray]); (try simp only [List.set_cons_succ]); (try simp only [List.set_cons_zero])
              refine wpAnyH_ready (rs := [18]) (by kernel_rfl) (by simp) ?_
              refine (AllReadyH.cons rfl (fun K hK => ?_) AllReadyH.nil)
              refine step_app rfl (.tmp 88) (.tmp 94) 78 78 rfl w9.heap.size 117 i0 (.agg #[.string ⟨#[]⟩, .int .i64 0]) 2 24 Try.underlying78 hi0 hz0 hz1 hz2 rfl v130 (k + 1) (ecells (S.take k) ++ [.string s, .int .i64 a]) (by rfl) HO130.out (.slice (if c = k then some ⟨g, o, none⟩ else some ⟨g, o + k * 2, none⟩) (S.length - k) (c - k)) (S.length - k) (ecells (S.drop k)) (by rfl) (by have := row_from HR130.out.row (m := k) (by have := HJ.out; omega); rw [HL2.out] at this; exact Row.src Try.underlying78 this) (by have := HSL.out; have := HJ.out; unfold maxLen; omega) (by have := HSL.out; have := HJ.out; omega) HB130.out.size ?_
              intro v131 w131x ho131 hg131 hn131 hk131
              have HO131 : Hid (w131x.ownsRow w9.heap.size 117 2 v131 (k + 1 + (S.length - k)) (ecells (S.take k) ++ [.string s, .int .i64 a] ++ ecells (S.drop k))) := Lib.hid (ho131)
              have hb131 : Below w9.heap.size w9 w131x := HB130.out.trans ((Fr.of_grown hg131).below (by intro y hy; exact own_base HO130.out (Option.mem_toList.1 hy)) HB130.out.size)
              have HB131 := Lib.hid hb131
              have HR131 := Lib.hid (HRr.out.kept hb131)
              have HS131 := Lib.hid (HXr.out.kept hb131)
              refine hK.out _ _ ⟨HR131.out.blk.cell (j := 1) rfl, HS131.out.cell (j := 0) rfl, HS131.out.cell (j := 1) rfl, hb131⟩ (fun hS131 => ?_)
              clear hK K hb131 ho131 hg131 hn131 hk131 hS130
              (try simp only [Act.put]); (try simp only [List.setIfInBounds_toArray]); (try simp only [List.set_cons_succ]); (try simp only [List.set_cons_zero])
              refine wpAnyH_take (i := 19) (v := ?v132) rfl (by kernel_rfl) (by kernel_rfl) (by kernel_rfl) (fun _ _ _ h => h) (Or.inl ⟨by rfl, ?hy132⟩) (by assumption) ?rest132
              case hy132 => (intro _ hSw; (try dsimp only at hSw); go_simp; (try with_reducible rfl))
              (try simp only [Act.put]); (try simp only [List.setIfInBounds_toArray]); (try simp only [List.set_cons_succ]); (try simp only [List.set_cons_zero])
              refine wpAnyH_take (i := 20) (v := ?v133) rfl (by kernel_rfl) (by kernel_rfl) (by kernel_rfl) (fun _ _ _ h => h) (Or.inl ⟨by rfl, ?hy133⟩) (by assumption) ?rest133
              case hy133 => (intro _ hSw; (try dsimp only at hSw); go_simp; (try with_reducible rfl))
              (try simp only [Act.put]); (try simp only [List.setIfInBounds_toArray]); (try simp only [List.set_cons_succ]); (try simp only [List.set_cons_zero])
              refine wpAnyH_done (by kernel_rfl) ?_ _
              refine LastQ.start rfl ?_
              have d4 := HR131.out.blk.cell (j := 1) rfl
              have f4 := HR131.out.blk.free 1
              clear hS131 hHeld
              have hshv := own_sh HO131.out
              obtain ⟨p8, c8, rfl, -, -⟩ := own_slice HO131.out
              generalize (if c = k then some (⟨g, o, none⟩ : Addr) else some ⟨g, o + k * 2, none⟩) = pp
              go_wp2
              refine NoPanic.normal ?_
              go_wp2
              go_ret
              have e1 : ecells (S.take k) ++ [.string s, .int .i64 a] ++ ecells (S.drop k) = ecells (S.take k ++ (s, a) :: S.drop k) := by rw [ecells_append, ecells_cons, List.append_assoc]; rfl
              have e2 : k + 1 + (S.length - k) = (S.take k ++ (s, a) :: S.drop k).length := by have := HJ.out; rw [List.length_append, List.length_cons, List.length_take, List.length_drop]; omega
              have ho := HO131.out
              have hgz : b < w9.heap.size := HRr.out.blk.lt
              have h5 := own_fr ho ((Fr.refl [b] w131x).set (p := ⟨b, 1, none⟩) (by simp) (.slice p8 (k + 1 + (S.length - k)) c8)) (fun y hy => by have := own_base ho hy; simp; omega)
              rw [e1, e2] at h5
              try rw [← HKJ.out]
              refine ⟨rfl, _, ⟨HR131.out.blk.set 1 _, ?_, fun hq => ?_⟩, ⟨?_, fun y hy => ?_⟩, hshv⟩
              · have h6 := row_of_owns h5 (ecells_one _)
                simpa [e2] using h6
              · have := own_base ho hq; omega
              · exact (HST.out.fr.then (Fr.of_below HB131.out _)).set (p := ⟨b, 1, none⟩) (by simp) _
              · have := own_base ho hy; exact .inr ⟨by have := HST.out.fr.size; omega, by have := own_lt ho hy; simpa [World.setCell] using this⟩
          · (try simp only [List.getElem_toArray]); (try simp only [List.getElem_cons_succ]); (try simp only [List.getElem_cons_zero])
            go_simp
            obtain ⟨w134x, hw134⟩ : ∃ x, x = wd106.alloc (.cells #[.string s, .int .i64 a] 117) := ⟨_, rfl⟩
            obtain ⟨z134, hz134⟩ : ∃ x, x = wd106.heap.size := ⟨_, rfl⟩
            have hn134 : Below wd106.heap.size wd106 w134x := by rw [hw134]; exact below_alloc _ _
            have hb134 : Below w9.heap.size w9 w134x := below_and HB106.out hn134
            have HB134 := Lib.hid hb134
            have HY134 : Hid (Blk w134x z134 [.string s, .int .i64 a] 117) := Lib.hid (by rw [hw134, hz134]; exact Blk.made wd106 [.string s, .int .i64 a] _)
            rw [← hw134, ← hz134]
            have HR134 := Lib.hid (HRr.out.kept hb134)
            have HS134 := Lib.hid (HXr.out.kept hb134)
            refine hK.out _ _ ⟨HR134.out.blk.cell (j := 1) rfl, HS134.out.cell (j := 0) rfl, HS134.out.cell (j := 1) rfl, hb134⟩ (fun hS134 => ?_)
            clear hK K hb134 hw134 hz134 hn134 hS106
            (try simp only [Act.put]); (try simp only [List.setIfInBounds_toArray]); (try simp only [List.set_cons_succ]); (try simp only [List.set_cons_zero])
            refine wpAnyH_ready (rs := [1]) (by kernel_rfl) (by simp) ?_
            refine (AllReadyH.cons rfl (fun K hK => ?_) AllReadyH.nil)
            (try simp only [List.getElem_toArray]); (try simp only [List.getElem_cons_succ]); (try simp only [List.getElem_cons_zero])
            go_simp
            obtain ⟨w135x, hw135⟩ : ∃ x, x = w134x.alloc (.cells #[] 117) := ⟨_, rfl⟩
            obtain ⟨z135, hz135⟩ : ∃ x, x = w134x.heap.size := ⟨_, rfl⟩
            have hn135 : Below w134x.heap.size w134x w135x := by rw [hw135]; exact below_alloc _ _
            have hb135 : Below w9.heap.size w9 w135x := below_and HB134.out hn135
            have HB135 := Lib.hid hb135
            have HO135 : Hid (w135x.ownsRow w9.heap.size 117 2 (.slice (some ⟨z135, 0, none⟩) 0 0) 0 []) := Lib.hid (by rw [hw135, hz135]; exact World.ownsRow_made w134x #[] 0 HB134.out.size (by decide) rfl)
            have HY135 := Lib.hid (HY134.out.kept hn135)
            have HNE135 : Hid (∀ q, (Value.slice (some ⟨z135, 0, none⟩) 0 0).ownBlock = some q → q ≠ z134) := Lib.hid (fun q hq => by simp [Value.ownBlock] at hq; have := HY134.out.lt; omega)
            rw [← hw135, ← hz135]
            have HR135 := Lib.hid (HRr.out.kept hb135)
            have HS135 := Lib.hid (HXr.out.kept hb135)
            refine hK.out _ _ ⟨HR135.out.blk.cell (j := 1) rfl, HS135.out.cell (j := 0) rfl, HS135.out.cell (j := 1) rfl, hb135⟩ (fun hS135 => ?_)
            clear hK K hb135 hw135 hz135 hn135 hS134
            (try simp only [Act.put]); (try simp only [List.setIfInBounds_toArray]); (try simp only [List.set_cons_succ]); (try simp only [List.set_cons_zero])
            refine wpAnyH_ready (rs := [8]) (by kernel_rfl) (by simp) ?_
            refine (AllReadyH.cons rfl (fun K hK => ?_) AllReadyH.nil)
            refine step_app rfl (.tmp 78) (.tmp 84) 78 78 rfl w9.heap.size 117 i0 (.agg #[.string ⟨#[]⟩, .int .i64 0]) 2 24 Try.underlying78 hi0 hz0 hz1 hz2 rfl (.slice (some ⟨z135, 0, none⟩) 0 0) 0 [] (by rfl) HO135.out (.slice (some ⟨g, o, none⟩) k c) k (ecells (S.take k)) (by rfl) (by have := row_first HR135.out.row (m := k) (by have := HJ.out; omega); rw [HL1.out] at this; exact Row.src Try.underlying78 this) (by have := HSL.out; have := HJ.out; unfold maxLen; omega) (by have := HSL.out; have := HJ.out; omega) HB135.out.size ?_
            intro v136 w136x ho136 hg136 hn136 hk136
            have HO136 : Hid (w136x.ownsRow w9.heap.size 117 2 v136 k (ecells (S.take k))) := Lib.hid (by simpa using ho136)
            have hb136 : Below w9.heap.size w9 w136x := HB135.out.trans ((Fr.of_grown hg136).below (by intro y hy; exact own_base HO135.out (Option.mem_toList.1 hy)) HB135.out.size)
            have HB136 := Lib.hid hb136
            have HY136 := Lib.hid (HY135.out.fr (Fr.of_grown hg136) (fun hm => HNE135.out _ (Option.mem_toList.1 hm) rfl))
            have HNE136 : Hid (∀ q, v136.ownBlock = some q → q ≠ z134) := Lib.hid (fun q hq => by rcases hk136 q hq with h1 | h1; exact HNE135.out q h1; have := HY135.out.lt; omega)
            have HR136 := Lib.hid (HRr.out.kept hb136)
            have HS136 := Lib.hid (HXr.out.kept hb136)
            refine hK.out _ _ ⟨HR136.out.blk.cell (j := 1) rfl, HS136.out.cell (j := 0) rfl, HS136.out.cell (j := 1) rfl, hb136⟩ (fun hS136 => ?_)
            clear hK K hb136 ho136 hg136 hn136 hk136 hS135
            (try simp only [Act.put]); (try simp only [List.setIfInBounds_toArray]); (try simp only [List.set_cons_succ]); (try simp only [List.set_cons_zero])
            refine wpAnyH_ready (rs := [11]) (by kernel_rfl) (by simp) ?_
            refine (AllReadyH.cons rfl (fun K hK => ?_) AllReadyH.nil)
            refine step_app rfl (.tmp 85) (.tmp 87) 78 78 rfl w9.heap.size 117 i0 (.agg #[.string ⟨#[]⟩, .int .i64 0]) 2 24 Try.underlying78 hi0 hz0 hz1 hz2 rfl v136 k (ecells (S.take k)) (by rfl) HO136.out (.slice (some ⟨z134, 0, none⟩) 1 1) 1 [.string s, .int .i64 a] (by rfl) (src_block Try.underlying78 _ z134 #[.string s, .int .i64 a] HY136.out rfl (by simp [Value.oneCell'])) (by have := HSL.out; have := HJ.out; unfold maxLen; omega) (by have := HSL.out; have := HJ.out; omega) HB136.out.size ?_
            intro v137 w137x ho137 hg137 hn137 hk137
            have HO137 : Hid (w137x.ownsRow w9.heap.size 117 2 v137 (k + 1) (ecells (S.take k) ++ [.string s, .int .i64 a])) := Lib.hid (ho137)
            have hb137 : Below w9.heap.size w9 w137x := HB136.out.trans ((Fr.of_grown hg137).below (by intro y hy; exact own_base HO136.out (Option.mem_toList.1 hy)) HB136.out.size)
            have HB137 := Lib.hid hb137
            have HR137 := Lib.hid (HRr.out.kept hb137)
            have HS137 := Lib.hid (HXr.out.kept hb137)
            refine hK.out _ _ ⟨HR137.out.blk.cell (j := 1) rfl, HS137.out.cell (j := 0) rfl, HS137.out.cell (j := 1) rfl, hb137⟩ (fun hS137 => ?_)
            clear hK K hb137 ho137 hg137 hn137 hk137 hS136
            (try simp only [Act.put]); (try simp only [List.setIfInBounds_toArray]); (try simp only [List.set_cons_succ]); (try simp only [List.set_cons_zero])
            refine wpAnyH_ready (rs := [18]) (by kernel_rfl) (by simp) ?_
            refine (AllReadyH.cons rfl (fun K hK => ?_) AllReadyH.nil)
            refine step_app rfl (.tmp 88) (.tmp 94) 78 78 rfl w9.heap.size 117 i0 (.agg #[.string ⟨#[]⟩, .int .i64 0]) 2 24 Try.underlying78 hi0 hz0 hz1 hz2 rfl v137 (k + 1) (ecells (S.take k) ++ [.string s, .int .i64 a]) (by rfl) HO137.out (.slice (if c = k then some ⟨g, o, none⟩ else some ⟨g, o + k * 2, none⟩) (S.length - k) (c - k)) (S.length - k) (ecells (S.drop k)) (by rfl) (by have := row_from HR137.out.row (m := k) (by have := HJ.out; omega); rw [HL2.out] at this; exact Row.src Try.underlying78 this) (by have := HSL.out; have := HJ.out; unfold maxLen; omega) (by have := HSL.out; have := HJ.out; omega) HB137.out.size ?_
            intro v138 w138x ho138 hg138 hn138 hk138
            have HO138 : Hid (w138x.ownsRow w9.heap.size 117 2 v138 (k + 1 + (S.length - k)) (ecells (S.take k) ++ [.string s, .int .i64 a] ++ ecells (S.drop k))) := Lib.hid (ho138)
            have hb138 : Below w9.heap.size w9 w138x := HB137.out.trans ((Fr.of_grown hg138).below (by intro y hy; exact own_base HO137.out (Option.mem_toList.1 hy)) HB137.out.size)
            have HB138 := Lib.hid hb138
            have HR138 := Lib.hid (HRr.out.kept hb138)
            have HS138 := Lib.hid (HXr.out.kept hb138)
            refine hK.out _ _ ⟨HR138.out.blk.cell (j := 1) rfl, HS138.out.cell (j := 0) rfl, HS138.out.cell (j := 1) rfl, hb138⟩ (fun hS138 => ?_)
            clear hK K hb138 ho138 hg138 hn138 hk138 hS137
            (try simp only [Act.put]); (try simp only [List.setIfInBounds_toArray]); (try simp only [List.set_cons_succ]); (try simp only [List.set_cons_zero])
            refine wpAnyH_take (i := 19) (v := ?v139) rfl (by kernel_rfl) (by kernel_rfl) (by kernel_rfl) (fun _ _ _ h => h) (Or.inl ⟨by rfl, ?hy139⟩) (by assumption) ?rest139
            case hy139 => (intro _ hSw; (try dsimp only at hSw); go_simp; (try with_reducible rfl))
            (try simp only [Act.put]); (try simp only [List.setIfInBounds_toArray]); (try simp only [List.set_cons_succ]); (try simp only [List.set_cons_zero])
            refine wpAnyH_take (i := 20) (v := ?v140) rfl (by kernel_rfl) (by kernel_rfl) (by kernel_rfl) (fun _ _ _ h => h) (Or.inl ⟨by rfl, ?hy140⟩) (by assumption) ?rest140
            case hy140 => (intro _ hSw; (try dsimp only at hSw); go_simp; (try with_reducible rfl))
            (try simp only [Act.put]); (try simp only [List.setIfInBounds_toArray]); (try simp only [List.set_cons_succ]); (try simp only [List.set_cons_zero])
            refine wpAnyH_done (by kernel_rfl) ?_ _
            refine LastQ.start rfl ?_
            have d4 := HR138.out.blk.cell (j := 1) rfl
            have f4 := HR138.out.blk.free 1
            clear hS138 hHeld
            have hshv := own_sh HO138.out
            obtain ⟨p8, c8, rfl, -, -⟩ := own_slice HO138.out
            generalize (if c = k then some (⟨g, o, none⟩ : Addr) else some ⟨g, o + k * 2, none⟩) = pp
            go_wp2
            refine NoPanic.normal ?_
            go_wp2
            go_ret
            have e1 : ecells (S.take k) ++ [.string s, .int .i64 a] ++ ecells (S.drop k) = ecells (S.take k ++ (s, a) :: S.drop k) := by rw [ecells_append, ecells_cons, List.append_assoc]; rfl
            have e2 : k + 1 + (S.length - k) = (S.take k ++ (s, a) :: S.drop k).length := by have := HJ.out; rw [List.length_append, List.length_cons, List.length_take, List.length_drop]; omega
            have ho := HO138.out
            have hgz : b < w9.heap.size := HRr.out.blk.lt
            have h5 := own_fr ho ((Fr.refl [b] w138x).set (p := ⟨b, 1, none⟩) (by simp) (.slice p8 (k + 1 + (S.length - k)) c8)) (fun y hy => by have := own_base ho hy; simp; omega)
            rw [e1, e2] at h5
            try rw [← HKJ.out]
            refine ⟨rfl, _, ⟨HR138.out.blk.set 1 _, ?_, fun hq => ?_⟩, ⟨?_, fun y hy => ?_⟩, hshv⟩
            · have h6 := row_of_owns h5 (ecells_one _)
              simpa [e2] using h6
            · have := own_base ho hq; omega
            · exact (HST.out.fr.then (Fr.of_below HB138.out _)).set (p := ⟨b, 1, none⟩) (by simp) _
            · have := own_base ho hy; exact .inr ⟨by have := HST.out.fr.size; omega, by have := own_lt ho hy; simpa [World.setCell] using this⟩
end Go.Proofs.Ytmgcigohfccgeaa
