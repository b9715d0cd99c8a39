/- The book's Over. -/
import Derived.Test.YtmgbailpmcggiaaQCharges
namespace Go.Proofs.Ytmgbailpmcggiaa
open Go.RowKit

theorem overB_eq (G : List Gr) (C : List Ch) (x : Ch) : overB G C x = (!(x.b == 0) && !fitsB (psum (onB x.u x.b) C) (grantA G x.u x.b)) := rfl
theorem filter_take {C : List Ch} {p : Ch → Bool} {k : Nat} (h : k < C.length) : (C.take (k + 1)).filter p = (C.take k).filter p ++ (if p C[k] then [C[k]] else []) := by
  rw [List.take_succ_eq_append_getElem h, List.filter_append]
  congr 1
  cases hp : p C[k]
  · simp [hp]
  · simp [hp]

set_option maxRecDepth 100000 in
set_option maxHeartbeats 4000000 in
theorem over_made (b mg mc : Nat) (G : List Gr) (C : List Ch) (w : World) (h : Bk w b mg mc G C) (hi : ChI C) (hk : ∀ e ∈ C, nmdB e.n = true ∧ askB e.u e.b = true) (hl : C.length ≤ 100000) :
    Calls Try.prog 10 #[ptr b] w fun e w' => ∃ v, e = .returned v ∧ w'.ownsRow w.heap.size 31 7 v (overP G C).length (rwC chC (overP G C)) ∧ Below w.heap.size w w' := by
  obtain ⟨i0, hi0, hz0, hz1, hz2⟩ := info_parts info_ch
  have H := Lib.hid h
  have HK := Lib.hid hk
  have HL := Lib.hid hl
  have HCI := Lib.hid hi
  have hnm : ∀ e ∈ C, 0 < e.n.size := fun e he => by have := (hk e he).1; unfold nmdB at this; simp only [decide_eq_true_eq] at this; omega
  have HNM := Lib.hid hnm
  have hml : maxLen ≤ 9223372036854775807 := by decide
  have HCH := Lib.hid (charges_made b mg mc G C w h hi.rise (fun e he => nmdB_len (hk e he).1) hl)
  clear h hk hi hnm
  go_enter Try.func10, Try.ntmps10
  go_wp2_with (go_at_call 13; refine HCH.out.mono ?_; rintro e w3 ⟨v3, rfl, ho3, hb3⟩; obtain ⟨p3, k3, rfl, hk3, hm3⟩ := own_slice ho3; have HO3 := Lib.hid ho3; have HB3 := Lib.hid hb3; clear ho3 hb3)
  go_loopw [3, 11] (fun o i wr => ∃ k : Nat, k ≤ C.length ∧ i = .int .i64 (k : Int) ∧ Hid (wr.ownsRow w.heap.size 31 7 o ((C.take k).filter (overB G C)).length (rwC chC ((C.take k).filter (overB G C))) ∧ ∀ x, o.ownBlock = some x → w3.heap.size ≤ x) ∧ Hid (Below w3.heap.size w3 wr)) (fun _ i _ => C.length - (intOf i).toNat)
  case atStart => exact ⟨0, Nat.zero_le _, rfl, Lib.hid ⟨World.ownsRow_nil _ _ _ _, fun x h => by simp [Value.ownBlock] at h⟩, Lib.hid (Below.refl _ _)⟩
  case round =>
    obtain ⟨k, hk, rfl, HO, HB⟩ := hrel
    by_cases hlt : k < C.length
    · obtain ⟨g3, cap3, e3, -, -, -⟩ := own_block HO3.out (by omega)
      simp only [Value.slice.injEq] at e3
      obtain ⟨rfl, -, rfl⟩ := e3
      obtain ⟨x, hx⟩ : ∃ x, x = C[k] := ⟨_, rfl⟩
      have hxk := HK.out x (by rw [hx]; exact List.getElem_mem hlt)
      have hnn := askB_name hxk.2
      have HKO : Hid (keyOf Try.prog 60 (kV x.u x.b) = some (.string (kT x.u x.b))) := Lib.hid (keyOf_k (by unfold maxLen; omega) (band_wf hnn.2))
      have hee : ∀ j u, j < 7 → (chC x)[j]? = some u → wr.cell? ⟨g3, k * 7 + j, none⟩ = some u := fun j u hj hu => cell_kept (own_cell HO3.out (by rw [rwC_at chC_len hlt hj, ← hx]; exact hu)) HB.out
      have e0 : wr.cell? ⟨g3, k * 7, none⟩ = some (.string x.n) := hee 0 _ (by omega) rfl
      have e1 := hee 1 _ (by omega) rfl
      have e2 := hee 2 _ (by omega) rfl
      have e3 := hee 3 _ (by omega) rfl
      have e4 := hee 4 _ (by omega) rfl
      have e5 := hee 5 _ (by omega) rfl
      have e6 := hee 6 _ (by omega) rfl
      obtain ⟨y, hy⟩ : ∃ y, y = psum (onB x.u x.b) C := ⟨_, rfl⟩
      obtain ⟨ga, hga⟩ : ∃ ga, ga = grantA G x.u x.b := ⟨_, rfl⟩
      have HHR := Lib.hid (H.out.kept (below_and HB3.out HB.out))
      have HUS : Hid (∀ w', Bk w' b mg mc G C → Calls Try.prog 28 #[ptr b, .string x.u, .int .i64 x.b, .string ⟨#[]⟩] w' fun e w2 => e = .returned (.tuple #[amV y, .bool true]) ∧ Below w'.heap.size w' w2) := Lib.hid (fun w' h' => by rw [hy, ← hit_empty HNM.out]; exact bused_any b mg mc G C x.u ⟨#[]⟩ x.b w' h' HCI.out.rise.apart HCI.out.ok (HCI.out.hit x.u x.b _))
      have HLK : Hid (∀ w', SMap Try.prog 60 w' mg (grM G) → (Instr.lookup 51 (.map (some mg)) (kV x.u x.b) false).run Try.prog w' = .ok (amV ga) w') := Lib.hid (fun w' h' => by rw [hga]; exact grant_look h' HKO.out)
      have HOV : Hid (overB G C x = (!(x.b == 0) && !fitsB y ga)) := Lib.hid (by rw [overB_eq, hy, hga])
      have HT := Lib.hid (filter_take (p := overB G C) hlt)
      rw [← hx] at HT
      have i1 : (k : Int) < (C.length : Int) := by omega
      have i0' : (0 : Int) ≤ (k : Int) := by omega
      clear hx hxk hnn hee hy hga
      go_upto_region 5 with fail
      obtain ⟨w5, hw5⟩ : ∃ w5, w5 = wr.alloc (.cells #[.string x.n, .string x.u, .int .i64 x.b, .int .i64 x.a.c, .int .i64 x.a.r, .int .i64 x.a.d, .int .i64 x.a.p] 31) := ⟨_, rfl⟩
      obtain ⟨X, hX⟩ : ∃ X, X = wr.heap.size := ⟨_, rfl⟩
      have hb5 : Below wr.heap.size wr w5 := by rw [hw5]; exact below_alloc _ _
      have H5 := Lib.hid (HHR.out.kept hb5)
      have X5 : Hid (Blk w5 X (chC x) 31) := Lib.hid (by rw [hw5, hX]; exact Blk.made wr (chC x) _)
      have HB5 := Lib.hid (below_and HB.out hb5)
      have HR5 := Lib.hid hb5
      rw [← hw5, ← hX]
      clear hw5 hX hb5 e0 e1 e2 e3 e4 e5 e6
      have x1 := X5.out.cell (j := 1) rfl
      have x2 := X5.out.cell (j := 2) rfl
      go_upto_region 6 with (go_at_call 28; refine (HUS.out _ H5.out).mono ?_; rintro e w6 ⟨rfl, hb⟩; have hbz := below_and hb (below_alloc w6 (.cells #[.int .i64 y.c, .int .i64 y.r, .int .i64 y.d, .int .i64 y.p] 28)); have HB6 := Lib.hid (below_and HB5.out hbz); have HR6 := Lib.hid (below_and HR5.out hbz); have H6 := Lib.hid (H5.out.kept hbz); have X6 := Lib.hid (X5.out.kept hbz); have Z6 := Lib.hid (Blk.made w6 (amC y) 28); clear hb hbz x1 x2)
      have x1 := Past.blk X6.out (j := 1) rfl
      have x2 := Past.blk X6.out (j := 2) rfl
      have z0 := Past.blk Z6.out (j := 0) rfl
      have z1 := Past.blk Z6.out (j := 1) rfl
      have z2 := Past.blk Z6.out (j := 2) rfl
      have z3 := Past.blk Z6.out (j := 3) rfl
      have g0 := Past.blk H6.out.blk (j := 0) rfl
      have hlk : ∀ s : Past (w6.alloc (.cells #[.int .i64 y.c, .int .i64 y.r, .int .i64 y.d, .int .i64 y.p] 28)), (Instr.lookup 51 (.map (some mg)) (kV x.u x.b) false).run Try.prog s.val = .ok (amV ga) s.val := fun s => HLK.out _ (H6.out.gm.kept s.h)
      have HFT : Hid (∀ w, Calls Try.prog 17 #[amV y, amV ga] w fun e w' => e = .returned (.bool (fitsB y ga)) ∧ Below w.heap.size w w') := Lib.hid (fun w => fits_any y ga w)
      cases hbz : (x.b == 0)
      · have t1 : (x.b != 0) = true := by rw [bne, hbz]; rfl
        cases hfz : fitsB y ga
        · have HP : Hid (overB G C x = true) := Lib.hid (by rw [HOV.out, hbz, hfz]; rfl)
          rw [hfz] at HFT
          refine wp_region_past (by kernel_rfl) (by kernel_rfl) ?_
          repeat (go_big_quiet_step (first | (go_at_call 17; exact past_call (HFT.out _))))
          refine wpQuiet_nil ?_
          intro _ hw'
          obtain ⟨s9, hw''⟩ := hw'
          subst hw''
          obtain ⟨w9, h9, e9⟩ : ∃ w9, Below (w6.alloc (.cells #[.int .i64 y.c, .int .i64 y.r, .int .i64 y.d, .int .i64 y.p] 28)).heap.size (w6.alloc (.cells #[.int .i64 y.c, .int .i64 y.r, .int .i64 y.d, .int .i64 y.p] 28)) w9 ∧ w9 = s9.val := ⟨_, s9.h, rfl⟩
          rw [← e9]
          have HB9 := Lib.hid (below_and HB6.out h9)
          have HBW9 := Lib.hid (below_and HR6.out h9)
          have X9 := Lib.hid (X6.out.kept h9)
          clear h9 e9 x1 x2 z0 z1 z2 z3 g0 hlk
          have y0 := X9.out.cell (j := 0) rfl
          have y1 := X9.out.cell (j := 1) rfl
          have y2 := X9.out.cell (j := 2) rfl
          have y3 := X9.out.cell (j := 3) rfl
          have y4 := X9.out.cell (j := 4) rfl
          have y5 := X9.out.cell (j := 5) rfl
          have y6 := X9.out.cell (j := 6) rfl
          have HOA : Hid ((w9.alloc (.cells #[.string x.n, .string x.u, .int .i64 x.b, .int .i64 x.a.c, .int .i64 x.a.r, .int .i64 x.a.d, .int .i64 x.a.p] 31)).ownsRow w.heap.size 31 7 u3 ((C.take k).filter (overB G C)).length (rwC chC ((C.take k).filter (overB G C)))) := Lib.hid (own_fr HO.out.1 (Fr.of_below (below_and HBW9.out (below_alloc w9 _)) []) (fun _ _ => by simp))
          have HWZ : Hid (w.heap.size ≤ w9.heap.size ∧ w3.heap.size ≤ w9.heap.size) := Lib.hid ⟨(below_and HB3.out HB9.out).size, HB9.out.size⟩
          have HFL : Hid (((C.take k).filter (overB G C)).length ≤ 100000) := Lib.hid (by have h1 := List.length_filter_le (overB G C) (C.take k); have h2 := HL.out; rw [List.length_take] at h1; omega)
          go_wp2_with (at_builtin; go_loud (refine wpList_app5 rfl _ _ 32 32 rfl w.heap.size 31 i0 (chV zC) 7 72 Try.underlying32 hi0 hz0 hz1 hz2 rfl _ _ (rwC chC ((C.take k).filter (overB G C))) rfl HOA.out _ 1 _ rfl (src_block Try.underlying32 _ _ #[_, _, _, _, _, _, _] (heap_alloc_new w9 _) rfl (chC_one x)) (by have := HFL.out; unfold maxLen; omega) (by have := HFL.out; omega) (by have := HWZ.out; simp; omega) ?_; intro o4 w4 ho4 hg4 hn4; have HO4 := Lib.hid ho4; have HN4 : Hid (∀ x, o4.ownBlock = some x → w3.heap.size ≤ x) := Lib.hid (fun y hy => by rcases hn4 y hy with h1 | h1; exact HO.out.2 y h1; have := HWZ.out; simp at h1; omega); have HB4 : Hid (Below w3.heap.size w3 w4) := Lib.hid ((below_and HB9.out (below_alloc w9 _)).trans ((Fr.of_grown hg4).below (by intro y hy; exact HO.out.2 y (Option.mem_toList.1 hy)) (by have := HWZ.out; simp; omega))); clear ho4 hg4 hn4))
          go_roundw
          case rel => exact ⟨k + 1, hlt, by go_num, Lib.hid ⟨by rw [HT.out, HP.out]; simpa [rwC_append, rwC_cons, rwC_nil] using HO4.out, HN4.out⟩, HB4⟩
          case measure => simp [intOf]; omega
        · have HP : Hid (overB G C x = false) := Lib.hid (by rw [HOV.out, hbz, hfz]; rfl)
          rw [hfz] at HFT
          refine wp_region_past (by kernel_rfl) (by kernel_rfl) ?_
          repeat (go_big_quiet_step (first | (go_at_call 17; exact past_call (HFT.out _))))
          refine wpQuiet_nil ?_
          intro _ hw'
          obtain ⟨s9, hw''⟩ := hw'
          subst hw''
          obtain ⟨w9, h9, e9⟩ : ∃ w9, Below (w6.alloc (.cells #[.int .i64 y.c, .int .i64 y.r, .int .i64 y.d, .int .i64 y.p] 28)).heap.size (w6.alloc (.cells #[.int .i64 y.c, .int .i64 y.r, .int .i64 y.d, .int .i64 y.p] 28)) w9 ∧ w9 = s9.val := ⟨_, s9.h, rfl⟩
          rw [← e9]
          have HB9 := Lib.hid (below_and HB6.out h9)
          have HBW9 := Lib.hid (below_and HR6.out h9)
          have X9 := Lib.hid (X6.out.kept h9)
          clear h9 e9 x1 x2 z0 z1 z2 z3 g0 hlk
          go_wp2
          go_roundw
          case rel => exact ⟨k + 1, hlt, by go_num, Lib.hid ⟨by
              have hh := own_fr HO.out.1 (Fr.of_below HBW9.out []) (fun _ _ => by simp)
              rw [HT.out, HP.out]; simpa using hh, HO.out.2⟩, HB9⟩
          case measure => simp [intOf]; omega
      · have t1 : (x.b != 0) = false := by rw [bne, hbz]; rfl
        have HP : Hid (overB G C x = false) := Lib.hid (by rw [HOV.out, hbz]; rfl)
        clear hbz
        skip
        refine wp_region_past (by kernel_rfl) (by kernel_rfl) ?_
        repeat (go_big_quiet_step (first | (go_at_call 17; exact past_call (HFT.out _))))
        refine wpQuiet_nil ?_
        intro _ hw'
        obtain ⟨s9, hw''⟩ := hw'
        subst hw''
        obtain ⟨w9, h9, e9⟩ : ∃ w9, Below (w6.alloc (.cells #[.int .i64 y.c, .int .i64 y.r, .int .i64 y.d, .int .i64 y.p] 28)).heap.size (w6.alloc (.cells #[.int .i64 y.c, .int .i64 y.r, .int .i64 y.d, .int .i64 y.p] 28)) w9 ∧ w9 = s9.val := ⟨_, s9.h, rfl⟩
        rw [← e9]
        have HB9 := Lib.hid (below_and HB6.out h9)
        have HBW9 := Lib.hid (below_and HR6.out h9)
        have X9 := Lib.hid (X6.out.kept h9)
        clear h9 e9 x1 x2 z0 z1 z2 z3 g0 hlk
        go_wp2
        go_roundw
        case rel => exact ⟨k + 1, hlt, by go_num, Lib.hid ⟨by
            have hh := own_fr HO.out.1 (Fr.of_below HBW9.out []) (fun _ _ => by simp)
            rw [HT.out, HP.out]; simpa using hh, HO.out.2⟩, HB9⟩
        case measure => simp [intOf]; omega
    · obtain rfl : k = C.length := by omega
      have HE := HO.out.1
      rw [List.take_length] at HE
      have HEE := Lib.hid HE
      clear HE
      go_wp2
      go_ret
      exact ⟨_, rfl, HEE.out, below_and HB3.out HB.out⟩
end Go.Proofs.Ytmgbailpmcggiaa
