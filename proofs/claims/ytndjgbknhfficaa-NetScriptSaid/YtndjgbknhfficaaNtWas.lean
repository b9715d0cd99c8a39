/- NtWas. -/
import Derived.Test.YtndjgbknhfficaaNtFlight
import Derived.Test.YtndjgbknhfficaaNtSame
namespace Go.Proofs.Ytndjgbknhfficaa.Nt
open Go.RowKit Go.Proofs.Ytndjgbknhfficaa Go.Proofs.Ytndjgbknhfficaa.So

set_option maxRecDepth 100000 in
set_option maxHeartbeats 2000000 in
theorem in_any {base : Nat} (v : Value) (l : List Int) (x : Int) (w : World) (h : w.ownsRow base 25 1 v l.length (l.map encU)) :
    Calls Try.prog 16 #[v, .int .u64 x] w fun e w' => e = .returned (.bool (l.contains x)) ∧ Below w.heap.size w w' := by
  obtain ⟨p, c, rfl, hc, hm⟩ := own_slice h
  unfold maxLen at hm
  obtain ⟨n, hn⟩ : ∃ n, n = l.length := ⟨_, rfl⟩
  rw [← hn] at h hc ⊢
  have H := Lib.hid h
  have N := Lib.hid hn
  obtain ⟨r, hr⟩ : ∃ r, r = l.contains x := ⟨_, rfl⟩
  rw [← hr]
  have HR := Lib.hid hr
  clear h hn hr
  go_enter Try.func16, Try.ntmps16
  go_upto_region 2 with fail
  go_loopw [5] (fun vi wr => ∃ k : Nat, k ≤ n ∧ vi = .int .i64 k ∧ Hid (Below w.heap.size w wr) ∧ Hid (∀ j (h1 : j < l.length), j < k → l[j] ≠ x)) (fun vi _ => n - (So.intOf vi).toNat)
  case atStart => exact ⟨0, Nat.zero_le _, by go_num, Lib.hid (Below.refl _ _), Lib.hid fun j _ h => by omega⟩
  case round =>
    obtain ⟨k, hk, rfl, HB, he⟩ := hrel
    by_cases hlt : k < n
    rotate_left
    · have hf : Hid (r = false) := Lib.hid (by rw [HR.out]; apply Bool.eq_false_iff.2; intro hh; rw [List.contains_iff_mem] at hh; obtain ⟨j, hj, h9⟩ := List.getElem_of_mem hh; exact he.out j hj (by have := N.out; omega) h9)
      go_wp2
      go_ret
      exact ⟨ret_bool hf.out.symm, HB.out⟩
    obtain ⟨g, rfl⟩ := own_some H.out (by omega)
    have K1 : Hid (k < l.length) := Lib.hid (by rw [← N.out]; exact hlt)
    obtain ⟨y, hy⟩ : ∃ y, y = l[k]'K1.out := ⟨_, rfl⟩
    have e1 : wr.cell? ⟨g, k, none⟩ = some (.int .u64 y) := own_cell (own_fr H.out (Fr.of_below HB.out []) (fun _ _ => by simp)) (j := k) (by rw [List.getElem?_map, List.getElem?_eq_getElem K1.out, ← hy]; rfl)
    have HY := Lib.hid hy
    clear hy
    by_cases hxy : y = x
    · have hd : (y == x) = true := by simp [hxy]
      have hf : Hid (r = true) := Lib.hid (by rw [HR.out, List.contains_iff_mem, ← hxy, HY.out]; exact List.getElem_mem _)
      go_wp2
      go_ret
      exact ⟨ret_bool hf.out.symm, HB.out⟩
    · have hd : (y == x) = false := by simp [hxy]
      have HX := Lib.hid hxy
      clear hxy
      go_wp2
      go_roundw
      case rel =>
        refine ⟨k + 1, by omega, by go_num, HB, Lib.hid fun j g1 hj => ?_⟩
        by_cases hjk : j < k
        · exact he.out j g1 hjk
        · obtain rfl : j = k := by omega
          rw [← HY.out]
          exact HX.out
      case measure => first | (simp [So.intOf]; done) | (simp [So.intOf]; omega)
set_option maxRecDepth 100000 in
set_option maxHeartbeats 2000000 in
theorem was_any {base : Nat} (v : Value) (Ls : List En) (x : Lt) (vx : Value) (w : World) (h : w.ownsRow base 32 5 v Ls.length (rwC enC Ls)) (hL : ∀ e ∈ Ls, Go.Proofs.Ytndjgbknhfficaa.Rd w e.v e.l.bd) (hx : Go.Proofs.Ytndjgbknhfficaa.Rd w vx x.bd) (i : Nat) (hi : i < Ls.length) (hb : ∀ j (hj : j < i), (Ls[j]'(by omega)).l.no ≠ x.fi) (hq : (Ls[i]'hi).l = ⟨x.fi, x.fi, x.sd, x.rc, x.bd⟩) :
    Calls Try.prog 17 #[v, ltV x vx] w fun e w' => e = .returned (.bool true) ∧ Below w.heap.size w w' := by
  obtain ⟨p, c, rfl, hc, hm⟩ := own_slice h
  unfold maxLen at hm
  obtain ⟨px, cx, rfl, -⟩ := hx.parts
  obtain ⟨x0, x1, x2, x3, x4⟩ := x
  dsimp only at hx hb hq ⊢
  obtain ⟨lx, hlx⟩ : ∃ n, n = x4.length := ⟨_, rfl⟩
  have HX := Lib.hid hx
  rw [← hlx] at HX ⊢
  clear hlx
  obtain ⟨g, rfl⟩ := own_some h (by omega)
  obtain ⟨n, hn⟩ : ∃ n, n = Ls.length := ⟨_, rfl⟩
  have H := Lib.hid h
  have HL := Lib.hid hL
  have HI : Hid (i < Ls.length) := Lib.hid hi
  have HBF := Lib.hid hb
  have HQ := Lib.hid hq
  have hin : i < n := by omega
  rw [← hn] at H hc ⊢
  clear h hL hx hb hq hn
  go_enter Try.func17, Try.ntmps17
  go_upto_region 2 with fail
  obtain ⟨X, hX⟩ : ∃ X, X = w.heap.size := ⟨_, rfl⟩
  obtain ⟨w1, hw1⟩ : ∃ w1, w1 = w.alloc (.cells #[.int .u64 x0, .int .u64 x1, .int .i64 x2, .int .i64 x3, .slice px lx cx] 32) := ⟨_, rfl⟩
  have HX1 : Hid (Blk w1 X [.int .u64 x0, .int .u64 x1, .int .i64 x2, .int .i64 x3, .slice px lx cx] 32) := Lib.hid (by rw [hw1, hX]; exact Blk.made w [.int .u64 x0, .int .u64 x1, .int .i64 x2, .int .i64 x3, .slice px lx cx] _)
  have HB1 : Hid (Below w.heap.size w w1) := Lib.hid (by rw [hw1]; exact below_alloc _ _)
  rw [← hw1, ← hX]
  clear hw1 hX
  go_loopw [5] (fun vi wr => ∃ k : Nat, k ≤ i ∧ vi = .int .i64 k ∧ Hid (Below w1.heap.size w1 wr)) (fun vi _ => n - (So.intOf vi).toNat)
  case atStart => exact ⟨0, Nat.zero_le _, by go_num, Lib.hid (Below.refl _ _)⟩
  case round =>
    obtain ⟨k, hk, rfl, HW⟩ := hrel
    have hlt : k < n := by omega
    have HBR := Lib.hid (below_and HB1.out HW.out)
    have K1 : Hid (k < Ls.length) := Lib.hid (by have := HI.out; omega)
    obtain ⟨e, he⟩ : ∃ e, e = Ls[k]'K1.out := ⟨_, rfl⟩
    have HRE : Hid (Go.Proofs.Ytndjgbknhfficaa.Rd wr e.v e.l.bd) := Lib.hid ((HL.out e (by rw [he]; exact List.getElem_mem _)).below HBR.out)
    have hc5 : ∀ j u, j < 5 → (enC e)[j]? = some u → wr.cell? ⟨g, k * 5 + j, none⟩ = some u := fun j u hj hu => own_cell (own_fr H.out (Fr.of_below HBR.out []) (fun _ _ => by simp)) (j := k * 5 + j) (by rw [rwC_at (show ∀ z, (enC z).length = 5 from fun _ => rfl) K1.out hj, ← he]; exact hu)
    have HNE : Hid (k < i → e.l.no ≠ x1) := Lib.hid (fun hh => by rw [he]; exact HBF.out k hh)
    have HEQ : Hid (k = i → e.l = ⟨x1, x1, x2, x3, x4⟩) := Lib.hid (fun hh => by subst hh; rw [he]; exact HQ.out)
    clear he
    obtain ⟨⟨y0, y1, y2, y3, y4⟩, ve⟩ := e
    obtain ⟨py, cy, hve, -⟩ := HRE.out.parts
    dsimp only at hve
    subst hve
    obtain ⟨ly, hly⟩ : ∃ n, n = y4.length := ⟨_, rfl⟩
    simp only [enC, ltC] at hc5
    simp only at HRE
    rw [← hly] at hc5 HRE
    have HLY := Lib.hid hly
    clear hly
    have z0 := hc5 0 _ (by omega) rfl
    have z1 := hc5 1 _ (by omega) rfl
    have z2 := hc5 2 _ (by omega) rfl
    have z3 := hc5 3 _ (by omega) rfl
    have z4 := hc5 4 _ (by omega) rfl
    clear hc5
    simp only [Nat.add_zero] at z0
    go_upto_region 5 with fail
    obtain ⟨Y, hY⟩ : ∃ Y, Y = wr.heap.size := ⟨_, rfl⟩
    obtain ⟨w5, hw5⟩ : ∃ w5, w5 = wr.alloc (.cells #[.int .u64 y0, .int .u64 y1, .int .i64 y2, .int .i64 y3, .slice py ly cy] 32) := ⟨_, rfl⟩
    have HY5 : Hid (Blk w5 Y [.int .u64 y0, .int .u64 y1, .int .i64 y2, .int .i64 y3, .slice py ly cy] 32) := Lib.hid (by rw [hw5, hY]; exact Blk.made wr [.int .u64 y0, .int .u64 y1, .int .i64 y2, .int .i64 y3, .slice py ly cy] _)
    have HW5 : Hid (Below wr.heap.size wr w5) := Lib.hid (by rw [hw5]; exact below_alloc _ _)
    rw [← hw5, ← hY]
    clear hw5 hY z0 z1 z2 z3 z4
    have HX5 := Lib.hid ((HX1.out.kept HW.out).kept HW5.out)
    have xx0 := HX5.out.cell (j := 0) rfl
    have xx1 := HX5.out.cell (j := 1) rfl
    have xx2 := HX5.out.cell (j := 2) rfl
    have xx3 := HX5.out.cell (j := 3) rfl
    have xx4 := HX5.out.cell (j := 4) rfl
    have yy0 := HY5.out.cell (j := 0) rfl
    have yy1 := HY5.out.cell (j := 1) rfl
    have yy2 := HY5.out.cell (j := 2) rfl
    have yy3 := HY5.out.cell (j := 3) rfl
    have yy4 := HY5.out.cell (j := 4) rfl
    by_cases hki : k < i
    · have t0 : (y0 == x1) = false := by have := HNE.out hki; simpa using this
      go_wp2
      go_roundw
      case rel => exact ⟨k + 1, by omega, by go_num, Lib.hid (below_and HW.out HW5.out)⟩
      case measure => first | (simp [So.intOf]; done) | (simp [So.intOf]; omega)
    · have h9 := HEQ.out (by omega)
      simp only [Lt.mk.injEq] at h9
      obtain ⟨rfl, -, rfl, rfl, rfl⟩ := h9
      have hsb := same_any (.slice py ly cy) (.slice px lx cx) y4 y4 w5 (HRE.out.below HW5.out) ((HX.out.below HBR.out).below HW5.out)
      rw [beq_self_eq_true] at hsb
      have HSB := Lib.hid hsb
      clear hsb
      go_wp2_with (go_at_call 38; refine HSB.out.mono ?_; rintro e w6 ⟨rfl, q, rfl⟩)
      go_ret
      exact ⟨rfl, below_and (below_and HBR.out HW5.out) (below_drewN _)⟩
end Go.Proofs.Ytndjgbknhfficaa.Nt
