/- Texts of one proof, laid together: QBo, QCmp, RowK, SortF, QGrants, QGrants2, QGrants3, RQPlain, IRows, QSame, Pick, QOff, Open2, Open3, Open4, Open5. No condition of ours. -/
import Derived.Test.YtmgbailpmcggiaaGreatQZ13
import Derived.Shelf.SlSortCmp.WholeK
import Derived.Shelf.SlGeneric
import Derived.Shelf.SlSortCmp.NoneTotal
import Derived.Ground.SlsfProg
import Derived.Test.YtmgbailpmcggiaaGreatProg
import Derived.Sort.OwnSorted
import Derived.Laws.IdiomRangeMap
import Derived.Deep.Matrix
import Derived.Deep.Fields
namespace Go.Proofs.YtmgbailpmcggiaaGreat
open Go.RowKit

/-- a book that the call at hand made, behind n acts -/
structure Bo (w0 w : World) (b mg mc n : Nat) (G : List Gr) (C : List Ch) : Prop where
  bk : Bk w b mg mc G C
  qi : QI n G C
  lo : w0.heap.size ≤ b ∧ w0.heap.size ≤ mg ∧ w0.heap.size ≤ mc
  hb : Below w0.heap.size w0 w
theorem Bo.kept {w0 w w' : World} {b mg mc n : Nat} {G : List Gr} {C : List Ch} (h : Bo w0 w b mg mc n G C) (hb : Below w.heap.size w w') : Bo w0 w' b mg mc n G C := ⟨h.bk.kept hb, h.qi, h.lo, below_and h.hb hb⟩
theorem Bo.fr {w0 w w' : World} {b mg mc n m : Nat} {G G' : List Gr} {C C' : List Ch} (h : Bo w0 w b mg mc n G C) (hk : Bk w' b mg mc G' C') (hq : QI m G' C') (hf : Fr [mg, mc] w w') : Bo w0 w' b mg mc m G' C' :=
  ⟨hk, hq, h.lo, h.hb.trans (hf.below (by intro x hx; simp only [List.mem_cons, List.not_mem_nil, or_false] at hx; rcases hx with rfl | rfl; exact h.lo.2.1; exact h.lo.2.2) h.hb.size)⟩
theorem bo_new (w : World) : Calls Tryz.prog 5 #[] w fun e w' => ∃ b mg mc, e = .returned (ptr b) ∧ Bo w w' b mg mc 0 [] [] :=
  (bnew_ok w).mono fun e w' ⟨b, mg, mc, h1, h2, h3, h4, h5, h6⟩ => ⟨b, mg, mc, h1, h5, QI.nil, ⟨h2, h3, h4⟩, h6⟩

section
variable {w0 w : World} {b mg mc n : Nat} {G : List Gr} {C : List Ch}
theorem bo_grant (h : Bo w0 w b mg mc n G C) (hn : n ≤ 1000) (u : ByteArray) (d : Int) (a : Am) (hd1 : -9223372036854775808 ≤ d) (hd2 : d ≤ 9223372036854775807) {r : Int} {G' : List Gr} (hp : grantP G u d a = (r, G')) :
    Calls Tryz.prog 9 #[ptr b, .string u, .int .i64 d, amV a] w fun e w' => e = .returned (.int .i64 r) ∧ Bo w0 w' b mg mc (n + 1) G' C ∧ Fr [mg, mc] w w' :=
  (bgrant_any b mg mc G C u d a w h.bk hd1 hd2 (by have := h.qi.lenG; unfold maxLen; omega)).mono fun e w' ⟨h1, h2, h3⟩ => by
    have hq := h.qi.grant u d a
    rw [hp] at h1 h2 hq
    exact ⟨h1, h.fr h2 hq h3, h3⟩
theorem bo_charge (h : Bo w0 w b mg mc n G C) (hn : n ≤ 1000) (c : Ch) (hd1 : -9223372036854775808 ≤ c.b) (hd2 : c.b ≤ 9223372036854775807) {r : Int} {C' : List Ch} (hp : chargeP G C c = (r, C')) :
    Calls Tryz.prog 10 #[ptr b, chV c] w fun e w' => e = .returned (.int .i64 r) ∧ Bo w0 w' b mg mc (n + 1) G C' ∧ Fr [mg, mc] w w' :=
  (bcharge_any b mg mc G C c w h.bk h.qi.ch hd1 hd2 (by have := h.qi.lenC; unfold maxLen; omega)).mono fun e w' ⟨h1, h2, h3⟩ => by
    have hq := h.qi.charge c
    rw [hp] at h1 h2 hq
    exact ⟨h1, h.fr h2 hq h3, h3⟩
theorem bo_refund (h : Bo w0 w b mg mc n G C) (s : ByteArray) {r : Int} {C' : List Ch} (hp : refundP C s = (r, C')) :
    Calls Tryz.prog 12 #[ptr b, .string s] w fun e w' => e = .returned (.int .i64 r) ∧ Bo w0 w' b mg mc (n + 1) G C' ∧ Fr [mg, mc] w w' :=
  (brefund_any b mg mc G C s w h.bk).mono fun e w' ⟨h1, h2, h3⟩ => by
    have hq := h.qi.refund s
    rw [hp] at h1 h2 hq
    exact ⟨h1, h.fr h2 hq h3, h3⟩
theorem bo_change (h : Bo w0 w b mg mc n G C) (hn : n ≤ 1000) (s : ByteArray) (a : Am) {r : Int} {C' : List Ch} (hp : changeP G C s a = (r, C')) :
    Calls Tryz.prog 13 #[ptr b, .string s, amV a] w fun e w' => e = .returned (.int .i64 r) ∧ Bo w0 w' b mg mc (n + 1) G C' ∧ Fr [mg, mc] w w' :=
  (bchange_any b mg mc G C s a w h.bk h.qi.ch h.qi.user (by have := h.qi.lenC; unfold maxLen; omega)).mono fun e w' ⟨h1, h2, h3⟩ => by
    have hq := h.qi.change s a
    rw [hp] at h1 h2 hq
    exact ⟨h1, h.fr h2 hq h3, h3⟩
theorem bo_used (h : Bo w0 w b mg mc n G C) (u : ByteArray) (d : Int) (hd1 : -9223372036854775808 ≤ d) (hd2 : d ≤ 9223372036854775807) {a : Am} {r : Int} (hp : usedP C u d = (a, r)) :
    Calls Tryz.prog 18 #[ptr b, .string u, .int .i64 d] w fun e w' => e = .returned (.tuple #[amV a, .int .i64 r]) ∧ Below w.heap.size w w' := by
  have := bUsed_any b mg mc G C u d w h.bk h.qi.ch h.qi.pos hd1 hd2
  rw [hp] at this
  exact this
theorem bo_granted (h : Bo w0 w b mg mc n G C) (u : ByteArray) (d : Int) (hd1 : -9223372036854775808 ≤ d) (hd2 : d ≤ 9223372036854775807) {a : Am} {r : Int} (hp : grantedP G u d = (a, r)) :
    Calls Tryz.prog 20 #[ptr b, .string u, .int .i64 d] w fun e w' => e = .returned (.tuple #[amV a, .int .i64 r]) ∧ Below w.heap.size w w' := by
  have := bgranted_any b mg mc G C u d w h.bk hd1 hd2
  rw [hp] at this
  exact this
theorem bo_left (h : Bo w0 w b mg mc n G C) (u : ByteArray) (d : Int) (hd1 : -9223372036854775808 ≤ d) (hd2 : d ≤ 9223372036854775807) {a : Am} {r : Int} (hp : leftP G C u d = (a, r)) :
    Calls Tryz.prog 22 #[ptr b, .string u, .int .i64 d] w fun e w' => e = .returned (.tuple #[amV a, .int .i64 r]) ∧ Below w.heap.size w w' := by
  have := bleft_any b mg mc G C u d w h.bk h.qi.ch h.qi.pos h.qi.grok hd1 hd2
  rw [hp] at this
  exact this
theorem bo_charges (h : Bo w0 w b mg mc n G C) (hn : n ≤ 1000) :
    Calls Tryz.prog 25 #[ptr b] w fun e w' => ∃ v, e = .returned v ∧ w'.ownsRow w.heap.size 43 7 v C.length (rwC chC C) ∧ Below w.heap.size w w' :=
  charges_made b mg mc G C w h.bk h.qi.ch.rise (fun e he => nmdB_len (h.qi.nm e he).1) (by have := h.qi.lenC; omega)
theorem bo_over (h : Bo w0 w b mg mc n G C) (hn : n ≤ 1000) :
    Calls Tryz.prog 28 #[ptr b] w fun e w' => ∃ v, e = .returned v ∧ w'.ownsRow w.heap.size 43 7 v (overP G C).length (rwC chC (overP G C)) ∧ Below w.heap.size w w' :=
  over_made b mg mc G C w h.bk h.qi.ch h.qi.nm (by have := h.qi.lenC; omega)
end

abbrev sAnn : ByteArray := ⟨#[97, 110, 110]⟩
abbrev g1 : List Gr := [⟨⟨#[97, 110, 110]⟩, 2, ⟨10, 0, 0, 0⟩⟩]
abbrev c1 : List Ch := [⟨⟨#[97]⟩, ⟨#[97, 110, 110]⟩, 2, ⟨6, 0, 0, 0⟩⟩]
theorem k_g1 : grantP [] ⟨#[97, 110, 110]⟩ 2 ⟨10, 0, 0, 0⟩ = (0, g1) := by kernel_rfl
theorem k_c1 : chargeP g1 [] ⟨⟨#[97]⟩, ⟨#[97, 110, 110]⟩, 2, ⟨6, 0, 0, 0⟩⟩ = (0, c1) := by kernel_rfl
theorem k_c2 : chargeP g1 c1 ⟨⟨#[98]⟩, ⟨#[97, 110, 110]⟩, 2, ⟨5, 0, 0, 0⟩⟩ = (12, c1) := by kernel_rfl

set_option maxRecDepth 100000 in
set_option maxHeartbeats 2000000 in
theorem qlives (w : World) : Calls Tryz.prog 4 #[] w fun e w' => e = .returned (.bool true) ∧ Below w.heap.size w w' := by
  go_enter Tryz.func4, Tryz.ntmps4
  go_wp2_with fail
  refine (bo_new _).mono ?_
  rintro e w1 ⟨b, mg, mc, rfl, h1⟩
  have H1 := Lib.hid h1
  clear h1
  go_wp2_with fail
  refine (bo_grant H1.out (by omega) ⟨#[97, 110, 110]⟩ 2 ⟨10, 0, 0, 0⟩ (by omega) (by omega) k_g1).mono ?_
  rintro e w2 ⟨rfl, h2, -⟩
  have H2 := Lib.hid h2
  clear h2
  go_wp2_with fail
  refine (bo_charge H2.out (by omega) ⟨⟨#[97]⟩, ⟨#[97, 110, 110]⟩, 2, ⟨6, 0, 0, 0⟩⟩ (by decide) (by decide) k_c1).mono ?_
  rintro e w3 ⟨rfl, h3, -⟩
  have H3 := Lib.hid h3
  clear h3
  go_wp2_with fail
  refine (bo_charge H3.out (by omega) ⟨⟨#[98]⟩, ⟨#[97, 110, 110]⟩, 2, ⟨5, 0, 0, 0⟩⟩ (by decide) (by decide) k_c2).mono ?_
  rintro e w4 ⟨rfl, h4, -⟩
  have H4 := Lib.hid h4
  clear h4
  go_wp2_with fail
  go_ret
  exact ⟨rfl, H4.out.hb⟩
end Go.Proofs.YtmgbailpmcggiaaGreat
namespace Go.Proofs.YtmgbailpmcggiaaGreat
open Go.RowKit
open Go.Sort (grow)

theorem less_lt (a b : List UInt8) : Op.bytesLess a b = decide (a < b) := by
  have e : ∀ a b : List UInt8, Op.bytesLess a b = bytesBefore a b := by
    intro a
    induction a with
    | nil => intro b; cases b <;> rfl
    | cons x a ih =>
      intro b
      cases b with
      | nil => rfl
      | cons y b =>
        show (x < y || (x == y && Op.bytesLess a b)) = (x < y || (x == y && bytesBefore a b))
        rw [ih b]
  rw [e]
  have h := before_lt a b
  cases hb : bytesBefore a b
  · have : ¬ a < b := fun h2 => by rw [h.2 h2] at hb; cases hb
    simp [this]
  · simp [h.1 hb]

def cmpS (u v : ByteArray) : Int := if u.data.toList < v.data.toList then -1 else if v.data.toList < u.data.toList then 1 else 0
def cmpI (a b : Int) : Int := if a < b then -1 else if b < a then 1 else 0
def cmpG (g h : Gr) : Int := if cmpS g.u h.u = 0 then cmpI g.b h.b else cmpS g.u h.u

theorem nan_str (s : ByteArray) (w : World) : Calls Tryz.prog 69 #[.string s] w fun e w' => e = .returned (.bool false) ∧ w = w' := by
  go_enter Tryz.func69, Tryz.ntmps69
  go_wp2
  go_ret
  exact ⟨ret_bool (by simp), rfl⟩
theorem nan_int (a : Int) (w : World) : Calls Tryz.prog 70 #[.int .i64 a] w fun e w' => e = .returned (.bool false) ∧ w = w' := by
  go_enter Tryz.func70, Tryz.ntmps70
  go_wp2
  go_ret
  exact ⟨ret_bool (by simp), rfl⟩
set_option maxRecDepth 100000 in
theorem compare_str (u v : ByteArray) (w : World) : Calls Tryz.prog 51 #[.string u, .string v] w fun e w' => e = .returned (.int .i64 (cmpS u v)) ∧ w = w' := by
  by_cases h1 : u.data.toList < v.data.toList
  · have HR : Hid (cmpS u v = -1) := Lib.hid (by unfold cmpS; rw [if_pos h1])
    have t1 : Op.bytesLess u.toList v.toList = true := by rw [less_lt, Lib.toList_data, Lib.toList_data]; simpa using h1
    clear h1
    go_enter Tryz.func51, Tryz.ntmps51
    go_wp2_with (go_at_call 69; refine (nan_str _ _).mono ?_; rintro e w' ⟨rfl, rfl⟩)
    go_ret
    exact ⟨ret_int HR.out.symm, rfl⟩
  · have t1 : Op.bytesLess u.toList v.toList = false := by rw [less_lt, Lib.toList_data, Lib.toList_data]; simpa using h1
    by_cases h2 : v.data.toList < u.data.toList
    · have HR : Hid (cmpS u v = 1) := Lib.hid (by unfold cmpS; rw [if_neg h1, if_pos h2])
      have t2 : Op.bytesLess v.toList u.toList = true := by rw [less_lt, Lib.toList_data, Lib.toList_data]; simpa using h2
      have t3 : (u.toList == v.toList) = false := by
        rw [Lib.toList_data, Lib.toList_data]
        simp only [beq_eq_false_iff_ne, ne_eq]
        intro e
        rw [e] at h2
        exact lt_irr _ h2
      clear h1 h2
      go_enter Tryz.func51, Tryz.ntmps51
      go_wp2_with (go_at_call 69; refine (nan_str _ _).mono ?_; rintro e w' ⟨rfl, rfl⟩)
      go_ret
      exact ⟨ret_int HR.out.symm, rfl⟩
    · have HR : Hid (cmpS u v = 0) := Lib.hid (by unfold cmpS; rw [if_neg h1, if_neg h2])
      have t2 : Op.bytesLess v.toList u.toList = false := by rw [less_lt, Lib.toList_data, Lib.toList_data]; simpa using h2
      have t3 : (u.toList == v.toList) = true := by
        rw [Lib.toList_data, Lib.toList_data]
        by_cases e : u.data.toList = v.data.toList
        · simpa using e
        · exact absurd (lt_tot h1 e) h2
      clear h1 h2
      go_enter Tryz.func51, Tryz.ntmps51
      go_wp2_with (go_at_call 69; refine (nan_str _ _).mono ?_; rintro e w' ⟨rfl, rfl⟩)
      go_ret
      exact ⟨ret_int HR.out.symm, rfl⟩
set_option maxRecDepth 100000 in
theorem compare_int (a b : Int) (w : World) : Calls Tryz.prog 52 #[.int .i64 a, .int .i64 b] w fun e w' => e = .returned (.int .i64 (cmpI a b)) ∧ w = w' := by
  by_cases h1 : a < b
  · have HR : Hid (cmpI a b = -1) := Lib.hid (by unfold cmpI; rw [if_pos h1])
    go_enter Tryz.func52, Tryz.ntmps52
    go_wp2_with (go_at_call 70; refine (nan_int _ _).mono ?_; rintro e w' ⟨rfl, rfl⟩)
    go_ret
    exact ⟨ret_int HR.out.symm, rfl⟩
  · have d1 : decide (a < b) = false := by simpa using h1
    by_cases h2 : b < a
    · have HR : Hid (cmpI a b = 1) := Lib.hid (by unfold cmpI; rw [if_neg h1, if_pos h2])
      clear h1
      go_enter Tryz.func52, Tryz.ntmps52
      go_wp2_with (go_at_call 70; refine (nan_int _ _).mono ?_; rintro e w' ⟨rfl, rfl⟩)
      go_ret
      exact ⟨ret_int HR.out.symm, rfl⟩
    · have HR : Hid (cmpI a b = 0) := Lib.hid (by unfold cmpI; rw [if_neg h1, if_neg h2])
      have d2 : decide (b < a) = false := by simpa using h2
      clear h1 h2
      go_enter Tryz.func52, Tryz.ntmps52
      go_wp2_with (go_at_call 70; refine (nan_int _ _).mono ?_; rintro e w' ⟨rfl, rfl⟩)
      go_ret
      exact ⟨ret_int HR.out.symm, rfl⟩
set_option maxRecDepth 100000 in
theorem or_two (g : Nat) (a b : Int) (w : World) (h0 : w.cell? ⟨g, 0, none⟩ = some (.int .i64 a)) (h1 : w.cell? ⟨g, 1, none⟩ = some (.int .i64 b)) :
    Calls Tryz.prog 50 #[.slice (some ⟨g, 0, none⟩) 2 2] w fun e w' => e = .returned (.int .i64 (if a = 0 then b else a)) ∧ w = w' := by
  go_enter Tryz.func50, Tryz.ntmps50
  go_wp2
  go_loop [8] (fun i => ∃ k : Nat, k ≤ 2 ∧ i = .int .i64 (k : Int) ∧ Hid ((1 ≤ k → a = 0) ∧ (2 ≤ k → b = 0))) (fun i => 2 - (intOf i).toNat)
  case atStart => exact ⟨0, Nat.zero_le _, rfl, Lib.hid ⟨fun h => by omega, fun h => by omega⟩⟩
  case round =>
    obtain ⟨k, hk, rfl, HN⟩ := hrel
    obtain rfl | rfl | rfl : k = 0 ∨ k = 1 ∨ k = 2 := by omega
    · by_cases ha : a = 0
      · subst ha
        go_wp2
        go_round
        case rel => exact ⟨1, by omega, by go_num, Lib.hid (by constructor <;> intro h <;> first | rfl | trivial | omega)⟩
        case measure => simp [intOf]
      · have HA := Lib.hid ha
        have t : (a != 0) = true := by simpa using ha
        clear ha
        go_wp2
        go_ret
        exact ⟨ret_int (by have := HA.out; simp [this]), rfl⟩
    · have ha := HN.out.1 (by omega)
      subst ha
      by_cases hb : b = 0
      · subst hb
        go_wp2
        go_round
        case rel => exact ⟨2, by omega, by go_num, Lib.hid (by constructor <;> intro h <;> first | rfl | trivial | omega)⟩
        case measure => simp [intOf]
      · have t : (b != 0) = true := by simpa using hb
        clear hb
        go_wp2
        go_ret
        exact ⟨ret_int (by simp), rfl⟩
    · have ha := HN.out.1 (by omega)
      have hb := HN.out.2 (by omega)
      subst ha hb
      go_wp2
      go_ret
      exact ⟨ret_int (by simp), rfl⟩
theorem grow_two (w : World) (a b : Obj) : (w.alloc a).alloc b = grow w #[a, b] := by
  have h : w.heap ++ #[a, b] = (w.heap.push a).push b := by apply Array.ext'; simp
  unfold grow
  rw [h]
  rfl
theorem grow_three (w : World) (a b c : Obj) : (grow w #[a, b]).drew.alloc c = grow (w.drewN 1) #[a, b, c] := by
  have h : (w.drewN 1).heap ++ #[a, b, c] = (w.heap ++ #[a, b]).push c := by
    show w.heap ++ #[a, b, c] = _
    apply Array.ext'; simp
  unfold grow
  rw [h]
  rfl
set_option maxRecDepth 100000 in
set_option maxHeartbeats 2000000 in
theorem gcmp_any (x y : Gr) (w : World) : Calls Tryz.prog 49 #[grV x, grV y] w fun e w' => e = .returned (.int .i64 (cmpG x y)) ∧ ∃ q os, w' = grow (w.drewN q) os := by
  obtain ⟨w3, hw3⟩ : ∃ w3, w3 = (w.alloc (.cells #[.string x.u, .int .i64 x.b, .int .i64 x.a.c, .int .i64 x.a.r, .int .i64 x.a.d, .int .i64 x.a.p] 66)).alloc (.cells #[.string y.u, .int .i64 y.b, .int .i64 y.a.c, .int .i64 y.a.r, .int .i64 y.a.d, .int .i64 y.a.p] 66) := ⟨_, rfl⟩
  obtain ⟨B, hB⟩ : ∃ B, B = w.heap.size := ⟨_, rfl⟩
  have B0 : Hid (Blk w3 B (grC x) 66) := Lib.hid (by rw [hw3, hB]; exact (Blk.made w (grC x) _).alloc _)
  have B1 : Hid (Blk w3 (B + 1) (grC y) 66) := Lib.hid (by
    have := Blk.made (w.alloc (.cells #[.string x.u, .int .i64 x.b, .int .i64 x.a.c, .int .i64 x.a.r, .int .i64 x.a.d, .int .i64 x.a.p] 66)) (grC y) 66
    rw [hw3, hB]; simpa using this)
  have HW : Hid (w3 = grow w #[.cells #[.string x.u, .int .i64 x.b, .int .i64 x.a.c, .int .i64 x.a.r, .int .i64 x.a.d, .int .i64 x.a.p] 66, .cells #[.string y.u, .int .i64 y.b, .int .i64 y.a.c, .int .i64 y.a.r, .int .i64 y.a.d, .int .i64 y.a.p] 66]) := Lib.hid (by rw [hw3, grow_two])
  have HR : Hid (cmpG x y = if cmpS x.u y.u = 0 then cmpI x.b y.b else cmpS x.u y.u) := Lib.hid rfl
  have HS : Hid (∀ w', Below w3.heap.size w3 w' → w'.cell? ⟨B, 0, none⟩ = some (.string x.u) ∧ w'.cell? ⟨B, 1, none⟩ = some (.int .i64 x.b) ∧ w'.cell? ⟨B + 1, 0, none⟩ = some (.string y.u) ∧ w'.cell? ⟨B + 1, 1, none⟩ = some (.int .i64 y.b)) := Lib.hid (fun w' hb => ⟨(B0.out.kept hb).cell (j := 0) rfl, (B0.out.kept hb).cell (j := 1) rfl, (B1.out.kept hb).cell (j := 0) rfl, (B1.out.kept hb).cell (j := 1) rfl⟩)
  obtain ⟨a, ha⟩ : ∃ a, a = cmpS x.u y.u := ⟨_, rfl⟩
  obtain ⟨b, hb⟩ : ∃ b, b = cmpI x.b y.b := ⟨_, rfl⟩
  have HC1 : Hid (∀ w, Calls Tryz.prog 51 #[.string x.u, .string y.u] w fun e w' => e = .returned (.int .i64 a) ∧ w = w') := Lib.hid (fun w => by rw [ha]; exact compare_str _ _ w)
  have HC2 : Hid (∀ w, Calls Tryz.prog 52 #[.int .i64 x.b, .int .i64 y.b] w fun e w' => e = .returned (.int .i64 b) ∧ w = w') := Lib.hid (fun w => by rw [hb]; exact compare_int _ _ w)
  rw [← ha, ← hb] at HR
  obtain ⟨c, hc⟩ : ∃ c, c = if a = 0 then b else a := ⟨_, rfl⟩
  have HOR : Hid (∀ g w, w.cell? ⟨g, 0, none⟩ = some (.int .i64 a) → w.cell? ⟨g, 1, none⟩ = some (.int .i64 b) → Calls Tryz.prog 50 #[.slice (some ⟨g, 0, none⟩) 2 2] w fun e w' => e = .returned (.int .i64 c) ∧ w = w') := Lib.hid (fun g w h0 h1 => by rw [hc]; exact or_two g a b w h0 h1)
  rw [← hc] at HR
  clear ha hb hc
  go_enter Tryz.func49, Tryz.ntmps49
  go_upto_region 1 with fail
  rw [← hw3, ← hB]
  clear hw3 hB
  go_region_held3 (fun w' => w'.cell? ⟨B, 0, none⟩ = some (.string x.u) ∧ w'.cell? ⟨B, 1, none⟩ = some (.int .i64 x.b) ∧ w'.cell? ⟨B + 1, 0, none⟩ = some (.string y.u) ∧ w'.cell? ⟨B + 1, 1, none⟩ = some (.int .i64 y.b))
    (refine HS.out _ ?_ <;> (repeat (first | with_reducible exact Below.refl _ _ | with_reducible (apply bl_drew) | with_reducible (refine below_and ?_ (below_alloc _ _)))))
    (first
      | (go_at_call 51; refine (HC1.out _).mono ?_; rintro e w' ⟨rfl, rfl⟩)
      | (go_at_call 52; refine (HC2.out _).mono ?_; rintro e w' ⟨rfl, rfl⟩)
      | (go_at_call 50; refine (HOR.out _ _ (by first | exact (Blk.made _ [.int .i64 a, .int .i64 b] _).cell (j := 0) rfl | rfl) (by first | exact (Blk.made _ [.int .i64 a, .int .i64 b] _).cell (j := 1) rfl | rfl)).mono ?_; rintro e w' ⟨rfl, rfl⟩))
  all_goals go_wp2
  all_goals go_ret
  all_goals refine ⟨ret_int HR.out.symm, 1, #[.cells #[.string x.u, .int .i64 x.b, .int .i64 x.a.c, .int .i64 x.a.r, .int .i64 x.a.d, .int .i64 x.a.p] 66, .cells #[.string y.u, .int .i64 y.b, .int .i64 y.a.c, .int .i64 y.a.r, .int .i64 y.a.d, .int .i64 y.a.p] 66, .cells #[.int .i64 a, .int .i64 b] 3], ?_⟩
  all_goals rw [HW.out]
  all_goals exact grow_three w _ _ _
end Go.Proofs.YtmgbailpmcggiaaGreat
namespace Go.Proofs.YtmgbailpmcggiaaGreat
open Go.RowKit Go.Sort Go.Shelf

section
variable {α : Type} [Inhabited α] {enc : α → List Value} {k : Nat}
theorem flatK_list (hk : ∀ x, (enc x).length = k) (h0 : 0 < k) (l : List α) : (flatK enc k l.toArray).toList = rwC enc l := by
  apply List.ext_getElem?
  intro t
  have hs : (flatK enc k l.toArray).size = l.length * k := by simp
  by_cases ht : t < l.length * k
  · have hi : t / k < l.length := (Nat.div_lt_iff_lt_mul h0).2 ht
    have hj : t % k < k := Nat.mod_lt _ h0
    have h1 := get_flatK enc k l.toArray t (by simpa using ht)
    rw [Array.getElem?_toList, Array.getElem?_eq_getElem (by rw [hs]; exact ht)]
    rw [getElem!_pos _ t (by rw [hs]; exact ht)] at h1
    rw [h1]
    have h2 := rwC_at hk (L := l) hi hj
    have e : t / k * k + t % k = t := by rw [Nat.mul_comm]; exact Nat.div_add_mod t k
    rw [e] at h2
    rw [h2]
    have h3 : (l.toArray)[t / k]! = l[t / k] := by rw [getElem!_pos l.toArray (t / k) (by simpa using hi)]; simp
    rw [h3]
    have h4 : t % k < (enc l[t / k]).length := by rw [hk]; exact hj
    rw [List.getElem?_eq_getElem h4, getElem!_pos (enc l[t / k]) (t % k) h4]
  · rw [List.getElem?_eq_none (by rw [Array.length_toList, hs]; omega), List.getElem?_eq_none (by rw [rwC_len hk]; omega)]
theorem holdsK_of {w : World} {g : Nat} {cur : Array Value} {e : TypeId} {l : List α} (hk : ∀ x, (enc x).length = k) (h0 : 0 < k) (hb : w.heap[g]? = some (.cells cur e (0, 0))) (ht : cur.toList.take (l.length * k) = rwC enc l) : HoldsK enc k w g 0 l.toArray := by
  intro j hj
  have hj' : j < l.length * k := by simpa using hj
  refine ⟨?_, by simp [World.frozen?, hb]⟩
  have h1 : (cur.toList.take (l.length * k))[j]? = (rwC enc l)[j]? := by rw [ht]
  rw [List.getElem?_take_of_lt hj', ← flatK_list hk h0, Array.getElem?_toList, Array.getElem?_toList] at h1
  simp only [World.cell?, hb, Nat.zero_add]
  simp only [Option.isSome_none, Bool.false_eq_true, if_false]
  rw [h1, Array.getElem?_eq_getElem hj, getElem!_pos _ j hj]
  rfl
theorem heap_sortedK {w : World} {g n : Nat} {os : Array Obj} {cur : Array Value} {e : TypeId} {fr : Nat × Nat} (d : Array α) (hb : w.heap[g]? = some (.cells cur e fr)) :
    (sortWorldK enc k w g 0 n d os).heap[g]? = some (.cells (putCells id 0 (flatK enc k d) cur) e fr) := by
  have hg : g < w.heap.size := (Array.getElem?_eq_some_iff.1 hb).1
  unfold sortWorldK putRowK
  rw [heap_grow_old _ _ (by simpa using hg)]
  simp [putRow, mapBlock, Sort.ahead, Array.getElem?_modify, hb]
  rfl
theorem grownBy_sortedK {w : World} {g n : Nat} {os : Array Obj} (d : Array α) : w.grownBy (sortWorldK enc k w g 0 n d os) (some g) := by
  unfold sortWorldK putRowK
  refine ⟨rfl, rfl, rfl, by simp, fun j hj hne => ?_⟩
  rw [heap_grow_old _ _ (by simpa using hj)]
  have : g ≠ j := fun e => hne (by rw [e])
  simp [putRow, mapBlock, Sort.ahead, Array.getElem?_modify, this]
theorem take_putCellsK (cur : Array Value) (F : Array Value) (h : F.size ≤ cur.size) : (putCells id 0 F cur).toList.take F.size = F.toList := by
  apply List.ext_getElem?
  intro j
  by_cases hj : j < F.size
  · rw [List.getElem?_take_of_lt hj, Array.getElem?_toList]
    simp [putCells, hj, show j < cur.size by omega]
  · rw [List.getElem?_take_eq_none (by omega), List.getElem?_eq_none (by simp; omega)]
theorem ownsRow_sortedK {w : World} {base g cap n m : Nat} {e : TypeId} {os : Array Obj} {cur : Array Value} {l : List α} (hk : ∀ x, (enc x).length = k) (h0 : 0 < k) (hl : l.length = m) (hbase : base ≤ g) (hb : w.heap[g]? = some (.cells cur e (0, 0)))
    (h1 : m ≤ cap) (h2 : cap ≤ maxLen) (h3 : cur.size = cap * k) :
    (sortWorldK enc k w g 0 n l.toArray os).ownsRow base e k (.slice (some ⟨g, 0, none⟩) m cap) m (rwC enc l) := by
  subst hl
  refine ⟨rwC_len hk l, .inr ⟨g, cap, _, rfl, hbase, heap_sortedK _ hb, h1, h2, by simp [putCells, h3], ?_⟩⟩
  have h4 : (flatK enc k l.toArray).size = l.length * k := by simp
  rw [← h4, ← flatK_list hk h0]
  exact take_putCellsK cur _ (by rw [h4, h3]; exact Nat.mul_le_mul_right _ h1)
end
end Go.Proofs.YtmgbailpmcggiaaGreat
namespace Go.Proofs
open Go.Shelf
def Tryz.sortf48_ren : Go.Shelf.Ren := ⟨fun | 6 => 48 | 15 => 68 | 14 => 67 | 28 => 84 | 29 => 85 | 20 => 76 | 21 => 77 | 22 => 78 | 23 => 79 | 24 => 80 | 25 => 81 | 26 => 82 | 27 => 83 | 46 => 95 | 47 => 96 | 48 => 97 | 49 => 98 | 50 => 99 | 57 => 103 | n => n, fun | 22 => 27 | 24 => 66 | 25 => 82 | 3 => 3 | 39 => 98 | 0 => 0 | 53 => 115 | 55 => 117 | 4 => 4 | 46 => 108 | 45 => 107 | 50 => 112 | 5 => 5 | 9 => 9 | 66 => 124 | 70 => 128 | 76 => 132 | 77 => 133 | n => n, fun | n => n⟩
theorem Tryz.sortf48 : Go.Proofs.SlLaysF0.n6 Tryz.prog Tryz.sortf48_ren := {
  mixed := by kernel_rfl
  f6 := ⟨Tryz.f48.name, by decide, Tryz.func48.trans (congrArg some (by kernel_rfl))⟩
  f14 := ⟨Tryz.f67.name, by decide, Tryz.func67.trans (congrArg some (by kernel_rfl))⟩
  f15 := Tryz.func68.trans (congrArg some (by kernel_rfl))
  f20 := ⟨Tryz.f76.name, by decide, Tryz.func76.trans (congrArg some (by kernel_rfl))⟩
  f21 := ⟨Tryz.f77.name, by decide, Tryz.func77.trans (congrArg some (by kernel_rfl))⟩
  f22 := ⟨Tryz.f78.name, by decide, Tryz.func78.trans (congrArg some (by kernel_rfl))⟩
  f23 := ⟨Tryz.f79.name, by decide, Tryz.func79.trans (congrArg some (by kernel_rfl))⟩
  f24 := ⟨Tryz.f80.name, by decide, Tryz.func80.trans (congrArg some (by kernel_rfl))⟩
  f25 := ⟨Tryz.f81.name, by decide, Tryz.func81.trans (congrArg some (by kernel_rfl))⟩
  f26 := ⟨Tryz.f82.name, by decide, Tryz.func82.trans (congrArg some (by kernel_rfl))⟩
  f27 := ⟨Tryz.f83.name, by decide, Tryz.func83.trans (congrArg some (by kernel_rfl))⟩
  f28 := Tryz.func84.trans (congrArg some (by kernel_rfl))
  f29 := Tryz.func85.trans (congrArg some (by kernel_rfl))
  f46 := ⟨Tryz.f95.name, by decide, Tryz.func95.trans (congrArg some (by kernel_rfl))⟩
  f47 := Tryz.func96.trans (congrArg some (by kernel_rfl))
  f48 := Tryz.func97.trans (congrArg some (by kernel_rfl))
  f49 := ⟨Tryz.f98.name, by decide, Tryz.func98.trans (congrArg some (by kernel_rfl))⟩
  f50 := ⟨Tryz.f99.name, by decide, Tryz.func99.trans (congrArg some (by kernel_rfl))⟩
  f57 := ⟨Tryz.f103.name, by decide, Tryz.func103.trans (congrArg some (by kernel_rfl))⟩
  t0 := Tryz.underlying0
  a0 := Tryz.isAgg0
  z0 := Tryz.sizeOf0
  v0 := Tryz.zeroValue0
  t3 := Tryz.underlying3
  a3 := Tryz.isAgg3
  z3 := Tryz.sizeOf3
  v3 := Tryz.zeroValue3
  t4 := Tryz.underlying4
  a4 := Tryz.isAgg4
  z4 := Tryz.sizeOf4
  v4 := Tryz.zeroValue4
  t5 := Tryz.underlying5
  a5 := Tryz.isAgg5
  z5 := Tryz.sizeOf5
  v5 := Tryz.zeroValue5
  t9 := Tryz.underlying9
  a9 := Tryz.isAgg9
  z9 := Tryz.sizeOf9
  v9 := Tryz.zeroValue9
  t22 := Tryz.underlying27
  a22 := Tryz.isAgg27
  z22 := Tryz.sizeOf27
  v22 := Tryz.zeroValue27
  t25 := Tryz.underlying82
  a25 := Tryz.isAgg82
  z25 := Tryz.sizeOf82
  v25 := Tryz.zeroValue82
  t39 := Tryz.underlying98
  a39 := Tryz.isAgg98
  z39 := Tryz.sizeOf98
  v39 := Tryz.zeroValue98
  t45 := Tryz.underlying107
  a45 := Tryz.isAgg107
  z45 := Tryz.sizeOf107
  v45 := Tryz.zeroValue107
  t46 := Tryz.underlying108
  a46 := Tryz.isAgg108
  z46 := Tryz.sizeOf108
  v46 := Tryz.zeroValue108
  t50 := Tryz.underlying112
  a50 := Tryz.isAgg112
  z50 := Tryz.sizeOf112
  v50 := Tryz.zeroValue112
  t53 := Tryz.underlying115
  a53 := Tryz.isAgg115
  z53 := Tryz.sizeOf115
  v53 := Tryz.zeroValue115
  t55 := Tryz.underlying117
  a55 := Tryz.isAgg117
  z55 := Tryz.sizeOf117
  v55 := Tryz.zeroValue117
  t66 := Tryz.underlying124
  a66 := Tryz.isAgg124
  z66 := Tryz.sizeOf124
  v66 := Tryz.zeroValue124
  t70 := Tryz.underlying128
  a70 := Tryz.isAgg128
  z70 := Tryz.sizeOf128
  v70 := Tryz.zeroValue128
  t76 := Tryz.underlying132
  a76 := Tryz.isAgg132
  z76 := Tryz.sizeOf132
  v76 := Tryz.zeroValue132
  t77 := Tryz.underlying133
  a77 := Tryz.isAgg133
  z77 := Tryz.sizeOf133
  v77 := Tryz.zeroValue133 }
end Go.Proofs
namespace Go.Proofs.YtmgbailpmcggiaaGreat
open Go.RowKit

instance : Inhabited Gr := ⟨⟨⟨#[]⟩, 0, ⟨0, 0, 0, 0⟩⟩⟩
/-- a grant is ahead of another one -/
def glt (x y : Gr) : Prop := x.u.data.toList < y.u.data.toList ∨ (x.u.data.toList = y.u.data.toList ∧ x.b < y.b)
theorem cmpG_lt (x y : Gr) : cmpG x y < 0 ↔ glt x y := by
  by_cases h1 : x.u.data.toList < y.u.data.toList
  · have c : cmpS x.u y.u = -1 := by unfold cmpS; rw [if_pos h1]
    unfold cmpG
    rw [c, if_neg (by omega)]
    exact ⟨fun _ => .inl h1, fun _ => by omega⟩
  · by_cases h2 : y.u.data.toList < x.u.data.toList
    · have c : cmpS x.u y.u = 1 := by unfold cmpS; rw [if_neg h1, if_pos h2]
      have h3 : ¬ x.u.data.toList = y.u.data.toList := fun e => lt_irr _ (e ▸ h2)
      unfold cmpG
      rw [c, if_neg (by omega)]
      refine ⟨fun h => by omega, fun h => ?_⟩
      rcases h with h | ⟨h, -⟩
      · exact absurd h h1
      · exact absurd h h3
    · have c : cmpS x.u y.u = 0 := by unfold cmpS; rw [if_neg h1, if_neg h2]
      have h3 : x.u.data.toList = y.u.data.toList := by
        by_cases e : x.u.data.toList = y.u.data.toList
        · exact e
        · exact absurd (lt_tot h1 e) h2
      unfold cmpG
      rw [if_pos c]
      unfold cmpI
      have hr : glt x y ↔ x.b < y.b := ⟨fun h => by
        rcases h with h | ⟨-, h⟩
        · exact absurd h h1
        · exact h, fun h => .inr ⟨h3, h⟩⟩
      rw [hr]
      by_cases h4 : x.b < y.b
      · rw [if_pos h4]; exact ⟨fun _ => h4, fun _ => by omega⟩
      · rw [if_neg h4]
        refine ⟨fun h => ?_, fun h => absurd h h4⟩
        split at h <;> omega
theorem glt_irr (x : Gr) : ¬ glt x x := by
  rintro (h | ⟨-, h⟩)
  · exact lt_irr _ h
  · omega
theorem glt_tr {x y z : Gr} (h : glt x y) (k : glt y z) : glt x z := by
  rcases h with h | ⟨h1, h2⟩
  · rcases k with k | ⟨k1, k2⟩
    · exact .inl (lt_tr h k)
    · exact .inl (k1 ▸ h)
  · rcases k with k | ⟨k1, k2⟩
    · exact .inl (h1 ▸ k)
    · exact .inr ⟨h1.trans k1, by omega⟩
theorem glt_tot {x y : Gr} (h : ¬ glt x y) (hne : ¬ (x.u.data.toList = y.u.data.toList ∧ x.b = y.b)) : glt y x := by
  unfold glt at *
  by_cases e : x.u.data.toList = y.u.data.toList
  · refine .inr ⟨e.symm, ?_⟩
    have h1 : ¬ x.b < y.b := fun h2 => h (.inr ⟨e, h2⟩)
    have h3 : ¬ x.b = y.b := fun h2 => hne ⟨e, h2⟩
    omega
  · exact .inl (lt_tot (fun h2 => h (.inl h2)) e)
theorem gswo : Go.Sort.SWO (ltOf cmpG) := by
  have hl : ∀ x y, ltOf cmpG x y = true ↔ glt x y := fun x y => by unfold ltOf; rw [decide_eq_true_eq, cmpG_lt]
  refine ⟨fun x => ?_, fun x y z h k => ?_, fun x y z h k => ?_⟩
  · rw [← Bool.not_eq_true, hl]; exact glt_irr x
  · rw [hl] at *; exact glt_tr h k
  · rw [← Bool.not_eq_true, hl] at *
    intro hz
    by_cases e : x.u.data.toList = y.u.data.toList ∧ x.b = y.b
    · refine k ?_
      unfold glt at *
      rw [← e.1, ← e.2]; exact hz
    · by_cases e2 : y.u.data.toList = z.u.data.toList ∧ y.b = z.b
      · refine h ?_
        unfold glt at *
        rw [e2.1, e2.2]; exact hz
      · exact glt_irr _ (glt_tr hz (glt_tr (glt_tot k e2) (glt_tot h e)))

/-- grants are told apart by user and band -/
def GApart (G : List Gr) : Prop := G.Pairwise fun x y => ¬ (x.u.data.toList = y.u.data.toList ∧ x.b = y.b)
theorem gapart_of {G : List Gr} (h : KApart Gr.key G) : GApart G := h.imp fun {x y} k e => k (by
  unfold Gr.key kT
  rw [e.1, e.2])
theorem sorted_glt {S : List Gr} (ha : GApart S) (hs : Go.Sort.SortedIn (ltOf cmpG) 0 S.length S.toArray) : S.Pairwise glt := by
  rw [List.pairwise_iff_getElem]
  intro i j hi hj hij
  have h1 := hs i j (Nat.zero_le _) hij hj
  have h2 : (S.toArray)[i]! = S[i] := by rw [getElem!_pos _ _ (by simpa using hi)]; simp
  have h3 : (S.toArray)[j]! = S[j] := by rw [getElem!_pos _ _ (by simpa using hj)]; simp
  rw [h2, h3] at h1
  have h4 := (List.pairwise_iff_getElem.1 ha) i j hi hj hij
  unfold ltOf at h1
  have h5 : ¬ glt S[j] S[i] := by rw [← cmpG_lt]; simpa using h1
  exact glt_tot h5 (fun e => h4 ⟨e.1.symm, e.2.symm⟩)
theorem gsorted_one {S T : List Gr} (hs : S.Pairwise glt) (ht : T.Pairwise glt) (hp : S.Perm T) : S = T :=
  List.Perm.eq_of_pairwise (le := glt) (fun a b _ _ h1 h2 => absurd (glt_tr h1 h2) (glt_irr a)) hs ht hp

theorem grC_len (c : Gr) : (grC c).length = 6 := rfl
theorem grC_one (c : Gr) : ∀ u ∈ grC c, u.oneCell' = true := by
  intro u hx
  simp only [List.mem_cons, List.not_mem_nil, or_false] at hx
  rcases hx with rfl | rfl | rfl | rfl | rfl | rfl <;> rfl
abbrev zG : Gr := ⟨⟨#[]⟩, 0, ⟨0, 0, 0, 0⟩⟩
theorem info_gr : (Tryz.prog.info? 66).map (fun i => (i.zero, i.size, i.bytes)) = some (some (grV zG), 6, 56) := by kernel_rfl

theorem gsort_own {base : Nat} {v : Value} (L : List Gr) (w : World) (ho : w.ownsRow base 66 6 v L.length (rwC grC L)) (ha : GApart L) (hl : L.length < 4611686018427387904) :
    Calls Tryz.prog 48 #[v, .func (.func 49) #[] #[]] w fun e w' => e = .returned (.tuple #[]) ∧ ∃ S, S.Perm L ∧ S.Pairwise glt ∧ w'.ownsRow base 66 6 v L.length (rwC grC S) ∧ w.grownBy w' v.ownBlock := by
  rcases ho.2 with ⟨hnil, h0⟩ | ⟨g, cap, cur, rfl, hbase, hb, h1, h2, h3, h4⟩
  · subst hnil
    have : L = [] := List.eq_nil_of_length_eq_zero h0
    subst this
    refine (AnyF.slices_SortFunc_none Tryz.sortf48 none 0 _ w).mono ?_
    rintro e w' ⟨rfl, rfl⟩
    exact ⟨rfl, [], List.Perm.refl _, List.Pairwise.nil, by simpa using ho, ⟨rfl, rfl, rfl, Nat.le_refl _, fun _ _ _ => rfl⟩⟩
  · have hg := (Array.getElem?_eq_some_iff.1 hb).1
    have hcall := AnyQ.slices_SortFunc (P := Tryz.prog) Tryz.sortf48 6 Tryz.isAgg66 Tryz.sizeOf66 grC grC_len grC_one cmpG gswo 49 #[] g 0 cap L.toArray w (enters_of Tryz.func49 (by kernel_rfl) rfl) (fun m os dk _ x y => gcmp_any x y _) (holdsK_of grC_len (by omega) hb h4) hg (by simpa using hl)
    refine hcall.mono ?_
    rintro e w' ⟨rfl, d', n, os, hp, hs, rfl⟩
    obtain ⟨S⟩ := d'
    have hsz : S.length = L.length := by have := hp.1; simpa using this
    have hpm : S.Perm L := by
      have := hp.2.2
      simp [← hsz] at this
      rw [hsz, List.take_length] at this
      exact this
    have hss : Go.Sort.SortedIn (ltOf cmpG) 0 S.length S.toArray := by
      rw [hsz]; simpa using hs
    have hap : GApart S := (hpm.pairwise_iff (fun {x y} h e => h ⟨e.1.symm, e.2.symm⟩)).2 ha
    exact ⟨rfl, S, hpm, sorted_glt hap hss, ownsRow_sortedK grC_len (by omega) hsz hbase hb h1 h2 h3, grownBy_sortedK _⟩
end Go.Proofs.YtmgbailpmcggiaaGreat
namespace Go.Proofs.YtmgbailpmcggiaaGreat
open Go.RowKit

theorem SRange.grown {P : Program} {k : TypeId} {w w' : World} {b r : Nat} {m : SM} {left : Lit → Bool} {cnt : Nat} {row : Option Nat} (h : SRange P k w b r m left cnt) (hg : w.grownBy w' row) (h1 : some b ≠ row) (h2 : some r ≠ row) : SRange P k w' b r m left cnt := by
  obtain ⟨es, clock, since, seen, c0, k1, k2, k3, k4, k5, k6⟩ := h
  refine ⟨es, clock, since, seen, c0, ?_, k2, k3, k4, ?_, k6⟩
  · rw [hg.block b (Array.getElem?_eq_some_iff.1 k1).1 h1]; exact k1
  · rw [hg.block r (Array.getElem?_eq_some_iff.1 k5).1 h2]; exact k5

/-- of the grants, those that have come up -/
def come (G : List Gr) (left : Lit → Bool) : List Gr := G.filter fun g => !left (.string g.key)
theorem come_start {G : List Gr} {left : Lit → Bool} (h : ∀ g ∈ G, left (.string g.key) = true) : come G left = [] := by
  unfold come
  rw [List.filter_eq_nil_iff]
  intro g hg
  rw [h g hg]; simp
theorem come_end {G : List Gr} {left : Lit → Bool} (h : ∀ s, left (.string s) = false) : come G left = G := by
  unfold come
  rw [List.filter_eq_self]
  intro g _
  rw [h]; rfl
theorem come_step {G : List Gr} {left : Lit → Bool} (hd : KApart Gr.key G) {e : Gr} (he : e ∈ G) (hl : left (.string e.key) = true) : (come G (fun z => left z && !z.sameKey (.string e.key))).Perm (come G left ++ [e]) := by
  induction G with
  | nil => cases he
  | cons y G ih =>
    unfold KApart at hd
    rw [List.pairwise_cons] at hd
    unfold come at *
    have hsk : ∀ x : Gr, (Lit.string x.key).sameKey (.string e.key) = (x.key == e.key) := fun x => rfl
    rcases List.mem_cons.1 he with rfl | h
    · have h1 : G.filter (fun g => !(left (.string g.key) && !(Lit.string g.key).sameKey (.string e.key))) = G.filter (fun g => !left (.string g.key)) := List.filter_congr fun x hx => by
        have : (x.key == e.key) = false := by
          have := hd.1 x hx
          simp only [beq_eq_false_iff_ne, ne_eq]
          exact fun h => this h.symm
        rw [hsk, this]; simp
      rw [List.filter_cons, List.filter_cons, h1]
      simp only [hsk, hl, beq_self_eq_true, Bool.not_true, Bool.and_false, Bool.not_false, if_true, Bool.false_eq_true, if_false]
      exact (List.perm_append_comm (l₁ := [e])).trans (List.Perm.refl _)
    · have h2 : (y.key == e.key) = false := by simpa using hd.1 e h
      have ih' := ih hd.2 h
      rw [List.filter_cons, List.filter_cons]
      simp only [hsk, h2] at ih' ⊢
      cases hq : left (.string y.key)
      · simp only [Bool.false_and, Bool.not_false, if_true, List.cons_append]
        exact ih'.cons y
      · simp only [Bool.true_and, Bool.not_false, Bool.not_true, Bool.false_eq_true, if_false]
        exact ih'
theorem gr_inv {G : List Gr} {x : ByteArray × Int} {c : Value} (h : (grM G).get (kT x.1 x.2) = some c) (hx1 : x.1.size ≤ maxLen) (hx2 : (Lit.int .i64 x.2).wf = true) (hG : ∀ g ∈ G, g.u.size ≤ maxLen ∧ (Lit.int .i64 g.b).wf = true) : ∃ g, g ∈ G ∧ g.u = x.1 ∧ g.b = x.2 ∧ c = amV g.a := by
  unfold grM at h
  rw [kM_get] at h
  cases hq : kfnd Gr.key G (kT x.1 x.2) with
  | none => rw [hq] at h; cases h
  | some g =>
    rw [hq] at h
    obtain ⟨hm, hk⟩ := kfnd_mem hq
    have hg := hG g hm
    obtain ⟨h1, h2⟩ := kT_inj hg.1 hg.2 hx1 hx2 hk
    exact ⟨g, hm, h1, h2, (Option.some.inj h).symm⟩
end Go.Proofs.YtmgbailpmcggiaaGreat
namespace Go.Proofs.YtmgbailpmcggiaaGreat
open Go.RowKit

/-- what may be a grant's key -/
structure KX where
  u : ByteArray
  b : Int
  hu : u.size ≤ maxLen
  hb : (Lit.int .i64 b).wf = true
def KX.v (x : KX) : Value := kV x.u x.b
def KX.t (x : KX) : List UInt8 := kT x.u x.b
theorem kx_inv (key : Value) (kl : Lit) (h : keyOf Tryz.prog 60 key = some kl) : ∃ x : KX, key = x.v ∧ kl = .string x.t := by
  obtain ⟨x, h1, h2, h3, h4⟩ := keyOf_k_inv key kl h
  exact ⟨⟨x.1, x.2, h3, h4⟩, h1, h2⟩
theorem kx_inj (x y : KX) (h : x.v = y.v) : x = y := by
  obtain ⟨a, b, h1, h2⟩ := x
  obtain ⟨c, d, h3, h4⟩ := y
  unfold KX.v at h
  simp only [Value.agg.injEq, Array.mk.injEq, List.cons.injEq, Value.string.injEq, Value.int.injEq, true_and, and_true] at h
  obtain ⟨rfl, rfl⟩ := h
  rfl

set_option maxRecDepth 100000 in
set_option maxHeartbeats 4000000 in
theorem grants_made (b mg mc : Nat) (G : List Gr) (C : List Ch) (w : World) (h : Bk w b mg mc G C) (hr : KRise Gr.key G) (hk : ∀ g ∈ G, askB g.u g.b = true) (hl : G.length ≤ 100000) :
    Calls Tryz.prog 27 #[ptr b] w fun e w' => ∃ v S, e = .returned v ∧ S.Perm G ∧ S.Pairwise glt ∧ w'.ownsRow w.heap.size 66 6 v G.length (rwC grC S) ∧ Below w.heap.size w w' := by
  obtain ⟨i0, hi, hz0, hz1, hz2⟩ := info_parts info_gr
  have H := Lib.hid h
  have HAP := Lib.hid hr.apart
  have HL := Lib.hid hl
  have HG : Hid (∀ g ∈ G, g.u.size ≤ maxLen ∧ (Lit.int .i64 g.b).wf = true) := Lib.hid (fun g hg => by have := askB_name (hk g hg); exact ⟨by unfold maxLen; omega, band_wf this.2⟩)
  have HML : Hid (mg < w.heap.size) := Lib.hid h.gm.lt
  have c4 := h.blk.cell (j := 0) rfl
  clear h hr hk
  go_enter Tryz.func27, Tryz.ntmps27
  go_wp2_with (at_range; refine wpList_trange _ rfl _ _ rfl 60 34 gkeyed Tryz.underlying44 mg (grM G) rfl H.out.gm ?_; intro w4 hrg0 hb0 hs0; have HRG := Lib.hid hrg0; have HB4 := Lib.hid hb0; clear hrg0 hb0 hs0)
  go_frame
  go_loopw [3] (fun o wr => ∃ (left : Lit → Bool) (cnt : Nat) (L : List Gr), Hid (SRange Tryz.prog 60 wr mg w.heap.size (grM G) left cnt) ∧ Hid (L.Perm (come G left)) ∧ Hid (wr.ownsRow w.heap.size 66 6 o L.length (rwC grC L)) ∧ Hid (Below w.heap.size w wr)) (fun _ wr => wr.rangeLeft mg w.heap.size)
  case atStart =>
    refine ⟨_, _, [], HRG, Lib.hid ?_, Lib.hid (World.ownsRow_nil _ _ _ _), HB4⟩
    rw [come_start (fun g hg => by
      show Maps.has (grM G).dat (.string g.key) = true
      rw [SM.dat_has]
      unfold grM
      rw [kM_has, kfnd_of HAP.out hg]; rfl)]
  case round =>
    obtain ⟨left, cnt, L, HR, HP, HO, HBx⟩ := hrel
    go_wp2_with (at_next; refine wpList_tnext _ KX.v KX.t rfl _ rfl 60 gkeyed kx_inv kx_inj mg w.heap.size (grM G) left cnt rfl HR.out ?_ ?_)
    · intro hl0
      have HE : Hid (L.Perm G) := Lib.hid (by have := HP.out; rwa [come_end hl0] at this)
      have HLL : Hid (L.length < 4611686018427387904) := Lib.hid (by rw [HE.out.length_eq]; have := HL.out; omega)
      have HGA : Hid (GApart L) := Lib.hid ((HE.out.pairwise_iff (fun {x y} h e => h ⟨e.1.symm, e.2.symm⟩)).2 (gapart_of HAP.out))
      clear hl0
      go_wp2_with (go_at_call 48; refine (gsort_own L _ HO.out HGA.out HLL.out).mono ?_; rintro e w6 ⟨rfl, S, hp, hs, ho, hg⟩; have HPS := Lib.hid hp; have HSS := Lib.hid hs; have HOS := Lib.hid ho; have HGS : Hid (World.grownBy wr w6 u3.ownBlock) := Lib.hid hg; clear hp hs ho hg)
      go_ret
      refine ⟨u3, S, rfl, HPS.out.trans HE.out, HSS.out, ?_, ?_⟩
      · rw [← HE.out.length_eq]; exact HOS.out
      · exact HBx.out.trans ((Fr.of_grown HGS.out).below (fun k hk => (HO.out.lt k (Option.mem_toList.1 hk)).1) HBx.out.size)
    · intro x c w5 cnt5 hlx hgx hrg5 hlt5 hg5 hs5 hen
      obtain ⟨xu, xb, hx1, hx2⟩ := x
      obtain ⟨g, hm, hu, hb, rfl⟩ := gr_inv (x := (xu, xb)) hgx hx1 hx2 HG.out
      unfold KX.v KX.t at *
      simp only at hu hb hlx hrg5 hen ⊢
      subst hu hb
      have hne := row_ne_iter HO.out HR.out
      have hln : L.length ≤ 100000 := by
        have h1 := HP.out.length_eq
        have h2 : (come G left).length ≤ G.length := List.length_filter_le _ _
        have := HL.out
        omega
      have HLN := Lib.hid hln
      have hb6 : Below w5.heap.size w5 (((w5.alloc (.cells #[.string g.u, .int .i64 g.b] 60)).alloc (.cells #[.int .i64 g.a.c, .int .i64 g.a.r, .int .i64 g.a.d, .int .i64 g.a.p] 34)).alloc (.cells #[.string g.u, .int .i64 g.b, .int .i64 g.a.c, .int .i64 g.a.r, .int .i64 g.a.d, .int .i64 g.a.p] 66)) := below_and (below_and (below_alloc w5 _) (below_alloc _ _)) (below_alloc _ _)
      have ho5 := own_fr HO.out (Fr.of_grown hg5) (fun q hq hq2 => hne (by simp at hq2; rw [hq, hq2]))
      have HO6 := Lib.hid (own_fr ho5 (Fr.of_below hb6 []) (fun _ _ => by simp))
      have hbw5 : Below w.heap.size w w5 := HBx.out.trans (grown_below hg5 (Nat.le_refl _) HBx.out.size)
      have HB6 := Lib.hid (below_and hbw5 hb6)
      have HR6 := Lib.hid (hrg5.below hb6)
      have HCT := Lib.hid hlt5
      have HST := Lib.hid (come_step HAP.out hm (show left (.string g.key) = true from hlx))
      have HNE : Hid (some mg ≠ u3.ownBlock ∧ some w.heap.size ≠ u3.ownBlock) := Lib.hid ⟨fun e => by have h1 := (HO.out.lt mg e.symm).1; have := HML.out; omega, hne⟩
      have HWZ : Hid (w.heap.size ≤ w5.heap.size) := Lib.hid hbw5.size
      have HSRC : Hid ((((w5.alloc (.cells #[.string g.u, .int .i64 g.b] 60)).alloc (.cells #[.int .i64 g.a.c, .int .i64 g.a.r, .int .i64 g.a.d, .int .i64 g.a.p] 34)).alloc (.cells #[.string g.u, .int .i64 g.b, .int .i64 g.a.c, .int .i64 g.a.r, .int .i64 g.a.d, .int .i64 g.a.p] 66)).heap[w5.heap.size + 1 + 1]? = some (.cells #[.string g.u, .int .i64 g.b, .int .i64 g.a.c, .int .i64 g.a.r, .int .i64 g.a.d, .int .i64 g.a.p] 66 (0, 0))) := Lib.hid (by have := heap_alloc_new ((w5.alloc (.cells #[.string g.u, .int .i64 g.b] 60)).alloc (.cells #[.int .i64 g.a.c, .int .i64 g.a.r, .int .i64 g.a.d, .int .i64 g.a.p] 34)) (.cells #[.string g.u, .int .i64 g.b, .int .i64 g.a.c, .int .i64 g.a.r, .int .i64 g.a.d, .int .i64 g.a.p] 66); simpa using this)
      clear hgx hm hlx hrg5 hlt5 hg5 hs5 hb6 ho5 hbw5 hne hln hx1 hx2
      go_wp2_with (at_builtin; go_loud (refine wpList_app5 rfl _ _ 27 27 rfl w.heap.size 66 i0 (grV zG) 6 56 Tryz.underlying27 hi hz0 hz1 hz2 rfl _ L.length (rwC grC L) rfl HO6.out _ 1 _ rfl (src_block Tryz.underlying27 _ _ #[_, _, _, _, _, _] HSRC.out rfl (grC_one g)) (by have := HLN.out; unfold maxLen; omega) (by have := HLN.out; omega) (by have := HWZ.out; simp; omega) ?_; intro o4 w4 ho4 hg4 hn4; have HO4 := Lib.hid ho4; have HG4 := Lib.hid hg4; clear ho4 hg4 hn4))
      go_roundw
      case rel =>
        have hr4 := HR6.out.grown HG4.out HNE.out.1 HNE.out.2
        refine ⟨_, cnt5, L ++ [g], Lib.hid hr4, Lib.hid ?_, Lib.hid ?_, Lib.hid ?_⟩
        · exact (HP.out.append_right [g]).trans HST.out.symm
        · simpa [rwC_append, rwC_cons, rwC_nil] using HO4.out
        · exact HB6.out.trans ((Fr.of_grown HG4.out).below (fun k hk => (HO.out.lt k (Option.mem_toList.1 hk)).1) HB6.out.size)
      case measure =>
        rw [(HR6.out.grown HG4.out HNE.out.1 HNE.out.2).left, HR.out.left]
        exact HCT.out
end Go.Proofs.YtmgbailpmcggiaaGreat
namespace Go.Proofs.YtmgbailpmcggiaaGreat
open Go.RowKit

/-- a grant laid into the document's list -/
def gins (x : Gr) : List Gr → List Gr
  | [] => [x]
  | y :: S => if cmpG y x < 0 then y :: gins x S else if kT y.u y.b = kT x.u x.b then x :: S else x :: y :: S
/-- how many grants are ahead of it -/
def gpos (x : Gr) : List Gr → Nat
  | [] => 0
  | y :: S => if cmpG y x < 0 then gpos x S + 1 else 0
theorem gpos_le (x : Gr) : ∀ S : List Gr, gpos x S ≤ S.length
  | [] => Nat.le_refl _
  | y :: S => by
    have := gpos_le x S
    unfold gpos
    split <;> simp <;> omega
theorem gpos_lt (x : Gr) : ∀ (S : List Gr) (i : Nat) (h : i < S.length), i < gpos x S → cmpG S[i] x < 0
  | y :: S, 0, _, h => by
    unfold gpos at h
    split at h
    · assumption
    · omega
  | y :: S, i + 1, hi, h => by
    unfold gpos at h
    split at h
    · exact gpos_lt x S i (by simpa using hi) (by omega)
    · omega
theorem gpos_at (x : Gr) : ∀ (S : List Gr) (h : gpos x S < S.length), ¬ cmpG S[gpos x S] x < 0
  | y :: S, h => by
    by_cases hc : cmpG y x < 0
    · have e : gpos x (y :: S) = gpos x S + 1 := by
        show (if cmpG y x < 0 then gpos x S + 1 else 0) = _
        rw [if_pos hc]
      simp only [e]
      rw [e] at h
      exact gpos_at x S (by simpa using h)
    · have e : gpos x (y :: S) = 0 := by
        show (if cmpG y x < 0 then gpos x S + 1 else 0) = _
        rw [if_neg hc]
      simp only [e]
      exact hc
/-- the loop's way of saying it -/
theorem gins_set (x : Gr) : ∀ (S : List Gr) (h : gpos x S < S.length), kT (S[gpos x S]).u (S[gpos x S]).b = kT x.u x.b → gins x S = S.set (gpos x S) x
  | y :: S, h, hk => by
    by_cases hc : cmpG y x < 0
    · have e : gpos x (y :: S) = gpos x S + 1 := by
        show (if cmpG y x < 0 then gpos x S + 1 else 0) = _
        rw [if_pos hc]
      simp only [e] at hk ⊢
      rw [e] at h
      show (if cmpG y x < 0 then y :: gins x S else _) = _
      rw [if_pos hc, gins_set x S (by simpa using h) (by simpa using hk)]
      rfl
    · have e : gpos x (y :: S) = 0 := by
        show (if cmpG y x < 0 then gpos x S + 1 else 0) = _
        rw [if_neg hc]
      simp only [e] at hk ⊢
      show (if cmpG y x < 0 then y :: gins x S else if kT y.u y.b = kT x.u x.b then x :: S else x :: y :: S) = _
      rw [if_neg hc, if_pos (by simpa using hk)]
      rfl
theorem gins_cut (x : Gr) : ∀ (S : List Gr), (∀ h : gpos x S < S.length, ¬ kT (S[gpos x S]).u (S[gpos x S]).b = kT x.u x.b) → gins x S = S.take (gpos x S) ++ x :: S.drop (gpos x S)
  | [], _ => rfl
  | y :: S, hk => by
    by_cases hc : cmpG y x < 0
    · have e : gpos x (y :: S) = gpos x S + 1 := by
        show (if cmpG y x < 0 then gpos x S + 1 else 0) = _
        rw [if_pos hc]
      have hk2 : ∀ h : gpos x S < S.length, ¬ kT (S[gpos x S]).u (S[gpos x S]).b = kT x.u x.b := fun h => by
        have := hk (by rw [e]; simpa using h)
        simpa only [e, List.getElem_cons_succ] using this
      rw [e]
      show (if cmpG y x < 0 then y :: gins x S else _) = _
      rw [if_pos hc, gins_cut x S hk2]
      rfl
    · have e : gpos x (y :: S) = 0 := by
        show (if cmpG y x < 0 then gpos x S + 1 else 0) = _
        rw [if_neg hc]
      have h1 := hk (by rw [e]; simp)
      simp only [e, List.getElem_cons_zero] at h1
      rw [e]
      show (if cmpG y x < 0 then y :: gins x S else if kT y.u y.b = kT x.u x.b then x :: S else x :: y :: S) = _
      rw [if_neg hc, if_neg h1]
      rfl

def gok (g : Gr) : Prop := g.u.size ≤ maxLen ∧ (Lit.int .i64 g.b).wf = true
theorem gok_key {x y : Gr} (hx : gok x) (hy : gok y) (h : Gr.key x = Gr.key y) : x.u = y.u ∧ x.b = y.b := kT_inj hx.1 hx.2 hy.1 hy.2 h
theorem glt_key {x y : Gr} (hx : gok x) (hy : gok y) (h : glt x y) : Gr.key x ≠ Gr.key y := fun e => by
  obtain ⟨h1, h2⟩ := gok_key hx hy e
  unfold glt at h
  rw [h1, h2] at h
  exact glt_irr y h
theorem glt_next {x y : Gr} (hx : gok x) (hy : gok y) (h : ¬ glt x y) (hk : Gr.key x ≠ Gr.key y) : glt y x := glt_tot h (fun e => hk (by
  unfold Gr.key kT
  rw [e.1, e.2]))
theorem gins_mem {x e : Gr} : ∀ {S : List Gr}, e ∈ gins x S → e = x ∨ e ∈ S
  | [], h => .inl (by simpa [gins] using h)
  | y :: S, h => by
    unfold gins at h
    split at h
    · rcases List.mem_cons.1 h with rfl | h
      · exact .inr (by simp)
      · rcases gins_mem h with h | h
        · exact .inl h
        · exact .inr (by simp [h])
    · split at h
      · rcases List.mem_cons.1 h with h | h
        · exact .inl h
        · exact .inr (by simp [h])
      · rcases List.mem_cons.1 h with h | h
        · exact .inl h
        · exact .inr h
theorem gins_perm {x : Gr} (hx : gok x) : ∀ {S : List Gr}, (∀ e ∈ S, gok e) → S.Pairwise glt → (gins x S).Perm (x :: krem Gr.key S x.key)
  | [], _, _ => List.Perm.refl _
  | y :: S, ho, hp => by
    have hy := ho y (by simp)
    obtain ⟨h1, h2⟩ := List.pairwise_cons.1 hp
    have ih := gins_perm hx (S := S) (fun e he => ho e (by simp [he])) h2
    unfold gins
    by_cases hc : cmpG y x < 0
    · have hl := (cmpG_lt y x).1 hc
      have hk := glt_key hy hx hl
      rw [if_pos hc]
      have e1 : krem Gr.key (y :: S) x.key = y :: krem Gr.key S x.key := by
        unfold krem
        rw [List.filter_cons, if_pos (by simpa using hk)]
      rw [e1]
      exact (List.Perm.cons y ih).trans (List.Perm.swap x y _)
    · have hl : ¬ glt y x := fun h => hc ((cmpG_lt y x).2 h)
      rw [if_neg hc]
      by_cases hk : kT y.u y.b = kT x.u x.b
      · rw [if_pos hk]
        have e1 : krem Gr.key (y :: S) x.key = krem Gr.key S x.key := by
          unfold krem
          rw [List.filter_cons, if_neg (by show ¬ (!(kT y.u y.b == kT x.u x.b)) = true; rw [hk]; simp)]
        have e2 : krem Gr.key S x.key = S := krem_no (fun e he h => glt_key hy (ho e (by simp [he])) (h1 e he) (hk.trans h.symm))
        rw [e1, e2]
      · rw [if_neg hk]
        have hxy := glt_next hy hx hl hk
        have e1 : krem Gr.key (y :: S) x.key = y :: S := krem_no (fun e he h => by
          rcases List.mem_cons.1 he with rfl | he
          · exact hk h
          · exact glt_key hx (ho e (by simp [he])) (glt_tr hxy (h1 e he)) h.symm)
        rw [e1]
theorem gins_rise {x : Gr} (hx : gok x) : ∀ {S : List Gr}, (∀ e ∈ S, gok e) → S.Pairwise glt → (gins x S).Pairwise glt
  | [], _, _ => by simp [gins]
  | y :: S, ho, hp => by
    have hy := ho y (by simp)
    obtain ⟨h1, h2⟩ := List.pairwise_cons.1 hp
    have ih := gins_rise hx (S := S) (fun e he => ho e (by simp [he])) h2
    unfold gins
    by_cases hc : cmpG y x < 0
    · have hl := (cmpG_lt y x).1 hc
      rw [if_pos hc]
      refine List.pairwise_cons.2 ⟨fun z hz => ?_, ih⟩
      rcases gins_mem hz with rfl | hz
      · exact hl
      · exact h1 z hz
    · have hl : ¬ glt y x := fun h => hc ((cmpG_lt y x).2 h)
      rw [if_neg hc]
      by_cases hk : kT y.u y.b = kT x.u x.b
      · rw [if_pos hk]
        obtain ⟨e1, e2⟩ := gok_key hy hx hk
        refine List.pairwise_cons.2 ⟨fun z hz => ?_, h2⟩
        have := h1 z hz
        unfold glt at *
        rw [← e1, ← e2]
        exact this
      · rw [if_neg hk]
        have hxy := glt_next hy hx hl hk
        refine List.pairwise_cons.2 ⟨fun z hz => ?_, hp⟩
        rcases List.mem_cons.1 hz with rfl | hz
        · exact hxy
        · exact glt_tr hxy (h1 z hz)

/-- the document's grants: the book's, by rising user and band -/
structure Sg (S G : List Gr) : Prop where
  perm : S.Perm G
  rise : S.Pairwise glt
theorem Sg.nil : Sg [] [] := ⟨List.Perm.refl _, List.Pairwise.nil⟩
theorem Sg.put {S G : List Gr} (h : Sg S G) (ho : ∀ g ∈ G, gok g) {x : Gr} (hx : gok x) : Sg (gins x S) (kput Gr.key G x) := by
  have ho2 : ∀ e ∈ S, gok e := fun e he => ho e (h.perm.mem_iff.1 he)
  refine ⟨(gins_perm hx ho2 h.rise).trans ?_, gins_rise hx ho2 h.rise⟩
  unfold kput
  refine List.Perm.trans ?_ (kins_perm x _).symm
  refine List.Perm.cons x ?_
  unfold krem
  exact h.perm.filter _
theorem Sg.len {S G : List Gr} (h : Sg S G) : S.length = G.length := h.perm.length_eq
end Go.Proofs.YtmgbailpmcggiaaGreat
namespace Go.Proofs.YtmgbailpmcggiaaGreat
open Go.RowKit

/-- a slice of slices of numbers reads as these lists -/
def Rows2 (w : World) (v : Value) (zss : List (List Int)) : Prop :=
  ∃ vs : List Value, vs.length = zss.length ∧ Row w v 1 zss.length vs ∧ ∀ i (h : i < zss.length) u, vs[i]? = some u → Row w u 1 zss[i].length (zss[i].map (Value.int .i64))

theorem Rows2.below {w w' : World} {v : Value} {zss : List (List Int)} (h : Rows2 w v zss) (hb : Below w.heap.size w w') : Rows2 w' v zss := by
  obtain ⟨vs, h1, h2, h3⟩ := h
  exact ⟨vs, h1, h2.below hb, fun i hi u hu => (h3 i hi u hu).below hb⟩

theorem Row.num {w : World} {p : Option Addr} {n c : Nat} {k : IntKind} {zs : List Int} (h : Row w (.slice p n c) 1 zs.length (zs.map (Value.int k))) {i : Nat} (hi : i < zs.length) : ∃ b o, p = some ⟨b, o, none⟩ ∧ w.cell? ⟨b, o + i, none⟩ = some (.int k zs[i]) := by
  obtain ⟨p', c', hv, h1, h2, h3, h4, h5, h6⟩ := h
  simp only [Value.slice.injEq] at hv
  obtain ⟨rfl, -, rfl⟩ := hv
  rcases h6 with h6 | ⟨b, o, rfl, ha⟩
  · have : zs = [] := by simpa using h6
    subst this; simp at hi
  · exact ⟨b, o, rfl, ha i _ (by simp [hi])⟩

/-- the outer slice, and where its rows lie -/
theorem Rows2.parts {w : World} {v : Value} {zss : List (List Int)} (h : Rows2 w v zss) :
    ∃ p c, v = .slice p zss.length c ∧ zss.length ≤ c ∧ c ≤ maxLen ∧ ∀ i (hi : i < zss.length), ∃ b o p' c', p = some ⟨b, o, none⟩ ∧ w.cell? ⟨b, o + i, none⟩ = some (.slice p' zss[i].length c') ∧ Row w (.slice p' zss[i].length c') 1 zss[i].length (zss[i].map (Value.int .i64)) := by
  obtain ⟨vs, h1, ⟨p, c, hv, h2, h3, h4, h5, h6, h7⟩, h8⟩ := h
  refine ⟨p, c, hv, h2, h3, fun i hi => ?_⟩
  have hi' : i < vs.length := by omega
  have hr := h8 i hi vs[i] (by simp [hi'])
  rcases h7 with h7 | ⟨b, o, hp, ha⟩
  · rw [h7] at hi'; simp at hi'
  · have hc := ha i vs[i] (by simp [hi'])
    obtain ⟨p', c', hu, hr2⟩ := hr
    rw [hu] at hc
    exact ⟨b, o, p', c', hp, hc, ⟨p', c', rfl, hr2⟩⟩

/-- the same, of a slice value in parts -/
theorem Rows2.rowAt {w : World} {p : Option Addr} {n c : Nat} {zss : List (List Int)} (h : Rows2 w (.slice p n c) zss) {i : Nat} (hi : i < zss.length) :
    ∃ b o p' c', p = some ⟨b, o, none⟩ ∧ w.cell? ⟨b, o + i, none⟩ = some (.slice p' zss[i].length c') ∧ Row w (.slice p' zss[i].length c') 1 zss[i].length (zss[i].map (Value.int .i64)) := by
  obtain ⟨p2, c2, e, -, -, hat⟩ := h.parts
  simp only [Value.slice.injEq] at e
  obtain ⟨rfl, -, rfl⟩ := e
  exact hat i hi


/-- a block whole, as a row -/
theorem row_block {w : World} {g : Nat} {us : List Value} {e : TypeId} {fr : Nat × Nat} (hg : w.heap[g]? = some (.cells us.toArray e fr)) (hm : us.length ≤ maxLen) (h1 : ∀ u ∈ us, u.oneCell' = true) : Row w (.slice (some ⟨g, 0, none⟩) us.length us.length) 1 us.length us := by
  refine ⟨some ⟨g, 0, none⟩, us.length, rfl, Nat.le_refl _, hm, by simp, h1, by simp, .inr ⟨g, 0, rfl, fun j u hj => ?_⟩⟩
  rw [cell_of_row w g (0 + j) us.toArray e fr hg]
  simpa using hj
theorem rows2_lit {w : World} {g : Nat} {vs : List Value} {zss : List (List Int)} {e : TypeId} {fr : Nat × Nat} (hg : w.heap[g]? = some (.cells vs.toArray e fr)) (hl : vs.length = zss.length) (hm : zss.length ≤ maxLen) (h1 : ∀ u ∈ vs, u.oneCell' = true)
    (hr : ∀ i (h : i < zss.length) u, vs[i]? = some u → Row w u 1 zss[i].length (zss[i].map (Value.int .i64))) : Rows2 w (.slice (some ⟨g, 0, none⟩) zss.length zss.length) zss := by
  refine ⟨vs, hl, ?_, hr⟩
  have := row_block hg (by omega) h1
  rw [hl] at this
  exact this
end Go.Proofs.YtmgbailpmcggiaaGreat
namespace Go.Proofs.YtmgbailpmcggiaaGreat
open Go.RowKit

theorem Row.shape' {w : World} {v : Value} {size n : Nat} {cs : List Value} (h : Row w v size n cs) : ∃ p c, v = .slice p n c ∧ n ≤ c ∧ c ≤ maxLen := by
  obtain ⟨p, c, hv, h1, h2, -⟩ := h
  exact ⟨p, c, hv, h1, h2⟩
theorem Row.at' {α : Type} {c : α → List Value} {k : Nat} (hk : ∀ x, (c x).length = k) {w : World} {p : Option Addr} {n q : Nat} {L : List α} (h : Row w (.slice p n q) k L.length (rwC c L)) {i : Nat} (hi : i < L.length) (h0 : 0 < k) :
    ∃ b o, p = some ⟨b, o, none⟩ ∧ ∀ j u, j < k → (c L[i])[j]? = some u → w.cell? ⟨b, o + i * k + j, none⟩ = some u := by
  obtain ⟨p', c', hv, h1, h2, h3, h4, h5, h6⟩ := h
  simp only [Value.slice.injEq] at hv
  obtain ⟨rfl, rfl, rfl⟩ := hv
  rcases h6 with h6 | ⟨b, o, hp, ha⟩
  · rw [h6] at h3
    have : 0 < L.length * k := Nat.mul_pos (by omega) h0
    simp at h3
    omega
  · refine ⟨b, o, hp, fun j u hj hu => ?_⟩
    rw [Nat.add_assoc]
    exact ha _ _ (by rw [rwC_at hk hi hj]; exact hu)


set_option maxRecDepth 100000 in
set_option maxHeartbeats 2000000 in
theorem charges_same (L : List Ch) (v1 v2 : Value) (w : World) (h1 : Row w v1 7 L.length (rwC chC L)) (h2 : Row w v2 7 L.length (rwC chC L)) :
    Calls Tryz.prog 24 #[v1, v2] w fun e w' => e = .returned (.bool true) ∧ Below w.heap.size w w' := by
  obtain ⟨p1, k1, rfl, hk1, hm1⟩ := h1.shape'
  obtain ⟨p2, k2, rfl, hk2, hm2⟩ := h2.shape'
  have H1 := Lib.hid h1
  have H2 := Lib.hid h2
  have hml : maxLen ≤ 9223372036854775807 := by decide
  clear h1 h2
  go_enter Tryz.func24, Tryz.ntmps24
  go_wp2
  go_loopw [5] (fun i wr => ∃ k : Nat, k ≤ L.length ∧ i = .int .i64 (k : Int) ∧ Hid (Below w.heap.size w wr)) (fun i _ => L.length - (intOf i).toNat)
  case atStart => exact ⟨0, Nat.zero_le _, rfl, Lib.hid (Below.refl _ _)⟩
  case round =>
    obtain ⟨k, hk, rfl, HB⟩ := hrel
    by_cases hlt : k < L.length
    · obtain ⟨g1, o1, rfl, f1⟩ := Row.at' chC_len H1.out hlt (by omega)
      obtain ⟨g2, o2, rfl, f2⟩ := Row.at' chC_len H2.out hlt (by omega)
      obtain ⟨x, hx⟩ : ∃ x, x = L[k] := ⟨_, rfl⟩
      rw [← hx] at f1 f2
      have f3 : ∀ j u, j < 7 → (chC x)[j]? = some u → ∀ s : Past wr, s.val.cell? ⟨g1, o1 + k * 7 + j, none⟩ = some u := fun j u hj hu => Past.cell (cell_kept (f1 j u hj hu) HB.out)
      have f4 : ∀ j u, j < 7 → (chC x)[j]? = some u → ∀ s : Past wr, s.val.cell? ⟨g2, o2 + k * 7 + j, none⟩ = some u := fun j u hj hu => Past.cell (cell_kept (f2 j u hj hu) HB.out)
      have a0 : ∀ s : Past wr, s.val.cell? ⟨g1, o1 + k * 7, none⟩ = some (.string x.n) := f3 0 _ (by omega) rfl
      have a1 := f3 1 _ (by omega) rfl
      have a2 := f3 2 _ (by omega) rfl
      have a3 := f3 3 _ (by omega) rfl
      have a4 := f3 4 _ (by omega) rfl
      have a5 := f3 5 _ (by omega) rfl
      have a6 := f3 6 _ (by omega) rfl
      have d0 : ∀ s : Past wr, s.val.cell? ⟨g2, o2 + k * 7, none⟩ = some (.string x.n) := f4 0 _ (by omega) rfl
      have d1 := f4 1 _ (by omega) rfl
      have d2 := f4 2 _ (by omega) rfl
      have d3 := f4 3 _ (by omega) rfl
      have d4 := f4 4 _ (by omega) rfl
      have d5 := f4 5 _ (by omega) rfl
      have d6 := f4 6 _ (by omega) rfl
      have i1 : (k : Int) < (L.length : Int) := by omega
      have i0 : (0 : Int) ≤ (k : Int) := by omega
      clear f1 f2 f3 f4 hx
      go_wp2
      refine wp_region_past (by kernel_rfl) (by kernel_rfl) ?_
      repeat (go_big_quiet_step (fail))
      refine wpQuiet_nil ?_
      intro _ hw'
      obtain ⟨s9, hw''⟩ := hw'
      subst hw''
      obtain ⟨w9, h9, e9⟩ : ∃ w9, Below wr.heap.size wr w9 ∧ w9 = s9.val := ⟨_, s9.h, rfl⟩
      rw [← e9]
      have HB9 : Hid (Below w.heap.size w w9) := Lib.hid (below_and HB.out h9)
      clear h9 e9 a0 d0 a1 d1 a2 d2 a3 d3 a4 d4 a5 d5 a6 d6
      go_wp2
      go_roundw
      case rel => exact ⟨k + 1, hlt, by go_num, HB9⟩
      case measure => simp [intOf]; omega
    · obtain rfl : k = L.length := by omega
      go_wp2
      go_ret
      exact ⟨rfl, HB.out⟩

set_option maxRecDepth 100000 in
set_option maxHeartbeats 2000000 in
theorem grants_same (L : List Gr) (v1 v2 : Value) (w : World) (h1 : Row w v1 6 L.length (rwC grC L)) (h2 : Row w v2 6 L.length (rwC grC L)) :
    Calls Tryz.prog 26 #[v1, v2] w fun e w' => e = .returned (.bool true) ∧ Below w.heap.size w w' := by
  obtain ⟨p1, k1, rfl, hk1, hm1⟩ := h1.shape'
  obtain ⟨p2, k2, rfl, hk2, hm2⟩ := h2.shape'
  have H1 := Lib.hid h1
  have H2 := Lib.hid h2
  have hml : maxLen ≤ 9223372036854775807 := by decide
  clear h1 h2
  go_enter Tryz.func26, Tryz.ntmps26
  go_wp2
  go_loopw [5] (fun i wr => ∃ k : Nat, k ≤ L.length ∧ i = .int .i64 (k : Int) ∧ Hid (Below w.heap.size w wr)) (fun i _ => L.length - (intOf i).toNat)
  case atStart => exact ⟨0, Nat.zero_le _, rfl, Lib.hid (Below.refl _ _)⟩
  case round =>
    obtain ⟨k, hk, rfl, HB⟩ := hrel
    by_cases hlt : k < L.length
    · obtain ⟨g1, o1, rfl, f1⟩ := Row.at' grC_len H1.out hlt (by omega)
      obtain ⟨g2, o2, rfl, f2⟩ := Row.at' grC_len H2.out hlt (by omega)
      obtain ⟨x, hx⟩ : ∃ x, x = L[k] := ⟨_, rfl⟩
      rw [← hx] at f1 f2
      have f3 : ∀ j u, j < 6 → (grC x)[j]? = some u → ∀ s : Past wr, s.val.cell? ⟨g1, o1 + k * 6 + j, none⟩ = some u := fun j u hj hu => Past.cell (cell_kept (f1 j u hj hu) HB.out)
      have f4 : ∀ j u, j < 6 → (grC x)[j]? = some u → ∀ s : Past wr, s.val.cell? ⟨g2, o2 + k * 6 + j, none⟩ = some u := fun j u hj hu => Past.cell (cell_kept (f2 j u hj hu) HB.out)
      have a0 : ∀ s : Past wr, s.val.cell? ⟨g1, o1 + k * 6, none⟩ = some (.string x.u) := f3 0 _ (by omega) rfl
      have a1 := f3 1 _ (by omega) rfl
      have a2 := f3 2 _ (by omega) rfl
      have a3 := f3 3 _ (by omega) rfl
      have a4 := f3 4 _ (by omega) rfl
      have a5 := f3 5 _ (by omega) rfl
      have d0 : ∀ s : Past wr, s.val.cell? ⟨g2, o2 + k * 6, none⟩ = some (.string x.u) := f4 0 _ (by omega) rfl
      have d1 := f4 1 _ (by omega) rfl
      have d2 := f4 2 _ (by omega) rfl
      have d3 := f4 3 _ (by omega) rfl
      have d4 := f4 4 _ (by omega) rfl
      have d5 := f4 5 _ (by omega) rfl
      have i1 : (k : Int) < (L.length : Int) := by omega
      have i0 : (0 : Int) ≤ (k : Int) := by omega
      clear f1 f2 f3 f4 hx
      go_wp2
      refine wp_region_past (by kernel_rfl) (by kernel_rfl) ?_
      repeat (go_big_quiet_step (fail))
      refine wpQuiet_nil ?_
      intro _ hw'
      obtain ⟨s9, hw''⟩ := hw'
      subst hw''
      obtain ⟨w9, h9, e9⟩ : ∃ w9, Below wr.heap.size wr w9 ∧ w9 = s9.val := ⟨_, s9.h, rfl⟩
      rw [← e9]
      have HB9 : Hid (Below w.heap.size w w9) := Lib.hid (below_and HB.out h9)
      clear h9 e9 a0 d0 a1 d1 a2 d2 a3 d3 a4 d4 a5 d5
      go_wp2
      go_roundw
      case rel => exact ⟨k + 1, hlt, by go_num, HB9⟩
      case measure => simp [intOf]; omega
    · obtain rfl : k = L.length := by omega
      go_wp2
      go_ret
      exact ⟨rfl, HB.out⟩
end Go.Proofs.YtmgbailpmcggiaaGreat
namespace Go.Proofs.YtmgbailpmcggiaaGreat
open Go.RowKit

theorem tmod_band (x n : Int) (hn : 0 < n) : -n < x.tmod n ∧ x.tmod n < n := by
  have h1 := Int.tmod_lt_of_pos x hn
  refine ⟨?_, h1⟩
  rcases Int.le_total 0 x with h | h
  · have := Int.tmod_nonneg n h; omega
  · have h3 := Int.tmod_nonneg n (show 0 ≤ -x by omega)
    have h4 := Int.tmod_lt_of_pos (-x) hn
    rw [Int.neg_tmod] at h3 h4; omega

theorem pick_fix (x n : Int) (hn : 0 < n) : (x.tmod n + n).tmod n = x % n := by
  obtain ⟨h1, h2⟩ := tmod_band x n hn
  rw [Int.tmod_eq_emod_of_nonneg (by omega), Int.add_emod_right]
  rw [Int.tmod_def, Int.sub_mul_emod_self_left]

set_option maxHeartbeats 1000000 in
theorem pickn_any (x n : Int) (w : World) (hn : 0 < n) (hm : n ≤ 4611686018427387904) :
    Calls Tryz.prog 11 #[.int .i64 x, .int .i64 n] w fun e w' => e = .returned (.int .i64 (x % n)) ∧ w = w' := by
  obtain ⟨h1, h2⟩ := tmod_band x n hn
  have h3 := Int.emod_nonneg x (show n ≠ 0 by omega)
  have h4 := Int.emod_lt_of_pos x hn
  have s1 : wrap64 (x.tmod n) = x.tmod n := by unfold wrap64; omega
  have s2 : wrap64 (x.tmod n + n) = x.tmod n + n := by unfold wrap64; omega
  have s3 : wrap64 ((x.tmod n + n).tmod n) = x % n := by rw [pick_fix x n hn]; unfold wrap64; omega
  have s4 := pick_fix x n hn
  have s5 : wrap64 (x % n) = x % n := by unfold wrap64; omega
  have n0 : (n == 0) = false := by simp; omega
  go_enter Tryz.func11, Tryz.ntmps11
  go_wp2
  go_ret
  exact ⟨rfl, rfl⟩
end Go.Proofs.YtmgbailpmcggiaaGreat
namespace Go.Proofs.YtmgbailpmcggiaaGreat
open Go.RowKit

/-- v is no book -/
def QOff (v : Value) (w : World) : Prop := v = .pointer none ∨ ∃ b, v = ptr b ∧ Blk w b [.map none, .map none] 47
theorem QOff.kept {v : Value} {w w' : World} (h : QOff v w) (hb : Below w.heap.size w w') : QOff v w' := by
  rcases h with h | ⟨b, h1, h2⟩
  · exact .inl h
  · exact .inr ⟨b, h1, h2.kept hb⟩

set_option maxRecDepth 100000 in
set_option maxHeartbeats 400000 in
theorem qoff_asked (v : Value) (u : ByteArray) (d : Int) (w : World) (h : QOff v w) :
    Calls Tryz.prog 30 #[v, .string u, .int .i64 d] w fun e w' => e = .returned (.int .i64 1) ∧ w = w' := by
  have he := fun w r => run_eql_map_nil (P := Tryz.prog) w 45 9 43 r Tryz.underlying45
  rcases h with rfl | ⟨b, rfl, hb⟩
  · go_enter Tryz.func30, Tryz.ntmps30
    go_wp2
    go_ret
    exact ⟨rfl, rfl⟩
  · have c1 := hb.cell (j := 1) rfl
    clear hb
    go_enter Tryz.func30, Tryz.ntmps30
    go_wp2
    go_ret
    exact ⟨rfl, rfl⟩
set_option maxRecDepth 100000 in
set_option maxHeartbeats 400000 in
theorem qoff_named (v : Value) (s : ByteArray) (w : World) (h : QOff v w) :
    Calls Tryz.prog 32 #[v, .string s] w fun e w' => e = .returned (.int .i64 1) ∧ w = w' := by
  have he := fun w r => run_eql_map_nil (P := Tryz.prog) w 45 9 43 r Tryz.underlying45
  rcases h with rfl | ⟨b, rfl, hb⟩
  · go_enter Tryz.func32, Tryz.ntmps32
    go_wp2
    go_ret
    exact ⟨rfl, rfl⟩
  · have c1 := hb.cell (j := 1) rfl
    clear hb
    go_enter Tryz.func32, Tryz.ntmps32
    go_wp2
    go_ret
    exact ⟨rfl, rfl⟩
set_option maxRecDepth 100000 in
set_option maxHeartbeats 400000 in
theorem qoff_grant (v : Value) (u : ByteArray) (d : Int) (a : Am) (w : World) (h : QOff v w) :
    Calls Tryz.prog 9 #[v, .string u, .int .i64 d, amV a] w fun e w' => e = .returned (.int .i64 1) ∧ Below w.heap.size w w' := by
  have H := Lib.hid (h.kept (below_alloc w (.cells #[.int .i64 a.c, .int .i64 a.r, .int .i64 a.d, .int .i64 a.p] 34)))
  clear h
  go_enter Tryz.func9, Tryz.ntmps9
  go_wp2_with (go_at_call 30; refine (qoff_asked v u d _ H.out).mono ?_; rintro e w' ⟨rfl, rfl⟩)
  go_ret
  exact ⟨rfl, below_alloc _ _⟩
set_option maxRecDepth 100000 in
set_option maxHeartbeats 400000 in
theorem qoff_charge (v : Value) (c : Ch) (w : World) (h : QOff v w) :
    Calls Tryz.prog 10 #[v, chV c] w fun e w' => e = .returned (.int .i64 1) ∧ Below w.heap.size w w' := by
  have H := Lib.hid (h.kept (below_alloc w (.cells #[.string c.n, .string c.u, .int .i64 c.b, .int .i64 c.a.c, .int .i64 c.a.r, .int .i64 c.a.d, .int .i64 c.a.p] 43)))
  clear h
  go_enter Tryz.func10, Tryz.ntmps10
  go_wp2_with (go_at_call 32; refine (qoff_named v c.n _ H.out).mono ?_; rintro e w' ⟨rfl, rfl⟩)
  go_ret
  exact ⟨rfl, below_alloc _ _⟩
set_option maxRecDepth 100000 in
set_option maxHeartbeats 400000 in
theorem qoff_refund (v : Value) (s : ByteArray) (w : World) (h : QOff v w) :
    Calls Tryz.prog 12 #[v, .string s] w fun e w' => e = .returned (.int .i64 1) ∧ Below w.heap.size w w' := by
  have H := Lib.hid h
  clear h
  go_enter Tryz.func12, Tryz.ntmps12
  go_wp2_with (go_at_call 32; refine (qoff_named v s _ H.out).mono ?_; rintro e w' ⟨rfl, rfl⟩)
  go_ret
  exact ⟨rfl, Below.refl _ _⟩
set_option maxRecDepth 100000 in
set_option maxHeartbeats 400000 in
theorem qoff_change (v : Value) (s : ByteArray) (a : Am) (w : World) (h : QOff v w) :
    Calls Tryz.prog 13 #[v, .string s, amV a] w fun e w' => e = .returned (.int .i64 1) ∧ Below w.heap.size w w' := by
  have H := Lib.hid (h.kept (below_alloc w (.cells #[.int .i64 a.c, .int .i64 a.r, .int .i64 a.d, .int .i64 a.p] 34)))
  clear h
  go_enter Tryz.func13, Tryz.ntmps13
  go_wp2_with (go_at_call 32; refine (qoff_named v s _ H.out).mono ?_; rintro e w' ⟨rfl, rfl⟩)
  go_ret
  exact ⟨rfl, below_alloc _ _⟩
set_option maxRecDepth 100000 in
set_option maxHeartbeats 400000 in
theorem qoff_used (v : Value) (u : ByteArray) (d : Int) (w : World) (h : QOff v w) :
    Calls Tryz.prog 18 #[v, .string u, .int .i64 d] w fun e w' => e = .returned (.tuple #[amV .zero, .int .i64 1]) ∧ Below w.heap.size w w' := by
  have H := Lib.hid (h.kept (below_alloc w (.cells #[.int .i64 0, .int .i64 0, .int .i64 0, .int .i64 0] 34)))
  clear h
  go_enter Tryz.func18, Tryz.ntmps18
  go_wp2_with (go_at_call 30; refine (qoff_asked v u d _ H.out).mono ?_; rintro e w' ⟨rfl, rfl⟩)
  refine bodyPost_ret (results_row_tmp rfl _ _ w.heap.size 34 #[.int .i64 0, .int .i64 0, .int .i64 0, .int .i64 0] (0, 0) _ rfl (Blk.made w (amC .zero) 34) Tryz.underlying34 rfl (by kernel_rfl)) rfl ?_
  exact ⟨rfl, below_alloc w _⟩
set_option maxRecDepth 100000 in
set_option maxHeartbeats 400000 in
theorem qoff_granted (v : Value) (u : ByteArray) (d : Int) (w : World) (h : QOff v w) :
    Calls Tryz.prog 20 #[v, .string u, .int .i64 d] w fun e w' => e = .returned (.tuple #[amV .zero, .int .i64 1]) ∧ Below w.heap.size w w' := by
  have H := Lib.hid (h.kept (below_alloc w (.cells #[.int .i64 0, .int .i64 0, .int .i64 0, .int .i64 0] 34)))
  clear h
  go_enter Tryz.func20, Tryz.ntmps20
  go_wp2_with (go_at_call 30; refine (qoff_asked v u d _ H.out).mono ?_; rintro e w' ⟨rfl, rfl⟩)
  refine bodyPost_ret (results_row_tmp rfl _ _ w.heap.size 34 #[.int .i64 0, .int .i64 0, .int .i64 0, .int .i64 0] (0, 0) _ rfl (Blk.made w (amC .zero) 34) Tryz.underlying34 rfl (by kernel_rfl)) rfl ?_
  exact ⟨rfl, below_alloc w _⟩
set_option maxRecDepth 100000 in
set_option maxHeartbeats 1000000 in
theorem qoff_left (v : Value) (u : ByteArray) (d : Int) (w : World) (h : QOff v w) :
    Calls Tryz.prog 22 #[v, .string u, .int .i64 d] w fun e w' => e = .returned (.tuple #[amV .zero, .int .i64 1]) ∧ Below w.heap.size w w' := by
  obtain ⟨w3, hw3⟩ : ∃ w3, w3 = w.alloc (.cells #[.int .i64 0, .int .i64 0, .int .i64 0, .int .i64 0] 34) := ⟨_, rfl⟩
  obtain ⟨B, hB⟩ : ∃ B, B = w.heap.size := ⟨_, rfl⟩
  have B0 : Hid (Blk w3 B (amC .zero) 34) := Lib.hid (by rw [hw3, hB]; exact Blk.made w (amC .zero) _)
  have HBL : Hid (Below w.heap.size w w3) := Lib.hid (by rw [hw3]; exact below_alloc w _)
  have HBW : Hid (w.heap.size ≤ B) := Lib.hid (by omega)
  have H3 := Lib.hid (h.kept HBL.out)
  clear h
  go_enter Tryz.func22, Tryz.ntmps22
  go_upto_region 1 with fail
  rw [← hw3, ← hB]
  clear hw3 hB
  go_wp2_with (go_at_call 18; refine (qoff_used v u d _ H3.out).mono ?_; rintro e w4 ⟨rfl, hb⟩; have hbz := below_and hb (below_alloc w4 (.cells #[.int .i64 Am.zero.c, .int .i64 Am.zero.r, .int .i64 Am.zero.d, .int .i64 Am.zero.p] 34)); have HB4 := Lib.hid (below_and HBL.out hbz); have hb0 := B0.out.kept hbz; have C0 := Lib.hid hb0; have r0 := hb0.cell (j := 0) rfl; have r1 := hb0.cell (j := 1) rfl; have r2 := hb0.cell (j := 2) rfl; have r3 := hb0.cell (j := 3) rfl; have f0 := hb0.free 0; have f1 := hb0.free 1; have f2 := hb0.free 2; have f3 := hb0.free 3; clear hb hb0 hbz)
  refine bodyPost_ret (results_row_tmp rfl _ _ B 34 #[.int .i64 0, .int .i64 0, .int .i64 0, .int .i64 0] (0, 0) _ rfl ?_ Tryz.underlying34 rfl (by kernel_rfl)) rfl ⟨rfl, ?_⟩
  · exact (((C0.out.set 0 (.int .i64 0)).set 1 (.int .i64 0)).set 2 (.int .i64 0)).set 3 (.int .i64 0)
  · exact bel_set4 HB4.out HBW.out

set_option maxRecDepth 100000 in
set_option maxHeartbeats 1000000 in
theorem qoff_charges (v : Value) (w : World) (h : QOff v w) :
    Calls Tryz.prog 25 #[v] w fun e w' => e = .returned (.slice none 0 0) ∧ Below w.heap.size w w' := by
  rcases h with rfl | ⟨b, rfl, hb⟩
  · go_enter Tryz.func25, Tryz.ntmps25
    go_wp2
    go_ret
    exact ⟨rfl, Below.refl _ _⟩
  · have c4 := hb.cell (j := 1) rfl
    have HKE := Lib.hid (callsIn_wide.1 (Tryz.maps_Keys_47 none w))
    have HSO := Lib.hid (callsIn_wide.1 (Tryz.slices_Sorted_keys_nil_46_47 w))
    clear hb
    go_enter Tryz.func25, Tryz.ntmps25
    go_wp2_with (first
      | (go_at_call 47; refine HKE.out.mono ?_; rintro e w' ⟨rfl, rfl⟩)
      | (go_at_call 46; refine HSO.out.mono ?_; rintro e w3 ⟨v3, ss, rfl, rfl, -, hv, hb3⟩; have hv3 := hv.2 rfl; subst hv3; have HB3 : Hid (Below w.heap.size w w3) := Lib.hid (below_and (below_alloc w _) hb3); clear hb3 hv))
    go_loopw [3, 15] (fun o i wr => o = .slice none 0 0 ∧ i = .int .i64 0 ∧ Hid (Below w.heap.size w wr)) (fun _ _ _ => 0)
    case atStart => exact ⟨rfl, rfl, HB3⟩
    case round =>
      obtain ⟨rfl, rfl, HB⟩ := hrel
      go_wp2
      go_ret
      exact ⟨rfl, HB.out⟩
set_option maxRecDepth 100000 in
set_option maxHeartbeats 1000000 in
theorem qoff_over (v : Value) (w : World) (h : QOff v w) :
    Calls Tryz.prog 28 #[v] w fun e w' => e = .returned (.slice none 0 0) ∧ Below w.heap.size w w' := by
  have HC := Lib.hid (qoff_charges v w h)
  clear h
  go_enter Tryz.func28, Tryz.ntmps28
  go_wp2_with (go_at_call 25; refine HC.out.mono ?_; rintro e w3 ⟨rfl, hb⟩; have HB3 := Lib.hid hb; clear hb)
  go_loopw [3, 11] (fun o i wr => o = .slice none 0 0 ∧ i = .int .i64 0 ∧ Hid (Below w.heap.size w wr)) (fun _ _ _ => 0)
  case atStart => exact ⟨rfl, rfl, HB3⟩
  case round =>
    obtain ⟨rfl, rfl, HB⟩ := hrel
    go_wp2
    go_ret
    exact ⟨rfl, HB.out⟩
set_option maxRecDepth 100000 in
set_option maxHeartbeats 1000000 in
theorem qoff_grants (v : Value) (w : World) (h : QOff v w) :
    Calls Tryz.prog 27 #[v] w fun e w' => e = .returned (.slice none 0 0) ∧ Below w.heap.size w w' := by
  rcases h with rfl | ⟨b, rfl, hb⟩
  · go_enter Tryz.func27, Tryz.ntmps27
    go_wp2
    go_ret
    exact ⟨rfl, Below.refl _ _⟩
  · have c4 := hb.cell (j := 0) rfl
    have hrn := run_range_nilMap (P := Tryz.prog) w 44 60 34 Tryz.underlying44
    have hnx := fun ty => run_next_nilMap (P := Tryz.prog) w ty 0 0 #[]
    have HSF := Lib.hid (fun w' fv => AnyF.slices_SortFunc_none Tryz.sortf48 none 0 fv w')
    clear hb
    go_enter Tryz.func27, Tryz.ntmps27
    go_wp2
    go_loopw [3] (fun o wr => o = .slice none 0 0 ∧ wr = w.alloc (.mapIter none 0 #[] 0)) (fun _ _ => 0)
    case atStart => exact ⟨rfl, rfl⟩
    case round =>
      obtain ⟨rfl, rfl⟩ := hrel
      go_wp2_with (go_at_call 48; refine (HSF.out _ _).mono ?_; rintro e w3 ⟨rfl, rfl⟩)
      go_ret
      exact ⟨rfl, below_alloc w _⟩

/-- the leaves of an Act -/
abbrev actC (k : Int) (s u : ByteArray) (d : Int) (a : Am) : List Value := [.int .i64 k, .string s, .string u, .int .i64 d, .int .i64 a.c, .int .i64 a.r, .int .i64 a.d, .int .i64 a.p]
abbrev actV (k : Int) (s u : ByteArray) (d : Int) (a : Am) : Value := .agg #[.int .i64 k, .string s, .string u, .int .i64 d, .int .i64 a.c, .int .i64 a.r, .int .i64 a.d, .int .i64 a.p]
set_option maxRecDepth 100000 in
set_option maxHeartbeats 2000000 in
theorem qoff_step (v : Value) (k : Int) (s u : ByteArray) (d : Int) (a : Am) (w : World) (h : QOff v w) :
    Calls Tryz.prog 6 #[v, actV k s u d a] w fun e w' => e = .returned (.int .i64 1) ∧ Below w.heap.size w w' := by
  obtain ⟨w3, hw3⟩ : ∃ w3, w3 = w.alloc (.cells #[.int .i64 k, .string s, .string u, .int .i64 d, .int .i64 a.c, .int .i64 a.r, .int .i64 a.d, .int .i64 a.p] 36) := ⟨_, rfl⟩
  obtain ⟨B, hB⟩ : ∃ B, B = w.heap.size := ⟨_, rfl⟩
  have S0 : Hid (Blk w3 B (actC k s u d a) 36) := Lib.hid (by rw [hw3, hB]; exact Blk.made w (actC k s u d a) _)
  have HBL : Hid (Below w.heap.size w w3) := Lib.hid (by rw [hw3]; exact below_alloc w _)
  have H3 := Lib.hid (h.kept HBL.out)
  have c0 := S0.out.cell (j := 0) rfl
  have c1 := S0.out.cell (j := 1) rfl
  have c2 := S0.out.cell (j := 2) rfl
  have c3 := S0.out.cell (j := 3) rfl
  have c4 := S0.out.cell (j := 4) rfl
  have c5 := S0.out.cell (j := 5) rfl
  have c6 := S0.out.cell (j := 6) rfl
  have c7 := S0.out.cell (j := 7) rfl
  have hq0 := Int.emod_nonneg k (show (4 : Int) ≠ 0 by omega)
  have hq4 := Int.emod_lt_of_pos k (show (0 : Int) < 4 by omega)
  have HPK := Lib.hid (pickn_any k 4 w3 (by omega) (by omega))
  generalize k % 4 = q at hq0 hq4 HPK
  clear h
  obtain rfl | rfl | rfl | rfl : q = 0 ∨ q = 1 ∨ q = 2 ∨ q = 3 := by omega
  all_goals
    go_enter Tryz.func6, Tryz.ntmps6
    go_upto_region 1 with fail
    rw [← hw3, ← hB]
    clear hw3 hB
    go_wp2_with (first
      | (go_at_call 11; refine HPK.out.mono ?_; rintro e w4 ⟨rfl, rfl⟩)
      | (go_at_call 9; refine (qoff_grant v u d a _ H3.out).mono ?_; rintro e w4 ⟨rfl, hb⟩; have HB4 := Lib.hid (below_and HBL.out hb); clear hb)
      | (go_at_call 10; refine (qoff_charge v ⟨s, u, d, a⟩ _ H3.out).mono ?_; rintro e w4 ⟨rfl, hb⟩; have HB4 := Lib.hid (below_and HBL.out hb); clear hb)
      | (go_at_call 12; refine (qoff_refund v s _ H3.out).mono ?_; rintro e w4 ⟨rfl, hb⟩; have HB4 := Lib.hid (below_and HBL.out hb); clear hb)
      | (go_at_call 13; refine (qoff_change v s a _ H3.out).mono ?_; rintro e w4 ⟨rfl, hb⟩; have HB4 := Lib.hid (below_and HBL.out hb); clear hb))
    go_ret
    exact ⟨rfl, HB4.out⟩
end Go.Proofs.YtmgbailpmcggiaaGreat
namespace Go.Proofs.YtmgbailpmcggiaaGreat
open Go.ChangeShapes Go.WideShapes Go.ChangeAt Go.RowKit

theorem spot_none {W : World} {x : Addr} {u : Value} (h : W.cell? x = some u) : x.spot = none := by
  unfold World.cell? at h
  split at h
  · split at h
    · simp at h
    · rename_i hh; simpa using hh
  · simp at h

theorem row_of_cells {W : World} {k : IntKind} {a : Option Addr} {l c : Nat} {zs : List Int} (hl : l ≤ c) (hm : c ≤ maxLen) (hz : zs.length = c) (hn : a = none → c = 0)
    (hc : ∀ x, a = some x → ∀ i, i < c → W.cell? (x.add i) = some (.int k (zs.getD i 0))) : Row W (.slice a l c) 1 (zs.take l).length ((zs.take l).map (Value.int k)) := by
  have htl : (zs.take l).length = l := by simp; omega
  refine ⟨a, c, by rw [htl], by rw [htl]; exact hl, hm, by simp, ?_, fun h0 => ?_, ?_⟩
  · intro u hu
    obtain ⟨n, _, rfl⟩ := List.mem_map.1 hu
    rfl
  · have := hn h0
    obtain rfl : l = 0 := by omega
    exact ⟨by simp, this⟩
  · by_cases h0 : l = 0
    · left; subst h0; simp
    · right
      cases a with
      | none => have := hn rfl; omega
      | some x =>
        have hc0 := hc x rfl 0 (by omega)
        have hsp : x.spot = none := by
          have e0 : x.add 0 = x := by simp [Addr.add]
          rw [e0] at hc0
          exact spot_none hc0
        obtain ⟨b, o, sp⟩ := x
        simp only at hsp
        subst hsp
        refine ⟨b, o, rfl, fun i u hi => ?_⟩
        have hi1 : i < l := by
          have := (List.getElem?_eq_some_iff.1 hi).1
          simp at this; omega
        have hi2 : i < zs.length := by omega
        rw [← add_off, hc _ rfl i (by omega)]
        rw [List.getElem?_map, List.getElem?_take, if_pos hi1, List.getElem?_eq_getElem hi2] at hi
        simp at hi
        rw [← hi]
        simp [List.getD, hi2]

theorem open_rows2 {H : Type} {enc : TypeId × Value → H} {P : Program} {W : World} {t e q : TypeId} {v : Value} {d : DataW H} {ps : List MemPlace} {r : Reach} {b0 : Nat}
    (ht : P.underlying t = some (.slice e)) (he : P.underlying e = some (.slice q)) (hq : P.underlying q = some (.int .i64)) (ce : P.cellsOf e = 1) (cq : P.cellsOf q = 1) (hval : Value.okWide P W r b0 t v) (h : DataW.Trod enc P W 0 (fun _ => true) true t v d ps) :
    ∃ zss : List (List Int), Rows2 W v zss ∧ ∀ l ∈ zss, ∀ n ∈ l, (Lit.int .i64 n).wf = true := by
  obtain ⟨a0, len0, cap0, rfl⟩ := okWide_slice ht hval
  obtain ⟨fuel, hf⟩ := h
  rcases Deep.open_int_rows ht he hq ce cq hf with ⟨hcs, hx⟩ | ⟨x, l, c, A, L, C, Z, hcs, _, hl, hm, hx, hr⟩
  · simp [Value.cells] at hcs
    obtain ⟨rfl, rfl, rfl⟩ := hcs
    exact ⟨[], ⟨[], rfl, row_nil W 1, by simp⟩, by simp⟩
  · simp [Value.cells] at hcs
    obtain ⟨rfl, rfl, rfl⟩ := hcs
    have htl : ((List.range len0).map fun i => (Z i).take (L i)).length = len0 := by simp
    refine ⟨(List.range len0).map fun i => (Z i).take (L i), ⟨(List.range len0).map fun i => .slice (A i) (L i) (C i), by simp, ⟨some x, cap0, by rw [htl], by rw [htl]; exact hl, hm, by simp, ?_, by simp, ?_⟩, ?_⟩, ?_⟩
    · intro u hu
      obtain ⟨n, _, rfl⟩ := List.mem_map.1 hu
      rfl
    · by_cases h0 : len0 = 0
      · left; subst h0; simp
      · right
        have hc0 := (hr 0 (by omega)).1
        have hsp : x.spot = none := by
          have e0 : x.add 0 = x := by simp [Addr.add]
          rw [e0] at hc0
          exact spot_none hc0
        obtain ⟨b, o, sp⟩ := x
        simp only at hsp
        subst hsp
        refine ⟨b, o, rfl, fun i u hi => ?_⟩
        have hi1 : i < len0 := by
          have := (List.getElem?_eq_some_iff.1 hi).1
          simpa using this
        rw [← add_off, (hr i (by omega)).1]
        simpa [hi1] using hi
    · intro i hi u hu
      simp at hi
      obtain rfl : Value.slice (A i) (L i) (C i) = u := by simpa [hi] using hu
      obtain ⟨-, r1, r2, r3, -, r5, r6⟩ := hr i (by omega)
      have := row_of_cells (k := .i64) r1 r2 r3 r5 (fun x hx => (r6 x hx).2)
      have e : (L i) = ((Z i).take (L i)).length := by simp; omega
      simpa using this
    · intro z hz n hn
      obtain ⟨i, hi, rfl⟩ := List.mem_map.1 hz
      exact (hr i (by have := List.mem_range.1 hi; omega)).2.2.2.2.1 n (List.mem_of_mem_take hn)
end Go.Proofs.YtmgbailpmcggiaaGreat
namespace Go.Proofs.YtmgbailpmcggiaaGreat
open Go.ChangeShapes Go.WideShapes Go.ChangeAt Go.RowKit

/-- what a field of a plain type holds: a number, a text, a truth -/
def fieldOk (P : Program) (t : TypeId) (v : Value) : Prop :=
  (∃ k, P.underlying t = some (.int k) ∧ ∃ n, v = .int k n ∧ (Lit.int k n).wf = true) ∨ (P.underlying t = some .string ∧ ∃ s, v = .string s ∧ s.size ≤ maxLen) ∨ (P.underlying t = some .bool ∧ ∃ b, v = .bool b)

theorem fieldOk.int {P : Program} {t : TypeId} {v : Value} {k : IntKind} (h : fieldOk P t v) (ht : P.underlying t = some (.int k)) : ∃ n, v = .int k n ∧ (Lit.int k n).wf = true := by
  rcases h with ⟨k', h1, h2⟩ | ⟨h1, -⟩ | ⟨h1, -⟩
  · rw [ht] at h1; cases h1; exact h2
  · rw [ht] at h1; cases h1
  · rw [ht] at h1; cases h1
theorem fieldOk.str {P : Program} {t : TypeId} {v : Value} (h : fieldOk P t v) (ht : P.underlying t = some .string) : ∃ s, v = .string s ∧ s.size ≤ maxLen := by
  rcases h with ⟨k', h1, h2⟩ | ⟨h1, h2⟩ | ⟨h1, -⟩
  · rw [ht] at h1; cases h1
  · exact h2
  · rw [ht] at h1; cases h1
theorem fieldOk.bool {P : Program} {t : TypeId} {v : Value} (h : fieldOk P t v) (ht : P.underlying t = some .bool) : ∃ b, v = .bool b := by
  rcases h with ⟨k', h1, h2⟩ | ⟨h1, h2⟩ | ⟨h1, h2⟩
  · rw [ht] at h1; cases h1
  · rw [ht] at h1; cases h1
  · exact h2
theorem fieldOk.one {P : Program} {t : TypeId} {v : Value} (h : fieldOk P t v) : v.oneCell' = true := by
  rcases h with ⟨k', h1, n, rfl, -⟩ | ⟨h1, s, rfl, -⟩ | ⟨h1, b, rfl⟩ <;> rfl

def plainType (P : Program) (t : TypeId) : Bool := match P.underlying t with
  | some (.int _) => true
  | some .string => true
  | some .bool => true
  | _ => false
/-- each field lies at its index, is one cell, and plain: for the kernel -/
def plainFields (P : Program) (fs : Array Field) : Bool := (List.range fs.size).all fun i => match fs[i]? with
  | some f => f.offset == i && P.cellsOf f.type == 1 && plainType P f.type
  | none => false

theorem plain_of {P : Program} {fs : Array Field} (h : plainFields P fs = true) {i : Nat} {f : Field} (hi : fs[i]? = some f) : f.offset = i ∧ P.cellsOf f.type = 1 ∧ plainType P f.type = true := by
  have hlt : i < fs.size := (Array.getElem?_eq_some_iff.1 hi).1
  have := List.all_eq_true.1 h i (List.mem_range.2 hlt)
  simp only [hi, Bool.and_eq_true, beq_iff_eq] at this
  exact ⟨this.1.1, this.1.2, this.2⟩

section
variable {H : Type} {enc : TypeId × Value → H} {P : Program} {W : World} {base : Nat} {sp : Nat → Bool} {held : Bool}

theorem field_of_trod {t : TypeId} {n : Nat} {v : Value} {y : DataW H × List MemPlace} (hp : plainType P t = true) (h : DataW.trod enc P W base sp held n t [v] = some y) : fieldOk P t v := by
  unfold plainType at hp
  split at hp
  · rename_i k hk
    obtain ⟨m, h1, -, h2⟩ := DataW.trod_int hk h
    simp only [List.cons.injEq, and_true] at h1
    exact .inl ⟨k, hk, m, h1, h2⟩
  · rename_i hk
    obtain ⟨s, h1, -, h2⟩ := DataW.trod_string hk h
    simp only [List.cons.injEq, and_true] at h1
    exact .inr (.inl ⟨hk, s, h1, h2⟩)
  · rename_i hk
    obtain ⟨b, h1, -⟩ := DataW.trod_bool hk h
    simp only [List.cons.injEq, and_true] at h1
    exact .inr (.inr ⟨hk, b, h1⟩)
  · cases hp

/-- the cells of a struct of plain fields -/
theorem cells_of_struct {ts : TypeId} {fs : Array Field} {n : Nat} {cs : List Value} {x : DataW H × List MemPlace} (hs : P.underlying ts = some (.struct fs)) (hp : plainFields P fs = true) (hC : P.cellsOf ts = fs.size)
    (h : DataW.trod enc P W base sp held n ts cs = some x) : cs.length = fs.size ∧ ∀ i f, fs[i]? = some f → fieldOk P f.type (cs.getD i undef) := by
  obtain ⟨xs, m, -, -, hl, hxl, hf⟩ := DataW.trod_struct hs h
  rw [hC] at hl
  refine ⟨hl, fun i f hi => ?_⟩
  obtain ⟨h1, h2, h3⟩ := plain_of hp hi
  have hlt : i < fs.size := (Array.getElem?_eq_some_iff.1 hi).1
  have := hf i f hi
  rw [h1, h2, Deep.take1_drop cs i undef (by omega), List.getElem?_eq_getElem (by omega)] at this
  exact field_of_trod h3 this
end

/-- a struct by value -/
theorem open_struct {H : Type} {enc : TypeId × Value → H} {P : Program} {W : World} {t : TypeId} {fs : Array Field} {v : Value} {d : DataW H} {ps : List MemPlace} {r : Reach} {b0 : Nat}
    (hs : P.underlying t = some (.struct fs)) (hp : plainFields P fs = true) (hC : P.cellsOf t = fs.size) (hval : Value.okWide P W r b0 t v) (h : DataW.Trod enc P W 0 (fun _ => true) true t v d ps) :
    ∃ cs : List Value, v = .agg cs.toArray ∧ cs.length = fs.size ∧ ∀ i f, fs[i]? = some f → fieldOk P f.type (cs.getD i undef) := by
  obtain ⟨cs, rfl, -⟩ := okWide_struct hs hval
  obtain ⟨fuel, hf⟩ := h
  have := cells_of_struct hs hp hC hf
  exact ⟨cs.toList, rfl, by simpa [Value.cells] using this.1, fun i f hi => by simpa [Value.cells] using this.2 i f hi⟩

theorem flatten_get {α : Type} {s : Nat} (hs : 0 < s) : ∀ (l : List (List α)), (∀ x ∈ l, x.length = s) → ∀ j, l.flatten[j]? = (l[j / s]?).bind fun x => x[j % s]?
  | [], _, j => by simp
  | x :: l, h, j => by
    have hx := h x (by simp)
    rw [List.flatten_cons]
    by_cases hj : j < s
    · rw [List.getElem?_append_left (by omega), Nat.div_eq_of_lt hj, Nat.mod_eq_of_lt hj]
      simp
    · obtain ⟨k, rfl⟩ : ∃ k, j = s + k := ⟨j - s, by omega⟩
      rw [List.getElem?_append_right (by omega), hx, Nat.add_sub_cancel_left, flatten_get hs l (fun y hy => h y (by simp [hy])) k]
      rw [Nat.add_div_left k hs, Nat.add_mod_left]
      simp
theorem flatten_len {α : Type} {s : Nat} : ∀ (l : List (List α)), (∀ x ∈ l, x.length = s) → l.flatten.length = l.length * s
  | [], _ => by simp
  | x :: l, h => by
    rw [List.flatten_cons, List.length_append, h x (by simp), flatten_len l (fun y hy => h y (by simp [hy])), List.length_cons, Nat.add_mul]
    omega

/-- a slice of structs -/
theorem open_structs {H : Type} {enc : TypeId × Value → H} {P : Program} {W : World} {t e : TypeId} {fs : Array Field} {v : Value} {d : DataW H} {ps : List MemPlace} {r : Reach} {b0 : Nat}
    (ht : P.underlying t = some (.slice e)) (he : P.underlying e = some (.struct fs)) (hp : plainFields P fs = true) (hC : P.cellsOf e = fs.size) (hpos : 0 < fs.size) (hval : Value.okWide P W r b0 t v) (h : DataW.Trod enc P W 0 (fun _ => true) true t v d ps) :
    ∃ es : List (List Value), Row W v fs.size es.length es.flatten ∧ ∀ x ∈ es, x.length = fs.size ∧ ∀ i f, fs[i]? = some f → fieldOk P f.type (x.getD i undef) := by
  obtain ⟨a0, len0, cap0, rfl⟩ := okWide_slice ht hval
  obtain ⟨fuel, hf⟩ := h
  rcases Deep.open_slice ht hf with ⟨hcs, -⟩ | ⟨a, len, cap, m, n, D, Pl, hcs, hb, hl, hm, hmm, -, hr⟩
  · simp [Value.cells] at hcs
    obtain ⟨rfl, rfl, rfl⟩ := hcs
    exact ⟨[], row_nil W _, by simp⟩
  · simp [Value.cells] at hcs
    obtain ⟨rfl, rfl, rfl⟩ := hcs
    simp only [if_true] at hmm
    subst hmm
    rw [hC] at hr
    obtain ⟨C, hCC⟩ := Deep.choose_lt (α := List Value) (p := fun i cs => W.cells? 0 (a.add (i * fs.size)) fs.size = some cs ∧ DataW.trod enc P W 0 (fun _ => true) true n e cs = some (D i, Pl i)) (fun i (hi : i < len0) => by
      obtain ⟨cs, h1, h2⟩ := hr i (by omega)
      exact ⟨cs, h1, h2⟩)
    have hok : ∀ i, i < len0 → (C i).length = fs.size ∧ ∀ j f, fs[j]? = some f → fieldOk P f.type ((C i).getD j undef) := fun i hi => cells_of_struct he hp hC (hCC i hi).2
    have hcell : ∀ i, i < len0 → ∀ j, j < fs.size → W.cell? ((a.add (i * fs.size)).add j) = (C i)[j]? := fun i hi => (World.cells?_some (hCC i hi).1).2.2
    have hmem : ∀ x ∈ (List.range len0).map C, x.length = fs.size ∧ ∀ j f, fs[j]? = some f → fieldOk P f.type (x.getD j undef) := fun x hx => by
      obtain ⟨i, hi, rfl⟩ := List.mem_map.1 hx
      exact hok i (List.mem_range.1 hi)
    have hfl := flatten_len ((List.range len0).map C) (fun x hx => (hmem x hx).1)
    have hln : ((List.range len0).map C).length = len0 := by simp
    refine ⟨(List.range len0).map C, ⟨some a, m, by rw [hln], by rw [hln]; exact hl, hm, by rw [hfl], ?_, by simp, ?_⟩, hmem⟩
    · intro u hu
      obtain ⟨x, hx, hux⟩ := List.mem_flatten.1 hu
      obtain ⟨h1, h2⟩ := hmem x hx
      obtain ⟨j, hj, rfl⟩ := List.getElem_of_mem hux
      have := (h2 j fs[j] (Array.getElem?_eq_getElem (by omega))).one
      simpa [List.getD, hj] using this
    · by_cases h0 : len0 = 0
      · left; subst h0; simp
      · right
        have hc0 := hcell 0 (by omega) 0 hpos
        rw [List.getElem?_eq_getElem (by rw [(hok 0 (by omega)).1]; exact hpos)] at hc0
        have hsp : a.spot = none := by
          have e0 : (a.add (0 * fs.size)).add 0 = a := by simp [Addr.add]
          rw [e0] at hc0
          exact spot_none hc0
        obtain ⟨b, o, spt⟩ := a
        simp only at hsp
        subst hsp
        refine ⟨b, o, rfl, fun j u hj => ?_⟩
        rw [flatten_get hpos _ (fun x hx => (hmem x hx).1)] at hj
        obtain ⟨x, hx, hjx⟩ := Option.bind_eq_some_iff.1 hj
        have hq : j / fs.size < len0 := by
          have := (List.getElem?_eq_some_iff.1 hx).1
          simpa using this
        have hx' : C (j / fs.size) = x := by simpa [hq] using hx
        have := hcell (j / fs.size) hq (j % fs.size) (Nat.mod_lt _ hpos)
        rw [add_off, add_off, hx', hjx] at this
        have e := Nat.div_add_mod j fs.size
        rw [Nat.mul_comm] at e
        rw [Nat.add_assoc, e] at this
        exact this

/-- a slice of plain things: numbers, texts, truths -/
theorem open_plains {H : Type} {enc : TypeId × Value → H} {P : Program} {W : World} {t e : TypeId} {v : Value} {d : DataW H} {ps : List MemPlace} {r : Reach} {b0 : Nat}
    (ht : P.underlying t = some (.slice e)) (hp : plainType P e = true) (hC : P.cellsOf e = 1) (hval : Value.okWide P W r b0 t v) (h : DataW.Trod enc P W 0 (fun _ => true) true t v d ps) :
    ∃ cs : List Value, Row W v 1 cs.length cs ∧ ∀ x ∈ cs, fieldOk P e x := by
  obtain ⟨a0, len0, cap0, rfl⟩ := okWide_slice ht hval
  obtain ⟨fuel, hf⟩ := h
  rcases Deep.open_slice1 ht hC hf with ⟨hcs, -⟩ | ⟨a, len, cap, m, n, V, D, Pl, hcs, hb, hl, hm, hmm, -, hr⟩
  · simp [Value.cells] at hcs
    obtain ⟨rfl, rfl, rfl⟩ := hcs
    exact ⟨[], row_nil W _, by simp⟩
  · simp [Value.cells] at hcs
    obtain ⟨rfl, rfl, rfl⟩ := hcs
    simp only [if_true] at hmm
    subst hmm
    have hmem : ∀ x ∈ (List.range len0).map V, fieldOk P e x := fun x hx => by
      obtain ⟨i, hi, rfl⟩ := List.mem_map.1 hx
      exact field_of_trod hp (hr i (by have := List.mem_range.1 hi; omega)).2
    have hln : ((List.range len0).map V).length = len0 := by simp
    refine ⟨(List.range len0).map V, ⟨some a, m, by rw [hln], by rw [hln]; exact hl, hm, by simp, fun u hu => (hmem u hu).one, by simp, ?_⟩, hmem⟩
    by_cases h0 : len0 = 0
    · left; subst h0; simp
    · right
      have hc0 := (hr 0 (by omega)).1
      have hsp : a.spot = none := by
        have e0 : a.add 0 = a := by simp [Addr.add]
        rw [e0] at hc0
        exact spot_none hc0
      obtain ⟨b, o, spt⟩ := a
      simp only at hsp
      subst hsp
      refine ⟨b, o, rfl, fun j u hj => ?_⟩
      have hjl : j < len0 := by
        have := (List.getElem?_eq_some_iff.1 hj).1
        simpa using this
      rw [← add_off, (hr j (by omega)).1]
      simpa [hjl] using hj

/-- texts, as the walks hold them -/
def Texts (w : World) (v : Value) (ss : List ByteArray) : Prop := Row w v 1 ss.length (ss.map Value.string)
theorem Texts.below {w w' : World} {v : Value} {ss : List ByteArray} (h : Texts w v ss) (hb : Below w.heap.size w w') : Texts w' v ss := Row.below h hb
theorem Texts.parts {w : World} {v : Value} {ss : List ByteArray} (h : Texts w v ss) :
    ∃ p c, v = .slice p ss.length c ∧ ss.length ≤ c ∧ c ≤ maxLen ∧ ∀ i (hi : i < ss.length), ∃ b o, p = some ⟨b, o, none⟩ ∧ w.cell? ⟨b, o + i, none⟩ = some (.string ss[i]) := by
  obtain ⟨p, c, hv, h1, h2, h3, h4, h5, h6⟩ := h
  refine ⟨p, c, hv, h1, h2, fun i hi => ?_⟩
  rcases h6 with h6 | ⟨b, o, hp, ha⟩
  · have : ss = [] := by simpa using h6
    subst this; simp at hi
  · exact ⟨b, o, hp, ha i _ (by simp [hi])⟩
theorem Texts.textAt {w : World} {p : Option Addr} {n c : Nat} {ss : List ByteArray} (h : Texts w (.slice p n c) ss) {i : Nat} (hi : i < ss.length) : ∃ b o, p = some ⟨b, o, none⟩ ∧ w.cell? ⟨b, o + i, none⟩ = some (.string ss[i]) := by
  obtain ⟨p2, c2, e, -, -, hat⟩ := h.parts
  simp only [Value.slice.injEq] at e
  obtain ⟨rfl, -, rfl⟩ := e
  exact hat i hi
theorem map_of_all {α β : Type} {f : α → β} {p : α → Prop} : ∀ (l : List β), (∀ x ∈ l, ∃ a, x = f a ∧ p a) → ∃ la : List α, l = la.map f ∧ ∀ a ∈ la, p a
  | [], _ => ⟨[], rfl, by simp⟩
  | x :: l, h => by
    obtain ⟨a, rfl, ha⟩ := h x (by simp)
    obtain ⟨la, rfl, has⟩ := map_of_all l (fun y hy => h y (by simp [hy]))
    exact ⟨a :: la, rfl, by simpa using ⟨ha, has⟩⟩
theorem open_texts {H : Type} {enc : TypeId × Value → H} {P : Program} {W : World} {t e : TypeId} {v : Value} {d : DataW H} {ps : List MemPlace} {r : Reach} {b0 : Nat}
    (ht : P.underlying t = some (.slice e)) (he : P.underlying e = some .string) (hC : P.cellsOf e = 1) (hval : Value.okWide P W r b0 t v) (h : DataW.Trod enc P W 0 (fun _ => true) true t v d ps) :
    ∃ ss : List ByteArray, Texts W v ss ∧ ∀ s ∈ ss, s.size ≤ maxLen := by
  obtain ⟨cs, h1, h2⟩ := open_plains ht (by unfold plainType; rw [he]) hC hval h
  obtain ⟨ss, rfl, h3⟩ := map_of_all (f := Value.string) (p := fun s => s.size ≤ maxLen) cs (fun x hx => (h2 x hx).str he)
  refine ⟨ss, ?_, h3⟩
  unfold Texts
  simpa using h1
end Go.Proofs.YtmgbailpmcggiaaGreat
namespace Go.Proofs.YtmgbailpmcggiaaGreat
open Go.ChangeShapes Go.WideShapes Go.ChangeAt Go.RowKit

theorem slice_reach {H : Type} {enc : TypeId × Value → H} {P : Program} {W : World} {t e : TypeId} {v : Value} {d : DataW H} {ps : List MemPlace} {r : Reach} {b0 : Nat} {ts : List TypeId} {ds : List (DataW H)} {j : Nat}
    (ht : P.underlying t = some (.slice e)) (hval : Value.okWide P W r b0 t v) (h : DataW.Trod enc P W 0 (fun _ => true) true t v d ps)
    (hsz : (DataW.weightsEach P ts ds).all (· ≤ reachBytes) = true) (hj : ts[j]? = some t) (hd : ds[j]? = some d) (bytes : Nat) (hb : P.bytesOf e = bytes) :
    ∃ a n c, v = .slice a n c ∧ n * bytes ≤ 140737488351232 := by
  obtain ⟨a0, len0, cap0, rfl⟩ := okWide_slice ht hval
  obtain ⟨fuel, hf⟩ := h
  rcases Deep.open_slice ht hf with ⟨hcs, -⟩ | ⟨a, len, cap, m, n, D, Pl, hcs, -, hl, -, hmm, hx, -⟩
  · simp [Value.cells] at hcs
    obtain ⟨rfl, rfl, rfl⟩ := hcs
    exact ⟨_, _, _, rfl, by simp⟩
  · simp [Value.cells] at hcs
    obtain ⟨rfl, rfl, rfl⟩ := hcs
    simp only [Prod.mk.injEq] at hx
    have hd' := hx.1
    subst hd'
    have := sized_slice hsz hj hd ht
    simp only [List.length_map, List.length_range] at this
    rw [hb] at this
    have h3 : len0 * bytes ≤ (len0 + (m - len0)) * bytes := Nat.mul_le_mul_right _ (by omega)
    have h4 : reachBytes = 140737488351232 := by decide
    exact ⟨_, _, _, rfl, by omega⟩
theorem row_len {w : World} {v : Value} {size n : Nat} {cs : List Value} (h : Row w v size n cs) {a : Option Addr} {m c : Nat} (e : v = .slice a m c) : m = n := by
  obtain ⟨p, c', hv, -⟩ := h
  rw [e] at hv
  simp only [Value.slice.injEq] at hv
  exact hv.2.1
end Go.Proofs.YtmgbailpmcggiaaGreat
namespace Go.Proofs.YtmgbailpmcggiaaGreat
open Go.ChangeShapes Go.WideShapes Go.ChangeAt Go.RowKit

section
variable (P : Program)
/-- the leaves of fields that lie one behind the other -/
def leafsL (rec : TypeId → Option (List TypeId)) : Nat → List Field → Option (List TypeId)
  | _, [] => some []
  | o, f :: fs => match rec f.type with
    | some l => if f.offset == o && P.cellsOf f.type == l.length then (leafsL rec (o + l.length) fs).map (l ++ ·) else none
    | none => none
def leafs : Nat → TypeId → Option (List TypeId)
  | 0, _ => none
  | n + 1, t => if plainType P t then some [t] else match P.underlying t with
    | some (.struct fs) => leafsL P (leafs n) 0 fs.toList
    | _ => none
end

/-- cells read as leaves -/
def Leaves (P : Program) (ls : List TypeId) (cs : List Value) : Prop := cs.length = ls.length ∧ ∀ i t, ls[i]? = some t → fieldOk P t (cs.getD i undef)

theorem Leaves.append {P : Program} {ls ms : List TypeId} {cs ds : List Value} (h : Leaves P ls cs) (k : Leaves P ms ds) : Leaves P (ls ++ ms) (cs ++ ds) := by
  refine ⟨by simp [h.1, k.1], fun i t hi => ?_⟩
  by_cases hlt : i < ls.length
  · rw [List.getElem?_append_left hlt] at hi
    have := h.2 i t hi
    rwa [List.getD_eq_getElem?_getD, List.getElem?_append_left (by rw [h.1]; exact hlt), ← List.getD_eq_getElem?_getD]
  · rw [List.getElem?_append_right (by omega)] at hi
    have := k.2 _ t hi
    rwa [List.getD_eq_getElem?_getD, List.getElem?_append_right (by rw [h.1]; omega), ← List.getD_eq_getElem?_getD, h.1]

section
variable {H : Type} {enc : TypeId × Value → H} {P : Program} {W : World} {base : Nat} {sp : Nat → Bool} {held : Bool}

theorem leavesL {rec : TypeId → Option (List TypeId)} {cs : List Value} (hrec : ∀ t l n ds x, rec t = some l → DataW.trod enc P W base sp held n t ds = some x → Leaves P l ds) :
    ∀ (fs : List Field) (o : Nat) (ls : List TypeId), leafsL P rec o fs = some ls → (∀ f ∈ fs, ∃ n x, DataW.trod enc P W base sp held n f.type ((cs.drop f.offset).take (P.cellsOf f.type)) = some x) → Leaves P ls ((cs.drop o).take ls.length)
  | [], o, ls, h, _ => by
    simp only [leafsL, Option.some.injEq] at h
    subst h
    exact ⟨by simp, fun i t hi => by simp at hi⟩
  | f :: fs, o, ls, h, hf => by
    simp only [leafsL] at h
    cases hr : rec f.type with
    | none => rw [hr] at h; cases h
    | some l =>
      rw [hr] at h
      simp only at h
      split at h
      · rename_i hc
        simp only [Bool.and_eq_true, beq_iff_eq] at hc
        cases hq : leafsL P rec (o + l.length) fs with
        | none => rw [hq] at h; cases h
        | some ms =>
          rw [hq] at h
          simp only [Option.map_some, Option.some.injEq] at h
          subst h
          obtain ⟨n, x, hx⟩ := hf f (by simp)
          have h1 := hrec f.type l n _ x hr hx
          rw [hc.1, hc.2] at h1
          have h2 := leavesL hrec fs (o + l.length) ms hq (fun g hg => hf g (by simp [hg]))
          have := h1.append h2
          have e : (cs.drop o).take l.length ++ (cs.drop (o + l.length)).take ms.length = (cs.drop o).take (l ++ ms).length := by
            rw [List.length_append, ← List.drop_drop, List.take_add]
          rwa [e] at this
      · cases h
theorem leaves_of_trod : ∀ (d : Nat) (t : TypeId) (ls : List TypeId) (n : Nat) (cs : List Value) (x : DataW H × List MemPlace), leafs P d t = some ls → DataW.trod enc P W base sp held n t cs = some x → P.cellsOf t = ls.length → Leaves P ls cs
  | 0, _, _, _, _, _, h, _, _ => by cases h
  | d + 1, t, ls, n, cs, x, h, hx, hC => by
    simp only [leafs] at h
    split at h
    · rename_i hp
      simp only [Option.some.injEq] at h
      subst h
      have hone : ∃ v, cs = [v] := by
        unfold plainType at hp
        split at hp
        · rename_i k hk; obtain ⟨m, h1, -⟩ := DataW.trod_int hk hx; exact ⟨_, h1⟩
        · rename_i hk; obtain ⟨m, h1, -⟩ := DataW.trod_string hk hx; exact ⟨_, h1⟩
        · rename_i hk; obtain ⟨m, h1, -⟩ := DataW.trod_bool hk hx; exact ⟨_, h1⟩
        · cases hp
      obtain ⟨v, rfl⟩ := hone
      have := field_of_trod hp hx
      refine ⟨rfl, fun i t' hi => ?_⟩
      match i, hi with
      | 0, hi =>
        simp only [List.getElem?_cons_zero, Option.some.injEq] at hi
        subst hi
        exact this
    · split at h
      · rename_i fs hs
        obtain ⟨xs, m, -, -, hl, hxl, hf⟩ := DataW.trod_struct hs hx
        have := leavesL (cs := cs) (enc := enc) (W := W) (base := base) (sp := sp) (held := held) (rec := fun t => (leafs P d t).bind fun l => if P.cellsOf t = l.length then some l else none) (fun t l n ds x h1 h2 => by
          cases hq : leafs P d t with
          | none => rw [hq] at h1; cases h1
          | some l' =>
            rw [hq] at h1
            simp only [Option.bind_some] at h1
            split at h1
            · rename_i hc
              simp only [Option.some.injEq] at h1
              subst h1
              exact leaves_of_trod d t _ n ds x hq h2 hc
            · cases h1) fs.toList 0 ls (by
          have key : ∀ (gs : List Field) (o : Nat) (ms : List TypeId), leafsL P (leafs P d) o gs = some ms → leafsL P (fun t => (leafs P d t).bind fun l => if P.cellsOf t = l.length then some l else none) o gs = some ms := by
            intro gs
            induction gs with
            | nil => intro o ms h; exact h
            | cons g gs ih =>
              intro o ms h
              simp only [leafsL] at h ⊢
              cases hq : leafs P d g.type with
              | none => rw [hq] at h; cases h
              | some l =>
                rw [hq] at h
                simp only at h
                split at h
                · rename_i hc
                  have hc' := hc
                  simp only [Bool.and_eq_true, beq_iff_eq] at hc'
                  simp only [Option.bind_some, hc'.2, if_true]
                  rw [if_pos (by simp [hc'.1])]
                  cases hr : leafsL P (leafs P d) (o + l.length) gs with
                  | none => rw [hr] at h; cases h
                  | some rs =>
                    rw [hr] at h
                    rw [ih _ _ hr]
                    exact h
                · cases h
          exact key _ _ _ h) (fun f hf' => by
          obtain ⟨i, hi, rfl⟩ := List.getElem_of_mem hf'
          have := hf i fs[i] (Array.getElem?_eq_getElem (by simpa using hi))
          have hi' : i < xs.length := by rw [hxl]; simpa using hi
          rw [List.getElem?_eq_getElem hi'] at this
          exact ⟨_, _, by simpa using this⟩)
        rw [List.drop_zero, List.take_of_length_le (by rw [hl, hC]; exact Nat.le_refl _)] at this
        exact this
      · cases h
end

/-- a struct by value -/
theorem open_deep {H : Type} {enc : TypeId × Value → H} {P : Program} {W : World} {t : TypeId} {fs : Array Field} {v : Value} {d : DataW H} {ps : List MemPlace} {r : Reach} {b0 : Nat} {ls : List TypeId}
    (hs : P.underlying t = some (.struct fs)) (dp : Nat) (hp : leafs P dp t = some ls) (hC : P.cellsOf t = ls.length) (hval : Value.okWide P W r b0 t v) (h : DataW.Trod enc P W 0 (fun _ => true) true t v d ps) :
    ∃ cs : List Value, v = .agg cs.toArray ∧ Leaves P ls cs := by
  obtain ⟨cs, rfl, -⟩ := okWide_struct hs hval
  obtain ⟨fuel, hf⟩ := h
  have := leaves_of_trod dp t ls _ _ _ hp hf hC
  exact ⟨cs.toList, rfl, by simpa [Value.cells] using this⟩

theorem Leaves.one {P : Program} {ls : List TypeId} {cs : List Value} (h : Leaves P ls cs) : ∀ u ∈ cs, u.oneCell' = true := by
  intro u hu
  obtain ⟨i, hi, rfl⟩ := List.getElem_of_mem hu
  have hi' : i < ls.length := by rw [← h.1]; exact hi
  have := (h.2 i ls[i] (List.getElem?_eq_getElem hi')).one
  simpa [List.getD, hi] using this

/-- a slice of structs -/
theorem open_deeps {H : Type} {enc : TypeId × Value → H} {P : Program} {W : World} {t e : TypeId} {v : Value} {d : DataW H} {ps : List MemPlace} {r : Reach} {b0 : Nat} {ls : List TypeId}
    (ht : P.underlying t = some (.slice e)) (dp : Nat) (hp : leafs P dp e = some ls) (hC : P.cellsOf e = ls.length) (hpos : 0 < ls.length) (hval : Value.okWide P W r b0 t v) (h : DataW.Trod enc P W 0 (fun _ => true) true t v d ps) :
    ∃ es : List (List Value), Row W v ls.length es.length es.flatten ∧ ∀ x ∈ es, Leaves P ls x := by
  obtain ⟨a0, len0, cap0, rfl⟩ := okWide_slice ht hval
  obtain ⟨fuel, hf⟩ := h
  rcases Deep.open_slice ht hf with ⟨hcs, -⟩ | ⟨a, len, cap, m, n, D, Pl, hcs, hb, hl, hm, hmm, -, hr⟩
  · simp [Value.cells] at hcs
    obtain ⟨rfl, rfl, rfl⟩ := hcs
    exact ⟨[], row_nil W _, by simp⟩
  · simp [Value.cells] at hcs
    obtain ⟨rfl, rfl, rfl⟩ := hcs
    simp only [if_true] at hmm
    subst hmm
    rw [hC] at hr
    obtain ⟨C, hCC⟩ := Deep.choose_lt (α := List Value) (p := fun i cs => W.cells? 0 (a.add (i * ls.length)) ls.length = some cs ∧ DataW.trod enc P W 0 (fun _ => true) true n e cs = some (D i, Pl i)) (fun i (hi : i < len0) => by
      obtain ⟨cs, h1, h2⟩ := hr i (by omega)
      exact ⟨cs, h1, h2⟩)
    have hok : ∀ i, i < len0 → Leaves P ls (C i) := fun i hi => leaves_of_trod dp e ls _ _ _ hp (hCC i hi).2 hC
    have hcell : ∀ i, i < len0 → ∀ j, j < ls.length → W.cell? ((a.add (i * ls.length)).add j) = (C i)[j]? := fun i hi => (World.cells?_some (hCC i hi).1).2.2
    have hmem : ∀ x ∈ (List.range len0).map C, Leaves P ls x := fun x hx => by
      obtain ⟨i, hi, rfl⟩ := List.mem_map.1 hx
      exact hok i (List.mem_range.1 hi)
    have hfl := flatten_len ((List.range len0).map C) (fun x hx => (hmem x hx).1)
    have hln : ((List.range len0).map C).length = len0 := by simp
    refine ⟨(List.range len0).map C, ⟨some a, m, by rw [hln], by rw [hln]; exact hl, hm, by rw [hfl], ?_, by simp, ?_⟩, hmem⟩
    · intro u hu
      obtain ⟨x, hx, hux⟩ := List.mem_flatten.1 hu
      exact (hmem x hx).one u hux
    · by_cases h0 : len0 = 0
      · left; subst h0; simp
      · right
        have hc0 := hcell 0 (by omega) 0 hpos
        rw [List.getElem?_eq_getElem (by rw [(hok 0 (by omega)).1]; exact hpos)] at hc0
        have hsp : a.spot = none := by
          have e0 : (a.add (0 * ls.length)).add 0 = a := by simp [Addr.add]
          rw [e0] at hc0
          exact spot_none hc0
        obtain ⟨b, o, spt⟩ := a
        simp only at hsp
        subst hsp
        refine ⟨b, o, rfl, fun j u hj => ?_⟩
        rw [flatten_get hpos _ (fun x hx => (hmem x hx).1)] at hj
        obtain ⟨x, hx, hjx⟩ := Option.bind_eq_some_iff.1 hj
        have hq : j / ls.length < len0 := by
          have := (List.getElem?_eq_some_iff.1 hx).1
          simpa using this
        have hx' : C (j / ls.length) = x := by simpa [hq] using hx
        have := hcell (j / ls.length) hq (j % ls.length) (Nat.mod_lt _ hpos)
        rw [add_off, add_off, hx', hjx] at this
        have e := Nat.div_add_mod j ls.length
        rw [Nat.mul_comm] at e
        rw [Nat.add_assoc, e] at this
        exact this
end Go.Proofs.YtmgbailpmcggiaaGreat
