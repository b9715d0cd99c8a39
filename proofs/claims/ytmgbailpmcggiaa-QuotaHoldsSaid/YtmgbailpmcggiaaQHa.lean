/- The order of grants, and the book's Grants. -/
import Derived.Test.YtmgbailpmcggiaaRw
import Derived.Shelf.SlSortCmp.WholeK
import Derived.Test.YtmgbailpmcggiaaQBo
import Derived.Test.YtmgbailpmcggiaaSortF
import Derived.Sort.OwnSorted
namespace Go.Proofs.Ytmgbailpmcggiaa
open Go.RowKit Go.Sort Go.Shelf

section
variable {α : Type} [Inhabited α] {enc : α → List Value} {k : Nat}
theorem flatK_list (hk : ∀ x, (enc x).length = k) (h0 : 0 < k) (l : List α) : (flatK enc k l.toArray).toList = rwC enc l := by
  apply List.ext_getElem?
  intro t
  have hs : (flatK enc k l.toArray).size = l.length * k := by simp
  by_cases ht : t < l.length * k
  · have hi : t / k < l.length := (Nat.div_lt_iff_lt_mul h0).2 ht
    have hj : t % k < k := Nat.mod_lt _ h0
    have h1 := get_flatK enc k l.toArray t (by simpa using ht)
    rw [Array.getElem?_toList, Array.getElem?_eq_getElem (by rw [hs]; exact ht)]
    rw [getElem!_pos _ t (by rw [hs]; exact ht)] at h1
    rw [h1]
    have h2 := rwC_at hk (L := l) hi hj
    have e : t / k * k + t % k = t := by rw [Nat.mul_comm]; exact Nat.div_add_mod t k
    rw [e] at h2
    rw [h2]
    have h3 : (l.toArray)[t / k]! = l[t / k] := by rw [getElem!_pos l.toArray (t / k) (by simpa using hi)]; simp
    rw [h3]
    have h4 : t % k < (enc l[t / k]).length := by rw [hk]; exact hj
    rw [List.getElem?_eq_getElem h4, getElem!_pos (enc l[t / k]) (t % k) h4]
  · rw [List.getElem?_eq_none (by rw [Array.length_toList, hs]; omega), List.getElem?_eq_none (by rw [rwC_len hk]; omega)]
theorem holdsK_of {w : World} {g : Nat} {cur : Array Value} {e : TypeId} {l : List α} (hk : ∀ x, (enc x).length = k) (h0 : 0 < k) (hb : w.heap[g]? = some (.cells cur e (0, 0))) (ht : cur.toList.take (l.length * k) = rwC enc l) : HoldsK enc k w g 0 l.toArray := by
  intro j hj
  have hj' : j < l.length * k := by simpa using hj
  refine ⟨?_, by simp [World.frozen?, hb]⟩
  have h1 : (cur.toList.take (l.length * k))[j]? = (rwC enc l)[j]? := by rw [ht]
  rw [List.getElem?_take_of_lt hj', ← flatK_list hk h0, Array.getElem?_toList, Array.getElem?_toList] at h1
  simp only [World.cell?, hb, Nat.zero_add]
  simp only [Option.isSome_none, Bool.false_eq_true, if_false]
  rw [h1, Array.getElem?_eq_getElem hj, getElem!_pos _ j hj]
  rfl
theorem heap_sortedK {w : World} {g n : Nat} {os : Array Obj} {cur : Array Value} {e : TypeId} {fr : Nat × Nat} (d : Array α) (hb : w.heap[g]? = some (.cells cur e fr)) :
    (sortWorldK enc k w g 0 n d os).heap[g]? = some (.cells (putCells id 0 (flatK enc k d) cur) e fr) := by
  have hg : g < w.heap.size := (Array.getElem?_eq_some_iff.1 hb).1
  unfold sortWorldK putRowK
  rw [heap_grow_old _ _ (by simpa using hg)]
  simp [putRow, mapBlock, Sort.ahead, Array.getElem?_modify, hb]
  rfl
theorem grownBy_sortedK {w : World} {g n : Nat} {os : Array Obj} (d : Array α) : w.grownBy (sortWorldK enc k w g 0 n d os) (some g) := by
  unfold sortWorldK putRowK
  refine ⟨rfl, rfl, rfl, by simp, fun j hj hne => ?_⟩
  rw [heap_grow_old _ _ (by simpa using hj)]
  have : g ≠ j := fun e => hne (by rw [e])
  simp [putRow, mapBlock, Sort.ahead, Array.getElem?_modify, this]
theorem take_putCellsK (cur : Array Value) (F : Array Value) (h : F.size ≤ cur.size) : (putCells id 0 F cur).toList.take F.size = F.toList := by
  apply List.ext_getElem?
  intro j
  by_cases hj : j < F.size
  · rw [List.getElem?_take_of_lt hj, Array.getElem?_toList]
    simp [putCells, hj, show j < cur.size by omega]
  · rw [List.getElem?_take_eq_none (by omega), List.getElem?_eq_none (by simp; omega)]
theorem ownsRow_sortedK {w : World} {base g cap n m : Nat} {e : TypeId} {os : Array Obj} {cur : Array Value} {l : List α} (hk : ∀ x, (enc x).length = k) (h0 : 0 < k) (hl : l.length = m) (hbase : base ≤ g) (hb : w.heap[g]? = some (.cells cur e (0, 0)))
    (h1 : m ≤ cap) (h2 : cap ≤ maxLen) (h3 : cur.size = cap * k) :
    (sortWorldK enc k w g 0 n l.toArray os).ownsRow base e k (.slice (some ⟨g, 0, none⟩) m cap) m (rwC enc l) := by
  subst hl
  refine ⟨rwC_len hk l, .inr ⟨g, cap, _, rfl, hbase, heap_sortedK _ hb, h1, h2, by simp [putCells, h3], ?_⟩⟩
  have h4 : (flatK enc k l.toArray).size = l.length * k := by simp
  rw [← h4, ← flatK_list hk h0]
  exact take_putCellsK cur _ (by rw [h4, h3]; exact Nat.mul_le_mul_right _ h1)
end
end Go.Proofs.Ytmgbailpmcggiaa
namespace Go.Proofs.Ytmgbailpmcggiaa
open Go.RowKit
open Go.Sort (grow)

theorem less_lt (a b : List UInt8) : Op.bytesLess a b = decide (a < b) := by
  have e : ∀ a b : List UInt8, Op.bytesLess a b = bytesBefore a b := by
    intro a
    induction a with
    | nil => intro b; cases b <;> rfl
    | cons x a ih =>
      intro b
      cases b with
      | nil => rfl
      | cons y b =>
        show (x < y || (x == y && Op.bytesLess a b)) = (x < y || (x == y && bytesBefore a b))
        rw [ih b]
  rw [e]
  have h := before_lt a b
  cases hb : bytesBefore a b
  · have : ¬ a < b := fun h2 => by rw [h.2 h2] at hb; cases hb
    simp [this]
  · simp [h.1 hb]

def cmpS (u v : ByteArray) : Int := if u.data.toList < v.data.toList then -1 else if v.data.toList < u.data.toList then 1 else 0
def cmpI (a b : Int) : Int := if a < b then -1 else if b < a then 1 else 0
def cmpG (g h : Gr) : Int := if cmpS g.u h.u = 0 then cmpI g.b h.b else cmpS g.u h.u

theorem nan_str (s : ByteArray) (w : World) : Calls Try.prog 49 #[.string s] w fun e w' => e = .returned (.bool false) ∧ w = w' := by
  go_enter Try.func49, Try.ntmps49
  go_wp2
  go_ret
  exact ⟨ret_bool (by simp), rfl⟩
theorem nan_int (a : Int) (w : World) : Calls Try.prog 50 #[.int .i64 a] w fun e w' => e = .returned (.bool false) ∧ w = w' := by
  go_enter Try.func50, Try.ntmps50
  go_wp2
  go_ret
  exact ⟨ret_bool (by simp), rfl⟩
set_option maxRecDepth 100000 in
theorem compare_str (u v : ByteArray) (w : World) : Calls Try.prog 37 #[.string u, .string v] w fun e w' => e = .returned (.int .i64 (cmpS u v)) ∧ w = w' := by
  by_cases h1 : u.data.toList < v.data.toList
  · have HR : Hid (cmpS u v = -1) := Lib.hid (by unfold cmpS; rw [if_pos h1])
    have t1 : Op.bytesLess u.toList v.toList = true := by rw [less_lt, Lib.toList_data, Lib.toList_data]; simpa using h1
    clear h1
    go_enter Try.func37, Try.ntmps37
    go_wp2_with (go_at_call 49; refine (nan_str _ _).mono ?_; rintro e w' ⟨rfl, rfl⟩)
    go_ret
    exact ⟨ret_int HR.out.symm, rfl⟩
  · have t1 : Op.bytesLess u.toList v.toList = false := by rw [less_lt, Lib.toList_data, Lib.toList_data]; simpa using h1
    by_cases h2 : v.data.toList < u.data.toList
    · have HR : Hid (cmpS u v = 1) := Lib.hid (by unfold cmpS; rw [if_neg h1, if_pos h2])
      have t2 : Op.bytesLess v.toList u.toList = true := by rw [less_lt, Lib.toList_data, Lib.toList_data]; simpa using h2
      have t3 : (u.toList == v.toList) = false := by
        rw [Lib.toList_data, Lib.toList_data]
        simp only [beq_eq_false_iff_ne, ne_eq]
        intro e
        rw [e] at h2
        exact lt_irr _ h2
      clear h1 h2
      go_enter Try.func37, Try.ntmps37
      go_wp2_with (go_at_call 49; refine (nan_str _ _).mono ?_; rintro e w' ⟨rfl, rfl⟩)
      go_ret
      exact ⟨ret_int HR.out.symm, rfl⟩
    · have HR : Hid (cmpS u v = 0) := Lib.hid (by unfold cmpS; rw [if_neg h1, if_neg h2])
      have t2 : Op.bytesLess v.toList u.toList = false := by rw [less_lt, Lib.toList_data, Lib.toList_data]; simpa using h2
      have t3 : (u.toList == v.toList) = true := by
        rw [Lib.toList_data, Lib.toList_data]
        by_cases e : u.data.toList = v.data.toList
        · simpa using e
        · exact absurd (lt_tot h1 e) h2
      clear h1 h2
      go_enter Try.func37, Try.ntmps37
      go_wp2_with (go_at_call 49; refine (nan_str _ _).mono ?_; rintro e w' ⟨rfl, rfl⟩)
      go_ret
      exact ⟨ret_int HR.out.symm, rfl⟩
set_option maxRecDepth 100000 in
theorem compare_int (a b : Int) (w : World) : Calls Try.prog 38 #[.int .i64 a, .int .i64 b] w fun e w' => e = .returned (.int .i64 (cmpI a b)) ∧ w = w' := by
  by_cases h1 : a < b
  · have HR : Hid (cmpI a b = -1) := Lib.hid (by unfold cmpI; rw [if_pos h1])
    go_enter Try.func38, Try.ntmps38
    go_wp2_with (go_at_call 50; refine (nan_int _ _).mono ?_; rintro e w' ⟨rfl, rfl⟩)
    go_ret
    exact ⟨ret_int HR.out.symm, rfl⟩
  · have d1 : decide (a < b) = false := by simpa using h1
    by_cases h2 : b < a
    · have HR : Hid (cmpI a b = 1) := Lib.hid (by unfold cmpI; rw [if_neg h1, if_pos h2])
      clear h1
      go_enter Try.func38, Try.ntmps38
      go_wp2_with (go_at_call 50; refine (nan_int _ _).mono ?_; rintro e w' ⟨rfl, rfl⟩)
      go_ret
      exact ⟨ret_int HR.out.symm, rfl⟩
    · have HR : Hid (cmpI a b = 0) := Lib.hid (by unfold cmpI; rw [if_neg h1, if_neg h2])
      have d2 : decide (b < a) = false := by simpa using h2
      clear h1 h2
      go_enter Try.func38, Try.ntmps38
      go_wp2_with (go_at_call 50; refine (nan_int _ _).mono ?_; rintro e w' ⟨rfl, rfl⟩)
      go_ret
      exact ⟨ret_int HR.out.symm, rfl⟩
set_option maxRecDepth 100000 in
theorem or_two (g : Nat) (a b : Int) (w : World) (h0 : w.cell? ⟨g, 0, none⟩ = some (.int .i64 a)) (h1 : w.cell? ⟨g, 1, none⟩ = some (.int .i64 b)) :
    Calls Try.prog 36 #[.slice (some ⟨g, 0, none⟩) 2 2] w fun e w' => e = .returned (.int .i64 (if a = 0 then b else a)) ∧ w = w' := by
  go_enter Try.func36, Try.ntmps36
  go_wp2
  go_loop [8] (fun i => ∃ k : Nat, k ≤ 2 ∧ i = .int .i64 (k : Int) ∧ Hid ((1 ≤ k → a = 0) ∧ (2 ≤ k → b = 0))) (fun i => 2 - (intOf i).toNat)
  case atStart => exact ⟨0, Nat.zero_le _, rfl, Lib.hid ⟨fun h => by omega, fun h => by omega⟩⟩
  case round =>
    obtain ⟨k, hk, rfl, HN⟩ := hrel
    obtain rfl | rfl | rfl : k = 0 ∨ k = 1 ∨ k = 2 := by omega
    · by_cases ha : a = 0
      · subst ha
        go_wp2
        go_round
        case rel => exact ⟨1, by omega, by go_num, Lib.hid (by constructor <;> intro h <;> first | rfl | trivial | omega)⟩
        case measure => simp [intOf]
      · have HA := Lib.hid ha
        have t : (a != 0) = true := by simpa using ha
        clear ha
        go_wp2
        go_ret
        exact ⟨ret_int (by have := HA.out; simp [this]), rfl⟩
    · have ha := HN.out.1 (by omega)
      subst ha
      by_cases hb : b = 0
      · subst hb
        go_wp2
        go_round
        case rel => exact ⟨2, by omega, by go_num, Lib.hid (by constructor <;> intro h <;> first | rfl | trivial | omega)⟩
        case measure => simp [intOf]
      · have t : (b != 0) = true := by simpa using hb
        clear hb
        go_wp2
        go_ret
        exact ⟨ret_int (by simp), rfl⟩
    · have ha := HN.out.1 (by omega)
      have hb := HN.out.2 (by omega)
      subst ha hb
      go_wp2
      go_ret
      exact ⟨ret_int (by simp), rfl⟩
theorem grow_two (w : World) (a b : Obj) : (w.alloc a).alloc b = grow w #[a, b] := by
  have h : w.heap ++ #[a, b] = (w.heap.push a).push b := by apply Array.ext'; simp
  unfold grow
  rw [h]
  rfl
theorem grow_three (w : World) (a b c : Obj) : (grow w #[a, b]).drew.alloc c = grow (w.drewN 1) #[a, b, c] := by
  have h : (w.drewN 1).heap ++ #[a, b, c] = (w.heap ++ #[a, b]).push c := by
    show w.heap ++ #[a, b, c] = _
    apply Array.ext'; simp
  unfold grow
  rw [h]
  rfl
set_option maxRecDepth 100000 in
set_option maxHeartbeats 2000000 in
theorem gcmp_any (x y : Gr) (w : World) : Calls Try.prog 35 #[grV x, grV y] w fun e w' => e = .returned (.int .i64 (cmpG x y)) ∧ ∃ q os, w' = grow (w.drewN q) os := by
  obtain ⟨w3, hw3⟩ : ∃ w3, w3 = (w.alloc (.cells #[.string x.u, .int .i64 x.b, .int .i64 x.a.c, .int .i64 x.a.r, .int .i64 x.a.d, .int .i64 x.a.p] 76)).alloc (.cells #[.string y.u, .int .i64 y.b, .int .i64 y.a.c, .int .i64 y.a.r, .int .i64 y.a.d, .int .i64 y.a.p] 76) := ⟨_, rfl⟩
  obtain ⟨B, hB⟩ : ∃ B, B = w.heap.size := ⟨_, rfl⟩
  have B0 : Hid (Blk w3 B (grC x) 76) := Lib.hid (by rw [hw3, hB]; exact (Blk.made w (grC x) _).alloc _)
  have B1 : Hid (Blk w3 (B + 1) (grC y) 76) := Lib.hid (by
    have := Blk.made (w.alloc (.cells #[.string x.u, .int .i64 x.b, .int .i64 x.a.c, .int .i64 x.a.r, .int .i64 x.a.d, .int .i64 x.a.p] 76)) (grC y) 76
    rw [hw3, hB]; simpa using this)
  have HW : Hid (w3 = grow w #[.cells #[.string x.u, .int .i64 x.b, .int .i64 x.a.c, .int .i64 x.a.r, .int .i64 x.a.d, .int .i64 x.a.p] 76, .cells #[.string y.u, .int .i64 y.b, .int .i64 y.a.c, .int .i64 y.a.r, .int .i64 y.a.d, .int .i64 y.a.p] 76]) := Lib.hid (by rw [hw3, grow_two])
  have HR : Hid (cmpG x y = if cmpS x.u y.u = 0 then cmpI x.b y.b else cmpS x.u y.u) := Lib.hid rfl
  have HS : Hid (∀ w', Below w3.heap.size w3 w' → w'.cell? ⟨B, 0, none⟩ = some (.string x.u) ∧ w'.cell? ⟨B, 1, none⟩ = some (.int .i64 x.b) ∧ w'.cell? ⟨B + 1, 0, none⟩ = some (.string y.u) ∧ w'.cell? ⟨B + 1, 1, none⟩ = some (.int .i64 y.b)) := Lib.hid (fun w' hb => ⟨(B0.out.kept hb).cell (j := 0) rfl, (B0.out.kept hb).cell (j := 1) rfl, (B1.out.kept hb).cell (j := 0) rfl, (B1.out.kept hb).cell (j := 1) rfl⟩)
  obtain ⟨a, ha⟩ : ∃ a, a = cmpS x.u y.u := ⟨_, rfl⟩
  obtain ⟨b, hb⟩ : ∃ b, b = cmpI x.b y.b := ⟨_, rfl⟩
  have HC1 : Hid (∀ w, Calls Try.prog 37 #[.string x.u, .string y.u] w fun e w' => e = .returned (.int .i64 a) ∧ w = w') := Lib.hid (fun w => by rw [ha]; exact compare_str _ _ w)
  have HC2 : Hid (∀ w, Calls Try.prog 38 #[.int .i64 x.b, .int .i64 y.b] w fun e w' => e = .returned (.int .i64 b) ∧ w = w') := Lib.hid (fun w => by rw [hb]; exact compare_int _ _ w)
  rw [← ha, ← hb] at HR
  obtain ⟨c, hc⟩ : ∃ c, c = if a = 0 then b else a := ⟨_, rfl⟩
  have HOR : Hid (∀ g w, w.cell? ⟨g, 0, none⟩ = some (.int .i64 a) → w.cell? ⟨g, 1, none⟩ = some (.int .i64 b) → Calls Try.prog 36 #[.slice (some ⟨g, 0, none⟩) 2 2] w fun e w' => e = .returned (.int .i64 c) ∧ w = w') := Lib.hid (fun g w h0 h1 => by rw [hc]; exact or_two g a b w h0 h1)
  rw [← hc] at HR
  clear ha hb hc
  go_enter Try.func35, Try.ntmps35
  go_upto_region 1 with fail
  rw [← hw3, ← hB]
  clear hw3 hB
  go_region_held3 (fun w' => w'.cell? ⟨B, 0, none⟩ = some (.string x.u) ∧ w'.cell? ⟨B, 1, none⟩ = some (.int .i64 x.b) ∧ w'.cell? ⟨B + 1, 0, none⟩ = some (.string y.u) ∧ w'.cell? ⟨B + 1, 1, none⟩ = some (.int .i64 y.b))
    (refine HS.out _ ?_ <;> (repeat (first | with_reducible exact Below.refl _ _ | with_reducible (apply bl_drew) | with_reducible (refine below_and ?_ (below_alloc _ _)))))
    (first
      | (go_at_call 37; refine (HC1.out _).mono ?_; rintro e w' ⟨rfl, rfl⟩)
      | (go_at_call 38; refine (HC2.out _).mono ?_; rintro e w' ⟨rfl, rfl⟩)
      | (go_at_call 36; refine (HOR.out _ _ (by first | exact (Blk.made _ [.int .i64 a, .int .i64 b] _).cell (j := 0) rfl | rfl) (by first | exact (Blk.made _ [.int .i64 a, .int .i64 b] _).cell (j := 1) rfl | rfl)).mono ?_; rintro e w' ⟨rfl, rfl⟩))
  all_goals go_wp2
  all_goals go_ret
  all_goals refine ⟨ret_int HR.out.symm, 1, #[.cells #[.string x.u, .int .i64 x.b, .int .i64 x.a.c, .int .i64 x.a.r, .int .i64 x.a.d, .int .i64 x.a.p] 76, .cells #[.string y.u, .int .i64 y.b, .int .i64 y.a.c, .int .i64 y.a.r, .int .i64 y.a.d, .int .i64 y.a.p] 76, .cells #[.int .i64 a, .int .i64 b] 3], ?_⟩
  all_goals rw [HW.out]
  all_goals exact grow_three w _ _ _
end Go.Proofs.Ytmgbailpmcggiaa
namespace Go.Proofs.Ytmgbailpmcggiaa
open Go.RowKit

instance : Inhabited Gr := ⟨⟨⟨#[]⟩, 0, ⟨0, 0, 0, 0⟩⟩⟩
/-- a grant is ahead of another one -/
def glt (x y : Gr) : Prop := x.u.data.toList < y.u.data.toList ∨ (x.u.data.toList = y.u.data.toList ∧ x.b < y.b)
theorem cmpG_lt (x y : Gr) : cmpG x y < 0 ↔ glt x y := by
  by_cases h1 : x.u.data.toList < y.u.data.toList
  · have c : cmpS x.u y.u = -1 := by unfold cmpS; rw [if_pos h1]
    unfold cmpG
    rw [c, if_neg (by omega)]
    exact ⟨fun _ => .inl h1, fun _ => by omega⟩
  · by_cases h2 : y.u.data.toList < x.u.data.toList
    · have c : cmpS x.u y.u = 1 := by unfold cmpS; rw [if_neg h1, if_pos h2]
      have h3 : ¬ x.u.data.toList = y.u.data.toList := fun e => lt_irr _ (e ▸ h2)
      unfold cmpG
      rw [c, if_neg (by omega)]
      refine ⟨fun h => by omega, fun h => ?_⟩
      rcases h with h | ⟨h, -⟩
      · exact absurd h h1
      · exact absurd h h3
    · have c : cmpS x.u y.u = 0 := by unfold cmpS; rw [if_neg h1, if_neg h2]
      have h3 : x.u.data.toList = y.u.data.toList := by
        by_cases e : x.u.data.toList = y.u.data.toList
        · exact e
        · exact absurd (lt_tot h1 e) h2
      unfold cmpG
      rw [if_pos c]
      unfold cmpI
      have hr : glt x y ↔ x.b < y.b := ⟨fun h => by
        rcases h with h | ⟨-, h⟩
        · exact absurd h h1
        · exact h, fun h => .inr ⟨h3, h⟩⟩
      rw [hr]
      by_cases h4 : x.b < y.b
      · rw [if_pos h4]; exact ⟨fun _ => h4, fun _ => by omega⟩
      · rw [if_neg h4]
        refine ⟨fun h => ?_, fun h => absurd h h4⟩
        split at h <;> omega
theorem glt_irr (x : Gr) : ¬ glt x x := by
  rintro (h | ⟨-, h⟩)
  · exact lt_irr _ h
  · omega
theorem glt_tr {x y z : Gr} (h : glt x y) (k : glt y z) : glt x z := by
  rcases h with h | ⟨h1, h2⟩
  · rcases k with k | ⟨k1, k2⟩
    · exact .inl (lt_tr h k)
    · exact .inl (k1 ▸ h)
  · rcases k with k | ⟨k1, k2⟩
    · exact .inl (h1 ▸ k)
    · exact .inr ⟨h1.trans k1, by omega⟩
theorem glt_tot {x y : Gr} (h : ¬ glt x y) (hne : ¬ (x.u.data.toList = y.u.data.toList ∧ x.b = y.b)) : glt y x := by
  unfold glt at *
  by_cases e : x.u.data.toList = y.u.data.toList
  · refine .inr ⟨e.symm, ?_⟩
    have h1 : ¬ x.b < y.b := fun h2 => h (.inr ⟨e, h2⟩)
    have h3 : ¬ x.b = y.b := fun h2 => hne ⟨e, h2⟩
    omega
  · exact .inl (lt_tot (fun h2 => h (.inl h2)) e)
theorem gswo : Go.Sort.SWO (ltOf cmpG) := by
  have hl : ∀ x y, ltOf cmpG x y = true ↔ glt x y := fun x y => by unfold ltOf; rw [decide_eq_true_eq, cmpG_lt]
  refine ⟨fun x => ?_, fun x y z h k => ?_, fun x y z h k => ?_⟩
  · rw [← Bool.not_eq_true, hl]; exact glt_irr x
  · rw [hl] at *; exact glt_tr h k
  · rw [← Bool.not_eq_true, hl] at *
    intro hz
    by_cases e : x.u.data.toList = y.u.data.toList ∧ x.b = y.b
    · refine k ?_
      unfold glt at *
      rw [← e.1, ← e.2]; exact hz
    · by_cases e2 : y.u.data.toList = z.u.data.toList ∧ y.b = z.b
      · refine h ?_
        unfold glt at *
        rw [e2.1, e2.2]; exact hz
      · exact glt_irr _ (glt_tr hz (glt_tr (glt_tot k e2) (glt_tot h e)))

/-- grants are told apart by user and band -/
def GApart (G : List Gr) : Prop := G.Pairwise fun x y => ¬ (x.u.data.toList = y.u.data.toList ∧ x.b = y.b)
theorem gapart_of {G : List Gr} (h : KApart Gr.key G) : GApart G := h.imp fun {x y} k e => k (by
  unfold Gr.key kT
  rw [e.1, e.2])
theorem sorted_glt {S : List Gr} (ha : GApart S) (hs : Go.Sort.SortedIn (ltOf cmpG) 0 S.length S.toArray) : S.Pairwise glt := by
  rw [List.pairwise_iff_getElem]
  intro i j hi hj hij
  have h1 := hs i j (Nat.zero_le _) hij hj
  have h2 : (S.toArray)[i]! = S[i] := by rw [getElem!_pos _ _ (by simpa using hi)]; simp
  have h3 : (S.toArray)[j]! = S[j] := by rw [getElem!_pos _ _ (by simpa using hj)]; simp
  rw [h2, h3] at h1
  have h4 := (List.pairwise_iff_getElem.1 ha) i j hi hj hij
  unfold ltOf at h1
  have h5 : ¬ glt S[j] S[i] := by rw [← cmpG_lt]; simpa using h1
  exact glt_tot h5 (fun e => h4 ⟨e.1.symm, e.2.symm⟩)
theorem gsorted_one {S T : List Gr} (hs : S.Pairwise glt) (ht : T.Pairwise glt) (hp : S.Perm T) : S = T :=
  List.Perm.eq_of_pairwise (le := glt) (fun a b _ _ h1 h2 => absurd (glt_tr h1 h2) (glt_irr a)) hs ht hp

theorem grC_len (c : Gr) : (grC c).length = 6 := rfl
theorem grC_one (c : Gr) : ∀ u ∈ grC c, u.oneCell' = true := by
  intro u hx
  simp only [List.mem_cons, List.not_mem_nil, or_false] at hx
  rcases hx with rfl | rfl | rfl | rfl | rfl | rfl <;> rfl
abbrev zG : Gr := ⟨⟨#[]⟩, 0, ⟨0, 0, 0, 0⟩⟩
theorem info_gr : (Try.prog.info? 76).map (fun i => (i.zero, i.size, i.bytes)) = some (some (grV zG), 6, 56) := by kernel_rfl

theorem gsort_own {base : Nat} {v : Value} (L : List Gr) (w : World) (ho : w.ownsRow base 76 6 v L.length (rwC grC L)) (ha : GApart L) (hl : L.length < 4611686018427387904) :
    Calls Try.prog 34 #[v, .func (.func 35) #[] #[]] w fun e w' => e = .returned (.tuple #[]) ∧ ∃ S, S.Perm L ∧ S.Pairwise glt ∧ w'.ownsRow base 76 6 v L.length (rwC grC S) ∧ w.grownBy w' v.ownBlock := by
  rcases ho.2 with ⟨hnil, h0⟩ | ⟨g, cap, cur, rfl, hbase, hb, h1, h2, h3, h4⟩
  · subst hnil
    have : L = [] := List.eq_nil_of_length_eq_zero h0
    subst this
    refine (AnyF.slices_SortFunc_none Try.sortf34 none 0 _ w).mono ?_
    rintro e w' ⟨rfl, rfl⟩
    exact ⟨rfl, [], List.Perm.refl _, List.Pairwise.nil, by simpa using ho, ⟨rfl, rfl, rfl, Nat.le_refl _, fun _ _ _ => rfl⟩⟩
  · have hg := (Array.getElem?_eq_some_iff.1 hb).1
    have hcall := AnyQ.slices_SortFunc (P := Try.prog) Try.sortf34 6 Try.isAgg76 Try.sizeOf76 grC grC_len grC_one cmpG gswo 35 #[] g 0 cap L.toArray w (enters_of Try.func35 (by kernel_rfl) rfl) (fun m os dk _ x y => gcmp_any x y _) (holdsK_of grC_len (by omega) hb h4) hg (by simpa using hl)
    refine hcall.mono ?_
    rintro e w' ⟨rfl, d', n, os, hp, hs, rfl⟩
    obtain ⟨S⟩ := d'
    have hsz : S.length = L.length := by have := hp.1; simpa using this
    have hpm : S.Perm L := by
      have := hp.2.2
      simp [← hsz] at this
      rw [hsz, List.take_length] at this
      exact this
    have hss : Go.Sort.SortedIn (ltOf cmpG) 0 S.length S.toArray := by
      rw [hsz]; simpa using hs
    have hap : GApart S := (hpm.pairwise_iff (fun {x y} h e => h ⟨e.1.symm, e.2.symm⟩)).2 ha
    exact ⟨rfl, S, hpm, sorted_glt hap hss, ownsRow_sortedK grC_len (by omega) hsz hbase hb h1 h2 h3, grownBy_sortedK _⟩
end Go.Proofs.Ytmgbailpmcggiaa
namespace Go.Proofs.Ytmgbailpmcggiaa
open Go.RowKit

theorem SRange.grown {P : Program} {k : TypeId} {w w' : World} {b r : Nat} {m : SM} {left : Lit → Bool} {cnt : Nat} {row : Option Nat} (h : SRange P k w b r m left cnt) (hg : w.grownBy w' row) (h1 : some b ≠ row) (h2 : some r ≠ row) : SRange P k w' b r m left cnt := by
  obtain ⟨es, clock, since, seen, c0, k1, k2, k3, k4, k5, k6⟩ := h
  refine ⟨es, clock, since, seen, c0, ?_, k2, k3, k4, ?_, k6⟩
  · rw [hg.block b (Array.getElem?_eq_some_iff.1 k1).1 h1]; exact k1
  · rw [hg.block r (Array.getElem?_eq_some_iff.1 k5).1 h2]; exact k5

/-- of the grants, those that have come up -/
def come (G : List Gr) (left : Lit → Bool) : List Gr := G.filter fun g => !left (.string g.key)
theorem come_start {G : List Gr} {left : Lit → Bool} (h : ∀ g ∈ G, left (.string g.key) = true) : come G left = [] := by
  unfold come
  rw [List.filter_eq_nil_iff]
  intro g hg
  rw [h g hg]; simp
theorem come_end {G : List Gr} {left : Lit → Bool} (h : ∀ s, left (.string s) = false) : come G left = G := by
  unfold come
  rw [List.filter_eq_self]
  intro g _
  rw [h]; rfl
theorem come_step {G : List Gr} {left : Lit → Bool} (hd : KApart Gr.key G) {e : Gr} (he : e ∈ G) (hl : left (.string e.key) = true) : (come G (fun z => left z && !z.sameKey (.string e.key))).Perm (come G left ++ [e]) := by
  induction G with
  | nil => cases he
  | cons y G ih =>
    unfold KApart at hd
    rw [List.pairwise_cons] at hd
    unfold come at *
    have hsk : ∀ x : Gr, (Lit.string x.key).sameKey (.string e.key) = (x.key == e.key) := fun x => rfl
    rcases List.mem_cons.1 he with rfl | h
    · have h1 : G.filter (fun g => !(left (.string g.key) && !(Lit.string g.key).sameKey (.string e.key))) = G.filter (fun g => !left (.string g.key)) := List.filter_congr fun x hx => by
        have : (x.key == e.key) = false := by
          have := hd.1 x hx
          simp only [beq_eq_false_iff_ne, ne_eq]
          exact fun h => this h.symm
        rw [hsk, this]; simp
      rw [List.filter_cons, List.filter_cons, h1]
      simp only [hsk, hl, beq_self_eq_true, Bool.not_true, Bool.and_false, Bool.not_false, if_true, Bool.false_eq_true, if_false]
      exact (List.perm_append_comm (l₁ := [e])).trans (List.Perm.refl _)
    · have h2 : (y.key == e.key) = false := by simpa using hd.1 e h
      have ih' := ih hd.2 h
      rw [List.filter_cons, List.filter_cons]
      simp only [hsk, h2] at ih' ⊢
      cases hq : left (.string y.key)
      · simp only [Bool.false_and, Bool.not_false, if_true, List.cons_append]
        exact ih'.cons y
      · simp only [Bool.true_and, Bool.not_false, Bool.not_true, Bool.false_eq_true, if_false]
        exact ih'
theorem gr_inv {G : List Gr} {x : ByteArray × Int} {c : Value} (h : (grM G).get (kT x.1 x.2) = some c) (hx1 : x.1.size ≤ maxLen) (hx2 : (Lit.int .i64 x.2).wf = true) (hG : ∀ g ∈ G, g.u.size ≤ maxLen ∧ (Lit.int .i64 g.b).wf = true) : ∃ g, g ∈ G ∧ g.u = x.1 ∧ g.b = x.2 ∧ c = amV g.a := by
  unfold grM at h
  rw [kM_get] at h
  cases hq : kfnd Gr.key G (kT x.1 x.2) with
  | none => rw [hq] at h; cases h
  | some g =>
    rw [hq] at h
    obtain ⟨hm, hk⟩ := kfnd_mem hq
    have hg := hG g hm
    obtain ⟨h1, h2⟩ := kT_inj hg.1 hg.2 hx1 hx2 hk
    exact ⟨g, hm, h1, h2, (Option.some.inj h).symm⟩
end Go.Proofs.Ytmgbailpmcggiaa
namespace Go.Proofs.Ytmgbailpmcggiaa
open Go.RowKit

/-- what may be a grant's key -/
structure KX where
  u : ByteArray
  b : Int
  hu : u.size ≤ maxLen
  hb : (Lit.int .i64 b).wf = true
def KX.v (x : KX) : Value := kV x.u x.b
def KX.t (x : KX) : List UInt8 := kT x.u x.b
theorem kx_inv (key : Value) (kl : Lit) (h : keyOf Try.prog 60 key = some kl) : ∃ x : KX, key = x.v ∧ kl = .string x.t := by
  obtain ⟨x, h1, h2, h3, h4⟩ := keyOf_k_inv key kl h
  exact ⟨⟨x.1, x.2, h3, h4⟩, h1, h2⟩
theorem kx_inj (x y : KX) (h : x.v = y.v) : x = y := by
  obtain ⟨a, b, h1, h2⟩ := x
  obtain ⟨c, d, h3, h4⟩ := y
  unfold KX.v at h
  simp only [Value.agg.injEq, Array.mk.injEq, List.cons.injEq, Value.string.injEq, Value.int.injEq, true_and, and_true] at h
  obtain ⟨rfl, rfl⟩ := h
  rfl

set_option maxRecDepth 100000 in
set_option maxHeartbeats 4000000 in
theorem grants_made (b mg mc : Nat) (G : List Gr) (C : List Ch) (w : World) (h : Bk w b mg mc G C) (hr : KRise Gr.key G) (hk : ∀ g ∈ G, askB g.u g.b = true) (hl : G.length ≤ 100000) :
    Calls Try.prog 18 #[ptr b] w fun e w' => ∃ v S, e = .returned v ∧ S.Perm G ∧ S.Pairwise glt ∧ w'.ownsRow w.heap.size 76 6 v G.length (rwC grC S) ∧ Below w.heap.size w w' := by
  obtain ⟨i0, hi, hz0, hz1, hz2⟩ := info_parts info_gr
  have H := Lib.hid h
  have HAP := Lib.hid hr.apart
  have HL := Lib.hid hl
  have HG : Hid (∀ g ∈ G, g.u.size ≤ maxLen ∧ (Lit.int .i64 g.b).wf = true) := Lib.hid (fun g hg => by have := askB_name (hk g hg); exact ⟨by unfold maxLen; omega, band_wf this.2⟩)
  have HML : Hid (mg < w.heap.size) := Lib.hid h.gm.lt
  have c4 := h.blk.cell (j := 0) rfl
  clear h hr hk
  go_enter Try.func18, Try.ntmps18
  go_wp2_with (at_range; refine wpList_trange _ rfl _ _ rfl 60 28 gkeyed Try.underlying51 mg (grM G) rfl H.out.gm ?_; intro w4 hrg0 hb0 hs0; have HRG := Lib.hid hrg0; have HB4 := Lib.hid hb0; clear hrg0 hb0 hs0)
  go_frame
  go_loopw [3] (fun o wr => ∃ (left : Lit → Bool) (cnt : Nat) (L : List Gr), Hid (SRange Try.prog 60 wr mg w.heap.size (grM G) left cnt) ∧ Hid (L.Perm (come G left)) ∧ Hid (wr.ownsRow w.heap.size 76 6 o L.length (rwC grC L)) ∧ Hid (Below w.heap.size w wr)) (fun _ wr => wr.rangeLeft mg w.heap.size)
  case atStart =>
    refine ⟨_, _, [], HRG, Lib.hid ?_, Lib.hid (World.ownsRow_nil _ _ _ _), HB4⟩
    rw [come_start (fun g hg => by
      show Maps.has (grM G).dat (.string g.key) = true
      rw [SM.dat_has]
      unfold grM
      rw [kM_has, kfnd_of HAP.out hg]; rfl)]
  case round =>
    obtain ⟨left, cnt, L, HR, HP, HO, HBx⟩ := hrel
    go_wp2_with (at_next; refine wpList_tnext _ KX.v KX.t rfl _ rfl 60 gkeyed kx_inv kx_inj mg w.heap.size (grM G) left cnt rfl HR.out ?_ ?_)
    · intro hl0
      have HE : Hid (L.Perm G) := Lib.hid (by have := HP.out; rwa [come_end hl0] at this)
      have HLL : Hid (L.length < 4611686018427387904) := Lib.hid (by rw [HE.out.length_eq]; have := HL.out; omega)
      have HGA : Hid (GApart L) := Lib.hid ((HE.out.pairwise_iff (fun {x y} h e => h ⟨e.1.symm, e.2.symm⟩)).2 (gapart_of HAP.out))
      clear hl0
      go_wp2_with (go_at_call 34; refine (gsort_own L _ HO.out HGA.out HLL.out).mono ?_; rintro e w6 ⟨rfl, S, hp, hs, ho, hg⟩; have HPS := Lib.hid hp; have HSS := Lib.hid hs; have HOS := Lib.hid ho; have HGS : Hid (World.grownBy wr w6 u3.ownBlock) := Lib.hid hg; clear hp hs ho hg)
      go_ret
      refine ⟨u3, S, rfl, HPS.out.trans HE.out, HSS.out, ?_, ?_⟩
      · rw [← HE.out.length_eq]; exact HOS.out
      · exact HBx.out.trans ((Fr.of_grown HGS.out).below (fun k hk => (HO.out.lt k (Option.mem_toList.1 hk)).1) HBx.out.size)
    · intro x c w5 cnt5 hlx hgx hrg5 hlt5 hg5 hs5 hen
      obtain ⟨xu, xb, hx1, hx2⟩ := x
      obtain ⟨g, hm, hu, hb, rfl⟩ := gr_inv (x := (xu, xb)) hgx hx1 hx2 HG.out
      unfold KX.v KX.t at *
      simp only at hu hb hlx hrg5 hen ⊢
      subst hu hb
      have hne := row_ne_iter HO.out HR.out
      have hln : L.length ≤ 100000 := by
        have h1 := HP.out.length_eq
        have h2 : (come G left).length ≤ G.length := List.length_filter_le _ _
        have := HL.out
        omega
      have HLN := Lib.hid hln
      have hb6 : Below w5.heap.size w5 (((w5.alloc (.cells #[.string g.u, .int .i64 g.b] 60)).alloc (.cells #[.int .i64 g.a.c, .int .i64 g.a.r, .int .i64 g.a.d, .int .i64 g.a.p] 28)).alloc (.cells #[.string g.u, .int .i64 g.b, .int .i64 g.a.c, .int .i64 g.a.r, .int .i64 g.a.d, .int .i64 g.a.p] 76)) := below_and (below_and (below_alloc w5 _) (below_alloc _ _)) (below_alloc _ _)
      have ho5 := own_fr HO.out (Fr.of_grown hg5) (fun q hq hq2 => hne (by simp at hq2; rw [hq, hq2]))
      have HO6 := Lib.hid (own_fr ho5 (Fr.of_below hb6 []) (fun _ _ => by simp))
      have hbw5 : Below w.heap.size w w5 := HBx.out.trans (grown_below hg5 (Nat.le_refl _) HBx.out.size)
      have HB6 := Lib.hid (below_and hbw5 hb6)
      have HR6 := Lib.hid (hrg5.below hb6)
      have HCT := Lib.hid hlt5
      have HST := Lib.hid (come_step HAP.out hm (show left (.string g.key) = true from hlx))
      have HNE : Hid (some mg ≠ u3.ownBlock ∧ some w.heap.size ≠ u3.ownBlock) := Lib.hid ⟨fun e => by have h1 := (HO.out.lt mg e.symm).1; have := HML.out; omega, hne⟩
      have HWZ : Hid (w.heap.size ≤ w5.heap.size) := Lib.hid hbw5.size
      have HSRC : Hid ((((w5.alloc (.cells #[.string g.u, .int .i64 g.b] 60)).alloc (.cells #[.int .i64 g.a.c, .int .i64 g.a.r, .int .i64 g.a.d, .int .i64 g.a.p] 28)).alloc (.cells #[.string g.u, .int .i64 g.b, .int .i64 g.a.c, .int .i64 g.a.r, .int .i64 g.a.d, .int .i64 g.a.p] 76)).heap[w5.heap.size + 1 + 1]? = some (.cells #[.string g.u, .int .i64 g.b, .int .i64 g.a.c, .int .i64 g.a.r, .int .i64 g.a.d, .int .i64 g.a.p] 76 (0, 0))) := Lib.hid (by have := heap_alloc_new ((w5.alloc (.cells #[.string g.u, .int .i64 g.b] 60)).alloc (.cells #[.int .i64 g.a.c, .int .i64 g.a.r, .int .i64 g.a.d, .int .i64 g.a.p] 28)) (.cells #[.string g.u, .int .i64 g.b, .int .i64 g.a.c, .int .i64 g.a.r, .int .i64 g.a.d, .int .i64 g.a.p] 76); simpa using this)
      clear hgx hm hlx hrg5 hlt5 hg5 hs5 hb6 ho5 hbw5 hne hln hx1 hx2
      go_wp2_with (at_builtin; go_loud (refine wpList_app5 rfl _ _ 43 43 rfl w.heap.size 76 i0 (grV zG) 6 56 Try.underlying43 hi hz0 hz1 hz2 rfl _ L.length (rwC grC L) rfl HO6.out _ 1 _ rfl (src_block Try.underlying43 _ _ #[_, _, _, _, _, _] HSRC.out rfl (grC_one g)) (by have := HLN.out; unfold maxLen; omega) (by have := HLN.out; omega) (by have := HWZ.out; simp; omega) ?_; intro o4 w4 ho4 hg4 hn4; have HO4 := Lib.hid ho4; have HG4 := Lib.hid hg4; clear ho4 hg4 hn4))
      go_roundw
      case rel =>
        have hr4 := HR6.out.grown HG4.out HNE.out.1 HNE.out.2
        refine ⟨_, cnt5, L ++ [g], Lib.hid hr4, Lib.hid ?_, Lib.hid ?_, Lib.hid ?_⟩
        · exact (HP.out.append_right [g]).trans HST.out.symm
        · simpa [rwC_append, rwC_cons, rwC_nil] using HO4.out
        · exact HB6.out.trans ((Fr.of_grown HG4.out).below (fun k hk => (HO.out.lt k (Option.mem_toList.1 hk)).1) HB6.out.size)
      case measure =>
        rw [(HR6.out.grown HG4.out HNE.out.1 HNE.out.2).left, HR.out.left]
        exact HCT.out
end Go.Proofs.Ytmgbailpmcggiaa
