/- resource.Text -/
import Derived.Test.YtmgecehdicpjnaaDoorAll
import Derived.Test.YtmgecehdicpjnaaDoorAddP
import Derived.Test.YtmgecehdicpjnaaDoorShelf
import Derived.Lib.ItoaLen
import Derived.Outline
namespace Go.Proofs.YtmgecehdicpjnaaDoor
open Go.RowKit
open Go.Sort (grow)

/-- the table of the powers of ten holds what it holds -/
def Tab (w : World) : Prop := Lib.TabIs Tryd.prog w "internal/strconv.uint64pow10" .u64 Lib.pow10Tab
theorem Tab.below {w w' : World} (h : Tab w) (hb : Below w.heap.size w w') : Tab w' := by
  unfold Tab Lib.TabIs World.var? at *
  obtain ⟨g, hgn⟩ : ∃ g, Tryd.prog.globalNamed "internal/strconv.uint64pow10" = some g := by
    cases hq : Tryd.prog.globalNamed "internal/strconv.uint64pow10" with
    | some g => exact ⟨g, rfl⟩
    | none => rw [hq] at h; cases h
  rw [hgn] at h ⊢
  simp only [Option.bind_some] at h ⊢
  have hlt : g < w.heap.size := by
    rcases Nat.lt_or_ge g w.heap.size with h' | h'
    · exact h'
    · rw [Array.getElem?_eq_none h'] at h; cases h
  rw [hb.block g hlt]
  exact h
theorem bl_grow (w : World) (k : Nat) (os : Array Obj) : Below w.heap.size w (grow (w.drewN k) os) :=
  ⟨rfl, rfl, rfl, by simp [grow], fun j hj => by
    show (w.heap ++ os)[j]? = _
    rw [Array.getElem?_append_left hj]⟩

def nmS : Nat → ByteArray
  | 0 => ⟨#[99, 112, 117]⟩
  | 1 => ⟨#[114, 97, 109]⟩
  | 2 => ⟨#[100, 105, 115, 107]⟩
  | _ => ⟨#[112, 111, 114, 116, 115]⟩
abbrev nmV : Value := .agg #[.string ⟨#[99, 112, 117]⟩, .string ⟨#[114, 97, 109]⟩, .string ⟨#[100, 105, 115, 107]⟩, .string ⟨#[112, 111, 114, 116, 115]⟩]
set_option maxRecDepth 100000 in
set_option maxHeartbeats 400000 in
theorem names_any (w : World) :
    Calls Tryd.prog 34 #[] w fun e w' => e = .returned nmV ∧ Below w.heap.size w w' := by
  go_enter Tryd.func34, Tryd.ntmps34
  go_wp2
  refine bodyPost_ret (results_row rfl _ _ w.heap.size 52 #[.string ⟨#[99, 112, 117]⟩, .string ⟨#[114, 97, 109]⟩, .string ⟨#[100, 105, 115, 107]⟩, .string ⟨#[112, 111, 114, 116, 115]⟩] (0, 0) _ rfl ?_ Tryd.underlying52 rfl (by kernel_rfl)) rfl ⟨rfl, below_alloc w _⟩
  exact heap_alloc_new w _
theorem index_nm (w : World) : ∀ k, k < 4 → (Instr.index 52 nmV (.int .i64 (k : Nat))).run Tryd.prog w = .ok (.string (nmS k)) w
  | 0, _ => by kernel_rfl
  | 1, _ => by kernel_rfl
  | 2, _ => by kernel_rfl
  | 3, _ => by kernel_rfl
  | n + 4, h => by omega

theorem info_str : (Tryd.prog.info? 9).map (fun i => (i.zero, i.size, i.bytes)) = some (some (.string ⟨#[]⟩), 1, 16) := by kernel_rfl

/-- a part of a text -/
def partB (x : Am) (k : Nat) : ByteArray := nmS k ++ ⟨#[61]⟩ ++ ⟨(Lib.itoa (x.get k)).toArray⟩
/-- the parts of the first k -/
def parts (x : Am) : Nat → List ByteArray
  | 0 => []
  | k + 1 => if 0 < x.get k then parts x k ++ [partB x k] else parts x k
theorem nmS_size (k : Nat) : (nmS k).size ≤ 5 := by
  match k with
  | 0 => decide
  | 1 => decide
  | 2 => decide
  | n + 3 => exact Nat.le_refl 5
theorem parts_len (x : Am) : ∀ k, (parts x k).length ≤ k
  | 0 => Nat.le_refl _
  | k + 1 => by
    have := parts_len x k
    unfold parts
    split
    · rw [List.length_append]; simp; omega
    · omega

/-- the text of amounts that may be -/
def textS (x : Am) : List UInt8 := if parts x 4 = [] then [110, 111, 110, 101] else Lib.join ((parts x 4).map (·.data.toList)) [32]
theorem tail_le : ∀ r : List (List UInt8), (∀ x ∈ r, x.length ≤ 40) → (Lib.joinTail [32] r).length ≤ 41 * r.length
  | [], _ => by simp [Lib.joinTail]
  | y :: r, h => by
    have h1 := tail_le r (fun x hx => h x (by simp [hx]))
    have h2 := h y (by simp)
    unfold Lib.joinTail at *
    simp only [List.map_cons, List.flatten_cons, List.length_append, List.length_cons, List.length_nil] at *
    omega
theorem join_le (l : List (List UInt8)) (h : ∀ x ∈ l, x.length ≤ 40) : (Lib.join l [32]).length ≤ 41 * l.length + 40 := by
  cases l with
  | nil => simp [Lib.join_nil]
  | cons y r =>
    rw [Lib.join_cons, List.length_append]
    have h1 := tail_le r (fun x hx => h x (by simp [hx]))
    have h2 := h y (by simp)
    simp only [List.length_cons]
    omega
theorem part_le {x : Am} (hx : x.okB = true) {k : Nat} (hk : k < 4) : (partB x k).data.toList.length ≤ 40 := by
  have h1 := nmS_size k
  have h2 := Lib.itoa_length_le (x.get k) (by have := ok_get hx hk; omega) (by have := ok_get hx hk; omega)
  have h3 : (partB x k).size ≤ 40 := by
    unfold partB
    rw [ByteArray.size_append, ByteArray.size_append]
    show (nmS k).size + 1 + (Lib.itoa (x.get k)).toArray.size ≤ 40
    simp; omega
  simpa using h3
theorem parts_le {x : Am} (hx : x.okB = true) : ∀ k, k ≤ 4 → ∀ y ∈ (parts x k).map (·.data.toList), y.length ≤ 40
  | 0, _, y, hy => by simp [parts] at hy
  | k + 1, hk, y, hy => by
    have ih := parts_le hx k (by omega)
    unfold parts at hy
    split at hy
    · rw [List.map_append, List.mem_append] at hy
      rcases hy with hy | hy
      · exact ih y hy
      · simp only [List.map_cons, List.map_nil, List.mem_singleton] at hy
        subst hy
        exact part_le hx (by omega)
    · exact ih y hy

set_option maxRecDepth 100000 in
set_option maxHeartbeats 1000000 in
theorem text_bad (x : Am) (w : World) (hx : x.okB = false) :
    Calls Tryd.prog 10 #[amV x] w fun e w' => e = .returned (.tuple #[.string ⟨#[]⟩, .int .i64 2]) ∧ Below w.heap.size w w' := by
  have HA := Lib.hid hx
  obtain ⟨w3, hw3⟩ : ∃ w3, w3 = w.alloc (.cells #[.int .i64 x.c, .int .i64 x.r, .int .i64 x.d, .int .i64 x.p] 23) := ⟨_, rfl⟩
  obtain ⟨B, hB⟩ : ∃ B, B = w.heap.size := ⟨_, rfl⟩
  have B0 : Hid (Blk w3 B (amC x) 23) := Lib.hid (by rw [hw3, hB]; exact Blk.made w (amC x) _)
  have HBL : Hid (Below w.heap.size w w3) := Lib.hid (by rw [hw3]; exact below_alloc w _)
  have c0 := B0.out.cell (j := 0) rfl
  have c1 := B0.out.cell (j := 1) rfl
  have c2 := B0.out.cell (j := 2) rfl
  have c3 := B0.out.cell (j := 3) rfl
  clear hx
  go_enter Tryd.func10, Tryd.ntmps10
  go_upto_region 1 with fail
  rw [← hw3, ← hB]
  clear hw3 hB
  go_wp2_with (go_at_call 32; refine (all_one w3 x).mono ?_; rw [HA.out]; rintro e ws ⟨rfl, hb⟩; have HBS := Lib.hid (below_and HBL.out hb); clear hb)
  go_ret2
  exact ⟨rfl, HBS.out⟩

set_option maxRecDepth 100000 in
set_option maxHeartbeats 2000000 in
theorem text_good (x : Am) (w : World) (hx : x.okB = true) (ht : Tab w) :
    Calls Tryd.prog 10 #[amV x] w fun e w' => e = .returned (.tuple #[.string ⟨(textS x).toArray⟩, .int .i64 0]) ∧ Below w.heap.size w w' := by
  obtain ⟨iS, hi, hz0, hz1, hz2⟩ := info_parts info_str
  have HA := Lib.hid hx
  have HT0 := Lib.hid ht
  obtain ⟨w3, hw3⟩ : ∃ w3, w3 = w.alloc (.cells #[.int .i64 x.c, .int .i64 x.r, .int .i64 x.d, .int .i64 x.p] 23) := ⟨_, rfl⟩
  obtain ⟨B, hB⟩ : ∃ B, B = w.heap.size := ⟨_, rfl⟩
  have B0 : Hid (Blk w3 B (amC x) 23) := Lib.hid (by rw [hw3, hB]; exact Blk.made w (amC x) _)
  have HBL : Hid (Below w.heap.size w w3) := Lib.hid (by rw [hw3]; exact below_alloc w _)
  have c0 := B0.out.cell (j := 0) rfl
  have c1 := B0.out.cell (j := 1) rfl
  have c2 := B0.out.cell (j := 2) rfl
  have c3 := B0.out.cell (j := 3) rfl
  clear hx ht
  go_enter Tryd.func10, Tryd.ntmps10
  go_upto_region 1 with fail
  rw [← hw3, ← hB]
  clear hw3 hB
  go_wp2_with (first
    | (go_at_call 32; refine (all_one w3 x).mono ?_; rw [HA.out]; rintro e ws ⟨rfl, hb⟩; have hb0 := B0.out.kept hb; have HBS := Lib.hid (below_and HBL.out hb); clear c0 c1 c2 c3; have c0 := hb0.cell (j := 0) rfl; have c1 := hb0.cell (j := 1) rfl; have c2 := hb0.cell (j := 2) rfl; have c3 := hb0.cell (j := 3) rfl; clear hb hb0)
    | (go_at_call 33; refine (array_any x _).mono ?_; rintro e wa ⟨rfl, hb⟩; have HBa := Lib.hid (below_and HBS.out hb); clear hb))
  go_loopw [4, 13] (fun l i wc => ∃ k : Nat, k ≤ 4 ∧ i = .int .i64 (k : Int) ∧ Hid (wc.ownsRow w.heap.size 9 1 l (parts x k).length ((parts x k).map Value.string)) ∧ Hid (Below w.heap.size w wc)) (fun _ i _ => 4 - (intOf i).toNat)
  case atStart => exact ⟨0, Nat.zero_le _, rfl, Lib.hid (World.ownsRow_nil _ _ _ _), HBa⟩
  case round =>
    obtain ⟨k, hk, rfl, HO, HB⟩ := hrel
    by_cases hlt : k < 4
    · have hix := index_am x wr k hlt
      obtain ⟨p, hp⟩ : ∃ p, p = x.get k := ⟨_, rfl⟩
      have p0 : 0 ≤ p ∧ p ≤ 1099511627776 := by rw [hp]; exact ok_get HA.out hlt
      obtain ⟨p1, p2⟩ := p0
      rw [← hp] at hix
      have HP := Lib.hid hp
      clear hp
      by_cases hp0 : 0 < p
      · have HOq : Hid (World.ownsRow wr.drew w.heap.size 9 1 u4 (parts x k).length ((parts x k).map Value.string)) := Lib.hid (own_fr HO.out (Fr.of_below (below_drewN 1) []) (fun _ _ => by simp))
        have HBq : Hid (Below w.heap.size w wr.drew) := Lib.hid (bl_drew HB.out)
        have i0 : (0 : Int) ≤ (k : Int) := by omega
        have i1 : (k : Int) < 4 := by omega
        have hnm := fun w => index_nm w k hlt
        have hpl := parts_len x k
        have hil := Lib.itoa_length_le p (by omega) (by omega)
        have hnl := nmS_size k
        obtain ⟨n1, hn1⟩ : ∃ n1, n1 = nmS k := ⟨_, rfl⟩
        obtain ⟨n2, hn2⟩ : ∃ n2 : ByteArray, n2 = n1 ++ ⟨#[61]⟩ := ⟨_, rfl⟩
        rw [← hn1] at hnm hnl
        have hs2 : n2.size ≤ 6 := by rw [hn2, ByteArray.size_append]; show n1.size + 1 ≤ 6; omega
        have hadd1 : ∀ w, (Op.stringOp .add n1 ⟨#[61]⟩).run Tryd.prog w = .ok (.string n2) w := fun w => by
          rw [hn2]; exact run_string_add_sum w n1 ⟨#[61]⟩ (by show n1.size + 1 ≤ _; omega)
        have hadd2 : ∀ w, (Op.stringOp .add n2 ⟨(Lib.itoa p).toArray⟩).run Tryd.prog w = .ok (.string (n2 ++ ⟨(Lib.itoa p).toArray⟩)) w := fun w =>
          run_string_add_sum w n2 ⟨(Lib.itoa p).toArray⟩ (by show n2.size + (Lib.itoa p).toArray.size ≤ _; simp; omega)
        have HN12 := Lib.hid (show n1 = nmS k ∧ n2 = n1 ++ ⟨#[61]⟩ from ⟨hn1, hn2⟩)
        have HPK : Hid (parts x (k + 1) = parts x k ++ [n2 ++ ⟨(Lib.itoa p).toArray⟩]) := Lib.hid (by
          show (if 0 < x.get k then _ else _) = _
          rw [if_pos (by have := HP.out; omega)]
          unfold partB
          rw [HN12.out.2, HN12.out.1, HP.out])
        clear hn1 hn2
        go_wp2
        go_region_held3 (fun w' => AnyW w') (exact anyW _) (first
          | (go_at_call 34; refine (names_any _).mono ?_; rintro e w1 ⟨rfl, hb⟩; have HOn := Lib.hid (own_fr HOq.out (Fr.of_below hb []) (fun _ _ => by simp)); have HBn := Lib.hid (below_and HBq.out hb); clear HOq HBq; have HOq := HOn; have HBq := HBn; clear HOn HBn hb)
          | (go_at_call 35; refine (Tryd.strconv_FormatInt_10 p (by omega) (by omega) _ (HT0.out.below HBq.out)).mono ?_; rintro e w1 ⟨rfl, kk, os, hw1⟩; have hb := hw1 ▸ bl_grow _ kk os; clear hw1; have HOn := Lib.hid (own_fr HOq.out (Fr.of_below hb []) (fun _ _ => by simp)); have HBn := Lib.hid (below_and HBq.out hb); clear HOq HBq; have HBq := HBn; have HOA : Hid (World.ownsRow (w1.alloc (.cells #[.string (n2 ++ ⟨(Lib.itoa p).toArray⟩)] 9)) w.heap.size 9 1 u4 (parts x k).length ((parts x k).map Value.string)) := Lib.hid (own_fr HOn.out (Fr.of_below (below_alloc _ _) []) (fun _ _ => by simp)); have HSA : Hid (Src Tryd.prog 1 48 (.slice (some ⟨w1.heap.size, 0, none⟩) 1 1) 1 [.string (n2 ++ ⟨(Lib.itoa p).toArray⟩)] (w1.alloc (.cells #[.string (n2 ++ ⟨(Lib.itoa p).toArray⟩)] 9))) := Lib.hid (src_block Tryd.underlying48 _ _ #[.string (n2 ++ ⟨(Lib.itoa p).toArray⟩)] (heap_alloc_new w1 _) rfl (by simp [Value.oneCell'])); have HZA : Hid (w.heap.size ≤ (w1.alloc (.cells #[.string (n2 ++ ⟨(Lib.itoa p).toArray⟩)] 9)).heap.size) := Lib.hid (by have := HBq.out.size; simp; omega); clear HOn HBn hb)
          | (refine step_app rfl (.tmp 19) (.tmp 27) 48 48 rfl w.heap.size 9 iS (.string ⟨#[]⟩) 1 16 Tryd.underlying48 hi hz0 hz1 hz2 rfl u4 (parts x k).length ((parts x k).map Value.string) (by rfl) HOA.out (.slice (some ⟨w1.heap.size, 0, none⟩) 1 1) 1 [.string (n2 ++ ⟨(Lib.itoa p).toArray⟩)] (by rfl) HSA.out (by unfold maxLen; omega) (by omega) HZA.out ?_; intro v5 w5 ho5 hg5 hn5 hk5; have HO5 := Lib.hid ho5; have HB5 : Hid (Below w.heap.size w w5) := Lib.hid (below_grown (below_and HBq.out (below_alloc _ _)) HZA.out HOA.out hg5); clear ho5 hg5 hn5 hk5))
        all_goals go_wp2
        all_goals go_roundw
        all_goals first
          | (case rel => exact ⟨k + 1, by omega, by go_num, Lib.hid (by
              rw [HPK.out]
              have := HO5.out
              simpa using this), HB5⟩)
          | (case measure => simp [intOf]; omega)
      · have hd : decide (0 < p) = false := by simpa using hp0
        have HPK : Hid (parts x (k + 1) = parts x k) := Lib.hid (by have := HP.out; show (if 0 < x.get k then _ else _) = _; rw [if_neg (by omega)])
        go_wp2
        go_roundw
        case rel => exact ⟨k + 1, by omega, by go_num, by rw [HPK.out]; exact HO, HB⟩
        case measure => simp [intOf]; omega
    · obtain rfl : k = 4 := by omega
      have hpl := parts_len x 4
      by_cases hp : parts x 4 = []
      · have HE : Hid (textS x = [110, 111, 110, 101]) := Lib.hid (by unfold textS; rw [if_pos hp])
        have ho := HO.out
        rw [hp] at ho
        obtain ⟨pp, cc, rfl, -, -⟩ := own_slice ho
        clear ho hp
        go_wp2
        go_ret2
        exact ⟨by rw [HE.out]; rfl, HB.out⟩
      · have HE : Hid (textS x = Lib.join ((parts x 4).map (·.data.toList)) [32]) := Lib.hid (by unfold textS; rw [if_neg hp])
        have hl0 : 0 < (parts x 4).length := List.length_pos_iff.2 hp
        obtain ⟨g, cap, rfl, hc1, hc2, hgl⟩ := own_block HO.out hl0
        have q0 : ((((parts x 4).length : Nat) : Int) == 0) = false := by simp; omega
        have HJ : Hid (∀ (j : Nat) y, (parts x 4)[j]? = some y → wr.cell? ⟨g, 0 + j, none⟩ = some (.string y)) := Lib.hid (fun j y hj => by rw [Nat.zero_add]; exact own_cell HO.out (by rw [List.getElem?_map, hj]; rfl))
        have HLE : Hid ((Lib.join ((parts x 4).map (·.data.toList)) [32]).length ≤ 140737488355328) := Lib.hid (by
          have := join_le _ (parts_le HA.out 4 (Nat.le_refl _))
          rw [List.length_map] at this
          omega)
        clear hp
        go_wp2_with (go_at_call 36; refine (Tryd.strings_Join g 0 cap (parts x 4) ⟨#[32]⟩ _ HJ.out hgl (by omega) hc1 HLE.out).mono ?_; rintro e w6 ⟨rfl, hb⟩; have HB6 := Lib.hid (below_and HB.out hb); clear hb)
        go_ret2
        exact ⟨by rw [HE.out]; rfl, HB6.out⟩
end Go.Proofs.YtmgecehdicpjnaaDoor
