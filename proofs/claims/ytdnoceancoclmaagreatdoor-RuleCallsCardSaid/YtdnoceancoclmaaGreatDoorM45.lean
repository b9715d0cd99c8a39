/- , laid together: RuNames, RdLend. -/
import Derived.Test.YtdnoceancoclmaaGreatDoorRdNm
import Derived.Test.YtdnoceancoclmaaGreatDoorM37
import Derived.Test.YtdnoceancoclmaaGreatDoorShelf
import Derived.Sort.OwnSorted
import Derived.Test.YtdnoceancoclmaaGreatDoorM16
import Derived.Test.YtdnoceancoclmaaGreatDoorRuHoldP
import Derived.Test.YtdnoceancoclmaaGreatDoorM31
import Derived.Test.YtdnoceancoclmaaGreatDoorM07
namespace Go.Proofs.YtdnoceancoclmaaGreatDoor.Ru
open Go.RowKit Go.Proofs.YtdnoceancoclmaaGreatDoor

theorem enc_sV (l : List (List UInt8)) : l.map encStr = l.map sV := rfl
theorem sort_own11 {base : Nat} {v : Value} (ss : List (List UInt8)) (w : World) (ho : w.ownsRow base 9 1 v ss.length (ss.map encStr)) (hl : ss.length < 4611686018427387904) :
    Calls Tryz.prog 34 #[v] w fun e w' => e = .returned (.tuple #[]) ∧ w'.ownsRow base 9 1 v ss.length ((ss.mergeSort fun x y => decide (x ≤ y)).map encStr) ∧ w.grownBy w' v.ownBlock := by
  rcases ho.2 with ⟨hnil, h0⟩ | ⟨g, cap, cur, rfl, hbase, hb, h1, h2, h3, h4⟩
  · subst hnil
    have : ss = [] := List.eq_nil_of_length_eq_zero h0
    subst this
    refine (Tryz.slices_Sort_string_none none 0 w).mono ?_
    rintro e w' ⟨rfl, rfl⟩
    exact ⟨rfl, by simpa using ho, ⟨rfl, rfl, rfl, Nat.le_refl _, fun _ _ _ => rfl⟩⟩
  · refine (Tryz.slices_Sort_string g 0 cap ss w (holds_of_block hb (by simpa using h4)) (Array.getElem?_eq_some_iff.1 hb).1 hl).mono ?_
    rintro e w' ⟨rfl, n, os, rfl⟩
    exact ⟨rfl, ownsRow_sorted (by simp) hbase hb h1 h2 h3, grownBy_sorted _⟩
open Go.Sort in
theorem compact_own11 {base : Nat} {v : Value} (ss : List (List UInt8)) (w : World) (ho : w.ownsRow base 9 1 v ss.length (ss.map encStr)) (hl : ss.length < 4611686018427387904) :
    Calls Tryz.prog 35 #[v] w fun e w' => ∃ u, e = .returned u ∧ w'.ownsRow base 9 1 u (Lib.compact ss).length ((Lib.compact ss).map encStr) ∧ w.grownBy w' v.ownBlock := by
  rcases ho.2 with ⟨hnil, h0⟩ | ⟨g, cap, cur, rfl, hbase, hb, h1, h2, h3, h4⟩
  · subst hnil
    have : ss = [] := List.eq_nil_of_length_eq_zero h0
    subst this
    refine (Tryz.slices_Compact_string_empty none 0 w).mono ?_
    rintro e w' ⟨rfl, rfl⟩
    exact ⟨_, rfl, by simpa [Lib.compact, Lib.compactUpTo] using ho, ⟨rfl, rfl, rfl, Nat.le_refl _, fun _ _ _ => rfl⟩⟩
  · have hle := Lib.compact_length_le ss
    refine (Tryz.slices_Compact_string g 0 cap ss w (holds_of_block hb (by simpa using h4)) (by omega) h1).mono ?_
    rintro e w' ⟨rfl, q, rfl⟩
    refine ⟨_, rfl, ⟨by simp, .inr ⟨g, cap, putCells encStr 0 (Lib.compact ss ++ List.replicate (ss.length - (Lib.compact ss).length) []).toArray cur, rfl, hbase, ?_, by omega, h2, by simp [putCells, h3], ?_⟩⟩, ?_⟩
    · simp [putRow, mapBlock, Sort.ahead, Array.getElem?_modify, hb, onCells]
    · have ht := take_putCells cur (Lib.compact ss ++ List.replicate (ss.length - (Lib.compact ss).length) []) (by rw [List.length_append, List.length_replicate]; omega)
      have := congrArg (List.take (Lib.compact ss).length) ht
      rw [List.take_take, List.length_append, List.length_replicate, Nat.min_eq_left (by omega), List.map_append, List.take_left' (by simp)] at this
      rw [Nat.mul_one]
      exact this
    · refine ⟨rfl, rfl, rfl, by simp [putRow, mapBlock, Sort.ahead], fun k hk hne => ?_⟩
      have : g ≠ k := fun e => hne (by subst e; rfl)
      simp [putRow, mapBlock, Sort.ahead, Array.getElem?_modify, this]
theorem nms_next {L : List Nd} {k : Nat} (hk : k < L.length) : nmsP (L.take (k + 1)) = if L[k].nm = [] then nmsP (L.take k) else nmsP (L.take k) ++ [L[k].nm] := by
  unfold nmsP
  rw [List.take_succ_eq_append_getElem hk, List.map_append, List.filter_append]
  by_cases h : L[k].nm = [] <;> simp [h]
theorem nms_len (L : List Nd) (k : Nat) : (nmsP (L.take k)).length ≤ k := by
  unfold nmsP
  refine Nat.le_trans (List.length_filter_le _ _) ?_
  simp
  omega
theorem names_sorted (L : List Nd) : Lib.compact ((nmsP L).mergeSort fun x y => decide (x ≤ y)) = namesD L := by
  refine names_eq L (List.mergeSort_perm _ _) ?_
  have h := List.pairwise_mergeSort (le := fun x y : List UInt8 => decide (x ≤ y)) (fun a b c h1 h2 => by simp only [decide_eq_true_eq] at *; exact List.le_trans h1 h2) (fun a b => by simp only [Bool.or_eq_true, decide_eq_true_eq]; exact List.le_total a b) (nmsP L)
  exact h.imp (fun h => by simpa [List.not_lt] using h)
set_option maxRecDepth 100000 in
set_option maxHeartbeats 4000000 in
theorem pnames_any (v : Value) (L : List Nd) (w : World) (hv : Row w v 6 L.length (rwC ndC L)) (hc : ∀ n ∈ L, Fit1 n) (hE : ErrV w) (hT : Tab w) : Calls Tryz.prog 15 #[.agg #[v]] w fun r w' => NamesS w w' L r := by
  have HV := Lib.hid hv
  obtain ⟨p, c, rfl, hcp, hm, -⟩ := hv
  obtain ⟨w0, hw0⟩ : ∃ w0, w0 = w.alloc (.cells #[.slice p L.length c] 24) := ⟨_, rfl⟩
  obtain ⟨B, hB⟩ : ∃ B, B = w.heap.size := ⟨_, rfl⟩
  have HB0 : Hid (Below w.heap.size w w0) := Lib.hid (by rw [hw0]; exact below_alloc w _)
  have X0 : Hid (Blk w0 B [.slice p L.length c] 24) := Lib.hid (by rw [hw0, hB]; exact Blk.made w [.slice p L.length c] _)
  have x0 := X0.out.cell (j := 0) rfl
  have hml : maxLen ≤ 9223372036854775807 := by decide
  have hn63 : (L.length : Int) ≤ 9223372036854775807 := by omega
  have HCK : Hid (Calls Tryz.prog 7 #[.agg #[.slice p L.length c]] w0 fun r w' => r = .returned (.int .i64 (checkP L)) ∧ Below w0.heap.size w0 w') := Lib.hid (check_any _ L w0 (HV.out.below HB0.out) hc (hE.below HB0.out) (hT.below HB0.out))
  obtain ⟨i0, hi0, hz0, hz1, hz2⟩ := info_parts info_str11
  by_cases hck : checkP L = 0
  rotate_left
  ·
    have HK0 := Lib.hid hck
    have hc2 : checkP L = 2 := (chk_two L).resolve_left hck
    rw [hc2] at HCK
    clear hck hc2 hcp hm hml hc hE hT
    go_enter Tryz.func15, Tryz.ntmps15
    go_upto_region 1 with fail
    rw [← hw0, ← hB]
    clear hw0 hB
    go_wp2_with (go_at_call 7; refine HCK.out.mono ?_; rintro r w2 ⟨rfl, hb⟩; have HB2 := Lib.hid (below_and HB0.out hb); have HX2 := Lib.hid (X0.out.kept hb); have x2 := (X0.out.kept hb).cell (j := 0) rfl; clear hb x0)
    go_ret2
    refine ⟨?_, HB2.out⟩
    rw [if_neg HK0.out]
    rfl
  have HK0 := Lib.hid hck
  have HLN := Lib.hid (chk_parts hck).1
  rw [hck] at HCK
  clear hck hcp hm hml hc hE hT
  go_enter Tryz.func15, Tryz.ntmps15
  go_upto_region 1 with fail
  rw [← hw0, ← hB]
  clear hw0 hB
  go_upto_region 6 with (go_at_call 7; refine HCK.out.mono ?_; rintro r w2 ⟨rfl, hb⟩; have HB2 := Lib.hid (below_and HB0.out hb); have HX2 := Lib.hid (X0.out.kept hb); have x2 := (X0.out.kept hb).cell (j := 0) rfl; clear hb x0)
  clear x2
  go_loopw [5, 16] (fun u i wr => ∃ k : Nat, k ≤ L.length ∧ i = .int .i64 (k : Int) ∧ Hid (wr.ownsRow w2.heap.size 9 1 u (nmsP (L.take k)).length ((nmsP (L.take k)).map encStr)) ∧ Hid (Below w2.heap.size w2 wr)) (fun _ i _ => L.length - (intOf i).toNat)
  case atStart => exact ⟨0, Nat.zero_le _, rfl, Lib.hid (World.ownsRow_nil _ _ _ _), Lib.hid (Below.refl _ _)⟩
  case round =>
    obtain ⟨k, hk, rfl, HO, HB⟩ := hrel
    have HBr : Hid (Below w.heap.size w wr) := Lib.hid (below_and HB2.out HB.out)
    by_cases hlt : k < L.length
    rotate_left
    ·
      obtain rfl : k = L.length := by omega
      rw [List.take_length] at HO
      have hnl : (nmsP L).length < 4611686018427387904 := by have := nms_len L L.length; rw [List.take_length] at this; have := HLN.out; omega
      have HNL := Lib.hid hnl
      have HSO : Hid (∀ wx, wr = wx → Calls Tryz.prog 34 #[u5] wx fun e w' => e = .returned (.tuple #[]) ∧ w'.ownsRow w2.heap.size 9 1 u5 (nmsP L).length (((nmsP L).mergeSort fun x y => decide (x ≤ y)).map encStr) ∧ wx.grownBy w' u5.ownBlock) := Lib.hid (fun wx e => by subst e; exact sort_own11 (nmsP L) wr HO.out HNL.out)
      obtain ⟨S, hS⟩ : ∃ S, S = (nmsP L).mergeSort fun x y => decide (x ≤ y) := ⟨_, rfl⟩
      have HSD : Hid (Lib.compact S = namesD L) := Lib.hid (by rw [hS]; exact names_sorted L)
      have HSL : Hid (S.length = (nmsP L).length) := Lib.hid (by rw [hS]; simp)
      rw [← hS] at HSO
      rw [← HSL.out] at HSO
      have HSN : Hid (S.length < 4611686018427387904) := Lib.hid (by rw [HSL.out]; exact HNL.out)
      clear hS hnl
      go_wp2_with (first
        | (go_at_call 34; refine (HSO.out _ rfl).mono ?_; rintro e w3 ⟨rfl, ho3, hg3⟩; have HO3 := Lib.hid ho3; have HG3 := Lib.hid hg3; clear ho3 hg3)
        | (go_at_call 35; refine (compact_own11 S _ HO3.out HSN.out).mono ?_; rintro e w4 ⟨u, rfl, ho4, hg4⟩; have HO4 := Lib.hid ho4; have HG4 := Lib.hid hg4; clear ho4 hg4))
      go_ret2
      have HB3 : Below w2.heap.size w2 w3 := HB.out.trans ((Fr.of_grown HG3.out).below (fun k hk => (HO.out.lt k (by simpa using hk)).1) HB.out.size)
      have HB4 : Below w2.heap.size w2 w4 := HB3.trans ((Fr.of_grown HG4.out).below (fun k hk => (HO3.out.lt k (by simpa using hk)).1) HB3.size)
      refine ⟨?_, below_and HB2.out HB4⟩
      rw [if_pos HK0.out]
      have h9 := HO4.out
      rw [HSD.out, enc_sV] at h9
      obtain ⟨p9, c9, rfl, -, -, h9⟩ := row_own h9 (sV_one _)
      exact ⟨_, rfl, h9⟩
    have HKL := Lib.hid hlt
    have i0' : (0 : Int) ≤ (k : Int) := by omega
    have i1 : (k : Int) < (L.length : Int) := by omega
    obtain ⟨x, hx⟩ : ∃ x, x = L[k]'HKL.out := ⟨_, rfl⟩
    have HLC := Lib.hid (node_at (HV.out.below HBr.out) HKL.out)
    rw [← hx] at HLC
    have HNX : Hid (nmsP (L.take (k + 1)) = if x.nm = [] then nmsP (L.take k) else nmsP (L.take k) ++ [x.nm]) := Lib.hid (by rw [nms_next HKL.out, ← hx])
    have HNL : Hid ((nmsP (L.take k)).length ≤ 64) := Lib.hid (by have := nms_len L k; have := HLN.out; omega)
    clear hx
    obtain ⟨b, of, rfl, hcell⟩ := HLC.out
    have q0 := hcell 0 _ rfl
    rw [Nat.add_zero] at q0
    have q1 := hcell 1 _ rfl
    have q2 := hcell 2 _ rfl
    have q3 := hcell 3 _ rfl
    have q4 := hcell 4 _ rfl
    have q5 := hcell 5 _ rfl
    clear hcell HLC
    go_upto_region 8 with fail
    refine at_hide (F := fun w' => Blk w' wr.heap.size (ndC x) 52 ∧ Below wr.heap.size wr w') ⟨Blk.made wr (ndC x) _, below_alloc wr _⟩ ?_
    intro w3 hF
    obtain ⟨Y, hY⟩ : ∃ Y, Y = wr.heap.size := ⟨_, rfl⟩
    rw [← hY] at hF ⊢
    have HY3 := Lib.hid hF.1
    have HB3 : Hid (Below wr.heap.size wr w3) := Lib.hid (by rw [← hY]; exact hF.2)
    clear hF hY q0 q1 q2 q3 q4 q5
    obtain ⟨xk, nm, vl, xx, na, nb⟩ := x
    simp only at HNX
    have y1 := HY3.out.cell (j := 1) rfl
    have HO3 := Lib.hid (own_fr HO.out (Fr.of_below HB3.out []) (fun _ _ => by simp))
    have HB3w : Hid (Below w2.heap.size w2 w3) := Lib.hid (below_and HB.out HB3.out)
    have HB3a : Hid (Below w.heap.size w w3) := Lib.hid (below_and HBr.out HB3.out)
    have hem : ((bs nm).toList == ([] : List UInt8)) = decide (nm = []) := bs_nil0 nm
    obtain ⟨em, hem2⟩ : ∃ em, em = decide (nm = []) := ⟨_, rfl⟩
    rw [← hem2] at hem
    have HEM := Lib.hid hem2
    clear hem2
    cases em
    rotate_left
    ·
      have HNE : Hid (nmsP (L.take (k + 1)) = nmsP (L.take k)) := Lib.hid (by rw [HNX.out, if_pos (of_decide_eq_true HEM.out.symm)])
      go_wp2
      go_roundw
      case rel => exact ⟨k + 1, hlt, by go_num, by rw [HNE.out]; exact HO3, HB3w⟩
      case measure => simp [intOf]; omega
    have HNE : Hid (nmsP (L.take (k + 1)) = nmsP (L.take k) ++ [nm]) := Lib.hid (by rw [HNX.out, if_neg (of_decide_eq_false HEM.out.symm)])
    obtain ⟨T, hT⟩ : ∃ T, T = nmsP (L.take k) := ⟨_, rfl⟩
    rw [← hT] at HNE HNL HO3
    clear hT HNX
    have HBn : Hid (Below w3.heap.size w3 (w3.alloc (.cells #[.string (bs nm)] 9))) := Lib.hid (below_alloc w3 _)
    have HO4 : Hid (World.ownsRow (w3.alloc (.cells #[.string (bs nm)] 9)) w2.heap.size 9 1 u5 T.length (T.map encStr)) := Lib.hid (own_fr HO3.out (Fr.of_below HBn.out []) (fun _ _ => by simp))
    have HAN : Hid ((w3.alloc (.cells #[.string (bs nm)] 9)).heap[w3.heap.size]? = some (.cells #[.string (bs nm)] 9 (0, 0))) := Lib.hid (heap_alloc_new w3 _)
    go_wp2_with (at_builtin; go_must (refine wpList_app5 rfl _ _ 36 36 rfl w2.heap.size 9 i0 (.string ⟨#[]⟩) 1 16 Tryz.underlying36 hi0 hz0 hz1 hz2 rfl _ T.length _ rfl HO4.out _ 1 _ rfl (src_block Tryz.underlying36 _ _ #[_] HAN.out rfl (by simp [Value.oneCell'])) (by have := HNL.out; unfold maxLen; omega) (by have := HNL.out; omega) (by have := HB3w.out.size; have := HBn.out.size; omega) ?_); intro v5 w5 ho5 hg5 hn5; have HO5 := Lib.hid ho5; have HG5 := Lib.hid hg5; clear ho5 hg5 hn5)
    have hG : World.grownBy (w3.alloc (.cells #[.string (bs nm)] 9)) w5 u5.ownBlock := HG5.out
    have HG := Lib.hid hG
    clear hG HG5
    go_roundw
    case rel =>
      refine ⟨k + 1, hlt, by go_num, Lib.hid ?_, Lib.hid ?_⟩
      · have := HO5.out
        rw [HNE.out]
        simpa [encStr, bs] using this
      · refine (below_and HB3w.out HBn.out).trans ((Fr.of_grown HG.out).below (fun k hk => (HO4.out.lt k (by simpa using hk)).1) (below_and HB3w.out HBn.out).size)
    case measure => simp [intOf]; omega
end Go.Proofs.YtdnoceancoclmaaGreatDoor.Ru

namespace Go.Proofs.YtdnoceancoclmaaGreatDoor.Ru
open Go.RowKit Go.Proofs.YtdnoceancoclmaaGreatDoor

theorem ret_cell1r {P : Program} {fn : Func} {R : Ending → World → Prop} {a : Act} {w : World} {p : Tmp} {ty t : TypeId} {g : Nat} {cs : List Value} {d : TypeDesc} (h : fn.results = #[.cell p ty]) (hd : a.defers = [])
    (hp : a.tmps.getD p undef = .pointer (some ⟨g, 0, none⟩)) (hg : Blk w g cs t) (hu : P.underlying ty = some d) (hs : (match d with | .struct _ | .array _ _ => true | _ => false) = true) (hi : (P.info? ty).map (·.size) = some cs.length)
    (hR : R (.returned (.agg cs.toArray)) w) : bodyPost P fn R .ret a w :=
  bodyPost_ret (results_cell_row h a.tmps w g t cs.toArray (0, 0) d hp hg hu hs (by simpa using hi)) hd hR
theorem info_attr : (Tryz.prog.info? 40).map (fun i => (i.zero, i.size, i.bytes)) = some (some (.agg #[.string ⟨#[]⟩, .string ⟨#[]⟩]), 2, 32) := by kernel_rfl
set_option maxRecDepth 100000 in
set_option maxHeartbeats 1000000 in
theorem lendR_any (v : Value) (L : List Nd) (w : World) (hv : Row w v 6 L.length (rwC ndC L)) (hl : L.length * 64 ≤ 140737488351232) :
    Calls Tryz.prog 5 #[.agg #[v]] w fun r w' => ∃ q c, r = .returned (.agg #[.slice q L.length c]) ∧ Row w' (.slice q L.length c) 6 L.length (rwC ndC L) ∧ Below w.heap.size w w' := by
  obtain ⟨ix, hi, hz0, hz1, hz2⟩ := info_parts info_nd
  obtain ⟨p, c, rfl, -⟩ := id hv
  have HV := Lib.hid hv
  obtain ⟨n, hn⟩ : ∃ n, n = L.length := ⟨_, rfl⟩
  have HN := Lib.hid hn
  rw [← hn] at HV hl ⊢
  clear hv hn
  obtain ⟨X, hX⟩ : ∃ X, X = w.heap.size := ⟨_, rfl⟩
  go_enter Tryz.func5, Tryz.ntmps5
  go_upto_region 1 with fail
  refine at_hide (F := fun w' => Blk w' X [.slice p n c] 24 ∧ Blk w' (X + 1) [.slice none 0 0] 24 ∧ Below w.heap.size w w' ∧ w'.heap.size = X + 2) ⟨by
    rw [hX]; exact (Blk.made w [_] _).alloc _, by
    rw [hX]
    have := Blk.made (w.alloc (.cells #[.slice p n c] 24)) [.slice none 0 0] 24
    rw [show (w.alloc (.cells #[.slice p n c] 24)).heap.size = w.heap.size + 1 from by simp] at this
    exact this, below_and (below_alloc _ _) (below_alloc _ _), by rw [hX]; simp⟩ ?_
  intro w1 hF
  rw [← hX]
  have HX1 := Lib.hid hF.1
  have HR1 := Lib.hid hF.2.1
  have HB1 : Hid (Below w.heap.size w w1) := Lib.hid hF.2.2.1
  have HZ1 := Lib.hid hF.2.2.2
  have HXW : Hid (w.heap.size ≤ X) := Lib.hid (by omega)
  have c0 := (HX1.out.alloc (.cells #[] 52)).cell (j := 0) rfl
  have HO1 : Hid ((w1.alloc (.cells #[] 52)).ownsRow w1.heap.size 52 6 (.slice (some ⟨w1.heap.size, 0, none⟩) 0 0) 0 []) := Lib.hid (World.ownsRow_lit w1 #[] 0 (Nat.le_refl _) (by simp [maxLen]) rfl)
  have HS1 : Hid (Src Tryz.prog 6 22 (.slice p n c) n (rwC ndC L) (w1.alloc (.cells #[] 52))) := Lib.hid ((HV.out.below (below_and HB1.out (below_alloc _ _))).src Tryz.underlying22)
  clear hF hX
  go_wp2_with (at_builtin; refine wpList_app _ rfl _ _ 22 22 rfl w1.heap.size 52 ix (.agg #[.int .i64 0, .string ⟨#[]⟩, .string ⟨#[]⟩, .int .i64 0, .int .i64 0, .int .i64 0]) 6 64 Tryz.underlying22 hi hz0 hz1 hz2 rfl _ 0 [] rfl HO1.out _ n (rwC ndC L) rfl HS1.out (by unfold maxLen; omega) (by omega) (by simp) ?_; intro v' w2 hown' hgrow hnil; rw [Nat.zero_add] at hown'; obtain ⟨q2, c2, rfl⟩ : ∃ q c, v' = .slice q n c := (by obtain ⟨q, c, h, -⟩ := own_slice hown'; exact ⟨q, c, h⟩); have HO2 : Hid (w2.ownsRow w1.heap.size 52 6 (.slice q2 n c2) L.length (rwC ndC L)) := Lib.hid (by rw [← HN.out]; exact hown'); have HB2 : Hid (Below w1.heap.size w1 w2) := Lib.hid (below_grown (below_alloc w1 _) (by simp) HO1.out hgrow); have r0 := (HR1.out.kept HB2.out).cell (j := 0) rfl; have f0 := (HR1.out.kept HB2.out).free 0; clear hown' hgrow hnil)
  refine ret_cell1r (g := X + 1) (cs := [.slice q2 n c2]) rfl rfl rfl ((HR1.out.kept HB2.out).set 0 (.slice q2 n c2)) Tryz.underlying24 rfl size_rule ?_
  exact ⟨q2, c2, rfl, by have h9 := row_of_owns (ownsRow_setCell_below HO2.out (a := ⟨X + 1, 0, none⟩) (by have := HZ1.out; simp; omega) (.slice q2 n c2)) (rwC_one ndC_one L); rw [← HN.out] at h9; exact h9, (below_and HB1.out HB2.out).setCell (by have := HXW.out; simp; omega) _⟩

set_option maxRecDepth 100000 in
set_option maxHeartbeats 1000000 in
theorem lendA_any (v : Value) (A : List At) (w : World) (hv : Row w v 2 A.length (rwC atC A)) (hl : A.length * 32 ≤ 140737488351232) :
    Calls Tryz.prog 6 #[v] w fun r w' => ∃ q c, r = .returned (.slice q A.length c) ∧ Row w' (.slice q A.length c) 2 A.length (rwC atC A) ∧ Below w.heap.size w w' := by
  obtain ⟨ix, hi, hz0, hz1, hz2⟩ := info_parts info_attr
  obtain ⟨p, c, rfl, -⟩ := id hv
  have HV := Lib.hid hv
  obtain ⟨n, hn⟩ : ∃ n, n = A.length := ⟨_, rfl⟩
  have HN := Lib.hid hn
  rw [← hn] at HV hl ⊢
  clear hv hn
  have HO1 : Hid ((w.alloc (.cells #[] 40)).ownsRow w.heap.size 40 2 (.slice (some ⟨w.heap.size, 0, none⟩) 0 0) 0 []) := Lib.hid (World.ownsRow_lit w #[] 0 (Nat.le_refl _) (by simp [maxLen]) rfl)
  have HS1 : Hid (Src Tryz.prog 2 25 (.slice p n c) n (rwC atC A) (w.alloc (.cells #[] 40))) := Lib.hid ((HV.out.below (below_alloc _ _)).src Tryz.underlying25)
  go_enter Tryz.func6, Tryz.ntmps6
  go_wp2_with (at_builtin; refine wpList_app _ rfl _ _ 25 25 rfl w.heap.size 40 ix (.agg #[.string ⟨#[]⟩, .string ⟨#[]⟩]) 2 32 Tryz.underlying25 hi hz0 hz1 hz2 rfl _ 0 [] rfl HO1.out _ n (rwC atC A) rfl HS1.out (by unfold maxLen; omega) (by omega) (by simp) ?_; intro v' w2 hown' hgrow hnil; rw [Nat.zero_add] at hown'; obtain ⟨q2, c2, rfl⟩ : ∃ q c, v' = .slice q n c := (by obtain ⟨q, c, h, -⟩ := own_slice hown'; exact ⟨q, c, h⟩); have HO2 : Hid (w2.ownsRow w.heap.size 40 2 (.slice q2 n c2) n (rwC atC A)) := Lib.hid hown'; have HB2 : Hid (Below w.heap.size w w2) := Lib.hid (below_grown (below_alloc w _) (by simp) HO1.out hgrow); clear hown' hgrow hnil)
  go_ret
  exact ⟨q2, c2, rfl, row_of_owns HO2.out (rwC_one atC_one A), HB2.out⟩
end Go.Proofs.YtdnoceancoclmaaGreatDoor.Ru
