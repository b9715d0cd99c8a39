/- The book's Charges. -/
import Derived.Test.YtmgbailpmcggiaaQChange
import Derived.Test.YtmgbailpmcggiaaIter
import Derived.Test.YtmgbailpmcggiaaMaps2
import Derived.Test.YtmgbailpmcggiaaRw
namespace Go.Proofs.Ytmgbailpmcggiaa
open Go.RowKit

theorem chC_len (c : Ch) : (chC c).length = 7 := rfl
theorem chC_one (c : Ch) : ∀ u ∈ chC c, u.oneCell' = true := by
  intro u hx
  simp only [List.mem_cons, List.not_mem_nil, or_false] at hx
  rcases hx with rfl | rfl | rfl | rfl | rfl | rfl | rfl <;> rfl
/-- the names, rising -/
theorem names_sorted (b mg mc : Nat) (G : List Gr) (C : List Ch) (w : World) (h : Bk w b mg mc G C) (hr : KRise Ch.key C) (hl : C.length ≤ 100000) :
    Calls Try.prog 31 #[.func (.func 46) #[] #[.pointer (some ⟨w.heap.size, 0, none⟩)]] (w.alloc (.cells #[.map (some mc)] 52)) fun e w' => ∃ v, e = .returned v ∧
      w'.ownsRow (w.heap.size + 1) 9 1 v C.length (C.map fun e => .string e.n) ∧ Below (w.heap.size + 1) (w.alloc (.cells #[.map (some mc)] 52)) w' := by
  have hsz : Go.Maps.size (chM C).dat = C.length := kM_size C
  refine (callsIn_wide.1 (Try.slices_Sorted_keys_31_32 mc (chM C).length (chM C).dat anyElem w h.cm (by rw [hsz]; unfold maxLen; omega) (by rw [hsz]; omega))).mono ?_
  rintro e w' ⟨v, ss, he, hp, hown, -, hb⟩
  rw [show Go.strKeys (chM C).dat = C.map Ch.key from kM_keys C] at hp
  have hlen := hp.length_eq
  simp only [List.length_map] at hlen
  have hso : ss.mergeSort (fun x y => decide (x ≤ y)) = C.map Ch.key := sort_rises hp hr.keys
  have hmap : (C.map Ch.key).map Go.Proofs.encStr = C.map fun e => Value.string e.n := by
    rw [List.map_map]
    rfl
  rw [hso, hlen, hmap] at hown
  exact ⟨v, he, by simpa using hown, by simpa using hb⟩

theorem info_ch : (Try.prog.info? 31).map (fun i => (i.zero, i.size, i.bytes)) = some (some (chV zC), 7, 72) := by kernel_rfl

set_option maxRecDepth 100000 in
set_option maxHeartbeats 2000000 in
theorem charges_made (b mg mc : Nat) (G : List Gr) (C : List Ch) (w : World) (h : Bk w b mg mc G C) (hr : KRise Ch.key C) (hk : ∀ e ∈ C, e.n.size ≤ maxLen) (hl : C.length ≤ 100000) :
    Calls Try.prog 13 #[ptr b] w fun e w' => ∃ v, e = .returned v ∧ w'.ownsRow w.heap.size 31 7 v C.length (rwC chC C) ∧ Below w.heap.size w w' := by
  obtain ⟨i0, hi, hz0, hz1, hz2⟩ := info_parts info_ch
  have H := Lib.hid h
  have HK := Lib.hid hk
  have HAP := Lib.hid hr.apart
  have HL := Lib.hid hl
  have hml : maxLen ≤ 9223372036854775807 := by decide
  have c4 := h.blk.cell (j := 1) rfl
  have HKE := Lib.hid (callsIn_wide.1 (Try.maps_Keys_32 (some mc) w))
  have HSO := Lib.hid (names_sorted b mg mc G C w h hr hl)
  clear h hr hk
  go_enter Try.func13, Try.ntmps13
  go_wp2_with (first
    | (go_at_call 32; refine HKE.out.mono ?_; rintro e w' ⟨rfl, rfl⟩)
    | (go_at_call 31; refine HSO.out.mono ?_; rintro e w3 ⟨v3, rfl, ho3, hb3⟩; obtain ⟨p3, k3, rfl, hk3, hm3⟩ := own_slice ho3; have HO3 := Lib.hid ho3; have HB3 : Hid (Below w.heap.size w w3) := Lib.hid ((below_alloc w _).trans (hb3.mono (by omega))); clear ho3 hb3))
  go_loopw [3, 15] (fun o i wr => ∃ k : Nat, k ≤ C.length ∧ i = .int .i64 (k : Int) ∧ Hid (wr.ownsRow w.heap.size 31 7 o k (rwC chC (C.take k)) ∧ ∀ x, o.ownBlock = some x → w3.heap.size ≤ x) ∧ Hid (Below w3.heap.size w3 wr)) (fun _ i _ => C.length - (intOf i).toNat)
  case atStart => exact ⟨0, Nat.zero_le _, rfl, Lib.hid ⟨World.ownsRow_nil _ _ _ _, fun x h => by simp [Value.ownBlock] at h⟩, Lib.hid (Below.refl _ _)⟩
  case round =>
    obtain ⟨k, hk, rfl, HO, HB⟩ := hrel
    by_cases hlt : k < C.length
    · obtain ⟨g3, cap3, e3, -, -, -⟩ := own_block HO3.out (by omega)
      simp only [Value.slice.injEq] at e3
      obtain ⟨rfl, -, rfl⟩ := e3
      obtain ⟨x, hx⟩ : ∃ x, x = C[k] := ⟨_, rfl⟩
      have hc := cell_kept (own_cell HO3.out (j := k) (u := .string x.n) (by rw [hx]; simp [hlt])) HB.out
      have hmem : x ∈ C := by rw [hx]; exact List.getElem_mem hlt
      have HG := Lib.hid (chM_get_some (kfnd_of HAP.out hmem))
      have HXS := Lib.hid (HK.out x hmem)
      have HHR := Lib.hid (H.out.kept (below_and HB3.out HB.out))
      have c4r := HHR.out.blk.cell (j := 1) rfl
      have hoa := own_fr HO.out.1 (Fr.of_below (below_alloc wr (.cells #[.string x.n, .string x.u, .int .i64 x.b, .int .i64 x.a.c, .int .i64 x.a.r, .int .i64 x.a.d, .int .i64 x.a.p] 31)) []) (fun _ _ => by simp)
      have HOA := Lib.hid hoa
      have hwz := (below_and HB3.out HB.out).size
      have HWZ := Lib.hid hwz
      have HT : Hid (rwC chC (C.take (k + 1)) = rwC chC (C.take k) ++ chC x) := Lib.hid (by rw [List.take_succ_eq_append_getElem hlt, ← hx, rwC_snoc])
      have i1 : (k : Int) < (C.length : Int) := by omega
      clear hx hmem hoa hwz
      go_wp2_with (first
        | (at_lookup; refine wpList_slook _ rfl _ _ _ rfl 9 31 Try.underlying9 Try.underlying52 (czero _) mc (chM C) rfl HHR.out.cm x.n rfl HXS.out ?_; rw [show (chM C).get x.n.data.toList = some (chV x) from HG.out.1]; simp only [Option.getD_some])
        | (at_builtin; go_loud (refine wpList_app5 rfl _ _ 32 32 rfl w.heap.size 31 i0 (chV zC) 7 72 Try.underlying32 hi hz0 hz1 hz2 rfl _ k (rwC chC (C.take k)) rfl HOA.out _ 1 _ rfl (src_block Try.underlying32 _ _ #[_, _, _, _, _, _, _] (heap_alloc_new wr _) rfl (chC_one x)) (by have := HL.out; unfold maxLen; omega) (by have := HL.out; omega) (by have := HWZ.out; simp; omega) ?_; intro o4 w4 ho4 hg4 hn4; have HO4 := Lib.hid ho4; have HN4 : Hid (∀ x, o4.ownBlock = some x → w3.heap.size ≤ x) := Lib.hid (fun y hy => by rcases hn4 y hy with h1 | h1; exact HO.out.2 y h1; have := HB.out.size; simp at h1; omega); have HB4 : Hid (Below w3.heap.size w3 w4) := Lib.hid ((below_and HB.out (below_alloc wr _)).trans ((Fr.of_grown hg4).below (by intro y hy; exact HO.out.2 y (Option.mem_toList.1 hy)) (by have := HB.out.size; simp; omega))); clear ho4 hg4 hn4)))
      go_roundw
      case rel => exact ⟨k + 1, hlt, by go_num, Lib.hid ⟨by rw [HT.out]; exact HO4.out, HN4.out⟩, HB4⟩
      case measure => simp [intOf]; omega
    · obtain rfl : k = C.length := by omega
      have HE := HO.out.1
      rw [List.take_length] at HE
      have HEE := Lib.hid HE
      clear HE
      go_wp2
      go_ret
      exact ⟨_, rfl, HEE.out, below_and HB3.out HB.out⟩
end Go.Proofs.Ytmgbailpmcggiaa
