/- The ledger's Entries, In. -/
import Derived.Test.YtighcnecajgkpaaLedMore
import Derived.Test.YtighcnecajgkpaaLedPlain3
import Derived.Test.YtighcnecajgkpaaIter
import Derived.Test.YtighcnecajgkpaaMaps2
namespace Go.Proofs.Ytighcnecajgkpaa
open Go.RowKit

/-- the names, rising -/
theorem names_sorted (b mb : Nat) (cap : Am) (L : List Ent) (w : World) (h : Led w b mb cap L) (hr : Rise L) (hl : L.length ≤ 100000) :
    Calls Try.prog 42 #[.func (.func 54) #[] #[.pointer (some ⟨w.heap.size, 0, none⟩)]] (w.alloc (.cells #[.map (some mb)] 52)) fun e w' => ∃ v, e = .returned v ∧
      w'.ownsRow (w.heap.size + 1) 9 1 v L.length (L.map fun e => .string e.n) ∧ Below (w.heap.size + 1) (w.alloc (.cells #[.map (some mb)] 52)) w' := by
  have hsz := entM_keys L
  refine (callsIn_wide.1 (Try.slices_Sorted_keys_42_43 mb (entM L).length (entM L).dat anyElem w h.map (by rw [hsz]; unfold maxLen; omega) (by rw [hsz]; omega))).mono ?_
  rintro e w' ⟨v, ss, he, hp, hown, -, hb⟩
  rw [strKeys_ent] at hp
  have hlen := hp.length_eq
  simp only [List.length_map] at hlen
  have hso : ss.mergeSort (fun x y => decide (x ≤ y)) = L.map Ent.key := sort_rises hp hr.keys
  have hmap : (L.map Ent.key).map Go.Proofs.encStr = L.map fun e => Value.string e.n := by
    rw [List.map_map]
    rfl
  rw [hso, hlen, hmap] at hown
  exact ⟨v, he, by simpa using hown, by simpa using hb⟩

theorem info_ent : (Try.prog.info? 48).map (fun i => (i.zero, i.size, i.bytes)) = some (some (entV zE), 6, 64) := by kernel_rfl
def entsC (L : List Ent) : List Value := L.flatMap entC
theorem entsC_len (L : List Ent) : (entsC L).length = L.length * 6 := by
  induction L with
  | nil => rfl
  | cons e L ih => simp only [entsC, List.flatMap_cons, List.length_append, List.length_cons, List.length_nil] at *; omega
theorem entsC_one (L : List Ent) : ∀ u ∈ entsC L, u.oneCell' = true := by
  intro u hu
  obtain ⟨x, -, hx⟩ := List.mem_flatMap.1 hu
  simp only [List.mem_cons, List.not_mem_nil, or_false] at hx
  rcases hx with rfl | rfl | rfl | rfl | rfl | rfl <;> rfl
theorem entC_one (e : Ent) : ∀ u ∈ (entC e), u.oneCell' = true := by
  intro u hx
  simp only [List.mem_cons, List.not_mem_nil, or_false] at hx
  rcases hx with rfl | rfl | rfl | rfl | rfl | rfl <;> rfl

theorem entsC_snoc (L : List Ent) (x : Ent) : entsC (L ++ [x]) = entsC L ++ entC x := by
  unfold entsC
  rw [List.flatMap_append, List.flatMap_cons, List.flatMap_nil, List.append_nil]
theorem entsC_take {L : List Ent} {x : Ent} {k : Nat} (hlt : k < L.length) (hx : x = L[k]) : entsC (L.take (k + 1)) = entsC (L.take k) ++ entC x := by
  rw [List.take_succ_eq_append_getElem hlt, ← hx, entsC_snoc]

set_option maxRecDepth 100000 in
set_option maxHeartbeats 2000000 in
theorem entries_made (b mb : Nat) (cap : Am) (L : List Ent) (w : World) (h : Led w b mb cap L) (hr : Rise L) (hk : ∀ e ∈ L, e.n.size ≤ maxLen) (hl : L.length ≤ 100000) :
    Calls Try.prog 24 #[ptr b] w fun e w' => ∃ v, e = .returned v ∧ w'.ownsRow w.heap.size 48 6 v L.length (entsC L) ∧ Below w.heap.size w w' := by
  obtain ⟨i0, hi, hz0, hz1, hz2⟩ := info_parts info_ent
  have H := Lib.hid h
  have HK := Lib.hid hk
  have HAP := Lib.hid hr.apart
  have HL := Lib.hid hl
  have hml : maxLen ≤ 9223372036854775807 := by decide
  have c4 := h.blk.cell (j := 4) rfl
  have HKE := Lib.hid (callsIn_wide.1 (Try.maps_Keys_43 (some mb) w))
  have HSO := Lib.hid (names_sorted b mb cap L w h hr hl)
  clear h hr hk
  go_enter Try.func24, Try.ntmps24
  go_wp2_with (first
    | (go_at_call 29; refine (none_made b mb _ _ _ H.out).mono ?_; rintro e w' ⟨rfl, rfl⟩)
    | (go_at_call 43; refine HKE.out.mono ?_; rintro e w' ⟨rfl, rfl⟩)
    | (go_at_call 42; refine HSO.out.mono ?_; rintro e w3 ⟨v3, rfl, ho3, hb3⟩; obtain ⟨p3, k3, rfl, hk3, hm3⟩ := own_slice ho3; have HO3 := Lib.hid ho3; have HB3 : Hid (Below w.heap.size w w3) := Lib.hid ((below_alloc w _).trans (hb3.mono (by omega))); clear ho3 hb3))
  go_loopw [3, 15] (fun o i wr => ∃ k : Nat, k ≤ L.length ∧ i = .int .i64 (k : Int) ∧ Hid (wr.ownsRow w.heap.size 48 6 o k (entsC (L.take k)) ∧ ∀ x, o.ownBlock = some x → w3.heap.size ≤ x) ∧ Hid (Below w3.heap.size w3 wr)) (fun _ i _ => L.length - (intOf i).toNat)
  case atStart => exact ⟨0, Nat.zero_le _, rfl, Lib.hid ⟨World.ownsRow_nil _ _ _ _, fun x h => by simp [Value.ownBlock] at h⟩, Lib.hid (Below.refl _ _)⟩
  case round =>
    obtain ⟨k, hk, rfl, HO, HB⟩ := hrel
    by_cases hlt : k < L.length
    · obtain ⟨g3, cap3, e3, -, -, -⟩ := own_block HO3.out (by omega)
      simp only [Value.slice.injEq] at e3
      obtain ⟨rfl, -, rfl⟩ := e3
      obtain ⟨x, hx⟩ : ∃ x, x = L[k] := ⟨_, rfl⟩
      have hc := cell_kept (own_cell HO3.out (j := k) (u := .string x.n) (by rw [hx]; simp [hlt])) HB.out
      have hmem : x ∈ L := by rw [hx]; exact List.getElem_mem hlt
      have HG := Lib.hid (get_some (fnd_of HAP.out hmem))
      have HXS := Lib.hid (HK.out x hmem)
      have HHR := Lib.hid (H.out.kept (below_and HB3.out HB.out))
      have c4r := HHR.out.blk.cell (j := 4) rfl
      have hoa := own_fr HO.out.1 (Fr.of_below (below_alloc wr (.cells #[.string x.n, .string x.i, .int .i64 x.a.c, .int .i64 x.a.r, .int .i64 x.a.d, .int .i64 x.a.p] 48)) []) (fun _ _ => by simp)
      have HOA := Lib.hid hoa
      have hwz := (below_and HB3.out HB.out).size
      have HWZ := Lib.hid hwz
      have HT : Hid (entsC (L.take (k + 1)) = entsC (L.take k) ++ entC x) := Lib.hid (entsC_take hlt hx)
      have i1 : (k : Int) < (L.length : Int) := by omega
      clear hx hmem hoa hwz
      go_wp2_with (first
        | (at_lookup; refine wpList_slook _ rfl _ _ _ rfl 9 48 Try.underlying9 Try.underlying52 (ezero _) mb (entM L) rfl HHR.out.map x.n rfl HXS.out ?_; rw [show (entM L).get x.n.data.toList = some (entV x) from HG.out.1]; simp only [Option.getD_some])
        | (at_builtin; go_loud (refine wpList_app5 rfl _ _ 56 56 rfl w.heap.size 48 i0 (entV zE) 6 64 Try.underlying56 hi hz0 hz1 hz2 rfl _ k (entsC (L.take k)) rfl HOA.out _ 1 _ rfl (src_block Try.underlying56 _ _ #[_, _, _, _, _, _] (heap_alloc_new wr _) rfl (entC_one x)) (by have := HL.out; unfold maxLen; omega) (by have := HL.out; omega) (by have := HWZ.out; simp; omega) ?_; intro o4 w4 ho4 hg4 hn4; have HO4 := Lib.hid ho4; have HN4 : Hid (∀ x, o4.ownBlock = some x → w3.heap.size ≤ x) := Lib.hid (fun y hy => by rcases hn4 y hy with h1 | h1; exact HO.out.2 y h1; have := HB.out.size; simp at h1; omega); have HB4 : Hid (Below w3.heap.size w3 w4) := Lib.hid ((below_and HB.out (below_alloc wr _)).trans ((Fr.of_grown hg4).below (by intro y hy; exact HO.out.2 y (Option.mem_toList.1 hy)) (by have := HB.out.size; simp; omega))); clear ho4 hg4 hn4)))
      go_roundw
      case rel => exact ⟨k + 1, hlt, by go_num, Lib.hid ⟨by rw [HT.out]; exact HO4.out, HN4.out⟩, HB4⟩
      case measure => simp [intOf]; omega
    · obtain rfl : k = L.length := by omega
      have HE := HO.out.1
      rw [List.take_length] at HE
      have HEE := Lib.hid HE
      clear HE
      go_wp2
      go_ret
      exact ⟨_, rfl, HEE.out, below_and HB3.out HB.out⟩
end Go.Proofs.Ytighcnecajgkpaa
