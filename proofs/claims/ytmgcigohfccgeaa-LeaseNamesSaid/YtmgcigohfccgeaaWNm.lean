/- Watch.Names: the ends' names, sorted. -/
import Derived.Test.YtmgcigohfccgeaaSort74
import Derived.Test.YtmgcigohfccgeaaTickPlain
import Derived.Test.YtmgcigohfccgeaaWatch3
import Derived.Sort.OwnSorted
namespace Go.Proofs.Ytmgcigohfccgeaa
open Go.RowKit

def bsort (ns : List ByteArray) : List ByteArray := ((ns.map fun b => b.data.toList).mergeSort (fun x y => decide (x ≤ y))).map fun l => ⟨l.toArray⟩
theorem bsort_length (ns : List ByteArray) : (bsort ns).length = ns.length := by simp [bsort]
theorem enc_of (ns : List ByteArray) : (ns.map fun b => b.data.toList).map encStr = ns.map Value.string := by
  rw [List.map_map]
  exact List.map_congr_left fun b _ => by simp [encStr]
theorem enc_bsort (ns : List ByteArray) : (((ns.map fun b => b.data.toList).mergeSort (fun x y => decide (x ≤ y))).map encStr) = (bsort ns).map Value.string := by
  unfold bsort
  rw [List.map_map]
  rfl

theorem sort_own {base : Nat} {v : Value} (ns : List ByteArray) (w : World) (ho : w.ownsRow base 9 1 v ns.length (ns.map Value.string)) (hl : ns.length < 4611686018427387904) :
    Calls Try.prog 74 #[v] w fun e w' => e = .returned (.tuple #[]) ∧ w'.ownsRow base 9 1 v ns.length ((bsort ns).map Value.string) ∧ w.grownBy w' v.ownBlock := by
  rw [← enc_of] at ho
  rw [← enc_bsort]
  have hl2 : (ns.map fun b => b.data.toList).length = ns.length := by simp
  generalize (ns.map fun b => b.data.toList) = ss at ho hl2 ⊢
  rw [← hl2] at ho hl ⊢
  clear hl2
  rcases ho.2 with ⟨hnil, h0⟩ | ⟨g, cap, cur, rfl, hbase, hb, h1, h2, h3, h4⟩
  · subst hnil
    have hn : ss.length = 0 := h0
    have : ss = [] := List.eq_nil_of_length_eq_zero hn
    subst this
    refine (Try.sort_none none 0 w).mono ?_
    rintro e w' ⟨rfl, rfl⟩
    exact ⟨rfl, by simpa using ho, ⟨rfl, rfl, rfl, Nat.le_refl _, fun _ _ _ => rfl⟩⟩
  · refine (Try.sort_row g 0 cap ss w (holds_of_block hb (by simpa using h4)) (Array.getElem?_eq_some_iff.1 hb).1 hl).mono ?_
    rintro e w' ⟨rfl, n, os, rfl⟩
    exact ⟨rfl, ownsRow_sorted (by simp) hbase hb h1 h2 h3, grownBy_sorted _⟩

set_option maxRecDepth 100000 in
set_option maxHeartbeats 1000000 in
theorem wnames_made (b : Nat) (T : Int) (v : Value) (L : List End) (w : World) (h : Wt w b T v L) (hl : L.length ≤ 700000) :
    Calls Try.prog 55 #[ptr b] w fun e w' => ∃ o, e = .returned o ∧ w'.ownsRow w.heap.size 9 1 o L.length ((bsort (L.map (·.1))).map Value.string) ∧ Below w.heap.size w w' := by
  obtain ⟨i0, hi, hz0, hz1, hz2⟩ := info_parts info_str
  have hml : maxLen ≤ 9223372036854775807 := by decide
  have H := Lib.hid h
  have HL := Lib.hid hl
  obtain ⟨p, c, rfl, -, -⟩ := h.shape
  have c1 := h.blk.cell (j := 1) rfl
  clear h hl
  go_enter Try.func55, Try.ntmps55
  go_wp2_with (go_at_call 60; refine (wnone_made b _ _ _ _ H.out).mono ?_; rintro e w2 ⟨rfl, rfl⟩)
  go_loopw [3, 13] (fun o i wr => ∃ k : Nat, k ≤ L.length ∧ i = .int .i64 (k : Int) ∧ Hid (wr.ownsRow w.heap.size 9 1 o k (names (L.take k))) ∧ Hid (Below w.heap.size w wr)) (fun _ i _ => L.length - (intOf i).toNat)
  case atStart => exact ⟨0, Nat.zero_le _, rfl, Lib.hid (World.ownsRow_nil _ _ _ _), Lib.hid (Below.refl _ _)⟩
  case round =>
    obtain ⟨i, hik, rfl, HO, HB⟩ := hrel
    have HW := Lib.hid (H.out.kept HB.out)
    by_cases hlt : i < L.length
    · have hx : L[i]? = some L[i] := List.getElem?_eq_getElem hlt
      obtain ⟨x, hxx⟩ : ∃ x, x = L[i] := ⟨_, rfl⟩
      rw [← hxx] at hx
      obtain ⟨g, cap, e4, -, -, -, -⟩ := HW.out.lies (by omega)
      simp only [Value.slice.injEq] at e4
      obtain ⟨rfl, -, rfl⟩ := e4
      have g0 := own_cell HW.out.own (ecells_name hx)
      have g1 := own_cell HW.out.own (ecells_at hx)
      have HX : Hid (L.take (i + 1) = L.take i ++ [x]) := Lib.hid (by rw [List.take_succ_eq_append_getElem hlt, ← hxx])
      have i1 : (i : Int) < (L.length : Int) := by omega
      have hLL := HL.out
      clear hxx hx
      obtain ⟨wa, hwa⟩ : ∃ wa, wa = wr.alloc (.cells #[.string x.1, .int .i64 x.2] 101) := ⟨_, rfl⟩
      have HWA := Lib.hid hwa
      have HBa : Hid (Below wr.heap.size wr wa) := Lib.hid (by rw [hwa]; exact below_alloc wr _)
      have HB2 : Hid (Below wr.heap.size wr (wa.alloc (.cells #[.string x.1] 9))) := Lib.hid (below_and HBa.out (below_alloc wa _))
      have HO3 : Hid (World.ownsRow (wa.alloc (.cells #[.string x.1] 9)) w.heap.size 9 1 u3 i (names (L.take i))) := Lib.hid (own_fr HO.out (Fr.of_below HB2.out []) (fun _ _ => by simp))
      have HAN : Hid ((wa.alloc (.cells #[.string x.1] 9)).heap[wr.heap.size + 1]? = some (.cells #[.string x.1] 9 (0, 0))) := Lib.hid (by rw [show wr.heap.size + 1 = wa.heap.size from by rw [hwa]; simp]; exact heap_alloc_new wa _)
      clear hwa
      go_wp2_with (at_builtin; go_must (rw [← HWA.out]); go_must (refine wpList_app5 rfl _ _ 44 44 rfl w.heap.size 9 i0 (.string ⟨#[]⟩) 1 16 Try.underlying44 hi hz0 hz1 hz2 rfl _ i _ rfl HO3.out _ 1 _ rfl (src_block Try.underlying44 _ _ #[_] HAN.out rfl (by simp [Value.oneCell'])) (by have := HL.out; unfold maxLen; omega) (by have := HL.out; omega) (by have := HB.out.size; have := HB2.out.size; simp at *; omega) ?_); intro v5 w5 ho5 hg5 hn5; have HO5 := Lib.hid ho5; have HG5 := Lib.hid hg5; clear ho5 hg5 hn5)
      have hG : World.grownBy (wa.alloc (.cells #[.string x.1] 9)) w5 u3.ownBlock := HG5.out
      have HG := Lib.hid hG
      clear hG HG5
      go_roundw
      case rel =>
        refine ⟨i + 1, hlt, by go_num, ?_, ?_⟩
        · refine Lib.hid ?_
          have := HO5.out
          rw [HX.out]
          simpa [names] using this
        · refine Lib.hid ((below_and HB.out HB2.out).trans ((Fr.of_grown HG.out).below (fun k hk => (HO3.out.lt k (by simpa using hk)).1) ?_))
          exact Nat.le_trans HB.out.size HB2.out.size
      case measure => simp [intOf]; omega
    · obtain rfl : i = L.length := by omega
      have HE := HO.out
      rw [List.take_length] at HE
      have HEE := Lib.hid HE
      clear HE
      have e0 : ∀ M : List End, names M = (M.map (·.1)).map Value.string := fun M => by unfold names; rw [List.map_map]; rfl
      obtain ⟨ns, hns⟩ : ∃ ns, ns = L.map (·.1) := ⟨_, rfl⟩
      have hln : ns.length = L.length := by rw [hns]; simp
      have HS : Hid (wr.ownsRow w.heap.size 9 1 u3 ns.length (ns.map Value.string)) := Lib.hid (by have := HEE.out; rw [e0, ← hns] at this; rw [hln]; exact this)
      have HLN : Hid (ns.length < 4611686018427387904) := Lib.hid (by have := HL.out; omega)
      have HNL := Lib.hid hln
      have HNS := Lib.hid hns
      clear hns hln e0
      go_wp2_with (go_at_call 74; refine (sort_own ns _ HS.out HLN.out).mono ?_; rintro e w2 ⟨rfl, ho2, hg2⟩; have HO2 := Lib.hid ho2; have HG2 : Hid (World.grownBy wr w2 u3.ownBlock) := Lib.hid hg2; clear ho2 hg2)
      go_ret
      refine ⟨_, rfl, ?_, ?_⟩
      · rw [← HNL.out, ← HNS.out]; exact HO2.out
      · exact HB.out.trans ((Fr.of_grown HG2.out).below (fun k hk => (HS.out.lt k (by simpa using hk)).1) HB.out.size)
end Go.Proofs.Ytmgcigohfccgeaa
