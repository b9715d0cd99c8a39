/- Chapter 8's one: a course of one clock. -/
import Derived.Test.YtmgcigohfccgeaaCLend
namespace Go.Proofs.Ytmgcigohfccgeaa
open Go.RowKit

set_option maxRecDepth 100000 in
set_option maxHeartbeats 1000000 in
theorem one_any (v : Value) (zs : List Int) (w : World) (h : Row w v 1 zs.length (zs.map (Value.int .i64))) (hl : zs.length ≤ 200) :
    Calls Try.prog 31 #[v] w fun e w' => ∃ v', e = .returned v' ∧ Rows2 w' v' (zs.map fun z => [z]) ∧ Below w.heap.size w w' := by
  have HZ := Lib.hid h
  obtain ⟨p, c, rfl, -⟩ := h
  have hml : maxLen ≤ 9223372036854775807 := by decide
  obtain ⟨i1, hi', hz0', hz1', hz2'⟩ := info_parts info_ints
  have HLN : Hid ((zs.map fun z => [z]).length = zs.length) := Lib.hid (by simp)
  go_enter Try.func31, Try.ntmps31
  go_wp2
  go_loopw [3, 4] (fun o i wc => ∃ (k : Nat) (vs : List Value), k ≤ zs.length ∧ i = .int .i64 (k : Int) ∧ Hid (Rows2Own w.heap.size wc o k (zs.map fun z => [z]) vs) ∧ Hid (Below w.heap.size w wc)) (fun _ i _ => zs.length - (intOf i).toNat)
  case atStart => exact ⟨0, [], Nat.zero_le _, rfl, ⟨World.ownsRow_nil _ _ _ _, fun j _ u h _ => by omega⟩, Below.refl _ _⟩
  case round =>
    obtain ⟨k, vs, hk, rfl, HR, HB⟩ := hrel
    by_cases hlt : k < zs.length
    · obtain ⟨b, o, rfl, e1⟩ := (HZ.out.below HB.out).num hlt
      obtain ⟨x, hx⟩ : ∃ x, x = zs[k] := ⟨_, rfl⟩
      rw [← hx] at e1
      have HX := Lib.hid hx
      have HU2 : Hid (Row (wr.alloc (.cells #[.int .i64 x] 3)) (.slice (some ⟨wr.heap.size, 0, none⟩) 1 1) 1 1 [.int .i64 x]) := Lib.hid (row_block (us := [.int .i64 x]) (heap_alloc_new wr _) (by simp [maxLen]) (by simp [Value.oneCell']))
      have HO2 : Hid (World.ownsRow ((wr.alloc (.cells #[.int .i64 x] 3)).alloc (.cells #[.slice (some ⟨wr.heap.size, 0, none⟩) 1 1] 24)) w.heap.size 24 1 u3 k vs) := Lib.hid (own_fr HR.out.own (Fr.of_below (below_and (below_alloc wr _) (below_alloc _ _)) []) (fun _ _ => by simp))
      have HS2 : Hid (w.heap.size ≤ ((wr.alloc (.cells #[.int .i64 x] 3)).alloc (.cells #[.slice (some ⟨wr.heap.size, 0, none⟩) 1 1] 24)).heap.size) := Lib.hid (by have := HB.out.size; simp; omega)
      have HK : Hid (k < (zs.map fun z => [z]).length) := Lib.hid (by simpa using hlt)
      have HKE : Hid ((zs.map fun z => [z])[k]'HK.out = [x]) := Lib.hid (by rw [hx]; simp)
      have HG2 : Hid (((wr.alloc (.cells #[.int .i64 x] 3)).alloc (.cells #[.slice (some ⟨wr.heap.size, 0, none⟩) 1 1] 24)).heap[wr.heap.size + 1]? = some (.cells #[.slice (some ⟨wr.heap.size, 0, none⟩) 1 1] 24 (0, 0))) := Lib.hid (by have := heap_alloc_new (wr.alloc (.cells #[.int .i64 x] 3)) (.cells #[.slice (some ⟨wr.heap.size, 0, none⟩) 1 1] 24); simpa using this)
      clear hx
      go_wp2_with (at_builtin; refine wpList_app5 rfl _ _ 22 22 rfl w.heap.size 24 i1 (.slice none 0 0) 1 24 Try.underlying22 hi' hz0' hz1' hz2' rfl _ k vs rfl HO2.out _ 1 _ rfl (src_block Try.underlying22 _ _ #[_] HG2.out rfl (by simp [Value.oneCell'])) (by unfold maxLen; omega) (by omega) HS2.out ?_; intro o3 w3 h3 hg3 hn3; have HR3 := Lib.hid (Rows2Own.push HR.out HK.out (below_alloc wr _) (by rw [HKE.out]; exact HU2.out) (fun y hy => by simp [Value.ownBlock] at hy; subst hy; exact ⟨Nat.le_refl _, by simp⟩) rfl (below_alloc _ _) h3 hg3 hn3); have HB3 : Hid (Below w.heap.size w w3) := Lib.hid (below_grown (below_and HB.out (below_and (below_alloc wr _) (below_alloc _ _))) HS2.out HO2.out hg3); clear h3 hg3 hn3)
      go_roundw
      case rel => exact ⟨k + 1, _, hlt, by go_num, HR3, HB3⟩
      case measure => simp [intOf]; omega
    · obtain rfl : k = zs.length := by omega
      have HF : Hid (Rows2 wr u3 (zs.map fun z => [z])) := Lib.hid (Rows2Own.rows (vs := vs) (base := w.heap.size) (by rw [HLN.out]; exact HR.out))
      go_wp2
      go_ret
      exact ⟨_, rfl, HF.out, HB.out⟩
end Go.Proofs.Ytmgcigohfccgeaa
