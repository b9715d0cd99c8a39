/- The document's queue: leave. -/
import Derived.Test.YtlemfbgmhjklaaaRQ2
namespace Go.Proofs.Ytlemfbgmhjklaaa
open Go.RowKit

theorem info_str : (Try.prog.info? 9).map (fun i => (i.zero, i.size, i.bytes)) = some (some (.string ⟨#[]⟩), 1, 16) := by kernel_rfl
def leaveW (rw : Nat → List ByteArray) (L : List Pend) (u : ByteArray) (b : Nat) : Nat → List ByteArray := if L.any (kf (u, (b : Int))) = true then rw else updV rw b ((rw b).filter fun x => decide (x ≠ u))
theorem firstI_any {L : List Pend} {k : Key} : (L.any (kf k) = true → 0 ≤ firstI L k) ∧ (L.any (kf k) = false → firstI L k = -1) := by
  unfold firstI
  constructor
  · intro h
    have : (L.findIdx? (kf k)).isSome = true := by rw [List.findIdx?_isSome]; exact h
    obtain ⟨i, hi⟩ := Option.isSome_iff_exists.1 this
    rw [hi]
    simp only
    omega
  · intro h
    have : L.findIdx? (kf k) = none := by
      rw [List.findIdx?_eq_none_iff]
      intro x hx
      rw [List.any_eq_false] at h
      simpa using h x hx
    rw [this]
theorem strV_at {ns : List ByteArray} {k : Nat} (h : k < ns.length) : (strV ns)[k]? = some (.string ns[k]) := by
  unfold strV
  rw [List.getElem?_map, List.getElem?_eq_getElem h]; rfl

set_option maxRecDepth 100000 in
set_option maxHeartbeats 2000000 in
theorem rleave_any (base g b : Nat) (rv : Nat → Value) (vL : Value) (rw : Nat → List ByteArray) (L : List Pend) (u : ByteArray) (w : World) (h : RQ base w g rv vL rw L) (hb4 : b < 4) (hl : (rw b).length ≤ 100000) :
    Calls Try.prog 40 #[ptr g, .string u, .int .i64 (b : Int)] w fun e w' => e = .returned (.tuple #[]) ∧ ∃ rv', RQ base w' g rv' vL (leaveW rw L u b) L ∧ RSt w w' g rv vL rv' vL := by
  have hml : maxLen ≤ 9223372036854775807 := by decide
  have H := Lib.hid h
  have i1 : (b : Int) < 4 := by omega
  cases ha : L.any (kf (u, (b : Int)))
  · have HFI : Hid (firstI L (u, (b : Int)) = -1) := Lib.hid (firstI_any.2 ha)
    have HLV : Hid (leaveW rw L u b = updV rw b ((rw b).filter fun x => decide (x ≠ u))) := Lib.hid (by unfold leaveW; rw [if_neg (by rw [ha]; simp)])
    obtain ⟨ns, hns⟩ : ∃ ns, ns = rw b := ⟨_, rfl⟩
    have hrow := h.rows b hb4
    rw [← hns] at hrow HLV hl
    obtain ⟨pb, cc, hvb⟩ := row_shape' hrow
    have cb := rv_at h hb4
    have fb := h.blk.free b
    rw [hvb] at cb hrow
    have HRW := Lib.hid hrow
    obtain ⟨j0, hj0, hz0, hz1, hz2⟩ := info_parts info_str
    clear h ha hns hrow hvb hml
    go_enter Try.func40, Try.ntmps40
    go_wp2_with (go_at_call 37; refine (rfirst_any base g rv vL rw L u (b : Int) _ H.out).mono ?_; rw [HFI.out]; rintro e w2 ⟨rfl, rfl⟩)
    go_loopw [6, 7] (fun o i wc => ∃ (k : Nat) (os : List ByteArray), k ≤ ns.length ∧ i = .int .i64 (k : Int) ∧ Hid (wc.ownsRow w.heap.size 9 1 o os.length (strV os)) ∧ Hid (os = (ns.take k).filter fun x => decide (x ≠ u)) ∧ os.length ≤ k ∧ Hid (Below w.heap.size w wc)) (fun _ i _ => ns.length - (intOf i).toNat)
    case atStart => exact ⟨0, [], Nat.zero_le _, rfl, Lib.hid (World.ownsRow_nil _ _ _ _), Lib.hid rfl, Nat.le_refl _, Lib.hid (Below.refl _ _)⟩
    case round =>
      obtain ⟨k, os, hk, rfl, HO, HOS, hol, HB⟩ := hrel
      obtain ⟨po, co, rfl, -, -⟩ := own_slice HO.out
      have HK := H.out.kept HB.out
      have cb2 := cell_kept cb HB.out
      by_cases hlt : k < ns.length
      · obtain ⟨q, cap, e, -, -, -⟩ := own_block HRW.out (by omega)
        simp only [Value.slice.injEq] at e
        obtain ⟨rfl, -, rfl⟩ := e
        obtain ⟨x, hx⟩ : ∃ x, x = ns[k] := ⟨_, rfl⟩
        have ck : wr.cell? ⟨q, k, none⟩ = some (.string x) := cell_kept (own_cell HRW.out (by rw [strV_at hlt, hx])) HB.out
        have i2 : (k : Int) < (ns.length : Int) := by omega
        have htk : ns.take (k + 1) = ns.take k ++ [x] := by rw [List.take_succ_eq_append_getElem hlt, hx]
        by_cases hq : x = u
        · have hne : (x.toList == u.toList) = true := by rw [toList_eq]; simpa using hq
          have HF : Hid (os = (ns.take (k + 1)).filter (fun x => decide (x ≠ u))) := Lib.hid (by rw [htk, List.filter_append, List.filter_cons_of_neg (by simp [hq]), HOS.out]; simp)
          clear hx hq htk
          go_wp2
          go_roundw
          case rel => exact ⟨k + 1, os, hlt, by go_num, HO, HF, by omega, HB⟩
          case measure => simp [intOf]; omega
        · have hne : (x.toList == u.toList) = false := by rw [toList_eq]; simpa using hq
          have HF : Hid (os ++ [x] = (ns.take (k + 1)).filter (fun x => decide (x ≠ u))) := Lib.hid (by rw [htk, List.filter_append, List.filter_cons_of_pos (by simp [hq]), HOS.out]; simp)
          have HOA := Lib.hid (HO.out.alloc (.cells #[.string x] 9))
          have HSZ : Hid (w.heap.size ≤ wr.heap.size) := Lib.hid HB.out.size
          clear hx hq htk
          go_wp2_with (at_builtin; go_loud (refine wpList_app5 rfl _ _ 43 43 rfl w.heap.size 9 j0 (.string ⟨#[]⟩) 1 16 Try.underlying43 hj0 hz0 hz1 hz2 rfl _ os.length (strV os) rfl HOA.out _ 1 _ rfl (src_block Try.underlying43 _ _ #[_] (heap_alloc_new _ _) rfl (by simp [Value.oneCell'])) (by unfold maxLen; omega) (by omega) (by have := HSZ.out; simp; omega) ?_; intro o6 w6 ho hg hn; obtain ⟨p6, c6, rfl, -, -⟩ := own_slice ho; have HO6 := Lib.hid ho; have HB6 : Hid (Below w.heap.size w w6) := Lib.hid ((below_and HB.out (below_alloc wr (.cells #[.string x] 9))).trans ((Fr.of_grown hg).below (fun y hy => own_lo HO.out (Option.mem_toList.1 hy)) (by have := HSZ.out; simp; omega))); clear ho hg hn))
          go_roundw
          case rel => exact ⟨k + 1, os ++ [x], hlt, by go_num, Lib.hid (by have := HO6.out; unfold strV at *; simpa using this), HF, by simp; omega, HB6⟩
          case measure => simp [intOf]; omega
      · obtain rfl : k = ns.length := by omega
        have HE : Hid (os = ns.filter fun x => decide (x ≠ u)) := Lib.hid (by rw [HOS.out, List.take_length])
        have fb2 := HK.blk.free b
        clear HK
        go_wp2
        refine end0 rfl rfl ⟨rfl, updV rv b (.slice po os.length co), ?_⟩
        rw [HLV.out, ← HE.out]
        exact H.out.setR hb4 HB.out (own_mono HO.out (Nat.le_trans H.out.lo (Nat.le_of_lt H.out.blk.lt))) (fun k hk => own_lo HO.out hk)
  · have HFI : Hid (0 ≤ firstI L (u, (b : Int))) := Lib.hid (firstI_any.1 ha)
    have HLV : Hid (leaveW rw L u b = rw) := Lib.hid (by unfold leaveW; rw [if_pos ha])
    obtain ⟨fi, hfi⟩ : ∃ fi, fi = firstI L (u, (b : Int)) := ⟨_, rfl⟩
    rw [← hfi] at HFI
    have hfi0 := HFI.out
    have HF := Lib.hid hfi
    clear h ha hfi
    go_enter Try.func40, Try.ntmps40
    go_wp2_with (go_at_call 37; refine (rfirst_any base g rv vL rw L u (b : Int) _ H.out).mono ?_; rw [← HF.out]; rintro e w2 ⟨rfl, rfl⟩)
    refine end0r rfl rfl ⟨rfl, rv, ?_⟩
    rw [HLV.out]
    exact ⟨H.out, RSt.of_below (Below.refl _ _) g rv vL⟩
end Go.Proofs.Ytlemfbgmhjklaaa
