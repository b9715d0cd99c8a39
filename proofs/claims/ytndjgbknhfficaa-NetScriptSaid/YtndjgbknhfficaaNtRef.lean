/- NtRef. -/
import Derived.Test.YtndjgbknhfficaaNtOnceW
namespace Go.Proofs.Ytndjgbknhfficaa.Nt
open Go.RowKit Go.Proofs.Ytndjgbknhfficaa Go.Proofs.Ytndjgbknhfficaa.So

/-- the document's net at g: the row of its letters, the last number -/
structure RNet (w : World) (g : Nat) (v : Value) (last : Int) (L : List En) : Prop where
  blk : Blk w g [v, .int .u64 last] 50
  row : w.ownsRow 0 32 5 v L.length (rwC enC L)
  own : ∀ e ∈ L, w.ownsRow 0 5 1 e.v e.l.bd.length (e.l.bd.map B)
theorem RNet.kept {w w' : World} {g : Nat} {v : Value} {last : Int} {L : List En} (h : RNet w g v last L) (hb : Below w.heap.size w w') : RNet w' g v last L := ⟨h.blk.kept hb, own_keep h.row hb, fun e he => own_keep (h.own e he) hb⟩
set_option maxRecDepth 100000 in
set_option maxHeartbeats 2000000 in
theorem rplace_no {w : World} {g : Nat} {v : Value} {last : Int} {L : List En} (n : Int) (h : RNet w g v last L) (hno : ∀ e ∈ L, e.l.no ≠ n) :
    Calls Try.prog 40 #[ptr g, .int .u64 n] w fun e w' => e = .returned (.int .i64 (-1)) ∧ Below w.heap.size w w' := by
  have H := Lib.hid h
  obtain ⟨p, c, rfl, hc, hm⟩ := own_slice h.row
  unfold maxLen at hm
  obtain ⟨m, hmm⟩ : ∃ m, m = L.length := ⟨_, rfl⟩
  have HM := Lib.hid hmm
  rw [← hmm] at hc H
  have HNO := Lib.hid hno
  clear h hmm hno
  go_enter Try.func40, Try.ntmps40
  go_upto_region 2 with fail
  go_loopw [5] (fun vi wr => ∃ k : Nat, vi = .int .i64 k ∧ k ≤ m ∧ Hid (Below w.heap.size w wr)) (fun vi _ => m - (So.intOf vi).toNat)
  case atStart => exact ⟨0, by go_num, Nat.zero_le _, Lib.hid (Below.refl _ _)⟩
  case round =>
    obtain ⟨k, rfl, hk, HW⟩ := hrel
    have HR := Lib.hid (H.out.kept HW.out)
    have y0 := HR.out.blk.cell (j := 0) rfl
    by_cases hlt : k < m
    rotate_left
    · obtain rfl : k = m := by omega
      go_wp2
      go_ret
      exact ⟨rfl, HW.out⟩
    have K1 : Hid (k < L.length) := Lib.hid (by rw [← HM.out]; exact hlt)
    obtain ⟨e, he⟩ : ∃ e, e = L[k]'K1.out := ⟨_, rfl⟩
    have hrow : wr.ownsRow 0 32 5 (.slice p m c) m (rwC enC L) := by have h9 := HR.out.row; rw [← HM.out] at h9; exact h9
    obtain ⟨gr, rfl⟩ := own_some hrow (by omega)
    have z0 : wr.cell? ⟨gr, k * 5, none⟩ = some (.int .u64 e.l.no) := by have h9 := own_cell hrow (j := k * 5 + 0) (u := .int .u64 e.l.no) (by rw [rwC_at (show ∀ z, (enC z).length = 5 from fun _ => rfl) K1.out (by omega), ← he]; rfl); exact h9
    clear hrow
    have t0 : (e.l.no == n) = false := by have := HNO.out e (by rw [he]; exact List.getElem_mem _); simpa using this
    clear he
    go_wp2
    go_roundw
    case rel => exact ⟨k + 1, by go_num, by omega, HW⟩
    case measure => first | (simp [So.intOf]; done) | (simp [So.intOf]; omega)
set_option maxRecDepth 100000 in
set_option maxHeartbeats 2000000 in
theorem rplace_yes {w : World} {g : Nat} {v : Value} {last : Int} {L : List En} (n : Int) (h : RNet w g v last L) (i : Nat) (hi : i < L.length) (hq : (L[i]'hi).l.no = n) (hbf : ∀ j (hj : j < i), (L[j]'(by omega)).l.no ≠ n) :
    Calls Try.prog 40 #[ptr g, .int .u64 n] w fun e w' => e = .returned (.int .i64 i) ∧ Below w.heap.size w w' := by
  have H := Lib.hid h
  obtain ⟨p, c, rfl, hc, hm⟩ := own_slice h.row
  unfold maxLen at hm
  obtain ⟨m, hmm⟩ : ∃ m, m = L.length := ⟨_, rfl⟩
  have HM := Lib.hid hmm
  rw [← hmm] at hc H
  have hin : i < m := by omega
  have HQ := Lib.hid hq
  have HBF := Lib.hid hbf
  clear h hmm hq hbf
  go_enter Try.func40, Try.ntmps40
  go_upto_region 2 with fail
  go_loopw [5] (fun vi wr => ∃ k : Nat, vi = .int .i64 k ∧ k ≤ i ∧ Hid (Below w.heap.size w wr)) (fun vi _ => m - (So.intOf vi).toNat)
  case atStart => exact ⟨0, by go_num, Nat.zero_le _, Lib.hid (Below.refl _ _)⟩
  case round =>
    obtain ⟨k, rfl, hk, HW⟩ := hrel
    have HR := Lib.hid (H.out.kept HW.out)
    have y0 := HR.out.blk.cell (j := 0) rfl
    have hlt : k < m := by omega
    have K1 : Hid (k < L.length) := Lib.hid (by rw [← HM.out]; exact hlt)
    obtain ⟨e, he⟩ : ∃ e, e = L[k]'K1.out := ⟨_, rfl⟩
    have hrow : wr.ownsRow 0 32 5 (.slice p m c) m (rwC enC L) := by have h9 := HR.out.row; rw [← HM.out] at h9; exact h9
    obtain ⟨gr, rfl⟩ := own_some hrow (by omega)
    have z0 : wr.cell? ⟨gr, k * 5, none⟩ = some (.int .u64 e.l.no) := by have h9 := own_cell hrow (j := k * 5 + 0) (u := .int .u64 e.l.no) (by rw [rwC_at (show ∀ z, (enC z).length = 5 from fun _ => rfl) K1.out (by omega), ← he]; rfl); exact h9
    clear hrow
    by_cases hki : k < i
    · have t0 : (e.l.no == n) = false := by have := HBF.out k hki; rw [← he] at this; simpa using this
      clear he
      go_wp2
      go_roundw
      case rel => exact ⟨k + 1, by go_num, by omega, HW⟩
      case measure => first | (simp [So.intOf]; done) | (simp [So.intOf]; omega)
    · obtain rfl : k = i := by omega
      have t0 : (e.l.no == n) = true := by have := HQ.out; rw [← he] at this; simpa using this
      clear he
      go_wp2
      go_ret
      exact ⟨rfl, HW.out⟩
end Go.Proofs.Ytndjgbknhfficaa.Nt
