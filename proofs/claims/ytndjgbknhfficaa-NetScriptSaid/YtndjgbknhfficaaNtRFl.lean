/- NtRFl. -/
import Derived.Test.YtndjgbknhfficaaNtScP
import Derived.Test.YtndjgbknhfficaaNtSame
import Derived.Test.YtndjgbknhfficaaNtFlight
import Derived.Test.YtndjgbknhfficaaPast
namespace Go.Proofs.Ytndjgbknhfficaa.Nt
open Go.RowKit Go.Proofs.Ytndjgbknhfficaa Go.Proofs.Ytndjgbknhfficaa.So

theorem at5 {w : World} {base g n c : Nat} {L : List En} (h : w.ownsRow base 32 5 (.slice (some ⟨g, 0, none⟩) n c) n (rwC enC L)) {k : Nat} (hk : k < L.length) {px : Option Addr} {lx cx : Nat} (hv : (L[k]'hk).v = .slice px lx cx) : ∀ j u, (ltC (L[k]'hk).l (.slice px lx cx))[j]? = some u → w.cell? ⟨g, k * 5 + j, none⟩ = some u := fun j u hu => by
  rw [← hv] at hu
  exact own_cell h (j := k * 5 + j) (by rw [rwC_at (show ∀ z, (enC z).length = 5 from fun _ => rfl) hk (List.getElem?_eq_some_iff.1 hu).1]; exact hu)
set_option maxRecDepth 100000 in
set_option maxHeartbeats 4000000 in
theorem flsame_any {b1 b2 : Nat} (va vb : Value) (La Lb : List En) (w : World) (h1 : w.ownsRow b1 32 5 va La.length (rwC enC La)) (d1 : ∀ e ∈ La, Go.Proofs.Ytndjgbknhfficaa.Rd w e.v e.l.bd) (h2 : w.ownsRow b2 32 5 vb Lb.length (rwC enC Lb)) (d2 : ∀ e ∈ Lb, Go.Proofs.Ytndjgbknhfficaa.Rd w e.v e.l.bd) (he : lts La = lts Lb) :
    Calls Try.prog 29 #[va, vb] w fun e w' => e = .returned (.bool true) ∧ Below w.heap.size w w' := by
  obtain ⟨pa, ca, rfl, hca, hma⟩ := own_slice h1
  obtain ⟨pb, cb, rfl, hcb, hmb⟩ := own_slice h2
  unfold maxLen at hma hmb
  have hlen := lts_len he
  rw [← hlen] at h2 hcb ⊢
  obtain ⟨m, hm⟩ : ∃ m, m = La.length := ⟨_, rfl⟩
  have HM := Lib.hid hm
  have HLL := Lib.hid hlen
  rw [← hm] at h1 h2 hca hcb ⊢
  have H1 := Lib.hid h1
  have H2 := Lib.hid h2
  have D1 := Lib.hid d1
  have D2 := Lib.hid d2
  have HE := Lib.hid he
  clear h1 h2 d1 d2 he hm hlen
  go_enter Try.func29, Try.ntmps29
  go_upto_region 4 with fail
  go_loopw [5] (fun vi wr => ∃ k : Nat, k ≤ m ∧ vi = .int .i64 k ∧ Hid (Below w.heap.size w wr)) (fun vi _ => m - (So.intOf vi).toNat)
  case atStart => exact ⟨0, Nat.zero_le _, by go_num, Lib.hid (Below.refl _ _)⟩
  case round =>
    obtain ⟨k, hk, rfl, HW⟩ := hrel
    by_cases hlt : k < m
    rotate_left
    · obtain rfl : k = m := by omega
      go_wp2
      go_ret
      exact ⟨rfl, HW.out⟩
    have K1 : Hid (k < La.length) := Lib.hid (by have := HM.out; omega)
    have K2 : Hid (k < Lb.length) := Lib.hid (by have := HLL.out; have := HM.out; omega)
    have hab : (La[k]'K1.out).l = (Lb[k]'K2.out).l := lts_at HE.out K2.out
    have RX : Hid (∀ s : Past wr, Go.Proofs.Ytndjgbknhfficaa.Rd s.val (La[k]'K1.out).v (La[k]'K1.out).l.bd) := Lib.hid (fun s => ((D1.out _ (List.getElem_mem K1.out)).below HW.out).below s.h)
    have RY : Hid (∀ s : Past wr, Go.Proofs.Ytndjgbknhfficaa.Rd s.val (Lb[k]'K2.out).v (Lb[k]'K2.out).l.bd) := Lib.hid (fun s => ((D2.out _ (List.getElem_mem K2.out)).below HW.out).below s.h)
    obtain ⟨px, cx, hvx, -⟩ := (D1.out _ (List.getElem_mem K1.out)).parts
    obtain ⟨py, cy, hvy, -⟩ := (D2.out _ (List.getElem_mem K2.out)).parts
    obtain ⟨ga, rfl⟩ := own_some H1.out (by omega)
    obtain ⟨gb, rfl⟩ := own_some H2.out (by omega)
    have ca9 : ∀ j u, (ltC (La[k]'K1.out).l (.slice px (La[k]'K1.out).l.bd.length cx))[j]? = some u → ∀ s : Past wr, s.val.cell? ⟨ga, k * 5 + j, none⟩ = some u := fun j u hu s => at5 (own_keep (own_keep H1.out HW.out) s.h) K1.out hvx j u hu
    have cb9 : ∀ j u, (ltC (Lb[k]'K2.out).l (.slice py (Lb[k]'K2.out).l.bd.length cy))[j]? = some u → ∀ s : Past wr, s.val.cell? ⟨gb, k * 5 + j, none⟩ = some u := fun j u hu s => at5 (own_keep (own_keep H2.out HW.out) s.h) K2.out hvy j u hu
    rw [hvx] at RX
    rw [hvy] at RY
    obtain ⟨a, ha⟩ : ∃ a, a = (La[k]'K1.out).l := ⟨_, rfl⟩
    obtain ⟨b, hb⟩ : ∃ b, b = (Lb[k]'K2.out).l := ⟨_, rfl⟩
    rw [← ha] at RX ca9 hab
    rw [← hb] at RY cb9 hab
    obtain ⟨lx, hlx⟩ : ∃ lx, lx = a.bd.length := ⟨_, rfl⟩
    obtain ⟨ly, hly⟩ : ∃ ly, ly = b.bd.length := ⟨_, rfl⟩
    rw [← hlx] at RX ca9
    rw [← hly] at RY cb9
    have HSA : Hid (∀ s : Past wr, Calls Try.prog 23 #[ltV a (.slice px lx cx), ltV b (.slice py ly cy)] s.val fun e w' => e = .returned (.bool true) ∧ Below s.val.heap.size s.val w') := Lib.hid (fun s => by have h9 := samelt_any a b _ _ s.val (RX.out s) (RY.out s); rw [hab, sameL_self] at h9; rw [hab]; exact h9)
    simp only [ltV] at HSA
    have y0 := ca9 0 _ rfl
    have y1 := ca9 1 _ rfl
    have y2 := ca9 2 _ rfl
    have y3 := ca9 3 _ rfl
    have y4 := ca9 4 _ rfl
    have z0 := cb9 0 _ rfl
    have z1 := cb9 1 _ rfl
    have z2 := cb9 2 _ rfl
    have z3 := cb9 3 _ rfl
    have z4 := cb9 4 _ rfl
    simp only [Nat.add_zero] at y0 z0
    clear ca9 cb9 ha hb hvx hvy hlx hly hab RX RY
    have i1 : (k : Int) < (m : Int) := by omega
    have i0 : (0 : Int) ≤ (k : Int) := by omega
    go_wp2
    refine wp_region_past (by kernel_rfl) (by kernel_rfl) ?_
    repeat (go_big_quiet_step ((go_at_call 23; exact past_call (HSA.out _))))
    refine wpQuiet_nil ?_
    intro _ hw'
    obtain ⟨s9, hw''⟩ := hw'
    subst hw''
    obtain ⟨w9, h9, e9⟩ : ∃ w9, Below wr.heap.size wr w9 ∧ w9 = s9.val := ⟨_, s9.h, rfl⟩
    rw [← e9]
    have HB9 : Hid (Below w.heap.size w w9) := Lib.hid (below_and HW.out h9)
    clear h9 e9 HSA y0 z0 y1 z1 y2 z2 y3 z3 y4 z4
    go_wp2
    go_roundw
    case rel => exact ⟨k + 1, by omega, by go_num, HB9⟩
    case measure => first | (simp [So.intOf]; done) | (simp [So.intOf]; omega)
end Go.Proofs.Ytndjgbknhfficaa.Nt
