/- NtSame. -/
import Derived.Test.YtndjgbknhfficaaNtMem
import Derived.Test.YtndjgbknhfficaaSame
namespace Go.Proofs.Ytndjgbknhfficaa.Nt
open Go.RowKit Go.Proofs.Ytndjgbknhfficaa Go.Proofs.Ytndjgbknhfficaa.So

def sameL (a b : Lt) : Bool := (a.no == b.no) && (a.fi == b.fi) && (a.sd == b.sd) && (a.rc == b.rc) && (a.bd == b.bd)
theorem sameL_self (a : Lt) : sameL a a = true := by unfold sameL; simp
theorem sameL_eq {a b : Lt} (h : sameL a b = true) : a = b := by
  unfold sameL at h
  simp at h
  cases a; cases b
  simp_all
set_option maxRecDepth 100000 in
set_option maxHeartbeats 2000000 in
theorem samelt_any (a b : Lt) (va vb : Value) (w : World) (ha : Go.Proofs.Ytndjgbknhfficaa.Rd w va a.bd) (hb : Go.Proofs.Ytndjgbknhfficaa.Rd w vb b.bd) :
    Calls Try.prog 23 #[ltV a va, ltV b vb] w fun e w' => e = .returned (.bool (sameL a b)) ∧ Below w.heap.size w w' := by
  obtain ⟨r, hr⟩ : ∃ r, r = sameL a b := ⟨_, rfl⟩
  rw [← hr]
  obtain ⟨a0, a1, a2, a3, a4⟩ := a
  obtain ⟨b0, b1, b2, b3, b4⟩ := b
  have hr2 : r = ((a0 == b0) && (a1 == b1) && (a2 == b2) && (a3 == b3) && (a4 == b4)) := hr
  have HRR := Lib.hid hr2
  clear hr hr2
  obtain ⟨pa, ca, rfl, -⟩ := ha.parts
  obtain ⟨pb, cb, rfl, -⟩ := hb.parts
  obtain ⟨la, hla⟩ : ∃ n, n = a4.length := ⟨_, rfl⟩
  obtain ⟨lb, hlb⟩ : ∃ n, n = b4.length := ⟨_, rfl⟩
  dsimp only at ha hb ⊢
  have hsb : ∀ w', Below w.heap.size w w' → Calls Try.prog 38 #[.slice pa a4.length ca, .slice pb b4.length cb] w' fun e w2 => e = .returned (.bool (a4 == b4)) ∧ ∃ n, w2 = w'.drewN n := fun w' hw => same_any _ _ a4 b4 w' (ha.below hw) (hb.below hw)
  have HSB := Lib.hid hsb
  rw [← hla, ← hlb] at HSB ⊢
  clear ha hb hsb hla hlb
  by_cases h0 : a0 = b0
  · subst h0
    by_cases h1 : a1 = b1
    · subst h1
      by_cases h2 : a2 = b2
      · subst h2
        by_cases h3 : a3 = b3
        · subst h3
          obtain ⟨q, hq⟩ : ∃ q, q = (a4 == b4) := ⟨_, rfl⟩
          rw [← hq] at HSB
          have HQ := Lib.hid hq
          clear hq
          go_enter Try.func23, Try.ntmps23
          go_wp2_with (go_at_call 38; refine (HSB.out _ (below_and (below_alloc w _) (below_alloc _ _))).mono ?_; rintro e w2 ⟨rfl, n, rfl⟩; have HB := Lib.hid (below_and (below_and (below_alloc w (.cells #[.int .u64 a0, .int .u64 a1, .int .i64 a2, .int .i64 a3, .slice pa la ca] 32)) (below_alloc _ (.cells #[.int .u64 a0, .int .u64 a1, .int .i64 a2, .int .i64 a3, .slice pb lb cb] 32))) (below_drewN n)))
          go_ret
          exact ⟨by rw [HRR.out, HQ.out]; simp, HB.out⟩
        · have t3 : (a3 == b3) = false := by simp [h3]
          go_enter Try.func23, Try.ntmps23
          go_wp2
          go_ret
          exact ⟨by rw [HRR.out]; simp [*], below_and (below_alloc w _) (below_alloc _ _)⟩
      · have t2 : (a2 == b2) = false := by simp [h2]
        go_enter Try.func23, Try.ntmps23
        go_wp2
        go_ret
        exact ⟨by rw [HRR.out]; simp [*], below_and (below_alloc w _) (below_alloc _ _)⟩
    · have t1 : (a1 == b1) = false := by simp [h1]
      go_enter Try.func23, Try.ntmps23
      go_wp2
      go_ret
      exact ⟨by rw [HRR.out]; simp [*], below_and (below_alloc w _) (below_alloc _ _)⟩
  · have t0 : (a0 == b0) = false := by simp [h0]
    go_enter Try.func23, Try.ntmps23
    go_wp2
    go_ret
    exact ⟨by rw [HRR.out]; simp [*], below_and (below_alloc w _) (below_alloc _ _)⟩
end Go.Proofs.Ytndjgbknhfficaa.Nt
