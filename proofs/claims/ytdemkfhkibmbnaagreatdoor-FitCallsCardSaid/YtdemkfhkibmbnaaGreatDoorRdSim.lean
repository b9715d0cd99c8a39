/- RdSim. -/
import Derived.Test.YtdemkfhkibmbnaaGreatDoorM26
namespace Go.Proofs.YtdemkfhkibmbnaaGreatDoor.Ru
def Dead (R : PR) : Prop := match R with
 | .error _ => True
 | .ok q => hd wdc q.2.r = true
theorem wdc_blk {r : List UInt8} (h : hd wdc r = true) : blk r = r := by
 cases r with
 | nil => cases h
 | cons c t => exact blk_head (wdc_sp h)
theorem strip_wdc {sg : UInt8} {p r : List UInt8} (hs : wdc sg = false) (h : hd wdc r = true) : strip (sg :: p) r = none := by
 cases r with
 | nil => cases h
 | cons c t =>
  refine strip_ne (fun e => ?_); subst e; have : wdc sg = true := h; rw [hs] at this; cases this
theorem dead_loop {N : Nat} {sg : UInt8} {kd : Int} {nx : Ps → PR} (hs : wdc sg = false) (K : Nat) (left : Int) {st : Ps} (h : hd wdc st.r = true) : Dead (loopP N sg kd nx K left st) := by
 cases K with
 | zero => trivial
 | succ K =>
  unfold loopP
  rw [wdc_blk h, strip_wdc hs h]; exact h
theorem dead_pairs {N : Nat} {sg : UInt8} {kd : Int} {nx : Ps → PR} (hs : wdc sg = false) {st : Ps} (h : Dead (nx st)) : Dead (pairsP N sg kd nx st) := by
 unfold pairsP
 cases hx : nx st with
 | error e => trivial
 | ok q => rw [hx] at h; exact dead_loop hs _ _ h
def runW (r : List UInt8) : List UInt8 := r.takeWhile wdc
theorem runW_len (r : List UInt8) : (runW r).length ≤ r.length := (List.takeWhile_sublist wdc).length_le
theorem runW_app (r : List UInt8) : runW r ++ r.drop (runW r).length = r := by
 induction r with
 | nil => rfl
 | cons c r ih =>
  unfold runW at *
  rw [List.takeWhile_cons]; cases hc : wdc c
  ·rfl
  ·simp only [if_true, List.length_cons, List.drop_succ_cons, List.cons_append]
   rw [ih]
theorem runW_all (r : List UInt8) : ∀ c ∈ runW r, wdc c = true := fun c hc => List.all_eq_true.1 (List.all_takeWhile (p := wdc) (l := r)) c hc
theorem runW_end : ∀ r : List UInt8, hd wdc (r.drop (runW r).length) = false
 | [] => rfl
 | c :: r => by
  have h := runW_end r
  unfold runW at *
  rw [List.takeWhile_cons]; cases hc : wdc c
  ·exact hc
  ·simp only [if_true, List.length_cons, List.drop_succ_cons]
   exact h
theorem runW_hd : ∀ (r : List UInt8) (k : Nat), k < (runW r).length → hd wdc (r.drop k) = true
 | [], k, h => absurd h (by simp [runW])
 | c :: r, k, h => by
  unfold runW at h
  rw [List.takeWhile_cons] at h; cases hc : wdc c
  ·rw [hc] at h; simp at h
  ·rw [hc] at h
   simp only [if_true, List.length_cons] at h
   cases k with
   | zero => exact hc
   | succ k => exact runW_hd r k (by unfold runW; omega)
theorem run32 (r : List UInt8) (h : (runW r).length ≤ 32) : run 32 wdc r = runW r := by
 have h1 := run_eq (p := wdc) (m := 32) (a := runW r) (b := r.drop (runW r).length) (runW_all r) h (runW_end r)
 rwa [runW_app] at h1
theorem tw_all {p : UInt8 → Bool} {a : List UInt8} (h : ∀ c ∈ a, p c = true) : a.takeWhile p = a := by
 have := List.takeWhile_append_of_pos (p := p) (l₁ := a) (l₂ := []) h
 simpa using this
theorem run_ge {m : Nat} {p : UInt8 → Bool} {a b : List UInt8} (ha : ∀ c ∈ a, p c = true) (hm : a.length ≤ m) : a.length ≤ (run m p (a ++ b)).length := by
 unfold run
 rw [List.take_append, List.take_of_length_le hm, List.takeWhile_append_of_pos ha, List.length_append]
 omega
theorem run_more (m : Nat) (p : UInt8 → Bool) : ∀ (a b : List UInt8), (∀ c ∈ a, p c = true) → m ≤ a.length → run m p (a ++ b) = a.take m := by
 intro a b ha hm
 unfold run
 rw [List.take_append_of_le_length hm]; exact tw_all (fun c hc => ha c (List.mem_of_mem_take hc))
theorem wdE_no {N n : Nat} {L : List Nd} {nm : List UInt8} {k : Int} {r : List UInt8} (h : ¬ (1 ≤ (runW (blk r)).length ∧ (runW (blk r)).length ≤ 32)) : Dead (wdE N n L nm k r) := by
 unfold wdE
 by_cases h0 : (runW (blk r)).length = 0
 ·have h1 : runW (blk r) = [] := List.length_eq_zero_iff.1 h0
  rw [run32 _ (by omega), h1, if_pos rfl]
  trivial
 ·have hm : 32 ≤ (runW (blk r)).length := by omega
  have h1 : run 32 wdc (blk r) = (runW (blk r)).take 32 := by
   have := run_more 32 wdc (runW (blk r)) ((blk r).drop (runW (blk r)).length) (runW_all _) hm
   rwa [runW_app] at this
  have h2 : ((runW (blk r)).take 32).length = 32 := by rw [List.length_take]; omega
  rw [h1, if_neg (fun e => by rw [e] at h2; cases h2)]
  show hd wdc ((blk r).drop ((runW (blk r)).take 32).length) = true
  rw [h2]; exact runW_hd _ _ (by omega)
theorem wdE_yes {N n : Nat} {L : List Nd} {nm : List UInt8} {k : Int} {r : List UInt8} (h1 : 1 ≤ (runW (blk r)).length) (h2 : (runW (blk r)).length ≤ 32) :
  wdE N n L nm k r = .ok (put n L ((blk r).drop (runW (blk r)).length) ⟨k, nm, runW (blk r), 0, -1, -1⟩) := by
 unfold wdE
 rw [run32 _ h2, if_neg (fun e => by rw [e] at h1; simp at h1)]
theorem dgE_yes {N n : Nat} {L : List Nd} {nm : List UInt8} {k : Int} {r : List UInt8} (ha : (runW (blk r)).all dgt = true) (h1 : 1 ≤ (runW (blk r)).length) (h2 : (runW (blk r)).length ≤ 12) :
  dgE N n L nm k r = .ok (put n L ((blk r).drop (runW (blk r)).length) ⟨k, nm, [], digV (runW (blk r)), -1, -1⟩) := by
 have hr : run 12 dgt (blk r) = runW (blk r) := by
  have := run_eq (p := dgt) (m := 12) (a := runW (blk r)) (b := (blk r).drop (runW (blk r)).length) (fun c hc => List.all_eq_true.1 ha c hc) h2 (hd_mono (fun c => dgt_wdc) (runW_end _))
  rwa [runW_app] at this
 unfold dgE
 rw [hr, if_neg (fun e => by rw [e] at h1; simp at h1)]
theorem run12_short (r : List UInt8) (h : ¬ ((runW r).all dgt = true ∧ (runW r).length ≤ 12)) : (run 12 dgt r).length < (runW r).length := by
 obtain ⟨k, hk, hd⟩ : ∃ k, k < (runW r).length ∧ (run 12 dgt r).length ≤ k := by
  by_cases h12 : (runW r).length ≤ 12
  ·have hn : ¬ (runW r).all dgt = true := fun e => h ⟨e, h12⟩
   have hlt : (run 12 dgt r).length < (runW r).length := by
    rcases Nat.lt_or_ge (run 12 dgt r).length (runW r).length with g | g
    ·exact g
    ·exfalso
     apply hn
     rw [List.all_eq_true]; intro c hc; obtain ⟨i, hi, rfl⟩ := List.getElem_of_mem hc; have hp1 : runW r <+: r := List.takeWhile_prefix wdc; have hp2 : run 12 dgt r <+: r := (List.takeWhile_prefix dgt).trans (List.take_prefix 12 r); have e1 : (runW r)[i] = r[i]'(by have := runW_len r; omega) := hp1.getElem hi; have e2 : (run 12 dgt r)[i]'(by omega) = r[i]'(by have := runW_len r; omega) := hp2.getElem (by omega); rw [e1, ← e2]; exact run_all 12 dgt r _ (List.getElem_mem _)
   exact ⟨_, hlt, Nat.le_refl _⟩
  ·exact ⟨12, by omega, (run_len 12 dgt r).1⟩
 omega
theorem dgE_no {N n : Nat} {L : List Nd} {nm : List UInt8} {k : Int} {r : List UInt8} (h : ¬ ((runW (blk r)).all dgt = true ∧ 1 ≤ (runW (blk r)).length ∧ (runW (blk r)).length ≤ 12)) : Dead (dgE N n L nm k r) := by
 unfold dgE
 by_cases h0 : run 12 dgt (blk r) = []
 ·rw [if_pos h0]; trivial
 ·rw [if_neg h0]
  show hd wdc ((blk r).drop (run 12 dgt (blk r)).length) = true
  refine runW_hd _ _ (run12_short _ (fun g => h ⟨g.1, ?_, g.2⟩)); rcases Nat.lt_or_ge 0 (runW (blk r)).length with g2 | g2
  ·exact g2
  ·exfalso
   apply h0
   have e : runW (blk r) = [] := List.length_eq_zero_iff.1 (by omega); have h1 := runW_end (blk r); rw [e] at h1; have h2 := run_eq (p := dgt) (m := 12) (a := []) (b := blk r) (fun c hc => by cases hc) (by simp) (hd_mono (fun c => dgt_wdc) h1); exact h2
section
variable {N n : Nat} {L : List Nd} {nm r : List UInt8}
theorem opP_unlike : opP N n L nm (33 :: 61 :: r) = wdE N n L nm 3 r := by unfold opP; rfl
theorem opP_least : opP N n L nm (62 :: 61 :: r) = dgE N n L nm 4 r := by
 unfold opP
 rw [strip_ne (by decide)]
 rfl
theorem opP_most : opP N n L nm (60 :: 61 :: r) = dgE N n L nm 5 r := by
 unfold opP
 rw [strip_ne (by decide), strip_ne (by decide)]
 rfl
theorem opP_equal : opP N n L nm (61 :: r) = wdE N n L nm 2 r := by
 unfold opP
 rw [strip_ne (by decide), strip_ne (by decide), strip_ne (by decide), strip_cons]
theorem strip2_no {c : UInt8} (h : hd (· == 61) r = false) : strip [c, 61] (c :: r) = none := by
 unfold strip
 rw [if_neg]
 cases r with
 | nil => simp
 | cons d r =>
  have : (d == 61) = false := h; simp only [List.isPrefixOf_cons_cons, Bool.and_eq_true, beq_iff_eq, not_and]; intro _ e; rw [← e] at this
  simp at this
theorem opP_bad {c : UInt8} (hc : c = 33 ∨ c = 62 ∨ c = 60) (h : hd (· == 61) r = false) : Dead (opP N n L nm (c :: r)) := by
 unfold opP
 rcases hc with rfl | rfl | rfl
 ·rw [strip2_no h, strip_ne (by decide), strip_ne (by decide), strip_ne (by decide), strip_cons]; trivial
 ·rw [strip_ne (by decide), strip2_no h, strip_ne (by decide), strip_ne (by decide), strip_ne (by decide), strip_cons]; trivial
 ·rw [strip_ne (by decide), strip_ne (by decide), strip2_no h, strip_ne (by decide), strip_ne (by decide), strip_ne (by decide), strip_cons]; trivial
theorem opP_nil : opP N n L nm [] = .ok (put n L [] ⟨6, nm, [], 0, -1, -1⟩) := rfl
theorem opP_there {c : UInt8} (h1 : c ≠ 33) (h2 : c ≠ 62) (h3 : c ≠ 60) (h4 : c ≠ 61) : opP N n L nm (c :: r) = .ok (put n L (c :: r) ⟨6, nm, [], 0, -1, -1⟩) := by
 unfold opP
 rw [strip_ne (Ne.symm h1), strip_ne (Ne.symm h2), strip_ne (Ne.symm h3), strip_ne (Ne.symm h4), strip_ne (Ne.symm h1), strip_ne (Ne.symm h2), strip_ne (Ne.symm h3)]
end
def nmR (r : List UInt8) : List UInt8 := if hd lo r = true then run 24 nmc r else []
theorem dlf_bad {N : Nat} {st : Ps} (h : nmR st.r = [] ∨ hd wdc (st.r.drop (nmR st.r).length) = true) : Dead (leafP N st) := by
 unfold leafP
 by_cases hl : hd lo st.r = false
 ·rw [if_pos hl]; trivial
 ·have hl' : hd lo st.r = true := by simpa using hl
  unfold nmR at h
  rw [if_pos hl'] at h
  have hne : run 24 nmc st.r ≠ [] := by
   intro e; have := (run_nm hl').2.1; rw [e] at this; cases this
  rcases h with h | h
  ·exact absurd h hne
  ·rw [if_neg hl, if_neg (fun g => by rw [g.2] at h; cases h), if_pos h]; trivial
theorem dlf_long {N : Nat} {st : Ps} (h : 64 < st.n + 1) (h0 : nmR st.r ≠ []) (h1 : hd wdc (st.r.drop (nmR st.r).length) = false) : Dead (leafP N st) := by
 have hl' : hd lo st.r = true := by
  cases hq : hd lo st.r
  ·unfold nmR at h0; rw [hq] at h0; exact absurd rfl h0
  ·rfl
 unfold nmR at h1
 rw [if_pos hl'] at h1
 unfold leafP
 rw [if_neg (by rw [hl']; decide)]
 split
 ·first | trivial | (rw [if_pos h]; trivial)
 ·first | (rw [if_neg (by rw [h1]; decide), if_pos h]; trivial) | (rw [if_neg (by rw [h1]; decide)]; trivial) | trivial
theorem dlf_any {N : Nat} {st : Ps} (h : st.n + 1 ≤ 64) (h0 : nmR st.r = anyT) (h1 : hd wdc (st.r.drop (nmR st.r).length) = false) : leafP N st = .ok (put (st.n + 1) st.L (st.r.drop (nmR st.r).length) ⟨1, [], [], 0, -1, -1⟩) := by
 have hl' : hd lo st.r = true := by
  cases hq : hd lo st.r
  ·unfold nmR at h0; rw [hq] at h0; cases h0
  ·rfl
 have e : nmR st.r = run 24 nmc st.r := by unfold nmR; rw [if_pos hl']
 rw [e] at h0 h1 ⊢
 unfold leafP
 rw [if_neg (by rw [hl']; decide), if_pos ⟨h0, h1⟩, if_neg (by omega)]
theorem dlf_op {N : Nat} {st : Ps} (h : st.n + 1 ≤ 64) (h0 : nmR st.r ≠ []) (ha : nmR st.r ≠ anyT) (h1 : hd wdc (st.r.drop (nmR st.r).length) = false) : leafP N st = opP N (st.n + 1) st.L (nmR st.r) (blk (st.r.drop (nmR st.r).length)) := by
 have hl' : hd lo st.r = true := by
  cases hq : hd lo st.r
  ·unfold nmR at h0; rw [hq] at h0; exact absurd rfl h0
  ·rfl
 have e : nmR st.r = run 24 nmc st.r := by unfold nmR; rw [if_pos hl']
 rw [e] at h0 h1 ha ⊢
 unfold leafP
 rw [if_neg (by rw [hl']; decide), if_neg (fun g => ha g.1), if_neg (by rw [h1]; decide), if_neg (by omega)]
theorem nmR_pre {r : List UInt8} {k : Nat} (hk : k < (nmR r).length) : specM 24 (r.take (k + 1)) = true := by
 unfold nmR at hk
 split at hk
 ·next hl =>
  obtain ⟨h1, h2, h3⟩ := run_nm hl; have hp : run 24 nmc r <+: r := (List.takeWhile_prefix nmc).trans (List.take_prefix 24 r)
  have e : r.take (k + 1) = (run 24 nmc r).take (k + 1) := by
   obtain ⟨t, ht⟩ := hp
   conv => lhs; rw [← ht]
   rw [List.take_append_of_le_length (by omega)]
  rw [e]; have hle : ((run 24 nmc r).take (k + 1)).length = k + 1 := by rw [List.length_take]; omega
  unfold specM
  simp only [Bool.and_eq_true, decide_eq_true_eq, List.all_eq_true]; refine ⟨⟨⟨by omega, by omega⟩, ?_⟩, fun c hc => h3 c (List.mem_of_mem_take hc)⟩
  cases hr : run 24 nmc r with
  | nil => rw [hr] at hk; simp at hk
  | cons c t => rw [hr] at h2; exact h2
 ·simp at hk
theorem nmR_more {r : List UInt8} (h : (nmR r).length < r.length) : specM 24 (r.take ((nmR r).length + 1)) = false := by
 cases hs : specM 24 (r.take ((nmR r).length + 1))
 ·rfl
 ·exfalso
  unfold specM at hs
  simp only [Bool.and_eq_true, decide_eq_true_eq, List.all_eq_true] at hs; obtain ⟨⟨⟨h1, h2⟩, h3⟩, h4⟩ := hs; have hle : (r.take ((nmR r).length + 1)).length = (nmR r).length + 1 := by rw [List.length_take]; omega
  have hl : hd lo r = true := by
   cases r with
   | nil => simp at h
   | cons c t => rw [List.take_succ_cons] at h3; exact h3
  have e : nmR r = run 24 nmc r := by unfold nmR; rw [if_pos hl]
  rw [e] at h1 h2 h3 h4 hle h; have h5 := run_ge (b := r.drop ((run 24 nmc r).length + 1)) h4 h2; rw [List.take_append_drop, hle] at h5
  omega
theorem nmR_len (r : List UInt8) : (nmR r).length ≤ 24 ∧ (nmR r).length ≤ r.length := by
 unfold nmR
 split
 ·exact ⟨(run_len 24 nmc r).1, (run_len 24 nmc r).2⟩
 ·simp
theorem nmR_take (r : List UInt8) : r.take (nmR r).length = nmR r := by
 unfold nmR
 split
 ·have hp : run 24 nmc r <+: r := (List.takeWhile_prefix nmc).trans (List.take_prefix 24 r)
  exact (List.prefix_iff_eq_take.1 hp).symm
 ·simp
