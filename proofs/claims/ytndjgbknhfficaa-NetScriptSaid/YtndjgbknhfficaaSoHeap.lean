/- SoHeap. -/
import Derived.Test.YtndjgbknhfficaaSoRev
import Derived.Deep.DeepCutAuto
namespace Go.Proofs.Ytndjgbknhfficaa.So
open Go.RowKit Go.Sort Go.Proofs.Ytndjgbknhfficaa

section
variable {α : Type} [Inhabited α] (lt : α → α → Bool)
/-- the hole at root, the greater child at c -/
def Kid (hi F root c : Nat) (d : Array α) : Prop := (c = 2 * root + 1 ∨ c = 2 * root + 2) ∧ c < hi ∧ siftDown lt hi F root d = if lt d[F + root]! d[F + c]! then siftDown lt hi F c (swp d (F + root) (F + c)) else d
theorem sift_end {hi F root : Nat} (d : Array α) (h : ¬ 2 * root + 1 < hi) : siftDown lt hi F root d = d := by
  rw [siftDown, dif_pos (by omega)]
theorem kid_right {hi F root : Nat} {d : Array α} (h1 : 2 * root + 1 + 1 < hi) (h2 : lt d[F + (2 * root + 1)]! d[F + (2 * root + 1 + 1)]! = true) : Kid lt hi F root (2 * root + 1 + 1) d := by
  refine ⟨.inr rfl, h1, ?_⟩
  rw [siftDown, dif_neg (by omega)]
  rw [show F + (2 * root + 1) + 1 = F + (2 * root + 1 + 1) by omega, h2]
  have e : decide (2 * root + 1 + 1 < hi) = true := by simpa using h1
  simp only [e, Bool.and_true, if_true, show 2 * root + 2 = 2 * root + 1 + 1 from rfl]
  cases lt d[F + root]! d[F + (2 * root + 1 + 1)]!
  · simp
  · simp [h1]
theorem kid_left {hi F root : Nat} {d : Array α} (h0 : 2 * root + 1 < hi) (h2 : ¬ 2 * root + 1 + 1 < hi ∨ lt d[F + (2 * root + 1)]! d[F + (2 * root + 1 + 1)]! = false) : Kid lt hi F root (2 * root + 1) d := by
  refine ⟨.inl rfl, h0, ?_⟩
  have e : (decide (2 * root + 1 + 1 < hi) && lt d[F + (2 * root + 1)]! d[F + (2 * root + 1) + 1]!) = false := by
    rw [show F + (2 * root + 1) + 1 = F + (2 * root + 1 + 1) by omega]
    rcases h2 with h2 | h2
    · simp [h2]
    · simp [h2]
  conv => lhs; rw [siftDown, dif_neg (by omega)]
  rw [if_neg (by rw [e]; decide)]
  cases lt d[F + root]! d[F + (2 * root + 1)]!
  · simp
  · simp
theorem sift_size (hi F : Nat) : ∀ (n root : Nat) (d : Array α), hi - root ≤ n → (siftDown lt hi F root d).size = d.size := by
  intro n
  induction n with
  | zero =>
    intro root d h
    rw [sift_end lt d (by omega)]
  | succ n ih =>
    intro root d h
    by_cases h0 : 2 * root + 1 < hi
    · obtain ⟨c, hc, hch, e⟩ : ∃ c, Kid lt hi F root c d := by
        by_cases h1 : 2 * root + 1 + 1 < hi
        · cases h2 : lt d[F + (2 * root + 1)]! d[F + (2 * root + 1 + 1)]!
          · exact ⟨_, kid_left lt h0 (.inr h2)⟩
          · exact ⟨_, kid_right lt h1 h2⟩
        · exact ⟨_, kid_left lt h0 (.inl h1)⟩
      rw [e]
      split
      · rw [ih c _ (by omega), size_swp]
      · rfl
    · rw [sift_end lt d h0]
end

set_option maxRecDepth 100000 in
set_option maxHeartbeats 8000000 in
theorem sift_any {w0 : World} {g off N : Nat} {Y Z : List Value} {d : Array Int} {w : World} (cap lo hi F : Nat) (h : Ar w0 g off N Y Z w (d)) (hlo : lo ≤ hi) (hb : F + hi ≤ N) (hN : N < 4611686018427387904) :
    Calls Try.prog 61 #[.slice (some ⟨g, off, none⟩) N cap, .int .i64 lo, .int .i64 hi, .int .i64 F] w fun e w' => e = .returned (.tuple #[]) ∧ Ar w0 g off N Y Z w' (siftDown ltInt hi F lo d) := by
  have H0 := Lib.hid h
  clear h
  go_enter Try.func61, Try.ntmps61
  go_wp2
  go_loopw [8] (fun vi wr => ∃ (root : Nat) (dk : Array Int), vi = .int .i64 root ∧ root ≤ hi ∧ Hid (Ar w0 g off N Y Z wr (dk) ∧ siftDown ltInt hi F root dk = siftDown ltInt hi F lo d)) (fun vi _ => hi - (intOf vi).toNat)
  case atStart => exact ⟨lo, d, rfl, hlo, ⟨H0.out, rfl⟩⟩
  case round =>
    obtain ⟨root, dk, rfl, hr, HR⟩ := hrel
    by_cases h0 : 2 * root + 1 < hi
    rotate_left
    · have t1 : (hi : Int) ≤ 2 * (root : Int) + 1 := by omega
      go_wp2
      go_end0
      refine ⟨rfl, ?_⟩
      rw [← HR.out.2, sift_end ltInt dk h0]
      exact HR.out.1
    have t1 : ¬ (hi : Int) ≤ 2 * (root : Int) + 1 := by omega
    obtain ⟨G, hG⟩ : ∃ G : Nat → Int, ∀ t, G t = dk[t]! := ⟨fun t => dk[t]!, fun _ => rfl⟩
    have HG := Lib.hid hG
    clear hG
    have hc : ∀ t, t < N → wr.cell? ⟨g, off + t, none⟩ = some (.int .u64 (G t)) := fun t ht => by rw [HG.out]; exact HR.out.1.cell ht
    have hf : ∀ t, t < N → wr.frozen? ⟨g, off + t, none⟩ = false := fun t _ => HR.out.1.free t

    by_cases h1 : 2 * root + 1 + 1 < hi
    · have t3 : decide (2 * (root : Int) + 1 + 1 < (hi : Int)) = true := decide_eq_true (by omega)
      go_wp2_with fail
      go_big_quiet (first | (go_at_call 56; refine Calls.quiet_of_same (less_any _ _ _)))
      go_wp2_with fail
      · have hl : ltInt (G (F + 2 * root + 1)) (G (F + 2 * root + 2)) = true := by assumption
        obtain ⟨wc, hw⟩ : ∃ xq, xq = wr.drewN nq := ⟨_, rfl⟩
        have HC := Lib.hid (HR.out.1.draw nq)
        rw [← hw] at HC ⊢
        clear hw
        have HK := Lib.hid (kid_right ltInt h1 (by rw [← HG.out, ← HG.out]; exact hl))
        clear hc hf hl nq
        have hc : ∀ t, t < N → wc.cell? ⟨g, off + t, none⟩ = some (.int .u64 (G t)) := fun t ht => by rw [HG.out]; exact HC.out.cell ht
        have hf : ∀ t, t < N → wc.frozen? ⟨g, off + t, none⟩ = false := fun t _ => HC.out.free t
        go_wp2_with fail
        go_big_quiet (first | (go_at_call 56; refine Calls.quiet_of_same (less_any _ _ _)))
        go_wp2
        · have hl0 : (!ltInt (G (F + root)) (G (F + 2 * root + 2))) = true := by assumption
          have hl : ltInt (G (F + root)) (G (F + 2 * root + 2)) = false := by simpa using hl0
          (try simp only [Exit.inBlock, Exit.then])
          refine bodyPost_ret (results_none rfl _ _ _) rfl ?_
          refine ⟨rfl, ?_⟩
          rw [← HR.out.2, HK.out.2.2, if_neg (by rw [← HG.out, ← HG.out]; exact fun e => Bool.noConfusion (hl.symm.trans e))]
          exact HC.out.draw nq
        · have hl0 : (!ltInt (G (F + root)) (G (F + 2 * root + 2))) = false := by assumption
          have hl : ltInt (G (F + root)) (G (F + 2 * root + 2)) = true := by simpa using hl0
          obtain ⟨w3, hw⟩ : ∃ xq, xq = wc.drewN nq := ⟨_, rfl⟩
          have H3 := Lib.hid (HC.out.draw nq)
          rw [← hw] at H3 ⊢
          clear hw
          clear hc hf
          have hc : ∀ t, t < N → w3.cell? ⟨g, off + t, none⟩ = some (.int .u64 (G t)) := fun t ht => by rw [HG.out]; exact H3.out.cell ht
          have hf : ∀ t, t < N → w3.frozen? ⟨g, off + t, none⟩ = false := fun t _ => H3.out.free t
          go_region
          all_goals go_wp2
          go_roundw
          case rel =>
            refine ⟨2 * root + 1 + 1, swp dk (F + root) (F + (2 * root + 1 + 1)), by go_num, by omega, ⟨?_, ?_⟩⟩
            · have h4 := (H3.out.swp (i := F + root) (j := F + (2 * root + 1 + 1)) (by omega) (by omega)).drew
              (repeat rw [← HG.out] at h4)
              exact h4
            · rw [← HR.out.2, HK.out.2.2, if_pos (by rw [← HG.out, ← HG.out]; exact hl)]
          case measure => first | (simp [intOf]; done) | (simp [intOf]; omega)

      · have hl : ltInt (G (F + 2 * root + 1)) (G (F + 2 * root + 2)) = false := by assumption
        obtain ⟨wc, hw⟩ : ∃ xq, xq = wr.drewN nq := ⟨_, rfl⟩
        have HC := Lib.hid (HR.out.1.draw nq)
        rw [← hw] at HC ⊢
        clear hw
        have HK := Lib.hid (kid_left ltInt h0 (.inr (by rw [← HG.out, ← HG.out]; exact hl)))
        clear hc hf hl nq
        have hc : ∀ t, t < N → wc.cell? ⟨g, off + t, none⟩ = some (.int .u64 (G t)) := fun t ht => by rw [HG.out]; exact HC.out.cell ht
        have hf : ∀ t, t < N → wc.frozen? ⟨g, off + t, none⟩ = false := fun t _ => HC.out.free t
        go_wp2_with fail
        go_big_quiet (first | (go_at_call 56; refine Calls.quiet_of_same (less_any _ _ _)))
        go_wp2
        · have hl0 : (!ltInt (G (F + root)) (G (F + 2 * root + 1))) = true := by assumption
          have hl : ltInt (G (F + root)) (G (F + 2 * root + 1)) = false := by simpa using hl0
          (try simp only [Exit.inBlock, Exit.then])
          refine bodyPost_ret (results_none rfl _ _ _) rfl ?_
          refine ⟨rfl, ?_⟩
          rw [← HR.out.2, HK.out.2.2, if_neg (by rw [← HG.out, ← HG.out]; exact fun e => Bool.noConfusion (hl.symm.trans e))]
          exact HC.out.draw nq
        · have hl0 : (!ltInt (G (F + root)) (G (F + 2 * root + 1))) = false := by assumption
          have hl : ltInt (G (F + root)) (G (F + 2 * root + 1)) = true := by simpa using hl0
          obtain ⟨w3, hw⟩ : ∃ xq, xq = wc.drewN nq := ⟨_, rfl⟩
          have H3 := Lib.hid (HC.out.draw nq)
          rw [← hw] at H3 ⊢
          clear hw
          clear hc hf
          have hc : ∀ t, t < N → w3.cell? ⟨g, off + t, none⟩ = some (.int .u64 (G t)) := fun t ht => by rw [HG.out]; exact H3.out.cell ht
          have hf : ∀ t, t < N → w3.frozen? ⟨g, off + t, none⟩ = false := fun t _ => H3.out.free t
          go_region
          all_goals go_wp2
          go_roundw
          case rel =>
            refine ⟨2 * root + 1, swp dk (F + root) (F + (2 * root + 1)), by go_num, by omega, ⟨?_, ?_⟩⟩
            · have h4 := (H3.out.swp (i := F + root) (j := F + (2 * root + 1)) (by omega) (by omega)).drew
              (repeat rw [← HG.out] at h4)
              exact h4
            · rw [← HR.out.2, HK.out.2.2, if_pos (by rw [← HG.out, ← HG.out]; exact hl)]
          case measure => first | (simp [intOf]; done) | (simp [intOf]; omega)

    · have t3 : decide (2 * (root : Int) + 1 + 1 < (hi : Int)) = false := decide_eq_false (by omega)
      go_wp2_with fail
      go_big_quiet (first | (go_at_call 56; refine Calls.quiet_of_same (less_any _ _ _)))
      go_wp2_with fail
      have hl := True.intro
      obtain ⟨wc, hw⟩ : ∃ xq, xq = wr.drewN nq := ⟨_, rfl⟩
      have HC := Lib.hid (HR.out.1.draw nq)
      rw [← hw] at HC ⊢
      clear hw
      have HK := Lib.hid (show Kid ltInt hi F root (2 * root + 1) dk from kid_left ltInt h0 (.inl h1))
      clear hc hf hl nq
      have hc : ∀ t, t < N → wc.cell? ⟨g, off + t, none⟩ = some (.int .u64 (G t)) := fun t ht => by rw [HG.out]; exact HC.out.cell ht
      have hf : ∀ t, t < N → wc.frozen? ⟨g, off + t, none⟩ = false := fun t _ => HC.out.free t
      go_wp2_with fail
      go_big_quiet (first | (go_at_call 56; refine Calls.quiet_of_same (less_any _ _ _)))
      go_wp2
      · have hl0 : (!ltInt (G (F + root)) (G (F + 2 * root + 1))) = true := by assumption
        have hl : ltInt (G (F + root)) (G (F + 2 * root + 1)) = false := by simpa using hl0
        (try simp only [Exit.inBlock, Exit.then])
        refine bodyPost_ret (results_none rfl _ _ _) rfl ?_
        refine ⟨rfl, ?_⟩
        rw [← HR.out.2, HK.out.2.2, if_neg (by rw [← HG.out, ← HG.out]; exact fun e => Bool.noConfusion (hl.symm.trans e))]
        exact HC.out.draw nq
      · have hl0 : (!ltInt (G (F + root)) (G (F + 2 * root + 1))) = false := by assumption
        have hl : ltInt (G (F + root)) (G (F + 2 * root + 1)) = true := by simpa using hl0
        obtain ⟨w3, hw⟩ : ∃ xq, xq = wc.drewN nq := ⟨_, rfl⟩
        have H3 := Lib.hid (HC.out.draw nq)
        rw [← hw] at H3 ⊢
        clear hw
        clear hc hf
        have hc : ∀ t, t < N → w3.cell? ⟨g, off + t, none⟩ = some (.int .u64 (G t)) := fun t ht => by rw [HG.out]; exact H3.out.cell ht
        have hf : ∀ t, t < N → w3.frozen? ⟨g, off + t, none⟩ = false := fun t _ => H3.out.free t
        go_region
        all_goals go_wp2
        go_roundw
        case rel =>
          refine ⟨2 * root + 1, swp dk (F + root) (F + (2 * root + 1)), by go_num, by omega, ⟨?_, ?_⟩⟩
          · have h4 := (H3.out.swp (i := F + root) (j := F + (2 * root + 1)) (by omega) (by omega)).drew
            (repeat rw [← HG.out] at h4)
            exact h4
          · rw [← HR.out.2, HK.out.2.2, if_pos (by rw [← HG.out, ← HG.out]; exact hl)]
        case measure => first | (simp [intOf]; done) | (simp [intOf]; omega)


theorem half_at {a b : Nat} (hab : a ≤ b) : ((b : Int) - (a : Int) - 1).tdiv 2 = (((b - a - 1) / 2 + 1 : Nat) : Int) - 1 := by
  by_cases h : a = b
  · subst h
    rw [show (a : Int) - (a : Int) - 1 = -1 by omega]
    simp
  · rw [Int.tdiv_eq_ediv_of_nonneg (by omega)]
    omega

set_option maxRecDepth 100000 in
set_option maxHeartbeats 8000000 in
theorem heap_any {w0 : World} {g off N : Nat} {Y Z : List Value} {d : Array Int} {w : World} (cap a b : Nat) (h : Ar w0 g off N Y Z w (d)) (hab : a ≤ b) (hb : b ≤ N) (hN : N < 4611686018427387904) :
    Calls Try.prog 51 #[.slice (some ⟨g, off, none⟩) N cap, .int .i64 a, .int .i64 b] w fun e w' => e = .returned (.tuple #[]) ∧ Ar w0 g off N Y Z w' (heapSort ltInt d a b) := by
  have H0 := Lib.hid h
  clear h
  have ecast : ((b - a : Nat) : Int) = (b : Int) - (a : Int) := by omega
  have HS := Lib.hid (fun (x : World) (dx : Array Int) (lo hi : Nat) (hx : Ar w0 g off N Y Z x (dx)) (h1 : lo ≤ hi) (h2 : a + hi ≤ N) => sift_any cap lo hi a hx h1 h2 hN)
  go_enter Try.func51, Try.ntmps51
  go_wp2
  go_loopw [9] (fun vi wr => ∃ (k : Nat) (dk : Array Int), vi = .int .i64 ((k : Int) - 1) ∧ k ≤ (b - a - 1) / 2 + 1 ∧ Hid (Ar w0 g off N Y Z wr (dk) ∧ heapBuild ltInt (b - a) a k dk = heapBuild ltInt (b - a) a ((b - a - 1) / 2 + 1) d)) (fun vi _ => (intOf vi + 1).toNat)
  case atStart => exact ⟨(b - a - 1) / 2 + 1, d, by rw [half_at hab], Nat.le_refl _, ⟨H0.out, rfl⟩⟩
  case round =>
    obtain ⟨k, dk, rfl, hk, HR⟩ := hrel
    cases k with
    | succ k =>
      have hcall := HS.out wr dk k (b - a) HR.out.1 (by omega) (by omega)
      rw [ecast] at hcall
      have HC := Lib.hid hcall
      clear hcall
      go_wp2_with (go_at_call 61; refine HC.out.mono ?_; rintro e w1 ⟨rfl, hw1⟩; have H1 := Lib.hid hw1; clear hw1)
      go_roundw
      case rel => exact ⟨k, siftDown ltInt (b - a) a k dk, by go_num, by omega, ⟨H1.out, HR.out.2⟩⟩
      case measure => first | (simp [intOf]; done) | (simp [intOf]; omega)
    | zero =>
      rw [show (((0 : Nat) : Int) - 1) = -1 from rfl]
      have HB : Hid (heapBuild ltInt (b - a) a ((b - a - 1) / 2 + 1) d = dk) := Lib.hid HR.out.2.symm
      go_wp2
      go_loopw [10] (fun vi w2 => ∃ (k : Nat) (dj : Array Int), vi = .int .i64 ((k : Int) - 1) ∧ k ≤ b - a ∧ Hid (Ar w0 g off N Y Z w2 (dj) ∧ heapPop ltInt a k dj = heapPop ltInt a (b - a) dk)) (fun vi _ => (intOf vi + 1).toNat)
      case atStart => exact ⟨b - a, dk, by rw [ecast], Nat.le_refl _, ⟨HR.out.1, rfl⟩⟩
      case round =>
        obtain ⟨k, dj, rfl, hk, HJ⟩ := hrel
        cases k with
        | zero =>
          go_wp2
          go_end0
          refine ⟨rfl, ?_⟩
          unfold heapSort
          rw [HB.out, ← HJ.out.2]
          exact HJ.out.1
        | succ k =>
          obtain ⟨G, hG⟩ : ∃ G : Nat → Int, ∀ t, G t = dj[t]! := ⟨fun t => dj[t]!, fun _ => rfl⟩
          have HG := Lib.hid hG
          clear hG
          rcases Nat.eq_zero_or_pos k with hk0 | hkp
          · subst hk0
            have hc : ∀ t, t < N → wr.cell? ⟨g, off + t, none⟩ = some (.int .u64 (G t)) := fun t ht => by rw [HG.out]; exact HJ.out.1.cell ht
            have hf : ∀ t, t < N → wr.frozen? ⟨g, off + t, none⟩ = false := fun t _ => HJ.out.1.free t
            go_wp2_with fail
            go_region
            all_goals go_wp2_with fail
            have h4 := (HJ.out.1.swp (i := a) (j := a) (by omega) (by omega)).drew
            (repeat rw [← HG.out] at h4)
            have hcall := HS.out _ _ 0 0 h4 (Nat.zero_le _) (by omega)
            rw [show ((0 : Nat) : Int) = 0 from rfl] at hcall
            have HC := Lib.hid hcall
            clear hcall h4 hc hf
            refine HC.out.mono ?_
            rintro e w1 ⟨rfl, hw1⟩
            have H1 := Lib.hid hw1
            clear hw1 HC
            go_wp2
            go_roundw
            case rel => exact ⟨0, siftDown ltInt 0 a 0 (swp dj a (a)), by go_num, by omega, ⟨H1.out, HJ.out.2⟩⟩
            case measure => first | (simp [intOf]; done) | (simp [intOf]; omega)
          · skip
            have hc : ∀ t, t < N → wr.cell? ⟨g, off + t, none⟩ = some (.int .u64 (G t)) := fun t ht => by rw [HG.out]; exact HJ.out.1.cell ht
            have hf : ∀ t, t < N → wr.frozen? ⟨g, off + t, none⟩ = false := fun t _ => HJ.out.1.free t
            go_wp2_with fail
            go_region
            all_goals go_wp2_with fail
            have h4 := (HJ.out.1.swp (i := a) (j := a + k) (by omega) (by omega)).drew
            (repeat rw [← HG.out] at h4)
            have hcall := HS.out _ _ 0 k h4 (Nat.zero_le _) (by omega)
            rw [show ((0 : Nat) : Int) = 0 from rfl] at hcall
            have HC := Lib.hid hcall
            clear hcall h4 hc hf
            refine HC.out.mono ?_
            rintro e w1 ⟨rfl, hw1⟩
            have H1 := Lib.hid hw1
            clear hw1 HC
            go_wp2
            go_roundw
            case rel => exact ⟨k, siftDown ltInt k a 0 (swp dj a (a + k)), by go_num, by omega, ⟨H1.out, HJ.out.2⟩⟩
            case measure => first | (simp [intOf]; done) | (simp [intOf]; omega)
end Go.Proofs.Ytndjgbknhfficaa.So
