/- The parser: fails, count, in, is, node. -/
import Derived.Test.YtjjaaooiajmclaaDoorRuMem
import Derived.Test.YtjjaaooiajmclaaDoorShelf
import Derived.Lib.Strings
namespace Go.Proofs.YtjjaaooiajmclaaDoor.Ru
open Go.RowKit Go.Proofs.YtjjaaooiajmclaaDoor

section
variable {base : Nat} {w w' : World} {b : Nat} {s : ByteArray} {k : Nat} {d n : Int} {v : Value} {L : List Nd} {e a : Int}
theorem Prs.c0 (h : Prs base w b s k d n v L e a) : w.cell? ⟨b, 0, none⟩ = some (.string s) := h.blk.cell (j := 0) rfl
theorem Prs.c1 (h : Prs base w b s k d n v L e a) : w.cell? ⟨b, 1, none⟩ = some (.int .i64 (k : Int)) := h.blk.cell (j := 1) rfl
theorem Prs.c2 (h : Prs base w b s k d n v L e a) : w.cell? ⟨b, 2, none⟩ = some (.int .i64 d) := h.blk.cell (j := 2) rfl
theorem Prs.c3 (h : Prs base w b s k d n v L e a) : w.cell? ⟨b, 3, none⟩ = some (.int .i64 n) := h.blk.cell (j := 3) rfl
theorem Prs.c4 (h : Prs base w b s k d n v L e a) : w.cell? ⟨b, 4, none⟩ = some v := h.blk.cell (j := 4) rfl
theorem Prs.c5 (h : Prs base w b s k d n v L e a) : w.cell? ⟨b, 5, none⟩ = some (.int .i64 e) := h.blk.cell (j := 5) rfl
theorem Prs.c6 (h : Prs base w b s k d n v L e a) : w.cell? ⟨b, 6, none⟩ = some (.int .i64 a) := h.blk.cell (j := 6) rfl
theorem Prs.fr (h : Prs base w b s k d n v L e a) (i : Nat) : w.frozen? ⟨b, i, none⟩ = false := h.blk.free i
end

/-- the first fault stays -/
def flt (e a e' a' : Int) : Int × Int := if e = 0 ∧ a = 0 then (e', a') else (e, a)

set_option maxRecDepth 100000 in
set_option maxHeartbeats 1000000 in
theorem fails_any (base b : Nat) (s : ByteArray) (k : Nat) (d n : Int) (v : Value) (L : List Nd) (e a e' a' : Int) (w : World) (h : Prs base w b s k d n v L e a) :
    Calls Tryd.prog 15 #[ptr b, .int .i64 e', .int .i64 a'] w fun r w' => r = .returned (.tuple #[]) ∧ Prs base w' b s k d n v L (flt e a e' a').1 (flt e a e' a').2 ∧ Onb b w w' := by
  have H := Lib.hid h
  have c5 := h.c5
  have c6 := h.c6
  have f5 := h.fr 5
  have f6 := h.fr 6
  clear h
  by_cases hz : e = 0 ∧ a = 0
  · obtain ⟨rfl, rfl⟩ := hz
    go_enter Tryd.func15, Tryd.ntmps15
    go_wp2
    exact end0 rfl rfl ⟨rfl, H.out.fault e' a', (Frp.refl (fun j => j = b) w |> fun h => Onb.set (Onb.set h 5 _) 6 _)⟩
  · have HF : Hid (flt e a e' a' = (e, a)) := Lib.hid (by unfold flt; rw [if_neg hz])
    have HG : Hid (Prs base w b s k d n v L (flt e a e' a').1 (flt e a e' a').2) := Lib.hid (by rw [HF.out]; exact H.out)
    by_cases he : e = 0
    · have ha : ¬ a = 0 := fun h => hz ⟨he, h⟩
      subst he
      have t1 : (a == 0) = false := by simpa using ha
      clear hz
      go_enter Tryd.func15, Tryd.ntmps15
      go_wp2
      exact end0 rfl rfl ⟨rfl, HG.out, Frp.refl _ _⟩
    · have t1 : (e == 0) = false := by simpa using he
      clear hz
      go_enter Tryd.func15, Tryd.ntmps15
      go_wp2
      exact end0 rfl rfl ⟨rfl, HG.out, Frp.refl _ _⟩

set_option maxRecDepth 100000 in
set_option maxHeartbeats 1000000 in
theorem count_any (base b : Nat) (s : ByteArray) (k : Nat) (d n : Int) (v : Value) (L : List Nd) (a' : Int) (w : World) (h : Prs base w b s k d n v L 0 0) (hn : 0 ≤ n ∧ n ≤ 100) :
    Calls Tryd.prog 28 #[ptr b, .int .i64 a'] w fun r w' => r = .returned (.tuple #[]) ∧ Prs base w' b s k d (n + 1) v L (if 64 < n + 1 then 3 else 0) (if 64 < n + 1 then a' else 0) ∧ Onb b w w' := by
  have H := Lib.hid h
  have c3 := h.c3
  have f3 := h.fr 3
  have u1 : IntKind.i64.wrap (n + 1) = n + 1 := by rw [IntKind.wrap_i64]; omega
  have H1 := Lib.hid (h.num (n + 1))
  have HO1 : Hid (Onb b w (w.setCell ⟨b, 3, none⟩ (.int .i64 (n + 1)))) := Lib.hid (Onb.set (Frp.refl _ _) 3 _)
  clear h
  by_cases hz : 64 < n + 1
  · have HF : Hid (flt 0 0 3 a' = (3, a')) := Lib.hid (by unfold flt; rw [if_pos ⟨rfl, rfl⟩])
    go_enter Tryd.func28, Tryd.ntmps28
    go_wp2_with (go_at_call 15; refine (fails_any base b s k d (n + 1) v L 0 0 3 a' _ H1.out).mono ?_; rintro r w2 ⟨rfl, h2, hf⟩; have H2 := Lib.hid h2; have HO2 := Lib.hid (HO1.out.then hf); clear h2 hf)
    refine end0 rfl rfl ⟨rfl, ?_, HO2.out⟩
    have := H2.out
    rw [HF.out] at this
    exact this
  · have HE : Hid ((if 64 < n + 1 then (3 : Int) else 0) = 0 ∧ (if 64 < n + 1 then a' else 0) = 0) := Lib.hid ⟨if_neg hz, if_neg hz⟩
    go_enter Tryd.func28, Tryd.ntmps28
    go_wp2
    refine end0 rfl rfl ⟨rfl, ?_, HO1.out⟩
    exact H1.out

set_option maxRecDepth 100000 in
set_option maxHeartbeats 1000000 in
theorem in_any (base b : Nat) (s : ByteArray) (k : Nat) (d n : Int) (v : Value) (L : List Nd) (a' : Int) (w : World) (h : Prs base w b s k d n v L 0 0) (hd : 0 ≤ d ∧ d ≤ 100) :
    Calls Tryd.prog 39 #[ptr b, .int .i64 a'] w fun r w' => r = .returned (.bool (decide (d + 1 ≤ 32))) ∧ Prs base w' b s k (d + 1) n v L (if d + 1 ≤ 32 then 0 else 3) (if d + 1 ≤ 32 then 0 else a') ∧ Onb b w w' := by
  have H := Lib.hid h
  have c2 := h.c2
  have f2 := h.fr 2
  have u1 : IntKind.i64.wrap (d + 1) = d + 1 := by rw [IntKind.wrap_i64]; omega
  have H1 := Lib.hid (h.deep (d + 1))
  have HO1 : Hid (Onb b w (w.setCell ⟨b, 2, none⟩ (.int .i64 (d + 1)))) := Lib.hid (Onb.set (Frp.refl _ _) 2 _)
  clear h
  by_cases hz : 32 < d + 1
  · have HF : Hid (flt 0 0 3 a' = (3, a')) := Lib.hid (by unfold flt; rw [if_pos ⟨rfl, rfl⟩])
    go_enter Tryd.func39, Tryd.ntmps39
    go_wp2_with (go_at_call 15; refine (fails_any base b s k (d + 1) n v L 0 0 3 a' _ H1.out).mono ?_; rintro r w2 ⟨rfl, h2, hf⟩; have H2 := Lib.hid h2; have HO2 := Lib.hid (HO1.out.then hf); clear h2 hf)
    go_ret
    refine ⟨rfl, ?_, HO2.out⟩
    have := H2.out
    rw [HF.out] at this
    exact this
  · have HE : Hid (decide (d + 1 ≤ 32) = true ∧ (if d + 1 ≤ 32 then (0 : Int) else 3) = 0 ∧ (if d + 1 ≤ 32 then 0 else a') = 0) := Lib.hid ⟨decide_eq_true (by omega), if_pos (by omega), if_pos (by omega)⟩
    go_enter Tryd.func39, Tryd.ntmps39
    go_wp2
    go_ret
    refine ⟨rfl, ?_, HO1.out⟩
    exact H1.out

/-! is -/
/-- the place behind a sign, if it is next behind the blanks -/
def isB (s p : ByteArray) (k : Nat) : Bool := (strip p.data.toList (blk (rest s k))).isSome
def isK (s p : ByteArray) (k : Nat) : Nat := if isB s p k then skip s k + p.size else skip s k
theorem sub_list (s : ByteArray) (k : Nat) : (s.extract k s.size).data.toList = rest s k := by
  unfold rest
  rw [ByteArray.data_extract]
  simp only [Array.toList_extract, List.extract_eq_take_drop]
  exact List.take_of_length_le (by rw [List.length_drop]; simp)
theorem is_facts {s p : ByteArray} {k : Nat} (hk : k ≤ s.size) : isK s p k ≤ s.size ∧ (isB s p k = true → strip p.data.toList (blk (rest s k)) = some (rest s (isK s p k))) ∧ (isB s p k = false → strip p.data.toList (blk (rest s k)) = none ∧ rest s (isK s p k) = blk (rest s k)) := by
  obtain ⟨h1, h2, h3, -, -⟩ := skip_is hk
  unfold isK
  cases hq : isB s p k
  · have hn : strip p.data.toList (blk (rest s k)) = none := by
      unfold isB at hq
      cases hs : strip p.data.toList (blk (rest s k)) with
      | none => rfl
      | some r => rw [hs] at hq; cases hq
    exact ⟨by simpa using h2, (fun h => by cases h), fun _ => ⟨hn, by simpa using h3.symm⟩⟩
  · have hq2 := hq
    unfold isB at hq2
    cases hs : strip p.data.toList (blk (rest s k)) with
    | none => rw [hs] at hq2; cases hq2
    | some r =>
      have hl := strip_len hs
      have hr := strip_some hs
      rw [h3, rest_len] at hl
      have hp : p.data.toList.length = p.size := by simp
      refine ⟨by simp only [if_true]; omega, fun _ => ?_, (fun h => by cases h)⟩
      simp only [if_true]
      rw [← rest_drop, ← h3, hr, ← hp, List.drop_left]
theorem strip_is (p r : List UInt8) : (strip p r).isSome = p.isPrefixOf r := by
  unfold strip
  cases p.isPrefixOf r <;> rfl
theorem pfx_is {s : ByteArray} {k : Nat} (hk : k ≤ s.size) (p : ByteArray) : Lib.hasPrefix (s.extract (skip s k) s.size).data.toList p.data.toList = isB s p k := by
  obtain ⟨h1, h2, h3, -, -⟩ := skip_is hk
  unfold isB
  rw [strip_is, sub_list, h3]
  rfl

set_option maxRecDepth 100000 in
set_option maxHeartbeats 1000000 in
theorem is_any (base b : Nat) (s : ByteArray) (k : Nat) (d n : Int) (v : Value) (L : List Nd) (e a : Int) (p : ByteArray) (w : World) (h : Prs base w b s k d n v L e a) (hp : p.size ≤ 100) :
    Calls Tryd.prog 27 #[ptr b, .string p] w fun r w' => r = .returned (.bool (isB s p k)) ∧ Prs base w' b s (isK s p k) d n v L e a ∧ Onb b w w' := by
  have H := Lib.hid h
  obtain ⟨h1, h2, -, -, -⟩ := skip_is h.kb
  obtain ⟨g1, -, -⟩ := is_facts (p := p) h.kb
  obtain ⟨j, hj⟩ : ∃ j, j = skip s k := ⟨_, rfl⟩
  have HPF : Hid (∀ w, Calls Tryd.prog 38 #[.string (s.extract j s.size), .string p] w fun e w' => e = .returned (.bool (isB s p k)) ∧ w = w') := Lib.hid (fun w => (Tryd.strings_HasPrefix _ p w).mono fun e w' ⟨q1, q2⟩ => ⟨by rw [q1, hj, pfx_is h.kb], q2.symm⟩)
  have HBL : Hid (∀ w, Prs base w b s k d n v L e a → Calls Tryd.prog 14 #[ptr b] w fun r w' => r = .returned (.tuple #[]) ∧ Prs base w' b s j d n v L e a ∧ Onb b w w') := Lib.hid (fun w h => by rw [hj]; exact blanks_any base b s k d n v L e a w h)
  obtain ⟨q, hq⟩ : ∃ q, q = isB s p k := ⟨_, rfl⟩
  obtain ⟨m, hm⟩ : ∃ m, m = isK s p k := ⟨_, rfl⟩
  have HM : Hid (m = if q = true then j + p.size else j) := Lib.hid (by rw [hm, hq, hj]; rfl)
  have HMS : Hid (m ≤ s.size) := Lib.hid (by rw [hm]; exact g1)
  have hsz := h.sz
  rw [← hq] at HPF
  rw [← hq, ← hm]
  rw [← hj] at h1 h2
  clear h g1 hj hq hm
  go_enter Tryd.func27, Tryd.ntmps27
  go_upto_region 2 with (go_at_call 14; refine (HBL.out _ H.out).mono ?_; rintro r w2 ⟨rfl, h2, hf⟩; have H2 := Lib.hid h2; have HO2 := Lib.hid hf; clear h2 hf)
  have b0 := H2.out.p0
  have b1 := H2.out.p1
  have i0 : (0 : Int) ≤ (j : Int) := by omega
  have i1 : (j : Int) ≤ (s.size : Int) := by omega
  refine wp_region_past (by kernel_rfl) (by kernel_rfl) ?_
  repeat (go_big_quiet_step ((go_at_call 38; exact past_call_same (HPF.out _))))
  refine wpQuiet_nil ?_
  intro _ hw'
  obtain ⟨s9, hw''⟩ := hw'
  subst hw''
  obtain ⟨w9, h9, e9⟩ : ∃ w9, Below w2.heap.size w2 w9 ∧ w9 = s9.val := ⟨_, s9.h, rfl⟩
  rw [← e9]
  have H9 := Lib.hid (H2.out.kept h9)
  have HO9 : Hid (Onb b w w9) := Lib.hid (HO2.out.next h9)
  clear h9 e9 b0 b1
  cases q
  · have HMJ : Hid (m = j) := Lib.hid (by rw [HM.out]; rfl)
    go_wp2
    go_ret
    refine ⟨rfl, ?_, HO9.out⟩
    rw [HMJ.out]
    exact H9.out
  · have HMJ : Hid (m = j + p.size) := Lib.hid (by rw [HM.out]; rfl)
    have c1 := H9.out.c1
    have f1 := H9.out.fr 1
    go_wp2
    go_ret
    refine ⟨rfl, ?_, Onb.set HO9.out 1 _⟩
    have := H9.out.at (k' := m) HMS.out
    rw [HMJ.out] at this ⊢
    simpa using this
end Go.Proofs.YtjjaaooiajmclaaDoor.Ru
