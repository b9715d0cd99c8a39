/- SoSort. -/
import Derived.Test.YtndjgbknhfficaaSoPdq
import Derived.Test.YtndjgbknhfficaaSoColl
namespace Go.Proofs.Ytndjgbknhfficaa.So
open Go.RowKit Go.Sort Go.Proofs.Ytndjgbknhfficaa

theorem extract_all (d : Array Int) (n : Nat) (h : d.size = n) : (d.extract 0 n).toList = d.toList := by
  subst h
  simp
theorem perm_list {d R : Array Int} {n : Nat} (hd : d.size = n) (h : PermIn 0 n d R) : R.toList.Perm d.toList := by
  have h3 := h.2.2
  rw [extract_all d n hd, extract_all R n (by rw [h.1]; exact hd)] at h3
  exact h3
theorem sorted_list {R : Array Int} {n : Nat} (hn : R.size = n) (h : SortedIn ltInt 0 n R) : R.toList.Pairwise (· ≤ ·) := by
  rw [List.pairwise_iff_getElem]
  intro i j hi hj hij
  have h1 := h i j (Nat.zero_le _) hij (by rw [← hn]; simpa using hj)
  rw [getElem!_pos R j (by simpa using hj), getElem!_pos R i (by simpa using hi)] at h1
  simp [ltInt] at h1
  simpa using h1
theorem sorted_one {l r : List Int} (hp : l.Perm r) (hl : l.Pairwise (· ≤ ·)) (hr : r.Pairwise (· ≤ ·)) : l = r :=
  List.Perm.eq_of_pairwise (le := fun a b : Int => a ≤ b) (fun a b _ _ h1 h2 => Int.le_antisymm h1 h2) hl hr hp
theorem ar_of_row {w : World} {base n : Nat} {g cap : Nat} {xs : List Int} (h : w.ownsRow base 25 1 (.slice (some ⟨g, 0, none⟩) n cap) n (xs.map encU)) (hn : n = xs.length) (h0 : 0 < n) : ∃ Z : List Value, base ≤ g ∧ n + Z.length = cap ∧ cap ≤ maxLen ∧ Ar w g 0 n [] Z w xs.toArray := by
  rcases h.2 with ⟨h1, h2⟩ | ⟨g', cap', cur, h1, h2, h3, h4, h5, h6, h7⟩
  · omega
  · cases h1
    refine ⟨cur.toList.drop n, h2, ?_, h5, ⟨by simpa using hn.symm, rfl, ?_, Fr.refl _ _⟩⟩
    · rw [List.length_drop, Array.length_toList]
      omega
    · unfold Blk
      rw [h3]
      have e : [] ++ ((xs.toArray).toList.map encU ++ cur.toList.drop n) = cur.toList := by
        have := List.take_append_drop n cur.toList
        rw [Nat.mul_one] at h7
        rw [h7] at this
        simpa using this
      rw [e]
theorem row_low {w : World} {a b : Nat} {e : TypeId} {size n : Nat} {v : Value} {xs : List Value} (h : w.ownsRow b e size v n xs) (hab : a ≤ b) : w.ownsRow a e size v n xs := by
  refine ⟨h.1, ?_⟩
  rcases h.2 with h1 | ⟨g, cap, cur, h1, h2, h3⟩
  · exact .inl h1
  · exact .inr ⟨g, cap, cur, h1, Nat.le_trans hab h2, h3⟩
theorem row_of_ar {w w' : World} {base n g cap : Nat} {Z : List Value} {R : Array Int} (hb : base ≤ g) (hc : n + Z.length = cap) (hm : cap ≤ maxLen) (h : Ar w g 0 n [] Z w' R) (hw : base ≤ w'.heap.size) : w'.ownsRow base 25 1 (.slice (some ⟨g, 0, none⟩) n cap) n (R.toList.map encU) := by
  have hs : R.toList.length = n := by simpa using h.sz
  refine ⟨by simp [hs], .inr ⟨g, cap, _, rfl, hb, h.blk, by omega, hm, ?_, ?_⟩⟩
  · have := h.sz
    simp
    omega
  · simp only [List.nil_append, Nat.mul_one]
    rw [List.take_append_of_le_length (by simp [hs])]
    rw [List.take_of_length_le (by simp [hs])]

set_option maxRecDepth 100000 in
set_option maxHeartbeats 8000000 in
theorem ins_none (p : Option Addr) (cap : Nat) (w : World) : Calls Try.prog 50 #[.slice p 0 cap, .int .i64 0, .int .i64 0] w fun e w' => e = .returned (.tuple #[]) ∧ w' = w := by
  go_enter Try.func50, Try.ntmps50
  go_wp2
  go_loopw [6] (fun vi wr => vi = .int .i64 1 ∧ wr = w) (fun _ _ => 0)
  case atStart => exact ⟨rfl, rfl⟩
  case round =>
    obtain ⟨rfl, rfl⟩ := hrel
    go_wp2
    go_end0
    exact ⟨rfl, rfl⟩
set_option maxRecDepth 100000 in
set_option maxHeartbeats 8000000 in
theorem pdq_none (p : Option Addr) (cap : Nat) (w : World) : Calls Try.prog 48 #[.slice p 0 cap, .int .i64 0, .int .i64 0, .int .i64 0] w fun e w' => e = .returned (.tuple #[]) ∧ w' = w := by
  go_enter Try.func48, Try.ntmps48
  go_wp2_with fail
  go_loopw [1, 2, 3] (fun va vb vl wr => va = .int .i64 0 ∧ vb = .int .i64 0 ∧ vl = .int .i64 0 ∧ wr = w) (fun _ _ _ _ => 0)
  case atStart => exact ⟨rfl, rfl, rfl, rfl⟩
  case round =>
    obtain ⟨rfl, rfl, rfl, rfl⟩ := hrel
    go_wp2_with (go_at_call 50; refine (ins_none _ _ _).mono ?_; rintro e w' ⟨rfl, rfl⟩)
    (try simp only [Exit.inBlock, Exit.then])
    refine bodyPost_ret (results_none rfl _ _ _) rfl ?_
    exact ⟨rfl, rfl⟩
set_option maxRecDepth 100000 in
set_option maxHeartbeats 8000000 in
theorem sort_any (base : Nat) (v : Value) (xs : List Int) (w : World) (h : w.ownsRow base 25 1 v xs.length (xs.map encU)) (hx : xs.length ≤ 1000000) (hbase : base ≤ w.heap.size) :
    Calls Try.prog 45 #[v] w fun e w' => e = .returned (.tuple #[]) ∧ ∃ ys : List Int, ys.Perm xs ∧ ys.Pairwise (· ≤ ·) ∧ w'.ownsRow base 25 1 v xs.length (ys.map encU) ∧ Below base w w' := by
  rcases Nat.eq_zero_or_pos xs.length with h0 | h0
  · have hnil : xs = [] := List.eq_nil_of_length_eq_zero h0
    subst hnil
    obtain ⟨p, c, rfl, -, -⟩ := own_slice h
    have H := Lib.hid h
    clear h h0
    go_enter Try.func45, Try.ntmps45
    go_wp2_with (first | (go_at_call 49; refine (blen_any 0 (by omega) _).mono ?_; rintro e w' ⟨rfl, rfl⟩) | (go_at_call 48; refine (pdq_none _ _ _).mono ?_; rintro e w' ⟨rfl, rfl⟩))
    go_end0
    exact ⟨rfl, [], List.Perm.refl _, List.Pairwise.nil, H.out, Below.refl _ _⟩
  obtain ⟨n, hn⟩ : ∃ n, n = xs.length := ⟨_, rfl⟩
  rw [← hn] at h hx h0 ⊢
  obtain ⟨g, cap, rfl⟩ : ∃ g cap, v = .slice (some ⟨g, 0, none⟩) n cap := by
    rcases h.2 with ⟨h1, h2⟩ | ⟨g', cap', cur, h1, -⟩
    · omega
    · exact ⟨g', cap', h1⟩
  obtain ⟨Z, hg, hcap, hmax, har⟩ := ar_of_row h hn h0
  have hlen : bitsLen n ≤ 62 := (bitsLen_le_iff n 62).2 (by omega)
  have HP := Lib.hid (pdq_any n cap 0 n (bitsLen n) har (Nat.zero_le _) (Nat.le_refl _) (by omega) (by omega) (.inl rfl) rfl)
  rw [show ((0 : Nat) : Int) = 0 from rfl] at HP
  have HBL := Lib.hid (blen_any n (by omega))
  have HG := Lib.hid (And.intro hg (And.intro hcap hmax))
  have HN := Lib.hid hn
  clear har h hn hg hcap hmax
  go_enter Try.func45, Try.ntmps45
  go_wp2_with (first | (go_at_call 49; refine (HBL.out _).mono ?_; rintro e w' ⟨rfl, rfl⟩) | (go_at_call 48; refine HP.out.mono ?_; rintro e w' ⟨rfl, R, h1, h2, h3⟩; have HR := Lib.hid (And.intro h1 (And.intro h2 h3)); clear h1 h2 h3))
  go_end0
  obtain ⟨h1, h2, h3⟩ := HR.out
  have hd : xs.toArray.size = n := by simpa using HN.out.symm
  exact ⟨rfl, R.toList, by simpa using perm_list hd h1, sorted_list h3.sz h2, row_of_ar HG.out.1 HG.out.2.1 HG.out.2.2 h3 (Nat.le_trans hbase h3.fr.size), h3.fr.below (by intro x hx; simp at hx; subst hx; exact HG.out.1) hbase⟩
set_option maxRecDepth 100000 in
set_option maxHeartbeats 8000000 in
theorem sorted_any (b : Nat) (m : NM) (hs : (m.map (·.1)).Pairwise (· < ·)) (hml : m.length ≤ 1000000) (w : World) (hown : NMap Try.prog 25 w b m) :
    Calls Try.prog 42 #[.func (.func 46) #[] #[.pointer (some ⟨w.heap.size, 0, none⟩)]] (w.alloc (.cells #[.map (some b)] 57)) fun e w' => ∃ v, e = .returned v ∧ w'.ownsRow w.heap.size 25 1 v m.length ((m.map (·.1)).map encU) ∧ Below w.heap.size w w' := by
  have hnd : (m.map (·.1)).Nodup := hs.imp (fun h => by omega)
  obtain ⟨w1, hw1⟩ : ∃ w1, w1 = w.alloc (.cells #[.map (some b)] 57) := ⟨_, rfl⟩
  obtain ⟨B, hB⟩ : ∃ B, B = w.heap.size := ⟨_, rfl⟩
  have HB1 : Hid (Below B w w1) := Lib.hid (by rw [hw1, hB]; exact below_alloc w _)
  have HSZ : Hid (w1.heap.size = B + 1) := Lib.hid (by rw [hw1, hB]; simp)
  have HC := Lib.hid (collect_any B b m hnd hml w1 (by have := HSZ.out; omega) (by rw [hw1, hB]; exact (Blk.made w [.map (some b)] _).cell (j := 0) rfl) (by rw [hw1]; exact hown.kept (below_alloc w _)))
  have HS := Lib.hid (hs.imp (fun h => Int.le_of_lt h))
  rw [← hw1, ← hB]
  clear hnd hs hown hw1 hB
  have HST := Lib.hid sort_any
  go_enter Try.func42, Try.ntmps42
  go_wp2_with (first | (go_at_call 44; refine HC.out.mono ?_; rintro e w2 ⟨v, xs, rfl, h1, h2, h3⟩; have HX := Lib.hid (And.intro h1 (And.intro h2 h3)); clear h1 h2 h3) | fail)
  have hxl : xs.length = m.length := by have := HX.out.1.length_eq; simpa using this
  obtain ⟨p, c, rfl, -, -⟩ := own_slice HX.out.2.1
  have HCS := Lib.hid (sort_any w1.heap.size _ xs w2 HX.out.2.1 (by omega) HX.out.2.2.size)
  obtain ⟨q, hq⟩ : ∃ q, q = xs.length := ⟨_, rfl⟩
  rw [← hq] at HCS ⊢
  have HQ := Lib.hid hq
  have HXL := Lib.hid hxl
  clear hq hxl
  go_wp2_with (go_at_call 45; refine HCS.out.mono ?_; rintro e w3 ⟨rfl, ys, h1, h2, h3, h4⟩; have HY := Lib.hid (And.intro h1 (And.intro h2 (And.intro h3 h4))); clear h1 h2 h3 h4)
  go_ret
  obtain ⟨h1, h2, h3, h4⟩ := HY.out
  have e : ys = m.map (·.1) := sorted_one (h1.trans HX.out.1) h2 HS.out
  rw [e] at h3
  rw [HQ.out, HXL.out] at h3 ⊢
  refine ⟨_, rfl, row_low h3 (by have := HSZ.out; omega), ?_⟩
  exact HB1.out.trans ((HX.out.2.2.trans h4).mono (by have := HSZ.out; omega))
end Go.Proofs.Ytndjgbknhfficaa.So
