/- The document's table of leases: Add whole, New; one act in both tables. -/
import Derived.Test.YtmgcigohfccgeaaLsRef4
namespace Go.Proofs.Ytmgcigohfccgeaa
open Go.RowKit

set_option maxRecDepth 100000 in
set_option maxHeartbeats 2000000 in
theorem rtadd_bad (base g : Nat) (v : Value) (n : Int) (x : Ls) (s : ByteArray) (w : World) (h : RTab base w g v n x) (er : Int)
    (hc : (er = 2 ∧ s.toList.isEmpty = true) ∨ (er = 7 ∧ s.toList.isEmpty = false ∧ (hplc x.R s).isSome = true)) :
    Calls Try.prog 41 #[ptr g, .string s] w fun e w' => e = .returned (.int .i64 er) ∧ w = w' := by
  have H := Lib.hid h
  have HT : ∃ a b : Int, Hid (hplcT x.R s = .tuple #[.int .i64 a, .int .i64 b]) ∧ ((hplc x.R s).isSome = true → b = 0) := by
    unfold hplcT
    cases hplc x.R s with
    | none => exact ⟨0, 6, rfl, by simp⟩
    | some k => exact ⟨k, 0, rfl, fun _ => rfl⟩
  obtain ⟨a, b, HT, hb⟩ := HT
  clear h
  rcases hc with ⟨rfl, he⟩ | ⟨rfl, he, hs⟩
  · clear hb
    go_enter Try.func41, Try.ntmps41
    go_wp2_with (first
      | (go_at_call 67; refine (rrow_any base g _ _ _ s _ H.out).mono ?_; rw [HT.out]; rintro e w' ⟨rfl, rfl⟩)
      | (go_at_call 68; refine (rtnone base g _ _ _ _ H.out).mono ?_; rintro e w' ⟨rfl, rfl⟩))
    go_ret
    exact ⟨rfl, rfl⟩
  · obtain rfl := hb hs
    clear hb hs
    go_enter Try.func41, Try.ntmps41
    go_wp2_with (first
      | (go_at_call 67; refine (rrow_any base g _ _ _ s _ H.out).mono ?_; rw [HT.out]; rintro e w' ⟨rfl, rfl⟩)
      | (go_at_call 68; refine (rtnone base g _ _ _ _ H.out).mono ?_; rintro e w' ⟨rfl, rfl⟩))
    go_ret
    exact ⟨rfl, rfl⟩

/-- what a call of the document's table leaves: its own block and its rows' alone may turn; the rows lie where they lay, or anew -/
def RNew (w w' : World) (v v' : Value) : Prop := ∀ q, v'.ownBlock = some q → v.ownBlock = some q ∨ (w.heap.size ≤ q ∧ q < w'.heap.size)
theorem rtadd_all (base k0 g : Nat) (v : Value) (n : Int) (x : Ls) (s : ByteArray) (w : World) (h : RTab base w g v n x) (hI : LsI k0 x) (hk0 : k0 ≤ 100000) (hbase : base ≤ w.heap.size) :
    Calls Try.prog 41 #[ptr g, .string s] w fun e w' => ∃ v', e = .returned (.int .i64 (lsAdd x s).1) ∧ RTab base w' g v' n (lsAdd x s).2 ∧ Fr (g :: v.ownBlock.toList) w w' ∧ RNew w w' v v' := by
  have hl := hI.len
  unfold lsAdd
  cases he : s.toList.isEmpty
  · rw [if_neg (by simp)]
    cases hp : hplc x.R s with
    | none =>
      rw [hplc_none hp]
      refine (rtadd_ok base g v n x s w h (by omega) hbase he hp).mono ?_
      rintro e w' ⟨v', rfl, h1, h2, h3⟩
      exact ⟨v', rfl, h1, h2.mono (by simp), fun q hq => .inr (h3 q hq)⟩
    | some k =>
      obtain ⟨hk, hke, hf⟩ := hplc_some hp
      rw [hf]
      refine (rtadd_bad base g v n x s w h 7 (.inr ⟨rfl, he, by rw [hp]; rfl⟩)).mono ?_
      rintro e w' ⟨rfl, rfl⟩
      exact ⟨v, rfl, h, Fr.refl _ _, fun q hq => .inl hq⟩
  · rw [if_pos rfl]
    refine (rtadd_bad base g v n x s w h 2 (.inl ⟨rfl, he⟩)).mono ?_
    rintro e w' ⟨rfl, rfl⟩
    exact ⟨v, rfl, h, Fr.refl _ _, fun q hq => .inl hq⟩

set_option maxRecDepth 100000 in
set_option maxHeartbeats 1000000 in
theorem rtnew_bad (n d e0 : Int) (w : World) (hw : Clk.waits n d = (0, e0)) (he : e0 ≠ 0) :
    Calls Try.prog 40 #[.int .i64 n, .int .i64 d] w fun e w' => e = .returned (.tuple #[.pointer none, .int .i64 e0]) ∧ w = w' := by
  have HW := Lib.hid hw
  have t0 : (e0 == 0) = false := by simpa using he
  clear hw he
  go_enter Try.func40, Try.ntmps40
  go_wp2_with (go_at_call 26; refine (rwait_any _ _ _).mono ?_; rw [HW.out]; rintro e w' ⟨rfl, rfl⟩)
  go_ret2
  exact ⟨rfl, rfl⟩
set_option maxRecDepth 100000 in
set_option maxHeartbeats 1000000 in
theorem rtnew_ok (base : Nat) (n d : Int) (w : World) (hw : Clk.waits n d = (Clk.wait n d, 0)) :
    Calls Try.prog 40 #[.int .i64 n, .int .i64 d] w fun e w' => ∃ g, e = .returned (.tuple #[ptr g, .int .i64 0]) ∧ w.heap.size ≤ g ∧ RTab base w' g (.slice none 0 0) n ⟨Clk.wait n d, 0, []⟩ ∧ Below w.heap.size w w' := by
  have HW := Lib.hid hw
  clear hw
  go_enter Try.func40, Try.ntmps40
  go_wp2_with (go_at_call 26; refine (rwait_any _ _ _).mono ?_; rw [HW.out]; rintro e w' ⟨rfl, rfl⟩)
  go_ret2
  exact ⟨w.heap.size, rfl, Nat.le_refl _, ⟨Blk.made w [.bool true, .int .i64 n, .int .i64 (Clk.wait n d), .int .i64 0, .slice none 0 0] _, World.ownsRow_nil _ _ _ _, by simp [Value.ownBlock]⟩, below_alloc w _⟩

theorem wait_bounds {n d : Int} (h : ¬ (n < 1 ∨ 1048576 < n ∨ d < 0 ∨ 500 < d)) : 2 ≤ Clk.wait n d ∧ Clk.wait n d ≤ 1099511627776 := by
  have h2 : 0 ≤ d := by omega
  have h3 : d ≤ 500 := by omega
  constructor
  · have := Clk.wait_spec (lease := n) h2 h3
    unfold Clk.wait
    have : 0 ≤ ((n + 2) * (1000 + d) + (1000 - d) - 1) / (1000 - d) := by
      apply Int.ediv_nonneg
      · have : 0 ≤ (n + 2) * (1000 + d) := Int.mul_nonneg (by omega) (by omega)
        omega
      · omega
    omega
  · refine Clk.wait_least h2 h3 ?_
    have h4 : (n + 2) * (1000 + d) ≤ 1048578 * 1500 := Int.mul_le_mul (by omega) (by omega) (by omega) (by omega)
    have h5 : (1099511627776 - 2) * 500 ≤ (1099511627776 - 2) * (1000 - d) := Int.mul_le_mul_of_nonneg_left (by omega) (by omega)
    omega

/-! both tables -/
structure Lq (w0 : World) (b mb G : Nat) (v : Value) (n : Int) (x y : Ls) (w : World) : Prop where
  t : LsT w b mb n x
  r : RTab w0.heap.size w G v n y
  bel : Below w0.heap.size w0 w
  far : w0.heap.size ≤ b ∧ w0.heap.size ≤ mb ∧ w0.heap.size ≤ G ∧ b ≠ G ∧ mb ≠ G
  dis : ∀ q, v.ownBlock = some q → q ≠ b ∧ q ≠ mb
theorem Lq.kept {w0 : World} {b mb G : Nat} {v : Value} {n : Int} {x y : Ls} {w w' : World} (h : Lq w0 b mb G v n x y w) (hb : Below w.heap.size w w') : Lq w0 b mb G v n x y w' :=
  ⟨h.t.kept hb, h.r.kept hb, below_and h.bel hb, h.far, h.dis⟩
theorem Lq.drew {w0 : World} {b mb G : Nat} {v : Value} {n : Int} {x y : Ls} {w : World} (h : Lq w0 b mb G v n x y w) : Lq w0 b mb G v n x y w.drew := h.kept (Below.drewN' (Below.refl _ _) 1)
theorem Lq.one {w0 : World} {b mb G : Nat} {v : Value} {n : Int} {x x' y : Ls} {w w' : World} (h : Lq w0 b mb G v n x y w) (ht : LsT w' b mb n x') (hf : Fr [b, mb] w w') : Lq w0 b mb G v n x' y w' :=
  ⟨ht, h.r.fr hf (by simp; exact ⟨fun e => h.far.2.2.2.1 e.symm, fun e => h.far.2.2.2.2 e.symm⟩) (fun q hq => by simp; exact h.dis q hq), h.bel.trans (hf.below (fun q hq => by
    rcases List.mem_cons.1 hq with rfl | hq
    · exact h.far.1
    · rw [List.mem_singleton.1 hq]; exact h.far.2.1) h.bel.size), h.far, h.dis⟩
theorem LTab.fr {S : List Nat} {w w' : World} {b mb : Nat} {lease wait now : Int} {m : SM} (h : LTab w b mb lease wait now m) (hf : Fr S w w') (hb : b ∉ S) (hm : mb ∉ S) : LTab w' b mb lease wait now m := by
  refine ⟨h.blk.fr hf hb, ?_, h.ne⟩
  obtain ⟨es, clock, h1, h2⟩ := h.map
  refine ⟨es, clock, ?_, h2⟩
  rw [hf.block mb (Array.getElem?_eq_some_iff.1 h1).1 hm]
  exact h1
theorem LTab.mlt {w : World} {b mb : Nat} {lease wait now : Int} {m : SM} (h : LTab w b mb lease wait now m) : mb < w.heap.size := by
  obtain ⟨es, clock, h1, h2⟩ := h.map
  exact (Array.getElem?_eq_some_iff.1 h1).1
theorem Lq.two {w0 : World} {b mb G : Nat} {v v' : Value} {n : Int} {x y y' : Ls} {w w' : World} (h : Lq w0 b mb G v n x y w) (hr : RTab w0.heap.size w' G v' n y') (hf : Fr (G :: v.ownBlock.toList) w w') (hn : RNew w w' v v') : Lq w0 b mb G v' n x y' w' := by
  have hs : ∀ q ∈ G :: v.ownBlock.toList, q ≠ b ∧ q ≠ mb ∧ w0.heap.size ≤ q := fun q hq => by
    rcases List.mem_cons.1 hq with rfl | hq
    · exact ⟨fun e => h.far.2.2.2.1 e.symm, fun e => h.far.2.2.2.2 e.symm, h.far.2.2.1⟩
    · have hq := Option.mem_toList.1 hq
      exact ⟨(h.dis q hq).1, (h.dis q hq).2, own_lo h.r.row hq⟩
  refine ⟨h.t.fr hf (fun hb => (hs b hb).1 rfl) (fun hb => (hs mb hb).2.1 rfl), hr, h.bel.trans (hf.below (fun q hq => (hs q hq).2.2) h.bel.size), h.far, fun q hq => ?_⟩
  rcases hn q hq with h1 | h1
  · exact h.dis q h1
  · have h2 := h.t.blk.lt
    have h3 := h.t.mlt
    omega

/-! one act, in both -/
theorem ls_add {k : Nat} {x : Ls} (hI : LsI k x) (s : ByteArray) (hk : k ≤ 200) (hs : s.size ≤ maxLen) : ∃ (er : Int) (x' : Ls), LsI (k + 1) x' ∧
    (∀ (b mb : Nat) (n : Int) (w : World), LsT w b mb n x → Calls Try.prog 16 #[ptr b, .string s] w fun e w' => e = .returned (.int .i64 er) ∧ LsT w' b mb n x' ∧ Fr [b, mb] w w') ∧
    (∀ (base g : Nat) (v : Value) (n : Int) (w : World), RTab base w g v n x → base ≤ w.heap.size → Calls Try.prog 41 #[ptr g, .string s] w fun e w' => ∃ v', e = .returned (.int .i64 er) ∧ RTab base w' g v' n x' ∧ Fr (g :: v.ownBlock.toList) w w' ∧ RNew w w' v v') :=
  ⟨_, _, hI.add s hs, fun b mb n w h => (lsadd_all k b mb n x s w h hI (by omega) hs).mono fun e w' ⟨h1, h2, h3⟩ => ⟨h1, h2, h3.mono (by simp)⟩, fun base g v n w h hb => rtadd_all base k g v n x s w h hI (by omega) hb⟩
theorem ls_heard {k : Nat} {x : Ls} (hI : LsI k x) (s : ByteArray) (bt nw : Int) (hk : k ≤ 200) (hs : s.size ≤ maxLen) : ∃ (er : Int) (x' : Ls), LsI (k + 1) x' ∧
    (∀ (b mb : Nat) (n : Int) (w : World), LsT w b mb n x → Calls Try.prog 18 #[ptr b, .string s, .int .u64 bt, .int .i64 nw] w fun e w' => e = .returned (.int .i64 er) ∧ LsT w' b mb n x' ∧ Fr [b, mb] w w') ∧
    (∀ (base g : Nat) (v : Value) (n : Int) (w : World), RTab base w g v n x → base ≤ w.heap.size → Calls Try.prog 42 #[ptr g, .string s, .int .u64 bt, .int .i64 nw] w fun e w' => ∃ v', e = .returned (.int .i64 er) ∧ RTab base w' g v' n x' ∧ Fr (g :: v.ownBlock.toList) w w' ∧ RNew w w' v v') :=
  ⟨_, _, hI.heard s hs bt nw, fun b mb n w h => (lsheard_all k b mb n x s bt nw w h hI (by omega) hs).mono fun e w' ⟨h1, h2, h3⟩ => ⟨h1, h2, h3.mono (by simp)⟩, fun base g v n w h hb => (rtheard_all base k g v n x s bt nw w h hI).mono fun e w' ⟨h1, h2, h3⟩ => ⟨v, h1, h2, h3.mono (by simp; intro a ha; exact .inr ha), fun q hq => .inl hq⟩⟩
theorem ls_tick {k : Nat} {x : Ls} (hI : LsI k x) (d : Int) (hk : k ≤ 200) : ∃ (er : Int) (x' : Ls), LsI (k + 1) x' ∧
    (∀ (b mb : Nat) (n : Int) (w : World), LsT w b mb n x → Calls Try.prog 19 #[ptr b, .int .i64 d] w fun e w' => e = .returned (.int .i64 er) ∧ LsT w' b mb n x' ∧ Fr [b, mb] w w') ∧
    (∀ (base g : Nat) (v : Value) (n : Int) (w : World), RTab base w g v n x → base ≤ w.heap.size → Calls Try.prog 43 #[ptr g, .int .i64 d] w fun e w' => ∃ v', e = .returned (.int .i64 er) ∧ RTab base w' g v' n x' ∧ Fr (g :: v.ownBlock.toList) w w' ∧ RNew w w' v v') :=
  ⟨_, _, hI.tick d, fun b mb n w h => (lstick_all k b mb n x d w h hI (by omega)).mono fun e w' ⟨h1, h2, h3⟩ => ⟨h1, h2, h3.mono (by simp)⟩, fun base g v n w h hb => (rttick_all base k g v n x d w h hI (by omega)).mono fun e w' ⟨h1, h2, h3⟩ => ⟨v, h1, h2, h3.mono (by simp), fun q hq => .inl hq⟩⟩

/-! same -/
set_option maxRecDepth 100000 in
set_option maxHeartbeats 4000000 in
theorem lsame_any (w0 : World) (k b mb G : Nat) (v : Value) (n : Int) (x : Ls) (s : ByteArray) (w : World) (h : Lq w0 b mb G v n x x w) (hI : LsI k x) (hk : k ≤ 100000) (hs : s.size ≤ maxLen) :
    Calls Try.prog 44 #[ptr b, ptr G, .string s] w fun e w' => e = .returned (.bool true) ∧ Below w.heap.size w w' := by
  obtain ⟨a1, a2, a3, hE⟩ : ∃ a1 a2 a3, lsEcho x s = (a1, a2, a3) := ⟨_, _, _, rfl⟩
  obtain ⟨b1, b2, hS⟩ : ∃ b1 b2, lsSure x s = (b1, b2) := ⟨_, _, rfl⟩
  obtain ⟨c1, c2, hL⟩ : ∃ c1 c2, lsLeft x s = (c1, c2) := ⟨_, _, rfl⟩
  have H1 : Hid (∀ w, LsT w b mb n x → Calls Try.prog 37 #[ptr b, .string s] w fun e w' => e = .returned (.tuple #[.int .u64 a1, .int .i64 a2, .int .i64 a3]) ∧ Below w.heap.size w w') := Lib.hid (fun w h => by have := lsecho_all k b mb n x s w h hI hs; rw [hE] at this; exact this)
  have H2 : Hid (∀ w, RTab w0.heap.size w G v n x → Calls Try.prog 69 #[ptr G, .string s] w fun e w' => e = .returned (.tuple #[.int .u64 a1, .int .i64 a2, .int .i64 a3]) ∧ Below w.heap.size w w') := Lib.hid (fun w h => by have := rtecho _ G v n x s w h; rw [hE] at this; exact this)
  have H3 : Hid (∀ w, LsT w b mb n x → Calls Try.prog 20 #[ptr b, .string s] w fun e w' => e = .returned (.tuple #[.bool b1, .int .i64 b2]) ∧ Below w.heap.size w w') := Lib.hid (fun w h => by have := lssure_all k b mb n x s w h hI hk hs; rw [hS] at this; exact this)
  have H4 : Hid (∀ w, RTab w0.heap.size w G v n x → Calls Try.prog 70 #[ptr G, .string s] w fun e w' => e = .returned (.tuple #[.bool b1, .int .i64 b2]) ∧ Below w.heap.size w w') := Lib.hid (fun w h => by have := rtsure _ k G v n x s w h hI hk; rw [hS] at this; exact this)
  have H5 : Hid (∀ w, LsT w b mb n x → Calls Try.prog 50 #[ptr b, .string s] w fun e w' => e = .returned (.tuple #[.int .i64 c1, .int .i64 c2]) ∧ Below w.heap.size w w') := Lib.hid (fun w h => by have := lsleft_all k b mb n x s w h hI hk hs; rw [hL] at this; exact this)
  have H6 : Hid (∀ w, RTab w0.heap.size w G v n x → Calls Try.prog 71 #[ptr G, .string s] w fun e w' => e = .returned (.tuple #[.int .i64 c1, .int .i64 c2]) ∧ Below w.heap.size w w') := Lib.hid (fun w h => by have := rtleft _ k G v n x s w h hI hk; rw [hL] at this; exact this)
  have T := Lib.hid h.t
  have R := Lib.hid h.r
  have q1 : (a1 == a1) = true := by simp
  have q2 : (a2 == a2) = true := by simp
  have q3 : (a3 == a3) = true := by simp
  have q4 : (b1 == b1) = true := by simp
  have q5 : (b2 == b2) = true := by simp
  have q6 : (c1 == c1) = true := by simp
  have q7 : (c2 == c2) = true := by simp
  clear h hI hE hS hL
  go_enter Try.func44, Try.ntmps44
  go_wp2_with (first
    | (go_at_call 37; refine (H1.out _ T.out).mono ?_; rintro e w1 ⟨rfl, hb⟩; have B1 := Lib.hid hb; clear hb)
    | (go_at_call 69; refine (H2.out _ (R.out.kept B1.out)).mono ?_; rintro e w2 ⟨rfl, hb⟩; have B2 := Lib.hid (below_and B1.out hb); clear hb)
    | (go_at_call 20; refine (H3.out _ (T.out.kept B2.out)).mono ?_; rintro e w3 ⟨rfl, hb⟩; have B3 := Lib.hid (below_and B2.out hb); clear hb)
    | (go_at_call 70; refine (H4.out _ (R.out.kept B3.out)).mono ?_; rintro e w4 ⟨rfl, hb⟩; have B4 := Lib.hid (below_and B3.out hb); clear hb)
    | (go_at_call 50; refine (H5.out _ (T.out.kept B4.out)).mono ?_; rintro e w5 ⟨rfl, hb⟩; have B5 := Lib.hid (below_and B4.out hb); clear hb)
    | (go_at_call 71; refine (H6.out _ (R.out.kept B5.out)).mono ?_; rintro e w6 ⟨rfl, hb⟩; have B6 := Lib.hid (below_and B5.out hb); clear hb))
  go_ret
  exact ⟨rfl, B6.out⟩
end Go.Proofs.Ytmgcigohfccgeaa
