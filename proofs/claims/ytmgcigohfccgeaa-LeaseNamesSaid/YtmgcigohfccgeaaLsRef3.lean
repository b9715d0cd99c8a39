/- The document's table of leases: Heard, Add, New. -/
import Derived.Test.YtmgcigohfccgeaaLsRef2
import Derived.Deep.MidRow
namespace Go.Proofs.Ytmgcigohfccgeaa
open Go.RowKit

/-- over the row of one that is there -/
theorem hrem_none {R : List Hr} {s : List UInt8} (h : ∀ e ∈ R, e.key ≠ s) : hrem R s = R := by
  unfold hrem
  rw [List.filter_eq_self]
  intro e he
  simpa using h e he
theorem putR_new {R : List Hr} {x : Hr} (h : hfd R x.key = none) : putR R x = insR x R := by
  unfold putR
  rw [hrem_none (hfd_none h)]
theorem putR_set : ∀ {R : List Hr} {k : Nat} {x : Hr}, HRise R → ∀ hk : k < R.length, R[k].key = x.key → putR R x = R.set k x
  | [], k, _, _, hk, _ => absurd hk (Nat.not_lt_zero _)
  | y :: R, 0, x, hr, hk, he => by
    have he : y.key = x.key := he
    unfold HRise at hr
    rw [List.pairwise_cons] at hr
    have h1 : hrem (y :: R) x.key = R := by
      unfold hrem
      rw [List.filter_cons_of_neg (by simp [he])]
      exact hrem_none (fun e h => by have := hr.1 e h; rw [he] at this; intro e2; rw [e2] at this; exact lt_irr _ this)
    unfold putR
    rw [h1, List.set_cons_zero]
    cases R with
    | nil => rfl
    | cons z R =>
      have h2 := hr.1 z (by simp)
      rw [show y.key = x.key from he] at h2
      unfold insR
      rw [(before_lt _ _).2 h2]
      rfl
  | y :: R, k + 1, x, hr, hk, he => by
    have hk' : k < R.length := by simpa using hk
    have he : R[k].key = x.key := he
    unfold HRise at hr
    rw [List.pairwise_cons] at hr
    have h3 : y.key < x.key := by rw [← he]; exact hr.1 _ (List.getElem_mem hk')
    have h1 : hrem (y :: R) x.key = y :: hrem R x.key := by
      unfold hrem
      rw [List.filter_cons_of_pos (by simp; intro e; rw [e] at h3; exact lt_irr _ h3)]
    have ih := putR_set (R := R) (k := k) (x := x) hr.2 hk' he
    unfold putR at ih ⊢
    rw [h1, List.set_cons_succ, ← ih]
    have h4 : bytesBefore x.key y.key = false := by
      cases hb : bytesBefore x.key y.key
      · rfl
      · exact absurd (lt_tr h3 ((before_lt _ _).1 hb)) (lt_irr _)
    conv => lhs; unfold insR
    rw [h4]
    rfl

set_option maxRecDepth 100000 in
set_option maxHeartbeats 2000000 in
theorem rtheard_ref (base g : Nat) (v : Value) (n : Int) (x : Ls) (s : ByteArray) (bt nw : Int) (w : World) (h : RTab base w g v n x) (er : Int)
    (hc : (er = 6 ∧ hplc x.R s = none) ∨ ∃ k y, hplc x.R s = some k ∧ x.R[k]? = some y ∧ ((er = 2 ∧ (bt == 0) = true) ∨ (er = 2 ∧ (bt == 0) = false ∧ decide (nw < 0) = true) ∨ (er = 11 ∧ (bt == 0) = false ∧ decide (nw < 0) = false ∧ decide (bt < y.b) = true) ∨ (er = 11 ∧ (bt == 0) = false ∧ decide (nw < 0) = false ∧ decide (bt < y.b) = false ∧ (bt == y.b) = true ∧ decide (nw < y.m) = true))) :
    Calls Try.prog 42 #[ptr g, .string s, .int .u64 bt, .int .i64 nw] w fun e w' => e = .returned (.int .i64 er) ∧ w = w' := by
  have H := Lib.hid h
  rcases hc with ⟨rfl, hp⟩ | ⟨k, y, hp, hy, hc⟩
  · have HT : Hid (hplcT x.R s = .tuple #[.int .i64 0, .int .i64 6]) := Lib.hid (by unfold hplcT; rw [hp])
    clear h hp
    go_enter Try.func42, Try.ntmps42
    go_wp2_with (go_at_call 67; refine (rrow_any base g _ _ _ s _ H.out).mono ?_; rw [HT.out]; rintro e w' ⟨rfl, rfl⟩)
    go_ret
    exact ⟨rfl, rfl⟩
  · have HT : Hid (hplcT x.R s = .tuple #[.int .i64 (k : Int), .int .i64 0]) := Lib.hid (by unfold hplcT; rw [hp])
    obtain ⟨p, c, rfl, hcc, hm⟩ := h.shape
    have hml : maxLen ≤ 9223372036854775807 := by decide
    have c4 := h.blk.cell (j := 4) rfl
    obtain ⟨hk, hyk⟩ := List.getElem?_eq_some_iff.1 hy
    obtain ⟨q, rfl, hcs⟩ := h.at hk
    rw [hyk] at hcs
    have e1 := hcs 1 _ (by omega) rfl
    have e2 := hcs 2 _ (by omega) rfl
    have i1 : (k : Int) < (x.R.length : Int) := by omega
    have i0 : ¬ ((k : Int) < 0) := by omega
    obtain ⟨yn, yb, ym, ya⟩ := y
    simp only [] at *
    clear h hp hcs hy hyk
    rcases hc with ⟨rfl, h1⟩ | ⟨rfl, h1, h2⟩ | ⟨rfl, h1, h2, h3⟩ | ⟨rfl, h1, h2, h3, h4, h5⟩
    all_goals
      go_enter Try.func42, Try.ntmps42
      go_wp2_with (go_at_call 67; refine (rrow_any base g _ _ _ s _ H.out).mono ?_; rw [HT.out]; rintro e w' ⟨rfl, rfl⟩)
      go_ret
      exact ⟨rfl, rfl⟩
set_option maxRecDepth 100000 in
set_option maxHeartbeats 2000000 in
theorem rtheard_ok (base g : Nat) (v : Value) (n : Int) (x : Ls) (s : ByteArray) (bt nw : Int) (w : World) (h : RTab base w g v n x) (k : Nat) (y : Hr) (hp : hplc x.R s = some k) (hy : x.R[k]? = some y)
    (h1 : (bt == 0) = false) (h2 : decide (nw < 0) = false) (h3 : decide (bt < y.b) = false) (hc : (bt == y.b) = false ∨ ((bt == y.b) = true ∧ decide (nw < y.m) = false)) :
    Calls Try.prog 42 #[ptr g, .string s, .int .u64 bt, .int .i64 nw] w fun e w' => e = .returned (.int .i64 0) ∧ RTab base w' g v n { x with R := x.R.set k ⟨s, bt, nw, x.now⟩ } ∧ Fr (v.ownBlock.toList) w w' := by
  have HT : Hid (hplcT x.R s = .tuple #[.int .i64 (k : Int), .int .i64 0]) := Lib.hid (by unfold hplcT; rw [hp])
  obtain ⟨p, c, rfl, hcc, hm⟩ := h.shape
  have hml : maxLen ≤ 9223372036854775807 := by decide
  have c4 := h.blk.cell (j := 4) rfl
  obtain ⟨hk, hyk⟩ := List.getElem?_eq_some_iff.1 hy
  obtain ⟨q, rfl, hcs⟩ := h.at hk
  have H := Lib.hid h
  rw [hyk] at hcs
  have e1 := hcs 1 _ (by omega) rfl
  have e2 := hcs 2 _ (by omega) rfl
  have i1 : (k : Int) < (x.R.length : Int) := by omega
  have i0 : ¬ ((k : Int) < 0) := by omega
  have HI4 : Hid ((Try.prog.info? 110).map (·.size) = some 4) := Lib.hid (by kernel_rfl)
  have HA1 : Hid ((#[.string s, .int .u64 bt, .int .i64 nw, .int .i64 x.now] : Array Value).all (·.oneCell') = true) := Lib.hid (one_all (hrC_one ⟨s, bt, nw, x.now⟩))
  have b3 : ∀ y : Past w, y.val.cell? ⟨g, 3, none⟩ = some (.int .i64 x.now) := Past.blk h.blk (j := 3) rfl
  have b4 : ∀ y : Past w, y.val.cell? ⟨g, 4, none⟩ = some (.slice (some ⟨q, 0, none⟩) x.R.length c) := Past.blk h.blk (j := 4) rfl
  obtain ⟨yn, yb, ym, ya⟩ := y
  simp only [] at *
  clear h hp hcs hy hyk
  rcases hc with h4 | ⟨h4, h5⟩
  all_goals
    go_enter Try.func42, Try.ntmps42
    go_upto_region 8 with (go_at_call 67; refine (rrow_any base g _ _ _ s _ H.out).mono ?_; rw [HT.out]; rintro e w' ⟨rfl, rfl⟩)
    refine wp_region_past_one rfl (by kernel_rfl) (by kernel_rfl) (by kernel_rfl) ?_
    repeat (go_big_quiet_step (fail))
    refine wpQuiet_nil ?_
    intro _ hw'
    obtain ⟨s9, hw''⟩ := hw'
    subst hw''
    obtain ⟨w8, h9, e9⟩ : ∃ w8, Below w.heap.size w w8 ∧ w8 = s9.val := ⟨_, s9.h, rfl⟩
    rw [← e9]
    have H8 := Lib.hid (H.out.kept h9)
    have HB8 := Lib.hid h9
    clear h9 e9 b3 b4
    have HTH : Hid (w8.there q (k * 4) 4) := Lib.hid (fun j hj => ⟨by rw [own_cell H8.out.row (j := k * 4 + j) (List.getElem?_eq_getElem (by unfold hrsC; rw [flat_len hrC_len]; omega))]; rfl, own_free H8.out.row _⟩)
    have HN : Hid (∃ wS, wS = w8.setCells q (k * 4) (#[.string s, .int .u64 bt, .int .i64 nw, .int .i64 x.now] : Array Value).toList ∧ RTab base wS g (.slice (some ⟨q, 0, none⟩) x.R.length c) n { x with R := x.R.set k ⟨s, bt, nw, x.now⟩ } ∧ Fr [q] w wS) := Lib.hid ⟨_, rfl, by
      have hne : g ≠ q := fun e => H8.out.ne (by rw [e]; rfl)
      refine ⟨Blk.cellsO hne _ _ _ H8.out.blk, ?_, H8.out.ne⟩
      have h1 := own_setRun (hrC ⟨s, bt, nw, x.now⟩) (k * 4) _ _ H8.out.row (by simp; omega)
      rw [show setRun (hrsC x.R) (k * 4) (hrC ⟨s, bt, nw, x.now⟩) = hrsC (x.R.set k ⟨s, bt, nw, x.now⟩) from flat_set hrC_len _ _ _ hk] at h1
      simpa using h1, fr_setCells (by simp) _ _ _ _ (Fr.of_below HB8.out _)⟩
    go_wp2_with (refine wpList_store_mid rfl 110 _ _ rfl q (k * 4) #[.string s, .int .u64 bt, .int .i64 nw, .int .i64 x.now] rfl rfl HTH.out HI4.out HA1.out ?_; obtain ⟨wS, hwS, hs1, hs2⟩ := HN.out; rw [← hwS]; have N1 := Lib.hid hs1; have N2 := Lib.hid hs2; clear hwS hs1 hs2)
    go_ret
    exact ⟨rfl, N1.out, by simpa [Value.ownBlock] using N2.out⟩
end Go.Proofs.Ytmgcigohfccgeaa
