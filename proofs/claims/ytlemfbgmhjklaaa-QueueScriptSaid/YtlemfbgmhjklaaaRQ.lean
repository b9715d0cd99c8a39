/- The document's queue in memory: place, first, next. -/
import Derived.Test.YtlemfbgmhjklaaaQRead
import Derived.Test.YtlemfbgmhjklaaaQDoc
namespace Go.Proofs.Ytlemfbgmhjklaaa
open Go.RowKit

def strV (ns : List ByteArray) : List Value := ns.map Value.string
theorem strV_len (ns : List ByteArray) : (strV ns).length = ns.length := by unfold strV; rw [List.length_map]
structure RQ (base : Nat) (w : World) (g : Nat) (rv : Nat → Value) (vL : Value) (rw : Nat → List ByteArray) (L : List Pend) : Prop where
  blk : Blk w g [rv 0, rv 1, rv 2, rv 3, vL] 46
  rows : ∀ b, b < 4 → w.ownsRow base 9 1 (rv b) (rw b).length (strV (rw b))
  list : w.ownsRow base 29 4 vL L.length (pcells L)
  sep : ∀ b, b < 4 → ∀ c, c < 4 → b ≠ c → ∀ k, (rv b).ownBlock = some k → (rv c).ownBlock ≠ some k
  lo : base ≤ g
section
variable {base : Nat} {w w' : World} {g : Nat} {rv : Nat → Value} {vL : Value} {rw : Nat → List ByteArray} {L : List Pend}
theorem RQ.kept (h : RQ base w g rv vL rw L) (hb : Below w.heap.size w w') : RQ base w' g rv vL rw L :=
  ⟨h.blk.kept hb, fun b hb4 => own_keep (h.rows b hb4) hb, own_keep h.list hb, h.sep, h.lo⟩
theorem rv_at (h : RQ base w g rv vL rw L) {b : Nat} (hb : b < 4) : w.cell? ⟨g, b, none⟩ = some (rv b) := by
  obtain rfl | rfl | rfl | rfl : b = 0 ∨ b = 1 ∨ b = 2 ∨ b = 3 := by omega
  · exact h.blk.cell (j := 0) rfl
  · exact h.blk.cell (j := 1) rfl
  · exact h.blk.cell (j := 2) rfl
  · exact h.blk.cell (j := 3) rfl
theorem RQ.cL (h : RQ base w g rv vL rw L) : w.cell? ⟨g, 4, none⟩ = some vL := h.blk.cell (j := 4) rfl
end

def plcI (L : List Pend) (t : Tid) : Int := idxI L t
def firstI (L : List Pend) (k : Key) : Int := match L.findIdx? (kf k) with | some i => (i : Int) | none => -1

set_option maxRecDepth 100000 in
set_option maxHeartbeats 1000000 in
theorem rplace_any (base g : Nat) (rv : Nat → Value) (vL : Value) (rw : Nat → List ByteArray) (L : List Pend) (t : Tid) (w : World) (h : RQ base w g rv vL rw L) :
    Calls Try.prog 36 #[ptr g, tval t] w fun e w' => e = .returned (.int .i64 (idxI L t)) ∧ Below w.heap.size w w' := by
  have hml : maxLen ≤ 9223372036854775807 := by decide
  obtain ⟨p, c, rfl, hc, hm⟩ := own_slice h.list
  obtain ⟨t1, t2⟩ := t
  have H := Lib.hid h
  have e4 := (h.kept (below_alloc w (.cells #[.string t1, .int .i64 t2] 27))).cL
  clear h
  go_enter Try.func36, Try.ntmps36
  go_wp2
  have HB0 := Lib.hid (below_alloc w (.cells #[.string t1, .int .i64 t2] 27))
  have HTB : Hid (Blk (w.alloc (.cells #[.string t1, .int .i64 t2] 27)) w.heap.size [.string t1, .int .i64 t2] 27) := Lib.hid (Blk.made w _ _)
  obtain ⟨w0, hw0⟩ : ∃ w0, w0 = w.alloc (.cells #[.string t1, .int .i64 t2] 27) := ⟨_, rfl⟩
  obtain ⟨tg, htg⟩ : ∃ tg, tg = w.heap.size := ⟨_, rfl⟩
  rw [← hw0] at HB0 HTB e4 ⊢
  have H0 := Lib.hid (H.out.kept HB0.out)
  rw [← htg] at HTB ⊢
  have HTG := Lib.hid htg
  clear hw0 htg H
  go_loopw [5] (fun o wc => ∃ k : Nat, k ≤ L.length ∧ o = .int .i64 (k : Int) ∧ Hid (∀ j (h : j < L.length), j < k → L[j].task ≠ (t1, t2)) ∧ Hid (Below w0.heap.size w0 wc)) (fun o _ => L.length - (intOf o).toNat)
  case atStart => exact ⟨0, Nat.zero_le _, rfl, Lib.hid (fun _ _ h => absurd h (Nat.not_lt_zero _)), Lib.hid (Below.refl _ _)⟩
  case round =>
    obtain ⟨k, hk, rfl, hno, HB⟩ := hrel
    have HR := H0.out.kept HB.out
    have f4 := HR.cL
    by_cases hlt : k < L.length
    · obtain ⟨q, e, hcs⟩ := pown_cell HR.list hlt rfl
      subst e
      obtain ⟨y, hy⟩ : ∃ y, y = L[k] := ⟨_, rfl⟩
      rw [← hy] at hcs
      have c0 : wr.cell? ⟨q, k * 4, none⟩ = some (.string y.job) := hcs 0 _ (by omega) rfl
      have c1 : wr.cell? ⟨q, k * 4 + 1, none⟩ = some (.int .i64 y.idx) := hcs 1 _ (by omega) rfl
      have d0 := (HTB.out.kept HB.out).cell (j := 0) rfl
      have d1 := (HTB.out.kept HB.out).cell (j := 1) rfl
      have i1 : (k : Int) < (L.length : Int) := by omega
      clear hcs HR
      by_cases hq : y.task = (t1, t2)
      · have HF : Hid (idxI L (t1, t2) = (k : Int)) := Lib.hid (by unfold idxI; rw [idx_some hlt (by rw [← hy]; exact hq) hno.out])
        have hqj : y.job = t1 := congrArg Prod.fst hq
        have hqi : y.idx = t2 := congrArg Prod.snd hq
        rw [hqj] at c0
        rw [hqi] at c1
        clear hy hq hqj hqi
        go_wp2
        go_quiet (fail)
        go_wp2
        go_ret
        exact ⟨ret_int HF.out.symm, below_and HB0.out (below_and HB.out (below_drewN _))⟩
      · have HN : Hid (∀ j (h : j < L.length), j < k + 1 → L[j].task ≠ (t1, t2)) := Lib.hid fun j hj hjk => by
          by_cases hjk2 : j < k
          · exact hno.out j hj hjk2
          · obtain rfl : j = k := by omega
            rw [← hy]; exact hq
        obtain ⟨yj, yi, yu, yd⟩ := y
        simp only at c0 c1
        have hq2 : (yj.toList == t1.toList) = false ∨ (yi == t2) = false := by
          rw [toList_eq]
          simp only [decide_eq_false_iff_not, beq_eq_false_iff_ne]
          by_cases a1 : yj = t1
          · exact .inr (fun a2 => hq (by subst a1 a2; rfl))
          · exact .inl a1
        clear hy hq
        rcases hq2 with ha | ha
        all_goals go_wp2
        all_goals go_quiet (fail)
        all_goals go_wp2
        all_goals exact ⟨⟨k + 1, hlt, by go_num, HN, Lib.hid (below_and HB.out (below_drewN _))⟩, by simp [intOf]; omega⟩
    · obtain rfl : k = L.length := by omega
      have HF : Hid (idxI L (t1, t2) = -1) := Lib.hid (by unfold idxI; rw [idx_none (fun j hj => hno.out j hj hj)])
      go_wp2
      go_ret
      exact ⟨ret_int HF.out.symm, below_and HB0.out HB.out⟩

theorem first_some {L : List Pend} {k : Key} {i : Nat} (hi : i < L.length) (h1 : L[i].key = k) (h2 : ∀ j (h : j < L.length), j < i → L[j].key ≠ k) : L.findIdx? (kf k) = some i := by
  rw [List.findIdx?_eq_some_iff_getElem]
  exact ⟨hi, by simpa [kf] using h1, fun j hj => by simpa [kf] using h2 j (by omega) hj⟩
theorem first_none {L : List Pend} {k : Key} (h : ∀ j (h : j < L.length), L[j].key ≠ k) : L.findIdx? (kf k) = none := by
  rw [List.findIdx?_eq_none_iff]
  intro x hx
  obtain ⟨j, hj, rfl⟩ := List.getElem_of_mem hx
  simpa [kf] using h j hj

set_option maxRecDepth 100000 in
set_option maxHeartbeats 1000000 in
theorem rfirst_any (base g : Nat) (rv : Nat → Value) (vL : Value) (rw : Nat → List ByteArray) (L : List Pend) (u : ByteArray) (d : Int) (w : World) (h : RQ base w g rv vL rw L) :
    Calls Try.prog 37 #[ptr g, .string u, .int .i64 d] w fun e w' => e = .returned (.int .i64 (firstI L (u, d))) ∧ w = w' := by
  have hml : maxLen ≤ 9223372036854775807 := by decide
  obtain ⟨p, c, rfl, hc, hm⟩ := own_slice h.list
  have H := Lib.hid h
  have e4 := h.cL
  clear h
  go_enter Try.func37, Try.ntmps37
  go_wp2
  go_loopw [7] (fun o wc => ∃ k : Nat, k ≤ L.length ∧ o = .int .i64 (k : Int) ∧ Hid (∀ j (h : j < L.length), j < k → L[j].key ≠ (u, d)) ∧ Hid (w = wc)) (fun o _ => L.length - (intOf o).toNat)
  case atStart => exact ⟨0, Nat.zero_le _, rfl, Lib.hid (fun _ _ h => absurd h (Nat.not_lt_zero _)), Lib.hid rfl⟩
  case round =>
    obtain ⟨k, hk, rfl, hno, HWW⟩ := hrel
    obtain rfl := HWW.out
    by_cases hlt : k < L.length
    · obtain ⟨q, e, hcs⟩ := pown_cell H.out.list hlt rfl
      subst e
      obtain ⟨y, hy⟩ : ∃ y, y = L[k] := ⟨_, rfl⟩
      rw [← hy] at hcs
      have c2 : w.cell? ⟨q, k * 4 + 2, none⟩ = some (.string y.user) := hcs 2 _ (by omega) rfl
      have c3 : w.cell? ⟨q, k * 4 + 3, none⟩ = some (.int .i64 y.band) := hcs 3 _ (by omega) rfl
      have i1 : (k : Int) < (L.length : Int) := by omega
      clear hcs
      by_cases hq : y.key = (u, d)
      · have HF : Hid (firstI L (u, d) = (k : Int)) := Lib.hid (by unfold firstI; rw [first_some hlt (by rw [← hy]; exact hq) hno.out])
        have hqj : y.user = u := congrArg Prod.fst hq
        have hqi : y.band = d := congrArg Prod.snd hq
        rw [hqj] at c2
        rw [hqi] at c3
        clear hy hq hqj hqi
        go_wp2
        go_ret
        exact ⟨ret_int HF.out.symm, rfl⟩
      · have HN : Hid (∀ j (h : j < L.length), j < k + 1 → L[j].key ≠ (u, d)) := Lib.hid fun j hj hjk => by
          by_cases hjk2 : j < k
          · exact hno.out j hj hjk2
          · obtain rfl : j = k := by omega
            rw [← hy]; exact hq
        obtain ⟨yj, yi, yu, yd⟩ := y
        simp only at c2 c3
        by_cases a1 : yu = u
        · have ha : (yd == d) = false := by simp only [beq_eq_false_iff_ne]; exact fun a2 => hq (by subst a1 a2; rfl)
          subst a1
          clear hy hq
          go_wp2
          exact ⟨⟨k + 1, hlt, by go_num, HN, Lib.hid trivial⟩, by simp [intOf]; omega⟩
        · have ha : (yu.toList == u.toList) = false := by rw [toList_eq]; simpa using a1
          clear hy hq a1
          go_wp2
          exact ⟨⟨k + 1, hlt, by go_num, HN, Lib.hid trivial⟩, by simp [intOf]; omega⟩
    · obtain rfl : k = L.length := by omega
      have HF : Hid (firstI L (u, d) = -1) := Lib.hid (by unfold firstI; rw [first_none (fun j hj => hno.out j hj hj)])
      go_wp2
      go_ret
      exact ⟨ret_int HF.out.symm, rfl⟩

theorem row_shape' {base : Nat} {w : World} {v : Value} {ns : List ByteArray} (h : w.ownsRow base 9 1 v ns.length (strV ns)) : ∃ p c, v = .slice p ns.length c := by
  obtain ⟨p, c, e, -, -⟩ := own_slice h
  exact ⟨p, c, e⟩

set_option maxRecDepth 100000 in
set_option maxHeartbeats 1000000 in
theorem rnext_any (base g : Nat) (rv : Nat → Value) (vL : Value) (rw : Nat → List ByteArray) (L : List Pend) (w : World) (h : RQ base w g rv vL rw L) (r : Int)
    (hr : (∀ b, b < 4 → rw b = []) ∧ r = -1 ∨ ∃ b0, b0 < 4 ∧ ∃ u us, rw b0 = u :: us ∧ (∀ b, b < 4 → b0 < b → rw b = []) ∧ r = firstI L (u, (b0 : Int))) :
    Calls Try.prog 38 #[ptr g] w fun e w' => e = .returned (.int .i64 r) ∧ w = w' := by
  have H := Lib.hid h
  have HR := Lib.hid hr
  clear h hr
  go_enter Try.func38, Try.ntmps38
  go_wp2
  go_loopw [3] (fun o wc => ∃ n : Nat, n ≤ 4 ∧ o = .int .i64 ((n : Int) - 1) ∧ Hid (∀ b, b < 4 → n ≤ b → rw b = []) ∧ Hid (w = wc)) (fun o _ => ((intOf o) + 1).toNat)
  case atStart => exact ⟨4, Nat.le_refl _, rfl, Lib.hid (fun b h1 h2 => by omega), Lib.hid rfl⟩
  case round =>
    obtain ⟨n, hn, rfl, HE, HWW⟩ := hrel
    obtain rfl := HWW.out
    cases n with
    | zero =>
      have HRR : Hid (r = -1) := Lib.hid (by
        rcases HR.out with ⟨-, h⟩ | ⟨b0, hb0, u, us, h1, -⟩
        · exact h
        · rw [HE.out b0 hb0 (Nat.zero_le _)] at h1; cases h1)
      have i0 : ¬ (((0 : Nat) : Int) - 1 ≥ 0) := by omega
      go_wp2
      go_ret
      exact ⟨ret_int HRR.out.symm, rfl⟩
    | succ b =>
      have hb4 : b < 4 := by omega
      have e1 : (((b + 1 : Nat) : Int) - 1) = (b : Int) := by omega
      have i1 : (b : Int) < 4 := by omega
      have cb := rv_at H.out hb4
      have hrow := H.out.rows b hb4
      obtain ⟨pb, cc, hvb⟩ := row_shape' hrow
      rw [hvb] at cb hrow
      rw [e1]
      cases hrb : rw b with
      | nil =>
        rw [hrb] at cb
        have HE2 : Hid (∀ b', b' < 4 → b ≤ b' → rw b' = []) := Lib.hid (fun b' h1 h2 => by
          by_cases h3 : b' = b
          · rw [h3]; exact hrb
          · exact HE.out b' h1 (by omega))
        clear hrow hvb hrb
        go_wp2
        go_roundw
        case rel => exact ⟨b, by omega, by go_num, HE2, Lib.hid trivial⟩
        case measure => simp [intOf]
      | cons u us =>
        have HRR : Hid (firstI L (u, (b : Int)) = r) := Lib.hid (by
          rcases HR.out with ⟨h, -⟩ | ⟨b0, hb0, u', us', h1, h2, h3⟩
          · rw [h b hb4] at hrb; cases hrb
          · have hbb : b0 = b := by
              rcases Nat.lt_trichotomy b0 b with hlt | heq | hgt
              · rw [h2 b hb4 hlt] at hrb; cases hrb
              · exact heq
              · rw [HE.out b0 hb0 (by omega)] at h1; cases h1
            subst hbb
            rw [hrb] at h1
            cases h1
            exact h3.symm)
        rw [hrb] at cb hrow
        obtain ⟨q, cap, e, -, -, -⟩ := own_block hrow (by simp)
        simp only [Value.slice.injEq] at e
        obtain ⟨rfl, -, rfl⟩ := e
        have c0 : w.cell? ⟨q, 0, none⟩ = some (.string u) := own_cell hrow (j := 0) rfl
        have i2 : (0 : Int) < (us.length : Int) + 1 := by omega
        simp only [List.length_cons] at cb
        clear hrow hvb hrb
        go_wp2_with (go_at_call 37; refine (rfirst_any base g rv vL rw L u (b : Int) _ H.out).mono ?_; rw [HRR.out]; rintro e w2 ⟨rfl, rfl⟩)
        go_ret
        exact ⟨rfl, rfl⟩
end Go.Proofs.Ytlemfbgmhjklaaa
