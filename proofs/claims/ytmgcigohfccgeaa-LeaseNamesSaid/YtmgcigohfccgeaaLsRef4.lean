/- The document's table of leases: Heard whole, Add, New. -/
import Derived.Test.YtmgcigohfccgeaaLsRef3
import Derived.Sort.Walk0
namespace Go.Proofs.Ytmgcigohfccgeaa
open Go.RowKit

theorem rtheard_all (base k0 g : Nat) (v : Value) (n : Int) (x : Ls) (s : ByteArray) (bt nw : Int) (w : World) (h : RTab base w g v n x) (hI : LsI k0 x) :
    Calls Try.prog 42 #[ptr g, .string s, .int .u64 bt, .int .i64 nw] w fun e w' => e = .returned (.int .i64 (lsHeard x s bt nw).1) ∧ RTab base w' g v n (lsHeard x s bt nw).2 ∧ Fr (v.ownBlock.toList) w w' := by
  unfold lsHeard
  cases hp : hplc x.R s with
  | none =>
    rw [hplc_none hp]
    refine (rtheard_ref base g v n x s bt nw w h 6 (.inl ⟨rfl, hp⟩)).mono ?_
    rintro e w' ⟨rfl, rfl⟩
    exact ⟨rfl, h, Fr.refl _ _⟩
  | some k =>
    obtain ⟨hk, hke, hf⟩ := hplc_some hp
    rw [hf]
    have hy : x.R[k]? = some x.R[k] := List.getElem?_eq_getElem hk
    generalize hyy : x.R[k] = y at *
    simp only []
    by_cases c1 : bt = 0 ∨ nw < 0
    · rw [if_pos c1]
      refine (rtheard_ref base g v n x s bt nw w h 2 (.inr ⟨k, y, hp, hy, ?_⟩)).mono ?_
      · by_cases c2 : bt = 0
        · exact .inl ⟨rfl, by simp [c2]⟩
        · exact .inr (.inl ⟨rfl, by simpa using c2, by simpa using c1.resolve_left c2⟩)
      · rintro e w' ⟨rfl, rfl⟩
        exact ⟨rfl, h, Fr.refl _ _⟩
    · rw [if_neg c1]
      have d1 : (bt == 0) = false := by simp; omega
      have d2 : decide (nw < 0) = false := by simp; omega
      by_cases c2 : bt < y.b ∨ (bt = y.b ∧ nw < y.m)
      · rw [if_pos c2]
        refine (rtheard_ref base g v n x s bt nw w h 11 (.inr ⟨k, y, hp, hy, ?_⟩)).mono ?_
        · by_cases c3 : bt < y.b
          · exact .inr (.inr (.inl ⟨rfl, d1, d2, by simpa using c3⟩))
          · have c4 := c2.resolve_left c3
            exact .inr (.inr (.inr ⟨rfl, d1, d2, by simp; omega, by simp [c4.1], by simp [c4.2]⟩))
        · rintro e w' ⟨rfl, rfl⟩
          exact ⟨rfl, h, Fr.refl _ _⟩
      · rw [if_neg c2]
        have d3 : decide (bt < y.b) = false := by simp; omega
        refine (rtheard_ok base g v n x s bt nw w h k y hp hy d1 d2 d3 ?_).mono ?_
        · by_cases c3 : bt = y.b
          · exact .inr ⟨by simp [c3], by simp; omega⟩
          · exact .inl (by simp [c3])
        · rintro e w' ⟨rfl, h1, h2⟩
          rw [← putR_set (x := ⟨s, bt, nw, x.now⟩) hI.rise hk (by rw [hyy, hke]; rfl)] at h1
          exact ⟨rfl, h1, h2⟩

/-! Add -/
theorem insR_split : ∀ {R : List Hr} {k : Nat} {x : Hr} (hk : k < R.length), (∀ j (hj : j < R.length), j < k → bytesBefore x.key R[j].key = false) → bytesBefore x.key R[k].key = true → R.take k ++ (x :: R.drop k) = insR x R
  | [], k, _, hk, _, _ => absurd hk (Nat.not_lt_zero _)
  | y :: R, 0, x, _, _, h2 => by
    have h2 : bytesBefore x.key y.key = true := h2
    unfold insR
    rw [if_pos h2]
    rfl
  | y :: R, k + 1, x, hk, h1, h2 => by
    have h3 : bytesBefore x.key y.key = false := h1 0 (by simp) (by omega)
    unfold insR
    rw [if_neg (by simp [h3])]
    have := insR_split (R := R) (k := k) (x := x) (by simpa using hk) (fun j hj hjk => h1 (j + 1) (by simpa using hj) (by omega)) h2
    simpa using this
theorem insR_end : ∀ {R : List Hr} {x : Hr}, (∀ j (hj : j < R.length), bytesBefore x.key R[j].key = false) → R ++ [x] = insR x R
  | [], _, _ => rfl
  | y :: R, x, h1 => by
    have h3 : bytesBefore x.key y.key = false := h1 0 (by simp)
    unfold insR
    rw [if_neg (by simp [h3])]
    have := insR_end (R := R) (x := x) (fun j hj => h1 (j + 1) (by simpa using hj))
    simpa using this
theorem less_before (s : ByteArray) (y : Hr) : Op.bytesLess s.toList y.n.toList = bytesBefore s.data.toList y.key := by
  rw [bytesLess_eq, Lib.toList_data, Lib.toList_data]
  show decide (s.data.toList < y.key) = _
  rw [Bool.eq_iff_iff]
  simp [before_lt]

theorem hplc_ne {R : List Hr} {s : ByteArray} (h : hplc R s = none) : ∀ e ∈ R, (e.n.toList == s.toList) = false := by
  unfold hplc at h
  rw [List.findIdx?_eq_none_iff] at h
  exact h
theorem before_less (s : ByteArray) (y : Hr) (hne : (y.n.toList == s.toList) = false) : bytesBefore s.data.toList y.key = !Op.bytesLess y.n.toList s.toList := by
  have hne' : y.key ≠ s.data.toList := by
    intro e
    rw [tl_hkey, e, ← Lib.toList_data] at hne
    simp at hne
  rw [bytesLess_eq, tl_hkey, Lib.toList_data, Bool.eq_iff_iff]
  simp only [before_lt, Bool.not_eq_true', decide_eq_false_iff_not]
  constructor
  · intro h1 h2
    exact lt_irr _ (lt_tr h1 h2)
  · intro h1
    exact lt_tot h1 hne'
/-- between two rounds of Add -/
structure Ad (N : Hr) (R A : List Hr) (put : Bool) (k : Nat) : Prop where
  yes : put = true → A ++ R.drop k = insR N R
  no : put = false → A = R.take k ∧ ∀ j (hj : j < R.length), j < k → bytesBefore N.key R[j].key = false
  len : A.length ≤ k + 1
theorem Ad.start (N : Hr) (R : List Hr) : Ad N R [] false 0 := ⟨by simp, fun _ => ⟨rfl, fun j _ h => absurd h (Nat.not_lt_zero _)⟩, by simp⟩
theorem Ad.go1 {N : Hr} {R A : List Hr} {k : Nat} (h : Ad N R A true k) (hk : k < R.length) {y : Hr} (hy : y = R[k]) (hl : A.length ≤ k + 1) : Ad N R (A ++ [y]) true (k + 1) := by
  refine ⟨fun _ => ?_, fun e => by simp at e, by simp; omega⟩
  rw [← h.yes rfl, List.drop_eq_getElem_cons hk, hy]
  simp
theorem Ad.go0 {N : Hr} {R A : List Hr} {k : Nat} (h : Ad N R A false k) (hk : k < R.length) {y : Hr} (hy : y = R[k]) (hb : bytesBefore N.key y.key = false) : Ad N R (A ++ [y]) false (k + 1) := by
  obtain ⟨rfl, h2⟩ := h.no rfl
  refine ⟨fun e => by simp at e, fun _ => ⟨?_, fun j hj hjk => ?_⟩, by simp; omega⟩
  · rw [List.take_succ_eq_append_getElem hk, hy]
  · by_cases hjk2 : j < k
    · exact h2 j hj hjk2
    · obtain rfl : j = k := by omega
      rw [← hy]; exact hb
theorem Ad.turn {N : Hr} {R A : List Hr} {k : Nat} (h : Ad N R A false k) (hk : k < R.length) {y : Hr} (hy : y = R[k]) (hb : bytesBefore N.key y.key = true) : Ad N R (A ++ [N] ++ [y]) true (k + 1) := by
  obtain ⟨rfl, h2⟩ := h.no rfl
  refine ⟨fun _ => ?_, fun e => by simp at e, by simp; omega⟩
  rw [← insR_split hk h2 (by rw [← hy]; exact hb), List.drop_eq_getElem_cons hk, hy]
  simp
theorem Ad.end1 {N : Hr} {R A : List Hr} (h : Ad N R A true R.length) : A = insR N R := by
  have := h.yes rfl
  simpa using this
theorem Ad.end0 {N : Hr} {R A : List Hr} (h : Ad N R A false R.length) : A ++ [N] = insR N R := by
  obtain ⟨rfl, h2⟩ := h.no rfl
  rw [List.take_length]
  exact insR_end fun j hj => h2 j hj hj
theorem hrsC_snoc (L : List Hr) (y : Hr) : hrsC (L ++ [y]) = hrsC L ++ hrC y := flat_snoc L y
theorem info_row28 : (Try.prog.info? 110).map (fun i => (i.zero, i.size, i.bytes)) = some (some (.agg #[.string ⟨#[]⟩, .int .u64 0, .int .i64 0, .int .i64 0]), 4, 40) := by kernel_rfl

set_option maxRecDepth 100000 in
set_option maxHeartbeats 4000000 in
theorem rtadd_ok (base g : Nat) (v : Value) (n : Int) (x : Ls) (s : ByteArray) (w : World) (h : RTab base w g v n x) (hl : x.R.length ≤ 100000) (hbase : base ≤ w.heap.size) (he : s.toList.isEmpty = false) (hp : hplc x.R s = none) :
    Calls Try.prog 41 #[ptr g, .string s] w fun e w' => ∃ v', e = .returned (.int .i64 0) ∧ RTab base w' g v' n { x with R := putR x.R ⟨s, 0, 0, x.now⟩ } ∧ Fr [g] w w' ∧ (∀ q, v'.ownBlock = some q → w.heap.size ≤ q ∧ q < w'.heap.size) := by
  obtain ⟨i0, hi, hz0, hz1, hz2⟩ := info_parts info_row28
  have HT : Hid (hplcT x.R s = .tuple #[.int .i64 0, .int .i64 6]) := Lib.hid (by unfold hplcT; rw [hp])
  have HNE := Lib.hid (hplc_ne hp)
  have HPN : Hid (putR x.R ⟨s, 0, 0, x.now⟩ = insR ⟨s, 0, 0, x.now⟩ x.R) := Lib.hid (putR_new (hplc_none hp))
  obtain ⟨p, c, rfl, hcc, hm⟩ := h.shape
  have hml : maxLen ≤ 9223372036854775807 := by decide
  have H := Lib.hid h
  have HL := Lib.hid hl
  have HBS := Lib.hid hbase
  rw [HPN.out]
  clear h hp hbase HPN
  go_enter Try.func41, Try.ntmps41
  go_wp2_with (first
    | (go_at_call 67; refine (rrow_any base g _ _ _ s _ H.out).mono ?_; rw [HT.out]; rintro e w' ⟨rfl, rfl⟩)
    | (go_at_call 68; refine (rtnone base g _ _ _ _ H.out).mono ?_; rintro e w' ⟨rfl, rfl⟩))
  go_loopw [7, 8, 9] (fun o pt i wr => ∃ (k : Nat) (A : List Hr) (put : Bool), k ≤ x.R.length ∧ i = .int .i64 (k : Int) ∧ pt = .bool put ∧ A.length ≤ k + 1 ∧ Hid (Ad ⟨s, 0, 0, x.now⟩ x.R A put k) ∧ Hid (wr.ownsRow w.heap.size 110 4 o A.length (hrsC A)) ∧ Hid (Below w.heap.size w wr)) (fun _ _ i _ => x.R.length - (intOf i).toNat)
  case atStart => exact ⟨0, [], false, Nat.zero_le _, rfl, rfl, by simp, Lib.hid (Ad.start _ _), Lib.hid (World.ownsRow_nil _ _ _ _), Lib.hid (Below.refl _ _)⟩
  case round =>
    obtain ⟨k, A, put, hk, rfl, rfl, hAl, HA, HO, HB⟩ := hrel
    have HR := Lib.hid (H.out.kept HB.out)
    have c4 := HR.out.blk.cell (j := 4) rfl
    have c3 := HR.out.blk.cell (j := 3) rfl
    by_cases hlt : k < x.R.length
    · have i1 : (k : Int) < (x.R.length : Int) := by omega
      have hk1 : k + 1 ≤ 100000 := by omega
      obtain ⟨q, rfl, hcs⟩ := HR.out.at hlt
      obtain ⟨y, hy⟩ : ∃ y, y = x.R[k] := ⟨_, rfl⟩
      rw [← hy] at hcs
      have e0 : wr.cell? ⟨q, k * 4, none⟩ = some (.string y.n) := hcs 0 _ (by omega) rfl
      have e1 := hcs 1 _ (by omega) rfl
      have e2 := hcs 2 _ (by omega) rfl
      have e3 := hcs 3 _ (by omega) rfl
      have HSZ := Lib.hid HB.out.size
      have HCS := Lib.hid hcs
      cases put with
      | true =>
        have HA2 : Hid (Ad ⟨s, 0, 0, x.now⟩ x.R (A ++ [y]) true (k + 1)) := Lib.hid (HA.out.go1 hlt hy hAl)
        clear hcs hy
        go_wp2_with (at_builtin; go_loud (refine wpList_app5 rfl _ _ 105 105 rfl w.heap.size 110 i0 (.agg #[.string ⟨#[]⟩, .int .u64 0, .int .i64 0, .int .i64 0]) 4 40 Try.underlying105 hi hz0 hz1 hz2 rfl _ A.length (hrsC A) rfl (own_fr HO.out (Fr.of_below (below_alloc wr _) []) (fun _ _ => by simp)) _ 1 _ rfl (src_block Try.underlying105 _ _ #[_, _, _, _] (heap_alloc_new wr _) rfl (hrC_one y)) (by unfold maxLen; omega) (by omega) (by have := HSZ.out; simp; omega) ?_; intro o4 w4 ho4 hg4 hn4; have HO4 := Lib.hid ho4; have HB4 : Hid (Below w.heap.size w w4) := Lib.hid ((below_and HB.out (below_alloc wr _)).trans ((Fr.of_grown hg4).below (by intro y hy; exact own_lo HO.out (Option.mem_toList.1 hy)) (by have := HSZ.out; simp; omega))); clear ho4 hg4 hn4))
        go_roundw
        case rel => exact ⟨k + 1, A ++ [y], true, hlt, by go_num, rfl, by simp; omega, HA2, Lib.hid (by rw [hrsC_snoc, List.length_append]; exact HO4.out), HB4⟩
        case measure => simp [intOf]; omega
      | false =>
        have hne := HNE.out y (by rw [hy]; exact List.getElem_mem hlt)
        have hbf := before_less s y hne
        cases hq : !Op.bytesLess y.n.toList s.toList
        · have HA2 : Hid (Ad ⟨s, 0, 0, x.now⟩ x.R (A ++ [y]) false (k + 1)) := Lib.hid (HA.out.go0 hlt hy (hbf.trans hq))
          have HAL2 : A.length ≤ k := by have := (HA.out.no rfl).1; rw [this]; simp; omega
          have hq2 : Op.bytesLess y.n.toList s.toList = true := by simpa using hq
          clear hcs hy hq hbf
          go_wp2_with (at_builtin; go_loud (refine wpList_app5 rfl _ _ 105 105 rfl w.heap.size 110 i0 (.agg #[.string ⟨#[]⟩, .int .u64 0, .int .i64 0, .int .i64 0]) 4 40 Try.underlying105 hi hz0 hz1 hz2 rfl _ A.length (hrsC A) rfl (own_fr HO.out (Fr.of_below (below_alloc wr _) []) (fun _ _ => by simp)) _ 1 _ rfl (src_block Try.underlying105 _ _ #[_, _, _, _] (heap_alloc_new wr _) rfl (hrC_one y)) (by unfold maxLen; omega) (by omega) (by have := HSZ.out; simp; omega) ?_; intro o4 w4 ho4 hg4 hn4; have HO4 := Lib.hid ho4; have HB4 : Hid (Below w.heap.size w w4) := Lib.hid ((below_and HB.out (below_alloc wr _)).trans ((Fr.of_grown hg4).below (by intro y hy; exact own_lo HO.out (Option.mem_toList.1 hy)) (by have := HSZ.out; simp; omega))); clear ho4 hg4 hn4))
          go_roundw
          case rel => exact ⟨k + 1, A ++ [y], false, hlt, by go_num, rfl, by simp; omega, HA2, Lib.hid (by rw [hrsC_snoc, List.length_append]; exact HO4.out), HB4⟩
          case measure => simp [intOf]; omega
        · have HA2 : Hid (Ad ⟨s, 0, 0, x.now⟩ x.R (A ++ [⟨s, 0, 0, x.now⟩] ++ [y]) true (k + 1)) := Lib.hid (HA.out.turn hlt hy (hbf.trans hq))
          have HAL2 : A.length ≤ k := by have := (HA.out.no rfl).1; rw [this]; simp; omega
          have HYY := Lib.hid hy
          have hq2 : Op.bytesLess y.n.toList s.toList = false := by simpa using hq
          clear hcs hy hq hbf
          go_wp2_with (at_builtin; first
            | (refine wpList_app5 rfl _ _ 105 105 rfl w.heap.size 110 i0 (.agg #[.string ⟨#[]⟩, .int .u64 0, .int .i64 0, .int .i64 0]) 4 40 Try.underlying105 hi hz0 hz1 hz2 rfl _ (A.length + 1) (hrsC A ++ hrC ⟨s, 0, 0, x.now⟩) rfl (own_fr HO4.out (Fr.of_below (below_alloc w4 _) []) (fun _ _ => by simp)) _ 1 _ rfl (src_block Try.underlying105 _ _ #[_, _, _, _] (heap_alloc_new w4 _) rfl (hrC_one y)) (by unfold maxLen; omega) (by omega) (by have := HSZ4.out; simp; omega) ?_; intro o5 w5 ho5 hg5 hn5; have HO5 := Lib.hid ho5; have HB5 : Hid (Below w.heap.size w w5) := Lib.hid ((below_and HB4.out (below_alloc w4 _)).trans ((Fr.of_grown hg5).below (by intro y hy; exact own_lo HO4.out (Option.mem_toList.1 hy)) (by have := HSZ4.out; simp; omega))); clear ho5 hg5 hn5)
            | go_loud (refine wpList_app5 rfl _ _ 105 105 rfl w.heap.size 110 i0 (.agg #[.string ⟨#[]⟩, .int .u64 0, .int .i64 0, .int .i64 0]) 4 40 Try.underlying105 hi hz0 hz1 hz2 rfl _ A.length (hrsC A) rfl (own_fr HO.out (Fr.of_below (below_alloc wr _) []) (fun _ _ => by simp)) _ 1 _ rfl (src_block Try.underlying105 _ _ #[_, _, _, _] (heap_alloc_new wr _) rfl (hrC_one ⟨s, 0, 0, x.now⟩)) (by unfold maxLen; omega) (by omega) (by have := HSZ.out; simp; omega) ?_; intro o4 w4 ho4 hg4 hn4; have HO4 := Lib.hid ho4; have hB4 : Below w.heap.size w w4 := ((below_and HB.out (below_alloc wr _)).trans ((Fr.of_grown hg4).below (by intro y hy; exact own_lo HO.out (Option.mem_toList.1 hy)) (by have := HSZ.out; simp; omega))); have HB4 := Lib.hid hB4; have HSZ4 := Lib.hid hB4.size; have hR4 := H.out.kept hB4; have c44 := hR4.blk.cell (j := 4) rfl; obtain ⟨q4, eq4, hcs4⟩ := hR4.at hlt; simp only [Option.some.injEq, Addr.mk.injEq, and_true] at eq4; subst eq4; rw [← HYY.out] at hcs4; have e04 : w4.cell? ⟨q, k * 4, none⟩ = some (.string y.n) := hcs4 0 _ (by omega) rfl; have e14 := hcs4 1 _ (by omega) rfl; have e24 := hcs4 2 _ (by omega) rfl; have e34 := hcs4 3 _ (by omega) rfl; clear ho4 hg4 hn4 hB4 hR4 hcs4))
          go_roundw
          case rel => exact ⟨k + 1, A ++ [⟨s, 0, 0, x.now⟩] ++ [y], true, hlt, by go_num, rfl, by simp; omega, HA2, Lib.hid (by rw [hrsC_snoc, hrsC_snoc, List.length_append, List.length_append]; exact HO5.out), HB5⟩
          case measure => simp [intOf]; omega
    · obtain rfl : k = x.R.length := by omega
      have f4 := HR.out.blk.free 4
      have hk1 : x.R.length + 1 ≤ 100001 := by omega
      have HSZ := Lib.hid HB.out.size
      have HGL : Hid (g < w.heap.size) := Lib.hid H.out.blk.lt
      cases put with
      | true =>
        have HE : Hid (A = insR ⟨s, 0, 0, x.now⟩ x.R) := Lib.hid HA.out.end1
        obtain ⟨p7, c7, rfl, hc7, hm7⟩ := own_slice HO.out
        go_wp2
        go_ret
        refine ⟨_, rfl, ⟨HR.out.blk.set 4 _, ?_, ?_⟩, ?_, fun q hq => ⟨own_lo HO.out hq, ?_⟩⟩
        · rw [← HE.out]
          exact own_mono (own_other HO.out (fun e => by have := own_lo HO.out e; have := HGL.out; simp at *; omega) _) HBS.out
        · intro e
          have := own_lo HO.out e
          have := HGL.out
          omega
        · exact (Fr.of_below HB.out _).set (p := ⟨g, 4, none⟩) (by simp) _
        · have := own_hi HO.out hq
          simpa [World.setCell] using this
      | false =>
        have HE : Hid (A ++ [⟨s, 0, 0, x.now⟩] = insR ⟨s, 0, 0, x.now⟩ x.R) := Lib.hid HA.out.end0
        go_wp2_with (at_builtin; go_loud (refine wpList_app5 rfl _ _ 105 105 rfl w.heap.size 110 i0 (.agg #[.string ⟨#[]⟩, .int .u64 0, .int .i64 0, .int .i64 0]) 4 40 Try.underlying105 hi hz0 hz1 hz2 rfl _ A.length (hrsC A) rfl (own_fr HO.out (Fr.of_below (below_alloc wr _) []) (fun _ _ => by simp)) _ 1 _ rfl (src_block Try.underlying105 _ _ #[_, _, _, _] (heap_alloc_new wr _) rfl (hrC_one ⟨s, 0, 0, x.now⟩)) (by unfold maxLen; omega) (by omega) (by have := HSZ.out; simp; omega) ?_; intro o4 w4 ho4 hg4 hn4; obtain ⟨p7, c7, rfl, hc7, hm7⟩ := own_slice ho4; have HO4 := Lib.hid ho4; have hB4 : Below w.heap.size w w4 := ((below_and HB.out (below_alloc wr _)).trans ((Fr.of_grown hg4).below (by intro y hy; exact own_lo HO.out (Option.mem_toList.1 hy)) (by have := HSZ.out; simp; omega))); have HB4 := Lib.hid hB4; have hR4 := H.out.kept hB4; have HR4 := Lib.hid hR4; have c44 := hR4.blk.cell (j := 4) rfl; have f44 := hR4.blk.free 4; clear ho4 hg4 hn4 hB4 hR4))
        go_ret
        refine ⟨rfl, _, ⟨HR4.out.blk.set 4 _, ?_, ?_⟩, ?_, fun q hq => ⟨own_lo HO4.out hq, ?_⟩⟩
        · rw [← HE.out, hrsC_snoc, List.length_append]
          exact own_mono (own_other HO4.out (fun e => by have := own_lo HO4.out e; have := HGL.out; simp at *; omega) _) HBS.out
        · intro e
          have := own_lo HO4.out e
          have := HGL.out
          omega
        · exact (Fr.of_below HB4.out _).set (p := ⟨g, 4, none⟩) (by simp) _
        · have := own_hi HO4.out hq
          simpa [World.setCell] using this
end Go.Proofs.Ytmgcigohfccgeaa
