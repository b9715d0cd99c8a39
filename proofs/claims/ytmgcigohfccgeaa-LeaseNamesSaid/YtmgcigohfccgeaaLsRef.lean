/- The document's table of leases: row, Echo, Left, Sure, Tick, Now, Lease, Names. -/
import Derived.Test.YtmgcigohfccgeaaLsHeard
import Derived.Test.YtmgcigohfccgeaaRWait
import Derived.Test.YtmgcigohfccgeaaPast2
import Derived.Outline
namespace Go.Proofs.Ytmgcigohfccgeaa
open Go.RowKit

theorem hrC_len (e : Hr) : (hrC e).length = 4 := rfl
theorem hrC_one (e : Hr) : ∀ u ∈ hrC e, u.oneCell' = true := by
  intro u hx
  simp only [List.mem_cons, List.not_mem_nil, or_false] at hx
  rcases hx with rfl | rfl | rfl | rfl <;> rfl
/-- block g is a table of the document's, v its rows -/
structure RTab (base : Nat) (w : World) (g : Nat) (v : Value) (n : Int) (x : Ls) : Prop where
  blk : Blk w g [.bool true, .int .i64 n, .int .i64 x.wait, .int .i64 x.now, v] 107
  row : w.ownsRow base 110 4 v x.R.length (hrsC x.R)
  ne : v.ownBlock ≠ some g
theorem RTab.kept {base : Nat} {w w' : World} {g : Nat} {v : Value} {n : Int} {x : Ls} (h : RTab base w g v n x) (hb : Below w.heap.size w w') : RTab base w' g v n x := ⟨h.blk.kept hb, own_keep h.row hb, h.ne⟩
theorem RTab.fr {S : List Nat} {base : Nat} {w w' : World} {g : Nat} {v : Value} {n : Int} {x : Ls} (h : RTab base w g v n x) (hf : Fr S w w') (hg : g ∉ S) (hv : ∀ k, v.ownBlock = some k → k ∉ S) : RTab base w' g v n x := ⟨h.blk.fr hf hg, own_fr h.row hf hv, h.ne⟩
theorem RTab.shape {base : Nat} {w : World} {g : Nat} {v : Value} {n : Int} {x : Ls} (h : RTab base w g v n x) : ∃ p c, v = .slice p x.R.length c ∧ x.R.length ≤ c ∧ c ≤ maxLen := own_slice h.row
theorem hrs_cell {base : Nat} {w : World} {v : Value} {R : List Hr} (h : w.ownsRow base 110 4 v R.length (hrsC R)) {k : Nat} (hk : k < R.length) :
    ∃ q c, v = .slice (some ⟨q, 0, none⟩) R.length c ∧ ∀ j u, j < 4 → (hrC R[k])[j]? = some u → w.cell? ⟨q, k * 4 + j, none⟩ = some u := by
  obtain ⟨q, c', rfl, -, -, -⟩ := own_block h (by omega)
  exact ⟨q, c', rfl, fun j u hj hu => own_cell h (by unfold hrsC; rw [flat_at hrC_len R k hk j hj]; exact hu)⟩
theorem RTab.at {base : Nat} {w : World} {g : Nat} {p : Option Addr} {m c : Nat} {n : Int} {x : Ls} (h : RTab base w g (.slice p m c) n x) {k : Nat} (hk : k < x.R.length) :
    ∃ q, p = some ⟨q, 0, none⟩ ∧ ∀ j u, j < 4 → (hrC x.R[k])[j]? = some u → w.cell? ⟨q, k * 4 + j, none⟩ = some u := by
  obtain ⟨q, c', e, h2⟩ := hrs_cell h.row hk
  simp only [Value.slice.injEq] at e
  obtain ⟨rfl, -, -⟩ := e
  exact ⟨q, rfl, h2⟩

def hplc (R : List Hr) (s : ByteArray) : Option Nat := R.findIdx? fun e => e.n.toList == s.toList
theorem tl_hkey (e : Hr) : e.n.toList = e.key := by rw [Lib.toList_data]; rfl
theorem hplc_some {R : List Hr} {s : ByteArray} {k : Nat} (h : hplc R s = some k) : ∃ hk : k < R.length, R[k].key = s.data.toList ∧ hfd R s.data.toList = some R[k] := by
  unfold hplc at h
  rw [List.findIdx?_eq_some_iff_getElem] at h
  obtain ⟨hk, h1, h2⟩ := h
  have h1' : R[k].n.toList = s.toList := by simpa using h1
  have h1k : R[k].key = s.data.toList := by rw [← tl_hkey, h1', Lib.toList_data]
  refine ⟨hk, h1k, ?_⟩
  unfold hfd
  rw [List.find?_eq_some_iff_getElem]
  refine ⟨by rw [h1k]; simp, k, hk, rfl, fun j hj => ?_⟩
  have h3 := h2 j hj
  rw [← tl_hkey, ← Lib.toList_data]
  simpa using h3
theorem hplc_none {R : List Hr} {s : ByteArray} (h : hplc R s = none) : hfd R s.data.toList = none := by
  unfold hplc at h
  rw [List.findIdx?_eq_none_iff] at h
  unfold hfd
  rw [List.find?_eq_none]
  intro e he
  have h1 := h e he
  rw [← tl_hkey, ← Lib.toList_data]
  simpa using h1
/-- what row tells -/
def hplcT (R : List Hr) (s : ByteArray) : Value := match hplc R s with
  | some k => .tuple #[.int .i64 (k : Int), .int .i64 0]
  | none => .tuple #[.int .i64 0, .int .i64 6]

set_option maxRecDepth 100000 in
set_option maxHeartbeats 1000000 in
theorem rtnone (base g : Nat) (v : Value) (n : Int) (x : Ls) (w : World) (h : RTab base w g v n x) :
    Calls Try.prog 68 #[ptr g] w fun e w' => e = .returned (.bool false) ∧ w = w' := by
  have c0 := h.blk.cell (j := 0) rfl
  clear h
  go_enter Try.func68, Try.ntmps68
  go_wp2
  go_ret
  exact ⟨rfl, rfl⟩
theorem ret_t0 {a b e : Int} (h : a = b) : Ending.returned (.tuple #[.int .i64 a, .int .i64 e]) = Ending.returned (.tuple #[.int .i64 b, .int .i64 e]) := by rw [h]
theorem ret_val {a b : Value} (h : a = b) : Ending.returned a = Ending.returned b := by rw [h]
set_option maxRecDepth 100000 in
set_option maxHeartbeats 2000000 in
theorem rrow_any (base g : Nat) (v : Value) (n : Int) (x : Ls) (s : ByteArray) (w : World) (h : RTab base w g v n x) :
    Calls Try.prog 67 #[ptr g, .string s] w fun e w' => e = .returned (hplcT x.R s) ∧ w = w' := by
  obtain ⟨p, c, rfl, hc, hm⟩ := h.shape
  have hml : maxLen ≤ 9223372036854775807 := by decide
  have H := Lib.hid h
  have c4 := h.blk.cell (j := 4) rfl
  clear h
  go_enter Try.func67, Try.ntmps67
  go_wp2_with (go_at_call 68; refine (rtnone base g _ _ _ _ H.out).mono ?_; rintro e w' ⟨rfl, rfl⟩)
  go_loopw [6] (fun i wr => ∃ k : Nat, k ≤ x.R.length ∧ i = .int .i64 (k : Int) ∧ Hid (w = wr) ∧ Hid (∀ j (hj : j < x.R.length), j < k → (x.R[j].n.toList == s.toList) = false)) (fun i _ => x.R.length - (intOf i).toNat)
  case atStart => exact ⟨0, Nat.zero_le _, rfl, Lib.hid rfl, Lib.hid (fun j _ hj => absurd hj (Nat.not_lt_zero _))⟩
  case round =>
    obtain ⟨k, hk, rfl, HWW, HN⟩ := hrel
    obtain rfl := HWW.out
    by_cases hlt : k < x.R.length
    · obtain ⟨q, rfl, hcs⟩ := H.out.at hlt
      obtain ⟨y, hy⟩ : ∃ y, y = x.R[k] := ⟨_, rfl⟩
      rw [← hy] at hcs
      have e0 : w.cell? ⟨q, k * 4, none⟩ = some (.string y.n) := hcs 0 _ (by omega) rfl
      have i1 : (k : Int) < (x.R.length : Int) := by omega
      cases hq : (y.n.toList == s.toList)
      · have HN2 : Hid (∀ j (hj : j < x.R.length), j < k + 1 → (x.R[j].n.toList == s.toList) = false) := Lib.hid (fun j hj hjk => by
          by_cases hjk2 : j < k
          · exact HN.out j hj hjk2
          · obtain rfl : j = k := by omega
            rw [← hy]; exact hq)
        clear hcs hy
        go_wp2
        go_roundw
        case rel => exact ⟨k + 1, hlt, by go_num, Lib.hid trivial, HN2⟩
        case measure => simp [intOf]; omega
      · have HP : Hid (hplcT x.R s = .tuple #[.int .i64 (k : Int), .int .i64 0]) := Lib.hid (by
          have : hplc x.R s = some k := by
            unfold hplc
            rw [List.findIdx?_eq_some_iff_getElem]
            exact ⟨hlt, by rw [← hy]; exact hq, fun j hj => by rw [HN.out j (by omega) hj]; decide⟩
          unfold hplcT
          rw [this])
        clear hcs hy
        go_wp2
        go_ret2
        exact ⟨ret_val HP.out.symm, rfl⟩
    · obtain rfl : k = x.R.length := by omega
      have HP : Hid (hplcT x.R s = .tuple #[.int .i64 0, .int .i64 6]) := Lib.hid (by
        have : hplc x.R s = none := by
          unfold hplc
          rw [List.findIdx?_eq_none_iff]
          intro e he
          obtain ⟨j, hj, rfl⟩ := List.mem_iff_getElem.1 he
          exact HN.out j hj hj
        unfold hplcT
        rw [this])
      go_wp2
      go_ret2
      exact ⟨ret_val HP.out.symm, rfl⟩

/-! Tick, Now, Lease -/
set_option maxRecDepth 100000 in
set_option maxHeartbeats 1000000 in
theorem rttick_all (base k g : Nat) (v : Value) (n : Int) (x : Ls) (d : Int) (w : World) (h : RTab base w g v n x) (hI : LsI k x) (hk : k ≤ 100000) :
    Calls Try.prog 43 #[ptr g, .int .i64 d] w fun e w' => e = .returned (.int .i64 (lsTick x d).1) ∧ RTab base w' g v n (lsTick x d).2 ∧ Fr [g] w w' := by
  have H := Lib.hid h
  have c3 := h.blk.cell (j := 3) rfl
  have f3 := h.blk.free 3
  have hn := hI.now
  unfold lsTick
  by_cases hd : d < 0 ∨ 1048576 < d
  · rw [if_pos hd]
    clear h
    by_cases h1 : d < 0
    · clear hd
      go_enter Try.func43, Try.ntmps43
      go_wp2_with (go_at_call 68; refine (rtnone base g _ _ _ _ H.out).mono ?_; rintro e w' ⟨rfl, rfl⟩)
      go_ret
      exact ⟨rfl, H.out, Fr.refl _ _⟩
    · have h2 : 1048576 < d := by omega
      clear hd
      go_enter Try.func43, Try.ntmps43
      go_wp2_with (go_at_call 68; refine (rtnone base g _ _ _ _ H.out).mono ?_; rintro e w' ⟨rfl, rfl⟩)
      go_ret
      exact ⟨rfl, H.out, Fr.refl _ _⟩
  · rw [if_neg hd]
    have hd1 : ¬ d < 0 := by omega
    have hd2 : ¬ 1048576 < d := by omega
    obtain ⟨nw, hnw⟩ : ∃ nw, nw = x.now := ⟨_, rfl⟩
    rw [← hnw] at c3 hn
    have HNW := Lib.hid hnw
    clear h hd hnw
    go_enter Try.func43, Try.ntmps43
    go_wp2_with (go_at_call 68; refine (rtnone base g _ _ _ _ H.out).mono ?_; rintro e w' ⟨rfl, rfl⟩)
    go_ret
    rw [HNW.out]
    exact ⟨rfl, ⟨H.out.blk.set 3 _, own_other H.out.row (fun e => H.out.ne e) _, H.out.ne⟩, (Fr.refl _ _).set (p := ⟨g, 3, none⟩) (by simp) _⟩
set_option maxRecDepth 100000 in
set_option maxHeartbeats 1000000 in
theorem rtnow (base g : Nat) (v : Value) (n : Int) (x : Ls) (w : World) (h : RTab base w g v n x) :
    Calls Try.prog 48 #[ptr g] w fun e w' => e = .returned (.int .i64 x.now) ∧ w = w' := by
  have H := Lib.hid h
  have c3 := h.blk.cell (j := 3) rfl
  clear h
  go_enter Try.func48, Try.ntmps48
  go_wp2_with (go_at_call 68; refine (rtnone base g _ _ _ _ H.out).mono ?_; rintro e w' ⟨rfl, rfl⟩)
  go_ret
  exact ⟨rfl, rfl⟩
set_option maxRecDepth 100000 in
set_option maxHeartbeats 1000000 in
theorem rtlease (base g : Nat) (v : Value) (n : Int) (x : Ls) (w : World) (h : RTab base w g v n x) :
    Calls Try.prog 49 #[ptr g] w fun e w' => e = .returned (.int .i64 n) ∧ w = w' := by
  have H := Lib.hid h
  have c3 := h.blk.cell (j := 1) rfl
  clear h
  go_enter Try.func49, Try.ntmps49
  go_wp2_with (go_at_call 68; refine (rtnone base g _ _ _ _ H.out).mono ?_; rintro e w' ⟨rfl, rfl⟩)
  go_ret
  exact ⟨rfl, rfl⟩

/-! Echo, Left, Sure -/
set_option maxRecDepth 100000 in
set_option maxHeartbeats 2000000 in
theorem rtecho (base g : Nat) (v : Value) (n : Int) (x : Ls) (s : ByteArray) (w : World) (h : RTab base w g v n x) :
    Calls Try.prog 69 #[ptr g, .string s] w fun e w' => e = .returned (.tuple #[.int .u64 (lsEcho x s).1, .int .i64 (lsEcho x s).2.1, .int .i64 (lsEcho x s).2.2]) ∧ Below w.heap.size w w' := by
  have H := Lib.hid h
  unfold lsEcho
  cases hp : hplc x.R s with
  | none =>
    rw [hplc_none hp]
    have HT : Hid (hplcT x.R s = .tuple #[.int .i64 0, .int .i64 6]) := Lib.hid (by unfold hplcT; rw [hp])
    clear h hp
    go_enter Try.func69, Try.ntmps69
    go_wp2_with (go_at_call 67; refine (rrow_any base g _ _ _ s _ H.out).mono ?_; rw [HT.out]; rintro e w' ⟨rfl, rfl⟩)
    go_ret3
    exact ⟨rfl, Below.refl _ _⟩
  | some k =>
    obtain ⟨hk, h1, h2⟩ := hplc_some hp
    rw [h2]
    have HT : Hid (hplcT x.R s = .tuple #[.int .i64 (k : Int), .int .i64 0]) := Lib.hid (by unfold hplcT; rw [hp])
    obtain ⟨p, c, rfl, hc, hm⟩ := h.shape
    have hml : maxLen ≤ 9223372036854775807 := by decide
    have c4 := h.blk.cell (j := 4) rfl
    obtain ⟨q, rfl, hcs⟩ := h.at hk
    obtain ⟨y, hy⟩ : ∃ y, y = x.R[k] := ⟨_, rfl⟩
    rw [← hy] at hcs ⊢
    have e1 := hcs 1 _ (by omega) rfl
    have e2 := hcs 2 _ (by omega) rfl
    have i1 : (k : Int) < (x.R.length : Int) := by omega
    have i0 : ¬ ((k : Int) < 0) := by omega
    clear h hp hcs hy h1 h2
    go_enter Try.func69, Try.ntmps69
    go_wp2_with (first | (go_at_call 67; refine (rrow_any base g _ _ _ s _ H.out).mono ?_; rw [HT.out]; rintro e w' ⟨rfl, rfl⟩) | go_quiet (fail))
    go_ret3
    exact ⟨rfl, Below.drewN' (Below.refl _ _) _⟩
set_option maxRecDepth 100000 in
set_option maxHeartbeats 2000000 in
theorem rtleft (base k0 g : Nat) (v : Value) (n : Int) (x : Ls) (s : ByteArray) (w : World) (h : RTab base w g v n x) (hI : LsI k0 x) (hk0 : k0 ≤ 100000) :
    Calls Try.prog 71 #[ptr g, .string s] w fun e w' => e = .returned (.tuple #[.int .i64 (lsLeft x s).1, .int .i64 (lsLeft x s).2]) ∧ Below w.heap.size w w' := by
  have H := Lib.hid h
  unfold lsLeft
  cases hp : hplc x.R s with
  | none =>
    rw [hplc_none hp]
    have HT : Hid (hplcT x.R s = .tuple #[.int .i64 0, .int .i64 6]) := Lib.hid (by unfold hplcT; rw [hp])
    clear h hp
    go_enter Try.func71, Try.ntmps71
    go_wp2_with (go_at_call 67; refine (rrow_any base g _ _ _ s _ H.out).mono ?_; rw [HT.out]; rintro e w' ⟨rfl, rfl⟩)
    go_ret2
    exact ⟨rfl, Below.refl _ _⟩
  | some k =>
    obtain ⟨hk, h1, h2⟩ := hplc_some hp
    rw [h2]
    have HT : Hid (hplcT x.R s = .tuple #[.int .i64 (k : Int), .int .i64 0]) := Lib.hid (by unfold hplcT; rw [hp])
    obtain ⟨p, c, rfl, hc, hm⟩ := h.shape
    have hml : maxLen ≤ 9223372036854775807 := by decide
    have c2 := h.blk.cell (j := 2) rfl
    have c3 := h.blk.cell (j := 3) rfl
    have c4 := h.blk.cell (j := 4) rfl
    obtain ⟨q, rfl, hcs⟩ := h.at hk
    obtain ⟨y, hy⟩ : ∃ y, y = x.R[k] := ⟨_, rfl⟩
    have hs := hI.seen x.R[k] (List.getElem_mem hk)
    have hn := hI.now
    have hw := hI.wait
    rw [← hy] at hcs hs ⊢
    have e3 := hcs 3 _ (by omega) rfl
    have i1 : (k : Int) < (x.R.length : Int) := by omega
    have i0 : ¬ ((k : Int) < 0) := by omega
    have HL : Hid (lsLeftOf x y = max 0 (y.a + x.wait - x.now)) := Lib.hid rfl
    simp only [] at *
    rw [HL.out]
    generalize y.a = ya at *
    generalize x.wait = xw at *
    generalize x.now = xn at *
    clear h hp hcs hy h1 h2 HL hI
    go_enter Try.func71, Try.ntmps71
    go_wp2_with (first | (go_at_call 67; refine (rrow_any base g _ _ _ s _ H.out).mono ?_; rw [HT.out]; rintro e w' ⟨rfl, rfl⟩) | go_quiet (fail))
    all_goals go_ret2
    all_goals exact ⟨ret_t0 (by omega), Below.drewN' (Below.refl _ _) _⟩
end Go.Proofs.Ytmgcigohfccgeaa
