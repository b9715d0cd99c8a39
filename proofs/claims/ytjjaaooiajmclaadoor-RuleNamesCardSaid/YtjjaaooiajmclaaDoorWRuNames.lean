/- RuleNames, walked (written by genrnames11.py). -/
import Derived.Test.YtjjaaooiajmclaaDoorRuLawP
import Derived.Test.YtjjaaooiajmclaaDoorRuAttrs
namespace Go.Proofs.YtjjaaooiajmclaaDoor.Ru
open Go.RowKit Go.Proofs.YtjjaaooiajmclaaDoor

def coL : List Nd := [⟨4, [99, 111, 114, 101, 115], [], 8, -1, -1⟩]
def neL : List Nd := [⟨3, [97], [98], 0, -1, -1⟩]
theorem itoa8 : Lib.itoa 8 = [56] := by
  have h := (dec_facts 8)
  show Lib.itoa ((8 : Nat) : Int) = _
  rw [Lib.itoa_nonneg, Lib.decDigits, dif_pos (by omega)]
  rfl
theorem co_told : toldA coL = [99, 111, 114, 101, 115, 62, 61, 56] := by
  show toldP coL 1 0 = _
  unfold toldP
  show ltx 4 [99, 111, 114, 101, 115] [] 8 = _
  unfold ltx
  rw [if_neg (by decide), if_neg (by decide), if_neg (by decide), if_pos rfl, itoa8]
  rfl
def coS : List UInt8 := [99, 111, 114, 101, 115, 62, 61, 56]
theorem co_or : orP coS.length (coS.length + 1) 0 ⟨0, [], coS⟩ = .ok (0, ⟨1, coL, []⟩) := by kernel_rfl
theorem co_parse : parseP coS = .ok coL := by
  unfold parseP
  rw [if_neg (by decide), co_or]
  simp only
  rw [if_neg (by decide), co_told, if_neg (by decide)]
theorem ne_parse : parseP [97, 33, 61, 98] = .ok neL := by kernel_rfl
theorem fl0 : parseP [97, 32, 38, 32] = .error (5, 4) := by kernel_rfl
theorem fl1 : parseP [97, 61] = .error (5, 2) := by kernel_rfl
theorem fl2 : parseP [61, 97] = .error (5, 0) := by kernel_rfl
theorem fl3 : parseP [97, 32, 98] = .error (5, 2) := by kernel_rfl
theorem fl4 : parseP [40, 97] = .error (5, 2) := by kernel_rfl
theorem fl5 : parseP [97, 33, 98] = .error (5, 2) := by kernel_rfl
def at1 : List At := [⟨[99, 111, 114, 101, 115], [48, 49, 54]⟩]
def at2 : List At := [⟨[99, 111, 114, 101, 115], [120]⟩]
theorem ho1 : holdsR coL at1 = (true, 0) := by
  unfold holdsR
  rw [if_pos (check_parse co_parse).2.1]
  kernel_rfl
theorem ho2 : holdsR coL at2 = (false, 0) := by
  unfold holdsR
  rw [if_pos (check_parse co_parse).2.1]
  kernel_rfl
theorem ho3 : holdsR coL [] = (false, 0) := by
  unfold holdsR
  rw [if_pos (check_parse co_parse).2.1]
  kernel_rfl
theorem ho4 : holdsR neL [] = (true, 0) := by
  unfold holdsR
  rw [if_pos (check_parse ne_parse).2.1]
  kernel_rfl
theorem ret_cell1 {P : Program} {fn : Func} {R : Ending → World → Prop} {a : Act} {w : World} {p : Tmp} {ty t : TypeId} {g : Nat} {cs : List Value} {d : TypeDesc} (h : fn.results = #[.cell p ty]) (hd : a.defers = [])
    (hp : a.tmps.getD p undef = .pointer (some ⟨g, 0, none⟩)) (hg : Blk w g cs t) (hu : P.underlying ty = some d) (hs : (match d with | .struct _ | .array _ _ => true | _ => false) = true) (hi : (P.info? ty).map (·.size) = some cs.length)
    (hR : R (.returned (.agg cs.toArray)) w) : bodyPost P fn R .ret a w :=
  bodyPost_ret (results_cell_row h a.tmps w g t cs.toArray (0, 0) d hp hg hu hs (by simpa using hi)) hd hR

set_option maxRecDepth 100000 in
set_option maxHeartbeats 1000000 in
theorem fault_no {l : List UInt8} {e1 e2 : Int} (h : parseP l = .error (e1, e2)) (hl : l.length ≤ 1000) (w : World) (he : Env w) :
    Calls Tryd.prog 11 #[.string (bs l)] w fun r w' => r = .returned (.agg #[.int .i64 e1, .int .i64 e2]) ∧ Below w.heap.size w w' := by
  obtain ⟨R, hR⟩ : ∃ R, R = w.heap.size := ⟨_, rfl⟩
  obtain ⟨w1, hw1⟩ : ∃ w1, w1 = w.alloc (.cells #[.int .i64 0, .int .i64 0] 28) := ⟨_, rfl⟩
  have HB1 : Hid (Below w.heap.size w w1) := Lib.hid (by rw [hw1]; exact below_alloc _ _)
  have HX1 : Hid (Blk w1 R [.int .i64 0, .int .i64 0] 28) := Lib.hid (by rw [hw1, hR]; exact Blk.made w [_, _] _)
  have HRW : Hid (w.heap.size ≤ R) := Lib.hid (by omega)
  have HPA : Hid (Calls Tryd.prog 7 #[.string (bs l)] w1 fun r w' => r = .returned (.tuple #[.agg #[.slice none 0 0], .agg #[.int .i64 e1, .int .i64 e2]]) ∧ Below w1.heap.size w1 w') := Lib.hid (parse_no (s := bs l) (e := (e1, e2)) (by rw [bs_data]; exact h) w1 (he.below HB1.out) (by rw [bs_size]; unfold maxLen; omega))
  clear h hl he
  go_enter Tryd.func11, Tryd.ntmps11
  go_upto_region 1 with fail
  rw [← hw1, ← hR]
  clear hw1 hR
  go_upto_region 2 with (go_at_call 7; refine HPA.out.mono ?_; rintro r w2 ⟨rfl, hb⟩; have HB2 := Lib.hid (below_and HB1.out hb); have HX2 := Lib.hid (HX1.out.kept hb); clear hb)
  obtain ⟨X, hX⟩ : ∃ X, X = w2.heap.size := ⟨_, rfl⟩
  have h2 := two_cells w2 (.slice none 0 0) (.int .i64 e1) (.int .i64 e2) 25 28
  obtain ⟨w3, hw3⟩ : ∃ w3, w3 = (w2.alloc (.cells #[.slice none 0 0] 25)).alloc (.cells #[.int .i64 e1, .int .i64 e2] 28) := ⟨_, rfl⟩
  rw [← hw3] at h2 ⊢
  have HB3 := Lib.hid (below_and HB2.out h2.2.2)
  have HX3 := Lib.hid (HX2.out.kept h2.2.2)
  rw [← hX] at h2 ⊢
  have c1 := h2.2.1.cell (j := 0) rfl
  have c2 := h2.2.1.cell (j := 1) rfl
  clear h2 hw3 hX
  have x0 := HX3.out.cell (j := 0) rfl
  have x1 := HX3.out.cell (j := 1) rfl
  have f0 := HX3.out.free 0
  have f1 := HX3.out.free 1
  go_wp2
  refine ret_cell1 rfl rfl rfl ((HX3.out.set 0 (.int .i64 e1)).set 1 (.int .i64 e2)) Tryd.underlying28 rfl size_fault ?_
  exact ⟨rfl, (HB3.out.setCell (by have := HRW.out; simp; omega) _).setCell (by have := HRW.out; simp; omega) _⟩

set_option maxRecDepth 100000 in
set_option maxHeartbeats 1000000 in
theorem lholds_any {l : List UInt8} {L : List Nd} {A : List At} {b : Bool} (h : parseP l = .ok L) (hl : l.length ≤ 1000) (hh : holdsR L A = (b, 0)) (ha : ∀ a ∈ A, a.vl.length ≤ 1000000000000000000) (u : Value) (w : World) (hu : Row w u 2 A.length (rwC atC A)) (he : Env w) :
    Calls Tryd.prog 12 #[.string (bs l), u] w fun r w' => r = .returned (.bool b) ∧ Below w.heap.size w w' := by
  have HE := Lib.hid he
  have HU := Lib.hid hu
  have HPA : Hid (Calls Tryd.prog 7 #[.string (bs l)] w fun r w' => ∃ q d, r = .returned (.tuple #[.agg #[.slice q L.length d], .agg #[.int .i64 0, .int .i64 0]]) ∧ Row w' (.slice q L.length d) 6 L.length (rwC ndC L) ∧ Below w.heap.size w w') := Lib.hid (parse_ok (s := bs l) (by rw [bs_data]; exact h) w he (by rw [bs_size]; unfold maxLen; omega))
  have HHO : Hid (∀ v w1, Row w1 v 6 L.length (rwC ndC L) → Below w.heap.size w w1 → Calls Tryd.prog 19 #[.agg #[v], u] w1 fun r w' => r = .returned (.tuple #[.bool b, .int .i64 0]) ∧ Below w1.heap.size w1 w') := Lib.hid (fun v w1 hv hb => by
    have := holds_any v u L A w1 hv (HU.out.below hb) (fit_of_parse h) ha (HE.out.below hb).1 (HE.out.below hb).2
    rw [hh] at this
    exact this)
  obtain ⟨n, hn⟩ : ∃ n, n = L.length := ⟨_, rfl⟩
  rw [← hn] at HPA HHO
  clear h hl hh ha hu he hn
  cases b
  all_goals
    go_enter Tryd.func12, Tryd.ntmps12
    go_upto_region 2 with (go_at_call 7; refine HPA.out.mono ?_; rintro r w2 ⟨q, d, rfl, hr, hb⟩; have HB2 := Lib.hid hb; have HR2 := Lib.hid hr; clear hb hr)
    obtain ⟨X, hX⟩ : ∃ X, X = w2.heap.size := ⟨_, rfl⟩
    have h2 := two_cells w2 (.slice q n d) (.int .i64 0) (.int .i64 0) 25 28
    obtain ⟨w3, hw3⟩ : ∃ w3, w3 = (w2.alloc (.cells #[.slice q n d] 25)).alloc (.cells #[.int .i64 0, .int .i64 0] 28) := ⟨_, rfl⟩
    rw [← hw3] at h2 ⊢
    have HB3 := Lib.hid (below_and HB2.out h2.2.2)
    have HR3 := Lib.hid (HR2.out.below h2.2.2)
    rw [← hX] at h2 ⊢
    have c0 := h2.1.cell (j := 0) rfl
    clear h2 hw3 hX
    go_wp2_with (go_at_call 19; refine (HHO.out _ _ HR3.out HB3.out).mono ?_; rintro r w4 ⟨rfl, hb⟩; have HB4 := Lib.hid (below_and HB3.out hb); clear hb)
    go_ret
    exact ⟨rfl, HB4.out⟩
theorem at_row (w : World) (x : At) : Row (w.alloc (.cells #[.string (bs x.nm), .string (bs x.vl)] 39)) (.slice (some ⟨w.heap.size, 0, none⟩) 1 1) 2 [x].length (rwC atC [x]) := by
  refine ⟨some ⟨w.heap.size, 0, none⟩, 1, rfl, Nat.le_refl _, by simp [maxLen], by simp [rwC], rwC_one atC_one [x], by simp, .inr ⟨w.heap.size, 0, rfl, fun j u hj => ?_⟩⟩
  rw [Nat.zero_add]
  refine (Blk.made w (atC x) 39).cell ?_
  simpa [rwC] using hj

set_option maxRecDepth 100000 in
set_option maxHeartbeats 2000000 in
theorem ruleNames_walk (w : World) (hE : ErrV w) (hT : Tab w) :
    Calls Tryd.prog 5 #[] w fun r w' => r = .returned (.bool true) ∧ Below w.heap.size w w' := by
  have HE : Hid (Env w) := Lib.hid ⟨hE, hT⟩
  have HLV := Lib.hid (lives_any w HE.out)
  have HF0 : Hid (∀ w1, Env w1 → Calls Tryd.prog 11 #[.string ⟨#[97, 32, 38, 32]⟩] w1 fun r w' => r = .returned (.agg #[.int .i64 5, .int .i64 4]) ∧ Below w1.heap.size w1 w') := Lib.hid (fun w1 h => fault_no fl0 (by decide) w1 h)
  have HF1 : Hid (∀ w1, Env w1 → Calls Tryd.prog 11 #[.string ⟨#[97, 61]⟩] w1 fun r w' => r = .returned (.agg #[.int .i64 5, .int .i64 2]) ∧ Below w1.heap.size w1 w') := Lib.hid (fun w1 h => fault_no fl1 (by decide) w1 h)
  have HF2 : Hid (∀ w1, Env w1 → Calls Tryd.prog 11 #[.string ⟨#[61, 97]⟩] w1 fun r w' => r = .returned (.agg #[.int .i64 5, .int .i64 0]) ∧ Below w1.heap.size w1 w') := Lib.hid (fun w1 h => fault_no fl2 (by decide) w1 h)
  have HF3 : Hid (∀ w1, Env w1 → Calls Tryd.prog 11 #[.string ⟨#[97, 32, 98]⟩] w1 fun r w' => r = .returned (.agg #[.int .i64 5, .int .i64 2]) ∧ Below w1.heap.size w1 w') := Lib.hid (fun w1 h => fault_no fl3 (by decide) w1 h)
  have HF4 : Hid (∀ w1, Env w1 → Calls Tryd.prog 11 #[.string ⟨#[40, 97]⟩] w1 fun r w' => r = .returned (.agg #[.int .i64 5, .int .i64 2]) ∧ Below w1.heap.size w1 w') := Lib.hid (fun w1 h => fault_no fl4 (by decide) w1 h)
  have HF5 : Hid (∀ w1, Env w1 → Calls Tryd.prog 11 #[.string ⟨#[97, 33, 98]⟩] w1 fun r w' => r = .returned (.agg #[.int .i64 5, .int .i64 2]) ∧ Below w1.heap.size w1 w') := Lib.hid (fun w1 h => fault_no fl5 (by decide) w1 h)
  have HH0 : Hid (∀ w1, Env w1 → Calls Tryd.prog 12 #[.string ⟨#[99, 111, 114, 101, 115, 62, 61, 56]⟩, .slice (some ⟨w1.heap.size, 0, none⟩) 1 1] (w1.alloc (.cells #[.string ⟨#[99, 111, 114, 101, 115]⟩, .string ⟨#[48, 49, 54]⟩] 39)) fun r w' => r = .returned (.bool true) ∧ Below w1.heap.size w1 w') := Lib.hid (fun w1 h => (lholds_any co_parse (by decide) ho1 (by unfold at1; intro a ha; simp at ha; subst ha; simp) (.slice (some ⟨w1.heap.size, 0, none⟩) 1 1) (w1.alloc (.cells #[.string ⟨#[99, 111, 114, 101, 115]⟩, .string ⟨#[48, 49, 54]⟩] 39)) (at_row w1 _) (h.below (below_alloc _ _))).mono fun r w' hq => ⟨hq.1, below_and (below_alloc _ _) hq.2⟩)
  have HH1 : Hid (∀ w1, Env w1 → Calls Tryd.prog 12 #[.string ⟨#[99, 111, 114, 101, 115, 62, 61, 56]⟩, .slice (some ⟨w1.heap.size, 0, none⟩) 1 1] (w1.alloc (.cells #[.string ⟨#[99, 111, 114, 101, 115]⟩, .string ⟨#[120]⟩] 39)) fun r w' => r = .returned (.bool false) ∧ Below w1.heap.size w1 w') := Lib.hid (fun w1 h => (lholds_any co_parse (by decide) ho2 (by unfold at2; intro a ha; simp at ha; subst ha; simp) (.slice (some ⟨w1.heap.size, 0, none⟩) 1 1) (w1.alloc (.cells #[.string ⟨#[99, 111, 114, 101, 115]⟩, .string ⟨#[120]⟩] 39)) (at_row w1 _) (h.below (below_alloc _ _))).mono fun r w' hq => ⟨hq.1, below_and (below_alloc _ _) hq.2⟩)
  have HH2 : Hid (∀ w1, Env w1 → Calls Tryd.prog 12 #[.string ⟨#[99, 111, 114, 101, 115, 62, 61, 56]⟩, .slice none 0 0] w1 fun r w' => r = .returned (.bool false) ∧ Below w1.heap.size w1 w') := Lib.hid (fun w1 h => lholds_any co_parse (by decide) ho3 (by intro a ha; cases ha) (.slice none 0 0) w1 (row_nil w1 2) h)
  have HH3 : Hid (∀ w1, Env w1 → Calls Tryd.prog 12 #[.string ⟨#[97, 33, 61, 98]⟩, .slice none 0 0] w1 fun r w' => r = .returned (.bool true) ∧ Below w1.heap.size w1 w') := Lib.hid (fun w1 h => lholds_any ne_parse (by decide) ho4 (by intro a ha; cases ha) (.slice none 0 0) w1 (row_nil w1 2) h)
  clear hE hT
  go_enter Tryd.func5, Tryd.ntmps5
  go_upto_region 4 with (go_at_call 6; refine HLV.out.mono ?_; rintro r w1 ⟨rfl, hb⟩; have HB0 := Lib.hid hb; have HE0 := Lib.hid (HE.out.below hb); clear hb)
  go_upto_region 5 with (first
    | (go_at_call 11; refine (HF0.out _ HE0.out).mono ?_; rintro r wf0 ⟨rfl, hb⟩; have HB1 := Lib.hid (below_and HB0.out hb); have HE1 := Lib.hid (HE0.out.below hb); clear hb HE0)
    | (go_at_call 11; refine (HF1.out _ HE1.out).mono ?_; rintro r wf1 ⟨rfl, hb⟩; have HB2 := Lib.hid (below_and HB1.out hb); have HE2 := Lib.hid (HE1.out.below hb); clear hb HE1)
    | (go_at_call 11; refine (HF2.out _ HE2.out).mono ?_; rintro r wf2 ⟨rfl, hb⟩; have HB3 := Lib.hid (below_and HB2.out hb); have HE3 := Lib.hid (HE2.out.below hb); clear hb HE2)
    | (go_at_call 11; refine (HF3.out _ HE3.out).mono ?_; rintro r wf3 ⟨rfl, hb⟩; have HB4 := Lib.hid (below_and HB3.out hb); have HE4 := Lib.hid (HE3.out.below hb); clear hb HE3)
    | (go_at_call 11; refine (HF4.out _ HE4.out).mono ?_; rintro r wf4 ⟨rfl, hb⟩; have HB5 := Lib.hid (below_and HB4.out hb); have HE5 := Lib.hid (HE4.out.below hb); clear hb HE4)
    | (go_at_call 11; refine (HF5.out _ HE5.out).mono ?_; rintro r wf5 ⟨rfl, hb⟩; have HB6 := Lib.hid (below_and HB5.out hb); have HE6 := Lib.hid (HE5.out.below hb); clear hb HE5))
  go_wp2_with (first
    | (go_at_call 12; refine (HH0.out _ HE6.out).mono ?_; rintro r wh0 ⟨rfl, hb⟩; have HB7 := Lib.hid (below_and HB6.out hb); have HE7 := Lib.hid (HE6.out.below hb); clear hb HE6)
    | (go_at_call 12; refine (HH1.out _ HE7.out).mono ?_; rintro r wh1 ⟨rfl, hb⟩; have HB8 := Lib.hid (below_and HB7.out hb); have HE8 := Lib.hid (HE7.out.below hb); clear hb HE7)
    | (go_at_call 12; refine (HH2.out _ HE8.out).mono ?_; rintro r wh2 ⟨rfl, hb⟩; have HB9 := Lib.hid (below_and HB8.out hb); have HE9 := Lib.hid (HE8.out.below hb); clear hb HE8)
    | (go_at_call 12; refine (HH3.out _ HE9.out).mono ?_; rintro r wh3 ⟨rfl, hb⟩; have HB10 := Lib.hid (below_and HB9.out hb); have HE10 := Lib.hid (HE9.out.below hb); clear hb HE9))
  go_ret
  exact ⟨rfl, HB10.out⟩
end Go.Proofs.YtjjaaooiajmclaaDoor.Ru
