/- RuLawP. -/
import Derived.Test.YtdnoceancoclmaaGreatDoorM37
import Derived.Test.YtdnoceancoclmaaGreatDoorRuLive
import Derived.Test.YtdnoceancoclmaaGreatDoorM05
namespace Go.Proofs.YtdnoceancoclmaaGreatDoor.Ru
open Go.RowKit Go.Proofs.YtdnoceancoclmaaGreatDoor

/-- a world where the library's variables hold what they hold -/
def Env (w : World) : Prop := ErrV w ∧ Tab w
theorem Env.below {w w' : World} (h : Env w) (hb : Below w.heap.size w w') : Env w' := ⟨h.1.below hb, h.2.below hb⟩
theorem fit_of_parse {s : List UInt8} {L : List Nd} (h : parseP s = .ok L) : ∀ n ∈ L, Fit1 n := by
  obtain ⟨t, h1, -, -, rfl, -⟩ := parseP_tree h
  exact flat_fit t h1
theorem parse_ok {s : ByteArray} {L : List Nd} (h : parseP s.data.toList = .ok L) (w : World) (he : Env w) (hs : s.size ≤ maxLen) :
    Calls Tryz.prog 19 #[.string s] w fun r w' => ∃ q d, r = .returned (.tuple #[.agg #[.slice q L.length d], .agg #[.int .i64 0, .int .i64 0]]) ∧ Row w' (.slice q L.length d) 6 L.length (rwC ndC L) ∧ Below w.heap.size w w' := by
  have := parse_any s w he.1 he.2 hs
  rw [h] at this
  refine this.mono fun r w' h => ?_
  obtain ⟨⟨v, h1, h2⟩, h3⟩ := h
  obtain ⟨q, d, rfl, -, -, h4⟩ := row_own h2 (rwC_one ndC_one L)
  exact ⟨q, d, h1, h4, h3⟩
theorem text_ok {s : List UInt8} {L : List Nd} (h : parseP s = .ok L) (v : Value) (w : World) (hv : Row w v 6 L.length (rwC ndC L)) (he : Env w) :
    Calls Tryz.prog 11 #[.agg #[v]] w fun r w' => r = .returned (.tuple #[.string (bs (toldA L)), .int .i64 0]) ∧ Below w.heap.size w w' := by
  refine (text_any v L w hv (fit_of_parse h) he.1 he.2).mono fun r w' hq => ?_
  obtain ⟨h1, h2⟩ := hq
  rw [if_pos (check_parse h).2.1] at h1
  exact ⟨h1, h2⟩
/-- two cells of a struct's, in a world -/
theorem two_cells (w : World) (v x y : Value) (t t' : TypeId) : Blk ((w.alloc (.cells #[v] t)).alloc (.cells #[x, y] t')) w.heap.size [v] t ∧ Blk ((w.alloc (.cells #[v] t)).alloc (.cells #[x, y] t')) (w.heap.size + 1) [x, y] t' ∧ Below w.heap.size w ((w.alloc (.cells #[v] t)).alloc (.cells #[x, y] t')) := by
  refine ⟨Blk.alloc (Blk.made w [v] _) _, ?_, below_and (below_alloc _ _) (below_alloc _ _)⟩
  have := Blk.made (w.alloc (.cells #[v] t)) [x, y] t'
  rw [show (w.alloc (.cells #[v] t)).heap.size = w.heap.size + 1 from by simp] at this
  exact this

set_option maxRecDepth 100000 in
set_option maxHeartbeats 1000000 in
theorem lives_any (w : World) (he : Env w) :
    Calls Tryz.prog 4 #[] w fun r w' => r = .returned (.bool true) ∧ Below w.heap.size w w' := by
  have HE := Lib.hid he
  have hls : liveS.length = 28 := rfl
  have HP1 : Hid (Calls Tryz.prog 19 #[.string (bs liveS)] w fun r w' => ∃ q d, r = .returned (.tuple #[.agg #[.slice q 6 d], .agg #[.int .i64 0, .int .i64 0]]) ∧ Row w' (.slice q 6 d) 6 6 (rwC ndC liveL) ∧ Below w.heap.size w w') := Lib.hid (parse_ok (L := liveL) (s := bs liveS) (by rw [bs_data]; exact live_parse) w he (by rw [bs_size, hls]; unfold maxLen; omega))
  have HTX : Hid (∀ q d w1, Env w1 → Row w1 (.slice q 6 d) 6 6 (rwC ndC liveL) → Calls Tryz.prog 11 #[.agg #[.slice q 6 d]] w1 fun r w' => r = .returned (.tuple #[.string ⟨#[97, 114, 99, 104, 61, 120, 56, 54, 32, 38, 32, 33, 40, 122, 111, 110, 101, 61, 97, 32, 124, 32, 103, 112, 117, 41]⟩, .int .i64 0]) ∧ Below w1.heap.size w1 w') := Lib.hid (fun q d w1 h1 h2 => by
    have := text_ok live_parse (.slice q 6 d) w1 h2 h1
    rw [live_told] at this
    exact this)
  clear he hls
  go_enter Tryz.func4, Tryz.ntmps4
  go_upto_region 2 with (go_at_call 19; refine HP1.out.mono ?_; rintro r w1 ⟨q, d, rfl, hr, hb⟩; have HR1 := Lib.hid hr; have HB1 := Lib.hid hb; clear hr hb)
  obtain ⟨X, hX⟩ : ∃ X, X = w1.heap.size := ⟨_, rfl⟩
  have h2 := two_cells w1 (.slice q 6 d) (.int .i64 0) (.int .i64 0) 24 45
  obtain ⟨w2, hw2⟩ : ∃ w2, w2 = (w1.alloc (.cells #[.slice q 6 d] 24)).alloc (.cells #[.int .i64 0, .int .i64 0] 45) := ⟨_, rfl⟩
  rw [← hw2] at h2 ⊢
  have HB2 := Lib.hid (below_and HB1.out h2.2.2)
  have HE2 : Hid (Env w2) := Lib.hid (HE.out.below HB2.out)
  have HR2 := Lib.hid (HR1.out.below h2.2.2)
  rw [← hX] at h2 ⊢
  have HX2 := Lib.hid h2.1
  have HY2 := Lib.hid h2.2.1
  clear h2 hw2 hX
  have c0 := HX2.out.cell (j := 0) rfl
  go_upto_region 3 with (go_at_call 11; refine (HTX.out _ _ _ HE2.out HR2.out).mono ?_; rintro r w3 ⟨rfl, hb⟩; have HX3 := Lib.hid (HX2.out.kept hb); have HY3 := Lib.hid (HY2.out.kept hb); have HB3 := Lib.hid (below_and HB2.out hb); clear hb)
  clear c0
  have c0 := HX3.out.cell (j := 0) rfl
  have c1 := HY3.out.cell (j := 0) rfl
  have c2 := HY3.out.cell (j := 1) rfl
  go_wp2
  go_ret
  exact ⟨rfl, HB3.out⟩
end Go.Proofs.YtdnoceancoclmaaGreatDoor.Ru
