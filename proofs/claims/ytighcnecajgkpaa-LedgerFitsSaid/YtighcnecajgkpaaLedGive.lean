/- The ledger's Give. -/
import Derived.Test.YtighcnecajgkpaaLedIn
import Derived.Test.YtighcnecajgkpaaLedTake
namespace Go.Proofs.Ytighcnecajgkpaa
open Go.RowKit

theorem led_del {w w' : World} {b mb : Nat} {cap : Am} {L : List Ent} {s : ByteArray} (h : Led w b mb cap L) (hp : SMap Try.prog 9 w' mb ((entM L).del s.data.toList)) (hg : w.grownBy w' (some mb)) : Led w' b mb cap (rem L s.data.toList) :=
  ⟨h.blk.grown hg (fun e => h.ne (Option.some.inj e).symm), by rw [← entM_del]; exact hp, h.ne⟩

set_option maxRecDepth 100000 in
set_option maxHeartbeats 2000000 in
theorem give_none (b mb : Nat) (cap : Am) (L : List Ent) (s : ByteArray) (w : World) (h : Led w b mb cap L) (hs : s.size ≤ maxLen) (hx : fnd L s.data.toList = none) :
    Calls Try.prog 11 #[ptr b, .string s] w fun e w' => e = .returned (.int .i64 6) ∧ Below w.heap.size w w' := by
  have HG := Lib.hid (lget_no b mb cap L s w h hs hx)
  clear h hs hx
  go_enter Try.func11, Try.ntmps11
  go_wp2_with (go_at_call 22; refine HG.out.mono ?_; rintro e w4 ⟨rfl, hb⟩; have HB4 := Lib.hid hb; clear hb)
  go_ret
  exact ⟨rfl, below_and HB4.out (below_alloc _ _)⟩

set_option maxRecDepth 100000 in
set_option maxHeartbeats 2000000 in
theorem give_state (b mb : Nat) (cap : Am) (L : List Ent) (s : ByteArray) (x : Ent) (w : World) (h : Led w b mb cap L) (hs : s.size ≤ maxLen) (hx : fnd L s.data.toList = some x) (hr : Rise L) (hk : ∀ e ∈ L, e.n.size ≤ maxLen) (hl : L.length ≤ 100000) (hi : inL s L ≠ []) :
    Calls Try.prog 11 #[ptr b, .string s] w fun e w' => e = .returned (.int .i64 13) ∧ Below w.heap.size w w' := by
  have HG := Lib.hid (lget_yes b mb cap L s x w h hs hx)
  have HI : Hid (∀ w, Led w b mb cap L → _) := Lib.hid (fun w h => in_made b mb cap L s w h hr hk hl)
  have H := Lib.hid h
  have hpos : 0 < (inL s L).length := List.length_pos_iff.2 hi
  have i1 : (0 : Int) < ((inL s L).length : Int) := by omega
  clear h hs hx hr hk hl hi
  go_enter Try.func11, Try.ntmps11
  go_wp2_with (first
    | (go_at_call 22; refine HG.out.mono ?_; rintro e w4 ⟨rfl, hb⟩; have HB4 := Lib.hid hb; clear hb)
    | (go_at_call 20; refine (HI.out _ (H.out.kept (below_and HB4.out (below_alloc _ _)))).mono ?_; rintro e w5 ⟨v5, rfl, ho, hb⟩; obtain ⟨p5, k5, rfl, -, -⟩ := own_slice ho; have HB5 := Lib.hid (below_and (below_and HB4.out (below_alloc _ _)) hb); clear ho hb))
  go_ret
  exact ⟨rfl, HB5.out⟩

set_option maxRecDepth 100000 in
set_option maxHeartbeats 2000000 in
theorem give_ok (b mb : Nat) (cap : Am) (L : List Ent) (s : ByteArray) (x : Ent) (w : World) (h : Led w b mb cap L) (hs : s.size ≤ maxLen) (hx : fnd L s.data.toList = some x) (hr : Rise L) (hk : ∀ e ∈ L, e.n.size ≤ maxLen) (hl : L.length ≤ 100000) (hi : inL s L = []) :
    Calls Try.prog 11 #[ptr b, .string s] w fun e w' => e = .returned (.int .i64 0) ∧ Led w' b mb cap (rem L s.data.toList) ∧ Fr [mb] w w' := by
  have HG := Lib.hid (lget_yes b mb cap L s x w h hs hx)
  have HI : Hid (∀ w, Led w b mb cap L → _) := Lib.hid (fun w h => in_made b mb cap L s w h hr hk hl)
  have H := Lib.hid h
  have HS := Lib.hid hs
  have HN := Lib.hid (show (inL s L).length = 0 by rw [hi]; rfl)
  clear h hs hx hr hk hl hi
  go_enter Try.func11, Try.ntmps11
  go_wp2_with (first
    | (go_at_call 22; refine HG.out.mono ?_; rintro e w4 ⟨rfl, hb⟩; have HB4 := Lib.hid hb; clear hb)
    | (go_at_call 20; refine (HI.out _ (H.out.kept (below_and HB4.out (below_alloc _ _)))).mono ?_; rw [HN.out]; rintro e w5 ⟨v5, rfl, ho, hb⟩; obtain ⟨p5, k5, rfl, -, -⟩ := own_slice ho; have HB5 := Lib.hid (below_and (below_and HB4.out (below_alloc _ _)) hb); have H5 := Lib.hid (H.out.kept HB5.out); have c4 := H5.out.blk.cell (j := 4) rfl; clear ho hb)
    | (refine wpList_sdel _ rfl _ _ _ _ rfl 48 Try.underlying9 Try.underlying52 mb (entM L) rfl H5.out.map s rfl HS.out ?_; intro w8 hp8 hg8; have HP8 := Lib.hid hp8; have HG8 := Lib.hid hg8; clear hp8 hg8))
  go_ret
  exact ⟨rfl, led_del H5.out HP8.out HG8.out, (Fr.of_below HB5.out [mb]).then (Fr.of_grown HG8.out)⟩
end Go.Proofs.Ytighcnecajgkpaa
