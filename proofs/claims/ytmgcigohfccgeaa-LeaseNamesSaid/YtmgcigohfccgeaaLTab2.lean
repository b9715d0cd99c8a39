/- The lease's table: Heard, Sure. -/
import Derived.Test.YtmgcigohfccgeaaLTab
namespace Go.Proofs.Ytmgcigohfccgeaa
open Go.RowKit

theorem ret_sure {a b : Bool} (h : a = b) : Ending.returned (.tuple #[.bool a, .int .i64 0]) = Ending.returned (.tuple #[.bool b, .int .i64 0]) := by rw [h]

set_option maxRecDepth 100000 in
set_option maxHeartbeats 1000000 in
theorem lsure_yes (b mb : Nat) (lease wait now : Int) (m : SM) (s : ByteArray) (boot nw at_ : Int) (w : World) (h : LTab w b mb lease wait now m) (h0 : wait ≠ 0) (hs : s.size ≤ maxLen) (hg : m.get s.data.toList = some (hv boot nw at_))
    (h1 : -4611686018427387904 ≤ at_ ∧ at_ ≤ 2305843009213693952) (h2 : 0 ≤ wait ∧ wait ≤ 2305843009213693952) (h3 : 0 ≤ now ∧ now ≤ 2305843009213693952) (r : Bool) (hr : r = (max 0 (at_ + wait - now) == 0)) :
    Calls Try.prog 20 #[ptr b, .string s] w fun e w' => e = .returned (.tuple #[.bool r, .int .i64 0]) ∧ Below w.heap.size w w' := by
  have H := Lib.hid h
  have H0 := Lib.hid h0
  have HS := Lib.hid hs
  have HG := Lib.hid hg
  have HR := Lib.hid hr
  have H1 := Lib.hid h1
  have H2 := Lib.hid h2
  have H3 := Lib.hid h3
  clear h h0 hs hg hr h1 h2 h3
  go_enter Try.func20, Try.ntmps20
  go_wp2_with (first
    | (go_at_call 58; refine (lfind_yes b mb _ _ _ _ _ _ _ _ _ H.out H0.out HS.out HG.out).mono ?_; rintro e w1 ⟨rfl, hb⟩; have HB := Lib.hid hb; clear hb)
    | (go_at_call 59; refine (lleft_any b mb _ _ _ _ _ _ _ _ (by exact (H.out.kept HB.out).kept (below_alloc _ _)) _ rfl H1.out H2.out H3.out).mono ?_; rintro e w2 ⟨rfl, hb⟩; have HB2 := Lib.hid (below_and (below_and HB.out (below_alloc _ _)) hb); clear hb))
  go_ret2
  exact ⟨ret_sure HR.out.symm, HB2.out⟩

set_option maxRecDepth 100000 in
set_option maxHeartbeats 2000000 in
theorem lheard_new (b mb : Nat) (lease wait now : Int) (m : SM) (s : ByteArray) (boot nw at_ bt n : Int) (w : World) (h : LTab w b mb lease wait now m) (h0 : wait ≠ 0) (hs : s.size ≤ maxLen) (hg : m.get s.data.toList = some (hv boot nw at_)) (hl : m.length < maxLen)
    (h1 : (bt == 0) = false) (h2 : decide (n < 0) = false) (h3 : decide (bt < boot) = false) (h4 : (bt == boot) = false) :
    Calls Try.prog 18 #[ptr b, .string s, .int .u64 bt, .int .i64 n] w fun e w' => e = .returned (.int .i64 0) ∧ LTab w' b mb lease wait now (m.put s.data.toList (hv bt n now)) ∧ w.grownBy w' (some mb) := by
  have H := Lib.hid h
  have H0 := Lib.hid h0
  have HS := Lib.hid hs
  have HG := Lib.hid hg
  have HL := Lib.hid hl
  clear h h0 hs hg hl
  go_enter Try.func18, Try.ntmps18
  go_wp2_with (first
    | (go_at_call 58; refine (lfind_yes b mb _ _ _ _ _ _ _ _ _ H.out H0.out HS.out HG.out).mono ?_; rintro e w1 ⟨rfl, hb⟩; have HB := Lib.hid hb; clear hb))
  have HT := Lib.hid ((H.out.kept HB.out).kept (below_alloc w1 (.cells #[.int .u64 boot, .int .i64 nw, .int .i64 at_] 91)))
  have d2 := HT.out.blk.cell (j := 2) rfl
  have d3 := HT.out.blk.cell (j := 3) rfl
  obtain ⟨w3, hrun, hm3, hg3⟩ := SMap.store (HT.out.map.kept (below_drewN 1)) Try.underlying9 Try.underlying69 HL.out HS.out (hv bt n now)
  have hrun' : (Instr.mapUpdate 69 (.map (some mb)) (.string s) (hv bt n now)).run Try.prog (w1.alloc (.cells #[.int .u64 boot, .int .i64 nw, .int .i64 at_] 91)).drew = .ok () w3 := hrun
  have HM3 := Lib.hid hm3
  have HG3 := Lib.hid hg3
  clear hm3 hg3 hrun
  go_region_with (fail)
  all_goals go_wp2
  all_goals go_ret
  all_goals exact ⟨rfl, ⟨(HT.out.blk.kept (below_drewN 1)).grown HG3.out (by simpa using fun e => H.out.ne e.symm), HM3.out, H.out.ne⟩, grown_trans (below_grownBy (Below.drewN' (below_and HB.out (below_alloc _ _)) 1)) HG3.out⟩
set_option maxRecDepth 100000 in
set_option maxHeartbeats 1000000 in
theorem lLeft_yes (b mb : Nat) (lease wait now : Int) (m : SM) (s : ByteArray) (boot nw at_ : Int) (w : World) (h : LTab w b mb lease wait now m) (h0 : wait ≠ 0) (hs : s.size ≤ maxLen) (hg : m.get s.data.toList = some (hv boot nw at_))
    (h1 : -4611686018427387904 ≤ at_ ∧ at_ ≤ 2305843009213693952) (h2 : 0 ≤ wait ∧ wait ≤ 2305843009213693952) (h3 : 0 ≤ now ∧ now ≤ 2305843009213693952) (r : Int) (hr : r = max 0 (at_ + wait - now)) :
    Calls Try.prog 50 #[ptr b, .string s] w fun e w' => e = .returned (.tuple #[.int .i64 r, .int .i64 0]) ∧ Below w.heap.size w w' := by
  have H := Lib.hid h
  have H0 := Lib.hid h0
  have HS := Lib.hid hs
  have HG := Lib.hid hg
  have HR := Lib.hid hr
  have H1 := Lib.hid h1
  have H2 := Lib.hid h2
  have H3 := Lib.hid h3
  clear h h0 hs hg hr h1 h2 h3
  go_enter Try.func50, Try.ntmps50
  go_wp2_with (first
    | (go_at_call 58; refine (lfind_yes b mb _ _ _ _ _ _ _ _ _ H.out H0.out HS.out HG.out).mono ?_; rintro e w1 ⟨rfl, hb⟩; have HB := Lib.hid hb; clear hb)
    | (go_at_call 59; refine (lleft_any b mb _ _ _ _ _ _ _ _ (by exact (H.out.kept HB.out).kept (below_alloc _ _)) _ rfl H1.out H2.out H3.out).mono ?_; rintro e w2 ⟨rfl, hb⟩; have HB2 := Lib.hid (below_and (below_and HB.out (below_alloc _ _)) hb); clear hb))
  go_ret2
  exact ⟨ret_wait HR.out.symm, HB2.out⟩

end Go.Proofs.Ytmgcigohfccgeaa
