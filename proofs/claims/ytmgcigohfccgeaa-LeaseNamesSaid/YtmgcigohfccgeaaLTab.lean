/- The lease's table: what a call of it does. -/
import Derived.Test.YtmgcigohfccgeaaMaps
import Derived.Test.YtmgcigohfccgeaaCWait
import Derived.Carry
import Derived.Laws.Rows
import Derived.Deep.RegionWith
import Derived.Deep.RegionHeld3
namespace Go.Proofs.Ytmgcigohfccgeaa
open Go.RowKit

theorem results_row_tmp {P : Program} {fn : Func} {p u : Tmp} {ty : TypeId} (h : fn.results = #[.cell p ty, .tmp u]) (tmps : Array Value) (w : World) (g : Nat) (t : TypeId) (cs : Array Value) (fr : Nat × Nat) (d : TypeDesc)
    (hp : tmps.getD p undef = .pointer (some ⟨g, 0, none⟩)) (hg : w.heap[g]? = some (.cells cs t fr))
    (hu : P.underlying ty = some d) (hd : (match d with | .struct _ | .array _ _ => true | _ => false) = true) (hi : (P.info? ty).map (·.size) = some cs.size) :
    (results fn tmps).run P w = .ok (.tuple #[.agg cs, tmps.getD u undef]) w := by
  have hp' : tmps[p]?.getD undef = .pointer (some ⟨g, 0, none⟩) := by simpa using hp
  simp [results, h, hp', asAddr, run_loadVar_row w g t ty cs fr d hg hu hd hi, Result.andThen]


abbrev hv (boot now at_ : Int) : Value := .agg #[.int .u64 boot, .int .i64 now, .int .i64 at_]

/-- block b is a table that was made, its map in block mb -/
structure LTab (w : World) (b mb : Nat) (lease wait now : Int) (m : SM) : Prop where
  blk : Blk w b [.int .i64 lease, .int .i64 wait, .int .i64 now, .map (some mb)] 71
  map : SMap Try.prog 9 w mb m
  ne : mb ≠ b

theorem LTab.kept {w w' : World} {b mb : Nat} {lease wait now : Int} {m : SM} (h : LTab w b mb lease wait now m) (hb : Below w.heap.size w w') : LTab w' b mb lease wait now m :=
  ⟨h.blk.kept hb, h.map.kept hb, h.ne⟩

theorem has_of_get {m : SM} {s : List UInt8} {v : Value} (h : m.get s = some v) : m.hasK s = true := by
  unfold SM.get at h
  unfold SM.hasK
  rcases hf : m.find? (fun p => p.1 == s) with _ | p
  · rw [hf] at h; cases h
  · exact List.any_eq_true.2 ⟨p, List.mem_of_find?_eq_some hf, List.find?_some (p := fun p : List UInt8 × Value => p.1 == s) hf⟩
theorem get_of_no {m : SM} {s : List UInt8} (h : m.hasK s = false) : m.get s = none := by
  unfold SM.hasK at h
  unfold SM.get
  rw [List.find?_eq_none.2 (fun p hp => by have := List.any_eq_false.1 h p hp; simpa using this)]
  rfl

theorem ret_left {a b : Int} (h : a = b) : Ending.returned (.int .i64 a) = Ending.returned (.int .i64 b) := by rw [h]

set_option maxRecDepth 100000 in
set_option maxHeartbeats 400000 in
theorem lnone_made (b mb : Nat) (lease wait now : Int) (m : SM) (w : World) (h : LTab w b mb lease wait now m) (h0 : wait ≠ 0) :
    Calls Try.prog 57 #[ptr b] w fun e w' => e = .returned (.bool false) ∧ w = w' := by
  have c1 := h.blk.cell (j := 1) rfl
  have t1 : (wait == 0) = false := by simpa using h0
  clear h
  go_enter Try.func57, Try.ntmps57
  go_wp2
  go_ret
  exact ⟨rfl, rfl⟩

theorem zero_run {P : Program} {t : TypeId} {z : Value} (h : (P.info? t).bind (·.zero) = some z) (w : World) : (zeroValue t).run P w = .ok z w := by
  cases hi : P.info? t with
  | none => rw [hi] at h; cases h
  | some i =>
    rw [hi] at h
    have hz : i.zero = some z := h
    simp [zeroValue, typeInfo, hi, hz, Result.andThen]
theorem hzero (w : World) : (zeroValue 91).run Try.prog w = .ok (hv 0 0 0) w := zero_run (by kernel_rfl) w

set_option maxRecDepth 100000 in
set_option maxHeartbeats 1000000 in
theorem lnew_ok (n d : Int) (w : World) (hw : Clk.waits n d = (Clk.wait n d, 0)) :
    Calls Try.prog 15 #[.int .i64 n, .int .i64 d] w fun e w' => ∃ b mb, e = .returned (.tuple #[ptr b, .int .i64 0]) ∧ w.heap.size ≤ b ∧ w.heap.size ≤ mb ∧ LTab w' b mb n (Clk.wait n d) 0 [] ∧ Below w.heap.size w w' := by
  have HW := Lib.hid hw
  clear hw
  have hmm := @run_makeMap Try.prog
  go_enter Try.func15, Try.ntmps15
  go_wp2_with (go_at_call 25; refine (wait_any _ _ _).mono ?_; rw [HW.out]; rintro e w' ⟨rfl, rfl⟩)
  go_ret2
  refine ⟨w.heap.size + 1, w.heap.size, rfl, by omega, Nat.le_refl _, ⟨by simpa using Blk.made (w.alloc (.map #[] 0)) [.int .i64 n, .int .i64 (Clk.wait n d), .int .i64 0, .map (some w.heap.size)] 71, (smap_made w _ _).kept (below_alloc _ _), by omega⟩, below_and (below_alloc w _) (below_alloc _ _)⟩

set_option maxRecDepth 100000 in
set_option maxHeartbeats 1000000 in
theorem lfind_yes (b mb : Nat) (lease wait now : Int) (m : SM) (s : ByteArray) (boot nw at_ : Int) (w : World) (h : LTab w b mb lease wait now m) (h0 : wait ≠ 0) (hs : s.size ≤ maxLen) (hg : m.get s.data.toList = some (hv boot nw at_)) :
    Calls Try.prog 58 #[ptr b, .string s] w fun e w' => e = .returned (.tuple #[hv boot nw at_, .int .i64 0]) ∧ Below w.heap.size w w' := by
  have hk := has_of_get hg
  have H := Lib.hid h
  have H0 := Lib.hid h0
  have HS := Lib.hid hs
  have HG := Lib.hid hg
  have HK := Lib.hid hk
  have c3 := ((h.kept (below_alloc w (.cells #[.int .u64 0, .int .i64 0, .int .i64 0] 91))).blk).cell (j := 3) rfl
  clear h h0 hs hg hk
  go_enter Try.func58, Try.ntmps58
  go_wp2_with (first
    | (go_at_call 57; refine (lnone_made b mb _ _ _ _ _ (by exact H.out.kept (below_alloc _ _)) H0.out).mono ?_; rintro e w' ⟨rfl, rfl⟩)
    | (at_lookup; refine wpList_slook_ok _ rfl _ _ _ rfl 9 91 Try.underlying9 Try.underlying69 (hzero _) mb m rfl (by exact (H.out.kept (below_alloc _ _)).map) s rfl HS.out ?_; rw [HG.out, HK.out]; simp only [Option.getD_some]))
  refine bodyPost_ret (results_row_tmp rfl _ _ w.heap.size 91 #[.int .u64 boot, .int .i64 nw, .int .i64 at_] (0, 0) _ rfl ((Blk.made w [.int .u64 boot, .int .i64 nw, .int .i64 at_] 91).kept (below_alloc _ _)) Try.underlying91 rfl (by kernel_rfl)) rfl ?_
  exact ⟨rfl, below_and (below_alloc w _) (below_alloc _ _)⟩

set_option maxRecDepth 100000 in
set_option maxHeartbeats 1000000 in
theorem lleft_any (b mb : Nat) (lease wait now : Int) (m : SM) (boot nw at_ : Int) (w : World) (h : LTab w b mb lease wait now m) (r : Int) (hr : r = max 0 (at_ + wait - now)) (h1 : -4611686018427387904 ≤ at_ ∧ at_ ≤ 2305843009213693952) (h2 : 0 ≤ wait ∧ wait ≤ 2305843009213693952) (h3 : 0 ≤ now ∧ now ≤ 2305843009213693952) :
    Calls Try.prog 59 #[ptr b, hv boot nw at_] w fun e w' => e = .returned (.int .i64 r) ∧ Below w.heap.size w w' := by
  have hk := (h.kept (below_alloc w (.cells #[.int .u64 boot, .int .i64 nw, .int .i64 at_] 91))).blk
  have c1 := hk.cell (j := 1) rfl
  have c2 := hk.cell (j := 2) rfl
  have H := Lib.hid h
  have HR := Lib.hid hr
  clear h hk hr
  go_enter Try.func59, Try.ntmps59
  go_wp2_with (go_quiet (fail))
  · go_ret
    exact ⟨ret_left (by rw [HR.out]; omega), Below.drewN' (below_alloc w _) _⟩
  · go_ret
    exact ⟨ret_left (by rw [HR.out]; omega), Below.drewN' (below_alloc w _) _⟩

set_option maxRecDepth 100000 in
set_option maxHeartbeats 1000000 in
theorem ltick_ok (b mb : Nat) (lease wait now : Int) (m : SM) (n : Int) (w : World) (h : LTab w b mb lease wait now m) (h0 : wait ≠ 0) (hn : 0 ≤ n ∧ n ≤ 1048576) (h3 : 0 ≤ now ∧ now ≤ 2305843009213693952) :
    Calls Try.prog 19 #[ptr b, .int .i64 n] w fun e w' => e = .returned (.int .i64 0) ∧ LTab w' b mb lease wait (now + n) m ∧ w.grownBy w' (some b) := by
  have c2 := h.blk.cell (j := 2) rfl
  have f2 := h.blk.free 2
  have H := Lib.hid h
  have H0 := Lib.hid h0
  clear h h0
  go_enter Try.func19, Try.ntmps19
  go_wp2_with (go_at_call 57; refine (lnone_made b mb _ _ _ _ _ (by exact H.out) H0.out).mono ?_; rintro e w' ⟨rfl, rfl⟩)
  go_ret
  refine ⟨rfl, ⟨H.out.blk.set 2 _, H.out.map.grown (grown_set (grown_refl w (some b)) 2 _) (by simpa using H.out.ne), H.out.ne⟩, grown_set (grown_refl w (some b)) 2 _⟩

set_option maxRecDepth 100000 in
set_option maxHeartbeats 1000000 in
theorem ladd_ok (b mb : Nat) (lease wait now : Int) (m : SM) (s : ByteArray) (w : World) (h : LTab w b mb lease wait now m) (h0 : wait ≠ 0) (hs : s.size ≤ maxLen) (he : s.toList.isEmpty = false) (hg : m.hasK s.data.toList = false) (hl : m.length < maxLen) :
    Calls Try.prog 16 #[ptr b, .string s] w fun e w' => e = .returned (.int .i64 0) ∧ LTab w' b mb lease wait now (m.put s.data.toList (hv 0 0 now)) ∧ w.grownBy w' (some mb) := by
  have hk := get_of_no hg
  have H := Lib.hid h
  have H0 := Lib.hid h0
  have HS := Lib.hid hs
  have HG := Lib.hid hg
  have HK := Lib.hid hk
  have HL := Lib.hid hl
  have c3 := h.blk.cell (j := 3) rfl
  have c2 := h.blk.cell (j := 2) rfl
  have hk1 := (h.kept (below_alloc w (.cells #[.int .u64 0, .int .i64 0, .int .i64 0] 91))).blk
  have d2 := hk1.cell (j := 2) rfl
  have d3 := hk1.cell (j := 3) rfl
  clear h h0 hs hg hk hl hk1
  go_enter Try.func16, Try.ntmps16
  go_wp2_with (first
    | (go_at_call 57; refine (lnone_made b mb _ _ _ _ _ (by exact H.out) H0.out).mono ?_; rintro e w' ⟨rfl, rfl⟩)
    | (at_lookup; refine wpList_slook_ok _ rfl _ _ _ rfl 9 91 Try.underlying9 Try.underlying69 (hzero _) mb m rfl (by exact H.out.map) s rfl HS.out ?_; rw [HG.out, HK.out]; simp only [Option.getD_none]))
  obtain ⟨w3, hrun, hm3, hg3⟩ := SMap.store (((H.out.kept (below_alloc w (.cells #[.int .u64 0, .int .i64 0, .int .i64 0] 91))).map).kept (below_drewN 1)) Try.underlying9 Try.underlying69 HL.out HS.out (hv 0 0 now)
  have hrun' : (Instr.mapUpdate 69 (.map (some mb)) (.string s) (hv 0 0 now)).run Try.prog (w.alloc (.cells #[.int .u64 0, .int .i64 0, .int .i64 0] 91)).drew = .ok () w3 := hrun
  have HM3 := Lib.hid hm3
  have HG3 := Lib.hid hg3
  clear hm3 hg3 hrun
  go_region_with (fail)
  all_goals go_wp2
  all_goals go_ret
  all_goals exact ⟨rfl, ⟨((H.out.kept (below_alloc w _)).blk.kept (below_drewN 1)).grown HG3.out (by simpa using fun e => H.out.ne e.symm), HM3.out, H.out.ne⟩, grown_trans (below_grownBy (Below.drewN' (below_alloc w _) 1)) HG3.out⟩
end Go.Proofs.Ytmgcigohfccgeaa
