/- A ledger in memory: New, none, Get, Capacity, the picking functions. -/
import Derived.Test.YtighcnecajgkpaaLedPlain
import Derived.Test.YtighcnecajgkpaaMapRange
import Derived.Test.YtighcnecajgkpaaPast
import Derived.Test.YtighcnecajgkpaaAdd
import Derived.Test.YtighcnecajgkpaaSub
import Derived.Test.YtighcnecajgkpaaFits
import Derived.Outline
namespace Go.Proofs.Ytighcnecajgkpaa
open Go.RowKit

/-- block b is a ledger that was made, its map in block mb -/
structure Led (w : World) (b mb : Nat) (cap : Am) (L : List Ent) : Prop where
  blk : Blk w b [.int .i64 cap.c, .int .i64 cap.r, .int .i64 cap.d, .int .i64 cap.p, .map (some mb)] 54
  map : SMap Try.prog 9 w mb (entM L)
  ne : mb ≠ b
theorem Led.kept {w w' : World} {b mb : Nat} {cap : Am} {L : List Ent} (h : Led w b mb cap L) (hb : Below w.heap.size w w') : Led w' b mb cap L := ⟨h.blk.kept hb, h.map.kept hb, h.ne⟩

abbrev zE : Ent := ⟨⟨#[]⟩, ⟨#[]⟩, ⟨0, 0, 0, 0⟩⟩
theorem zero_run {P : Program} {t : TypeId} {z : Value} (h : (P.info? t).bind (·.zero) = some z) (w : World) : (zeroValue t).run P w = .ok z w := by
  cases hi : P.info? t with
  | none => rw [hi] at h; cases h
  | some i =>
    rw [hi] at h
    have hz : i.zero = some z := h
    simp [zeroValue, typeInfo, hi, hz, Result.andThen]
theorem ezero (w : World) : (zeroValue 48).run Try.prog w = .ok (entV zE) w := zero_run (by kernel_rfl) w

theorem blk6 {w : World} {g : Nat} {x z : Ent} {t : TypeId} (h : Blk w g (entC x) t) : Blk ((((((w.setCell ⟨g, 0, none⟩ (.string z.n)).setCell ⟨g, 1, none⟩ (.string z.i)).setCell ⟨g, 2, none⟩ (.int .i64 z.a.c)).setCell ⟨g, 3, none⟩ (.int .i64 z.a.r)).setCell ⟨g, 4, none⟩ (.int .i64 z.a.d)).setCell ⟨g, 5, none⟩ (.int .i64 z.a.p)) g (entC z) t :=
  (((((h.set 0 _).set 1 _).set 2 _).set 3 _).set 4 _).set 5 _

/-! none -/
set_option maxRecDepth 100000 in
set_option maxHeartbeats 400000 in
theorem none_made (b mb : Nat) (cap : Am) (L : List Ent) (w : World) (h : Led w b mb cap L) :
    Calls Try.prog 29 #[ptr b] w fun e w' => e = .returned (.bool false) ∧ w = w' := by
  have c1 := h.blk.cell (j := 4) rfl
  clear h
  have he := fun w r => run_eql_map_nil (P := Try.prog) w 52 9 48 r Try.underlying52
  go_enter Try.func29, Try.ntmps29
  go_wp2
  go_ret
  exact ⟨rfl, rfl⟩
set_option maxRecDepth 100000 in
set_option maxHeartbeats 400000 in
theorem none_nil (w : World) :
    Calls Try.prog 29 #[.pointer none] w fun e w' => e = .returned (.bool true) ∧ w = w' := by
  go_enter Try.func29, Try.ntmps29
  go_wp2
  go_ret
  exact ⟨rfl, rfl⟩
set_option maxRecDepth 100000 in
set_option maxHeartbeats 400000 in
theorem none_unmade (b : Nat) (w : World) (h : w.cell? ⟨b, 4, none⟩ = some (.map none)) :
    Calls Try.prog 29 #[ptr b] w fun e w' => e = .returned (.bool true) ∧ w = w' := by
  have he := fun w r => run_eql_map_nil (P := Try.prog) w 52 9 48 r Try.underlying52
  go_enter Try.func29, Try.ntmps29
  go_wp2
  go_ret
  exact ⟨rfl, rfl⟩

/-! New -/
set_option maxRecDepth 100000 in
set_option maxHeartbeats 1000000 in
theorem lnew_ok (cap : Am) (w : World) (hc : cap.okB = true) :
    Calls Try.prog 8 #[amV cap] w fun e w' => ∃ b mb, e = .returned (.tuple #[ptr b, .int .i64 0]) ∧ w.heap.size ≤ b ∧ w.heap.size ≤ mb ∧ Led w' b mb cap [] ∧ Below w.heap.size w w' := by
  have HC := Lib.hid (Am.chk_yes hc)
  clear hc
  have hmm := @run_makeMap Try.prog
  go_enter Try.func8, Try.ntmps8
  go_wp2_with (go_at_call 28; refine (check_any cap _).mono ?_; rw [HC.out]; rintro e w1 ⟨rfl, hb⟩; have hq := (Blk.made w (amC cap) 28).kept hb; have c0 := hq.cell (j := 0) rfl; have c1 := hq.cell (j := 1) rfl; have c2 := hq.cell (j := 2) rfl; have c3 := hq.cell (j := 3) rfl; have HB1 := Lib.hid (below_and (below_alloc w _) hb); clear hb hq)
  go_ret2
  have hs := HB1.out.size
  refine ⟨w1.heap.size + 1, w1.heap.size, rfl, by omega, hs, ⟨by simpa using Blk.made (w1.alloc (.map #[] 0)) [.int .i64 cap.c, .int .i64 cap.r, .int .i64 cap.d, .int .i64 cap.p, .map (some w1.heap.size)] 54, (smap_made w1 _ _).kept (below_alloc _ _), by omega⟩, below_and (below_and HB1.out (below_alloc w1 _)) (below_alloc _ _)⟩
set_option maxRecDepth 100000 in
set_option maxHeartbeats 1000000 in
theorem lnew_bad (cap : Am) (w : World) (hc : cap.okB = false) :
    Calls Try.prog 8 #[amV cap] w fun e w' => e = .returned (.tuple #[.pointer none, .int .i64 2]) ∧ Below w.heap.size w w' := by
  have HC := Lib.hid (Am.chk_no hc)
  clear hc
  go_enter Try.func8, Try.ntmps8
  go_wp2_with (go_at_call 28; refine (check_any cap _).mono ?_; rw [HC.out]; rintro e w1 ⟨rfl, hb⟩; have HB1 := Lib.hid (below_and (below_alloc w _) hb); clear hb)
  go_ret2
  exact ⟨rfl, HB1.out⟩

/-! Get -/
theorem get_some {L : List Ent} {s : List UInt8} {e : Ent} (h : fnd L s = some e) : (entM L).get s = some (entV e) ∧ (entM L).hasK s = true := by rw [entM_get, entM_has, h]; exact ⟨rfl, rfl⟩
theorem get_none {L : List Ent} {s : List UInt8} (h : fnd L s = none) : (entM L).get s = none ∧ (entM L).hasK s = false := by rw [entM_get, entM_has, h]; exact ⟨rfl, rfl⟩
set_option maxRecDepth 100000 in
set_option maxHeartbeats 1000000 in
theorem lget_yes (b mb : Nat) (cap : Am) (L : List Ent) (s : ByteArray) (x : Ent) (w : World) (h : Led w b mb cap L) (hs : s.size ≤ maxLen) (hg : fnd L s.data.toList = some x) :
    Calls Try.prog 22 #[ptr b, .string s] w fun e w' => e = .returned (.tuple #[entV x, .int .i64 0]) ∧ Below w.heap.size w w' := by
  have H := Lib.hid h
  have HS := Lib.hid hs
  have HG := Lib.hid (get_some hg)
  have c4 := ((h.kept (below_alloc w (.cells #[.string ⟨#[]⟩, .string ⟨#[]⟩, .int .i64 0, .int .i64 0, .int .i64 0, .int .i64 0] 48))).blk).cell (j := 4) rfl
  clear h hs hg
  go_enter Try.func22, Try.ntmps22
  go_wp2_with (first
    | (go_at_call 29; refine (none_made b mb _ _ _ (by exact H.out.kept (below_alloc _ _))).mono ?_; rintro e w' ⟨rfl, rfl⟩)
    | (at_lookup; refine wpList_slook_ok _ rfl _ _ _ rfl 9 48 Try.underlying9 Try.underlying52 (ezero _) mb (entM L) rfl (by exact (H.out.kept (below_alloc _ _)).map) s rfl HS.out ?_; rw [HG.out.1, HG.out.2]; simp only [Option.getD_some]))
  refine bodyPost_ret (results_row_tmp rfl _ _ w.heap.size 48 #[.string x.n, .string x.i, .int .i64 x.a.c, .int .i64 x.a.r, .int .i64 x.a.d, .int .i64 x.a.p] (0, 0) _ rfl ((Blk.made w (entC x) 48).kept (below_alloc _ _)) Try.underlying48 rfl (by kernel_rfl)) rfl ?_
  exact ⟨rfl, below_and (below_alloc w _) (below_alloc _ _)⟩
set_option maxRecDepth 100000 in
set_option maxHeartbeats 1000000 in
theorem lget_no (b mb : Nat) (cap : Am) (L : List Ent) (s : ByteArray) (w : World) (h : Led w b mb cap L) (hs : s.size ≤ maxLen) (hg : fnd L s.data.toList = none) :
    Calls Try.prog 22 #[ptr b, .string s] w fun e w' => e = .returned (.tuple #[entV zE, .int .i64 6]) ∧ Below w.heap.size w w' := by
  have H := Lib.hid h
  have HS := Lib.hid hs
  have HG := Lib.hid (get_none hg)
  have c4 := ((h.kept (below_alloc w (.cells #[.string ⟨#[]⟩, .string ⟨#[]⟩, .int .i64 0, .int .i64 0, .int .i64 0, .int .i64 0] 48))).blk).cell (j := 4) rfl
  clear h hs hg
  go_enter Try.func22, Try.ntmps22
  go_wp2_with (first
    | (go_at_call 29; refine (none_made b mb _ _ _ (by exact H.out.kept (below_alloc _ _))).mono ?_; rintro e w' ⟨rfl, rfl⟩)
    | (at_lookup; refine wpList_slook_ok _ rfl _ _ _ rfl 9 48 Try.underlying9 Try.underlying52 (ezero _) mb (entM L) rfl (by exact (H.out.kept (below_alloc _ _)).map) s rfl HS.out ?_; rw [HG.out.1, HG.out.2]; simp only [Option.getD_none]))
  refine bodyPost_ret (results_row_tmp rfl _ _ w.heap.size 48 #[.string ⟨#[]⟩, .string ⟨#[]⟩, .int .i64 0, .int .i64 0, .int .i64 0, .int .i64 0] (0, 0) _ rfl ((Blk.made w (entC zE) 48).kept (below_alloc _ _)) Try.underlying48 rfl (by kernel_rfl)) rfl ?_
  exact ⟨rfl, below_and (below_alloc w _) (below_alloc _ _)⟩

/-! Capacity -/
set_option maxRecDepth 100000 in
set_option maxHeartbeats 1000000 in
theorem lcap_made (b mb : Nat) (cap : Am) (L : List Ent) (w : World) (h : Led w b mb cap L) :
    Calls Try.prog 25 #[ptr b] w fun e w' => e = .returned (amV cap) ∧ Below w.heap.size w w' := by
  have H := Lib.hid h
  have hk := (h.kept (below_alloc w (.cells #[.int .i64 0, .int .i64 0, .int .i64 0, .int .i64 0] 28))).blk
  have c0 := hk.cell (j := 0) rfl
  have c1 := hk.cell (j := 1) rfl
  have c2 := hk.cell (j := 2) rfl
  have c3 := hk.cell (j := 3) rfl
  clear h hk
  go_enter Try.func25, Try.ntmps25
  go_wp2_with (go_at_call 29; refine (none_made b mb _ _ _ (by exact H.out.kept (below_alloc _ _))).mono ?_; rintro e w' ⟨rfl, rfl⟩)
  refine bodyPost_ret (results_row rfl _ _ w.heap.size 28 #[.int .i64 cap.c, .int .i64 cap.r, .int .i64 cap.d, .int .i64 cap.p] (0, 0) _ rfl (Blk.made w (amC cap) 28) Try.underlying28 rfl (by kernel_rfl)) rfl ?_
  exact ⟨rfl, below_alloc w _⟩

/-! the picking functions -/
/-- room's: it is in a place, and not the one aside -/
def inB (s t : ByteArray) (e : Ent) : Bool := (e.i.toList == s.toList) && !(e.n.toList == t.toList)
set_option maxRecDepth 100000 in
set_option maxHeartbeats 1000000 in
theorem pick1_any (x : Ent) (s t : ByteArray) (p q : Nat) (w : World) (h0 : w.cell? ⟨p, 0, none⟩ = some (.string s)) (h1 : w.cell? ⟨q, 0, none⟩ = some (.string t)) :
    Calls Try.prog 47 #[entV x, ptr p, ptr q] w fun e w' => e = .returned (.bool (inB s t x)) ∧ Below w.heap.size w w' := by
  have k0 := cell_kept h0 (below_alloc w (.cells #[.string x.n, .string x.i, .int .i64 x.a.c, .int .i64 x.a.r, .int .i64 x.a.d, .int .i64 x.a.p] 48))
  have k1 := cell_kept h1 (below_alloc w (.cells #[.string x.n, .string x.i, .int .i64 x.a.c, .int .i64 x.a.r, .int .i64 x.a.d, .int .i64 x.a.p] 48))
  cases hq : (x.i.toList == s.toList)
  · have HR : Hid (inB s t x = false) := Lib.hid (by unfold inB; rw [hq]; rfl)
    clear h0 h1
    go_enter Try.func47, Try.ntmps47
    go_wp2
    go_ret
    exact ⟨ret_bool HR.out.symm, below_alloc w _⟩
  · cases hr : (x.n.toList == t.toList)
    · have HR : Hid (inB s t x = true) := Lib.hid (by unfold inB; rw [hq, hr]; rfl)
      have hr2 : (x.n.toList != t.toList) = true := by rw [bne, hr]; rfl
      clear h0 h1
      go_enter Try.func47, Try.ntmps47
      go_wp2
      go_ret
      exact ⟨ret_bool HR.out.symm, below_alloc w _⟩
    · have HR : Hid (inB s t x = false) := Lib.hid (by unfold inB; rw [hq, hr]; rfl)
      have hr2 : (x.n.toList != t.toList) = false := by rw [bne, hr]; rfl
      clear h0 h1
      go_enter Try.func47, Try.ntmps47
      go_wp2
      go_ret
      exact ⟨ret_bool HR.out.symm, below_alloc w _⟩
/-- Resize's: it is in a place -/
def inR (s : ByteArray) (e : Ent) : Bool := e.i.toList == s.toList
set_option maxRecDepth 100000 in
set_option maxHeartbeats 1000000 in
theorem pick2_any (x : Ent) (s : ByteArray) (p : Nat) (w : World) (h0 : w.cell? ⟨p, 0, none⟩ = some (.string s)) :
    Calls Try.prog 33 #[entV x, ptr p] w fun e w' => e = .returned (.bool (inR s x)) ∧ Below w.heap.size w w' := by
  have k0 := cell_kept h0 (below_alloc w (.cells #[.string x.n, .string x.i, .int .i64 x.a.c, .int .i64 x.a.r, .int .i64 x.a.d, .int .i64 x.a.p] 48))
  cases hq : (x.i.toList == s.toList)
  all_goals
    have HR := Lib.hid (show inR s x = _ from hq)
    clear h0
    go_enter Try.func33, Try.ntmps33
    go_wp2
    go_ret
    exact ⟨ret_bool HR.out.symm, below_alloc w _⟩
end Go.Proofs.Ytighcnecajgkpaa
