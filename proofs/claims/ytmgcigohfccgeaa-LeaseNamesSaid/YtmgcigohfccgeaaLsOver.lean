/- The program's table of leases: Over; Heard. -/
import Derived.Test.YtmgcigohfccgeaaLsNames
import Derived.Test.YtmgcigohfccgeaaPast
import Derived.Test.YtmgcigohfccgeaaMaps2
import Derived.Test.YtmgcigohfccgeaaTabNil
namespace Go.Proofs.Ytmgcigohfccgeaa
open Go.RowKit

def lsDue (x : Ls) (s : ByteArray) : Bool := match hfd x.R s.data.toList with
  | none => false
  | some y => decide (lsLeftOf x y > 0)
set_option maxRecDepth 100000 in
set_option maxHeartbeats 1000000 in
theorem lsover1 (k b mb bx : Nat) (n : Int) (x : Ls) (s : ByteArray) (w : World) (h : LsT w b mb n x) (hI : LsI k x) (hk : k ≤ 100000) (hs : s.size ≤ maxLen) (hc : w.cell? ⟨bx, 0, none⟩ = some (ptr b)) (y : Hr) (hf : hfd x.R s.data.toList = some y) :
    Calls Try.prog 66 #[.string s, ptr bx] w fun e w' => e = .returned (.bool (lsDue x s)) ∧ Below w.heap.size w w' := by
  have hn := hI.now
  have hw := hI.wait
  have hy := hI.seen y (hfd_mem hf).1
  have x0 := Past.cell hc
  have x1 := Past.blk h.blk (j := 3) rfl
  have x2 : ∀ t : Past w, (Instr.lookup 69 (.map (some mb)) (.string s) false).run Try.prog t.val = .ok (hv y.b y.m y.a) t.val := fun t => by
    have := SMap.look (h.kept t.h).map Try.underlying9 Try.underlying69 (hzero t.val) hs
    rw [hr_get hf] at this
    exact this
  have HC : Hid (∀ t : Past w, Calls Try.prog 59 #[ptr b, hv y.b y.m y.a] t.val fun e w' => e = .returned (.int .i64 (lsLeftOf x y)) ∧ Below t.val.heap.size t.val w') := Lib.hid (fun t => lleft_any b mb n x.wait x.now _ _ _ _ _ (h.kept t.h) _ rfl (by omega) (by omega) (by omega))
  have HD : Hid (lsDue x s = decide (lsLeftOf x y > 0)) := Lib.hid (by unfold lsDue; rw [hf])
  rw [HD.out]
  generalize lsLeftOf x y = z at HC ⊢
  clear h hI hk hs hc hf hn hw hy HD
  go_enter Try.func66, Try.ntmps66
  go_upto_region 1 with fail
  refine wp_region_past (by kernel_rfl) (by kernel_rfl) ?_
  repeat (go_big_quiet_step (first | (go_at_call 59; exact past_call (HC.out _))))
  refine wpQuiet_nil ?_
  intro _ hw'
  obtain ⟨t, hw''⟩ := hw'
  subst hw''
  go_wp2
  go_ret
  exact ⟨rfl, t.h⟩

theorem lsLeft_nonneg (x : Ls) (y : Hr) : 0 ≤ lsLeftOf x y := by unfold lsLeftOf; omega
theorem lsOver_eq (x : Ls) (hr : HRise x.R) : (lsNames x).filter (fun s => !lsDue x s) = lsOver x := by
  unfold lsNames lsOver
  rw [List.filter_map]
  congr 1
  refine List.filter_congr fun y hy => ?_
  have h1 : hfd x.R y.n.data.toList = some y := hfd_of hr.apart hy
  have h2 := lsLeft_nonneg x y
  show (!lsDue x y.n) = _
  unfold lsDue
  rw [h1]
  by_cases h3 : lsLeftOf x y = 0
  · simp [h3]
  · have h4 : lsLeftOf x y > 0 := by omega
    simp [h3, h4]
theorem tdelete_nil' (f : Value) (w : World) :
    Calls Try.prog 65 #[.slice none 0 0, f] w fun e w' => e = .returned (.slice none 0 0) ∧ w = w' := tdelete_nil f w
set_option maxRecDepth 100000 in
set_option maxHeartbeats 1000000 in
theorem lsover_all (k b mb : Nat) (n : Int) (x : Ls) (w : World) (h : LsT w b mb n x) (hI : LsI k x) (hk : k ≤ 100000) :
    Calls Try.prog 36 #[ptr b] w fun e w' => ∃ v, e = .returned v ∧ w'.ownsRow w.heap.size 9 1 v (lsOver x).length (strV (lsOver x)) ∧ Below w.heap.size w w' := by
  have hll := hI.len
  have hNM := lsnames_all k b mb n x (w.alloc (.cells #[ptr b] 28)) (h.kept (below_alloc w _)) hI hk
  have HNM := Lib.hid hNM
  have HDEL : Hid (∀ (v : Value) (w3 : World), w3.ownsRow (w.heap.size + 1) 9 1 v x.R.length (strV (lsNames x)) → Below (w.heap.size + 1) (w.alloc (.cells #[ptr b] 28)) w3 →
      Calls Try.prog 65 #[v, .func (.func 66) #[] #[.pointer (some ⟨w.heap.size, 0, none⟩)]] w3 fun e w' => ∃ v', e = .returned v' ∧ w'.ownsRow w.heap.size 9 1 v' (lsOver x).length (strV (lsOver x)) ∧ Below w.heap.size w w') := Lib.hid (by
    intro v w3 ho hb
    have hb0 : Below w.heap.size w w3 := (below_alloc w _).trans (hb.mono (by omega))
    rcases ho.2 with ⟨rfl, h0⟩ | ⟨g, cap, cur, rfl, hbg, hh, -⟩
    · refine (tdelete_nil _ w3).mono ?_
      rintro e w' ⟨rfl, rfl⟩
      have hR : x.R = [] := List.eq_nil_of_length_eq_zero h0
      have hO : lsOver x = [] := by unfold lsOver; rw [hR]; rfl
      rw [hO]
      exact ⟨_, rfl, World.ownsRow_nil _ _ _ _, hb0⟩
    · have hlen : (lsNames x).length = x.R.length := by unfold lsNames; simp
      rw [← hlen] at ho ⊢
      refine (deleteFunc_own 66 #[ptr w.heap.size] (lsDue x) (lsNames x) (w.heap.size + 1) g cap w3 ho (by rw [hlen]; omega) (Go.Proofs.enters_of Try.func66 (by kernel_rfl) rfl) ?_ (lsOver x).length (by rw [lsOver_eq x hI.rise])).mono ?_
      · intro s hs w' hw'
        have hb1 : Below (w.heap.size + 1) (w.alloc (.cells #[ptr b] 28)) w' := hb.trans (hw'.below (fun q hq => by rw [List.mem_singleton.1 hq]; exact hbg) (by have := hb.size; simpa using this))
        have hb2 : Below w.heap.size w w' := (below_alloc w _).trans (hb1.mono (by omega))
        obtain ⟨y, hy, rfl⟩ := List.mem_map.1 hs
        exact lsover1 k b mb w.heap.size n x y.n w' (h.kept hb2) hI hk (hI.size y hy) (((Blk.made w [ptr b] 28).below hb1 (by omega)).cell (j := 0) rfl) y (hfd_of hI.rise.apart hy)
      · rintro e w' ⟨rfl, ho', hf'⟩
        rw [lsOver_eq x hI.rise] at ho'
        exact ⟨_, rfl, own_mono ho' (by omega), hb0.trans (hf'.below (fun q hq => by rw [List.mem_singleton.1 hq]; omega) hb0.size)⟩)
  clear h hI hNM hll hk
  go_enter Try.func36, Try.ntmps36
  go_wp2_with (first
    | (go_at_call 45; refine HNM.out.mono ?_; rintro e w3 ⟨v3, rfl, ho3, hb3⟩; have HO3 := Lib.hid ho3; have HB3 := Lib.hid hb3; clear ho3 hb3)
    | (go_at_call 65; refine (HDEL.out _ _ (by simpa using HO3.out) (by simpa using HB3.out)).mono ?_; rintro e w4 ⟨v4, rfl, ho4, hb4⟩; have HO4 := Lib.hid ho4; have HB4 := Lib.hid hb4; clear ho4 hb4))
  go_ret
  exact ⟨_, rfl, HO4.out, HB4.out⟩

/-! Heard -/
set_option maxRecDepth 100000 in
set_option maxHeartbeats 1000000 in
theorem lsheard_no (b mb : Nat) (n : Int) (x : Ls) (s : ByteArray) (bt nw : Int) (w : World) (h : LsT w b mb n x) (h0 : x.wait ≠ 0) (hs : s.size ≤ maxLen) (hf : hfd x.R s.data.toList = none) :
    Calls Try.prog 18 #[ptr b, .string s, .int .u64 bt, .int .i64 nw] w fun e w' => e = .returned (.int .i64 6) ∧ Below w.heap.size w w' := by
  have HF := Lib.hid (lfind_no b mb n x s w h h0 hs hf)
  clear h h0 hs hf
  go_enter Try.func18, Try.ntmps18
  go_wp2_with (go_at_call 58; refine HF.out.mono ?_; rintro e w1 ⟨rfl, hb⟩; have HB := Lib.hid (below_and hb (below_alloc w1 (.cells #[.int .u64 0, .int .i64 0, .int .i64 0] 91))); clear hb)
  go_ret
  exact ⟨rfl, HB.out⟩
/-- refused -/
theorem lsheard_ref (b mb : Nat) (n : Int) (x : Ls) (s : ByteArray) (bt nw : Int) (y : Hr) (w : World) (h : LsT w b mb n x) (h0 : x.wait ≠ 0) (hs : s.size ≤ maxLen) (hf : hfd x.R s.data.toList = some y) (er : Int)
    (hc : (er = 2 ∧ (bt == 0) = true) ∨ (er = 2 ∧ (bt == 0) = false ∧ decide (nw < 0) = true) ∨ (er = 11 ∧ (bt == 0) = false ∧ decide (nw < 0) = false ∧ decide (bt < y.b) = true) ∨ (er = 11 ∧ (bt == 0) = false ∧ decide (nw < 0) = false ∧ decide (bt < y.b) = false ∧ (bt == y.b) = true ∧ decide (nw < y.m) = true)) :
    Calls Try.prog 18 #[ptr b, .string s, .int .u64 bt, .int .i64 nw] w fun e w' => e = .returned (.int .i64 er) ∧ Below w.heap.size w w' := by
  have HF := Lib.hid (lfind_yes b mb n x.wait x.now _ s _ _ _ w h h0 hs (hr_get hf))
  obtain ⟨yn, yb, ym, ya⟩ := y
  clear h h0 hs hf
  rcases hc with ⟨rfl, h1⟩ | ⟨rfl, h1, h2⟩ | ⟨rfl, h1, h2, h3⟩ | ⟨rfl, h1, h2, h3, h4, h5⟩
  all_goals
    go_enter Try.func18, Try.ntmps18
    go_wp2_with (go_at_call 58; refine HF.out.mono ?_; rintro e w1 ⟨rfl, hb⟩; have HB := Lib.hid (below_and hb (below_alloc w1 (.cells #[.int .u64 yb, .int .i64 ym, .int .i64 ya] 91))); clear hb)
    go_ret
    exact ⟨rfl, HB.out⟩
end Go.Proofs.Ytmgcigohfccgeaa
