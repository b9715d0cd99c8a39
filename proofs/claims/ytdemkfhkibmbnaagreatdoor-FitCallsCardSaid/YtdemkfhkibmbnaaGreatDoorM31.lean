/- FtKey, FtRoom, FtRoom2, FtLaw2, FtView, FtNeed, FtRoom3, RdMem. -/
import Derived.Test.YtdemkfhkibmbnaaGreatDoorM30
import Derived.Test.YtdemkfhkibmbnaaGreatDoorChecked
set_option maxRecDepth 100000
set_option maxHeartbeats 8000000
namespace Go.Proofs.YtdemkfhkibmbnaaGreatDoor.Ft
open Go.RowKit Go.Proofs.YtdemkfhkibmbnaaGreatDoor Go.Proofs.YtdemkfhkibmbnaaGreatDoor.Ru
abbrev kV (u : ByteArray) (b : Int) : Value := .agg #[.string u, .int .i64 b]
def kT (u : ByteArray) (b : Int) : List UInt8 := keyBytes [.string u.data.toList, .int .i64 b]
theorem gkeyed : Maps.Keyed Tryz.prog 56 := Maps.Keyed.of_law (deep_law_laid Tryz.laidOut (m := 9) (by decide) (of_decide_eq_true (by kernel_rfl)) (by kernel_rfl) (by kernel_rfl))
theorem lits_str {u : ByteArray} (hu : u.size ≤ maxLen) (d : Nat) : Tryz.prog.keyLits (d + 1) 9 [.string u] = some [.string u.data.toList] := by
 unfold Program.keyLits
 rw [Tryz.underlying9]
 simp [hu]
theorem lits_int {b : Int} (hb : (Lit.int .i64 b).wf = true) (d : Nat) : Tryz.prog.keyLits (d + 1) 3 [.int .i64 b] = some [.int .i64 b] := by
 unfold Program.keyLits
 rw [Tryz.underlying3]
 simp [hb]
theorem lits_k {u : ByteArray} {b : Int} (hu : u.size ≤ maxLen) (hb : (Lit.int .i64 b).wf = true) (d : Nat) : Tryz.prog.keyLits (d + 2) 56 [.string u, .int .i64 b] = some [.string u.data.toList, .int .i64 b] := by
 unfold Program.keyLits
 rw [Tryz.underlying56]; have c0 : Tryz.prog.cellsOf 56 = 2 := by kernel_rfl
 have c1 : Tryz.prog.cellsOf 9 = 1 := by kernel_rfl
 have c2 : Tryz.prog.cellsOf 3 = 1 := by kernel_rfl
 simp [c0, c1, c2, lits_str hu, lits_int hb]
theorem keyOf_k {u : ByteArray} {b : Int} (hu : u.size ≤ maxLen) (hb : (Lit.int .i64 b).wf = true) : keyOf Tryz.prog 56 (kV u b) = some (.string (kT u b)) := by
 unfold keyOf
 rw [Tryz.underlying56]; have h1 : Tryz.prog.keyType 56 = true := by kernel_rfl
 have h2 : (kV u b).formed Tryz.prog 56 = true := by
  unfold Value.formed
  have c0 : Tryz.prog.cellsOf 56 = 2 := by kernel_rfl
  rw [Tryz.underlying56]
  simp [c0]
 have h3 : Tryz.prog.types.size + 1 = (Tryz.prog.types.size - 1) + 2 := by kernel_rfl
 have h4 := lits_k hu hb (Tryz.prog.types.size - 1); rw [← h3] at h4; simp only [h1, h2]; have h5 : (kV u b).cells.toList = [.string u, .int .i64 b] := rfl; rw [h5, h4]
 rfl
theorem kT_inj {u v : ByteArray} {b c : Int} (hu : u.size ≤ maxLen) (hb : (Lit.int .i64 b).wf = true) (hv : v.size ≤ maxLen) (hc : (Lit.int .i64 c).wf = true) (h : kT u b = kT v c) : u = v ∧ b = c := by
 have h1 := keyOf_k hu hb; have h2 := keyOf_k hv hc; rw [h] at h1; have h3 := gkeyed.inj h1 h2; simp only [Value.agg.injEq, Array.mk.injEq, List.cons.injEq, Value.string.injEq, Value.int.injEq, true_and, and_true] at h3; exact h3
theorem ins_find (s : List UInt8) (v : Value) (x : List UInt8) : ∀ m : SM, (∀ p ∈ m, p.1 ≠ s) → ((SM.ins s v m).find? (fun p => p.1 == x)) = if s = x then some (s, v) else m.find? (fun p => p.1 == x)
 | [], _ => by
  unfold SM.ins
  by_cases h : s = x
  ·simp [h]
  ·simp [h]
 | y :: r, hm => by
  unfold SM.ins
  have hy := hm y (by simp)
  by_cases h : s = x
  ·subst h
   split
   ·simp
   ·rw [List.find?_cons, if_pos rfl]
    have : (y.1 == s) = false := by simpa using hy
    rw [this, ins_find s v s r (fun p hp => hm p (by simp [hp])), if_pos rfl]
  ·split
   ·rw [List.find?_cons]
    have : (s == x) = false := by simpa using h
    simp only [this, if_neg h]
   ·rw [List.find?_cons, List.find?_cons, ins_find s v x r (fun p hp => hm p (by simp [hp])), if_neg h]
theorem get_put (m : SM) (s : List UInt8) (v : Value) (x : List UInt8) : (m.put s v).get x = if s = x then some v else m.get x := by
 unfold SM.get SM.put
 rw [ins_find s v x _ (fun p hp => by
  unfold SM.del at hp
  have := (List.mem_filter.1 hp).2
  simpa using this)]
 by_cases h : s = x
 ·rw [if_pos h, if_pos h]; rfl
 ·rw [if_neg h, if_neg h]
  congr 1
  unfold SM.del
  rw [List.find?_filter]
  congr 1
  funext p
  by_cases hp : p.1 = x
  ·have : p.1 ≠ s := fun e => h (e.symm.trans hp)
   simp [hp, Ne.symm h]
  ·simp [hp]
def Seen (m : SM) (S : List (List UInt8 × Int)) : Prop := (∀ (j : List UInt8) (i : Int), j.length ≤ 1000000000000000 → (Lit.int .i64 i).wf = true → m.get (kT (bs j) i) = if (j, i) ∈ S then some (.bool true) else none) ∧ m.length ≤ S.length
theorem seen_nil : Seen [] [] := ⟨fun j i _ _ => by simp [SM.get], Nat.le_refl _⟩
theorem bs_eq {a b : List UInt8} (h : bs a = bs b) : a = b := by
 have := congrArg (fun s : ByteArray => s.data.toList) h
 simpa [bs] using this
theorem seen_put {m : SM} {S : List (List UInt8 × Int)} (h : Seen m S) {j : List UInt8} {i : Int} (hj : j.length ≤ 1000000000000000) (hi : (Lit.int .i64 i).wf = true) : Seen (m.put (kT (bs j) i) (.bool true)) ((j, i) :: S) := by
 refine ⟨fun j' i' hj' hi' => ?_, by have := SM.length_put m (kT (bs j) i) (.bool true); have := h.2; simp; omega⟩; rw [get_put, h.1 j' i' hj' hi']
 by_cases e : (j', i') = (j, i)
 ·cases e
  rw [if_pos rfl, if_pos (by simp)]
 ·have hk : ¬ kT (bs j) i = kT (bs j') i' := fun hk => by
   obtain ⟨h1, h2⟩ := kT_inj (by rw [bs_size]; unfold maxLen; omega) hi (by rw [bs_size]; unfold maxLen; omega) hi' hk; exact e (by rw [bs_eq h1, h2])
  rw [if_neg hk]
  congr 1
  simp [e]
theorem tkeyed_zero (w : World) : (zeroValue 4).run Tryz.prog w = .ok (.bool false) w := by kernel_rfl
theorem below_drew' {n : Nat} {a w : World} (h : Below n a w) : Below n a w.drew := Below.drewN' h 1
theorem frp_drew {P : Nat → Prop} {a w : World} (h : Frp P a w) : Frp P a w.drew := h.next (below_drewN 1)
theorem frp_set {R : Nat} {a w : World} (h : Frp (fun k => k = R) a w) (i : Nat) (u : Value) : Frp (fun k => k = R) a (w.setCell ⟨R, i, none⟩ u) := Frp.set h (p := ⟨R, i, none⟩) rfl u
theorem goersF_any (N : Ne) (V : Vw) (vl va vu : Value) (p : List UInt8) (w : World) (hn : Nds w N vl) (hv : Vws w V va vu) (hl : V.us.length ≤ 1000) :
  Calls Tryz.prog 42 #[neV N vl, vwV V va vu, .string (bs p)] w fun r w' => ∃ v', r = .returned v' ∧ Usw w' v' (goersP N V p) ∧ Below w.heap.size w w' := by
 obtain ⟨pn, cn, rfl⟩ := hn.slice; obtain ⟨⟨pa, ca, rfl⟩, pu, cu, rfl⟩ := hv.slices; obtain ⟨ln, hln⟩ : ∃ ln, ln = N.L.length := ⟨_, rfl⟩; obtain ⟨la, hla⟩ : ∃ la, la = V.at'.length := ⟨_, rfl⟩; obtain ⟨lu, hlu⟩ : ∃ lu, lu = V.us.length := ⟨_, rfl⟩; have HU : Hid (Usw w (.slice pu lu cu) V.us) := zz (by rw [hlu]; exact hv.us); rw [← hln, ← hla, ← hlu]; have HL := zz hl; clear hn hv hl hln hla hlu; obtain ⟨X, hX⟩ : ∃ X, X = w.heap.size := ⟨_, rfl⟩; go_enter Tryz.func42, Tryz.ntmps42; go_upto_region 1 with fail
 refine at_hide (F := fun w' => Blk w' X (neC N (.slice pn ln cn)) 28 ∧ Blk w' (X + 1) (vwC V (.slice pa la ca) (.slice pu lu cu)) 32 ∧ Blk w' (X + 2) [.string (bs p)] 9 ∧ Below w.heap.size w w') ⟨by
  rw [hX]; exact ((Blk.made w (neC N (.slice pn ln cn)) _).alloc _).alloc _, by
  rw [hX]; have := (Blk.made (w.alloc (.cells (neC N (.slice pn ln cn)).toArray 28)) (vwC V (.slice pa la ca) (.slice pu lu cu)) 32).alloc (.cells #[.string (bs p)] 9); rw [show (w.alloc (.cells (neC N (.slice pn ln cn)).toArray 28)).heap.size = w.heap.size + 1 from by simp] at this
  exact this, by
  rw [hX]; have := Blk.made ((w.alloc (.cells (neC N (.slice pn ln cn)).toArray 28)).alloc (.cells (vwC V (.slice pa la ca) (.slice pu lu cu)).toArray 32)) [.string (bs p)] 9; rw [show ((w.alloc (.cells (neC N (.slice pn ln cn)).toArray 28)).alloc (.cells (vwC V (.slice pa la ca) (.slice pu lu cu)).toArray 32)).heap.size = w.heap.size + 2 from by simp] at this
  exact this, below_and (below_and (below_alloc _ _) (below_alloc _ _)) (below_alloc _ _)⟩ ?_
 intro w1 hF; rw [← hX]; have HB1 : Hid (Below w.heap.size w w1) := zz hF.2.2.2; have c7 := hF.2.1.cell (j := 7) rfl
 have HWH : Hid (Calls Tryz.prog 45 #[.slice pu lu cu, .func (.func 73) #[] #[ptr (X + 2), ptr X]] w1 fun r w' => ∃ v', r = .returned v' ∧ Usw w' v' (goersP N V p) ∧ Below w1.heap.size w1 w') := zz ((where_goers _ V.us (X + 2) X N p w1 (HU.o.below HB1.o) (hF.2.2.1.cell (j := 0) rfl) (hF.1.cell (j := 1) rfl) HL.o).mono fun r w' h => by
  obtain ⟨v', h1, h2, h3⟩ := h
  exact ⟨v', h1, usw_own h2, h3⟩)
 clear hF hX; go_wp2_with (go_at_call 45; refine HWH.o.mono ?_; rintro r w2 ⟨v', rfl, hu, hb⟩; have HU2 := zz hu; have HB2 := zz (below_and HB1.o hb); clear hu hb); go_ret; exact ⟨_, rfl, HU2.o, HB2.o⟩
def zeroU : Us := ⟨[], 0, 0, Am.zero, [], false⟩
def envR (l : List Us) (p : List UInt8) : Us × Bool := match envP l p with | some u => (u, true) | none => (zeroU, false)
theorem env_is (p : List UInt8) (u : Us) : isEnv p u = (u.e && (u.n == []) && (taskO u.j u.i).isSome && ((taskO u.j u.i).getD [] == p)) := by
 unfold isEnv
 cases taskO u.j u.i with
 | none => simp
 | some x => simp
theorem env_at {l : List Us} {p : List UInt8} {k : Nat} (hk : k < l.length) (h : isEnv p l[k] = true) (h2 : ∀ j (h : j < l.length), j < k → isEnv p l[j] = false) : envR l p = (l[k], true) := by
 unfold envR envP
 have : l.find? (isEnv p) = some l[k] := by
  rw [List.find?_eq_some_iff_getElem]; exact ⟨h, k, hk, rfl, fun j hj => by simpa using h2 j (by omega) hj⟩
 rw [this]
theorem env_no {l : List Us} {p : List UInt8} (h : ∀ j (h : j < l.length), isEnv p l[j] = false) : envR l p = (zeroU, false) := by
 unfold envR envP
 have : l.find? (isEnv p) = none := by
  rw [List.find?_eq_none]; intro x hx; obtain ⟨j, hj, rfl⟩ := List.getElem_of_mem hx
  simpa using h j hj
 rw [this]
theorem size_us : (Tryz.prog.info? 58).map (·.size) = some 9 := by kernel_rfl
structure EnW (w wx : World) (X : Nat) (C : List Value) : Prop where
 bx : Blk wx X C 32
 br : Blk wx (X + 1) (usC zeroU) 58
 hb : Below w.heap.size w wx
theorem EnW.kept {w wx wy : World} {X : Nat} {C : List Value} (h : EnW w wx X C) (hb : Below wx.heap.size wx wy) : EnW w wy X C := ⟨h.bx.kept hb, h.br.kept hb, below_and h.hb hb⟩
theorem blk_fill9 {w : World} {g : Nat} {C : List Value} {a b c d e f h i j : Value} {t : TypeId} (hb : Blk w g C t) (hc : C.length = 9) :
  Blk (((((((((w.setCell ⟨g, 0, none⟩ a).setCell ⟨g, 1, none⟩ b).setCell ⟨g, 2, none⟩ c).setCell ⟨g, 3, none⟩ d).setCell ⟨g, 4, none⟩ e).setCell ⟨g, 5, none⟩ f).setCell ⟨g, 6, none⟩ h).setCell ⟨g, 7, none⟩ i).setCell ⟨g, 8, none⟩ j) g [a, b, c, d, e, f, h, i, j] t := by
 match C, hc with
 | [_, _, _, _, _, _, _, _, _], _ => exact ((((((((hb.set 0 a).set 1 b).set 2 c).set 3 d).set 4 e).set 5 f).set 6 h).set 7 i).set 8 j
theorem below_fill9 {w w1 : World} {n g : Nat} (hb : Below n w w1) (hg : n ≤ g) (a b c d e f h i j : Value) :
  Below n w (((((((((w1.setCell ⟨g, 0, none⟩ a).setCell ⟨g, 1, none⟩ b).setCell ⟨g, 2, none⟩ c).setCell ⟨g, 3, none⟩ d).setCell ⟨g, 4, none⟩ e).setCell ⟨g, 5, none⟩ f).setCell ⟨g, 6, none⟩ h).setCell ⟨g, 7, none⟩ i).setCell ⟨g, 8, none⟩ j) :=
 ((((((((hb.setCell (by simpa using hg) _).setCell (by simpa using hg) _).setCell (by simpa using hg) _).setCell (by simpa using hg) _).setCell (by simpa using hg) _).setCell (by simpa using hg) _).setCell (by simpa using hg) _).setCell (by simpa using hg) _).setCell (by simpa using hg) _
theorem envelope_any (V : Vw) (va vu : Value) (p : List UInt8) (w : World) (hv : Vws w V va vu) (hl : V.us.length ≤ 1000) (hj : ∀ u ∈ V.us, u.j.length ≤ 1000000000000000) :
  Calls Tryz.prog 55 #[vwV V va vu, .string (bs p)] w fun r w' => r = .returned (.tuple #[usV (envR V.us p).1, .bool (envR V.us p).2]) ∧ Below w.heap.size w w' := by
 obtain ⟨⟨pa, ca, rfl⟩, pu, cu, rfl⟩ := hv.slices; obtain ⟨la, hla⟩ : ∃ la, la = V.at'.length := ⟨_, rfl⟩; obtain ⟨n, hn⟩ : ∃ n, n = V.us.length := ⟨_, rfl⟩; have HU : Hid (Usw w (.slice pu n cu) V.us) := zz (by rw [hn]; exact hv.us); have HN := zz hn; rw [← hla, ← hn]; have hn63 : (n : Int) ≤ 1000 := by omega
 have HJ := zz hj; clear hv hl hla hn hj; obtain ⟨l, hll⟩ : ∃ l, l = V.us := ⟨_, rfl⟩; rw [← hll] at HU HN HJ ⊢; clear hll; obtain ⟨X, hX⟩ : ∃ X, X = w.heap.size := ⟨_, rfl⟩; go_enter Tryz.func55, Tryz.ntmps55; go_upto_region 1 with fail; obtain ⟨C, hC⟩ : ∃ C, C = vwC V (.slice pa la ca) (.slice pu n cu) := ⟨_, rfl⟩
 refine at_hide (F := fun w' => EnW w w' X C) ⟨by
  rw [hX, hC]; exact (Blk.made w (vwC V (.slice pa la ca) (.slice pu n cu)) _).alloc _, by
  rw [hX]; have := Blk.made (w.alloc (.cells (vwC V (.slice pa la ca) (.slice pu n cu)).toArray 32)) (usC zeroU) 58; rw [show (w.alloc (.cells (vwC V (.slice pa la ca) (.slice pu n cu)).toArray 32)).heap.size = w.heap.size + 1 from by simp] at this
  exact this, below_and (below_alloc _ _) (below_alloc _ _)⟩ ?_
 intro w1 hF; rw [← hX]; have HW1 := zz hF; have c7 : w1.cell? ⟨X, 7, none⟩ = some (.slice pu n cu) := hF.bx.cell (j := 7) (by rw [hC]; rfl); have HXW : Hid (w.heap.size ≤ X) := zz (by omega); clear hF hX hC; go_wp2; clear c7
 go_loopw [13] (fun i wr => ∃ k : Nat, k ≤ n ∧ i = .int .i64 (k : Int) ∧ Hid (∀ j (h : j < l.length), j < k → isEnv p l[j] = false) ∧ Hid (EnW w wr X C)) (fun i _ => n - (intOf i).toNat)
 case atStart => exact ⟨0, Nat.zero_le _, rfl, zz (fun j _ h => by omega), HW1⟩
 case round =>
  obtain ⟨k, hk, rfl, HF, HW⟩ := hrel
  by_cases hlt : k < n
  ·have HKN : Hid (k < l.length) := zz (by have := HN.o; omega)
   obtain ⟨u, hu⟩ : ∃ u, u = l[k]'HKN.o := ⟨_, rfl⟩; have HLC := zz ((HU.o.below HW.o.hb).at HKN.o); rw [← hu] at HLC; have HUK := zz hu; have HJU : Hid (u.j.length ≤ 1000000000000000) := zz (by rw [hu]; exact HJ.o _ (List.getElem_mem _)); clear hu; obtain ⟨b, o, rfl, hcell⟩ := HLC.o; have q0 := hcell 0 _ rfl; rw [Nat.add_zero] at q0; have q1 := hcell 1 _ rfl; have q2 := hcell 2 _ rfl; have q3 := hcell 3 _ rfl; have q4 := hcell 4 _ rfl; have q5 := hcell 5 _ rfl; have q6 := hcell 6 _ rfl; have q7 := hcell 7 _ rfl; have q8 := hcell 8 _ rfl; clear hcell HLC; go_upto_region 4 with fail; obtain ⟨Y, hY⟩ : ∃ Y, Y = wr.heap.size := ⟨_, rfl⟩; refine at_hide (F := fun w' => Blk w' Y (usC u) 58 ∧ EnW w w' X C) ⟨by rw [hY]; exact Blk.made wr (usC u) _, HW.o.kept (below_alloc _ _)⟩ ?_; rw [← hY]; intro w3 hF; have HW3 := zz hF.2; have HY3 := zz hF.1; clear hF hY q0 q1 q2 q3 q4 q5 q6 q7 q8 HW; obtain ⟨y0, y1⟩ := cl2 HY3.o; obtain ⟨s, hs⟩ : ∃ s, s = (taskO u.j u.i).getD [] := ⟨_, rfl⟩; obtain ⟨te, hte⟩ : ∃ te, te = taskE u.j u.i := ⟨_, rfl⟩; have HTS : Hid (Calls Tryz.prog 47 #[.agg #[.string (bs u.j), .int .i64 u.i]] w3 fun r w' => r = .returned (.tuple #[.string (bs s), .int .i64 te]) ∧ Below w3.heap.size w3 w') := zz (by rw [hs, hte]; exact task_any u.j u.i w3 HJU.o)
   have HIS : Hid (isEnv p u = (u.e && (u.n == []) && decide (te = 0) && (s == p))) := zz (by
    rw [env_is, hs, hte]
    unfold taskE
    cases (taskO u.j u.i).isSome <;> rfl)
   clear hs hte; go_upto_region 5 with (go_at_call 47; refine HTS.o.mono ?_; rintro r w4 ⟨rfl, hb⟩; have HW4 := zz (HW3.o.kept hb); have HY4 := zz (HY3.o.kept hb); clear hb); clear y0 y1; obtain ⟨y0, y1, y2, y3, y4, y5, y6, y7, y8⟩ := cl9 HY4.o; have hq := bs_beq s p; have hz := nil_beq u.n; obtain ⟨q, hqq⟩ : ∃ q, q = (s == p) := ⟨_, rfl⟩; obtain ⟨z, hzz⟩ : ∃ z, z = (u.n == []) := ⟨_, rfl⟩; rw [← hqq] at hq HIS; rw [← hzz] at hz HIS; have hz2 : (bs u.n).toList.isEmpty = z := by rw [← hz]; cases (bs u.n).toList <;> rfl
   obtain ⟨e, he⟩ : ∃ e, e = u.e := ⟨_, rfl⟩; rw [← he] at HIS y8; have HEE := zz he; clear hqq hzz he
   by_cases hall : (e && z && decide (te = 0) && q) = true
   ·have HR : Hid (envR l p = (u, true)) := zz (by rw [HUK.o]; exact env_at HKN.o (by rw [← HUK.o, HIS.o]; exact hall) HF.o)
    simp only [Bool.and_eq_true, decide_eq_true_eq] at hall; obtain ⟨⟨⟨rfl, rfl⟩, rfl⟩, rfl⟩ := hall; have r0 := HW4.o.br.cell (j := 0) rfl; have f0 := HW4.o.br.free 0; have r1 := HW4.o.br.cell (j := 1) rfl; have f1 := HW4.o.br.free 1; have r2 := HW4.o.br.cell (j := 2) rfl; have f2 := HW4.o.br.free 2; have r3 := HW4.o.br.cell (j := 3) rfl; have f3 := HW4.o.br.free 3; have r4 := HW4.o.br.cell (j := 4) rfl; have f4 := HW4.o.br.free 4; have r5 := HW4.o.br.cell (j := 5) rfl; have f5 := HW4.o.br.free 5; have r6 := HW4.o.br.cell (j := 6) rfl; have f6 := HW4.o.br.free 6; have r7 := HW4.o.br.cell (j := 7) rfl; have f7 := HW4.o.br.free 7; have r8 := HW4.o.br.cell (j := 8) rfl; have f8 := HW4.o.br.free 8; go_wp2; refine ret_ct rfl rfl rfl (blk_fill9 HW4.o.br rfl) Tryz.underlying58 rfl size_us ?_; rw [HR.o]; refine ⟨?_, below_fill9 HW4.o.hb (by have := HXW.o; omega) _ _ _ _ _ _ _ _ _⟩; have e9 := HEE.o
    show _ = Ending.returned (.tuple #[usV u, .bool true])
    unfold usV
    rw [← e9]
    rfl
   ·have HF2 : Hid (∀ j (h : j < l.length), j < k + 1 → isEnv p l[j] = false) := zz (fun j h hj => by
     by_cases ej : j = k
     ·subst ej
      rw [← HUK.o, HIS.o]
      simpa using hall
     ·exact HF.o j h (by omega))
    cases e with
    | false =>
     clear hall; go_wp2; go_roundw
     case rel => exact ⟨k + 1, by omega, by go_num, HF2, HW4⟩
     case measure => simp [intOf]; omega
    | true =>
     cases z with
     | false =>
      clear hall; go_wp2; go_roundw
      case rel => exact ⟨k + 1, by omega, by go_num, HF2, HW4⟩
      case measure => simp [intOf]; omega
     | true =>
      by_cases ht0 : te = 0
      ·subst ht0
       have hqf : q = false := by cases q <;> simp_all
       subst hqf; clear hall; go_wp2; go_roundw
       case rel => exact ⟨k + 1, by omega, by go_num, HF2, HW4⟩
       case measure => simp [intOf]; omega
      ·have t1 : (te == 0) = false := by simpa using ht0
       clear hall ht0; go_wp2; go_roundw
       case rel => exact ⟨k + 1, by omega, by go_num, HF2, HW4⟩
       case measure => simp [intOf]; omega
  ·obtain rfl : k = n := by omega
   have HR : Hid (envR l p = (zeroU, false)) := zz (env_no (fun j h => HF.o j h (by have := HN.o; omega))); have r0 := HW.o.br.cell (j := 0) rfl; have f0 := HW.o.br.free 0; have r1 := HW.o.br.cell (j := 1) rfl; have f1 := HW.o.br.free 1; have r2 := HW.o.br.cell (j := 2) rfl; have f2 := HW.o.br.free 2; have r3 := HW.o.br.cell (j := 3) rfl; have f3 := HW.o.br.free 3; have r4 := HW.o.br.cell (j := 4) rfl; have f4 := HW.o.br.free 4; have r5 := HW.o.br.cell (j := 5) rfl; have f5 := HW.o.br.free 5; have r6 := HW.o.br.cell (j := 6) rfl; have f6 := HW.o.br.free 6; have r7 := HW.o.br.cell (j := 7) rfl; have f7 := HW.o.br.free 7; have r8 := HW.o.br.cell (j := 8) rfl; have f8 := HW.o.br.free 8; go_wp2; refine ret_ct rfl rfl rfl (blk_fill9 HW.o.br rfl) Tryz.underlying58 rfl size_us ?_; rw [HR.o]; exact ⟨rfl, below_fill9 HW.o.hb (by have := HXW.o; omega) _ _ _ _ _ _ _ _ _⟩
def roomX (V : Vw) (p : List UInt8) : Am × Bool := match roomP V p with | some a => (a, true) | none => (Am.zero, false)
theorem room_nil (V : Vw) : roomX V [] = takeR V.cap (inP V.us []) := by
 unfold roomX roomP takeR
 rw [if_pos rfl]; cases takeP V.cap (inP V.us []) <;> rfl
theorem room_env {V : Vw} {p : List UInt8} (hp : p ≠ []) : roomX V p = if (envR V.us p).2 = true then takeR (envR V.us p).1.a (inP V.us p) else (Am.zero, false) := by
 unfold roomX roomP envR takeR
 rw [if_neg hp]; cases envP V.us p <;> rfl
structure RmW (w wx : World) (X : Nat) (C : List Value) (a : Am) : Prop where
 bx : Blk wx X C 32
 br : Blk wx (X + 1) (amC Am.zero) 23
 ba : Blk wx (X + 2) (amC a) 23
 hb : Below w.heap.size w wx
theorem RmW.kept {w wx wy : World} {X : Nat} {C : List Value} {a : Am} (h : RmW w wx X C a) (hb : Below wx.heap.size wx wy) : RmW w wy X C a := ⟨h.bx.kept hb, h.br.kept hb, h.ba.kept hb, below_and h.hb hb⟩
theorem room_any (V : Vw) (va vu : Value) (p : List UInt8) (w : World) (hv : Vws w V va vu) (hl : V.us.length ≤ 1000) (hj : ∀ u ∈ V.us, u.j.length ≤ 1000000000000000) :
  Calls Tryz.prog 26 #[vwV V va vu, .string (bs p)] w fun r w' => r = .returned (.tuple #[amV (roomX V p).1, .bool (roomX V p).2]) ∧ Below w.heap.size w w' := by
 obtain ⟨⟨pa, ca, rfl⟩, pu, cu, rfl⟩ := hv.slices; obtain ⟨la, hla⟩ : ∃ la, la = V.at'.length := ⟨_, rfl⟩; obtain ⟨n, hn⟩ : ∃ n, n = V.us.length := ⟨_, rfl⟩
 have HEV : Hid (∀ w', Below w.heap.size w w' → Calls Tryz.prog 55 #[vwV V (.slice pa la ca) (.slice pu n cu), .string (bs p)] w' fun r w2 => r = .returned (.tuple #[usV (envR V.us p).1, .bool (envR V.us p).2]) ∧ Below w'.heap.size w' w2) := zz (fun w' hb => by
  rw [hla, hn]
  exact envelope_any V _ _ p w' (hv.below hb) hl hj)
 have HIN : Hid (∀ w', Below w.heap.size w w' → Calls Tryz.prog 57 #[.slice pu n cu, .string (bs p)] w' fun r w2 => ∃ v', r = .returned v' ∧ Usw w2 v' (inP V.us p) ∧ Below w'.heap.size w' w2) := zz (fun w' hb => by
  rw [hn]
  exact in_any _ V.us p w' (hv.us.below hb) hl)
 have HIL : Hid ((inP V.us p).length ≤ 1000) := zz (by unfold inP; exact Nat.le_trans (List.length_filter_le _ _) hl); rw [← hla, ← hn]; clear hv hl hla hn hj; obtain ⟨X, hX⟩ : ∃ X, X = w.heap.size := ⟨_, rfl⟩; go_enter Tryz.func26, Tryz.ntmps26; go_upto_region 1 with fail; obtain ⟨C, hC⟩ : ∃ C, C = vwC V (.slice pa la ca) (.slice pu n cu) := ⟨_, rfl⟩
 refine at_hide (F := fun w' => Blk w' X C 32 ∧ Blk w' (X + 1) (amC Am.zero) 23 ∧ Below w.heap.size w w' ∧ w'.heap.size = X + 2) ⟨by
  rw [hX, hC]; exact (Blk.made w (vwC V (.slice pa la ca) (.slice pu n cu)) _).alloc _, by
  rw [hX]; have := Blk.made (w.alloc (.cells (vwC V (.slice pa la ca) (.slice pu n cu)).toArray 32)) (amC Am.zero) 23; rw [show (w.alloc (.cells (vwC V (.slice pa la ca) (.slice pu n cu)).toArray 32)).heap.size = w.heap.size + 1 from by simp] at this
  exact this, below_and (below_alloc _ _) (below_alloc _ _), by rw [hX]; simp⟩ ?_
 intro w1 hF; rw [← hX]; have HX1 := zz hF.1; have HR1 := zz hF.2.1; have HB1 : Hid (Below w.heap.size w w1) := zz hF.2.2.1; have HZ1 := zz hF.2.2.2; have HC := zz hC; have HXW : Hid (w.heap.size ≤ X) := zz (by omega); have c2 := HX1.o.cell (j := 2) (by rw [hC]; rfl); have c3 := HX1.o.cell (j := 3) (by rw [hC]; rfl); have c4 := HX1.o.cell (j := 4) (by rw [hC]; rfl); have c5 := HX1.o.cell (j := 5) (by rw [hC]; rfl); clear hF hX hC; go_upto_region 2 with fail
 refine at_hide (F := fun w' => RmW w w' X C V.cap) ⟨HX1.o.alloc _, HR1.o.alloc _, by
  have := Blk.made w1 (amC V.cap) 23
  rw [HZ1.o] at this; exact this, below_and HB1.o (below_alloc _ _)⟩ ?_
 rw [HZ1.o]; intro w2 hF; have HW2 := zz hF; clear hF c2 c3 c4 c5 HX1 HR1 HB1 HZ1; obtain ⟨pe, hpq⟩ : ∃ pe, pe = (bs p).toList.isEmpty := ⟨_, rfl⟩; have hpe := hpq.symm
 have HPE : Hid ((pe = true → p = []) ∧ (pe = false → p ≠ [])) := zz (by
  constructor
  ·intro e
   by_cases hp : p = []
   ·exact hp
   ·rw [hpq, bs_cons hp] at e; cases e
  ·intro e hp
   rw [hpq, hp, bs_nil] at e; cases e)
 clear hpq
 go_upto_if 12 with fail
 clear hpe
 go_cut [] (fun wx => ∃ a, Hid (roomX V p = takeR a (inP V.us p)) ∧ Hid (RmW w wx X C a))
 case first =>
  cases pe with
  | true =>
   have hp := HPE.o.1 rfl; have HRM : Hid (roomX V p = takeR V.cap (inP V.us p)) := zz (by rw [hp]; exact room_nil V); clear hp; go_wp2
   go_meet
   exact ⟨V.cap, HRM, HW2⟩
  | false =>
   have hp := HPE.o.2 rfl; have HRM := zz (room_env (V := V) hp); clear hp; obtain ⟨e, he⟩ : ∃ e, e = envR V.us p := ⟨_, rfl⟩; rw [← he] at HEV HRM; clear he; obtain ⟨u, eb⟩ := e; simp only at HEV HRM; have c0 := HW2.o.bx.cell (j := 0) (by rw [HC.o]; rfl); have c1 := HW2.o.bx.cell (j := 1) (by rw [HC.o]; rfl); have c2 := HW2.o.bx.cell (j := 2) (by rw [HC.o]; rfl); have c3 := HW2.o.bx.cell (j := 3) (by rw [HC.o]; rfl); have c4 := HW2.o.bx.cell (j := 4) (by rw [HC.o]; rfl); have c5 := HW2.o.bx.cell (j := 5) (by rw [HC.o]; rfl); have c6 := HW2.o.bx.cell (j := 6) (by rw [HC.o]; rfl); have c7 := HW2.o.bx.cell (j := 7) (by rw [HC.o]; rfl)
   cases eb with
   | false =>
    obtain ⟨r0, r1, r2, r3⟩ := cl4 HW2.o.br; go_upto_region 4 with (go_at_call 55; refine (HEV.o _ HW2.o.hb).mono ?_; rintro r w3 ⟨rfl, hb⟩; have HW3 := zz (HW2.o.kept hb); clear hb); have HW4 := zz (HW3.o.kept (below_alloc w3 (.cells (usC u).toArray 58))); refine at_hide (F := fun w' => RmW w w' X C V.cap) HW4.o ?_; intro w4 hF; have HW5 := zz hF; clear hF r0 r1 r2 r3 HW4 HW3 c0 c1 c2 c3 c4 c5 c6 c7; have r0 := HW5.o.br.cell (j := 0) rfl; have f0 := HW5.o.br.free 0; have r1 := HW5.o.br.cell (j := 1) rfl; have f1 := HW5.o.br.free 1; have r2 := HW5.o.br.cell (j := 2) rfl; have f2 := HW5.o.br.free 2; have r3 := HW5.o.br.cell (j := 3) rfl; have f3 := HW5.o.br.free 3; go_wp2; refine ret_ct rfl rfl rfl (blk_fill4 HW5.o.br) Tryz.underlying23 rfl size_am ?_; have hrm := HRM.o; simp only [Bool.false_eq_true, if_false] at hrm; rw [hrm]; exact ⟨rfl, below_fill4 HW5.o.hb (by have := HXW.o; omega) _ _ _ _⟩
   | true =>
    go_upto_region 4 with (go_at_call 55; refine (HEV.o _ HW2.o.hb).mono ?_; rintro r w3 ⟨rfl, hb⟩; have HW3 := zz (HW2.o.kept hb); clear hb); obtain ⟨Z, hZ⟩ : ∃ Z, Z = w3.heap.size := ⟨_, rfl⟩; refine at_hide (F := fun w' => Blk w' Z (usC u) 58 ∧ RmW w w' X C V.cap) ⟨by rw [hZ]; exact Blk.made w3 (usC u) _, HW3.o.kept (below_alloc _ _)⟩ ?_; rw [← hZ]; intro w4 hF; have HW5 := zz hF.2; have HZ4 := zz hF.1; clear hF c0 c1 c2 c3 c4 c5 c6 c7 hZ HW3; obtain ⟨-, -, -, z3, z4, z5, z6⟩ := cl7 HZ4.o; have r0 := HW5.o.ba.cell (j := 0) rfl; have f0 := HW5.o.ba.free 0; have r1 := HW5.o.ba.cell (j := 1) rfl; have f1 := HW5.o.ba.free 1; have r2 := HW5.o.ba.cell (j := 2) rfl; have f2 := HW5.o.ba.free 2; have r3 := HW5.o.ba.cell (j := 3) rfl; have f3 := HW5.o.ba.free 3; go_wp2
    go_meet
    exact ⟨u.a, zz (by have hrm := HRM.o; simp only [if_true] at hrm; exact hrm), zz ⟨blk_off4 HW5.o.bx (by omega), blk_off4 HW5.o.br (by omega), blk_fill4 HW5.o.ba, below_fill4 HW5.o.hb (by have := HXW.o; omega) _ _ _ _⟩⟩
 case rest =>
 obtain ⟨a, HRM, HW⟩ := hcut; obtain ⟨wq, hwq⟩ : ∃ wq, wq = wc := ⟨_, rfl⟩; rw [← hwq] at HW ⊢; clear hwq HW2 HEV
 have HSS : Hid (∀ w', Frp (fun k => k = X + 1) wq w' → w'.cell? ⟨X + 2, 0, none⟩ = some (.int .i64 a.c) ∧ w'.cell? ⟨X + 2, 1, none⟩ = some (.int .i64 a.r) ∧ w'.cell? ⟨X + 2, 2, none⟩ = some (.int .i64 a.d) ∧ w'.cell? ⟨X + 2, 3, none⟩ = some (.int .i64 a.p) ∧ w'.cell? ⟨X, 7, none⟩ = some (.slice pu n cu)) := zz (fun w' hf => by
  have h1 := HW.o.ba.frp hf (by omega); have h2 := HW.o.bx.frp hf (by omega)
  exact ⟨h1.cell (j := 0) rfl, h1.cell (j := 1) rfl, h1.cell (j := 2) rfl, h1.cell (j := 3) rfl, h2.cell (j := 7) (by rw [HC.o]; rfl)⟩)
 have HBW : Hid (∀ w', Frp (fun k => k = X + 1) wq w' → Below w.heap.size w w') := zz (fun w' hf => HW.o.hb.trans (hf.below (fun k hk => by rw [hk]; have := HXW.o; omega) HW.o.hb.size)); have HBR : Hid (∀ w', Below wq.heap.size wq w' → Blk w' (X + 1) (amC Am.zero) 23) := zz (fun w' hb => HW.o.br.kept hb); obtain ⟨d, hd⟩ : ∃ d, d = takeR a (inP V.us p) := ⟨_, rfl⟩; have HTK : Hid (∀ v w', Usw w' v (inP V.us p) → Calls Tryz.prog 56 #[amV a, v] w' fun r w2 => r = .returned (.tuple #[amV d.1, .bool d.2]) ∧ Below w'.heap.size w' w2) := zz (fun v w' hu => by rw [hd]; exact take_any a v _ w' hu HIL.o); rw [← hd] at HRM; clear hd; obtain ⟨d1, d2⟩ := d; simp only at HTK; go_upto_region 7 with fail
 go_region_held3 (fun w' => w'.cell? ⟨X + 2, 0, none⟩ = some (.int .i64 a.c) ∧ w'.cell? ⟨X + 2, 1, none⟩ = some (.int .i64 a.r) ∧ w'.cell? ⟨X + 2, 2, none⟩ = some (.int .i64 a.d) ∧ w'.cell? ⟨X + 2, 3, none⟩ = some (.int .i64 a.p) ∧ w'.cell? ⟨X, 7, none⟩ = some (.slice pu n cu))
  (refine HSS.o _ ?_ <;> (repeat (first | with_reducible exact Frp.refl _ _ | with_reducible exact HF8.o | with_reducible exact HF7.o | apply frp_drew | apply frp_alloc | apply frp_set)))
  (first
   | (go_at_call 57; refine (HIN.o _ (HBW.o _ (by repeat (first | with_reducible exact Frp.refl _ _ | apply frp_drew | apply frp_alloc)))).mono ?_; rintro r w7 ⟨v7, rfl, hu, hb⟩; have HU7 := zz hu; have HF7 : Hid (Frp (fun k => k = X + 1) wq w7) := zz (by refine Frp.next ?_ hb; (repeat (first | with_reducible exact Frp.refl _ _ | apply frp_drew | apply frp_alloc))); have HB7 : Hid (Below wq.heap.size wq w7) := zz (by refine below_and ?_ hb; (repeat (first | with_reducible exact Below.refl _ _ | apply below_drew'))); clear hb hu)
   | (go_at_call 56; refine (HTK.o _ _ (HU7.o.below (by repeat (first | with_reducible exact Below.refl _ _ | apply below_drew')))).mono ?_; rintro r w8 ⟨rfl, hb⟩; have HF8 : Hid (Frp (fun k => k = X + 1) wq w8) := zz (by refine Frp.next ?_ hb; (repeat (first | with_reducible exact HF7.o | apply frp_drew | apply frp_alloc))); have HB8 : Hid (Below wq.heap.size wq w8) := zz (by refine below_and ?_ hb; (repeat (first | with_reducible exact HB7.o | apply below_drew'))); obtain ⟨r0, r1, r2, r3⟩ := cl4 (HBR.o _ HB8.o); have f0 := (HBR.o _ HB8.o).free 0; have f1 := (HBR.o _ HB8.o).free 1; have f2 := (HBR.o _ HB8.o).free 2; have f3 := (HBR.o _ HB8.o).free 3; clear hb))
 go_wp2; refine ret_ct rfl rfl rfl (blk_fill4 (HBR.o _ HB8.o)) Tryz.underlying23 rfl size_am ?_; rw [HRM.o]; exact ⟨rfl, below_fill4 (HBW.o _ HF8.o) (by have := HXW.o; omega) _ _ _ _⟩
def UsOk (u : Us) : Prop := u.j.length ≤ 1000000000000000 ∧ (Lit.int .i64 u.i).wf = true
theorem fine_any (u : Us) (w : World) (hu : UsOk u) :
  Calls Tryz.prog 25 #[usV u] w fun r w' => r = .returned (.bool (fineP u)) ∧ Below w.heap.size w w' := by
 obtain ⟨uj, ui, ud, ua, un, ue⟩ := u; obtain ⟨B, hB⟩ : ∃ B, B = w.heap.size := ⟨_, rfl⟩; obtain ⟨w1, hw1⟩ : ∃ w1, w1 = w.alloc (.cells #[.string (bs uj), .int .i64 ui, .int .i64 ud, .int .i64 ua.c, .int .i64 ua.r, .int .i64 ua.d, .int .i64 ua.p, .string (bs un), .bool ue] 58) := ⟨_, rfl⟩; have HB1 : Hid (Below w.heap.size w w1) := zz (by rw [hw1]; exact below_alloc _ _); have HX1 : Hid (Blk w1 B (usC ⟨uj, ui, ud, ua, un, ue⟩) 58) := zz (by rw [hw1, hB]; exact Blk.made w (usC ⟨uj, ui, ud, ua, un, ue⟩) _); obtain ⟨te, hte⟩ : ∃ te, te = taskE uj ui := ⟨_, rfl⟩; obtain ⟨s, hs⟩ : ∃ s, s = (taskO uj ui).getD [] := ⟨_, rfl⟩; have HTS : Hid (Calls Tryz.prog 47 #[.agg #[.string (bs uj), .int .i64 ui]] w1 fun r w' => r = .returned (.tuple #[.string (bs s), .int .i64 te]) ∧ Below w1.heap.size w1 w') := zz (by rw [hs, hte]; exact task_any uj ui w1 hu.1); obtain ⟨ck, hck⟩ : ∃ ck, ck = ua.chk := ⟨_, rfl⟩; have HCK : Hid (∀ w', Calls Tryz.prog 24 #[amV ua] w' fun e w2 => e = .returned (.int .i64 ck) ∧ Below w'.heap.size w' w2) := zz (fun w' => by rw [hck]; exact check_any ua w'); have hz := nil_beq un; obtain ⟨z, hzz⟩ : ∃ z, z = (un == []) := ⟨_, rfl⟩
 rw [← hzz] at hz; have hz2 : (bs un).toList.isEmpty = z := by rw [← hz]; cases (bs un).toList <;> rfl
 obtain ⟨d0, hd0⟩ : ∃ d0, d0 = decide (0 ≤ ud) := ⟨_, rfl⟩; obtain ⟨d3, hd3⟩ : ∃ d3, d3 = decide (ud ≤ 3) := ⟨_, rfl⟩; have t0 := hd0.symm; have t3 := hd3.symm
 have HR : Hid (fineP ⟨uj, ui, ud, ua, un, ue⟩ = (decide (te = 0) && !(ue && !z) && d0 && d3 && decide (ck = 0))) := zz (by
  unfold fineP
  rw [hd0, hd3, hzz, hte, hck]
  unfold taskE Am.chk
  cases (taskO uj ui).isSome <;> cases ua.okB <;> rfl)
 rw [HR.o]; clear hte hs hck hzz hd0 hd3 hu HR; obtain ⟨y0, y1⟩ := cl2 HX1.o
 by_cases ht : te = 0
 ·subst ht
  by_cases hc : ck = 0
  ·subst hc
   cases ue <;> cases z <;> cases d0 <;> cases d3
   all_goals
    go_enter Tryz.func25, Tryz.ntmps25; go_upto_region 1 with fail; rw [← hw1, ← hB]; clear hw1 hB
    go_wp2_with (first
     | (go_at_call 47; refine HTS.o.mono ?_; rintro r w2 ⟨rfl, hb⟩; have HB2 := zz (below_and HB1.o hb); have HX2 := zz (HX1.o.kept hb); obtain ⟨-, -, x2, x3, x4, x5, x6, x7, x8⟩ := cl9 HX2.o; clear hb)
     | (go_at_call 24; refine (HCK.o _).mono ?_; rintro r w3 ⟨rfl, hb⟩; have HB3 := zz (below_and HB2.o hb); clear hb))
    go_ret
    first | exact ⟨rfl, HB3.o⟩ | exact ⟨rfl, HB2.o⟩
  ·have t1 : (ck == 0) = false := by simpa using hc
   have HC0 : Hid (decide (ck = 0) = false) := zz (decide_eq_false hc); rw [HC0.o, Bool.and_false]; clear hc; cases ue <;> cases z <;> cases d0 <;> cases d3
   all_goals
    go_enter Tryz.func25, Tryz.ntmps25; go_upto_region 1 with fail; rw [← hw1, ← hB]; clear hw1 hB
    go_wp2_with (first
     | (go_at_call 47; refine HTS.o.mono ?_; rintro r w2 ⟨rfl, hb⟩; have HB2 := zz (below_and HB1.o hb); have HX2 := zz (HX1.o.kept hb); obtain ⟨-, -, x2, x3, x4, x5, x6, x7, x8⟩ := cl9 HX2.o; clear hb)
     | (go_at_call 24; refine (HCK.o _).mono ?_; rintro r w3 ⟨rfl, hb⟩; have HB3 := zz (below_and HB2.o hb); clear hb))
    go_ret
    first | exact ⟨rfl, HB3.o⟩ | exact ⟨rfl, HB2.o⟩
 ·have t1 : (te == 0) = false := by simpa using ht
  have HC0 : Hid (decide (te = 0) = false) := zz (decide_eq_false ht); rw [HC0.o, Bool.false_and, Bool.false_and, Bool.false_and, Bool.false_and]; clear ht; go_enter Tryz.func25, Tryz.ntmps25; go_upto_region 1 with fail; rw [← hw1, ← hB]; clear hw1 hB; go_wp2_with (go_at_call 47; refine HTS.o.mono ?_; rintro r w2 ⟨rfl, hb⟩; have HB2 := zz (below_and HB1.o hb); clear hb); go_ret; exact ⟨rfl, HB2.o⟩
structure VwOk (V : Vw) : Prop where
 n : V.us.length ≤ 1000
 us : ∀ u ∈ V.us, UsOk u
 nm : V.nm.length ≤ 1000000000000000
 at' : ∀ a ∈ V.at', a.vl.length ≤ 1000000000000000
theorem VwOk.j {V : Vw} (h : VwOk V) : ∀ u ∈ V.us, u.j.length ≤ 1000000000000000 := fun u hu => (h.us u hu).1
theorem roomX_some (V : Vw) (p : List UInt8) : (roomX V p).2 = (roomP V p).isSome := by
 unfold roomX
 cases roomP V p <;> rfl
def viewR (V : Vw) : Int := if checkV V = true then 0 else 2
theorem view_no {V : Vw} (h : ¬ Chk V) : viewR V = 2 := by unfold viewR; rw [if_neg (fun e => h (chk_iff.1 e))]
theorem view_yes {V : Vw} (h : Chk V) : viewR V = 0 := by unfold viewR; rw [if_pos (chk_iff.2 h)]
structure CvW (w wx : World) (X M : Nat) (C : List Value) (m : SM) : Prop where
 bx : Blk wx X C 32
 mp : SMap Tryz.prog 56 wx M m
 hb : Below w.heap.size w wx
theorem CvW.kept {w wx wy : World} {X M : Nat} {C : List Value} {m : SM} (h : CvW w wx X M C m) (hb : Below wx.heap.size wx wy) : CvW w wy X M C m := ⟨h.bx.kept hb, h.mp.kept hb, below_and h.hb hb⟩
theorem checkView_any (V : Vw) (va vu : Value) (w : World) (hv : Vws w V va vu) (hk : VwOk V) :
  Calls Tryz.prog 7 #[vwV V va vu] w fun r w' => r = .returned (.int .i64 (viewR V)) ∧ Below w.heap.size w w' := by
 have HV := zz hv; have HK := zz hk; obtain ⟨⟨pa, ca, rfl⟩, pu, cu, rfl⟩ := hv.slices; obtain ⟨la, hla⟩ : ∃ la, la = V.at'.length := ⟨_, rfl⟩; obtain ⟨n, hn⟩ : ∃ n, n = V.us.length := ⟨_, rfl⟩
 have HRM : Hid (∀ p w', Below w.heap.size w w' → Calls Tryz.prog 26 #[vwV V (.slice pa la ca) (.slice pu n cu), .string (bs p)] w' fun r w2 => r = .returned (.tuple #[amV (roomX V p).1, .bool (roomX V p).2]) ∧ Below w'.heap.size w' w2) := zz (fun p w' hb => by
  rw [hla, hn]
  exact room_any V _ _ p w' (hv.below hb) hk.n hk.j)
 have HAT : Hid (∀ w', Below w.heap.size w w' → Calls Tryz.prog 23 #[.slice pa la ca] w' fun r w2 => r = .returned (.int .i64 (attrsR V.at')) ∧ Below w'.heap.size w' w2) := zz (fun w' hb => by
  rw [hla]
  exact attrs_any _ V.at' w' (hv.at'.below hb))
 have HU : Hid (Usw w (.slice pu n cu) V.us) := zz (by rw [hn]; exact hv.us); have HCK : Hid (∀ w', Calls Tryz.prog 24 #[amV V.cap] w' fun e w2 => e = .returned (.int .i64 V.cap.chk) ∧ Below w'.heap.size w' w2) := zz (fun w' => check_any V.cap w'); have HN := zz hn; rw [← hla, ← hn]; have hn63 : (n : Int) ≤ 1000 := by have := hk.n; omega
 have hnm := bs_size V.nm; have hnb : (V.nm.length : Int) ≤ 1000000000000000 := by have := hk.nm; omega
 clear hv hk hla hn HV; obtain ⟨C, hC⟩ : ∃ C, C = vwC V (.slice pa la ca) (.slice pu n cu) := ⟨_, rfl⟩; obtain ⟨X, hX⟩ : ∃ X, X = w.heap.size := ⟨_, rfl⟩; obtain ⟨w1, hw1⟩ : ∃ w1, w1 = w.alloc (.cells #[.string (bs V.nm), .slice pa la ca, .int .i64 V.cap.c, .int .i64 V.cap.r, .int .i64 V.cap.d, .int .i64 V.cap.p, .bool V.up, .slice pu n cu] 32) := ⟨_, rfl⟩; have HB1 : Hid (Below w.heap.size w w1) := zz (by rw [hw1]; exact below_alloc _ _); have HX1 : Hid (Blk w1 X C 32) := zz (by rw [hw1, hX, hC]; exact Blk.made w (vwC V (.slice pa la ca) (.slice pu n cu)) _); have HC := zz hC; have HXW : Hid (w.heap.size ≤ X) := zz (by omega); have c0 := HX1.o.cell (j := 0) (by rw [hC]; rfl); clear hC
 by_cases h1 : V.nm.length < 1
 ·have HR : Hid (viewR V = 2) := zz (view_no (fun h => by have := h.nm; omega))
  have t1 : decide ((V.nm.length : Int) < 1) = true := by simp; omega
  go_enter Tryz.func7, Tryz.ntmps7; go_upto_region 1 with fail; rw [← hw1, ← hX]; clear hw1 hX h1; go_wp2; go_ret; exact ⟨ret_int HR.o.symm, HB1.o⟩
 have t1 : decide ((V.nm.length : Int) < 1) = false := by simp; omega
 by_cases h2 : 16 < V.nm.length
 ·have HR : Hid (viewR V = 2) := zz (view_no (fun h => by have := h.nm; omega))
  have t2 : decide ((16 : Int) < (V.nm.length : Int)) = true := by simp; omega
  have t2b : decide (16 < V.nm.length) = true := by simp; omega
  go_enter Tryz.func7, Tryz.ntmps7; go_upto_region 1 with fail; rw [← hw1, ← hX]; clear hw1 hX h1 h2; go_wp2; go_ret; exact ⟨ret_int HR.o.symm, HB1.o⟩
 have t2 : decide ((16 : Int) < (V.nm.length : Int)) = false := by simp; omega
 have t2b : decide (16 < V.nm.length) = false := by simp; omega
 have HNL : Hid (1 ≤ V.nm.length ∧ V.nm.length ≤ 16) := zz (by omega); clear h1 h2; have c1 := HX1.o.cell (j := 1) (by rw [HC.o]; rfl); obtain ⟨ar, har⟩ : ∃ ar, ar = attrsR V.at' := ⟨_, rfl⟩; rw [← har] at HAT; have HAR := zz har; clear har
 by_cases h3 : ar = 0
 rotate_left
 ·have HR : Hid (viewR V = 2) := zz (view_no (fun h => by have := h.at'; have := HAR.o; omega))
  have t3 : (ar != 0) = true := by simpa using h3
  go_enter Tryz.func7, Tryz.ntmps7; go_upto_region 1 with fail; rw [← hw1, ← hX]; clear hw1 hX h3; go_wp2_with (go_at_call 23; refine (HAT.o _ HB1.o).mono ?_; rintro r w2 ⟨rfl, hb⟩; have HB2 := zz (below_and HB1.o hb); clear hb); go_ret; exact ⟨ret_int HR.o.symm, HB2.o⟩
 subst h3
 cases hcap : V.cap.okB with
 | false =>
  have HR : Hid (viewR V = 2) := zz (view_no (fun h => by have := h.cap; rw [hcap] at this; cases this)); rw [Am.chk_no hcap] at HCK; clear hcap; go_enter Tryz.func7, Tryz.ntmps7; go_upto_region 1 with fail; rw [← hw1, ← hX]; clear hw1 hX
  go_wp2_with (first
   | (go_at_call 23; refine (HAT.o _ HB1.o).mono ?_; rintro r w2 ⟨rfl, hb⟩; have HB2 := zz (below_and HB1.o hb); have HX2 := zz (HX1.o.kept hb); have x2 := HX2.o.cell (j := 2) (by rw [HC.o]; rfl); have x3 := HX2.o.cell (j := 3) (by rw [HC.o]; rfl); have x4 := HX2.o.cell (j := 4) (by rw [HC.o]; rfl); have x5 := HX2.o.cell (j := 5) (by rw [HC.o]; rfl); clear hb)
   | (go_at_call 24; refine (HCK.o _).mono ?_; rintro r w3 ⟨rfl, hb⟩; have HB3 := zz (below_and HB2.o hb); clear hb))
  go_ret; exact ⟨ret_int HR.o.symm, HB3.o⟩
 | true =>
  have HCAP := zz hcap; rw [Am.chk_yes hcap] at HCK; clear hcap; have hmm := @run_makeMap Tryz.prog; go_enter Tryz.func7, Tryz.ntmps7; go_upto_region 1 with fail; rw [← hw1, ← hX]; clear hw1 hX
  go_upto_region 3 with (first
   | (go_at_call 23; refine (HAT.o _ HB1.o).mono ?_; rintro r w2 ⟨rfl, hb⟩; have HB2 := zz (below_and HB1.o hb); have HX2 := zz (HX1.o.kept hb); have x2 := HX2.o.cell (j := 2) (by rw [HC.o]; rfl); have x3 := HX2.o.cell (j := 3) (by rw [HC.o]; rfl); have x4 := HX2.o.cell (j := 4) (by rw [HC.o]; rfl); have x5 := HX2.o.cell (j := 5) (by rw [HC.o]; rfl); clear hb c0 c1)
   | (go_at_call 24; refine (HCK.o _).mono ?_; rintro r w3 ⟨rfl, hb⟩; have HB3 := zz (below_and HB2.o hb); have HX3 := zz (HX2.o.kept hb); clear hb x2 x3 x4 x5))
  go_upto_region 4 with fail; obtain ⟨M, hM⟩ : ∃ M, M = w3.heap.size := ⟨_, rfl⟩; refine at_hide (F := fun w' => CvW w w' X M C []) ⟨HX3.o.alloc _, by rw [hM]; exact smap_made w3 _ _, below_and HB3.o (below_alloc _ _)⟩ ?_; rw [← hM]; intro w4 hF; have HW4 := zz hF; have HMW : Hid (w.heap.size ≤ M ∧ M ≠ X) := zz (by have h1 := HB3.o.size; have h2 := HX3.o.lt; omega); have c7 := hF.bx.cell (j := 7) (by rw [HC.o]; rfl); clear hF hM t1 t2 t2b hnm hnb HX3 HB3; go_wp2; clear c7; obtain ⟨l, hl⟩ : ∃ l, l = V.us := ⟨_, rfl⟩; rw [← hl] at HU HN; have HLL := zz hl; have HUO : Hid (∀ u ∈ l, UsOk u) := zz (by rw [hl]; exact HK.o.us); clear hl
  go_loopw [36] (fun i wr => ∃ (k : Nat) (m : SM), k ≤ n ∧ i = .int .i64 (k : Int) ∧ Hid ((∀ u ∈ l.take k, fineP u = true) ∧ ((l.take k).map keyU).Nodup) ∧ Hid (Seen m ((l.take k).map keyU).reverse) ∧ Hid (CvW w wr X M C m)) (fun i _ => n - (intOf i).toNat)
  case atStart => exact ⟨0, [], Nat.zero_le _, rfl, zz ⟨fun u hu => by simp at hu, by simp⟩, zz seen_nil, HW4⟩
  case round =>
   obtain ⟨k, m, hk, rfl, HF, HS, HW⟩ := hrel
   by_cases hlt : k < n
   ·have HKN : Hid (k < l.length) := zz (by have := HN.o; omega)
    obtain ⟨u, hu⟩ : ∃ u, u = l[k]'HKN.o := ⟨_, rfl⟩; have HLC := zz ((HU.o.below HW.o.hb).at HKN.o); rw [← hu] at HLC; have HTK : Hid (l.take (k + 1) = l.take k ++ [u]) := zz (by rw [hu]; exact List.take_succ_eq_append_getElem HKN.o); have HUM : Hid (u ∈ l) := zz (by rw [hu]; exact List.getElem_mem _); have HOK : Hid (UsOk u) := zz (HUO.o u HUM.o); clear hu; obtain ⟨b, o, rfl, hcell⟩ := HLC.o; have q0 := hcell 0 _ rfl; rw [Nat.add_zero] at q0; have q1 := hcell 1 _ rfl; have q2 := hcell 2 _ rfl; have q3 := hcell 3 _ rfl; have q4 := hcell 4 _ rfl; have q5 := hcell 5 _ rfl; have q6 := hcell 6 _ rfl; have q7 := hcell 7 _ rfl; have q8 := hcell 8 _ rfl; clear hcell HLC; go_upto_region 7 with fail; obtain ⟨Y, hY⟩ : ∃ Y, Y = wr.heap.size := ⟨_, rfl⟩; refine at_hide (F := fun w' => Blk w' Y (usC u) 58 ∧ CvW w w' X M C m) ⟨by rw [hY]; exact Blk.made wr (usC u) _, HW.o.kept (below_alloc _ _)⟩ ?_; rw [← hY]; intro w5 hF; have HW5 := zz hF.2; have HY5 := zz hF.1; have HYM : Hid (Y ≠ M) := zz (by have := HW.o.mp.lt; omega); clear hF hY q0 q1 q2 q3 q4 q5 q6 q7 q8 HW; obtain ⟨y0, y1, y2, y3, y4, y5, y6, y7, y8⟩ := cl9 HY5.o; have HFN := zz (fine_any u w5 HOK.o); have HGT := zz (HS.o.1 u.j u.i HOK.o.1 HOK.o.2)
    have HKO : Hid (keyOf Tryz.prog 56 (.agg #[.string (bs u.j), .int .i64 u.i]) = some (.string (kT (bs u.j) u.i))) := zz (keyOf_k (by rw [bs_size]; have := HOK.o.1; unfold maxLen; omega) HOK.o.2)
    cases hfn : fineP u with
    | false =>
     have HR : Hid (viewR V = 2) := zz (view_no (fun h => by have := h.fine u (by rw [← HLL.o]; exact HUM.o); rw [hfn] at this; cases this)); rw [hfn] at HFN; clear hfn; go_wp2_with (go_at_call 25; refine HFN.o.mono ?_; rintro r w6 ⟨rfl, hb⟩; have HW6 := zz (HW5.o.kept hb); clear hb); go_ret; exact ⟨ret_int HR.o.symm, HW6.o.hb⟩
    | true =>
     have HFU := zz hfn; rw [hfn] at HFN; clear hfn
     by_cases hin : (u.j, u.i) ∈ ((l.take k).map keyU).reverse
     ·have HR : Hid (viewR V = 2) := zz (view_no (fun h => by
       have hnd := h.nd; rw [← HLL.o] at hnd; have h3 : ((l.take (k + 1)).map keyU).Nodup := hnd.sublist ((List.take_sublist _ _).map _); rw [HTK.o, List.map_append, List.nodup_append] at h3
       exact h3.2.2 (u.j, u.i) (by simpa using hin) (keyU u) (by simp) rfl))
      rw [if_pos hin] at HGT
      have HLK : Hid (∀ wx, SMap Tryz.prog 56 wx M m → (Instr.lookup 54 (.map (some M)) (.agg #[.string (bs u.j), .int .i64 u.i]) false).run Tryz.prog wx = .ok (.bool true) wx) := zz (fun wx hm => by
       rw [hm.tlook gkeyed Tryz.underlying54 (tkeyed_zero wx) HKO.o, HGT.o]; rfl)
      clear hin; go_wp2_with (go_at_call 25; refine HFN.o.mono ?_; rintro r w6 ⟨rfl, hb⟩; have HW6 := zz (HW5.o.kept hb); have hlk := HLK.o w6 HW6.o.mp; obtain ⟨z0, z1⟩ := cl2 (HY5.o.kept hb); clear hb); go_ret; exact ⟨ret_int HR.o.symm, HW6.o.hb⟩
     ·rw [if_neg hin] at HGT
      have HLK : Hid (∀ wx, SMap Tryz.prog 56 wx M m → (Instr.lookup 54 (.map (some M)) (.agg #[.string (bs u.j), .int .i64 u.i]) false).run Tryz.prog wx = .ok (.bool false) wx) := zz (fun wx hm => by
       rw [hm.tlook gkeyed Tryz.underlying54 (tkeyed_zero wx) HKO.o, HGT.o]; rfl)
      have HF2 : Hid ((∀ x ∈ l.take (k + 1), fineP x = true) ∧ ((l.take (k + 1)).map keyU).Nodup) := zz (by
       rw [HTK.o]; refine ⟨fun x hx => ?_, ?_⟩
       ·rcases List.mem_append.1 hx with hx | hx
        ·exact HF.o.1 x hx
        ·rw [List.mem_singleton.1 hx]; exact HFU.o
       ·rw [List.map_append, List.nodup_append]
        refine ⟨HF.o.2, by simp, fun a ha b hb e => ?_⟩; simp only [List.map_cons, List.map_nil, List.mem_singleton] at hb; subst hb; subst e
        exact hin (by simpa [keyU] using ha))
      have HS2 : Hid (Seen (m.put (kT (bs u.j) u.i) (.bool true)) ((l.take (k + 1)).map keyU).reverse) := zz (by
       rw [HTK.o, List.map_append, List.reverse_append]
       exact seen_put HS.o HOK.o.1 HOK.o.2)
      have HML : Hid (m.length < maxLen) := zz (by
       have h1 := HS.o.2; rw [List.length_reverse, List.length_map, List.length_take] at h1
       unfold maxLen
       omega)
      clear hin
      go_wp2_with (first
       | (go_at_call 25; refine HFN.o.mono ?_; rintro r w6 ⟨rfl, hb⟩; have HW6 := zz (HW5.o.kept hb); have hlk := HLK.o w6 HW6.o.mp; obtain ⟨z0, z1⟩ := cl2 (HY5.o.kept hb); clear hb)
       | (refine wpList_tput _ rfl _ _ _ _ rfl 56 4 gkeyed Tryz.underlying54 M m rfl HW6.o.mp HML.o (.agg #[.string (bs u.j), .int .i64 u.i]) (.bool true) (kT (bs u.j) u.i) rfl rfl HKO.o ?_; intro w8 hp8 hg8; have HW8 : Hid (CvW w w8 X M C (m.put (kT (bs u.j) u.i) (.bool true))) := zz ⟨HW6.o.bx.grown hg8 (by simp; exact (Ne.symm HMW.o.2)), hp8, HW6.o.hb.trans (grown_below hg8 HMW.o.1 HW6.o.hb.size)⟩; clear hp8 hg8))
      go_roundw
      case rel => exact ⟨k + 1, _, by omega, by go_num, HF2, HS2, HW8⟩
      case measure => simp [intOf]; omega
   ·obtain rfl : k = n := by omega
    have HALL : Hid ((∀ u ∈ l, fineP u = true) ∧ (l.map keyU).Nodup) := zz (by have := HF.o; rwa [HN.o, List.take_length] at this); have c7 := HW.o.bx.cell (j := 7) (by rw [HC.o]; rfl); go_wp2; clear c7
    go_loopw [56] (fun i wr => ∃ q : Nat, q ≤ k ∧ i = .int .i64 (q : Int) ∧ Hid (∀ u ∈ l.take q, (roomP V u.n).isSome = true) ∧ Hid (CvW w wr X M C m)) (fun i _ => k - (intOf i).toNat)
    case atStart => exact ⟨0, Nat.zero_le _, rfl, zz (fun u hu => by simp at hu), HW⟩
    case round =>
     obtain ⟨q, hq, rfl, HG, HW9⟩ := hrel
     by_cases hlt2 : q < k
     ·have HKN : Hid (q < l.length) := zz (by have := HN.o; omega)
      obtain ⟨u, hu⟩ : ∃ u, u = l[q]'HKN.o := ⟨_, rfl⟩; have HLC := zz ((HU.o.below HW9.o.hb).at HKN.o); rw [← hu] at HLC; have HTK : Hid (l.take (q + 1) = l.take q ++ [u]) := zz (by rw [hu]; exact List.take_succ_eq_append_getElem HKN.o); have HUM : Hid (u ∈ l) := zz (by rw [hu]; exact List.getElem_mem _); clear hu; obtain ⟨b, o, rfl, hcell⟩ := HLC.o; have q0 := hcell 0 _ rfl; rw [Nat.add_zero] at q0; have q1 := hcell 1 _ rfl; have q2 := hcell 2 _ rfl; have q3 := hcell 3 _ rfl; have q4 := hcell 4 _ rfl; have q5 := hcell 5 _ rfl; have q6 := hcell 6 _ rfl; have q7 := hcell 7 _ rfl; have q8 := hcell 8 _ rfl; clear hcell HLC; go_upto_region 14 with fail; obtain ⟨Y, hY⟩ : ∃ Y, Y = wr.heap.size := ⟨_, rfl⟩; refine at_hide (F := fun w' => Blk w' Y (usC u) 58 ∧ CvW w w' X M C m) ⟨by rw [hY]; exact Blk.made wr (usC u) _, HW9.o.kept (below_alloc _ _)⟩ ?_; rw [← hY]; intro w10 hF; have HW10 := zz hF.2; have HY10 := zz hF.1; clear hF hY q0 q1 q2 q3 q4 q5 q6 q7 q8 HW9; have y7 := HY10.o.cell (j := 7) rfl; have v0 := HW10.o.bx.cell (j := 0) (by rw [HC.o]; rfl); have v1 := HW10.o.bx.cell (j := 1) (by rw [HC.o]; rfl); have v2 := HW10.o.bx.cell (j := 2) (by rw [HC.o]; rfl); have v3 := HW10.o.bx.cell (j := 3) (by rw [HC.o]; rfl)
      have v4 := HW10.o.bx.cell (j := 4) (by rw [HC.o]; rfl); have v5 := HW10.o.bx.cell (j := 5) (by rw [HC.o]; rfl); have v6 := HW10.o.bx.cell (j := 6) (by rw [HC.o]; rfl); have v7 := HW10.o.bx.cell (j := 7) (by rw [HC.o]; rfl); obtain ⟨d, hd⟩ : ∃ d, d = roomX V u.n := ⟨_, rfl⟩; have HRU := zz (HRM.o u.n w10 HW10.o.hb); have HRS := zz (roomX_some V u.n); rw [← hd] at HRU HRS; clear hd; obtain ⟨d1, d2⟩ := d; simp only at HRU HRS
      cases d2 with
      | false =>
       have HR : Hid (viewR V = 2) := zz (view_no (fun h => by have := h.room u (by rw [← HLL.o]; exact HUM.o); rw [← HRS.o] at this; cases this)); go_wp2_with (go_at_call 26; refine HRU.o.mono ?_; rintro r w11 ⟨rfl, hb⟩; have HW11 := zz (HW10.o.kept hb); clear hb); go_ret; exact ⟨ret_int HR.o.symm, below_and HW11.o.hb (below_alloc _ _)⟩
      | true =>
       have HG2 : Hid (∀ x ∈ l.take (q + 1), (roomP V x.n).isSome = true) := zz (fun x hx => by
        rw [HTK.o] at hx; rcases List.mem_append.1 hx with hx | hx
        ·exact HG.o x hx
        ·rw [List.mem_singleton.1 hx, ← HRS.o])
       go_wp2_with (go_at_call 26; refine HRU.o.mono ?_; rintro r w11 ⟨rfl, hb⟩; have HW11 : Hid (CvW w (w11.alloc (.cells (amC d1).toArray 23)) X M C m) := zz ((HW10.o.kept hb).kept (below_alloc _ _)); clear hb); go_roundw
       case rel => exact ⟨q + 1, by omega, by go_num, HG2, HW11⟩
       case measure => simp [intOf]; omega
     ·obtain rfl : q = k := by omega
      have HR : Hid (viewR V = 0) := zz (view_yes ⟨HNL.o, HAR.o.symm, HCAP.o, by rw [← HLL.o]; exact HALL.o.1, by rw [← HLL.o]; exact HALL.o.2, by rw [← HLL.o]; have := HG.o; rwa [HN.o, List.take_length] at this⟩); go_wp2; go_ret; exact ⟨ret_int HR.o.symm, HW9.o.hb⟩
theorem am_neq (x y : Am) (w : World) : (binOp .neq 23 (amV x) (amV y)).run Tryz.prog w = .ok (.bool (!(decide (x = y)))) w := by
 go_simp; obtain ⟨a, b, c, d⟩ := x; obtain ⟨a', b', c', d'⟩ := y; simp only [Am.mk.injEq]
 by_cases h1 : a = a'
 ·rw [if_pos h1]
  by_cases h2 : b = b'
  ·rw [if_pos h2]
   by_cases h3 : c = c'
   ·rw [if_pos h3]
    by_cases h4 : d = d'
    ·rw [if_pos h4, decide_eq_true ⟨h1, h2, h3, h4⟩]; rfl
    ·rw [if_neg h4, decide_eq_false (fun h => h4 h.2.2.2)]; rfl
   ·rw [if_neg h3, decide_eq_false (fun h => h3 h.2.2.1)]; rfl
  ·rw [if_neg h2, decide_eq_false (fun h => h2 h.2.1)]; rfl
 ·rw [if_neg h1, decide_eq_false (fun h => h1 h.1)]; rfl
structure NeOk (N : Ne) : Prop where
 L : ∀ n ∈ N.L, Fit1 n
def needR (N : Ne) : Int := if checkN N = true then 0 else 2
def fine1 (N : Ne) : Bool := specB N.j && decide (0 ≤ N.d) && decide (N.d ≤ 3) && decide (N.a.chk = 0) && !(decide (N.a = Am.zero)) && decide (checkP N.L = 0)
theorem need_is (N : Ne) : checkN N = (fine1 N && (N.n == [] || (specB N.n && decide (N.L = anyL)))) := by
 unfold checkN fine1 Am.chk
 cases N.a.okB <;> simp
theorem checkNeed_any (N : Ne) (vl : Value) (w : World) (hn : Nds w N vl) (hk : NeOk N) (hE : ErrV w) (hT : Tab w) :
  Calls Tryz.prog 9 #[neV N vl] w fun r w' => r = .returned (.int .i64 (needR N)) ∧ Below w.heap.size w w' := by
 obtain ⟨pn, cn, rfl⟩ := hn.slice
 have HNM : Hid (∀ (l : List UInt8) w', Calls Tryz.prog 32 #[.string (bs l)] w' fun r w2 => r = .returned (.bool (specB l)) ∧ Below w'.heap.size w' w2) := zz (fun l w' => by
  have := spec_any (bs l) w'; rw [show (bs l).data.toList = l from by simp [bs]] at this
  exact this)
 have HCA : Hid (∀ w', Calls Tryz.prog 24 #[amV N.a] w' fun e w2 => e = .returned (.int .i64 N.a.chk) ∧ Below w'.heap.size w' w2) := zz (fun w' => check_any N.a w'); obtain ⟨ln, hln⟩ : ∃ ln, ln = N.L.length := ⟨_, rfl⟩
 have HCR : Hid (∀ w', Below w.heap.size w w' → Calls Tryz.prog 33 #[.agg #[.slice pn ln cn]] w' fun r w2 => r = .returned (.int .i64 (checkP N.L)) ∧ Below w'.heap.size w' w2) := zz (fun w' hb => by
  rw [hln]
  exact Ru.check_any _ N.L w' (hn.below hb) hk.L (hE.below hb) (hT.below hb))
 have HEQ : Hid (∀ w', Below w.heap.size w w' → Calls Tryz.prog 34 #[.slice pn ln cn, .slice (some ⟨w'.heap.size, 0, none⟩) 1 1] (w'.alloc (.cells #[.int .i64 1, .string ⟨#[]⟩, .string ⟨#[]⟩, .int .i64 0, .int .i64 (-1), .int .i64 (-1)] 69)) fun r w2 => r = .returned (.bool (decide (N.L = anyL))) ∧ Below w'.heap.size w' w2) := zz (fun w' hb => by
  rw [hln]
  refine (equal_any _ _ N.L anyL _ (hn.below (below_and hb (below_alloc _ _))) ?_).mono fun r w2 h => ⟨h.1, below_and (below_alloc _ _) h.2⟩
  refine ⟨some ⟨w'.heap.size, 0, none⟩, 1, rfl, Nat.le_refl _, by simp [maxLen], by simp [rwC, anyL], rwC_one ndC_one anyL, by simp, .inr ⟨w'.heap.size, 0, rfl, fun j u hj => ?_⟩⟩; rw [Nat.zero_add]; refine (Blk.made w' (ndC ⟨1, [], [], 0, -1, -1⟩) 69).cell ?_
  simpa [rwC, anyL] using hj)
 rw [← hln]; clear hn hk hE hT hln; obtain ⟨C, hC⟩ : ∃ C, C = neC N (.slice pn ln cn) := ⟨_, rfl⟩; obtain ⟨B, hB⟩ : ∃ B, B = w.heap.size := ⟨_, rfl⟩; have HC := zz hC; have hne : ∀ w, (binOp .neq 23 (.agg #[.int .i64 N.a.c, .int .i64 N.a.r, .int .i64 N.a.d, .int .i64 N.a.p]) (.agg #[.int .i64 0, .int .i64 0, .int .i64 0, .int .i64 0])).run Tryz.prog w = .ok (.bool (!(decide (N.a = Am.zero)))) w := am_neq N.a Am.zero; obtain ⟨s1, hs1⟩ : ∃ s1, s1 = specB N.j := ⟨_, rfl⟩; obtain ⟨d0, hd0⟩ : ∃ d0, d0 = decide (0 ≤ N.d) := ⟨_, rfl⟩; obtain ⟨d3, hd3⟩ : ∃ d3, d3 = decide (N.d ≤ 3) := ⟨_, rfl⟩; obtain ⟨ck, hck⟩ : ∃ ck, ck = N.a.chk := ⟨_, rfl⟩; obtain ⟨nz, hnz⟩ : ∃ nz, nz = !(decide (N.a = Am.zero)) := ⟨_, rfl⟩; obtain ⟨cr, hcr⟩ : ∃ cr, cr = checkP N.L := ⟨_, rfl⟩; have HF1 : Hid (fine1 N = (s1 && d0 && d3 && decide (ck = 0) && nz && decide (cr = 0))) := zz (by unfold fine1; rw [hs1, hd0, hd3, hck, hnz, hcr]); have t0 := hd0.symm; have t3 := hd3.symm; rw [← hck] at HCA; rw [← hcr] at HCR; rw [← hnz] at hne; have HN1 : Hid (∀ w', Calls Tryz.prog 32 #[.string (bs N.j)] w' fun r w2 => r = .returned (.bool s1) ∧ Below w'.heap.size w' w2) := zz (fun w' => by rw [hs1]; exact HNM.o N.j w')
 clear hs1 hd0 hd3 hck hnz hcr; obtain ⟨pe, hpq⟩ : ∃ pe, pe = (bs N.n).toList.isEmpty := ⟨_, rfl⟩
 have HPE : Hid ((N.n == []) = pe) := zz (by
  rw [hpq]
  by_cases hp : N.n = []
  ·rw [hp, bs_nil]; rfl
  ·rw [bs_cons hp]; simpa using hp)
 have hpe := hpq.symm; clear hpq; have HKN := zz (need_is N); go_enter Tryz.func9, Tryz.ntmps9; go_upto_region 1 with fail; refine at_hide (F := fun w' => Blk w' B C 28 ∧ Below w.heap.size w w') ⟨by rw [hB, hC]; exact Blk.made w (neC N (.slice pn ln cn)) _, below_alloc _ _⟩ ?_; rw [← hB]; intro w1 hF; have HX1 := zz hF.1; have HB1 : Hid (Below w.heap.size w w1) := zz (by have := hF.2; rw [hB] at this; exact this); have HBW : Hid (w.heap.size ≤ B) := zz (by omega); clear hF hB hC
 go_cut [3] (fun s3 wx => s3 = .bool (fine1 N) ∧ Hid (Blk wx B C 28) ∧ Hid (Below w.heap.size w wx))
 case first =>
  have c0 := HX1.o.cell (j := 0) (by rw [HC.o]; rfl)
  cases s1 with
  | false =>
   go_wp2_with (first | (go_at_call 32; refine (HN1.o _).mono ?_; rintro r w2 ⟨rfl, hb⟩; have HB2 := zz (below_and HB1.o hb); have HX2 := zz (HX1.o.kept hb); have x1 := HX2.o.cell (j := 1) (by rw [HC.o]; rfl); have x2 := HX2.o.cell (j := 2) (by rw [HC.o]; rfl); have x3 := HX2.o.cell (j := 3) (by rw [HC.o]; rfl); have x4 := HX2.o.cell (j := 4) (by rw [HC.o]; rfl); have x5 := HX2.o.cell (j := 5) (by rw [HC.o]; rfl); clear hb))
   go_meet
   exact ⟨by rw [HF1.o]; first | rfl | (rw [HD.o]; rfl) | simp, HX2, HB2⟩
  | true =>
   cases d0 with
   | false =>
    go_wp2_with (first | (go_at_call 32; refine (HN1.o _).mono ?_; rintro r w2 ⟨rfl, hb⟩; have HB2 := zz (below_and HB1.o hb); have HX2 := zz (HX1.o.kept hb); have x1 := HX2.o.cell (j := 1) (by rw [HC.o]; rfl); have x2 := HX2.o.cell (j := 2) (by rw [HC.o]; rfl); have x3 := HX2.o.cell (j := 3) (by rw [HC.o]; rfl); have x4 := HX2.o.cell (j := 4) (by rw [HC.o]; rfl); have x5 := HX2.o.cell (j := 5) (by rw [HC.o]; rfl); clear hb))
    go_meet
    exact ⟨by rw [HF1.o]; first | rfl | (rw [HD.o]; rfl) | simp, HX2, HB2⟩
   | true =>
    cases d3 with
    | false =>
     go_wp2_with (first | (go_at_call 32; refine (HN1.o _).mono ?_; rintro r w2 ⟨rfl, hb⟩; have HB2 := zz (below_and HB1.o hb); have HX2 := zz (HX1.o.kept hb); have x1 := HX2.o.cell (j := 1) (by rw [HC.o]; rfl); have x2 := HX2.o.cell (j := 2) (by rw [HC.o]; rfl); have x3 := HX2.o.cell (j := 3) (by rw [HC.o]; rfl); have x4 := HX2.o.cell (j := 4) (by rw [HC.o]; rfl); have x5 := HX2.o.cell (j := 5) (by rw [HC.o]; rfl); clear hb))
     go_meet
     exact ⟨by rw [HF1.o]; first | rfl | (rw [HD.o]; rfl) | simp, HX2, HB2⟩
    | true =>
     by_cases hck : ck = 0
     rotate_left
     ·have t1 : (ck == 0) = false := by simpa using hck
      have HD : Hid (decide (ck = 0) = false) := zz (decide_eq_false hck); clear hck; go_wp2_with (first | (go_at_call 32; refine (HN1.o _).mono ?_; rintro r w2 ⟨rfl, hb⟩; have HB2 := zz (below_and HB1.o hb); have HX2 := zz (HX1.o.kept hb); have x1 := HX2.o.cell (j := 1) (by rw [HC.o]; rfl); have x2 := HX2.o.cell (j := 2) (by rw [HC.o]; rfl); have x3 := HX2.o.cell (j := 3) (by rw [HC.o]; rfl); have x4 := HX2.o.cell (j := 4) (by rw [HC.o]; rfl); have x5 := HX2.o.cell (j := 5) (by rw [HC.o]; rfl); clear hb) | (go_at_call 24; refine (HCA.o _).mono ?_; rintro r w3 ⟨rfl, hb⟩; have HB3 := zz (below_and HB2.o hb); have HX3 := zz (HX2.o.kept hb); have z2 := HX3.o.cell (j := 2) (by rw [HC.o]; rfl); have z3 := HX3.o.cell (j := 3) (by rw [HC.o]; rfl); have z4 := HX3.o.cell (j := 4) (by rw [HC.o]; rfl); have z5 := HX3.o.cell (j := 5) (by rw [HC.o]; rfl); have z6 := HX3.o.cell (j := 6) (by rw [HC.o]; rfl); clear hb))
      go_meet
      exact ⟨by rw [HF1.o]; first | rfl | (rw [HD.o]; rfl) | simp, HX3, HB3⟩
     subst hck
     cases nz with
     | false =>
      go_wp2_with (first | (go_at_call 32; refine (HN1.o _).mono ?_; rintro r w2 ⟨rfl, hb⟩; have HB2 := zz (below_and HB1.o hb); have HX2 := zz (HX1.o.kept hb); have x1 := HX2.o.cell (j := 1) (by rw [HC.o]; rfl); have x2 := HX2.o.cell (j := 2) (by rw [HC.o]; rfl); have x3 := HX2.o.cell (j := 3) (by rw [HC.o]; rfl); have x4 := HX2.o.cell (j := 4) (by rw [HC.o]; rfl); have x5 := HX2.o.cell (j := 5) (by rw [HC.o]; rfl); clear hb) | (go_at_call 24; refine (HCA.o _).mono ?_; rintro r w3 ⟨rfl, hb⟩; have HB3 := zz (below_and HB2.o hb); have HX3 := zz (HX2.o.kept hb); have z2 := HX3.o.cell (j := 2) (by rw [HC.o]; rfl); have z3 := HX3.o.cell (j := 3) (by rw [HC.o]; rfl); have z4 := HX3.o.cell (j := 4) (by rw [HC.o]; rfl); have z5 := HX3.o.cell (j := 5) (by rw [HC.o]; rfl); have z6 := HX3.o.cell (j := 6) (by rw [HC.o]; rfl); clear hb))
      go_meet
      exact ⟨by rw [HF1.o]; first | rfl | (rw [HD.o]; rfl) | simp, HX3, HB3⟩
     | true =>
      by_cases hcr : cr = 0
      rotate_left
      ·have t1 : (cr == 0) = false := by simpa using hcr
       have HD : Hid (decide (cr = 0) = false) := zz (decide_eq_false hcr); clear hcr; go_wp2_with (first | (go_at_call 32; refine (HN1.o _).mono ?_; rintro r w2 ⟨rfl, hb⟩; have HB2 := zz (below_and HB1.o hb); have HX2 := zz (HX1.o.kept hb); have x1 := HX2.o.cell (j := 1) (by rw [HC.o]; rfl); have x2 := HX2.o.cell (j := 2) (by rw [HC.o]; rfl); have x3 := HX2.o.cell (j := 3) (by rw [HC.o]; rfl); have x4 := HX2.o.cell (j := 4) (by rw [HC.o]; rfl); have x5 := HX2.o.cell (j := 5) (by rw [HC.o]; rfl); clear hb) | (go_at_call 24; refine (HCA.o _).mono ?_; rintro r w3 ⟨rfl, hb⟩; have HB3 := zz (below_and HB2.o hb); have HX3 := zz (HX2.o.kept hb); have z2 := HX3.o.cell (j := 2) (by rw [HC.o]; rfl); have z3 := HX3.o.cell (j := 3) (by rw [HC.o]; rfl); have z4 := HX3.o.cell (j := 4) (by rw [HC.o]; rfl); have z5 := HX3.o.cell (j := 5) (by rw [HC.o]; rfl); have z6 := HX3.o.cell (j := 6) (by rw [HC.o]; rfl); clear hb) | (go_at_call 33; refine (HCR.o _ HB3.o).mono ?_; rintro r w4 ⟨rfl, hb⟩; have HB4 := zz (below_and HB3.o hb); have HX4 := zz (HX3.o.kept hb); clear hb))
       go_meet
       exact ⟨by rw [HF1.o]; first | rfl | (rw [HD.o]; rfl) | simp, HX4, HB4⟩
      subst hcr; go_wp2_with (first | (go_at_call 32; refine (HN1.o _).mono ?_; rintro r w2 ⟨rfl, hb⟩; have HB2 := zz (below_and HB1.o hb); have HX2 := zz (HX1.o.kept hb); have x1 := HX2.o.cell (j := 1) (by rw [HC.o]; rfl); have x2 := HX2.o.cell (j := 2) (by rw [HC.o]; rfl); have x3 := HX2.o.cell (j := 3) (by rw [HC.o]; rfl); have x4 := HX2.o.cell (j := 4) (by rw [HC.o]; rfl); have x5 := HX2.o.cell (j := 5) (by rw [HC.o]; rfl); clear hb) | (go_at_call 24; refine (HCA.o _).mono ?_; rintro r w3 ⟨rfl, hb⟩; have HB3 := zz (below_and HB2.o hb); have HX3 := zz (HX2.o.kept hb); have z2 := HX3.o.cell (j := 2) (by rw [HC.o]; rfl); have z3 := HX3.o.cell (j := 3) (by rw [HC.o]; rfl); have z4 := HX3.o.cell (j := 4) (by rw [HC.o]; rfl); have z5 := HX3.o.cell (j := 5) (by rw [HC.o]; rfl); have z6 := HX3.o.cell (j := 6) (by rw [HC.o]; rfl); clear hb) | (go_at_call 33; refine (HCR.o _ HB3.o).mono ?_; rintro r w4 ⟨rfl, hb⟩; have HB4 := zz (below_and HB3.o hb); have HX4 := zz (HX3.o.kept hb); clear hb))
      go_meet
      exact ⟨by rw [HF1.o]; first | rfl | (rw [HD.o]; rfl) | simp, HX4, HB4⟩
 case rest =>
 obtain ⟨rfl, HX, HB⟩ := hcut; obtain ⟨wq, hwq⟩ : ∃ wq, wq = wc := ⟨_, rfl⟩; rw [← hwq] at HX HB ⊢; clear hwq HX1 HB1 HN1 HCA HCR hne t0 t3 HF1; obtain ⟨f1, hf1⟩ : ∃ f1, f1 = fine1 N := ⟨_, rfl⟩; rw [← hf1] at HKN ⊢; clear hf1; have c7 := HX.o.cell (j := 7) (by rw [HC.o]; rfl); have c6 := HX.o.cell (j := 6) (by rw [HC.o]; rfl); rw [HPE.o] at HKN
 cases pe with
 | true =>
  have HR : Hid (needR N = if f1 = true then 0 else 2) := zz (by unfold needR; rw [HKN.o]; cases f1 <;> rfl); cases f1
  all_goals
   go_wp2; go_ret; exact ⟨ret_int (by rw [HR.o]; rfl), HB.o⟩
 | false =>
  cases f1 with
  | false =>
   have HR : Hid (needR N = 2) := zz (by unfold needR; rw [HKN.o]; rfl); go_wp2; go_ret; exact ⟨ret_int (by rw [HR.o]), HB.o⟩
  | true =>
   have HN2 := zz (HNM.o N.n)
   cases hs : specB N.n with
   | false =>
    have HR : Hid (needR N = 2) := zz (by unfold needR; rw [HKN.o, hs]; rfl); rw [hs] at HN2; clear hs; go_wp2_with (go_at_call 32; refine (HN2.o _).mono ?_; rintro r w2 ⟨rfl, hb⟩; have HB2 := zz (below_and HB.o hb); clear hb); go_ret; exact ⟨ret_int (by rw [HR.o]), HB2.o⟩
   | true =>
    rw [hs] at HN2
    cases ha : decide (N.L = anyL) with
    | false =>
     have HR : Hid (needR N = 2) := zz (by unfold needR; rw [HKN.o, hs, ha]; rfl); rw [ha] at HEQ; clear hs ha
     go_wp2_with (first
      | (go_at_call 32; refine (HN2.o _).mono ?_; rintro r w2 ⟨rfl, hb⟩; have HB2 := zz (below_and HB.o hb); have x6 := (HX.o.kept hb).cell (j := 6) (by rw [HC.o]; rfl); clear hb)
      | (go_at_call 34; refine (HEQ.o _ HB2.o).mono ?_; rintro r w3 ⟨rfl, hb⟩; have HB3 := zz (below_and HB2.o hb); clear hb))
     go_ret; exact ⟨ret_int (by rw [HR.o]), HB3.o⟩
    | true =>
     have HR : Hid (needR N = 0) := zz (by unfold needR; rw [HKN.o, hs, ha]; rfl); rw [ha] at HEQ; clear hs ha
     go_wp2_with (first
      | (go_at_call 32; refine (HN2.o _).mono ?_; rintro r w2 ⟨rfl, hb⟩; have HB2 := zz (below_and HB.o hb); have x6 := (HX.o.kept hb).cell (j := 6) (by rw [HC.o]; rfl); clear hb)
      | (go_at_call 34; refine (HEQ.o _ HB2.o).mono ?_; rintro r w3 ⟨rfl, hb⟩; have HB3 := zz (below_and HB2.o hb); clear hb))
     go_ret; exact ⟨ret_int (by rw [HR.o]), HB3.o⟩
theorem view_or (V : Vw) : viewR V = 0 ∨ viewR V = 2 := by
 unfold viewR
 cases checkV V
 ·exact .inr rfl
 ·exact .inl rfl
theorem need_or (N : Ne) : needR N = 0 ∨ needR N = 2 := by
 unfold needR
 cases checkN N
 ·exact .inr rfl
 ·exact .inl rfl
theorem roomR_is (V : Vw) (p : List UInt8) : roomR V p = if viewR V = 0 then (if (roomX V p).2 = true then ((roomX V p).1, 0) else (Am.zero, 2)) else (Am.zero, 2) := by
 unfold roomR viewR roomX
 cases checkV V
 ·rfl
 ·cases roomP V p <;> rfl
theorem goersR_is (N : Ne) (V : Vw) (p : List UInt8) : goersR N V p = if needR N = 0 then (if (roomR V p).2 = 0 then (goersP N V p, 0) else ([], (roomR V p).2)) else ([], 2) := by
 unfold goersR needR
 cases checkN N <;> rfl
structure RrW (w wx : World) (X : Nat) (C : List Value) : Prop where
 bx : Blk wx X C 32
 br : Blk wx (X + 1) (amC Am.zero) 23
 hb : Below w.heap.size w wx
theorem RrW.kept {w wx wy : World} {X : Nat} {C : List Value} (h : RrW w wx X C) (hb : Below wx.heap.size wx wy) : RrW w wy X C := ⟨h.bx.kept hb, h.br.kept hb, below_and h.hb hb⟩
theorem roomF_any (V : Vw) (va vu : Value) (p : List UInt8) (w : World) (hv : Vws w V va vu) (hk : VwOk V) :
  Calls Tryz.prog 11 #[vwV V va vu, .string (bs p)] w fun r w' => r = .returned (.tuple #[amV (roomR V p).1, .int .i64 (roomR V p).2]) ∧ Below w.heap.size w w' := by
 obtain ⟨⟨pa, ca, rfl⟩, pu, cu, rfl⟩ := hv.slices; obtain ⟨la, hla⟩ : ∃ la, la = V.at'.length := ⟨_, rfl⟩; obtain ⟨n, hn⟩ : ∃ n, n = V.us.length := ⟨_, rfl⟩; obtain ⟨rv, hrv⟩ : ∃ rv, rv = viewR V := ⟨_, rfl⟩; obtain ⟨d, hd⟩ : ∃ d, d = roomX V p := ⟨_, rfl⟩
 have HCV : Hid (∀ w', Below w.heap.size w w' → Calls Tryz.prog 7 #[vwV V (.slice pa la ca) (.slice pu n cu)] w' fun r w2 => r = .returned (.int .i64 rv) ∧ Below w'.heap.size w' w2) := zz (fun w' hb => by
  rw [hla, hn, hrv]
  exact checkView_any V _ _ w' (hv.below hb) hk)
 have HRM : Hid (∀ w', Below w.heap.size w w' → Calls Tryz.prog 26 #[vwV V (.slice pa la ca) (.slice pu n cu), .string (bs p)] w' fun r w2 => r = .returned (.tuple #[amV d.1, .bool d.2]) ∧ Below w'.heap.size w' w2) := zz (fun w' hb => by
  rw [hla, hn, hd]
  exact room_any V _ _ p w' (hv.below hb) hk.n hk.j)
 have HV2 : Hid (rv = 0 ∨ rv = 2) := zz (by rw [hrv]; exact view_or V); have HRR : Hid (roomR V p = if rv = 0 then (if d.2 = true then (d.1, 0) else (Am.zero, 2)) else (Am.zero, 2)) := zz (by rw [hrv, hd]; exact roomR_is V p); rw [← hla, ← hn]; clear hv hk hla hn hrv hd; obtain ⟨d1, d2⟩ := d; simp only at HRM HRR; obtain ⟨X, hX⟩ : ∃ X, X = w.heap.size := ⟨_, rfl⟩; go_enter Tryz.func11, Tryz.ntmps11; go_upto_region 1 with fail; obtain ⟨C, hC⟩ : ∃ C, C = vwC V (.slice pa la ca) (.slice pu n cu) := ⟨_, rfl⟩
 refine at_hide (F := fun w' => RrW w w' X C) ⟨by
  rw [hX, hC]; exact (Blk.made w (vwC V (.slice pa la ca) (.slice pu n cu)) _).alloc _, by
  rw [hX]; have := Blk.made (w.alloc (.cells (vwC V (.slice pa la ca) (.slice pu n cu)).toArray 32)) (amC Am.zero) 23; rw [show (w.alloc (.cells (vwC V (.slice pa la ca) (.slice pu n cu)).toArray 32)).heap.size = w.heap.size + 1 from by simp] at this
  exact this, below_and (below_alloc _ _) (below_alloc _ _)⟩ ?_
 intro w1 hF; rw [← hX]; have HW1 := zz hF; have HC := zz hC; have HXW : Hid (w.heap.size ≤ X) := zz (by omega); have c0 := HW1.o.bx.cell (j := 0) (by rw [hC]; rfl); have c1 := HW1.o.bx.cell (j := 1) (by rw [hC]; rfl); have c2 := HW1.o.bx.cell (j := 2) (by rw [hC]; rfl); have c3 := HW1.o.bx.cell (j := 3) (by rw [hC]; rfl); have c4 := HW1.o.bx.cell (j := 4) (by rw [hC]; rfl); have c5 := HW1.o.bx.cell (j := 5) (by rw [hC]; rfl); have c6 := HW1.o.bx.cell (j := 6) (by rw [hC]; rfl); have c7 := HW1.o.bx.cell (j := 7) (by rw [hC]; rfl); clear hF hX hC; go_upto_region 2 with (go_at_call 7; refine (HCV.o _ HW1.o.hb).mono ?_; rintro r w2 ⟨rfl, hb⟩; have HW2 := zz (HW1.o.kept hb); clear hb); clear c0 c1 c2 c3 c4 c5 c6 c7 HW1; have c0 := HW2.o.bx.cell (j := 0) (by rw [HC.o]; rfl); have c1 := HW2.o.bx.cell (j := 1) (by rw [HC.o]; rfl); have c2 := HW2.o.bx.cell (j := 2) (by rw [HC.o]; rfl); have c3 := HW2.o.bx.cell (j := 3) (by rw [HC.o]; rfl); have c4 := HW2.o.bx.cell (j := 4) (by rw [HC.o]; rfl); have c5 := HW2.o.bx.cell (j := 5) (by rw [HC.o]; rfl); have c6 := HW2.o.bx.cell (j := 6) (by rw [HC.o]; rfl); have c7 := HW2.o.bx.cell (j := 7) (by rw [HC.o]; rfl); obtain h0 | h0 := HV2.o
 ·subst h0
  rw [if_pos rfl] at HRR; go_upto_region 5 with (go_at_call 26; refine (HRM.o _ HW2.o.hb).mono ?_; rintro r w3 ⟨rfl, hb⟩; have HW3 := zz (HW2.o.kept hb); clear hb); obtain ⟨Z, hZ⟩ : ∃ Z, Z = w3.heap.size := ⟨_, rfl⟩; refine at_hide (F := fun w' => Blk w' Z (amC d1) 23 ∧ RrW w w' X C) ⟨by rw [hZ]; exact Blk.made w3 (amC d1) _, HW3.o.kept (below_alloc _ _)⟩ ?_; rw [← hZ]; intro w4 hF; have HW4 := zz hF.2; have HZ4 := zz hF.1; clear hF hZ HW3 c0 c1 c2 c3 c4 c5 c6 c7; have z0 := HZ4.o.cell (j := 0) (rfl); have z1 := HZ4.o.cell (j := 1) (rfl); have z2 := HZ4.o.cell (j := 2) (rfl); have z3 := HZ4.o.cell (j := 3) (rfl); have r0 := HW4.o.br.cell (j := 0) (rfl); have r1 := HW4.o.br.cell (j := 1) (rfl); have r2 := HW4.o.br.cell (j := 2) (rfl); have r3 := HW4.o.br.cell (j := 3) (rfl); obtain ⟨f0, f1, f2, f3⟩ := fz4 HW4.o.br
  cases d2 with
  | false =>
   rw [if_neg (by decide)] at HRR; go_wp2; refine ret_ct rfl rfl rfl (blk_fill4 HW4.o.br) Tryz.underlying23 rfl size_am ?_; rw [HRR.o]; exact ⟨rfl, below_fill4 HW4.o.hb (by have := HXW.o; omega) _ _ _ _⟩
  | true =>
   rw [if_pos rfl] at HRR; go_wp2; refine ret_ct rfl rfl rfl (blk_fill4 HW4.o.br) Tryz.underlying23 rfl size_am ?_; rw [HRR.o]; exact ⟨rfl, below_fill4 HW4.o.hb (by have := HXW.o; omega) _ _ _ _⟩
 ·subst h0
  rw [if_neg (by decide)] at HRR; have r0 := HW2.o.br.cell (j := 0) (rfl); have r1 := HW2.o.br.cell (j := 1) (rfl); have r2 := HW2.o.br.cell (j := 2) (rfl); have r3 := HW2.o.br.cell (j := 3) (rfl); obtain ⟨f0, f1, f2, f3⟩ := fz4 HW2.o.br; go_wp2; refine ret_ct rfl rfl rfl (blk_fill4 HW2.o.br) Tryz.underlying23 rfl size_am ?_; rw [HRR.o]; exact ⟨rfl, below_fill4 HW2.o.hb (by have := HXW.o; omega) _ _ _ _⟩
structure GeW (w wx : World) (X : Nat) (D C : List Value) : Prop where
 bn : Blk wx X D 28
 bv : Blk wx (X + 1) C 32
 hb : Below w.heap.size w wx
theorem GeW.kept {w wx wy : World} {X : Nat} {D C : List Value} (h : GeW w wx X D C) (hb : Below wx.heap.size wx wy) : GeW w wy X D C := ⟨h.bn.kept hb, h.bv.kept hb, below_and h.hb hb⟩
theorem GeW.made (w : World) (N : Ne) (V : Vw) (a b c : Value) : GeW w ((w.alloc (.cells (neC N a).toArray 28)).alloc (.cells (vwC V b c).toArray 32)) w.heap.size (neC N a) (vwC V b c) := ⟨(Blk.made w (neC N a) _).alloc _, by
 have := Blk.made (w.alloc (.cells (neC N a).toArray 28)) (vwC V b c) 32; rw [show (w.alloc (.cells (neC N a).toArray 28)).heap.size = w.heap.size + 1 from by simp] at this
 exact this, below_and (below_alloc _ _) (below_alloc _ _)⟩
theorem room_or (V : Vw) (p : List UInt8) : (roomR V p).2 = 0 ∨ (roomR V p).2 = 2 := by
 unfold roomR
 cases checkV V
 ·exact .inr rfl
 ·cases roomP V p
  ·exact .inr rfl
  ·exact .inl rfl
theorem goersG_any (N : Ne) (V : Vw) (vl va vu : Value) (p : List UInt8) (w : World) (hn : Nds w N vl) (hnk : NeOk N) (hv : Vws w V va vu) (hk : VwOk V) (hE : ErrV w) (hT : Tab w) :
  Calls Tryz.prog 13 #[neV N vl, vwV V va vu, .string (bs p)] w fun r w' => ∃ v', r = .returned (.tuple #[v', .int .i64 (goersR N V p).2]) ∧ Usw w' v' (goersR N V p).1 ∧ Below w.heap.size w w' := by
 obtain ⟨pn, cn, rfl⟩ := hn.slice; obtain ⟨⟨pa, ca, rfl⟩, pu, cu, rfl⟩ := hv.slices; obtain ⟨ln, hln⟩ : ∃ ln, ln = N.L.length := ⟨_, rfl⟩; obtain ⟨la, hla⟩ : ∃ la, la = V.at'.length := ⟨_, rfl⟩; obtain ⟨lu, hlu⟩ : ∃ lu, lu = V.us.length := ⟨_, rfl⟩; obtain ⟨rn, hrn⟩ : ∃ rn, rn = needR N := ⟨_, rfl⟩; obtain ⟨d, hd⟩ : ∃ d, d = roomR V p := ⟨_, rfl⟩
 have HCN : Hid (∀ w', Below w.heap.size w w' → Calls Tryz.prog 9 #[neV N (.slice pn ln cn)] w' fun r w2 => r = .returned (.int .i64 rn) ∧ Below w'.heap.size w' w2) := zz (fun w' hb => by
  rw [hln, hrn]
  exact checkNeed_any N _ w' (hn.below hb) hnk (hE.below hb) (hT.below hb))
 have HRM : Hid (∀ w', Below w.heap.size w w' → Calls Tryz.prog 11 #[vwV V (.slice pa la ca) (.slice pu lu cu), .string (bs p)] w' fun r w2 => r = .returned (.tuple #[amV d.1, .int .i64 d.2]) ∧ Below w'.heap.size w' w2) := zz (fun w' hb => by
  rw [hla, hlu, hd]
  exact roomF_any V _ _ p w' (hv.below hb) hk)
 have HGO : Hid (∀ w', Below w.heap.size w w' → Calls Tryz.prog 42 #[neV N (.slice pn ln cn), vwV V (.slice pa la ca) (.slice pu lu cu), .string (bs p)] w' fun r w2 => ∃ v', r = .returned v' ∧ Usw w2 v' (goersP N V p) ∧ Below w'.heap.size w' w2) := zz (fun w' hb => by
  rw [hln, hla, hlu]
  exact goersF_any N V _ _ _ p w' (hn.below hb) (hv.below hb) hk.n)
 have HN2 : Hid (rn = 0 ∨ rn = 2) := zz (by rw [hrn]; exact need_or N); have HD2 : Hid (d.2 = 0 ∨ d.2 = 2) := zz (by rw [hd]; exact room_or V p); have HGR : Hid (goersR N V p = if rn = 0 then (if d.2 = 0 then (goersP N V p, 0) else ([], d.2)) else ([], 2)) := zz (by rw [hrn, hd]; exact goersR_is N V p); rw [← hln, ← hla, ← hlu]; clear hn hnk hv hk hE hT hln hla hlu hrn hd; obtain ⟨d1, d2⟩ := d; simp only at HRM HD2 HGR; obtain ⟨X, hX⟩ : ∃ X, X = w.heap.size := ⟨_, rfl⟩; go_enter Tryz.func13, Tryz.ntmps13; go_upto_region 1 with fail; obtain ⟨D, hD⟩ : ∃ D, D = neC N (.slice pn ln cn) := ⟨_, rfl⟩; obtain ⟨C, hC⟩ : ∃ C, C = vwC V (.slice pa la ca) (.slice pu lu cu) := ⟨_, rfl⟩; refine at_hide (F := fun w' => GeW w w' X D C) (by rw [hX, hD, hC]; exact GeW.made w N V _ _ _) ?_; intro w1 hF; rw [← hX]; have HW1 := zz hF; have HC := zz hC; have HD := zz hD; have n0 := HW1.o.bn.cell (j := 0) (by rw [hD]; rfl); have n1 := HW1.o.bn.cell (j := 1) (by rw [hD]; rfl); have n2 := HW1.o.bn.cell (j := 2) (by rw [hD]; rfl); have n3 := HW1.o.bn.cell (j := 3) (by rw [hD]; rfl); have n4 := HW1.o.bn.cell (j := 4) (by rw [hD]; rfl); have n5 := HW1.o.bn.cell (j := 5) (by rw [hD]; rfl)
 have n6 := HW1.o.bn.cell (j := 6) (by rw [hD]; rfl); have n7 := HW1.o.bn.cell (j := 7) (by rw [hD]; rfl); clear hF hX hC hD; go_upto_region 2 with (go_at_call 9; refine (HCN.o _ HW1.o.hb).mono ?_; rintro r w2 ⟨rfl, hb⟩; have HW2 := zz (HW1.o.kept hb); clear hb); clear n0 n1 n2 n3 n4 n5 n6 n7 HW1 HCN; have c0 := HW2.o.bv.cell (j := 0) (by rw [HC.o]; rfl); have c1 := HW2.o.bv.cell (j := 1) (by rw [HC.o]; rfl); have c2 := HW2.o.bv.cell (j := 2) (by rw [HC.o]; rfl); have c3 := HW2.o.bv.cell (j := 3) (by rw [HC.o]; rfl); have c4 := HW2.o.bv.cell (j := 4) (by rw [HC.o]; rfl); have c5 := HW2.o.bv.cell (j := 5) (by rw [HC.o]; rfl); have c6 := HW2.o.bv.cell (j := 6) (by rw [HC.o]; rfl); have c7 := HW2.o.bv.cell (j := 7) (by rw [HC.o]; rfl); obtain h0 | h0 := HN2.o
 ·subst h0
  rw [if_pos rfl] at HGR; go_upto_region 5 with (go_at_call 11; refine (HRM.o _ HW2.o.hb).mono ?_; rintro r w3 ⟨rfl, hb⟩; have HW3 := zz (HW2.o.kept hb); clear hb); refine at_hide (F := fun w' => GeW w w' X D C) (HW3.o.kept (below_alloc _ _)) ?_; intro w4 hF; have HW4 := zz hF; clear hF HW3 c0 c1 c2 c3 c4 c5 c6 c7; obtain h1 | h1 := HD2.o
  ·subst h1
   rw [if_pos rfl] at HGR; have c0 := HW4.o.bv.cell (j := 0) (by rw [HC.o]; rfl); have c1 := HW4.o.bv.cell (j := 1) (by rw [HC.o]; rfl); have c2 := HW4.o.bv.cell (j := 2) (by rw [HC.o]; rfl); have c3 := HW4.o.bv.cell (j := 3) (by rw [HC.o]; rfl); have c4 := HW4.o.bv.cell (j := 4) (by rw [HC.o]; rfl); have c5 := HW4.o.bv.cell (j := 5) (by rw [HC.o]; rfl); have c6 := HW4.o.bv.cell (j := 6) (by rw [HC.o]; rfl); have c7 := HW4.o.bv.cell (j := 7) (by rw [HC.o]; rfl); have n0 := HW4.o.bn.cell (j := 0) (by rw [HD.o]; rfl); have n1 := HW4.o.bn.cell (j := 1) (by rw [HD.o]; rfl); have n2 := HW4.o.bn.cell (j := 2) (by rw [HD.o]; rfl); have n3 := HW4.o.bn.cell (j := 3) (by rw [HD.o]; rfl); have n4 := HW4.o.bn.cell (j := 4) (by rw [HD.o]; rfl); have n5 := HW4.o.bn.cell (j := 5) (by rw [HD.o]; rfl); have n6 := HW4.o.bn.cell (j := 6) (by rw [HD.o]; rfl); have n7 := HW4.o.bn.cell (j := 7) (by rw [HD.o]; rfl); go_wp2_with (go_at_call 42; refine (HGO.o _ HW4.o.hb).mono ?_; rintro r w5 ⟨v5, rfl, hu, hb⟩; have HU5 := zz hu; have HW5 := zz (HW4.o.kept hb); clear hu hb); go_ret2; rw [HGR.o]; exact ⟨_, rfl, HU5.o, HW5.o.hb⟩
  ·subst h1
   rw [if_neg (by decide)] at HGR; go_wp2; go_ret2; rw [HGR.o]; exact ⟨_, rfl, row_nil _ 9, HW4.o.hb⟩
 ·subst h0
  rw [if_neg (by decide)] at HGR; go_wp2; go_ret2; rw [HGR.o]; exact ⟨_, rfl, row_nil _ 9, HW2.o.hb⟩
end Go.Proofs.YtdemkfhkibmbnaaGreatDoor.Ft
namespace Go.Proofs.YtdemkfhkibmbnaaGreatDoor.Ru
open Go.RowKit Go.Proofs.YtdemkfhkibmbnaaGreatDoor
structure Dp (base : Nat) (w : World) (b : Nat) (s : ByteArray) (k : Nat) (v : Value) (L : List Nd) (bd : Bool) (e a n : Int) : Prop where
 blk : Blk w b [.string s, .int .i64 (k : Int), v, .int .i64 e, .int .i64 a, .bool bd, .int .i64 n] 123
 own : w.ownsRow base 69 6 v L.length (rwC ndC L)
 hb : base ≤ b
 sz : s.size ≤ 1024
 er : bd = true → e ≠ 0
 ln : L.length ≤ 1000
section
variable {base : Nat} {w w' : World} {b : Nat} {s : ByteArray} {k : Nat} {n : Int} {v : Value} {L : List Nd} {bd : Bool} {e a : Int}
theorem Dp.nb (h : Dp base w b s k v L bd e a n) : v.ownBlock ≠ some b := own_ty h.own h.blk (by decide)
theorem Dp.kept (h : Dp base w b s k v L bd e a n) (hb : Below w.heap.size w w') : Dp base w' b s k v L bd e a n :=
 ⟨h.blk.kept hb, own_fr h.own (Fr.of_below hb []) (fun _ _ => by simp), h.hb, h.sz, h.er, h.ln⟩
theorem Dp.at (h : Dp base w b s k v L bd e a n) (k' : Nat) : Dp base (w.setCell ⟨b, 1, none⟩ (.int .i64 (k' : Int))) b s k' v L bd e a n :=
 ⟨h.blk.set 1 _, own_other h.own (p := ⟨b, 1, none⟩) h.nb _, h.hb, h.sz, h.er, h.ln⟩
theorem Dp.num (h : Dp base w b s k v L bd e a n) (n' : Int) : Dp base (w.setCell ⟨b, 6, none⟩ (.int .i64 n')) b s k v L bd e a n' :=
 ⟨h.blk.set 6 _, own_other h.own (p := ⟨b, 6, none⟩) h.nb _, h.hb, h.sz, h.er, h.ln⟩
theorem Dp.fault (h : Dp base w b s k v L bd e a n) (e' a' : Int) (he : e' ≠ 0) : Dp base (((w.setCell ⟨b, 5, none⟩ (.bool true)).setCell ⟨b, 3, none⟩ (.int .i64 e')).setCell ⟨b, 4, none⟩ (.int .i64 a')) b s k v L true e' a' n :=
 ⟨((h.blk.set 5 _).set 3 _).set 4 _, own_other (own_other (own_other h.own (p := ⟨b, 5, none⟩) h.nb _) (p := ⟨b, 3, none⟩) h.nb _) (p := ⟨b, 4, none⟩) h.nb _, h.hb, h.sz, fun _ => he, h.ln⟩
theorem Dp.off (h : Dp base w b s k v L bd e a n) {Y : Nat} (hY : Y ≠ b) (hv : v.ownBlock ≠ some Y) (i : Nat) (u : Value) : Dp base (w.setCell ⟨Y, i, none⟩ u) b s k v L bd e a n :=
 ⟨h.blk.other (a := ⟨Y, i, none⟩) (Ne.symm hY) u, own_other h.own (p := ⟨Y, i, none⟩) hv u, h.hb, h.sz, h.er, h.ln⟩
end
def Dq (base : Nat) (w : World) (b : Nat) (s : ByteArray) (k : Nat) (v : Value) (L : List Nd) (bd : Bool) (n : Int) : Prop := ∃ e a, Dp base w b s k v L bd e a n
theorem dblanks_any (base b : Nat) (s : ByteArray) (k : Nat) (n : Int) (v : Value) (L : List Nd) (bd : Bool) (e a : Int) (w : World) (h : Dp base w b s k v L bd e a n) (hk : k ≤ s.size) :
  Calls Tryz.prog 113 #[ptr b] w fun r w' => r = .returned (.tuple #[]) ∧ Dp base w' b s (skip s k) v L bd e a n ∧ Onb b w w' := by
 obtain ⟨hj1, hj2, -, hj4, hj5⟩ := skip_is hk; obtain ⟨j, hj⟩ : ∃ j, j = skip s k := ⟨_, rfl⟩; rw [← hj] at hj1 hj2 ⊢; have HSP : Hid (∀ i (hi : i < s.size), k ≤ i → i < j → sp s[i] = true) := zz (fun i hi h1 h2 => hj4 i hi h1 (by omega)); have HST : Hid (∀ h : j < s.size, sp s[j] = false) := zz (by subst hj; exact hj5); have H := zz h; have hsz := h.sz; clear h hj4 hj5 hj; go_enter Tryz.func113, Tryz.ntmps113; go_wp2
 go_loopw [] (fun wr => ∃ i : Nat, k ≤ i ∧ i ≤ j ∧ Hid (Dp base wr b s i v L bd e a n) ∧ Hid (Onb b w wr)) (fun wr => j - (intOf ((wr.cell? ⟨b, 1, none⟩).getD undef)).toNat)
 case atStart => exact ⟨k, Nat.le_refl _, hj1, H, zz (Frp.refl _ _)⟩
 case round =>
  obtain ⟨i, h1, h2, HP, HF⟩ := hrel; obtain ⟨b0, b1⟩ := ps2 HP.o.blk; have i0 : (0 : Int) ≤ (i : Int) := by omega
  by_cases hlt : i < j
  ·have i2 : i < s.size := by omega
   have i1 : (i : Int) < (s.size : Int) := by omega
   obtain ⟨c, hc⟩ : ∃ c, c = s[i] := ⟨_, rfl⟩; have hq := HSP.o i i2 h1 hlt; have hcc : s[i] = c := hc.symm; have t1 : ((c.toNat : Int) == 32) = true := by rw [hcc] at hq; unfold sp at hq; simp at hq ⊢; omega
   clear hc hq; go_wp2; refine wp_region_past (by kernel_rfl) (by kernel_rfl) ?_
   repeat (go_big_quiet_step (fail))
   refine wpQuiet_nil ?_; intro _ hw'; obtain ⟨s9, hw''⟩ := hw'; subst hw''; obtain ⟨w9, h9, e9⟩ : ∃ w9, Below wr.heap.size wr w9 ∧ w9 = s9.val := ⟨_, s9.h, rfl⟩; rw [← e9]; have HN := zz (HP.o.kept h9); have HF9 := zz (HF.o.next h9); clear h9 e9 b0 b1; have b1 := HN.o.blk.cell (j := 1) rfl; have f1 := HN.o.blk.free 1; go_wp2; go_roundw
   case rel => exact ⟨i + 1, by omega, hlt, zz (by have := HN.o.at (i + 1); simpa using this), zz (Onb.set HF9.o 1 _)⟩
   case measure =>
    have e1 := HP.o.blk.cell (j := 1) rfl; have e2 := (HN.o.blk.set 1 (.int .i64 ((i : Int) + 1))).cell (j := 1) rfl; rw [e1, e2]
    simp [intOf]; omega
  ·obtain rfl : i = j := by omega
   by_cases hin : i < s.size
   ·have i1 : (i : Int) < (s.size : Int) := by omega
    obtain ⟨c, hc⟩ : ∃ c, c = s[i] := ⟨_, rfl⟩; have hq := HST.o hin; have hcc : s[i] = c := hc.symm; have t1 : ((c.toNat : Int) == 32) = false := by rw [hcc] at hq; unfold sp at hq; simp at hq ⊢; omega
    clear hc hq; go_wp2; refine wp_region_past (by kernel_rfl) (by kernel_rfl) ?_
    repeat (go_big_quiet_step (fail))
    refine wpQuiet_nil ?_; intro _ hw'; obtain ⟨s9, hw''⟩ := hw'; subst hw''; obtain ⟨w9, h9, e9⟩ : ∃ w9, Below wr.heap.size wr w9 ∧ w9 = s9.val := ⟨_, s9.h, rfl⟩; rw [← e9]; have HN := zz (HP.o.kept h9); have HF9 := zz (HF.o.next h9); clear h9 e9 b0 b1; go_wp2; refine end0 rfl rfl ⟨rfl, HN.o, HF9.o⟩
   ·have i1 : ¬ (i : Int) < (s.size : Int) := by omega
    go_wp2; refine wp_region_past (by kernel_rfl) (by kernel_rfl) ?_
    repeat (go_big_quiet_step (fail))
    refine wpQuiet_nil ?_; intro _ hw'; obtain ⟨s9, hw''⟩ := hw'; subst hw''; obtain ⟨w9, h9, e9⟩ : ∃ w9, Below wr.heap.size wr w9 ∧ w9 = s9.val := ⟨_, s9.h, rfl⟩; rw [← e9]; have HN := zz (HP.o.kept h9); have HF9 := zz (HF.o.next h9); clear h9 e9 b0 b1; go_wp2; refine end0 rfl rfl ⟨rfl, HN.o, HF9.o⟩
