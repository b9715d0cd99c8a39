/- SoSeq. -/
import Derived.Test.YtndjgbknhfficaaMNM
import Derived.Test.YtndjgbknhfficaaSoAr
import Derived.RangeFuncNested
import Derived.RangeFuncBound
import Derived.RangeFuncCalls
import Derived.RangeFuncLeaves
import Derived.RangeFuncFrom
import Derived.Shelf.Abstract
import Derived.Shelf.RegionOpen
import Derived.WalkKit
import Derived.OwnWalkIn
import Derived.TacticsInMore
import Derived.LoopNIn
import Derived.LoopIn
import Derived.Maps.AppendAt
import Derived.Sort.MapsRangeIn
namespace Go.Proofs.Ytndjgbknhfficaa.So
open Go.RowKit Go.Maps Go.Shelf Go.Proofs.Ytndjgbknhfficaa

/-- the keys that came so far: no one twice, each a key, and no longer to come -/
def Coll (m : NM) (left : Lit → Bool) (ss : List Int) : Prop := ss.Nodup ∧ ∀ x, x ∈ ss ↔ (m.hasK x = true ∧ left (.int .u64 x) = false)
theorem Coll.start (m : NM) : Coll m (fun kl => Maps.has m.dat kl) [] := ⟨List.nodup_nil, fun x => by
  show x ∈ [] ↔ m.hasK x = true ∧ Maps.has m.dat (.int .u64 x) = false
  rw [NM.dat_has]
  cases m.hasK x <;> simp⟩
theorem Coll.step {m : NM} {left : Lit → Bool} {ss : List Int} (h : Coll m left ss) {x : Int} (hk : m.hasK x = true) (hl : left (.int .u64 x) = true) : Coll m (fun z => left z && !z.sameKey (.int .u64 x)) (ss ++ [x]) := by
  have hnew : x ∉ ss := fun hx => by
    have := ((h.2 x).1 hx).2
    rw [hl] at this
    cases this
  refine ⟨List.nodup_append.2 ⟨h.1, by simp, fun a ha b hb => by simp at hb; subst hb; exact fun e => hnew (e ▸ ha)⟩, fun y => ?_⟩
  by_cases hy : y = x
  · subst hy
    simp [hk, NM.same_u64]
  · have e : (y == x) = false := by simpa using hy
    simp [h.2 y, hy, NM.same_u64]
theorem hasK_mem {m : NM} {x : Int} : m.hasK x = true ↔ x ∈ m.map (·.1) := by
  unfold NM.hasK
  rw [List.any_eq_true, List.mem_map]
  constructor
  · rintro ⟨p, hp, he⟩
    exact ⟨p, hp, by simpa using he⟩
  · rintro ⟨p, hp, he⟩
    exact ⟨p, hp, by simpa using he⟩
theorem Coll.perm {m : NM} {left : Lit → Bool} {ss : List Int} (h : Coll m left ss) (hnd : (m.map (·.1)).Nodup) (hl : ∀ s, left (.int .u64 s) = false) : ss.Perm (m.map (·.1)) := by
  refine (List.perm_ext_iff_of_nodup h.1 hnd).2 fun x => ?_
  rw [h.2 x, hl, hasK_mem]
  simp
theorem get_hasK {m : NM} {x : Int} {c : Value} (h : m.get x = some c) : m.hasK x = true := by
  unfold NM.get at h
  rw [Option.map_eq_some_iff] at h
  obtain ⟨p, hp, -⟩ := h
  unfold NM.hasK
  rw [List.any_eq_true]
  exact ⟨p, List.mem_of_find?_eq_some hp, by simpa using List.find?_some hp⟩

set_option maxRecDepth 100000 in
set_option maxHeartbeats 2000000 in
theorem keys1_in (n : Nat) (hn : 1 ≤ n) (l Bm b : Nat) (m : NM) (hnd : (m.map (·.1)).Nodup) (J Jx : List Int → World → Prop)
    (hY : ∀ pre x W, J pre W → pre.length < m.length → YieldAt Fence.wide (n - 1) Try.prog l #[encU x] W fun e W' => (e = .returned (.bool true) ∧ J (pre ++ [x]) W' ∧ KeepsWalks W W') ∨ (e = .returned (.bool false) ∧ Jx (pre ++ [x]) W'))
    (W : World) (hJ : AbidesFrom W.heap.size J) (hm : W.cell? ⟨Bm, 0, none⟩ = some (.map (some b))) (hown : NMap Try.prog 25 W b m) (h0 : J [] W) :
    CallsIn Fence.wide n Try.prog 46 #[.func (.yield l) #[] #[], .pointer (some ⟨Bm, 0, none⟩)] W fun e W' => (∃ v, e = .returned v) ∧
      ((∃ ss : List Int, ss.Perm (m.map (·.1)) ∧ J ss W') ∨ (∃ pre : List Int, True ∧ Jx pre W')) := by
  refine callsIn_of_wp Try.func46 rfl trivial ?_ rfl
  simp only [Try.ntmps46, List.size_toArray, List.length_cons, List.length_nil, Nat.reduceAdd, Nat.reduceSub, Array.replicate_succ, Array.replicate_zero, List.push_toArray, List.append_toArray, List.nil_append, List.cons_append]
  gi_wp2_with (first
    | (gi_at_range; refine wpListIn_range_own _ rfl _ 57 rfl 25 32 (int_keyed Try.underlying25) Try.underlying57 _ b m.length _ rfl hown ?_; intro w0 hrg0 hg0 hs0)
    | gi_in)
  go_frame
  gi_loopw [3] (fun _ wr => ∃ (left : Lit → Bool) (cnt : Nat) (ss : List Int), wr.ranges Try.prog 25 anyEl b W.heap.size m.length m.dat left cnt ∧ ss.length + cnt ≤ m.length ∧ Coll m left ss ∧ J ss wr)
    (fun _ wr => wr.rangeLeft b W.heap.size)
  case atStart =>
    refine ⟨_, _, [], hrg0, ?_, Coll.start m, hJ [] W w0 none h0 hg0 (fun r e => by cases e)⟩
    simp [NM.dat, Maps.size]
  case round =>
    obtain ⟨left, cnt, ss, hrg, hcs, hC, hJs⟩ := hrel
    gi_wp2_with (first
      | (gi_at_next; refine wpListIn_next_ranges _ rfl _ rfl 25 (int_keyed Try.underlying25) anyEl encU (fun v : Value => v) (fun key kl hkey => by obtain ⟨x, hx, -⟩ := keyOf_u64_inv Try.underlying25 hkey; exact ⟨x, hx⟩) (fun v _ _ => ⟨v, rfl⟩) b W.heap.size m.length _ _ _ rfl hrg ?_ ?_)
      | gi_in)
    · intro hc0 hl0
      gi_wp2
      go_end0
      exact ⟨⟨_, rfl⟩, .inl ⟨ss, hC.perm hnd (fun s => hl0 _), hJs⟩⟩
    · intro x c kl yd yp w2 cnt2 hkey hlk hv hat hrg2 hlt hg2 hs2 hen
      obtain ⟨x', ex, rfl⟩ := keyOf_u64_inv Try.underlying25 hkey
      have hxx : x = x' := by
        have := ex
        simp [encU] at this
        exact this
      subst hxx
      simp only [anyEl, Option.some.injEq, Prod.mk.injEq] at hv
      obtain ⟨hv, -⟩ := hv
      subst hv
      have hk : m.hasK x = true := get_hasK (NM.get_of_at hat)
      have hJ2 : J ss w2 := hJ ss wr w2 (some W.heap.size) hJs hg2 (fun r e => by cases e; exact ⟨Nat.le_refl _, hrg.iter_walk⟩)
      obtain ⟨fn, tmps, assign, body, hy, hR⟩ := hY ss x w2 hJ2 (by omega)
      clear hs2
      gi_wp2
      refine hR.mono ?_
      have hC2 := hC.step hk hlk
      rintro e W3 (⟨rfl, hJ3, hk3⟩ | ⟨rfl, hJx3⟩)
      · gi_wp2
        have hrg3 := hrg2.of_walks hk3
        go_roundw
        case rel => exact ⟨_, cnt2, ss ++ [x], hrg3, by simp; omega, hC2, hJ3⟩
        case measure => rw [hrg3.left_eq, hrg.left_eq]; exact hlt
      · gi_wp2
        refine bodyPost_ret (results_none rfl _ _ _) rfl ?_
        exact ⟨⟨_, rfl⟩, .inr ⟨ss ++ [x], trivial, hJx3⟩⟩

/-- what maps.Keys hands back, in any later world -/
theorem keys_stops (n : Nat) (hn : 1 ≤ n) (Bm b : Nat) (m : NM) (hnd : (m.map (·.1)).Nodup) (w : World) (hBm : Bm < w.heap.size) (hm : w.cell? ⟨Bm, 0, none⟩ = some (.map (some b))) (hown : NMap Try.prog 25 w b m) :
    SeqStops Fence.wide n Try.prog 46 #[.pointer (some ⟨Bm, 0, none⟩)] encU (fun ss => ss.Perm (m.map (·.1))) (fun _ => True) m.length w := fun l J Jx W hW hJ _ hY h0 =>
  keys1_in n hn l Bm b m hnd J Jx hY W hJ ((hW.cell (p := ⟨Bm, 0, none⟩) hBm).trans hm) (hown.kept hW) h0
end Go.Proofs.Ytndjgbknhfficaa.So
