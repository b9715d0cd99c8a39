/- The queue as it lies in memory, and what the methods do that container/heap calls. -/
import Derived.Test.YtlemfbgmhjklaaaOwnO
import Derived.Test.YtlemfbgmhjklaaaQPlain
import Derived.Deep.RegionLaw
import Derived.BigQuiet
namespace Go.Proofs.Ytlemfbgmhjklaaa
open Go.RowKit

def pend (p : Pend) : List Value := [.string p.job, .int .i64 p.idx, .string p.user, .int .i64 p.band]
def pcells (ps : List Pend) : List Value := ps.flatMap pend
theorem pend_len (p : Pend) : (pend p).length = 4 := rfl
theorem pend_one (p : Pend) : ∀ u ∈ pend p, u.oneCell' = true := by
  intro u hu
  simp only [pend, List.mem_cons, List.not_mem_nil, or_false] at hu
  rcases hu with rfl | rfl | rfl | rfl <;> rfl
theorem pcells_len (L : List Pend) : (pcells L).length = L.length * 4 := flat_len pend_len L
theorem pcells_one (L : List Pend) : ∀ u ∈ pcells L, u.oneCell' = true := flat_one pend_one L
/-- what a task is as a value -/
abbrev pval (p : Pend) : Value := .agg #[.string p.job, .int .i64 p.idx, .string p.user, .int .i64 p.band]

/-- a row in memory: its block, its slice -/
structure PRow where
  g : Nat
  v : Value
  a : ARow
def rlt (x y : PRow) : Bool := alt x.a y.a
def fpR (r : PRow) : List Nat := r.g :: r.v.ownBlock.toList
theorem mem_fpR {k : Nat} {r : PRow} : k ∈ fpR r ↔ k = r.g ∨ r.v.ownBlock = some k := by unfold fpR; simp

structure RowAt (w : World) (r : PRow) : Prop where
  blk : Blk w r.g [.string r.a.key.1, .int .i64 r.a.key.2, .int .u64 r.a.turn, r.v] 62
  own : OwnO w 29 4 r.v r.a.ps.length (pcells r.a.ps)
  ne : r.v.ownBlock ≠ some r.g
theorem RowAt.fr {S : List Nat} {w w' : World} {r : PRow} (h : RowAt w r) (hf : Fr S w w') (hs : ∀ k ∈ fpR r, k ∉ S) : RowAt w' r :=
  ⟨h.blk.fr hf (hs _ (mem_fpR.2 (.inl rfl))), h.own.fr hf (fun g hg => hs g (mem_fpR.2 (.inr hg))), h.ne⟩
theorem RowAt.lt {w : World} {r : PRow} (h : RowAt w r) {k : Nat} (hk : k ∈ fpR r) : k < w.heap.size := by
  rcases mem_fpR.1 hk with rfl | hk
  · exact h.blk.lt
  · exact h.own.lt hk

def rptr (r : PRow) : Value := .pointer (some ⟨r.g, 0, none⟩)
def rptrs (R : List PRow) : List Value := R.map rptr
theorem rptrs_at {R : List PRow} {i : Nat} {r : PRow} (h : R[i]? = some r) : (rptrs R)[i]? = some (.pointer (some ⟨r.g, 0, none⟩)) := by
  unfold rptrs
  rw [List.getElem?_map, h]
  rfl

def fpW (b : Nat) (v : Value) : List Nat := b :: v.ownBlock.toList
theorem mem_fpW {k b : Nat} {v : Value} : k ∈ fpW b v ↔ k = b ∨ v.ownBlock = some k := by
  unfold fpW; simp

/-- block b is a queue that was made: its array's value, the number of its last turn, its rows as they lie -/
structure Qu (w : World) (b : Nat) (T : Int) (v : Value) (R : List PRow) : Prop where
  blk : Blk w b [v, .int .u64 T, .bool true] 57
  own : w.ownsRow 0 60 1 v R.length (rptrs R)
  ne : v.ownBlock ≠ some b
  rows : ∀ r ∈ R, RowAt w r ∧ ∀ k ∈ fpR r, k ∉ fpW b v

/-- what a call on the array leaves of the rest -/
structure Stp (w w' : World) (b : Nat) (v v' : Value) : Prop where
  fr : Fr (fpW b v) w w'
  new : ∀ k, v'.ownBlock = some k → v.ownBlock = some k ∨ w.heap.size ≤ k
theorem Stp.refl (w : World) (b : Nat) (v : Value) : Stp w w b v v := ⟨Fr.refl _ _, fun _ h => .inl h⟩
theorem Stp.trans {a c d : World} {b : Nat} {u v x : Value} (h : Stp a c b u v) (k : Stp c d b v x) : Stp a d b u x :=
  ⟨h.fr.trans k.fr fun y hy => by
    rcases mem_fpW.1 hy with rfl | hy
    · exact .inl (mem_fpW.2 (.inl rfl))
    · rcases h.new y hy with h1 | h1
      · exact .inl (mem_fpW.2 (.inr h1))
      · exact .inr h1,
   fun y hy => by
    rcases k.new y hy with h1 | h1
    · exact h.new y h1
    · exact .inr (Nat.le_trans h.fr.size h1)⟩
theorem Stp.of_below {w w' : World} (h : Below w.heap.size w w') (b : Nat) (v : Value) : Stp w w' b v v := ⟨Fr.of_below h _, fun _ h => .inl h⟩

theorem Qu.fr {S : List Nat} {w w' : World} {b : Nat} {T : Int} {v : Value} {R : List PRow} (h : Qu w b T v R) (hf : Fr S w w') (hs : ∀ k ∈ fpW b v, k ∉ S) (hr : ∀ r ∈ R, ∀ k ∈ fpR r, k ∉ S) : Qu w' b T v R :=
  ⟨h.blk.fr hf (hs b (mem_fpW.2 (.inl rfl))), own_fr h.own hf (fun g hg => hs g (mem_fpW.2 (.inr hg))), h.ne, fun r hm => ⟨(h.rows r hm).1.fr hf (hr r hm), (h.rows r hm).2⟩⟩
theorem Qu.kept {w w' : World} {b : Nat} {T : Int} {v : Value} {R : List PRow} (h : Qu w b T v R) (hb : Below w.heap.size w w') : Qu w' b T v R :=
  h.fr (Fr.of_below hb []) (fun _ _ => by simp) (fun _ _ _ _ => by simp)
theorem Qu.shape {w : World} {b : Nat} {T : Int} {v : Value} {R : List PRow} (h : Qu w b T v R) : ∃ p c, v = .slice p R.length c ∧ R.length ≤ c ∧ c ≤ maxLen := own_slice h.own
theorem Qu.lies {w : World} {b : Nat} {T : Int} {v : Value} {R : List PRow} (h : Qu w b T v R) (hL : 0 < R.length) : ∃ g cap, v = .slice (some ⟨g, 0, none⟩) R.length cap ∧ R.length ≤ cap ∧ R.length ≤ 9223372036854775807 ∧ g < w.heap.size ∧ g ≠ b := by
  obtain ⟨g, cap, rfl, h1, h2, h3⟩ := own_block h.own hL
  exact ⟨g, cap, rfl, h1, by simp only [maxLen] at h2; omega, h3, fun e => h.ne (by simp [Value.ownBlock, e])⟩
theorem Qu.row {w : World} {b : Nat} {T : Int} {v : Value} {R : List PRow} (h : Qu w b T v R) {i : Nat} {r : PRow} (hi : R[i]? = some r) : RowAt w r := (h.rows r (List.mem_of_getElem? hi)).1
/-- the rows put in another order, or fewer of them -/
theorem Qu.turn {w w' : World} {b : Nat} {T T' : Int} {v v' : Value} {R R' : List PRow} (h : Qu w b T v R) (hs : Stp w w' b v v') (hm : ∀ r ∈ R', r ∈ R)
    (h1 : Blk w' b [v', .int .u64 T', .bool true] 57) (h2 : w'.ownsRow 0 60 1 v' R'.length (rptrs R')) (h3 : v'.ownBlock ≠ some b) : Qu w' b T' v' R' :=
  ⟨h1, h2, h3, fun r hr => by
    obtain ⟨h4, h5⟩ := h.rows r (hm r hr)
    refine ⟨h4.fr hs.fr h5, fun k hk hkw => ?_⟩
    rcases mem_fpW.1 hkw with rfl | hkw
    · exact h5 _ hk (mem_fpW.2 (.inl rfl))
    · rcases hs.new k hkw with h6 | h6
      · exact h5 k hk (mem_fpW.2 (.inr h6))
      · have := h4.lt hk; omega⟩

abbrev hp (b : Nat) : Value := .iface 64 (.pointer (some ⟨b, 0, none⟩))
abbrev rif (r : PRow) : Value := .iface 60 (.pointer (some ⟨r.g, 0, none⟩))

set_option maxRecDepth 100000 in
set_option maxHeartbeats 400000 in
theorem elen_any (p : Option Addr) (n c : Nat) (w : World) :
    Calls Try.prog 61 #[.slice p n c] w fun e w' => e = .returned (.int .i64 (n : Int)) ∧ w = w' := by
  go_enter Try.func61, Try.ntmps61
  go_wp2
  go_ret
  exact ⟨rfl, rfl⟩

set_option maxRecDepth 100000 in
set_option maxHeartbeats 1000000 in
theorem eless_wt (b i j : Nat) (T : Int) (v : Value) (L : List PRow) (w : World) (h : Qu w b T v L) (hi : i < L.length) (hj : j < L.length) :
    Calls Try.prog 62 #[v, .int .i64 (i : Int), .int .i64 (j : Int)] w fun e w' => e = .returned (.bool (Hp.ltAt rlt L i j)) ∧ Below w.heap.size w w' := by
  obtain ⟨g, cap, rfl, hcap, hn, hg, hgb⟩ := h.lies (by omega)
  obtain ⟨x, hx⟩ : ∃ x, x = L[i] := ⟨_, rfl⟩
  obtain ⟨y, hy⟩ : ∃ y, y = L[j] := ⟨_, rfl⟩
  have hx' : L[i]? = some x := by rw [hx, List.getElem?_eq_getElem hi]
  have hy' : L[j]? = some y := by rw [hy, List.getElem?_eq_getElem hj]
  have e : Hp.ltAt rlt L i j = (decide (y.a.key.2 < x.a.key.2) || (x.a.key.2 == y.a.key.2 && decide (x.a.turn < y.a.turn))) := by unfold Hp.ltAt; rw [hx', hy']; rfl
  have c1 := own_cell h.own (rptrs_at hx')
  have c2 := own_cell h.own (rptrs_at hy')
  have d1 := (h.row hx').blk.cell (j := 1) rfl
  have d2 := (h.row hx').blk.cell (j := 2) rfl
  have d3 := (h.row hy').blk.cell (j := 1) rfl
  have d4 := (h.row hy').blk.cell (j := 2) rfl
  rw [e]
  clear h hx hy hx' hy' e hgb hg
  obtain ⟨xg, xv, ⟨xk, xb⟩, xt, xp⟩ := x
  obtain ⟨yg, yv, ⟨yk, yb⟩, yt, yp⟩ := y
  simp only at d1 d2 d3 d4 c1 c2 ⊢
  obtain ⟨r, hr⟩ : ∃ r, r = (decide (yb < xb) || (xb == yb && decide (xt < yt))) := ⟨_, rfl⟩
  rw [← hr]
  go_enter Try.func62, Try.ntmps62
  by_cases hb : xb = yb
  · have q1 : (xb != yb) = false := by simp [hb]
    have q2 : Hid (decide (xt < yt) = r) := Lib.hid (by rw [hr]; simp [hb])
    clear hr hb
    go_wp2_with fail
    go_quiet (fail)
    go_wp2
    go_quiet (fail)
    go_wp2
    go_ret
    exact ⟨ret_bool q2.out, below_and (below_drewN _) (below_drewN _)⟩
  · have q1 : (xb != yb) = true := by simp [hb]
    have q2 : Hid (decide (yb < xb) = r) := Lib.hid (by rw [hr]; simp [hb])
    clear hr hb
    go_wp2_with fail
    go_quiet (fail)
    go_wp2
    go_quiet (fail)
    go_wp2
    go_ret
    exact ⟨ret_bool q2.out, below_and (below_drewN _) (below_drewN _)⟩
end Go.Proofs.Ytlemfbgmhjklaaa
