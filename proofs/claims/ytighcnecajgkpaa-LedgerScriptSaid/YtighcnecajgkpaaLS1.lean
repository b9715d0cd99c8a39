/- Texts of one proof, laid together: Lib, Open, Lib2, Maps, Sep, Amt, All, Two, AddP, LedPlain, MapRange, Pop, Past. No condition of ours. -/
import Derived.Test.YtighcnecajgkpaaRows
import Derived.WalkKit
import Derived.WalkSpells
import Derived.WalkLawsBesides
import Derived.Deep.QuietTactic
import Derived.Deep.AppendSrc
import Derived.BigQuiet
import Derived.Lib.Hide
import Derived.ProofKit
import Derived.OpenShut
import Derived.ShutString
import Derived.ChangeOld
import Derived.SizedLaws
import Derived.Maps.OwnSet
import Derived.Maps.OwnOps
import Derived.Deep.RegionLaw
import Derived.Carry
import Derived.Laws.Rows
import Derived.Deep.RegionWith
import Derived.Deep.RegionHeld3
import Derived.Outline
import Derived.Deep.DeepCutAuto
import Derived.Maps.RangeWalk
import Derived.OrdersHeld
import Derived.StillTail
namespace Go.Proofs.Ytighcnecajgkpaa
open Go.RowKit

theorem below_drewN {n : Nat} {w : World} (k : Nat) : Below n w (w.drewN k) := ⟨rfl, rfl, rfl, Nat.le_refl _, fun _ _ => rfl⟩
theorem Below.drewN' {n : Nat} {a w : World} (h : Below n a w) (k : Nat) : Below n a (w.drewN k) := h.trans (below_drewN k)

theorem ret_bool {a b : Bool} (h : a = b) : Ending.returned (.bool a) = .returned (.bool b) := by rw [h]
theorem ret_int {k : IntKind} {a b : Int} (h : a = b) : Ending.returned (.int k a) = .returned (.int k b) := by rw [h]

/-- a slice value of n elements of so many cells each: the cells read so -/
def Row (w : World) (v : Value) (size n : Nat) (cells : List Value) : Prop :=
  ∃ p c, v = .slice p n c ∧ n ≤ c ∧ c ≤ maxLen ∧ cells.length = n * size ∧ (∀ u ∈ cells, u.oneCell' = true) ∧ (p = none → n = 0 ∧ c = 0) ∧
    (cells = [] ∨ ∃ b o, p = some ⟨b, o, none⟩ ∧ ∀ j u, cells[j]? = some u → w.cell? ⟨b, o + j, none⟩ = some u)

theorem Row.below {w w' : World} {v : Value} {size n : Nat} {cells : List Value} (h : Row w v size n cells) (hb : Below w.heap.size w w') : Row w' v size n cells := by
  obtain ⟨p, c, hv, h1, h2, h3, h4, h5, h6⟩ := h
  refine ⟨p, c, hv, h1, h2, h3, h4, h5, ?_⟩
  rcases h6 with h6 | ⟨b, o, hp, ha⟩
  · exact .inl h6
  · refine .inr ⟨b, o, hp, fun j u hj => ?_⟩
    have := ha j u hj
    rw [hb.cell (p := ⟨b, o + j, none⟩) (World.block_lt_of_cell? w _ this)]
    exact this

theorem row_nil (w : World) (size : Nat) : Row w (.slice none 0 0) size 0 [] := ⟨none, 0, rfl, Nat.le_refl _, by simp [maxLen], by simp, by simp, by simp, .inl rfl⟩

theorem add_off (b o j : Nat) : (⟨b, o, none⟩ : Addr).add j = ⟨b, o + j, none⟩ := by
  unfold Addr.add; split <;> simp_all

theorem Row.src {P : Program} {w : World} {t e : TypeId} (ht : P.underlying t = some (.slice e)) {v : Value} {size n : Nat} {cells : List Value} (h : Row w v size n cells) : Src P size t v n cells w := by
  obtain ⟨p, c, rfl, h1, h2, h3, h4, h5, h6⟩ := h
  cases p with
  | none =>
    obtain ⟨rfl, rfl⟩ := h5 rfl
    have : cells = [] := List.eq_nil_of_length_eq_zero (by simpa using h3)
    subst this
    exact Src.ofNil w ht 0
  | some a =>
    refine Src.ofSlice w ht a n c cells h3 (fun j u hj => ?_) h4
    rcases h6 with h6 | ⟨b, o, hp, ha⟩
    · subst h6; simp at hj
    · obtain rfl : a = ⟨b, o, none⟩ := by simpa using hp
      rw [add_off]
      exact ha j u hj

/-- what the call owns reads -/
theorem row_of_owns {w : World} {base : Nat} {e : TypeId} {size : Nat} {v : Value} {n : Nat} {xs : List Value} (h : w.ownsRow base e size v n xs) (h1 : ∀ u ∈ xs, u.oneCell' = true) : Row w v size n xs := by
  obtain ⟨hl, h2⟩ := h
  rcases h2 with ⟨rfl, rfl⟩ | ⟨g, cap, cur, rfl, hg, hh, hn, hc, hs, ht⟩
  · have : xs = [] := List.eq_nil_of_length_eq_zero (by simpa using hl)
    subst this
    exact row_nil w size
  · refine ⟨some ⟨g, 0, none⟩, cap, rfl, hn, hc, hl, h1, by simp, .inr ⟨g, 0, rfl, fun j u hj => ?_⟩⟩
    have := World.ownsRow.cells (w := w) (base := base) (e := e) (size := size) (v := .slice (some ⟨g, 0, none⟩) n cap) (n := n) (xs := xs) ⟨hl, .inr ⟨g, cap, cur, rfl, hg, hh, hn, hc, hs, ht⟩⟩ (g := g) rfl j u hj
    rw [add_off] at this
    exact this

theorem growBy_le (need : Nat) : ∀ (r c : Nat), c < need + need / 4 + 256 → Builtin.growBy need r c ≤ need + need / 4 + 256
  | 0, c, h => by unfold Builtin.growBy; omega
  | r + 1, c, h => by
    unfold Builtin.growBy
    split
    · omega
    · exact growBy_le need r _ (by omega)

theorem nsc_le {need old : Nat} (h : old < need) : Builtin.nextslicecap need old ≤ need + need / 4 + 256 := by
  unfold Builtin.nextslicecap
  split
  · omega
  · split
    · omega
    · exact growBy_le need 4 old (by omega)

section
variable {P : Program} (w : World)

/-- 'append' onto what the call owns, of whatever source -/
theorem run_app (base : Nat) (t tx ty e : TypeId) (i : TypeInfo) (z : Value) (size bytes : Nat) (ht : P.underlying t = some (.slice e)) (hi : P.info? e = some i) (hz : i.zero = some z)
    (hsize : i.size = size) (hby : i.bytes = bytes) (hzs : z.cells.size = size)
    (v : Value) (n : Nat) (xs : List Value) (hown : w.ownsRow base e size v n xs)
    (x : Value) (m : Nat) (news : List Value) (hs : Src P size tx x m news w)
    (h63 : n + m ≤ maxLen) (hbytes : (n + m + (n + m) / 4 + 256) * bytes ≤ 281474976710656) (hbase : base ≤ w.heap.size) :
    ∃ v' w', (Builtin.append_ #[t, tx] ty #[v, x]).run P w = .ok v' w' ∧ w'.ownsRow base e size v' (n + m) (xs ++ news) ∧ w.grownBy w' v.ownBlock ∧
      (v' = .slice none 0 0 ↔ v = .slice none 0 0 ∧ m = 0) ∧ (∀ k, v'.ownBlock = some k → v.ownBlock = some k ∨ w.heap.size ≤ k) := by
  subst hsize
  subst hby
  have hsmall : ((n + m : Nat) : Int) ≤ 9223372036854775807 := by simp only [maxLen] at h63; omega
  have hl := hs.newsLen
  have hlen : (xs ++ news).length = (n + m) * i.size := by rw [List.length_append, hown.1, hl, Nat.add_mul]
  have hfit : ∀ old, old < n + m → Builtin.nextslicecap (n + m) old * i.bytes ≤ 281474976710656 := fun old h =>
    Nat.le_trans (Nat.mul_le_mul_right _ (nsc_le h)) hbytes
  have grown : ∀ (old : Nat), old < n + m → ∀ (row : Option Nat),
      (w.drew.alloc (.cells ((xs ++ news).toArray ++ Builtin.zeroCells z.cells (grownCap w (n + m) old e - (n + m))) e)).ownsRow base e i.size
        (.slice (some ⟨w.heap.size, 0, none⟩) (n + m) (grownCap w (n + m) old e)) (n + m) (xs ++ news) ∧
      w.grownBy (w.drew.alloc (.cells ((xs ++ news).toArray ++ Builtin.zeroCells z.cells (grownCap w (n + m) old e - (n + m))) e)) row := by
    intro old ho row
    have hge := grownCap_ge w (n + m) old e
    have hcm : grownCap w (n + m) old e ≤ maxLen := grownCap_le_maxLen w (n + m) old e h63
    refine ⟨⟨hlen, .inr ⟨w.heap.size, _, _, rfl, hbase, heap_alloc_new w.drew _, hge, hcm, ?_, ?_⟩⟩, ⟨rfl, rfl, rfl, by simp, fun k hk _ => Below.heap_alloc w.drew _ k hk⟩⟩
    · simp only [Array.size_append, List.size_toArray, size_zeroCells, hzs, hlen, ← Nat.add_mul]
      congr 1
      omega
    · simp only [Array.toList_append]
      rw [← hlen]
      exact List.take_left
  rcases hown.2 with ⟨rfl, rfl⟩ | ⟨g, cap, cur, rfl, hbg, hg, hnc, hcm, hcs, htake⟩
  · have hx : xs = [] := List.eq_nil_of_length_eq_zero (by simpa using hown.1)
    subst hx
    by_cases hm : m = 0
    · subst hm
      have hn : news = [] := List.eq_nil_of_length_eq_zero (by simpa using hl)
      subst hn
      refine ⟨.slice none 0 0, w, ?_, World.ownsRow_nil w base e i.size, ⟨rfl, rfl, rfl, Nat.le_refl _, fun _ _ _ => rfl⟩, by simp, fun _ h => .inl h⟩
      rcases hs.kind with ⟨e', hk⟩ | hk <;> simp [Builtin.append_, run_underlying ht, run_underlying hk, sizeOf, typeInfo, hi, hs.len, hs.cells]
    · have hr := run_append_grow_src (P := P) w t tx ty e i z ht hi hz none 0 0 [] (by simp [Builtin.firstCells]) x m news hs (by omega) (by simpa using hsmall) (hfit 0 (by omega))
      have hgr := grown 0 (by omega) (Value.ownBlock (.slice none 0 0))
      exact ⟨_, _, hr, hgr.1, hgr.2, by simp [hm], fun k hk => .inr (by simp [Value.ownBlock] at hk; omega)⟩
  · by_cases hroom : n + m ≤ cap
    · have hfitc : n * i.size + news.length ≤ cur.size := by rw [hl, hcs, ← Nat.add_mul]; exact Nat.mul_le_mul_right _ hroom
      have hst := run_storeCells_at P g (n * i.size) e news 0 cur w hg (by simpa using hfitc) hs.one
      simp only [Nat.add_zero] at hst
      have hr : (Builtin.append_ #[t, tx] ty #[.slice (some ⟨g, 0, none⟩) n cap, x]).run P w =
          .ok (.slice (some ⟨g, 0, none⟩) (n + m) cap) (w.setRow g (cur.toList.take (n * i.size) ++ news ++ cur.toList.drop (n * i.size + news.length)).toArray) := by
        rcases hs.kind with ⟨e', hk⟩ | hk <;> simp [Builtin.append_, run_underlying ht, run_underlying hk, sizeOf, typeInfo, hi, hs.len, hroom, hs.cells, Addr.add_lit, hst]
      refine ⟨_, _, hr, ⟨hlen, .inr ⟨g, cap, _, rfl, hbg, setRow_heap w g cur _ e _ hg, hroom, hcm, ?_, ?_⟩⟩, ⟨rfl, rfl, rfl, by simp, fun k _ hk => setRow_other w g k _ (fun e => hk (by simp [Value.ownBlock, e]))⟩, by simp, fun k hk => .inl (by simpa [Value.ownBlock] using hk)⟩
      · simp only [List.size_toArray, List.length_append, List.length_take, List.length_drop, Array.length_toList]
        omega
      · rw [htake, ← hlen]
        exact List.take_left
    · have holds : ∀ j u, xs[j]? = some u → w.drew.cell? ((⟨g, 0, none⟩ : Addr).add j) = some u := hown.cells (g := g) rfl
      have hr := run_append_grow_src (P := P) w t tx ty e i z ht hi hz (some ⟨g, 0, none⟩) n cap xs (run_firstCells_some w.drew i.size n ⟨g, 0, none⟩ n cap xs hown.1 holds) x m news hs (by omega) hsmall (hfit cap (by omega))
      have hgr := grown cap (by omega) (Value.ownBlock (.slice (some ⟨g, 0, none⟩) n cap))
      exact ⟨_, _, hr, hgr.1, hgr.2, by simp, fun k hk => .inr (by simp [Value.ownBlock] at hk; omega)⟩

/-- the operation, for the walk -/
theorem wpList_app {ops : Array Oper} {rest : List Oper} {o : Oper} {a : Act} {Q : Exit → Act → World → Prop} (hgd : o.guard = none) (s x : Operand) (t tx : TypeId)
    (ho : o.op = .call { callee := .builtin .append, args := #[s, x], argTypes := #[t, tx] })
    (base : Nat) (e : TypeId) (i : TypeInfo) (z : Value) (size bytes : Nat) (ht : P.underlying t = some (.slice e)) (hi : P.info? e = some i) (hz : i.zero = some z)
    (hsize : i.size = size) (hby : i.bytes = bytes) (hzs : z.cells.size = size)
    (v : Value) (n : Nat) (xs : List Value) (hv : a.eval s = v) (hown : w.ownsRow base e size v n xs)
    (xv : Value) (m : Nat) (news : List Value) (hx : a.eval x = xv) (hs : Src P size tx xv m news w)
    (h63 : n + m ≤ maxLen) (hbytes : (n + m + (n + m) / 4 + 256) * bytes ≤ 281474976710656) (hbase : base ≤ w.heap.size)
    (h : ∀ v' w', w'.ownsRow base e size v' (n + m) (xs ++ news) → w.grownBy w' v.ownBlock → (v' = .slice none 0 0 ↔ v = .slice none 0 0 ∧ m = 0) → wpList P ops Q rest (a.put o.dst v') w') : wpList P ops Q (o :: rest) a w := by
  refine wpList_plain hgd fun K hK => ?_
  obtain ⟨v', w', hr, h2, h3, h4, -⟩ := run_app (P := P) w base t tx o.type e i z size bytes ht hi hz hsize hby hzs v n xs hown xv m news hs h63 hbytes hbase
  unfold Oper.wp execOp
  simp only [ho, resolve, invoke, builtin, Sem.run_bind, Sem.run_pure, Result.andThen_ok, List.map_toArray, List.map_cons, List.map_nil, hv, hx, hr]
  exact hK _ _ (h v' w' h2 h3 h4)
end

/-! ### bytes -/

/-- a byte in a cell -/
abbrev B (c : UInt8) : Value := .int .u8 (c.toNat : Int)

/-- the slice value reads as these bytes -/
def Rd (w : World) (v : Value) (l : List UInt8) : Prop := Row w v 1 l.length (l.map B)

/-- the cells from (b, o) on read as these bytes -/
def At (w : World) (b o : Nat) (l : List UInt8) : Prop := ∀ i (h : i < l.length), w.cell? ⟨b, o + i, none⟩ = some (.int .u8 ((l[i]).toNat : Int))

theorem bytes_one (l : List UInt8) : ∀ u ∈ l.map B, u.oneCell' = true := by
  intro u hu
  obtain ⟨c, _, rfl⟩ := List.mem_map.1 hu
  rfl

theorem Rd.parts {w : World} {v : Value} {l : List UInt8} (h : Rd w v l) :
    ∃ p c, v = .slice p l.length c ∧ l.length ≤ c ∧ c ≤ maxLen ∧ (l = [] ∨ ∃ b o, p = some ⟨b, o, none⟩ ∧ At w b o l) := by
  obtain ⟨p, c, hv, h1, h2, h3, h4, h5, h6⟩ := h
  refine ⟨p, c, hv, h1, h2, ?_⟩
  rcases h6 with h6 | ⟨b, o, hp, ha⟩
  · exact .inl (by simpa using h6)
  · exact .inr ⟨b, o, hp, fun i hi => ha i _ (by simp [hi])⟩

theorem Rd.below {w w' : World} {v : Value} {l : List UInt8} (h : Rd w v l) (hb : Below w.heap.size w w') : Rd w' v l := Row.below h hb

theorem rd_nil (w : World) : Rd w (.slice none 0 0) [] := row_nil w 1

/-- bytes of the call's own, from block 'base' on -/
def Fresh (base : Nat) (w : World) (v : Value) (l : List UInt8) : Prop := w.ownsRow base 5 1 v l.length (l.map B)

theorem Fresh.rd {base : Nat} {w : World} {v : Value} {l : List UInt8} (h : Fresh base w v l) : Rd w v l := row_of_owns h (bytes_one l)

theorem Fresh.mono {base base' : Nat} {w : World} {v : Value} {l : List UInt8} (h : Fresh base w v l) (hb : base' ≤ base) : Fresh base' w v l := by
  obtain ⟨h1, h2⟩ := h
  refine ⟨h1, ?_⟩
  rcases h2 with h2 | ⟨g, cap, cur, hv, hg, r⟩
  · exact .inl h2
  · exact .inr ⟨g, cap, cur, hv, by omega, r⟩

/-- what was made before stays where nothing below is turned -/
theorem Fresh.below {base : Nat} {w w' : World} {v : Value} {l : List UInt8} (h : Fresh base w v l) (hb : Below w.heap.size w w') : Fresh base w' v l := by
  obtain ⟨h1, h2⟩ := h
  refine ⟨h1, ?_⟩
  rcases h2 with h2 | ⟨g, cap, cur, hv, hg, hh, r⟩
  · exact .inl h2
  · exact .inr ⟨g, cap, cur, hv, hg, by rw [hb.block g (Array.getElem?_eq_some_iff.1 hh).1]; exact hh, r⟩

/-- behind an append onto what the call owns, nothing below the base has turned -/
theorem below_grown {base : Nat} {w0 w w' : World} {e : TypeId} {size n : Nat} {v : Value} {xs : List Value} (hb : Below base w0 w) (hbase : base ≤ w.heap.size) (ho : w.ownsRow base e size v n xs) (hg : w.grownBy w' v.ownBlock) : Below base w0 w' :=
  hb.grown hg hbase fun k hk => (ho.lt k hk).1

theorem Try.uinfo : (Try.prog.info? 5).map (fun i => (i.zero, i.size, i.bytes)) = some (some (.int .u8 0), 1, 1) := by kernel_rfl

theorem src_one {P : Program} {t e e' : TypeId} (ht : P.underlying t = some (.slice e)) (w : World) (u : Value) (hu : u.oneCell' = true) :
    Src P 1 t (.slice (some ⟨w.heap.size, 0, none⟩) 1 1) 1 [u] (w.alloc (.cells #[u] e')) := by
  refine Src.ofSlice _ ht _ 1 1 [u] rfl (fun j x hj => ?_) (by simpa using hu)
  rw [add_off]
  match j, hj with
  | 0, hj =>
    simp at hj
    subst hj
    rw [cell_of_row _ w.heap.size 0 #[u] e' (0, 0) (heap_alloc_new w _)]
    rfl
  | j + 1, hj => simp at hj

theorem Fresh.push {base : Nat} {w : World} {v : Value} {l : List UInt8} {n : Nat} {c : UInt8} {u : Value} (h : w.ownsRow base 5 1 v (n + 1) (l.map B ++ [u])) (hn : l.length = n) (hu : u = B c) : Fresh base w v (l ++ [c]) := by
  subst hu hn
  unfold Fresh
  simpa using h

theorem Fresh.app {base : Nat} {w : World} {v : Value} {l r : List UInt8} {n m : Nat} {us : List Value} (h : w.ownsRow base 5 1 v (n + m) (l.map B ++ us)) (hn : l.length = n) (hm : r.length = m) (hu : us = r.map B) : Fresh base w v (l ++ r) := by
  subst hu hn hm
  unfold Fresh
  simpa using h

theorem Below.cellsAlloc {n : Nat} {a w : World} (h : Below n a w) (hB : n ≤ w.heap.size) (c : Array Value) (t : TypeId) : Below n a (w.alloc (.cells c t)) := h.alloc hB _

/-! ### a block known whole -/

def Blk (w : World) (g : Nat) (cs : List Value) (t : TypeId) : Prop := w.heap[g]? = some (.cells cs.toArray t (0, 0))

theorem Blk.lt {w : World} {g : Nat} {cs : List Value} {t : TypeId} (h : Blk w g cs t) : g < w.heap.size := lt_of_block h
theorem Blk.cell {w : World} {g : Nat} {cs : List Value} {t : TypeId} (h : Blk w g cs t) {j : Nat} {u : Value} (hj : cs[j]? = some u) : w.cell? ⟨g, j, none⟩ = some u := by
  unfold Blk at h
  rw [cell_of_row w g j cs.toArray t (0, 0) h]
  simpa using hj
theorem Blk.free {w : World} {g : Nat} {cs : List Value} {t : TypeId} (h : Blk w g cs t) (j : Nat) : w.frozen? ⟨g, j, none⟩ = false := by
  unfold Blk at h
  exact frozen_of_row w g j cs.toArray t h
theorem Blk.set {w : World} {g : Nat} {cs : List Value} {t : TypeId} (h : Blk w g cs t) (j : Nat) (u : Value) : Blk (w.setCell ⟨g, j, none⟩ u) g (cs.set j u) t := by
  unfold Blk at *
  rw [heap_setCell_same w g j cs.toArray t u h]
  simp
theorem Blk.other {w : World} {g : Nat} {cs : List Value} {t : TypeId} (h : Blk w g cs t) {a : Addr} (ha : g ≠ a.block) (u : Value) : Blk (w.setCell a u) g cs t := by
  unfold Blk at *
  rw [Below.heap_setCell _ _ _ _ ha]
  exact h
theorem Blk.alloc {w : World} {g : Nat} {cs : List Value} {t : TypeId} (h : Blk w g cs t) (o : Obj) : Blk (w.alloc o) g cs t := by
  have := h.lt
  unfold Blk at *
  rw [Below.heap_alloc _ _ _ this]
  exact h
theorem Blk.made (w : World) (cs : List Value) (t : TypeId) : Blk (w.alloc (.cells cs.toArray t)) w.heap.size cs t := heap_alloc_new w _
theorem Blk.below {w w' : World} {g n : Nat} {cs : List Value} {t : TypeId} (h : Blk w g cs t) (hb : Below n w w') (hn : g < n) : Blk w' g cs t := by
  unfold Blk at *
  rw [hb.block g hn]
  exact h
theorem Blk.kept {w w' : World} {g : Nat} {cs : List Value} {t : TypeId} (h : Blk w g cs t) (hb : Below w.heap.size w w') : Blk w' g cs t := h.below hb h.lt

/-! ### where one block alone may turn -/

theorem Row.grown {w w' : World} {v : Value} {size n : Nat} {cells : List Value} {row : Option Nat} (h : Row w v size n cells) (hg : w.grownBy w' row) (hr : v.ownBlock = none ∨ v.ownBlock ≠ row) : Row w' v size n cells := by
  obtain ⟨p, c, hv, h1, h2, h3, h4, h5, h6⟩ := h
  refine ⟨p, c, hv, h1, h2, h3, h4, h5, ?_⟩
  rcases h6 with h6 | ⟨b, o, hp, ha⟩
  · exact .inl h6
  · refine .inr ⟨b, o, hp, fun j u hj => ?_⟩
    have := ha j u hj
    subst hv hp
    rw [World.cell?_of_block (w := w) (w' := w') (a := ⟨b, o + j, none⟩) (hg.block b (World.block_lt_of_cell? w _ this) (by simpa [Value.ownBlock] using hr))]
    exact this

theorem Rd.grown {w w' : World} {v : Value} {l : List UInt8} {row : Option Nat} (h : Rd w v l) (hg : w.grownBy w' row) (hr : v.ownBlock = none ∨ v.ownBlock ≠ row) : Rd w' v l := Row.grown h hg hr

theorem Blk.grown {w w' : World} {g : Nat} {cs : List Value} {t : TypeId} {row : Option Nat} (h : Blk w g cs t) (hg : w.grownBy w' row) (hr : some g ≠ row) : Blk w' g cs t := by
  have := h.lt
  unfold Blk at *
  rw [hg.block g this hr]
  exact h

theorem grown_drewN {w w' : World} {row : Option Nat} (h : w.grownBy w' row) (n : Nat) : w.grownBy (w'.drewN n) row := ⟨h.os, h.tape, h.output, h.size, h.block⟩
theorem grown_refl (w : World) (row : Option Nat) : w.grownBy w row := ⟨rfl, rfl, rfl, Nat.le_refl _, fun _ _ _ => rfl⟩
theorem grown_set {w w' : World} {b : Nat} (h : w.grownBy w' (some b)) (j : Nat) (u : Value) : w.grownBy (w'.setCell ⟨b, j, none⟩ u) (some b) :=
  ⟨h.os, h.tape, h.output, by simpa using h.size, fun k hk hr => by rw [Below.heap_setCell _ _ _ _ (by simpa using hr)]; exact h.block k hk hr⟩
theorem grown_trans {a w w' : World} {row : Option Nat} (h : a.grownBy w row) (k : w.grownBy w' row) : a.grownBy w' row :=
  ⟨k.os.trans h.os, k.tape.trans h.tape, k.output.trans h.output, Nat.le_trans h.size k.size, fun i hi hr => (k.block i (Nat.lt_of_lt_of_le hi h.size) hr).trans (h.block i hi hr)⟩
theorem grown_below {n b : Nat} {w w' : World} (hg : w.grownBy w' (some b)) (hb : n ≤ b) (hw : n ≤ w.heap.size) : Below n w w' :=
  ⟨hg.os, hg.tape, hg.output, hg.size, fun k hk => hg.block k (by omega) (by simp; omega)⟩
theorem below_grownBy {w w' : World} {row : Option Nat} (h : Below w.heap.size w w') : w.grownBy w' row := ⟨h.os, h.tape, h.output, h.size, fun k hk _ => h.block k hk⟩

/-- where the rest of a slice begins -/
def cutP (p : Option Addr) (c k : Nat) : Option Addr := if c = k then p else Option.map (fun x => x.add k) p

/-- the rest of a slice from k on -/
theorem rd_cut {w : World} {p : Option Addr} {n c k : Nat} {l : List UInt8} (h : Rd w (.slice p n c) l) (hk : k ≤ l.length) : Rd w (.slice (cutP p c k) (l.length - k) (c - k)) (l.drop k) := by
  obtain ⟨p0, c0, hv, h1, h2, h3, h4, h5, h6⟩ := h
  simp only [Value.slice.injEq] at hv
  obtain ⟨rfl, rfl, rfl⟩ := hv
  refine ⟨cutP p c k, c - k, by simp, by simp; omega, Nat.le_trans (Nat.sub_le _ _) h2, by simp, bytes_one _, ?_, ?_⟩
  · intro hpn
    have hp : p = none := by unfold cutP at hpn; split at hpn <;> simp_all
    have := h5 hp
    simp; omega
  · by_cases hlt : k < l.length
    · rcases h6 with h6 | ⟨b, o, rfl, ha⟩
      · have : l = [] := by simpa using h6
        subst this; simp at hlt
      · refine .inr ⟨b, o + k, by unfold cutP; rw [if_neg (by omega)]; simp [add_off], fun j u hj => ?_⟩
        rw [Nat.add_assoc]
        refine ha (k + j) u ?_
        simpa using hj
    · exact .inl (by simp; omega)

/-- 'string(b)' -/
theorem run_str {P : Program} {w : World} {v : Value} {l : List UInt8} {t e : TypeId} (h : Rd w v l) (ht : P.underlying t = some (.slice e)) (he : P.underlying e = some (.int .u8)) (dst : TypeId) (hd : P.underlying dst = some .string) :
    (convert t dst v).run P w = .ok (.string ⟨l.toArray⟩) w := by
  obtain ⟨p, c, rfl, hc, hm, ha⟩ := h.parts
  by_cases hl : l = []
  · subst hl
    cases p with
    | none => exact run_convert_bytes_nil w t e ht he 0 c dst hd
    | some a =>
      rw [run_convert_bytes_string w t dst e _ _ c ht he hd, run_bytesToString w a _ c [] (by simp [loadCells, loadCellsFrom])]
      rfl
  · obtain ⟨b, o, rfl, hat⟩ := ha.resolve_left hl
    have := run_convert_bytes_arg (P := P) w t e ht he b o l.length c (l.map fun c => (c.toNat : Int)) (by simp) (fun i hi => by rw [hat i hi]; simp [hi]) dst hd
    rw [this]
    congr 2
    unfold strOfNums
    congr 2
    rw [List.map_map]
    conv => rhs; rw [← List.map_id l]
    refine List.map_congr_left fun c _ => ?_
    simp

/-- the piece of a slice from j to k -/
theorem rd_piece {w : World} {p : Option Addr} {n c j k : Nat} {l : List UInt8} (h : Rd w (.slice p n c) l) (hj : j + k ≤ l.length) : Rd w (.slice (cutP p c j) k (c - j)) ((l.drop j).take k) := by
  obtain ⟨p1, c1, hv, h1, h2, h3, h4, h5, h6⟩ := rd_cut h (k := j) (by omega)
  simp only [Value.slice.injEq] at hv
  obtain ⟨rfl, hn, rfl⟩ := hv
  have hlen : ((l.drop j).take k).length = k := by simp; omega
  refine ⟨cutP p c j, c - j, by rw [hlen], by rw [hlen]; simp at h1; omega, h2, by simp, bytes_one _, ?_, ?_⟩
  · intro hp
    have := h5 hp
    rw [hlen]; simp at this; omega
  · rcases h6 with h6 | ⟨b, o, hp, ha⟩
    · left
      have : l.drop j = [] := by simpa using h6
      rw [this]; simp
    · refine .inr ⟨b, o, hp, fun i u hi => ha i u ?_⟩
      rw [List.map_take, List.getElem?_take] at hi
      split at hi
      · exact hi
      · simp at hi

theorem take_snoc' {α : Type} (l : List α) (k : Nat) (h : k < l.length) : l.take (k + 1) = l.take k ++ [l[k]] := by
  rw [List.take_succ_eq_append_getElem h]

end Go.Proofs.Ytighcnecajgkpaa
namespace Go.Proofs.Ytighcnecajgkpaa
open Go.ChangeShapes Go.WideShapes Go.ChangeAt Go.RowKit
open Go.ChangeMaps (open_string shut_string)

theorem Try.ownKnobs : ownKnob Try.prog.godebug = none := by kernel_rfl
theorem Try.laidOut : laidOutB Try.prog = true := by kernel_rfl

/-- a slice of integers that came in: what it reads as, and that it is no greater than the form's reach -/
theorem open_nums {H : Type} {enc : TypeId × Value → H} {P : Program} {W : World} {t e : TypeId} {k : IntKind} {v : Value} {d : DataW H} {ps : List MemPlace} {r : Reach} {b0 : Nat} {ts : List TypeId} {ds : List (DataW H)} {j : Nat}
    (ht : P.underlying t = some (.slice e)) (he : P.underlying e = some (.int k)) (hc : P.cellsOf e = 1) (hval : Value.okWide P W r b0 t v) (h : DataW.Trod enc P W 0 (fun _ => true) true t v d ps)
    (hsz : (DataW.weightsEach P ts ds).all (· ≤ reachBytes) = true) (hj : ts[j]? = some t) (hd : ds[j]? = some d) :
    ∃ zs : List Int, Row W v 1 zs.length (zs.map (Value.int k)) ∧ (∀ n ∈ zs, (Lit.int k n).wf = true) ∧ zs.length * P.bytesOf e ≤ 140737488351232 := by
  obtain ⟨a0, len0, cap0, rfl⟩ := okWide_slice ht hval
  obtain ⟨fuel, hf⟩ := h
  rcases open_ints ht he hc hf with ⟨hcs, hx⟩ | ⟨x, l, c, zs, hcs, _, hl, hm, hz, hx, hcell, hwz⟩
  · simp [Value.cells] at hcs
    obtain ⟨rfl, rfl, rfl⟩ := hcs
    exact ⟨[], row_nil W 1, by simp, by simp⟩
  · simp [Value.cells] at hcs
    obtain ⟨rfl, rfl, rfl⟩ := hcs
    simp only [if_true] at hz
    have htl : (zs.take len0).length = len0 := by simp; omega
    refine ⟨zs.take len0, ⟨some x, cap0, by rw [htl], by rw [htl]; exact hl, hm, by simp, ?_, by simp, ?_⟩, fun n hn => hwz n (List.mem_of_mem_take hn), ?_⟩
    · intro u hu
      obtain ⟨n, _, rfl⟩ := List.mem_map.1 hu
      rfl
    · by_cases h0 : len0 = 0
      · left; subst h0; simp
      · right
        have hc0 := hcell 0 (by omega)
        have hsp : x.spot = none := by
          have e0 : x.add 0 = x := by simp [Addr.add]
          rw [e0] at hc0
          unfold World.cell? at hc0
          split at hc0
          · split at hc0
            · simp at hc0
            · rename_i h; simpa using h
          · simp at hc0
        obtain ⟨b, o, sp⟩ := x
        simp only at hsp
        subst hsp
        refine ⟨b, o, rfl, fun i u hi => ?_⟩
        rw [← add_off]
        have hi2 : i < zs.length := by
          have := (List.getElem?_eq_some_iff.1 hi).1
          simp at this; omega
        rw [hcell i hi2]
        have hi1 : i < len0 := by
          have := (List.getElem?_eq_some_iff.1 hi).1
          simp at this; omega
        rw [List.getElem?_map, List.getElem?_take, if_pos hi1, List.getElem?_eq_getElem hi2] at hi
        simp at hi
        rw [← hi]
        simp [List.getD, hi2]
    · simp only [Prod.mk.injEq] at hx
      have hd' := hx.1
      subst hd'
      have := sized_slice hsz hj hd ht
      rw [htl]
      have h2 : (lits (H := H) k (zs.take len0)).length + (lits (H := H) k (zs.drop len0)).length = cap0 := by
        simp [lits]; omega
      rw [h2] at this
      have h3 : len0 * P.bytesOf e ≤ cap0 * P.bytesOf e := Nat.mul_le_mul_right _ hl
      have h4 : reachBytes = 140737488351232 := by decide
      omega

theorem u8_wf {n : Int} (h : (Lit.int .u8 n).wf = true) : 0 ≤ n ∧ n ≤ 255 := by
  simpa [Lit.wf, IntKind.min, IntKind.max, IntKind.signed, IntKind.bits] using h
theorem i64_wf {n : Int} (h : (Lit.int .i64 n).wf = true) : -9223372036854775808 ≤ n ∧ n ≤ 9223372036854775807 := by
  simpa [Lit.wf, IntKind.min, IntKind.max, IntKind.signed, IntKind.bits] using h
theorem u64_wf {n : Int} (h : (Lit.int .u64 n).wf = true) : 0 ≤ n ∧ n ≤ 18446744073709551615 := by
  simpa [Lit.wf, IntKind.min, IntKind.max, IntKind.signed, IntKind.bits] using h

/-- a slice of bytes that came in -/
theorem open_bytes {H : Type} {enc : TypeId × Value → H} {P : Program} {W : World} {t e : TypeId} {v : Value} {d : DataW H} {ps : List MemPlace} {r : Reach} {b0 : Nat} {ts : List TypeId} {ds : List (DataW H)} {j : Nat}
    (ht : P.underlying t = some (.slice e)) (he : P.underlying e = some (.int .u8)) (hc : P.cellsOf e = 1) (hb : P.bytesOf e = 1) (hval : Value.okWide P W r b0 t v) (h : DataW.Trod enc P W 0 (fun _ => true) true t v d ps)
    (hsz : (DataW.weightsEach P ts ds).all (· ≤ reachBytes) = true) (hj : ts[j]? = some t) (hd : ds[j]? = some d) :
    ∃ l : List UInt8, Rd W v l ∧ l.length ≤ 140737488351232 := by
  obtain ⟨zs, hr, hwf, hl⟩ := open_nums ht he hc hval h hsz hj hd
  refine ⟨zs.map fun n => UInt8.ofNat n.toNat, ?_, by simpa [hb] using hl⟩
  have e : (zs.map fun n => UInt8.ofNat n.toNat).map B = zs.map (Value.int .u8) := by
    rw [List.map_map]
    refine List.map_congr_left fun n hn => ?_
    have := u8_wf (hwf n hn)
    simp
    omega
  unfold Rd
  rw [e, List.length_map]
  exact hr

theorem open_str {H : Type} {enc : TypeId × Value → H} {P : Program} {W : World} {t : TypeId} {v : Value} {d : DataW H} {ps : List MemPlace} {r : Reach} {b0 : Nat} {ts : List TypeId} {ds : List (DataW H)} {j : Nat}
    (ht : P.underlying t = some .string) (hval : Value.okWide P W r b0 t v) (h : DataW.Trod enc P W 0 (fun _ => true) true t v d ps)
    (hsz : (DataW.weightsEach P ts ds).all (· ≤ reachBytes) = true) (hj : ts[j]? = some t) (hd : ds[j]? = some d) :
    ∃ s : ByteArray, v = .string s ∧ d = .lit (.string s.data.toList) ∧ ps = [] ∧ s.size ≤ maxLen ∧ s.size ≤ 140737488351232 := by
  obtain ⟨s, rfl, rfl, rfl, h2⟩ := open_string ht hval h
  have := sized_string hsz hj hd
  have h4 : reachBytes = 140737488351232 := by decide
  have h5 : s.data.toList.length = s.size := by simp
  exact ⟨s, rfl, rfl, rfl, h2, by omega⟩

end Go.Proofs.Ytighcnecajgkpaa
namespace Go.Proofs.Ytighcnecajgkpaa
open Go.RowKit

/-- what a quiet call leaves, said of no world by name -/
theorem opq {P : Program} {f : FuncId} {args : Array Value} {w : World} {v : Value} (h : Calls P f args w fun e w' => e = .returned v ∧ ∃ n, w' = w.drewN n) : Calls P f args w fun e w' => e = .returned v ∧ Below w.heap.size w w' :=
  h.mono fun _ _ ⟨he, n, hw⟩ => ⟨he, by subst hw; exact below_drewN n⟩
theorem opq_same {P : Program} {f : FuncId} {args : Array Value} {w : World} {v : Value} (h : Calls P f args w fun e w' => e = .returned v ∧ w' = w) : Calls P f args w fun e w' => e = .returned v ∧ Below w.heap.size w w' :=
  h.mono fun _ _ ⟨he, hw⟩ => ⟨he, by subst hw; exact Below.refl _ _⟩

theorem below_alloc (w : World) (o : Obj) : Below w.heap.size w (w.alloc o) := (Below.refl _ _).alloc (Nat.le_refl _) o
/-- one step more, where nothing that was there turns -/
theorem below_and {a w w' : World} (h : Below a.heap.size a w) (k : Below w.heap.size w w') : Below a.heap.size a w' := h.trans (k.mono h.size)
/-- one step more, where one block alone turns, and it is new -/
theorem below_andG {a w w' : World} {b : Nat} (h : Below a.heap.size a w) (k : w.grownBy w' (some b)) (hb : a.heap.size ≤ b) : Below a.heap.size a w' := h.trans (grown_below k hb h.size)

/-- nothing is asked of a world: for 'go_region_held3' at a region without loads -/
def AnyW (w : World) : Prop := w = w
theorem anyW (w : World) : AnyW w := rfl

theorem cell_kept {w w' : World} {a : Addr} {v : Value} (h : w.cell? a = some v) (hb : Below w.heap.size w w') : w'.cell? a = some v := by
  rw [hb.cell (p := a) (World.block_lt_of_cell? w _ h)]
  exact h

theorem below_ad (w : World) (o : Obj) : Below w.heap.size w (w.alloc o).drew := Below.drewN' (below_alloc w o) 1
abbrev ptr (b : Nat) : Value := .pointer (some ⟨b, 0, none⟩)
end Go.Proofs.Ytighcnecajgkpaa
namespace Go.Proofs.Ytighcnecajgkpaa
open Go.RowKit Go.WideShapes

abbrev SM := List (List UInt8 × Value)
namespace SM
def ent (p : List UInt8 × Value) : Lit × DataW Value := (.string p.1, .held p.2)
def dat (m : SM) : DataW Value := .map (m.map ent)
def get (m : SM) (s : List UInt8) : Option Value := (m.find? (fun p => p.1 == s)).map (·.2)
def hasK (m : SM) (s : List UInt8) : Bool := m.any (fun p => p.1 == s)
def del (m : SM) (s : List UInt8) : SM := m.filter (fun p => !(p.1 == s))
def ins (s : List UInt8) (v : Value) : SM → SM
  | [] => [(s, v)]
  | y :: r => if bytesBefore s y.1 then (s, v) :: y :: r else y :: ins s v r
def put (m : SM) (s : List UInt8) (v : Value) : SM := ins s v (m.del s)

theorem same_str (a b : List UInt8) : (Lit.string a).sameKey (.string b) = (a == b) := rfl
theorem dat_has (m : SM) (s : List UInt8) : Maps.has m.dat (.string s) = m.hasK s := by
  unfold dat hasK
  rw [Maps.has_eq, List.any_map]
  rfl
theorem dat_at (m : SM) (s : List UInt8) (z : Value) : m.dat.atKey (.string s) (.held z) = .held ((m.get s).getD z) := by
  unfold dat get DataW.atKey
  simp only [List.find?_map]
  have : ((fun p : Lit × DataW Value => p.1.sameKey (.string s)) ∘ ent) = fun p => p.1 == s := by funext p; rfl
  rw [this]
  cases m.find? (fun p => p.1 == s) <;> rfl
theorem dat_del (m : SM) (s : List UInt8) : m.dat.del (.string s) = (m.del s).dat := by
  unfold dat del DataW.del
  simp only [List.filter_map]
  rfl
theorem ent_ins (s : List UInt8) (v : Value) : ∀ m : SM, DataW.insert (.string s, .held v) (m.map ent) = (ins s v m).map ent
  | [] => rfl
  | y :: r => by
    simp only [List.map_cons, DataW.insert, ins]
    have : (Lit.string s).before (ent y).1 = bytesBefore s y.1 := rfl
    rw [this]
    cases bytesBefore s y.1
    · simp [ent_ins s v r]
    · rfl
theorem dat_put (m : SM) (s : List UInt8) (v : Value) : m.dat.put (.string s) (.held v) = (m.put s v).dat := by
  unfold dat put DataW.put
  simp only [List.filter_map]
  rw [← ent_ins]
  rfl
theorem length_ins (s : List UInt8) (v : Value) : ∀ m : SM, (ins s v m).length = m.length + 1
  | [] => rfl
  | y :: r => by
    simp only [ins]
    split
    · simp
    · simp [length_ins s v r]
theorem length_del (m : SM) (s : List UInt8) : (m.del s).length ≤ m.length := List.length_filter_le _ _
theorem length_put (m : SM) (s : List UInt8) (v : Value) : (m.put s v).length ≤ m.length + 1 := by
  unfold put
  rw [length_ins]
  have := length_del m s
  omega
end SM

def anyElem (v : Value) : Option (DataW Value × List MemPlace) := some (.held v, [])

/-- block b of w is a map keyed by strings that holds these pairs -/
def SMap (P : Program) (k : TypeId) (w : World) (b : Nat) (m : SM) : Prop := w.ownsMap P k anyElem b m.length m.dat

section
variable {P : Program} {k e t : TypeId} {w : World} {b : Nat} {m : SM}

theorem SMap.of {n : Nat} (h : w.ownsMap P k anyElem b n m.dat) : SMap P k w b m := by
  obtain ⟨es, clock, hb, F, hs, hd⟩ := h
  refine ⟨es, clock, hb, F, ?_, hd⟩
  have : Maps.size m.dat = m.length := by simp [SM.dat, Maps.size]
  rw [hd] at this
  simp [Maps.size, length_sorted] at this
  omega
theorem SMap.below {w' : World} {n : Nat} (h : SMap P k w b m) (hb : Below n w w') (hn : b < n) : SMap P k w' b m := by
  obtain ⟨es, clock, h1, h2⟩ := h
  refine ⟨es, clock, ?_, h2⟩
  rw [hb.block b hn]
  exact h1
theorem SMap.lt (h : SMap P k w b m) : b < w.heap.size := World.ownsMap.lt h
theorem SMap.kept {w' : World} (h : SMap P k w b m) (hb : Below w.heap.size w w') : SMap P k w' b m := h.below hb h.lt
theorem SMap.grown {w' : World} {row : Option Nat} (h : SMap P k w b m) (hg : w.grownBy w' row) (hne : some b ≠ row) : SMap P k w' b m := World.ownsMap.kept h hg hne
theorem smap_made (w : World) (P : Program) (k : TypeId) : SMap P k (w.alloc (.map #[] 0)) w.heap.size [] := World.ownsMap_made w P k anyElem

theorem keyOf_str (hk : P.underlying k = some .string) {s : ByteArray} (hs : s.size ≤ maxLen) : keyOf P k (.string s) = some (.string s.data.toList) := by
  simp [keyOf, hk, mapKey, hs]

/-- a store's run: for a region that draws its order -/
theorem SMap.store {t e : TypeId} (h : SMap P k w b m) (hk : P.underlying k = some .string) (ht : P.underlying t = some (.map k e)) (hn : m.length < maxLen) {s : ByteArray} (hs : s.size ≤ maxLen) (val : Value) :
    ∃ w', (Instr.mapUpdate t (.map (some b)) (.string s) val).run P w = .ok () w' ∧ SMap P k w' b (m.put s.data.toList val) ∧ w.grownBy w' (some b) := by
  obtain ⟨w', h1, h2, h3⟩ := World.ownsMap.store h (Maps.string_keyed hk) ht hn (keyOf_str hk hs) (d := .held val) (ps := []) (val := val) rfl
  rw [SM.dat_put] at h2
  exact ⟨w', h1, SMap.of h2, h3.grown⟩

theorem anyElem_inv {v u : Value} {ps : List MemPlace} (h : anyElem v = some (.held u, ps)) : v = u := by
  simp [anyElem] at h
  exact h.1
end

section
variable {P : Program} (w : World) {ops : Array Oper} {rest : List Oper} {o : Oper} {a : Act} {Q : Exit → Act → World → Prop}

theorem wpList_slook_ok (hg : o.guard = none) (x1 x2 : Operand) (t : TypeId) (hop : o.op = Op.lookup t x1 x2 true)
    (k e : TypeId) (hk : P.underlying k = some .string) (ht : P.underlying t = some (.map k e)) {z : Value} (hz : (zeroValue e).run P w = .ok z w) (b : Nat) (m : SM)
    (hm : a.eval x1 = .map (some b)) (hown : SMap P k w b m) (s : ByteArray) (hx : a.eval x2 = .string s) (hs : s.size ≤ maxLen)
    (hK : wpList P ops Q rest (a.put o.dst (.tuple #[(m.get s.data.toList).getD z, .bool (m.hasK s.data.toList)])) w) :
    wpList P ops Q (o :: rest) a w :=
  Go.wpList_lookup_own_ok w hg x1 x2 t hop k e (Maps.string_keyed hk) ht anyElem hz (.held z) [] rfl b m.length m.dat hm hown _ _ hx (keyOf_str hk hs) (fun v ps hv => by
    rw [SM.dat_at] at hv
    rw [anyElem_inv hv, SM.dat_has]
    exact hK)

theorem wpList_sput (hg : o.guard = none) (x1 x2 x3 : Operand) (t : TypeId) (hop : o.op = Op.mapUpdate t x1 x2 x3)
    (k e : TypeId) (hk : P.underlying k = some .string) (ht : P.underlying t = some (.map k e)) (b : Nat) (m : SM)
    (hm : a.eval x1 = .map (some b)) (hown : SMap P k w b m) (hn : m.length < maxLen) (s : ByteArray) (val : Value) (hx : a.eval x2 = .string s) (hv : a.eval x3 = val) (hs : s.size ≤ maxLen)
    (hK : ∀ w', SMap P k w' b (m.put s.data.toList val) → w.grownBy w' (some b) → wpList P ops Q rest (a.put o.dst undef) w') :
    wpList P ops Q (o :: rest) a w :=
  Go.wpList_mapUpdate_in w hg x1 x2 x3 t hop k e (Maps.string_keyed hk) ht anyElem b m.length m.dat hm hown hn _ _ _ hx hv (keyOf_str hk hs) (.held val) [] rfl (fun w' h1 h2 => by
    rw [SM.dat_put] at h1
    exact hK w' (SMap.of h1) h2.grown)

theorem wpList_sdel (hg : o.guard = none) (x1 x2 : Operand) (t k : TypeId) (hop : o.op = Op.call { callee := Callee.builtin Builtin.delete, args := #[x1, x2], argTypes := #[t, k] })
    (e : TypeId) (hk : P.underlying k = some .string) (ht : P.underlying t = some (.map k e)) (b : Nat) (m : SM)
    (hm : a.eval x1 = .map (some b)) (hown : SMap P k w b m) (s : ByteArray) (hx : a.eval x2 = .string s) (hs : s.size ≤ maxLen)
    (hK : ∀ w', SMap P k w' b (m.del s.data.toList) → w.grownBy w' (some b) → wpList P ops Q rest (a.put o.dst (.tuple #[])) w') :
    wpList P ops Q (o :: rest) a w :=
  Go.wpList_delete_own w hg x1 x2 t k hop e (Maps.string_keyed hk) ht anyElem b m.length m.dat hm hown _ _ hx (keyOf_str hk hs) (fun w' h1 h2 => by
    rw [SM.dat_del] at h1
    exact hK w' (SMap.of h1) h2.grown)

theorem wpList_slen (hg : o.guard = none) (x1 : Operand) (t : TypeId) (hop : o.op = Op.call { callee := Callee.builtin Builtin.len, args := #[x1], argTypes := #[t] })
    (k e : TypeId) (ht : P.underlying t = some (.map k e)) (b : Nat) (m : SM) (hm : a.eval x1 = .map (some b)) (hown : SMap P k w b m)
    (hK : wpList P ops Q rest (a.put o.dst (.int .i64 (m.length : Int))) w) :
    wpList P ops Q (o :: rest) a w :=
  Go.wpList_len_own w hg x1 t hop k e ht anyElem b m.length m.dat hm hown (by
    have : Maps.size m.dat = m.length := by simp [SM.dat, Maps.size]
    rw [this]
    exact hK)
end
end Go.Proofs.Ytighcnecajgkpaa
namespace Go.Proofs.Ytighcnecajgkpaa
open Go.RowKit

/-- nothing but the blocks of S has turned of what was there -/
structure Fr (S : List Nat) (w w' : World) : Prop where
  os : w'.os = w.os
  tape : w'.tape = w.tape
  output : w'.output = w.output
  size : w.heap.size ≤ w'.heap.size
  block : ∀ k, k < w.heap.size → k ∉ S → w'.heap[k]? = w.heap[k]?

theorem Fr.refl (S : List Nat) (w : World) : Fr S w w := ⟨rfl, rfl, rfl, Nat.le_refl _, fun _ _ _ => rfl⟩
theorem Fr.trans {S T : List Nat} {a b c : World} (h : Fr S a b) (k : Fr T b c) (hs : ∀ x ∈ T, x ∈ S ∨ a.heap.size ≤ x) : Fr S a c :=
  ⟨k.os.trans h.os, k.tape.trans h.tape, k.output.trans h.output, Nat.le_trans h.size k.size, fun x hx hn =>
    (k.block x (Nat.lt_of_lt_of_le hx h.size) (fun ht => by rcases hs x ht with h1 | h1; exact hn h1; omega)).trans (h.block x hx hn)⟩
theorem Fr.mono {S T : List Nat} {a b : World} (h : Fr S a b) (hs : ∀ x ∈ S, x ∈ T) : Fr T a b :=
  ⟨h.os, h.tape, h.output, h.size, fun x hx hn => h.block x hx fun k => hn (hs x k)⟩
theorem Fr.then {S : List Nat} {a b c : World} (h : Fr S a b) (k : Fr S b c) : Fr S a c := h.trans k fun _ hx => .inl hx
theorem Fr.of_below {w w' : World} (h : Below w.heap.size w w') (S : List Nat) : Fr S w w' := ⟨h.os, h.tape, h.output, h.size, fun k hk _ => h.block k hk⟩
theorem Fr.of_grown {w w' : World} {row : Option Nat} (h : w.grownBy w' row) : Fr row.toList w w' :=
  ⟨h.os, h.tape, h.output, h.size, fun k hk hn => h.block k hk (fun e => hn (by rw [← e]; simp))⟩
theorem Fr.below {n : Nat} {S : List Nat} {w w' : World} (h : Fr S w w') (hS : ∀ x ∈ S, n ≤ x) (hn : n ≤ w.heap.size) : Below n w w' :=
  ⟨h.os, h.tape, h.output, h.size, fun k hk => h.block k (by omega) fun hs => by have := hS k hs; omega⟩
theorem Fr.alloc {S : List Nat} {a w : World} (h : Fr S a w) (o : Obj) : Fr S a (w.alloc o) := h.then (Fr.of_below (below_alloc w o) S)
theorem Fr.draw {S : List Nat} {a w : World} (h : Fr S a w) (n : Nat) : Fr S a (w.drewN n) := h.then (Fr.of_below (below_drewN n) S)
theorem Fr.set {S : List Nat} {a w : World} (h : Fr S a w) {p : Addr} (hp : p.block ∈ S) (u : Value) : Fr S a (w.setCell p u) :=
  h.then ⟨rfl, rfl, rfl, by simp [World.setCell], fun k _ hk => by
    have : k ≠ p.block := fun e => hk (e ▸ hp)
    exact Below.heap_setCell _ _ _ _ this⟩

theorem Blk.fr {S : List Nat} {w w' : World} {g : Nat} {cs : List Value} {t : TypeId} (h : Blk w g cs t) (hf : Fr S w w') (hg : g ∉ S) : Blk w' g cs t := by
  have h1 := hf.block g h.lt hg
  unfold Blk at *
  rw [h1]
  exact h

theorem own_fr {S : List Nat} {w w' : World} {base : Nat} {e : TypeId} {size : Nat} {v : Value} {n : Nat} {xs : List Value} (h : w.ownsRow base e size v n xs) (hf : Fr S w w') (hg : ∀ g, v.ownBlock = some g → g ∉ S) : w'.ownsRow base e size v n xs := by
  refine ⟨h.1, ?_⟩
  rcases h.2 with hn | ⟨g, cap, cur, rfl, hb, hgg, rest⟩
  · exact .inl hn
  · refine .inr ⟨g, cap, cur, rfl, hb, ?_, rest⟩
    rw [hf.block g (Array.getElem?_eq_some_iff.1 hgg).1 (hg g rfl)]
    exact hgg
theorem cell_fr {S : List Nat} {w w' : World} {a : Addr} {v : Value} (h : w.cell? a = some v) (hf : Fr S w w') (hg : a.block ∉ S) : w'.cell? a = some v :=
  (World.cell?_of_block (hf.block a.block (World.block_lt_of_cell? w a h) hg)).trans h

/-- 'append' as one operation, in a region that draws its order -/
theorem step_app {P : Program} {ops : Array Oper} {o : Oper} {a : Act} {w : World} {K : Act → World → Prop} {Q : Exit → Act → World → Prop} {E : Prop} (hgd : o.guard = none) (s x : Operand) (t tx : TypeId)
    (ho : o.op = .call { callee := .builtin .append, args := #[s, x], argTypes := #[t, tx] })
    (base : Nat) (e : TypeId) (i : TypeInfo) (z : Value) (size bytes : Nat) (ht : P.underlying t = some (.slice e)) (hi : P.info? e = some i) (hz : i.zero = some z)
    (hsize : i.size = size) (hby : i.bytes = bytes) (hzs : z.cells.size = size)
    (v : Value) (n : Nat) (xs : List Value) (hv : a.eval s = v) (hown : w.ownsRow base e size v n xs)
    (xv : Value) (m : Nat) (news : List Value) (hx : a.eval x = xv) (hs : Src P size tx xv m news w)
    (h63 : n + m ≤ maxLen) (hbytes : (n + m + (n + m) / 4 + 256) * bytes ≤ 281474976710656) (hbase : base ≤ w.heap.size)
    (h : ∀ v' w', w'.ownsRow base e size v' (n + m) (xs ++ news) → w.grownBy w' v.ownBlock → (v' = .slice none 0 0 ↔ v = .slice none 0 0 ∧ m = 0) → (∀ k, v'.ownBlock = some k → v.ownBlock = some k ∨ w.heap.size ≤ k) → K (a.put o.dst v') w') :
    if Region.wanted o (yielded ops a.tmps) = true then Oper.wp P o a w K Q else E := by
  have hw : Region.wanted o (yielded ops a.tmps) = true := by simp [Region.wanted, hgd]
  rw [if_pos hw]
  obtain ⟨v', w', hr, h2, h3, h4, h5⟩ := run_app (P := P) w base t tx o.type e i z size bytes ht hi hz hsize hby hzs v n xs hown xv m news hs h63 hbytes hbase
  unfold Oper.wp execOp
  simp only [ho, resolve, invoke, builtin, Sem.run_bind, Sem.run_pure, Result.andThen_ok, List.map_toArray, List.map_cons, List.map_nil, hv, hx, hr]
  exact h _ _ h2 h3 h4 h5

/-- one struct, as the source of an append -/
theorem src_block {P : Program} {t e e' : TypeId} {size : Nat} (ht : P.underlying t = some (.slice e)) (w : World) (g : Nat) (us : Array Value) (hg : w.heap[g]? = some (.cells us e' (0, 0))) (hl : us.size = size) (h1 : ∀ u ∈ us.toList, u.oneCell' = true) :
    Src P size t (.slice (some ⟨g, 0, none⟩) 1 1) 1 us.toList w := by
  refine Src.ofSlice _ ht _ 1 1 us.toList (by simp; omega) (fun j x hj => ?_) h1
  rw [add_off, cell_of_row _ g (0 + j) us e' (0, 0) hg]
  simpa using hj

theorem own_slice {w : World} {base : Nat} {e : TypeId} {size : Nat} {v : Value} {n : Nat} {xs : List Value} (h : w.ownsRow base e size v n xs) : ∃ p c, v = .slice p n c ∧ n ≤ c ∧ c ≤ maxLen := by
  rcases h.2 with ⟨rfl, rfl⟩ | ⟨g, cap, cur, rfl, -, -, h1, h2, -⟩
  · exact ⟨none, 0, rfl, Nat.le_refl _, by simp [maxLen]⟩
  · exact ⟨_, cap, rfl, h1, h2⟩

/-- one cell of a row of the call's own is stored -/
theorem own_set {w : World} {base : Nat} {e : TypeId} {size g n cap : Nat} {xs : List Value} (h : w.ownsRow base e size (.slice (some ⟨g, 0, none⟩) n cap) n xs) {k : Nat} (hk : k < n * size) (u : Value) :
    (w.setCell ⟨g, k, none⟩ u).ownsRow base e size (.slice (some ⟨g, 0, none⟩) n cap) n (xs.set k u) := by
  obtain ⟨h1, h2⟩ := h
  refine ⟨by simpa using h1, ?_⟩
  rcases h2 with ⟨h2, -⟩ | ⟨g', cap', cur, hv, hb, hh, hn, hc, hs, ht⟩
  · cases h2
  · simp only [Value.slice.injEq, Option.some.injEq, Addr.mk.injEq, true_and, and_true] at hv
    obtain ⟨rfl, rfl⟩ := hv
    have hm : n * size ≤ cap * size := Nat.mul_le_mul_right _ hn
    refine .inr ⟨g, cap, cur.setIfInBounds k u, rfl, hb, ?_, hn, hc, by simpa using hs, ?_⟩
    · have := heap_setCell_same w g k cur e u hh
      rw [this]
    · rw [← ht]
      simp only [Array.toList_setIfInBounds]
      rw [List.take_set]

/-- a shorter slice of it -/
theorem own_cut {w : World} {base : Nat} {e : TypeId} {size g n cap : Nat} {xs : List Value} (h : w.ownsRow base e size (.slice (some ⟨g, 0, none⟩) n cap) n xs) {m : Nat} (hm : m ≤ n) :
    w.ownsRow base e size (.slice (some ⟨g, 0, none⟩) m cap) m (xs.take (m * size)) := by
  obtain ⟨h1, h2⟩ := h
  have hmm : m * size ≤ n * size := Nat.mul_le_mul_right _ hm
  refine ⟨by rw [List.length_take]; omega, ?_⟩
  rcases h2 with ⟨h2, -⟩ | ⟨g', cap', cur, hv, hb, hh, hn, hc, hs, ht⟩
  · cases h2
  · simp only [Value.slice.injEq, Option.some.injEq, Addr.mk.injEq, true_and, and_true] at hv
    obtain ⟨rfl, rfl⟩ := hv
    refine .inr ⟨g, cap, cur, rfl, hb, hh, by omega, hc, hs, ?_⟩
    rw [← ht, List.take_take]
    congr 1
    omega

/-- a row with something in it has a block -/
theorem own_block {w : World} {base : Nat} {e : TypeId} {size n : Nat} {v : Value} {xs : List Value} (h : w.ownsRow base e size v n xs) (hn : 0 < n) : ∃ g cap, v = .slice (some ⟨g, 0, none⟩) n cap ∧ n ≤ cap ∧ cap ≤ maxLen ∧ g < w.heap.size := by
  rcases h.2 with ⟨rfl, rfl⟩ | ⟨g, cap, cur, rfl, -, hh, h1, h2, -⟩
  · omega
  · exact ⟨g, cap, rfl, h1, h2, (Array.getElem?_eq_some_iff.1 hh).1⟩
theorem own_cell {w : World} {base : Nat} {e : TypeId} {size g n cap : Nat} {xs : List Value} (h : w.ownsRow base e size (.slice (some ⟨g, 0, none⟩) n cap) n xs) {j : Nat} {u : Value} (hj : xs[j]? = some u) : w.cell? ⟨g, j, none⟩ = some u := by
  have := h.cells (g := g) rfl j u hj
  rw [add_off] at this
  simpa using this
theorem own_free {w : World} {base : Nat} {e : TypeId} {size g n cap : Nat} {xs : List Value} (h : w.ownsRow base e size (.slice (some ⟨g, 0, none⟩) n cap) n xs) (j : Nat) : w.frozen? ⟨g, j, none⟩ = false := by
  rcases h.2 with ⟨h2, -⟩ | ⟨g', cap', cur, hv, hb, hh, -⟩
  · cases h2
  · simp only [Value.slice.injEq, Option.some.injEq, Addr.mk.injEq, true_and, and_true] at hv
    obtain ⟨rfl, rfl⟩ := hv
    exact frozen_of_row w g j cur e hh
theorem own_other {w : World} {base : Nat} {e : TypeId} {size n : Nat} {v : Value} {xs : List Value} (h : w.ownsRow base e size v n xs) {p : Addr} (hp : v.ownBlock ≠ some p.block) (u : Value) : (w.setCell p u).ownsRow base e size v n xs := by
  refine ⟨h.1, ?_⟩
  rcases h.2 with hn | ⟨g, cap, cur, rfl, hb, hgg, rest⟩
  · exact .inl hn
  · refine .inr ⟨g, cap, cur, rfl, hb, ?_, rest⟩
    rw [Below.heap_setCell _ _ _ _ (fun e => hp (by simp [Value.ownBlock, e]))]
    exact hgg

/-- a function without results falls off its end -/
theorem end0 {P : Program} {fn : Func} {R : Ending → World → Prop} {a : Act} {w : World} (hr : fn.results = #[]) (hd : a.defers = []) (hR : R (.returned (.tuple #[])) w) : bodyPost P fn R .normal a w := by
  refine ⟨hd, _, ?_, hR⟩
  simp [results, hr]
theorem end0r {P : Program} {fn : Func} {R : Ending → World → Prop} {a : Act} {w : World} (hr : fn.results = #[]) (hd : a.defers = []) (hR : R (.returned (.tuple #[])) w) : bodyPost P fn R .ret a w := by
  refine ⟨hd, _, ?_, hR⟩
  simp [results, hr]

theorem load_cell {P : Program} {a : Addr} {v : Value} {w : World} (h : w.cell? a = some v) : (load a).run P w = .ok v w := by
  rw [run_load]
  simp [h]

theorem wrap_nil {P : Program} (t : TypeId) (a : Addr) (n : String) (w : World) : (Builtin.ssaWrapNilChk_ #[t] t #[.pointer (some a), strVal "", strVal n]).run P w = .ok (.pointer (some a)) w := rfl

/-- a value method, found at a pointer in an interface value: its receiver is loaded -/
theorem method_load {P : Program} {t e : TypeId} {name : String} {f : FuncId} {a : Addr} {v : Value} {w : World} (fuel : Nat)
    (hm : ((P.info? t).bind fun i => (i.methods.find? fun m => m.name == name).map fun m => (m.path.toList, m.func)) = some ([], some (f, false)))
    (hu : P.underlying t = some (.pointer e)) (ha : (isAgg e).run P w = .ok false w) (hc : w.cell? a = some v) :
    (method (fuel + 1) t (.pointer (some a)) name).run P w = .ok (f, v) w := by
  cases hi : P.info? t with
  | none => rw [hi] at hm; cases hm
  | some i =>
    rw [hi] at hm
    simp only [Option.bind_some] at hm
    cases hf : i.methods.find? (fun m => m.name == name) with
    | none => rw [hf] at hm; cases hm
    | some m =>
      rw [hf] at hm
      simp only [Option.map_some, Option.some.injEq, Prod.mk.injEq] at hm
      obtain ⟨h1, h2⟩ := hm
      have h3 : m.path = #[] := by cases hp : m.path with | mk l => rw [hp] at h1; simp at h1; rw [h1]
      unfold method
      simp [typeInfo, hi, hf, h2, h3, follow, receiverAt, run_underlying hu, Place.get, wrap_nil, loadVar, ha, asAddr, load_cell hc, Result.andThen]

/-- 'append' in a plain region; where the row lies behind it is told too -/
theorem wpList_app5 {P : Program} {ops : Array Oper} {rest : List Oper} {o : Oper} {a : Act} {w : World} {Q : Exit → Act → World → Prop} (hgd : o.guard = none) (s x : Operand) (t tx : TypeId)
    (ho : o.op = .call { callee := .builtin .append, args := #[s, x], argTypes := #[t, tx] })
    (base : Nat) (e : TypeId) (i : TypeInfo) (z : Value) (size bytes : Nat) (ht : P.underlying t = some (.slice e)) (hi : P.info? e = some i) (hz : i.zero = some z)
    (hsize : i.size = size) (hby : i.bytes = bytes) (hzs : z.cells.size = size)
    (v : Value) (n : Nat) (xs : List Value) (hv : a.eval s = v) (hown : w.ownsRow base e size v n xs)
    (xv : Value) (m : Nat) (news : List Value) (hx : a.eval x = xv) (hs : Src P size tx xv m news w)
    (h63 : n + m ≤ maxLen) (hbytes : (n + m + (n + m) / 4 + 256) * bytes ≤ 281474976710656) (hbase : base ≤ w.heap.size)
    (h : ∀ v' w', w'.ownsRow base e size v' (n + m) (xs ++ news) → w.grownBy w' v.ownBlock → (∀ k, v'.ownBlock = some k → v.ownBlock = some k ∨ w.heap.size ≤ k) → wpList P ops Q rest (a.put o.dst v') w') : wpList P ops Q (o :: rest) a w := by
  refine wpList_plain hgd fun K hK => ?_
  obtain ⟨v', w', hr, h2, h3, -, h5⟩ := run_app (P := P) w base t tx o.type e i z size bytes ht hi hz hsize hby hzs v n xs hown xv m news hs h63 hbytes hbase
  unfold Oper.wp execOp
  simp only [ho, resolve, invoke, builtin, Sem.run_bind, Sem.run_pure, Result.andThen_ok, List.map_toArray, List.map_cons, List.map_nil, hv, hx, hr]
  exact hK _ _ (h v' w' h2 h3 h5)
end Go.Proofs.Ytighcnecajgkpaa
namespace Go.Proofs.Ytighcnecajgkpaa
open Go.RowKit

/-- four numbers -/
structure Am where
  c : Int
  r : Int
  d : Int
  p : Int
deriving DecidableEq

namespace Am
def get (x : Am) : Nat → Int
  | 0 => x.c
  | 1 => x.r
  | 2 => x.d
  | _ => x.p
def zero : Am := ⟨0, 0, 0, 0⟩
/-- each may be -/
def ok (x : Am) : Prop := ∀ k, k < 4 → 0 ≤ x.get k ∧ x.get k ≤ 1099511627776
def okB (x : Am) : Bool := decide (0 ≤ x.c ∧ x.c ≤ 1099511627776 ∧ 0 ≤ x.r ∧ x.r ≤ 1099511627776 ∧ 0 ≤ x.d ∧ x.d ≤ 1099511627776 ∧ 0 ≤ x.p ∧ x.p ≤ 1099511627776)
/-- each is a number of the machine's -/
def fits (x : Am) : Prop := ∀ k, k < 4 → -9223372036854775808 ≤ x.get k ∧ x.get k ≤ 9223372036854775807
theorem okB_iff (x : Am) : x.okB = true ↔ x.ok := by
  unfold okB ok
  rw [decide_eq_true_eq]
  constructor
  · intro h k hk
    match k, hk with
    | 0, _ => exact ⟨h.1, h.2.1⟩
    | 1, _ => exact ⟨h.2.2.1, h.2.2.2.1⟩
    | 2, _ => exact ⟨h.2.2.2.2.1, h.2.2.2.2.2.1⟩
    | 3, _ => exact ⟨h.2.2.2.2.2.2.1, h.2.2.2.2.2.2.2⟩
    | n + 4, h => omega
  · intro h
    have h0 := h 0 (by omega)
    have h1 := h 1 (by omega)
    have h2 := h 2 (by omega)
    have h3 := h 3 (by omega)
    exact ⟨h0.1, h0.2, h1.1, h1.2, h2.1, h2.2, h3.1, h3.2⟩
end Am

abbrev amV (x : Am) : Value := .agg #[.int .i64 x.c, .int .i64 x.r, .int .i64 x.d, .int .i64 x.p]
abbrev amC (x : Am) : List Value := [.int .i64 x.c, .int .i64 x.r, .int .i64 x.d, .int .i64 x.p]
theorem amC_get (x : Am) {k : Nat} (hk : k < 4) : (amC x)[k]? = some (.int .i64 (x.get k)) := by
  match k, hk with
  | 0, _ => rfl
  | 1, _ => rfl
  | 2, _ => rfl
  | 3, _ => rfl
  | n + 4, h => omega

theorem results_row {P : Program} {fn : Func} {p : Tmp} {ty : TypeId} (h : fn.results = #[.cell p ty]) (tmps : Array Value) (w : World) (g : Nat) (t : TypeId) (cs : Array Value) (fr : Nat × Nat) (d : TypeDesc)
    (hp : tmps.getD p undef = .pointer (some ⟨g, 0, none⟩)) (hg : w.heap[g]? = some (.cells cs t fr))
    (hu : P.underlying ty = some d) (hd : (match d with | .struct _ | .array _ _ => true | _ => false) = true) (hi : (P.info? ty).map (·.size) = some cs.size) :
    (results fn tmps).run P w = .ok (.agg cs) w := by
  have hp' : tmps[p]?.getD undef = .pointer (some ⟨g, 0, none⟩) := by simpa using hp
  simp [results, h, hp', asAddr, run_loadVar_row w g t ty cs fr d hg hu hd hi, Result.andThen]
theorem results_row_tmp {P : Program} {fn : Func} {p u : Tmp} {ty : TypeId} (h : fn.results = #[.cell p ty, .tmp u]) (tmps : Array Value) (w : World) (g : Nat) (t : TypeId) (cs : Array Value) (fr : Nat × Nat) (d : TypeDesc)
    (hp : tmps.getD p undef = .pointer (some ⟨g, 0, none⟩)) (hg : w.heap[g]? = some (.cells cs t fr))
    (hu : P.underlying ty = some d) (hd : (match d with | .struct _ | .array _ _ => true | _ => false) = true) (hi : (P.info? ty).map (·.size) = some cs.size) :
    (results fn tmps).run P w = .ok (.tuple #[.agg cs, tmps.getD u undef]) w := by
  have hp' : tmps[p]?.getD undef = .pointer (some ⟨g, 0, none⟩) := by simpa using hp
  simp [results, h, hp', asAddr, run_loadVar_row w g t ty cs fr d hg hu hd hi, Result.andThen]

set_option maxRecDepth 100000 in
set_option maxHeartbeats 400000 in
theorem array_any (x : Am) (w : World) :
    Calls Try.prog 45 #[amV x] w fun e w' => e = .returned (amV x) ∧ Below w.heap.size w w' := by
  go_enter Try.func45, Try.ntmps45
  go_wp2
  refine bodyPost_ret (results_row rfl _ _ (w.heap.size + 1) 77 #[.int .i64 x.c, .int .i64 x.r, .int .i64 x.d, .int .i64 x.p] (0, 0) _ rfl ?_ Try.underlying77 rfl (by kernel_rfl)) rfl ⟨rfl, below_and (below_alloc w _) (below_alloc _ _)⟩
  have := Blk.made (w.alloc (.cells #[.int .i64 x.c, .int .i64 x.r, .int .i64 x.d, .int .i64 x.p] 28)) [.int .i64 x.c, .int .i64 x.r, .int .i64 x.d, .int .i64 x.p] 77
  simpa [Blk] using this

/-- behind a call, the same again: a number's cell -/
def Am.chk (x : Am) : Int := if x.okB then 0 else 2
theorem Am.chk_yes {x : Am} (h : x.okB = true) : x.chk = 0 := by unfold Am.chk; rw [h]; rfl
theorem Am.chk_no {x : Am} (h : x.okB = false) : x.chk = 2 := by unfold Am.chk; rw [h]; rfl

theorem index_am (x : Am) (w : World) : ∀ k, k < 4 → (Instr.index 77 (amV x) (.int .i64 (k : Nat))).run Try.prog w = .ok (.int .i64 (x.get k)) w
  | 0, _ => by kernel_rfl
  | 1, _ => by kernel_rfl
  | 2, _ => by kernel_rfl
  | 3, _ => by kernel_rfl
  | n + 4, h => by omega

set_option maxRecDepth 100000 in
set_option maxHeartbeats 600000 in
theorem check_any (x : Am) (w : World) :
    Calls Try.prog 28 #[amV x] w fun e w' => e = .returned (.int .i64 x.chk) ∧ Below w.heap.size w w' := by
  go_enter Try.func28, Try.ntmps28
  go_wp2_with (go_at_call 45; refine (array_any x _).mono ?_; rintro e w1 ⟨rfl, hb⟩; have HB := Lib.hid (below_and (below_alloc w _) hb); clear hb)
  go_loop [7] (fun i => ∃ k : Nat, k ≤ 4 ∧ i = .int .i64 (k : Int) ∧ Hid (∀ j, j < k → 0 ≤ x.get j ∧ x.get j ≤ 1099511627776)) (fun i => 4 - (intOf i).toNat)
  case atStart => exact ⟨0, Nat.zero_le _, rfl, fun j h => by omega⟩
  case round =>
    obtain ⟨k, hk, rfl, HA⟩ := hrel
    by_cases hlt : k < 4
    · have hix := index_am x w1 k hlt
      obtain ⟨z, hz⟩ : ∃ z, z = x.get k := ⟨_, rfl⟩
      rw [← hz] at hix
      have HZ := Lib.hid hz
      clear hz
      by_cases h1 : z < 0
      · have HN : Hid (x.okB = false) := Lib.hid (by rw [← Bool.not_eq_true, Am.okB_iff]; intro h; have := h k hlt; have := HZ.out; omega)
        go_wp2
        go_ret
        exact ⟨ret_int (Am.chk_no HN.out).symm, HB.out⟩
      · by_cases h2 : 1099511627776 < z
        · have HN : Hid (x.okB = false) := Lib.hid (by rw [← Bool.not_eq_true, Am.okB_iff]; intro h; have := h k hlt; have := HZ.out; omega)
          go_wp2
          go_ret
          exact ⟨ret_int (Am.chk_no HN.out).symm, HB.out⟩
        · have HA2 : Hid (∀ j, j < k + 1 → 0 ≤ x.get j ∧ x.get j ≤ 1099511627776) := Lib.hid (fun j hj => by
            by_cases h : j < k
            · exact HA.out j h
            · obtain rfl : j = k := by omega
              have := HZ.out; omega)
          have d1 : decide (z < 0) = false := by simpa using h1
          have d2 : decide (1099511627776 < z) = false := by simpa using h2
          go_wp2
          go_round
          case rel => exact ⟨k + 1, by omega, by go_num, HA2⟩
          case measure => simp [intOf]; omega
    · obtain rfl : k = 4 := by omega
      have HN : Hid (x.okB = true) := Lib.hid (by rw [Am.okB_iff]; exact HA.out)
      go_wp2
      go_ret
      exact ⟨ret_int (Am.chk_yes HN.out).symm, HB.out⟩
end Go.Proofs.Ytighcnecajgkpaa
namespace Go.Proofs.Ytighcnecajgkpaa
open Go.RowKit

def amsC (xs : List Am) : List Value := xs.flatMap amC
theorem amsC_length (xs : List Am) : (amsC xs).length = xs.length * 4 := by
  induction xs with
  | nil => rfl
  | cons x xs ih => simp only [amsC, List.flatMap_cons, List.length_append, List.length_cons, List.length_nil] at *; omega
theorem amsC_get : ∀ {xs : List Am} {i : Nat} (hi : i < xs.length) {j : Nat}, j < 4 → (amsC xs)[i * 4 + j]? = (amC xs[i])[j]?
  | [], _, hi, _, _ => by simp at hi
  | x :: xs, 0, _, j, hj => by
    simp only [amsC, List.flatMap_cons, Nat.zero_mul, Nat.zero_add, List.getElem_cons_zero]
    rw [List.getElem?_append_left (by simpa using hj)]
  | x :: xs, i + 1, hi, j, hj => by
    simp only [amsC, List.flatMap_cons, List.getElem_cons_succ]
    rw [List.getElem?_append_right (by simp; omega), show (i + 1) * 4 + j - (amC x).length = i * 4 + j from by simp; omega]
    exact amsC_get (xs := xs) (by simpa using hi) hj

/-- a slice of amounts -/
def Ams (w : World) (v : Value) (xs : List Am) : Prop := Row w v 4 xs.length (amsC xs)
theorem Ams.below {w w' : World} {v : Value} {xs : List Am} (h : Ams w v xs) (hb : Below w.heap.size w w') : Ams w' v xs := Row.below h hb
theorem Ams.shape {w : World} {v : Value} {xs : List Am} (h : Ams w v xs) : ∃ p c, v = .slice p xs.length c ∧ xs.length ≤ c ∧ c ≤ maxLen := by
  obtain ⟨p, c, hv, h1, h2, -⟩ := h
  exact ⟨p, c, hv, h1, h2⟩
theorem Ams.amAt {w : World} {p : Option Addr} {n c : Nat} {xs : List Am} (h : Ams w (.slice p n c) xs) {i : Nat} (hi : i < xs.length) :
    ∃ b o, p = some ⟨b, o, none⟩ ∧ w.cell? ⟨b, o + i * 4, none⟩ = some (.int .i64 xs[i].c) ∧ w.cell? ⟨b, o + i * 4 + 1, none⟩ = some (.int .i64 xs[i].r) ∧ w.cell? ⟨b, o + i * 4 + 2, none⟩ = some (.int .i64 xs[i].d) ∧ w.cell? ⟨b, o + i * 4 + 3, none⟩ = some (.int .i64 xs[i].p) := by
  obtain ⟨p', c', hv, h1, h2, h3, h4, h5, h6⟩ := h
  simp only [Value.slice.injEq] at hv
  obtain ⟨rfl, rfl, rfl⟩ := hv
  rcases h6 with h6 | ⟨b, o, hp, ha⟩
  · have := congrArg List.length h6
    rw [amsC_length] at this; simp at this; omega
  · refine ⟨b, o, hp, ?_, ?_, ?_, ?_⟩
    · exact ha _ _ (amsC_get hi (j := 0) (by omega))
    · rw [Nat.add_assoc]; exact ha _ _ (amsC_get hi (j := 1) (by omega))
    · rw [Nat.add_assoc]; exact ha _ _ (amsC_get hi (j := 2) (by omega))
    · rw [Nat.add_assoc]; exact ha _ _ (amsC_get hi (j := 3) (by omega))

def allB (xs : List Am) : Bool := xs.all Am.okB
set_option maxRecDepth 100000 in
set_option maxHeartbeats 600000 in
theorem all_any (v : Value) (xs : List Am) (w : World) (h : Ams w v xs) :
    Calls Try.prog 55 #[v] w fun e w' => e = .returned (.bool (allB xs)) ∧ Below w.heap.size w w' := by
  obtain ⟨p, c, rfl, hc, hm⟩ := h.shape
  have hml : maxLen ≤ 9223372036854775807 := by decide
  have H := Lib.hid h
  clear h
  go_enter Try.func55, Try.ntmps55
  go_wp2
  go_loopw [7] (fun i wc => ∃ k : Nat, k ≤ xs.length ∧ i = .int .i64 (k : Int) ∧ Hid ((xs.take k).all Am.okB = true) ∧ Hid (Below w.heap.size w wc)) (fun i _ => xs.length - (intOf i).toNat)
  case atStart => exact ⟨0, Nat.zero_le _, rfl, by simp [Hid], Below.refl _ _⟩
  case round =>
    obtain ⟨k, hk, rfl, HA, HB⟩ := hrel
    by_cases hlt : k < xs.length
    · obtain ⟨b, o, rfl, e0, e1, e2, e3⟩ := (H.out.below HB.out).amAt hlt
      obtain ⟨x, hx⟩ : ∃ x, x = xs[k] := ⟨_, rfl⟩
      rw [← hx] at e0 e1 e2 e3
      cases hq : x.okB
      · have HN : Hid (allB xs = false) := Lib.hid (by unfold allB; rw [← Bool.not_eq_true, List.all_eq_true]; intro hh; have := hh xs[k] (List.getElem_mem hlt); rw [← hx, hq] at this; cases this)
        have HQ := Lib.hid (Am.chk_no hq)
        clear hq hx
        go_wp2_with (go_at_call 28; refine (check_any x _).mono ?_; rw [HQ.out]; rintro e w2 ⟨rfl, hb⟩; have HB2 := Lib.hid (below_and (below_and HB.out (below_alloc wr _)) hb); clear hb)
        go_ret
        exact ⟨ret_bool HN.out.symm, HB2.out⟩
      · have HN : Hid ((xs.take (k + 1)).all Am.okB = true) := Lib.hid (by rw [List.take_succ_eq_append_getElem hlt, List.all_append, HA.out, ← hx]; simp [hq])
        have HQ := Lib.hid (Am.chk_yes hq)
        clear hq hx
        go_wp2_with (go_at_call 28; refine (check_any x _).mono ?_; rw [HQ.out]; rintro e w2 ⟨rfl, hb⟩; have HB2 := Lib.hid (below_and (below_and HB.out (below_alloc wr _)) hb); clear hb)
        go_roundw
        case rel => exact ⟨k + 1, hlt, by go_num, HN, HB2⟩
        case measure => simp [intOf]; omega
    · obtain rfl : k = xs.length := by omega
      have HN : Hid (allB xs = true) := Lib.hid (by have := HA.out; rwa [List.take_length] at this)
      go_wp2
      go_ret
      exact ⟨ret_bool HN.out.symm, HB.out⟩
end Go.Proofs.Ytighcnecajgkpaa
namespace Go.Proofs.Ytighcnecajgkpaa
open Go.RowKit

set_option maxRecDepth 100000 in
set_option maxHeartbeats 400000 in
theorem array_exact (x : Am) (w : World) :
    Calls Try.prog 45 #[amV x] w fun e w' => e = .returned (amV x) ∧ w' = (w.alloc (.cells #[.int .i64 x.c, .int .i64 x.r, .int .i64 x.d, .int .i64 x.p] 28)).alloc (.cells #[.int .i64 x.c, .int .i64 x.r, .int .i64 x.d, .int .i64 x.p] 77) := by
  go_enter Try.func45, Try.ntmps45
  go_wp2
  refine bodyPost_ret (results_row rfl _ _ (w.heap.size + 1) 77 #[.int .i64 x.c, .int .i64 x.r, .int .i64 x.d, .int .i64 x.p] (0, 0) _ rfl ?_ Try.underlying77 rfl (by kernel_rfl)) rfl ⟨rfl, rfl⟩
  have := Blk.made (w.alloc (.cells #[.int .i64 x.c, .int .i64 x.r, .int .i64 x.d, .int .i64 x.p] 28)) [.int .i64 x.c, .int .i64 x.r, .int .i64 x.d, .int .i64 x.p] 77
  simpa [Blk] using this

set_option maxRecDepth 100000 in
set_option maxHeartbeats 400000 in
theorem amounts_any (x : Am) (w : World) :
    Calls Try.prog 56 #[amV x] w fun e w' => e = .returned (amV x) ∧ Below w.heap.size w w' := by
  go_enter Try.func56, Try.ntmps56
  go_wp2
  refine bodyPost_ret (results_row rfl _ _ (w.heap.size + 1) 28 #[.int .i64 x.c, .int .i64 x.r, .int .i64 x.d, .int .i64 x.p] (0, 0) _ rfl ?_ Try.underlying28 rfl (by kernel_rfl)) rfl ⟨rfl, below_and (below_alloc w _) (below_alloc _ _)⟩
  have := Blk.made (w.alloc (.cells #[.int .i64 x.c, .int .i64 x.r, .int .i64 x.d, .int .i64 x.p] 77)) [.int .i64 x.c, .int .i64 x.r, .int .i64 x.d, .int .i64 x.p] 28
  simpa [Blk] using this

theorem Blk.drew {w : World} {g : Nat} {cs : List Value} {t : TypeId} (h : Blk w g cs t) : Blk w.drew g cs t := h
theorem Blk.made_at {w : World} {g : Nat} {cs : List Value} {t : TypeId} (h : w.heap.size = g) : Blk (w.alloc (.cells cs.toArray t)) g cs t := h ▸ Blk.made w cs t
theorem bl_drew {n : Nat} {a w : World} (h : Below n a w) : Below n a w.drew := Below.drewN' h 1
theorem bl_alloc {n : Nat} {a w : World} (o : Obj) (h : Below n a w) (hB : n ≤ w.heap.size) : Below n a (w.alloc o) := h.alloc hB o
theorem eight {w : World} {g h : Nat} {x y : Am} {t u : TypeId} (h0 : Blk w g (amC x) t) (h1 : Blk w h (amC y) u) : w.cell? ⟨g, 0, none⟩ = some (.int .i64 x.c) ∧ w.cell? ⟨g, 1, none⟩ = some (.int .i64 x.r) ∧ w.cell? ⟨g, 2, none⟩ = some (.int .i64 x.d) ∧ w.cell? ⟨g, 3, none⟩ = some (.int .i64 x.p) ∧ w.cell? ⟨h, 0, none⟩ = some (.int .i64 y.c) ∧ w.cell? ⟨h, 1, none⟩ = some (.int .i64 y.r) ∧ w.cell? ⟨h, 2, none⟩ = some (.int .i64 y.d) ∧ w.cell? ⟨h, 3, none⟩ = some (.int .i64 y.p) :=
  ⟨h0.cell (j := 0) rfl, h0.cell (j := 1) rfl, h0.cell (j := 2) rfl, h0.cell (j := 3) rfl, h1.cell (j := 0) rfl, h1.cell (j := 1) rfl, h1.cell (j := 2) rfl, h1.cell (j := 3) rfl⟩

/-- two arrays of the call's own, from block B on -/
def Two (B : Nat) (w : World) (u v : Value) (x y : Am) : Prop :=
  ∃ g h, u = ptr g ∧ v = ptr h ∧ g ≠ h ∧ B ≤ g ∧ B ≤ h ∧ Blk w g (amC x) 77 ∧ Blk w h (amC y) 77

/-- the first k of z, then x's -/
def Am.mix (k : Nat) (x z : Am) : Am := ⟨if 0 < k then z.c else x.c, if 1 < k then z.r else x.r, if 2 < k then z.d else x.d, if 3 < k then z.p else x.p⟩
theorem Am.mix_zero (x z : Am) : Am.mix 0 x z = x := rfl
theorem Am.mix_four (x z : Am) : Am.mix 4 x z = z := rfl
theorem Am.mix_get (k : Nat) (hk : k < 4) (x z : Am) : (amC (Am.mix k x z))[k]? = some (.int .i64 (x.get k)) := by
  match k, hk with
  | 0, _ => rfl
  | 1, _ => rfl
  | 2, _ => rfl
  | 3, _ => rfl
  | n + 4, h => omega
theorem Am.mix_set (k : Nat) (hk : k < 4) (x z : Am) : (amC (Am.mix k x z)).set k (.int .i64 (z.get k)) = amC (Am.mix (k + 1) x z) := by
  match k, hk with
  | 0, _ => rfl
  | 1, _ => rfl
  | 2, _ => rfl
  | 3, _ => rfl
  | n + 4, h => omega
end Go.Proofs.Ytighcnecajgkpaa
namespace Go.Proofs.Ytighcnecajgkpaa
open Go.RowKit

theorem Am.ext_get {x y : Am} (h : ∀ k, k < 4 → x.get k = y.get k) : x = y := by
  cases x; cases y
  have h0 := h 0 (by omega)
  have h1 := h 1 (by omega)
  have h2 := h 2 (by omega)
  have h3 := h 3 (by omega)
  simp only [Am.get] at h0 h1 h2 h3
  rw [h0, h1, h2, h3]
/-- of a number for each -/
def Am.of (f : Nat → Int) : Am := ⟨f 0, f 1, f 2, f 3⟩
theorem Am.of_get (f : Nat → Int) (k : Nat) (hk : k < 4) : (Am.of f).get k = f k := by
  match k, hk with
  | 0, _ => rfl
  | 1, _ => rfl
  | 2, _ => rfl
  | 3, _ => rfl
  | n + 4, h => omega
/-- does one of the four meet a test? -/
def any4 (f : Nat → Bool) : Bool := f 0 || f 1 || f 2 || f 3
theorem any4_yes {f : Nat → Bool} {k : Nat} (hk : k < 4) (h : f k = true) : any4 f = true := by
  unfold any4
  match k, hk with
  | 0, _ => simp [h]
  | 1, _ => simp [h]
  | 2, _ => simp [h]
  | 3, _ => simp [h]
  | n + 4, hk => omega
theorem any4_no {f : Nat → Bool} (h : ∀ k, k < 4 → f k = false) : any4 f = false := by
  unfold any4
  rw [h 0 (by omega), h 1 (by omega), h 2 (by omega), h 3 (by omega)]
  rfl
theorem any4_false {f : Nat → Bool} (h : any4 f = false) {k : Nat} (hk : k < 4) : f k = false := by
  cases hf : f k
  · rfl
  · rw [any4_yes hk hf] at h; cases h

def addR (x y : Am) : Am × Int :=
  if (x.okB && y.okB) = false then (.zero, 2) else if any4 (fun k => decide (1099511627776 < x.get k + y.get k)) = true then (.zero, 9) else (.of fun k => x.get k + y.get k, 0)
def fitsB (x y : Am) : Bool := !any4 (fun k => decide (y.get k < x.get k))
def subR (x y : Am) : Am × Int :=
  if (x.okB && y.okB) = false then (.zero, 2) else if fitsB y x = false then (.zero, 14) else (.of fun k => x.get k - y.get k, 0)
theorem addR_bad {x y : Am} (h : (x.okB && y.okB) = false) : addR x y = (.zero, 2) := by unfold addR; rw [if_pos h]
theorem addR_over {x y : Am} (h : (x.okB && y.okB) = true) {k : Nat} (hk : k < 4) (ho : 1099511627776 < x.get k + y.get k) : addR x y = (.zero, 9) := by
  unfold addR; rw [if_neg (by rw [h]; decide), if_pos (any4_yes hk (by simpa using ho))]
theorem addR_ok {x y z : Am} (h : (x.okB && y.okB) = true) (ho : ∀ k, k < 4 → x.get k + y.get k ≤ 1099511627776) (hz : ∀ k, k < 4 → z.get k = x.get k + y.get k) : addR x y = (z, 0) := by
  unfold addR
  rw [if_neg (by rw [h]; decide), if_neg (by rw [any4_no (fun k hk => by have := ho k hk; simpa using this)]; decide)]
  congr 1
  exact Am.ext_get fun k hk => by rw [Am.of_get _ k hk, hz k hk]
theorem subR_bad {x y : Am} (h : (x.okB && y.okB) = false) : subR x y = (.zero, 2) := by unfold subR; rw [if_pos h]
theorem subR_fit {x y : Am} (h : (x.okB && y.okB) = true) (hf : fitsB y x = false) : subR x y = (.zero, 14) := by
  unfold subR; rw [if_neg (by rw [h]; decide), if_pos hf]
theorem subR_ok {x y z : Am} (h : (x.okB && y.okB) = true) (hf : fitsB y x = true) (hz : ∀ k, k < 4 → z.get k = x.get k - y.get k) : subR x y = (z, 0) := by
  unfold subR
  rw [if_neg (by rw [h]; decide), if_neg (by rw [hf]; decide)]
  congr 1
  exact Am.ext_get fun k hk => by rw [Am.of_get _ k hk, hz k hk]

theorem ok_get {x : Am} (h : x.okB = true) {k : Nat} (hk : k < 4) : 0 ≤ x.get k ∧ x.get k ≤ 1099511627776 := (Am.okB_iff x).1 h k hk

theorem amsC_one (xs : List Am) : ∀ u ∈ amsC xs, u.oneCell' = true := by
  intro u hu
  obtain ⟨x, -, hx⟩ := List.mem_flatMap.1 hu
  simp only [List.mem_cons, List.not_mem_nil, or_false] at hx
  rcases hx with rfl | rfl | rfl | rfl <;> rfl
theorem ams_block {w : World} {g : Nat} {xs : List Am} {e : TypeId} {fr : Nat × Nat} (hg : w.heap[g]? = some (.cells (amsC xs).toArray e fr)) (hm : xs.length ≤ maxLen) : Ams w (.slice (some ⟨g, 0, none⟩) xs.length xs.length) xs := by
  refine ⟨_, _, rfl, Nat.le_refl _, hm, amsC_length xs, amsC_one xs, by simp, .inr ⟨g, 0, rfl, fun j u hj => ?_⟩⟩
  rw [cell_of_row w g (0 + j) _ _ _ hg]
  simpa using hj
theorem ams_two (w : World) (x y : Am) : Ams (w.alloc (.cells #[.int .i64 x.c, .int .i64 x.r, .int .i64 x.d, .int .i64 x.p, .int .i64 y.c, .int .i64 y.r, .int .i64 y.d, .int .i64 y.p] 28)) (.slice (some ⟨w.heap.size, 0, none⟩) 2 2) [x, y] :=
  ams_block (xs := [x, y]) (heap_alloc_new w _) (by simp [maxLen])
theorem ams_one (w : World) (x : Am) : Ams (w.alloc (.cells #[.int .i64 x.c, .int .i64 x.r, .int .i64 x.d, .int .i64 x.p] 28)) (.slice (some ⟨w.heap.size, 0, none⟩) 1 1) [x] :=
  ams_block (xs := [x]) (heap_alloc_new w _) (by simp [maxLen])
theorem all_two (w : World) (x y : Am) : Calls Try.prog 55 #[.slice (some ⟨w.heap.size, 0, none⟩) 2 2] (w.alloc (.cells #[.int .i64 x.c, .int .i64 x.r, .int .i64 x.d, .int .i64 x.p, .int .i64 y.c, .int .i64 y.r, .int .i64 y.d, .int .i64 y.p] 28)) fun e w' => e = .returned (.bool (x.okB && y.okB)) ∧ Below w.heap.size w w' :=
  (all_any _ [x, y] _ (ams_two w x y)).mono fun e w' ⟨h1, h2⟩ => ⟨by rw [h1]; simp [allB], below_and (below_alloc w _) h2⟩
theorem all_one (w : World) (x : Am) : Calls Try.prog 55 #[.slice (some ⟨w.heap.size, 0, none⟩) 1 1] (w.alloc (.cells #[.int .i64 x.c, .int .i64 x.r, .int .i64 x.d, .int .i64 x.p] 28)) fun e w' => e = .returned (.bool x.okB) ∧ Below w.heap.size w w' :=
  (all_any _ [x] _ (ams_one w x)).mono fun e w' ⟨h1, h2⟩ => ⟨by rw [h1]; simp [allB], below_and (below_alloc w _) h2⟩
end Go.Proofs.Ytighcnecajgkpaa
namespace Go.Proofs.Ytighcnecajgkpaa
open Go.RowKit

structure Ent where
  n : ByteArray
  i : ByteArray
  a : Am
namespace Ent
def key (e : Ent) : List UInt8 := e.n.data.toList
end Ent
abbrev entC (e : Ent) : List Value := [.string e.n, .string e.i, .int .i64 e.a.c, .int .i64 e.a.r, .int .i64 e.a.d, .int .i64 e.a.p]
abbrev entV (e : Ent) : Value := .agg #[.string e.n, .string e.i, .int .i64 e.a.c, .int .i64 e.a.r, .int .i64 e.a.d, .int .i64 e.a.p]
def entM (L : List Ent) : SM := L.map fun e => (e.key, entV e)

def fnd (L : List Ent) (s : List UInt8) : Option Ent := L.find? fun e => e.key == s
def rem (L : List Ent) (s : List UInt8) : List Ent := L.filter fun e => !(e.key == s)
def insE (x : Ent) : List Ent → List Ent
  | [] => [x]
  | y :: r => if bytesBefore x.key y.key then x :: y :: r else y :: insE x r
def putE (L : List Ent) (x : Ent) : List Ent := insE x (rem L x.key)

theorem entM_get (L : List Ent) (s : List UInt8) : (entM L).get s = (fnd L s).map entV := by
  unfold entM SM.get fnd
  rw [List.find?_map]
  cases h : L.find? (fun e => e.key == s) with
  | none =>
    have : L.find? ((fun p : List UInt8 × Value => p.1 == s) ∘ fun e => (e.key, entV e)) = none := h
    rw [this]; rfl
  | some e =>
    have : L.find? ((fun p : List UInt8 × Value => p.1 == s) ∘ fun e => (e.key, entV e)) = some e := h
    rw [this]; rfl
theorem entM_has (L : List Ent) (s : List UInt8) : (entM L).hasK s = (fnd L s).isSome := by
  unfold entM SM.hasK fnd
  rw [List.any_map]
  induction L with
  | nil => rfl
  | cons e L ih =>
    simp only [List.any_cons, List.find?_cons, Function.comp]
    cases h : (e.key == s)
    · simpa using ih
    · simp
theorem entM_del (L : List Ent) (s : List UInt8) : (entM L).del s = entM (rem L s) := by
  unfold entM SM.del rem
  rw [List.filter_map]
  rfl
theorem entM_ins (x : Ent) : ∀ L : List Ent, SM.ins x.key (entV x) (entM L) = entM (insE x L)
  | [] => rfl
  | y :: L => by
    have ih := entM_ins x L
    unfold entM at *
    simp only [List.map_cons, SM.ins, insE]
    split
    · rfl
    · rw [ih]; rfl
theorem entM_put (L : List Ent) (x : Ent) : (entM L).put x.key (entV x) = entM (putE L x) := by
  unfold SM.put putE
  rw [entM_del, entM_ins]
theorem entM_len (L : List Ent) : (entM L).length = L.length := by simp [entM]

theorem insE_mem (x : Ent) : ∀ (L : List Ent) (e : Ent), e ∈ insE x L ↔ e = x ∨ e ∈ L
  | [], e => by simp [insE]
  | y :: L, e => by
    unfold insE
    split
    · simp
    · have := insE_mem x L e
      simp only [List.mem_cons, this]
      constructor
      · rintro (h | h | h)
        · exact .inr (.inl h)
        · exact .inl h
        · exact .inr (.inr h)
      · rintro (h | h | h)
        · exact .inr (.inl h)
        · exact .inl h
        · exact .inr (.inr h)
theorem putE_mem (L : List Ent) (x e : Ent) : e ∈ putE L x ↔ e = x ∨ (e ∈ L ∧ e.key ≠ x.key) := by
  unfold putE rem
  rw [insE_mem, List.mem_filter]
  simp

/-- keys are told apart -/
def Apart (L : List Ent) : Prop := L.Pairwise fun x y => x.key ≠ y.key
theorem fnd_mem {L : List Ent} {s : List UInt8} {e : Ent} (h : fnd L s = some e) : e ∈ L ∧ e.key = s := by
  unfold fnd at h
  exact ⟨List.mem_of_find?_eq_some h, by simpa using List.find?_some h⟩
theorem fnd_none {L : List Ent} {s : List UInt8} (h : fnd L s = none) : ∀ e ∈ L, e.key ≠ s := by
  unfold fnd at h
  intro e he
  have := List.find?_eq_none.1 h e he
  simpa using this
theorem fnd_of {L : List Ent} (hd : Apart L) {e : Ent} (he : e ∈ L) : fnd L e.key = some e := by
  induction L with
  | nil => cases he
  | cons y L ih =>
    unfold Apart at hd
    rw [List.pairwise_cons] at hd
    unfold fnd at *
    simp only [List.find?_cons]
    rcases List.mem_cons.1 he with rfl | h
    · simp
    · have : (y.key == e.key) = false := by simpa using hd.1 e h
      rw [this]
      exact ih hd.2 h

/-! sums -/
def tot (f : Ent → Int) (L : List Ent) : Int := (L.map f).sum
theorem tot_nil (f : Ent → Int) : tot f [] = 0 := rfl
theorem tot_cons (f : Ent → Int) (e : Ent) (L : List Ent) : tot f (e :: L) = f e + tot f L := by simp [tot]
theorem tot_ins (f : Ent → Int) (x : Ent) : ∀ L, tot f (insE x L) = f x + tot f L
  | [] => by simp [insE, tot]
  | y :: L => by
    unfold insE
    split
    · rw [tot_cons]
    · rw [tot_cons, tot_ins f x L, tot_cons]; omega
theorem tot_rem {L : List Ent} (hd : Apart L) (f : Ent → Int) {e : Ent} (he : e ∈ L) : tot f (rem L e.key) = tot f L - f e := by
  induction L with
  | nil => cases he
  | cons y L ih =>
    unfold Apart at hd
    rw [List.pairwise_cons] at hd
    unfold rem at *
    simp only [List.filter_cons]
    rcases List.mem_cons.1 he with rfl | h
    · have h1 : L.filter (fun x => !(x.key == e.key)) = L := by
        rw [List.filter_eq_self]
        intro x hx
        have := hd.1 x hx
        simp only [Bool.not_eq_true', beq_eq_false_iff_ne, ne_eq]
        exact fun h => this h.symm
      simp only [beq_self_eq_true, Bool.not_true, Bool.false_eq_true, if_false, h1, tot_cons]
      omega
    · have h2 : (y.key == e.key) = false := by simpa using hd.1 e h
      simp only [h2, Bool.not_false, if_true, tot_cons, ih hd.2 h]
      omega
theorem tot_le {f g : Ent → Int} {L : List Ent} (h : ∀ e ∈ L, f e ≤ g e) : tot f L ≤ tot g L := by
  induction L with
  | nil => exact Int.le_refl _
  | cons e L ih =>
    rw [tot_cons, tot_cons]
    have h1 := h e (by simp)
    have h2 := ih (fun x hx => h x (by simp [hx]))
    omega
theorem tot_nonneg {f : Ent → Int} {L : List Ent} (h : ∀ e ∈ L, 0 ≤ f e) : 0 ≤ tot f L := by
  have := tot_le (f := fun _ => 0) (g := f) h
  have h0 : tot (fun _ => 0) L = 0 := by
    induction L with
    | nil => rfl
    | cons e L ih => rw [tot_cons, ih (fun x hx => h x (by simp [hx])) (tot_le (fun x hx => h x (by simp [hx])))]; rfl
  omega
theorem tot_congr {f g : Ent → Int} {L : List Ent} (h : ∀ e ∈ L, f e = g e) : tot f L = tot g L := by
  unfold tot
  rw [List.map_congr_left h]

/-- of those that a test takes -/
def pickF (p : Ent → Bool) (k : Nat) (e : Ent) : Int := if p e then e.a.get k else 0
def sumA (p : Ent → Bool) (L : List Ent) : Am := .of fun k => tot (pickF p k) L
theorem sumA_get (p : Ent → Bool) (L : List Ent) {k : Nat} (hk : k < 4) : (sumA p L).get k = tot (pickF p k) L := Am.of_get _ k hk

/-- of those that have come up, one more -/
theorem tot_step {L : List Ent} (hd : Apart L) {e : Ent} (he : e ∈ L) (left : List UInt8 → Bool) (hl : left e.key = true) (f : Ent → Int) :
    tot (fun x => if (left x.key && !(x.key == e.key)) then 0 else f x) L = tot (fun x => if left x.key then 0 else f x) L + f e := by
  induction L with
  | nil => cases he
  | cons y L ih =>
    unfold Apart at hd
    rw [List.pairwise_cons] at hd
    rw [tot_cons, tot_cons]
    rcases List.mem_cons.1 he with rfl | h
    · have h1 : tot (fun x => if (left x.key && !(x.key == e.key)) then 0 else f x) L = tot (fun x => if left x.key then 0 else f x) L := tot_congr fun x hx => by
        have : (x.key == e.key) = false := by
          have := hd.1 x hx
          simp only [beq_eq_false_iff_ne, ne_eq]
          exact fun h => this h.symm
        rw [this]; simp
      rw [h1, hl]
      simp
      omega
    · have h2 : (y.key == e.key) = false := by simpa using hd.1 e h
      rw [ih hd.2 h, h2]
      simp only [Bool.not_false, Bool.and_true]
      omega
end Go.Proofs.Ytighcnecajgkpaa
namespace Go.Proofs.Ytighcnecajgkpaa
open Go.RowKit

theorem SM.get_of_at {m : SM} {s : List UInt8} {c : Value} (h : ∀ zd : DataW Value, m.dat.atKey (.string s) zd = .held c) : m.get s = some c := by
  have h1 := h (.held (.int .i64 0))
  have h2 := h (.held (.int .i64 1))
  rw [SM.dat_at] at h1 h2
  cases hg : m.get s with
  | none =>
    rw [hg] at h1 h2
    simp only [Option.getD_none, DataW.held.injEq] at h1 h2
    rw [← h1] at h2
    cases h2
  | some v =>
    rw [hg] at h1
    simp only [Option.getD_some, DataW.held.injEq] at h1
    rw [h1]

/-- the range is under way: what is left of it -/
def SRange (P : Program) (k : TypeId) (w : World) (b r : Nat) (m : SM) (left : Lit → Bool) (cnt : Nat) : Prop := w.ranges P k anyElem b r m.length m.dat left cnt
theorem SRange.map {P : Program} {k : TypeId} {w : World} {b r : Nat} {m : SM} {left : Lit → Bool} {cnt : Nat} (h : SRange P k w b r m left cnt) : SMap P k w b m := World.ranges.owns h
theorem SRange.below {P : Program} {k : TypeId} {w w' : World} {b r : Nat} {m : SM} {left : Lit → Bool} {cnt : Nat} (h : SRange P k w b r m left cnt) (hb : Below w.heap.size w w') : SRange P k w' b r m left cnt := by
  obtain ⟨es, clock, since, seen, c0, h1, h2, h3, h4, h5, h6⟩ := h
  refine ⟨es, clock, since, seen, c0, ?_, h2, h3, h4, ?_, h6⟩
  · rw [hb.block b (Array.getElem?_eq_some_iff.1 h1).1]; exact h1
  · rw [hb.block r (Array.getElem?_eq_some_iff.1 h5).1]; exact h5
theorem SRange.set {P : Program} {k : TypeId} {w : World} {b r : Nat} {m : SM} {left : Lit → Bool} {cnt : Nat} (h : SRange P k w b r m left cnt) {a : Addr} (h1 : a.block ≠ b) (h2 : a.block ≠ r) (u : Value) : SRange P k (w.setCell a u) b r m left cnt := by
  obtain ⟨es, clock, since, seen, c0, k1, k2, k3, k4, k5, k6⟩ := h
  refine ⟨es, clock, since, seen, c0, ?_, k2, k3, k4, ?_, k6⟩
  · rw [Below.heap_setCell _ _ _ _ (Ne.symm h1)]; exact k1
  · rw [Below.heap_setCell _ _ _ _ (Ne.symm h2)]; exact k5
theorem SRange.left {P : Program} {k : TypeId} {w : World} {b r : Nat} {m : SM} {left : Lit → Bool} {cnt : Nat} (h : SRange P k w b r m left cnt) : w.rangeLeft b r = cnt := World.ranges.left_eq h
theorem SRange.lt {P : Program} {k : TypeId} {w : World} {b r : Nat} {m : SM} {left : Lit → Bool} {cnt : Nat} (h : SRange P k w b r m left cnt) : b < w.heap.size ∧ r < w.heap.size := by
  obtain ⟨es, clock, since, seen, c0, k1, k2, k3, k4, k5, k6⟩ := h
  exact ⟨(Array.getElem?_eq_some_iff.1 k1).1, (Array.getElem?_eq_some_iff.1 k5).1⟩

section
variable {P : Program} (w : World) {ops : Array Oper} {rest : List Oper} {o : Oper} {a : Act} {Q : Exit → Act → World → Prop}

theorem wpList_srange (hg : o.guard = none) (x : Operand) (t : TypeId) (hop : o.op = Op.range t x) (k e : TypeId) (hk : P.underlying k = some .string) (ht : P.underlying t = some (.map k e)) (b : Nat) (m : SM)
    (hm : a.eval x = .map (some b)) (hown : SMap P k w b m)
    (hK : ∀ w', SRange P k w' b w.heap.size m (fun kl => Maps.has m.dat kl) m.length → Below w.heap.size w w' → w'.heap.size = w.heap.size + 1 → wpList P ops Q rest (a.put o.dst (.pointer (some ⟨w.heap.size, 0, none⟩))) w') :
    wpList P ops Q (o :: rest) a w :=
  Go.wpList_range_own w hg x t hop k e (Maps.string_keyed hk) ht anyElem b m.length m.dat hm hown (fun w' h1 h2 h3 => by
    have : Maps.size m.dat = m.length := by simp [SM.dat, Maps.size]
    rw [this] at h1
    exact hK w' h1 ⟨h2.os, h2.tape, h2.output, h2.size, fun i hi => h2.block i hi (by simp)⟩ h3)

theorem keyOf_str_inv {k : TypeId} (hk : P.underlying k = some .string) {key : Value} {kl : Lit} (h : keyOf P k key = some kl) : ∃ x : ByteArray, key = .string x ∧ kl = .string x.data.toList := by
  cases key <;> simp [keyOf, hk, mapKey] at h
  rename_i s
  exact ⟨s, rfl, h.2.symm⟩

theorem wpList_snext (hg : o.guard = none) (it : Operand) (hop : o.op = Op.next it false) (k : TypeId) (hk : P.underlying k = some .string) (b r : Nat) (m : SM) (left : Lit → Bool) (cnt : Nat)
    (hit : a.eval it = .pointer (some ⟨r, 0, none⟩)) (h : SRange P k w b r m left cnt)
    (hDone : (∀ s, left (.string s) = false) → wpList P ops Q rest (a.put o.dst (.tuple #[.bool false])) w)
    (hMore : ∀ (x : ByteArray) (c : Value) (w' : World) (cnt' : Nat), left (.string x.data.toList) = true → m.get x.data.toList = some c → SRange P k w' b r m (fun z => left z && !z.sameKey (.string x.data.toList)) cnt' → cnt' < cnt →
      w.grownBy w' (some r) → w'.heap.size = w.heap.size → (Instr.entry (.pointer (some ⟨r, 0, none⟩))).run P w' = .ok (.tuple #[.string x, c]) w' → wpList P ops Q rest (a.put o.dst (.tuple #[.bool true, .string x, c])) w') :
    wpList P ops Q (o :: rest) a w :=
  Go.wpList_next_ranges w hg it hop k (Maps.string_keyed hk) anyElem Value.string (fun v : Value => v) (fun key kl hkey => by obtain ⟨x, rfl, -⟩ := keyOf_str_inv hk hkey; exact ⟨x, rfl⟩) (fun v y _ => ⟨v, rfl⟩) b r m.length m.dat left cnt hit h
    (fun _ hl => hDone fun s => hl _)
    (fun x c kl y w' cnt' hkey hlk hv hat hrg hlt hgr hsz hen => by
      obtain ⟨x', ex, rfl⟩ := keyOf_str_inv hk hkey
      cases ex
      simp only [anyElem, Option.some.injEq] at hv
      subst hv
      exact hMore x c w' cnt' hlk (SM.get_of_at hat) hrg hlt hgr hsz hen)
end
end Go.Proofs.Ytighcnecajgkpaa
namespace Go.Proofs.Ytighcnecajgkpaa
open Go

/-- the post of the region without its last operation: that operation, then the region's own -/
def popQ (P : Program) (ops : Array Oper) (Q : Exit → Act → World → Prop) (n : Nat) : Exit → Act → World → Prop
  | .normal, a, w => wpOp P ops Q n (fun a' w' => Q .normal a' w') a w
  | e, a, w => Q e a w

/-- each operation waits only for earlier ones, and is guarded only by earlier ones -/
def backB (ops : Array Oper) : Bool := (List.range ops.size).all fun j => match ops[j]? with
  | some o => (o.after.all fun e => !Region.binds .any e || decide (e.on < j)) && (match o.guard with | some (g, _) => decide (g < j) | none => true)
  | none => false
theorem backB_spec {ops : Array Oper} (h : backB ops = true) {j : Nat} {o : Oper} (ho : ops[j]? = some o) :
    (∀ e ∈ o.after, Region.binds .any e = true → e.on < j) ∧ ∀ g b, o.guard = some (g, b) → g < j := by
  have hj : j < ops.size := (Array.getElem?_eq_some_iff.1 ho).1
  have h1 := List.all_eq_true.1 h j (List.mem_range.2 hj)
  simp only [ho, Bool.and_eq_true] at h1
  refine ⟨fun e he hb => ?_, fun g b hg => ?_⟩
  · have := Array.all_eq_true_iff_forall_mem.1 h1.1 e he
    simp only [hb, Bool.not_true, Bool.false_or, decide_eq_true_eq] at this
    exact this
  · have := h1.2
    simp only [hg, decide_eq_true_eq] at this
    exact this

theorem upon_pop {P : Program} {o : Oper} {a : Act} {K : Act → World → Prop} {ops : Array Oper} {Q : Exit → Act → World → Prop} {n : Nat} (r : Result Next) (h : o.upon P a K (popQ P ops Q n) r) : o.upon P a K Q r := by
  have hl : LetsOut (popQ P ops Q n) → LetsOut Q := fun ⟨a, w, h⟩ => ⟨a, w, h⟩
  cases r with
  | ok nx w' =>
    cases nx <;> simp only [Oper.upon] at h ⊢ <;>
      first
        | exact h
        | exact Calls.mono h (fun e w'' he => by cases e <;> first | exact he | exact hl he)
  | halt x w' => cases x <;> simp only [Oper.upon] at h ⊢ <;> exact h
theorem wpOp_pop {P : Program} {ops : Array Oper} {Q : Exit → Act → World → Prop} {n i : Nat} {K : Act → World → Prop} {a : Act} {w : World} (hn : ops.size = n + 1) (hb : backB ops = true) (hi : i < n) (h : wpOp P ops.pop (popQ P ops Q n) i K a w) : wpOp P ops Q i K a w := by
  have hpop : ∀ j, j < n → ops.pop[j]? = ops[j]? := fun j hj => by rw [Array.getElem?_pop, if_pos (by omega)]
  unfold wpOp at *
  rw [hpop i hi] at h
  cases ho : ops[i]? with
  | none => simp only [ho] at h ⊢; exact h
  | some o =>
    simp only [ho] at h ⊢
    have hg := (backB_spec hb ho).2
    have hw : Region.wanted o (yielded ops.pop a.tmps) = Region.wanted o (yielded ops a.tmps) := by
      unfold Region.wanted
      cases hgu : o.guard with
      | none => rfl
      | some x =>
        obtain ⟨g, b⟩ := x
        have := hg g b hgu
        simp only
        unfold yielded
        rw [hpop g (by omega)]
    rw [hw] at h
    by_cases hwt : Region.wanted o (yielded ops a.tmps) = true
    · rw [if_pos hwt] at h ⊢
      rcases h with h | ⟨h1, ⟨a', w', h2⟩⟩
      · exact .inl (upon_pop _ h)
      · exact .inr ⟨h1, ⟨a', w', h2⟩⟩
    · rw [if_neg hwt] at h ⊢
      exact h

theorem getD_push {l : Array Bool} {j : Nat} {d : Bool} (h : j < l.size) : (l.push false).getD j d = l.getD j d := by
  simp [Array.getElem?_push, Nat.ne_of_lt h]

theorem wpAny_pop {P : Program} {ops : Array Oper} {Q : Exit → Act → World → Prop} {n : Nat} (hn : ops.size = n + 1) (hb : backB ops = true) (hs : Region.sinkB .any ops n = true) :
    ∀ (fuel : Nat) (listed : Array Bool) (a : Act) (w : World), listed.size = n → HeadInv .any ops n (listed.push false) → wpAny P .any ops.pop (popQ P ops Q n) fuel listed a w → wpAny P .any ops Q (fuel + 1) (listed.push false) a w := by
  have hpop : ∀ j, j < n → ops.pop[j]? = ops[j]? := fun j hj => by rw [Array.getElem?_pop, if_pos (by omega)]
  have hc : Region.chainB .any ops n = true := by
    unfold Region.chainB
    rw [List.all_eq_true]
    intro t ht
    have := List.mem_range.1 ht
    simp; left; omega
  obtain ⟨on, hon⟩ : ∃ on, ops[n]? = some on := ⟨ops[n], Array.getElem?_eq_getElem (by omega)⟩
  have hready : ∀ (listed : Array Bool), listed.size = n → ∀ i, i < n → (i ∈ Region.ready .any ops (listed.push false) ↔ i ∈ Region.ready .any ops.pop listed) := fun listed hl i hi => by
    rw [mem_ready, mem_ready, getD_push (by omega), hpop i hi]
    refine and_congr_right fun _ => ⟨fun ⟨o, ho, h⟩ => ⟨o, ho, fun e he hbe => ?_⟩, fun ⟨o, ho, h⟩ => ⟨o, ho, fun e he hbe => ?_⟩⟩
    · have h1 := h e he hbe
      have h2 := (backB_spec hb ho).1 e he hbe
      rwa [getD_push (by omega)] at h1
    · have h1 := h e he hbe
      have h2 := (backB_spec hb ho).1 e he hbe
      rwa [getD_push (by omega)]
  -- where not all have come up, one may come up
  have hsome : ∀ (listed : Array Bool), listed.size = n → (∃ j, j < n ∧ listed.getD j true = false) → Region.ready .any ops.pop listed ≠ [] := fun listed hl hex => by
    obtain ⟨j, hj, hmin⟩ : ∃ j, (j < n ∧ listed.getD j true = false) ∧ ∀ k, k < j → ¬ (k < n ∧ listed.getD k true = false) := by
      obtain ⟨j0, hj0⟩ := hex
      induction j0 using Nat.strongRecOn with
      | _ j0 ih =>
        by_cases h : ∃ k, k < j0 ∧ (k < n ∧ listed.getD k true = false)
        · obtain ⟨k, hk, hk2⟩ := h
          exact ih k hk hk2
        · exact ⟨j0, hj0, fun k hk hk2 => h ⟨k, hk, hk2⟩⟩
    obtain ⟨hjn, hjl⟩ := hj
    obtain ⟨o, ho⟩ : ∃ o, ops[j]? = some o := ⟨ops[j], Array.getElem?_eq_getElem (by omega)⟩
    intro he
    have : j ∈ Region.ready .any ops.pop listed := by
      rw [mem_ready, hpop j hjn]
      refine ⟨hjl, o, ho, fun e hee hbe => ?_⟩
      have h2 := (backB_spec hb ho).1 e hee hbe
      have h3 := hmin e.on h2
      have h4 : e.on < listed.size := by omega
      have h5 : ¬ listed.getD e.on true = false := fun h => h3 ⟨by omega, h⟩
      simp [h4] at h5 ⊢
      exact h5
    rw [he] at this
    cases this
  intro fuel
  induction fuel with
  | zero =>
    intro listed a w hl inv H
    by_cases hex : ∃ j, j < n ∧ listed.getD j true = false
    · exact absurd H.1 (hsome listed hl hex)
    · have hall : ∀ j, j < n → listed.getD j true = true := fun j hj => by
        cases h : listed.getD j true
        · exact absurd ⟨j, hj, h⟩ hex
        · rfl
      have hnr : n ∈ Region.ready .any ops (listed.push false) := by
        rw [mem_ready]
        refine ⟨by rw [← hl]; simp, on, hon, fun e he hbe => ?_⟩
        have h2 := (backB_spec hb hon).1 e he hbe
        have h3 := hall e.on h2
        have h4 : e.on < listed.size := by omega
        rw [getD_push h4]
        simp [h4] at h3 ⊢
        exact h3
      refine ⟨fun h => (by rw [h] at hnr; cases hnr), fun i hi => ?_⟩
      have hin : i < n + 1 := by
        obtain ⟨-, o, ho, -⟩ := mem_ready.1 hi
        have := (Array.getElem?_eq_some_iff.1 ho).1
        omega
      by_cases hi2 : i < n
      · have h5 := (mem_ready.1 hi).1
        rw [getD_push (by omega), hall i hi2] at h5
        cases h5
      · obtain rfl : i = n := by omega
        refine wpOp_mono (fun a' w' h' => wpAny_done ?_ h' 0) H.2
        rw [List.eq_nil_iff_forall_not_mem]
        intro k hk
        obtain ⟨h6, o, ho, -⟩ := mem_ready.1 hk
        have hk2 := (Array.getElem?_eq_some_iff.1 ho).1
        by_cases hki : k = i
        · subst hki
          simp [hl] at h6
        · have h7 : k < listed.size := by omega
          have h8 := hall k (by omega)
          rw [getD_set_ne true (Ne.symm hki), getD_push h7, h8] at h6
          cases h6
  | succ fuel ih =>
    intro listed a w hl inv H
    by_cases hex : ∃ j, j < n ∧ listed.getD j true = false
    · have hne := hsome listed hl hex
      obtain ⟨j, hj, hjl⟩ := hex
      have hnn : ∀ t, n ≤ t → t ∉ Region.ready .any ops (listed.push false) := tail_waits hs hc (by omega) inv (n - j) j rfl hj (by rw [getD_push (by omega)]; exact hjl)
      refine ⟨fun h => absurd h ?_, fun i hi => ?_⟩
      · obtain ⟨k, hk⟩ := List.exists_mem_of_ne_nil _ hne
        have hkn : k < n := by
          obtain ⟨-, o, ho, -⟩ := mem_ready.1 hk
          have := (Array.getElem?_eq_some_iff.1 ho).1
          simp at this; omega
        intro h0
        have := (hready listed hl k hkn).2 hk
        rw [h0] at this
        cases this
      · have hin : i < n := Nat.lt_of_not_le fun h => hnn i h hi
        have hi' := (hready listed hl i hin).1 hi
        refine wpOp_mono (fun a' w' h' => ?_) (wpOp_pop hn hb hin (H.2 i hi'))
        have hset : (listed.push false).setIfInBounds i true = (listed.setIfInBounds i true).push false := by
          apply Array.ext_getElem?
          intro k
          simp only [Array.getElem?_setIfInBounds, Array.getElem?_push, Array.size_setIfInBounds, Array.size_push]
          by_cases hki : i = k
          · subst hki
            simp [hl, hin, Nat.ne_of_lt hin, Nat.lt_succ_of_lt hin]
          · simp [hki]
        rw [hset]
        refine ih _ a' w' (by simp [hl]) ?_ h'
        rw [← hset]
        exact inv.set hi hin
    · have hall : ∀ j, j < n → listed.getD j true = true := fun j hj => by
        cases h : listed.getD j true
        · exact absurd ⟨j, hj, h⟩ hex
        · rfl
      have hnil : Region.ready .any ops.pop listed = [] := by
        rw [List.eq_nil_iff_forall_not_mem]
        intro k hk
        obtain ⟨h6, o, ho, -⟩ := mem_ready.1 hk
        have hk2 := (Array.getElem?_eq_some_iff.1 ho).1
        rw [hall k (by simp at hk2; omega)] at h6
        cases h6
      have HQ := H.1 hnil
      have hnr : n ∈ Region.ready .any ops (listed.push false) := by
        rw [mem_ready]
        refine ⟨by rw [← hl]; simp, on, hon, fun e he hbe => ?_⟩
        have h2 := (backB_spec hb hon).1 e he hbe
        have h3 := hall e.on h2
        have h4 : e.on < listed.size := by omega
        rw [getD_push h4]
        simp [h4] at h3 ⊢
        exact h3
      refine ⟨fun h => (by rw [h] at hnr; cases hnr), fun i hi => ?_⟩
      have hin : i < n + 1 := by
        obtain ⟨-, o, ho, -⟩ := mem_ready.1 hi
        have := (Array.getElem?_eq_some_iff.1 ho).1
        omega
      by_cases hi2 : i < n
      · have h5 := (mem_ready.1 hi).1
        rw [getD_push (by omega), hall i hi2] at h5
        cases h5
      · obtain rfl : i = n := by omega
        refine wpOp_mono (fun a' w' h' => wpAny_done ?_ h' _) HQ
        rw [List.eq_nil_iff_forall_not_mem]
        intro k hk
        obtain ⟨h6, o, ho, -⟩ := mem_ready.1 hk
        have hk2 := (Array.getElem?_eq_some_iff.1 ho).1
        by_cases hki : k = i
        · subst hki
          simp [hl] at h6
        · have h7 : k < listed.size := by omega
          have h8 := hall k (by omega)
          rw [getD_set_ne true (Ne.symm hki), getD_push h7, h8] at h6
          cases h6

/-- what is asked of a region whose last operation is to be taken off -/
def popB (ops : Array Oper) : Bool := backB ops && Region.sinkB .any ops (ops.size - 1) && decide (0 < ops.size)
/-- A region that draws its order: it is walked without its last operation, which comes behind all others. -/
theorem wp_region_pop {P : Program} {ops : Array Oper} {Q : Exit → Act → World → Prop} {S : World → Prop} {id : Nat} {a : Act} {w : World} (hm : P.follows .mixedOrders = true) (hp : popB ops = true)
    (h : wpAnyH P .any ops.pop (popQ P ops Q (ops.size - 1)) S (ops.size - 1) (Array.replicate (ops.size - 1) false) a w.drew) : (Code.region id ops true).wp P Q a w := by
  unfold popB at hp
  simp only [Bool.and_eq_true, decide_eq_true_eq] at hp
  obtain ⟨⟨hb, hs⟩, h0⟩ := hp
  obtain ⟨n, hn⟩ : ∃ n, ops.size = n + 1 := ⟨ops.size - 1, by omega⟩
  rw [hn, Nat.add_sub_cancel] at hs h
  refine wp_region_any hm ?_
  rw [hn, show Array.replicate (n + 1) false = (Array.replicate n false).push false from by rw [← Array.replicate_succ]]
  have inv : HeadInv .any ops n ((Array.replicate n false).push false) := by
    rw [← Array.replicate_succ]
    refine ⟨by simp [hn], fun j oj hj hl => ?_, fun t h1 h2 => ?_⟩
    · rw [getD_replicate_false] at hl
      cases hl
    · simp [show t < n + 1 from by omega]
  exact wpAny_pop hn hb hs n _ a _ (by simp) inv (wpAny_of_held _ _ _ _ h)
end Go.Proofs.Ytighcnecajgkpaa
namespace Go.Proofs.Ytighcnecajgkpaa
open Go.RowKit Go

/-- a world behind w, in which nothing that was there has turned -/
structure Past (w : World) where
  val : World
  h : Below w.heap.size w val
instance (w : World) : Nonempty (Past w) := ⟨⟨w, Below.refl _ _⟩⟩
def Past.here (w : World) : Past w := ⟨w, Below.refl _ _⟩
def Past.more {w : World} (s : Past w) {w' : World} (hb : Below s.val.heap.size s.val w') : Past w := ⟨w', below_and s.h hb⟩

theorem Past.cell {w : World} {a : Addr} {v : Value} (h : w.cell? a = some v) : ∀ s : Past w, s.val.cell? a = some v := fun s => cell_kept h s.h
theorem Past.blk {w : World} {g : Nat} {cs : List Value} {t : TypeId} (h : Blk w g cs t) {j : Nat} {u : Value} (hj : cs[j]? = some u) : ∀ s : Past w, s.val.cell? ⟨g, j, none⟩ = some u := fun s => cell_kept (h.cell hj) s.h

section
variable {P : Program}
/-- a call that answers v in the world at hand, and makes memory alone -/
theorem past_call {f : FuncId} {args : Array Value} {w : World} {s : Past w} {v : Value}
    (h : Calls P f args s.val fun e w' => e = .returned v ∧ Below s.val.heap.size s.val w') : Calls P f args s.val fun e w'' => e = .returned v ∧ ∃ s' : Past w, w'' = s'.val :=
  h.mono fun _ _ ⟨he, hb⟩ => ⟨he, s.more hb, rfl⟩
theorem past_call_same {f : FuncId} {args : Array Value} {w : World} {s : Past w} {v : Value}
    (h : Calls P f args s.val fun e w' => e = .returned v ∧ s.val = w') : Calls P f args s.val fun e w'' => e = .returned v ∧ ∃ s' : Past w, w'' = s'.val :=
  h.mono fun _ _ ⟨he, hb⟩ => ⟨he, s, hb.symm⟩

theorem quiet_weaken {ops : Array Oper} {C : World → Prop} {Q Q' : Act → Prop} (h : ∀ a, Q a → Q' a) : ∀ (l : List Oper) (a : Act), wpQuiet P ops C Q l a → wpQuiet P ops C Q' l a
  | [], a, hq => h a hq
  | o :: rest, a, hq => by
    unfold wpQuiet at hq ⊢
    split
    · rename_i hw
      rw [if_pos hw] at hq
      exact Oper.quiet_mono (fun a' h' => quiet_weaken h rest a' h') hq
    · rename_i hw
      rw [if_neg hw] at hq
      exact quiet_weaken h rest _ hq

/-- the region, walked in the order of the text -/
theorem wp_region_past {id : Nat} {Q : Exit → Act → World → Prop} {a : Act} {w : World} {l : List Oper} (hm : P.follows .mixedOrders = true) (hB : Region.lexB .any l.toArray = true)
    (h : wpQuiet P l.toArray (fun w' => ∃ s : Past w, w' = s.val) (fun a' => ∀ w', (∃ s : Past w, w' = s.val) → Q .normal a' w') l a) : (Code.region id l.toArray true).wp P Q a w :=
  wp_region_quiet (C := fun w' => ∃ s : Past w, w' = s.val) hm hB ⟨⟨{ w with drawn := w.drawn + 1 }, below_drewN 1⟩, rfl⟩ (by simpa using h)

/-- the same, its last operation (which none waits for) behind all others -/
theorem wp_region_past_pop {id : Nat} {Q : Exit → Act → World → Prop} {a : Act} {w : World} {l : List Oper} {o : Oper} (hm : P.follows .mixedOrders = true) (hB : Region.lexB .any l.toArray = true) (hp : popB (l ++ [o]).toArray = true)
    (h : wpQuiet P l.toArray (fun w' => ∃ s : Past w, w' = s.val) (fun a' => ∀ w', (∃ s : Past w, w' = s.val) → popQ P (l ++ [o]).toArray Q l.length .normal a' w') l a) : (Code.region id (l ++ [o]).toArray true).wp P Q a w := by
  have hn : (l ++ [o]).toArray.size = l.length + 1 := by simp
  have hpop : (l ++ [o]).toArray.pop = l.toArray := by simp
  unfold popB at hp
  simp only [Bool.and_eq_true, decide_eq_true_eq] at hp
  obtain ⟨⟨hb, hs⟩, -⟩ := hp
  rw [hn, Nat.add_sub_cancel] at hs
  simp only [Region.lexB, Bool.and_eq_true] at hB
  refine wp_region_any hm ?_
  rw [hn, show Array.replicate (l.length + 1) false = (Array.replicate l.length false).push false from by rw [← Array.replicate_succ]]
  have inv : HeadInv .any (l ++ [o]).toArray l.length ((Array.replicate l.length false).push false) := by
    rw [← Array.replicate_succ]
    refine ⟨by simp, fun j oj hj hl => ?_, fun t h1 h2 => ?_⟩
    · rw [getD_replicate_false] at hl
      cases hl
    · simp [show t < l.length + 1 from by omega]
  refine wpAny_pop hn hb hs l.length _ a _ (by simp) inv ?_
  rw [hpop]
  refine wpAny_of_quiet (C := fun w' => ∃ s : Past w, w' = s.val) (Q := fun a' => ∀ w', (∃ s : Past w, w' = s.val) → popQ P (l ++ [o]).toArray Q l.length .normal a' w') (fun _ w' hw' h => h w' hw') _ _ _ _ ⟨⟨{ w with drawn := w.drawn + 1 }, below_drewN 1⟩, rfl⟩ ?_
  have := wpAnyQ_lex (P := P) (C := fun w' => ∃ s : Past w, w' = s.val) (md := .any) hB.1 l 0 (Array.replicate l.length false) a (by simp) (by simpa using hB.2) h
  simpa using this

/-- the same, of a region that is written out; the last operation as a plain walk has it -/
theorem wp_region_past_last {id : Nat} {Q : Exit → Act → World → Prop} {a : Act} {w : World} {L : List Oper} {o : Oper} (hL : L.getLast? = some o) (hm : P.follows .mixedOrders = true) (hB : Region.lexB .any L.dropLast.toArray = true) (hp : popB L.toArray = true)
    (h : wpQuiet P L.dropLast.toArray (fun w' => ∃ s : Past w, w' = s.val) (fun a' => ∀ w', (∃ s : Past w, w' = s.val) → wpList P L.toArray Q [o] a' w') L.dropLast a) : (Code.region id L.toArray true).wp P Q a w := by
  have e : L.dropLast ++ [o] = L := by
    cases hq : L.reverse with
    | nil => rw [List.reverse_eq_nil_iff] at hq; subst hq; cases hL
    | cons c r =>
      have hr : L = r.reverse ++ [c] := by rw [← List.reverse_reverse L, hq, List.reverse_cons]
      rw [hr] at hL ⊢
      simp at hL
      simp [hL]
  have key : (Code.region id (L.dropLast ++ [o]).toArray true).wp P Q a w := by
    refine wp_region_past_pop hm hB (by rw [e]; exact hp) ?_
    rw [e]
    refine quiet_weaken (fun a' h' w' hw' => ?_) _ _ h
    have h2 := h' w' hw'
    have hget : L.toArray[L.dropLast.length]? = some o := by
      have : (L.dropLast ++ [o])[L.dropLast.length]? = some o := by simp
      rw [e] at this
      simpa using this
    show wpOp P L.toArray Q L.dropLast.length (fun a' w' => Q .normal a' w') a' w'
    unfold wpOp
    rw [hget]
    exact h2
  rwa [e] at key
end
end Go.Proofs.Ytighcnecajgkpaa
