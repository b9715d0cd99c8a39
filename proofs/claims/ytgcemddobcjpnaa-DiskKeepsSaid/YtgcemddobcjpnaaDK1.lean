/- Texts of one proof, laid together: Lib, Open, Lib2, Maps, ByteOrd, Kl, DkPlain, Sep, Flat, Frp, DkMem, Kl2, DkInv. No condition of ours. -/
import Derived.Test.YtgcemddobcjpnaaRows
import Derived.WalkKit
import Derived.WalkSpells
import Derived.WalkLawsBesides
import Derived.Deep.QuietTactic
import Derived.Deep.AppendSrc
import Derived.BigQuiet
import Derived.Lib.Hide
import Derived.ProofKit
import Derived.OpenShut
import Derived.ShutString
import Derived.ChangeOld
import Derived.SizedLaws
import Derived.Maps.OwnSet
import Derived.Maps.OwnOps
import Derived.Sort.KeysCollected
import Derived.Deep.RegionLaw
namespace Go.Proofs.Ytgcemddobcjpnaa
open Go.RowKit

theorem below_drewN {n : Nat} {w : World} (k : Nat) : Below n w (w.drewN k) := ⟨rfl, rfl, rfl, Nat.le_refl _, fun _ _ => rfl⟩
theorem Below.drewN' {n : Nat} {a w : World} (h : Below n a w) (k : Nat) : Below n a (w.drewN k) := h.trans (below_drewN k)

theorem ret_bool {a b : Bool} (h : a = b) : Ending.returned (.bool a) = .returned (.bool b) := by rw [h]
theorem ret_int {k : IntKind} {a b : Int} (h : a = b) : Ending.returned (.int k a) = .returned (.int k b) := by rw [h]

/-- a slice value of n elements of so many cells each: the cells read so -/
def Row (w : World) (v : Value) (size n : Nat) (cells : List Value) : Prop :=
  ∃ p c, v = .slice p n c ∧ n ≤ c ∧ c ≤ maxLen ∧ cells.length = n * size ∧ (∀ u ∈ cells, u.oneCell' = true) ∧ (p = none → n = 0 ∧ c = 0) ∧
    (cells = [] ∨ ∃ b o, p = some ⟨b, o, none⟩ ∧ ∀ j u, cells[j]? = some u → w.cell? ⟨b, o + j, none⟩ = some u)

theorem Row.below {w w' : World} {v : Value} {size n : Nat} {cells : List Value} (h : Row w v size n cells) (hb : Below w.heap.size w w') : Row w' v size n cells := by
  obtain ⟨p, c, hv, h1, h2, h3, h4, h5, h6⟩ := h
  refine ⟨p, c, hv, h1, h2, h3, h4, h5, ?_⟩
  rcases h6 with h6 | ⟨b, o, hp, ha⟩
  · exact .inl h6
  · refine .inr ⟨b, o, hp, fun j u hj => ?_⟩
    have := ha j u hj
    rw [hb.cell (p := ⟨b, o + j, none⟩) (World.block_lt_of_cell? w _ this)]
    exact this

theorem row_nil (w : World) (size : Nat) : Row w (.slice none 0 0) size 0 [] := ⟨none, 0, rfl, Nat.le_refl _, by simp [maxLen], by simp, by simp, by simp, .inl rfl⟩

theorem add_off (b o j : Nat) : (⟨b, o, none⟩ : Addr).add j = ⟨b, o + j, none⟩ := by
  unfold Addr.add; split <;> simp_all

theorem Row.src {P : Program} {w : World} {t e : TypeId} (ht : P.underlying t = some (.slice e)) {v : Value} {size n : Nat} {cells : List Value} (h : Row w v size n cells) : Src P size t v n cells w := by
  obtain ⟨p, c, rfl, h1, h2, h3, h4, h5, h6⟩ := h
  cases p with
  | none =>
    obtain ⟨rfl, rfl⟩ := h5 rfl
    have : cells = [] := List.eq_nil_of_length_eq_zero (by simpa using h3)
    subst this
    exact Src.ofNil w ht 0
  | some a =>
    refine Src.ofSlice w ht a n c cells h3 (fun j u hj => ?_) h4
    rcases h6 with h6 | ⟨b, o, hp, ha⟩
    · subst h6; simp at hj
    · obtain rfl : a = ⟨b, o, none⟩ := by simpa using hp
      rw [add_off]
      exact ha j u hj

/-- what the call owns reads -/
theorem row_of_owns {w : World} {base : Nat} {e : TypeId} {size : Nat} {v : Value} {n : Nat} {xs : List Value} (h : w.ownsRow base e size v n xs) (h1 : ∀ u ∈ xs, u.oneCell' = true) : Row w v size n xs := by
  obtain ⟨hl, h2⟩ := h
  rcases h2 with ⟨rfl, rfl⟩ | ⟨g, cap, cur, rfl, hg, hh, hn, hc, hs, ht⟩
  · have : xs = [] := List.eq_nil_of_length_eq_zero (by simpa using hl)
    subst this
    exact row_nil w size
  · refine ⟨some ⟨g, 0, none⟩, cap, rfl, hn, hc, hl, h1, by simp, .inr ⟨g, 0, rfl, fun j u hj => ?_⟩⟩
    have := World.ownsRow.cells (w := w) (base := base) (e := e) (size := size) (v := .slice (some ⟨g, 0, none⟩) n cap) (n := n) (xs := xs) ⟨hl, .inr ⟨g, cap, cur, rfl, hg, hh, hn, hc, hs, ht⟩⟩ (g := g) rfl j u hj
    rw [add_off] at this
    exact this

theorem growBy_le (need : Nat) : ∀ (r c : Nat), c < need + need / 4 + 256 → Builtin.growBy need r c ≤ need + need / 4 + 256
  | 0, c, h => by unfold Builtin.growBy; omega
  | r + 1, c, h => by
    unfold Builtin.growBy
    split
    · omega
    · exact growBy_le need r _ (by omega)

theorem nsc_le {need old : Nat} (h : old < need) : Builtin.nextslicecap need old ≤ need + need / 4 + 256 := by
  unfold Builtin.nextslicecap
  split
  · omega
  · split
    · omega
    · exact growBy_le need 4 old (by omega)

section
variable {P : Program} (w : World)

/-- 'append' onto what the call owns, of whatever source -/
theorem run_app (base : Nat) (t tx ty e : TypeId) (i : TypeInfo) (z : Value) (size bytes : Nat) (ht : P.underlying t = some (.slice e)) (hi : P.info? e = some i) (hz : i.zero = some z)
    (hsize : i.size = size) (hby : i.bytes = bytes) (hzs : z.cells.size = size)
    (v : Value) (n : Nat) (xs : List Value) (hown : w.ownsRow base e size v n xs)
    (x : Value) (m : Nat) (news : List Value) (hs : Src P size tx x m news w)
    (h63 : n + m ≤ maxLen) (hbytes : (n + m + (n + m) / 4 + 256) * bytes ≤ 281474976710656) (hbase : base ≤ w.heap.size) :
    ∃ v' w', (Builtin.append_ #[t, tx] ty #[v, x]).run P w = .ok v' w' ∧ w'.ownsRow base e size v' (n + m) (xs ++ news) ∧ w.grownBy w' v.ownBlock ∧
      (v' = .slice none 0 0 ↔ v = .slice none 0 0 ∧ m = 0) ∧ (∀ k, v'.ownBlock = some k → v.ownBlock = some k ∨ w.heap.size ≤ k) := by
  subst hsize
  subst hby
  have hsmall : ((n + m : Nat) : Int) ≤ 9223372036854775807 := by simp only [maxLen] at h63; omega
  have hl := hs.newsLen
  have hlen : (xs ++ news).length = (n + m) * i.size := by rw [List.length_append, hown.1, hl, Nat.add_mul]
  have hfit : ∀ old, old < n + m → Builtin.nextslicecap (n + m) old * i.bytes ≤ 281474976710656 := fun old h =>
    Nat.le_trans (Nat.mul_le_mul_right _ (nsc_le h)) hbytes
  have grown : ∀ (old : Nat), old < n + m → ∀ (row : Option Nat),
      (w.drew.alloc (.cells ((xs ++ news).toArray ++ Builtin.zeroCells z.cells (grownCap w (n + m) old e - (n + m))) e)).ownsRow base e i.size
        (.slice (some ⟨w.heap.size, 0, none⟩) (n + m) (grownCap w (n + m) old e)) (n + m) (xs ++ news) ∧
      w.grownBy (w.drew.alloc (.cells ((xs ++ news).toArray ++ Builtin.zeroCells z.cells (grownCap w (n + m) old e - (n + m))) e)) row := by
    intro old ho row
    have hge := grownCap_ge w (n + m) old e
    have hcm : grownCap w (n + m) old e ≤ maxLen := grownCap_le_maxLen w (n + m) old e h63
    refine ⟨⟨hlen, .inr ⟨w.heap.size, _, _, rfl, hbase, heap_alloc_new w.drew _, hge, hcm, ?_, ?_⟩⟩, ⟨rfl, rfl, rfl, by simp, fun k hk _ => Below.heap_alloc w.drew _ k hk⟩⟩
    · simp only [Array.size_append, List.size_toArray, size_zeroCells, hzs, hlen, ← Nat.add_mul]
      congr 1
      omega
    · simp only [Array.toList_append]
      rw [← hlen]
      exact List.take_left
  rcases hown.2 with ⟨rfl, rfl⟩ | ⟨g, cap, cur, rfl, hbg, hg, hnc, hcm, hcs, htake⟩
  · have hx : xs = [] := List.eq_nil_of_length_eq_zero (by simpa using hown.1)
    subst hx
    by_cases hm : m = 0
    · subst hm
      have hn : news = [] := List.eq_nil_of_length_eq_zero (by simpa using hl)
      subst hn
      refine ⟨.slice none 0 0, w, ?_, World.ownsRow_nil w base e i.size, ⟨rfl, rfl, rfl, Nat.le_refl _, fun _ _ _ => rfl⟩, by simp, fun _ h => .inl h⟩
      rcases hs.kind with ⟨e', hk⟩ | hk <;> simp [Builtin.append_, run_underlying ht, run_underlying hk, sizeOf, typeInfo, hi, hs.len, hs.cells]
    · have hr := run_append_grow_src (P := P) w t tx ty e i z ht hi hz none 0 0 [] (by simp [Builtin.firstCells]) x m news hs (by omega) (by simpa using hsmall) (hfit 0 (by omega))
      have hgr := grown 0 (by omega) (Value.ownBlock (.slice none 0 0))
      exact ⟨_, _, hr, hgr.1, hgr.2, by simp [hm], fun k hk => .inr (by simp [Value.ownBlock] at hk; omega)⟩
  · by_cases hroom : n + m ≤ cap
    · have hfitc : n * i.size + news.length ≤ cur.size := by rw [hl, hcs, ← Nat.add_mul]; exact Nat.mul_le_mul_right _ hroom
      have hst := run_storeCells_at P g (n * i.size) e news 0 cur w hg (by simpa using hfitc) hs.one
      simp only [Nat.add_zero] at hst
      have hr : (Builtin.append_ #[t, tx] ty #[.slice (some ⟨g, 0, none⟩) n cap, x]).run P w =
          .ok (.slice (some ⟨g, 0, none⟩) (n + m) cap) (w.setRow g (cur.toList.take (n * i.size) ++ news ++ cur.toList.drop (n * i.size + news.length)).toArray) := by
        rcases hs.kind with ⟨e', hk⟩ | hk <;> simp [Builtin.append_, run_underlying ht, run_underlying hk, sizeOf, typeInfo, hi, hs.len, hroom, hs.cells, Addr.add_lit, hst]
      refine ⟨_, _, hr, ⟨hlen, .inr ⟨g, cap, _, rfl, hbg, setRow_heap w g cur _ e _ hg, hroom, hcm, ?_, ?_⟩⟩, ⟨rfl, rfl, rfl, by simp, fun k _ hk => setRow_other w g k _ (fun e => hk (by simp [Value.ownBlock, e]))⟩, by simp, fun k hk => .inl (by simpa [Value.ownBlock] using hk)⟩
      · simp only [List.size_toArray, List.length_append, List.length_take, List.length_drop, Array.length_toList]
        omega
      · rw [htake, ← hlen]
        exact List.take_left
    · have holds : ∀ j u, xs[j]? = some u → w.drew.cell? ((⟨g, 0, none⟩ : Addr).add j) = some u := hown.cells (g := g) rfl
      have hr := run_append_grow_src (P := P) w t tx ty e i z ht hi hz (some ⟨g, 0, none⟩) n cap xs (run_firstCells_some w.drew i.size n ⟨g, 0, none⟩ n cap xs hown.1 holds) x m news hs (by omega) hsmall (hfit cap (by omega))
      have hgr := grown cap (by omega) (Value.ownBlock (.slice (some ⟨g, 0, none⟩) n cap))
      exact ⟨_, _, hr, hgr.1, hgr.2, by simp, fun k hk => .inr (by simp [Value.ownBlock] at hk; omega)⟩

/-- the operation, for the walk -/
theorem wpList_app {ops : Array Oper} {rest : List Oper} {o : Oper} {a : Act} {Q : Exit → Act → World → Prop} (hgd : o.guard = none) (s x : Operand) (t tx : TypeId)
    (ho : o.op = .call { callee := .builtin .append, args := #[s, x], argTypes := #[t, tx] })
    (base : Nat) (e : TypeId) (i : TypeInfo) (z : Value) (size bytes : Nat) (ht : P.underlying t = some (.slice e)) (hi : P.info? e = some i) (hz : i.zero = some z)
    (hsize : i.size = size) (hby : i.bytes = bytes) (hzs : z.cells.size = size)
    (v : Value) (n : Nat) (xs : List Value) (hv : a.eval s = v) (hown : w.ownsRow base e size v n xs)
    (xv : Value) (m : Nat) (news : List Value) (hx : a.eval x = xv) (hs : Src P size tx xv m news w)
    (h63 : n + m ≤ maxLen) (hbytes : (n + m + (n + m) / 4 + 256) * bytes ≤ 281474976710656) (hbase : base ≤ w.heap.size)
    (h : ∀ v' w', w'.ownsRow base e size v' (n + m) (xs ++ news) → w.grownBy w' v.ownBlock → (v' = .slice none 0 0 ↔ v = .slice none 0 0 ∧ m = 0) → wpList P ops Q rest (a.put o.dst v') w') : wpList P ops Q (o :: rest) a w := by
  refine wpList_plain hgd fun K hK => ?_
  obtain ⟨v', w', hr, h2, h3, h4, -⟩ := run_app (P := P) w base t tx o.type e i z size bytes ht hi hz hsize hby hzs v n xs hown xv m news hs h63 hbytes hbase
  unfold Oper.wp execOp
  simp only [ho, resolve, invoke, builtin, Sem.run_bind, Sem.run_pure, Result.andThen_ok, List.map_toArray, List.map_cons, List.map_nil, hv, hx, hr]
  exact hK _ _ (h v' w' h2 h3 h4)
end

/-! ### bytes -/

/-- a byte in a cell -/
abbrev B (c : UInt8) : Value := .int .u8 (c.toNat : Int)

/-- the slice value reads as these bytes -/
def Rd (w : World) (v : Value) (l : List UInt8) : Prop := Row w v 1 l.length (l.map B)

/-- the cells from (b, o) on read as these bytes -/
def At (w : World) (b o : Nat) (l : List UInt8) : Prop := ∀ i (h : i < l.length), w.cell? ⟨b, o + i, none⟩ = some (.int .u8 ((l[i]).toNat : Int))

theorem bytes_one (l : List UInt8) : ∀ u ∈ l.map B, u.oneCell' = true := by
  intro u hu
  obtain ⟨c, _, rfl⟩ := List.mem_map.1 hu
  rfl

theorem Rd.parts {w : World} {v : Value} {l : List UInt8} (h : Rd w v l) :
    ∃ p c, v = .slice p l.length c ∧ l.length ≤ c ∧ c ≤ maxLen ∧ (l = [] ∨ ∃ b o, p = some ⟨b, o, none⟩ ∧ At w b o l) := by
  obtain ⟨p, c, hv, h1, h2, h3, h4, h5, h6⟩ := h
  refine ⟨p, c, hv, h1, h2, ?_⟩
  rcases h6 with h6 | ⟨b, o, hp, ha⟩
  · exact .inl (by simpa using h6)
  · exact .inr ⟨b, o, hp, fun i hi => ha i _ (by simp [hi])⟩

theorem Rd.below {w w' : World} {v : Value} {l : List UInt8} (h : Rd w v l) (hb : Below w.heap.size w w') : Rd w' v l := Row.below h hb

theorem rd_nil (w : World) : Rd w (.slice none 0 0) [] := row_nil w 1

/-- bytes of the call's own, from block 'base' on -/
def Fresh (base : Nat) (w : World) (v : Value) (l : List UInt8) : Prop := w.ownsRow base 5 1 v l.length (l.map B)

theorem Fresh.rd {base : Nat} {w : World} {v : Value} {l : List UInt8} (h : Fresh base w v l) : Rd w v l := row_of_owns h (bytes_one l)

theorem Fresh.mono {base base' : Nat} {w : World} {v : Value} {l : List UInt8} (h : Fresh base w v l) (hb : base' ≤ base) : Fresh base' w v l := by
  obtain ⟨h1, h2⟩ := h
  refine ⟨h1, ?_⟩
  rcases h2 with h2 | ⟨g, cap, cur, hv, hg, r⟩
  · exact .inl h2
  · exact .inr ⟨g, cap, cur, hv, by omega, r⟩

/-- what was made before stays where nothing below is turned -/
theorem Fresh.below {base : Nat} {w w' : World} {v : Value} {l : List UInt8} (h : Fresh base w v l) (hb : Below w.heap.size w w') : Fresh base w' v l := by
  obtain ⟨h1, h2⟩ := h
  refine ⟨h1, ?_⟩
  rcases h2 with h2 | ⟨g, cap, cur, hv, hg, hh, r⟩
  · exact .inl h2
  · exact .inr ⟨g, cap, cur, hv, hg, by rw [hb.block g (Array.getElem?_eq_some_iff.1 hh).1]; exact hh, r⟩

/-- behind an append onto what the call owns, nothing below the base has turned -/
theorem below_grown {base : Nat} {w0 w w' : World} {e : TypeId} {size n : Nat} {v : Value} {xs : List Value} (hb : Below base w0 w) (hbase : base ≤ w.heap.size) (ho : w.ownsRow base e size v n xs) (hg : w.grownBy w' v.ownBlock) : Below base w0 w' :=
  hb.grown hg hbase fun k hk => (ho.lt k hk).1

theorem Try.uinfo : (Try.prog.info? 5).map (fun i => (i.zero, i.size, i.bytes)) = some (some (.int .u8 0), 1, 1) := by kernel_rfl

theorem src_one {P : Program} {t e e' : TypeId} (ht : P.underlying t = some (.slice e)) (w : World) (u : Value) (hu : u.oneCell' = true) :
    Src P 1 t (.slice (some ⟨w.heap.size, 0, none⟩) 1 1) 1 [u] (w.alloc (.cells #[u] e')) := by
  refine Src.ofSlice _ ht _ 1 1 [u] rfl (fun j x hj => ?_) (by simpa using hu)
  rw [add_off]
  match j, hj with
  | 0, hj =>
    simp at hj
    subst hj
    rw [cell_of_row _ w.heap.size 0 #[u] e' (0, 0) (heap_alloc_new w _)]
    rfl
  | j + 1, hj => simp at hj

theorem Fresh.push {base : Nat} {w : World} {v : Value} {l : List UInt8} {n : Nat} {c : UInt8} {u : Value} (h : w.ownsRow base 5 1 v (n + 1) (l.map B ++ [u])) (hn : l.length = n) (hu : u = B c) : Fresh base w v (l ++ [c]) := by
  subst hu hn
  unfold Fresh
  simpa using h

theorem Fresh.app {base : Nat} {w : World} {v : Value} {l r : List UInt8} {n m : Nat} {us : List Value} (h : w.ownsRow base 5 1 v (n + m) (l.map B ++ us)) (hn : l.length = n) (hm : r.length = m) (hu : us = r.map B) : Fresh base w v (l ++ r) := by
  subst hu hn hm
  unfold Fresh
  simpa using h

theorem Below.cellsAlloc {n : Nat} {a w : World} (h : Below n a w) (hB : n ≤ w.heap.size) (c : Array Value) (t : TypeId) : Below n a (w.alloc (.cells c t)) := h.alloc hB _

/-! ### a block known whole -/

def Blk (w : World) (g : Nat) (cs : List Value) (t : TypeId) : Prop := w.heap[g]? = some (.cells cs.toArray t (0, 0))

theorem Blk.lt {w : World} {g : Nat} {cs : List Value} {t : TypeId} (h : Blk w g cs t) : g < w.heap.size := lt_of_block h
theorem Blk.cell {w : World} {g : Nat} {cs : List Value} {t : TypeId} (h : Blk w g cs t) {j : Nat} {u : Value} (hj : cs[j]? = some u) : w.cell? ⟨g, j, none⟩ = some u := by
  unfold Blk at h
  rw [cell_of_row w g j cs.toArray t (0, 0) h]
  simpa using hj
theorem Blk.free {w : World} {g : Nat} {cs : List Value} {t : TypeId} (h : Blk w g cs t) (j : Nat) : w.frozen? ⟨g, j, none⟩ = false := by
  unfold Blk at h
  exact frozen_of_row w g j cs.toArray t h
theorem Blk.set {w : World} {g : Nat} {cs : List Value} {t : TypeId} (h : Blk w g cs t) (j : Nat) (u : Value) : Blk (w.setCell ⟨g, j, none⟩ u) g (cs.set j u) t := by
  unfold Blk at *
  rw [heap_setCell_same w g j cs.toArray t u h]
  simp
theorem Blk.other {w : World} {g : Nat} {cs : List Value} {t : TypeId} (h : Blk w g cs t) {a : Addr} (ha : g ≠ a.block) (u : Value) : Blk (w.setCell a u) g cs t := by
  unfold Blk at *
  rw [Below.heap_setCell _ _ _ _ ha]
  exact h
theorem Blk.alloc {w : World} {g : Nat} {cs : List Value} {t : TypeId} (h : Blk w g cs t) (o : Obj) : Blk (w.alloc o) g cs t := by
  have := h.lt
  unfold Blk at *
  rw [Below.heap_alloc _ _ _ this]
  exact h
theorem Blk.made (w : World) (cs : List Value) (t : TypeId) : Blk (w.alloc (.cells cs.toArray t)) w.heap.size cs t := heap_alloc_new w _
theorem Blk.below {w w' : World} {g n : Nat} {cs : List Value} {t : TypeId} (h : Blk w g cs t) (hb : Below n w w') (hn : g < n) : Blk w' g cs t := by
  unfold Blk at *
  rw [hb.block g hn]
  exact h
theorem Blk.kept {w w' : World} {g : Nat} {cs : List Value} {t : TypeId} (h : Blk w g cs t) (hb : Below w.heap.size w w') : Blk w' g cs t := h.below hb h.lt

/-! ### where one block alone may turn -/

theorem Row.grown {w w' : World} {v : Value} {size n : Nat} {cells : List Value} {row : Option Nat} (h : Row w v size n cells) (hg : w.grownBy w' row) (hr : v.ownBlock = none ∨ v.ownBlock ≠ row) : Row w' v size n cells := by
  obtain ⟨p, c, hv, h1, h2, h3, h4, h5, h6⟩ := h
  refine ⟨p, c, hv, h1, h2, h3, h4, h5, ?_⟩
  rcases h6 with h6 | ⟨b, o, hp, ha⟩
  · exact .inl h6
  · refine .inr ⟨b, o, hp, fun j u hj => ?_⟩
    have := ha j u hj
    subst hv hp
    rw [World.cell?_of_block (w := w) (w' := w') (a := ⟨b, o + j, none⟩) (hg.block b (World.block_lt_of_cell? w _ this) (by simpa [Value.ownBlock] using hr))]
    exact this

theorem Rd.grown {w w' : World} {v : Value} {l : List UInt8} {row : Option Nat} (h : Rd w v l) (hg : w.grownBy w' row) (hr : v.ownBlock = none ∨ v.ownBlock ≠ row) : Rd w' v l := Row.grown h hg hr

theorem Blk.grown {w w' : World} {g : Nat} {cs : List Value} {t : TypeId} {row : Option Nat} (h : Blk w g cs t) (hg : w.grownBy w' row) (hr : some g ≠ row) : Blk w' g cs t := by
  have := h.lt
  unfold Blk at *
  rw [hg.block g this hr]
  exact h

theorem grown_drewN {w w' : World} {row : Option Nat} (h : w.grownBy w' row) (n : Nat) : w.grownBy (w'.drewN n) row := ⟨h.os, h.tape, h.output, h.size, h.block⟩
theorem grown_refl (w : World) (row : Option Nat) : w.grownBy w row := ⟨rfl, rfl, rfl, Nat.le_refl _, fun _ _ _ => rfl⟩
theorem grown_set {w w' : World} {b : Nat} (h : w.grownBy w' (some b)) (j : Nat) (u : Value) : w.grownBy (w'.setCell ⟨b, j, none⟩ u) (some b) :=
  ⟨h.os, h.tape, h.output, by simpa using h.size, fun k hk hr => by rw [Below.heap_setCell _ _ _ _ (by simpa using hr)]; exact h.block k hk hr⟩
theorem grown_trans {a w w' : World} {row : Option Nat} (h : a.grownBy w row) (k : w.grownBy w' row) : a.grownBy w' row :=
  ⟨k.os.trans h.os, k.tape.trans h.tape, k.output.trans h.output, Nat.le_trans h.size k.size, fun i hi hr => (k.block i (Nat.lt_of_lt_of_le hi h.size) hr).trans (h.block i hi hr)⟩
theorem grown_below {n b : Nat} {w w' : World} (hg : w.grownBy w' (some b)) (hb : n ≤ b) (hw : n ≤ w.heap.size) : Below n w w' :=
  ⟨hg.os, hg.tape, hg.output, hg.size, fun k hk => hg.block k (by omega) (by simp; omega)⟩
theorem below_grownBy {w w' : World} {row : Option Nat} (h : Below w.heap.size w w') : w.grownBy w' row := ⟨h.os, h.tape, h.output, h.size, fun k hk _ => h.block k hk⟩

/-- where the rest of a slice begins -/
def cutP (p : Option Addr) (c k : Nat) : Option Addr := if c = k then p else Option.map (fun x => x.add k) p

/-- the rest of a slice from k on -/
theorem rd_cut {w : World} {p : Option Addr} {n c k : Nat} {l : List UInt8} (h : Rd w (.slice p n c) l) (hk : k ≤ l.length) : Rd w (.slice (cutP p c k) (l.length - k) (c - k)) (l.drop k) := by
  obtain ⟨p0, c0, hv, h1, h2, h3, h4, h5, h6⟩ := h
  simp only [Value.slice.injEq] at hv
  obtain ⟨rfl, rfl, rfl⟩ := hv
  refine ⟨cutP p c k, c - k, by simp, by simp; omega, Nat.le_trans (Nat.sub_le _ _) h2, by simp, bytes_one _, ?_, ?_⟩
  · intro hpn
    have hp : p = none := by unfold cutP at hpn; split at hpn <;> simp_all
    have := h5 hp
    simp; omega
  · by_cases hlt : k < l.length
    · rcases h6 with h6 | ⟨b, o, rfl, ha⟩
      · have : l = [] := by simpa using h6
        subst this; simp at hlt
      · refine .inr ⟨b, o + k, by unfold cutP; rw [if_neg (by omega)]; simp [add_off], fun j u hj => ?_⟩
        rw [Nat.add_assoc]
        refine ha (k + j) u ?_
        simpa using hj
    · exact .inl (by simp; omega)

/-- 'string(b)' -/
theorem run_str {P : Program} {w : World} {v : Value} {l : List UInt8} {t e : TypeId} (h : Rd w v l) (ht : P.underlying t = some (.slice e)) (he : P.underlying e = some (.int .u8)) (dst : TypeId) (hd : P.underlying dst = some .string) :
    (convert t dst v).run P w = .ok (.string ⟨l.toArray⟩) w := by
  obtain ⟨p, c, rfl, hc, hm, ha⟩ := h.parts
  by_cases hl : l = []
  · subst hl
    cases p with
    | none => exact run_convert_bytes_nil w t e ht he 0 c dst hd
    | some a =>
      rw [run_convert_bytes_string w t dst e _ _ c ht he hd, run_bytesToString w a _ c [] (by simp [loadCells, loadCellsFrom])]
      rfl
  · obtain ⟨b, o, rfl, hat⟩ := ha.resolve_left hl
    have := run_convert_bytes_arg (P := P) w t e ht he b o l.length c (l.map fun c => (c.toNat : Int)) (by simp) (fun i hi => by rw [hat i hi]; simp [hi]) dst hd
    rw [this]
    congr 2
    unfold strOfNums
    congr 2
    rw [List.map_map]
    conv => rhs; rw [← List.map_id l]
    refine List.map_congr_left fun c _ => ?_
    simp

/-- the piece of a slice from j to k -/
theorem rd_piece {w : World} {p : Option Addr} {n c j k : Nat} {l : List UInt8} (h : Rd w (.slice p n c) l) (hj : j + k ≤ l.length) : Rd w (.slice (cutP p c j) k (c - j)) ((l.drop j).take k) := by
  obtain ⟨p1, c1, hv, h1, h2, h3, h4, h5, h6⟩ := rd_cut h (k := j) (by omega)
  simp only [Value.slice.injEq] at hv
  obtain ⟨rfl, hn, rfl⟩ := hv
  have hlen : ((l.drop j).take k).length = k := by simp; omega
  refine ⟨cutP p c j, c - j, by rw [hlen], by rw [hlen]; simp at h1; omega, h2, by simp, bytes_one _, ?_, ?_⟩
  · intro hp
    have := h5 hp
    rw [hlen]; simp at this; omega
  · rcases h6 with h6 | ⟨b, o, hp, ha⟩
    · left
      have : l.drop j = [] := by simpa using h6
      rw [this]; simp
    · refine .inr ⟨b, o, hp, fun i u hi => ha i u ?_⟩
      rw [List.map_take, List.getElem?_take] at hi
      split at hi
      · exact hi
      · simp at hi

theorem take_snoc' {α : Type} (l : List α) (k : Nat) (h : k < l.length) : l.take (k + 1) = l.take k ++ [l[k]] := by
  rw [List.take_succ_eq_append_getElem h]

end Go.Proofs.Ytgcemddobcjpnaa
namespace Go.Proofs.Ytgcemddobcjpnaa
open Go.ChangeShapes Go.WideShapes Go.ChangeAt Go.RowKit
open Go.ChangeMaps (open_string shut_string)

theorem Try.ownKnobs : ownKnob Try.prog.godebug = none := by kernel_rfl
theorem Try.laidOut : laidOutB Try.prog = true := by kernel_rfl

/-- a slice of integers that came in: what it reads as, and that it is no greater than the form's reach -/
theorem open_nums {H : Type} {enc : TypeId × Value → H} {P : Program} {W : World} {t e : TypeId} {k : IntKind} {v : Value} {d : DataW H} {ps : List MemPlace} {r : Reach} {b0 : Nat} {ts : List TypeId} {ds : List (DataW H)} {j : Nat}
    (ht : P.underlying t = some (.slice e)) (he : P.underlying e = some (.int k)) (hc : P.cellsOf e = 1) (hval : Value.okWide P W r b0 t v) (h : DataW.Trod enc P W 0 (fun _ => true) true t v d ps)
    (hsz : (DataW.weightsEach P ts ds).all (· ≤ reachBytes) = true) (hj : ts[j]? = some t) (hd : ds[j]? = some d) :
    ∃ zs : List Int, Row W v 1 zs.length (zs.map (Value.int k)) ∧ (∀ n ∈ zs, (Lit.int k n).wf = true) ∧ zs.length * P.bytesOf e ≤ 140737488351232 := by
  obtain ⟨a0, len0, cap0, rfl⟩ := okWide_slice ht hval
  obtain ⟨fuel, hf⟩ := h
  rcases open_ints ht he hc hf with ⟨hcs, hx⟩ | ⟨x, l, c, zs, hcs, _, hl, hm, hz, hx, hcell, hwz⟩
  · simp [Value.cells] at hcs
    obtain ⟨rfl, rfl, rfl⟩ := hcs
    exact ⟨[], row_nil W 1, by simp, by simp⟩
  · simp [Value.cells] at hcs
    obtain ⟨rfl, rfl, rfl⟩ := hcs
    simp only [if_true] at hz
    have htl : (zs.take len0).length = len0 := by simp; omega
    refine ⟨zs.take len0, ⟨some x, cap0, by rw [htl], by rw [htl]; exact hl, hm, by simp, ?_, by simp, ?_⟩, fun n hn => hwz n (List.mem_of_mem_take hn), ?_⟩
    · intro u hu
      obtain ⟨n, _, rfl⟩ := List.mem_map.1 hu
      rfl
    · by_cases h0 : len0 = 0
      · left; subst h0; simp
      · right
        have hc0 := hcell 0 (by omega)
        have hsp : x.spot = none := by
          have e0 : x.add 0 = x := by simp [Addr.add]
          rw [e0] at hc0
          unfold World.cell? at hc0
          split at hc0
          · split at hc0
            · simp at hc0
            · rename_i h; simpa using h
          · simp at hc0
        obtain ⟨b, o, sp⟩ := x
        simp only at hsp
        subst hsp
        refine ⟨b, o, rfl, fun i u hi => ?_⟩
        rw [← add_off]
        have hi2 : i < zs.length := by
          have := (List.getElem?_eq_some_iff.1 hi).1
          simp at this; omega
        rw [hcell i hi2]
        have hi1 : i < len0 := by
          have := (List.getElem?_eq_some_iff.1 hi).1
          simp at this; omega
        rw [List.getElem?_map, List.getElem?_take, if_pos hi1, List.getElem?_eq_getElem hi2] at hi
        simp at hi
        rw [← hi]
        simp [List.getD, hi2]
    · simp only [Prod.mk.injEq] at hx
      have hd' := hx.1
      subst hd'
      have := sized_slice hsz hj hd ht
      rw [htl]
      have h2 : (lits (H := H) k (zs.take len0)).length + (lits (H := H) k (zs.drop len0)).length = cap0 := by
        simp [lits]; omega
      rw [h2] at this
      have h3 : len0 * P.bytesOf e ≤ cap0 * P.bytesOf e := Nat.mul_le_mul_right _ hl
      have h4 : reachBytes = 140737488351232 := by decide
      omega

theorem u8_wf {n : Int} (h : (Lit.int .u8 n).wf = true) : 0 ≤ n ∧ n ≤ 255 := by
  simpa [Lit.wf, IntKind.min, IntKind.max, IntKind.signed, IntKind.bits] using h
theorem i64_wf {n : Int} (h : (Lit.int .i64 n).wf = true) : -9223372036854775808 ≤ n ∧ n ≤ 9223372036854775807 := by
  simpa [Lit.wf, IntKind.min, IntKind.max, IntKind.signed, IntKind.bits] using h
theorem u64_wf {n : Int} (h : (Lit.int .u64 n).wf = true) : 0 ≤ n ∧ n ≤ 18446744073709551615 := by
  simpa [Lit.wf, IntKind.min, IntKind.max, IntKind.signed, IntKind.bits] using h

/-- a slice of bytes that came in -/
theorem open_bytes {H : Type} {enc : TypeId × Value → H} {P : Program} {W : World} {t e : TypeId} {v : Value} {d : DataW H} {ps : List MemPlace} {r : Reach} {b0 : Nat} {ts : List TypeId} {ds : List (DataW H)} {j : Nat}
    (ht : P.underlying t = some (.slice e)) (he : P.underlying e = some (.int .u8)) (hc : P.cellsOf e = 1) (hb : P.bytesOf e = 1) (hval : Value.okWide P W r b0 t v) (h : DataW.Trod enc P W 0 (fun _ => true) true t v d ps)
    (hsz : (DataW.weightsEach P ts ds).all (· ≤ reachBytes) = true) (hj : ts[j]? = some t) (hd : ds[j]? = some d) :
    ∃ l : List UInt8, Rd W v l ∧ l.length ≤ 140737488351232 := by
  obtain ⟨zs, hr, hwf, hl⟩ := open_nums ht he hc hval h hsz hj hd
  refine ⟨zs.map fun n => UInt8.ofNat n.toNat, ?_, by simpa [hb] using hl⟩
  have e : (zs.map fun n => UInt8.ofNat n.toNat).map B = zs.map (Value.int .u8) := by
    rw [List.map_map]
    refine List.map_congr_left fun n hn => ?_
    have := u8_wf (hwf n hn)
    simp
    omega
  unfold Rd
  rw [e, List.length_map]
  exact hr

theorem open_str {H : Type} {enc : TypeId × Value → H} {P : Program} {W : World} {t : TypeId} {v : Value} {d : DataW H} {ps : List MemPlace} {r : Reach} {b0 : Nat} {ts : List TypeId} {ds : List (DataW H)} {j : Nat}
    (ht : P.underlying t = some .string) (hval : Value.okWide P W r b0 t v) (h : DataW.Trod enc P W 0 (fun _ => true) true t v d ps)
    (hsz : (DataW.weightsEach P ts ds).all (· ≤ reachBytes) = true) (hj : ts[j]? = some t) (hd : ds[j]? = some d) :
    ∃ s : ByteArray, v = .string s ∧ d = .lit (.string s.data.toList) ∧ ps = [] ∧ s.size ≤ maxLen ∧ s.size ≤ 140737488351232 := by
  obtain ⟨s, rfl, rfl, rfl, h2⟩ := open_string ht hval h
  have := sized_string hsz hj hd
  have h4 : reachBytes = 140737488351232 := by decide
  have h5 : s.data.toList.length = s.size := by simp
  exact ⟨s, rfl, rfl, rfl, h2, by omega⟩

end Go.Proofs.Ytgcemddobcjpnaa
namespace Go.Proofs.Ytgcemddobcjpnaa
open Go.RowKit

/-- what a quiet call leaves, said of no world by name -/
theorem opq {P : Program} {f : FuncId} {args : Array Value} {w : World} {v : Value} (h : Calls P f args w fun e w' => e = .returned v ∧ ∃ n, w' = w.drewN n) : Calls P f args w fun e w' => e = .returned v ∧ Below w.heap.size w w' :=
  h.mono fun _ _ ⟨he, n, hw⟩ => ⟨he, by subst hw; exact below_drewN n⟩
theorem opq_same {P : Program} {f : FuncId} {args : Array Value} {w : World} {v : Value} (h : Calls P f args w fun e w' => e = .returned v ∧ w' = w) : Calls P f args w fun e w' => e = .returned v ∧ Below w.heap.size w w' :=
  h.mono fun _ _ ⟨he, hw⟩ => ⟨he, by subst hw; exact Below.refl _ _⟩

theorem below_alloc (w : World) (o : Obj) : Below w.heap.size w (w.alloc o) := (Below.refl _ _).alloc (Nat.le_refl _) o
/-- one step more, where nothing that was there turns -/
theorem below_and {a w w' : World} (h : Below a.heap.size a w) (k : Below w.heap.size w w') : Below a.heap.size a w' := h.trans (k.mono h.size)
/-- one step more, where one block alone turns, and it is new -/
theorem below_andG {a w w' : World} {b : Nat} (h : Below a.heap.size a w) (k : w.grownBy w' (some b)) (hb : a.heap.size ≤ b) : Below a.heap.size a w' := h.trans (grown_below k hb h.size)

/-- nothing is asked of a world: for 'go_region_held3' at a region without loads -/
def AnyW (w : World) : Prop := w = w
theorem anyW (w : World) : AnyW w := rfl

theorem cell_kept {w w' : World} {a : Addr} {v : Value} (h : w.cell? a = some v) (hb : Below w.heap.size w w') : w'.cell? a = some v := by
  rw [hb.cell (p := a) (World.block_lt_of_cell? w _ h)]
  exact h

theorem below_ad (w : World) (o : Obj) : Below w.heap.size w (w.alloc o).drew := Below.drewN' (below_alloc w o) 1
abbrev ptr (b : Nat) : Value := .pointer (some ⟨b, 0, none⟩)
end Go.Proofs.Ytgcemddobcjpnaa
namespace Go.Proofs.Ytgcemddobcjpnaa
open Go.RowKit Go.WideShapes

abbrev SM := List (List UInt8 × Value)
namespace SM
def ent (p : List UInt8 × Value) : Lit × DataW Value := (.string p.1, .held p.2)
def dat (m : SM) : DataW Value := .map (m.map ent)
def get (m : SM) (s : List UInt8) : Option Value := (m.find? (fun p => p.1 == s)).map (·.2)
def hasK (m : SM) (s : List UInt8) : Bool := m.any (fun p => p.1 == s)
def del (m : SM) (s : List UInt8) : SM := m.filter (fun p => !(p.1 == s))
def ins (s : List UInt8) (v : Value) : SM → SM
  | [] => [(s, v)]
  | y :: r => if bytesBefore s y.1 then (s, v) :: y :: r else y :: ins s v r
def put (m : SM) (s : List UInt8) (v : Value) : SM := ins s v (m.del s)

theorem same_str (a b : List UInt8) : (Lit.string a).sameKey (.string b) = (a == b) := rfl
theorem dat_has (m : SM) (s : List UInt8) : Maps.has m.dat (.string s) = m.hasK s := by
  unfold dat hasK
  rw [Maps.has_eq, List.any_map]
  rfl
theorem dat_at (m : SM) (s : List UInt8) (z : Value) : m.dat.atKey (.string s) (.held z) = .held ((m.get s).getD z) := by
  unfold dat get DataW.atKey
  simp only [List.find?_map]
  have : ((fun p : Lit × DataW Value => p.1.sameKey (.string s)) ∘ ent) = fun p => p.1 == s := by funext p; rfl
  rw [this]
  cases m.find? (fun p => p.1 == s) <;> rfl
theorem dat_del (m : SM) (s : List UInt8) : m.dat.del (.string s) = (m.del s).dat := by
  unfold dat del DataW.del
  simp only [List.filter_map]
  rfl
theorem ent_ins (s : List UInt8) (v : Value) : ∀ m : SM, DataW.insert (.string s, .held v) (m.map ent) = (ins s v m).map ent
  | [] => rfl
  | y :: r => by
    simp only [List.map_cons, DataW.insert, ins]
    have : (Lit.string s).before (ent y).1 = bytesBefore s y.1 := rfl
    rw [this]
    cases bytesBefore s y.1
    · simp [ent_ins s v r]
    · rfl
theorem dat_put (m : SM) (s : List UInt8) (v : Value) : m.dat.put (.string s) (.held v) = (m.put s v).dat := by
  unfold dat put DataW.put
  simp only [List.filter_map]
  rw [← ent_ins]
  rfl
theorem length_ins (s : List UInt8) (v : Value) : ∀ m : SM, (ins s v m).length = m.length + 1
  | [] => rfl
  | y :: r => by
    simp only [ins]
    split
    · simp
    · simp [length_ins s v r]
theorem length_del (m : SM) (s : List UInt8) : (m.del s).length ≤ m.length := List.length_filter_le _ _
theorem length_put (m : SM) (s : List UInt8) (v : Value) : (m.put s v).length ≤ m.length + 1 := by
  unfold put
  rw [length_ins]
  have := length_del m s
  omega
end SM

def anyElem (v : Value) : Option (DataW Value × List MemPlace) := some (.held v, [])

/-- block b of w is a map keyed by strings that holds these pairs -/
def SMap (P : Program) (k : TypeId) (w : World) (b : Nat) (m : SM) : Prop := w.ownsMap P k anyElem b m.length m.dat

section
variable {P : Program} {k e t : TypeId} {w : World} {b : Nat} {m : SM}

theorem SMap.of {n : Nat} (h : w.ownsMap P k anyElem b n m.dat) : SMap P k w b m := by
  obtain ⟨es, clock, hb, F, hs, hd⟩ := h
  refine ⟨es, clock, hb, F, ?_, hd⟩
  have : Maps.size m.dat = m.length := by simp [SM.dat, Maps.size]
  rw [hd] at this
  simp [Maps.size, length_sorted] at this
  omega
theorem SMap.below {w' : World} {n : Nat} (h : SMap P k w b m) (hb : Below n w w') (hn : b < n) : SMap P k w' b m := by
  obtain ⟨es, clock, h1, h2⟩ := h
  refine ⟨es, clock, ?_, h2⟩
  rw [hb.block b hn]
  exact h1
theorem SMap.lt (h : SMap P k w b m) : b < w.heap.size := World.ownsMap.lt h
theorem SMap.kept {w' : World} (h : SMap P k w b m) (hb : Below w.heap.size w w') : SMap P k w' b m := h.below hb h.lt
theorem SMap.grown {w' : World} {row : Option Nat} (h : SMap P k w b m) (hg : w.grownBy w' row) (hne : some b ≠ row) : SMap P k w' b m := World.ownsMap.kept h hg hne
theorem smap_made (w : World) (P : Program) (k : TypeId) : SMap P k (w.alloc (.map #[] 0)) w.heap.size [] := World.ownsMap_made w P k anyElem

theorem keyOf_str (hk : P.underlying k = some .string) {s : ByteArray} (hs : s.size ≤ maxLen) : keyOf P k (.string s) = some (.string s.data.toList) := by
  simp [keyOf, hk, mapKey, hs]

/-- a store's run: for a region that draws its order -/
theorem SMap.store {t e : TypeId} (h : SMap P k w b m) (hk : P.underlying k = some .string) (ht : P.underlying t = some (.map k e)) (hn : m.length < maxLen) {s : ByteArray} (hs : s.size ≤ maxLen) (val : Value) :
    ∃ w', (Instr.mapUpdate t (.map (some b)) (.string s) val).run P w = .ok () w' ∧ SMap P k w' b (m.put s.data.toList val) ∧ w.grownBy w' (some b) := by
  obtain ⟨w', h1, h2, h3⟩ := World.ownsMap.store h (Maps.string_keyed hk) ht hn (keyOf_str hk hs) (d := .held val) (ps := []) (val := val) rfl
  rw [SM.dat_put] at h2
  exact ⟨w', h1, SMap.of h2, h3.grown⟩

theorem anyElem_inv {v u : Value} {ps : List MemPlace} (h : anyElem v = some (.held u, ps)) : v = u := by
  simp [anyElem] at h
  exact h.1
end

section
variable {P : Program} (w : World) {ops : Array Oper} {rest : List Oper} {o : Oper} {a : Act} {Q : Exit → Act → World → Prop}

theorem wpList_slook_ok (hg : o.guard = none) (x1 x2 : Operand) (t : TypeId) (hop : o.op = Op.lookup t x1 x2 true)
    (k e : TypeId) (hk : P.underlying k = some .string) (ht : P.underlying t = some (.map k e)) {z : Value} (hz : (zeroValue e).run P w = .ok z w) (b : Nat) (m : SM)
    (hm : a.eval x1 = .map (some b)) (hown : SMap P k w b m) (s : ByteArray) (hx : a.eval x2 = .string s) (hs : s.size ≤ maxLen)
    (hK : wpList P ops Q rest (a.put o.dst (.tuple #[(m.get s.data.toList).getD z, .bool (m.hasK s.data.toList)])) w) :
    wpList P ops Q (o :: rest) a w :=
  Go.wpList_lookup_own_ok w hg x1 x2 t hop k e (Maps.string_keyed hk) ht anyElem hz (.held z) [] rfl b m.length m.dat hm hown _ _ hx (keyOf_str hk hs) (fun v ps hv => by
    rw [SM.dat_at] at hv
    rw [anyElem_inv hv, SM.dat_has]
    exact hK)

theorem wpList_sput (hg : o.guard = none) (x1 x2 x3 : Operand) (t : TypeId) (hop : o.op = Op.mapUpdate t x1 x2 x3)
    (k e : TypeId) (hk : P.underlying k = some .string) (ht : P.underlying t = some (.map k e)) (b : Nat) (m : SM)
    (hm : a.eval x1 = .map (some b)) (hown : SMap P k w b m) (hn : m.length < maxLen) (s : ByteArray) (val : Value) (hx : a.eval x2 = .string s) (hv : a.eval x3 = val) (hs : s.size ≤ maxLen)
    (hK : ∀ w', SMap P k w' b (m.put s.data.toList val) → w.grownBy w' (some b) → wpList P ops Q rest (a.put o.dst undef) w') :
    wpList P ops Q (o :: rest) a w :=
  Go.wpList_mapUpdate_in w hg x1 x2 x3 t hop k e (Maps.string_keyed hk) ht anyElem b m.length m.dat hm hown hn _ _ _ hx hv (keyOf_str hk hs) (.held val) [] rfl (fun w' h1 h2 => by
    rw [SM.dat_put] at h1
    exact hK w' (SMap.of h1) h2.grown)

theorem wpList_sdel (hg : o.guard = none) (x1 x2 : Operand) (t k : TypeId) (hop : o.op = Op.call { callee := Callee.builtin Builtin.delete, args := #[x1, x2], argTypes := #[t, k] })
    (e : TypeId) (hk : P.underlying k = some .string) (ht : P.underlying t = some (.map k e)) (b : Nat) (m : SM)
    (hm : a.eval x1 = .map (some b)) (hown : SMap P k w b m) (s : ByteArray) (hx : a.eval x2 = .string s) (hs : s.size ≤ maxLen)
    (hK : ∀ w', SMap P k w' b (m.del s.data.toList) → w.grownBy w' (some b) → wpList P ops Q rest (a.put o.dst (.tuple #[])) w') :
    wpList P ops Q (o :: rest) a w :=
  Go.wpList_delete_own w hg x1 x2 t k hop e (Maps.string_keyed hk) ht anyElem b m.length m.dat hm hown _ _ hx (keyOf_str hk hs) (fun w' h1 h2 => by
    rw [SM.dat_del] at h1
    exact hK w' (SMap.of h1) h2.grown)

theorem wpList_slen (hg : o.guard = none) (x1 : Operand) (t : TypeId) (hop : o.op = Op.call { callee := Callee.builtin Builtin.len, args := #[x1], argTypes := #[t] })
    (k e : TypeId) (ht : P.underlying t = some (.map k e)) (b : Nat) (m : SM) (hm : a.eval x1 = .map (some b)) (hown : SMap P k w b m)
    (hK : wpList P ops Q rest (a.put o.dst (.int .i64 (m.length : Int))) w) :
    wpList P ops Q (o :: rest) a w :=
  Go.wpList_len_own w hg x1 t hop k e ht anyElem b m.length m.dat hm hown (by
    have : Maps.size m.dat = m.length := by simp [SM.dat, Maps.size]
    rw [this]
    exact hK)
end
end Go.Proofs.Ytgcemddobcjpnaa
namespace Go.Proofs.Ytgcemddobcjpnaa
open Go.RowKit

theorem before_lt : ∀ a b : List UInt8, bytesBefore a b = true ↔ a < b
  | [], [] => by simp [bytesBefore]
  | [], _ :: _ => by simp [bytesBefore]
  | _ :: _, [] => by simp [bytesBefore]
  | x :: a, y :: b => by
    rw [bytesBefore, List.cons_lt_cons_iff]
    have ih := before_lt a b
    simp only [Bool.or_eq_true, decide_eq_true_eq, Bool.and_eq_true, beq_iff_eq, ih]
theorem lt_irr (a : List UInt8) : ¬ a < a := List.lt_irrefl a
theorem lt_tr {a b c : List UInt8} (h : a < b) (k : b < c) : a < c := List.lt_trans h k
theorem lt_tot {a b : List UInt8} (h : ¬ a < b) (hne : a ≠ b) : b < a := by
  by_cases h2 : b < a
  · exact h2
  · exact absurd (List.le_antisymm (List.not_lt.1 h2) (List.not_lt.1 h)) hne

/-- a rising list is what its sort gives -/
theorem sort_rises {l ss : List (List UInt8)} (hp : ss.Perm l) (hr : l.Pairwise (· < ·)) : ss.mergeSort (fun x y => decide (x ≤ y)) = l := by
  have h1 : (ss.mergeSort (fun x y => decide (x ≤ y))).Pairwise (fun x y => decide (x ≤ y) = true) := List.pairwise_mergeSort (fun a b c h1 h2 => by
    simp only [decide_eq_true_eq] at *
    exact List.le_trans h1 h2) (fun a b => by
    simp only [Bool.or_eq_true, decide_eq_true_eq]
    exact List.le_total a b) ss
  have h2 : (ss.mergeSort (fun x y => decide (x ≤ y))).Perm l := (List.mergeSort_perm ss _).trans hp
  have h3 : l.Pairwise (fun x y => decide (x ≤ y) = true) := hr.imp fun {a b} h => by
    simp only [decide_eq_true_eq]
    exact List.le_of_lt h
  refine List.Perm.eq_of_pairwise (le := fun x y => decide (x ≤ y) = true) (fun a b _ _ h1 h2 => ?_) h1 h3 h2
  simp only [decide_eq_true_eq] at h1 h2
  exact List.le_antisymm h1 h2
end Go.Proofs.Ytgcemddobcjpnaa
namespace Go.Proofs.Ytgcemddobcjpnaa
open Go.RowKit

section
variable {α : Type} (key : α → List UInt8)
def kfnd (L : List α) (s : List UInt8) : Option α := L.find? fun e => key e == s
def krem (L : List α) (s : List UInt8) : List α := L.filter fun e => !(key e == s)
def kins (x : α) : List α → List α
  | [] => [x]
  | y :: r => if bytesBefore (key x) (key y) then x :: y :: r else y :: kins x r
def kput (L : List α) (x : α) : List α := kins key x (krem key L (key x))
def kM (val : α → Value) (L : List α) : SM := L.map fun e => (key e, val e)
def KApart (L : List α) : Prop := L.Pairwise fun x y => key x ≠ key y
def KRise (L : List α) : Prop := L.Pairwise fun x y => key x < key y
/-- how many stand ahead of a key -/
def kpl (L : List α) (s : List UInt8) : Nat := (L.takeWhile fun e => decide (key e < s)).length
end

section
variable {α : Type} {key : α → List UInt8} {val : α → Value}
theorem kM_get (L : List α) (s : List UInt8) : (kM key val L).get s = (kfnd key L s).map val := by
  unfold kM SM.get kfnd
  rw [List.find?_map]
  cases h : L.find? (fun e => key e == s) with
  | none =>
    have : L.find? ((fun p : List UInt8 × Value => p.1 == s) ∘ fun e => (key e, val e)) = none := h
    rw [this]; rfl
  | some e =>
    have : L.find? ((fun p : List UInt8 × Value => p.1 == s) ∘ fun e => (key e, val e)) = some e := h
    rw [this]; rfl
theorem kM_has (L : List α) (s : List UInt8) : (kM key val L).hasK s = (kfnd key L s).isSome := by
  unfold kM SM.hasK kfnd
  rw [List.any_map]
  induction L with
  | nil => rfl
  | cons e L ih =>
    simp only [List.any_cons, List.find?_cons, Function.comp]
    cases h : (key e == s)
    · simpa using ih
    · simp
theorem kM_del (L : List α) (s : List UInt8) : (kM key val L).del s = kM key val (krem key L s) := by
  unfold kM SM.del krem
  rw [List.filter_map]
  rfl
theorem kM_ins (x : α) : ∀ L : List α, SM.ins (key x) (val x) (kM key val L) = kM key val (kins key x L)
  | [] => rfl
  | y :: L => by
    have ih := kM_ins x L
    unfold kM at *
    simp only [List.map_cons, SM.ins, kins]
    split
    · rfl
    · rw [ih]; rfl
theorem kM_put (L : List α) (x : α) : (kM key val L).put (key x) (val x) = kM key val (kput key L x) := by
  unfold SM.put kput
  rw [kM_del, kM_ins]
theorem kM_len (L : List α) : (kM key val L).length = L.length := by simp [kM]
theorem kM_size (L : List α) : Go.Maps.size (kM key val L).dat = L.length := by simp [SM.dat, Go.Maps.size, kM]
theorem kM_keys (L : List α) : Go.strKeys (kM key val L).dat = L.map key := by
  simp [SM.dat, Go.strKeys, kM, SM.ent, List.map_map, Function.comp_def]
  intro a _
  rfl

theorem kins_mem (x : α) : ∀ (L : List α) (e : α), e ∈ kins key x L ↔ e = x ∨ e ∈ L
  | [], e => by simp [kins]
  | y :: L, e => by
    unfold kins
    split
    · simp
    · have := kins_mem x L e
      simp only [List.mem_cons, this]
      constructor
      · rintro (h | h | h)
        · exact .inr (.inl h)
        · exact .inl h
        · exact .inr (.inr h)
      · rintro (h | h | h)
        · exact .inr (.inl h)
        · exact .inl h
        · exact .inr (.inr h)
theorem krem_mem (L : List α) (s : List UInt8) (e : α) : e ∈ krem key L s ↔ e ∈ L ∧ key e ≠ s := by
  unfold krem
  rw [List.mem_filter]
  simp
theorem kput_mem (L : List α) (x e : α) : e ∈ kput key L x ↔ e = x ∨ (e ∈ L ∧ key e ≠ key x) := by
  unfold kput
  rw [kins_mem, krem_mem]
theorem kins_perm (x : α) : ∀ L : List α, (kins key x L).Perm (x :: L)
  | [] => List.Perm.refl _
  | y :: L => by
    unfold kins
    split
    · exact List.Perm.refl _
    · exact ((kins_perm x L).cons y).trans (List.Perm.swap x y L)

theorem kfnd_mem {L : List α} {s : List UInt8} {e : α} (h : kfnd key L s = some e) : e ∈ L ∧ key e = s := by
  unfold kfnd at h
  exact ⟨List.mem_of_find?_eq_some h, by simpa using List.find?_some h⟩
theorem kfnd_none {L : List α} {s : List UInt8} (h : kfnd key L s = none) : ∀ e ∈ L, key e ≠ s := by
  unfold kfnd at h
  intro e he
  have := List.find?_eq_none.1 h e he
  simpa using this
theorem kfnd_of {L : List α} (hd : KApart key L) {e : α} (he : e ∈ L) : kfnd key L (key e) = some e := by
  induction L with
  | nil => cases he
  | cons y L ih =>
    unfold KApart at hd
    rw [List.pairwise_cons] at hd
    unfold kfnd at *
    simp only [List.find?_cons]
    rcases List.mem_cons.1 he with rfl | h
    · simp
    · have : (key y == key e) = false := by simpa using hd.1 e h
      rw [this]
      exact ih hd.2 h
theorem kfnd_no {L : List α} {s : List UInt8} (h : ∀ e ∈ L, key e ≠ s) : kfnd key L s = none := by
  unfold kfnd
  rw [List.find?_eq_none]
  intro e he
  simpa using h e he
theorem krem_no {L : List α} {s : List UInt8} (h : ∀ e ∈ L, key e ≠ s) : krem key L s = L := by
  unfold krem
  rw [List.filter_eq_self]
  intro e he
  simpa using h e he

theorem KRise.apart {L : List α} (h : KRise key L) : KApart key L := by
  unfold KRise at h
  unfold KApart
  exact h.imp fun {a b} k e => by rw [e] at k; exact lt_irr _ k
theorem KRise.keys {L : List α} (h : KRise key L) : (L.map key).Pairwise (· < ·) := by
  rw [List.pairwise_map]
  exact h
theorem KRise.rem {L : List α} (h : KRise key L) (s : List UInt8) : KRise key (krem key L s) := List.Pairwise.filter _ h
theorem KRise.ins {x : α} : ∀ {L : List α}, KRise key L → (∀ e ∈ L, key e ≠ key x) → KRise key (kins key x L)
  | [], _, _ => by simp [kins, KRise]
  | y :: L, h, hn => by
    unfold KRise at *
    rw [List.pairwise_cons] at h
    unfold kins
    split
    · rename_i hb
      have hxy := (before_lt _ _).1 hb
      rw [List.pairwise_cons, List.pairwise_cons]
      refine ⟨fun e he => ?_, h⟩
      rcases List.mem_cons.1 he with rfl | he
      · exact hxy
      · exact lt_tr hxy (h.1 e he)
    · rename_i hb
      have hyx : key y < key x := lt_tot (fun h => hb ((before_lt _ _).2 h)) (fun e => hn y (by simp) e.symm)
      rw [List.pairwise_cons]
      refine ⟨fun e he => ?_, KRise.ins h.2 (fun e he => hn e (by simp [he]))⟩
      rcases (kins_mem x L e).1 he with rfl | he
      · exact hyx
      · exact h.1 e he
theorem KRise.put {L : List α} (h : KRise key L) (x : α) : KRise key (kput key L x) := KRise.ins (h.rem _) (fun e he => ((krem_mem L _ e).1 he).2)

/-! a rising list, by places -/
theorem kpl_le (L : List α) (s : List UInt8) : kpl key L s ≤ L.length := by
  unfold kpl
  have := List.takeWhile_prefix (l := L) (fun e => decide (key e < s))
  exact this.length_le
theorem kpl_take (L : List α) (s : List UInt8) : L.take (kpl key L s) = L.takeWhile (fun e => decide (key e < s)) := by
  unfold kpl
  exact (List.prefix_iff_eq_take.1 (List.takeWhile_prefix _)).symm
theorem kpl_lt {L : List α} {s : List UInt8} {j : Nat} (h : j < L.length) (hj : j < kpl key L s) : key L[j] < s := by
  induction L generalizing j with
  | nil => simp at h
  | cons y L ih =>
    unfold kpl at hj ih
    by_cases hy : key y < s
    · cases j with
      | zero => exact hy
      | succ j =>
        simp only [List.takeWhile_cons, hy, decide_true, if_true, List.length_cons] at hj
        exact ih (by simpa using h) (by omega)
    · simp [List.takeWhile_cons, hy] at hj
theorem kpl_at {L : List α} {s : List UInt8} (h : kpl key L s < L.length) : ¬ key L[kpl key L s] < s := by
  intro hlt
  unfold kpl at *
  induction L with
  | nil => simp at h
  | cons y L ih =>
    by_cases hy : key y < s
    · simp only [List.takeWhile_cons, hy, decide_true, if_true, List.length_cons, List.getElem_cons_succ, Nat.add_lt_add_iff_right] at h hlt
      exact ih h hlt
    · simp [List.takeWhile_cons, hy] at hlt
theorem kpl_eq {L : List α} {s : List UInt8} {k : Nat} (hk : k ≤ L.length) (h1 : ∀ j (h : j < L.length), j < k → key L[j] < s) (h2 : ∀ h : k < L.length, ¬ key L[k] < s) : kpl key L s = k := by
  rcases Nat.lt_trichotomy (kpl key L s) k with h | h | h
  · exact absurd (h1 _ (by omega) h) (kpl_at (by omega))
  · exact h
  · have := kpl_le (key := key) L s
    exact absurd (kpl_lt (by omega) h) (h2 (by omega))
theorem kins_places {L : List α} {x : α} (h : KRise key L) (hn : ∀ e ∈ L, key e ≠ key x) : kins key x L = L.take (kpl key L (key x)) ++ x :: L.drop (kpl key L (key x)) := by
  induction L with
  | nil => rfl
  | cons y L ih =>
    have h2 := (List.pairwise_cons.1 h).2
    have hne := hn y (by simp)
    by_cases hb : key y < key x
    · have hbb : ¬ bytesBefore (key x) (key y) = true := by
        rw [before_lt]
        exact fun h' => lt_irr _ (lt_tr hb h')
      have : kpl key (y :: L) (key x) = kpl key L (key x) + 1 := by unfold kpl; simp [List.takeWhile_cons, hb]
      rw [this]
      unfold kins
      rw [if_neg hbb, ih h2 (fun e he => hn e (by simp [he]))]
      rfl
    · have hbb : bytesBefore (key x) (key y) = true := by
        rw [before_lt]
        exact lt_tot hb hne
      have : kpl key (y :: L) (key x) = 0 := by unfold kpl; simp [List.takeWhile_cons, hb]
      rw [this]
      unfold kins
      rw [if_pos hbb]
      rfl
/-- where a key is: it is at its place -/
theorem kfnd_place {L : List α} {s : List UInt8} {e : α} (h : KRise key L) (hf : kfnd key L s = some e) : ∃ hk : kpl key L s < L.length, L[kpl key L s] = e := by
  obtain ⟨hm, rfl⟩ := kfnd_mem hf
  obtain ⟨j, hj, rfl⟩ := List.getElem_of_mem hm
  have : kpl key L (key L[j]) = j := kpl_eq (by omega) (fun i hi hij => List.pairwise_iff_getElem.1 h i j hi hj hij) (fun _ => lt_irr _)
  exact ⟨by rw [this]; exact hj, by simp [this]⟩
theorem kfnd_none_place {L : List α} {s : List UInt8} (hf : kfnd key L s = none) (hk : kpl key L s < L.length) : s < key L[kpl key L s] :=
  lt_tot (kpl_at hk) (kfnd_none hf _ (List.getElem_mem hk))
theorem krem_place {L : List α} {s : List UInt8} {e : α} (h : KRise key L) (hf : kfnd key L s = some e) : krem key L s = L.eraseIdx (kpl key L s) := by
  obtain ⟨hk, he⟩ := kfnd_place h hf
  obtain ⟨-, hs⟩ := kfnd_mem hf
  generalize kpl key L s = k at hk he
  induction L generalizing k with
  | nil => simp at hk
  | cons y L ih =>
    have h1 := (List.pairwise_cons.1 h).1
    have h2 := (List.pairwise_cons.1 h).2
    cases k with
    | zero =>
      simp only [List.getElem_cons_zero] at he
      subst he
      subst hs
      show krem key (y :: L) (key y) = L
      unfold krem
      rw [List.filter_cons_of_neg (by simp), List.filter_eq_self]
      intro z hz
      have := h1 z hz
      simp only [Bool.not_eq_true', beq_eq_false_iff_ne, ne_eq]
      intro e
      rw [e] at this
      exact lt_irr _ this
    | succ k =>
      simp only [List.getElem_cons_succ] at he
      have hk' : k < L.length := by simpa using hk
      have hne : key y ≠ s := by
        have := h1 e (by rw [← he]; exact List.getElem_mem hk')
        rw [← hs]
        intro e'
        rw [e'] at this
        exact lt_irr _ this
      show krem key (y :: L) s = y :: L.eraseIdx k
      have hc : krem key (y :: L) s = y :: krem key L s := by
        unfold krem
        rw [List.filter_cons_of_pos (by simpa using hne)]
      have hf2 : kfnd key L s = some e := by
        have := kfnd_of (KRise.apart h2) (List.getElem_mem hk')
        rw [he, hs] at this
        exact this
      rw [hc, ih h2 hf2 k hk' he]
end

/-! the rows by another name -/
section
variable {α β : Type} {key : α → List UInt8} {key' : β → List UInt8} {f : α → β}
theorem kfnd_map (h : ∀ x, key' (f x) = key x) (L : List α) (s : List UInt8) : kfnd key' (L.map f) s = (kfnd key L s).map f := by
  unfold kfnd
  rw [List.find?_map]
  have : ((fun e => key' e == s) ∘ f) = fun e => key e == s := by
    funext x
    simp [h]
  rw [this]
theorem krem_map (h : ∀ x, key' (f x) = key x) (L : List α) (s : List UInt8) : krem key' (L.map f) s = (krem key L s).map f := by
  unfold krem
  rw [List.filter_map]
  have : ((fun e => !(key' e == s)) ∘ f) = fun e => !(key e == s) := by
    funext x
    simp [h]
  rw [this]
theorem kins_map (h : ∀ x, key' (f x) = key x) (x : α) : ∀ L : List α, kins key' (f x) (L.map f) = (kins key x L).map f
  | [] => rfl
  | y :: L => by
    simp only [List.map_cons, kins, h]
    split
    · rfl
    · rw [kins_map h x L]; rfl
theorem kput_map (h : ∀ x, key' (f x) = key x) (L : List α) (x : α) : kput key' (L.map f) (f x) = (kput key L x).map f := by
  unfold kput
  rw [h, krem_map h, kins_map h]
theorem kpl_map (h : ∀ x, key' (f x) = key x) (L : List α) (s : List UInt8) : kpl key' (L.map f) s = kpl key L s := by
  unfold kpl
  rw [List.takeWhile_map, List.length_map]
  congr 2
  funext x
  simp [h]
theorem KRise.map (h : ∀ x, key' (f x) = key x) {L : List α} : KRise key' (L.map f) ↔ KRise key L := by
  unfold KRise
  rw [List.pairwise_map]
  simp [h]
end

/-! one row is another one -/
section
variable {α : Type} {key : α → List UInt8}
theorem kput_same {L : List α} {s : List UInt8} {e x : α} (h : KRise key L) (hf : kfnd key L s = some e) (hx : key x = s) : kput key L x = L.set (kpl key L s) x := by
  obtain ⟨hk, he⟩ := kfnd_place h hf
  have h1 : KRise key (krem key L s) := h.rem s
  have hn : ∀ y ∈ krem key L s, key y ≠ key x := fun y hy => by rw [hx]; exact ((krem_mem L s y).1 hy).2
  unfold kput
  rw [hx, kins_places h1 hn]
  have hr := krem_place h hf
  rw [hx, hr]
  have hp : kpl key (L.eraseIdx (kpl key L s)) s = kpl key L s := by
    refine kpl_eq ?_ ?_ ?_
    · rw [List.length_eraseIdx_of_lt hk]; omega
    · intro j hj hjk
      rw [List.getElem_eraseIdx_of_lt _ hjk]
      exact kpl_lt _ hjk
    · intro hlt
      rw [List.getElem_eraseIdx_of_ge _ (Nat.le_refl _)]
      have hlt' : kpl key L s + 1 < L.length := by rw [List.length_eraseIdx_of_lt hk] at hlt; omega
      have h5 := List.pairwise_iff_getElem.1 h (kpl key L s) (kpl key L s + 1) hk hlt' (by omega)
      rw [he, (kfnd_mem hf).2] at h5
      exact fun h6 => lt_irr _ (lt_tr h5 h6)
  rw [hp, List.set_eq_take_append_cons_drop, if_pos hk]
  rw [List.eraseIdx_eq_take_drop_succ]
  have hl : (L.take (kpl key L s)).length = kpl key L s := by rw [List.length_take]; omega
  rw [List.take_left' hl, List.drop_left' hl]
end
end Go.Proofs.Ytgcemddobcjpnaa
namespace Go.Proofs.Ytgcemddobcjpnaa
open Go.RowKit

structure Fl where
  n : ByteArray
  b : List UInt8
  s : Nat
namespace Fl
def key (f : Fl) : List UInt8 := f.n.data.toList
end Fl
structure Dk where
  room : Int
  F : List Fl
  fused : Bool
  fuse : Int
  off : Bool
  steps : Int

def nameB (s : ByteArray) : Bool := decide (1 ≤ s.size) && (decide (s.size ≤ 24) && s.data.toList.all fun c => decide (33 ≤ c.toNat) && decide (c.toNat ≤ 126))
namespace Dk
def get (D : Dk) (s : ByteArray) : Option Fl := kfnd Fl.key D.F s.data.toList
def ask (D : Dk) (l : List ByteArray) : Int := if D.off = true then 10 else if l.all nameB = true then 0 else 2
/-- may a step be done -/
def may (D : Dk) : Bool := !(D.fused && decide (D.fuse = 0))
def stepped (D : Dk) : Dk := { D with fuse := if D.fused = true then D.fuse - 1 else D.fuse, steps := D.steps + 1 }
def dead (D : Dk) : Dk := { D with off := true }
def withF (D : Dk) (F : List Fl) : Dk := { D with F := F }
def put (D : Dk) (f : Fl) : Dk := D.withF (kput Fl.key D.F f)
def cut (D : Dk) (s : ByteArray) : Dk := D.withF (krem Fl.key D.F s.data.toList)
def bytes (F : List Fl) : Int := (F.map fun f => (f.b.length : Int)).sum
def left (D : Dk) : Int := D.room - bytes D.F

def make (D : Dk) (s : ByteArray) : Int × Dk :=
  if D.ask [s] ≠ 0 then (D.ask [s], D) else
  if (D.get s).isSome = true then (7, D) else
  if D.may = true then (0, D.stepped.put ⟨s, [], 0⟩) else (10, D.dead)
def addB (D : Dk) (f : Fl) (l : List UInt8) : Dk := D.put { f with b := f.b ++ l }
/-- the bytes, piece by piece, behind a file's end -/
def more : Nat → Dk → Fl → List UInt8 → Int × Dk
  | 0, D, _, _ => (0, D)
  | n + 1, D, f, l => if l = [] then (0, D) else if D.may = true then more n (D.stepped.addB f (l.take 64)) { f with b := f.b ++ l.take 64 } (l.drop 64) else (10, D.dead)
def append (D : Dk) (s : ByteArray) (l : List UInt8) : Int × Dk :=
  if D.ask [s] ≠ 0 then (D.ask [s], D) else
  match D.get s with
  | none => (6, D)
  | some f => if D.left < (l.length : Int) then (8, D) else more (l.length + 1) D f l
def sync (D : Dk) (s : ByteArray) : Int × Dk :=
  if D.ask [s] ≠ 0 then (D.ask [s], D) else
  match D.get s with
  | none => (6, D)
  | some f => if D.may = true then (0, D.stepped.put { f with s := f.b.length }) else (10, D.dead)
def rename (D : Dk) (s t : ByteArray) : Int × Dk :=
  if D.ask [s, t] ≠ 0 then (D.ask [s, t], D) else
  match D.get s with
  | none => (6, D)
  | some f => if s = t then (0, D) else if D.may = true then (0, (D.stepped.cut s).put { f with n := t }) else (10, D.dead)
def remove (D : Dk) (s : ByteArray) : Int × Dk :=
  if D.ask [s] ≠ 0 then (D.ask [s], D) else
  match D.get s with
  | none => (6, D)
  | some _ => if D.may = true then (0, D.stepped.cut s) else (10, D.dead)
def setFuse (D : Dk) (n : Int) : Int × Dk :=
  if D.off = true then (10, D) else if n < 0 then (2, D) else (0, { D with fused := true, fuse := n })
def free (D : Dk) : Dk := { D with fused := false, fuse := 0 }
/-- how many more of a file's bytes stay -/
def keepN (keep : List Int) (i : Nat) (f : Fl) : Nat := match keep[i]? with | some n => min n.toNat (f.b.length - f.s) | none => 0
def keepF (keep : List Int) (i : Nat) (f : Fl) : Fl := { f with s := f.s + keepN keep i f, b := f.b.take (f.s + keepN keep i f) }
def fine (keep : List Int) : Bool := keep.all fun n => decide (0 ≤ n)
def crash (D : Dk) (keep : List Int) : Int × Dk :=
  if fine keep = true then (0, { (D.withF (D.F.mapIdx (keepF keep))).free with off := false }) else (2, D)
def turned (f : Fl) (at_ : Nat) (c : UInt8) : Fl := { f with b := f.b.modify at_ (· ^^^ c) }
def turn (D : Dk) (s : ByteArray) (at_ : Int) (c : UInt8) : Int × Dk :=
  if nameB s = true then
    match D.get s with
    | none => (6, D)
    | some f => if 0 ≤ at_ ∧ at_ < (f.b.length : Int) then (0, D.put (turned f at_.toNat c)) else (6, D)
  else (2, D)
def read (D : Dk) (s : ByteArray) : Int × List UInt8 :=
  if D.ask [s] ≠ 0 then (D.ask [s], []) else
  match D.get s with
  | none => (6, [])
  | some f => (0, f.b)
def synced (D : Dk) (s : ByteArray) : Int × Int :=
  if D.ask [s] ≠ 0 then (D.ask [s], 0) else
  match D.get s with
  | none => (6, 0)
  | some f => (0, (f.s : Int))
def names (D : Dk) : List ByteArray := if D.off = true then [] else D.F.map Fl.n
def leftP (D : Dk) : Int := if D.off = true then 0 else D.left
end Dk
end Go.Proofs.Ytgcemddobcjpnaa
namespace Go.Proofs.Ytgcemddobcjpnaa
open Go.RowKit

/-- nothing but the blocks of S has turned of what was there -/
structure Fr (S : List Nat) (w w' : World) : Prop where
  os : w'.os = w.os
  tape : w'.tape = w.tape
  output : w'.output = w.output
  size : w.heap.size ≤ w'.heap.size
  block : ∀ k, k < w.heap.size → k ∉ S → w'.heap[k]? = w.heap[k]?

theorem Fr.refl (S : List Nat) (w : World) : Fr S w w := ⟨rfl, rfl, rfl, Nat.le_refl _, fun _ _ _ => rfl⟩
theorem Fr.trans {S T : List Nat} {a b c : World} (h : Fr S a b) (k : Fr T b c) (hs : ∀ x ∈ T, x ∈ S ∨ a.heap.size ≤ x) : Fr S a c :=
  ⟨k.os.trans h.os, k.tape.trans h.tape, k.output.trans h.output, Nat.le_trans h.size k.size, fun x hx hn =>
    (k.block x (Nat.lt_of_lt_of_le hx h.size) (fun ht => by rcases hs x ht with h1 | h1; exact hn h1; omega)).trans (h.block x hx hn)⟩
theorem Fr.mono {S T : List Nat} {a b : World} (h : Fr S a b) (hs : ∀ x ∈ S, x ∈ T) : Fr T a b :=
  ⟨h.os, h.tape, h.output, h.size, fun x hx hn => h.block x hx fun k => hn (hs x k)⟩
theorem Fr.then {S : List Nat} {a b c : World} (h : Fr S a b) (k : Fr S b c) : Fr S a c := h.trans k fun _ hx => .inl hx
theorem Fr.of_below {w w' : World} (h : Below w.heap.size w w') (S : List Nat) : Fr S w w' := ⟨h.os, h.tape, h.output, h.size, fun k hk _ => h.block k hk⟩
theorem Fr.of_grown {w w' : World} {row : Option Nat} (h : w.grownBy w' row) : Fr row.toList w w' :=
  ⟨h.os, h.tape, h.output, h.size, fun k hk hn => h.block k hk (fun e => hn (by rw [← e]; simp))⟩
theorem Fr.below {n : Nat} {S : List Nat} {w w' : World} (h : Fr S w w') (hS : ∀ x ∈ S, n ≤ x) (hn : n ≤ w.heap.size) : Below n w w' :=
  ⟨h.os, h.tape, h.output, h.size, fun k hk => h.block k (by omega) fun hs => by have := hS k hs; omega⟩
theorem Fr.alloc {S : List Nat} {a w : World} (h : Fr S a w) (o : Obj) : Fr S a (w.alloc o) := h.then (Fr.of_below (below_alloc w o) S)
theorem Fr.draw {S : List Nat} {a w : World} (h : Fr S a w) (n : Nat) : Fr S a (w.drewN n) := h.then (Fr.of_below (below_drewN n) S)
theorem Fr.set {S : List Nat} {a w : World} (h : Fr S a w) {p : Addr} (hp : p.block ∈ S) (u : Value) : Fr S a (w.setCell p u) :=
  h.then ⟨rfl, rfl, rfl, by simp [World.setCell], fun k _ hk => by
    have : k ≠ p.block := fun e => hk (e ▸ hp)
    exact Below.heap_setCell _ _ _ _ this⟩

theorem Blk.fr {S : List Nat} {w w' : World} {g : Nat} {cs : List Value} {t : TypeId} (h : Blk w g cs t) (hf : Fr S w w') (hg : g ∉ S) : Blk w' g cs t := by
  have h1 := hf.block g h.lt hg
  unfold Blk at *
  rw [h1]
  exact h

theorem own_fr {S : List Nat} {w w' : World} {base : Nat} {e : TypeId} {size : Nat} {v : Value} {n : Nat} {xs : List Value} (h : w.ownsRow base e size v n xs) (hf : Fr S w w') (hg : ∀ g, v.ownBlock = some g → g ∉ S) : w'.ownsRow base e size v n xs := by
  refine ⟨h.1, ?_⟩
  rcases h.2 with hn | ⟨g, cap, cur, rfl, hb, hgg, rest⟩
  · exact .inl hn
  · refine .inr ⟨g, cap, cur, rfl, hb, ?_, rest⟩
    rw [hf.block g (Array.getElem?_eq_some_iff.1 hgg).1 (hg g rfl)]
    exact hgg
theorem cell_fr {S : List Nat} {w w' : World} {a : Addr} {v : Value} (h : w.cell? a = some v) (hf : Fr S w w') (hg : a.block ∉ S) : w'.cell? a = some v :=
  (World.cell?_of_block (hf.block a.block (World.block_lt_of_cell? w a h) hg)).trans h

/-- 'append' as one operation, in a region that draws its order -/
theorem step_app {P : Program} {ops : Array Oper} {o : Oper} {a : Act} {w : World} {K : Act → World → Prop} {Q : Exit → Act → World → Prop} {E : Prop} (hgd : o.guard = none) (s x : Operand) (t tx : TypeId)
    (ho : o.op = .call { callee := .builtin .append, args := #[s, x], argTypes := #[t, tx] })
    (base : Nat) (e : TypeId) (i : TypeInfo) (z : Value) (size bytes : Nat) (ht : P.underlying t = some (.slice e)) (hi : P.info? e = some i) (hz : i.zero = some z)
    (hsize : i.size = size) (hby : i.bytes = bytes) (hzs : z.cells.size = size)
    (v : Value) (n : Nat) (xs : List Value) (hv : a.eval s = v) (hown : w.ownsRow base e size v n xs)
    (xv : Value) (m : Nat) (news : List Value) (hx : a.eval x = xv) (hs : Src P size tx xv m news w)
    (h63 : n + m ≤ maxLen) (hbytes : (n + m + (n + m) / 4 + 256) * bytes ≤ 281474976710656) (hbase : base ≤ w.heap.size)
    (h : ∀ v' w', w'.ownsRow base e size v' (n + m) (xs ++ news) → w.grownBy w' v.ownBlock → (v' = .slice none 0 0 ↔ v = .slice none 0 0 ∧ m = 0) → (∀ k, v'.ownBlock = some k → v.ownBlock = some k ∨ w.heap.size ≤ k) → K (a.put o.dst v') w') :
    if Region.wanted o (yielded ops a.tmps) = true then Oper.wp P o a w K Q else E := by
  have hw : Region.wanted o (yielded ops a.tmps) = true := by simp [Region.wanted, hgd]
  rw [if_pos hw]
  obtain ⟨v', w', hr, h2, h3, h4, h5⟩ := run_app (P := P) w base t tx o.type e i z size bytes ht hi hz hsize hby hzs v n xs hown xv m news hs h63 hbytes hbase
  unfold Oper.wp execOp
  simp only [ho, resolve, invoke, builtin, Sem.run_bind, Sem.run_pure, Result.andThen_ok, List.map_toArray, List.map_cons, List.map_nil, hv, hx, hr]
  exact h _ _ h2 h3 h4 h5

/-- one struct, as the source of an append -/
theorem src_block {P : Program} {t e e' : TypeId} {size : Nat} (ht : P.underlying t = some (.slice e)) (w : World) (g : Nat) (us : Array Value) (hg : w.heap[g]? = some (.cells us e' (0, 0))) (hl : us.size = size) (h1 : ∀ u ∈ us.toList, u.oneCell' = true) :
    Src P size t (.slice (some ⟨g, 0, none⟩) 1 1) 1 us.toList w := by
  refine Src.ofSlice _ ht _ 1 1 us.toList (by simp; omega) (fun j x hj => ?_) h1
  rw [add_off, cell_of_row _ g (0 + j) us e' (0, 0) hg]
  simpa using hj

theorem own_slice {w : World} {base : Nat} {e : TypeId} {size : Nat} {v : Value} {n : Nat} {xs : List Value} (h : w.ownsRow base e size v n xs) : ∃ p c, v = .slice p n c ∧ n ≤ c ∧ c ≤ maxLen := by
  rcases h.2 with ⟨rfl, rfl⟩ | ⟨g, cap, cur, rfl, -, -, h1, h2, -⟩
  · exact ⟨none, 0, rfl, Nat.le_refl _, by simp [maxLen]⟩
  · exact ⟨_, cap, rfl, h1, h2⟩

/-- one cell of a row of the call's own is stored -/
theorem own_set {w : World} {base : Nat} {e : TypeId} {size g n cap : Nat} {xs : List Value} (h : w.ownsRow base e size (.slice (some ⟨g, 0, none⟩) n cap) n xs) {k : Nat} (hk : k < n * size) (u : Value) :
    (w.setCell ⟨g, k, none⟩ u).ownsRow base e size (.slice (some ⟨g, 0, none⟩) n cap) n (xs.set k u) := by
  obtain ⟨h1, h2⟩ := h
  refine ⟨by simpa using h1, ?_⟩
  rcases h2 with ⟨h2, -⟩ | ⟨g', cap', cur, hv, hb, hh, hn, hc, hs, ht⟩
  · cases h2
  · simp only [Value.slice.injEq, Option.some.injEq, Addr.mk.injEq, true_and, and_true] at hv
    obtain ⟨rfl, rfl⟩ := hv
    have hm : n * size ≤ cap * size := Nat.mul_le_mul_right _ hn
    refine .inr ⟨g, cap, cur.setIfInBounds k u, rfl, hb, ?_, hn, hc, by simpa using hs, ?_⟩
    · have := heap_setCell_same w g k cur e u hh
      rw [this]
    · rw [← ht]
      simp only [Array.toList_setIfInBounds]
      rw [List.take_set]

/-- a shorter slice of it -/
theorem own_cut {w : World} {base : Nat} {e : TypeId} {size g n cap : Nat} {xs : List Value} (h : w.ownsRow base e size (.slice (some ⟨g, 0, none⟩) n cap) n xs) {m : Nat} (hm : m ≤ n) :
    w.ownsRow base e size (.slice (some ⟨g, 0, none⟩) m cap) m (xs.take (m * size)) := by
  obtain ⟨h1, h2⟩ := h
  have hmm : m * size ≤ n * size := Nat.mul_le_mul_right _ hm
  refine ⟨by rw [List.length_take]; omega, ?_⟩
  rcases h2 with ⟨h2, -⟩ | ⟨g', cap', cur, hv, hb, hh, hn, hc, hs, ht⟩
  · cases h2
  · simp only [Value.slice.injEq, Option.some.injEq, Addr.mk.injEq, true_and, and_true] at hv
    obtain ⟨rfl, rfl⟩ := hv
    refine .inr ⟨g, cap, cur, rfl, hb, hh, by omega, hc, hs, ?_⟩
    rw [← ht, List.take_take]
    congr 1
    omega

/-- a row with something in it has a block -/
theorem own_block {w : World} {base : Nat} {e : TypeId} {size n : Nat} {v : Value} {xs : List Value} (h : w.ownsRow base e size v n xs) (hn : 0 < n) : ∃ g cap, v = .slice (some ⟨g, 0, none⟩) n cap ∧ n ≤ cap ∧ cap ≤ maxLen ∧ g < w.heap.size := by
  rcases h.2 with ⟨rfl, rfl⟩ | ⟨g, cap, cur, rfl, -, hh, h1, h2, -⟩
  · omega
  · exact ⟨g, cap, rfl, h1, h2, (Array.getElem?_eq_some_iff.1 hh).1⟩
theorem own_cell {w : World} {base : Nat} {e : TypeId} {size g n cap : Nat} {xs : List Value} (h : w.ownsRow base e size (.slice (some ⟨g, 0, none⟩) n cap) n xs) {j : Nat} {u : Value} (hj : xs[j]? = some u) : w.cell? ⟨g, j, none⟩ = some u := by
  have := h.cells (g := g) rfl j u hj
  rw [add_off] at this
  simpa using this
theorem own_free {w : World} {base : Nat} {e : TypeId} {size g n cap : Nat} {xs : List Value} (h : w.ownsRow base e size (.slice (some ⟨g, 0, none⟩) n cap) n xs) (j : Nat) : w.frozen? ⟨g, j, none⟩ = false := by
  rcases h.2 with ⟨h2, -⟩ | ⟨g', cap', cur, hv, hb, hh, -⟩
  · cases h2
  · simp only [Value.slice.injEq, Option.some.injEq, Addr.mk.injEq, true_and, and_true] at hv
    obtain ⟨rfl, rfl⟩ := hv
    exact frozen_of_row w g j cur e hh
theorem own_other {w : World} {base : Nat} {e : TypeId} {size n : Nat} {v : Value} {xs : List Value} (h : w.ownsRow base e size v n xs) {p : Addr} (hp : v.ownBlock ≠ some p.block) (u : Value) : (w.setCell p u).ownsRow base e size v n xs := by
  refine ⟨h.1, ?_⟩
  rcases h.2 with hn | ⟨g, cap, cur, rfl, hb, hgg, rest⟩
  · exact .inl hn
  · refine .inr ⟨g, cap, cur, rfl, hb, ?_, rest⟩
    rw [Below.heap_setCell _ _ _ _ (fun e => hp (by simp [Value.ownBlock, e]))]
    exact hgg

/-- a function without results falls off its end -/
theorem end0 {P : Program} {fn : Func} {R : Ending → World → Prop} {a : Act} {w : World} (hr : fn.results = #[]) (hd : a.defers = []) (hR : R (.returned (.tuple #[])) w) : bodyPost P fn R .normal a w := by
  refine ⟨hd, _, ?_, hR⟩
  simp [results, hr]
theorem end0r {P : Program} {fn : Func} {R : Ending → World → Prop} {a : Act} {w : World} (hr : fn.results = #[]) (hd : a.defers = []) (hR : R (.returned (.tuple #[])) w) : bodyPost P fn R .ret a w := by
  refine ⟨hd, _, ?_, hR⟩
  simp [results, hr]

theorem load_cell {P : Program} {a : Addr} {v : Value} {w : World} (h : w.cell? a = some v) : (load a).run P w = .ok v w := by
  rw [run_load]
  simp [h]

theorem wrap_nil {P : Program} (t : TypeId) (a : Addr) (n : String) (w : World) : (Builtin.ssaWrapNilChk_ #[t] t #[.pointer (some a), strVal "", strVal n]).run P w = .ok (.pointer (some a)) w := rfl

/-- a value method, found at a pointer in an interface value: its receiver is loaded -/
theorem method_load {P : Program} {t e : TypeId} {name : String} {f : FuncId} {a : Addr} {v : Value} {w : World} (fuel : Nat)
    (hm : ((P.info? t).bind fun i => (i.methods.find? fun m => m.name == name).map fun m => (m.path.toList, m.func)) = some ([], some (f, false)))
    (hu : P.underlying t = some (.pointer e)) (ha : (isAgg e).run P w = .ok false w) (hc : w.cell? a = some v) :
    (method (fuel + 1) t (.pointer (some a)) name).run P w = .ok (f, v) w := by
  cases hi : P.info? t with
  | none => rw [hi] at hm; cases hm
  | some i =>
    rw [hi] at hm
    simp only [Option.bind_some] at hm
    cases hf : i.methods.find? (fun m => m.name == name) with
    | none => rw [hf] at hm; cases hm
    | some m =>
      rw [hf] at hm
      simp only [Option.map_some, Option.some.injEq, Prod.mk.injEq] at hm
      obtain ⟨h1, h2⟩ := hm
      have h3 : m.path = #[] := by cases hp : m.path with | mk l => rw [hp] at h1; simp at h1; rw [h1]
      unfold method
      simp [typeInfo, hi, hf, h2, h3, follow, receiverAt, run_underlying hu, Place.get, wrap_nil, loadVar, ha, asAddr, load_cell hc, Result.andThen]

/-- 'append' in a plain region; where the row lies behind it is told too -/
theorem wpList_app5 {P : Program} {ops : Array Oper} {rest : List Oper} {o : Oper} {a : Act} {w : World} {Q : Exit → Act → World → Prop} (hgd : o.guard = none) (s x : Operand) (t tx : TypeId)
    (ho : o.op = .call { callee := .builtin .append, args := #[s, x], argTypes := #[t, tx] })
    (base : Nat) (e : TypeId) (i : TypeInfo) (z : Value) (size bytes : Nat) (ht : P.underlying t = some (.slice e)) (hi : P.info? e = some i) (hz : i.zero = some z)
    (hsize : i.size = size) (hby : i.bytes = bytes) (hzs : z.cells.size = size)
    (v : Value) (n : Nat) (xs : List Value) (hv : a.eval s = v) (hown : w.ownsRow base e size v n xs)
    (xv : Value) (m : Nat) (news : List Value) (hx : a.eval x = xv) (hs : Src P size tx xv m news w)
    (h63 : n + m ≤ maxLen) (hbytes : (n + m + (n + m) / 4 + 256) * bytes ≤ 281474976710656) (hbase : base ≤ w.heap.size)
    (h : ∀ v' w', w'.ownsRow base e size v' (n + m) (xs ++ news) → w.grownBy w' v.ownBlock → (∀ k, v'.ownBlock = some k → v.ownBlock = some k ∨ w.heap.size ≤ k) → wpList P ops Q rest (a.put o.dst v') w') : wpList P ops Q (o :: rest) a w := by
  refine wpList_plain hgd fun K hK => ?_
  obtain ⟨v', w', hr, h2, h3, -, h5⟩ := run_app (P := P) w base t tx o.type e i z size bytes ht hi hz hsize hby hzs v n xs hown xv m news hs h63 hbytes hbase
  unfold Oper.wp execOp
  simp only [ho, resolve, invoke, builtin, Sem.run_bind, Sem.run_pure, Result.andThen_ok, List.map_toArray, List.map_cons, List.map_nil, hv, hx, hr]
  exact hK _ _ (h v' w' h2 h3 h5)
end Go.Proofs.Ytgcemddobcjpnaa
namespace Go.Proofs.Ytgcemddobcjpnaa
open Go.RowKit

section
variable {α : Type} {c : α → List Value} {n : Nat}
theorem flat_len (h : ∀ x, (c x).length = n) : ∀ L : List α, (L.flatMap c).length = L.length * n
  | [] => by simp
  | x :: L => by
    rw [List.flatMap_cons, List.length_append, h, flat_len h L, List.length_cons, Nat.add_mul]
    omega
theorem flat_at (h : ∀ x, (c x).length = n) : ∀ (L : List α) (k : Nat) (hk : k < L.length) (j : Nat), j < n → (L.flatMap c)[k * n + j]? = (c L[k])[j]?
  | [], k, hk, _, _ => absurd hk (Nat.not_lt_zero _)
  | x :: L, 0, _, j, hj => by
    rw [List.flatMap_cons, Nat.zero_mul, Nat.zero_add, List.getElem?_append_left (by rw [h]; exact hj)]
    rfl
  | x :: L, k + 1, hk, j, hj => by
    rw [List.flatMap_cons, List.getElem?_append_right (by rw [h, Nat.add_mul]; omega), h, show (k + 1) * n + j - n = k * n + j from by rw [Nat.add_mul]; omega]
    exact flat_at h L k (by simpa using hk) j hj
theorem flat_snoc (L : List α) (x : α) : (L ++ [x]).flatMap c = L.flatMap c ++ c x := by
  rw [List.flatMap_append, List.flatMap_cons, List.flatMap_nil, List.append_nil]
theorem flat_take {L : List α} {x : α} {k : Nat} (hlt : k < L.length) (hx : x = L[k]) : (L.take (k + 1)).flatMap c = (L.take k).flatMap c ++ c x := by
  rw [List.take_succ_eq_append_getElem hlt, ← hx, flat_snoc]
theorem flat_one (h1 : ∀ x, ∀ u ∈ c x, u.oneCell' = true) (L : List α) : ∀ u ∈ L.flatMap c, u.oneCell' = true := by
  intro u hu
  obtain ⟨x, -, hx⟩ := List.mem_flatMap.1 hu
  exact h1 x u hx
theorem flat_takeN (h : ∀ x, (c x).length = n) : ∀ (L : List α) (k : Nat), (L.flatMap c).take (k * n) = (L.take k).flatMap c
  | [], k => by simp
  | x :: L, 0 => by simp
  | x :: L, k + 1 => by
    rw [List.flatMap_cons, List.take_succ_cons, List.flatMap_cons, List.take_append, h, List.take_of_length_le (by rw [h, Nat.add_mul]; omega), show (k + 1) * n - n = k * n from by rw [Nat.add_mul]; omega, flat_takeN h L k]
theorem flat_dropN (h : ∀ x, (c x).length = n) : ∀ (L : List α) (k : Nat), (L.flatMap c).drop (k * n) = (L.drop k).flatMap c
  | [], k => by simp
  | x :: L, 0 => by simp
  | x :: L, k + 1 => by
    rw [List.flatMap_cons, List.drop_succ_cons, List.drop_append, h, List.drop_of_length_le (by rw [h, Nat.add_mul]; omega), show (k + 1) * n - n = k * n from by rw [Nat.add_mul]; omega, flat_dropN h L k, List.nil_append]
end
/-- a run of cells, written over -/
def setRun (l : List Value) (o : Nat) : List Value → List Value
  | [] => l
  | u :: us => setRun (l.set o u) (o + 1) us
theorem setRun_append_right : ∀ (us : List Value) (a b : List Value) (o : Nat), a.length ≤ o → setRun (a ++ b) o us = a ++ setRun b (o - a.length) us
  | [], _, _, _, _ => rfl
  | u :: us, a, b, o, h => by
    unfold setRun
    rw [List.set_append_right _ _ h, setRun_append_right us a _ (o + 1) (by omega)]
    rw [show o + 1 - a.length = o - a.length + 1 from by omega]
theorem setRun_whole : ∀ (us c r : List Value), c.length = us.length → setRun (c ++ r) 0 us = us ++ r := by
  suffices h : ∀ (us p c r : List Value), c.length = us.length → setRun (p ++ (c ++ r)) p.length us = p ++ (us ++ r) by
    intro us c r hc
    simpa using h us [] c r hc
  intro us
  induction us with
  | nil =>
    intro p c r hc
    have : c = [] := List.eq_nil_of_length_eq_zero hc
    subst this
    rfl
  | cons u us ih =>
    intro p c r hc
    match c, hc with
    | x :: c, hc =>
      unfold setRun
      rw [List.set_append_right _ _ (Nat.le_refl _), Nat.sub_self]
      show setRun (p ++ (u :: (c ++ r))) (p.length + 1) us = _
      have := ih (p ++ [u]) c r (by simpa using hc)
      simpa using this
/-- one record written over -/
theorem flat_set {α : Type} {c : α → List Value} {n : Nat} (h : ∀ x, (c x).length = n) (y : α) : ∀ (L : List α) (k : Nat), k < L.length → setRun (L.flatMap c) (k * n) (c y) = (L.set k y).flatMap c
  | [], k, hk => absurd hk (Nat.not_lt_zero _)
  | x :: L, 0, _ => by
    rw [List.flatMap_cons, List.set_cons_zero, List.flatMap_cons, Nat.zero_mul]
    exact setRun_whole _ _ _ (by rw [h, h])
  | x :: L, k + 1, hk => by
    rw [List.flatMap_cons, List.set_cons_succ, List.flatMap_cons, setRun_append_right _ _ _ _ (by rw [h, Nat.add_mul]; omega), h, show (k + 1) * n - n = k * n from by rw [Nat.add_mul]; omega]
    rw [flat_set h y L k (by simpa using hk)]
theorem own_setRun {base : Nat} {e : TypeId} {size g n cap : Nat} : ∀ (us : List Value) (o : Nat) (w : World) (xs : List Value), w.ownsRow base e size (.slice (some ⟨g, 0, none⟩) n cap) n xs → o + us.length ≤ n * size →
    (w.setCells g o us).ownsRow base e size (.slice (some ⟨g, 0, none⟩) n cap) n (setRun xs o us)
  | [], _, _, _, h, _ => h
  | u :: us, o, w, xs, h, hl => own_setRun us (o + 1) _ _ (own_set h (by simp only [List.length_cons] at hl; omega) u) (by simp only [List.length_cons] at hl; omega)
theorem setRun_take : ∀ (us xs : List Value) (o m : Nat), m ≤ o → (setRun xs o us).take m = xs.take m
  | [], _, _, _, _ => rfl
  | u :: us, xs, o, m, h => by
    unfold setRun
    rw [setRun_take us _ (o + 1) m (by omega), List.take_set_of_le h]
theorem fr_setCells {S : List Nat} {g : Nat} (hg : g ∈ S) : ∀ (us : List Value) (o : Nat) (a w : World), Fr S a w → Fr S a (w.setCells g o us)
  | [], _, _, _, h => h
  | u :: us, o, a, w, h => fr_setCells hg us (o + 1) a _ (h.set (p := ⟨g, o, none⟩) hg u)
theorem own_lo {w : World} {base : Nat} {e : TypeId} {size : Nat} {v : Value} {n : Nat} {xs : List Value} (h : w.ownsRow base e size v n xs) {g : Nat} (hg : v.ownBlock = some g) : base ≤ g := by
  rcases h.2 with ⟨rfl, -⟩ | ⟨g', cap, cur, rfl, hb, -⟩
  · cases hg
  · cases hg
    exact hb
theorem own_mono {w : World} {base base' : Nat} {e : TypeId} {size : Nat} {v : Value} {n : Nat} {xs : List Value} (h : w.ownsRow base e size v n xs) (hb : base' ≤ base) : w.ownsRow base' e size v n xs := by
  refine ⟨h.1, ?_⟩
  rcases h.2 with hn | ⟨g, cap, cur, hv, hbg, rest⟩
  · exact .inl hn
  · exact .inr ⟨g, cap, cur, hv, Nat.le_trans hb hbg, rest⟩
theorem own_hi {w : World} {base : Nat} {e : TypeId} {size n : Nat} {v : Value} {xs : List Value} (h : w.ownsRow base e size v n xs) {g : Nat} (hg : v.ownBlock = some g) : g < w.heap.size := by
  rcases h.2 with ⟨rfl, -⟩ | ⟨g', cap, cur, rfl, -, hh, -⟩
  · cases hg
  · cases hg
    exact (Array.getElem?_eq_some_iff.1 hh).1
theorem own_keep {w w' : World} {base : Nat} {e : TypeId} {size : Nat} {v : Value} {n : Nat} {xs : List Value} (h : w.ownsRow base e size v n xs) (hb : Below w.heap.size w w') : w'.ownsRow base e size v n xs := own_fr h (Fr.of_below hb []) (fun _ _ => by simp)
end Go.Proofs.Ytgcemddobcjpnaa
namespace Go.Proofs.Ytgcemddobcjpnaa
open Go.RowKit

/-- nothing but blocks of P has turned of what was there -/
def Frp (P : Nat → Prop) (w w' : World) : Prop := ∃ S, Fr S w w' ∧ ∀ x ∈ S, P x
theorem Frp.of_below {w w' : World} (h : Below w.heap.size w w') (P : Nat → Prop) : Frp P w w' := ⟨[], Fr.of_below h [], by simp⟩
theorem Frp.refl (P : Nat → Prop) (w : World) : Frp P w w := ⟨[], Fr.refl _ _, by simp⟩
theorem Frp.size {P : Nat → Prop} {w w' : World} (h : Frp P w w') : w.heap.size ≤ w'.heap.size := by obtain ⟨S, h, -⟩ := h; exact h.size
theorem Frp.mono {P Q : Nat → Prop} {w w' : World} (h : Frp P w w') (hp : ∀ k, P k → Q k) : Frp Q w w' := by
  obtain ⟨S, h, h2⟩ := h
  exact ⟨S, h, fun x hx => hp x (h2 x hx)⟩
theorem Frp.trans {P Q : Nat → Prop} {a b c : World} (h : Frp P a b) (k : Frp Q b c) (hq : ∀ x, Q x → P x ∨ a.heap.size ≤ x) : Frp P a c := by
  obtain ⟨S, h1, h2⟩ := h
  obtain ⟨S2, h3, h4⟩ := k
  classical
  refine ⟨S ++ S2.filter (fun x => decide (P x)), (h1.mono (fun x hx => List.mem_append_left _ hx)).trans h3 (fun x hx => ?_), fun x hx => ?_⟩
  · rcases hq x (h4 x hx) with h5 | h5
    · exact .inl (List.mem_append_right _ (List.mem_filter.2 ⟨hx, by simpa using h5⟩))
    · exact .inr h5
  · rcases List.mem_append.1 hx with hx | hx
    · exact h2 x hx
    · simpa using (List.mem_filter.1 hx).2
theorem Frp.then {P : Nat → Prop} {a b c : World} (h : Frp P a b) (k : Frp P b c) : Frp P a c := h.trans k fun _ hx => .inl hx
theorem Frp.below {P : Nat → Prop} {n : Nat} {w w' : World} (h : Frp P w w') (hp : ∀ k, P k → n ≤ k) (hn : n ≤ w.heap.size) : Below n w w' := by
  obtain ⟨S, h, h2⟩ := h
  exact h.below (fun x hx => hp x (h2 x hx)) hn
theorem Frp.set {P : Nat → Prop} {a w : World} (h : Frp P a w) {p : Addr} (hp : P p.block) (u : Value) : Frp P a (w.setCell p u) :=
  h.then ⟨[p.block], (Fr.refl _ _).set (p := p) (by simp) u, fun x hx => by rw [List.mem_singleton.1 hx]; exact hp⟩
theorem Frp.grown {P : Nat → Prop} {a w w' : World} {row : Option Nat} (h : Frp P a w) (hg : w.grownBy w' row) (hp : ∀ k, row = some k → P k ∨ a.heap.size ≤ k) : Frp P a w' :=
  h.trans (Q := fun k => row = some k) ⟨row.toList, Fr.of_grown hg, fun x hx => Option.mem_toList.1 hx⟩ hp
theorem Frp.next {P : Nat → Prop} {a w w' : World} (h : Frp P a w) (hb : Below w.heap.size w w') : Frp P a w' := h.then (Frp.of_below hb P)
theorem Blk.frp {Q : Nat → Prop} {w w' : World} {g : Nat} {cs : List Value} {t : TypeId} (h : Blk w g cs t) (hf : Frp Q w w') (hg : ¬ Q g) : Blk w' g cs t := by
  obtain ⟨S, hS, hS2⟩ := hf
  exact h.fr hS (fun hm => hg (hS2 _ hm))
theorem own_frp {Q : Nat → Prop} {w w' : World} {base : Nat} {e : TypeId} {size : Nat} {v : Value} {n : Nat} {xs : List Value} (h : w.ownsRow base e size v n xs) (hf : Frp Q w w') (hg : ∀ g, v.ownBlock = some g → ¬ Q g) : w'.ownsRow base e size v n xs := by
  obtain ⟨S, hS, hS2⟩ := hf
  exact own_fr h hS fun g hv hm => hg g hv (hS2 _ hm)
theorem cell_frp {Q : Nat → Prop} {w w' : World} {a : Addr} {v : Value} (h : w.cell? a = some v) (hf : Frp Q w w') (hg : ¬ Q a.block) : w'.cell? a = some v := by
  obtain ⟨S, hS, hS2⟩ := hf
  exact cell_fr h hS (fun hm => hg (hS2 _ hm))
theorem SMap.fr {P : Program} {k : TypeId} {S : List Nat} {w w' : World} {b : Nat} {m : SM} (h : SMap P k w b m) (hf : Fr S w w') (hb : b ∉ S) : SMap P k w' b m := by
  have hl := h.lt
  obtain ⟨es, clock, h1, h2⟩ := h
  refine ⟨es, clock, ?_, h2⟩
  rw [hf.block b hl hb]
  exact h1
theorem SMap.frp {P : Program} {k : TypeId} {Q : Nat → Prop} {w w' : World} {b : Nat} {m : SM} (h : SMap P k w b m) (hf : Frp Q w w') (hb : ¬ Q b) : SMap P k w' b m := by
  obtain ⟨S, hS, hS2⟩ := hf
  exact h.fr hS (fun hm => hb (hS2 _ hm))
/-- a row's block is not a block of another type -/
theorem own_ty {w : World} {base : Nat} {e t : TypeId} {size n : Nat} {v : Value} {xs cs : List Value} {g : Nat} (h : w.ownsRow base e size v n xs) (hb : Blk w g cs t) (ht : t ≠ e) : v.ownBlock ≠ some g := by
  intro hv
  rcases h.2 with ⟨rfl, -⟩ | ⟨q, cap, cur, rfl, -, hh, -⟩
  · simp [Value.ownBlock] at hv
  · simp only [Value.ownBlock, Option.some.injEq] at hv
    subst hv
    unfold Blk at hb
    rw [hh] at hb
    simp only [Option.some.injEq, Obj.cells.injEq] at hb
    exact ht hb.2.1.symm
theorem blk_ty {w : World} {g : Nat} {cs ds : List Value} {t u : TypeId} (h : Blk w g cs t) (k : Blk w g ds u) : t = u := by
  unfold Blk at h k
  rw [h] at k
  simp only [Option.some.injEq, Obj.cells.injEq] at k
  exact k.2.1
theorem blk_map {P : Program} {k : TypeId} {w : World} {g : Nat} {cs : List Value} {t : TypeId} {m : SM} (h : Blk w g cs t) (hm : SMap P k w g m) : False := by
  obtain ⟨es, clock, h1, -⟩ := hm
  unfold Blk at h
  rw [h] at h1
  cases h1
theorem own_map {P : Program} {k : TypeId} {w : World} {base : Nat} {e : TypeId} {size n : Nat} {v : Value} {xs : List Value} {g : Nat} {m : SM} (h : w.ownsRow base e size v n xs) (hm : SMap P k w g m) : v.ownBlock ≠ some g := by
  intro hv
  obtain ⟨es, clock, h1, -⟩ := hm
  rcases h.2 with ⟨rfl, -⟩ | ⟨q, cap, cur, rfl, -, hh, -⟩
  · simp [Value.ownBlock] at hv
  · simp only [Value.ownBlock, Option.some.injEq] at hv
    subst hv
    rw [hh] at h1
    cases h1
end Go.Proofs.Ytgcemddobcjpnaa
namespace Go.Proofs.Ytgcemddobcjpnaa
open Go.RowKit

structure Pf where
  f : Fl
  a : Nat
  v : Value
namespace Pf
def key (p : Pf) : List UInt8 := p.f.key
def val (p : Pf) : Value := ptr p.a
end Pf

abbrev dkC (mb : Nat) (D : Dk) : List Value := [.map (some mb), .int .i64 D.room, .bool D.fused, .int .i64 D.fuse, .bool D.off, .int .i64 D.steps]
/-- two files lie apart -/
def ApP (p q : Pf) : Prop := p.a ≠ q.a ∧ ∀ k, p.v.ownBlock = some k → q.v.ownBlock ≠ some k
theorem ApP.symm {p q : Pf} (h : ApP p q) : ApP q p := ⟨h.1.symm, fun k h1 h2 => h.2 k h2 h1⟩
structure PDk (w : World) (b mb : Nat) (D : Dk) (L : List Pf) : Prop where
  blk : Blk w b (dkC mb D) 54
  map : SMap Try.prog 9 w mb (kM Pf.key Pf.val L)
  eq : L.map Pf.f = D.F
  file : ∀ p ∈ L, Blk w p.a [p.v, .int .i64 (p.f.s : Int)] 69
  body : ∀ p ∈ L, Fresh 0 w p.v p.f.b
  apart : L.Pairwise ApP
/-- its blocks -/
def fpP (b mb : Nat) (L : List Pf) (k : Nat) : Prop := k = b ∨ k = mb ∨ ∃ p ∈ L, k = p.a ∨ p.v.ownBlock = some k

/-- what holds of a disk between calls -/
structure DkI (D : Dk) (M : Nat) (N : Int) : Prop where
  rise : KRise Fl.key D.F
  syn : ∀ f ∈ D.F, f.s ≤ f.b.length
  nam : ∀ f ∈ D.F, f.n.size ≤ 24
  fits : Dk.bytes D.F ≤ D.room
  room : D.room ≤ 1073741824
  len : D.F.length ≤ M
  fuse : 0 ≤ D.fuse ∧ D.fuse ≤ 9223372036854775807
  steps : 0 ≤ D.steps ∧ D.steps ≤ N

def Dsk (w : World) (b : Nat) (P : Nat → Prop) (D : Dk) : Prop := ∃ mb L, PDk w b mb D L ∧ ∀ k, fpP b mb L k → P k

section
variable {w w' : World} {b mb : Nat} {D : Dk} {L : List Pf}
theorem PDk.rise (h : PDk w b mb D L) (hr : KRise Fl.key D.F) : KRise Pf.key L := (KRise.map (key := Pf.key) (f := Pf.f) (fun _ => rfl)).1 (by rw [h.eq]; exact hr)
theorem PDk.find (h : PDk w b mb D L) (s : List UInt8) : kfnd Fl.key D.F s = (kfnd Pf.key L s).map Pf.f := by
  rw [← h.eq]
  exact kfnd_map (fun _ => rfl) L s
theorem PDk.len (h : PDk w b mb D L) : L.length = D.F.length := by rw [← h.eq, List.length_map]
theorem PDk.ne_mb (h : PDk w b mb D L) : mb ≠ b := fun e => by subst e; exact blk_map h.blk h.map
theorem PDk.ne_a (h : PDk w b mb D L) {p : Pf} (hp : p ∈ L) : p.a ≠ b ∧ p.a ≠ mb :=
  ⟨fun e => by have h1 := h.file p hp; rw [e] at h1; exact absurd (blk_ty h1 h.blk) (by decide), fun e => by have h1 := h.file p hp; rw [e] at h1; exact blk_map h1 h.map⟩
theorem PDk.ne_v (h : PDk w b mb D L) {p : Pf} (hp : p ∈ L) : p.v.ownBlock ≠ some b ∧ p.v.ownBlock ≠ some mb ∧ ∀ q ∈ L, p.v.ownBlock ≠ some q.a :=
  ⟨own_ty (h.body p hp) h.blk (by decide), own_map (h.body p hp) h.map, fun q hq => own_ty (h.body p hp) (h.file q hq) (by decide)⟩
theorem PDk.kept (h : PDk w b mb D L) (hb : Below w.heap.size w w') : PDk w' b mb D L :=
  ⟨h.blk.kept hb, h.map.kept hb, h.eq, fun p hp => (h.file p hp).kept hb, fun p hp => own_keep (h.body p hp) hb, h.apart⟩
theorem PDk.lt (h : PDk w b mb D L) {k : Nat} (hk : fpP b mb L k) : k < w.heap.size := by
  rcases hk with rfl | rfl | ⟨p, hp, rfl | hv⟩
  · exact h.blk.lt
  · exact h.map.lt
  · exact (h.file p hp).lt
  · exact own_hi (h.body p hp) hv
theorem PDk.frp {Q : Nat → Prop} (h : PDk w b mb D L) (hf : Frp Q w w') (hq : ∀ k, fpP b mb L k → ¬ Q k) : PDk w' b mb D L :=
  ⟨h.blk.frp hf (hq b (.inl rfl)), h.map.frp hf (hq mb (.inr (.inl rfl))), h.eq, fun p hp => (h.file p hp).frp hf (hq p.a (.inr (.inr ⟨p, hp, .inl rfl⟩))),
    fun p hp => own_frp (h.body p hp) hf (fun g hg => hq g (.inr (.inr ⟨p, hp, .inr hg⟩))), h.apart⟩
theorem PDk.apart_of (h : PDk w b mb D L) {p q : Pf} (hp : p ∈ L) (hq : q ∈ L) (hne : p ≠ q) : ApP p q := by
  obtain ⟨i, hi, rfl⟩ := List.getElem_of_mem hp
  obtain ⟨j, hj, rfl⟩ := List.getElem_of_mem hq
  have hij : i ≠ j := fun e => hne (by subst e; rfl)
  rcases Nat.lt_or_gt_of_ne hij with h1 | h1
  · exact List.pairwise_iff_getElem.1 h.apart i j hi hj h1
  · exact (List.pairwise_iff_getElem.1 h.apart j i hj hi h1).symm

/-- the disk's own numbers turn -/
theorem PDk.flds {D' : Dk} (h : PDk w b mb D L) (hF : D'.F = D.F) (hf : Frp (fun k => k = b) w w') (hb : Blk w' b (dkC mb D') 54) : PDk w' b mb D' L :=
  ⟨hb, h.map.frp hf h.ne_mb, by rw [hF]; exact h.eq, fun p hp => (h.file p hp).frp hf (h.ne_a hp).1, fun p hp => own_frp (h.body p hp) hf (fun g hg e => (h.ne_v hp).1 (by rw [hg, e])), h.apart⟩

theorem pairwise_kins {x : Pf} (h : L.Pairwise ApP) (hx : ∀ q ∈ L, ApP x q) : (kins Pf.key x L).Pairwise ApP :=
  ((kins_perm (key := Pf.key) x L).pairwise_iff (fun {a b} h => ApP.symm h)).2 (List.pairwise_cons.2 ⟨hx, h⟩)
theorem PDk.mem_ne (h : PDk w b mb D L) (hr : KRise Fl.key D.F) {p q : Pf} (hp : p ∈ L) (hq : q ∈ L) (hk : q.key ≠ p.key) : ApP p q := h.apart_of hp hq (fun e => hk (by rw [e]))

/-- a new file -/
theorem PDk.add {D' : Dk} {x : Pf} (h : PDk w b mb D L) (hn : ∀ e ∈ L, e.key ≠ x.key) (hF : D'.F = kput Fl.key D.F x.f) (hC : dkC mb D' = dkC mb D) (hf : Frp (fun k => k = mb) w w') (hm : SMap Try.prog 9 w' mb ((kM Pf.key Pf.val L).put x.key x.val))
    (hfile : Blk w' x.a [x.v, .int .i64 (x.f.s : Int)] 69) (hbody : Fresh 0 w' x.v x.f.b) (hxa : w.heap.size ≤ x.a) (hxv : ∀ k, x.v.ownBlock = some k → w.heap.size ≤ k) : PDk w' b mb D' (kput Pf.key L x) := by
  have hrem : krem Pf.key L x.key = L := krem_no hn
  refine ⟨by rw [hC]; exact h.blk.frp hf h.ne_mb.symm, by rw [kM_put] at hm; exact hm, by rw [hF, ← h.eq, kput_map (key := Pf.key) (key' := Fl.key) (f := Pf.f) (fun _ => rfl)], fun p hp => ?_, fun p hp => ?_, ?_⟩
  · rcases (kput_mem L x p).1 hp with rfl | ⟨hp, -⟩
    · exact hfile
    · exact (h.file p hp).frp hf (h.ne_a hp).2
  · rcases (kput_mem L x p).1 hp with rfl | ⟨hp, -⟩
    · exact hbody
    · exact own_frp (h.body p hp) hf (fun g hg e => (h.ne_v hp).2.1 (by rw [hg, e]))
  · unfold kput
    rw [hrem]
    refine pairwise_kins h.apart fun q hq => ⟨fun e => ?_, fun k h1 h2 => ?_⟩
    · have := (h.file q hq).lt
      omega
    · have := own_hi (h.body q hq) h2
      have := hxv k h1
      omega
/-- a file is no more -/
theorem PDk.del {D' : Dk} (h : PDk w b mb D L) (s : ByteArray) (hF : D'.F = krem Fl.key D.F s.data.toList) (hC : dkC mb D' = dkC mb D) (hf : Frp (fun k => k = mb) w w') (hm : SMap Try.prog 9 w' mb ((kM Pf.key Pf.val L).del s.data.toList)) : PDk w' b mb D' (krem Pf.key L s.data.toList) := by
  have hsub : ∀ p ∈ krem Pf.key L s.data.toList, p ∈ L := fun p hp => ((krem_mem L _ p).1 hp).1
  exact ⟨by rw [hC]; exact h.blk.frp hf h.ne_mb.symm, by rw [kM_del] at hm; exact hm, by rw [hF, ← h.eq, krem_map (key := Pf.key) (key' := Fl.key) (f := Pf.f) (fun _ => rfl)], fun p hp => (h.file p (hsub p hp)).frp hf (h.ne_a (hsub p hp)).2,
    fun p hp => own_frp (h.body p (hsub p hp)) hf (fun g hg e => (h.ne_v (hsub p hp)).2.1 (by rw [hg, e])), h.apart.filter _⟩
/-- the same file, by another name, where the name's file is no more -/
theorem PDk.again {D' : Dk} {x : Pf} (h : PDk w b mb D L) (hF : D'.F = kput Fl.key D.F x.f) (hC : dkC mb D' = dkC mb D) (hf : Frp (fun k => k = mb) w w') (hm : SMap Try.prog 9 w' mb ((kM Pf.key Pf.val L).put x.key x.val))
    (hfile : Blk w x.a [x.v, .int .i64 (x.f.s : Int)] 69) (hbody : Fresh 0 w x.v x.f.b) (hx : ∀ q ∈ L, ApP x q) : PDk w' b mb D' (kput Pf.key L x) := by
  have hxm : x.a ≠ mb := fun e => by rw [e] at hfile; exact blk_map hfile h.map
  refine ⟨by rw [hC]; exact h.blk.frp hf h.ne_mb.symm, by rw [kM_put] at hm; exact hm, by rw [hF, ← h.eq, kput_map (key := Pf.key) (key' := Fl.key) (f := Pf.f) (fun _ => rfl)], fun p hp => ?_, fun p hp => ?_, ?_⟩
  · rcases (kput_mem L x p).1 hp with rfl | ⟨hp, -⟩
    · exact hfile.frp hf hxm
    · exact (h.file p hp).frp hf (h.ne_a hp).2
  · rcases (kput_mem L x p).1 hp with rfl | ⟨hp, -⟩
    · exact own_frp hbody hf (fun g hg e => own_map hbody h.map (by rw [hg, e]))
    · exact own_frp (h.body p hp) hf (fun g hg e => (h.ne_v hp).2.1 (by rw [hg, e]))
  · unfold kput
    exact pairwise_kins (h.apart.filter _) fun q hq => hx q ((krem_mem L _ q).1 hq).1
theorem kM_set {i : Nat} {p x : Pf} (hi : i < L.length) (hp : L[i] = p) (hk : x.key = p.key) (ha : x.a = p.a) : kM Pf.key Pf.val (L.set i x) = kM Pf.key Pf.val L := by
  unfold kM
  rw [List.map_set]
  apply List.ext_getElem?
  intro j
  rw [List.getElem?_set]
  split
  · next h =>
    subst h
    rw [if_pos (by simpa using hi), List.getElem?_map, List.getElem?_eq_getElem hi, hp]
    simp [hk, Pf.val, ha]
  · rfl
/-- a file turns -/
theorem PDk.turn {D' : Dk} {p x : Pf} (h : PDk w b mb D L) (hr : KRise Fl.key D.F) (hp : kfnd Pf.key L x.key = some p) (ha : x.a = p.a) (hF : D'.F = kput Fl.key D.F x.f) (hC : dkC mb D' = dkC mb D) (hf : Frp (fun k => k = p.a ∨ p.v.ownBlock = some k) w w')
    (hfile : Blk w' x.a [x.v, .int .i64 (x.f.s : Int)] 69) (hbody : Fresh 0 w' x.v x.f.b) (hxv : ∀ k, x.v.ownBlock = some k → p.v.ownBlock = some k ∨ w.heap.size ≤ k) : PDk w' b mb D' (kput Pf.key L x) := by
  obtain ⟨hmem, hkey⟩ := kfnd_mem hp
  have hrL := h.rise hr
  have hnb : ∀ k, (k = b ∨ k = mb) → ¬ (k = p.a ∨ p.v.ownBlock = some k) := fun k hk hq => by
    rcases hk with rfl | rfl <;> rcases hq with hq | hq
    · exact (h.ne_a hmem).1 hq.symm
    · exact (h.ne_v hmem).1 hq
    · exact (h.ne_a hmem).2 hq.symm
    · exact (h.ne_v hmem).2.1 hq
  have hother : ∀ q ∈ L, q.key ≠ x.key → ApP p q := fun q hq hk => h.mem_ne hr hmem hq (by rw [hkey]; exact hk)
  have hset := kput_same (key := Pf.key) (x := x) hrL hp rfl
  obtain ⟨hi, hpe⟩ := kfnd_place hrL hp
  refine ⟨by rw [hC]; exact h.blk.frp hf (hnb b (.inl rfl)), ?_, by rw [hF, ← h.eq, kput_map (key := Pf.key) (key' := Fl.key) (f := Pf.f) (fun _ => rfl)], fun q hq => ?_, fun q hq => ?_, ?_⟩
  · rw [hset, kM_set hi hpe hkey.symm ha]
    exact h.map.frp hf (hnb mb (.inr rfl))
  · rcases (kput_mem L x q).1 hq with rfl | ⟨hq, hk⟩
    · exact hfile
    · have hap := hother q hq hk
      exact (h.file q hq).frp hf (fun e => e.elim (fun e => hap.1 e.symm) (fun e => (h.ne_v hmem).2.2 q hq e))
  · rcases (kput_mem L x q).1 hq with rfl | ⟨hq, hk⟩
    · exact hbody
    · have hap := hother q hq hk
      exact own_frp (h.body q hq) hf (fun g hg e => e.elim (fun e => (h.ne_v hq).2.2 p hmem (by rw [hg, e])) (fun e => hap.2 g e hg))
  · unfold kput
    refine pairwise_kins (h.apart.filter _) fun q hq => ?_
    obtain ⟨hq, hk⟩ := (krem_mem L _ q).1 hq
    have hap := hother q hq hk
    refine ⟨by rw [ha]; exact hap.1, fun k h1 h2 => ?_⟩
    rcases hxv k h1 with h3 | h3
    · exact hap.2 k h3 h2
    · have := own_hi (h.body q hq) h2
      omega
end

section
variable {w w' : World} {b : Nat} {P Q : Nat → Prop} {D : Dk}
theorem Dsk.kept (h : Dsk w b P D) (hb : Below w.heap.size w w') : Dsk w' b P D := by
  obtain ⟨mb, L, h1, h2⟩ := h
  exact ⟨mb, L, h1.kept hb, h2⟩
theorem Dsk.mono (h : Dsk w b P D) (hp : ∀ k, P k → k < w.heap.size → Q k) : Dsk w b Q D := by
  obtain ⟨mb, L, h1, h2⟩ := h
  exact ⟨mb, L, h1, fun k hk => hp k (h2 k hk) (h1.lt hk)⟩
theorem Dsk.frp (h : Dsk w b P D) (hf : Frp Q w w') (hq : ∀ k, P k → ¬ Q k) : Dsk w' b P D := by
  obtain ⟨mb, L, h1, h2⟩ := h
  exact ⟨mb, L, h1.frp hf (fun k hk => hq k (h2 k hk)), h2⟩
end
end Go.Proofs.Ytgcemddobcjpnaa
namespace Go.Proofs.Ytgcemddobcjpnaa
open Go.RowKit

section
variable {α : Type} (key : α → List UInt8) (f : α → Int)
def ksum (L : List α) : Int := (L.map f).sum
def kdone (left : Lit → Bool) (L : List α) : Int := (L.map fun e => if left (.string (key e)) then 0 else f e).sum
end
section
variable {α : Type} {key : α → List UInt8} {f : α → Int}
theorem ksum_cons (e : α) (L : List α) : ksum f (e :: L) = f e + ksum f L := by simp [ksum]
theorem kdone_cons (left : Lit → Bool) (e : α) (L : List α) : kdone key f left (e :: L) = (if left (.string (key e)) then 0 else f e) + kdone key f left L := by simp [kdone]
theorem kdone_start {L : List α} {left : Lit → Bool} (h : ∀ e ∈ L, left (.string (key e)) = true) : kdone key f left L = 0 := by
  induction L with
  | nil => rfl
  | cons e L ih => rw [kdone_cons, ih (fun x hx => h x (by simp [hx])), h e (by simp)]; rfl
theorem kdone_end {L : List α} {left : Lit → Bool} (h : ∀ s, left (.string s) = false) : kdone key f left L = ksum f L := by
  induction L with
  | nil => rfl
  | cons e L ih => rw [kdone_cons, ih, h, ksum_cons]; rfl
theorem kdone_congr {left left' : Lit → Bool} {L : List α} (h : ∀ e ∈ L, left (.string (key e)) = left' (.string (key e))) : kdone key f left L = kdone key f left' L := by
  unfold kdone
  congr 1
  exact List.map_congr_left fun e he => by rw [h e he]
theorem kdone_step {L : List α} {left : Lit → Bool} (hd : KApart key L) {e : α} (he : e ∈ L) (hl : left (.string (key e)) = true) :
    kdone key f (fun z => left z && !z.sameKey (.string (key e))) L = kdone key f left L + f e := by
  induction L with
  | nil => cases he
  | cons y L ih =>
    unfold KApart at hd
    rw [List.pairwise_cons] at hd
    rw [kdone_cons, kdone_cons]
    rcases List.mem_cons.1 he with rfl | h
    · have h1 : kdone key f (fun z => left z && !z.sameKey (.string (key e))) L = kdone key f left L := kdone_congr fun x hx => by
        have : (key x == key e) = false := by
          have := hd.1 x hx
          simp only [beq_eq_false_iff_ne, ne_eq]
          exact fun h => this h.symm
        show (left (.string (key x)) && !(key x == key e)) = _
        rw [this]; simp
      rw [h1]
      show (if (left (.string (key e)) && !(key e == key e)) = true then 0 else f e) + _ = (if left (.string (key e)) = true then 0 else f e) + _ + f e
      rw [hl]
      simp
      omega
    · have h2 : (key y == key e) = false := by simpa using hd.1 e h
      rw [ih hd.2 h]
      show (if (left (.string (key y)) && !(key y == key e)) = true then 0 else f y) + _ = _
      rw [h2]
      simp only [Bool.not_false, Bool.and_true]
      omega
theorem ksum_nonneg {L : List α} (h : ∀ e ∈ L, 0 ≤ f e) : 0 ≤ ksum f L := by
  induction L with
  | nil => exact Int.le_refl _
  | cons e L ih =>
    rw [ksum_cons]
    have := h e (by simp)
    have := ih (fun x hx => h x (by simp [hx]))
    omega
theorem kdone_bd {L : List α} (left : Lit → Bool) (h : ∀ e ∈ L, 0 ≤ f e) : 0 ≤ kdone key f left L ∧ kdone key f left L ≤ ksum f L := by
  induction L with
  | nil => exact ⟨Int.le_refl _, Int.le_refl _⟩
  | cons e L ih =>
    rw [kdone_cons, ksum_cons]
    have h1 := h e (by simp)
    have h2 := ih (fun x hx => h x (by simp [hx]))
    split <;> omega
theorem ksum_mem {L : List α} (h : ∀ e ∈ L, 0 ≤ f e) {e : α} (he : e ∈ L) : f e ≤ ksum f L := by
  induction L with
  | nil => cases he
  | cons y L ih =>
    rw [ksum_cons]
    have h1 := h y (by simp)
    rcases List.mem_cons.1 he with rfl | he
    · have := ksum_nonneg (f := f) (L := L) (fun x hx => h x (by simp [hx]))
      omega
    · have := ih (fun x hx => h x (by simp [hx])) he
      omega
theorem ksum_ins (x : α) : ∀ L : List α, ksum f (kins key x L) = f x + ksum f L
  | [] => by simp [kins, ksum]
  | y :: L => by
    unfold kins
    split
    · rw [ksum_cons]
    · rw [ksum_cons, ksum_ins x L, ksum_cons]; omega
theorem ksum_rem {L : List α} (hd : KApart key L) {e : α} (he : e ∈ L) : ksum f (krem key L (key e)) = ksum f L - f e := by
  induction L with
  | nil => cases he
  | cons y L ih =>
    unfold KApart at hd
    rw [List.pairwise_cons] at hd
    unfold krem at *
    simp only [List.filter_cons]
    rcases List.mem_cons.1 he with rfl | h
    · have h1 : L.filter (fun x => !(key x == key e)) = L := by
        rw [List.filter_eq_self]
        intro x hx
        have := hd.1 x hx
        simp only [Bool.not_eq_true', beq_eq_false_iff_ne, ne_eq]
        exact fun h => this h.symm
      simp only [beq_self_eq_true, Bool.not_true, Bool.false_eq_true, if_false, h1, ksum_cons]
      omega
    · have h2 : (key y == key e) = false := by simpa using hd.1 e h
      simp only [h2, Bool.not_false, if_true, ksum_cons, ih hd.2 h]
      omega
theorem ksum_map {β : Type} (g : β → α) (L : List β) : ksum f (L.map g) = ksum (fun x => f (g x)) L := by
  unfold ksum
  rw [List.map_map]; rfl
end
end Go.Proofs.Ytgcemddobcjpnaa
namespace Go.Proofs.Ytgcemddobcjpnaa
open Go.RowKit

def lenF (f : Fl) : Int := (f.b.length : Int)
theorem bytes_sum (F : List Fl) : Dk.bytes F = ksum lenF F := rfl
theorem lenF_nn : ∀ (L : List Fl), ∀ e ∈ L, 0 ≤ lenF e := fun _ e _ => by unfold lenF; omega
theorem krem_len_le {α : Type} (key : α → List UInt8) (L : List α) (s : List UInt8) : (krem key L s).length ≤ L.length := List.length_filter_le _ _
theorem kins_len {α : Type} {key : α → List UInt8} (x : α) (L : List α) : (kins key x L).length = L.length + 1 := (kins_perm (key := key) x L).length_eq
theorem krem_len_lt {α : Type} {key : α → List UInt8} {L : List α} {s : List UInt8} {f : α} (h : KRise key L) (hf : kfnd key L s = some f) : (krem key L s).length + 1 = L.length := by
  obtain ⟨hk, -⟩ := kfnd_place h hf
  rw [krem_place h hf, List.length_eraseIdx_of_lt hk]
  omega
theorem ksum_put {α : Type} {key : α → List UInt8} (g : α → Int) (L : List α) (x : α) : ksum g (kput key L x) = g x + ksum g (krem key L (key x)) := by
  unfold kput
  rw [ksum_ins]
theorem ksum_rem_le {L : List Fl} (s : List UInt8) : ksum lenF (krem Fl.key L s) ≤ ksum lenF L := by
  induction L with
  | nil => exact Int.le_refl _
  | cons e L ih =>
    unfold krem at *
    rw [List.filter_cons, ksum_cons]
    split
    · rw [ksum_cons]; omega
    · have : 0 ≤ lenF e := by unfold lenF; omega
      omega
theorem ksum_rem_of {L : List Fl} {s : List UInt8} {f : Fl} (h : KRise Fl.key L) (hf : kfnd Fl.key L s = some f) : ksum lenF (krem Fl.key L s) = ksum lenF L - lenF f := by
  obtain ⟨hm, rfl⟩ := kfnd_mem hf
  exact ksum_rem h.apart hm

section
variable {D : Dk} {M : Nat} {N : Int}
theorem DkI.mono {M' : Nat} {N' : Int} (h : DkI D M N) (hm : M ≤ M') (hn : N ≤ N') : DkI D M' N' :=
  ⟨h.rise, h.syn, h.nam, h.fits, h.room, Nat.le_trans h.len hm, h.fuse, h.steps.1, Int.le_trans h.steps.2 hn⟩
theorem DkI.dead (h : DkI D M N) : DkI D.dead M N := ⟨h.rise, h.syn, h.nam, h.fits, h.room, h.len, h.fuse, h.steps⟩
theorem DkI.stepped (h : DkI D M N) (hm : D.may = true) : DkI D.stepped M (N + 1) := by
  refine ⟨h.rise, h.syn, h.nam, h.fits, h.room, h.len, ?_, ?_⟩
  · have h1 := h.fuse
    unfold Dk.stepped
    simp only
    unfold Dk.may at hm
    cases hf : D.fused
    · simpa [hf] using h1
    · rw [hf] at hm
      simp only [Bool.true_and, Bool.not_eq_true', decide_eq_false_iff_not] at hm
      simp only [if_true]
      omega
  · have h1 := h.steps
    show 0 ≤ D.steps + 1 ∧ D.steps + 1 ≤ N + 1
    omega
theorem DkI.free (h : DkI D M N) : DkI D.free M N := ⟨h.rise, h.syn, h.nam, h.fits, h.room, h.len, by simp [Dk.free], h.steps⟩
/-- a file in place of the one by its name -/
theorem DkI.putAt (h : DkI D M N) {f x : Fl} (hf : kfnd Fl.key D.F x.key = some f) (hs : x.s ≤ x.b.length) (hn : x.n.size ≤ 24) (hl : Dk.bytes D.F - lenF f + lenF x ≤ D.room) : DkI (D.put x) M N := by
  refine ⟨h.rise.put x, fun y hy => ?_, fun y hy => ?_, ?_, h.room, ?_, h.fuse, h.steps⟩
  · rcases (kput_mem D.F x y).1 hy with rfl | ⟨hy, -⟩
    · exact hs
    · exact h.syn y hy
  · rcases (kput_mem D.F x y).1 hy with rfl | ⟨hy, -⟩
    · exact hn
    · exact h.nam y hy
  · show Dk.bytes (kput Fl.key D.F x) ≤ D.room
    rw [bytes_sum, ksum_put, ksum_rem_of h.rise hf]
    rw [bytes_sum] at hl
    omega
  · show (kput Fl.key D.F x).length ≤ M
    unfold kput
    rw [kins_len, krem_len_lt h.rise hf]
    exact h.len
/-- a file, whether one by its name was there or not -/
theorem DkI.putNew (h : DkI D M N) {x : Fl} (hs : x.s ≤ x.b.length) (hn : x.n.size ≤ 24) (hl : Dk.bytes D.F + lenF x ≤ D.room) : DkI (D.put x) (M + 1) N := by
  refine ⟨h.rise.put x, fun y hy => ?_, fun y hy => ?_, ?_, h.room, ?_, h.fuse, h.steps⟩
  · rcases (kput_mem D.F x y).1 hy with rfl | ⟨hy, -⟩
    · exact hs
    · exact h.syn y hy
  · rcases (kput_mem D.F x y).1 hy with rfl | ⟨hy, -⟩
    · exact hn
    · exact h.nam y hy
  · show Dk.bytes (kput Fl.key D.F x) ≤ D.room
    rw [bytes_sum, ksum_put]
    rw [bytes_sum] at hl
    have := ksum_rem_le (L := D.F) x.key
    omega
  · show (kput Fl.key D.F x).length ≤ M + 1
    unfold kput
    rw [kins_len]
    have := krem_len_le Fl.key D.F x.key
    have := h.len
    omega
theorem DkI.cut (h : DkI D M N) (s : ByteArray) : DkI (D.cut s) M N := by
  refine ⟨h.rise.rem _, fun y hy => h.syn y ((krem_mem D.F _ y).1 hy).1, fun y hy => h.nam y ((krem_mem D.F _ y).1 hy).1, ?_, h.room, ?_, h.fuse, h.steps⟩
  · show Dk.bytes (krem Fl.key D.F s.data.toList) ≤ D.room
    have := h.fits
    rw [bytes_sum] at *
    have := ksum_rem_le (L := D.F) s.data.toList
    omega
  · exact Nat.le_trans (krem_len_le Fl.key D.F _) h.len
theorem DkI.one_le (h : DkI D M N) {f : Fl} (hf : f ∈ D.F) : lenF f ≤ D.room := by
  have := ksum_mem (lenF_nn D.F) hf
  have := h.fits
  rw [bytes_sum] at this
  omega
theorem ask_ok {D : Dk} {l : List ByteArray} (h : D.ask l = 0) : D.off = false ∧ ∀ s ∈ l, nameB s = true := by
  unfold Dk.ask at h
  split at h
  · cases h
  · split at h
    · exact ⟨by simpa using ‹¬ D.off = true›, by simpa using ‹l.all nameB = true›⟩
    · cases h
theorem nameB_le {s : ByteArray} (h : nameB s = true) : s.size ≤ 24 := by
  unfold nameB at h
  simp only [Bool.and_eq_true, decide_eq_true_eq] at h
  exact h.2.1
theorem get_of {D : Dk} {s : ByteArray} {f : Fl} (h : D.get s = some f) : f ∈ D.F ∧ f.key = s.data.toList ∧ kfnd Fl.key D.F f.key = some f := by
  unfold Dk.get at h
  obtain ⟨h1, h2⟩ := kfnd_mem h
  exact ⟨h1, h2, by rw [h2]; exact h⟩
theorem not_zero {q : Int} (h : ¬ q ≠ 0) : q = 0 := by omega

theorem DkI.make (h : DkI D M N) (s : ByteArray) : DkI (D.make s).2 (M + 1) (N + 1) := by
  unfold Dk.make
  split
  · exact h.mono (by omega) (by omega)
  · rename_i ha
    split
    · exact h.mono (by omega) (by omega)
    · split
      · rename_i hm
        refine (h.stepped hm).putNew (Nat.le_refl _) (nameB_le ((ask_ok (not_zero ha)).2 s (by simp))) ?_
        have := h.fits
        show Dk.bytes D.F + 0 ≤ D.room
        omega
      · exact h.dead.mono (by omega) (by omega)
theorem DkI.addB (h : DkI D M N) {f : Fl} (hf : kfnd Fl.key D.F f.key = some f) (l : List UInt8) (hl : Dk.bytes D.F + (l.length : Int) ≤ D.room) : DkI (D.addB f l) M N := by
  obtain ⟨hm, -⟩ := kfnd_mem hf
  refine h.putAt (f := f) hf (by have := h.syn f hm; simp; omega) (h.nam f hm) ?_
  unfold lenF
  simp only [List.length_append]
  omega
theorem find_addB (h : DkI D M N) {f : Fl} (hf : kfnd Fl.key D.F f.key = some f) (l : List UInt8) : kfnd Fl.key (D.addB f l).F f.key = some { f with b := f.b ++ l } :=
  kfnd_of (key := Fl.key) (h.rise.put _).apart (e := { f with b := f.b ++ l }) ((kput_mem D.F _ _).2 (.inl rfl))
theorem bytes_addB (h : DkI D M N) {f : Fl} (hf : kfnd Fl.key D.F f.key = some f) (l : List UInt8) : Dk.bytes (D.addB f l).F = Dk.bytes D.F + (l.length : Int) := by
  show Dk.bytes (kput Fl.key D.F _) = _
  have hk : ({ f with b := f.b ++ l } : Fl).key = f.key := rfl
  rw [bytes_sum, ksum_put, hk, ksum_rem_of h.rise hf, ← bytes_sum]
  unfold lenF
  simp only [List.length_append]
  omega
theorem DkI.more : ∀ (n : Nat) {D : Dk} {N : Int} (_ : DkI D M N) {f : Fl} (_ : kfnd Fl.key D.F f.key = some f) (l : List UInt8) (_ : Dk.bytes D.F + (l.length : Int) ≤ D.room), DkI (Dk.more n D f l).2 M (N + (l.length : Int))
  | 0, _, _, h, _, _, l, _ => h.mono (Nat.le_refl _) (by omega)
  | n + 1, D, N, h, f, hf, l, hl => by
    unfold Dk.more
    split
    · exact h.mono (Nat.le_refl _) (by omega)
    · split
      · rename_i hne hm
        have hs := h.stepped hm
        have hlt : (l.take 64).length + (l.drop 64).length = l.length := by rw [List.length_take, List.length_drop]; omega
        have hpos : 1 ≤ (l.take 64).length := by
          have : l.length ≠ 0 := fun e => hne (List.eq_nil_of_length_eq_zero e)
          rw [List.length_take]; omega
        have ha := hs.addB (f := f) hf (l.take 64) (by show Dk.bytes D.F + _ ≤ D.room; omega)
        have hb := bytes_addB hs (f := f) hf (l.take 64)
        have := DkI.more n ha (f := { f with b := f.b ++ l.take 64 }) (find_addB hs (f := f) hf (l.take 64)) (l.drop 64) (by
          rw [hb]
          show Dk.bytes D.F + _ + _ ≤ D.room
          omega)
        exact this.mono (Nat.le_refl _) (by omega)
      · exact h.dead.mono (Nat.le_refl _) (by omega)
theorem DkI.append (h : DkI D M N) (s : ByteArray) (l : List UInt8) : DkI (D.append s l).2 M (N + (l.length : Int)) := by
  unfold Dk.append
  split
  · exact h.mono (Nat.le_refl _) (by omega)
  · split
    · exact h.mono (Nat.le_refl _) (by omega)
    · rename_i f hf
      split
      · exact h.mono (Nat.le_refl _) (by omega)
      · rename_i hl
        unfold Dk.left at hl
        exact DkI.more _ h (get_of hf).2.2 l (by omega)
theorem DkI.sync (h : DkI D M N) (s : ByteArray) : DkI (D.sync s).2 M (N + 1) := by
  unfold Dk.sync
  split
  · exact h.mono (Nat.le_refl _) (by omega)
  · split
    · exact h.mono (Nat.le_refl _) (by omega)
    · rename_i f hf
      split
      · rename_i hm
        obtain ⟨h1, h2, h3⟩ := get_of hf
        refine (h.stepped hm).putAt (x := { f with s := f.b.length }) (f := f) h3 (Nat.le_refl _) (h.nam f h1) ?_
        show Dk.bytes D.F - lenF f + lenF f ≤ D.room
        have := h.fits
        omega
      · exact h.dead.mono (Nat.le_refl _) (by omega)
theorem DkI.rename (h : DkI D M N) (s t : ByteArray) : DkI (D.rename s t).2 M (N + 1) := by
  unfold Dk.rename
  split
  · exact h.mono (Nat.le_refl _) (by omega)
  · rename_i ha
    split
    · exact h.mono (Nat.le_refl _) (by omega)
    · rename_i f hf
      split
      · exact h.mono (Nat.le_refl _) (by omega)
      · split
        · rename_i hm
          obtain ⟨h1, h2, h3⟩ := get_of hf
          have hc := (h.stepped hm).cut s
          have hb : Dk.bytes (D.stepped.cut s).F = Dk.bytes D.F - lenF f := by
            show Dk.bytes (krem Fl.key D.F s.data.toList) = _
            rw [bytes_sum, bytes_sum, ksum_rem_of h.rise (by rw [← h2]; exact h3)]
          have hlen : (D.stepped.cut s).F.length + 1 = D.F.length := krem_len_lt h.rise (by rw [← h2]; exact h3)
          have hc2 : DkI (D.stepped.cut s) (M - 1) (N + 1) := ⟨hc.rise, hc.syn, hc.nam, hc.fits, hc.room, by have := h.len; omega, hc.fuse, hc.steps⟩
          have := hc2.putNew (x := { f with n := t }) (h.syn f h1) (nameB_le ((ask_ok (not_zero ha)).2 t (by simp))) (by
            rw [hb]
            show Dk.bytes D.F - lenF f + lenF f ≤ D.room
            have := h.fits
            omega)
          have hM : 1 ≤ M := by have := h.len; omega
          exact this.mono (by omega) (Int.le_refl _)
        · exact h.dead.mono (Nat.le_refl _) (by omega)
theorem DkI.remove (h : DkI D M N) (s : ByteArray) : DkI (D.remove s).2 M (N + 1) := by
  unfold Dk.remove
  split
  · exact h.mono (Nat.le_refl _) (by omega)
  · split
    · exact h.mono (Nat.le_refl _) (by omega)
    · split
      · rename_i hm
        exact (h.stepped hm).cut s
      · exact h.dead.mono (Nat.le_refl _) (by omega)
theorem DkI.setFuse (h : DkI D M N) (n : Int) (hn : n ≤ 9223372036854775807) : DkI (D.setFuse n).2 M N := by
  unfold Dk.setFuse
  split
  · exact h
  · split
    · exact h
    · exact ⟨h.rise, h.syn, h.nam, h.fits, h.room, h.len, ⟨by simp only; omega, hn⟩, h.steps⟩
theorem keepN_le (keep : List Int) (i : Nat) (f : Fl) : Dk.keepN keep i f ≤ f.b.length - f.s := by
  unfold Dk.keepN
  split <;> omega
theorem mapIdx_sum (keep : List Int) : ∀ (L : List Fl) (k : Nat), ksum lenF (L.mapIdx fun i => Dk.keepF keep (i + k)) ≤ ksum lenF L
  | [], _ => Int.le_refl _
  | f :: L, k => by
    rw [List.mapIdx_cons, ksum_cons, ksum_cons]
    have h1 : lenF (Dk.keepF keep (0 + k) f) ≤ lenF f := by
      unfold lenF Dk.keepF
      simp only [List.length_take]
      omega
    have h2 := mapIdx_sum keep L (k + 1)
    have h3 : (fun i => Dk.keepF keep (i + 1 + k)) = fun i => Dk.keepF keep (i + (k + 1)) := by funext i; congr 1; omega
    rw [h3]
    omega
theorem keepF_key (keep : List Int) (i : Nat) (f : Fl) : (Dk.keepF keep i f).key = f.key := rfl
theorem DkI.crash (h : DkI D M N) (keep : List Int) : DkI (D.crash keep).2 M N := by
  unfold Dk.crash
  split
  · have hrise : KRise Fl.key (D.F.mapIdx (Dk.keepF keep)) := by
      unfold KRise
      have := h.rise
      unfold KRise at this
      rw [List.pairwise_iff_getElem] at this ⊢
      intro i j hi hj hij
      simp only [List.getElem_mapIdx, keepF_key]
      exact this i j (by simpa using hi) (by simpa using hj) hij
    refine ⟨hrise, fun f hf => ?_, fun f hf => ?_, ?_, h.room, by show (D.F.mapIdx _).length ≤ M; rw [List.length_mapIdx]; exact h.len, by simp [Dk.free], h.steps⟩
    · obtain ⟨i, hi, rfl⟩ := List.mem_mapIdx.1 hf
      have h1 := h.syn D.F[i] (List.getElem_mem hi)
      have h2 := keepN_le keep i D.F[i]
      unfold Dk.keepF
      simp only [List.length_take]
      omega
    · obtain ⟨i, hi, rfl⟩ := List.mem_mapIdx.1 hf
      exact h.nam D.F[i] (List.getElem_mem hi)
    · show Dk.bytes (D.F.mapIdx (Dk.keepF keep)) ≤ D.room
      have := mapIdx_sum keep D.F 0
      have h1 := h.fits
      rw [bytes_sum] at *
      simp only [Nat.add_zero] at this
      have e : (fun i => Dk.keepF keep i) = Dk.keepF keep := rfl
      rw [e] at this
      omega
  · exact h
theorem DkI.turn (h : DkI D M N) (s : ByteArray) (k : Int) (c : UInt8) : DkI (D.turn s k c).2 M N := by
  unfold Dk.turn
  split
  · split
    · exact h
    · rename_i f hf
      split
      · obtain ⟨h1, h2, h3⟩ := get_of hf
        refine h.putAt (x := Dk.turned f k.toNat c) (f := f) h3 (by unfold Dk.turned; simp only [List.length_modify]; exact h.syn f h1) (h.nam f h1) ?_
        have e : lenF (Dk.turned f k.toNat c) = lenF f := by unfold lenF Dk.turned; simp only [List.length_modify]
        rw [e]
        have := h.fits
        omega
      · exact h
  · exact h
end
end Go.Proofs.Ytgcemddobcjpnaa
