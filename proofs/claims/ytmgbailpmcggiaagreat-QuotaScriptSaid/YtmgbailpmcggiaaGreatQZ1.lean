/- Texts of one proof, laid together: Lib, Open, Lib2, Sep, Amt, All, Two, AddP, Fits. No condition of ours. -/
import Derived.Test.YtmgbailpmcggiaaGreatRows
import Derived.WalkKit
import Derived.WalkSpells
import Derived.WalkLawsBesides
import Derived.Deep.QuietTactic
import Derived.Deep.AppendSrc
import Derived.BigQuiet
import Derived.Lib.Hide
import Derived.ProofKit
import Derived.OpenShut
import Derived.ShutString
import Derived.ChangeOld
import Derived.SizedLaws
import Derived.Deep.RegionLaw
import Derived.Carry
import Derived.Laws.Rows
import Derived.Deep.RegionWith
import Derived.Deep.RegionHeld3
import Derived.Outline
import Derived.Deep.DeepCutAuto
namespace Go.Proofs.YtmgbailpmcggiaaGreat
open Go.RowKit

theorem below_drewN {n : Nat} {w : World} (k : Nat) : Below n w (w.drewN k) := ⟨rfl, rfl, rfl, Nat.le_refl _, fun _ _ => rfl⟩
theorem Below.drewN' {n : Nat} {a w : World} (h : Below n a w) (k : Nat) : Below n a (w.drewN k) := h.trans (below_drewN k)

theorem ret_bool {a b : Bool} (h : a = b) : Ending.returned (.bool a) = .returned (.bool b) := by rw [h]
theorem ret_int {k : IntKind} {a b : Int} (h : a = b) : Ending.returned (.int k a) = .returned (.int k b) := by rw [h]

/-- a slice value of n elements of so many cells each: the cells read so -/
def Row (w : World) (v : Value) (size n : Nat) (cells : List Value) : Prop :=
  ∃ p c, v = .slice p n c ∧ n ≤ c ∧ c ≤ maxLen ∧ cells.length = n * size ∧ (∀ u ∈ cells, u.oneCell' = true) ∧ (p = none → n = 0 ∧ c = 0) ∧
    (cells = [] ∨ ∃ b o, p = some ⟨b, o, none⟩ ∧ ∀ j u, cells[j]? = some u → w.cell? ⟨b, o + j, none⟩ = some u)

theorem Row.below {w w' : World} {v : Value} {size n : Nat} {cells : List Value} (h : Row w v size n cells) (hb : Below w.heap.size w w') : Row w' v size n cells := by
  obtain ⟨p, c, hv, h1, h2, h3, h4, h5, h6⟩ := h
  refine ⟨p, c, hv, h1, h2, h3, h4, h5, ?_⟩
  rcases h6 with h6 | ⟨b, o, hp, ha⟩
  · exact .inl h6
  · refine .inr ⟨b, o, hp, fun j u hj => ?_⟩
    have := ha j u hj
    rw [hb.cell (p := ⟨b, o + j, none⟩) (World.block_lt_of_cell? w _ this)]
    exact this

theorem row_nil (w : World) (size : Nat) : Row w (.slice none 0 0) size 0 [] := ⟨none, 0, rfl, Nat.le_refl _, by simp [maxLen], by simp, by simp, by simp, .inl rfl⟩

theorem add_off (b o j : Nat) : (⟨b, o, none⟩ : Addr).add j = ⟨b, o + j, none⟩ := by
  unfold Addr.add; split <;> simp_all

theorem Row.src {P : Program} {w : World} {t e : TypeId} (ht : P.underlying t = some (.slice e)) {v : Value} {size n : Nat} {cells : List Value} (h : Row w v size n cells) : Src P size t v n cells w := by
  obtain ⟨p, c, rfl, h1, h2, h3, h4, h5, h6⟩ := h
  cases p with
  | none =>
    obtain ⟨rfl, rfl⟩ := h5 rfl
    have : cells = [] := List.eq_nil_of_length_eq_zero (by simpa using h3)
    subst this
    exact Src.ofNil w ht 0
  | some a =>
    refine Src.ofSlice w ht a n c cells h3 (fun j u hj => ?_) h4
    rcases h6 with h6 | ⟨b, o, hp, ha⟩
    · subst h6; simp at hj
    · obtain rfl : a = ⟨b, o, none⟩ := by simpa using hp
      rw [add_off]
      exact ha j u hj

/-- what the call owns reads -/
theorem row_of_owns {w : World} {base : Nat} {e : TypeId} {size : Nat} {v : Value} {n : Nat} {xs : List Value} (h : w.ownsRow base e size v n xs) (h1 : ∀ u ∈ xs, u.oneCell' = true) : Row w v size n xs := by
  obtain ⟨hl, h2⟩ := h
  rcases h2 with ⟨rfl, rfl⟩ | ⟨g, cap, cur, rfl, hg, hh, hn, hc, hs, ht⟩
  · have : xs = [] := List.eq_nil_of_length_eq_zero (by simpa using hl)
    subst this
    exact row_nil w size
  · refine ⟨some ⟨g, 0, none⟩, cap, rfl, hn, hc, hl, h1, by simp, .inr ⟨g, 0, rfl, fun j u hj => ?_⟩⟩
    have := World.ownsRow.cells (w := w) (base := base) (e := e) (size := size) (v := .slice (some ⟨g, 0, none⟩) n cap) (n := n) (xs := xs) ⟨hl, .inr ⟨g, cap, cur, rfl, hg, hh, hn, hc, hs, ht⟩⟩ (g := g) rfl j u hj
    rw [add_off] at this
    exact this

theorem growBy_le (need : Nat) : ∀ (r c : Nat), c < need + need / 4 + 256 → Builtin.growBy need r c ≤ need + need / 4 + 256
  | 0, c, h => by unfold Builtin.growBy; omega
  | r + 1, c, h => by
    unfold Builtin.growBy
    split
    · omega
    · exact growBy_le need r _ (by omega)

theorem nsc_le {need old : Nat} (h : old < need) : Builtin.nextslicecap need old ≤ need + need / 4 + 256 := by
  unfold Builtin.nextslicecap
  split
  · omega
  · split
    · omega
    · exact growBy_le need 4 old (by omega)

section
variable {P : Program} (w : World)

/-- 'append' onto what the call owns, of whatever source -/
theorem run_app (base : Nat) (t tx ty e : TypeId) (i : TypeInfo) (z : Value) (size bytes : Nat) (ht : P.underlying t = some (.slice e)) (hi : P.info? e = some i) (hz : i.zero = some z)
    (hsize : i.size = size) (hby : i.bytes = bytes) (hzs : z.cells.size = size)
    (v : Value) (n : Nat) (xs : List Value) (hown : w.ownsRow base e size v n xs)
    (x : Value) (m : Nat) (news : List Value) (hs : Src P size tx x m news w)
    (h63 : n + m ≤ maxLen) (hbytes : (n + m + (n + m) / 4 + 256) * bytes ≤ 281474976710656) (hbase : base ≤ w.heap.size) :
    ∃ v' w', (Builtin.append_ #[t, tx] ty #[v, x]).run P w = .ok v' w' ∧ w'.ownsRow base e size v' (n + m) (xs ++ news) ∧ w.grownBy w' v.ownBlock ∧
      (v' = .slice none 0 0 ↔ v = .slice none 0 0 ∧ m = 0) ∧ (∀ k, v'.ownBlock = some k → v.ownBlock = some k ∨ w.heap.size ≤ k) := by
  subst hsize
  subst hby
  have hsmall : ((n + m : Nat) : Int) ≤ 9223372036854775807 := by simp only [maxLen] at h63; omega
  have hl := hs.newsLen
  have hlen : (xs ++ news).length = (n + m) * i.size := by rw [List.length_append, hown.1, hl, Nat.add_mul]
  have hfit : ∀ old, old < n + m → Builtin.nextslicecap (n + m) old * i.bytes ≤ 281474976710656 := fun old h =>
    Nat.le_trans (Nat.mul_le_mul_right _ (nsc_le h)) hbytes
  have grown : ∀ (old : Nat), old < n + m → ∀ (row : Option Nat),
      (w.drew.alloc (.cells ((xs ++ news).toArray ++ Builtin.zeroCells z.cells (grownCap w (n + m) old e - (n + m))) e)).ownsRow base e i.size
        (.slice (some ⟨w.heap.size, 0, none⟩) (n + m) (grownCap w (n + m) old e)) (n + m) (xs ++ news) ∧
      w.grownBy (w.drew.alloc (.cells ((xs ++ news).toArray ++ Builtin.zeroCells z.cells (grownCap w (n + m) old e - (n + m))) e)) row := by
    intro old ho row
    have hge := grownCap_ge w (n + m) old e
    have hcm : grownCap w (n + m) old e ≤ maxLen := grownCap_le_maxLen w (n + m) old e h63
    refine ⟨⟨hlen, .inr ⟨w.heap.size, _, _, rfl, hbase, heap_alloc_new w.drew _, hge, hcm, ?_, ?_⟩⟩, ⟨rfl, rfl, rfl, by simp, fun k hk _ => Below.heap_alloc w.drew _ k hk⟩⟩
    · simp only [Array.size_append, List.size_toArray, size_zeroCells, hzs, hlen, ← Nat.add_mul]
      congr 1
      omega
    · simp only [Array.toList_append]
      rw [← hlen]
      exact List.take_left
  rcases hown.2 with ⟨rfl, rfl⟩ | ⟨g, cap, cur, rfl, hbg, hg, hnc, hcm, hcs, htake⟩
  · have hx : xs = [] := List.eq_nil_of_length_eq_zero (by simpa using hown.1)
    subst hx
    by_cases hm : m = 0
    · subst hm
      have hn : news = [] := List.eq_nil_of_length_eq_zero (by simpa using hl)
      subst hn
      refine ⟨.slice none 0 0, w, ?_, World.ownsRow_nil w base e i.size, ⟨rfl, rfl, rfl, Nat.le_refl _, fun _ _ _ => rfl⟩, by simp, fun _ h => .inl h⟩
      rcases hs.kind with ⟨e', hk⟩ | hk <;> simp [Builtin.append_, run_underlying ht, run_underlying hk, sizeOf, typeInfo, hi, hs.len, hs.cells]
    · have hr := run_append_grow_src (P := P) w t tx ty e i z ht hi hz none 0 0 [] (by simp [Builtin.firstCells]) x m news hs (by omega) (by simpa using hsmall) (hfit 0 (by omega))
      have hgr := grown 0 (by omega) (Value.ownBlock (.slice none 0 0))
      exact ⟨_, _, hr, hgr.1, hgr.2, by simp [hm], fun k hk => .inr (by simp [Value.ownBlock] at hk; omega)⟩
  · by_cases hroom : n + m ≤ cap
    · have hfitc : n * i.size + news.length ≤ cur.size := by rw [hl, hcs, ← Nat.add_mul]; exact Nat.mul_le_mul_right _ hroom
      have hst := run_storeCells_at P g (n * i.size) e news 0 cur w hg (by simpa using hfitc) hs.one
      simp only [Nat.add_zero] at hst
      have hr : (Builtin.append_ #[t, tx] ty #[.slice (some ⟨g, 0, none⟩) n cap, x]).run P w =
          .ok (.slice (some ⟨g, 0, none⟩) (n + m) cap) (w.setRow g (cur.toList.take (n * i.size) ++ news ++ cur.toList.drop (n * i.size + news.length)).toArray) := by
        rcases hs.kind with ⟨e', hk⟩ | hk <;> simp [Builtin.append_, run_underlying ht, run_underlying hk, sizeOf, typeInfo, hi, hs.len, hroom, hs.cells, Addr.add_lit, hst]
      refine ⟨_, _, hr, ⟨hlen, .inr ⟨g, cap, _, rfl, hbg, setRow_heap w g cur _ e _ hg, hroom, hcm, ?_, ?_⟩⟩, ⟨rfl, rfl, rfl, by simp, fun k _ hk => setRow_other w g k _ (fun e => hk (by simp [Value.ownBlock, e]))⟩, by simp, fun k hk => .inl (by simpa [Value.ownBlock] using hk)⟩
      · simp only [List.size_toArray, List.length_append, List.length_take, List.length_drop, Array.length_toList]
        omega
      · rw [htake, ← hlen]
        exact List.take_left
    · have holds : ∀ j u, xs[j]? = some u → w.drew.cell? ((⟨g, 0, none⟩ : Addr).add j) = some u := hown.cells (g := g) rfl
      have hr := run_append_grow_src (P := P) w t tx ty e i z ht hi hz (some ⟨g, 0, none⟩) n cap xs (run_firstCells_some w.drew i.size n ⟨g, 0, none⟩ n cap xs hown.1 holds) x m news hs (by omega) hsmall (hfit cap (by omega))
      have hgr := grown cap (by omega) (Value.ownBlock (.slice (some ⟨g, 0, none⟩) n cap))
      exact ⟨_, _, hr, hgr.1, hgr.2, by simp, fun k hk => .inr (by simp [Value.ownBlock] at hk; omega)⟩

/-- the operation, for the walk -/
theorem wpList_app {ops : Array Oper} {rest : List Oper} {o : Oper} {a : Act} {Q : Exit → Act → World → Prop} (hgd : o.guard = none) (s x : Operand) (t tx : TypeId)
    (ho : o.op = .call { callee := .builtin .append, args := #[s, x], argTypes := #[t, tx] })
    (base : Nat) (e : TypeId) (i : TypeInfo) (z : Value) (size bytes : Nat) (ht : P.underlying t = some (.slice e)) (hi : P.info? e = some i) (hz : i.zero = some z)
    (hsize : i.size = size) (hby : i.bytes = bytes) (hzs : z.cells.size = size)
    (v : Value) (n : Nat) (xs : List Value) (hv : a.eval s = v) (hown : w.ownsRow base e size v n xs)
    (xv : Value) (m : Nat) (news : List Value) (hx : a.eval x = xv) (hs : Src P size tx xv m news w)
    (h63 : n + m ≤ maxLen) (hbytes : (n + m + (n + m) / 4 + 256) * bytes ≤ 281474976710656) (hbase : base ≤ w.heap.size)
    (h : ∀ v' w', w'.ownsRow base e size v' (n + m) (xs ++ news) → w.grownBy w' v.ownBlock → (v' = .slice none 0 0 ↔ v = .slice none 0 0 ∧ m = 0) → wpList P ops Q rest (a.put o.dst v') w') : wpList P ops Q (o :: rest) a w := by
  refine wpList_plain hgd fun K hK => ?_
  obtain ⟨v', w', hr, h2, h3, h4, -⟩ := run_app (P := P) w base t tx o.type e i z size bytes ht hi hz hsize hby hzs v n xs hown xv m news hs h63 hbytes hbase
  unfold Oper.wp execOp
  simp only [ho, resolve, invoke, builtin, Sem.run_bind, Sem.run_pure, Result.andThen_ok, List.map_toArray, List.map_cons, List.map_nil, hv, hx, hr]
  exact hK _ _ (h v' w' h2 h3 h4)
end

/-! ### bytes -/

/-- a byte in a cell -/
abbrev B (c : UInt8) : Value := .int .u8 (c.toNat : Int)

/-- the slice value reads as these bytes -/
def Rd (w : World) (v : Value) (l : List UInt8) : Prop := Row w v 1 l.length (l.map B)

/-- the cells from (b, o) on read as these bytes -/
def At (w : World) (b o : Nat) (l : List UInt8) : Prop := ∀ i (h : i < l.length), w.cell? ⟨b, o + i, none⟩ = some (.int .u8 ((l[i]).toNat : Int))

theorem bytes_one (l : List UInt8) : ∀ u ∈ l.map B, u.oneCell' = true := by
  intro u hu
  obtain ⟨c, _, rfl⟩ := List.mem_map.1 hu
  rfl

theorem Rd.parts {w : World} {v : Value} {l : List UInt8} (h : Rd w v l) :
    ∃ p c, v = .slice p l.length c ∧ l.length ≤ c ∧ c ≤ maxLen ∧ (l = [] ∨ ∃ b o, p = some ⟨b, o, none⟩ ∧ At w b o l) := by
  obtain ⟨p, c, hv, h1, h2, h3, h4, h5, h6⟩ := h
  refine ⟨p, c, hv, h1, h2, ?_⟩
  rcases h6 with h6 | ⟨b, o, hp, ha⟩
  · exact .inl (by simpa using h6)
  · exact .inr ⟨b, o, hp, fun i hi => ha i _ (by simp [hi])⟩

theorem Rd.below {w w' : World} {v : Value} {l : List UInt8} (h : Rd w v l) (hb : Below w.heap.size w w') : Rd w' v l := Row.below h hb

theorem rd_nil (w : World) : Rd w (.slice none 0 0) [] := row_nil w 1

/-- bytes of the call's own, from block 'base' on -/
def Fresh (base : Nat) (w : World) (v : Value) (l : List UInt8) : Prop := w.ownsRow base 5 1 v l.length (l.map B)

theorem Fresh.rd {base : Nat} {w : World} {v : Value} {l : List UInt8} (h : Fresh base w v l) : Rd w v l := row_of_owns h (bytes_one l)

theorem Fresh.mono {base base' : Nat} {w : World} {v : Value} {l : List UInt8} (h : Fresh base w v l) (hb : base' ≤ base) : Fresh base' w v l := by
  obtain ⟨h1, h2⟩ := h
  refine ⟨h1, ?_⟩
  rcases h2 with h2 | ⟨g, cap, cur, hv, hg, r⟩
  · exact .inl h2
  · exact .inr ⟨g, cap, cur, hv, by omega, r⟩

/-- what was made before stays where nothing below is turned -/
theorem Fresh.below {base : Nat} {w w' : World} {v : Value} {l : List UInt8} (h : Fresh base w v l) (hb : Below w.heap.size w w') : Fresh base w' v l := by
  obtain ⟨h1, h2⟩ := h
  refine ⟨h1, ?_⟩
  rcases h2 with h2 | ⟨g, cap, cur, hv, hg, hh, r⟩
  · exact .inl h2
  · exact .inr ⟨g, cap, cur, hv, hg, by rw [hb.block g (Array.getElem?_eq_some_iff.1 hh).1]; exact hh, r⟩

/-- behind an append onto what the call owns, nothing below the base has turned -/
theorem below_grown {base : Nat} {w0 w w' : World} {e : TypeId} {size n : Nat} {v : Value} {xs : List Value} (hb : Below base w0 w) (hbase : base ≤ w.heap.size) (ho : w.ownsRow base e size v n xs) (hg : w.grownBy w' v.ownBlock) : Below base w0 w' :=
  hb.grown hg hbase fun k hk => (ho.lt k hk).1

theorem Tryz.uinfo : (Tryz.prog.info? 5).map (fun i => (i.zero, i.size, i.bytes)) = some (some (.int .u8 0), 1, 1) := by kernel_rfl

theorem src_one {P : Program} {t e e' : TypeId} (ht : P.underlying t = some (.slice e)) (w : World) (u : Value) (hu : u.oneCell' = true) :
    Src P 1 t (.slice (some ⟨w.heap.size, 0, none⟩) 1 1) 1 [u] (w.alloc (.cells #[u] e')) := by
  refine Src.ofSlice _ ht _ 1 1 [u] rfl (fun j x hj => ?_) (by simpa using hu)
  rw [add_off]
  match j, hj with
  | 0, hj =>
    simp at hj
    subst hj
    rw [cell_of_row _ w.heap.size 0 #[u] e' (0, 0) (heap_alloc_new w _)]
    rfl
  | j + 1, hj => simp at hj

theorem Fresh.push {base : Nat} {w : World} {v : Value} {l : List UInt8} {n : Nat} {c : UInt8} {u : Value} (h : w.ownsRow base 5 1 v (n + 1) (l.map B ++ [u])) (hn : l.length = n) (hu : u = B c) : Fresh base w v (l ++ [c]) := by
  subst hu hn
  unfold Fresh
  simpa using h

theorem Fresh.app {base : Nat} {w : World} {v : Value} {l r : List UInt8} {n m : Nat} {us : List Value} (h : w.ownsRow base 5 1 v (n + m) (l.map B ++ us)) (hn : l.length = n) (hm : r.length = m) (hu : us = r.map B) : Fresh base w v (l ++ r) := by
  subst hu hn hm
  unfold Fresh
  simpa using h

theorem Below.cellsAlloc {n : Nat} {a w : World} (h : Below n a w) (hB : n ≤ w.heap.size) (c : Array Value) (t : TypeId) : Below n a (w.alloc (.cells c t)) := h.alloc hB _

/-! ### a block known whole -/

def Blk (w : World) (g : Nat) (cs : List Value) (t : TypeId) : Prop := w.heap[g]? = some (.cells cs.toArray t (0, 0))

theorem Blk.lt {w : World} {g : Nat} {cs : List Value} {t : TypeId} (h : Blk w g cs t) : g < w.heap.size := lt_of_block h
theorem Blk.cell {w : World} {g : Nat} {cs : List Value} {t : TypeId} (h : Blk w g cs t) {j : Nat} {u : Value} (hj : cs[j]? = some u) : w.cell? ⟨g, j, none⟩ = some u := by
  unfold Blk at h
  rw [cell_of_row w g j cs.toArray t (0, 0) h]
  simpa using hj
theorem Blk.free {w : World} {g : Nat} {cs : List Value} {t : TypeId} (h : Blk w g cs t) (j : Nat) : w.frozen? ⟨g, j, none⟩ = false := by
  unfold Blk at h
  exact frozen_of_row w g j cs.toArray t h
theorem Blk.set {w : World} {g : Nat} {cs : List Value} {t : TypeId} (h : Blk w g cs t) (j : Nat) (u : Value) : Blk (w.setCell ⟨g, j, none⟩ u) g (cs.set j u) t := by
  unfold Blk at *
  rw [heap_setCell_same w g j cs.toArray t u h]
  simp
theorem Blk.other {w : World} {g : Nat} {cs : List Value} {t : TypeId} (h : Blk w g cs t) {a : Addr} (ha : g ≠ a.block) (u : Value) : Blk (w.setCell a u) g cs t := by
  unfold Blk at *
  rw [Below.heap_setCell _ _ _ _ ha]
  exact h
theorem Blk.alloc {w : World} {g : Nat} {cs : List Value} {t : TypeId} (h : Blk w g cs t) (o : Obj) : Blk (w.alloc o) g cs t := by
  have := h.lt
  unfold Blk at *
  rw [Below.heap_alloc _ _ _ this]
  exact h
theorem Blk.made (w : World) (cs : List Value) (t : TypeId) : Blk (w.alloc (.cells cs.toArray t)) w.heap.size cs t := heap_alloc_new w _
theorem Blk.below {w w' : World} {g n : Nat} {cs : List Value} {t : TypeId} (h : Blk w g cs t) (hb : Below n w w') (hn : g < n) : Blk w' g cs t := by
  unfold Blk at *
  rw [hb.block g hn]
  exact h
theorem Blk.kept {w w' : World} {g : Nat} {cs : List Value} {t : TypeId} (h : Blk w g cs t) (hb : Below w.heap.size w w') : Blk w' g cs t := h.below hb h.lt

/-! ### where one block alone may turn -/

theorem Row.grown {w w' : World} {v : Value} {size n : Nat} {cells : List Value} {row : Option Nat} (h : Row w v size n cells) (hg : w.grownBy w' row) (hr : v.ownBlock = none ∨ v.ownBlock ≠ row) : Row w' v size n cells := by
  obtain ⟨p, c, hv, h1, h2, h3, h4, h5, h6⟩ := h
  refine ⟨p, c, hv, h1, h2, h3, h4, h5, ?_⟩
  rcases h6 with h6 | ⟨b, o, hp, ha⟩
  · exact .inl h6
  · refine .inr ⟨b, o, hp, fun j u hj => ?_⟩
    have := ha j u hj
    subst hv hp
    rw [World.cell?_of_block (w := w) (w' := w') (a := ⟨b, o + j, none⟩) (hg.block b (World.block_lt_of_cell? w _ this) (by simpa [Value.ownBlock] using hr))]
    exact this

theorem Rd.grown {w w' : World} {v : Value} {l : List UInt8} {row : Option Nat} (h : Rd w v l) (hg : w.grownBy w' row) (hr : v.ownBlock = none ∨ v.ownBlock ≠ row) : Rd w' v l := Row.grown h hg hr

theorem Blk.grown {w w' : World} {g : Nat} {cs : List Value} {t : TypeId} {row : Option Nat} (h : Blk w g cs t) (hg : w.grownBy w' row) (hr : some g ≠ row) : Blk w' g cs t := by
  have := h.lt
  unfold Blk at *
  rw [hg.block g this hr]
  exact h

theorem grown_drewN {w w' : World} {row : Option Nat} (h : w.grownBy w' row) (n : Nat) : w.grownBy (w'.drewN n) row := ⟨h.os, h.tape, h.output, h.size, h.block⟩
theorem grown_refl (w : World) (row : Option Nat) : w.grownBy w row := ⟨rfl, rfl, rfl, Nat.le_refl _, fun _ _ _ => rfl⟩
theorem grown_set {w w' : World} {b : Nat} (h : w.grownBy w' (some b)) (j : Nat) (u : Value) : w.grownBy (w'.setCell ⟨b, j, none⟩ u) (some b) :=
  ⟨h.os, h.tape, h.output, by simpa using h.size, fun k hk hr => by rw [Below.heap_setCell _ _ _ _ (by simpa using hr)]; exact h.block k hk hr⟩
theorem grown_trans {a w w' : World} {row : Option Nat} (h : a.grownBy w row) (k : w.grownBy w' row) : a.grownBy w' row :=
  ⟨k.os.trans h.os, k.tape.trans h.tape, k.output.trans h.output, Nat.le_trans h.size k.size, fun i hi hr => (k.block i (Nat.lt_of_lt_of_le hi h.size) hr).trans (h.block i hi hr)⟩
theorem grown_below {n b : Nat} {w w' : World} (hg : w.grownBy w' (some b)) (hb : n ≤ b) (hw : n ≤ w.heap.size) : Below n w w' :=
  ⟨hg.os, hg.tape, hg.output, hg.size, fun k hk => hg.block k (by omega) (by simp; omega)⟩
theorem below_grownBy {w w' : World} {row : Option Nat} (h : Below w.heap.size w w') : w.grownBy w' row := ⟨h.os, h.tape, h.output, h.size, fun k hk _ => h.block k hk⟩

/-- where the rest of a slice begins -/
def cutP (p : Option Addr) (c k : Nat) : Option Addr := if c = k then p else Option.map (fun x => x.add k) p

/-- the rest of a slice from k on -/
theorem rd_cut {w : World} {p : Option Addr} {n c k : Nat} {l : List UInt8} (h : Rd w (.slice p n c) l) (hk : k ≤ l.length) : Rd w (.slice (cutP p c k) (l.length - k) (c - k)) (l.drop k) := by
  obtain ⟨p0, c0, hv, h1, h2, h3, h4, h5, h6⟩ := h
  simp only [Value.slice.injEq] at hv
  obtain ⟨rfl, rfl, rfl⟩ := hv
  refine ⟨cutP p c k, c - k, by simp, by simp; omega, Nat.le_trans (Nat.sub_le _ _) h2, by simp, bytes_one _, ?_, ?_⟩
  · intro hpn
    have hp : p = none := by unfold cutP at hpn; split at hpn <;> simp_all
    have := h5 hp
    simp; omega
  · by_cases hlt : k < l.length
    · rcases h6 with h6 | ⟨b, o, rfl, ha⟩
      · have : l = [] := by simpa using h6
        subst this; simp at hlt
      · refine .inr ⟨b, o + k, by unfold cutP; rw [if_neg (by omega)]; simp [add_off], fun j u hj => ?_⟩
        rw [Nat.add_assoc]
        refine ha (k + j) u ?_
        simpa using hj
    · exact .inl (by simp; omega)

/-- 'string(b)' -/
theorem run_str {P : Program} {w : World} {v : Value} {l : List UInt8} {t e : TypeId} (h : Rd w v l) (ht : P.underlying t = some (.slice e)) (he : P.underlying e = some (.int .u8)) (dst : TypeId) (hd : P.underlying dst = some .string) :
    (convert t dst v).run P w = .ok (.string ⟨l.toArray⟩) w := by
  obtain ⟨p, c, rfl, hc, hm, ha⟩ := h.parts
  by_cases hl : l = []
  · subst hl
    cases p with
    | none => exact run_convert_bytes_nil w t e ht he 0 c dst hd
    | some a =>
      rw [run_convert_bytes_string w t dst e _ _ c ht he hd, run_bytesToString w a _ c [] (by simp [loadCells, loadCellsFrom])]
      rfl
  · obtain ⟨b, o, rfl, hat⟩ := ha.resolve_left hl
    have := run_convert_bytes_arg (P := P) w t e ht he b o l.length c (l.map fun c => (c.toNat : Int)) (by simp) (fun i hi => by rw [hat i hi]; simp [hi]) dst hd
    rw [this]
    congr 2
    unfold strOfNums
    congr 2
    rw [List.map_map]
    conv => rhs; rw [← List.map_id l]
    refine List.map_congr_left fun c _ => ?_
    simp

/-- the piece of a slice from j to k -/
theorem rd_piece {w : World} {p : Option Addr} {n c j k : Nat} {l : List UInt8} (h : Rd w (.slice p n c) l) (hj : j + k ≤ l.length) : Rd w (.slice (cutP p c j) k (c - j)) ((l.drop j).take k) := by
  obtain ⟨p1, c1, hv, h1, h2, h3, h4, h5, h6⟩ := rd_cut h (k := j) (by omega)
  simp only [Value.slice.injEq] at hv
  obtain ⟨rfl, hn, rfl⟩ := hv
  have hlen : ((l.drop j).take k).length = k := by simp; omega
  refine ⟨cutP p c j, c - j, by rw [hlen], by rw [hlen]; simp at h1; omega, h2, by simp, bytes_one _, ?_, ?_⟩
  · intro hp
    have := h5 hp
    rw [hlen]; simp at this; omega
  · rcases h6 with h6 | ⟨b, o, hp, ha⟩
    · left
      have : l.drop j = [] := by simpa using h6
      rw [this]; simp
    · refine .inr ⟨b, o, hp, fun i u hi => ha i u ?_⟩
      rw [List.map_take, List.getElem?_take] at hi
      split at hi
      · exact hi
      · simp at hi

theorem take_snoc' {α : Type} (l : List α) (k : Nat) (h : k < l.length) : l.take (k + 1) = l.take k ++ [l[k]] := by
  rw [List.take_succ_eq_append_getElem h]

end Go.Proofs.YtmgbailpmcggiaaGreat
namespace Go.Proofs.YtmgbailpmcggiaaGreat
open Go.ChangeShapes Go.WideShapes Go.ChangeAt Go.RowKit
open Go.ChangeMaps (open_string shut_string)

theorem Tryz.ownKnobs : ownKnob Tryz.prog.godebug = none := by kernel_rfl
theorem Tryz.laidOut : laidOutB Tryz.prog = true := by kernel_rfl

/-- a slice of integers that came in: what it reads as, and that it is no greater than the form's reach -/
theorem open_nums {H : Type} {enc : TypeId × Value → H} {P : Program} {W : World} {t e : TypeId} {k : IntKind} {v : Value} {d : DataW H} {ps : List MemPlace} {r : Reach} {b0 : Nat} {ts : List TypeId} {ds : List (DataW H)} {j : Nat}
    (ht : P.underlying t = some (.slice e)) (he : P.underlying e = some (.int k)) (hc : P.cellsOf e = 1) (hval : Value.okWide P W r b0 t v) (h : DataW.Trod enc P W 0 (fun _ => true) true t v d ps)
    (hsz : (DataW.weightsEach P ts ds).all (· ≤ reachBytes) = true) (hj : ts[j]? = some t) (hd : ds[j]? = some d) :
    ∃ zs : List Int, Row W v 1 zs.length (zs.map (Value.int k)) ∧ (∀ n ∈ zs, (Lit.int k n).wf = true) ∧ zs.length * P.bytesOf e ≤ 140737488351232 := by
  obtain ⟨a0, len0, cap0, rfl⟩ := okWide_slice ht hval
  obtain ⟨fuel, hf⟩ := h
  rcases open_ints ht he hc hf with ⟨hcs, hx⟩ | ⟨x, l, c, zs, hcs, _, hl, hm, hz, hx, hcell, hwz⟩
  · simp [Value.cells] at hcs
    obtain ⟨rfl, rfl, rfl⟩ := hcs
    exact ⟨[], row_nil W 1, by simp, by simp⟩
  · simp [Value.cells] at hcs
    obtain ⟨rfl, rfl, rfl⟩ := hcs
    simp only [if_true] at hz
    have htl : (zs.take len0).length = len0 := by simp; omega
    refine ⟨zs.take len0, ⟨some x, cap0, by rw [htl], by rw [htl]; exact hl, hm, by simp, ?_, by simp, ?_⟩, fun n hn => hwz n (List.mem_of_mem_take hn), ?_⟩
    · intro u hu
      obtain ⟨n, _, rfl⟩ := List.mem_map.1 hu
      rfl
    · by_cases h0 : len0 = 0
      · left; subst h0; simp
      · right
        have hc0 := hcell 0 (by omega)
        have hsp : x.spot = none := by
          have e0 : x.add 0 = x := by simp [Addr.add]
          rw [e0] at hc0
          unfold World.cell? at hc0
          split at hc0
          · split at hc0
            · simp at hc0
            · rename_i h; simpa using h
          · simp at hc0
        obtain ⟨b, o, sp⟩ := x
        simp only at hsp
        subst hsp
        refine ⟨b, o, rfl, fun i u hi => ?_⟩
        rw [← add_off]
        have hi2 : i < zs.length := by
          have := (List.getElem?_eq_some_iff.1 hi).1
          simp at this; omega
        rw [hcell i hi2]
        have hi1 : i < len0 := by
          have := (List.getElem?_eq_some_iff.1 hi).1
          simp at this; omega
        rw [List.getElem?_map, List.getElem?_take, if_pos hi1, List.getElem?_eq_getElem hi2] at hi
        simp at hi
        rw [← hi]
        simp [List.getD, hi2]
    · simp only [Prod.mk.injEq] at hx
      have hd' := hx.1
      subst hd'
      have := sized_slice hsz hj hd ht
      rw [htl]
      have h2 : (lits (H := H) k (zs.take len0)).length + (lits (H := H) k (zs.drop len0)).length = cap0 := by
        simp [lits]; omega
      rw [h2] at this
      have h3 : len0 * P.bytesOf e ≤ cap0 * P.bytesOf e := Nat.mul_le_mul_right _ hl
      have h4 : reachBytes = 140737488351232 := by decide
      omega

theorem u8_wf {n : Int} (h : (Lit.int .u8 n).wf = true) : 0 ≤ n ∧ n ≤ 255 := by
  simpa [Lit.wf, IntKind.min, IntKind.max, IntKind.signed, IntKind.bits] using h
theorem i64_wf {n : Int} (h : (Lit.int .i64 n).wf = true) : -9223372036854775808 ≤ n ∧ n ≤ 9223372036854775807 := by
  simpa [Lit.wf, IntKind.min, IntKind.max, IntKind.signed, IntKind.bits] using h
theorem u64_wf {n : Int} (h : (Lit.int .u64 n).wf = true) : 0 ≤ n ∧ n ≤ 18446744073709551615 := by
  simpa [Lit.wf, IntKind.min, IntKind.max, IntKind.signed, IntKind.bits] using h

/-- a slice of bytes that came in -/
theorem open_bytes {H : Type} {enc : TypeId × Value → H} {P : Program} {W : World} {t e : TypeId} {v : Value} {d : DataW H} {ps : List MemPlace} {r : Reach} {b0 : Nat} {ts : List TypeId} {ds : List (DataW H)} {j : Nat}
    (ht : P.underlying t = some (.slice e)) (he : P.underlying e = some (.int .u8)) (hc : P.cellsOf e = 1) (hb : P.bytesOf e = 1) (hval : Value.okWide P W r b0 t v) (h : DataW.Trod enc P W 0 (fun _ => true) true t v d ps)
    (hsz : (DataW.weightsEach P ts ds).all (· ≤ reachBytes) = true) (hj : ts[j]? = some t) (hd : ds[j]? = some d) :
    ∃ l : List UInt8, Rd W v l ∧ l.length ≤ 140737488351232 := by
  obtain ⟨zs, hr, hwf, hl⟩ := open_nums ht he hc hval h hsz hj hd
  refine ⟨zs.map fun n => UInt8.ofNat n.toNat, ?_, by simpa [hb] using hl⟩
  have e : (zs.map fun n => UInt8.ofNat n.toNat).map B = zs.map (Value.int .u8) := by
    rw [List.map_map]
    refine List.map_congr_left fun n hn => ?_
    have := u8_wf (hwf n hn)
    simp
    omega
  unfold Rd
  rw [e, List.length_map]
  exact hr

theorem open_str {H : Type} {enc : TypeId × Value → H} {P : Program} {W : World} {t : TypeId} {v : Value} {d : DataW H} {ps : List MemPlace} {r : Reach} {b0 : Nat} {ts : List TypeId} {ds : List (DataW H)} {j : Nat}
    (ht : P.underlying t = some .string) (hval : Value.okWide P W r b0 t v) (h : DataW.Trod enc P W 0 (fun _ => true) true t v d ps)
    (hsz : (DataW.weightsEach P ts ds).all (· ≤ reachBytes) = true) (hj : ts[j]? = some t) (hd : ds[j]? = some d) :
    ∃ s : ByteArray, v = .string s ∧ d = .lit (.string s.data.toList) ∧ ps = [] ∧ s.size ≤ maxLen ∧ s.size ≤ 140737488351232 := by
  obtain ⟨s, rfl, rfl, rfl, h2⟩ := open_string ht hval h
  have := sized_string hsz hj hd
  have h4 : reachBytes = 140737488351232 := by decide
  have h5 : s.data.toList.length = s.size := by simp
  exact ⟨s, rfl, rfl, rfl, h2, by omega⟩

end Go.Proofs.YtmgbailpmcggiaaGreat
namespace Go.Proofs.YtmgbailpmcggiaaGreat
open Go.RowKit

/-- what a quiet call leaves, said of no world by name -/
theorem opq {P : Program} {f : FuncId} {args : Array Value} {w : World} {v : Value} (h : Calls P f args w fun e w' => e = .returned v ∧ ∃ n, w' = w.drewN n) : Calls P f args w fun e w' => e = .returned v ∧ Below w.heap.size w w' :=
  h.mono fun _ _ ⟨he, n, hw⟩ => ⟨he, by subst hw; exact below_drewN n⟩
theorem opq_same {P : Program} {f : FuncId} {args : Array Value} {w : World} {v : Value} (h : Calls P f args w fun e w' => e = .returned v ∧ w' = w) : Calls P f args w fun e w' => e = .returned v ∧ Below w.heap.size w w' :=
  h.mono fun _ _ ⟨he, hw⟩ => ⟨he, by subst hw; exact Below.refl _ _⟩

theorem below_alloc (w : World) (o : Obj) : Below w.heap.size w (w.alloc o) := (Below.refl _ _).alloc (Nat.le_refl _) o
/-- one step more, where nothing that was there turns -/
theorem below_and {a w w' : World} (h : Below a.heap.size a w) (k : Below w.heap.size w w') : Below a.heap.size a w' := h.trans (k.mono h.size)
/-- one step more, where one block alone turns, and it is new -/
theorem below_andG {a w w' : World} {b : Nat} (h : Below a.heap.size a w) (k : w.grownBy w' (some b)) (hb : a.heap.size ≤ b) : Below a.heap.size a w' := h.trans (grown_below k hb h.size)

/-- nothing is asked of a world: for 'go_region_held3' at a region without loads -/
def AnyW (w : World) : Prop := w = w
theorem anyW (w : World) : AnyW w := rfl

theorem cell_kept {w w' : World} {a : Addr} {v : Value} (h : w.cell? a = some v) (hb : Below w.heap.size w w') : w'.cell? a = some v := by
  rw [hb.cell (p := a) (World.block_lt_of_cell? w _ h)]
  exact h

theorem below_ad (w : World) (o : Obj) : Below w.heap.size w (w.alloc o).drew := Below.drewN' (below_alloc w o) 1
abbrev ptr (b : Nat) : Value := .pointer (some ⟨b, 0, none⟩)
end Go.Proofs.YtmgbailpmcggiaaGreat
namespace Go.Proofs.YtmgbailpmcggiaaGreat
open Go.RowKit

/-- nothing but the blocks of S has turned of what was there -/
structure Fr (S : List Nat) (w w' : World) : Prop where
  os : w'.os = w.os
  tape : w'.tape = w.tape
  output : w'.output = w.output
  size : w.heap.size ≤ w'.heap.size
  block : ∀ k, k < w.heap.size → k ∉ S → w'.heap[k]? = w.heap[k]?

theorem Fr.refl (S : List Nat) (w : World) : Fr S w w := ⟨rfl, rfl, rfl, Nat.le_refl _, fun _ _ _ => rfl⟩
theorem Fr.trans {S T : List Nat} {a b c : World} (h : Fr S a b) (k : Fr T b c) (hs : ∀ x ∈ T, x ∈ S ∨ a.heap.size ≤ x) : Fr S a c :=
  ⟨k.os.trans h.os, k.tape.trans h.tape, k.output.trans h.output, Nat.le_trans h.size k.size, fun x hx hn =>
    (k.block x (Nat.lt_of_lt_of_le hx h.size) (fun ht => by rcases hs x ht with h1 | h1; exact hn h1; omega)).trans (h.block x hx hn)⟩
theorem Fr.mono {S T : List Nat} {a b : World} (h : Fr S a b) (hs : ∀ x ∈ S, x ∈ T) : Fr T a b :=
  ⟨h.os, h.tape, h.output, h.size, fun x hx hn => h.block x hx fun k => hn (hs x k)⟩
theorem Fr.then {S : List Nat} {a b c : World} (h : Fr S a b) (k : Fr S b c) : Fr S a c := h.trans k fun _ hx => .inl hx
theorem Fr.of_below {w w' : World} (h : Below w.heap.size w w') (S : List Nat) : Fr S w w' := ⟨h.os, h.tape, h.output, h.size, fun k hk _ => h.block k hk⟩
theorem Fr.of_grown {w w' : World} {row : Option Nat} (h : w.grownBy w' row) : Fr row.toList w w' :=
  ⟨h.os, h.tape, h.output, h.size, fun k hk hn => h.block k hk (fun e => hn (by rw [← e]; simp))⟩
theorem Fr.below {n : Nat} {S : List Nat} {w w' : World} (h : Fr S w w') (hS : ∀ x ∈ S, n ≤ x) (hn : n ≤ w.heap.size) : Below n w w' :=
  ⟨h.os, h.tape, h.output, h.size, fun k hk => h.block k (by omega) fun hs => by have := hS k hs; omega⟩
theorem Fr.alloc {S : List Nat} {a w : World} (h : Fr S a w) (o : Obj) : Fr S a (w.alloc o) := h.then (Fr.of_below (below_alloc w o) S)
theorem Fr.draw {S : List Nat} {a w : World} (h : Fr S a w) (n : Nat) : Fr S a (w.drewN n) := h.then (Fr.of_below (below_drewN n) S)
theorem Fr.set {S : List Nat} {a w : World} (h : Fr S a w) {p : Addr} (hp : p.block ∈ S) (u : Value) : Fr S a (w.setCell p u) :=
  h.then ⟨rfl, rfl, rfl, by simp [World.setCell], fun k _ hk => by
    have : k ≠ p.block := fun e => hk (e ▸ hp)
    exact Below.heap_setCell _ _ _ _ this⟩

theorem Blk.fr {S : List Nat} {w w' : World} {g : Nat} {cs : List Value} {t : TypeId} (h : Blk w g cs t) (hf : Fr S w w') (hg : g ∉ S) : Blk w' g cs t := by
  have h1 := hf.block g h.lt hg
  unfold Blk at *
  rw [h1]
  exact h

theorem own_fr {S : List Nat} {w w' : World} {base : Nat} {e : TypeId} {size : Nat} {v : Value} {n : Nat} {xs : List Value} (h : w.ownsRow base e size v n xs) (hf : Fr S w w') (hg : ∀ g, v.ownBlock = some g → g ∉ S) : w'.ownsRow base e size v n xs := by
  refine ⟨h.1, ?_⟩
  rcases h.2 with hn | ⟨g, cap, cur, rfl, hb, hgg, rest⟩
  · exact .inl hn
  · refine .inr ⟨g, cap, cur, rfl, hb, ?_, rest⟩
    rw [hf.block g (Array.getElem?_eq_some_iff.1 hgg).1 (hg g rfl)]
    exact hgg
theorem cell_fr {S : List Nat} {w w' : World} {a : Addr} {v : Value} (h : w.cell? a = some v) (hf : Fr S w w') (hg : a.block ∉ S) : w'.cell? a = some v :=
  (World.cell?_of_block (hf.block a.block (World.block_lt_of_cell? w a h) hg)).trans h

/-- 'append' as one operation, in a region that draws its order -/
theorem step_app {P : Program} {ops : Array Oper} {o : Oper} {a : Act} {w : World} {K : Act → World → Prop} {Q : Exit → Act → World → Prop} {E : Prop} (hgd : o.guard = none) (s x : Operand) (t tx : TypeId)
    (ho : o.op = .call { callee := .builtin .append, args := #[s, x], argTypes := #[t, tx] })
    (base : Nat) (e : TypeId) (i : TypeInfo) (z : Value) (size bytes : Nat) (ht : P.underlying t = some (.slice e)) (hi : P.info? e = some i) (hz : i.zero = some z)
    (hsize : i.size = size) (hby : i.bytes = bytes) (hzs : z.cells.size = size)
    (v : Value) (n : Nat) (xs : List Value) (hv : a.eval s = v) (hown : w.ownsRow base e size v n xs)
    (xv : Value) (m : Nat) (news : List Value) (hx : a.eval x = xv) (hs : Src P size tx xv m news w)
    (h63 : n + m ≤ maxLen) (hbytes : (n + m + (n + m) / 4 + 256) * bytes ≤ 281474976710656) (hbase : base ≤ w.heap.size)
    (h : ∀ v' w', w'.ownsRow base e size v' (n + m) (xs ++ news) → w.grownBy w' v.ownBlock → (v' = .slice none 0 0 ↔ v = .slice none 0 0 ∧ m = 0) → (∀ k, v'.ownBlock = some k → v.ownBlock = some k ∨ w.heap.size ≤ k) → K (a.put o.dst v') w') :
    if Region.wanted o (yielded ops a.tmps) = true then Oper.wp P o a w K Q else E := by
  have hw : Region.wanted o (yielded ops a.tmps) = true := by simp [Region.wanted, hgd]
  rw [if_pos hw]
  obtain ⟨v', w', hr, h2, h3, h4, h5⟩ := run_app (P := P) w base t tx o.type e i z size bytes ht hi hz hsize hby hzs v n xs hown xv m news hs h63 hbytes hbase
  unfold Oper.wp execOp
  simp only [ho, resolve, invoke, builtin, Sem.run_bind, Sem.run_pure, Result.andThen_ok, List.map_toArray, List.map_cons, List.map_nil, hv, hx, hr]
  exact h _ _ h2 h3 h4 h5

/-- one struct, as the source of an append -/
theorem src_block {P : Program} {t e e' : TypeId} {size : Nat} (ht : P.underlying t = some (.slice e)) (w : World) (g : Nat) (us : Array Value) (hg : w.heap[g]? = some (.cells us e' (0, 0))) (hl : us.size = size) (h1 : ∀ u ∈ us.toList, u.oneCell' = true) :
    Src P size t (.slice (some ⟨g, 0, none⟩) 1 1) 1 us.toList w := by
  refine Src.ofSlice _ ht _ 1 1 us.toList (by simp; omega) (fun j x hj => ?_) h1
  rw [add_off, cell_of_row _ g (0 + j) us e' (0, 0) hg]
  simpa using hj

theorem own_slice {w : World} {base : Nat} {e : TypeId} {size : Nat} {v : Value} {n : Nat} {xs : List Value} (h : w.ownsRow base e size v n xs) : ∃ p c, v = .slice p n c ∧ n ≤ c ∧ c ≤ maxLen := by
  rcases h.2 with ⟨rfl, rfl⟩ | ⟨g, cap, cur, rfl, -, -, h1, h2, -⟩
  · exact ⟨none, 0, rfl, Nat.le_refl _, by simp [maxLen]⟩
  · exact ⟨_, cap, rfl, h1, h2⟩

/-- one cell of a row of the call's own is stored -/
theorem own_set {w : World} {base : Nat} {e : TypeId} {size g n cap : Nat} {xs : List Value} (h : w.ownsRow base e size (.slice (some ⟨g, 0, none⟩) n cap) n xs) {k : Nat} (hk : k < n * size) (u : Value) :
    (w.setCell ⟨g, k, none⟩ u).ownsRow base e size (.slice (some ⟨g, 0, none⟩) n cap) n (xs.set k u) := by
  obtain ⟨h1, h2⟩ := h
  refine ⟨by simpa using h1, ?_⟩
  rcases h2 with ⟨h2, -⟩ | ⟨g', cap', cur, hv, hb, hh, hn, hc, hs, ht⟩
  · cases h2
  · simp only [Value.slice.injEq, Option.some.injEq, Addr.mk.injEq, true_and, and_true] at hv
    obtain ⟨rfl, rfl⟩ := hv
    have hm : n * size ≤ cap * size := Nat.mul_le_mul_right _ hn
    refine .inr ⟨g, cap, cur.setIfInBounds k u, rfl, hb, ?_, hn, hc, by simpa using hs, ?_⟩
    · have := heap_setCell_same w g k cur e u hh
      rw [this]
    · rw [← ht]
      simp only [Array.toList_setIfInBounds]
      rw [List.take_set]

/-- a shorter slice of it -/
theorem own_cut {w : World} {base : Nat} {e : TypeId} {size g n cap : Nat} {xs : List Value} (h : w.ownsRow base e size (.slice (some ⟨g, 0, none⟩) n cap) n xs) {m : Nat} (hm : m ≤ n) :
    w.ownsRow base e size (.slice (some ⟨g, 0, none⟩) m cap) m (xs.take (m * size)) := by
  obtain ⟨h1, h2⟩ := h
  have hmm : m * size ≤ n * size := Nat.mul_le_mul_right _ hm
  refine ⟨by rw [List.length_take]; omega, ?_⟩
  rcases h2 with ⟨h2, -⟩ | ⟨g', cap', cur, hv, hb, hh, hn, hc, hs, ht⟩
  · cases h2
  · simp only [Value.slice.injEq, Option.some.injEq, Addr.mk.injEq, true_and, and_true] at hv
    obtain ⟨rfl, rfl⟩ := hv
    refine .inr ⟨g, cap, cur, rfl, hb, hh, by omega, hc, hs, ?_⟩
    rw [← ht, List.take_take]
    congr 1
    omega

/-- a row with something in it has a block -/
theorem own_block {w : World} {base : Nat} {e : TypeId} {size n : Nat} {v : Value} {xs : List Value} (h : w.ownsRow base e size v n xs) (hn : 0 < n) : ∃ g cap, v = .slice (some ⟨g, 0, none⟩) n cap ∧ n ≤ cap ∧ cap ≤ maxLen ∧ g < w.heap.size := by
  rcases h.2 with ⟨rfl, rfl⟩ | ⟨g, cap, cur, rfl, -, hh, h1, h2, -⟩
  · omega
  · exact ⟨g, cap, rfl, h1, h2, (Array.getElem?_eq_some_iff.1 hh).1⟩
theorem own_cell {w : World} {base : Nat} {e : TypeId} {size g n cap : Nat} {xs : List Value} (h : w.ownsRow base e size (.slice (some ⟨g, 0, none⟩) n cap) n xs) {j : Nat} {u : Value} (hj : xs[j]? = some u) : w.cell? ⟨g, j, none⟩ = some u := by
  have := h.cells (g := g) rfl j u hj
  rw [add_off] at this
  simpa using this
theorem own_free {w : World} {base : Nat} {e : TypeId} {size g n cap : Nat} {xs : List Value} (h : w.ownsRow base e size (.slice (some ⟨g, 0, none⟩) n cap) n xs) (j : Nat) : w.frozen? ⟨g, j, none⟩ = false := by
  rcases h.2 with ⟨h2, -⟩ | ⟨g', cap', cur, hv, hb, hh, -⟩
  · cases h2
  · simp only [Value.slice.injEq, Option.some.injEq, Addr.mk.injEq, true_and, and_true] at hv
    obtain ⟨rfl, rfl⟩ := hv
    exact frozen_of_row w g j cur e hh
theorem own_other {w : World} {base : Nat} {e : TypeId} {size n : Nat} {v : Value} {xs : List Value} (h : w.ownsRow base e size v n xs) {p : Addr} (hp : v.ownBlock ≠ some p.block) (u : Value) : (w.setCell p u).ownsRow base e size v n xs := by
  refine ⟨h.1, ?_⟩
  rcases h.2 with hn | ⟨g, cap, cur, rfl, hb, hgg, rest⟩
  · exact .inl hn
  · refine .inr ⟨g, cap, cur, rfl, hb, ?_, rest⟩
    rw [Below.heap_setCell _ _ _ _ (fun e => hp (by simp [Value.ownBlock, e]))]
    exact hgg

/-- a function without results falls off its end -/
theorem end0 {P : Program} {fn : Func} {R : Ending → World → Prop} {a : Act} {w : World} (hr : fn.results = #[]) (hd : a.defers = []) (hR : R (.returned (.tuple #[])) w) : bodyPost P fn R .normal a w := by
  refine ⟨hd, _, ?_, hR⟩
  simp [results, hr]
theorem end0r {P : Program} {fn : Func} {R : Ending → World → Prop} {a : Act} {w : World} (hr : fn.results = #[]) (hd : a.defers = []) (hR : R (.returned (.tuple #[])) w) : bodyPost P fn R .ret a w := by
  refine ⟨hd, _, ?_, hR⟩
  simp [results, hr]

theorem load_cell {P : Program} {a : Addr} {v : Value} {w : World} (h : w.cell? a = some v) : (load a).run P w = .ok v w := by
  rw [run_load]
  simp [h]

theorem wrap_nil {P : Program} (t : TypeId) (a : Addr) (n : String) (w : World) : (Builtin.ssaWrapNilChk_ #[t] t #[.pointer (some a), strVal "", strVal n]).run P w = .ok (.pointer (some a)) w := rfl

/-- a value method, found at a pointer in an interface value: its receiver is loaded -/
theorem method_load {P : Program} {t e : TypeId} {name : String} {f : FuncId} {a : Addr} {v : Value} {w : World} (fuel : Nat)
    (hm : ((P.info? t).bind fun i => (i.methods.find? fun m => m.name == name).map fun m => (m.path.toList, m.func)) = some ([], some (f, false)))
    (hu : P.underlying t = some (.pointer e)) (ha : (isAgg e).run P w = .ok false w) (hc : w.cell? a = some v) :
    (method (fuel + 1) t (.pointer (some a)) name).run P w = .ok (f, v) w := by
  cases hi : P.info? t with
  | none => rw [hi] at hm; cases hm
  | some i =>
    rw [hi] at hm
    simp only [Option.bind_some] at hm
    cases hf : i.methods.find? (fun m => m.name == name) with
    | none => rw [hf] at hm; cases hm
    | some m =>
      rw [hf] at hm
      simp only [Option.map_some, Option.some.injEq, Prod.mk.injEq] at hm
      obtain ⟨h1, h2⟩ := hm
      have h3 : m.path = #[] := by cases hp : m.path with | mk l => rw [hp] at h1; simp at h1; rw [h1]
      unfold method
      simp [typeInfo, hi, hf, h2, h3, follow, receiverAt, run_underlying hu, Place.get, wrap_nil, loadVar, ha, asAddr, load_cell hc, Result.andThen]

/-- 'append' in a plain region; where the row lies behind it is told too -/
theorem wpList_app5 {P : Program} {ops : Array Oper} {rest : List Oper} {o : Oper} {a : Act} {w : World} {Q : Exit → Act → World → Prop} (hgd : o.guard = none) (s x : Operand) (t tx : TypeId)
    (ho : o.op = .call { callee := .builtin .append, args := #[s, x], argTypes := #[t, tx] })
    (base : Nat) (e : TypeId) (i : TypeInfo) (z : Value) (size bytes : Nat) (ht : P.underlying t = some (.slice e)) (hi : P.info? e = some i) (hz : i.zero = some z)
    (hsize : i.size = size) (hby : i.bytes = bytes) (hzs : z.cells.size = size)
    (v : Value) (n : Nat) (xs : List Value) (hv : a.eval s = v) (hown : w.ownsRow base e size v n xs)
    (xv : Value) (m : Nat) (news : List Value) (hx : a.eval x = xv) (hs : Src P size tx xv m news w)
    (h63 : n + m ≤ maxLen) (hbytes : (n + m + (n + m) / 4 + 256) * bytes ≤ 281474976710656) (hbase : base ≤ w.heap.size)
    (h : ∀ v' w', w'.ownsRow base e size v' (n + m) (xs ++ news) → w.grownBy w' v.ownBlock → (∀ k, v'.ownBlock = some k → v.ownBlock = some k ∨ w.heap.size ≤ k) → wpList P ops Q rest (a.put o.dst v') w') : wpList P ops Q (o :: rest) a w := by
  refine wpList_plain hgd fun K hK => ?_
  obtain ⟨v', w', hr, h2, h3, -, h5⟩ := run_app (P := P) w base t tx o.type e i z size bytes ht hi hz hsize hby hzs v n xs hown xv m news hs h63 hbytes hbase
  unfold Oper.wp execOp
  simp only [ho, resolve, invoke, builtin, Sem.run_bind, Sem.run_pure, Result.andThen_ok, List.map_toArray, List.map_cons, List.map_nil, hv, hx, hr]
  exact hK _ _ (h v' w' h2 h3 h5)
end Go.Proofs.YtmgbailpmcggiaaGreat
namespace Go.Proofs.YtmgbailpmcggiaaGreat
open Go.RowKit

/-- four numbers -/
structure Am where
  c : Int
  r : Int
  d : Int
  p : Int
deriving DecidableEq

namespace Am
def get (x : Am) : Nat → Int
  | 0 => x.c
  | 1 => x.r
  | 2 => x.d
  | _ => x.p
def zero : Am := ⟨0, 0, 0, 0⟩
/-- each may be -/
def ok (x : Am) : Prop := ∀ k, k < 4 → 0 ≤ x.get k ∧ x.get k ≤ 1099511627776
def okB (x : Am) : Bool := decide (0 ≤ x.c ∧ x.c ≤ 1099511627776 ∧ 0 ≤ x.r ∧ x.r ≤ 1099511627776 ∧ 0 ≤ x.d ∧ x.d ≤ 1099511627776 ∧ 0 ≤ x.p ∧ x.p ≤ 1099511627776)
/-- each is a number of the machine's -/
def fits (x : Am) : Prop := ∀ k, k < 4 → -9223372036854775808 ≤ x.get k ∧ x.get k ≤ 9223372036854775807
theorem okB_iff (x : Am) : x.okB = true ↔ x.ok := by
  unfold okB ok
  rw [decide_eq_true_eq]
  constructor
  · intro h k hk
    match k, hk with
    | 0, _ => exact ⟨h.1, h.2.1⟩
    | 1, _ => exact ⟨h.2.2.1, h.2.2.2.1⟩
    | 2, _ => exact ⟨h.2.2.2.2.1, h.2.2.2.2.2.1⟩
    | 3, _ => exact ⟨h.2.2.2.2.2.2.1, h.2.2.2.2.2.2.2⟩
    | n + 4, h => omega
  · intro h
    have h0 := h 0 (by omega)
    have h1 := h 1 (by omega)
    have h2 := h 2 (by omega)
    have h3 := h 3 (by omega)
    exact ⟨h0.1, h0.2, h1.1, h1.2, h2.1, h2.2, h3.1, h3.2⟩
end Am

abbrev amV (x : Am) : Value := .agg #[.int .i64 x.c, .int .i64 x.r, .int .i64 x.d, .int .i64 x.p]
abbrev amC (x : Am) : List Value := [.int .i64 x.c, .int .i64 x.r, .int .i64 x.d, .int .i64 x.p]
theorem amC_get (x : Am) {k : Nat} (hk : k < 4) : (amC x)[k]? = some (.int .i64 (x.get k)) := by
  match k, hk with
  | 0, _ => rfl
  | 1, _ => rfl
  | 2, _ => rfl
  | 3, _ => rfl
  | n + 4, h => omega

theorem results_row {P : Program} {fn : Func} {p : Tmp} {ty : TypeId} (h : fn.results = #[.cell p ty]) (tmps : Array Value) (w : World) (g : Nat) (t : TypeId) (cs : Array Value) (fr : Nat × Nat) (d : TypeDesc)
    (hp : tmps.getD p undef = .pointer (some ⟨g, 0, none⟩)) (hg : w.heap[g]? = some (.cells cs t fr))
    (hu : P.underlying ty = some d) (hd : (match d with | .struct _ | .array _ _ => true | _ => false) = true) (hi : (P.info? ty).map (·.size) = some cs.size) :
    (results fn tmps).run P w = .ok (.agg cs) w := by
  have hp' : tmps[p]?.getD undef = .pointer (some ⟨g, 0, none⟩) := by simpa using hp
  simp [results, h, hp', asAddr, run_loadVar_row w g t ty cs fr d hg hu hd hi, Result.andThen]
theorem results_row_tmp {P : Program} {fn : Func} {p u : Tmp} {ty : TypeId} (h : fn.results = #[.cell p ty, .tmp u]) (tmps : Array Value) (w : World) (g : Nat) (t : TypeId) (cs : Array Value) (fr : Nat × Nat) (d : TypeDesc)
    (hp : tmps.getD p undef = .pointer (some ⟨g, 0, none⟩)) (hg : w.heap[g]? = some (.cells cs t fr))
    (hu : P.underlying ty = some d) (hd : (match d with | .struct _ | .array _ _ => true | _ => false) = true) (hi : (P.info? ty).map (·.size) = some cs.size) :
    (results fn tmps).run P w = .ok (.tuple #[.agg cs, tmps.getD u undef]) w := by
  have hp' : tmps[p]?.getD undef = .pointer (some ⟨g, 0, none⟩) := by simpa using hp
  simp [results, h, hp', asAddr, run_loadVar_row w g t ty cs fr d hg hu hd hi, Result.andThen]

set_option maxRecDepth 100000 in
set_option maxHeartbeats 400000 in
theorem array_any (x : Am) (w : World) :
    Calls Tryz.prog 55 #[amV x] w fun e w' => e = .returned (amV x) ∧ Below w.heap.size w w' := by
  go_enter Tryz.func55, Tryz.ntmps55
  go_wp2
  refine bodyPost_ret (results_row rfl _ _ (w.heap.size + 1) 86 #[.int .i64 x.c, .int .i64 x.r, .int .i64 x.d, .int .i64 x.p] (0, 0) _ rfl ?_ Tryz.underlying86 rfl (by kernel_rfl)) rfl ⟨rfl, below_and (below_alloc w _) (below_alloc _ _)⟩
  have := Blk.made (w.alloc (.cells #[.int .i64 x.c, .int .i64 x.r, .int .i64 x.d, .int .i64 x.p] 34)) [.int .i64 x.c, .int .i64 x.r, .int .i64 x.d, .int .i64 x.p] 86
  simpa [Blk] using this

/-- behind a call, the same again: a number's cell -/
def Am.chk (x : Am) : Int := if x.okB then 0 else 2
theorem Am.chk_yes {x : Am} (h : x.okB = true) : x.chk = 0 := by unfold Am.chk; rw [h]; rfl
theorem Am.chk_no {x : Am} (h : x.okB = false) : x.chk = 2 := by unfold Am.chk; rw [h]; rfl

theorem index_am (x : Am) (w : World) : ∀ k, k < 4 → (Instr.index 86 (amV x) (.int .i64 (k : Nat))).run Tryz.prog w = .ok (.int .i64 (x.get k)) w
  | 0, _ => by kernel_rfl
  | 1, _ => by kernel_rfl
  | 2, _ => by kernel_rfl
  | 3, _ => by kernel_rfl
  | n + 4, h => by omega

set_option maxRecDepth 100000 in
set_option maxHeartbeats 600000 in
theorem check_any (x : Am) (w : World) :
    Calls Tryz.prog 31 #[amV x] w fun e w' => e = .returned (.int .i64 x.chk) ∧ Below w.heap.size w w' := by
  go_enter Tryz.func31, Tryz.ntmps31
  go_wp2_with (go_at_call 55; refine (array_any x _).mono ?_; rintro e w1 ⟨rfl, hb⟩; have HB := Lib.hid (below_and (below_alloc w _) hb); clear hb)
  go_loop [7] (fun i => ∃ k : Nat, k ≤ 4 ∧ i = .int .i64 (k : Int) ∧ Hid (∀ j, j < k → 0 ≤ x.get j ∧ x.get j ≤ 1099511627776)) (fun i => 4 - (intOf i).toNat)
  case atStart => exact ⟨0, Nat.zero_le _, rfl, fun j h => by omega⟩
  case round =>
    obtain ⟨k, hk, rfl, HA⟩ := hrel
    by_cases hlt : k < 4
    · have hix := index_am x w1 k hlt
      obtain ⟨z, hz⟩ : ∃ z, z = x.get k := ⟨_, rfl⟩
      rw [← hz] at hix
      have HZ := Lib.hid hz
      clear hz
      by_cases h1 : z < 0
      · have HN : Hid (x.okB = false) := Lib.hid (by rw [← Bool.not_eq_true, Am.okB_iff]; intro h; have := h k hlt; have := HZ.out; omega)
        go_wp2
        go_ret
        exact ⟨ret_int (Am.chk_no HN.out).symm, HB.out⟩
      · by_cases h2 : 1099511627776 < z
        · have HN : Hid (x.okB = false) := Lib.hid (by rw [← Bool.not_eq_true, Am.okB_iff]; intro h; have := h k hlt; have := HZ.out; omega)
          go_wp2
          go_ret
          exact ⟨ret_int (Am.chk_no HN.out).symm, HB.out⟩
        · have HA2 : Hid (∀ j, j < k + 1 → 0 ≤ x.get j ∧ x.get j ≤ 1099511627776) := Lib.hid (fun j hj => by
            by_cases h : j < k
            · exact HA.out j h
            · obtain rfl : j = k := by omega
              have := HZ.out; omega)
          have d1 : decide (z < 0) = false := by simpa using h1
          have d2 : decide (1099511627776 < z) = false := by simpa using h2
          go_wp2
          go_round
          case rel => exact ⟨k + 1, by omega, by go_num, HA2⟩
          case measure => simp [intOf]; omega
    · obtain rfl : k = 4 := by omega
      have HN : Hid (x.okB = true) := Lib.hid (by rw [Am.okB_iff]; exact HA.out)
      go_wp2
      go_ret
      exact ⟨ret_int (Am.chk_yes HN.out).symm, HB.out⟩
end Go.Proofs.YtmgbailpmcggiaaGreat
namespace Go.Proofs.YtmgbailpmcggiaaGreat
open Go.RowKit

def amsC (xs : List Am) : List Value := xs.flatMap amC
theorem amsC_length (xs : List Am) : (amsC xs).length = xs.length * 4 := by
  induction xs with
  | nil => rfl
  | cons x xs ih => simp only [amsC, List.flatMap_cons, List.length_append, List.length_cons, List.length_nil] at *; omega
theorem amsC_get : ∀ {xs : List Am} {i : Nat} (hi : i < xs.length) {j : Nat}, j < 4 → (amsC xs)[i * 4 + j]? = (amC xs[i])[j]?
  | [], _, hi, _, _ => by simp at hi
  | x :: xs, 0, _, j, hj => by
    simp only [amsC, List.flatMap_cons, Nat.zero_mul, Nat.zero_add, List.getElem_cons_zero]
    rw [List.getElem?_append_left (by simpa using hj)]
  | x :: xs, i + 1, hi, j, hj => by
    simp only [amsC, List.flatMap_cons, List.getElem_cons_succ]
    rw [List.getElem?_append_right (by simp; omega), show (i + 1) * 4 + j - (amC x).length = i * 4 + j from by simp; omega]
    exact amsC_get (xs := xs) (by simpa using hi) hj

/-- a slice of amounts -/
def Ams (w : World) (v : Value) (xs : List Am) : Prop := Row w v 4 xs.length (amsC xs)
theorem Ams.below {w w' : World} {v : Value} {xs : List Am} (h : Ams w v xs) (hb : Below w.heap.size w w') : Ams w' v xs := Row.below h hb
theorem Ams.shape {w : World} {v : Value} {xs : List Am} (h : Ams w v xs) : ∃ p c, v = .slice p xs.length c ∧ xs.length ≤ c ∧ c ≤ maxLen := by
  obtain ⟨p, c, hv, h1, h2, -⟩ := h
  exact ⟨p, c, hv, h1, h2⟩
theorem Ams.amAt {w : World} {p : Option Addr} {n c : Nat} {xs : List Am} (h : Ams w (.slice p n c) xs) {i : Nat} (hi : i < xs.length) :
    ∃ b o, p = some ⟨b, o, none⟩ ∧ w.cell? ⟨b, o + i * 4, none⟩ = some (.int .i64 xs[i].c) ∧ w.cell? ⟨b, o + i * 4 + 1, none⟩ = some (.int .i64 xs[i].r) ∧ w.cell? ⟨b, o + i * 4 + 2, none⟩ = some (.int .i64 xs[i].d) ∧ w.cell? ⟨b, o + i * 4 + 3, none⟩ = some (.int .i64 xs[i].p) := by
  obtain ⟨p', c', hv, h1, h2, h3, h4, h5, h6⟩ := h
  simp only [Value.slice.injEq] at hv
  obtain ⟨rfl, rfl, rfl⟩ := hv
  rcases h6 with h6 | ⟨b, o, hp, ha⟩
  · have := congrArg List.length h6
    rw [amsC_length] at this; simp at this; omega
  · refine ⟨b, o, hp, ?_, ?_, ?_, ?_⟩
    · exact ha _ _ (amsC_get hi (j := 0) (by omega))
    · rw [Nat.add_assoc]; exact ha _ _ (amsC_get hi (j := 1) (by omega))
    · rw [Nat.add_assoc]; exact ha _ _ (amsC_get hi (j := 2) (by omega))
    · rw [Nat.add_assoc]; exact ha _ _ (amsC_get hi (j := 3) (by omega))

def allB (xs : List Am) : Bool := xs.all Am.okB
set_option maxRecDepth 100000 in
set_option maxHeartbeats 600000 in
theorem all_any (v : Value) (xs : List Am) (w : World) (h : Ams w v xs) :
    Calls Tryz.prog 60 #[v] w fun e w' => e = .returned (.bool (allB xs)) ∧ Below w.heap.size w w' := by
  obtain ⟨p, c, rfl, hc, hm⟩ := h.shape
  have hml : maxLen ≤ 9223372036854775807 := by decide
  have H := Lib.hid h
  clear h
  go_enter Tryz.func60, Tryz.ntmps60
  go_wp2
  go_loopw [7] (fun i wc => ∃ k : Nat, k ≤ xs.length ∧ i = .int .i64 (k : Int) ∧ Hid ((xs.take k).all Am.okB = true) ∧ Hid (Below w.heap.size w wc)) (fun i _ => xs.length - (intOf i).toNat)
  case atStart => exact ⟨0, Nat.zero_le _, rfl, by simp [Hid], Below.refl _ _⟩
  case round =>
    obtain ⟨k, hk, rfl, HA, HB⟩ := hrel
    by_cases hlt : k < xs.length
    · obtain ⟨b, o, rfl, e0, e1, e2, e3⟩ := (H.out.below HB.out).amAt hlt
      obtain ⟨x, hx⟩ : ∃ x, x = xs[k] := ⟨_, rfl⟩
      rw [← hx] at e0 e1 e2 e3
      cases hq : x.okB
      · have HN : Hid (allB xs = false) := Lib.hid (by unfold allB; rw [← Bool.not_eq_true, List.all_eq_true]; intro hh; have := hh xs[k] (List.getElem_mem hlt); rw [← hx, hq] at this; cases this)
        have HQ := Lib.hid (Am.chk_no hq)
        clear hq hx
        go_wp2_with (go_at_call 31; refine (check_any x _).mono ?_; rw [HQ.out]; rintro e w2 ⟨rfl, hb⟩; have HB2 := Lib.hid (below_and (below_and HB.out (below_alloc wr _)) hb); clear hb)
        go_ret
        exact ⟨ret_bool HN.out.symm, HB2.out⟩
      · have HN : Hid ((xs.take (k + 1)).all Am.okB = true) := Lib.hid (by rw [List.take_succ_eq_append_getElem hlt, List.all_append, HA.out, ← hx]; simp [hq])
        have HQ := Lib.hid (Am.chk_yes hq)
        clear hq hx
        go_wp2_with (go_at_call 31; refine (check_any x _).mono ?_; rw [HQ.out]; rintro e w2 ⟨rfl, hb⟩; have HB2 := Lib.hid (below_and (below_and HB.out (below_alloc wr _)) hb); clear hb)
        go_roundw
        case rel => exact ⟨k + 1, hlt, by go_num, HN, HB2⟩
        case measure => simp [intOf]; omega
    · obtain rfl : k = xs.length := by omega
      have HN : Hid (allB xs = true) := Lib.hid (by have := HA.out; rwa [List.take_length] at this)
      go_wp2
      go_ret
      exact ⟨ret_bool HN.out.symm, HB.out⟩
end Go.Proofs.YtmgbailpmcggiaaGreat
namespace Go.Proofs.YtmgbailpmcggiaaGreat
open Go.RowKit

set_option maxRecDepth 100000 in
set_option maxHeartbeats 400000 in
theorem array_exact (x : Am) (w : World) :
    Calls Tryz.prog 55 #[amV x] w fun e w' => e = .returned (amV x) ∧ w' = (w.alloc (.cells #[.int .i64 x.c, .int .i64 x.r, .int .i64 x.d, .int .i64 x.p] 34)).alloc (.cells #[.int .i64 x.c, .int .i64 x.r, .int .i64 x.d, .int .i64 x.p] 86) := by
  go_enter Tryz.func55, Tryz.ntmps55
  go_wp2
  refine bodyPost_ret (results_row rfl _ _ (w.heap.size + 1) 86 #[.int .i64 x.c, .int .i64 x.r, .int .i64 x.d, .int .i64 x.p] (0, 0) _ rfl ?_ Tryz.underlying86 rfl (by kernel_rfl)) rfl ⟨rfl, rfl⟩
  have := Blk.made (w.alloc (.cells #[.int .i64 x.c, .int .i64 x.r, .int .i64 x.d, .int .i64 x.p] 34)) [.int .i64 x.c, .int .i64 x.r, .int .i64 x.d, .int .i64 x.p] 86
  simpa [Blk] using this

set_option maxRecDepth 100000 in
set_option maxHeartbeats 400000 in
theorem amounts_any (x : Am) (w : World) :
    Calls Tryz.prog 61 #[amV x] w fun e w' => e = .returned (amV x) ∧ Below w.heap.size w w' := by
  go_enter Tryz.func61, Tryz.ntmps61
  go_wp2
  refine bodyPost_ret (results_row rfl _ _ (w.heap.size + 1) 34 #[.int .i64 x.c, .int .i64 x.r, .int .i64 x.d, .int .i64 x.p] (0, 0) _ rfl ?_ Tryz.underlying34 rfl (by kernel_rfl)) rfl ⟨rfl, below_and (below_alloc w _) (below_alloc _ _)⟩
  have := Blk.made (w.alloc (.cells #[.int .i64 x.c, .int .i64 x.r, .int .i64 x.d, .int .i64 x.p] 86)) [.int .i64 x.c, .int .i64 x.r, .int .i64 x.d, .int .i64 x.p] 34
  simpa [Blk] using this

theorem Blk.drew {w : World} {g : Nat} {cs : List Value} {t : TypeId} (h : Blk w g cs t) : Blk w.drew g cs t := h
theorem Blk.made_at {w : World} {g : Nat} {cs : List Value} {t : TypeId} (h : w.heap.size = g) : Blk (w.alloc (.cells cs.toArray t)) g cs t := h ▸ Blk.made w cs t
theorem bl_drew {n : Nat} {a w : World} (h : Below n a w) : Below n a w.drew := Below.drewN' h 1
theorem bl_alloc {n : Nat} {a w : World} (o : Obj) (h : Below n a w) (hB : n ≤ w.heap.size) : Below n a (w.alloc o) := h.alloc hB o
theorem eight {w : World} {g h : Nat} {x y : Am} {t u : TypeId} (h0 : Blk w g (amC x) t) (h1 : Blk w h (amC y) u) : w.cell? ⟨g, 0, none⟩ = some (.int .i64 x.c) ∧ w.cell? ⟨g, 1, none⟩ = some (.int .i64 x.r) ∧ w.cell? ⟨g, 2, none⟩ = some (.int .i64 x.d) ∧ w.cell? ⟨g, 3, none⟩ = some (.int .i64 x.p) ∧ w.cell? ⟨h, 0, none⟩ = some (.int .i64 y.c) ∧ w.cell? ⟨h, 1, none⟩ = some (.int .i64 y.r) ∧ w.cell? ⟨h, 2, none⟩ = some (.int .i64 y.d) ∧ w.cell? ⟨h, 3, none⟩ = some (.int .i64 y.p) :=
  ⟨h0.cell (j := 0) rfl, h0.cell (j := 1) rfl, h0.cell (j := 2) rfl, h0.cell (j := 3) rfl, h1.cell (j := 0) rfl, h1.cell (j := 1) rfl, h1.cell (j := 2) rfl, h1.cell (j := 3) rfl⟩

/-- two arrays of the call's own, from block B on -/
def Two (B : Nat) (w : World) (u v : Value) (x y : Am) : Prop :=
  ∃ g h, u = ptr g ∧ v = ptr h ∧ g ≠ h ∧ B ≤ g ∧ B ≤ h ∧ Blk w g (amC x) 86 ∧ Blk w h (amC y) 86

/-- the first k of z, then x's -/
def Am.mix (k : Nat) (x z : Am) : Am := ⟨if 0 < k then z.c else x.c, if 1 < k then z.r else x.r, if 2 < k then z.d else x.d, if 3 < k then z.p else x.p⟩
theorem Am.mix_zero (x z : Am) : Am.mix 0 x z = x := rfl
theorem Am.mix_four (x z : Am) : Am.mix 4 x z = z := rfl
theorem Am.mix_get (k : Nat) (hk : k < 4) (x z : Am) : (amC (Am.mix k x z))[k]? = some (.int .i64 (x.get k)) := by
  match k, hk with
  | 0, _ => rfl
  | 1, _ => rfl
  | 2, _ => rfl
  | 3, _ => rfl
  | n + 4, h => omega
theorem Am.mix_set (k : Nat) (hk : k < 4) (x z : Am) : (amC (Am.mix k x z)).set k (.int .i64 (z.get k)) = amC (Am.mix (k + 1) x z) := by
  match k, hk with
  | 0, _ => rfl
  | 1, _ => rfl
  | 2, _ => rfl
  | 3, _ => rfl
  | n + 4, h => omega
end Go.Proofs.YtmgbailpmcggiaaGreat
namespace Go.Proofs.YtmgbailpmcggiaaGreat
open Go.RowKit

theorem Am.ext_get {x y : Am} (h : ∀ k, k < 4 → x.get k = y.get k) : x = y := by
  cases x; cases y
  have h0 := h 0 (by omega)
  have h1 := h 1 (by omega)
  have h2 := h 2 (by omega)
  have h3 := h 3 (by omega)
  simp only [Am.get] at h0 h1 h2 h3
  rw [h0, h1, h2, h3]
/-- of a number for each -/
def Am.of (f : Nat → Int) : Am := ⟨f 0, f 1, f 2, f 3⟩
theorem Am.of_get (f : Nat → Int) (k : Nat) (hk : k < 4) : (Am.of f).get k = f k := by
  match k, hk with
  | 0, _ => rfl
  | 1, _ => rfl
  | 2, _ => rfl
  | 3, _ => rfl
  | n + 4, h => omega
/-- does one of the four meet a test? -/
def any4 (f : Nat → Bool) : Bool := f 0 || f 1 || f 2 || f 3
theorem any4_yes {f : Nat → Bool} {k : Nat} (hk : k < 4) (h : f k = true) : any4 f = true := by
  unfold any4
  match k, hk with
  | 0, _ => simp [h]
  | 1, _ => simp [h]
  | 2, _ => simp [h]
  | 3, _ => simp [h]
  | n + 4, hk => omega
theorem any4_no {f : Nat → Bool} (h : ∀ k, k < 4 → f k = false) : any4 f = false := by
  unfold any4
  rw [h 0 (by omega), h 1 (by omega), h 2 (by omega), h 3 (by omega)]
  rfl
theorem any4_false {f : Nat → Bool} (h : any4 f = false) {k : Nat} (hk : k < 4) : f k = false := by
  cases hf : f k
  · rfl
  · rw [any4_yes hk hf] at h; cases h

def addR (x y : Am) : Am × Int :=
  if (x.okB && y.okB) = false then (.zero, 2) else if any4 (fun k => decide (1099511627776 < x.get k + y.get k)) = true then (.zero, 9) else (.of fun k => x.get k + y.get k, 0)
def fitsB (x y : Am) : Bool := !any4 (fun k => decide (y.get k < x.get k))
def subR (x y : Am) : Am × Int :=
  if (x.okB && y.okB) = false then (.zero, 2) else if fitsB y x = false then (.zero, 14) else (.of fun k => x.get k - y.get k, 0)
theorem addR_bad {x y : Am} (h : (x.okB && y.okB) = false) : addR x y = (.zero, 2) := by unfold addR; rw [if_pos h]
theorem addR_over {x y : Am} (h : (x.okB && y.okB) = true) {k : Nat} (hk : k < 4) (ho : 1099511627776 < x.get k + y.get k) : addR x y = (.zero, 9) := by
  unfold addR; rw [if_neg (by rw [h]; decide), if_pos (any4_yes hk (by simpa using ho))]
theorem addR_ok {x y z : Am} (h : (x.okB && y.okB) = true) (ho : ∀ k, k < 4 → x.get k + y.get k ≤ 1099511627776) (hz : ∀ k, k < 4 → z.get k = x.get k + y.get k) : addR x y = (z, 0) := by
  unfold addR
  rw [if_neg (by rw [h]; decide), if_neg (by rw [any4_no (fun k hk => by have := ho k hk; simpa using this)]; decide)]
  congr 1
  exact Am.ext_get fun k hk => by rw [Am.of_get _ k hk, hz k hk]
theorem subR_bad {x y : Am} (h : (x.okB && y.okB) = false) : subR x y = (.zero, 2) := by unfold subR; rw [if_pos h]
theorem subR_fit {x y : Am} (h : (x.okB && y.okB) = true) (hf : fitsB y x = false) : subR x y = (.zero, 14) := by
  unfold subR; rw [if_neg (by rw [h]; decide), if_pos hf]
theorem subR_ok {x y z : Am} (h : (x.okB && y.okB) = true) (hf : fitsB y x = true) (hz : ∀ k, k < 4 → z.get k = x.get k - y.get k) : subR x y = (z, 0) := by
  unfold subR
  rw [if_neg (by rw [h]; decide), if_neg (by rw [hf]; decide)]
  congr 1
  exact Am.ext_get fun k hk => by rw [Am.of_get _ k hk, hz k hk]

theorem ok_get {x : Am} (h : x.okB = true) {k : Nat} (hk : k < 4) : 0 ≤ x.get k ∧ x.get k ≤ 1099511627776 := (Am.okB_iff x).1 h k hk

theorem amsC_one (xs : List Am) : ∀ u ∈ amsC xs, u.oneCell' = true := by
  intro u hu
  obtain ⟨x, -, hx⟩ := List.mem_flatMap.1 hu
  simp only [List.mem_cons, List.not_mem_nil, or_false] at hx
  rcases hx with rfl | rfl | rfl | rfl <;> rfl
theorem ams_block {w : World} {g : Nat} {xs : List Am} {e : TypeId} {fr : Nat × Nat} (hg : w.heap[g]? = some (.cells (amsC xs).toArray e fr)) (hm : xs.length ≤ maxLen) : Ams w (.slice (some ⟨g, 0, none⟩) xs.length xs.length) xs := by
  refine ⟨_, _, rfl, Nat.le_refl _, hm, amsC_length xs, amsC_one xs, by simp, .inr ⟨g, 0, rfl, fun j u hj => ?_⟩⟩
  rw [cell_of_row w g (0 + j) _ _ _ hg]
  simpa using hj
theorem ams_two (w : World) (x y : Am) : Ams (w.alloc (.cells #[.int .i64 x.c, .int .i64 x.r, .int .i64 x.d, .int .i64 x.p, .int .i64 y.c, .int .i64 y.r, .int .i64 y.d, .int .i64 y.p] 34)) (.slice (some ⟨w.heap.size, 0, none⟩) 2 2) [x, y] :=
  ams_block (xs := [x, y]) (heap_alloc_new w _) (by simp [maxLen])
theorem ams_one (w : World) (x : Am) : Ams (w.alloc (.cells #[.int .i64 x.c, .int .i64 x.r, .int .i64 x.d, .int .i64 x.p] 34)) (.slice (some ⟨w.heap.size, 0, none⟩) 1 1) [x] :=
  ams_block (xs := [x]) (heap_alloc_new w _) (by simp [maxLen])
theorem all_two (w : World) (x y : Am) : Calls Tryz.prog 60 #[.slice (some ⟨w.heap.size, 0, none⟩) 2 2] (w.alloc (.cells #[.int .i64 x.c, .int .i64 x.r, .int .i64 x.d, .int .i64 x.p, .int .i64 y.c, .int .i64 y.r, .int .i64 y.d, .int .i64 y.p] 34)) fun e w' => e = .returned (.bool (x.okB && y.okB)) ∧ Below w.heap.size w w' :=
  (all_any _ [x, y] _ (ams_two w x y)).mono fun e w' ⟨h1, h2⟩ => ⟨by rw [h1]; simp [allB], below_and (below_alloc w _) h2⟩
theorem all_one (w : World) (x : Am) : Calls Tryz.prog 60 #[.slice (some ⟨w.heap.size, 0, none⟩) 1 1] (w.alloc (.cells #[.int .i64 x.c, .int .i64 x.r, .int .i64 x.d, .int .i64 x.p] 34)) fun e w' => e = .returned (.bool x.okB) ∧ Below w.heap.size w w' :=
  (all_any _ [x] _ (ams_one w x)).mono fun e w' ⟨h1, h2⟩ => ⟨by rw [h1]; simp [allB], below_and (below_alloc w _) h2⟩
end Go.Proofs.YtmgbailpmcggiaaGreat
namespace Go.Proofs.YtmgbailpmcggiaaGreat
open Go.RowKit

set_option maxRecDepth 100000 in
set_option maxHeartbeats 1000000 in
theorem fits_any (x y : Am) (w : World) :
    Calls Tryz.prog 34 #[amV x, amV y] w fun e w' => e = .returned (.bool (fitsB x y)) ∧ Below w.heap.size w w' := by
  obtain ⟨w3, hw3⟩ : ∃ w3, w3 = ((w.alloc (.cells #[.int .i64 x.c, .int .i64 x.r, .int .i64 x.d, .int .i64 x.p] 34)).alloc (.cells #[.int .i64 y.c, .int .i64 y.r, .int .i64 y.d, .int .i64 y.p] 34)) := ⟨_, rfl⟩
  obtain ⟨B, hB⟩ : ∃ B, B = w.heap.size := ⟨_, rfl⟩
  have B0 : Hid (Blk w3 B (amC x) 34) := Lib.hid (by
    have := (Blk.made w (amC x) 34).alloc (.cells #[.int .i64 y.c, .int .i64 y.r, .int .i64 y.d, .int .i64 y.p] 34)
    rw [hw3, hB]; exact this)
  have B1 : Hid (Blk w3 (B + 1) (amC y) 34) := Lib.hid (by
    have := (Blk.made (w.alloc (.cells #[.int .i64 x.c, .int .i64 x.r, .int .i64 x.d, .int .i64 x.p] 34)) (amC y) 34)
    rw [hw3, hB]; simpa using this)
  have HBL : Hid (Below w.heap.size w w3) := Lib.hid (by rw [hw3]; exact below_and (below_alloc w _) (below_alloc _ _))
  have c4 := B1.out.cell (j := 0) rfl
  have c5 := B1.out.cell (j := 1) rfl
  have c6 := B1.out.cell (j := 2) rfl
  have c7 := B1.out.cell (j := 3) rfl
  go_enter Tryz.func34, Tryz.ntmps34
  go_upto_region 1 with fail
  rw [← hw3, ← hB]
  clear hw3 hB
  go_upto_region 2 with (go_at_call 55; refine (array_any y _).mono ?_; rintro e w5 ⟨rfl, hb⟩; have HB5 := Lib.hid hb; clear hb)
  obtain ⟨w6, hw6⟩ : ∃ w6, w6 = w5.alloc (.cells #[.int .i64 y.c, .int .i64 y.r, .int .i64 y.d, .int .i64 y.p] 86) := ⟨_, rfl⟩
  obtain ⟨g, hg⟩ : ∃ g, g = w5.heap.size := ⟨_, rfl⟩
  have HY : Hid (Blk w6 g (amC y) 86) := Lib.hid (by rw [hw6, hg]; exact Blk.made w5 (amC y) _)
  have HB6 : Hid (Below w3.heap.size w3 w6) := Lib.hid (by rw [hw6]; exact below_and HB5.out (below_alloc _ _))
  rw [← hw6, ← hg]
  clear hw6 hg c4 c5 c6 c7
  have c0 := (B0.out.kept HB6.out).cell (j := 0) rfl
  have c1 := (B0.out.kept HB6.out).cell (j := 1) rfl
  have c2 := (B0.out.kept HB6.out).cell (j := 2) rfl
  have c3 := (B0.out.kept HB6.out).cell (j := 3) rfl
  go_wp2_with (go_at_call 55; refine (array_any x _).mono ?_; rintro e w7 ⟨rfl, hb⟩; have HB7 := Lib.hid (below_and HBL.out (below_and HB6.out hb)); have HY7 := Lib.hid (HY.out.kept hb); clear hb)
  go_loop [12] (fun i => ∃ k : Nat, k ≤ 4 ∧ i = .int .i64 (k : Int) ∧ Hid (∀ j, j < k → x.get j ≤ y.get j)) (fun i => 4 - (intOf i).toNat)
  case atStart => exact ⟨0, Nat.zero_le _, rfl, fun j h => by omega⟩
  case round =>
    obtain ⟨k, hk, rfl, HA⟩ := hrel
    by_cases hlt : k < 4
    · have hix := index_am x w7 k hlt
      have hy := HY7.out.cell (amC_get y hlt)
      have i0 : (0 : Int) ≤ (k : Int) := by omega
      have i1 : (k : Int) < 4 := by omega
      obtain ⟨p, hp⟩ : ∃ p, p = x.get k := ⟨_, rfl⟩
      obtain ⟨q, hq⟩ : ∃ q, q = y.get k := ⟨_, rfl⟩
      rw [← hp] at hix
      rw [← hq] at hy
      have HPQ := Lib.hid (show p = x.get k ∧ q = y.get k from ⟨hp, hq⟩)
      clear hp hq
      by_cases hov : q < p
      · have HN : Hid (fitsB x y = false) := Lib.hid (by unfold fitsB; rw [any4_yes hlt (by have := HPQ.out; simp only [decide_eq_true_eq]; omega)]; rfl)
        go_wp2
        go_ret
        exact ⟨ret_bool HN.out.symm, HB7.out⟩
      · have hd : decide (q < p) = false := by simpa using hov
        have HA2 : Hid (∀ j, j < k + 1 → x.get j ≤ y.get j) := Lib.hid (fun j hj => by
          by_cases h : j < k
          · exact HA.out j h
          · obtain rfl : j = k := by omega
            have := HPQ.out; omega)
        go_wp2
        go_round
        case rel => exact ⟨k + 1, by omega, by go_num, HA2⟩
        case measure => simp [intOf]; omega
    · obtain rfl : k = 4 := by omega
      have HN : Hid (fitsB x y = true) := Lib.hid (by unfold fitsB; rw [any4_no (fun j hj => by have := HA.out j hj; simpa using this)]; rfl)
      go_wp2
      go_ret
      exact ⟨ret_bool HN.out.symm, HB7.out⟩
theorem fits_yes {x y : Am} (h : fitsB x y = true) {k : Nat} (hk : k < 4) : x.get k ≤ y.get k := by
  unfold fitsB at h
  have := any4_false (by simpa using h) hk
  simpa using this
end Go.Proofs.YtmgbailpmcggiaaGreat
