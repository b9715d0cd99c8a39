/- A slice of an object's own that may lie anywhere in its block: load, append, cut. -/
import Derived.Test.YtgcemddobcjpnaaSep
import Derived.Test.YtgcemddobcjpnaaFlat
import Derived.Lib.SliceRun
namespace Go.Proofs.Ytgcemddobcjpnaa
open Go.RowKit

/-- the slice reads as xs, and has its block for itself -/
def OwnO (w : World) (e : TypeId) (size : Nat) (v : Value) (n : Nat) (xs : List Value) : Prop :=
  xs.length = n * size ∧ ∃ g o cap cur, v = .slice (some ⟨g, o, none⟩) n cap ∧ w.heap[g]? = some (.cells cur e (0, 0)) ∧ n ≤ cap ∧ cap ≤ maxLen ∧ o + cap * size ≤ cur.size ∧ (cur.toList.drop o).take (n * size) = xs

variable {w w' : World} {e : TypeId} {size n : Nat} {v : Value} {xs : List Value}
theorem OwnO.of_own {base : Nat} (h : w.ownsRow base e size v n xs) (hv : v ≠ .slice none 0 0) : OwnO w e size v n xs := by
  refine ⟨h.1, ?_⟩
  rcases h.2 with ⟨rfl, -⟩ | ⟨g, cap, cur, rfl, hb, hg, h1, h2, h3, h4⟩
  · exact absurd rfl hv
  · exact ⟨g, 0, cap, cur, rfl, hg, h1, h2, by omega, by simpa using h4⟩
theorem OwnO.shape (h : OwnO w e size v n xs) : ∃ g o c, v = .slice (some ⟨g, o, none⟩) n c ∧ n ≤ c ∧ c ≤ maxLen ∧ g < w.heap.size := by
  obtain ⟨-, g, o, cap, cur, rfl, hg, h1, h2, -⟩ := h
  exact ⟨g, o, cap, rfl, h1, h2, (Array.getElem?_eq_some_iff.1 hg).1⟩
theorem OwnO.lt (h : OwnO w e size v n xs) {g : Nat} (hg : v.ownBlock = some g) : g < w.heap.size := by
  obtain ⟨g', o, c, rfl, -, -, h1⟩ := h.shape
  simp [Value.ownBlock] at hg
  omega
theorem OwnO.fr {S : List Nat} (h : OwnO w e size v n xs) (hf : Fr S w w') (hg : ∀ g, v.ownBlock = some g → g ∉ S) : OwnO w' e size v n xs := by
  obtain ⟨h0, g, o, cap, cur, rfl, hh, rest⟩ := h
  refine ⟨h0, g, o, cap, cur, rfl, ?_, rest⟩
  rw [hf.block g (Array.getElem?_eq_some_iff.1 hh).1 (hg g rfl)]
  exact hh
theorem OwnO.kept (h : OwnO w e size v n xs) (hb : Below w.heap.size w w') : OwnO w' e size v n xs := h.fr (Fr.of_below hb []) (fun _ _ => by simp)
theorem OwnO.cell {g o c : Nat} (h : OwnO w e size (.slice (some ⟨g, o, none⟩) n c) n xs) {j : Nat} {u : Value} (hj : xs[j]? = some u) : w.cell? ⟨g, o + j, none⟩ = some u := by
  obtain ⟨h0, g', o', cap, cur, hv, hh, h1, h2, h3, h4⟩ := h
  simp only [Value.slice.injEq, Option.some.injEq, Addr.mk.injEq, and_true, true_and] at hv
  obtain ⟨⟨rfl, rfl⟩, rfl⟩ := hv
  have hjl : j < n * size := by rw [← h0]; exact (List.getElem?_eq_some_iff.1 hj).1
  rw [cell_of_row _ g (o + j) cur e (0, 0) hh]
  rw [← h4, List.getElem?_take_of_lt hjl, List.getElem?_drop] at hj
  simpa using hj
theorem OwnO.free {g o c : Nat} (h : OwnO w e size (.slice (some ⟨g, o, none⟩) n c) n xs) (j : Nat) : w.frozen? ⟨g, j, none⟩ = false := by
  obtain ⟨-, g', o', cap, cur, hv, hh, -⟩ := h
  simp only [Value.slice.injEq, Option.some.injEq, Addr.mk.injEq, and_true, true_and] at hv
  obtain ⟨⟨rfl, rfl⟩, rfl⟩ := hv
  exact frozen_of_row w g j cur e hh
/-- its first part -/
theorem OwnO.front {g o c : Nat} (h : OwnO w e size (.slice (some ⟨g, o, none⟩) n c) n xs) {m : Nat} (hm : m ≤ n) : OwnO w e size (.slice (some ⟨g, o, none⟩) m c) m (xs.take (m * size)) := by
  obtain ⟨h0, g', o', cap, cur, hv, hh, h1, h2, h3, h4⟩ := h
  simp only [Value.slice.injEq, Option.some.injEq, Addr.mk.injEq, and_true, true_and] at hv
  obtain ⟨⟨rfl, rfl⟩, rfl⟩ := hv
  have hmm : m * size ≤ n * size := Nat.mul_le_mul_right _ hm
  refine ⟨by rw [List.length_take]; omega, g, o, c, cur, rfl, hh, by omega, h2, h3, ?_⟩
  rw [← h4, List.take_take]
  congr 1
  omega
/-- what is left behind its first ones -/
theorem OwnO.back {g o c : Nat} (h : OwnO w e size (.slice (some ⟨g, o, none⟩) n c) n xs) {m : Nat} (hm : m ≤ n) : OwnO w e size (.slice (some ⟨g, o + m * size, none⟩) (n - m) (c - m)) (n - m) (xs.drop (m * size)) := by
  obtain ⟨h0, g', o', cap, cur, hv, hh, h1, h2, h3, h4⟩ := h
  simp only [Value.slice.injEq, Option.some.injEq, Addr.mk.injEq, and_true, true_and] at hv
  obtain ⟨⟨rfl, rfl⟩, rfl⟩ := hv
  have hmm : m * size ≤ n * size := Nat.mul_le_mul_right _ hm
  have e1 : (n - m) * size = n * size - m * size := Nat.sub_mul _ _ _
  have e2 : (c - m) * size = c * size - m * size := Nat.sub_mul _ _ _
  have e3 : m * size ≤ c * size := Nat.mul_le_mul_right _ (by omega)
  refine ⟨by rw [List.length_drop]; omega, g, _, c - m, cur, rfl, hh, by omega, by omega, by omega, ?_⟩
  rw [← h4, List.drop_take, List.drop_drop, e1]
theorem OwnO.empty {g o c : Nat} (h : OwnO w e size (.slice (some ⟨g, o, none⟩) n c) n xs) {q : Nat} (hq : q + (c - n) * size ≤ o + c * size) : OwnO w e size (.slice (some ⟨g, q, none⟩) 0 (c - n)) 0 [] := by
  obtain ⟨h0, g', o', cap, cur, hv, hh, h1, h2, h3, h4⟩ := h
  simp only [Value.slice.injEq, Option.some.injEq, Addr.mk.injEq, and_true, true_and] at hv
  obtain ⟨⟨rfl, rfl⟩, rfl⟩ := hv
  exact ⟨by simp, g, q, c - n, cur, rfl, hh, by omega, by omega, by omega, by simp⟩

section
variable {P : Program}
/-- 'append' onto it, of whatever source -/
theorem run_appO (t tx ty e : TypeId) (i : TypeInfo) (z : Value) (size bytes : Nat) (ht : P.underlying t = some (.slice e)) (hi : P.info? e = some i) (hz : i.zero = some z)
    (hsize : i.size = size) (hby : i.bytes = bytes) (hzs : z.cells.size = size)
    (g o cap n : Nat) (xs : List Value) (hown : OwnO w e size (.slice (some ⟨g, o, none⟩) n cap) n xs)
    (x : Value) (m : Nat) (news : List Value) (hs : Src P size tx x m news w)
    (h63 : n + m ≤ maxLen) (hbytes : (n + m + (n + m) / 4 + 256) * bytes ≤ 281474976710656) :
    ∃ v' w', (Builtin.append_ #[t, tx] ty #[.slice (some ⟨g, o, none⟩) n cap, x]).run P w = .ok v' w' ∧ OwnO w' e size v' (n + m) (xs ++ news) ∧ w.grownBy w' (some g) ∧
      (n + m ≤ cap → v' = .slice (some ⟨g, o, none⟩) (n + m) cap) ∧ (∀ k, v'.ownBlock = some k → k = g ∨ w.heap.size ≤ k) := by
  subst hsize
  subst hby
  have hsmall : ((n + m : Nat) : Int) ≤ 9223372036854775807 := by simp only [maxLen] at h63; omega
  have hl := hs.newsLen
  have hlen : (xs ++ news).length = (n + m) * i.size := by rw [List.length_append, hown.1, hl, Nat.add_mul]
  have hfit : ∀ old, old < n + m → Builtin.nextslicecap (n + m) old * i.bytes ≤ 281474976710656 := fun old h =>
    Nat.le_trans (Nat.mul_le_mul_right _ (nsc_le h)) hbytes
  have hcell := fun j u => hown.cell (j := j) (u := u)
  obtain ⟨h0, g', o', cap', cur, hv, hg, hnc, hcm, hcs, htake⟩ := hown
  simp only [Value.slice.injEq, Option.some.injEq, Addr.mk.injEq, and_true, true_and] at hv
  obtain ⟨⟨rfl, rfl⟩, rfl⟩ := hv
  by_cases hroom : n + m ≤ cap
  · have hnm : n * i.size + news.length ≤ cap * i.size := by rw [hl, ← Nat.add_mul]; exact Nat.mul_le_mul_right _ hroom
    have hfitc : o + n * i.size + news.length ≤ cur.size := by omega
    have hst := run_storeCells_at P g (o + n * i.size) e news 0 cur w hg (by simpa using hfitc) hs.one
    simp only [Nat.add_zero] at hst
    have hr : (Builtin.append_ #[t, tx] ty #[.slice (some ⟨g, o, none⟩) n cap, x]).run P w =
        .ok (.slice (some ⟨g, o, none⟩) (n + m) cap) (w.setRow g (cur.toList.take (o + n * i.size) ++ news ++ cur.toList.drop (o + n * i.size + news.length)).toArray) := by
      rcases hs.kind with ⟨e', hk⟩ | hk <;> simp [Builtin.append_, run_underlying ht, run_underlying hk, sizeOf, typeInfo, hi, hs.len, hroom, hs.cells, add_off, hst]
    refine ⟨_, _, hr, ⟨hlen, g, o, cap, _, rfl, setRow_heap w g cur _ e _ hg, hroom, hcm, ?_, ?_⟩, ⟨rfl, rfl, rfl, by simp, fun k _ hk => setRow_other w g k _ (fun e => hk (by simp [e]))⟩, fun _ => rfl, fun k hk => .inl (by simp [Value.ownBlock] at hk; exact hk.symm)⟩
    · simp only [List.size_toArray, List.length_append, List.length_take, List.length_drop, Array.length_toList]
      omega
    · have hlt : (cur.toList.take (o + n * i.size)).length = o + n * i.size := by rw [List.length_take, Array.length_toList]; omega
      simp only []
      rw [← hlen, List.append_assoc, List.drop_append, List.take_append]
      have e1 : o - (cur.toList.take (o + n * i.size)).length = 0 := by omega
      have e2 : ((cur.toList.take (o + n * i.size)).drop o) = xs := by rw [List.drop_take, ← htake]; congr 1; omega
      rw [e1, e2, List.drop_zero, List.take_of_length_le (by rw [List.length_append]; omega), List.length_append, List.take_append, List.take_of_length_le (by omega)]
      have e3 : xs.length + news.length - xs.length - news.length = 0 := by omega
      rw [e3, List.take_zero, List.append_nil]
  · have hr := run_append_grow_src (P := P) w t tx ty e i z ht hi hz (some ⟨g, o, none⟩) n cap xs (run_firstCells_some w.drew i.size n ⟨g, o, none⟩ n cap xs h0 (fun j u hj => by rw [add_off]; exact hcell j u hj)) x m news hs (by omega) hsmall (hfit cap (by omega))
    have hge := grownCap_ge w (n + m) cap e
    have hcm2 : grownCap w (n + m) cap e ≤ maxLen := grownCap_le_maxLen w (n + m) cap e h63
    refine ⟨_, _, hr, ⟨hlen, w.heap.size, 0, _, _, rfl, heap_alloc_new w.drew _, hge, hcm2, ?_, ?_⟩, ⟨rfl, rfl, rfl, by simp, fun k hk _ => Below.heap_alloc w.drew _ k hk⟩, fun h => absurd h hroom, fun k hk => .inr (by simp [Value.ownBlock] at hk; omega)⟩
    · simp only [Array.size_append, List.size_toArray, size_zeroCells, hzs, hlen, ← Nat.add_mul, Nat.zero_add]
      exact Nat.mul_le_mul_right _ (by omega)
    · simp only [Array.toList_append, List.drop_zero]
      rw [← hlen]
      exact List.take_left

theorem step_appO {ops : Array Oper} {o : Oper} {a : Act} {K : Act → World → Prop} {Q : Exit → Act → World → Prop} {E : Prop} (hgd : o.guard = none) (s x : Operand) (t tx : TypeId)
    (ho : o.op = .call { callee := .builtin .append, args := #[s, x], argTypes := #[t, tx] })
    (e : TypeId) (i : TypeInfo) (z : Value) (size bytes : Nat) (ht : P.underlying t = some (.slice e)) (hi : P.info? e = some i) (hz : i.zero = some z)
    (hsize : i.size = size) (hby : i.bytes = bytes) (hzs : z.cells.size = size)
    (g off cap n : Nat) (xs : List Value) (hv : a.eval s = .slice (some ⟨g, off, none⟩) n cap) (hown : OwnO w e size (.slice (some ⟨g, off, none⟩) n cap) n xs)
    (xv : Value) (m : Nat) (news : List Value) (hx : a.eval x = xv) (hs : Src P size tx xv m news w)
    (h63 : n + m ≤ maxLen) (hbytes : (n + m + (n + m) / 4 + 256) * bytes ≤ 281474976710656)
    (h : ∀ v' w', OwnO w' e size v' (n + m) (xs ++ news) → w.grownBy w' (some g) → (n + m ≤ cap → v' = .slice (some ⟨g, off, none⟩) (n + m) cap) → (∀ k, v'.ownBlock = some k → k = g ∨ w.heap.size ≤ k) → K (a.put o.dst v') w') :
    if Region.wanted o (yielded ops a.tmps) = true then Oper.wp P o a w K Q else E := by
  have hw : Region.wanted o (yielded ops a.tmps) = true := by simp [Region.wanted, hgd]
  rw [if_pos hw]
  obtain ⟨v', w', hr, h2, h3, h4, h5⟩ := run_appO (P := P) t tx o.type e i z size bytes ht hi hz hsize hby hzs g off cap n xs hown xv m news hs h63 hbytes
  unfold Oper.wp execOp
  simp only [ho, resolve, invoke, builtin, Sem.run_bind, Sem.run_pure, Result.andThen_ok, List.map_toArray, List.map_cons, List.map_nil, hv, hx, hr]
  exact h _ _ h2 h3 h4 h5

theorem wpList_appO {ops : Array Oper} {rest : List Oper} {o : Oper} {a : Act} {Q : Exit → Act → World → Prop} (hgd : o.guard = none) (s x : Operand) (t tx : TypeId)
    (ho : o.op = .call { callee := .builtin .append, args := #[s, x], argTypes := #[t, tx] })
    (e : TypeId) (i : TypeInfo) (z : Value) (size bytes : Nat) (ht : P.underlying t = some (.slice e)) (hi : P.info? e = some i) (hz : i.zero = some z)
    (hsize : i.size = size) (hby : i.bytes = bytes) (hzs : z.cells.size = size)
    (g off cap n : Nat) (xs : List Value) (hv : a.eval s = .slice (some ⟨g, off, none⟩) n cap) (hown : OwnO w e size (.slice (some ⟨g, off, none⟩) n cap) n xs)
    (xv : Value) (m : Nat) (news : List Value) (hx : a.eval x = xv) (hs : Src P size tx xv m news w)
    (h63 : n + m ≤ maxLen) (hbytes : (n + m + (n + m) / 4 + 256) * bytes ≤ 281474976710656)
    (h : ∀ v' w', OwnO w' e size v' (n + m) (xs ++ news) → w.grownBy w' (some g) → (n + m ≤ cap → v' = .slice (some ⟨g, off, none⟩) (n + m) cap) → (∀ k, v'.ownBlock = some k → k = g ∨ w.heap.size ≤ k) → wpList P ops Q rest (a.put o.dst v') w') : wpList P ops Q (o :: rest) a w := by
  refine wpList_plain hgd fun K hK => ?_
  obtain ⟨v', w', hr, h2, h3, h4, h5⟩ := run_appO (P := P) t tx o.type e i z size bytes ht hi hz hsize hby hzs g off cap n xs hown xv m news hs h63 hbytes
  unfold Oper.wp execOp
  simp only [ho, resolve, invoke, builtin, Sem.run_bind, Sem.run_pure, Result.andThen_ok, List.map_toArray, List.map_cons, List.map_nil, hv, hx, hr]
  exact hK _ _ (h v' w' h2 h3 h4 h5)

/-- the slice as a source -/
theorem OwnO.src {g o c : Nat} (h : OwnO w e size (.slice (some ⟨g, o, none⟩) n c) n xs) {t : TypeId} (ht : P.underlying t = some (.slice e)) (h1 : ∀ u ∈ xs, u.oneCell' = true) : Src P size t (.slice (some ⟨g, o, none⟩) n c) n xs w :=
  Src.ofSlice _ ht _ n c xs h.1 (fun j x hj => by rw [add_off]; exact h.cell hj) h1

/-- 'clear' of one element of several cells -/
theorem run_clear_one (w : World) (t e ty : TypeId) (z : Value) (ht : P.underlying t = some (.slice e)) (hv : ∀ w, (zeroValue e).run P w = .ok z w) (h1 : ∀ u ∈ z.cells.toList, u.oneCell' = true) (b o c : Nat)
    (hc : ∀ j, j < z.cells.size → (w.cell? ⟨b, o + j, none⟩).isSome = true) (hf : ∀ j, j < z.cells.size → w.frozen? ⟨b, o + j, none⟩ = false) :
    (Builtin.clear_ #[t] ty #[.slice (some ⟨b, o, none⟩) 1 c]).run P w = .ok (.tuple #[]) (w.setCells b o z.cells.toList) := by
  have hzc : (Builtin.zeroCells z.cells 1).toList = z.cells.toList := by
    simp only [Builtin.zeroCells]
    apply List.ext_getElem
    · simp
    · intro i h1 h2
      simp at h1
      simp [Nat.mod_eq_of_lt (show i < z.cells.size by omega)]
      rw [getElem!_pos z.cells i h1]
  have hst := run_storeCells_cells (P := P) b o z.cells.toList 0 w (by simpa using hc) (by simpa using hf) h1
  simp only [Nat.add_zero] at hst
  simp [Builtin.clear_, run_underlying ht, hv, hzc, hst]
end
theorem OwnO.setCells {g o c : Nat} : ∀ (us : List Value) (q : Nat) (w : World) (xs : List Value), OwnO w e size (.slice (some ⟨g, o, none⟩) n c) n xs → o + n * size ≤ q → OwnO (w.setCells g q us) e size (.slice (some ⟨g, o, none⟩) n c) n xs
  | [], _, _, _, h, _ => h
  | u :: us, q, w, xs, h, hq => by
    refine OwnO.setCells us (q + 1) _ xs ?_ (by omega)
    obtain ⟨h0, g', o', cap, cur, hv, hh, h1, h2, h3, h4⟩ := h
    simp only [Value.slice.injEq, Option.some.injEq, Addr.mk.injEq, and_true, true_and] at hv
    obtain ⟨⟨rfl, rfl⟩, rfl⟩ := hv
    refine ⟨h0, g, o, c, cur.setIfInBounds q u, rfl, ?_, h1, h2, by simpa using h3, ?_⟩
    · rw [heap_setCell_same w g q cur e u hh]
    · rw [Array.toList_setIfInBounds, List.drop_set, if_neg (by omega), List.take_set_of_le (by omega)]
      exact h4
end Go.Proofs.Ytgcemddobcjpnaa
