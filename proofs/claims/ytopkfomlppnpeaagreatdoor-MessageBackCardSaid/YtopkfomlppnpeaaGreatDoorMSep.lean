/- , laid together: Sep, Flat. -/
import Derived.Test.YtopkfomlppnpeaaGreatDoorLib2
import Derived.Deep.RegionLaw
namespace Go.Proofs.YtopkfomlppnpeaaGreatDoor
open Go.RowKit

/-- nothing but the blocks of S has turned of what was there -/
structure Fr (S : List Nat) (w w' : World) : Prop where
  os : w'.os = w.os
  tape : w'.tape = w.tape
  output : w'.output = w.output
  size : w.heap.size ≤ w'.heap.size
  block : ∀ k, k < w.heap.size → k ∉ S → w'.heap[k]? = w.heap[k]?

theorem Fr.refl (S : List Nat) (w : World) : Fr S w w := ⟨rfl, rfl, rfl, Nat.le_refl _, fun _ _ _ => rfl⟩
theorem Fr.trans {S T : List Nat} {a b c : World} (h : Fr S a b) (k : Fr T b c) (hs : ∀ x ∈ T, x ∈ S ∨ a.heap.size ≤ x) : Fr S a c :=
  ⟨k.os.trans h.os, k.tape.trans h.tape, k.output.trans h.output, Nat.le_trans h.size k.size, fun x hx hn =>
    (k.block x (Nat.lt_of_lt_of_le hx h.size) (fun ht => by rcases hs x ht with h1 | h1; exact hn h1; omega)).trans (h.block x hx hn)⟩
theorem Fr.mono {S T : List Nat} {a b : World} (h : Fr S a b) (hs : ∀ x ∈ S, x ∈ T) : Fr T a b :=
  ⟨h.os, h.tape, h.output, h.size, fun x hx hn => h.block x hx fun k => hn (hs x k)⟩
theorem Fr.then {S : List Nat} {a b c : World} (h : Fr S a b) (k : Fr S b c) : Fr S a c := h.trans k fun _ hx => .inl hx
theorem Fr.of_below {w w' : World} (h : Below w.heap.size w w') (S : List Nat) : Fr S w w' := ⟨h.os, h.tape, h.output, h.size, fun k hk _ => h.block k hk⟩
theorem Fr.of_grown {w w' : World} {row : Option Nat} (h : w.grownBy w' row) : Fr row.toList w w' :=
  ⟨h.os, h.tape, h.output, h.size, fun k hk hn => h.block k hk (fun e => hn (by rw [← e]; simp))⟩
theorem Fr.below {n : Nat} {S : List Nat} {w w' : World} (h : Fr S w w') (hS : ∀ x ∈ S, n ≤ x) (hn : n ≤ w.heap.size) : Below n w w' :=
  ⟨h.os, h.tape, h.output, h.size, fun k hk => h.block k (by omega) fun hs => by have := hS k hs; omega⟩
theorem Fr.alloc {S : List Nat} {a w : World} (h : Fr S a w) (o : Obj) : Fr S a (w.alloc o) := h.then (Fr.of_below (below_alloc w o) S)
theorem Fr.draw {S : List Nat} {a w : World} (h : Fr S a w) (n : Nat) : Fr S a (w.drewN n) := h.then (Fr.of_below (below_drewN n) S)
theorem Fr.set {S : List Nat} {a w : World} (h : Fr S a w) {p : Addr} (hp : p.block ∈ S) (u : Value) : Fr S a (w.setCell p u) :=
  h.then ⟨rfl, rfl, rfl, by simp [World.setCell], fun k _ hk => by
    have : k ≠ p.block := fun e => hk (e ▸ hp)
    exact Below.heap_setCell _ _ _ _ this⟩

theorem Blk.fr {S : List Nat} {w w' : World} {g : Nat} {cs : List Value} {t : TypeId} (h : Blk w g cs t) (hf : Fr S w w') (hg : g ∉ S) : Blk w' g cs t := by
  have h1 := hf.block g h.lt hg
  unfold Blk at *
  rw [h1]
  exact h

theorem own_fr {S : List Nat} {w w' : World} {base : Nat} {e : TypeId} {size : Nat} {v : Value} {n : Nat} {xs : List Value} (h : w.ownsRow base e size v n xs) (hf : Fr S w w') (hg : ∀ g, v.ownBlock = some g → g ∉ S) : w'.ownsRow base e size v n xs := by
  refine ⟨h.1, ?_⟩
  rcases h.2 with hn | ⟨g, cap, cur, rfl, hb, hgg, rest⟩
  · exact .inl hn
  · refine .inr ⟨g, cap, cur, rfl, hb, ?_, rest⟩
    rw [hf.block g (Array.getElem?_eq_some_iff.1 hgg).1 (hg g rfl)]
    exact hgg
theorem cell_fr {S : List Nat} {w w' : World} {a : Addr} {v : Value} (h : w.cell? a = some v) (hf : Fr S w w') (hg : a.block ∉ S) : w'.cell? a = some v :=
  (World.cell?_of_block (hf.block a.block (World.block_lt_of_cell? w a h) hg)).trans h

/-- 'append' as one operation, in a region that draws its order -/
theorem step_app {P : Program} {ops : Array Oper} {o : Oper} {a : Act} {w : World} {K : Act → World → Prop} {Q : Exit → Act → World → Prop} {E : Prop} (hgd : o.guard = none) (s x : Operand) (t tx : TypeId)
    (ho : o.op = .call { callee := .builtin .append, args := #[s, x], argTypes := #[t, tx] })
    (base : Nat) (e : TypeId) (i : TypeInfo) (z : Value) (size bytes : Nat) (ht : P.underlying t = some (.slice e)) (hi : P.info? e = some i) (hz : i.zero = some z)
    (hsize : i.size = size) (hby : i.bytes = bytes) (hzs : z.cells.size = size)
    (v : Value) (n : Nat) (xs : List Value) (hv : a.eval s = v) (hown : w.ownsRow base e size v n xs)
    (xv : Value) (m : Nat) (news : List Value) (hx : a.eval x = xv) (hs : Src P size tx xv m news w)
    (h63 : n + m ≤ maxLen) (hbytes : (n + m + (n + m) / 4 + 256) * bytes ≤ 281474976710656) (hbase : base ≤ w.heap.size)
    (h : ∀ v' w', w'.ownsRow base e size v' (n + m) (xs ++ news) → w.grownBy w' v.ownBlock → (v' = .slice none 0 0 ↔ v = .slice none 0 0 ∧ m = 0) → (∀ k, v'.ownBlock = some k → v.ownBlock = some k ∨ w.heap.size ≤ k) → K (a.put o.dst v') w') :
    if Region.wanted o (yielded ops a.tmps) = true then Oper.wp P o a w K Q else E := by
  have hw : Region.wanted o (yielded ops a.tmps) = true := by simp [Region.wanted, hgd]
  rw [if_pos hw]
  obtain ⟨v', w', hr, h2, h3, h4, h5⟩ := run_app (P := P) w base t tx o.type e i z size bytes ht hi hz hsize hby hzs v n xs hown xv m news hs h63 hbytes hbase
  unfold Oper.wp execOp
  simp only [ho, resolve, invoke, builtin, Sem.run_bind, Sem.run_pure, Result.andThen_ok, List.map_toArray, List.map_cons, List.map_nil, hv, hx, hr]
  exact h _ _ h2 h3 h4 h5

/-- one struct, as the source of an append -/
theorem src_block {P : Program} {t e e' : TypeId} {size : Nat} (ht : P.underlying t = some (.slice e)) (w : World) (g : Nat) (us : Array Value) (hg : w.heap[g]? = some (.cells us e' (0, 0))) (hl : us.size = size) (h1 : ∀ u ∈ us.toList, u.oneCell' = true) :
    Src P size t (.slice (some ⟨g, 0, none⟩) 1 1) 1 us.toList w := by
  refine Src.ofSlice _ ht _ 1 1 us.toList (by simp; omega) (fun j x hj => ?_) h1
  rw [add_off, cell_of_row _ g (0 + j) us e' (0, 0) hg]
  simpa using hj

theorem own_slice {w : World} {base : Nat} {e : TypeId} {size : Nat} {v : Value} {n : Nat} {xs : List Value} (h : w.ownsRow base e size v n xs) : ∃ p c, v = .slice p n c ∧ n ≤ c ∧ c ≤ maxLen := by
  rcases h.2 with ⟨rfl, rfl⟩ | ⟨g, cap, cur, rfl, -, -, h1, h2, -⟩
  · exact ⟨none, 0, rfl, Nat.le_refl _, by simp [maxLen]⟩
  · exact ⟨_, cap, rfl, h1, h2⟩

/-- one cell of a row of the call's own is stored -/
theorem own_set {w : World} {base : Nat} {e : TypeId} {size g n cap : Nat} {xs : List Value} (h : w.ownsRow base e size (.slice (some ⟨g, 0, none⟩) n cap) n xs) {k : Nat} (hk : k < n * size) (u : Value) :
    (w.setCell ⟨g, k, none⟩ u).ownsRow base e size (.slice (some ⟨g, 0, none⟩) n cap) n (xs.set k u) := by
  obtain ⟨h1, h2⟩ := h
  refine ⟨by simpa using h1, ?_⟩
  rcases h2 with ⟨h2, -⟩ | ⟨g', cap', cur, hv, hb, hh, hn, hc, hs, ht⟩
  · cases h2
  · simp only [Value.slice.injEq, Option.some.injEq, Addr.mk.injEq, true_and, and_true] at hv
    obtain ⟨rfl, rfl⟩ := hv
    have hm : n * size ≤ cap * size := Nat.mul_le_mul_right _ hn
    refine .inr ⟨g, cap, cur.setIfInBounds k u, rfl, hb, ?_, hn, hc, by simpa using hs, ?_⟩
    · have := heap_setCell_same w g k cur e u hh
      rw [this]
    · rw [← ht]
      simp only [Array.toList_setIfInBounds]
      rw [List.take_set]

/-- a shorter slice of it -/
theorem own_cut {w : World} {base : Nat} {e : TypeId} {size g n cap : Nat} {xs : List Value} (h : w.ownsRow base e size (.slice (some ⟨g, 0, none⟩) n cap) n xs) {m : Nat} (hm : m ≤ n) :
    w.ownsRow base e size (.slice (some ⟨g, 0, none⟩) m cap) m (xs.take (m * size)) := by
  obtain ⟨h1, h2⟩ := h
  have hmm : m * size ≤ n * size := Nat.mul_le_mul_right _ hm
  refine ⟨by rw [List.length_take]; omega, ?_⟩
  rcases h2 with ⟨h2, -⟩ | ⟨g', cap', cur, hv, hb, hh, hn, hc, hs, ht⟩
  · cases h2
  · simp only [Value.slice.injEq, Option.some.injEq, Addr.mk.injEq, true_and, and_true] at hv
    obtain ⟨rfl, rfl⟩ := hv
    refine .inr ⟨g, cap, cur, rfl, hb, hh, by omega, hc, hs, ?_⟩
    rw [← ht, List.take_take]
    congr 1
    omega

/-- a row with something in it has a block -/
theorem own_block {w : World} {base : Nat} {e : TypeId} {size n : Nat} {v : Value} {xs : List Value} (h : w.ownsRow base e size v n xs) (hn : 0 < n) : ∃ g cap, v = .slice (some ⟨g, 0, none⟩) n cap ∧ n ≤ cap ∧ cap ≤ maxLen ∧ g < w.heap.size := by
  rcases h.2 with ⟨rfl, rfl⟩ | ⟨g, cap, cur, rfl, -, hh, h1, h2, -⟩
  · omega
  · exact ⟨g, cap, rfl, h1, h2, (Array.getElem?_eq_some_iff.1 hh).1⟩
theorem own_cell {w : World} {base : Nat} {e : TypeId} {size g n cap : Nat} {xs : List Value} (h : w.ownsRow base e size (.slice (some ⟨g, 0, none⟩) n cap) n xs) {j : Nat} {u : Value} (hj : xs[j]? = some u) : w.cell? ⟨g, j, none⟩ = some u := by
  have := h.cells (g := g) rfl j u hj
  rw [add_off] at this
  simpa using this
theorem own_free {w : World} {base : Nat} {e : TypeId} {size g n cap : Nat} {xs : List Value} (h : w.ownsRow base e size (.slice (some ⟨g, 0, none⟩) n cap) n xs) (j : Nat) : w.frozen? ⟨g, j, none⟩ = false := by
  rcases h.2 with ⟨h2, -⟩ | ⟨g', cap', cur, hv, hb, hh, -⟩
  · cases h2
  · simp only [Value.slice.injEq, Option.some.injEq, Addr.mk.injEq, true_and, and_true] at hv
    obtain ⟨rfl, rfl⟩ := hv
    exact frozen_of_row w g j cur e hh
theorem own_other {w : World} {base : Nat} {e : TypeId} {size n : Nat} {v : Value} {xs : List Value} (h : w.ownsRow base e size v n xs) {p : Addr} (hp : v.ownBlock ≠ some p.block) (u : Value) : (w.setCell p u).ownsRow base e size v n xs := by
  refine ⟨h.1, ?_⟩
  rcases h.2 with hn | ⟨g, cap, cur, rfl, hb, hgg, rest⟩
  · exact .inl hn
  · refine .inr ⟨g, cap, cur, rfl, hb, ?_, rest⟩
    rw [Below.heap_setCell _ _ _ _ (fun e => hp (by simp [Value.ownBlock, e]))]
    exact hgg

/-- a function without results falls off its end -/
theorem end0 {P : Program} {fn : Func} {R : Ending → World → Prop} {a : Act} {w : World} (hr : fn.results = #[]) (hd : a.defers = []) (hR : R (.returned (.tuple #[])) w) : bodyPost P fn R .normal a w := by
  refine ⟨hd, _, ?_, hR⟩
  simp [results, hr]
theorem end0r {P : Program} {fn : Func} {R : Ending → World → Prop} {a : Act} {w : World} (hr : fn.results = #[]) (hd : a.defers = []) (hR : R (.returned (.tuple #[])) w) : bodyPost P fn R .ret a w := by
  refine ⟨hd, _, ?_, hR⟩
  simp [results, hr]

theorem load_cell {P : Program} {a : Addr} {v : Value} {w : World} (h : w.cell? a = some v) : (load a).run P w = .ok v w := by
  rw [run_load]
  simp [h]

theorem wrap_nil {P : Program} (t : TypeId) (a : Addr) (n : String) (w : World) : (Builtin.ssaWrapNilChk_ #[t] t #[.pointer (some a), strVal "", strVal n]).run P w = .ok (.pointer (some a)) w := rfl

/-- a value method, found at a pointer in an interface value: its receiver is loaded -/
theorem method_load {P : Program} {t e : TypeId} {name : String} {f : FuncId} {a : Addr} {v : Value} {w : World} (fuel : Nat)
    (hm : ((P.info? t).bind fun i => (i.methods.find? fun m => m.name == name).map fun m => (m.path.toList, m.func)) = some ([], some (f, false)))
    (hu : P.underlying t = some (.pointer e)) (ha : (isAgg e).run P w = .ok false w) (hc : w.cell? a = some v) :
    (method (fuel + 1) t (.pointer (some a)) name).run P w = .ok (f, v) w := by
  cases hi : P.info? t with
  | none => rw [hi] at hm; cases hm
  | some i =>
    rw [hi] at hm
    simp only [Option.bind_some] at hm
    cases hf : i.methods.find? (fun m => m.name == name) with
    | none => rw [hf] at hm; cases hm
    | some m =>
      rw [hf] at hm
      simp only [Option.map_some, Option.some.injEq, Prod.mk.injEq] at hm
      obtain ⟨h1, h2⟩ := hm
      have h3 : m.path = #[] := by cases hp : m.path with | mk l => rw [hp] at h1; simp at h1; rw [h1]
      unfold method
      simp [typeInfo, hi, hf, h2, h3, follow, receiverAt, run_underlying hu, Place.get, wrap_nil, loadVar, ha, asAddr, load_cell hc, Result.andThen]

/-- 'append' in a plain region; where the row lies behind it is told too -/
theorem wpList_app5 {P : Program} {ops : Array Oper} {rest : List Oper} {o : Oper} {a : Act} {w : World} {Q : Exit → Act → World → Prop} (hgd : o.guard = none) (s x : Operand) (t tx : TypeId)
    (ho : o.op = .call { callee := .builtin .append, args := #[s, x], argTypes := #[t, tx] })
    (base : Nat) (e : TypeId) (i : TypeInfo) (z : Value) (size bytes : Nat) (ht : P.underlying t = some (.slice e)) (hi : P.info? e = some i) (hz : i.zero = some z)
    (hsize : i.size = size) (hby : i.bytes = bytes) (hzs : z.cells.size = size)
    (v : Value) (n : Nat) (xs : List Value) (hv : a.eval s = v) (hown : w.ownsRow base e size v n xs)
    (xv : Value) (m : Nat) (news : List Value) (hx : a.eval x = xv) (hs : Src P size tx xv m news w)
    (h63 : n + m ≤ maxLen) (hbytes : (n + m + (n + m) / 4 + 256) * bytes ≤ 281474976710656) (hbase : base ≤ w.heap.size)
    (h : ∀ v' w', w'.ownsRow base e size v' (n + m) (xs ++ news) → w.grownBy w' v.ownBlock → (∀ k, v'.ownBlock = some k → v.ownBlock = some k ∨ w.heap.size ≤ k) → wpList P ops Q rest (a.put o.dst v') w') : wpList P ops Q (o :: rest) a w := by
  refine wpList_plain hgd fun K hK => ?_
  obtain ⟨v', w', hr, h2, h3, -, h5⟩ := run_app (P := P) w base t tx o.type e i z size bytes ht hi hz hsize hby hzs v n xs hown xv m news hs h63 hbytes hbase
  unfold Oper.wp execOp
  simp only [ho, resolve, invoke, builtin, Sem.run_bind, Sem.run_pure, Result.andThen_ok, List.map_toArray, List.map_cons, List.map_nil, hv, hx, hr]
  exact hK _ _ (h v' w' h2 h3 h5)
end Go.Proofs.YtopkfomlppnpeaaGreatDoor

namespace Go.Proofs.YtopkfomlppnpeaaGreatDoor
open Go.RowKit

section
variable {α : Type} {c : α → List Value} {n : Nat}
theorem flat_len (h : ∀ x, (c x).length = n) : ∀ L : List α, (L.flatMap c).length = L.length * n
  | [] => by simp
  | x :: L => by
    rw [List.flatMap_cons, List.length_append, h, flat_len h L, List.length_cons, Nat.add_mul]
    omega
theorem flat_at (h : ∀ x, (c x).length = n) : ∀ (L : List α) (k : Nat) (hk : k < L.length) (j : Nat), j < n → (L.flatMap c)[k * n + j]? = (c L[k])[j]?
  | [], k, hk, _, _ => absurd hk (Nat.not_lt_zero _)
  | x :: L, 0, _, j, hj => by
    rw [List.flatMap_cons, Nat.zero_mul, Nat.zero_add, List.getElem?_append_left (by rw [h]; exact hj)]
    rfl
  | x :: L, k + 1, hk, j, hj => by
    rw [List.flatMap_cons, List.getElem?_append_right (by rw [h, Nat.add_mul]; omega), h, show (k + 1) * n + j - n = k * n + j from by rw [Nat.add_mul]; omega]
    exact flat_at h L k (by simpa using hk) j hj
theorem flat_snoc (L : List α) (x : α) : (L ++ [x]).flatMap c = L.flatMap c ++ c x := by
  rw [List.flatMap_append, List.flatMap_cons, List.flatMap_nil, List.append_nil]
theorem flat_take {L : List α} {x : α} {k : Nat} (hlt : k < L.length) (hx : x = L[k]) : (L.take (k + 1)).flatMap c = (L.take k).flatMap c ++ c x := by
  rw [List.take_succ_eq_append_getElem hlt, ← hx, flat_snoc]
theorem flat_one (h1 : ∀ x, ∀ u ∈ c x, u.oneCell' = true) (L : List α) : ∀ u ∈ L.flatMap c, u.oneCell' = true := by
  intro u hu
  obtain ⟨x, -, hx⟩ := List.mem_flatMap.1 hu
  exact h1 x u hx
theorem flat_takeN (h : ∀ x, (c x).length = n) : ∀ (L : List α) (k : Nat), (L.flatMap c).take (k * n) = (L.take k).flatMap c
  | [], k => by simp
  | x :: L, 0 => by simp
  | x :: L, k + 1 => by
    rw [List.flatMap_cons, List.take_succ_cons, List.flatMap_cons, List.take_append, h, List.take_of_length_le (by rw [h, Nat.add_mul]; omega), show (k + 1) * n - n = k * n from by rw [Nat.add_mul]; omega, flat_takeN h L k]
theorem flat_dropN (h : ∀ x, (c x).length = n) : ∀ (L : List α) (k : Nat), (L.flatMap c).drop (k * n) = (L.drop k).flatMap c
  | [], k => by simp
  | x :: L, 0 => by simp
  | x :: L, k + 1 => by
    rw [List.flatMap_cons, List.drop_succ_cons, List.drop_append, h, List.drop_of_length_le (by rw [h, Nat.add_mul]; omega), show (k + 1) * n - n = k * n from by rw [Nat.add_mul]; omega, flat_dropN h L k, List.nil_append]
end
/-- a run of cells, written over -/
def setRun (l : List Value) (o : Nat) : List Value → List Value
  | [] => l
  | u :: us => setRun (l.set o u) (o + 1) us
theorem setRun_append_right : ∀ (us : List Value) (a b : List Value) (o : Nat), a.length ≤ o → setRun (a ++ b) o us = a ++ setRun b (o - a.length) us
  | [], _, _, _, _ => rfl
  | u :: us, a, b, o, h => by
    unfold setRun
    rw [List.set_append_right _ _ h, setRun_append_right us a _ (o + 1) (by omega)]
    rw [show o + 1 - a.length = o - a.length + 1 from by omega]
theorem setRun_whole : ∀ (us c r : List Value), c.length = us.length → setRun (c ++ r) 0 us = us ++ r := by
  suffices h : ∀ (us p c r : List Value), c.length = us.length → setRun (p ++ (c ++ r)) p.length us = p ++ (us ++ r) by
    intro us c r hc
    simpa using h us [] c r hc
  intro us
  induction us with
  | nil =>
    intro p c r hc
    have : c = [] := List.eq_nil_of_length_eq_zero hc
    subst this
    rfl
  | cons u us ih =>
    intro p c r hc
    match c, hc with
    | x :: c, hc =>
      unfold setRun
      rw [List.set_append_right _ _ (Nat.le_refl _), Nat.sub_self]
      show setRun (p ++ (u :: (c ++ r))) (p.length + 1) us = _
      have := ih (p ++ [u]) c r (by simpa using hc)
      simpa using this
/-- one record written over -/
theorem flat_set {α : Type} {c : α → List Value} {n : Nat} (h : ∀ x, (c x).length = n) (y : α) : ∀ (L : List α) (k : Nat), k < L.length → setRun (L.flatMap c) (k * n) (c y) = (L.set k y).flatMap c
  | [], k, hk => absurd hk (Nat.not_lt_zero _)
  | x :: L, 0, _ => by
    rw [List.flatMap_cons, List.set_cons_zero, List.flatMap_cons, Nat.zero_mul]
    exact setRun_whole _ _ _ (by rw [h, h])
  | x :: L, k + 1, hk => by
    rw [List.flatMap_cons, List.set_cons_succ, List.flatMap_cons, setRun_append_right _ _ _ _ (by rw [h, Nat.add_mul]; omega), h, show (k + 1) * n - n = k * n from by rw [Nat.add_mul]; omega]
    rw [flat_set h y L k (by simpa using hk)]
theorem own_setRun {base : Nat} {e : TypeId} {size g n cap : Nat} : ∀ (us : List Value) (o : Nat) (w : World) (xs : List Value), w.ownsRow base e size (.slice (some ⟨g, 0, none⟩) n cap) n xs → o + us.length ≤ n * size →
    (w.setCells g o us).ownsRow base e size (.slice (some ⟨g, 0, none⟩) n cap) n (setRun xs o us)
  | [], _, _, _, h, _ => h
  | u :: us, o, w, xs, h, hl => own_setRun us (o + 1) _ _ (own_set h (by simp only [List.length_cons] at hl; omega) u) (by simp only [List.length_cons] at hl; omega)
theorem setRun_take : ∀ (us xs : List Value) (o m : Nat), m ≤ o → (setRun xs o us).take m = xs.take m
  | [], _, _, _, _ => rfl
  | u :: us, xs, o, m, h => by
    unfold setRun
    rw [setRun_take us _ (o + 1) m (by omega), List.take_set_of_le h]
theorem fr_setCells {S : List Nat} {g : Nat} (hg : g ∈ S) : ∀ (us : List Value) (o : Nat) (a w : World), Fr S a w → Fr S a (w.setCells g o us)
  | [], _, _, _, h => h
  | u :: us, o, a, w, h => fr_setCells hg us (o + 1) a _ (h.set (p := ⟨g, o, none⟩) hg u)
theorem own_lo {w : World} {base : Nat} {e : TypeId} {size : Nat} {v : Value} {n : Nat} {xs : List Value} (h : w.ownsRow base e size v n xs) {g : Nat} (hg : v.ownBlock = some g) : base ≤ g := by
  rcases h.2 with ⟨rfl, -⟩ | ⟨g', cap, cur, rfl, hb, -⟩
  · cases hg
  · cases hg
    exact hb
theorem own_mono {w : World} {base base' : Nat} {e : TypeId} {size : Nat} {v : Value} {n : Nat} {xs : List Value} (h : w.ownsRow base e size v n xs) (hb : base' ≤ base) : w.ownsRow base' e size v n xs := by
  refine ⟨h.1, ?_⟩
  rcases h.2 with hn | ⟨g, cap, cur, hv, hbg, rest⟩
  · exact .inl hn
  · exact .inr ⟨g, cap, cur, hv, Nat.le_trans hb hbg, rest⟩
theorem own_hi {w : World} {base : Nat} {e : TypeId} {size n : Nat} {v : Value} {xs : List Value} (h : w.ownsRow base e size v n xs) {g : Nat} (hg : v.ownBlock = some g) : g < w.heap.size := by
  rcases h.2 with ⟨rfl, -⟩ | ⟨g', cap, cur, rfl, -, hh, -⟩
  · cases hg
  · cases hg
    exact (Array.getElem?_eq_some_iff.1 hh).1
theorem own_keep {w w' : World} {base : Nat} {e : TypeId} {size : Nat} {v : Value} {n : Nat} {xs : List Value} (h : w.ownsRow base e size v n xs) (hb : Below w.heap.size w w') : w'.ownsRow base e size v n xs := own_fr h (Fr.of_below hb []) (fun _ _ => by simp)
end Go.Proofs.YtopkfomlppnpeaaGreatDoor
