/- Chapter 8's lend: a course in memory of its own. -/
import Derived.Test.YtmgcigohfccgeaaCLives
namespace Go.Proofs.Ytmgcigohfccgeaa
open Go.RowKit

theorem info_int : (Try.prog.info? 3).map (fun i => (i.zero, i.size, i.bytes)) = some (some (.int .i64 0), 1, 8) := by kernel_rfl
theorem info_ints : (Try.prog.info? 24).map (fun i => (i.zero, i.size, i.bytes)) = some (some (.slice none 0 0), 1, 24) := by kernel_rfl

/-- rows that the call made, and the slice of them -/
structure Rows2Own (base : Nat) (w : World) (o : Value) (k : Nat) (zss : List (List Int)) (vs : List Value) : Prop where
  own : w.ownsRow base 24 1 o k vs
  row : ∀ j (h : j < zss.length) u, j < k → vs[j]? = some u → Row w u 1 zss[j].length (zss[j].map (Value.int .i64)) ∧ (∀ x, u.ownBlock = some x → o.ownBlock ≠ some x ∧ x < w.heap.size) ∧ u.oneCell' = true

theorem Rows2Own.push {base : Nat} {w w1 w2 w3 : World} {o o3 u : Value} {k : Nat} {zss : List (List Int)} {vs : List Value} (h : Rows2Own base w o k zss vs) (hk : k < zss.length)
    (b1 : Below w.heap.size w w1) (hu : Row w1 u 1 zss[k].length (zss[k].map (Value.int .i64))) (hun : ∀ x, u.ownBlock = some x → w.heap.size ≤ x ∧ x < w1.heap.size) (hu1 : u.oneCell' = true)
    (b2 : Below w1.heap.size w1 w2) (h3 : w3.ownsRow base 24 1 o3 (k + 1) (vs ++ [u])) (hg : w2.grownBy w3 o.ownBlock) (hn : ∀ x, o3.ownBlock = some x → o.ownBlock = some x ∨ w2.heap.size ≤ x) : Rows2Own base w3 o3 (k + 1) zss (vs ++ [u]) := by
  have hlt := h.own.lt
  have s1 := b1.size
  have s2 := b2.size
  have s3 := hg.size
  have hlen : vs.length = k := by have := h.own.1; omega
  refine ⟨h3, fun j hj x hjk hx => ?_⟩
  by_cases hjk2 : j < k
  · rw [List.getElem?_append_left (by omega)] at hx
    obtain ⟨r1, r2, r3⟩ := h.row j hj x hjk2 hx
    refine ⟨((r1.below b1).below b2).grown hg ?_, fun y hy => ?_, r3⟩
    · cases hb : x.ownBlock with
      | none => exact .inl rfl
      | some y => exact .inr fun e => (r2 y hb).1 e.symm
    · obtain ⟨q1, q2⟩ := r2 y hy
      exact ⟨fun e => by rcases hn y e with h1 | h1; exact q1 h1; omega, by omega⟩
  · obtain rfl : j = k := by omega
    rw [List.getElem?_append_right (by omega), hlen] at hx
    simp at hx
    subst hx
    refine ⟨(hu.below b2).grown hg ?_, fun y hy => ?_, hu1⟩
    · cases hb : u.ownBlock with
      | none => exact .inl rfl
      | some y => exact .inr fun e => by have := (hlt y e.symm).2; have := (hun y hb).1; omega
    · obtain ⟨q1, q2⟩ := hun y hy
      exact ⟨fun e => by rcases hn y e with h1 | h1; have := (hlt y h1).2; omega; omega, by omega⟩

theorem Rows2Own.rows {base : Nat} {w : World} {o : Value} {zss : List (List Int)} {vs : List Value} (h : Rows2Own base w o zss.length zss vs) : Rows2 w o zss := by
  have hlen : vs.length = zss.length := by have := h.own.1; omega
  refine ⟨vs, hlen, row_of_owns h.own (fun u hu => ?_), fun i hi u hu => (h.row i hi u hi hu).1⟩
  obtain ⟨j, hj, rfl⟩ := List.getElem_of_mem hu
  exact (h.row j (by omega) _ (by omega) (List.getElem?_eq_getElem hj)).2.2

theorem ints_one (l : List Int) : ∀ u ∈ l.map (Value.int .i64), u.oneCell' = true := by
  intro u hu
  obtain ⟨c, _, rfl⟩ := List.mem_map.1 hu
  rfl

set_option maxRecDepth 100000 in
set_option maxHeartbeats 1000000 in
theorem lend_any (v : Value) (zss : List (List Int)) (w : World) (h : Rows2 w v zss) (hs : Clk.small zss = true) :
    Calls Try.prog 23 #[v] w fun e w' => ∃ v', e = .returned v' ∧ Rows2 w' v' zss ∧ Below w.heap.size w w' := by
  have HZ := Lib.hid h
  obtain ⟨p, c, rfl, hc, hm, -⟩ := h.parts
  have hml : maxLen ≤ 9223372036854775807 := by decide
  obtain ⟨i0, hi, hz0, hz1, hz2⟩ := info_parts info_int
  obtain ⟨i1, hi', hz0', hz1', hz2'⟩ := info_parts info_ints
  have hl : zss.length ≤ 200 := by unfold Clk.small at hs; simp at hs; exact hs.2
  have hrow : Hid (∀ k (hk : k < zss.length), zss[k].length ≤ 64) := Lib.hid fun k hk => by
    unfold Clk.small at hs
    simp at hs
    exact hs.1 _ (List.getElem_mem hk)
  clear h hs
  go_enter Try.func23, Try.ntmps23
  go_wp2
  go_loopw [3, 4] (fun o i wc => ∃ (k : Nat) (vs : List Value), k ≤ zss.length ∧ i = .int .i64 (k : Int) ∧ Hid (Rows2Own w.heap.size wc o k zss vs) ∧ Hid (Below w.heap.size w wc)) (fun _ i _ => zss.length - (intOf i).toNat)
  case atStart => exact ⟨0, [], Nat.zero_le _, rfl, ⟨World.ownsRow_nil _ _ _ _, fun j _ u h _ => by omega⟩, Below.refl _ _⟩
  case round =>
    obtain ⟨k, vs, hk, rfl, HR, HB⟩ := hrel
    by_cases hlt : k < zss.length
    · obtain ⟨b, o, p', c', rfl, e1, hrk⟩ := HZ.out.rowAt hlt
      have hlr := hrow.out k hlt
      have e2 := cell_kept e1 (below_and HB.out (below_alloc wr (.cells #[] 3)))
      have HK := Lib.hid (hrk.below (below_and HB.out (below_alloc wr (.cells #[] 3))))
      have HO1 : Hid (World.ownsRow (wr.alloc (.cells #[] 3)) w.heap.size 3 1 (.slice (some ⟨wr.heap.size, 0, none⟩) 0 0) 0 []) := Lib.hid (World.ownsRow_made wr #[] 0 HB.out.size (by decide) rfl)
      have HSZ : Hid (w.heap.size ≤ wr.heap.size) := Lib.hid HB.out.size
      clear e1 hrk
      go_wp2_with (first
        | (at_builtin; refine wpList_app5 rfl _ _ 24 24 rfl w.heap.size 3 i0 (.int .i64 0) 1 8 Try.underlying24 hi hz0 hz1 hz2 rfl _ 0 [] rfl HO1.out _ zss[k].length (zss[k].map (Value.int .i64)) rfl (Row.src Try.underlying24 HK.out) (by unfold maxLen; omega) (by omega) (by have := HSZ.out; simp; omega) ?_; intro u w2 hu hg hn; rw [Nat.zero_add, List.nil_append] at hu; have HG : Hid (World.grownBy (wr.alloc (.cells #[] 3)) w2 (some wr.heap.size)) := Lib.hid hg; have HN : Hid (∀ x, u.ownBlock = some x → some wr.heap.size = some x ∨ wr.heap.size + 1 ≤ x) := Lib.hid (fun x hx => (hn x hx).imp (fun e => e) (fun e => by simpa using e)); obtain ⟨pu, cu, rfl, -, -⟩ := own_slice hu; have HB2 : Hid (Below wr.heap.size wr w2) := Lib.hid ((below_alloc wr (.cells #[] 3)).trans (grown_below HG.out (Nat.le_refl _) (by simp))); have HU2 := Lib.hid (row_of_owns hu (ints_one _)); have HN2 : Hid (∀ x, (Value.slice pu zss[k].length cu).ownBlock = some x → wr.heap.size ≤ x ∧ x < w2.heap.size) := Lib.hid (fun x hx => ⟨by rcases HN.out x hx with e | e; simp at e; omega; omega, (hu.lt x hx).2⟩); have HO2 : Hid (World.ownsRow (w2.alloc (.cells #[.slice pu zss[k].length cu] 24)) w.heap.size 24 1 u3 k vs) := Lib.hid (own_fr HR.out.own (Fr.of_below (below_and HB2.out (below_alloc w2 _)) []) (fun _ _ => by simp)); have HS2 : Hid (w.heap.size ≤ (w2.alloc (.cells #[.slice pu zss[k].length cu] 24)).heap.size) := Lib.hid (by have := HB2.out.size; have := HSZ.out; simp; omega); clear hu hg hn)
        | (at_builtin; refine wpList_app5 rfl _ _ 22 22 rfl w.heap.size 24 i1 (.slice none 0 0) 1 24 Try.underlying22 hi' hz0' hz1' hz2' rfl _ k vs rfl HO2.out _ 1 _ rfl (src_block Try.underlying22 _ _ #[_] (heap_alloc_new w2 _) rfl (by simp [Value.oneCell'])) (by unfold maxLen; omega) (by omega) HS2.out ?_; intro o3 w3 h3 hg3 hn3; have HR3 := Lib.hid (Rows2Own.push HR.out hlt HB2.out HU2.out HN2.out rfl (below_alloc w2 _) h3 hg3 hn3); have HB3 : Hid (Below w.heap.size w w3) := Lib.hid (below_grown (below_and HB.out (below_and HB2.out (below_alloc w2 _))) HS2.out HO2.out hg3); clear h3 hg3 hn3))
      go_roundw
      case rel => exact ⟨k + 1, _, hlt, by go_num, HR3, HB3⟩
      case measure => simp [intOf]; omega
    · obtain rfl : k = zss.length := by omega
      have HF := Lib.hid HR.out.rows
      go_wp2
      go_ret
      exact ⟨_, rfl, HF.out, HB.out⟩
end Go.Proofs.Ytmgcigohfccgeaa
