/- One act of ClockScript, in both watches: the same answer; and what holds behind it. -/
import Derived.Test.YtmgcigohfccgeaaWCs
import Derived.Test.YtmgcigohfccgeaaWTick
import Derived.Test.YtmgcigohfccgeaaWNm
import Derived.Test.YtmgcigohfccgeaaRW6
import Derived.Test.YtmgcigohfccgeaaTexts
import Derived.Test.YtmgcigohfccgeaaPick
namespace Go.Proofs.Ytmgcigohfccgeaa
open Go.RowKit

theorem own_ltW {w : World} {b : Nat} {T : Int} {v : Value} {L : List End} (h : Wt w b T v L) {q : Nat} (hq : v.ownBlock = some q) : q < w.heap.size := own_lt h.own hq
/-- both watches, and the act that is read, as they lie -/
structure Cs (w0 : World) (b G ga : Nat) (x : Ka) (T1 T2 : Int) (L S : List End) (v1 v2 : Value) (w : World) : Prop where
  wt : Wt w b T1 v1 L
  rwt : RWt w G T2 v2 S
  sh : Sh v2
  act : Blk w ga [.int .i64 x.k, .string x.s, .int .i64 x.n] 82
  bel : Below w0.heap.size w0 w
  d1 : ∀ q, v1.ownBlock = some q → w0.heap.size ≤ q ∧ q ≠ G ∧ q ≠ ga ∧ v2.ownBlock ≠ some q
  d2 : ∀ q, v2.ownBlock = some q → w0.heap.size ≤ q ∧ q ≠ b ∧ q < w.heap.size
  far : b ≠ G ∧ b ≠ ga ∧ G ≠ ga ∧ w0.heap.size ≤ b ∧ w0.heap.size ≤ G
theorem Cs.kept {w0 : World} {b G ga : Nat} {x : Ka} {T1 T2 : Int} {L S : List End} {v1 v2 : Value} {w w' : World} (h : Cs w0 b G ga x T1 T2 L S v1 v2 w) (hb : Below w.heap.size w w') : Cs w0 b G ga x T1 T2 L S v1 v2 w' :=
  ⟨h.wt.kept hb, h.rwt.kept hb, h.sh, h.act.kept hb, below_and h.bel hb, h.d1, fun q hq => ⟨(h.d2 q hq).1, (h.d2 q hq).2.1, Nat.lt_of_lt_of_le (h.d2 q hq).2.2 hb.size⟩, h.far⟩
/-- the program's watch has gone on -/
theorem Cs.one {w0 : World} {b G ga : Nat} {x : Ka} {T1 T2 : Int} {L S : List End} {v1 v2 : Value} {w w' : World} (h : Cs w0 b G ga x T1 T2 L S v1 v2 w) {T' : Int} {v' : Value} {L' : List End} (hw : Wt w' b T' v' L') (hs : Stp w w' b v1 v') : Cs w0 b G ga x T' T2 L' S v' v2 w' := by
  have hf := h.far
  have hn : ∀ q, q ≠ b → v1.ownBlock ≠ some q → q ∉ fpW b v1 := fun q h1 h2 hm => by
    rcases mem_fpW.1 hm with h3 | h3
    · exact h1 h3
    · exact h2 h3
  have hd : ∀ q, v2.ownBlock = some q → v1.ownBlock ≠ some q := fun q h1 h2 => (h.d1 q h2).2.2.2 h1
  refine ⟨hw, ⟨h.rwt.blk.fr hs.fr (hn G (fun e => hf.1 e.symm) (fun e => (h.d1 G e).2.1 rfl)), row_fr h.rwt.row hs.fr (fun q hq => hn q (h.d2 q hq).2.1 (hd q hq)), h.rwt.ne⟩, h.sh, h.act.fr hs.fr (hn ga (fun e => hf.2.1 e.symm) (fun e => (h.d1 ga e).2.2.1 rfl)), h.bel.trans (hs.fr.below (fun q hq => ?_) h.bel.size), fun q hq => ?_, fun q hq => ⟨(h.d2 q hq).1, (h.d2 q hq).2.1, Nat.lt_of_lt_of_le (h.d2 q hq).2.2 hs.fr.size⟩, hf⟩
  · rcases mem_fpW.1 hq with rfl | h3
    · exact hf.2.2.2.1
    · exact (h.d1 q h3).1
  · rcases hs.new q hq with h3 | h3
    · exact h.d1 q h3
    · have h4 := h.rwt.blk.lt
      have h5 := h.act.lt
      exact ⟨Nat.le_trans h.bel.size h3, by omega, by omega, fun e => by have := (h.d2 q e).2.2; omega⟩
/-- the document's watch has gone on -/
theorem Cs.two {w0 : World} {b G ga : Nat} {x : Ka} {T1 T2 : Int} {L S : List End} {v1 v2 : Value} {w w' : World} (h : Cs w0 b G ga x T1 T2 L S v1 v2 w) {T' : Int} {v' : Value} {S' : List End} (hw : RWt w' G T' v' S') (hs : RStp w w' G v2 v') (hsh : Sh v') : Cs w0 b G ga x T1 T' L S' v1 v' w' := by
  have hf := h.far
  have hn : ∀ q, q ≠ G → q ∉ [G] := fun q h1 hm => h1 (List.mem_singleton.1 hm)
  refine ⟨h.wt.fr hs.fr (fun k hk => ?_), hw, hsh, h.act.fr hs.fr (hn ga (fun e => hf.2.2.1 e.symm)), h.bel.trans (hs.fr.below (fun q hq => ?_) h.bel.size), fun q hq => ⟨(h.d1 q hq).1, (h.d1 q hq).2.1, (h.d1 q hq).2.2.1, fun e => ?_⟩, fun q hq => ?_, hf⟩
  · rcases mem_fpW.1 hk with rfl | h3
    · exact hn _ hf.1
    · exact hn _ (h.d1 k h3).2.1
  · rw [List.mem_singleton.1 hq]; exact hf.2.2.2.2
  · rcases hs.new q e with h3 | h3
    · exact (h.d1 q hq).2.2.2 h3
    · have := own_ltW h.wt hq; omega
  · have h4 := h.wt.blk.lt
    rcases hs.new q hq with h3 | h3
    · exact ⟨(h.d2 q h3).1, (h.d2 q h3).2.1, Nat.lt_of_lt_of_le (h.d2 q h3).2.2 hs.fr.size⟩
    · exact ⟨Nat.le_trans h.bel.size h3.1, by omega, h3.2⟩
def S17 (ga G : Nat) (x : Ka) (T : Int) (w' : World) : Prop := w'.cell? ⟨ga, 0, none⟩ = some (.int .i64 x.k) ∧ w'.cell? ⟨ga, 1, none⟩ = some (.string x.s) ∧ w'.cell? ⟨ga, 2, none⟩ = some (.int .i64 x.n) ∧ w'.cell? ⟨G, 0, none⟩ = some (.int .i64 T)
theorem Cs.cells {w0 : World} {b G ga : Nat} {x : Ka} {T1 T2 : Int} {L S : List End} {v1 v2 : Value} {w : World} (h : Cs w0 b G ga x T1 T2 L S v1 v2 w) : S17 ga G x T2 w :=
  ⟨h.act.cell (j := 0) rfl, h.act.cell (j := 1) rfl, h.act.cell (j := 2) rfl, h.rwt.blk.cell (j := 0) rfl⟩

/-! The contracts of one act, in both watches at once. -/
theorem cs_tick {k : Nat} {T : Int} {L S : List End} (hC : CsI k L S) (n : Int) (hk : k ≤ 200) (hT : 0 ≤ T) (hT2 : T ≤ (k : Int) * 1048576) :
    ∃ (T' er : Int) (L' S' ns : List End), CsI (k + 1) L' S' ∧ 0 ≤ T' ∧ T' ≤ ((k + 1 : Nat) : Int) * 1048576 ∧
      (∀ (b : Nat) (v : Value) (w : World), Wt w b T v L → Calls Try.prog 29 #[ptr b, .int .i64 n] w fun e w' => ∃ o v', e = .returned (.tuple #[o, .int .i64 er]) ∧ w'.ownsRow w.heap.size 9 1 o ns.length (names ns) ∧ Wt w' b T' v' L' ∧ Stp w w' b v v') ∧
      (∀ (b : Nat) (v : Value) (w : World), RWt w b T v S → Sh v → Calls Try.prog 51 #[ptr b, .int .i64 n] w fun e w' => ∃ o v', e = .returned (.tuple #[o, .int .i64 er]) ∧ w'.ownsRow w.heap.size 9 1 o ns.length (names ns) ∧ RWt w' b T' v' S' ∧ RStp w w' b v v' ∧ Sh v') := by
  by_cases hb : n < 0 ∨ 1048576 < n
  · refine ⟨T, 2, L, S, [], hC.mono, hT, by omega, fun b v w h => (wtick_bad b T n v L w h hb).mono ?_, fun b v w h hs => (rtick_bad b n w hb).mono ?_⟩
    · rintro e w' ⟨rfl, rfl⟩
      exact ⟨_, v, rfl, World.ownsRow_nil _ _ _ _, h, .refl _ _ _⟩
    · rintro e w' ⟨rfl, rfl⟩
      exact ⟨_, v, rfl, World.ownsRow_nil _ _ _ _, h, .refl _ _ _, hs⟩
  · have h1 := hC.tick (T + n)
    have hl := hC.len
    have hl2 := hC.lens
    refine ⟨T + n, 0, _, _, _, h1.2, by omega, by omega, fun b v w h => wtick_ok b T n _ rfl v L w h (by omega) (by omega) (by omega) hT (by omega), fun b v w h hs => ?_⟩
    rw [h1.1]
    exact rtick_ok b T n _ rfl v S w h (by omega) (by omega) (by omega) hT (by omega) hs
theorem cs_set {k : Nat} {T : Int} {L S : List End} (hC : CsI k L S) (s : ByteArray) (n : Int) (hk : k ≤ 200) (hT : 0 ≤ T) (hT2 : T ≤ (k : Int) * 1048576) :
    ∃ (er : Int) (L' S' : List End), CsI (k + 1) L' S' ∧
      (∀ (b : Nat) (v : Value) (w : World), Wt w b T v L → Calls Try.prog 28 #[ptr b, .string s, .int .i64 n] w fun e w' => ∃ v', e = .returned (.int .i64 er) ∧ Wt w' b T v' L' ∧ Stp w w' b v v') ∧
      (∀ (b : Nat) (v : Value) (w : World), RWt w b T v S → Sh v → Calls Try.prog 52 #[ptr b, .string s, .int .i64 n] w fun e w' => ∃ v', e = .returned (.int .i64 er) ∧ RWt w' b T v' S' ∧ RStp w w' b v v' ∧ Sh v') := by
  have hl := hC.len
  have hl2 := hC.lens
  by_cases hb : n < 1 ∨ 1073741824 < n ∨ s.toList.isEmpty = true
  · refine ⟨2, L, S, hC.mono, fun b v w h => (wset_bad b T n v L s w h hb).mono ?_, fun b v w h hs => (rset_bad b n s w hb).mono ?_⟩
    · rintro e w' ⟨rfl, rfl⟩
      exact ⟨v, rfl, h, .refl _ _ _⟩
    · rintro e w' ⟨rfl, hb⟩
      exact ⟨v, rfl, h.kept hb, .of_below hb _ _, hs⟩
  · have h1 : 1 ≤ n := by omega
    have h2 : n ≤ 1073741824 := by omega
    have h3 : s.toList.isEmpty = false := by
      cases h : s.toList.isEmpty
      · rfl
      · exact absurd (.inr (.inr h)) hb
    refine ⟨0, _, _, hC.set s (a := T + n) (by omega) (by omega), fun b v w h => (wset_ok b T n v L s w h (by omega) h1 h2 h3 hT (by omega)).mono ?_, fun b v w h hs => (rset_ok b T n v S s w h (by omega) hs h1 h2 hT (by omega) h3).mono ?_⟩
    · rintro e w' ⟨rfl, v', hw, hs⟩
      exact ⟨v', rfl, hw, hs⟩
    · rintro e w' ⟨rfl, v', hw, hs, hh⟩
      exact ⟨v', rfl, hw, hs, hh⟩
theorem cs_drop {k : Nat} {T : Int} {L S : List End} (hC : CsI k L S) (s : ByteArray) (hk : k ≤ 200) :
    ∃ (er : Int) (L' S' : List End), CsI (k + 1) L' S' ∧
      (∀ (b : Nat) (v : Value) (w : World), Wt w b T v L → Calls Try.prog 35 #[ptr b, .string s] w fun e w' => ∃ v', e = .returned (.int .i64 er) ∧ Wt w' b T v' L' ∧ Stp w w' b v v') ∧
      (∀ (b : Nat) (v : Value) (w : World), RWt w b T v S → Sh v → Calls Try.prog 53 #[ptr b, .string s] w fun e w' => ∃ v', e = .returned (.int .i64 er) ∧ RWt w' b T v' S' ∧ RStp w w' b v v' ∧ Sh v') := by
  have hl := hC.len
  have hl2 := hC.lens
  have hi := hC.isSome s.data.toList
  refine ⟨if (pl S s.data.toList).isSome then 0 else 6, _, _, hC.drop s, fun b v w h => ?_, fun b v w h hs => (rdrop_any b T v S s w h (by omega) hs).mono ?_⟩
  · cases hp : pl L s.data.toList with
    | none =>
      rw [← hi, hp]
      refine (wdrop_no b T v L s w h hp).mono ?_
      rintro e w' ⟨rfl, hb⟩
      exact ⟨v, rfl, by unfold dropL; rw [hp]; exact h.kept hb, .of_below hb _ _⟩
    | some i =>
      rw [← hi, hp]
      refine (wdrop_yes b i T v L s w h (by omega) hp).mono ?_
      rintro e w' ⟨rfl, v', hw, hs⟩
      exact ⟨v', rfl, hw, hs⟩
  · rintro e w' ⟨rfl, v', hw, hs, hh⟩
    exact ⟨v', rfl, hw, hs, hh⟩
theorem cs_left {k : Nat} {T : Int} {L S : List End} (hC : CsI k L S) (s : ByteArray) (hT : 0 ≤ T) (hT2 : T ≤ (k : Int) * 1048576) (hk : k ≤ 201) :
    ∃ (z : Int) (p : Bool),
      (∀ (b : Nat) (v : Value) (w : World), Wt w b T v L → Calls Try.prog 32 #[ptr b, .string s] w fun e w' => e = .returned (.tuple #[.int .i64 z, .bool p]) ∧ Below w.heap.size w w') ∧
      (∀ (b : Nat) (v : Value) (w : World), RWt w b T v S → Calls Try.prog 54 #[ptr b, .string s] w fun e w' => e = .returned (.tuple #[.int .i64 z, .bool p]) ∧ Below w.heap.size w w') := by
  refine ⟨(leftL L T s.data.toList).1, (leftL L T s.data.toList).2, fun b v w h => wleft_made b T v L s w h hT (by omega) hC.ats, fun b v w h => ?_⟩
  cases hp : pl S s.data.toList with
  | none =>
    rw [hC.leftNone s.data.toList T hp]
    exact rleft_no b T v S s w h hp
  | some i =>
    obtain ⟨hi, -⟩ := pl_spec hp
    rw [hC.left s.data.toList T hi hp]
    have ha := hC.ats _ (hC.perm.mem_iff.2 (List.getElem_mem hi))
    exact rleft_yes b T v S s w h i hi hp (i64_in (by omega))
theorem texts_names {w : World} {base : Nat} {v : Value} {ns : List ByteArray} {n : Nat} (h : w.ownsRow base 9 1 v n (ns.map Value.string)) : Texts w v ns := by
  have hl := h.1
  have h1 := row_of_owns h (fun u hu => by obtain ⟨y, -, rfl⟩ := List.mem_map.1 hu; rfl)
  unfold Texts
  rw [show ns.length = n from by simpa using hl]
  exact h1
theorem same_own {w : World} {b1 b2 n1 n2 : Nat} {v1 v2 : Value} (ns : List ByteArray) (h1 : w.ownsRow b1 9 1 v1 n1 (ns.map Value.string)) (h2 : w.ownsRow b2 9 1 v2 n2 (ns.map Value.string)) :
    Calls Try.prog 33 #[v1, v2] w fun e w' => e = .returned (.bool true) ∧ Below w.heap.size w w' := by
  have := sametexts_any v1 v2 _ _ w (texts_names h1) (texts_names h2)
  rw [show ∀ a : List ByteArray, sameT a a = true from fun a => by unfold sameT; simp] at this
  exact this
theorem names_str (M : List End) : names M = (M.map (·.1)).map Value.string := by unfold names; rw [List.map_map]; rfl
theorem own_kept {w w' : World} {base : Nat} {e : TypeId} {size : Nat} {v : Value} {n : Nat} {xs : List Value} (h : w.ownsRow base e size v n xs) (hb : Below w.heap.size w w') : w'.ownsRow base e size v n xs := own_fr h (Fr.of_below hb []) (fun _ _ => by simp)
end Go.Proofs.Ytmgcigohfccgeaa
