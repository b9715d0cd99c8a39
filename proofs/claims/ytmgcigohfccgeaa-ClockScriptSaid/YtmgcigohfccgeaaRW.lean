/- The document's watch: Tick, Left. -/
import Derived.Test.YtmgcigohfccgeaaTickSort
import Derived.Test.YtmgcigohfccgeaaWatch3
import Derived.Outline
namespace Go.Proofs.Ytmgcigohfccgeaa
open Go.RowKit

/-- a slice's shape: nil, or behind an address that is no part's -/
def Sh (v : Value) : Prop := v = .slice none 0 0 ∨ ∃ g o n c, v = .slice (some ⟨g, o, none⟩) n c
theorem own_sh {w : World} {base : Nat} {e : TypeId} {size : Nat} {v : Value} {n : Nat} {xs : List Value} (h : w.ownsRow base e size v n xs) : Sh v := by
  rcases h.2 with ⟨hv, -⟩ | ⟨g, cap, cur, hv, -⟩
  · exact .inl hv
  · exact .inr ⟨g, 0, n, cap, hv⟩
/-- block b is a watch of the document's, its sorted ends S -/
structure RWt (w : World) (b : Nat) (T : Int) (v : Value) (S : List End) : Prop where
  blk : Blk w b [.int .i64 T, v] 80
  row : Row w v 2 S.length (ecells S)
  ne : v.ownBlock ≠ some b

theorem RWt.kept {w w' : World} {b : Nat} {T : Int} {v : Value} {S : List End} (h : RWt w b T v S) (hb : Below w.heap.size w w') : RWt w' b T v S := ⟨h.blk.kept hb, h.row.below hb, h.ne⟩

/-- what a call of it turns: its block alone; its row is the old one or a new one -/
structure RStp (w w' : World) (b : Nat) (v v' : Value) : Prop where
  fr : Fr [b] w w'
  new : ∀ k, v'.ownBlock = some k → v.ownBlock = some k ∨ (w.heap.size ≤ k ∧ k < w'.heap.size)
theorem RStp.refl (w : World) (b : Nat) (v : Value) : RStp w w b v v := ⟨Fr.refl _ _, fun _ h => .inl h⟩
theorem RStp.trans {a c d : World} {b : Nat} {u v x : Value} (h : RStp a c b u v) (k : RStp c d b v x) : RStp a d b u x :=
  ⟨h.fr.then k.fr, fun g hg => by
    rcases k.new g hg with h1 | h1
    · exact (h.new g h1).imp id fun h2 => ⟨h2.1, Nat.lt_of_lt_of_le h2.2 k.fr.size⟩
    · exact .inr ⟨Nat.le_trans h.fr.size h1.1, h1.2⟩⟩
theorem RStp.of_below {w w' : World} (h : Below w.heap.size w w') (b : Nat) (v : Value) : RStp w w' b v v := ⟨Fr.of_below h _, fun _ h => .inl h⟩

theorem own_lt {w : World} {base : Nat} {e : TypeId} {size n : Nat} {v : Value} {xs : List Value} (h : w.ownsRow base e size v n xs) {g : Nat} (hg : v.ownBlock = some g) : g < w.heap.size := by
  rcases h.2 with ⟨rfl, -⟩ | ⟨g', cap, cur, rfl, -, hh, -⟩
  · cases hg
  · cases hg
    exact (Array.getElem?_eq_some_iff.1 hh).1
theorem row_fr {S : List Nat} {w w' : World} {v : Value} {size n : Nat} {cells : List Value} (h : Row w v size n cells) (hf : Fr S w w') (hs : ∀ k, v.ownBlock = some k → k ∉ S) : Row w' v size n cells := by
  obtain ⟨p, c, hv, h1, h2, h3, h4, h5, h6⟩ := h
  refine ⟨p, c, hv, h1, h2, h3, h4, h5, ?_⟩
  rcases h6 with h6 | ⟨b, o, hp, ha⟩
  · exact .inl h6
  · refine .inr ⟨b, o, hp, fun j u hj => ?_⟩
    subst hv hp
    exact cell_fr (ha j u hj) hf (hs b rfl)
theorem RWt.fr {S : List Nat} {w w' : World} {b : Nat} {T : Int} {v : Value} {L : List End} (h : RWt w b T v L) (hf : Fr S w w') (hs : ∀ k ∈ fpW b v, k ∉ S) : RWt w' b T v L :=
  ⟨h.blk.fr hf (hs b (mem_fpW.2 (.inl rfl))), row_fr h.row hf (fun k hk => hs k (mem_fpW.2 (.inr hk))), h.ne⟩

/-- an end's cells -/
theorem RWt.endAt {w : World} {b : Nat} {T : Int} {v : Value} {S : List End} (h : RWt w b T v S) {i : Nat} (hi : i < S.length) :
    ∃ g o c, v = .slice (some ⟨g, o, none⟩) S.length c ∧ S.length ≤ c ∧ c ≤ maxLen ∧ w.cell? ⟨g, o + i * 2, none⟩ = some (.string S[i].1) ∧ w.cell? ⟨g, o + (i * 2 + 1), none⟩ = some (.int .i64 S[i].2) := by
  obtain ⟨p, c, rfl, h1, h2, h3, h4, h5, h6⟩ := h.row
  have hx : S[i]? = some S[i] := List.getElem?_eq_getElem hi
  rcases h6 with h6 | ⟨g, o, rfl, ha⟩
  · have := congrArg List.length h6
    rw [ecells_length] at this
    simp at this; omega
  · exact ⟨g, o, c, rfl, h1, h2, ha _ _ (ecells_name hx), ha _ _ (ecells_at hx)⟩

/-- the rest of it -/
theorem row_rest {w : World} {g o n c : Nat} {x : End} {S : List End} (h : Row w (.slice (some ⟨g, o, none⟩) n c) 2 (x :: S).length (ecells (x :: S))) :
    Row w (.slice (if c = 1 then some ⟨g, o, none⟩ else some ⟨g, o + 2, none⟩) S.length (c - 1)) 2 S.length (ecells S) := by
  obtain ⟨p, c', hv, h1, h2, h3, h4, h5, h6⟩ := h
  simp only [Value.slice.injEq] at hv
  obtain ⟨rfl, rfl, rfl⟩ := hv
  simp only [List.length_cons] at h1
  refine ⟨_, c - 1, rfl, by omega, by omega, ecells_length S, fun u hu => h4 u (by rw [ecells_cons]; simp [hu]), (fun e => by split at e <;> cases e), ?_⟩
  rcases h6 with h6 | ⟨b, o', hp, ha⟩
  · rw [ecells_cons] at h6; cases h6
  · simp only [Option.some.injEq, Addr.mk.injEq, and_true] at hp
    obtain ⟨rfl, rfl⟩ := hp
    by_cases hc : c = 1
    · have : S = [] := List.eq_nil_of_length_eq_zero (by omega)
      subst this
      exact .inl rfl
    · refine .inr ⟨g, o + 2, by rw [if_neg hc], fun j u hj => ?_⟩
      have := ha (j + 2) u (by rw [ecells_cons]; simpa using hj)
      rw [show o + 2 + j = o + (j + 2) from by omega]
      exact this

set_option maxRecDepth 100000 in
set_option maxHeartbeats 1000000 in
theorem rtick_ok (b : Nat) (T n T' : Int) (hT' : T + n = T') (v : Value) (S : List End) (w : World) (h : RWt w b T v S) (hl : S.length ≤ 800000) (hn : 0 ≤ n) (hn2 : n ≤ 1048576) (hT : 0 ≤ T) (hT2 : T ≤ 2305843009213693952) (hsh : Sh v) :
    Calls Try.prog 51 #[ptr b, .int .i64 n] w fun e w' => ∃ o v', e = .returned (.tuple #[o, .int .i64 0]) ∧ w'.ownsRow w.heap.size 9 1 o (S.takeWhile (dueP T')).length (names (S.takeWhile (dueP T'))) ∧ RWt w' b T' v' (S.dropWhile (dueP T')) ∧ RStp w w' b v v' ∧ Sh v' := by
  obtain ⟨i0, hi, hz0, hz1, hz2⟩ := info_parts info_str
  have c0 := h.blk.cell (j := 0) rfl
  have f0 := h.blk.free 0
  have HBS : Hid (b < w.heap.size) := Lib.hid h.blk.lt
  have H1 : Hid (RWt (w.setCell ⟨b, 0, none⟩ (.int .i64 (T + n))) b T' v S) := Lib.hid (by
    rw [hT']
    exact ⟨h.blk.set 0 _, row_fr h.row ((Fr.refl [b] _).set (p := ⟨b, 0, none⟩) (by simp) _) (fun k hk hm => by simp at hm; subst hm; exact h.ne hk), h.ne⟩)
  have HS1 : Hid (RStp w (w.setCell ⟨b, 0, none⟩ (.int .i64 (T + n))) b v v) := Lib.hid ⟨(Fr.refl _ _).set (p := ⟨b, 0, none⟩) (by simp) _, fun _ h => .inl h⟩
  clear h hT'
  go_enter Try.func51, Try.ntmps51
  go_wp2
  go_loopw [6] (fun o wc => ∃ (told M : List End) (v2 : Value), told.length + M.length = S.length ∧ Hid (wc.ownsRow w.heap.size 9 1 o told.length (names told)) ∧ Hid (RWt wc b T' v2 M) ∧ Hid (RStp w wc b v v2) ∧ Hid (S.takeWhile (dueP T') = told ++ M.takeWhile (dueP T') ∧ S.dropWhile (dueP T') = M.dropWhile (dueP T')) ∧ Hid (∀ k, o.ownBlock = some k → v2.ownBlock ≠ some k) ∧ Hid (Sh v2)) (fun o _ => S.length - slen o)
  case atStart => exact ⟨[], S, v, by simp, World.ownsRow_nil _ _ _ _, H1, HS1, ⟨rfl, rfl⟩, fun k hk => by simp [Value.ownBlock] at hk, hsh⟩
  case round =>
    obtain ⟨told, M, v2, hlen, HO, HW, HS, HT, HD, HSH⟩ := hrel
    have c1 := HW.out.blk.cell (j := 1) rfl
    have c2 := HW.out.blk.cell (j := 0) rfl
    have f1 := HW.out.blk.free 1
    cases M with
    | nil =>
      obtain ⟨p2, k2, rfl, -⟩ := HW.out.row
      simp only [List.length_nil] at c1
      go_wp2
      go_quiet (fail)
      go_wp2
      go_ret2
      have HE := HT.out
      simp only [List.takeWhile_nil, List.dropWhile_nil, List.append_nil] at HE
      refine ⟨u6, _, rfl, ?_, ?_, HS.out.trans (RStp.of_below (below_drewN nq) _ _), HSH.out⟩
      · rw [HE.1]
        exact own_fr HO.out (Fr.of_below (below_drewN nq) []) (fun _ _ => by simp)
      · rw [HE.2]
        exact HW.out.kept (below_drewN nq)
    | cons x M =>
      obtain ⟨g, o, cap, rfl, hc1, hc2, e1, e2⟩ := HW.out.endAt (i := 0) (by simp)
      simp only [List.length_cons, List.getElem_cons_zero, Nat.zero_mul, Nat.add_zero, Nat.zero_add] at c1 e1 e2 hc1
      by_cases hle : x.2 ≤ T'
      · have HE : Hid (S.takeWhile (dueP T') = (told ++ [x]) ++ M.takeWhile (dueP T') ∧ S.dropWhile (dueP T') = M.dropWhile (dueP T')) := Lib.hid (by
          have := HT.out
          rw [List.takeWhile_cons_of_pos (by simpa [dueP] using hle), List.dropWhile_cons_of_pos (by simpa [dueP] using hle)] at this
          simpa using this)
        have HLT : Hid (∀ k, u6.ownBlock = some k → w.heap.size ≤ k ∧ k < wr.heap.size) := Lib.hid HO.out.lt
        have HGL : Hid (g < wr.heap.size) := Lib.hid (World.block_lt_of_cell? wr _ e1)
        have hM : told.length + 1 ≤ 800000 := by simp only [List.length_cons] at hlen; omega
        have hso : slen u6 = told.length := by obtain ⟨p, c, rfl, -, -⟩ := own_slice HO.out; rfl
        go_wp2
        go_quiet (fail)
        have HOq : Hid (World.ownsRow ((wr.drewN nq).alloc (.cells #[.string x.1] 9)) w.heap.size 9 1 u6 told.length (names told)) := Lib.hid (own_fr HO.out (Fr.of_below (below_and (below_drewN nq) (below_alloc _ _)) []) (fun _ _ => by simp))
        have HWq := Lib.hid ((HW.out.kept (below_drewN nq)).kept (below_alloc _ (.cells #[.string x.1] 9)))
        have HSZ : Hid (w.heap.size ≤ ((wr.drewN nq).alloc (.cells #[.string x.1] 9)).heap.size) := Lib.hid (by have := HS.out.fr.size; simp; omega)
        go_wp2_with (at_builtin; refine wpList_app5 rfl _ _ 44 44 rfl w.heap.size 9 i0 (.string ⟨#[]⟩) 1 16 Try.underlying44 hi hz0 hz1 hz2 rfl _ told.length _ rfl HOq.out _ 1 _ rfl (src_block Try.underlying44 _ _ #[_] (heap_alloc_new (wr.drewN nq) _) rfl (by simp [Value.oneCell'])) (by unfold maxLen; omega) (by omega) HSZ.out ?_; intro v5 w5 ho5 hg5 hn5; have HO5 := Lib.hid ho5; have hg6 : World.grownBy ((wr.drewN nq).alloc (.cells #[.string x.1] 9)) w5 u6.ownBlock := hg5; have HG5 := Lib.hid hg6; have HN5 : Hid (∀ k, v5.ownBlock = some k → u6.ownBlock = some k ∨ (wr.drewN nq).heap.size + 1 ≤ k) := Lib.hid (fun k hk => (hn5 k hk).imp (fun e => e) (fun e => by simpa using e)); have hW5 : RWt w5 b T' _ (x :: M) := HWq.out.fr (Fr.of_grown hg6) (fun k hk hm => by
            rcases mem_fpW.1 hk with rfl | hk
            · have := (HLT.out k (by simpa using hm)).1; have := HBS.out; omega
            · exact HD.out k (by simpa using hm) hk); have HW5 := Lib.hid hW5; have d1 := hW5.blk.cell (j := 1) rfl; have g1 := hW5.blk.free 1; clear ho5 hg5 hg6 hn5 hW5)
        go_roundw
        case rel =>
          have hv3 : ∀ k, (Value.slice (if cap = 1 then some ⟨g, o, none⟩ else some ⟨g, o + 2, none⟩) M.length (cap - 1)).ownBlock = some k → k = g := fun k hk => by
            split at hk <;> simp [Value.ownBlock] at hk <;> omega
          have hgb : g ≠ b := fun e => HW.out.ne (by simp [Value.ownBlock, e])
          have hn5 : ∀ k, v5.ownBlock = some k → w.heap.size ≤ k ∧ k ≠ g := fun k hk => by
            rcases HN5.out k hk with h1 | h1
            · have := HLT.out k h1
              exact ⟨this.1, fun e => HD.out k h1 (by simp [Value.ownBlock, e])⟩
            · have h2 : wr.heap.size + 1 ≤ k := h1
              have := HS.out.fr.size
              have := HGL.out
              omega
          have hf5 : Fr (b :: u6.ownBlock.toList) wr w5 := (Fr.of_below (below_and (below_drewN nq) (below_alloc _ _)) _).then ((Fr.of_grown HG5.out).mono (fun x hx => List.mem_cons_of_mem _ hx))
          refine ⟨told ++ [x], M, _, by simp only [List.length_append, List.length_cons, List.length_nil] at *; omega, own_other (by simpa [names] using HO5.out) (fun e => by have h9 : w.heap.size ≤ b := (hn5 _ e).1; have := HBS.out; omega) _, ⟨HW5.out.blk.set 1 _, row_fr (row_rest HW5.out.row) ((Fr.refl [b] _).set (p := ⟨b, 1, none⟩) (by simp) _) (fun k hk hm => by simp at hm; rw [hv3 k hk] at hm; exact hgb hm), fun e => hgb (hv3 b e).symm⟩, ⟨?_, fun k hk => ?_⟩, HE.out, fun k hk hv => (hn5 k hk).2 (hv3 k hv), .inr (by split <;> exact ⟨_, _, _, _, rfl⟩)⟩
          · refine HS.out.fr.trans (hf5.set (p := ⟨b, 1, none⟩) (by simp) _) (fun y hy => ?_)
            rcases List.mem_cons.1 hy with h1 | h1
            · exact .inl (by simp [h1])
            · exact .inr (HLT.out y (by simpa using h1)).1
          · rw [hv3 k hk]
            exact (HS.out.new g rfl).imp id fun h2 => ⟨h2.1, by have h7 := hf5.size; have h8 := h2.2; have h9 : ∀ (p : Addr) (u : Value), (w5.setCell p u).heap.size = w5.heap.size := (fun _ _ => (by simp [World.setCell])); rw [h9]; omega⟩
        case measure =>
          have h5 : slen v5 = told.length + 1 := by obtain ⟨p, c, e, -, -⟩ := own_slice HO5.out; rw [e]; rfl
          simp only [List.length_cons] at hlen
          simp only [hso, h5, Array.getD, List.size_toArray] at *
          omega
      · go_wp2
        go_quiet (fail)
        go_wp2
        go_ret2
        have HE := HT.out
        rw [List.takeWhile_cons_of_neg (by simpa [dueP] using hle), List.dropWhile_cons_of_neg (by simpa [dueP] using hle), List.append_nil] at HE
        refine ⟨u6, _, rfl, ?_, ?_, HS.out.trans (RStp.of_below (below_drewN nq) _ _), HSH.out⟩
        · rw [HE.1]
          exact own_fr HO.out (Fr.of_below (below_drewN nq) []) (fun _ _ => by simp)
        · rw [HE.2]
          exact HW.out.kept (below_drewN nq)
end Go.Proofs.Ytmgcigohfccgeaa
