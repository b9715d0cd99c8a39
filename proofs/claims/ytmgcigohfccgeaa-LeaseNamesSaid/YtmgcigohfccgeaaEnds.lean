/- The watch's ends as a heap: what the methods that container/heap calls do. -/
import Derived.Test.YtmgcigohfccgeaaCmp
import Derived.Deep.RegionLaw
namespace Go.Proofs.Ytmgcigohfccgeaa
open Go.RowKit

def ecells (L : List End) : List Value := L.flatMap fun x => [.string x.1, .int .i64 x.2]
theorem ecells_cons (x : End) (L : List End) : ecells (x :: L) = .string x.1 :: .int .i64 x.2 :: ecells L := rfl
theorem ecells_append (L M : List End) : ecells (L ++ M) = ecells L ++ ecells M := by simp [ecells]
theorem ecells_length (L : List End) : (ecells L).length = L.length * 2 := by
  induction L with
  | nil => rfl
  | cons x L ih => rw [ecells_cons]; simp only [List.length_cons, ih]; omega
theorem ecells_name : ∀ {L : List End} {i : Nat} {x : End}, L[i]? = some x → (ecells L)[i * 2]? = some (.string x.1)
  | [], _, _, h => by simp at h
  | y :: L, 0, x, h => by simp at h; subst h; rfl
  | y :: L, i + 1, x, h => by
    rw [ecells_cons, show (i + 1) * 2 = i * 2 + 1 + 1 by omega]
    simp only [List.getElem?_cons_succ] at h ⊢
    exact ecells_name h
theorem ecells_at : ∀ {L : List End} {i : Nat} {x : End}, L[i]? = some x → (ecells L)[i * 2 + 1]? = some (.int .i64 x.2)
  | [], _, _, h => by simp at h
  | y :: L, 0, x, h => by simp at h; subst h; rfl
  | y :: L, i + 1, x, h => by
    rw [ecells_cons, show (i + 1) * 2 + 1 = i * 2 + 1 + 1 + 1 by omega]
    simp only [List.getElem?_cons_succ] at h ⊢
    exact ecells_at h
theorem ecells_set : ∀ (L : List End) (i : Nat) (x : End), ((ecells L).set (i * 2) (.string x.1)).set (i * 2 + 1) (.int .i64 x.2) = ecells (L.set i x)
  | [], _, _ => by simp [ecells]
  | y :: L, 0, x => by simp [ecells_cons]
  | y :: L, i + 1, x => by
    rw [ecells_cons, show (i + 1) * 2 = i * 2 + 1 + 1 by omega]
    simp only [List.set_cons_succ, ecells_cons]
    rw [ecells_set L i x]
theorem ecells_take (L : List End) (m : Nat) : (ecells L).take (m * 2) = ecells (L.take m) := by
  induction m generalizing L with
  | zero => simp [ecells]
  | succ m ih =>
    cases L with
    | nil => simp [ecells]
    | cons x L =>
      rw [ecells_cons, show (m + 1) * 2 = m * 2 + 1 + 1 by omega]
      simp only [List.take_succ_cons, ecells_cons, ih]

/-- block b is a watch that was made: its clock, its ends as they lie, the slice's value -/
structure Wt (w : World) (b : Nat) (T : Int) (v : Value) (L : List End) : Prop where
  blk : Blk w b [.int .i64 T, v, .bool true] 87
  own : w.ownsRow 0 101 2 v L.length (ecells L)
  ne : v.ownBlock ≠ some b

def fpW (b : Nat) (v : Value) : List Nat := b :: v.ownBlock.toList

/-- what a call on a watch leaves of the rest: only its blocks have turned; its blocks then are of those, or new -/
structure Stp (w w' : World) (b : Nat) (v v' : Value) : Prop where
  fr : Fr (fpW b v) w w'
  new : ∀ k, v'.ownBlock = some k → v.ownBlock = some k ∨ w.heap.size ≤ k

theorem Stp.refl (w : World) (b : Nat) (v : Value) : Stp w w b v v := ⟨Fr.refl _ _, fun _ h => .inl h⟩
theorem mem_fpW {k b : Nat} {v : Value} : k ∈ fpW b v ↔ k = b ∨ v.ownBlock = some k := by
  unfold fpW; simp
theorem Stp.trans {a c d : World} {b : Nat} {u v x : Value} (h : Stp a c b u v) (k : Stp c d b v x) : Stp a d b u x :=
  ⟨h.fr.trans k.fr fun y hy => by
    rcases mem_fpW.1 hy with rfl | hy
    · exact .inl (mem_fpW.2 (.inl rfl))
    · rcases h.new y hy with h1 | h1
      · exact .inl (mem_fpW.2 (.inr h1))
      · exact .inr h1,
   fun y hy => by
    rcases k.new y hy with h1 | h1
    · exact h.new y h1
    · exact .inr (Nat.le_trans h.fr.size h1)⟩
theorem Stp.of_below {w w' : World} (h : Below w.heap.size w w') (b : Nat) (v : Value) : Stp w w' b v v := ⟨Fr.of_below h _, fun _ h => .inl h⟩

theorem Wt.kept {w w' : World} {b : Nat} {T : Int} {v : Value} {L : List End} (h : Wt w b T v L) (hb : Below w.heap.size w w') : Wt w' b T v L :=
  ⟨h.blk.kept hb, own_fr h.own (Fr.of_below hb []) (fun _ _ => by simp), h.ne⟩
theorem Wt.fr {S : List Nat} {w w' : World} {b : Nat} {T : Int} {v : Value} {L : List End} (h : Wt w b T v L) (hf : Fr S w w') (hs : ∀ k ∈ fpW b v, k ∉ S) : Wt w' b T v L :=
  ⟨h.blk.fr hf (hs b (mem_fpW.2 (.inl rfl))), own_fr h.own hf (fun g hg => hs g (mem_fpW.2 (.inr hg))), h.ne⟩

abbrev hp (b : Nat) : Value := .iface 98 (.pointer (some ⟨b, 1, none⟩))

/-- where the ends lie, if there are some -/
theorem Wt.lies {w : World} {b : Nat} {T : Int} {v : Value} {L : List End} (h : Wt w b T v L) (hL : 0 < L.length) : ∃ g cap, v = .slice (some ⟨g, 0, none⟩) L.length cap ∧ L.length ≤ cap ∧ L.length ≤ 9223372036854775807 ∧ g < w.heap.size ∧ g ≠ b := by
  obtain ⟨g, cap, rfl, h1, h2, h3⟩ := own_block h.own hL
  exact ⟨g, cap, rfl, h1, by simp only [maxLen] at h2; omega, h3, fun e => h.ne (by simp [Value.ownBlock, e])⟩
theorem Wt.shape {w : World} {b : Nat} {T : Int} {v : Value} {L : List End} (h : Wt w b T v L) : ∃ p c, v = .slice p L.length c ∧ L.length ≤ c ∧ c ≤ maxLen := own_slice h.own

set_option maxRecDepth 100000 in
set_option maxHeartbeats 400000 in
theorem elen_any (p : Option Addr) (n c : Nat) (w : World) :
    Calls Try.prog 118 #[.slice p n c] w fun e w' => e = .returned (.int .i64 (n : Int)) ∧ w = w' := by
  go_enter Try.func118, Try.ntmps118
  go_wp2
  go_ret
  exact ⟨rfl, rfl⟩

set_option maxRecDepth 100000 in
set_option maxHeartbeats 400000 in
theorem eswap_any (b i j : Nat) (T : Int) (v : Value) (L : List End) (w : World) (h : Wt w b T v L) (hi : i < L.length) (hj : j < L.length) :
    Calls Try.prog 120 #[v, .int .i64 (i : Int), .int .i64 (j : Int)] w fun e w' => e = .returned (.tuple #[]) ∧ Wt w' b T v (Hp.swap L i j) ∧ Stp w w' b v v := by
  obtain ⟨g, cap, rfl, hcap, hn, hg, hgb⟩ := h.lies (by omega)
  obtain ⟨x, hx⟩ : ∃ x, x = L[i] := ⟨_, rfl⟩
  obtain ⟨y, hy⟩ : ∃ y, y = L[j] := ⟨_, rfl⟩
  have hx' : L[i]? = some x := by rw [hx, List.getElem?_eq_getElem hi]
  have hy' : L[j]? = some y := by rw [hy, List.getElem?_eq_getElem hj]
  have c1 := own_cell h.own (ecells_name hx')
  have c2 := own_cell h.own (ecells_at hx')
  have c3 := own_cell h.own (ecells_name hy')
  have c4 := own_cell h.own (ecells_at hy')
  have hf := own_free h.own
  have hsw : Hid (Hp.swap L i j = (L.set i y).set j x) := Lib.hid (by unfold Hp.swap; rw [hx', hy'])
  have hlen : Hid (∀ w', Wt w' b T (.slice (some ⟨g, 0, none⟩) L.length cap) ((L.set i y).set j x) ↔ (Blk w' b [.int .i64 T, .slice (some ⟨g, 0, none⟩) L.length cap, .bool true] 87 ∧ w'.ownsRow 0 101 2 (.slice (some ⟨g, 0, none⟩) L.length cap) L.length (ecells ((L.set i y).set j x)))) := Lib.hid fun w' => by
    constructor
    · intro k; exact ⟨k.blk, by simpa using k.own⟩
    · rintro ⟨k1, k2⟩; exact ⟨k1, by simpa using k2, h.ne⟩
  have H := Lib.hid h
  have HE : Hid (ecells ((L.set i y).set j x) = ((((ecells L).set (i * 2) (.string y.1)).set (i * 2 + 1) (.int .i64 y.2)).set (j * 2) (.string x.1)).set (j * 2 + 1) (.int .i64 x.2)) := Lib.hid (by rw [ecells_set, ecells_set])
  have HI : Hid (i * 2 < L.length * 2 ∧ i * 2 + 1 < L.length * 2 ∧ j * 2 < L.length * 2 ∧ j * 2 + 1 < L.length * 2) := Lib.hid (by omega)
  have hij : i = j ∨ (i * 2 ≠ j * 2 ∧ i * 2 ≠ j * 2 + 1 ∧ i * 2 + 1 ≠ j * 2) := by omega
  have HX := Lib.hid hx
  have HY := Lib.hid hy
  obtain ⟨s1, a1⟩ := x
  obtain ⟨s2, a2⟩ := y
  clear h hx hy hx' hy'
  go_enter Try.func120, Try.ntmps120
  rcases hij with rfl | ⟨e1, e2, e3⟩
  · have : (s1, a1) = (s2, a2) := HX.out.trans HY.out.symm
    simp only [Prod.mk.injEq] at this
    obtain ⟨rfl, rfl⟩ := this
    go_region
    all_goals go_wp2
    all_goals refine end0 rfl rfl ⟨rfl, ?_, ?_⟩
    · rw [hsw.out, hlen.out, HE.out]
      exact ⟨(((((H.out.blk.other hgb.symm _).other hgb.symm _).other hgb.symm _).other hgb.symm _).kept (below_drewN 1)), own_fr (own_set (own_set (own_set (own_set H.out.own HI.out.1 _) HI.out.2.1 _) HI.out.2.2.1 _) HI.out.2.2.2 _) (Fr.of_below (below_drewN 1) []) (fun _ _ => by simp)⟩
    · exact ⟨((((Fr.refl _ _).set (mem_fpW.2 (.inr rfl)) _).set (mem_fpW.2 (.inr rfl)) _).set (mem_fpW.2 (.inr rfl)) _).set (mem_fpW.2 (.inr rfl)) _ |>.draw 1, fun _ h => .inl h⟩
  · go_region
    all_goals go_wp2
    all_goals refine end0 rfl rfl ⟨rfl, ?_, ?_⟩
    · rw [hsw.out, hlen.out, HE.out]
      exact ⟨(((((H.out.blk.other hgb.symm _).other hgb.symm _).other hgb.symm _).other hgb.symm _).kept (below_drewN 1)), own_fr (own_set (own_set (own_set (own_set H.out.own HI.out.1 _) HI.out.2.1 _) HI.out.2.2.1 _) HI.out.2.2.2 _) (Fr.of_below (below_drewN 1) []) (fun _ _ => by simp)⟩
    · exact ⟨((((Fr.refl _ _).set (mem_fpW.2 (.inr rfl)) _).set (mem_fpW.2 (.inr rfl)) _).set (mem_fpW.2 (.inr rfl)) _).set (mem_fpW.2 (.inr rfl)) _ |>.draw 1, fun _ h => .inl h⟩
end Go.Proofs.Ytmgcigohfccgeaa
