/- Parse: the plain part of its walk. -/
import Derived.Test.YtjjaaooiajmclaaDoorRuNot
import Derived.Test.YtjjaaooiajmclaaDoorRuToldA
import Derived.Test.YtjjaaooiajmclaaDoorRuRet
namespace Go.Proofs.YtjjaaooiajmclaaDoor.Ru
open Go.RowKit Go.Proofs.YtjjaaooiajmclaaDoor

/-- what Parse answers -/
def ParsS (w w' : World) (R : Except (Int × Int) (List Nd)) (r : Ending) : Prop :=
  match R with
  | .error e => r = .returned (.tuple #[.agg #[.slice none 0 0], .agg #[.int .i64 e.1, .int .i64 e.2]]) ∧ Below w.heap.size w w'
  | .ok L => (∃ v, r = .returned (.tuple #[.agg #[v], .agg #[.int .i64 0, .int .i64 0]]) ∧ w'.ownsRow w.heap.size 50 6 v L.length (rwC ndC L)) ∧ Below w.heap.size w w'
theorem errB_of {w : World} (h : ErrV w) : ErrB w.heap.size w := by
  obtain ⟨tp, p, hv⟩ := h
  refine ⟨⟨tp, p, hv⟩, ?_⟩
  unfold World.var? at hv
  cases hq : Tryd.prog.globalNamed "strconv.ErrSyntax" with
  | none => rw [hq] at hv; cases hv
  | some g =>
    refine ⟨g, rfl, ?_⟩
    rw [hq] at hv
    simp only [Option.bind_some] at hv
    rcases Nat.lt_or_ge g w.heap.size with h' | h'
    · exact h'
    · rw [Array.getElem?_eq_none h'] at hv; cases hv
theorem ErrB.mono {b b' : Nat} {w : World} (h : ErrB b w) (hb : b ≤ b') : ErrB b' w := by
  obtain ⟨h1, g, h2, h3⟩ := h
  exact ⟨h1, g, h2, by omega⟩
/-- what is known behind the reading: the fault, or a tree -/
def Mid (s : ByteArray) (L : List Nd) (e a : Int) : Prop :=
  (e ≠ 0 ∧ parseP s.data.toList = .error (e, a)) ∨
  (e = 0 ∧ a = 0 ∧ ∃ t : Tr, t.ok ∧ t.size ≤ 64 ∧ L = t.flat 0 ∧ parseP s.data.toList = if 1024 < (toldA L).length then .error (3, -1) else .ok L)
/-- .. and behind the test of its length -/
def Mid2 (s : ByteArray) (L : List Nd) (e a : Int) : Prop :=
  (e ≠ 0 ∧ parseP s.data.toList = .error (e, a)) ∨ (e = 0 ∧ a = 0 ∧ parseP s.data.toList = .ok L)
theorem list_size (s : ByteArray) : s.data.toList.length = s.size := by simp
theorem rest0 (s : ByteArray) : rest s 0 = s.data.toList := rfl
section
variable {s : ByteArray}
theorem parse_err (hs : s.size ≤ 1024) {e : Int × Int} (h : orP s.size (s.size + 1) 0 ⟨0, [], rest s 0⟩ = .error e) : parseP s.data.toList = .error e ∧ e.1 ≠ 0 := by
  refine ⟨?_, ?_⟩
  · unfold parseP
    rw [list_size, if_neg (by omega), ← rest0, h]
  · exact (kp_or s.size (s.size + 1) 0 (by omega)).err 0 [] (rest s 0) e (by rw [rest_len]; omega) (by rw [rest_len]; omega) h
theorem parse_more (hs : s.size ≤ 1024) {q : Int × Ps} (h : orP s.size (s.size + 1) 0 ⟨0, [], rest s 0⟩ = .ok q) {k : Nat} (hr : q.2.r = rest s k) (hk : k ≤ s.size) (hm : skip s k < s.size) : parseP s.data.toList = .error (5, (skip s k : Int)) := by
  obtain ⟨-, h2, h3, -, -⟩ := skip_is hk
  unfold parseP
  rw [list_size, if_neg (by omega), ← rest0, h]
  simp only
  rw [hr, h3, if_pos (by intro e; have := rest_len s (skip s k); rw [e] at this; simp at this; omega), pos_rest h2]
theorem parse_mid (hs : s.size ≤ 1024) {q : Int × Ps} (h : orP s.size (s.size + 1) 0 ⟨0, [], rest s 0⟩ = .ok q) {k : Nat} (hr : q.2.r = rest s k) (hk : k ≤ s.size) (hm : ¬ skip s k < s.size) : Mid s q.2.L 0 0 := by
  obtain ⟨h1, h2, h3, -, -⟩ := skip_is hk
  obtain ⟨t, g1, g2, g3⟩ := orP_is (notP_is _ _ 0 (by omega)) _ _ _ q.1 q.2 h
  have hL := g2.L
  simp only [List.nil_append, List.length_nil] at hL
  have hn := g2.n
  have hmm := g2.most
  refine .inr ⟨rfl, rfl, t, g1.1, by omega, hL, ?_⟩
  unfold parseP
  rw [list_size, if_neg (by omega), ← rest0, h]
  simp only
  have he : blk q.2.r = [] := by
    rw [hr, h3]
    have e : skip s k = s.size := by omega
    rw [e, rest_end]
  rw [if_neg (by rw [he]; simp)]
theorem or_got {q : Int × Ps} (h : orP s.size (s.size + 1) 0 ⟨0, [], rest s 0⟩ = .ok q) : q.2.L.length ≤ 64 := by
  obtain ⟨t, g1, g2, g3⟩ := orP_is (notP_is _ _ 0 (by omega)) _ _ _ q.1 q.2 h
  have hL := g2.L
  simp only [List.nil_append, List.length_nil] at hL
  have hn := g2.n
  have hmm := g2.most
  rw [hL, t.flat_len]
  omega
end
/-- behind the reading and the blanks: place k -/
def Mid0 (s : ByteArray) (k : Nat) (L : List Nd) (e a : Int) : Prop :=
  (e ≠ 0 ∧ parseP s.data.toList = .error (e, a)) ∨
  (e = 0 ∧ a = 0 ∧ (k < s.size → parseP s.data.toList = .error (5, (k : Int))) ∧ (¬ k < s.size → Mid s L 0 0))
theorem mid0_of {w w' : World} {s : ByteArray} {b : Nat} {j : Int} (hs : s.size ≤ 1024) (h : OutS b w w' b s ((0 : Nat) : Int) (orP s.size (s.size + 1) 0 ⟨0, [], rest s 0⟩) j) :
    ∃ k d n v L e a, Prs b w' b s k d n v L e a ∧ Mid0 s (skip s k) L e a ∧ Below b w w' := by
  cases hR : orP s.size (s.size + 1) 0 ⟨0, [], rest s 0⟩ with
  | error e =>
    rw [hR] at h
    obtain ⟨⟨k, d, n, v, L, hp⟩, hb⟩ := h
    obtain ⟨h1, h2⟩ := parse_err hs hR
    exact ⟨k, d, n, v, L, e.1, e.2, hp, .inl ⟨h2, h1⟩, hb⟩
  | ok q =>
    rw [hR] at h
    obtain ⟨-, ⟨k, v, hr, hp⟩, hb⟩ := h
    exact ⟨k, _, _, v, q.2.L, 0, 0, hp, .inr ⟨rfl, rfl, fun hm => parse_more hs hR hr hp.kb hm, fun hm => parse_mid hs hR hr hp.kb hm⟩, hb⟩
theorem mid_more {s : ByteArray} {k : Nat} {L : List Nd} {e a : Int} (h : Mid0 s k L e a) (hk : k < s.size) : Mid s L (flt e a 5 (k : Int)).1 (flt e a 5 (k : Int)).2 := by
  unfold flt
  rcases h with ⟨h1, h2⟩ | ⟨rfl, rfl, h1, -⟩
  · rw [if_neg (fun h => h1 h.1)]
    exact .inl ⟨h1, h2⟩
  · rw [if_pos ⟨rfl, rfl⟩]
    exact .inl ⟨by show (5 : Int) ≠ 0; decide, h1 hk⟩
theorem mid_end {s : ByteArray} {k : Nat} {L : List Nd} {e a : Int} (h : Mid0 s k L e a) (hk : ¬ k < s.size) : Mid s L e a := by
  rcases h with ⟨h1, h2⟩ | ⟨rfl, rfl, -, h1⟩
  · exact .inl ⟨h1, h2⟩
  · exact h1 hk
end Go.Proofs.YtjjaaooiajmclaaDoor.Ru
