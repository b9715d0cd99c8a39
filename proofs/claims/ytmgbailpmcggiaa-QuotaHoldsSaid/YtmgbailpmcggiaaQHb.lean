/- Acts on a book, and what holds between them. -/
import Derived.Test.YtmgbailpmcggiaaQHa
import Derived.Test.YtmgbailpmcggiaaIRows
import Derived.Test.YtmgbailpmcggiaaQOff
import Derived.Test.YtmgbailpmcggiaaOpen5
import Derived.Test.YtmgbailpmcggiaaAdd
namespace Go.Proofs.Ytmgbailpmcggiaa
open Go.RowKit

theorem Row.shape' {w : World} {v : Value} {size n : Nat} {cs : List Value} (h : Row w v size n cs) : ∃ p c, v = .slice p n c ∧ n ≤ c ∧ c ≤ maxLen := by
  obtain ⟨p, c, hv, h1, h2, -⟩ := h
  exact ⟨p, c, hv, h1, h2⟩
theorem Row.at' {α : Type} {c : α → List Value} {k : Nat} (hk : ∀ x, (c x).length = k) {w : World} {p : Option Addr} {n q : Nat} {L : List α} (h : Row w (.slice p n q) k L.length (rwC c L)) {i : Nat} (hi : i < L.length) (h0 : 0 < k) :
    ∃ b o, p = some ⟨b, o, none⟩ ∧ ∀ j u, j < k → (c L[i])[j]? = some u → w.cell? ⟨b, o + i * k + j, none⟩ = some u := by
  obtain ⟨p', c', hv, h1, h2, h3, h4, h5, h6⟩ := h
  simp only [Value.slice.injEq] at hv
  obtain ⟨rfl, rfl, rfl⟩ := hv
  rcases h6 with h6 | ⟨b, o, hp, ha⟩
  · rw [h6] at h3
    have : 0 < L.length * k := Nat.mul_pos (by omega) h0
    simp at h3
    omega
  · refine ⟨b, o, hp, fun j u hj hu => ?_⟩
    rw [Nat.add_assoc]
    exact ha _ _ (by rw [rwC_at hk hi hj]; exact hu)


set_option maxRecDepth 100000 in
set_option maxHeartbeats 2000000 in
theorem charges_same (L : List Ch) (v1 v2 : Value) (w : World) (h1 : Row w v1 7 L.length (rwC chC L)) (h2 : Row w v2 7 L.length (rwC chC L)) :
    Calls Try.prog 20 #[v1, v2] w fun e w' => e = .returned (.bool true) ∧ Below w.heap.size w w' := by
  obtain ⟨p1, k1, rfl, hk1, hm1⟩ := h1.shape'
  obtain ⟨p2, k2, rfl, hk2, hm2⟩ := h2.shape'
  have H1 := Lib.hid h1
  have H2 := Lib.hid h2
  have hml : maxLen ≤ 9223372036854775807 := by decide
  clear h1 h2
  go_enter Try.func20, Try.ntmps20
  go_wp2
  go_loopw [5] (fun i wr => ∃ k : Nat, k ≤ L.length ∧ i = .int .i64 (k : Int) ∧ Hid (Below w.heap.size w wr)) (fun i _ => L.length - (intOf i).toNat)
  case atStart => exact ⟨0, Nat.zero_le _, rfl, Lib.hid (Below.refl _ _)⟩
  case round =>
    obtain ⟨k, hk, rfl, HB⟩ := hrel
    by_cases hlt : k < L.length
    · obtain ⟨g1, o1, rfl, f1⟩ := Row.at' chC_len H1.out hlt (by omega)
      obtain ⟨g2, o2, rfl, f2⟩ := Row.at' chC_len H2.out hlt (by omega)
      obtain ⟨x, hx⟩ : ∃ x, x = L[k] := ⟨_, rfl⟩
      rw [← hx] at f1 f2
      have f3 : ∀ j u, j < 7 → (chC x)[j]? = some u → ∀ s : Past wr, s.val.cell? ⟨g1, o1 + k * 7 + j, none⟩ = some u := fun j u hj hu => Past.cell (cell_kept (f1 j u hj hu) HB.out)
      have f4 : ∀ j u, j < 7 → (chC x)[j]? = some u → ∀ s : Past wr, s.val.cell? ⟨g2, o2 + k * 7 + j, none⟩ = some u := fun j u hj hu => Past.cell (cell_kept (f2 j u hj hu) HB.out)
      have a0 : ∀ s : Past wr, s.val.cell? ⟨g1, o1 + k * 7, none⟩ = some (.string x.n) := f3 0 _ (by omega) rfl
      have a1 := f3 1 _ (by omega) rfl
      have a2 := f3 2 _ (by omega) rfl
      have a3 := f3 3 _ (by omega) rfl
      have a4 := f3 4 _ (by omega) rfl
      have a5 := f3 5 _ (by omega) rfl
      have a6 := f3 6 _ (by omega) rfl
      have d0 : ∀ s : Past wr, s.val.cell? ⟨g2, o2 + k * 7, none⟩ = some (.string x.n) := f4 0 _ (by omega) rfl
      have d1 := f4 1 _ (by omega) rfl
      have d2 := f4 2 _ (by omega) rfl
      have d3 := f4 3 _ (by omega) rfl
      have d4 := f4 4 _ (by omega) rfl
      have d5 := f4 5 _ (by omega) rfl
      have d6 := f4 6 _ (by omega) rfl
      have i1 : (k : Int) < (L.length : Int) := by omega
      have i0 : (0 : Int) ≤ (k : Int) := by omega
      clear f1 f2 f3 f4 hx
      go_wp2
      refine wp_region_past (by kernel_rfl) (by kernel_rfl) ?_
      repeat (go_big_quiet_step (fail))
      refine wpQuiet_nil ?_
      intro _ hw'
      obtain ⟨s9, hw''⟩ := hw'
      subst hw''
      obtain ⟨w9, h9, e9⟩ : ∃ w9, Below wr.heap.size wr w9 ∧ w9 = s9.val := ⟨_, s9.h, rfl⟩
      rw [← e9]
      have HB9 : Hid (Below w.heap.size w w9) := Lib.hid (below_and HB.out h9)
      clear h9 e9 a0 d0 a1 d1 a2 d2 a3 d3 a4 d4 a5 d5 a6 d6
      go_wp2
      go_roundw
      case rel => exact ⟨k + 1, hlt, by go_num, HB9⟩
      case measure => simp [intOf]; omega
    · obtain rfl : k = L.length := by omega
      go_wp2
      go_ret
      exact ⟨rfl, HB.out⟩

set_option maxRecDepth 100000 in
set_option maxHeartbeats 2000000 in
theorem grants_same (L : List Gr) (v1 v2 : Value) (w : World) (h1 : Row w v1 6 L.length (rwC grC L)) (h2 : Row w v2 6 L.length (rwC grC L)) :
    Calls Try.prog 21 #[v1, v2] w fun e w' => e = .returned (.bool true) ∧ Below w.heap.size w w' := by
  obtain ⟨p1, k1, rfl, hk1, hm1⟩ := h1.shape'
  obtain ⟨p2, k2, rfl, hk2, hm2⟩ := h2.shape'
  have H1 := Lib.hid h1
  have H2 := Lib.hid h2
  have hml : maxLen ≤ 9223372036854775807 := by decide
  clear h1 h2
  go_enter Try.func21, Try.ntmps21
  go_wp2
  go_loopw [5] (fun i wr => ∃ k : Nat, k ≤ L.length ∧ i = .int .i64 (k : Int) ∧ Hid (Below w.heap.size w wr)) (fun i _ => L.length - (intOf i).toNat)
  case atStart => exact ⟨0, Nat.zero_le _, rfl, Lib.hid (Below.refl _ _)⟩
  case round =>
    obtain ⟨k, hk, rfl, HB⟩ := hrel
    by_cases hlt : k < L.length
    · obtain ⟨g1, o1, rfl, f1⟩ := Row.at' grC_len H1.out hlt (by omega)
      obtain ⟨g2, o2, rfl, f2⟩ := Row.at' grC_len H2.out hlt (by omega)
      obtain ⟨x, hx⟩ : ∃ x, x = L[k] := ⟨_, rfl⟩
      rw [← hx] at f1 f2
      have f3 : ∀ j u, j < 6 → (grC x)[j]? = some u → ∀ s : Past wr, s.val.cell? ⟨g1, o1 + k * 6 + j, none⟩ = some u := fun j u hj hu => Past.cell (cell_kept (f1 j u hj hu) HB.out)
      have f4 : ∀ j u, j < 6 → (grC x)[j]? = some u → ∀ s : Past wr, s.val.cell? ⟨g2, o2 + k * 6 + j, none⟩ = some u := fun j u hj hu => Past.cell (cell_kept (f2 j u hj hu) HB.out)
      have a0 : ∀ s : Past wr, s.val.cell? ⟨g1, o1 + k * 6, none⟩ = some (.string x.u) := f3 0 _ (by omega) rfl
      have a1 := f3 1 _ (by omega) rfl
      have a2 := f3 2 _ (by omega) rfl
      have a3 := f3 3 _ (by omega) rfl
      have a4 := f3 4 _ (by omega) rfl
      have a5 := f3 5 _ (by omega) rfl
      have d0 : ∀ s : Past wr, s.val.cell? ⟨g2, o2 + k * 6, none⟩ = some (.string x.u) := f4 0 _ (by omega) rfl
      have d1 := f4 1 _ (by omega) rfl
      have d2 := f4 2 _ (by omega) rfl
      have d3 := f4 3 _ (by omega) rfl
      have d4 := f4 4 _ (by omega) rfl
      have d5 := f4 5 _ (by omega) rfl
      have i1 : (k : Int) < (L.length : Int) := by omega
      have i0 : (0 : Int) ≤ (k : Int) := by omega
      clear f1 f2 f3 f4 hx
      go_wp2
      refine wp_region_past (by kernel_rfl) (by kernel_rfl) ?_
      repeat (go_big_quiet_step (fail))
      refine wpQuiet_nil ?_
      intro _ hw'
      obtain ⟨s9, hw''⟩ := hw'
      subst hw''
      obtain ⟨w9, h9, e9⟩ : ∃ w9, Below wr.heap.size wr w9 ∧ w9 = s9.val := ⟨_, s9.h, rfl⟩
      rw [← e9]
      have HB9 : Hid (Below w.heap.size w w9) := Lib.hid (below_and HB.out h9)
      clear h9 e9 a0 d0 a1 d1 a2 d2 a3 d3 a4 d4 a5 d5
      go_wp2
      go_roundw
      case rel => exact ⟨k + 1, hlt, by go_num, HB9⟩
      case measure => simp [intOf]; omega
    · obtain rfl : k = L.length := by omega
      go_wp2
      go_ret
      exact ⟨rfl, HB.out⟩
end Go.Proofs.Ytmgbailpmcggiaa
namespace Go.Proofs.Ytmgbailpmcggiaa
open Go.RowKit

structure Ac where
  k : Int
  s : ByteArray
  u : ByteArray
  d : Int
  a : Am
abbrev Ac.c (x : Ac) : List Value := actC x.k x.s x.u x.d x.a
abbrev Ac.v (x : Ac) : Value := actV x.k x.s x.u x.d x.a
def Ac.ok (x : Ac) : Prop := -9223372036854775808 ≤ x.d ∧ x.d ≤ 9223372036854775807
def Acts (w : World) (v : Value) (l : List Ac) : Prop := Row w v 8 l.length (rwC Ac.c l) ∧ ∀ x ∈ l, x.ok
theorem Acts.below {w w' : World} {v : Value} {l : List Ac} (h : Acts w v l) (hb : Below w.heap.size w w') : Acts w' v l := ⟨h.1.below hb, h.2⟩
theorem wf_int {n : Int} (h : (Lit.int .i64 n).wf = true) : -9223372036854775808 ≤ n ∧ n ≤ 9223372036854775807 := by
  simp [Lit.wf, IntKind.min, IntKind.max, IntKind.bits, IntKind.signed] at h
  omega
theorem acts_list : ∀ es : List (List Value), (∀ x ∈ es, Leaves Try.prog [3, 9, 9, 3, 2, 2, 2, 2] x) → ∃ l : List Ac, l.length = es.length ∧ rwC Ac.c l = es.flatten ∧ ∀ x ∈ l, x.ok
  | [], _ => ⟨[], rfl, rfl, fun _ h => nomatch h⟩
  | cs :: es, hf => by
    obtain ⟨l, h1, h2, h3⟩ := acts_list es fun x hx => hf x (List.mem_cons_of_mem _ hx)
    have h := hf cs List.mem_cons_self
    match cs, h.1, h.2 with
    | [v0, v1, v2, v3, v4, v5, v6, v7], _, hv =>
      obtain ⟨k, rfl, -⟩ := fieldOk.int (v := v0) (hv 0 _ rfl) Try.underlying3
      obtain ⟨s, rfl, -⟩ := fieldOk.str (v := v1) (hv 1 _ rfl) Try.underlying9
      obtain ⟨u, rfl, -⟩ := fieldOk.str (v := v2) (hv 2 _ rfl) Try.underlying9
      obtain ⟨d, rfl, hd⟩ := fieldOk.int (v := v3) (hv 3 _ rfl) Try.underlying3
      obtain ⟨c, rfl, -⟩ := fieldOk.int (v := v4) (hv 4 _ rfl) Try.underlying2
      obtain ⟨r, rfl, -⟩ := fieldOk.int (v := v5) (hv 5 _ rfl) Try.underlying2
      obtain ⟨e, rfl, -⟩ := fieldOk.int (v := v6) (hv 6 _ rfl) Try.underlying2
      obtain ⟨p, rfl, -⟩ := fieldOk.int (v := v7) (hv 7 _ rfl) Try.underlying2
      refine ⟨⟨k, s, u, d, ⟨c, r, e, p⟩⟩ :: l, by simp [h1], ?_, fun x hx => ?_⟩
      · rw [rwC_cons, List.flatten_cons, h2]
      · rcases List.mem_cons.1 hx with rfl | hx
        · exact wf_int hd
        · exact h3 x hx
theorem acts_of {w : World} {v : Value} {es : List (List Value)} (h : Row w v 8 es.length es.flatten) (hf : ∀ x ∈ es, Leaves Try.prog [3, 9, 9, 3, 2, 2, 2, 2] x) : ∃ l, Acts w v l := by
  obtain ⟨l, h1, h2, h3⟩ := acts_list es hf
  exact ⟨l, by rw [h1, h2]; exact h, h3⟩
theorem acC_len (x : Ac) : (x.c).length = 8 := rfl
theorem Acts.at {w : World} {p : Option Addr} {n c : Nat} {l : List Ac} (h : Acts w (.slice p n c) l) {i : Nat} (hi : i < l.length) :
    ∃ b o, p = some ⟨b, o, none⟩ ∧ ∀ j u, j < 8 → (l[i].c)[j]? = some u → w.cell? ⟨b, o + i * 8 + j, none⟩ = some u := by
  obtain ⟨⟨p', c', hv, h1, h2, h3, h4, h5, h6⟩, -⟩ := h
  simp only [Value.slice.injEq] at hv
  obtain ⟨rfl, rfl, rfl⟩ := hv
  exact Row.at' acC_len ⟨_, _, rfl, h1, h2, h3, h4, h5, h6⟩ hi (by omega)
theorem Acts.shape {w : World} {v : Value} {l : List Ac} (h : Acts w v l) : ∃ p c, v = .slice p l.length c ∧ l.length ≤ c ∧ c ≤ maxLen := h.1.shape'

/-- what an act answers, and the book behind it -/
def stepQ (G : List Gr) (C : List Ch) (x : Ac) : Int × List Gr × List Ch :=
  if x.k % 4 = 0 then ((grantP G x.u x.d x.a).1, (grantP G x.u x.d x.a).2, C)
  else if x.k % 4 = 1 then ((chargeP G C ⟨x.s, x.u, x.d, x.a⟩).1, G, (chargeP G C ⟨x.s, x.u, x.d, x.a⟩).2)
  else if x.k % 4 = 2 then ((refundP C x.s).1, G, (refundP C x.s).2)
  else ((changeP G C x.s x.a).1, G, (changeP G C x.s x.a).2)

set_option maxRecDepth 100000 in
set_option maxHeartbeats 2000000 in
theorem bo_step {w0 w : World} {b mg mc n : Nat} {G : List Gr} {C : List Ch} (h : Bo w0 w b mg mc n G C) (hn : n ≤ 1000) (x : Ac) (hx : x.ok) :
    Calls Try.prog 19 #[ptr b, x.v] w fun e w' => e = .returned (.int .i64 (stepQ G C x).1) ∧ Bo w0 w' b mg mc (n + 1) (stepQ G C x).2.1 (stepQ G C x).2.2 ∧ Fr [mg, mc] w w' := by
  obtain ⟨k, s, u, d, a⟩ := x
  obtain ⟨hd1, hd2⟩ := hx
  simp only at hd1 hd2
  obtain ⟨w3, hw3⟩ : ∃ w3, w3 = w.alloc (.cells #[.int .i64 k, .string s, .string u, .int .i64 d, .int .i64 a.c, .int .i64 a.r, .int .i64 a.d, .int .i64 a.p] 40) := ⟨_, rfl⟩
  obtain ⟨B, hB⟩ : ∃ B, B = w.heap.size := ⟨_, rfl⟩
  have S0 : Hid (Blk w3 B (actC k s u d a) 40) := Lib.hid (by rw [hw3, hB]; exact Blk.made w (actC k s u d a) _)
  have HBL : Hid (Below w.heap.size w w3) := Lib.hid (by rw [hw3]; exact below_alloc w _)
  have H3 := Lib.hid (h.kept HBL.out)
  have c0 := S0.out.cell (j := 0) rfl
  have c1 := S0.out.cell (j := 1) rfl
  have c2 := S0.out.cell (j := 2) rfl
  have c3 := S0.out.cell (j := 3) rfl
  have c4 := S0.out.cell (j := 4) rfl
  have c5 := S0.out.cell (j := 5) rfl
  have c6 := S0.out.cell (j := 6) rfl
  have c7 := S0.out.cell (j := 7) rfl
  have hq0 := Int.emod_nonneg k (show (4 : Int) ≠ 0 by omega)
  have hq4 := Int.emod_lt_of_pos k (show (0 : Int) < 4 by omega)
  have HPK := Lib.hid (pickn_any k 4 w3 (by omega) (by omega))
  obtain ⟨q, hq⟩ : ∃ q, q = k % 4 := ⟨_, rfl⟩
  rw [← hq] at hq0 hq4 HPK
  have HQ := Lib.hid hq
  clear h hq
  obtain rfl | rfl | rfl | rfl : q = 0 ∨ q = 1 ∨ q = 2 ∨ q = 3 := by omega
  · obtain ⟨r, G', hp⟩ : ∃ r G', grantP G u d a = (r, G') := ⟨_, _, rfl⟩
    have HS : Hid (stepQ G C ⟨k, s, u, d, a⟩ = (r, G', C)) := Lib.hid (by unfold stepQ; simp only; rw [if_pos HQ.out.symm, hp])
    have HP := Lib.hid hp
    clear hp
    go_enter Try.func19, Try.ntmps19
    go_upto_region 1 with fail
    rw [← hw3, ← hB]
    clear hw3 hB
    go_wp2_with (first
      | (go_at_call 15; refine HPK.out.mono ?_; rintro e w4 ⟨rfl, rfl⟩)
      | (go_at_call 8; refine (bo_grant H3.out hn u d a hd1 hd2 HP.out).mono ?_; rintro e w4 ⟨rfl, h4, hf⟩; have H4 := Lib.hid h4; have HF := Lib.hid hf; clear h4 hf))
    go_ret
    refine ⟨ret_int (by rw [HS.out]), ?_, (Fr.of_below HBL.out _).then HF.out⟩
    rw [HS.out]
    exact H4.out
  · obtain ⟨r, C', hp⟩ : ∃ r C', chargeP G C ⟨s, u, d, a⟩ = (r, C') := ⟨_, _, rfl⟩
    have HS : Hid (stepQ G C ⟨k, s, u, d, a⟩ = (r, G, C')) := Lib.hid (by unfold stepQ; simp only; rw [if_neg (by rw [← HQ.out]; decide), if_pos HQ.out.symm, hp])
    have HP := Lib.hid hp
    clear hp
    go_enter Try.func19, Try.ntmps19
    go_upto_region 1 with fail
    rw [← hw3, ← hB]
    clear hw3 hB
    go_wp2_with (first
      | (go_at_call 15; refine HPK.out.mono ?_; rintro e w4 ⟨rfl, rfl⟩)
      | (go_at_call 9; refine (bo_charge H3.out hn ⟨s, u, d, a⟩ hd1 hd2 HP.out).mono ?_; rintro e w4 ⟨rfl, h4, hf⟩; have H4 := Lib.hid h4; have HF := Lib.hid hf; clear h4 hf))
    go_ret
    refine ⟨ret_int (by rw [HS.out]), ?_, (Fr.of_below HBL.out _).then HF.out⟩
    rw [HS.out]
    exact H4.out
  · obtain ⟨r, C', hp⟩ : ∃ r C', refundP C s = (r, C') := ⟨_, _, rfl⟩
    have HS : Hid (stepQ G C ⟨k, s, u, d, a⟩ = (r, G, C')) := Lib.hid (by unfold stepQ; simp only; rw [if_neg (by rw [← HQ.out]; decide), if_neg (by rw [← HQ.out]; decide), if_pos HQ.out.symm, hp])
    have HP := Lib.hid hp
    clear hp
    go_enter Try.func19, Try.ntmps19
    go_upto_region 1 with fail
    rw [← hw3, ← hB]
    clear hw3 hB
    go_wp2_with (first
      | (go_at_call 15; refine HPK.out.mono ?_; rintro e w4 ⟨rfl, rfl⟩)
      | (go_at_call 14; refine (bo_refund H3.out s HP.out).mono ?_; rintro e w4 ⟨rfl, h4, hf⟩; have H4 := Lib.hid h4; have HF := Lib.hid hf; clear h4 hf))
    go_ret
    refine ⟨ret_int (by rw [HS.out]), ?_, (Fr.of_below HBL.out _).then HF.out⟩
    rw [HS.out]
    exact H4.out
  · obtain ⟨r, C', hp⟩ : ∃ r C', changeP G C s a = (r, C') := ⟨_, _, rfl⟩
    have HS : Hid (stepQ G C ⟨k, s, u, d, a⟩ = (r, G, C')) := Lib.hid (by unfold stepQ; simp only; rw [if_neg (by rw [← HQ.out]; decide), if_neg (by rw [← HQ.out]; decide), if_neg (by rw [← HQ.out]; decide), hp])
    have HP := Lib.hid hp
    clear hp
    go_enter Try.func19, Try.ntmps19
    go_upto_region 1 with fail
    rw [← hw3, ← hB]
    clear hw3 hB
    go_wp2_with (first
      | (go_at_call 15; refine HPK.out.mono ?_; rintro e w4 ⟨rfl, rfl⟩)
      | (go_at_call 11; refine (bo_change H3.out hn s a HP.out).mono ?_; rintro e w4 ⟨rfl, h4, hf⟩; have H4 := Lib.hid h4; have HF := Lib.hid hf; clear h4 hf))
    go_ret
    refine ⟨ret_int (by rw [HS.out]), ?_, (Fr.of_below HBL.out _).then HF.out⟩
    rw [HS.out]
    exact H4.out
end Go.Proofs.Ytmgbailpmcggiaa
namespace Go.Proofs.Ytmgbailpmcggiaa
open Go.RowKit

/-- one behind the other is added -/
def sumF (a : Am) : List Am → Am × Int
  | [] => (a, 0)
  | x :: xs => if (addR a x).2 = 0 then sumF (addR a x).1 xs else (.zero, (addR a x).2)
def sumR (xs : List Am) : Am × Int := if allB xs = false then (.zero, 2) else sumF .zero xs

set_option maxRecDepth 100000 in
set_option maxHeartbeats 2000000 in
theorem sum_any (v : Value) (xs : List Am) (w : World) (h : Ams w v xs) :
    Calls Try.prog 23 #[v] w fun e w' => e = .returned (.tuple #[amV (sumR xs).1, .int .i64 (sumR xs).2]) ∧ Below w.heap.size w w' := by
  obtain ⟨p, c, rfl, hc, hm⟩ := h.shape
  have hml : maxLen ≤ 9223372036854775807 := by decide
  obtain ⟨w3, hw3⟩ : ∃ w3, w3 = w.alloc (.cells #[.int .i64 0, .int .i64 0, .int .i64 0, .int .i64 0] 28) := ⟨_, rfl⟩
  obtain ⟨B, hB⟩ : ∃ B, B = w.heap.size := ⟨_, rfl⟩
  have B2 : Hid (Blk w3 B (amC .zero) 28) := Lib.hid (by rw [hw3, hB]; exact Blk.made w (amC .zero) _)
  have HBL : Hid (Below w.heap.size w w3) := Lib.hid (by rw [hw3]; exact below_alloc w _)
  have HBW0 : Hid (w.heap.size ≤ B) := Lib.hid (by omega)
  have H3 : Hid (Ams w3 (.slice p xs.length c) xs) := Lib.hid (h.below HBL.out)
  clear h
  cases hq : allB xs
  · have HQ := Lib.hid hq
    have HR : Hid (sumR xs = (.zero, 2)) := Lib.hid (by unfold sumR; rw [if_pos hq])
    clear hq
    go_enter Try.func23, Try.ntmps23
    go_upto_region 1 with fail
    rw [← hw3, ← hB]
    clear hw3 hB
    go_wp2_with (go_at_call 39; refine (all_any _ xs _ H3.out).mono ?_; rw [HQ.out]; rintro e ws ⟨rfl, hb⟩; have hbr := B2.out.kept hb; have C2 := Lib.hid hbr; have HBS := Lib.hid (below_and HBL.out hb); have r0 := hbr.cell (j := 0) rfl; have r1 := hbr.cell (j := 1) rfl; have r2 := hbr.cell (j := 2) rfl; have r3 := hbr.cell (j := 3) rfl; have f0 := hbr.free 0; have f1 := hbr.free 1; have f2 := hbr.free 2; have f3 := hbr.free 3; clear hb hbr)
    refine bodyPost_ret (results_row_tmp rfl _ _ B 28 #[.int .i64 0, .int .i64 0, .int .i64 0, .int .i64 0] (0, 0) _ rfl ?_ Try.underlying28 rfl (by kernel_rfl)) rfl ⟨?_, ?_⟩
    · exact (((C2.out.set 0 (.int .i64 0)).set 1 (.int .i64 0)).set 2 (.int .i64 0)).set 3 (.int .i64 0)
    · rw [HR.out]; rfl
    · have hBw : w.heap.size ≤ B := HBW0.out
      exact (((HBS.out.setCell (p := ⟨B, 0, none⟩) hBw _).setCell (p := ⟨B, 1, none⟩) hBw _).setCell (p := ⟨B, 2, none⟩) hBw _).setCell (p := ⟨B, 3, none⟩) hBw _
  · have HQ := Lib.hid hq
    have HR : Hid (sumR xs = sumF .zero xs) := Lib.hid (by unfold sumR; rw [if_neg (by rw [hq]; decide)])
    clear hq
    go_enter Try.func23, Try.ntmps23
    go_upto_region 1 with fail
    rw [← hw3, ← hB]
    clear hw3 hB
    go_upto_region 4 with (go_at_call 39; refine (all_any _ xs _ H3.out).mono ?_; rw [HQ.out]; rintro e ws ⟨rfl, hb⟩; have C2 := Lib.hid (B2.out.kept hb); have HS := Lib.hid (H3.out.below hb); have HBS := Lib.hid (below_and HBL.out hb); clear hb)
    obtain ⟨wb, hwb⟩ : ∃ wb, wb = ws.alloc (.cells #[.int .i64 0, .int .i64 0, .int .i64 0, .int .i64 0] 28) := ⟨_, rfl⟩
    obtain ⟨g, hg⟩ : ∃ g, g = ws.heap.size := ⟨_, rfl⟩
    have HG : Hid (Blk wb g (amC .zero) 28) := Lib.hid (by rw [hwb, hg]; exact Blk.made ws (amC .zero) _)
    have HBB : Hid (Below ws.heap.size ws wb) := Lib.hid (by rw [hwb]; exact below_alloc _ _)
    have HGS : Hid (ws.heap.size ≤ g) := Lib.hid (by omega)
    rw [← hwb, ← hg]
    clear hwb hg
    go_wp2
    go_loopw [15] (fun i wc => ∃ (k : Nat) (a : Am), k ≤ xs.length ∧ i = .int .i64 (k : Int) ∧ Hid (Blk wc g (amC a) 28) ∧ Hid (Below ws.heap.size ws wc) ∧ Hid (sumF .zero xs = sumF a (xs.drop k))) (fun i _ => xs.length - (intOf i).toNat)
    case atStart => exact ⟨0, .zero, Nat.zero_le _, rfl, HG, HBB, Lib.hid (by simp)⟩
    case round =>
      obtain ⟨k, a, hk, rfl, HA, HBx, HF⟩ := hrel
      by_cases hlt : k < xs.length
      · obtain ⟨b, o, rfl, e0, e1, e2, e3⟩ := (HS.out.below HBx.out).amAt hlt
        obtain ⟨x, hx⟩ : ∃ x, x = xs[k] := ⟨_, rfl⟩
        rw [← hx] at e0 e1 e2 e3
        have HF2 : Hid (sumF .zero xs = sumF a (x :: xs.drop (k + 1))) := Lib.hid (by rw [HF.out, List.drop_eq_getElem_cons hlt, hx])
        have hga := HA.out.alloc (.cells #[.int .i64 x.c, .int .i64 x.r, .int .i64 x.d, .int .i64 x.p] 28)
        have a0 := hga.cell (j := 0) rfl
        have a1 := hga.cell (j := 1) rfl
        have a2 := hga.cell (j := 2) rfl
        have a3 := hga.cell (j := 3) rfl
        have HGA := Lib.hid hga
        have HBA : Hid (Below ws.heap.size ws (wr.alloc (.cells #[.int .i64 x.c, .int .i64 x.r, .int .i64 x.d, .int .i64 x.p] 28))) := Lib.hid (below_and HBx.out (below_alloc _ _))
        obtain ⟨z, er, hz⟩ : ∃ z er, addR a x = (z, er) := ⟨_, _, rfl⟩
        clear hx hga
        by_cases her : er = 0
        · subst her
          have HZ := Lib.hid hz
          have HF3 : Hid (sumF .zero xs = sumF z (xs.drop (k + 1))) := Lib.hid (by rw [HF2.out]; show (if (addR a x).2 = 0 then _ else _) = _; rw [hz]; rfl)
          clear hz
          go_wp2_with (go_at_call 40; refine (add_any a x _).mono ?_; rw [HZ.out]; rintro e w6 ⟨rfl, hb⟩; have hg6 := (HGA.out.kept hb).alloc (.cells #[.int .i64 z.c, .int .i64 z.r, .int .i64 z.d, .int .i64 z.p] 28); have r0 := hg6.cell (j := 0) rfl; have r1 := hg6.cell (j := 1) rfl; have r2 := hg6.cell (j := 2) rfl; have r3 := hg6.cell (j := 3) rfl; have f0 := hg6.free 0; have f1 := hg6.free 1; have f2 := hg6.free 2; have f3 := hg6.free 3; have HG6 := Lib.hid hg6; have HB6 : Hid (Below ws.heap.size ws (w6.alloc (.cells #[.int .i64 z.c, .int .i64 z.r, .int .i64 z.d, .int .i64 z.p] 28))) := Lib.hid (below_and (below_and HBA.out hb) (below_alloc _ _)); clear hb hg6)
          go_roundw
          case rel => exact ⟨k + 1, z, hlt, by go_num, Lib.hid ((((HG6.out.set 0 (.int .i64 z.c)).set 1 (.int .i64 z.r)).set 2 (.int .i64 z.d)).set 3 (.int .i64 z.p)), Lib.hid ((((HB6.out.setCell (p := ⟨g, 0, none⟩) HGS.out _).setCell (p := ⟨g, 1, none⟩) HGS.out _).setCell (p := ⟨g, 2, none⟩) HGS.out _).setCell (p := ⟨g, 3, none⟩) HGS.out _), HF3⟩
          case measure => simp [intOf]; omega
        · have HZ := Lib.hid hz
          have t1 : (er == 0) = false := by simpa using her
          have HF3 : Hid (sumF .zero xs = (.zero, er)) := Lib.hid (by rw [HF2.out]; show (if (addR a x).2 = 0 then _ else _) = _; rw [hz]; exact if_neg her)
          clear hz her
          go_wp2_with (go_at_call 40; refine (add_any a x _).mono ?_; rw [HZ.out]; rintro e w6 ⟨rfl, hb⟩; have hg6 := ((C2.out.kept (below_and HBA.out hb)).alloc (.cells #[.int .i64 z.c, .int .i64 z.r, .int .i64 z.d, .int .i64 z.p] 28)); have r0 := hg6.cell (j := 0) rfl; have r1 := hg6.cell (j := 1) rfl; have r2 := hg6.cell (j := 2) rfl; have r3 := hg6.cell (j := 3) rfl; have f0 := hg6.free 0; have f1 := hg6.free 1; have f2 := hg6.free 2; have f3 := hg6.free 3; have HG6 := Lib.hid hg6; have HB6 : Hid (Below w.heap.size w (w6.alloc (.cells #[.int .i64 z.c, .int .i64 z.r, .int .i64 z.d, .int .i64 z.p] 28))) := Lib.hid (below_and HBS.out (below_and (below_and HBA.out hb) (below_alloc _ _))); clear hb hg6)
          refine bodyPost_ret (results_row_tmp rfl _ _ B 28 #[.int .i64 0, .int .i64 0, .int .i64 0, .int .i64 0] (0, 0) _ rfl ?_ Try.underlying28 rfl (by kernel_rfl)) rfl ⟨?_, ?_⟩
          · exact (((HG6.out.set 0 (.int .i64 0)).set 1 (.int .i64 0)).set 2 (.int .i64 0)).set 3 (.int .i64 0)
          · rw [HR.out, HF3.out]; rfl
          · have hBw : w.heap.size ≤ B := HBW0.out
            exact (((HB6.out.setCell (p := ⟨B, 0, none⟩) hBw _).setCell (p := ⟨B, 1, none⟩) hBw _).setCell (p := ⟨B, 2, none⟩) hBw _).setCell (p := ⟨B, 3, none⟩) hBw _
      · obtain rfl : k = xs.length := by omega
        have HF3 : Hid (sumF .zero xs = (a, 0)) := Lib.hid (by rw [HF.out, List.drop_length]; rfl)
        have a0 := HA.out.cell (j := 0) rfl
        have a1 := HA.out.cell (j := 1) rfl
        have a2 := HA.out.cell (j := 2) rfl
        have a3 := HA.out.cell (j := 3) rfl
        have hbr := C2.out.kept HBx.out
        have r0 := hbr.cell (j := 0) rfl
        have r1 := hbr.cell (j := 1) rfl
        have r2 := hbr.cell (j := 2) rfl
        have r3 := hbr.cell (j := 3) rfl
        have f0 := hbr.free 0
        have f1 := hbr.free 1
        have f2 := hbr.free 2
        have f3 := hbr.free 3
        have HB5 := Lib.hid (below_and HBS.out HBx.out)
        have BR5 := Lib.hid hbr
        clear hbr
        go_wp2
        refine bodyPost_ret (results_row_tmp rfl _ _ B 28 #[.int .i64 a.c, .int .i64 a.r, .int .i64 a.d, .int .i64 a.p] (0, 0) _ rfl ?_ Try.underlying28 rfl (by kernel_rfl)) rfl ⟨?_, ?_⟩
        · exact (((BR5.out.set 0 (.int .i64 a.c)).set 1 (.int .i64 a.r)).set 2 (.int .i64 a.d)).set 3 (.int .i64 a.p)
        · rw [HR.out, HF3.out]; rfl
        · have hBw : w.heap.size ≤ B := HBW0.out
          exact (((HB5.out.setCell (p := ⟨B, 0, none⟩) hBw _).setCell (p := ⟨B, 1, none⟩) hBw _).setCell (p := ⟨B, 2, none⟩) hBw _).setCell (p := ⟨B, 3, none⟩) hBw _
end Go.Proofs.Ytmgbailpmcggiaa
namespace Go.Proofs.Ytmgbailpmcggiaa
open Go.RowKit

def HoldI (G : List Gr) (C : List Ch) : Prop := ∀ u d, d ≠ 0 → ∀ k, k < 4 → (psum (onB u d) C).get k ≤ (grantA G u d).get k
theorem holdI_nil : HoldI [] [] := fun u d _ k hk => by
  rw [psum_get _ _ hk]
  have : (grantA [] u d) = .zero := rfl
  rw [this, zero_get k hk]
  exact Int.le_refl _

theorem kins_fnd {α : Type} {key : α → List UInt8} (x : α) (s : List UInt8) : ∀ L : List α, (∀ e ∈ L, key e ≠ key x) → kfnd key (kins key x L) s = if key x = s then some x else kfnd key L s
  | [], _ => by
    unfold kins kfnd
    by_cases h : key x = s
    · simp [h]
    · have : (key x == s) = false := by simpa using h
      simp [h, this]
  | y :: L, hn => by
    have hy := hn y (by simp)
    have ih := kins_fnd x s L (fun e he => hn e (by simp [he]))
    unfold kins
    split
    · unfold kfnd
      rw [List.find?_cons]
      by_cases h : key x = s
      · simp [h]
      · have : (key x == s) = false := by simpa using h
        rw [this, if_neg h]
    · unfold kfnd at *
      rw [List.find?_cons, List.find?_cons, ih]
      by_cases h : key x = s
      · have : (key y == s) = false := by rw [← h]; simpa using hy
        rw [this]
      · rw [if_neg h, if_neg h]
theorem kput_fnd {α : Type} {key : α → List UInt8} (L : List α) (x : α) (s : List UInt8) : kfnd key (kput key L x) s = if key x = s then some x else kfnd key L s := by
  unfold kput
  rw [kins_fnd x s _ (fun e he => ((krem_mem L _ e).1 he).2)]
  by_cases h : key x = s
  · rw [if_pos h, if_pos h]
  · rw [if_neg h, if_neg h]
    unfold kfnd krem
    induction L with
    | nil => rfl
    | cons e L ih =>
      rw [List.filter_cons, List.find?_cons]
      by_cases he : key e = s
      · have h1 : (key e == key x) = false := by
          simp only [beq_eq_false_iff_ne, ne_eq]
          intro e2
          exact h (e2.symm.trans he)
        have h2 : (key e == s) = true := by simpa using he
        rw [h1, h2]
        simp [h2]
      · have h2 : (key e == s) = false := by simpa using he
        rw [h2]
        cases hx : (key e == key x)
        · simp only [Bool.not_false, if_true, List.find?_cons, h2, ih]
        · simp only [Bool.not_true, Bool.false_eq_true, if_false, ih]
theorem grantA_put (G : List Gr) (g : Gr) (u : ByteArray) (d : Int) : grantA (kput Gr.key G g) u d = if kT g.u g.b = kT u d then g.a else grantA G u d := by
  unfold grantA
  rw [kput_fnd]
  show ((if kT g.u g.b = kT u d then some g else kfnd Gr.key G (kT u d)).map Gr.a).getD .zero = _
  split <;> rfl
theorem fits_get {x y : Am} (h : fitsB x y = true) {k : Nat} (hk : k < 4) : x.get k ≤ y.get k := by
  unfold fitsB at h
  have h1 : any4 (fun k => decide (y.get k < x.get k)) = false := by simpa using h
  have := any4_false h1 hk
  simp only [decide_eq_false_iff_not] at this
  omega
theorem fits_of {x y : Am} (h : ∀ k, k < 4 → x.get k ≤ y.get k) : fitsB x y = true := by
  unfold fitsB
  rw [any4_no (fun k hk => by have := h k hk; simp; omega)]
  rfl
theorem on_same {u : ByteArray} {d : Int} {c : Ch} (h : onB u d c = true) : c.u.data.toList = u.data.toList ∧ c.b = d := by
  unfold onB at h
  rw [Bool.and_eq_true, Lib.toList_data, Lib.toList_data] at h
  exact ⟨by simpa using h.1, by simpa using h.2⟩
theorem grantA_same (G : List Gr) {u v : ByteArray} {d : Int} (h : u.data.toList = v.data.toList) : grantA G u d = grantA G v d := by
  unfold grantA kT
  rw [h]
theorem hit_same {u v : ByteArray} (d : Int) (t : ByteArray) (h : u.data.toList = v.data.toList) : Go.Proofs.Ytmgbailpmcggiaa.hit u d t = Go.Proofs.Ytmgbailpmcggiaa.hit v d t := by
  funext e
  unfold Go.Proofs.Ytmgbailpmcggiaa.hit
  rw [Lib.toList_data u, Lib.toList_data v, h]
theorem addR_get {x y : Am} (h : (addR x y).2 = 0) {k : Nat} (hk : k < 4) : (addR x y).1.get k = x.get k + y.get k := by
  unfold addR at *
  split at h
  · cases h
  · rename_i h1
    rw [if_neg h1]
    split at h
    · cases h
    · rename_i h2
      rw [if_neg h2]
      exact Am.of_get _ k hk
theorem mayP_fits {G : List Gr} {C : List Ch} {c : Ch} (h : mayP G C c false = 0) (hb : c.b ≠ 0) {k : Nat} (hk : k < 4) : (psum (hit c.u c.b c.n) C).get k + c.a.get k ≤ (grantA G c.u c.b).get k := by
  have h0 := mayP_zero h
  unfold mayP at h
  rw [if_neg (by rw [h0]; simp)] at h
  split at h
  · cases h
  · rename_i h1
    have hb2 : (c.b == 0) = false := by simpa using hb
    rw [hb2] at h1
    have h2 : fitsB (addR (psum (hit c.u c.b c.n) C) c.a).1 (grantA G c.u c.b) = true := by simpa using h1
    have h3 := fits_get h2 hk
    rw [addR_get h0 hk] at h3
    exact h3
theorem holdI_grant {G : List Gr} {C : List Ch} (h : HoldI G C) (u : ByteArray) (d : Int) (a : Am) (hf : askB u d = true → fitsB (grantA G u d) a = true) : HoldI (grantP G u d a).2 C := by
  unfold grantP
  split
  · rename_i hq
    rw [Bool.and_eq_true] at hq
    intro v e he k hk
    show _ ≤ (grantA (kput Gr.key G ⟨u, d, a⟩) v e).get k
    rw [grantA_put]
    by_cases hkk : kT u d = kT v e
    · rw [if_pos hkk]
      have h1 := h v e he k hk
      have h2 : grantA G v e = grantA G u d := by unfold grantA; rw [hkk]
      rw [h2] at h1
      have h3 := fits_get (hf hq.1) hk
      show _ ≤ a.get k
      omega
    · rw [if_neg hkk]; exact h v e he k hk
  · exact h
theorem holdI_put {G : List Gr} {C : List Ch} (h : HoldI G C) (hi : ChI C) {c : Ch} (hm : mayP G C c false = 0) : HoldI G (kput Ch.key C c) := by
  intro u d hd k hk
  rw [psum_put C c u d hk]
  cases ho : onB u d c
  · have h1 := h u d hd k hk
    have h2 := psum_le (p := hit u d c.n) (q := onB u d) hi.ok (fun _ h => hit_on h) hk
    unfold pf
    rw [ho]
    simp
    omega
  · obtain ⟨h1, rfl⟩ := on_same ho
    have h2 := mayP_fits hm hd hk
    unfold pf
    rw [if_pos ho, ← hit_same c.b c.n h1, ← grantA_same G h1]
    omega
theorem psum_split {C : List Ch} (hd : KApart Ch.key C) {c : Ch} (hc : c ∈ C) (u : ByteArray) (d : Int) {k : Nat} (hk : k < 4) : (psum (onB u d) C).get k = pf (onB u d) k c + (psum (hit u d c.n) C).get k := by
  have h1 := ksum_rem (key := Ch.key) (f := pf (onB u d) k) hd hc
  rw [psum_get _ _ hk, psum_get _ _ hk]
  unfold krem at h1
  rw [ksum_filter] at h1
  have h2 : ksum (fun e => if (!(e.key == c.key)) = true then pf (onB u d) k e else 0) C = ksum (pf (hit u d c.n) k) C := by
    unfold ksum
    congr 1
    refine List.map_congr_left fun e _ => ?_
    have h1 : (e.n.toList == c.n.toList) = (e.key == c.key) := by rw [Lib.toList_data, Lib.toList_data]; rfl
    unfold pf hit onB
    rw [h1]
    cases e.key == c.key <;> simp
  rw [← h2]
  omega
theorem holdI_change {G : List Gr} {C : List Ch} (h : HoldI G C) (hi : ChI C) {c : Ch} (hc : c ∈ C) {a : Am} (hm : mayP G C ⟨c.n, c.u, c.b, a⟩ (fitsB a c.a) = 0) : HoldI G (kput Ch.key C ⟨c.n, c.u, c.b, a⟩) := by
  cases hl : fitsB a c.a
  · rw [hl] at hm; exact holdI_put h hi hm
  · intro u d hd k hk
    rw [psum_put C ⟨c.n, c.u, c.b, a⟩ u d hk]
    have h1 := h u d hd k hk
    rw [psum_split hi.rise.apart hc u d hk] at h1
    have h2 := fits_get hl hk
    have h3 : onB u d ⟨c.n, c.u, c.b, a⟩ = onB u d c := rfl
    unfold pf at *
    rw [h3]
    cases ho : onB u d c
    · rw [ho] at h1; simp at h1 ⊢; omega
    · rw [ho] at h1; simp at h1 ⊢; omega
theorem holdI_rem {G : List Gr} {C : List Ch} (h : HoldI G C) (hi : ChI C) (s : List UInt8) : HoldI G (krem Ch.key C s) := by
  intro u d hd k hk
  have h1 := h u d hd k hk
  rw [psum_get _ _ hk] at h1 ⊢
  have h3 := pf_nonneg (p := onB u d) hi.ok hk
  unfold krem
  rw [ksum_filter]
  have h4 : ∀ (L : List Ch), (∀ e ∈ L, 0 ≤ pf (onB u d) k e) → ksum (fun e => if (!(e.key == s)) = true then pf (onB u d) k e else 0) L ≤ ksum (pf (onB u d) k) L := by
    intro L
    induction L with
    | nil => intro _; exact Int.le_refl _
    | cons e L ih =>
      intro hL
      rw [ksum_cons, ksum_cons]
      have h5 := ih (fun x hx => hL x (by simp [hx]))
      have h6 := hL e (by simp)
      split <;> omega
  have := h4 C h3
  omega
theorem holdI_step {n : Nat} {G : List Gr} {C : List Ch} (h : HoldI G C) (hq : QI n G C) (x : Ac) (hf : x.k % 4 = 0 → askB x.u x.d = true → fitsB (grantA G x.u x.d) x.a = true) : HoldI (stepQ G C x).2.1 (stepQ G C x).2.2 := by
  unfold stepQ
  by_cases h0 : x.k % 4 = 0
  · rw [if_pos h0]; exact holdI_grant h x.u x.d x.a (hf h0)
  rw [if_neg h0]
  by_cases h1 : x.k % 4 = 1
  · rw [if_pos h1]
    show HoldI G (chargeP G C ⟨x.s, x.u, x.d, x.a⟩).2
    unfold chargeP
    split
    · exact h
    split
    · exact h
    split
    · exact h
    · rename_i h2
      exact holdI_put h hq.ch (by simpa using h2)
  rw [if_neg h1]
  by_cases h2 : x.k % 4 = 2
  · rw [if_pos h2]
    show HoldI G (refundP C x.s).2
    unfold refundP
    split
    · exact h
    split
    · exact h
    · exact holdI_rem h hq.ch _
  rw [if_neg h2]
  show HoldI G (changeP G C x.s x.a).2
  unfold changeP
  split
  · exact h
  cases hx : kfnd Ch.key C x.s.data.toList with
  | none => exact h
  | some c =>
    show HoldI G (if mayP G C ⟨c.n, c.u, c.b, x.a⟩ (fitsB x.a c.a) ≠ 0 then (mayP G C ⟨c.n, c.u, c.b, x.a⟩ (fitsB x.a c.a), C) else (0, kput Ch.key C ⟨c.n, c.u, c.b, x.a⟩)).2
    split
    · exact h
    · rename_i h3
      exact holdI_change h hq.ch (kfnd_mem hx).1 (by simpa using h3)
theorem holdI_over {G : List Gr} {C : List Ch} (h : HoldI G C) : overP G C = [] := by
  unfold overP
  rw [List.filter_eq_nil_iff]
  intro c _
  unfold overB
  by_cases hb : c.b = 0
  · rw [hb]; simp
  · rw [fits_of (fun k hk => h c.u c.b hb k hk)]; simp

/-- a call with an error changes nothing -/
theorem stepQ_err (G : List Gr) (C : List Ch) (x : Ac) (h : (stepQ G C x).1 ≠ 0) : (stepQ G C x).2 = (G, C) := by
  unfold stepQ at *
  by_cases h0 : x.k % 4 = 0
  · rw [if_pos h0] at h ⊢
    simp only at h ⊢
    unfold grantP at *
    split
    · rename_i h1; rw [if_pos h1] at h; exact absurd rfl h
    · rfl
  rw [if_neg h0] at h ⊢
  by_cases h1 : x.k % 4 = 1
  · rw [if_pos h1] at h ⊢
    simp only at h ⊢
    unfold chargeP at *
    split
    · rfl
    rename_i h2; rw [if_neg h2] at h
    split
    · rfl
    rename_i h3; rw [if_neg h3] at h
    split
    · rfl
    rename_i h4; rw [if_neg h4] at h; exact absurd rfl h
  rw [if_neg h1] at h ⊢
  by_cases h2 : x.k % 4 = 2
  · rw [if_pos h2] at h ⊢
    simp only at h ⊢
    unfold refundP at *
    split
    · rfl
    rename_i h2; rw [if_neg h2] at h
    split
    · rfl
    rename_i h3; rw [if_neg h3] at h; exact absurd rfl h
  rw [if_neg h2] at h ⊢
  simp only at h ⊢
  unfold changeP at *
  split
  · rfl
  rename_i h3; rw [if_neg h3] at h
  cases hx : kfnd Ch.key C x.s.data.toList with
  | none => rfl
  | some c =>
    rw [hx] at h
    simp only at h ⊢
    split
    · rfl
    · rename_i h4; rw [if_neg h4] at h; exact absurd rfl h

/-- the sum of amounts that fit -/
theorem sumF_ok : ∀ (xs : List Am) (a : Am), a.okB = true → (∀ x ∈ xs, x.okB = true) → (∀ k, k < 4 → a.get k + (xs.map (·.get k)).sum ≤ 1099511627776) → ∃ z, sumF a xs = (z, 0) ∧ ∀ k, k < 4 → z.get k = a.get k + (xs.map (·.get k)).sum
  | [], a, _, _, _ => ⟨a, rfl, fun k _ => by simp⟩
  | x :: xs, a, ha, hx, hs => by
    have hx0 := hx x (by simp)
    have hnn : ∀ (L : List Am), (∀ y ∈ L, y.okB = true) → ∀ k, k < 4 → 0 ≤ (L.map (·.get k)).sum := by
      intro L
      induction L with
      | nil => intro _ k _; exact Int.le_refl _
      | cons y L ih =>
        intro hL k hk
        have h1 := ih (fun z hz => hL z (by simp [hz])) k hk
        have h2 := ok_get (hL y (by simp)) hk
        simp only [List.map_cons, List.sum_cons]
        omega
    have hle : ∀ k, k < 4 → a.get k + x.get k ≤ 1099511627776 := fun k hk => by
      have h1 := hs k hk
      have h2 := hnn xs (fun y hy => hx y (by simp [hy])) k hk
      simp only [List.map_cons, List.sum_cons] at h1
      omega
    have hz := addR_ok (x := a) (y := x) (z := .of fun k => a.get k + x.get k) (by rw [ha, hx0]; rfl) hle (fun k hk => Am.of_get _ k hk)
    obtain ⟨z, h1, h2⟩ := sumF_ok xs (.of fun k => a.get k + x.get k) ((Am.okB_iff _).2 (fun k hk => by
      rw [Am.of_get _ k hk]
      have h3 := ok_get ha hk
      have h4 := ok_get hx0 hk
      have h5 := hle k hk
      omega)) (fun y hy => hx y (by simp [hy])) (fun k hk => by
      rw [Am.of_get _ k hk]
      have := hs k hk
      simp only [List.map_cons, List.sum_cons] at this
      omega)
    refine ⟨z, ?_, fun k hk => ?_⟩
    · unfold sumF
      rw [hz]
      simpa using h1
    · rw [h2 k hk, Am.of_get _ k hk]
      simp only [List.map_cons, List.sum_cons]
      omega
theorem sum_used {C : List Ch} (ho : Oks C) (u : ByteArray) (d : Int) (hf : Fit (onB u d) C) : sumR ((C.filter (onB u d)).map Ch.a) = (psum (onB u d) C, 0) := by
  have hs : ∀ k, ((((C.filter (onB u d)).map Ch.a).map (·.get k)).sum : Int) = ksum (pf (onB u d) k) C := by
    intro k
    rw [List.map_map]
    have := ksum_filter (f := fun e : Ch => e.a.get k) (onB u d) C
    unfold ksum at this
    exact this
  have ha : ∀ x ∈ (C.filter (onB u d)).map Ch.a, x.okB = true := by
    intro x hx
    obtain ⟨e, he, rfl⟩ := List.mem_map.1 hx
    exact ho e (List.mem_filter.1 he).1
  obtain ⟨z, h1, h2⟩ := sumF_ok _ .zero rfl ha (fun k hk => by
    rw [hs, zero_get k hk]
    have := ok_get hf hk
    rw [psum_get _ _ hk] at this
    omega)
  unfold sumR
  rw [if_neg (by unfold allB; rw [List.all_eq_true.2 ha]; simp), h1]
  congr 1
  exact Am.ext_get fun k hk => by rw [h2 k hk, hs, zero_get k hk, psum_get _ _ hk]; omega
end Go.Proofs.Ytmgbailpmcggiaa
namespace Go.Proofs.Ytmgbailpmcggiaa
open Go.RowKit

theorem own_base {w : World} {base : Nat} {e : TypeId} {size : Nat} {v : Value} {n : Nat} {xs : List Value} (h : w.ownsRow base e size v n xs) {g : Nat} (hg : v.ownBlock = some g) : base ≤ g := by
  rcases h.2 with ⟨rfl, -⟩ | ⟨g', cap, cur, rfl, hb, -⟩
  · cases hg
  · cases hg
    exact hb
theorem Bo.base {w0 w1 w : World} {b mg mc n : Nat} {G : List Gr} {C : List Ch} (h : Bo w1 w b mg mc n G C) (hb : Below w0.heap.size w0 w1) : Bo w0 w b mg mc n G C :=
  ⟨h.bk, h.qi, ⟨Nat.le_trans hb.size h.lo.1, Nat.le_trans hb.size h.lo.2.1, Nat.le_trans hb.size h.lo.2.2⟩, below_and hb h.hb⟩
theorem Bo.up {w0 w : World} {b mg mc n m : Nat} {G : List Gr} {C : List Ch} (h : Bo w0 w b mg mc n G C) (hm : n ≤ m) : Bo w0 w b mg mc m G C :=
  ⟨h.bk, ⟨h.qi.ch, h.qi.nm, h.qi.gr, h.qi.rise, Nat.le_trans h.qi.lenG hm, Nat.le_trans h.qi.lenC hm⟩, h.lo, h.hb⟩
theorem Bo.maps {w0 w : World} {b mg mc n : Nat} {G : List Gr} {C : List Ch} (h : Bo w0 w b mg mc n G C) {q : Nat} (hq : w.heap.size ≤ q) : q ∉ [mg, mc] := by
  have h1 := h.bk.gm.lt
  have h2 := h.bk.cm.lt
  simp
  omega

section
variable {w0 w : World} {b mg mc n : Nat} {G : List Gr} {C : List Ch}
theorem bo_was (h : Bo w0 w b mg mc n G C) (hn : n ≤ 1000) :
    Calls Try.prog 13 #[ptr b] w fun e w' => ∃ p c, e = .returned (.slice p C.length c) ∧ (∀ w2, Fr [mg, mc] w' w2 → Row w2 (.slice p C.length c) 7 C.length (rwC chC C)) ∧ Below w.heap.size w w' :=
  (bo_charges h hn).mono fun e w' ⟨v, h1, h2, h3⟩ => by
    obtain ⟨p, c, rfl, h4, h5⟩ := own_slice h2
    refine ⟨p, c, h1, fun w2 hf => ?_, h3⟩
    have h6 := own_fr h2 hf (fun q hq => h.maps (own_base h2 hq))
    obtain ⟨p', c', hv, -, -, hr⟩ := row_own h6 (rwC_one chC_one C)
    rw [hv]
    exact hr
theorem bo_had (h : Bo w0 w b mg mc n G C) (hn : n ≤ 1000) :
    Calls Try.prog 18 #[ptr b] w fun e w' => ∃ p c S, e = .returned (.slice p S.length c) ∧ S.Perm G ∧ S.Pairwise glt ∧ (∀ w2, Fr [mg, mc] w' w2 → Row w2 (.slice p S.length c) 6 S.length (rwC grC S)) ∧ Below w.heap.size w w' :=
  (grants_made b mg mc G C w h.bk h.qi.rise (fun g hg => (h.qi.gr g hg).1) (by have := h.qi.lenG; omega)).mono fun e w' ⟨v, S, h1, hp, hs, h2, h3⟩ => by
    rw [← hp.length_eq] at h2
    obtain ⟨p, c, rfl, h4, h5⟩ := own_slice h2
    refine ⟨p, c, S, h1, hp, hs, fun w2 hf => ?_, h3⟩
    have h6 := own_fr h2 hf (fun q hq => h.maps (own_base h2 hq))
    obtain ⟨p', c', hv, -, -, hr⟩ := row_own h6 (rwC_one grC_one S)
    rw [hv]
    exact hr
end
theorem info_amq : (Try.prog.info? 28).map (fun i => (i.zero, i.size, i.bytes)) = some (some (.agg #[.int .i64 0, .int .i64 0, .int .i64 0, .int .i64 0]), 4, 32) := by kernel_rfl
theorem amC_oneq (x : Am) : ∀ u ∈ amC x, u.oneCell' = true := by
  intro u hx
  simp only [List.mem_cons, List.not_mem_nil, or_false] at hx
  rcases hx with rfl | rfl | rfl | rfl <;> rfl
theorem amsC_app (L M : List Am) : amsC (L ++ M) = amsC L ++ amsC M := by unfold amsC; rw [List.flatMap_append]
/-- the amounts of one user's band among the first k charges -/
def gath (u : ByteArray) (d : Int) (C : List Ch) (k : Nat) : List Am := ((C.take k).filter (onB u d)).map Ch.a
theorem gath_zero (u : ByteArray) (d : Int) (C : List Ch) : gath u d C 0 = [] := rfl
theorem gath_full (u : ByteArray) (d : Int) (C : List Ch) : gath u d C C.length = (C.filter (onB u d)).map Ch.a := by unfold gath; rw [List.take_length]
theorem gath_len (u : ByteArray) (d : Int) (C : List Ch) (k : Nat) : (gath u d C k).length ≤ C.length := by
  unfold gath
  rw [List.length_map]
  have h1 := List.length_filter_le (onB u d) (C.take k)
  rw [List.length_take] at h1
  omega
theorem gath_take {u : ByteArray} {d : Int} {C : List Ch} {k : Nat} (hk : k < C.length) {x : Ch} (hx : x = C[k]) (ho : onB u d x = true) : gath u d C (k + 1) = gath u d C k ++ [x.a] := by
  unfold gath
  rw [filter_take hk, ← hx, if_pos ho, List.map_append]
  rfl
theorem gath_skip {u : ByteArray} {d : Int} {C : List Ch} {k : Nat} (hk : k < C.length) {x : Ch} (hx : x = C[k]) (ho : onB u d x = false) : gath u d C (k + 1) = gath u d C k := by
  unfold gath
  rw [filter_take hk, ← hx, if_neg (by rw [ho]; simp), List.append_nil]
end Go.Proofs.Ytmgbailpmcggiaa
