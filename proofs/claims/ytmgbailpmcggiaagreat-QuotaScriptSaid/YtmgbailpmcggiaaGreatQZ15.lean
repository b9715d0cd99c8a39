/- Texts of one proof, laid together: QAct, RQBook, RQGet, RQName, RQWrong, RQGet2, RQFind, Sum, QHold, QWas, RQUsed, RQLink, Lin, CutH, RQRefund. No condition of ours. -/
import Derived.Test.YtmgbailpmcggiaaGreatQZ14
import Derived.Deep.RegionHeld3
namespace Go.Proofs.YtmgbailpmcggiaaGreat
open Go.RowKit

structure Ac where
  k : Int
  s : ByteArray
  u : ByteArray
  d : Int
  a : Am
abbrev Ac.c (x : Ac) : List Value := actC x.k x.s x.u x.d x.a
abbrev Ac.v (x : Ac) : Value := actV x.k x.s x.u x.d x.a
def Ac.ok (x : Ac) : Prop := -9223372036854775808 ≤ x.d ∧ x.d ≤ 9223372036854775807
def Acts (w : World) (v : Value) (l : List Ac) : Prop := Row w v 8 l.length (rwC Ac.c l) ∧ ∀ x ∈ l, x.ok
theorem Acts.below {w w' : World} {v : Value} {l : List Ac} (h : Acts w v l) (hb : Below w.heap.size w w') : Acts w' v l := ⟨h.1.below hb, h.2⟩
theorem wf_int {n : Int} (h : (Lit.int .i64 n).wf = true) : -9223372036854775808 ≤ n ∧ n ≤ 9223372036854775807 := by
  simp [Lit.wf, IntKind.min, IntKind.max, IntKind.bits, IntKind.signed] at h
  omega
theorem acts_list : ∀ es : List (List Value), (∀ x ∈ es, Leaves Tryz.prog [3, 9, 9, 3, 2, 2, 2, 2] x) → ∃ l : List Ac, l.length = es.length ∧ rwC Ac.c l = es.flatten ∧ ∀ x ∈ l, x.ok
  | [], _ => ⟨[], rfl, rfl, fun _ h => nomatch h⟩
  | cs :: es, hf => by
    obtain ⟨l, h1, h2, h3⟩ := acts_list es fun x hx => hf x (List.mem_cons_of_mem _ hx)
    have h := hf cs List.mem_cons_self
    match cs, h.1, h.2 with
    | [v0, v1, v2, v3, v4, v5, v6, v7], _, hv =>
      obtain ⟨k, rfl, -⟩ := fieldOk.int (v := v0) (hv 0 _ rfl) Tryz.underlying3
      obtain ⟨s, rfl, -⟩ := fieldOk.str (v := v1) (hv 1 _ rfl) Tryz.underlying9
      obtain ⟨u, rfl, -⟩ := fieldOk.str (v := v2) (hv 2 _ rfl) Tryz.underlying9
      obtain ⟨d, rfl, hd⟩ := fieldOk.int (v := v3) (hv 3 _ rfl) Tryz.underlying3
      obtain ⟨c, rfl, -⟩ := fieldOk.int (v := v4) (hv 4 _ rfl) Tryz.underlying2
      obtain ⟨r, rfl, -⟩ := fieldOk.int (v := v5) (hv 5 _ rfl) Tryz.underlying2
      obtain ⟨e, rfl, -⟩ := fieldOk.int (v := v6) (hv 6 _ rfl) Tryz.underlying2
      obtain ⟨p, rfl, -⟩ := fieldOk.int (v := v7) (hv 7 _ rfl) Tryz.underlying2
      refine ⟨⟨k, s, u, d, ⟨c, r, e, p⟩⟩ :: l, by simp [h1], ?_, fun x hx => ?_⟩
      · rw [rwC_cons, List.flatten_cons, h2]
      · rcases List.mem_cons.1 hx with rfl | hx
        · exact wf_int hd
        · exact h3 x hx
theorem acts_of {w : World} {v : Value} {es : List (List Value)} (h : Row w v 8 es.length es.flatten) (hf : ∀ x ∈ es, Leaves Tryz.prog [3, 9, 9, 3, 2, 2, 2, 2] x) : ∃ l, Acts w v l := by
  obtain ⟨l, h1, h2, h3⟩ := acts_list es hf
  exact ⟨l, by rw [h1, h2]; exact h, h3⟩
theorem acC_len (x : Ac) : (x.c).length = 8 := rfl
theorem Acts.at {w : World} {p : Option Addr} {n c : Nat} {l : List Ac} (h : Acts w (.slice p n c) l) {i : Nat} (hi : i < l.length) :
    ∃ b o, p = some ⟨b, o, none⟩ ∧ ∀ j u, j < 8 → (l[i].c)[j]? = some u → w.cell? ⟨b, o + i * 8 + j, none⟩ = some u := by
  obtain ⟨⟨p', c', hv, h1, h2, h3, h4, h5, h6⟩, -⟩ := h
  simp only [Value.slice.injEq] at hv
  obtain ⟨rfl, rfl, rfl⟩ := hv
  exact Row.at' acC_len ⟨_, _, rfl, h1, h2, h3, h4, h5, h6⟩ hi (by omega)
theorem Acts.shape {w : World} {v : Value} {l : List Ac} (h : Acts w v l) : ∃ p c, v = .slice p l.length c ∧ l.length ≤ c ∧ c ≤ maxLen := h.1.shape'

/-- what an act answers, and the book behind it -/
def stepQ (G : List Gr) (C : List Ch) (x : Ac) : Int × List Gr × List Ch :=
  if x.k % 4 = 0 then ((grantP G x.u x.d x.a).1, (grantP G x.u x.d x.a).2, C)
  else if x.k % 4 = 1 then ((chargeP G C ⟨x.s, x.u, x.d, x.a⟩).1, G, (chargeP G C ⟨x.s, x.u, x.d, x.a⟩).2)
  else if x.k % 4 = 2 then ((refundP C x.s).1, G, (refundP C x.s).2)
  else ((changeP G C x.s x.a).1, G, (changeP G C x.s x.a).2)

set_option maxRecDepth 100000 in
set_option maxHeartbeats 2000000 in
theorem bo_step {w0 w : World} {b mg mc n : Nat} {G : List Gr} {C : List Ch} (h : Bo w0 w b mg mc n G C) (hn : n ≤ 1000) (x : Ac) (hx : x.ok) :
    Calls Tryz.prog 6 #[ptr b, x.v] w fun e w' => e = .returned (.int .i64 (stepQ G C x).1) ∧ Bo w0 w' b mg mc (n + 1) (stepQ G C x).2.1 (stepQ G C x).2.2 ∧ Fr [mg, mc] w w' := by
  obtain ⟨k, s, u, d, a⟩ := x
  obtain ⟨hd1, hd2⟩ := hx
  simp only at hd1 hd2
  obtain ⟨w3, hw3⟩ : ∃ w3, w3 = w.alloc (.cells #[.int .i64 k, .string s, .string u, .int .i64 d, .int .i64 a.c, .int .i64 a.r, .int .i64 a.d, .int .i64 a.p] 36) := ⟨_, rfl⟩
  obtain ⟨B, hB⟩ : ∃ B, B = w.heap.size := ⟨_, rfl⟩
  have S0 : Hid (Blk w3 B (actC k s u d a) 36) := Lib.hid (by rw [hw3, hB]; exact Blk.made w (actC k s u d a) _)
  have HBL : Hid (Below w.heap.size w w3) := Lib.hid (by rw [hw3]; exact below_alloc w _)
  have H3 := Lib.hid (h.kept HBL.out)
  have c0 := S0.out.cell (j := 0) rfl
  have c1 := S0.out.cell (j := 1) rfl
  have c2 := S0.out.cell (j := 2) rfl
  have c3 := S0.out.cell (j := 3) rfl
  have c4 := S0.out.cell (j := 4) rfl
  have c5 := S0.out.cell (j := 5) rfl
  have c6 := S0.out.cell (j := 6) rfl
  have c7 := S0.out.cell (j := 7) rfl
  have hq0 := Int.emod_nonneg k (show (4 : Int) ≠ 0 by omega)
  have hq4 := Int.emod_lt_of_pos k (show (0 : Int) < 4 by omega)
  have HPK := Lib.hid (pickn_any k 4 w3 (by omega) (by omega))
  obtain ⟨q, hq⟩ : ∃ q, q = k % 4 := ⟨_, rfl⟩
  rw [← hq] at hq0 hq4 HPK
  have HQ := Lib.hid hq
  clear h hq
  obtain rfl | rfl | rfl | rfl : q = 0 ∨ q = 1 ∨ q = 2 ∨ q = 3 := by omega
  · obtain ⟨r, G', hp⟩ : ∃ r G', grantP G u d a = (r, G') := ⟨_, _, rfl⟩
    have HS : Hid (stepQ G C ⟨k, s, u, d, a⟩ = (r, G', C)) := Lib.hid (by unfold stepQ; simp only; rw [if_pos HQ.out.symm, hp])
    have HP := Lib.hid hp
    clear hp
    go_enter Tryz.func6, Tryz.ntmps6
    go_upto_region 1 with fail
    rw [← hw3, ← hB]
    clear hw3 hB
    go_wp2_with (first
      | (go_at_call 11; refine HPK.out.mono ?_; rintro e w4 ⟨rfl, rfl⟩)
      | (go_at_call 9; refine (bo_grant H3.out hn u d a hd1 hd2 HP.out).mono ?_; rintro e w4 ⟨rfl, h4, hf⟩; have H4 := Lib.hid h4; have HF := Lib.hid hf; clear h4 hf))
    go_ret
    refine ⟨ret_int (by rw [HS.out]), ?_, (Fr.of_below HBL.out _).then HF.out⟩
    rw [HS.out]
    exact H4.out
  · obtain ⟨r, C', hp⟩ : ∃ r C', chargeP G C ⟨s, u, d, a⟩ = (r, C') := ⟨_, _, rfl⟩
    have HS : Hid (stepQ G C ⟨k, s, u, d, a⟩ = (r, G, C')) := Lib.hid (by unfold stepQ; simp only; rw [if_neg (by rw [← HQ.out]; decide), if_pos HQ.out.symm, hp])
    have HP := Lib.hid hp
    clear hp
    go_enter Tryz.func6, Tryz.ntmps6
    go_upto_region 1 with fail
    rw [← hw3, ← hB]
    clear hw3 hB
    go_wp2_with (first
      | (go_at_call 11; refine HPK.out.mono ?_; rintro e w4 ⟨rfl, rfl⟩)
      | (go_at_call 10; refine (bo_charge H3.out hn ⟨s, u, d, a⟩ hd1 hd2 HP.out).mono ?_; rintro e w4 ⟨rfl, h4, hf⟩; have H4 := Lib.hid h4; have HF := Lib.hid hf; clear h4 hf))
    go_ret
    refine ⟨ret_int (by rw [HS.out]), ?_, (Fr.of_below HBL.out _).then HF.out⟩
    rw [HS.out]
    exact H4.out
  · obtain ⟨r, C', hp⟩ : ∃ r C', refundP C s = (r, C') := ⟨_, _, rfl⟩
    have HS : Hid (stepQ G C ⟨k, s, u, d, a⟩ = (r, G, C')) := Lib.hid (by unfold stepQ; simp only; rw [if_neg (by rw [← HQ.out]; decide), if_neg (by rw [← HQ.out]; decide), if_pos HQ.out.symm, hp])
    have HP := Lib.hid hp
    clear hp
    go_enter Tryz.func6, Tryz.ntmps6
    go_upto_region 1 with fail
    rw [← hw3, ← hB]
    clear hw3 hB
    go_wp2_with (first
      | (go_at_call 11; refine HPK.out.mono ?_; rintro e w4 ⟨rfl, rfl⟩)
      | (go_at_call 12; refine (bo_refund H3.out s HP.out).mono ?_; rintro e w4 ⟨rfl, h4, hf⟩; have H4 := Lib.hid h4; have HF := Lib.hid hf; clear h4 hf))
    go_ret
    refine ⟨ret_int (by rw [HS.out]), ?_, (Fr.of_below HBL.out _).then HF.out⟩
    rw [HS.out]
    exact H4.out
  · obtain ⟨r, C', hp⟩ : ∃ r C', changeP G C s a = (r, C') := ⟨_, _, rfl⟩
    have HS : Hid (stepQ G C ⟨k, s, u, d, a⟩ = (r, G, C')) := Lib.hid (by unfold stepQ; simp only; rw [if_neg (by rw [← HQ.out]; decide), if_neg (by rw [← HQ.out]; decide), if_neg (by rw [← HQ.out]; decide), hp])
    have HP := Lib.hid hp
    clear hp
    go_enter Tryz.func6, Tryz.ntmps6
    go_upto_region 1 with fail
    rw [← hw3, ← hB]
    clear hw3 hB
    go_wp2_with (first
      | (go_at_call 11; refine HPK.out.mono ?_; rintro e w4 ⟨rfl, rfl⟩)
      | (go_at_call 13; refine (bo_change H3.out hn s a HP.out).mono ?_; rintro e w4 ⟨rfl, h4, hf⟩; have H4 := Lib.hid h4; have HF := Lib.hid hf; clear h4 hf))
    go_ret
    refine ⟨ret_int (by rw [HS.out]), ?_, (Fr.of_below HBL.out _).then HF.out⟩
    rw [HS.out]
    exact H4.out
end Go.Proofs.YtmgbailpmcggiaaGreat
namespace Go.Proofs.YtmgbailpmcggiaaGreat
open Go.RowKit

/-- block g is a book of the document's: vG its grants S, vC its charges C -/
structure RBk (base : Nat) (w : World) (g : Nat) (vG vC : Value) (S : List Gr) (C : List Ch) : Prop where
  blk : Blk w g [vG, vC] 30
  gr : w.ownsRow base 66 6 vG S.length (rwC grC S)
  ch : w.ownsRow base 43 7 vC C.length (rwC chC C)
  n1 : vG.ownBlock ≠ some g
  n2 : vC.ownBlock ≠ some g
theorem RBk.kept {base : Nat} {w w' : World} {g : Nat} {vG vC : Value} {S : List Gr} {C : List Ch} (h : RBk base w g vG vC S C) (hb : Below w.heap.size w w') : RBk base w' g vG vC S C :=
  ⟨h.blk.kept hb, own_fr h.gr (Fr.of_below hb []) (fun _ _ => by simp), own_fr h.ch (Fr.of_below hb []) (fun _ _ => by simp), h.n1, h.n2⟩
theorem RBk.chAt {base : Nat} {w : World} {g : Nat} {vG : Value} {p : Option Addr} {n c : Nat} {S : List Gr} {C : List Ch} (h : RBk base w g vG (.slice p n c) S C) {k : Nat} (hk : k < C.length) :
    ∃ q, p = some ⟨q, 0, none⟩ ∧ ∀ j u, j < 7 → (chC C[k])[j]? = some u → w.cell? ⟨q, k * 7 + j, none⟩ = some u := by
  obtain ⟨q, c', e, -, -, -⟩ := own_block h.ch (by omega)
  simp only [Value.slice.injEq] at e
  obtain ⟨rfl, rfl, rfl⟩ := e
  exact ⟨q, rfl, fun j u hj hu => own_cell h.ch (by rw [rwC_at chC_len hk hj]; exact hu)⟩
theorem RBk.grAt {base : Nat} {w : World} {g : Nat} {vC : Value} {p : Option Addr} {n c : Nat} {S : List Gr} {C : List Ch} (h : RBk base w g (.slice p n c) vC S C) {k : Nat} (hk : k < S.length) :
    ∃ q, p = some ⟨q, 0, none⟩ ∧ ∀ j u, j < 6 → (grC S[k])[j]? = some u → w.cell? ⟨q, k * 6 + j, none⟩ = some u := by
  obtain ⟨q, c', e, -, -, -⟩ := own_block h.gr (by omega)
  simp only [Value.slice.injEq] at e
  obtain ⟨rfl, rfl, rfl⟩ := e
  exact ⟨q, rfl, fun j u hj hu => own_cell h.gr (by rw [rwC_at grC_len hk hj]; exact hu)⟩
/-- where the charge of a name lies; -1: nowhere -/
def cplc (s : ByteArray) : List Ch → Int
  | [] => -1
  | c :: C => if c.n.toList == s.toList then 0 else if cplc s C < 0 then -1 else cplc s C + 1
theorem cplc_no {s : ByteArray} : ∀ {C : List Ch}, (∀ c ∈ C, (c.n.toList == s.toList) = false) → cplc s C = -1
  | [], _ => rfl
  | c :: C, h => by
    unfold cplc
    rw [h c (by simp), cplc_no (fun x hx => h x (by simp [hx]))]
    rfl
theorem cplc_at {s : ByteArray} : ∀ {C : List Ch} {k : Nat} (hk : k < C.length), (∀ i (h : i < k), (C[i].n.toList == s.toList) = false) → (C[k].n.toList == s.toList) = true → cplc s C = k
  | c :: C, 0, _, _, h => by
    unfold cplc
    rw [if_pos (by simpa using h)]
    rfl
  | c :: C, k + 1, hk, hn, h => by
    have h0 := hn 0 (by omega)
    have ih := cplc_at (C := C) (k := k) (by simpa using hk) (fun i hi => by have := hn (i + 1) (by omega); simpa using this) (by simpa using h)
    unfold cplc
    rw [if_neg (by simpa using h0), ih, if_neg (by omega)]
    rfl

set_option maxRecDepth 100000 in
set_option maxHeartbeats 1000000 in
theorem rplace_any (base g : Nat) (vG vC : Value) (S : List Gr) (C : List Ch) (s : ByteArray) (w : World) (h : RBk base w g vG vC S C) :
    Calls Tryz.prog 36 #[ptr g, .string s] w fun e w' => e = .returned (.int .i64 (cplc s C)) ∧ Below w.heap.size w w' := by
  obtain ⟨p, c, rfl, hc, hm⟩ := own_slice h.ch
  have hml : maxLen ≤ 9223372036854775807 := by decide
  have H := Lib.hid h
  clear h
  go_enter Tryz.func36, Tryz.ntmps36
  go_wp2
  go_loopw [5] (fun i wr => ∃ k : Nat, k ≤ C.length ∧ i = .int .i64 (k : Int) ∧ Hid (∀ i (h : i < C.length), i < k → (C[i].n.toList == s.toList) = false) ∧ Hid (Below w.heap.size w wr)) (fun i _ => C.length - (intOf i).toNat)
  case atStart => exact ⟨0, Nat.zero_le _, rfl, Lib.hid (fun i h hi => by omega), Lib.hid (Below.refl _ _)⟩
  case round =>
    obtain ⟨k, hk, rfl, HN, HB⟩ := hrel
    have HR := Lib.hid (H.out.kept HB.out)
    have b1 := HR.out.blk.cell (j := 1) rfl
    by_cases hlt : k < C.length
    · obtain ⟨q, rfl, hcs⟩ := HR.out.chAt hlt
      obtain ⟨x, hx⟩ : ∃ x, x = C[k] := ⟨_, rfl⟩
      rw [← hx] at hcs
      have e0 : wr.cell? ⟨q, k * 7, none⟩ = some (.string x.n) := hcs 0 _ (by omega) rfl
      have i1 : (k : Int) < (C.length : Int) := by omega
      have i0 : (0 : Int) ≤ (k : Int) := by omega
      clear hcs
      cases hq : (x.n.toList == s.toList)
      · have HN2 : Hid (∀ i (h : i < C.length), i < k + 1 → (C[i].n.toList == s.toList) = false) := Lib.hid (fun i h hi => by
          by_cases e : i = k
          · subst e; rw [← hx]; exact hq
          · exact HN.out i h (by omega))
        clear hx
        go_wp2
        go_roundw
        case rel => exact ⟨k + 1, hlt, by go_num, HN2, HB⟩
        case measure => simp [intOf]; omega
      · have HP : Hid (cplc s C = (k : Int)) := Lib.hid (cplc_at hlt (fun i hi => HN.out i (by omega) hi) (by rw [← hx]; exact hq))
        clear hx
        go_wp2
        go_ret
        exact ⟨ret_int HP.out.symm, HB.out⟩
    · obtain rfl : k = C.length := by omega
      have HP : Hid (cplc s C = -1) := Lib.hid (cplc_no (fun x hx => by
        obtain ⟨i, hi, rfl⟩ := List.mem_iff_getElem.1 hx
        exact HN.out i hi hi))
      go_wp2
      go_ret
      exact ⟨ret_int HP.out.symm, HB.out⟩
end Go.Proofs.YtmgbailpmcggiaaGreat
namespace Go.Proofs.YtmgbailpmcggiaaGreat
open Go.RowKit

def gonB (u : ByteArray) (d : Int) (e : Gr) : Bool := (e.u.toList == u.toList) && (e.b == d)
def gfind (u : ByteArray) (d : Int) (S : List Gr) : Am := ((S.find? (gonB u d)).map Gr.a).getD .zero
theorem gfind_no {u : ByteArray} {d : Int} {S : List Gr} (h : ∀ i (hi : i < S.length), gonB u d S[i] = false) : gfind u d S = .zero := by
  unfold gfind
  rw [List.find?_eq_none.2 (fun x hx => by
    obtain ⟨i, hi, rfl⟩ := List.mem_iff_getElem.1 hx
    rw [h i hi]; simp)]
  rfl
theorem gfind_at {u : ByteArray} {d : Int} : ∀ {S : List Gr} {k : Nat} (hk : k < S.length), (∀ i (h : i < k), gonB u d S[i] = false) → gonB u d S[k] = true → gfind u d S = S[k].a
  | c :: S, 0, _, _, h => by
    unfold gfind
    rw [List.find?_cons]
    have h1 : gonB u d c = true := h
    rw [h1]
    rfl
  | c :: S, k + 1, hk, hn, h => by
    have h0 : gonB u d c = false := hn 0 (by omega)
    have ih := gfind_at (u := u) (d := d) (S := S) (k := k) (by simpa using hk) (fun i hi => hn (i + 1) (by omega)) h
    unfold gfind at *
    rw [List.find?_cons, h0]
    exact ih

set_option maxRecDepth 100000 in
set_option maxHeartbeats 1000000 in
theorem rgr_any (base g : Nat) (vG vC : Value) (S : List Gr) (C : List Ch) (u : ByteArray) (d : Int) (w : World) (h : RBk base w g vG vC S C) :
    Calls Tryz.prog 39 #[ptr g, .string u, .int .i64 d] w fun e w' => e = .returned (amV (gfind u d S)) ∧ Below w.heap.size w w' := by
  obtain ⟨p, c, rfl, hc, hm⟩ := own_slice h.gr
  have hml : maxLen ≤ 9223372036854775807 := by decide
  obtain ⟨w3, hw3⟩ : ∃ w3, w3 = w.alloc (.cells #[.int .i64 0, .int .i64 0, .int .i64 0, .int .i64 0] 34) := ⟨_, rfl⟩
  obtain ⟨B, hB⟩ : ∃ B, B = w.heap.size := ⟨_, rfl⟩
  have B0 : Hid (Blk w3 B (amC .zero) 34) := Lib.hid (by rw [hw3, hB]; exact Blk.made w (amC .zero) _)
  have HBL : Hid (Below w.heap.size w w3) := Lib.hid (by rw [hw3]; exact below_alloc w _)
  have HBW : Hid (w.heap.size ≤ B) := Lib.hid (by omega)
  have H := Lib.hid (h.kept HBL.out)
  clear h
  go_enter Tryz.func39, Tryz.ntmps39
  go_upto_region 1 with fail
  rw [← hw3, ← hB]
  clear hw3 hB
  go_wp2
  go_loopw [7] (fun i wr => ∃ k : Nat, k ≤ S.length ∧ i = .int .i64 (k : Int) ∧ Hid (∀ i (h : i < S.length), i < k → gonB u d S[i] = false) ∧ Hid (Below w3.heap.size w3 wr)) (fun i _ => S.length - (intOf i).toNat)
  case atStart => exact ⟨0, Nat.zero_le _, rfl, Lib.hid (fun i h hi => by omega), Lib.hid (Below.refl _ _)⟩
  case round =>
    obtain ⟨k, hk, rfl, HN, HB⟩ := hrel
    have HR := Lib.hid (H.out.kept HB.out)
    have HZ := Lib.hid (B0.out.kept HB.out)
    have HBX := Lib.hid (below_and HBL.out HB.out)
    have b1 := HR.out.blk.cell (j := 0) rfl
    by_cases hlt : k < S.length
    · obtain ⟨q, rfl, hcs⟩ := HR.out.grAt hlt
      obtain ⟨x, hx⟩ : ∃ x, x = S[k] := ⟨_, rfl⟩
      rw [← hx] at hcs
      have e0 : wr.cell? ⟨q, k * 6, none⟩ = some (.string x.u) := hcs 0 _ (by omega) rfl
      have e1 := hcs 1 _ (by omega) rfl
      have e2 := hcs 2 _ (by omega) rfl
      have e3 : wr.cell? ⟨q, k * 6 + 2 + 1, none⟩ = some (.int .i64 x.a.r) := hcs 3 _ (by omega) rfl
      have e4 : wr.cell? ⟨q, k * 6 + 2 + 2, none⟩ = some (.int .i64 x.a.d) := hcs 4 _ (by omega) rfl
      have e5 : wr.cell? ⟨q, k * 6 + 2 + 3, none⟩ = some (.int .i64 x.a.p) := hcs 5 _ (by omega) rfl
      have i1 : (k : Int) < (S.length : Int) := by omega
      have i0 : (0 : Int) ≤ (k : Int) := by omega
      clear hcs
      cases hq : gonB u d x
      · have HN2 : Hid (∀ i (h : i < S.length), i < k + 1 → gonB u d S[i] = false) := Lib.hid (fun i h hi => by
          by_cases e : i = k
          · subst e; rw [← hx]; exact hq
          · exact HN.out i h (by omega))
        cases q1 : (x.u.toList == u.toList)
        · clear hx hq
          go_wp2
          go_roundw
          case rel => exact ⟨k + 1, hlt, by go_num, HN2, HB⟩
          case measure => simp [intOf]; omega
        · have q2 : (x.b == d) = false := by
            unfold gonB at hq
            rw [q1] at hq
            simpa using hq
          clear hx hq
          go_wp2
          go_roundw
          case rel => exact ⟨k + 1, hlt, by go_num, HN2, HB⟩
          case measure => simp [intOf]; omega
      · have HP : Hid (gfind u d S = x.a) := Lib.hid (by rw [hx]; exact gfind_at hlt (fun i hi => HN.out i (by omega) hi) (by rw [← hx]; exact hq))
        have hu : x.u = u := by
          unfold gonB at hq
          rw [Bool.and_eq_true, Lib.toList_data, Lib.toList_data] at hq
          exact ByteArray.ext (Array.toList_inj.1 (by simpa using hq.1))
        have hd : x.b = d := by
          unfold gonB at hq
          rw [Bool.and_eq_true] at hq
          simpa using hq.2
        rw [hu] at e0
        have e1' : wr.cell? ⟨q, k * 6 + 1, none⟩ = some (.int .i64 d) := by rw [← hd]; exact e1
        have r0 := HZ.out.cell (j := 0) rfl
        have r1 := HZ.out.cell (j := 1) rfl
        have r2 := HZ.out.cell (j := 2) rfl
        have r3 := HZ.out.cell (j := 3) rfl
        have f0 := HZ.out.free 0
        have f1 := HZ.out.free 1
        have f2 := HZ.out.free 2
        have f3 := HZ.out.free 3
        clear hx hq hu hd e1
        go_wp2
        refine bodyPost_ret (results_row rfl _ _ B 34 #[.int .i64 x.a.c, .int .i64 x.a.r, .int .i64 x.a.d, .int .i64 x.a.p] (0, 0) _ rfl ?_ Tryz.underlying34 rfl (by kernel_rfl)) rfl ⟨by rw [HP.out], ?_⟩
        · exact (((HZ.out.set 0 (.int .i64 x.a.c)).set 1 (.int .i64 x.a.r)).set 2 (.int .i64 x.a.d)).set 3 (.int .i64 x.a.p)
        · exact (((HBX.out.setCell (p := ⟨B, 0, none⟩) HBW.out _).setCell (p := ⟨B, 1, none⟩) HBW.out _).setCell (p := ⟨B, 2, none⟩) HBW.out _).setCell (p := ⟨B, 3, none⟩) HBW.out _
    · obtain rfl : k = S.length := by omega
      have HP : Hid (gfind u d S = .zero) := Lib.hid (gfind_no (fun i hi => HN.out i hi hi))
      have r0 := HZ.out.cell (j := 0) rfl
      have r1 := HZ.out.cell (j := 1) rfl
      have r2 := HZ.out.cell (j := 2) rfl
      have r3 := HZ.out.cell (j := 3) rfl
      have f0 := HZ.out.free 0
      have f1 := HZ.out.free 1
      have f2 := HZ.out.free 2
      have f3 := HZ.out.free 3
      go_wp2
      refine bodyPost_ret (results_row rfl _ _ B 34 #[.int .i64 0, .int .i64 0, .int .i64 0, .int .i64 0] (0, 0) _ rfl ?_ Tryz.underlying34 rfl (by kernel_rfl)) rfl ⟨by rw [HP.out]; rfl, ?_⟩
      · exact (((HZ.out.set 0 (.int .i64 0)).set 1 (.int .i64 0)).set 2 (.int .i64 0)).set 3 (.int .i64 0)
      · exact (((HBX.out.setCell (p := ⟨B, 0, none⟩) HBW.out _).setCell (p := ⟨B, 1, none⟩) HBW.out _).setCell (p := ⟨B, 2, none⟩) HBW.out _).setCell (p := ⟨B, 3, none⟩) HBW.out _
end Go.Proofs.YtmgbailpmcggiaaGreat
namespace Go.Proofs.YtmgbailpmcggiaaGreat
open Go.RowKit

set_option maxRecDepth 100000 in
set_option maxHeartbeats 1000000 in
theorem rname11_any (s : ByteArray) (w : World) :
    Calls Tryz.prog 72 #[.string s, .int .i64 16] w fun e w' => e = .returned (.bool (nameB 16 s.data.toList)) ∧ w = w' := by
  obtain ⟨l, hl⟩ : ∃ l, l = s.data.toList := ⟨_, rfl⟩
  have hsz : s.size = l.length := by rw [hl]; simp
  rw [← hl]
  by_cases h0 : s.size < 1
  · have HR : Hid (nameB 16 l = false) := Lib.hid (by unfold nameB; rw [decide_eq_false (by omega)]; rfl)
    have e0 : decide ((s.size : Int) < 1) = true := by simp; omega
    clear hl hsz
    go_enter Tryz.func72, Tryz.ntmps72
    go_wp2
    go_ret
    exact ⟨ret_bool HR.out.symm, rfl⟩
  have e0 : decide ((s.size : Int) < 1) = false := by simp; omega
  by_cases h1 : 16 < s.size
  · have HR : Hid (nameB 16 l = false) := Lib.hid (by unfold nameB; rw [decide_eq_false (by omega)]; rfl)
    have e1 : decide ((16 : Int) < (s.size : Int)) = true := by simp; omega
    clear hl hsz
    go_enter Tryz.func72, Tryz.ntmps72
    go_wp2
    go_ret
    exact ⟨ret_bool HR.out.symm, rfl⟩
  have e1 : decide ((16 : Int) < (s.size : Int)) = false := by simp; omega
  have hl1 : l.length ≤ 16 := by omega
  have i0 : 0 < s.size := by omega
  obtain ⟨c0, hc0⟩ : ∃ c0, c0 = s[0] := ⟨_, rfl⟩
  have HC0 : Hid (l.getD 0 0 = c0) := Lib.hid (by
    subst hl
    rw [hc0, List.getD_eq_getElem?_getD, List.getElem?_eq_getElem (by omega)]
    rfl)
  have hcc : s[0] = c0 := hc0.symm
  clear hc0
  by_cases h2 : c0.toNat < 97
  · have HR : Hid (nameB 16 l = false) := Lib.hid (by unfold nameB; rw [HC0.out, decide_eq_false (p := 97 ≤ c0.toNat ∧ _) (by omega)]; simp)
    have e2 : decide ((c0.toNat : Int) < 97) = true := by simp; omega
    clear hl hsz h0 h1
    go_enter Tryz.func72, Tryz.ntmps72
    go_wp2
    go_ret
    exact ⟨ret_bool HR.out.symm, rfl⟩
  have e2 : decide ((c0.toNat : Int) < 97) = false := by simp; omega
  by_cases h3 : 122 < c0.toNat
  · have HR : Hid (nameB 16 l = false) := Lib.hid (by unfold nameB; rw [HC0.out, decide_eq_false (p := 97 ≤ c0.toNat ∧ _) (by omega)]; simp)
    have e3 : decide ((122 : Int) < (c0.toNat : Int)) = true := by simp; omega
    clear hl hsz h0 h1
    go_enter Tryz.func72, Tryz.ntmps72
    go_wp2
    go_ret
    exact ⟨ret_bool HR.out.symm, rfl⟩
  have e3 : decide ((122 : Int) < (c0.toNat : Int)) = false := by simp; omega
  have HH : Hid (nameB 16 l = l.all nameC) := Lib.hid (by unfold nameB; rw [HC0.out, decide_eq_true (p := 1 ≤ l.length ∧ _) (by omega), decide_eq_true (p := 97 ≤ c0.toNat ∧ _) (by omega)]; rfl)
  have HC : Hid (∀ j (h : j < s.size), ∃ h' : j < l.length, s[j] = l[j]) := Lib.hid (fun j hj => ⟨by omega, by subst hl; rfl⟩)
  have HSZ := Lib.hid hsz
  clear hl hsz h0 h1 h2 h3
  go_enter Tryz.func72, Tryz.ntmps72
  go_wp2
  go_loop [5] (fun i => ∃ k : Nat, k ≤ l.length ∧ i = .int .i64 (k : Int) ∧ Hid ((l.take k).all nameC = true)) (fun i => l.length - (intOf i).toNat)
  case atStart => exact ⟨0, Nat.zero_le _, rfl, by simp [Hid]⟩
  case round =>
    obtain ⟨k, hk, rfl, HD⟩ := hrel
    by_cases hlt : k < l.length
    · have hks : k < s.size := by have := HSZ.out; omega
      have i1 : (k : Int) < (s.size : Int) := by omega
      have i2 : (0 : Int) ≤ (k : Int) := by omega
      obtain ⟨c, hcq⟩ : ∃ c, c = s[k] := ⟨_, rfl⟩
      have HCC : Hid (c = l[k]) := Lib.hid (by obtain ⟨_, h⟩ := HC.out k hks; rw [hcq, h])
      have hcc2 : s[k] = c := hcq.symm
      have cb := c.toNat_lt
      clear hcq
      cases hn : nameC c
      · have HR : Hid (nameB 16 l = false) := Lib.hid (nameB_no hlt (by rw [← HCC.out]; exact hn))
        have hn2 : ¬ (97 ≤ c.toNat ∧ c.toNat ≤ 122) ∧ ¬ (48 ≤ c.toNat ∧ c.toNat ≤ 57) ∧ ¬ (c.toNat = 45) := by
          unfold nameC at hn
          simp only [Bool.or_eq_false_iff, decide_eq_false_iff_not] at hn
          exact ⟨hn.1.1, hn.1.2, hn.2⟩
        clear hn
        by_cases h97 : c.toNat < 97
        · by_cases h48 : c.toNat < 48
          · have d1 : decide ((97 : Int) ≤ (c.toNat : Int)) = false := by simp; omega
            have d3 : decide ((48 : Int) ≤ (c.toNat : Int)) = false := by simp; omega
            have d5 : ((c.toNat : Int) == 45) = false := by simp; omega
            clear hn2
            go_wp2
            go_ret
            exact ⟨ret_bool HR.out.symm, rfl⟩
          · have d1 : decide ((97 : Int) ≤ (c.toNat : Int)) = false := by simp; omega
            have d3 : decide ((48 : Int) ≤ (c.toNat : Int)) = true := by simp; omega
            have d4 : decide ((c.toNat : Int) ≤ 57) = false := by simp; omega
            have d5 : ((c.toNat : Int) == 45) = false := by simp; omega
            clear hn2
            go_wp2
            go_ret
            exact ⟨ret_bool HR.out.symm, rfl⟩
        · have d1 : decide ((97 : Int) ≤ (c.toNat : Int)) = true := by simp; omega
          have d2 : decide ((c.toNat : Int) ≤ 122) = false := by simp; omega
          have d3 : decide ((48 : Int) ≤ (c.toNat : Int)) = true := by simp; omega
          have d4 : decide ((c.toNat : Int) ≤ 57) = false := by simp; omega
          have d5 : ((c.toNat : Int) == 45) = false := by simp; omega
          clear hn2
          go_wp2
          go_ret
          exact ⟨ret_bool HR.out.symm, rfl⟩
      · have HD2 : Hid ((l.take (k + 1)).all nameC = true) := Lib.hid (by rw [List.take_succ_eq_append_getElem hlt, List.all_append, HD.out, ← HCC.out]; simp [hn])
        have hn2 : (97 ≤ c.toNat ∧ c.toNat ≤ 122) ∨ (48 ≤ c.toNat ∧ c.toNat ≤ 57) ∨ (c.toNat = 45) := by
          unfold nameC at hn
          simp only [Bool.or_eq_true, decide_eq_true_eq] at hn
          rcases hn with (h | h) | h
          · exact .inl h
          · exact .inr (.inl h)
          · exact .inr (.inr h)
        clear hn
        rcases hn2 with hn2 | hn2 | hn2
        · have d1 : decide ((97 : Int) ≤ (c.toNat : Int)) = true := by simp; omega
          have d2 : decide ((c.toNat : Int) ≤ 122) = true := by simp; omega
          clear hn2
          go_wp2
          go_round
          case rel => exact ⟨k + 1, hlt, by go_num, HD2⟩
          case measure => simp [intOf]; omega
        · have d1 : decide ((97 : Int) ≤ (c.toNat : Int)) = false := by simp; omega
          have d3 : decide ((48 : Int) ≤ (c.toNat : Int)) = true := by simp; omega
          have d4 : decide ((c.toNat : Int) ≤ 57) = true := by simp; omega
          clear hn2
          go_wp2
          go_round
          case rel => exact ⟨k + 1, hlt, by go_num, HD2⟩
          case measure => simp [intOf]; omega
        · have d1 : decide ((97 : Int) ≤ (c.toNat : Int)) = false := by simp; omega
          have d3 : decide ((48 : Int) ≤ (c.toNat : Int)) = false := by simp; omega
          have d5 : ((c.toNat : Int) == 45) = true := by simp; omega
          clear hn2
          go_wp2
          go_round
          case rel => exact ⟨k + 1, hlt, by go_num, HD2⟩
          case measure => simp [intOf]; omega
    · obtain rfl : k = l.length := by omega
      have HR : Hid (nameB 16 l = true) := Lib.hid (by rw [HH.out]; have := HD.out; rwa [List.take_length] at this)
      have i1 : ¬ (l.length : Int) < (s.size : Int) := by have := HSZ.out; omega
      go_wp2
      go_ret
      exact ⟨ret_bool HR.out.symm, rfl⟩

set_option maxRecDepth 100000 in
theorem rname12_any (s : ByteArray) (w : World) :
    Calls Tryz.prog 57 #[.string s] w fun e w' => e = .returned (.bool (nameB 16 s.data.toList)) ∧ w = w' := by
  go_enter Tryz.func57, Tryz.ntmps57
  go_wp2_with (go_at_call 72; refine (rname11_any s _).mono ?_; rintro e w1 ⟨rfl, rfl⟩)
  go_ret
  exact ⟨rfl, rfl⟩
end Go.Proofs.YtmgbailpmcggiaaGreat
namespace Go.Proofs.YtmgbailpmcggiaaGreat
open Go.RowKit

set_option maxRecDepth 100000 in
set_option maxHeartbeats 1000000 in
theorem rwrong_any (u : ByteArray) (d : Int) (a : Am) (w : World) :
    Calls Tryz.prog 35 #[.string u, .int .i64 d, amV a] w fun e w' => e = .returned (.bool (!(askB u d && a.okB))) ∧ Below w.heap.size w w' := by
  obtain ⟨w3, hw3⟩ : ∃ w3, w3 = w.alloc (.cells #[.int .i64 a.c, .int .i64 a.r, .int .i64 a.d, .int .i64 a.p] 34) := ⟨_, rfl⟩
  obtain ⟨B, hB⟩ : ∃ B, B = w.heap.size := ⟨_, rfl⟩
  have B0 : Hid (Blk w3 B (amC a) 34) := Lib.hid (by rw [hw3, hB]; exact Blk.made w (amC a) _)
  have HBL : Hid (Below w.heap.size w w3) := Lib.hid (by rw [hw3]; exact below_alloc w _)
  have c0 := B0.out.cell (j := 0) rfl
  have c1 := B0.out.cell (j := 1) rfl
  have c2 := B0.out.cell (j := 2) rfl
  have c3 := B0.out.cell (j := 3) rfl
  obtain ⟨nb, hnb⟩ : ∃ nb, nb = nameB 16 u.data.toList := ⟨_, rfl⟩
  have HN : Hid (∀ w, Calls Tryz.prog 57 #[.string u] w fun e w' => e = .returned (.bool nb) ∧ w = w') := Lib.hid (fun w => by rw [hnb]; exact rname12_any u w)
  have HA : Hid (askB u d = (nb && decide (0 ≤ d ∧ d ≤ 3))) := Lib.hid (by rw [hnb]; rfl)
  clear hnb
  go_enter Tryz.func35, Tryz.ntmps35
  go_upto_region 1 with fail
  rw [← hw3, ← hB]
  clear hw3 hB
  cases nb
  · have HR : Hid ((!(askB u d && a.okB)) = true) := Lib.hid (by rw [HA.out]; simp)
    go_wp2_with (go_at_call 57; refine (HN.out _).mono ?_; rintro e w4 ⟨rfl, rfl⟩)
    go_ret
    exact ⟨ret_bool HR.out.symm, HBL.out⟩
  · by_cases h1 : d < 0
    · have HR : Hid ((!(askB u d && a.okB)) = true) := Lib.hid (by rw [HA.out, decide_eq_false (by omega)]; simp)
      have t1 : decide (d < 0) = true := by simp; omega
      go_wp2_with (go_at_call 57; refine (HN.out _).mono ?_; rintro e w4 ⟨rfl, rfl⟩)
      go_ret
      exact ⟨ret_bool HR.out.symm, HBL.out⟩
    · have t1 : decide (d < 0) = false := by simp; omega
      by_cases h2 : 3 < d
      · have HR : Hid ((!(askB u d && a.okB)) = true) := Lib.hid (by rw [HA.out, decide_eq_false (by omega)]; simp)
        have t2 : decide (3 < d) = true := by simp; omega
        go_wp2_with (go_at_call 57; refine (HN.out _).mono ?_; rintro e w4 ⟨rfl, rfl⟩)
        go_ret
        exact ⟨ret_bool HR.out.symm, HBL.out⟩
      · have t2 : decide (3 < d) = false := by simp; omega
        have HR : Hid ((!(askB u d && a.okB)) = !a.okB) := Lib.hid (by rw [HA.out, decide_eq_true (by omega)]; simp)
        cases ho : a.okB
        · have HCK : Hid (a.chk = 2) := Lib.hid (by unfold Am.chk; rw [ho]; rfl)
          have HRR : Hid ((!(askB u d && a.okB)) = true) := Lib.hid (by rw [HR.out, ho]; rfl)
          clear ho
          go_wp2_with (first
            | (go_at_call 57; refine (HN.out _).mono ?_; rintro e w4 ⟨rfl, rfl⟩)
            | (go_at_call 40; refine (rcheck_any a _).mono ?_; rw [HCK.out]; rintro e w5 ⟨rfl, hb⟩; have HB5 := Lib.hid (below_and HBL.out hb); clear hb))
          go_ret
          exact ⟨ret_bool HRR.out.symm, HB5.out⟩
        · have HCK : Hid (a.chk = 0) := Lib.hid (by unfold Am.chk; rw [ho]; rfl)
          have HRR : Hid ((!(askB u d && a.okB)) = false) := Lib.hid (by rw [HR.out, ho]; rfl)
          clear ho
          go_wp2_with (first
            | (go_at_call 57; refine (HN.out _).mono ?_; rintro e w4 ⟨rfl, rfl⟩)
            | (go_at_call 40; refine (rcheck_any a _).mono ?_; rw [HCK.out]; rintro e w5 ⟨rfl, hb⟩; have HB5 := Lib.hid (below_and HBL.out hb); clear hb))
          go_ret
          exact ⟨ret_bool HRR.out.symm, HB5.out⟩
end Go.Proofs.YtmgbailpmcggiaaGreat
namespace Go.Proofs.YtmgbailpmcggiaaGreat
open Go.RowKit

theorem rwrong_zero (u : ByteArray) (d : Int) (w : World) :
    Calls Tryz.prog 35 #[.string u, .int .i64 d, .agg #[.int .i64 0, .int .i64 0, .int .i64 0, .int .i64 0]] w fun e w' => e = .returned (.bool (!askB u d)) ∧ Below w.heap.size w w' :=
  (rwrong_any u d .zero w).mono fun e w' ⟨h1, h2⟩ => ⟨by rw [h1]; have : Am.zero.okB = true := rfl; rw [this, Bool.and_true], h2⟩

set_option maxRecDepth 100000 in
set_option maxHeartbeats 1000000 in
theorem rGranted_any (base g : Nat) (vG vC : Value) (S : List Gr) (C : List Ch) (u : ByteArray) (d : Int) (w : World) (h : RBk base w g vG vC S C) :
    Calls Tryz.prog 21 #[ptr g, .string u, .int .i64 d] w fun e w' => e = .returned (.tuple #[amV (if askB u d = true then gfind u d S else .zero), .int .i64 (if askB u d = true then 0 else 2)]) ∧ Below w.heap.size w w' := by
  obtain ⟨w3, hw3⟩ : ∃ w3, w3 = w.alloc (.cells #[.int .i64 0, .int .i64 0, .int .i64 0, .int .i64 0] 34) := ⟨_, rfl⟩
  obtain ⟨B, hB⟩ : ∃ B, B = w.heap.size := ⟨_, rfl⟩
  have B0 : Hid (Blk w3 B (amC .zero) 34) := Lib.hid (by rw [hw3, hB]; exact Blk.made w (amC .zero) _)
  have HBL : Hid (Below w.heap.size w w3) := Lib.hid (by rw [hw3]; exact below_alloc w _)
  have HBW : Hid (w.heap.size ≤ B) := Lib.hid (by omega)
  have H := Lib.hid (h.kept HBL.out)
  obtain ⟨ak, hak⟩ : ∃ ak, ak = askB u d := ⟨_, rfl⟩
  have HWR : Hid (∀ w, Calls Tryz.prog 35 #[.string u, .int .i64 d, .agg #[.int .i64 0, .int .i64 0, .int .i64 0, .int .i64 0]] w fun e w' => e = .returned (.bool (!ak)) ∧ Below w.heap.size w w') := Lib.hid (fun w => by rw [hak]; exact rwrong_zero u d w)
  obtain ⟨z, hz⟩ : ∃ z, z = gfind u d S := ⟨_, rfl⟩
  have HGR : Hid (∀ w, RBk base w g vG vC S C → Calls Tryz.prog 39 #[ptr g, .string u, .int .i64 d] w fun e w' => e = .returned (.agg #[.int .i64 z.c, .int .i64 z.r, .int .i64 z.d, .int .i64 z.p]) ∧ Below w.heap.size w w') := Lib.hid (fun w h => by rw [hz]; exact rgr_any base g vG vC S C u d w h)
  rw [← hak, ← hz]
  clear h hak hz
  go_enter Tryz.func21, Tryz.ntmps21
  go_upto_region 1 with fail
  rw [← hw3, ← hB]
  clear hw3 hB
  cases ak
  · go_wp2_with (go_at_call 35; refine (HWR.out _).mono ?_; rintro e w4 ⟨rfl, hb⟩; have hz := B0.out.kept hb; have HZ := Lib.hid hz; have HBX := Lib.hid (below_and HBL.out hb); have r0 := hz.cell (j := 0) rfl; have r1 := hz.cell (j := 1) rfl; have r2 := hz.cell (j := 2) rfl; have r3 := hz.cell (j := 3) rfl; have f0 := hz.free 0; have f1 := hz.free 1; have f2 := hz.free 2; have f3 := hz.free 3; clear hz hb)
    refine bodyPost_ret (results_row_tmp rfl _ _ B 34 #[.int .i64 0, .int .i64 0, .int .i64 0, .int .i64 0] (0, 0) _ rfl ?_ Tryz.underlying34 rfl (by kernel_rfl)) rfl ⟨rfl, ?_⟩
    · exact (((HZ.out.set 0 (.int .i64 0)).set 1 (.int .i64 0)).set 2 (.int .i64 0)).set 3 (.int .i64 0)
    · exact (((HBX.out.setCell (p := ⟨B, 0, none⟩) HBW.out _).setCell (p := ⟨B, 1, none⟩) HBW.out _).setCell (p := ⟨B, 2, none⟩) HBW.out _).setCell (p := ⟨B, 3, none⟩) HBW.out _
  · go_wp2_with (first
      | (go_at_call 35; refine (HWR.out _).mono ?_; rintro e w4 ⟨rfl, hb⟩; have H4 := Lib.hid (H.out.kept hb); have HZ4 := Lib.hid (B0.out.kept hb); have HB4 := Lib.hid (below_and HBL.out hb); clear hb)
      | (go_at_call 39; refine (HGR.out _ H4.out).mono ?_; rintro e w5 ⟨rfl, hb⟩; have hz := HZ4.out.kept hb; have HZ := Lib.hid hz; have HBX := Lib.hid (below_and HB4.out hb); have r0 := hz.cell (j := 0) rfl; have r1 := hz.cell (j := 1) rfl; have r2 := hz.cell (j := 2) rfl; have r3 := hz.cell (j := 3) rfl; have f0 := hz.free 0; have f1 := hz.free 1; have f2 := hz.free 2; have f3 := hz.free 3; clear hz hb))
    refine bodyPost_ret (results_row_tmp rfl _ _ B 34 #[.int .i64 z.c, .int .i64 z.r, .int .i64 z.d, .int .i64 z.p] (0, 0) _ rfl ?_ Tryz.underlying34 rfl (by kernel_rfl)) rfl ⟨rfl, ?_⟩
    · exact (((HZ.out.set 0 (.int .i64 z.c)).set 1 (.int .i64 z.r)).set 2 (.int .i64 z.d)).set 3 (.int .i64 z.p)
    · exact (((HBX.out.setCell (p := ⟨B, 0, none⟩) HBW.out _).setCell (p := ⟨B, 1, none⟩) HBW.out _).setCell (p := ⟨B, 2, none⟩) HBW.out _).setCell (p := ⟨B, 3, none⟩) HBW.out _
end Go.Proofs.YtmgbailpmcggiaaGreat
namespace Go.Proofs.YtmgbailpmcggiaaGreat
open Go.RowKit

theorem Sg.apart {S G : List Gr} (h : Sg S G) (hr : KApart Gr.key G) : KApart Gr.key S :=
  (h.perm.pairwise_iff (fun {x y} h e => h e.symm)).2 hr
theorem Sg.find {S G : List Gr} (h : Sg S G) (hr : KApart Gr.key G) (s : List UInt8) : kfnd Gr.key S s = kfnd Gr.key G s := by
  cases hq : kfnd Gr.key G s with
  | some e =>
    obtain ⟨hm, rfl⟩ := kfnd_mem hq
    exact kfnd_of (h.apart hr) (h.perm.mem_iff.2 hm)
  | none =>
    cases hs : kfnd Gr.key S s with
    | none => rfl
    | some x =>
      obtain ⟨hm, rfl⟩ := kfnd_mem hs
      rw [kfnd_of hr (h.perm.mem_iff.1 hm)] at hq
      cases hq
theorem gfind_grant {S G : List Gr} (h : Sg S G) (hr : KApart Gr.key G) (ho : ∀ g ∈ G, gok g) {u : ByteArray} {d : Int} (hu : u.size ≤ maxLen) (hd : (Lit.int .i64 d).wf = true) : gfind u d S = grantA G u d := by
  unfold gfind grantA
  rw [← h.find hr]
  have hf : ∀ e ∈ S, gonB u d e = (Gr.key e == kT u d) := fun e he => by
    have hg := ho e (h.perm.mem_iff.1 he)
    unfold gonB
    rw [Lib.toList_data, Lib.toList_data]
    by_cases hk : Gr.key e = kT u d
    · obtain ⟨h1, h2⟩ := kT_inj hg.1 hg.2 hu hd hk
      rw [h1, h2, hk]; simp
    · have : (Gr.key e == kT u d) = false := by simpa using hk
      rw [this]
      rw [Bool.and_eq_false_iff]
      by_cases h1 : e.u.data.toList = u.data.toList
      · refine .inr ?_
        simp only [beq_eq_false_iff_ne, ne_eq]
        intro h2
        exact hk (by unfold Gr.key kT; rw [h1, h2])
      · exact .inl (by simpa using h1)
  have hl : ∀ L : List Gr, (∀ e ∈ L, gonB u d e = (Gr.key e == kT u d)) → L.find? (gonB u d) = kfnd Gr.key L (kT u d) := by
    intro L
    induction L with
    | nil => intro _; rfl
    | cons e L ih =>
      intro hL
      unfold kfnd at *
      rw [List.find?_cons, List.find?_cons, hL e (by simp), ih (fun x hx => hL x (by simp [hx]))]
  rw [hl S hf]
end Go.Proofs.YtmgbailpmcggiaaGreat

namespace Go.Proofs.YtmgbailpmcggiaaGreat
open Go.RowKit

def HoldI (G : List Gr) (C : List Ch) : Prop := ∀ u d, d ≠ 0 → ∀ k, k < 4 → (psum (onB u d) C).get k ≤ (grantA G u d).get k
theorem holdI_nil : HoldI [] [] := fun u d _ k hk => by
  rw [psum_get _ _ hk]
  have : (grantA [] u d) = .zero := rfl
  rw [this, zero_get k hk]
  exact Int.le_refl _

theorem kins_fnd {α : Type} {key : α → List UInt8} (x : α) (s : List UInt8) : ∀ L : List α, (∀ e ∈ L, key e ≠ key x) → kfnd key (kins key x L) s = if key x = s then some x else kfnd key L s
  | [], _ => by
    unfold kins kfnd
    by_cases h : key x = s
    · simp [h]
    · have : (key x == s) = false := by simpa using h
      simp [h, this]
  | y :: L, hn => by
    have hy := hn y (by simp)
    have ih := kins_fnd x s L (fun e he => hn e (by simp [he]))
    unfold kins
    split
    · unfold kfnd
      rw [List.find?_cons]
      by_cases h : key x = s
      · simp [h]
      · have : (key x == s) = false := by simpa using h
        rw [this, if_neg h]
    · unfold kfnd at *
      rw [List.find?_cons, List.find?_cons, ih]
      by_cases h : key x = s
      · have : (key y == s) = false := by rw [← h]; simpa using hy
        rw [this]
      · rw [if_neg h, if_neg h]
theorem kput_fnd {α : Type} {key : α → List UInt8} (L : List α) (x : α) (s : List UInt8) : kfnd key (kput key L x) s = if key x = s then some x else kfnd key L s := by
  unfold kput
  rw [kins_fnd x s _ (fun e he => ((krem_mem L _ e).1 he).2)]
  by_cases h : key x = s
  · rw [if_pos h, if_pos h]
  · rw [if_neg h, if_neg h]
    unfold kfnd krem
    induction L with
    | nil => rfl
    | cons e L ih =>
      rw [List.filter_cons, List.find?_cons]
      by_cases he : key e = s
      · have h1 : (key e == key x) = false := by
          simp only [beq_eq_false_iff_ne, ne_eq]
          intro e2
          exact h (e2.symm.trans he)
        have h2 : (key e == s) = true := by simpa using he
        rw [h1, h2]
        simp [h2]
      · have h2 : (key e == s) = false := by simpa using he
        rw [h2]
        cases hx : (key e == key x)
        · simp only [Bool.not_false, if_true, List.find?_cons, h2, ih]
        · simp only [Bool.not_true, Bool.false_eq_true, if_false, ih]
theorem grantA_put (G : List Gr) (g : Gr) (u : ByteArray) (d : Int) : grantA (kput Gr.key G g) u d = if kT g.u g.b = kT u d then g.a else grantA G u d := by
  unfold grantA
  rw [kput_fnd]
  show ((if kT g.u g.b = kT u d then some g else kfnd Gr.key G (kT u d)).map Gr.a).getD .zero = _
  split <;> rfl
theorem fits_get {x y : Am} (h : fitsB x y = true) {k : Nat} (hk : k < 4) : x.get k ≤ y.get k := by
  unfold fitsB at h
  have h1 : any4 (fun k => decide (y.get k < x.get k)) = false := by simpa using h
  have := any4_false h1 hk
  simp only [decide_eq_false_iff_not] at this
  omega
theorem fits_of {x y : Am} (h : ∀ k, k < 4 → x.get k ≤ y.get k) : fitsB x y = true := by
  unfold fitsB
  rw [any4_no (fun k hk => by have := h k hk; simp; omega)]
  rfl
theorem on_same {u : ByteArray} {d : Int} {c : Ch} (h : onB u d c = true) : c.u.data.toList = u.data.toList ∧ c.b = d := by
  unfold onB at h
  rw [Bool.and_eq_true, Lib.toList_data, Lib.toList_data] at h
  exact ⟨by simpa using h.1, by simpa using h.2⟩
theorem grantA_same (G : List Gr) {u v : ByteArray} {d : Int} (h : u.data.toList = v.data.toList) : grantA G u d = grantA G v d := by
  unfold grantA kT
  rw [h]
theorem hit_same {u v : ByteArray} (d : Int) (t : ByteArray) (h : u.data.toList = v.data.toList) : Go.Proofs.YtmgbailpmcggiaaGreat.hit u d t = Go.Proofs.YtmgbailpmcggiaaGreat.hit v d t := by
  funext e
  unfold Go.Proofs.YtmgbailpmcggiaaGreat.hit
  rw [Lib.toList_data u, Lib.toList_data v, h]
theorem addR_get {x y : Am} (h : (addR x y).2 = 0) {k : Nat} (hk : k < 4) : (addR x y).1.get k = x.get k + y.get k := by
  unfold addR at *
  split at h
  · cases h
  · rename_i h1
    rw [if_neg h1]
    split at h
    · cases h
    · rename_i h2
      rw [if_neg h2]
      exact Am.of_get _ k hk
theorem mayP_fits {G : List Gr} {C : List Ch} {c : Ch} (h : mayP G C c false = 0) (hb : c.b ≠ 0) {k : Nat} (hk : k < 4) : (psum (hit c.u c.b c.n) C).get k + c.a.get k ≤ (grantA G c.u c.b).get k := by
  have h0 := mayP_zero h
  unfold mayP at h
  rw [if_neg (by rw [h0]; simp)] at h
  split at h
  · cases h
  · rename_i h1
    have hb2 : (c.b == 0) = false := by simpa using hb
    rw [hb2] at h1
    have h2 : fitsB (addR (psum (hit c.u c.b c.n) C) c.a).1 (grantA G c.u c.b) = true := by simpa using h1
    have h3 := fits_get h2 hk
    rw [addR_get h0 hk] at h3
    exact h3
theorem holdI_grant {G : List Gr} {C : List Ch} (h : HoldI G C) (u : ByteArray) (d : Int) (a : Am) (hf : askB u d = true → fitsB (grantA G u d) a = true) : HoldI (grantP G u d a).2 C := by
  unfold grantP
  split
  · rename_i hq
    rw [Bool.and_eq_true] at hq
    intro v e he k hk
    show _ ≤ (grantA (kput Gr.key G ⟨u, d, a⟩) v e).get k
    rw [grantA_put]
    by_cases hkk : kT u d = kT v e
    · rw [if_pos hkk]
      have h1 := h v e he k hk
      have h2 : grantA G v e = grantA G u d := by unfold grantA; rw [hkk]
      rw [h2] at h1
      have h3 := fits_get (hf hq.1) hk
      show _ ≤ a.get k
      omega
    · rw [if_neg hkk]; exact h v e he k hk
  · exact h
theorem holdI_put {G : List Gr} {C : List Ch} (h : HoldI G C) (hi : ChI C) {c : Ch} (hm : mayP G C c false = 0) : HoldI G (kput Ch.key C c) := by
  intro u d hd k hk
  rw [psum_put C c u d hk]
  cases ho : onB u d c
  · have h1 := h u d hd k hk
    have h2 := psum_le (p := hit u d c.n) (q := onB u d) hi.ok (fun _ h => hit_on h) hk
    unfold pf
    rw [ho]
    simp
    omega
  · obtain ⟨h1, rfl⟩ := on_same ho
    have h2 := mayP_fits hm hd hk
    unfold pf
    rw [if_pos ho, ← hit_same c.b c.n h1, ← grantA_same G h1]
    omega
theorem psum_split {C : List Ch} (hd : KApart Ch.key C) {c : Ch} (hc : c ∈ C) (u : ByteArray) (d : Int) {k : Nat} (hk : k < 4) : (psum (onB u d) C).get k = pf (onB u d) k c + (psum (hit u d c.n) C).get k := by
  have h1 := ksum_rem (key := Ch.key) (f := pf (onB u d) k) hd hc
  rw [psum_get _ _ hk, psum_get _ _ hk]
  unfold krem at h1
  rw [ksum_filter] at h1
  have h2 : ksum (fun e => if (!(e.key == c.key)) = true then pf (onB u d) k e else 0) C = ksum (pf (hit u d c.n) k) C := by
    unfold ksum
    congr 1
    refine List.map_congr_left fun e _ => ?_
    have h1 : (e.n.toList == c.n.toList) = (e.key == c.key) := by rw [Lib.toList_data, Lib.toList_data]; rfl
    unfold pf hit onB
    rw [h1]
    cases e.key == c.key <;> simp
  rw [← h2]
  omega
theorem holdI_change {G : List Gr} {C : List Ch} (h : HoldI G C) (hi : ChI C) {c : Ch} (hc : c ∈ C) {a : Am} (hm : mayP G C ⟨c.n, c.u, c.b, a⟩ (fitsB a c.a) = 0) : HoldI G (kput Ch.key C ⟨c.n, c.u, c.b, a⟩) := by
  cases hl : fitsB a c.a
  · rw [hl] at hm; exact holdI_put h hi hm
  · intro u d hd k hk
    rw [psum_put C ⟨c.n, c.u, c.b, a⟩ u d hk]
    have h1 := h u d hd k hk
    rw [psum_split hi.rise.apart hc u d hk] at h1
    have h2 := fits_get hl hk
    have h3 : onB u d ⟨c.n, c.u, c.b, a⟩ = onB u d c := rfl
    unfold pf at *
    rw [h3]
    cases ho : onB u d c
    · rw [ho] at h1; simp at h1 ⊢; omega
    · rw [ho] at h1; simp at h1 ⊢; omega
theorem holdI_rem {G : List Gr} {C : List Ch} (h : HoldI G C) (hi : ChI C) (s : List UInt8) : HoldI G (krem Ch.key C s) := by
  intro u d hd k hk
  have h1 := h u d hd k hk
  rw [psum_get _ _ hk] at h1 ⊢
  have h3 := pf_nonneg (p := onB u d) hi.ok hk
  unfold krem
  rw [ksum_filter]
  have h4 : ∀ (L : List Ch), (∀ e ∈ L, 0 ≤ pf (onB u d) k e) → ksum (fun e => if (!(e.key == s)) = true then pf (onB u d) k e else 0) L ≤ ksum (pf (onB u d) k) L := by
    intro L
    induction L with
    | nil => intro _; exact Int.le_refl _
    | cons e L ih =>
      intro hL
      rw [ksum_cons, ksum_cons]
      have h5 := ih (fun x hx => hL x (by simp [hx]))
      have h6 := hL e (by simp)
      split <;> omega
  have := h4 C h3
  omega
theorem holdI_step {n : Nat} {G : List Gr} {C : List Ch} (h : HoldI G C) (hq : QI n G C) (x : Ac) (hf : x.k % 4 = 0 → askB x.u x.d = true → fitsB (grantA G x.u x.d) x.a = true) : HoldI (stepQ G C x).2.1 (stepQ G C x).2.2 := by
  unfold stepQ
  by_cases h0 : x.k % 4 = 0
  · rw [if_pos h0]; exact holdI_grant h x.u x.d x.a (hf h0)
  rw [if_neg h0]
  by_cases h1 : x.k % 4 = 1
  · rw [if_pos h1]
    show HoldI G (chargeP G C ⟨x.s, x.u, x.d, x.a⟩).2
    unfold chargeP
    split
    · exact h
    split
    · exact h
    split
    · exact h
    · rename_i h2
      exact holdI_put h hq.ch (by simpa using h2)
  rw [if_neg h1]
  by_cases h2 : x.k % 4 = 2
  · rw [if_pos h2]
    show HoldI G (refundP C x.s).2
    unfold refundP
    split
    · exact h
    split
    · exact h
    · exact holdI_rem h hq.ch _
  rw [if_neg h2]
  show HoldI G (changeP G C x.s x.a).2
  unfold changeP
  split
  · exact h
  cases hx : kfnd Ch.key C x.s.data.toList with
  | none => exact h
  | some c =>
    show HoldI G (if mayP G C ⟨c.n, c.u, c.b, x.a⟩ (fitsB x.a c.a) ≠ 0 then (mayP G C ⟨c.n, c.u, c.b, x.a⟩ (fitsB x.a c.a), C) else (0, kput Ch.key C ⟨c.n, c.u, c.b, x.a⟩)).2
    split
    · exact h
    · rename_i h3
      exact holdI_change h hq.ch (kfnd_mem hx).1 (by simpa using h3)
theorem holdI_over {G : List Gr} {C : List Ch} (h : HoldI G C) : overP G C = [] := by
  unfold overP
  rw [List.filter_eq_nil_iff]
  intro c _
  unfold overB
  by_cases hb : c.b = 0
  · rw [hb]; simp
  · rw [fits_of (fun k hk => h c.u c.b hb k hk)]; simp

/-- a call with an error changes nothing -/
theorem stepQ_err (G : List Gr) (C : List Ch) (x : Ac) (h : (stepQ G C x).1 ≠ 0) : (stepQ G C x).2 = (G, C) := by
  unfold stepQ at *
  by_cases h0 : x.k % 4 = 0
  · rw [if_pos h0] at h ⊢
    simp only at h ⊢
    unfold grantP at *
    split
    · rename_i h1; rw [if_pos h1] at h; exact absurd rfl h
    · rfl
  rw [if_neg h0] at h ⊢
  by_cases h1 : x.k % 4 = 1
  · rw [if_pos h1] at h ⊢
    simp only at h ⊢
    unfold chargeP at *
    split
    · rfl
    rename_i h2; rw [if_neg h2] at h
    split
    · rfl
    rename_i h3; rw [if_neg h3] at h
    split
    · rfl
    rename_i h4; rw [if_neg h4] at h; exact absurd rfl h
  rw [if_neg h1] at h ⊢
  by_cases h2 : x.k % 4 = 2
  · rw [if_pos h2] at h ⊢
    simp only at h ⊢
    unfold refundP at *
    split
    · rfl
    rename_i h2; rw [if_neg h2] at h
    split
    · rfl
    rename_i h3; rw [if_neg h3] at h; exact absurd rfl h
  rw [if_neg h2] at h ⊢
  simp only at h ⊢
  unfold changeP at *
  split
  · rfl
  rename_i h3; rw [if_neg h3] at h
  cases hx : kfnd Ch.key C x.s.data.toList with
  | none => rfl
  | some c =>
    rw [hx] at h
    simp only at h ⊢
    split
    · rfl
    · rename_i h4; rw [if_neg h4] at h; exact absurd rfl h

/-- the sum of amounts that fit -/
theorem sumF_ok : ∀ (xs : List Am) (a : Am), a.okB = true → (∀ x ∈ xs, x.okB = true) → (∀ k, k < 4 → a.get k + (xs.map (·.get k)).sum ≤ 1099511627776) → ∃ z, sumF a xs = (z, 0) ∧ ∀ k, k < 4 → z.get k = a.get k + (xs.map (·.get k)).sum
  | [], a, _, _, _ => ⟨a, rfl, fun k _ => by simp⟩
  | x :: xs, a, ha, hx, hs => by
    have hx0 := hx x (by simp)
    have hnn : ∀ (L : List Am), (∀ y ∈ L, y.okB = true) → ∀ k, k < 4 → 0 ≤ (L.map (·.get k)).sum := by
      intro L
      induction L with
      | nil => intro _ k _; exact Int.le_refl _
      | cons y L ih =>
        intro hL k hk
        have h1 := ih (fun z hz => hL z (by simp [hz])) k hk
        have h2 := ok_get (hL y (by simp)) hk
        simp only [List.map_cons, List.sum_cons]
        omega
    have hle : ∀ k, k < 4 → a.get k + x.get k ≤ 1099511627776 := fun k hk => by
      have h1 := hs k hk
      have h2 := hnn xs (fun y hy => hx y (by simp [hy])) k hk
      simp only [List.map_cons, List.sum_cons] at h1
      omega
    have hz := addR_ok (x := a) (y := x) (z := .of fun k => a.get k + x.get k) (by rw [ha, hx0]; rfl) hle (fun k hk => Am.of_get _ k hk)
    obtain ⟨z, h1, h2⟩ := sumF_ok xs (.of fun k => a.get k + x.get k) ((Am.okB_iff _).2 (fun k hk => by
      rw [Am.of_get _ k hk]
      have h3 := ok_get ha hk
      have h4 := ok_get hx0 hk
      have h5 := hle k hk
      omega)) (fun y hy => hx y (by simp [hy])) (fun k hk => by
      rw [Am.of_get _ k hk]
      have := hs k hk
      simp only [List.map_cons, List.sum_cons] at this
      omega)
    refine ⟨z, ?_, fun k hk => ?_⟩
    · unfold sumF
      rw [hz]
      simpa using h1
    · rw [h2 k hk, Am.of_get _ k hk]
      simp only [List.map_cons, List.sum_cons]
      omega
theorem sum_used {C : List Ch} (ho : Oks C) (u : ByteArray) (d : Int) (hf : Fit (onB u d) C) : sumR ((C.filter (onB u d)).map Ch.a) = (psum (onB u d) C, 0) := by
  have hs : ∀ k, ((((C.filter (onB u d)).map Ch.a).map (·.get k)).sum : Int) = ksum (pf (onB u d) k) C := by
    intro k
    rw [List.map_map]
    have := ksum_filter (f := fun e : Ch => e.a.get k) (onB u d) C
    unfold ksum at this
    exact this
  have ha : ∀ x ∈ (C.filter (onB u d)).map Ch.a, x.okB = true := by
    intro x hx
    obtain ⟨e, he, rfl⟩ := List.mem_map.1 hx
    exact ho e (List.mem_filter.1 he).1
  obtain ⟨z, h1, h2⟩ := sumF_ok _ .zero rfl ha (fun k hk => by
    rw [hs, zero_get k hk]
    have := ok_get hf hk
    rw [psum_get _ _ hk] at this
    omega)
  unfold sumR
  rw [if_neg (by unfold allB; rw [List.all_eq_true.2 ha]; simp), h1]
  congr 1
  exact Am.ext_get fun k hk => by rw [h2 k hk, hs, zero_get k hk, psum_get _ _ hk]; omega
end Go.Proofs.YtmgbailpmcggiaaGreat
namespace Go.Proofs.YtmgbailpmcggiaaGreat
open Go.RowKit

theorem own_base {w : World} {base : Nat} {e : TypeId} {size : Nat} {v : Value} {n : Nat} {xs : List Value} (h : w.ownsRow base e size v n xs) {g : Nat} (hg : v.ownBlock = some g) : base ≤ g := by
  rcases h.2 with ⟨rfl, -⟩ | ⟨g', cap, cur, rfl, hb, -⟩
  · cases hg
  · cases hg
    exact hb
theorem Bo.base {w0 w1 w : World} {b mg mc n : Nat} {G : List Gr} {C : List Ch} (h : Bo w1 w b mg mc n G C) (hb : Below w0.heap.size w0 w1) : Bo w0 w b mg mc n G C :=
  ⟨h.bk, h.qi, ⟨Nat.le_trans hb.size h.lo.1, Nat.le_trans hb.size h.lo.2.1, Nat.le_trans hb.size h.lo.2.2⟩, below_and hb h.hb⟩
theorem Bo.up {w0 w : World} {b mg mc n m : Nat} {G : List Gr} {C : List Ch} (h : Bo w0 w b mg mc n G C) (hm : n ≤ m) : Bo w0 w b mg mc m G C :=
  ⟨h.bk, ⟨h.qi.ch, h.qi.nm, h.qi.gr, h.qi.rise, Nat.le_trans h.qi.lenG hm, Nat.le_trans h.qi.lenC hm⟩, h.lo, h.hb⟩
theorem Bo.maps {w0 w : World} {b mg mc n : Nat} {G : List Gr} {C : List Ch} (h : Bo w0 w b mg mc n G C) {q : Nat} (hq : w.heap.size ≤ q) : q ∉ [mg, mc] := by
  have h1 := h.bk.gm.lt
  have h2 := h.bk.cm.lt
  simp
  omega

section
variable {w0 w : World} {b mg mc n : Nat} {G : List Gr} {C : List Ch}
theorem bo_was (h : Bo w0 w b mg mc n G C) (hn : n ≤ 1000) :
    Calls Tryz.prog 25 #[ptr b] w fun e w' => ∃ p c, e = .returned (.slice p C.length c) ∧ (∀ w2, Fr [mg, mc] w' w2 → Row w2 (.slice p C.length c) 7 C.length (rwC chC C)) ∧ Below w.heap.size w w' :=
  (bo_charges h hn).mono fun e w' ⟨v, h1, h2, h3⟩ => by
    obtain ⟨p, c, rfl, h4, h5⟩ := own_slice h2
    refine ⟨p, c, h1, fun w2 hf => ?_, h3⟩
    have h6 := own_fr h2 hf (fun q hq => h.maps (own_base h2 hq))
    obtain ⟨p', c', hv, -, -, hr⟩ := row_own h6 (rwC_one chC_one C)
    rw [hv]
    exact hr
theorem bo_had (h : Bo w0 w b mg mc n G C) (hn : n ≤ 1000) :
    Calls Tryz.prog 27 #[ptr b] w fun e w' => ∃ p c S, e = .returned (.slice p S.length c) ∧ S.Perm G ∧ S.Pairwise glt ∧ (∀ w2, Fr [mg, mc] w' w2 → Row w2 (.slice p S.length c) 6 S.length (rwC grC S)) ∧ Below w.heap.size w w' :=
  (grants_made b mg mc G C w h.bk h.qi.rise (fun g hg => (h.qi.gr g hg).1) (by have := h.qi.lenG; omega)).mono fun e w' ⟨v, S, h1, hp, hs, h2, h3⟩ => by
    rw [← hp.length_eq] at h2
    obtain ⟨p, c, rfl, h4, h5⟩ := own_slice h2
    refine ⟨p, c, S, h1, hp, hs, fun w2 hf => ?_, h3⟩
    have h6 := own_fr h2 hf (fun q hq => h.maps (own_base h2 hq))
    obtain ⟨p', c', hv, -, -, hr⟩ := row_own h6 (rwC_one grC_one S)
    rw [hv]
    exact hr
end
theorem info_amq : (Tryz.prog.info? 34).map (fun i => (i.zero, i.size, i.bytes)) = some (some (.agg #[.int .i64 0, .int .i64 0, .int .i64 0, .int .i64 0]), 4, 32) := by kernel_rfl
theorem amC_oneq (x : Am) : ∀ u ∈ amC x, u.oneCell' = true := by
  intro u hx
  simp only [List.mem_cons, List.not_mem_nil, or_false] at hx
  rcases hx with rfl | rfl | rfl | rfl <;> rfl
theorem amsC_app (L M : List Am) : amsC (L ++ M) = amsC L ++ amsC M := by unfold amsC; rw [List.flatMap_append]
/-- the amounts of one user's band among the first k charges -/
def gath (u : ByteArray) (d : Int) (C : List Ch) (k : Nat) : List Am := ((C.take k).filter (onB u d)).map Ch.a
theorem gath_zero (u : ByteArray) (d : Int) (C : List Ch) : gath u d C 0 = [] := rfl
theorem gath_full (u : ByteArray) (d : Int) (C : List Ch) : gath u d C C.length = (C.filter (onB u d)).map Ch.a := by unfold gath; rw [List.take_length]
theorem gath_len (u : ByteArray) (d : Int) (C : List Ch) (k : Nat) : (gath u d C k).length ≤ C.length := by
  unfold gath
  rw [List.length_map]
  have h1 := List.length_filter_le (onB u d) (C.take k)
  rw [List.length_take] at h1
  omega
theorem gath_take {u : ByteArray} {d : Int} {C : List Ch} {k : Nat} (hk : k < C.length) {x : Ch} (hx : x = C[k]) (ho : onB u d x = true) : gath u d C (k + 1) = gath u d C k ++ [x.a] := by
  unfold gath
  rw [filter_take hk, ← hx, if_pos ho, List.map_append]
  rfl
theorem gath_skip {u : ByteArray} {d : Int} {C : List Ch} {k : Nat} (hk : k < C.length) {x : Ch} (hx : x = C[k]) (ho : onB u d x = false) : gath u d C (k + 1) = gath u d C k := by
  unfold gath
  rw [filter_take hk, ← hx, if_neg (by rw [ho]; simp), List.append_nil]
end Go.Proofs.YtmgbailpmcggiaaGreat
namespace Go.Proofs.YtmgbailpmcggiaaGreat
open Go.RowKit

def gathP (p : Ch → Bool) (C : List Ch) (k : Nat) : List Am := ((C.take k).filter p).map Ch.a
theorem gathP_full (p : Ch → Bool) (C : List Ch) : gathP p C C.length = (C.filter p).map Ch.a := by unfold gathP; rw [List.take_length]
theorem gathP_len (p : Ch → Bool) (C : List Ch) (k : Nat) : (gathP p C k).length ≤ C.length := by
  unfold gathP
  rw [List.length_map]
  exact Nat.le_trans (List.length_filter_le _ _) (by rw [List.length_take]; omega)
theorem gathP_take {p : Ch → Bool} {C : List Ch} {k : Nat} (hk : k < C.length) {x : Ch} (hx : x = C[k]) (ho : p x = true) : gathP p C (k + 1) = gathP p C k ++ [x.a] := by
  unfold gathP
  rw [filter_take hk, ← hx, ho]
  simp
theorem gathP_skip {p : Ch → Bool} {C : List Ch} {k : Nat} (hk : k < C.length) {x : Ch} (hx : x = C[k]) (ho : p x = false) : gathP p C (k + 1) = gathP p C k := by
  unfold gathP
  rw [filter_take hk, ← hx, ho]
  simp

set_option maxRecDepth 100000 in
set_option maxHeartbeats 4000000 in
theorem rused_any (base g : Nat) (vG vC : Value) (S : List Gr) (C : List Ch) (u t : ByteArray) (d : Int) (a : Am) (w : World) (h : RBk base w g vG vC S C) (hl : C.length ≤ 100000) (z : Am) (er : Int) (hs : sumR ((C.filter (hit u d t)).map Ch.a ++ [a]) = (z, er)) :
    Calls Tryz.prog 37 #[ptr g, .string u, .int .i64 d, .string t, amV a] w fun e w' => e = .returned (.tuple #[amV z, .bool (er == 0)]) ∧ Below w.heap.size w w' := by
  obtain ⟨p, c, rfl, hc, hm⟩ := own_slice h.ch
  have hml : maxLen ≤ 9223372036854775807 := by decide
  obtain ⟨ok, hok⟩ : ∃ ok, ok = (er == 0) := ⟨_, rfl⟩
  have HOK := Lib.hid hok
  obtain ⟨w3, hw3⟩ : ∃ w3, w3 = (w.alloc (.cells #[.int .i64 a.c, .int .i64 a.r, .int .i64 a.d, .int .i64 a.p] 34)).alloc (.cells #[.int .i64 0, .int .i64 0, .int .i64 0, .int .i64 0] 34) := ⟨_, rfl⟩
  obtain ⟨B, hB⟩ : ∃ B, B = w.heap.size := ⟨_, rfl⟩
  have B0 : Hid (Blk w3 B (amC a) 34) := Lib.hid (by rw [hw3, hB]; exact (Blk.made w (amC a) _).alloc _)
  have B1 : Hid (Blk w3 (B + 1) (amC .zero) 34) := Lib.hid (by
    have := Blk.made (w.alloc (.cells #[.int .i64 a.c, .int .i64 a.r, .int .i64 a.d, .int .i64 a.p] 34)) (amC .zero) 34
    rw [hw3, hB]; simpa [Am.zero] using this)
  have HBW : Hid (w.heap.size ≤ B + 1) := Lib.hid (by omega)
  have HBL : Hid (Below w.heap.size w w3) := Lib.hid (by rw [hw3]; exact below_and (below_alloc w _) (below_alloc _ _))
  have H3 : Hid (RBk base w3 g vG (.slice p C.length c) S C) := Lib.hid (h.kept HBL.out)
  have HCL := Lib.hid hl
  have HSM : Hid (∀ w v, Ams w v ((C.filter (hit u d t)).map Ch.a ++ [a]) → Calls Tryz.prog 58 #[v] w fun e w' => e = .returned (.tuple #[amV z, .int .i64 er]) ∧ Below w.heap.size w w') := Lib.hid (fun w v h => (rsum_any v _ w h).mono fun e w' ⟨h1, h2⟩ => ⟨by rw [h1, hs], h2⟩)
  clear h hl hs
  rw [← hok]
  go_enter Tryz.func37, Tryz.ntmps37
  go_upto_region 1 with fail
  rw [← hw3, ← hB]
  clear hw3 hB
  go_upto_region 2 with fail
  refine at_hide (F := fun w' => w'.ownsRow w3.heap.size 34 4 (.slice (some ⟨w3.heap.size, 0, none⟩) 0 0) 0 [] ∧ Below w3.heap.size w3 w') ⟨World.ownsRow_made w3 #[] 0 (Nat.le_refl _) (by decide) rfl, below_alloc _ _⟩ ?_
  intro w4 hF
  have HO4 := Lib.hid hF.1
  have HB4 := Lib.hid hF.2
  clear hF
  obtain ⟨D, hD⟩ : ∃ D, D = w3.heap.size := ⟨_, rfl⟩
  rw [← hD] at HO4 ⊢
  have HD := Lib.hid hD
  clear hD
  obtain ⟨i0', hia, hz0, hz1, hz2⟩ := info_parts info_amq
  go_wp2
  go_loopw [12, 13] (fun lv iv wr => ∃ k : Nat, k ≤ C.length ∧ iv = .int .i64 (k : Int) ∧ Hid (wr.ownsRow D 34 4 lv (gathP (hit u d t) C k).length (amsC (gathP (hit u d t) C k))) ∧ Hid (Below w3.heap.size w3 wr)) (fun _ iv _ => C.length - (intOf iv).toNat)
  case atStart => exact ⟨0, Nat.zero_le _, rfl, HO4, HB4⟩
  case round =>
    obtain ⟨k, hk, rfl, HO, HB⟩ := hrel
    have HR := Lib.hid (H3.out.kept HB.out)
    have b1 := HR.out.blk.cell (j := 1) rfl
    by_cases hlt : k < C.length
    · obtain ⟨q, rfl, hcs⟩ := HR.out.chAt hlt
      obtain ⟨y, hy⟩ : ∃ y, y = C[k] := ⟨_, rfl⟩
      rw [← hy] at hcs
      have HEE := Lib.hid hcs
      have a0 : wr.cell? ⟨q, k * 7, none⟩ = some (.string y.n) := hcs 0 _ (by omega) rfl
      have a1 : wr.cell? ⟨q, k * 7 + 1, none⟩ = some (.string y.u) := (hcs 1 _ (by omega) rfl)
      have a2 : wr.cell? ⟨q, k * 7 + 2, none⟩ = some (.int .i64 y.b) := (hcs 2 _ (by omega) rfl)
      have i1 : (k : Int) < (C.length : Int) := by omega
      have i0 : (0 : Int) ≤ (k : Int) := by omega
      clear hcs
      cases ho : hit u d t y
      · have HT := Lib.hid (gathP_skip hlt hy ho)
        cases q1 : (y.u.toList == u.toList)
        · clear ho hy
          go_wp2
          go_roundw
          case rel => exact ⟨k + 1, hlt, by go_num, Lib.hid (by rw [HT.out]; exact HO.out), HB⟩
          case measure => simp [intOf]; omega
        · have hu : y.u = u := by
            rw [Lib.toList_data, Lib.toList_data] at q1
            have h1 : y.u.data.toList = u.data.toList := by simpa using q1
            exact ByteArray.ext (Array.toList_inj.1 h1)
          rw [hu] at a1
          cases q2 : (y.b == d)
          · clear ho hy q1 hu
            go_wp2
            go_roundw
            case rel => exact ⟨k + 1, hlt, by go_num, Lib.hid (by rw [HT.out]; exact HO.out), HB⟩
            case measure => simp [intOf]; omega
          · have hb : y.b = d := by simpa using q2
            rw [hb] at a2
            have hn : y.n = t := by
              unfold hit at ho
              rw [q1, q2] at ho
              have h1 : (y.n.toList == t.toList) = true := by simpa using ho
              rw [Lib.toList_data, Lib.toList_data] at h1
              have h1 : y.n.data.toList = t.data.toList := by simpa using h1
              exact ByteArray.ext (Array.toList_inj.1 h1)
            rw [hn] at a0
            clear ho hy q1 hu hn hb q2
            go_wp2
            go_roundw
            case rel => exact ⟨k + 1, hlt, by go_num, Lib.hid (by rw [HT.out]; exact HO.out), HB⟩
            case measure => simp [intOf]; omega
      · have HT := Lib.hid (gathP_take hlt hy ho)
        have ho2 := ho
        unfold hit at ho2
        rw [Bool.and_eq_true, Bool.and_eq_true] at ho2
        have hu : y.u = u := by
          have h1 := ho2.1.1
          rw [Lib.toList_data, Lib.toList_data] at h1
          have h1 : y.u.data.toList = u.data.toList := by simpa using h1
          exact ByteArray.ext (Array.toList_inj.1 h1)
        have hb : y.b = d := by simpa using ho2.1.2
        have q3 : (y.n.toList == t.toList) = false := by simpa using ho2.2
        rw [hu] at a1
        rw [hb] at a2
        clear ho hy hu hb ho2
        have y3 := HEE.out 3 _ (by omega) rfl
        have y4b : wr.cell? ⟨q, k * 7 + 3 + 1, none⟩ = some (.int .i64 y.a.r) := HEE.out 4 _ (by omega) rfl
        have y5b : wr.cell? ⟨q, k * 7 + 3 + 2, none⟩ = some (.int .i64 y.a.d) := HEE.out 5 _ (by omega) rfl
        have y6b : wr.cell? ⟨q, k * 7 + 3 + 3, none⟩ = some (.int .i64 y.a.p) := HEE.out 6 _ (by omega) rfl
        have HOA : Hid ((wr.alloc (.cells #[.int .i64 y.a.c, .int .i64 y.a.r, .int .i64 y.a.d, .int .i64 y.a.p] 34)).ownsRow D 34 4 u12 (gathP (hit u d t) C k).length (amsC (gathP (hit u d t) C k))) := Lib.hid (own_fr HO.out (Fr.of_below (below_alloc wr _) []) (fun _ _ => by simp))
        have HWZ : Hid (D ≤ wr.heap.size) := Lib.hid (by rw [HD.out]; exact HB.out.size)
        have HFL : Hid ((gathP (hit u d t) C k).length ≤ 100000) := Lib.hid (by have h1 := gathP_len (hit u d t) C k; have h2 := HCL.out; omega)
        go_wp2_with (at_builtin; go_loud (refine wpList_app5 rfl _ _ 88 88 rfl D 34 i0' (.agg #[.int .i64 0, .int .i64 0, .int .i64 0, .int .i64 0]) 4 32 Tryz.underlying88 hia hz0 hz1 hz2 rfl _ _ (amsC (gathP (hit u d t) C k)) rfl HOA.out _ 1 _ rfl (src_block Tryz.underlying88 _ _ #[_, _, _, _] (heap_alloc_new wr _) rfl (amC_oneq y.a)) (by have := HFL.out; unfold maxLen; omega) (by have := HFL.out; omega) (by have := HWZ.out; simp; omega) ?_; intro o4 w4 ho4 hg4 hn4; have HO4 := Lib.hid ho4; have HB4 : Hid (Below w3.heap.size w3 w4) := Lib.hid ((below_and HB.out (below_alloc wr _)).trans ((Fr.of_grown hg4).below (by intro q hq; have h1 := own_base HO.out (Option.mem_toList.1 hq); have h2 := HD.out; omega) (by have h1 := HWZ.out; have h2 := HD.out; simp; omega))); clear ho4 hg4 hn4))
        go_roundw
        case rel => exact ⟨k + 1, hlt, by go_num, Lib.hid (by rw [HT.out, amsC_app]; simpa [amsC] using HO4.out), HB4⟩
        case measure => simp [intOf]; omega
    · obtain rfl : k = C.length := by omega
      have HFL : Hid ((gathP (hit u d t) C C.length).length ≤ 100000) := Lib.hid (by have h1 := gathP_len (hit u d t) C C.length; have h2 := HCL.out; omega)
      have HFF : Hid (gathP (hit u d t) C C.length ++ [a] = (C.filter (hit u d t)).map Ch.a ++ [a]) := Lib.hid (by rw [gathP_full])
      have HWZ : Hid (D ≤ wr.heap.size) := Lib.hid (by rw [HD.out]; exact HB.out.size)
      have hba := B0.out.kept HB.out
      have a0 := hba.cell (j := 0) rfl
      have a1 := hba.cell (j := 1) rfl
      have a2 := hba.cell (j := 2) rfl
      have a3 := hba.cell (j := 3) rfl
      have HOA : Hid ((wr.alloc (.cells #[.int .i64 a.c, .int .i64 a.r, .int .i64 a.d, .int .i64 a.p] 34)).ownsRow D 34 4 u12 (gathP (hit u d t) C C.length).length (amsC (gathP (hit u d t) C C.length))) := Lib.hid (own_fr HO.out (Fr.of_below (below_alloc wr _) []) (fun _ _ => by simp))
      clear hba
      go_wp2_with (first
        | (at_builtin; go_loud (refine wpList_app5 rfl _ _ 88 88 rfl D 34 i0' (.agg #[.int .i64 0, .int .i64 0, .int .i64 0, .int .i64 0]) 4 32 Tryz.underlying88 hia hz0 hz1 hz2 rfl _ _ (amsC (gathP (hit u d t) C C.length)) rfl HOA.out _ 1 _ rfl (src_block Tryz.underlying88 _ _ #[_, _, _, _] (heap_alloc_new wr _) rfl (amC_oneq a)) (by have := HFL.out; unfold maxLen; omega) (by have := HFL.out; omega) (by have := HWZ.out; simp; omega) ?_; intro o4 w4 ho4 hg4 hn4; have HO4 : Hid (Ams w4 o4 ((C.filter (hit u d t)).map Ch.a ++ [a])) := Lib.hid (by rw [← HFF.out]; unfold Ams; rw [amsC_app]; have := row_of_owns ho4 (by intro u hu; rw [List.mem_append] at hu; rcases hu with hu | hu; exact amsC_one _ u hu; exact amC_oneq a u (by simpa using hu)); simpa [amsC] using this); have HB4 : Hid (Below w3.heap.size w3 w4) := Lib.hid ((below_and HB.out (below_alloc wr _)).trans ((Fr.of_grown hg4).below (by intro q hq; have h1 := own_base HO.out (Option.mem_toList.1 hq); have h2 := HD.out; omega) (by have h1 := HWZ.out; have h2 := HD.out; simp; omega))); clear ho4 hg4 hn4 a0 a1 a2 a3 b1))
        | (go_at_call 58; refine (HSM.out _ _ HO4.out).mono ?_; rintro e w5 ⟨rfl, hb⟩; have hb5 := below_and hb (below_alloc w5 (.cells #[.int .i64 z.c, .int .i64 z.r, .int .i64 z.d, .int .i64 z.p] 34)); have h35 := below_and HB4.out hb5; have hz5 := B1.out.kept h35; have HZ5 := Lib.hid hz5; have HB5 := Lib.hid (below_and HBL.out h35); have r0 := hz5.cell (j := 0) rfl; have r1 := hz5.cell (j := 1) rfl; have r2 := hz5.cell (j := 2) rfl; have r3 := hz5.cell (j := 3) rfl; have f0 := hz5.free 0; have f1 := hz5.free 1; have f2 := hz5.free 2; have f3 := hz5.free 3; clear hb hb5 h35 hz5))
      refine bodyPost_ret (results_row_tmp rfl _ _ (B + 1) 34 #[.int .i64 z.c, .int .i64 z.r, .int .i64 z.d, .int .i64 z.p] (0, 0) _ rfl ?_ Tryz.underlying34 rfl (by kernel_rfl)) rfl ⟨by rw [HOK.out]; rfl, ?_⟩
      · exact (((HZ5.out.set 0 (.int .i64 z.c)).set 1 (.int .i64 z.r)).set 2 (.int .i64 z.d)).set 3 (.int .i64 z.p)
      · exact (((HB5.out.setCell (p := ⟨B + 1, 0, none⟩) HBW.out _).setCell (p := ⟨B + 1, 1, none⟩) HBW.out _).setCell (p := ⟨B + 1, 2, none⟩) HBW.out _).setCell (p := ⟨B + 1, 3, none⟩) HBW.out _
end Go.Proofs.YtmgbailpmcggiaaGreat
namespace Go.Proofs.YtmgbailpmcggiaaGreat
open Go.RowKit

theorem addR_cases (x y : Am) : ((x.okB && y.okB) = false ∧ addR x y = (.zero, 2)) ∨ ((x.okB && y.okB) = true ∧ (∃ k, k < 4 ∧ 1099511627776 < x.get k + y.get k) ∧ addR x y = (.zero, 9)) ∨
    ((x.okB && y.okB) = true ∧ (∀ k, k < 4 → x.get k + y.get k ≤ 1099511627776) ∧ addR x y = (.of fun k => x.get k + y.get k, 0)) := by
  cases h : x.okB && y.okB
  · exact .inl ⟨rfl, addR_bad h⟩
  · right
    by_cases ho : ∃ k, k < 4 ∧ 1099511627776 < x.get k + y.get k
    · obtain ⟨k, hk, h2⟩ := ho
      exact .inl ⟨rfl, ⟨k, hk, h2⟩, addR_over h hk h2⟩
    · have ho' : ∀ k, k < 4 → x.get k + y.get k ≤ 1099511627776 := fun k hk => by
        by_cases h2 : 1099511627776 < x.get k + y.get k
        · exact absurd ⟨k, hk, h2⟩ ho
        · omega
      exact .inr ⟨rfl, ho', addR_ok h ho' fun k hk => Am.of_get _ k hk⟩
theorem addR_err {x y z : Am} {e : Int} (h : addR x y = (z, e)) (he : e ≠ 0) : z = ⟨0, 0, 0, 0⟩ := by
  rcases addR_cases x y with ⟨-, h1⟩ | ⟨-, -, h1⟩ | ⟨-, -, h1⟩
  · rw [h1] at h; exact (Prod.mk.injEq .. ▸ h).1.symm
  · rw [h1] at h; exact (Prod.mk.injEq .. ▸ h).1.symm
  · rw [h1] at h; exact absurd (Prod.mk.injEq .. ▸ h).2.symm he
theorem sumF_snoc : ∀ (xs : List Am) (a y z : Am), sumF a xs = (z, 0) → sumF a (xs ++ [y]) = (if (addR z y).2 = 0 then ((addR z y).1, 0) else (.zero, (addR z y).2))
  | [], a, y, z, h => by
    have : a = z := congrArg Prod.fst h
    subst this
    rfl
  | x :: xs, a, y, z, h => by
    unfold sumF at h
    rw [List.cons_append]
    unfold sumF
    by_cases h0 : (addR a x).2 = 0
    · rw [if_pos h0] at h ⊢
      exact sumF_snoc xs _ y z h
    · rw [if_neg h0] at h
      exact absurd (congrArg Prod.snd h) h0
theorem sum_picked {C : List Ch} (ho : Oks C) (p : Ch → Bool) (hf : Fit p C) : sumF .zero ((C.filter p).map Ch.a) = (psum p C, 0) := by
  have hs : ∀ k, ((((C.filter p).map Ch.a).map (·.get k)).sum : Int) = ksum (pf p k) C := by
    intro k
    rw [List.map_map]
    have := ksum_filter (f := fun e : Ch => e.a.get k) p C
    unfold ksum at this
    exact this
  have ha : ∀ x ∈ (C.filter p).map Ch.a, x.okB = true := by
    intro x hx
    obtain ⟨e, he, rfl⟩ := List.mem_map.1 hx
    exact ho e (List.mem_filter.1 he).1
  obtain ⟨z, h1, h2⟩ := sumF_ok _ .zero rfl ha (fun k hk => by
    rw [hs, zero_get k hk]
    have := ok_get hf hk
    rw [psum_get _ _ hk] at this
    omega)
  rw [h1]
  congr 1
  exact Am.ext_get fun k hk => by rw [h2 k hk, hs, zero_get k hk, psum_get _ _ hk]; omega
theorem sum_more {C : List Ch} (ho : Oks C) (p : Ch → Bool) (hf : Fit p C) (a : Am) (ha : a.okB = true) : sumR ((C.filter p).map Ch.a ++ [a]) = addR (psum p C) a := by
  have hall : ∀ x ∈ (C.filter p).map Ch.a ++ [a], x.okB = true := by
    intro x hx
    rcases List.mem_append.1 hx with hx | hx
    · obtain ⟨e, he, rfl⟩ := List.mem_map.1 hx
      exact ho e (List.mem_filter.1 he).1
    · rw [List.mem_singleton.1 hx]; exact ha
  unfold sumR
  rw [if_neg (by unfold allB; rw [List.all_eq_true.2 hall]; simp), sumF_snoc _ _ _ _ (sum_picked ho p hf)]
  split
  · rename_i h0; rw [← h0]
  · rename_i h0
    have := addR_err (x := psum p C) (y := a) (z := (addR (psum p C) a).1) (e := (addR (psum p C) a).2) rfl h0
    rw [show Am.zero = (addR (psum p C) a).1 from this.symm]
theorem hit_none {C : List Ch} {u t : ByteArray} {d : Int} (h : ∀ e ∈ C, e.n ≠ t) : C.filter (hit u d t) = C.filter (onB u d) := by
  refine List.filter_congr fun e he => ?_
  unfold hit onB
  have : (e.n.toList == t.toList) = false := by
    rw [Lib.toList_data, Lib.toList_data]
    simp only [beq_eq_false_iff_ne, ne_eq]
    intro e2
    exact h e he (ByteArray.ext (Array.toList_inj.1 e2))
  rw [this]; simp
theorem psum_filter {p q : Ch → Bool} {C : List Ch} (h : C.filter p = C.filter q) : psum p C = psum q C := Am.ext_get fun k hk => by
  rw [psum_get _ _ hk, psum_get _ _ hk]
  have h1 := ksum_filter (f := fun e : Ch => e.a.get k) p C
  have h2 := ksum_filter (f := fun e : Ch => e.a.get k) q C
  rw [h] at h1
  exact h1.symm.trans h2
theorem hit_emp {C : List Ch} (h : ∀ e ∈ C, 0 < e.n.size) (u : ByteArray) (d : Int) : C.filter (hit u d ⟨#[]⟩) = C.filter (onB u d) := hit_none fun e he e2 => by
  have := h e he
  rw [e2] at this
  exact absurd this (by decide)
theorem psum_empty {C : List Ch} (h : ∀ e ∈ C, 0 < e.n.size) (u : ByteArray) (d : Int) : psum (hit u d ⟨#[]⟩) C = psum (onB u d) C := psum_filter (hit_emp h u d)
theorem key_ne {C : List Ch} {t : ByteArray} (h : kfnd Ch.key C t.data.toList = none) : ∀ e ∈ C, e.n ≠ t := fun e he e2 => kfnd_none h e he (by rw [← e2]; rfl)

/-! what is used, as the document reckons it -/
theorem less_lt' (a b : List UInt8) : Op.bytesLess a b = decide (a < b) := by
  have e : ∀ a b : List UInt8, Op.bytesLess a b = bytesBefore a b := by
    intro a
    induction a with
    | nil => intro b; cases b <;> rfl
    | cons x a ih =>
      intro b
      cases b with
      | nil => rfl
      | cons y b =>
        show (x < y || (x == y && Op.bytesLess a b)) = (x < y || (x == y && bytesBefore a b))
        rw [ih b]
  rw [e]
  have h := before_lt a b
  cases hb : bytesBefore a b
  · have : ¬ a < b := fun h2 => by rw [h.2 h2] at hb; cases hb
    simp [this]
  · simp [h.1 hb]
theorem wf64 {d : Int} (h1 : -9223372036854775808 ≤ d) (h2 : d ≤ 9223372036854775807) : (Lit.int .i64 d).wf = true := by
  simp [Lit.wf, IntKind.min, IntKind.max, IntKind.bits, IntKind.signed]
  omega
theorem ask_parts {u : ByteArray} {d : Int} (h : askB u d = true) : u.size ≤ 16 ∧ 0 ≤ d ∧ d ≤ 3 := by
  unfold askB nameB bandB at h
  simp only [Bool.and_eq_true, decide_eq_true_eq] at h
  have : u.size = u.data.toList.length := by simp
  omega
theorem QI.gok {n : Nat} {G : List Gr} {C : List Ch} (h : QI n G C) : ∀ g ∈ G, gok g := fun g hg => by
  obtain ⟨h1, h2, h3⟩ := ask_parts (h.gr g hg).1
  exact ⟨by unfold maxLen; omega, wf64 (by omega) (by omega)⟩
theorem ask_gfind {n : Nat} {G S : List Gr} {C : List Ch} (h : QI n G C) (hs : Sg S G) {u : ByteArray} {d : Int} (ha : askB u d = true) : gfind u d S = grantA G u d := by
  obtain ⟨h1, h2, h3⟩ := ask_parts ha
  exact gfind_grant hs h.rise.apart h.gok (by unfold maxLen; omega) (wf64 (by omega) (by omega))
theorem used_charge {n : Nat} {G : List Gr} {C : List Ch} (h : QI n G C) (c : Ch) (ha : c.a.okB = true) (hf : kfnd Ch.key C c.n.data.toList = none) : sumR ((C.filter (hit c.u c.b ⟨#[]⟩)).map Ch.a ++ [c.a]) = addR (psum (hit c.u c.b c.n) C) c.a := by
  rw [sum_more h.ch.ok _ (h.ch.hit _ _ _) _ ha, psum_empty h.pos, psum_filter (hit_none (key_ne hf))]
theorem used_change {n : Nat} {G : List Gr} {C : List Ch} (h : QI n G C) (u t : ByteArray) (d : Int) (a : Am) (ha : a.okB = true) : sumR ((C.filter (hit u d t)).map Ch.a ++ [a]) = addR (psum (hit u d t) C) a := sum_more h.ch.ok _ (h.ch.hit _ _ _) _ ha
theorem used_zero {n : Nat} {G : List Gr} {C : List Ch} (h : QI n G C) (u : ByteArray) (d : Int) : sumR ((C.filter (hit u d ⟨#[]⟩)).map Ch.a ++ [.zero]) = (psum (onB u d) C, 0) := by
  rw [sum_more h.ch.ok _ (h.ch.hit _ _ _) _ rfl, psum_empty h.pos]
  have hf := h.ch.fit u d
  refine addR_ok (by rw [show (psum (onB u d) C).okB = true from hf]; rfl) (fun k hk => ?_) (fun k hk => ?_)
  · rw [zero_get k hk]; have := ok_get hf hk; omega
  · rw [zero_get k hk]; omega

/-! places -/
theorem tl_eq (a b : ByteArray) : (a.toList == b.toList) = (a.data.toList == b.data.toList) := by rw [Lib.toList_data, Lib.toList_data]
theorem cplc_some {C : List Ch} {s : ByteArray} {e : Ch} (hr : KRise Ch.key C) (hf : kfnd Ch.key C s.data.toList = some e) : cplc s C = (kpl Ch.key C s.data.toList : Int) := by
  obtain ⟨hk, he⟩ := kfnd_place hr hf
  refine cplc_at hk (fun i hi => ?_) ?_
  · have := kpl_lt (key := Ch.key) (L := C) (s := s.data.toList) (by omega : i < C.length) hi
    rw [tl_eq]
    simp only [beq_eq_false_iff_ne, ne_eq]
    intro e2
    exact lt_irr _ (by rw [show Ch.key C[i] = s.data.toList from e2] at this; exact this)
  · rw [he, tl_eq]
    have : e.n.data.toList = s.data.toList := (kfnd_mem hf).2
    rw [this]; simp
theorem cplc_none {C : List Ch} {s : ByteArray} (hf : kfnd Ch.key C s.data.toList = none) : cplc s C = -1 := cplc_no fun e he => by
  rw [tl_eq]
  simp only [beq_eq_false_iff_ne, ne_eq]
  intro e2
  exact kfnd_none hf e he e2

/-! the book in memory -/
theorem RBk.lt {base : Nat} {w : World} {g : Nat} {vG vC : Value} {S : List Gr} {C : List Ch} (h : RBk base w g vG vC S C) : g < w.heap.size := h.blk.lt
theorem own_hi' {w : World} {base : Nat} {e : TypeId} {size n : Nat} {v : Value} {xs : List Value} (h : w.ownsRow base e size v n xs) {g : Nat} (hg : v.ownBlock = some g) : g < w.heap.size := (h.lt g hg).2
theorem own_low {w : World} {base base' : Nat} {e : TypeId} {size n : Nat} {v : Value} {xs : List Value} (h : w.ownsRow base e size v n xs) (hb : base' ≤ base) : w.ownsRow base' e size v n xs := by
  obtain ⟨h1, h2⟩ := h
  refine ⟨h1, ?_⟩
  rcases h2 with h2 | ⟨g, cap, cur, hv, hg, r⟩
  · exact .inl h2
  · exact .inr ⟨g, cap, cur, hv, by omega, r⟩
/-- new charges are stored -/
theorem RBk.setC {base : Nat} {w w1 : World} {g : Nat} {vG vC v : Value} {S : List Gr} {C C' : List Ch} (h : RBk base w g vG vC S C) (hb : Below w.heap.size w w1) (hbase : base ≤ w.heap.size) (ho : w1.ownsRow w.heap.size 43 7 v C'.length (rwC chC C')) : RBk base (w1.setCell ⟨g, 1, none⟩ v) g vG v S C' := by
  have h1 := h.kept hb
  have hg := h.lt
  have hne : v.ownBlock ≠ some g := fun e => by have := own_base ho e; omega
  exact ⟨h1.blk.set 1 v, own_other h1.gr (p := ⟨g, 1, none⟩) h1.n1 v, own_low (own_other ho (p := ⟨g, 1, none⟩) hne v) hbase, h1.n1, hne⟩
/-- new grants are stored -/
theorem RBk.setG {base : Nat} {w w1 : World} {g : Nat} {vG vC v : Value} {S S' : List Gr} {C : List Ch} (h : RBk base w g vG vC S C) (hb : Below w.heap.size w w1) (hbase : base ≤ w.heap.size) (ho : w1.ownsRow w.heap.size 66 6 v S'.length (rwC grC S')) : RBk base (w1.setCell ⟨g, 0, none⟩ v) g v vC S' C := by
  have h1 := h.kept hb
  have hg := h.lt
  have hne : v.ownBlock ≠ some g := fun e => by have := own_base ho e; omega
  exact ⟨h1.blk.set 0 v, own_low (own_other ho (p := ⟨g, 0, none⟩) hne v) hbase, own_other h1.ch (p := ⟨g, 0, none⟩) h1.n2 v, hne, h1.n2⟩
theorem RBk.low {base base' : Nat} {w : World} {g : Nat} {vG vC : Value} {S : List Gr} {C : List Ch} (h : RBk base w g vG vC S C) (hb : base' ≤ base) : RBk base' w g vG vC S C := ⟨h.blk, own_low h.gr hb, own_low h.ch hb, h.n1, h.n2⟩
/-- behind a call that may store other charges -/
def RqC (base : Nat) (w w' : World) (g : Nat) (vG : Value) (S : List Gr) (C : List Ch) : Prop := ∃ vC, RBk base w' g vG vC S C ∧ Frp (fun j => j = g) w w'
theorem RqC.mk {base : Nat} {w w' : World} {g : Nat} {vG vC : Value} {S : List Gr} {C : List Ch} (h : RBk base w' g vG vC S C) (hf : Frp (fun j => j = g) w w') : RqC base w w' g vG S C := ⟨vC, h, hf⟩
/-- behind a call that may store other grants -/
def RqG (base : Nat) (w w' : World) (g : Nat) (vG vC : Value) (S : List Gr) (C : List Ch) : Prop := ∃ vG', RBk base w' g vG' vC S C ∧ Frp (fun j => j = g ∨ vG.ownBlock = some j) w w'
theorem RqG.mk {base : Nat} {w w' : World} {g : Nat} {vG vG' vC : Value} {S : List Gr} {C : List Ch} (h : RBk base w' g vG' vC S C) (hf : Frp (fun j => j = g ∨ vG.ownBlock = some j) w w') : RqG base w w' g vG vC S C := ⟨vG', h, hf⟩
/-- a part of the charges, as a source -/
theorem ch_first {base : Nat} {w w' : World} {g : Nat} {vG : Value} {p : Option Addr} {c i : Nat} {S : List Gr} {C : List Ch} (h : RBk base w g vG (.slice p C.length c) S C) (hb : Below w.heap.size w w') (hi : i ≤ C.length) : Src Tryz.prog 7 28 (.slice p i c) i (rwC chC (C.take i)) w' := by
  have h1 := row_first (row_of_owns (h.kept hb).ch (rwC_one chC_one C)) hi
  rw [rwC_take chC_len hi] at h1
  exact h1.src Tryz.underlying28
theorem ch_rest {base : Nat} {w w' : World} {g : Nat} {vG : Value} {p : Option Addr} {c i : Nat} {S : List Gr} {C : List Ch} (h : RBk base w g vG (.slice p C.length c) S C) (hb : Below w.heap.size w w') (hi : i ≤ C.length) : Src Tryz.prog 7 28 (.slice (if c = i then p else Option.map (fun x => x.add (i * 7)) p) (C.length - i) (c - i)) (C.length - i) (rwC chC (C.drop i)) w' := by
  have h1 := row_rest (row_of_owns (h.kept hb).ch (rwC_one chC_one C)) hi
  rw [rwC_drop chC_len hi] at h1
  exact h1.src Tryz.underlying28
theorem gr_first {base : Nat} {w w' : World} {g : Nat} {vC : Value} {p : Option Addr} {c i : Nat} {S : List Gr} {C : List Ch} (h : RBk base w g (.slice p S.length c) vC S C) (hb : Below w.heap.size w w') (hi : i ≤ S.length) : Src Tryz.prog 6 27 (.slice p i c) i (rwC grC (S.take i)) w' := by
  have h1 := row_first (row_of_owns (h.kept hb).gr (rwC_one grC_one S)) hi
  rw [rwC_take grC_len hi] at h1
  exact h1.src Tryz.underlying27
theorem gr_rest {base : Nat} {w w' : World} {g : Nat} {vC : Value} {p : Option Addr} {c i : Nat} {S : List Gr} {C : List Ch} (h : RBk base w g (.slice p S.length c) vC S C) (hb : Below w.heap.size w w') (hi : i ≤ S.length) : Src Tryz.prog 6 27 (.slice (if c = i then p else Option.map (fun x => x.add (i * 6)) p) (S.length - i) (c - i)) (S.length - i) (rwC grC (S.drop i)) w' := by
  have h1 := row_rest (row_of_owns (h.kept hb).gr (rwC_one grC_one S)) hi
  rw [rwC_drop grC_len hi] at h1
  exact h1.src Tryz.underlying27
theorem i64_in' {n : Int} (h : -9223372036854775808 ≤ n ∧ n ≤ 9223372036854775807) : IntKind.i64.wrap n = n := by
  rw [IntKind.wrap_i64]; omega
end Go.Proofs.YtmgbailpmcggiaaGreat
namespace Go.Proofs.YtmgbailpmcggiaaGreat
open Go.RowKit Go

/-- Q, but False at every way out -/
def Strict (Q : Exit → Act → World → Prop) : Exit → Act → World → Prop
  | .normal, a, w => Q .normal a w
  | _, _, _ => False
theorem Strict.normal {Q : Exit → Act → World → Prop} {a : Act} {w : World} (h : Q .normal a w) : Strict Q .normal a w := h
theorem Strict.imp {Q : Exit → Act → World → Prop} : ∀ (e : Exit) (a : Act) (w : World), Strict Q e a w → Q e a w := fun e a w h => by
  cases e <;> first | exact h | exact (h : False).elim
theorem Strict.noOut {Q : Exit → Act → World → Prop} : ¬ LetsOut (Strict Q) := fun ⟨_, _, h⟩ => h

section
variable {P : Program}
theorem pass_of_wp {o : Oper} {a : Act} {w : World} {K : Act → World → Prop} {Q : Exit → Act → World → Prop} (hp : passB o = true) (h : o.wp P a w K (Strict Q)) :
    ∃ v, (∀ w', (execOp a.eval o).run P w' = .ok (.value v) w') ∧ K (a.put o.dst v) w := by
  unfold passB at hp
  unfold Oper.wp execOp at h
  unfold execOp
  cases ho : o.op <;> rw [ho] at hp h <;> first | (cases hp; done) | skip
  case move x =>
    simp only [Sem.run_pure, Oper.upon] at h ⊢
    exact ⟨_, fun _ => rfl, h⟩
  case assign x =>
    simp only [Sem.run_pure, Oper.upon] at h ⊢
    exact ⟨_, fun _ => rfl, h⟩
  case extract t k =>
    simp only [Sem.run_bind] at h ⊢
    cases hr : (Instr.extract (a.eval t) k).run P w with
    | ok u w1 =>
      rw [hr] at h
      simp only [Result.andThen_ok, Sem.run_pure, Oper.upon] at h
      refine ⟨u, fun w' => ?_, ?_⟩
      · rw [(extract_run _ _ _ w' _ _ hr).2]
        rfl
      · rw [(extract_run _ _ _ w _ _ hr).1] at h
        exact h
    | halt x w1 =>
      rw [hr] at h
      exfalso
      cases x <;> simp [Result.andThen, Oper.upon, Strict] at h

/-- in this order each operation comes up alone, or only passes a value on and is apart from the others -/
def linB (ops : Array Oper) : List Nat → Array Bool → Bool
  | [], listed => (Region.ready .any ops listed).isEmpty
  | k :: r, listed => (decide (Region.ready .any ops listed = [k]) || ((Region.ready .any ops listed).contains k && Region.free .any ops listed k && (match ops[k]? with | some o => passB o | none => false))) && linB ops r (listed.setIfInBounds k true)
def pickOps (ops : Array Oper) : List Nat → Option (List Oper)
  | [] => some []
  | k :: r => match ops[k]?, pickOps ops r with
    | some o, some l => some (o :: l)
    | _, _ => none
theorem wpAny_lin {ops : Array Oper} {Q : Exit → Act → World → Prop} (hsel : Region.noSelect ops = true) : ∀ (ord : List Nat) (l : List Oper) (listed : Array Bool) (a : Act) (w : World), pickOps ops ord = some l → linB ops ord listed = true → wpList P ops (Strict Q) l a w → wpAny P .any ops (Strict Q) ord.length listed a w
  | [], l, listed, a, w, hp, hB, h => by
    simp only [pickOps, Option.some.injEq] at hp
    subst hp
    exact ⟨by simpa [linB] using hB, h⟩
  | k :: r, l, listed, a, w, hp, hB, h => by
    simp only [pickOps] at hp
    split at hp
    · next o l' ho hl' =>
      simp only [Option.some.injEq] at hp
      subst hp
      simp only [linB, Bool.and_eq_true, Bool.or_eq_true, decide_eq_true_eq] at hB
      obtain ⟨hk, hB'⟩ := hB
      have ih := fun a' w' => wpAny_lin (Q := Q) hsel r l' (listed.setIfInBounds k true) a' w' hl' hB'
      rcases hk with hk | ⟨⟨hr, hf⟩, hpass⟩
      · refine ⟨fun h0 => (by rw [hk] at h0; cases h0), fun i hi => ?_⟩
        rw [hk] at hi
        have hik : i = k := by simpa using hi
        subst hik
        refine wpOp_mono (fun a' w' h' => ih a' w' h') ?_
        unfold wpOp
        rw [ho]
        exact h
      · rw [ho] at hpass
        have hY : ∃ v, Yields P ops o v a ∧ wpList P ops (Strict Q) l' (a.put o.dst v) w := by
          unfold wpList at h
          by_cases hw : Region.wanted o (yielded ops a.tmps) = true
          · rw [if_pos hw] at h
            rcases h with h | ⟨-, h⟩
            · obtain ⟨v, h1, h2⟩ := pass_of_wp hpass h
              exact ⟨v, .inl ⟨hw, h1⟩, h2⟩
            · exact absurd h Strict.noOut
          · rw [if_neg hw] at h
            exact ⟨undef, .inr ⟨by simpa using hw, rfl⟩, h⟩
        obtain ⟨v, hy, hK⟩ := hY
        exact wpAny_first ho (Region.noSelect_spec hsel) (fun _ _ _ h => h.elim) _ listed a w (Region.free_spec ho hf) (by simpa using hr) hy (ih _ _ hK)
    · cases hp

/-- the region as one that draws no order -/
theorem wp_region_lin {id : Nat} {Q : Exit → Act → World → Prop} {a : Act} {w : World} {L : Array Oper} {l : List Oper} (ord : List Nat) (hm : P.follows .mixedOrders = true) (hs : Region.noSelect L = true) (hn : ord.length = L.size) (hB : linB L ord (Array.replicate L.size false) = true) (hl : pickOps L ord = some l)
    (h : wpList P L (Strict Q) l a w.drew) : (Code.region id L true).wp P Q a w := by
  refine Code.wp_mono Strict.imp (wp_region_any hm ?_)
  rw [← hn]
  have := wpAny_lin (Q := Q) hs ord l (Array.replicate L.size false) a w.drew hl hB h
  rw [← hn] at this
  exact this

/-! A stretch of operations that are not wanted, in between. -/
theorem upon_strict {X Y : Exit → Act → World → Prop} {o : Oper} {a : Act} {K : Act → World → Prop} (r : Result Next) (h : o.upon P a K (Strict X) r) : o.upon P a K (Strict Y) r := by
  have hl : LetsOut (Strict X) → LetsOut (Strict Y) := fun h => absurd h Strict.noOut
  cases r with
  | ok nx w' =>
    cases nx <;> simp only [Oper.upon] at h ⊢ <;>
      first
        | exact h
        | exact Calls.mono h (fun e w'' he => by cases e <;> first | exact he | exact hl he)
  | halt x w' => cases x <;> simp only [Oper.upon] at h ⊢ <;> exact h
theorem wpOp_strict {ops : Array Oper} {X Y : Exit → Act → World → Prop} {i : Nat} {K : Act → World → Prop} {a : Act} {w : World} (h : wpOp P ops (Strict X) i K a w) : wpOp P ops (Strict Y) i K a w := by
  unfold wpOp at *
  split
  · next ho => rw [ho] at h; exact h
  · next o ho =>
    rw [ho] at h
    simp only at h
    split
    · next hw =>
      rw [if_pos hw] at h
      exact h.imp (upon_strict _) (fun ⟨h1, h2⟩ => ⟨h1, absurd h2 Strict.noOut⟩)
    · next hw => rw [if_neg hw] at h; exact h
/-- the list of what has come up behind such a walk -/
def linS (ops : Array Oper) : List Nat → Array Bool → Option (Array Bool)
  | [], listed => some listed
  | k :: r, listed => if (decide (Region.ready .any ops listed = [k]) || ((Region.ready .any ops listed).contains k && Region.free .any ops listed k && (match ops[k]? with | some o => passB o | none => false))) = true then linS ops r (listed.setIfInBounds k true) else none
def deadS (ops : Array Oper) : List Nat → Array Bool → Option (Array Bool)
  | [], listed => some listed
  | k :: r, listed => if ((Region.ready .any ops listed).contains k && Region.free .any ops listed k) = true then deadS ops r (listed.setIfInBounds k true) else none
def wpDead (ops : Array Oper) (K : Act → World → Prop) : List Oper → Act → World → Prop
  | [], a, w => K a w
  | o :: r, a, w => Region.wanted o (yielded ops a.tmps) = false ∧ wpDead ops K r (a.put o.dst undef) w
theorem wpAny_linS {ops : Array Oper} {Q X : Exit → Act → World → Prop} {g : Nat} {fin : Array Bool} (hsel : Region.noSelect ops = true) (hK : ∀ a w, X .normal a w → wpAny P .any ops (Strict Q) g fin a w) :
    ∀ (ord : List Nat) (l : List Oper) (listed : Array Bool) (a : Act) (w : World), pickOps ops ord = some l → linS ops ord listed = some fin → wpList P ops (Strict X) l a w → wpAny P .any ops (Strict Q) (ord.length + g) listed a w
  | [], l, listed, a, w, hp, hB, h => by
    simp only [pickOps, Option.some.injEq] at hp
    simp only [linS, Option.some.injEq] at hB
    subst hp hB
    rw [List.length_nil, Nat.zero_add]
    exact hK a w h
  | k :: r, l, listed, a, w, hp, hB, h => by
    simp only [pickOps] at hp
    split at hp
    · next o l' ho hl' =>
      simp only [Option.some.injEq] at hp
      subst hp
      simp only [linS, ho] at hB
      split at hB
      · next hk =>
        simp only [Bool.and_eq_true, Bool.or_eq_true, decide_eq_true_eq] at hk
        have ih := fun a' w' => wpAny_linS (Q := Q) hsel hK r l' (listed.setIfInBounds k true) a' w' hl' hB
        rw [show (k :: r).length + g = (r.length + g) + 1 from by simp; omega]
        rcases hk with hk | ⟨⟨hr, hf⟩, hpass⟩
        · refine ⟨fun h0 => (by rw [hk] at h0; cases h0), fun i hi => ?_⟩
          rw [hk] at hi
          have hik : i = k := by simpa using hi
          subst hik
          refine wpOp_mono (fun a' w' h' => ih a' w' h') (wpOp_strict (X := X) ?_)
          unfold wpOp
          rw [ho]
          exact h
        · have hY : ∃ v, Yields P ops o v a ∧ wpList P ops (Strict X) l' (a.put o.dst v) w := by
            unfold wpList at h
            by_cases hw : Region.wanted o (yielded ops a.tmps) = true
            · rw [if_pos hw] at h
              rcases h with h | ⟨-, h⟩
              · obtain ⟨v, h1, h2⟩ := pass_of_wp hpass h
                exact ⟨v, .inl ⟨hw, h1⟩, h2⟩
              · exact absurd h Strict.noOut
            · rw [if_neg hw] at h
              exact ⟨undef, .inr ⟨by simpa using hw, rfl⟩, h⟩
          obtain ⟨v, hy, hK'⟩ := hY
          exact wpAny_first ho (Region.noSelect_spec hsel) (fun _ _ _ h => h.elim) _ listed a w (Region.free_spec ho hf) (by simpa using hr) hy (ih _ _ hK')
      · cases hB
    · cases hp
theorem wpAny_deadS {ops : Array Oper} {Q : Exit → Act → World → Prop} {K : Act → World → Prop} {g : Nat} {fin : Array Bool} (hsel : Region.noSelect ops = true) (hK : ∀ a w, K a w → wpAny P .any ops (Strict Q) g fin a w) :
    ∀ (ord : List Nat) (l : List Oper) (listed : Array Bool) (a : Act) (w : World), pickOps ops ord = some l → deadS ops ord listed = some fin → wpDead ops K l a w → wpAny P .any ops (Strict Q) (ord.length + g) listed a w
  | [], l, listed, a, w, hp, hB, h => by
    simp only [pickOps, Option.some.injEq] at hp
    simp only [deadS, Option.some.injEq] at hB
    subst hp hB
    rw [List.length_nil, Nat.zero_add]
    exact hK a w h
  | k :: r, l, listed, a, w, hp, hB, h => by
    simp only [pickOps] at hp
    split at hp
    · next o l' ho hl' =>
      simp only [Option.some.injEq] at hp
      subst hp
      simp only [deadS] at hB
      split at hB
      · next hk =>
        simp only [Bool.and_eq_true] at hk
        rw [show (k :: r).length + g = (r.length + g) + 1 from by simp; omega]
        exact wpAny_first ho (Region.noSelect_spec hsel) (fun _ _ _ h => h.elim) _ listed a w (Region.free_spec ho hk.2) (by simpa using hk.1) (.inr ⟨h.1, rfl⟩) (wpAny_deadS hsel hK r l' _ _ w hl' hB h.2)
      · cases hB
    · cases hp
/-- what stands behind the first stretch: the operations that are not wanted, then the last stretch -/
def DeadQ (P : Program) (ops : Array Oper) (Q : Exit → Act → World → Prop) (ld l2 : List Oper) : Exit → Act → World → Prop := fun _ a w => wpDead ops (fun a' w' => wpList P ops (Strict Q) l2 a' w') ld a w
theorem DeadQ.start {ops : Array Oper} {Q : Exit → Act → World → Prop} {ld l2 : List Oper} {a : Act} {w : World} (h : wpDead ops (fun a' w' => wpList P ops (Strict Q) l2 a' w') ld a w) : Strict (DeadQ P ops Q ld l2) .normal a w := h
theorem wpDead.cons {ops : Array Oper} {K : Act → World → Prop} {o : Oper} {r : List Oper} {a : Act} {w : World} (h1 : Region.wanted o (yielded ops a.tmps) = false) (h2 : wpDead ops K r (a.put o.dst undef) w) : wpDead ops K (o :: r) a w := ⟨h1, h2⟩
theorem wpDead.nil {ops : Array Oper} {K : Act → World → Prop} {a : Act} {w : World} (h : K a w) : wpDead ops K [] a w := h
theorem wp_region_dead {id : Nat} {Q : Exit → Act → World → Prop} {a : Act} {w : World} {L : Array Oper} {l1 ld l2 : List Oper} {f1 f2 : Array Bool} (o1 od o2 : List Nat) (hm : P.follows .mixedOrders = true) (hs : Region.noSelect L = true) (hn : o1.length + (od.length + o2.length) = L.size)
    (h1 : linS L o1 (Array.replicate L.size false) = some f1) (hd : deadS L od f1 = some f2) (h2 : linB L o2 f2 = true) (e1 : pickOps L o1 = some l1) (ed : pickOps L od = some ld) (e2 : pickOps L o2 = some l2)
    (h : wpList P L (Strict (DeadQ P L Q ld l2)) l1 a w.drew) : (Code.region id L true).wp P Q a w := by
  refine Code.wp_mono Strict.imp (wp_region_any hm ?_)
  have := wpAny_linS (Q := Q) (X := DeadQ P L Q ld l2) (g := od.length + o2.length) (fin := f1) hs (fun a1 w1 hd1 =>
    wpAny_deadS (Q := Q) (K := fun a' w' => wpList P L (Strict Q) l2 a' w') (g := o2.length) (fin := f2) hs (fun a2 w2 h9 => wpAny_lin hs o2 l2 f2 a2 w2 e2 h2 h9) od ld f1 a1 w1 ed hd hd1) o1 l1 _ a w.drew e1 h1 h
  rw [hn] at this
  exact this
end
end Go.Proofs.YtmgbailpmcggiaaGreat
namespace Go.Proofs.YtmgbailpmcggiaaGreat
open Go.RowKit Go

section
variable {P : Program}
theorem lastQ_start {M : List Oper} {o : Oper} {Q : Exit → Act → World → Prop} {a : Act} {w : World} (h : wpList P (M ++ [o]).toArray Q [o] a w) : popQ P (M ++ [o]).toArray Q M.length .normal a w := by
  have g1 : (M ++ [o]).toArray[M.length]? = some o := by simp
  show wpOp P (M ++ [o]).toArray Q M.length (fun a' w' => Q .normal a' w') a w
  unfold wpOp
  rw [g1]
  exact h
/-- what is asked behind the front -/
def LastQ (P : Program) (L M : List Oper) (Q : Exit → Act → World → Prop) : Exit → Act → World → Prop := popQ P L.toArray Q M.length
theorem LastQ.start {L M : List Oper} {o : Oper} {Q : Exit → Act → World → Prop} {a : Act} {w : World} (hL : cut1 L = some (M, o)) (h : wpList P L.toArray Q [o] a w) : LastQ P L M Q .normal a w := by
  have hL' := cut1_spec hL
  subst hL'
  exact lastQ_start h
theorem wp_region_lastH {id : Nat} {Q : Exit → Act → World → Prop} {a : Act} {w : World} {L M : List Oper} {o : Oper} (S : World → Prop) (n : Nat) (hL : cut1 L = some (M, o)) (hMn : M.length = n) (hm : P.follows .mixedOrders = true) (hp : popB L.toArray = true) (hS : S w.drew)
    (h : S w.drew → wpAnyH P .any M.toArray (LastQ P L M Q) S n (Array.replicate n false) a w.drew) : (Code.region id L.toArray true).wp P Q a w := by
  have hL' := cut1_spec hL
  subst hL'
  subst hMn
  refine wp_region_pop (S := S) hm hp ?_
  have hn : (M ++ [o]).toArray.size - 1 = M.length := by simp
  have hpop : (M ++ [o]).toArray.pop = M.toArray := by simp
  rw [hn, hpop]
  exact h hS
end
end Go.Proofs.YtmgbailpmcggiaaGreat
namespace Go.Proofs.YtmgbailpmcggiaaGreat
open Go.RowKit

theorem nmd_cases (s : ByteArray) : (s.size < 1 ∧ nmdB s = false) ∨ (1 ≤ s.size ∧ 64 < s.size ∧ nmdB s = false) ∨ (1 ≤ s.size ∧ s.size ≤ 64 ∧ nmdB s = true) := by
  unfold nmdB
  rcases Nat.lt_or_ge s.size 1 with h | h
  · exact .inl ⟨h, by simp; omega⟩
  rcases Nat.lt_or_ge 64 s.size with h2 | h2
  · exact .inr (.inl ⟨h, h2, by simp; omega⟩)
  · exact .inr (.inr ⟨h, h2, by simp; omega⟩)
set_option maxRecDepth 100000 in
set_option maxHeartbeats 8000000 in
theorem rrefund_any (base g : Nat) (vG vC : Value) (S : List Gr) (C : List Ch) (s : ByteArray) (w : World) (h : RBk base w g vG vC S C) (hr : KRise Ch.key C) (hl : C.length ≤ 100000) (hbase : base ≤ w.heap.size) :
    Calls Tryz.prog 16 #[ptr g, .string s] w fun e w' => e = .returned (.int .i64 (refundP C s).1) ∧ RqC base w w' g vG S (refundP C s).2 := by
  obtain ⟨r, C', hp⟩ : ∃ r C', refundP C s = (r, C') := ⟨_, _, rfl⟩
  rw [hp]
  have HP := Lib.hid hp
  have H := Lib.hid h
  have HRI := Lib.hid hr
  have HBS := Lib.hid hbase
  obtain ⟨ix, hi, hz0, hz1, hz2⟩ := info_parts info_ch
  obtain ⟨p, c, rfl, hc, hm⟩ := own_slice h.ch
  have hml : maxLen ≤ 9223372036854775807 := by decide
  have HL := Lib.hid hl
  clear h hr hl hp hbase
  rcases nmd_cases s with ⟨h0, hn⟩ | ⟨h0, h1, hn⟩ | ⟨h0, h1, hn⟩
  · have i1 : (s.size : Int) < 1 := by omega
    have HQ : Hid (r = 2 ∧ C' = C) := Lib.hid (by have := HP.out; unfold refundP at this; rw [hn] at this; exact ⟨(congrArg Prod.fst this).symm, (congrArg Prod.snd this).symm⟩)
    clear h0 hn
    go_enter Tryz.func16, Tryz.ntmps16
    go_wp2
    go_ret
    exact ⟨ret_int HQ.out.1.symm, RqC.mk (by rw [HQ.out.2]; exact H.out) (Frp.refl _ _)⟩
  · have i1 : ¬ (s.size : Int) < 1 := by omega
    have i2 : (64 : Int) < (s.size : Int) := by omega
    have HQ : Hid (r = 2 ∧ C' = C) := Lib.hid (by have := HP.out; unfold refundP at this; rw [hn] at this; exact ⟨(congrArg Prod.fst this).symm, (congrArg Prod.snd this).symm⟩)
    clear h0 h1 hn
    go_enter Tryz.func16, Tryz.ntmps16
    go_wp2
    go_ret
    exact ⟨ret_int HQ.out.1.symm, RqC.mk (by rw [HQ.out.2]; exact H.out) (Frp.refl _ _)⟩
  have i1 : ¬ (s.size : Int) < 1 := by omega
  have i2 : ¬ (64 : Int) < (s.size : Int) := by omega
  cases hf : kfnd Ch.key C s.data.toList with
  | none =>
    have HQ : Hid (r = 6 ∧ C' = C) := Lib.hid (by have := HP.out; unfold refundP at this; rw [hn, hf] at this; exact ⟨(congrArg Prod.fst this).symm, (congrArg Prod.snd this).symm⟩)
    have HPL := Lib.hid (cplc_none hf)
    clear h0 h1 hn hf
    go_enter Tryz.func16, Tryz.ntmps16
    go_wp2_with (go_at_call 36; refine (rplace_any base g vG _ S C s _ H.out).mono ?_; rw [HPL.out]; rintro e w2 ⟨rfl, hb⟩; have HBP := Lib.hid hb; clear hb)
    go_ret
    exact ⟨ret_int HQ.out.1.symm, RqC.mk (by rw [HQ.out.2]; exact H.out.kept HBP.out) (Frp.of_below HBP.out _)⟩
  | some x =>
    obtain ⟨k, hk⟩ : ∃ k, k = kpl Ch.key C s.data.toList := ⟨_, rfl⟩
    have HK : Hid (k < C.length) := Lib.hid (by rw [hk]; exact (kfnd_place HRI.out hf).1)
    have HQ : Hid (r = 0 ∧ C' = C.eraseIdx k) := Lib.hid (by have := HP.out; unfold refundP at this; rw [hn, hf, krem_place HRI.out hf, ← hk] at this; exact ⟨(congrArg Prod.fst this).symm, (congrArg Prod.snd this).symm⟩)
    have HPL : Hid (cplc s C = (k : Int)) := Lib.hid (by rw [hk]; exact cplc_some HRI.out hf)
    have j0 : ¬ (k : Int) < 0 := by omega
    clear h0 h1 hn hf hk
    go_enter Tryz.func16, Tryz.ntmps16
    go_upto_region 6 with (go_at_call 36; refine (rplace_any base g vG _ S C s _ H.out).mono ?_; rw [HPL.out]; rintro e w2 ⟨rfl, hb⟩; have H2 := Lib.hid (H.out.kept hb); have HBP := Lib.hid hb; clear hb)
    have HSS : Hid (∀ w', Below w2.heap.size w2 w' → w'.cell? ⟨g, 1, none⟩ = some (.slice p C.length c)) := Lib.hid (fun w' hb => (H2.out.kept hb).blk.cell (j := 1) rfl)
    have b1 : (0 : Int) ≤ (k : Int) := by omega
    have b2 : (k : Int) ≤ (C.length : Int) := by have := HK.out; omega
    have b3 : (k : Int) ≤ (c : Int) := by omega
    have b4 : (0 : Int) ≤ (k : Int) + 1 := by omega
    have b5 : (k : Int) + 1 ≤ (C.length : Int) := by have := HK.out; omega
    have b6 : (C.length : Int) ≤ (c : Int) := by omega
    have u1 : IntKind.i64.wrap ((k : Int) + 1) = (k : Int) + 1 := i64_in' (by have := HL.out; have := HK.out; omega)
    have u2 : ((k : Int) + 1).toNat = k + 1 := by omega
    refine wp_region_noPanic ?_
    refine wp_region_lastH (fun w' => w'.cell? ⟨g, 1, none⟩ = some (.slice p C.length c)) 19 rfl rfl (by kernel_rfl) (by kernel_rfl) (HSS.out _ (below_drewN 1)) (fun hHeld => ?_)
    have HB1 : Hid (Below w2.heap.size w2 w2.drew) := Lib.hid (below_drewN 1)
    have hS1 : True := trivial
    obtain ⟨wd1, hwd⟩ : ∃ xq, xq = w2.drew := ⟨_, rfl⟩
    rw [← hwd] at hHeld HB1 ⊢
    clear hwd
    refine wpAnyH_take (i := 0) (v := ?v1) rfl (by kernel_rfl) (by kernel_rfl) (by kernel_rfl) (fun _ _ _ h => h) (Or.inl ⟨by rfl, ?hy1⟩) (by assumption) ?rest1
    case hy1 => (intro _ hSw; (try dsimp only at hSw); go_simp; (try with_reducible rfl))
    (try simp only [Act.put]); (try simp only [List.setIfInBounds_toArray]); (try simp only [List.set_cons_succ]); (try simp only [List.set_cons_zero])
    refine wpAnyH_take (i := 2) (v := ?v2) rfl (by kernel_rfl) (by kernel_rfl) (by kernel_rfl) (fun _ _ _ h => h) (Or.inl ⟨by rfl, ?hy2⟩) (by assumption) ?rest2
    case hy2 => (intro _ hSw; (try dsimp only at hSw); go_simp; (try with_reducible rfl))
    (try simp only [Act.put]); (try simp only [List.setIfInBounds_toArray]); (try simp only [List.set_cons_succ]); (try simp only [List.set_cons_zero])
    refine wpAnyH_take (i := 3) (v := ?v3) rfl (by kernel_rfl) (by kernel_rfl) (by kernel_rfl) (fun _ _ _ h => h) (Or.inl ⟨by rfl, ?hy3⟩) (by assumption) ?rest3
    case hy3 => (intro _ hSw; (try dsimp only at hSw); go_simp; (try with_reducible rfl))
    (try simp only [Act.put]); (try simp only [List.setIfInBounds_toArray]); (try simp only [List.set_cons_succ]); (try simp only [List.set_cons_zero])
    refine wpAnyH_take (i := 4) (v := ?v4) rfl (by kernel_rfl) (by kernel_rfl) (by kernel_rfl) (fun _ _ _ h => h) (Or.inl ⟨by rfl, ?hy4⟩) (by assumption) ?rest4
    case hy4 => (intro _ hSw; (try dsimp only at hSw); go_simp; (try with_reducible rfl))
    (try simp only [Act.put]); (try simp only [List.setIfInBounds_toArray]); (try simp only [List.set_cons_succ]); (try simp only [List.set_cons_zero])
    refine wpAnyH_take (i := 5) (v := ?v5) rfl (by kernel_rfl) (by kernel_rfl) (by kernel_rfl) (fun _ _ _ h => h) (Or.inl ⟨by rfl, ?hy5⟩) (by assumption) ?rest5
    case hy5 => (intro _ hSw; (try dsimp only at hSw); go_simp; (try with_reducible rfl))
    (try simp only [Act.put]); (try simp only [List.setIfInBounds_toArray]); (try simp only [List.set_cons_succ]); (try simp only [List.set_cons_zero])
    refine wpAnyH_take (i := 6) (v := ?v6) rfl (by kernel_rfl) (by kernel_rfl) (by kernel_rfl) (fun _ _ _ h => h) (Or.inl ⟨by rfl, ?hy6⟩) (by assumption) ?rest6
    case hy6 => (intro _ hSw; (try dsimp only at hSw); go_simp; (try with_reducible rfl))
    (try simp only [Act.put]); (try simp only [List.setIfInBounds_toArray]); (try simp only [List.set_cons_succ]); (try simp only [List.set_cons_zero])
    refine wpAnyH_take (i := 7) (v := ?v7) rfl (by kernel_rfl) (by kernel_rfl) (by kernel_rfl) (fun _ _ _ h => h) (Or.inl ⟨by rfl, ?hy7⟩) (by assumption) ?rest7
    case hy7 => (intro _ hSw; (try dsimp only at hSw); go_simp; (try with_reducible rfl))
    (try simp only [Act.put]); (try simp only [List.setIfInBounds_toArray]); (try simp only [List.set_cons_succ]); (try simp only [List.set_cons_zero])
    refine wpAnyH_take (i := 9) (v := ?v8) rfl (by kernel_rfl) (by kernel_rfl) (by kernel_rfl) (fun _ _ _ h => h) (Or.inl ⟨by rfl, ?hy8⟩) (by assumption) ?rest8
    case hy8 => (intro _ hSw; (try dsimp only at hSw); go_simp; (try with_reducible rfl))
    (try simp only [Act.put]); (try simp only [List.setIfInBounds_toArray]); (try simp only [List.set_cons_succ]); (try simp only [List.set_cons_zero])
    refine wpAnyH_take (i := 10) (v := ?v9) rfl (by kernel_rfl) (by kernel_rfl) (by kernel_rfl) (fun _ _ _ h => h) (Or.inl ⟨by rfl, ?hy9⟩) (by assumption) ?rest9
    case hy9 => (intro _ hSw; (try dsimp only at hSw); go_simp; (try with_reducible rfl))
    (try simp only [Act.put]); (try simp only [List.setIfInBounds_toArray]); (try simp only [List.set_cons_succ]); (try simp only [List.set_cons_zero])
    refine wpAnyH_take (i := 11) (v := ?v10) rfl (by kernel_rfl) (by kernel_rfl) (by kernel_rfl) (fun _ _ _ h => h) (Or.inl ⟨by rfl, ?hy10⟩) (by assumption) ?rest10
    case hy10 => (intro _ hSw; (try dsimp only at hSw); go_simp; (try with_reducible rfl))
    (try simp only [Act.put]); (try simp only [List.setIfInBounds_toArray]); (try simp only [List.set_cons_succ]); (try simp only [List.set_cons_zero])
    refine wpAnyH_take (i := 12) (v := ?v11) rfl (by kernel_rfl) (by kernel_rfl) (by kernel_rfl) (fun _ _ _ h => h) (Or.inl ⟨by rfl, ?hy11⟩) (by assumption) ?rest11
    case hy11 => (intro _ hSw; (try dsimp only at hSw); go_simp; (try with_reducible rfl))
    (try simp only [Act.put]); (try simp only [List.setIfInBounds_toArray]); (try simp only [List.set_cons_succ]); (try simp only [List.set_cons_zero])
    refine wpAnyH_take (i := 13) (v := ?v12) rfl (by kernel_rfl) (by kernel_rfl) (by kernel_rfl) (fun _ _ _ h => h) (Or.inl ⟨by rfl, ?hy12⟩) (by assumption) ?rest12
    case hy12 => (intro _ hSw; (try dsimp only at hSw); go_simp; (try with_reducible rfl))
    (try simp only [Act.put]); (try simp only [List.setIfInBounds_toArray]); (try simp only [List.set_cons_succ]); (try simp only [List.set_cons_zero])
    refine wpAnyH_take (i := 14) (v := ?v13) rfl (by kernel_rfl) (by kernel_rfl) (by kernel_rfl) (fun _ _ _ h => h) (Or.inl ⟨by rfl, ?hy13⟩) (by assumption) ?rest13
    case hy13 => (intro _ hSw; (try dsimp only at hSw); go_simp; (try with_reducible rfl))
    (try simp only [Act.put]); (try simp only [List.setIfInBounds_toArray]); (try simp only [List.set_cons_succ]); (try simp only [List.set_cons_zero])
    refine wpAnyH_take (i := 15) (v := ?v14) rfl (by kernel_rfl) (by kernel_rfl) (by kernel_rfl) (fun _ _ _ h => h) (Or.inl ⟨by rfl, ?hy14⟩) (by assumption) ?rest14
    case hy14 => (intro _ hSw; (try dsimp only at hSw); go_simp; (try with_reducible rfl))
    (try simp only [Act.put]); (try simp only [List.setIfInBounds_toArray]); (try simp only [List.set_cons_succ]); (try simp only [List.set_cons_zero])
    (try simp only [List.getElem_toArray]); (try simp only [List.getElem_cons_succ]); (try simp only [List.getElem_cons_zero]); (try simp only [List.setIfInBounds_toArray]); (try simp only [List.set_cons_succ, List.set_cons_zero])
    refine wpAnyH_ready (rs := [1]) (by kernel_rfl) (by simp) ?_
    refine (AllReadyH.cons rfl (fun K hK => ?_) AllReadyH.nil)
    (try simp only [List.getElem_toArray]); (try simp only [List.getElem_cons_succ]); (try simp only [List.getElem_cons_zero])
    go_simp
    obtain ⟨w2x, hw2⟩ : ∃ xq, xq = wd1.alloc (.cells #[] 43) := ⟨_, rfl⟩
    obtain ⟨z2, hz2⟩ : ∃ xq, xq = wd1.heap.size := ⟨_, rfl⟩
    have hn2 : Below wd1.heap.size wd1 w2x := by rw [hw2]; exact below_alloc _ _
    have hb2 : Below w2.heap.size w2 w2x := below_and HB1.out hn2
    have HB2 := Lib.hid hb2
    have HO2 : Hid (w2x.ownsRow w2.heap.size 43 7 (.slice (some ⟨z2, 0, none⟩) 0 0) 0 []) := Lib.hid (by rw [hw2, hz2]; exact World.ownsRow_made wd1 #[] 0 HB1.out.size (by decide) rfl)
    rw [← hw2, ← hz2]
    refine hK.out _ _ (HSS.out _ hb2) (fun hS2 => ?_)
    clear hK K hb2 hw2 hz2 hn2 hS1
    (try simp only [Act.put]); (try simp only [List.setIfInBounds_toArray]); (try simp only [List.set_cons_succ]); (try simp only [List.set_cons_zero])
    refine wpAnyH_ready (rs := [8]) (by kernel_rfl) (by simp) ?_
    refine (AllReadyH.cons rfl (fun K hK => ?_) AllReadyH.nil)
    refine step_app rfl (.tmp 20) (.tmp 26) 28 28 rfl w2.heap.size 43 ix (.agg #[.string ⟨#[]⟩, .string ⟨#[]⟩, .int .i64 0, .int .i64 0, .int .i64 0, .int .i64 0, .int .i64 0]) 7 72 Tryz.underlying28 hi hz0 hz1 hz2 rfl (.slice (some ⟨z2, 0, none⟩) 0 0) 0 [] (by rfl) HO2.out (.slice p k c) k (rwC chC (C.take k)) (by rfl) (ch_first H2.out HB2.out (by have := HK.out; omega)) (by have := HL.out; have := HK.out; unfold maxLen; omega) (by have := HL.out; have := HK.out; omega) HB2.out.size ?_
    intro v3 w3x ho3 hg3 hn3 hk3
    have HO3 : Hid (w3x.ownsRow w2.heap.size 43 7 v3 k (rwC chC (C.take k))) := Lib.hid (by simpa using ho3)
    have hb3 : Below w2.heap.size w2 w3x := HB2.out.trans ((Fr.of_grown hg3).below (by intro y hy; exact own_lo HO2.out (Option.mem_toList.1 hy)) HB2.out.size)
    have HB3 := Lib.hid hb3
    refine hK.out _ _ (HSS.out _ hb3) (fun hS3 => ?_)
    clear hK K hb3 ho3 hg3 hn3 hk3 hS2
    (try simp only [Act.put]); (try simp only [List.setIfInBounds_toArray]); (try simp only [List.set_cons_succ]); (try simp only [List.set_cons_zero])
    refine wpAnyH_ready (rs := [16]) (by kernel_rfl) (by simp) ?_
    refine (AllReadyH.cons rfl (fun K hK => ?_) AllReadyH.nil)
    refine step_app rfl (.tmp 27) (.tmp 34) 28 28 rfl w2.heap.size 43 ix (.agg #[.string ⟨#[]⟩, .string ⟨#[]⟩, .int .i64 0, .int .i64 0, .int .i64 0, .int .i64 0, .int .i64 0]) 7 72 Tryz.underlying28 hi hz0 hz1 hz2 rfl v3 k (rwC chC (C.take k)) (by rfl) HO3.out (.slice (if c = k + 1 then p else Option.map (fun x => x.add ((k + 1) * 7)) p) (C.length - (k + 1)) (c - (k + 1))) (C.length - (k + 1)) (rwC chC (C.drop (k + 1))) (by rfl) (ch_rest H2.out HB3.out HK.out) (by have := HL.out; have := HK.out; unfold maxLen; omega) (by have := HL.out; have := HK.out; omega) HB3.out.size ?_
    intro v4 w4x ho4 hg4 hn4 hk4
    have HO4 : Hid (w4x.ownsRow w2.heap.size 43 7 v4 (k + (C.length - (k + 1))) (rwC chC (C.take k) ++ rwC chC (C.drop (k + 1)))) := Lib.hid (by exact ho4)
    have hb4 : Below w2.heap.size w2 w4x := HB3.out.trans ((Fr.of_grown hg4).below (by intro y hy; exact own_lo HO3.out (Option.mem_toList.1 hy)) HB3.out.size)
    have HB4 := Lib.hid hb4
    refine hK.out _ _ (HSS.out _ hb4) (fun hS4 => ?_)
    clear hK K hb4 ho4 hg4 hn4 hk4 hS3
    (try simp only [Act.put]); (try simp only [List.setIfInBounds_toArray]); (try simp only [List.set_cons_succ]); (try simp only [List.set_cons_zero])
    refine wpAnyH_take (i := 17) (v := ?v15) rfl (by kernel_rfl) (by kernel_rfl) (by kernel_rfl) (fun _ _ _ h => h) (Or.inl ⟨by rfl, ?hy15⟩) (by assumption) ?rest15
    case hy15 => (intro _ hSw; (try dsimp only at hSw); go_simp; (try with_reducible rfl))
    (try simp only [Act.put]); (try simp only [List.setIfInBounds_toArray]); (try simp only [List.set_cons_succ]); (try simp only [List.set_cons_zero])
    refine wpAnyH_take (i := 18) (v := ?v16) rfl (by kernel_rfl) (by kernel_rfl) (by kernel_rfl) (fun _ _ _ h => h) (Or.inl ⟨by rfl, ?hy16⟩) (by assumption) ?rest16
    case hy16 => (intro _ hSw; (try dsimp only at hSw); go_simp; (try with_reducible rfl))
    (try simp only [Act.put]); (try simp only [List.setIfInBounds_toArray]); (try simp only [List.set_cons_succ]); (try simp only [List.set_cons_zero])
    refine wpAnyH_done (by kernel_rfl) ?_ _
    refine LastQ.start rfl ?_
    clear hS4 hHeld
    have d1 := HSS.out _ HB4.out
    have f1 := (H2.out.kept HB4.out).blk.free 1
    obtain ⟨p8, c8, hv8, -, -⟩ := own_slice HO4.out
    have HO8 := HO4
    subst hv8
    generalize (if c = k + 1 then p else Option.map (fun x => x.add ((k + 1) * 7)) p) = pp
    go_wp2
    refine NoPanic.normal ?_
    (try go_wp2)
    have hle : (C.eraseIdx k).length = k + (C.length - (k + 1)) := by rw [List.length_eraseIdx_of_lt HK.out]; have := HK.out; omega
    have ho8 := HO8.out
    rw [rwC_erase] at ho8
    have ho9 : World.ownsRow w4x w2.heap.size 43 7 (.slice p8 (k + (C.length - (k + 1))) c8) (C.eraseIdx k).length (rwC chC (C.eraseIdx k)) := by rw [hle]; exact ho8
    have hset := H2.out.setC HB4.out (Nat.le_trans HBS.out HBP.out.size) ho9
    rw [← HQ.out.2] at hset
    go_ret
    exact ⟨ret_int HQ.out.1.symm, RqC.mk hset ((Frp.of_below (below_and HBP.out HB4.out) (fun j => j = g)).set (p := ⟨g, 1, none⟩) rfl _)⟩
end Go.Proofs.YtmgbailpmcggiaaGreat
