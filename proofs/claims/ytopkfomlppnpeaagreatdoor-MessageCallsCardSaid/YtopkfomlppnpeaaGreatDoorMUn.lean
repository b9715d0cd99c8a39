/- , laid together: Same, MsDUn. -/
import Derived.Test.YtopkfomlppnpeaaGreatDoorLib
import Derived.Test.YtopkfomlppnpeaaGreatDoorMDw
import Derived.Test.YtopkfomlppnpeaaGreatDoorMDr
import Derived.Test.YtopkfomlppnpeaaGreatDoorMsApp
import Derived.Test.YtopkfomlppnpeaaGreatDoorMSame
import Derived.Test.YtopkfomlppnpeaaGreatDoorMFr
namespace Go.Proofs.YtopkfomlppnpeaaGreatDoor
open Go.RowKit

set_option maxHeartbeats 400000 in
theorem same_any (v1 v2 : Value) (l1 l2 : List UInt8) (w : World) (h1 : Rd w v1 l1) (h2 : Rd w v2 l2) :
    Calls Tryz.prog 16 #[v1, v2] w fun e w' => e = .returned (.bool (l1 == l2)) ∧ ∃ n, w' = w.drewN n := by
  obtain ⟨p1, c1, rfl, hc1, hm1, ha1⟩ := h1.parts
  obtain ⟨p2, c2, rfl, hc2, hm2, ha2⟩ := h2.parts
  unfold maxLen at hm1 hm2
  by_cases hl : l1.length = l2.length
  case neg =>
    have hf : (l1 == l2) = false := by
      rw [beq_eq_false_iff_ne]; intro e; exact hl (by rw [e])
    have hl' : ((l1.length : Int) != (l2.length : Int)) = true := by rw [bne_iff_ne]; omega
    go_enter Tryz.func16, Tryz.ntmps16
    go_wp2
    go_ret
    exact ⟨ret_bool hf.symm, 0, rfl⟩
  case pos =>
    have hl' : ((l1.length : Int) != (l2.length : Int)) = false := by rw [bne_eq_false_iff_eq]; omega
    have HL := Lib.hid hl
    clear hl
    go_enter Tryz.func16, Tryz.ntmps16
    go_wp2
    go_loopw [5] (fun i w' => ∃ k q : Nat, k ≤ l1.length ∧ i = .int .i64 k ∧ w' = w.drewN q ∧ Hid (∀ j (h1 : j < l1.length) (h2 : j < l2.length), j < k → l1[j] = l2[j])) (fun i _ => l1.length - (intOf i).toNat)
    case atStart => exact ⟨0, 0, Nat.zero_le _, rfl, rfl, fun j _ _ h => by omega⟩
    case round =>
      obtain ⟨k, q, hk, rfl, rfl, he⟩ := hrel
      by_cases hlt : k < l1.length
      · have hlt2 : k < l2.length := by have := HL.out; omega
        obtain ⟨b1, o1, rfl, a1⟩ := ha1.resolve_left (by rintro rfl; simp at hlt)
        obtain ⟨b2, o2, rfl, a2⟩ := ha2.resolve_left (by rintro rfl; simp at hlt2)
        have e1 := a1 k hlt
        have e2 := a2 k hlt2
        clear a1 a2 ha1 ha2
        generalize hx : l1[k] = x at e1
        generalize hy : l2[k] = y at e2
        have HX := Lib.hid hx
        have HY := Lib.hid hy
        clear hx hy
        go_wp2
        go_quiet (fail)
        by_cases hxy : x = y
        · have hd : ((x.toNat : Int) != (y.toNat : Int)) = false := by rw [hxy]; simp
          have HE := Lib.hid hxy
          clear hxy
          go_wp2
          go_roundw
          case rel =>
            refine ⟨k + 1, q + nq, by omega, by go_num, rfl, fun j g1 g2 hj => ?_⟩
            by_cases hjk : j < k
            · exact he.out j g1 g2 hjk
            · obtain rfl : j = k := by omega
              rw [HX.out, HY.out, HE.out]
          case measure => simp [intOf]; omega
        · have hd : ((x.toNat : Int) != (y.toNat : Int)) = true := by
            rw [bne_iff_ne]; intro e; exact hxy (UInt8.toNat_inj.1 (by omega))
          have hf : (l1 == l2) = false := by
            rw [beq_eq_false_iff_ne]
            intro e
            apply hxy
            rw [← HX.out, ← HY.out]
            subst e
            rfl
          have HF := Lib.hid hf
          clear hxy hf
          go_wp2
          go_ret
          exact ⟨ret_bool HF.out.symm, q + nq, by rw [World.drewN_drewN]⟩
      · have hf : (l1 == l2) = true := by
          rw [beq_iff_eq]
          exact List.ext_getElem HL.out fun i g1 g2 => he.out i g1 g2 (by omega)
        have HF := Lib.hid hf
        clear hf
        go_wp2
        go_ret
        exact ⟨ret_bool HF.out.symm, q, rfl⟩
end Go.Proofs.YtopkfomlppnpeaaGreatDoor

namespace Go.Proofs.YtopkfomlppnpeaaGreatDoor.Ms
open Go.RowKit Go.Proofs.YtopkfomlppnpeaaGreatDoor

theorem po_nil (w : World) : PoW w zeP (.slice none 0 0) (.slice none 0 0) (.slice none 0 0) :=
  ⟨fun x hx => (by cases hx), fun x hx => (by cases hx), fun x hx => (by cases hx), (by unfold u64B i64B zeP; simp), row_nil w 5, row_nil w 8, row_nil w 3, fun x hx => (by cases hx), fun x hx => (by cases hx), fun x hx => (by cases hx)⟩
theorem rp_nil (w : World) : RpW w zeR (.slice none 0 0) (.slice none 0 0) (.slice none 0 0) :=
  ⟨fun x hx => (by cases hx), fun x hx => (by cases hx), fun x hx => (by cases hx), (by unfold u64B i64B zeR; simp), row_nil w 4, row_nil w 5, row_nil w 4, fun x hx => (by cases hx), fun x hx => (by cases hx), fun x hx => (by cases hx)⟩
theorem readP_len (b : List UInt8) : (readP b).1.K.length ≤ 1000 ∧ (readP b).1.T.length ≤ 1000 ∧ (readP b).1.P.length ≤ 1000 := by
  unfold readP
  split
  · exact ⟨Nat.zero_le _, Nat.zero_le _, Nat.zero_le _⟩
  · split
    · exact ⟨Nat.zero_le _, Nat.zero_le _, Nat.zero_le _⟩
    · next h =>
      have hc : checkP (rdP (opn b [3]).2.1).1 = true := by
        cases hc : checkP (rdP (opn b [3]).2.1).1
        · exact absurd (.inr hc) h
        · rfl
      unfold checkP at hc
      simp only [Bool.and_eq_true] at hc
      have h1 := (rises_may hc.1.1.2).1
      have h2 := (rises_may hc.1.2).1
      have h3 := (rises_may hc.2).1
      exact ⟨by simp only; omega, by simp only; omega, by simp only; omega⟩
theorem readR_len (b : List UInt8) : (readR b).1.H.length ≤ 1000 ∧ (readR b).1.F.length ≤ 1000 ∧ (readR b).1.R.length ≤ 1000 := by
  unfold readR
  split
  · exact ⟨Nat.zero_le _, Nat.zero_le _, Nat.zero_le _⟩
  · split
    · exact ⟨Nat.zero_le _, Nat.zero_le _, Nat.zero_le _⟩
    · next h =>
      have hc : checkR (rdR (opn b [4]).2.1).1 = true := by
        cases hc : checkR (rdR (opn b [4]).2.1).1
        · exact absurd (.inr hc) h
        · rfl
      unfold checkR at hc
      simp only [Bool.and_eq_true] at hc
      have h1 := (rises_may hc.1.1.2).1
      have h2 := (rises_may hc.1.2).1
      have h3 := (rises_may hc.2).1
      exact ⟨by simp only; omega, by simp only; omega, by simp only; omega⟩
/-- bytes and an error come back -/
def AnsB (l : List UInt8) (n : Nat) (x : Int) (w : World) (e : Ending) (w' : World) : Prop := ∃ q c, e = .returned (.tuple #[.slice q n c, .int .i64 x]) ∧ Rd w' (.slice q n c) l ∧ Below w.heap.size w w'
theorem ansb_of {l : List UInt8} {n : Nat} {x : Int} {w w' : World} {e : Ending} (hn : n = l.length) (h : ∃ v, e = .returned (.tuple #[v, .int .i64 x]) ∧ Rd w' v l ∧ Below w.heap.size w w') : AnsB l n x w e w' := by
  obtain ⟨v, h1, h2, h3⟩ := h
  obtain ⟨q, c, rfl⟩ := rd_slice h2
  rw [← hn] at h1 h2
  exact ⟨q, c, h1, h2, h3⟩
def putP (p : Po) (l : List UInt8) : List UInt8 := if checkP p then l ++ frm 3 (bodyP p) else []
def putR (p : Rp) (l : List UInt8) : List UInt8 := if checkR p then l ++ frm 4 (bodyR p) else []
theorem putP_any (p : Po) (v a b c : Value) (l : List UInt8) (n : Nat) (x : Int) (w : World) (h : PoW w p a b c) (hE : ErrV w) (hv : Rd w v l) (hl : l.length ≤ 100000000) (hn : n = (putP p l).length) (hx : x = if checkP p then 0 else 2) : Calls Tryz.prog 7 #[v, poV p a b c] w (AnsB (putP p l) n x w) := by
  cases hc : checkP p
  · refine (appendP_no p v a b c w h hE hc).mono ?_
    intro e w' h9
    refine ansb_of hn ⟨.slice none 0 0, ?_, ?_, h9.2⟩
    · rw [hx, hc]; exact h9.1
    · unfold putP; rw [hc]; exact rd_nil w'
  · refine (appendP_yes p v a b c l w h hE hc hv hl).mono ?_
    intro e w' h9
    refine ansb_of hn ?_
    obtain ⟨v', h1, h2, h3⟩ := h9
    refine ⟨v', ?_, ?_, h3⟩
    · rw [hx, hc]; exact h1
    · unfold putP; rw [hc]; exact h2.rd
theorem rputP_any (p : Po) (v a b c : Value) (l : List UInt8) (n : Nat) (x : Int) (w : World) (h : PoW w p a b c) (hv : Rd w v l) (hl : l.length ≤ 100000000) (hn : n = (putP p l).length) (hx : x = if checkP p then 0 else 2) : Calls Tryz.prog 15 #[v, poV p a b c] w (AnsB (putP p l) n x w) := by
  cases hc : checkP p
  · refine (rappendP_no p v a b c w h hc).mono ?_
    intro e w' h9
    refine ansb_of hn ⟨.slice none 0 0, ?_, ?_, h9.2⟩
    · rw [hx, hc]; exact h9.1
    · unfold putP; rw [hc]; exact rd_nil w'
  · refine (rappendP_yes p v a b c l w h hc hv hl).mono ?_
    intro e w' h9
    refine ansb_of hn ?_
    obtain ⟨v', h1, h2, h3⟩ := h9
    refine ⟨v', ?_, ?_, h3⟩
    · rw [hx, hc]; exact h1
    · unfold putP; rw [hc]; exact h2.rd
def AnsP (p : Po) (n0 n1 n2 : Nat) (x : Int) (w : World) (e : Ending) (w' : World) : Prop := ∃ q0 c0 q1 c1 q2 c2, e = .returned (.tuple #[.agg #[.int .u64 p.ep, .int .u64 p.sq, .int .u64 p.bo, .int .i64 p.at_, .int .i64 p.le, .slice q0 n0 c0, .slice q1 n1 c1, .slice q2 n2 c2, .int .u64 p.se], .int .i64 x]) ∧ PoW w' p (.slice q0 n0 c0) (.slice q1 n1 c1) (.slice q2 n2 c2) ∧ Below w.heap.size w w'
theorem ansP_of {b : List UInt8} {p : Po} {n0 n1 n2 : Nat} {x : Int} {w w' : World} {e : Ending} (hp : p = (readP b).1) (h0 : n0 = p.K.length) (h1 : n1 = p.T.length) (h2 : n2 = p.P.length) (hx : x = ((readP b).2 : Nat)) (h : readPF b w e w') : AnsP p n0 n1 n2 x w e w' := by
  obtain ⟨hb, he, hy⟩ := h
  by_cases hz : (readP b).2 = 0
  · obtain ⟨vk, vt, vs, h4, h5⟩ := hy hz
    rw [← hp] at h4 h5
    obtain ⟨pk, ck, rfl, -⟩ := row_el h5.k
    obtain ⟨pt, ct, rfl, -⟩ := row_el h5.t
    obtain ⟨ps, cs, rfl, -⟩ := row_el h5.s
    rw [← h0, ← h1, ← h2] at h4 h5
    refine ⟨pk, ck, pt, ct, ps, cs, ?_, h5, hb⟩
    rw [hx, hz]
    exact h4
  · have hpz : p = zeP := by
      rw [hp]
      unfold readP at hz ⊢
      split
      · rfl
      · split
        · rfl
        · next g1 g2 => rw [if_neg g1, if_neg g2] at hz; exact absurd rfl hz
    subst hpz
    obtain rfl : n0 = 0 := h0
    obtain rfl : n1 = 0 := h1
    obtain rfl : n2 = 0 := h2
    refine ⟨none, 0, none, 0, none, 0, ?_, po_nil w', hb⟩
    rw [hx]
    exact he hz
theorem putR_any (p : Rp) (v a b c : Value) (l : List UInt8) (n : Nat) (x : Int) (w : World) (h : RpW w p a b c) (hE : ErrV w) (hv : Rd w v l) (hl : l.length ≤ 100000000) (hn : n = (putR p l).length) (hx : x = if checkR p then 0 else 2) : Calls Tryz.prog 17 #[v, rpV p a b c] w (AnsB (putR p l) n x w) := by
  cases hc : checkR p
  · refine (appendR_no p v a b c w h hE hc).mono ?_
    intro e w' h9
    refine ansb_of hn ⟨.slice none 0 0, ?_, ?_, h9.2⟩
    · rw [hx, hc]; exact h9.1
    · unfold putR; rw [hc]; exact rd_nil w'
  · refine (appendR_yes p v a b c l w h hE hc hv hl).mono ?_
    intro e w' h9
    refine ansb_of hn ?_
    obtain ⟨v', h1, h2, h3⟩ := h9
    refine ⟨v', ?_, ?_, h3⟩
    · rw [hx, hc]; exact h1
    · unfold putR; rw [hc]; exact h2.rd
theorem rputR_any (p : Rp) (v a b c : Value) (l : List UInt8) (n : Nat) (x : Int) (w : World) (h : RpW w p a b c) (hv : Rd w v l) (hl : l.length ≤ 100000000) (hn : n = (putR p l).length) (hx : x = if checkR p then 0 else 2) : Calls Tryz.prog 18 #[v, rpV p a b c] w (AnsB (putR p l) n x w) := by
  cases hc : checkR p
  · refine (rappendR_no p v a b c w h hc).mono ?_
    intro e w' h9
    refine ansb_of hn ⟨.slice none 0 0, ?_, ?_, h9.2⟩
    · rw [hx, hc]; exact h9.1
    · unfold putR; rw [hc]; exact rd_nil w'
  · refine (rappendR_yes p v a b c l w h hc hv hl).mono ?_
    intro e w' h9
    refine ansb_of hn ?_
    obtain ⟨v', h1, h2, h3⟩ := h9
    refine ⟨v', ?_, ?_, h3⟩
    · rw [hx, hc]; exact h1
    · unfold putR; rw [hc]; exact h2.rd
def AnsR (p : Rp) (n0 n1 n2 : Nat) (x : Int) (w : World) (e : Ending) (w' : World) : Prop := ∃ q0 c0 q1 c1 q2 c2, e = .returned (.tuple #[.agg #[.int .u64 p.ep, .int .u64 p.sq, .int .u64 p.bo, .int .i64 p.at_, .slice q0 n0 c0, .slice q1 n1 c1, .slice q2 n2 c2], .int .i64 x]) ∧ RpW w' p (.slice q0 n0 c0) (.slice q1 n1 c1) (.slice q2 n2 c2) ∧ Below w.heap.size w w'
theorem ansR_of {b : List UInt8} {p : Rp} {n0 n1 n2 : Nat} {x : Int} {w w' : World} {e : Ending} (hp : p = (readR b).1) (h0 : n0 = p.H.length) (h1 : n1 = p.F.length) (h2 : n2 = p.R.length) (hx : x = ((readR b).2 : Nat)) (h : readRF b w e w') : AnsR p n0 n1 n2 x w e w' := by
  obtain ⟨hb, he, hy⟩ := h
  by_cases hz : (readR b).2 = 0
  · obtain ⟨vk, vt, vs, h4, h5⟩ := hy hz
    rw [← hp] at h4 h5
    obtain ⟨pk, ck, rfl, -⟩ := row_el h5.k
    obtain ⟨pt, ct, rfl, -⟩ := row_el h5.t
    obtain ⟨ps, cs, rfl, -⟩ := row_el h5.s
    rw [← h0, ← h1, ← h2] at h4 h5
    refine ⟨pk, ck, pt, ct, ps, cs, ?_, h5, hb⟩
    rw [hx, hz]
    exact h4
  · have hpz : p = zeR := by
      rw [hp]
      unfold readR at hz ⊢
      split
      · rfl
      · split
        · rfl
        · next g1 g2 => rw [if_neg g1, if_neg g2] at hz; exact absurd rfl hz
    subst hpz
    obtain rfl : n0 = 0 := h0
    obtain rfl : n1 = 0 := h1
    obtain rfl : n2 = 0 := h2
    refine ⟨none, 0, none, 0, none, 0, ?_, rp_nil w', hb⟩
    rw [hx]
    exact he hz
theorem sb_true (v1 v2 : Value) (l : List UInt8) (w : World) (h1 : Rd w v1 l) (h2 : Rd w v2 l) : Calls Tryz.prog 16 #[v1, v2] w fun e w' => e = .returned (.bool true) ∧ Below w.heap.size w w' :=
  (same_any v1 v2 l l w h1 h2).mono fun e w' h => by
    obtain ⟨h3, n, rfl⟩ := h
    exact ⟨by rw [h3]; simp, below_drewN n⟩
end Go.Proofs.YtopkfomlppnpeaaGreatDoor.Ms
