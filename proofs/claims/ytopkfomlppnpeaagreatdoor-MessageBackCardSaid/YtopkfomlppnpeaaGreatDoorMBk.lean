/- , laid together: MsBk, MsBkL. -/
import Derived.Test.YtopkfomlppnpeaaGreatDoorMsRead
import Derived.Test.YtopkfomlppnpeaaGreatDoorMsFrm
import Derived.Test.YtopkfomlppnpeaaGreatDoorMsFt
namespace Go.Proofs.YtopkfomlppnpeaaGreatDoor.Ms
open Go.RowKit Go.Proofs.YtopkfomlppnpeaaGreatDoor

/-- a reading gives x where its bytes stand, and goes on behind them -/
def Rds {α : Type} (f : List UInt8 → S → α × S) (e : List UInt8) (x : α) : Prop := ∀ l pre r, l = pre ++ (e ++ r) → f l (pre.length, 0) = (x, ((pre ++ e).length, 0))
theorem rds_u {x : Int} (h : u64B x) : Rds rU (eU x) x := fun l pre r hl => by
  unfold u64B at h
  unfold rU
  have := Wire.uint_here (l := l) (pre := pre) (post := r) (x := x.toNat) (by omega) hl
  simp only [this]
  rw [List.length_append, Int.toNat_of_nonneg h.1]
  rfl
theorem rds_i {y : Int} (h : i64B y) : Rds rI (eI y) y := fun l pre r hl => by
  unfold i64B at h
  unfold rI
  have := Wire.int_here (l := l) (pre := pre) (post := r) (y := y) h.1 h.2 hl
  simp only [this]
  rw [List.length_append]
  rfl
theorem rds_t {t : List UInt8} (h : t.length ≤ 65536) : Rds rT (eT t) t := fun l pre r hl => by
  unfold rT
  have := Wire.text_here (l := l) (pre := pre) (t := t) (post := r) h (by rw [hl]; unfold eT; simp)
  simp only [this]
  unfold eT
  rw [List.length_append, List.length_append, Nat.add_assoc]
theorem rds_c {m x : Int} (h0 : 0 ≤ x) (h1 : x ≤ m) (h2 : m < 18446744073709551616) : Rds (rC m) (eU x) x := fun l pre r hl => by
  have e : Wire.read (l.drop pre.length) = (x.toNat, (Wire.enc x.toNat).length, 0) := by rw [Wire.drop_here hl]; exact Wire.enc_read (by omega) _
  unfold rC Wire.count
  simp only [e]
  rw [if_neg (by simp), if_neg (by omega), if_neg (by simp), if_neg (by omega), List.length_append, Int.toNat_of_nonneg h0]
  rfl
theorem okB_b {a : Am} (h : a.okB = true) : i64B a.c ∧ i64B a.r ∧ i64B a.d ∧ i64B a.p := by
  unfold Am.okB at h
  simp only [Bool.and_eq_true, decide_eq_true_eq] at h
  unfold i64B
  omega
theorem rds_a {a : Am} (h : a.okB = true) : Rds rA (eA a) a := fun l pre r hl => by
  obtain ⟨h1, h2, h3, h4⟩ := okB_b h
  unfold eA at hl ⊢
  have e1 := rds_i h1 l pre (eI a.r ++ (eI a.d ++ eI a.p) ++ r) (by rw [hl]; simp)
  have e2 := rds_i h2 l (pre ++ eI a.c) ((eI a.d ++ eI a.p) ++ r) (by rw [hl]; simp)
  have e3 := rds_i h3 l (pre ++ eI a.c ++ eI a.r) (eI a.p ++ r) (by rw [hl]; simp)
  have e4 := rds_i h4 l (pre ++ eI a.c ++ eI a.r ++ eI a.d) r (by rw [hl]; simp)
  unfold rA
  simp only [e1, e2, e3, e4]
  simp [Nat.add_assoc]
theorem rds_k {x : El} (h : Ft x) : Rds rK (eK x) ⟨x.j, x.i, x.n, Am.zero, [], 0, 0⟩ := fun l pre r hl => by
  unfold eK at hl ⊢
  have e1 := rds_t (t := x.j) (by have := h.j; omega) l pre ((eU x.i ++ eU x.n) ++ r) (by rw [hl]; simp)
  have e2 := rds_c (m := 1073741824) h.i.1 (by have := h.i.2; omega) (by omega) l (pre ++ eT x.j) (eU x.n ++ r) (by rw [hl]; simp)
  have e3 := rds_u h.n l (pre ++ eT x.j ++ eU x.i) r (by rw [hl]; simp)
  unfold rK
  simp only [e1, e2, e3]
  simp [Nat.add_assoc]
theorem rds_env {x : El} (h : Ft x) (hk : envK x) : Rds envRd (envE x) x := fun l pre r hl => by
  obtain ⟨j, i, n, a, s, q, k⟩ := x
  obtain ⟨rfl, rfl, rfl, rfl, rfl⟩ := hk
  unfold envE at hl ⊢
  have e1 := rds_t (t := j) (by have := h.j; simp only at this; omega) l pre (eA a ++ r) (by rw [hl]; simp)
  have e2 := rds_a h.a l (pre ++ eT j) r (by rw [hl]; simp)
  unfold envRd
  simp only [e1, e2]
  simp [Nat.add_assoc]
theorem rds_sta {x : El} (h : Ft x) (hk : staK x) : Rds staRd (staE x) x := fun l pre r hl => by
  unfold staE at hl ⊢
  have e1 := rds_k h l pre ((eA x.a ++ eT x.s) ++ r) (by rw [hl]; simp)
  have e2 := rds_a h.a l (pre ++ eK x) (eT x.s ++ r) (by rw [hl]; simp)
  have e3 := rds_t (t := x.s) (by have := h.s; omega) l (pre ++ eK x ++ eA x.a) r (by rw [hl]; simp)
  unfold staRd
  simp only [e1, e2, e3]
  obtain ⟨j, i, n, a, s, q, k⟩ := x
  obtain ⟨rfl, rfl⟩ := hk
  simp [Nat.add_assoc]
theorem rds_sto {x : El} (h : Ft x) (hk : stoK x) : Rds stoRd (stoE x) x := fun l pre r hl => by
  unfold stoE at hl ⊢
  have e1 := rds_k h l pre r hl
  unfold stoRd
  rw [e1]
  obtain ⟨j, i, n, a, s, q, k⟩ := x
  obtain ⟨rfl, rfl, rfl, rfl⟩ := hk
  rfl
theorem rds_hel {x : El} (h : Ft x) (hk : helK x) : Rds helRd (helE x) x := fun l pre r hl => by
  unfold helE at hl ⊢
  have e1 := rds_k h l pre (eU x.q ++ r) (by rw [hl]; simp)
  have e2 := rds_c (m := 1073741824) h.q.1 (by have := h.q.2; omega) (by omega) l (pre ++ eK x) r (by rw [hl]; simp)
  unfold helRd
  simp only [e1, e2]
  obtain ⟨j, i, n, a, s, q, k⟩ := x
  obtain ⟨rfl, rfl, rfl⟩ := hk
  simp [Nat.add_assoc]
theorem rds_ref {x : El} (h : Ft x) (hk : refK x) : Rds refRd (refE x) x := rds_hel h hk
theorem rds_fin {x : El} (h : Ft x) (hk : finK x) : Rds finRd (finE x) x := fun l pre r hl => by
  unfold finE at hl ⊢
  have e0 := rds_u h.k l pre ((eK x ++ eU x.q) ++ r) (by rw [hl]; simp)
  have e1 := rds_k h l (pre ++ eU x.k) (eU x.q ++ r) (by rw [hl]; simp)
  have e2 := rds_c (m := 1073741824) h.q.1 (by have := h.q.2; omega) (by omega) l (pre ++ eU x.k ++ eK x) r (by rw [hl]; simp)
  unfold finRd
  simp only [e0, e1, e2]
  obtain ⟨j, i, n, a, s, q, k⟩ := x
  obtain ⟨rfl, rfl⟩ := hk
  simp [Nat.add_assoc]
theorem rds_n {one : List UInt8 → S → El × S} {enc : El → List UInt8} : ∀ (L : List El), (∀ x ∈ L, Rds one (enc x) x) → Rds (fun l s => rdN one l L.length s) (L.flatMap enc) L
  | [], _ => fun l pre r hl => by simp [rdN]
  | x :: L, h => fun l pre r hl => by
    have e1 := h x (by simp) l pre (L.flatMap enc ++ r) (by rw [hl]; simp)
    have e2 := rds_n L (fun y hy => h y (by simp [hy])) l (pre ++ enc x) r (by rw [hl]; simp)
    simp only at e2 ⊢
    rw [List.length_cons, rdN_go rfl e1, e2]
    simp [Nat.add_assoc]
theorem rds_l {one : List UInt8 → S → El × S} {enc : El → List UInt8} {L : List El} (hL : L.length ≤ 256) (h : ∀ x ∈ L, Rds one (enc x) x) : Rds (rL one) (eL enc L) L := fun l pre r hl => by
  unfold eL at hl ⊢
  have e1 := rds_c (m := 256) (x := (L.length : Int)) (by omega) (by omega) (by omega) l pre (L.flatMap enc ++ r) (by rw [hl]; simp)
  have e2 := rds_n L h l (pre ++ eU L.length) r (by rw [hl]; simp)
  unfold rL
  simp only [e1, Int.toNat_natCast]
  simp only at e2
  rw [e2]
  simp [Nat.add_assoc]
/-- what the kinds' elements do not have is nothing -/
def CanP (p : Po) : Prop := (∀ x ∈ p.K, envK x) ∧ (∀ x ∈ p.T, staK x) ∧ ∀ x ∈ p.P, stoK x
def CanR (p : Rp) : Prop := (∀ x ∈ p.H, helK x) ∧ (∀ x ∈ p.F, finK x) ∧ ∀ x ∈ p.R, refK x
theorem rds_P {p : Po} (h : PoF p) (hc : CanP p) : rdP (bodyP p) = (p, ((bodyP p).length, 0)) := by
  obtain ⟨⟨n1, -⟩, n2, n3, n4, n5, n6⟩ := h.n
  obtain ⟨l, hl⟩ : ∃ l, l = bodyP p := ⟨_, rfl⟩
  have hb : l = eU p.ep ++ (eU p.sq ++ (eU p.bo ++ (eI p.at_ ++ (eU p.le ++ (eL envE p.K ++ (eL staE p.T ++ (eL stoE p.P ++ eU p.se))))))) := hl
  have e1 := rds_u n1 l [] _ hb
  have e2 := rds_u n2 l (eU p.ep) (eU p.bo ++ (eI p.at_ ++ (eU p.le ++ (eL envE p.K ++ (eL staE p.T ++ (eL stoE p.P ++ eU p.se)))))) (by rw [hb])
  have e3 := rds_u n3 l (eU p.ep ++ eU p.sq) (eI p.at_ ++ (eU p.le ++ (eL envE p.K ++ (eL staE p.T ++ (eL stoE p.P ++ eU p.se))))) (by rw [hb]; simp)
  have e4 := rds_i (y := p.at_) (by unfold i64B; omega) l (eU p.ep ++ eU p.sq ++ eU p.bo) (eU p.le ++ (eL envE p.K ++ (eL staE p.T ++ (eL stoE p.P ++ eU p.se)))) (by rw [hb]; simp)
  have e5 := rds_c (m := 1073741824) (x := p.le) (by omega) (by omega) (by omega) l (eU p.ep ++ eU p.sq ++ eU p.bo ++ eI p.at_) (eL envE p.K ++ (eL staE p.T ++ (eL stoE p.P ++ eU p.se))) (by rw [hb]; simp)
  have e6 := rds_l h.k.1 (fun x hx => rds_env (h.k.2 x hx) (hc.1 x hx)) l (eU p.ep ++ eU p.sq ++ eU p.bo ++ eI p.at_ ++ eU p.le) (eL staE p.T ++ (eL stoE p.P ++ eU p.se)) (by rw [hb]; simp)
  have e7 := rds_l h.t.1 (fun x hx => rds_sta (h.t.2 x hx) (hc.2.1 x hx)) l (eU p.ep ++ eU p.sq ++ eU p.bo ++ eI p.at_ ++ eU p.le ++ eL envE p.K) (eL stoE p.P ++ eU p.se) (by rw [hb]; simp)
  have e8 := rds_l h.s.1 (fun x hx => rds_sto (h.s.2 x hx) (hc.2.2 x hx)) l (eU p.ep ++ eU p.sq ++ eU p.bo ++ eI p.at_ ++ eU p.le ++ eL envE p.K ++ eL staE p.T) (eU p.se) (by rw [hb]; simp)
  have e9 := rds_u n6 l (eU p.ep ++ eU p.sq ++ eU p.bo ++ eI p.at_ ++ eU p.le ++ eL envE p.K ++ eL staE p.T ++ eL stoE p.P) [] (by rw [hb]; simp)
  rw [List.nil_append] at e1
  have e1' : rU l (0, 0) = (p.ep, ((eU p.ep).length, 0)) := e1
  rw [← hl]
  unfold rdP
  simp only [e1', e2, e3, e4, e5, e6, e7, e8, e9]
  rw [show (eU p.ep ++ eU p.sq ++ eU p.bo ++ eI p.at_ ++ eU p.le ++ eL envE p.K ++ eL staE p.T ++ eL stoE p.P ++ eU p.se) = l from by rw [hb]; simp]
theorem rds_R {p : Rp} (h : RpF p) (hc : CanR p) : rdR (bodyR p) = (p, ((bodyR p).length, 0)) := by
  obtain ⟨⟨n1, -⟩, n2, n3, n4⟩ := h.n
  obtain ⟨l, hl⟩ : ∃ l, l = bodyR p := ⟨_, rfl⟩
  have hb : l = eU p.ep ++ (eU p.sq ++ (eU p.bo ++ (eI p.at_ ++ (eL helE p.H ++ (eL finE p.F ++ eL refE p.R))))) := hl
  have e1 := rds_u n1 l [] _ hb
  have e2 := rds_u n2 l (eU p.ep) (eU p.bo ++ (eI p.at_ ++ (eL helE p.H ++ (eL finE p.F ++ eL refE p.R)))) (by rw [hb])
  have e3 := rds_u n3 l (eU p.ep ++ eU p.sq) (eI p.at_ ++ (eL helE p.H ++ (eL finE p.F ++ eL refE p.R))) (by rw [hb]; simp)
  have e4 := rds_i (y := p.at_) (by unfold i64B; omega) l (eU p.ep ++ eU p.sq ++ eU p.bo) (eL helE p.H ++ (eL finE p.F ++ eL refE p.R)) (by rw [hb]; simp)
  have e6 := rds_l h.k.1 (fun x hx => rds_hel (h.k.2 x hx) (hc.1 x hx)) l (eU p.ep ++ eU p.sq ++ eU p.bo ++ eI p.at_) (eL finE p.F ++ eL refE p.R) (by rw [hb]; simp)
  have e7 := rds_l h.t.1 (fun x hx => rds_fin (h.t.2 x hx) (hc.2.1 x hx)) l (eU p.ep ++ eU p.sq ++ eU p.bo ++ eI p.at_ ++ eL helE p.H) (eL refE p.R) (by rw [hb]; simp)
  have e8 := rds_l h.s.1 (fun x hx => rds_ref (h.s.2 x hx) (hc.2.2 x hx)) l (eU p.ep ++ eU p.sq ++ eU p.bo ++ eI p.at_ ++ eL helE p.H ++ eL finE p.F) [] (by rw [hb]; simp)
  rw [List.nil_append] at e1
  have e1' : rU l (0, 0) = (p.ep, ((eU p.ep).length, 0)) := e1
  rw [← hl]
  unfold rdR
  simp only [e1', e2, e3, e4, e6, e7, e8]
  rw [show (eU p.ep ++ eU p.sq ++ eU p.bo ++ eI p.at_ ++ eL helE p.H ++ eL finE p.F ++ eL refE p.R) = l from by rw [hb]; simp]
end Go.Proofs.YtopkfomlppnpeaaGreatDoor.Ms

namespace Go.Proofs.YtopkfomlppnpeaaGreatDoor.Ms
open Go.RowKit Go.Proofs.YtopkfomlppnpeaaGreatDoor

theorem opn_frm (k : UInt8) {b : List UInt8} (h : b.length ≤ 1048576) : opn (frm k b) [k] = (k, b, 0) := by
  unfold opn
  rw [frd_frm k h]
  simp only
  rw [if_neg (by simp), if_neg (by rw [frm_len]; simp)]
theorem opn_err {b ks : List UInt8} {n : Nat} (h : (frd b).2.2.2 = n) (hn : n ≠ 0) : opn b ks = (0, [], n) := by
  unfold opn
  rw [h, if_pos hn]
theorem readP_err {b : List UInt8} {n : Nat} (h : (frd b).2.2.2 = n) (hn : n ≠ 0) : readP b = (zeP, n) := by
  unfold readP
  rw [opn_err h hn]
  exact if_pos hn
theorem readR_err {b : List UInt8} {n : Nat} (h : (frd b).2.2.2 = n) (hn : n ≠ 0) : readR b = (zeR, n) := by
  unfold readR
  rw [opn_err h hn]
  exact if_pos hn
theorem done_end (l : List UInt8) : Wire.done l l.length 0 = 0 := by
  unfold Wire.done
  rw [if_neg (by omega)]
theorem readP_frm {p : Po} (h : PoF p) (hc : CanP p) (hk : checkP p = true) : readP (frm 3 (bodyP p)) = (p, 0) := by
  have hl := bodyP_len h
  unfold readP
  rw [opn_frm 3 (by omega)]
  simp only
  rw [rds_P h hc]
  simp only
  rw [if_neg (by simp), if_neg (by rw [done_end, hk]; simp)]
theorem readR_frm {p : Rp} (h : RpF p) (hc : CanR p) (hk : checkR p = true) : readR (frm 4 (bodyR p)) = (p, 0) := by
  have hl := bodyR_len h
  unfold readR
  rw [opn_frm 4 (by omega)]
  simp only
  rw [rds_R h hc]
  simp only
  rw [if_neg (by simp), if_neg (by rw [done_end, hk]; simp)]
theorem PoW.can {w : World} {p : Po} {k t s : Value} (h : PoW w p k t s) : CanP p := ⟨h.ck, h.ct, h.cs⟩
theorem RpW.can {w : World} {p : Rp} {k t s : Value} (h : RpW w p k t s) : CanR p := ⟨h.ck, h.ct, h.cs⟩
/-- a letter that is cut is short, one that is turned is bad -/
structure Brk (rd : List UInt8 → Nat) (l : List UInt8) : Prop where
  lo : 12 ≤ l.length
  hi : l.length ≤ 2000000
  cut : ∀ i, i < l.length → rd (l.take i) = 4
  turn : ∀ j (hj : j < l.length) (c : UInt8), c ≠ l[j] → rd (l.set j c) = 5
theorem brk_P {b : List UInt8} (h : b.length ≤ 1048576) : Brk (fun l => (readP l).2) (frm 3 b) :=
  ⟨by rw [frm_len]; omega, by rw [frm_len]; omega, fun i hi => by rw [readP_err (frd_cut 3 h hi) (by decide)], fun j hj c hc => by rw [readP_err (frd_turn 3 h hj hc) (by decide)]⟩
theorem brk_R {b : List UInt8} (h : b.length ≤ 1048576) : Brk (fun l => (readR l).2) (frm 4 b) :=
  ⟨by rw [frm_len]; omega, by rw [frm_len]; omega, fun i hi => by rw [readR_err (frd_cut 4 h hi) (by decide)], fun j hj c hc => by rw [readR_err (frd_turn 4 h hj hc) (by decide)]⟩
theorem xor_ne (x y : UInt8) (h : y ≠ 0) : x ^^^ y ≠ x := fun e => by
  apply h
  have h1 : x.toNat ^^^ y.toNat = x.toNat ^^^ 0 := by
    rw [Nat.xor_zero, ← UInt8.toNat_xor, e]
  have h2 : y.toNat = 0 := by
    have h3 := congrArg (fun z => x.toNat ^^^ z) h1
    simpa [← Nat.xor_assoc] using h3
  exact UInt8.toNat_inj.1 h2
theorem x8 (x y : UInt8) : Value.int .u8 (bits .xor .u8 (x.toNat : Int) (y.toNat : Int)) = B (x ^^^ y) := by
  have hx := x.toNat_lt
  have hy := y.toNat_lt
  have of8 : ∀ n : Nat, n < 256 → (BitVec.ofInt 8 (n : Int)).toNat = n := fun n h => by rw [BitVec.toNat_ofInt]; omega
  show Value.int .u8 (IntKind.u8.wrap ((BitVec.ofInt 8 (x.toNat : Int) ^^^ BitVec.ofInt 8 (y.toNat : Int)).toNat : Int)) = Value.int .u8 ((x ^^^ y).toNat : Int)
  rw [BitVec.toNat_xor, of8 _ (by omega), of8 _ (by omega), UInt8.toNat_xor]
  have : x.toNat ^^^ y.toNat < 2 ^ 8 := Nat.xor_lt_two_pow (by omega) (by omega)
  unfold IntKind.wrap
  simp [IntKind.bits, IntKind.signed]
  omega
end Go.Proofs.YtopkfomlppnpeaaGreatDoor.Ms
