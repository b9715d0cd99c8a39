/- , laid together: MsEnc, MsFt, MsDCk. -/
import Derived.Test.YtopkfomlppnpeaaGreatDoorMEl
import Derived.Test.YtopkfomlppnpeaaGreatDoorMPl
import Derived.Lib.ItoaLen
import Derived.Test.YtopkfomlppnpeaaGreatDoorMCmp
namespace Go.Proofs.YtopkfomlppnpeaaGreatDoor.Ms
open Go.RowKit Go.Proofs.YtopkfomlppnpeaaGreatDoor

/-- a number, a text, amounts, a task with its incarnation -/
def eU (x : Int) : List UInt8 := Wire.enc x.toNat
def eI (x : Int) : List UInt8 := Wire.enc (Wire.zig x)
def eT (s : List UInt8) : List UInt8 := Wire.enc s.length ++ s
def eA (a : Am) : List UInt8 := eI a.c ++ (eI a.r ++ (eI a.d ++ eI a.p))
def eK (x : El) : List UInt8 := eT x.j ++ (eU x.i ++ eU x.n)
def envE (x : El) : List UInt8 := eT x.j ++ eA x.a
def staE (x : El) : List UInt8 := eK x ++ (eA x.a ++ eT x.s)
def stoE (x : El) : List UInt8 := eK x
def helE (x : El) : List UInt8 := eK x ++ eU x.q
def finE (x : El) : List UInt8 := eU x.k ++ (eK x ++ eU x.q)
def refE (x : El) : List UInt8 := eK x ++ eU x.q
def eL (enc : El → List UInt8) (L : List El) : List UInt8 := eU L.length ++ L.flatMap enc
def bodyP (p : Po) : List UInt8 := eU p.ep ++ (eU p.sq ++ (eU p.bo ++ (eI p.at_ ++ (eU p.le ++ (eL envE p.K ++ (eL staE p.T ++ (eL stoE p.P ++ eU p.se)))))))
def bodyR (p : Rp) : List UInt8 := eU p.ep ++ (eU p.sq ++ (eU p.bo ++ (eI p.at_ ++ (eL helE p.H ++ (eL finE p.F ++ eL refE p.R)))))
theorem eU_len (x : Int) : (eU x).length ≤ 10 := Wire.enc_len _
theorem eI_len (x : Int) : (eI x).length ≤ 10 := Wire.enc_len _
theorem eT_len (s : List UInt8) : (eT s).length ≤ 10 + s.length := by unfold eT; rw [List.length_append]; have := Wire.enc_len s.length; omega
theorem eA_len (a : Am) : (eA a).length ≤ 40 := by unfold eA; simp only [List.length_append]; have := eI_len a.c; have := eI_len a.r; have := eI_len a.d; have := eI_len a.p; omega
theorem eK_len (x : El) : (eK x).length ≤ 30 + x.j.length := by unfold eK; simp only [List.length_append]; have := eT_len x.j; have := eU_len x.i; have := eU_len x.n; omega
/-- an element that may be, as far as its bytes go -/
structure Ft (x : El) : Prop where
  j : x.j.length ≤ 100
  s : x.s.length ≤ 100
  i : 0 ≤ x.i ∧ x.i < 64
  n : 0 ≤ x.n ∧ x.n < 18446744073709551616
  q : 0 ≤ x.q ∧ x.q ≤ 258
  k : 0 ≤ x.k ∧ x.k < 18446744073709551616
  a : x.a.okB = true
theorem enc_small {x : El} (h : Ft x) : (envE x).length ≤ 300 ∧ (staE x).length ≤ 300 ∧ (stoE x).length ≤ 300 ∧ (helE x).length ≤ 300 ∧ (finE x).length ≤ 300 ∧ (refE x).length ≤ 300 := by
  have h1 := eT_len x.j
  have h2 := eT_len x.s
  have h3 := eA_len x.a
  have h4 := eK_len x
  have h5 := eU_len x.q
  have h6 := eU_len x.k
  have h7 := h.j
  have h8 := h.s
  refine ⟨?_, ?_, ?_, ?_, ?_, ?_⟩
  · unfold envE; simp only [List.length_append]; omega
  · unfold staE; simp only [List.length_append]; omega
  · unfold stoE; omega
  · unfold helE; simp only [List.length_append]; omega
  · unfold finE; simp only [List.length_append]; omega
  · unfold refE; simp only [List.length_append]; omega
theorem flat_len {enc : El → List UInt8} : ∀ (L : List El), (∀ x ∈ L, (enc x).length ≤ 300) → (L.flatMap enc).length ≤ L.length * 300
  | [], _ => by simp
  | x :: L, h => by
    rw [List.flatMap_cons, List.length_append, List.length_cons]
    have := flat_len L (fun y hy => h y (by simp [hy]))
    have := h x (by simp)
    omega
end Go.Proofs.YtopkfomlppnpeaaGreatDoor.Ms

namespace Go.Proofs.YtopkfomlppnpeaaGreatDoor.Ms
open Go.RowKit Go.Proofs.YtopkfomlppnpeaaGreatDoor

theorem taskO_ok {j s : List UInt8} {i : Int} (h : taskO j i = some s) : j.length ≤ 16 ∧ 0 ≤ i ∧ i < 64 ∧ s.length ≤ 40 := by
  unfold taskO at h
  split at h
  · next hc =>
    obtain ⟨h1, h2, h3⟩ := hc
    unfold specB at h1
    simp only [Bool.and_eq_true, decide_eq_true_eq] at h1
    have := Lib.itoa_length_le i (by omega) (by omega)
    obtain rfl := Option.some.inj h
    refine ⟨h1.1.1.2, h2, h3, ?_⟩
    simp
    omega
  · cases h
theorem tk_ok {x : El} (h : tk x = true) : x.j.length ≤ 100 ∧ 0 ≤ x.i ∧ x.i < 64 := by
  unfold tk tkB at h
  simp only [Bool.and_eq_true] at h
  obtain ⟨s, hs⟩ := Option.isSome_iff_exists.1 h.1
  obtain ⟨h1, h2, h3, -⟩ := taskO_ok hs
  exact ⟨by omega, h2, h3⟩
theorem tn_ok {l : List UInt8} (h : tnB l = true) : l.length ≤ 100 := by
  unfold tnB at h
  split at h
  · next n _ =>
    have h2 := eq_of_beq h
    have := (taskO_ok h2).2.2.2
    omega
  · cases h
theorem ft_env {x : El} (h : envM x = true) (hc : envK x) (ht : TxOk x) : Ft x := by
  unfold envM at h
  simp only [Bool.and_eq_true] at h
  obtain ⟨h1, h2, h3, h4, h5⟩ := hc
  exact ⟨tn_ok h.1, by rw [h3]; simp, by rw [h1]; omega, ht.n, by rw [h4]; omega, ht.k, h.2⟩
theorem ft_sta {x : El} (h : staM x = true) (hc : staK x) (ht : TxOk x) : Ft x := by
  unfold staM at h
  simp only [Bool.and_eq_true, Bool.or_eq_true] at h
  obtain ⟨⟨⟨h1, h2⟩, -⟩, h4⟩ := h
  obtain ⟨a1, a2, a3⟩ := tk_ok h1
  refine ⟨a1, ?_, ⟨a2, a3⟩, ht.n, by rw [hc.1]; omega, ht.k, h2⟩
  rcases h4 with h4 | h4
  · rw [eq_of_beq h4]; simp
  · exact tn_ok h4
theorem am_zero : Am.okB Am.zero = true := by decide
theorem ft_sto {x : El} (h : stoM x = true) (hc : stoK x) (ht : TxOk x) : Ft x := by
  obtain ⟨a1, a2, a3⟩ := tk_ok h
  exact ⟨a1, by rw [hc.2.1]; simp, ⟨a2, a3⟩, ht.n, by rw [hc.2.2.1]; omega, ht.k, by rw [hc.1]; exact am_zero⟩
theorem ft_hel {x : El} (h : helM x = true) (hc : helK x) (ht : TxOk x) : Ft x := by
  unfold helM at h
  simp only [Bool.and_eq_true, decide_eq_true_eq] at h
  obtain ⟨a1, a2, a3⟩ := tk_ok h.1.1
  exact ⟨a1, by rw [hc.2.1]; simp, ⟨a2, a3⟩, ht.n, by omega, ht.k, by rw [hc.1]; exact am_zero⟩
theorem ft_fin {x : El} (h : finM x = true) (hc : finK x) (ht : TxOk x) : Ft x := by
  unfold finM at h
  simp only [Bool.and_eq_true, decide_eq_true_eq] at h
  obtain ⟨a1, a2, a3⟩ := tk_ok h.1.1.1
  exact ⟨a1, by rw [hc.2]; simp, ⟨a2, a3⟩, ht.n, by omega, ht.k, by rw [hc.1]; exact am_zero⟩
theorem ft_ref {x : El} (h : refM x = true) (hc : refK x) (ht : TxOk x) : Ft x := by
  unfold refM at h
  simp only [Bool.and_eq_true, decide_eq_true_eq] at h
  obtain ⟨a1, a2, a3⟩ := tk_ok h.1.1
  exact ⟨a1, by rw [hc.2.1]; simp, ⟨a2, a3⟩, ht.n, by omega, ht.k, by rw [hc.1]; exact am_zero⟩
theorem rises_may {may : El → Bool} {lt : El → El → Bool} {L : List El} (h : risesB may lt L = true) : L.length ≤ 256 ∧ ∀ x ∈ L, may x = true := by
  unfold risesB at h
  simp only [Bool.and_eq_true, decide_eq_true_eq] at h
  refine ⟨h.2, fun x hx => ?_⟩
  obtain ⟨i, hi, rfl⟩ := List.getElem_of_mem hx
  have := List.all_eq_true.1 h.1 i (List.mem_range.2 hi)
  rw [okAt_at hi] at this
  simp only [Bool.and_eq_true] at this
  exact this.1
/-- what a poll that may be is -/
structure PoF (p : Po) : Prop where
  k : p.K.length ≤ 256 ∧ ∀ x ∈ p.K, Ft x
  t : p.T.length ≤ 256 ∧ ∀ x ∈ p.T, Ft x
  s : p.P.length ≤ 256 ∧ ∀ x ∈ p.P, Ft x
  n : (u64B p.ep ∧ 1 ≤ p.ep) ∧ u64B p.sq ∧ u64B p.bo ∧ (0 ≤ p.at_ ∧ p.at_ ≤ 1152921504606846976) ∧ (1 ≤ p.le ∧ p.le ≤ 1048576) ∧ u64B p.se
structure RpF (p : Rp) : Prop where
  k : p.H.length ≤ 256 ∧ ∀ x ∈ p.H, Ft x
  t : p.F.length ≤ 256 ∧ ∀ x ∈ p.F, Ft x
  s : p.R.length ≤ 256 ∧ ∀ x ∈ p.R, Ft x
  n : (u64B p.ep ∧ 1 ≤ p.ep) ∧ u64B p.sq ∧ u64B p.bo ∧ (0 ≤ p.at_ ∧ p.at_ ≤ 1152921504606846976)
theorem PoW.fits {w : World} {p : Po} {k t s : Value} (h : PoW w p k t s) (hc : checkP p = true) : PoF p := by
  unfold checkP at hc
  simp only [Bool.and_eq_true, decide_eq_true_eq] at hc
  obtain ⟨⟨⟨⟨⟨⟨⟨⟨⟨h1, h2⟩, h3⟩, h4⟩, h5⟩, h6⟩, h7⟩, h8⟩, h9⟩, h10⟩ := hc
  obtain ⟨a1, a2⟩ := rises_may h8
  obtain ⟨b1, b2⟩ := rises_may h9
  obtain ⟨c1, c2⟩ := rises_may h10
  obtain ⟨n1, n2, n3, n4, n5, n6⟩ := h.num
  exact ⟨⟨a1, fun x hx => ft_env (a2 x hx) (h.ck x hx) (h.tk x hx)⟩, ⟨b1, fun x hx => ft_sta (b2 x hx) (h.ct x hx) (h.tt x hx)⟩, ⟨c1, fun x hx => ft_sto (c2 x hx) (h.cs x hx) (h.ts x hx)⟩, ⟨n1, h1⟩, n2, n3, ⟨h3, h4⟩, ⟨h6, h7⟩, n6⟩
theorem RpW.fits {w : World} {p : Rp} {k t s : Value} (h : RpW w p k t s) (hc : checkR p = true) : RpF p := by
  unfold checkR at hc
  simp only [Bool.and_eq_true, decide_eq_true_eq] at hc
  obtain ⟨⟨⟨⟨⟨⟨⟨h1, h2⟩, h3⟩, h4⟩, h5⟩, h8⟩, h9⟩, h10⟩ := hc
  obtain ⟨a1, a2⟩ := rises_may h8
  obtain ⟨b1, b2⟩ := rises_may h9
  obtain ⟨c1, c2⟩ := rises_may h10
  obtain ⟨n1, n2, n3, n4⟩ := h.num
  exact ⟨⟨a1, fun x hx => ft_hel (a2 x hx) (h.ck x hx) (h.tk x hx)⟩, ⟨b1, fun x hx => ft_fin (b2 x hx) (h.ct x hx) (h.tt x hx)⟩, ⟨c1, fun x hx => ft_ref (c2 x hx) (h.cs x hx) (h.ts x hx)⟩, ⟨n1, h1⟩, n2, n3, ⟨h4, h5⟩⟩
theorem eL_len {enc : El → List UInt8} {L : List El} (hL : L.length ≤ 256) (h : ∀ x ∈ L, (enc x).length ≤ 300) : (eL enc L).length ≤ 77000 := by
  unfold eL
  rw [List.length_append]
  have := eU_len L.length
  have := flat_len L h
  omega
theorem bodyP_len {p : Po} (h : PoF p) : (bodyP p).length ≤ 300000 := by
  unfold bodyP
  simp only [List.length_append]
  have h1 := eU_len p.ep
  have h2 := eU_len p.sq
  have h3 := eU_len p.bo
  have h4 := eI_len p.at_
  have h5 := eU_len p.le
  have h6 := eU_len p.se
  have h7 := eL_len (enc := envE) h.k.1 (fun x hx => (enc_small (h.k.2 x hx)).1)
  have h8 := eL_len (enc := staE) h.t.1 (fun x hx => (enc_small (h.t.2 x hx)).2.1)
  have h9 := eL_len (enc := stoE) h.s.1 (fun x hx => (enc_small (h.s.2 x hx)).2.2.1)
  omega
theorem bodyR_len {p : Rp} (h : RpF p) : (bodyR p).length ≤ 300000 := by
  unfold bodyR
  simp only [List.length_append]
  have h1 := eU_len p.ep
  have h2 := eU_len p.sq
  have h3 := eU_len p.bo
  have h4 := eI_len p.at_
  have h7 := eL_len (enc := helE) h.k.1 (fun x hx => (enc_small (h.k.2 x hx)).2.2.2.1)
  have h8 := eL_len (enc := finE) h.t.1 (fun x hx => (enc_small (h.t.2 x hx)).2.2.2.2.1)
  have h9 := eL_len (enc := refE) h.s.1 (fun x hx => (enc_small (h.s.2 x hx)).2.2.2.2.2)
  omega
end Go.Proofs.YtopkfomlppnpeaaGreatDoor.Ms

namespace Go.Proofs.YtopkfomlppnpeaaGreatDoor.Ms
open Go.RowKit Go.Proofs.YtopkfomlppnpeaaGreatDoor

theorem rises_long {may : El → Bool} {lt : El → El → Bool} {L : List El} (h : ¬ L.length ≤ 256) : risesB may lt L = false := by
  unfold risesB
  rw [decide_eq_false h, Bool.and_false]
theorem checkP_no {p : Po} (h : p.ep = 0 ∨ p.sq = 0 ∨ p.at_ < 0 ∨ 1152921504606846976 < p.at_ ∨ (p.bo = 0 ∧ p.at_ ≠ 0) ∨ p.le < 1 ∨ 1048576 < p.le ∨ risesB envM envL p.K = false ∨ risesB staM ltT p.T = false ∨ risesB stoM ltT p.P = false) : checkP p = false := by
  cases hc : checkP p
  · rfl
  · unfold checkP at hc
    simp only [Bool.and_eq_true, decide_eq_true_eq, Bool.or_eq_true, bne_iff_ne, ne_eq, beq_iff_eq] at hc
    obtain ⟨⟨⟨⟨⟨⟨⟨⟨⟨h1, h2⟩, h3⟩, h4⟩, h5⟩, h6⟩, h7⟩, h8⟩, h9⟩, h10⟩ := hc
    rw [h8, h9, h10] at h
    simp only [Bool.true_eq_false, or_false] at h
    omega
theorem checkP_yes {p : Po} (h1 : 1 ≤ p.ep) (h2 : 1 ≤ p.sq) (h3 : ¬ p.at_ < 0) (h4 : ¬ 1152921504606846976 < p.at_) (h5 : p.bo ≠ 0 ∨ p.at_ = 0) (h6 : ¬ p.le < 1) (h7 : ¬ 1048576 < p.le) (h8 : risesB envM envL p.K = true) (h9 : risesB staM ltT p.T = true) (h10 : risesB stoM ltT p.P = true) : checkP p = true := by
  unfold checkP
  rw [h8, h9, h10]
  simp only [Bool.and_eq_true, decide_eq_true_eq, Bool.or_eq_true, bne_iff_ne, ne_eq, beq_iff_eq, and_true]
  omega
theorem checkR_no {p : Rp} (h : p.ep = 0 ∨ p.sq = 0 ∨ p.bo = 0 ∨ p.at_ < 0 ∨ 1152921504606846976 < p.at_ ∨ risesB helM ltT p.H = false ∨ risesB finM finL p.F = false ∨ risesB refM ltT p.R = false) : checkR p = false := by
  cases hc : checkR p
  · rfl
  · unfold checkR at hc
    simp only [Bool.and_eq_true, decide_eq_true_eq, Bool.or_eq_true, bne_iff_ne, ne_eq, beq_iff_eq] at hc
    obtain ⟨⟨⟨⟨⟨⟨⟨h1, h2⟩, h3⟩, h4⟩, h5⟩, h8⟩, h9⟩, h10⟩ := hc
    rw [h8, h9, h10] at h
    simp only [Bool.true_eq_false, or_false] at h
    omega
theorem checkR_yes {p : Rp} (h1 : 1 ≤ p.ep) (h2 : 1 ≤ p.sq) (h5 : 1 ≤ p.bo) (h3 : ¬ p.at_ < 0) (h4 : ¬ 1152921504606846976 < p.at_) (h8 : risesB helM ltT p.H = true) (h9 : risesB finM finL p.F = true) (h10 : risesB refM ltT p.R = true) : checkR p = true := by
  unfold checkR
  rw [h8, h9, h10]
  simp only [Bool.and_eq_true, decide_eq_true_eq, and_true]
  omega
theorem am_eql (x y : Am) (w : World) : (binOp .eql 37 (amV x) (amV y)).run Tryz.prog w = .ok (.bool (decide (x = y))) w := by
  go_simp
  obtain ⟨a, b, c, d⟩ := x
  obtain ⟨a', b', c', d'⟩ := y
  simp only [Am.mk.injEq]
  by_cases h1 : a = a'
  · rw [if_pos h1]
    by_cases h2 : b = b'
    · rw [if_pos h2]
      by_cases h3 : c = c'
      · rw [if_pos h3]
        by_cases h4 : d = d'
        · rw [if_pos h4, decide_eq_true ⟨h1, h2, h3, h4⟩]
        · rw [if_neg h4, decide_eq_false (fun h => h4 h.2.2.2)]
      · rw [if_neg h3, decide_eq_false (fun h => h3 h.2.2.1)]
    · rw [if_neg h2, decide_eq_false (fun h => h2 h.2.1)]
  · rw [if_neg h1, decide_eq_false (fun h => h1 h.1)]
theorem bytes_total : ∀ a b : List UInt8, Op.bytesLess b a = !(Op.bytesLess a b || a == b)
  | [], [] => rfl
  | [], _ :: _ => rfl
  | _ :: _, [] => rfl
  | x :: a, y :: b => by
    have h := bytes_total a b
    unfold Op.bytesLess
    rw [h]
    rcases Nat.lt_trichotomy x.toNat y.toNat with h1 | h1 | h1
    · have h2 : x < y := h1
      have h3 : ¬ y < x := fun h => Nat.lt_asymm h1 h
      have h4 : ¬ y = x := fun h => by rw [h] at h1; exact Nat.lt_irrefl _ h1
      simp [h2, h3, h4]
    · have h2 : x = y := UInt8.toNat_inj.1 h1
      subst h2
      have h3 : ¬ x < x := fun h => Nat.lt_irrefl _ h
      simp [h3]
    · have h2 : y < x := h1
      have h3 : ¬ x < y := fun h => Nat.lt_asymm h1 h
      have h4 : ¬ x = y := fun h => by rw [h] at h1; exact Nat.lt_irrefl _ h1
      have h5 : ¬ y = x := fun h => h4 h.symm
      simp [h2, h3, h4]
theorem envL_leq (x y : El) : envL y x = !(bl x.j y.j || x.j == y.j) := by
  unfold envL bl
  rw [bytes_total, beq_bs]
theorem env_tn {x : El} (h : tnB x.j = false) : envM x = false := by unfold envM; rw [h]; rfl
theorem env_ok {x : El} (h : x.a.okB = false) : envM x = false := by unfold envM; rw [h, Bool.and_false]
theorem env_yes {x : El} (h : tnB x.j = true) (h1 : x.a.okB = true) : envM x = true := by unfold envM; rw [h, h1]; rfl
theorem sta_tt {x : El} (h : tk x = false) : staM x = false := by unfold staM; rw [h]; rfl
theorem sta_ok {x : El} (h : x.a.okB = false) : staM x = false := by unfold staM; rw [h, Bool.and_false]; rfl
theorem sta_nz {x : El} (h : decide (x.a = Am.zero) = true) : staM x = false := by unfold staM; rw [h]; simp
theorem sta_sv {x : El} (h : (x.s == []) = false) (h1 : tnB x.s = false) : staM x = false := by unfold staM; rw [h, h1]; simp
theorem sta_yes {x : El} (h : tk x = true) (h1 : x.a.okB = true) (h2 : decide (x.a = Am.zero) = false) (h3 : (x.s == []) = true ∨ tnB x.s = true) : staM x = true := by
  unfold staM
  rw [h, h1, h2]
  rcases h3 with h3 | h3
  · rw [h3]; rfl
  · rw [h3]; simp
theorem sto_tt {x : El} (h : tk x = false) : stoM x = false := h
theorem sto_yes {x : El} (h : tk x = true) : stoM x = true := h
theorem hel_tt {x : El} (h : tk x = false) : helM x = false := by unfold helM; rw [h]; rfl
theorem hel_q1 {x : El} (h : x.q < 1) : helM x = false := by unfold helM; rw [decide_eq_false (p := 1 ≤ x.q) (by omega)]; simp
theorem hel_q3 {x : El} (h : 3 < x.q) : helM x = false := by unfold helM; rw [decide_eq_false (p := x.q ≤ 3) (by omega)]; simp
theorem hel_yes {x : El} (h : tk x = true) (h1 : ¬ x.q < 1) (h2 : ¬ 3 < x.q) : helM x = true := by unfold helM; rw [h, decide_eq_true (p := 1 ≤ x.q) (by omega), decide_eq_true (p := x.q ≤ 3) (by omega)]; rfl
theorem ref_tt {x : El} (h : tk x = false) : refM x = false := by unfold refM; rw [h]; rfl
theorem ref_q1 {x : El} (h : x.q < 1) : refM x = false := by unfold refM; rw [decide_eq_false (p := 1 ≤ x.q) (by omega)]; simp
theorem ref_q3 {x : El} (h : 19 < x.q) : refM x = false := by unfold refM; rw [decide_eq_false (p := x.q ≤ 19) (by omega)]; simp
theorem ref_yes {x : El} (h : tk x = true) (h1 : ¬ x.q < 1) (h2 : ¬ 19 < x.q) : refM x = true := by unfold refM; rw [h, decide_eq_true (p := 1 ≤ x.q) (by omega), decide_eq_true (p := x.q ≤ 19) (by omega)]; rfl
theorem fin_tt {x : El} (h : tk x = false) : finM x = false := by unfold finM; rw [h]; rfl
theorem fin_k0 {x : El} (h : x.k = 0) : finM x = false := by unfold finM; rw [decide_eq_false (p := 1 ≤ x.k) (by omega)]; simp
theorem fin_q1 {x : El} (h : x.q < 0) : finM x = false := by unfold finM; rw [decide_eq_false (p := 0 ≤ x.q) (by omega)]; simp
theorem fin_q3 {x : El} (h : 258 < x.q) : finM x = false := by unfold finM; rw [decide_eq_false (p := x.q ≤ 258) (by omega)]; simp
theorem fin_yes {x : El} (h0 : 0 ≤ x.k) (h : tk x = true) (hk : x.k ≠ 0) (h1 : ¬ x.q < 0) (h2 : ¬ 258 < x.q) : finM x = true := by unfold finM; rw [h, decide_eq_true (p := 1 ≤ x.k) (by omega), decide_eq_true (p := 0 ≤ x.q) (by omega), decide_eq_true (p := x.q ≤ 258) (by omega)]; rfl
theorem tk_task (x : El) : tk x = (tkB x.j x.i && decide (0 < x.n)) := by unfold tk; congr 1
end Go.Proofs.YtopkfomlppnpeaaGreatDoor.Ms
