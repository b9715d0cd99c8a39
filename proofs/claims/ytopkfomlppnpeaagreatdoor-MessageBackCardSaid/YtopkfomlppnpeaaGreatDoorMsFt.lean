/- MsFt. -/
import Derived.Test.YtopkfomlppnpeaaGreatDoorMsEnc
import Derived.Lib.ItoaLen
namespace Go.Proofs.YtopkfomlppnpeaaGreatDoor.Ms
open Go.RowKit Go.Proofs.YtopkfomlppnpeaaGreatDoor

theorem taskO_ok {j s : List UInt8} {i : Int} (h : taskO j i = some s) : j.length ≤ 16 ∧ 0 ≤ i ∧ i < 64 ∧ s.length ≤ 40 := by
  unfold taskO at h
  split at h
  · next hc =>
    obtain ⟨h1, h2, h3⟩ := hc
    unfold specB at h1
    simp only [Bool.and_eq_true, decide_eq_true_eq] at h1
    have := Lib.itoa_length_le i (by omega) (by omega)
    obtain rfl := Option.some.inj h
    refine ⟨h1.1.1.2, h2, h3, ?_⟩
    simp
    omega
  · cases h
theorem tk_ok {x : El} (h : tk x = true) : x.j.length ≤ 100 ∧ 0 ≤ x.i ∧ x.i < 64 := by
  unfold tk tkB at h
  simp only [Bool.and_eq_true] at h
  obtain ⟨s, hs⟩ := Option.isSome_iff_exists.1 h.1
  obtain ⟨h1, h2, h3, -⟩ := taskO_ok hs
  exact ⟨by omega, h2, h3⟩
theorem tn_ok {l : List UInt8} (h : tnB l = true) : l.length ≤ 100 := by
  unfold tnB at h
  split at h
  · next n _ =>
    have h2 := eq_of_beq h
    have := (taskO_ok h2).2.2.2
    omega
  · cases h
theorem ft_env {x : El} (h : envM x = true) (hc : envK x) (ht : TxOk x) : Ft x := by
  unfold envM at h
  simp only [Bool.and_eq_true] at h
  obtain ⟨h1, h2, h3, h4, h5⟩ := hc
  exact ⟨tn_ok h.1, by rw [h3]; simp, by rw [h1]; omega, ht.n, by rw [h4]; omega, ht.k, h.2⟩
theorem ft_sta {x : El} (h : staM x = true) (hc : staK x) (ht : TxOk x) : Ft x := by
  unfold staM at h
  simp only [Bool.and_eq_true, Bool.or_eq_true] at h
  obtain ⟨⟨⟨h1, h2⟩, -⟩, h4⟩ := h
  obtain ⟨a1, a2, a3⟩ := tk_ok h1
  refine ⟨a1, ?_, ⟨a2, a3⟩, ht.n, by rw [hc.1]; omega, ht.k, h2⟩
  rcases h4 with h4 | h4
  · rw [eq_of_beq h4]; simp
  · exact tn_ok h4
theorem am_zero : Am.okB Am.zero = true := by decide
theorem ft_sto {x : El} (h : stoM x = true) (hc : stoK x) (ht : TxOk x) : Ft x := by
  obtain ⟨a1, a2, a3⟩ := tk_ok h
  exact ⟨a1, by rw [hc.2.1]; simp, ⟨a2, a3⟩, ht.n, by rw [hc.2.2.1]; omega, ht.k, by rw [hc.1]; exact am_zero⟩
theorem ft_hel {x : El} (h : helM x = true) (hc : helK x) (ht : TxOk x) : Ft x := by
  unfold helM at h
  simp only [Bool.and_eq_true, decide_eq_true_eq] at h
  obtain ⟨a1, a2, a3⟩ := tk_ok h.1.1
  exact ⟨a1, by rw [hc.2.1]; simp, ⟨a2, a3⟩, ht.n, by omega, ht.k, by rw [hc.1]; exact am_zero⟩
theorem ft_fin {x : El} (h : finM x = true) (hc : finK x) (ht : TxOk x) : Ft x := by
  unfold finM at h
  simp only [Bool.and_eq_true, decide_eq_true_eq] at h
  obtain ⟨a1, a2, a3⟩ := tk_ok h.1.1.1
  exact ⟨a1, by rw [hc.2]; simp, ⟨a2, a3⟩, ht.n, by omega, ht.k, by rw [hc.1]; exact am_zero⟩
theorem ft_ref {x : El} (h : refM x = true) (hc : refK x) (ht : TxOk x) : Ft x := by
  unfold refM at h
  simp only [Bool.and_eq_true, decide_eq_true_eq] at h
  obtain ⟨a1, a2, a3⟩ := tk_ok h.1.1
  exact ⟨a1, by rw [hc.2.1]; simp, ⟨a2, a3⟩, ht.n, by omega, ht.k, by rw [hc.1]; exact am_zero⟩
theorem rises_may {may : El → Bool} {lt : El → El → Bool} {L : List El} (h : risesB may lt L = true) : L.length ≤ 256 ∧ ∀ x ∈ L, may x = true := by
  unfold risesB at h
  simp only [Bool.and_eq_true, decide_eq_true_eq] at h
  refine ⟨h.2, fun x hx => ?_⟩
  obtain ⟨i, hi, rfl⟩ := List.getElem_of_mem hx
  have := List.all_eq_true.1 h.1 i (List.mem_range.2 hi)
  rw [okAt_at hi] at this
  simp only [Bool.and_eq_true] at this
  exact this.1
/-- what a poll that may be is -/
structure PoF (p : Po) : Prop where
  k : p.K.length ≤ 256 ∧ ∀ x ∈ p.K, Ft x
  t : p.T.length ≤ 256 ∧ ∀ x ∈ p.T, Ft x
  s : p.P.length ≤ 256 ∧ ∀ x ∈ p.P, Ft x
  n : (u64B p.ep ∧ 1 ≤ p.ep) ∧ u64B p.sq ∧ u64B p.bo ∧ (0 ≤ p.at_ ∧ p.at_ ≤ 1152921504606846976) ∧ (1 ≤ p.le ∧ p.le ≤ 1048576) ∧ u64B p.se
structure RpF (p : Rp) : Prop where
  k : p.H.length ≤ 256 ∧ ∀ x ∈ p.H, Ft x
  t : p.F.length ≤ 256 ∧ ∀ x ∈ p.F, Ft x
  s : p.R.length ≤ 256 ∧ ∀ x ∈ p.R, Ft x
  n : (u64B p.ep ∧ 1 ≤ p.ep) ∧ u64B p.sq ∧ u64B p.bo ∧ (0 ≤ p.at_ ∧ p.at_ ≤ 1152921504606846976)
theorem PoW.fits {w : World} {p : Po} {k t s : Value} (h : PoW w p k t s) (hc : checkP p = true) : PoF p := by
  unfold checkP at hc
  simp only [Bool.and_eq_true, decide_eq_true_eq] at hc
  obtain ⟨⟨⟨⟨⟨⟨⟨⟨⟨h1, h2⟩, h3⟩, h4⟩, h5⟩, h6⟩, h7⟩, h8⟩, h9⟩, h10⟩ := hc
  obtain ⟨a1, a2⟩ := rises_may h8
  obtain ⟨b1, b2⟩ := rises_may h9
  obtain ⟨c1, c2⟩ := rises_may h10
  obtain ⟨n1, n2, n3, n4, n5, n6⟩ := h.num
  exact ⟨⟨a1, fun x hx => ft_env (a2 x hx) (h.ck x hx) (h.tk x hx)⟩, ⟨b1, fun x hx => ft_sta (b2 x hx) (h.ct x hx) (h.tt x hx)⟩, ⟨c1, fun x hx => ft_sto (c2 x hx) (h.cs x hx) (h.ts x hx)⟩, ⟨n1, h1⟩, n2, n3, ⟨h3, h4⟩, ⟨h6, h7⟩, n6⟩
theorem RpW.fits {w : World} {p : Rp} {k t s : Value} (h : RpW w p k t s) (hc : checkR p = true) : RpF p := by
  unfold checkR at hc
  simp only [Bool.and_eq_true, decide_eq_true_eq] at hc
  obtain ⟨⟨⟨⟨⟨⟨⟨h1, h2⟩, h3⟩, h4⟩, h5⟩, h8⟩, h9⟩, h10⟩ := hc
  obtain ⟨a1, a2⟩ := rises_may h8
  obtain ⟨b1, b2⟩ := rises_may h9
  obtain ⟨c1, c2⟩ := rises_may h10
  obtain ⟨n1, n2, n3, n4⟩ := h.num
  exact ⟨⟨a1, fun x hx => ft_hel (a2 x hx) (h.ck x hx) (h.tk x hx)⟩, ⟨b1, fun x hx => ft_fin (b2 x hx) (h.ct x hx) (h.tt x hx)⟩, ⟨c1, fun x hx => ft_ref (c2 x hx) (h.cs x hx) (h.ts x hx)⟩, ⟨n1, h1⟩, n2, n3, ⟨h4, h5⟩⟩
theorem eL_len {enc : El → List UInt8} {L : List El} (hL : L.length ≤ 256) (h : ∀ x ∈ L, (enc x).length ≤ 300) : (eL enc L).length ≤ 77000 := by
  unfold eL
  rw [List.length_append]
  have := eU_len L.length
  have := flat_len L h
  omega
theorem bodyP_len {p : Po} (h : PoF p) : (bodyP p).length ≤ 300000 := by
  unfold bodyP
  simp only [List.length_append]
  have h1 := eU_len p.ep
  have h2 := eU_len p.sq
  have h3 := eU_len p.bo
  have h4 := eI_len p.at_
  have h5 := eU_len p.le
  have h6 := eU_len p.se
  have h7 := eL_len (enc := envE) h.k.1 (fun x hx => (enc_small (h.k.2 x hx)).1)
  have h8 := eL_len (enc := staE) h.t.1 (fun x hx => (enc_small (h.t.2 x hx)).2.1)
  have h9 := eL_len (enc := stoE) h.s.1 (fun x hx => (enc_small (h.s.2 x hx)).2.2.1)
  omega
theorem bodyR_len {p : Rp} (h : RpF p) : (bodyR p).length ≤ 300000 := by
  unfold bodyR
  simp only [List.length_append]
  have h1 := eU_len p.ep
  have h2 := eU_len p.sq
  have h3 := eU_len p.bo
  have h4 := eI_len p.at_
  have h7 := eL_len (enc := helE) h.k.1 (fun x hx => (enc_small (h.k.2 x hx)).2.2.2.1)
  have h8 := eL_len (enc := finE) h.t.1 (fun x hx => (enc_small (h.t.2 x hx)).2.2.2.2.1)
  have h9 := eL_len (enc := refE) h.s.1 (fun x hx => (enc_small (h.s.2 x hx)).2.2.2.2.2)
  omega
end Go.Proofs.YtopkfomlppnpeaaGreatDoor.Ms
