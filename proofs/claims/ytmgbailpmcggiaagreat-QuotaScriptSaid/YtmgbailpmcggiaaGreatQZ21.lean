/- Texts of one proof, laid together: RQSame. No condition of ours. -/
import Derived.Test.YtmgbailpmcggiaaGreatQZ20
namespace Go.Proofs.YtmgbailpmcggiaaGreat
open Go.RowKit

theorem rgranted_p {base g n : Nat} {vG vC : Value} {S G : List Gr} {C : List Ch} {u : ByteArray} {d : Int} {w : World} (h : RBk base w g vG vC S C) (hq : QI n G C) (hs : Sg S G) {z : Am} {e : Int} (hp : grantedP G u d = (z, e)) :
    Calls Tryz.prog 21 #[ptr g, .string u, .int .i64 d] w fun e' w' => e' = .returned (.tuple #[amV z, .int .i64 e]) ∧ Below w.heap.size w w' :=
  (rGranted_any base g vG vC S C u d w h).mono fun e' w' ⟨h1, h2⟩ => ⟨by
    rw [h1]
    unfold grantedP at hp
    cases hk : askB u d
    · rw [hk] at hp
      cases hp; rfl
    · rw [hk] at hp
      rw [ask_gfind hq hs hk]
      cases hp; rfl, h2⟩
theorem row_later {w w' : World} {base : Nat} {e : TypeId} {size n : Nat} {v : Value} {xs : List Value} (h : w.ownsRow base e size v n xs) (h1 : ∀ u ∈ xs, u.oneCell' = true) (hb : Below w.heap.size w w') : Row w' v size n xs :=
  row_of_owns (own_fr h (Fr.of_below hb []) (fun _ _ => by simp)) h1

set_option maxRecDepth 100000 in
set_option maxHeartbeats 6000000 in
theorem tq_same {w0 w : World} {b mg mc g n : Nat} {G S : List Gr} {C : List Ch} (h : Tq w0 w b mg mc g n G S C C) (hsg : Sg S G) (hn : n ≤ 1000) (u : ByteArray) (d : Int) (hd1 : -9223372036854775808 ≤ d) (hd2 : d ≤ 9223372036854775807) :
    Calls Tryz.prog 8 #[ptr b, ptr g, .string u, .int .i64 d] w fun e w' => e = .returned (.bool true) ∧ Below w.heap.size w w' := by
  have hq := h.bo.qi
  have hlC : C.length ≤ 100000 := by have := hq.lenC; omega
  obtain ⟨y, e1, hp1⟩ : ∃ y e1, usedP C u d = (y, e1) := ⟨_, _, rfl⟩
  obtain ⟨gr, e2, hp2⟩ : ∃ gr e2, grantedP G u d = (gr, e2) := ⟨_, _, rfl⟩
  obtain ⟨lf, e3, hp3⟩ : ∃ lf e3, leftP G C u d = (lf, e3) := ⟨_, _, rfl⟩
  have HC1 : Hid (∀ w', Tq w0 w' b mg mc g n G S C C → Calls Tryz.prog 18 #[ptr b, .string u, .int .i64 d] w' fun e w2 => e = .returned (.tuple #[.agg #[.int .i64 y.c, .int .i64 y.r, .int .i64 y.d, .int .i64 y.p], .int .i64 e1]) ∧ Below w'.heap.size w' w2) := Lib.hid (fun w' h' => (bo_used h'.bo u d hd1 hd2 hp1))
  have HC2 : Hid (∀ w', Tq w0 w' b mg mc g n G S C C → Calls Tryz.prog 19 #[ptr g, .string u, .int .i64 d] w' fun e w2 => e = .returned (.tuple #[.agg #[.int .i64 y.c, .int .i64 y.r, .int .i64 y.d, .int .i64 y.p], .int .i64 e1]) ∧ Below w'.heap.size w' w2) := Lib.hid (fun w' h' => (by obtain ⟨vG, vC, hr⟩ := h'.rb; have := rUsed_any _ g n vG vC S G C u d w' hr hq hsg hlC; rw [hp1] at this; exact this))
  have HC3 : Hid (∀ w', Tq w0 w' b mg mc g n G S C C → Calls Tryz.prog 20 #[ptr b, .string u, .int .i64 d] w' fun e w2 => e = .returned (.tuple #[.agg #[.int .i64 gr.c, .int .i64 gr.r, .int .i64 gr.d, .int .i64 gr.p], .int .i64 e2]) ∧ Below w'.heap.size w' w2) := Lib.hid (fun w' h' => (bo_granted h'.bo u d hd1 hd2 hp2))
  have HC4 : Hid (∀ w', Tq w0 w' b mg mc g n G S C C → Calls Tryz.prog 21 #[ptr g, .string u, .int .i64 d] w' fun e w2 => e = .returned (.tuple #[.agg #[.int .i64 gr.c, .int .i64 gr.r, .int .i64 gr.d, .int .i64 gr.p], .int .i64 e2]) ∧ Below w'.heap.size w' w2) := Lib.hid (fun w' h' => (by obtain ⟨vG, vC, hr⟩ := h'.rb; exact rgranted_p hr hq hsg hp2))
  have HC5 : Hid (∀ w', Tq w0 w' b mg mc g n G S C C → Calls Tryz.prog 22 #[ptr b, .string u, .int .i64 d] w' fun e w2 => e = .returned (.tuple #[.agg #[.int .i64 lf.c, .int .i64 lf.r, .int .i64 lf.d, .int .i64 lf.p], .int .i64 e3]) ∧ Below w'.heap.size w' w2) := Lib.hid (fun w' h' => (bo_left h'.bo u d hd1 hd2 hp3))
  have HC6 : Hid (∀ w', Tq w0 w' b mg mc g n G S C C → Calls Tryz.prog 23 #[ptr g, .string u, .int .i64 d] w' fun e w2 => e = .returned (.tuple #[.agg #[.int .i64 lf.c, .int .i64 lf.r, .int .i64 lf.d, .int .i64 lf.p], .int .i64 e3]) ∧ Below w'.heap.size w' w2) := Lib.hid (fun w' h' => (by obtain ⟨vG, vC, hr⟩ := h'.rb; have := rLeft_any _ g n vG vC S G C u d w' hr hq hsg hlC; rw [hp3] at this; exact this))
  have HCH : Hid (∀ w', Tq w0 w' b mg mc g n G S C C → Calls Tryz.prog 25 #[ptr b] w' fun e w2 => ∃ v, e = .returned v ∧ (∀ w3, Below w2.heap.size w2 w3 → Row w3 v 7 C.length (rwC chC C)) ∧ Below w'.heap.size w' w2) := Lib.hid (fun w' h' => (bo_charges h'.bo hn).mono fun e w2 ⟨v, h1, h2, h3⟩ => ⟨v, h1, fun w3 hb => row_later h2 (rwC_one chC_one C) hb, h3⟩)
  have HGH : Hid (∀ w', Tq w0 w' b mg mc g n G S C C → Calls Tryz.prog 27 #[ptr b] w' fun e w2 => ∃ v, e = .returned v ∧ (∀ w3, Below w2.heap.size w2 w3 → Row w3 v 6 S.length (rwC grC S)) ∧ Below w'.heap.size w' w2) := Lib.hid (fun w' h' => (bo_had h'.bo hn).mono fun e w2 ⟨p, c, S2, h1, hp, hs, hrow, hb⟩ => by
    obtain rfl : S2 = S := gsorted_one hs hsg.rise (hp.trans hsg.perm.symm)
    exact ⟨_, h1, fun w3 hb3 => hrow w3 (Fr.of_below hb3 _), hb⟩)
  have HOH : Hid (∀ w', Tq w0 w' b mg mc g n G S C C → Calls Tryz.prog 28 #[ptr b] w' fun e w2 => ∃ v, e = .returned v ∧ (∀ w3, Below w2.heap.size w2 w3 → Row w3 v 7 (overP G C).length (rwC chC (overP G C))) ∧ Below w'.heap.size w' w2) := Lib.hid (fun w' h' => (bo_over h'.bo hn).mono fun e w2 ⟨v, h1, h2, h3⟩ => ⟨v, h1, fun w3 hb => row_later h2 (rwC_one chC_one _) hb, h3⟩)
  have HDH : Hid (∀ w', Tq w0 w' b mg mc g n G S C C → Calls Tryz.prog 29 #[ptr g] w' fun e w2 => ∃ v, e = .returned v ∧ (∀ w3, Below w2.heap.size w2 w3 → Row w3 v 7 (overP G C).length (rwC chC (overP G C))) ∧ Below w'.heap.size w' w2) := Lib.hid (fun w' h' => by
    obtain ⟨vG, vC, hr⟩ := h'.rb
    exact (rOver_any _ g n vG vC S G C w' hr hq hsg hlC).mono fun e w2 ⟨v, h1, h2, h3⟩ => ⟨v, h1, fun w3 hb => row_later h2 (rwC_one chC_one _) hb, h3⟩)
  have H0 := Lib.hid h
  have HB0 : Hid (Below w.heap.size w w) := Lib.hid (Below.refl _ _)
  clear h hq hsg hp1 hp2 hp3 hlC
  go_enter Tryz.func8, Tryz.ntmps8
  go_upto_region 2 with (go_at_call 18; refine (HC1.out _ H0.out).mono ?_; rintro e v1 ⟨rfl, hb⟩; have HV := Lib.hid hb; clear hb)
  refine at_hide (F := fun w' => Blk w' v1.heap.size (amC y) 34 ∧ Tq w0 w' b mg mc g n G S C C ∧ Below w.heap.size w w') ⟨Blk.made v1 (amC y) _, (H0.out.kept HV.out).kept (below_alloc _ _), below_and HB0.out (below_and HV.out (below_alloc _ _))⟩ ?_
  intro w1 hF
  obtain ⟨k1, hk⟩ : ∃ k, k = v1.heap.size := ⟨_, rfl⟩
  rw [← hk] at hF ⊢
  obtain ⟨f0, fT, fB⟩ := hF
  clear HV hk H0 HB0
  have K1 := Lib.hid f0
  have H1 := Lib.hid fT
  have HB1 := Lib.hid fB
  clear f0 fT fB
  clear v1 
  go_upto_region 3 with (go_at_call 19; refine (HC2.out _ H1.out).mono ?_; rintro e v2 ⟨rfl, hb⟩; have HV := Lib.hid hb; clear hb)
  refine at_hide (F := fun w' => Blk w' v2.heap.size (amC y) 34 ∧ Blk w' k1 (amC y) 34 ∧ Tq w0 w' b mg mc g n G S C C ∧ Below w.heap.size w w') ⟨Blk.made v2 (amC y) _, (K1.out.kept HV.out).kept (below_alloc _ _), (H1.out.kept HV.out).kept (below_alloc _ _), below_and HB1.out (below_and HV.out (below_alloc _ _))⟩ ?_
  intro w2 hF
  obtain ⟨k2, hk⟩ : ∃ k, k = v2.heap.size := ⟨_, rfl⟩
  rw [← hk] at hF ⊢
  obtain ⟨f0, f1, fT, fB⟩ := hF
  clear HV hk H1 HB1 K1
  have K2 := Lib.hid f0
  have K1 := Lib.hid f1
  have H2 := Lib.hid fT
  have HB2 := Lib.hid fB
  clear f0 fT fB f1
  clear v2 w1
  go_upto_region 4 with (go_at_call 20; refine (HC3.out _ H2.out).mono ?_; rintro e v3 ⟨rfl, hb⟩; have HV := Lib.hid hb; clear hb)
  refine at_hide (F := fun w' => Blk w' v3.heap.size (amC gr) 34 ∧ Blk w' k1 (amC y) 34 ∧ Blk w' k2 (amC y) 34 ∧ Tq w0 w' b mg mc g n G S C C ∧ Below w.heap.size w w') ⟨Blk.made v3 (amC gr) _, (K1.out.kept HV.out).kept (below_alloc _ _), (K2.out.kept HV.out).kept (below_alloc _ _), (H2.out.kept HV.out).kept (below_alloc _ _), below_and HB2.out (below_and HV.out (below_alloc _ _))⟩ ?_
  intro w3 hF
  obtain ⟨k3, hk⟩ : ∃ k, k = v3.heap.size := ⟨_, rfl⟩
  rw [← hk] at hF ⊢
  obtain ⟨f0, f1, f2, fT, fB⟩ := hF
  clear HV hk H2 HB2 K1 K2
  have K3 := Lib.hid f0
  have K1 := Lib.hid f1
  have K2 := Lib.hid f2
  have H3 := Lib.hid fT
  have HB3 := Lib.hid fB
  clear f0 fT fB f1 f2
  clear v3 w2
  go_upto_region 5 with (go_at_call 21; refine (HC4.out _ H3.out).mono ?_; rintro e v4 ⟨rfl, hb⟩; have HV := Lib.hid hb; clear hb)
  refine at_hide (F := fun w' => Blk w' v4.heap.size (amC gr) 34 ∧ Blk w' k1 (amC y) 34 ∧ Blk w' k2 (amC y) 34 ∧ Blk w' k3 (amC gr) 34 ∧ Tq w0 w' b mg mc g n G S C C ∧ Below w.heap.size w w') ⟨Blk.made v4 (amC gr) _, (K1.out.kept HV.out).kept (below_alloc _ _), (K2.out.kept HV.out).kept (below_alloc _ _), (K3.out.kept HV.out).kept (below_alloc _ _), (H3.out.kept HV.out).kept (below_alloc _ _), below_and HB3.out (below_and HV.out (below_alloc _ _))⟩ ?_
  intro w4 hF
  obtain ⟨k4, hk⟩ : ∃ k, k = v4.heap.size := ⟨_, rfl⟩
  rw [← hk] at hF ⊢
  obtain ⟨f0, f1, f2, f3, fT, fB⟩ := hF
  clear HV hk H3 HB3 K1 K2 K3
  have K4 := Lib.hid f0
  have K1 := Lib.hid f1
  have K2 := Lib.hid f2
  have K3 := Lib.hid f3
  have H4 := Lib.hid fT
  have HB4 := Lib.hid fB
  clear f0 fT fB f1 f2 f3
  clear v4 w3
  go_upto_region 6 with (go_at_call 22; refine (HC5.out _ H4.out).mono ?_; rintro e v5 ⟨rfl, hb⟩; have HV := Lib.hid hb; clear hb)
  refine at_hide (F := fun w' => Blk w' v5.heap.size (amC lf) 34 ∧ Blk w' k1 (amC y) 34 ∧ Blk w' k2 (amC y) 34 ∧ Blk w' k3 (amC gr) 34 ∧ Blk w' k4 (amC gr) 34 ∧ Tq w0 w' b mg mc g n G S C C ∧ Below w.heap.size w w') ⟨Blk.made v5 (amC lf) _, (K1.out.kept HV.out).kept (below_alloc _ _), (K2.out.kept HV.out).kept (below_alloc _ _), (K3.out.kept HV.out).kept (below_alloc _ _), (K4.out.kept HV.out).kept (below_alloc _ _), (H4.out.kept HV.out).kept (below_alloc _ _), below_and HB4.out (below_and HV.out (below_alloc _ _))⟩ ?_
  intro w5 hF
  obtain ⟨k5, hk⟩ : ∃ k, k = v5.heap.size := ⟨_, rfl⟩
  rw [← hk] at hF ⊢
  obtain ⟨f0, f1, f2, f3, f4, fT, fB⟩ := hF
  clear HV hk H4 HB4 K1 K2 K3 K4
  have K5 := Lib.hid f0
  have K1 := Lib.hid f1
  have K2 := Lib.hid f2
  have K3 := Lib.hid f3
  have K4 := Lib.hid f4
  have H5 := Lib.hid fT
  have HB5 := Lib.hid fB
  clear f0 fT fB f1 f2 f3 f4
  clear v5 w4
  go_upto_region 7 with (go_at_call 23; refine (HC6.out _ H5.out).mono ?_; rintro e v6 ⟨rfl, hb⟩; have HV := Lib.hid hb; clear hb)
  refine at_hide (F := fun w' => Blk w' v6.heap.size (amC lf) 34 ∧ Blk w' k1 (amC y) 34 ∧ Blk w' k2 (amC y) 34 ∧ Blk w' k3 (amC gr) 34 ∧ Blk w' k4 (amC gr) 34 ∧ Blk w' k5 (amC lf) 34 ∧ Tq w0 w' b mg mc g n G S C C ∧ Below w.heap.size w w') ⟨Blk.made v6 (amC lf) _, (K1.out.kept HV.out).kept (below_alloc _ _), (K2.out.kept HV.out).kept (below_alloc _ _), (K3.out.kept HV.out).kept (below_alloc _ _), (K4.out.kept HV.out).kept (below_alloc _ _), (K5.out.kept HV.out).kept (below_alloc _ _), (H5.out.kept HV.out).kept (below_alloc _ _), below_and HB5.out (below_and HV.out (below_alloc _ _))⟩ ?_
  intro w6 hF
  obtain ⟨k6, hk⟩ : ∃ k, k = v6.heap.size := ⟨_, rfl⟩
  rw [← hk] at hF ⊢
  obtain ⟨f0, f1, f2, f3, f4, f5, fT, fB⟩ := hF
  clear HV hk H5 HB5 K1 K2 K3 K4 K5
  have K6 := Lib.hid f0
  have K1 := Lib.hid f1
  have K2 := Lib.hid f2
  have K3 := Lib.hid f3
  have K4 := Lib.hid f4
  have K5 := Lib.hid f5
  have H6 := Lib.hid fT
  have HB6 := Lib.hid fB
  clear f0 fT fB f1 f2 f3 f4 f5
  clear v6 w5
  obtain ⟨vG, vC, hr⟩ := H6.out.rb
  obtain ⟨pG, cG, rfl, -, -⟩ := own_slice hr.gr
  obtain ⟨pC, cC, rfl, -, -⟩ := own_slice hr.ch
  have HGR : Hid (∀ w3, Below w6.heap.size w6 w3 → Row w3 (.slice pG S.length cG) 6 S.length (rwC grC S)) := Lib.hid (fun w3 hb => row_later hr.gr (rwC_one grC_one S) hb)
  have HCR : Hid (∀ w3, Below w6.heap.size w6 w3 → Row w3 (.slice pC C.length cC) 7 C.length (rwC chC C)) := Lib.hid (fun w3 hb => row_later hr.ch (rwC_one chC_one C) hb)
  have HSS : Hid (∀ w', Below w6.heap.size w6 w' → w'.cell? ⟨k1, 0, none⟩ = some (.int .i64 y.c) ∧ w'.cell? ⟨k1, 1, none⟩ = some (.int .i64 y.r) ∧ w'.cell? ⟨k1, 2, none⟩ = some (.int .i64 y.d) ∧ w'.cell? ⟨k1, 3, none⟩ = some (.int .i64 y.p) ∧ w'.cell? ⟨k2, 0, none⟩ = some (.int .i64 y.c) ∧ w'.cell? ⟨k2, 1, none⟩ = some (.int .i64 y.r) ∧ w'.cell? ⟨k2, 2, none⟩ = some (.int .i64 y.d) ∧ w'.cell? ⟨k2, 3, none⟩ = some (.int .i64 y.p) ∧ w'.cell? ⟨k3, 0, none⟩ = some (.int .i64 gr.c) ∧ w'.cell? ⟨k3, 1, none⟩ = some (.int .i64 gr.r) ∧ w'.cell? ⟨k3, 2, none⟩ = some (.int .i64 gr.d) ∧ w'.cell? ⟨k3, 3, none⟩ = some (.int .i64 gr.p) ∧ w'.cell? ⟨k4, 0, none⟩ = some (.int .i64 gr.c) ∧ w'.cell? ⟨k4, 1, none⟩ = some (.int .i64 gr.r) ∧ w'.cell? ⟨k4, 2, none⟩ = some (.int .i64 gr.d) ∧ w'.cell? ⟨k4, 3, none⟩ = some (.int .i64 gr.p) ∧ w'.cell? ⟨k5, 0, none⟩ = some (.int .i64 lf.c) ∧ w'.cell? ⟨k5, 1, none⟩ = some (.int .i64 lf.r) ∧ w'.cell? ⟨k5, 2, none⟩ = some (.int .i64 lf.d) ∧ w'.cell? ⟨k5, 3, none⟩ = some (.int .i64 lf.p) ∧ w'.cell? ⟨k6, 0, none⟩ = some (.int .i64 lf.c) ∧ w'.cell? ⟨k6, 1, none⟩ = some (.int .i64 lf.r) ∧ w'.cell? ⟨k6, 2, none⟩ = some (.int .i64 lf.d) ∧ w'.cell? ⟨k6, 3, none⟩ = some (.int .i64 lf.p) ∧ w'.cell? ⟨g, 0, none⟩ = some (.slice pG S.length cG) ∧ w'.cell? ⟨g, 1, none⟩ = some (.slice pC C.length cC)) := Lib.hid (fun w' hb => ⟨(K1.out.kept hb).cell (j := 0) rfl, (K1.out.kept hb).cell (j := 1) rfl, (K1.out.kept hb).cell (j := 2) rfl, (K1.out.kept hb).cell (j := 3) rfl, (K2.out.kept hb).cell (j := 0) rfl, (K2.out.kept hb).cell (j := 1) rfl, (K2.out.kept hb).cell (j := 2) rfl, (K2.out.kept hb).cell (j := 3) rfl, (K3.out.kept hb).cell (j := 0) rfl, (K3.out.kept hb).cell (j := 1) rfl, (K3.out.kept hb).cell (j := 2) rfl, (K3.out.kept hb).cell (j := 3) rfl, (K4.out.kept hb).cell (j := 0) rfl, (K4.out.kept hb).cell (j := 1) rfl, (K4.out.kept hb).cell (j := 2) rfl, (K4.out.kept hb).cell (j := 3) rfl, (K5.out.kept hb).cell (j := 0) rfl, (K5.out.kept hb).cell (j := 1) rfl, (K5.out.kept hb).cell (j := 2) rfl, (K5.out.kept hb).cell (j := 3) rfl, (K6.out.kept hb).cell (j := 0) rfl, (K6.out.kept hb).cell (j := 1) rfl, (K6.out.kept hb).cell (j := 2) rfl, (K6.out.kept hb).cell (j := 3) rfl, (hr.kept hb).blk.cell (j := 0) rfl, (hr.kept hb).blk.cell (j := 1) rfl⟩)
  clear hr
  go_region_held3 (fun w' => w'.cell? ⟨k1, 0, none⟩ = some (.int .i64 y.c) ∧ w'.cell? ⟨k1, 1, none⟩ = some (.int .i64 y.r) ∧ w'.cell? ⟨k1, 2, none⟩ = some (.int .i64 y.d) ∧ w'.cell? ⟨k1, 3, none⟩ = some (.int .i64 y.p) ∧ w'.cell? ⟨k2, 0, none⟩ = some (.int .i64 y.c) ∧ w'.cell? ⟨k2, 1, none⟩ = some (.int .i64 y.r) ∧ w'.cell? ⟨k2, 2, none⟩ = some (.int .i64 y.d) ∧ w'.cell? ⟨k2, 3, none⟩ = some (.int .i64 y.p) ∧ w'.cell? ⟨k3, 0, none⟩ = some (.int .i64 gr.c) ∧ w'.cell? ⟨k3, 1, none⟩ = some (.int .i64 gr.r) ∧ w'.cell? ⟨k3, 2, none⟩ = some (.int .i64 gr.d) ∧ w'.cell? ⟨k3, 3, none⟩ = some (.int .i64 gr.p) ∧ w'.cell? ⟨k4, 0, none⟩ = some (.int .i64 gr.c) ∧ w'.cell? ⟨k4, 1, none⟩ = some (.int .i64 gr.r) ∧ w'.cell? ⟨k4, 2, none⟩ = some (.int .i64 gr.d) ∧ w'.cell? ⟨k4, 3, none⟩ = some (.int .i64 gr.p) ∧ w'.cell? ⟨k5, 0, none⟩ = some (.int .i64 lf.c) ∧ w'.cell? ⟨k5, 1, none⟩ = some (.int .i64 lf.r) ∧ w'.cell? ⟨k5, 2, none⟩ = some (.int .i64 lf.d) ∧ w'.cell? ⟨k5, 3, none⟩ = some (.int .i64 lf.p) ∧ w'.cell? ⟨k6, 0, none⟩ = some (.int .i64 lf.c) ∧ w'.cell? ⟨k6, 1, none⟩ = some (.int .i64 lf.r) ∧ w'.cell? ⟨k6, 2, none⟩ = some (.int .i64 lf.d) ∧ w'.cell? ⟨k6, 3, none⟩ = some (.int .i64 lf.p) ∧ w'.cell? ⟨g, 0, none⟩ = some (.slice pG S.length cG) ∧ w'.cell? ⟨g, 1, none⟩ = some (.slice pC C.length cC))
    (refine HSS.out _ ?_ <;> (repeat (first | with_reducible exact Below.refl _ _ | with_reducible exact HBh.out | with_reducible exact HBf.out | with_reducible exact HBe.out | with_reducible exact HBd.out | with_reducible exact HBc.out | with_reducible exact HBb.out | with_reducible exact HBa.out | with_reducible (apply bl_drew) | with_reducible (refine below_and ?_ (below_alloc _ _)))))
    (first
      | (go_at_call 25; refine (HCH.out _ (H6.out.kept (by (repeat (first | with_reducible exact Below.refl _ _ | with_reducible exact HBh.out | with_reducible exact HBf.out | with_reducible exact HBe.out | with_reducible exact HBd.out | with_reducible exact HBc.out | with_reducible exact HBb.out | with_reducible exact HBa.out | with_reducible (apply bl_drew) | with_reducible (refine below_and ?_ (below_alloc _ _))))))).mono ?_; rintro e wa ⟨va, rfl, ho, hb⟩; have HBa : Hid (Below w6.heap.size w6 wa) := Lib.hid (by refine below_and ?_ hb; (repeat (first | with_reducible exact Below.refl _ _ | with_reducible exact HBh.out | with_reducible exact HBf.out | with_reducible exact HBe.out | with_reducible exact HBd.out | with_reducible exact HBc.out | with_reducible exact HBb.out | with_reducible exact HBa.out | with_reducible (apply bl_drew) | with_reducible (refine below_and ?_ (below_alloc _ _))))); have HOa := Lib.hid ho; clear ho hb)
      | (go_at_call 27; refine (HGH.out _ (H6.out.kept (by (repeat (first | with_reducible exact Below.refl _ _ | with_reducible exact HBh.out | with_reducible exact HBf.out | with_reducible exact HBe.out | with_reducible exact HBd.out | with_reducible exact HBc.out | with_reducible exact HBb.out | with_reducible exact HBa.out | with_reducible (apply bl_drew) | with_reducible (refine below_and ?_ (below_alloc _ _))))))).mono ?_; rintro e wc ⟨vc, rfl, ho, hb⟩; have HBc : Hid (Below w6.heap.size w6 wc) := Lib.hid (by refine below_and ?_ hb; (repeat (first | with_reducible exact Below.refl _ _ | with_reducible exact HBh.out | with_reducible exact HBf.out | with_reducible exact HBe.out | with_reducible exact HBd.out | with_reducible exact HBc.out | with_reducible exact HBb.out | with_reducible exact HBa.out | with_reducible (apply bl_drew) | with_reducible (refine below_and ?_ (below_alloc _ _))))); have HOc := Lib.hid ho; clear ho hb)
      | (go_at_call 26; refine (grants_same S _ _ _ (HOc.out _ (Below.refl _ _)) (HGR.out _ (by (repeat (first | with_reducible exact Below.refl _ _ | with_reducible exact HBh.out | with_reducible exact HBf.out | with_reducible exact HBe.out | with_reducible exact HBd.out | with_reducible exact HBc.out | with_reducible exact HBb.out | with_reducible exact HBa.out | with_reducible (apply bl_drew) | with_reducible (refine below_and ?_ (below_alloc _ _))))))).mono ?_; rintro e wd ⟨rfl, hb⟩; have HBd : Hid (Below w6.heap.size w6 wd) := Lib.hid (by refine below_and ?_ hb; (repeat (first | with_reducible exact Below.refl _ _ | with_reducible exact HBh.out | with_reducible exact HBf.out | with_reducible exact HBe.out | with_reducible exact HBd.out | with_reducible exact HBc.out | with_reducible exact HBb.out | with_reducible exact HBa.out | with_reducible (apply bl_drew) | with_reducible (refine below_and ?_ (below_alloc _ _))))); clear hb)
      | (go_at_call 28; refine (HOH.out _ (H6.out.kept (by (repeat (first | with_reducible exact Below.refl _ _ | with_reducible exact HBh.out | with_reducible exact HBf.out | with_reducible exact HBe.out | with_reducible exact HBd.out | with_reducible exact HBc.out | with_reducible exact HBb.out | with_reducible exact HBa.out | with_reducible (apply bl_drew) | with_reducible (refine below_and ?_ (below_alloc _ _))))))).mono ?_; rintro e we ⟨ve, rfl, ho, hb⟩; have HBe : Hid (Below w6.heap.size w6 we) := Lib.hid (by refine below_and ?_ hb; (repeat (first | with_reducible exact Below.refl _ _ | with_reducible exact HBh.out | with_reducible exact HBf.out | with_reducible exact HBe.out | with_reducible exact HBd.out | with_reducible exact HBc.out | with_reducible exact HBb.out | with_reducible exact HBa.out | with_reducible (apply bl_drew) | with_reducible (refine below_and ?_ (below_alloc _ _))))); have HOe := Lib.hid ho; (first | (have HOf2 := Lib.hid (fun w3 (hw3 : Below we.heap.size we w3) => HOf.out w3 (below_and hb hw3))) | skip); clear ho hb)
      | (go_at_call 29; refine (HDH.out _ (H6.out.kept (by (repeat (first | with_reducible exact Below.refl _ _ | with_reducible exact HBh.out | with_reducible exact HBf.out | with_reducible exact HBe.out | with_reducible exact HBd.out | with_reducible exact HBc.out | with_reducible exact HBb.out | with_reducible exact HBa.out | with_reducible (apply bl_drew) | with_reducible (refine below_and ?_ (below_alloc _ _))))))).mono ?_; rintro e wf ⟨vf, rfl, ho, hb⟩; have HBf : Hid (Below w6.heap.size w6 wf) := Lib.hid (by refine below_and ?_ hb; (repeat (first | with_reducible exact Below.refl _ _ | with_reducible exact HBh.out | with_reducible exact HBf.out | with_reducible exact HBe.out | with_reducible exact HBd.out | with_reducible exact HBc.out | with_reducible exact HBb.out | with_reducible exact HBa.out | with_reducible (apply bl_drew) | with_reducible (refine below_and ?_ (below_alloc _ _))))); have HOf := Lib.hid ho; (first | (have HOe2 := Lib.hid (fun w3 (hw3 : Below wf.heap.size wf w3) => HOe.out w3 (below_and hb hw3))) | skip); clear ho hb)
      | (go_at_call 24; first
          | (refine (charges_same (overP G C) _ _ _ (HOe2.out _ (Below.refl _ _)) (HOf.out _ (Below.refl _ _))).mono ?_; rintro e wh ⟨rfl, hb⟩; have HBh : Hid (Below w6.heap.size w6 wh) := Lib.hid (by refine below_and ?_ hb; (repeat (first | with_reducible exact Below.refl _ _ | with_reducible exact HBh.out | with_reducible exact HBf.out | with_reducible exact HBe.out | with_reducible exact HBd.out | with_reducible exact HBc.out | with_reducible exact HBb.out | with_reducible exact HBa.out | with_reducible (apply bl_drew) | with_reducible (refine below_and ?_ (below_alloc _ _))))); clear hb)
          | (refine (charges_same (overP G C) _ _ _ (HOe.out _ (Below.refl _ _)) (HOf2.out _ (Below.refl _ _))).mono ?_; rintro e wh ⟨rfl, hb⟩; have HBh : Hid (Below w6.heap.size w6 wh) := Lib.hid (by refine below_and ?_ hb; (repeat (first | with_reducible exact Below.refl _ _ | with_reducible exact HBh.out | with_reducible exact HBf.out | with_reducible exact HBe.out | with_reducible exact HBd.out | with_reducible exact HBc.out | with_reducible exact HBb.out | with_reducible exact HBa.out | with_reducible (apply bl_drew) | with_reducible (refine below_and ?_ (below_alloc _ _))))); clear hb)
          | (refine (charges_same C _ _ _ (HOa.out _ (Below.refl _ _)) (HCR.out _ (by (repeat (first | with_reducible exact Below.refl _ _ | with_reducible exact HBh.out | with_reducible exact HBf.out | with_reducible exact HBe.out | with_reducible exact HBd.out | with_reducible exact HBc.out | with_reducible exact HBb.out | with_reducible exact HBa.out | with_reducible (apply bl_drew) | with_reducible (refine below_and ?_ (below_alloc _ _))))))).mono ?_; rintro e wb ⟨rfl, hb⟩; have HBb : Hid (Below w6.heap.size w6 wb) := Lib.hid (by refine below_and ?_ hb; (repeat (first | with_reducible exact Below.refl _ _ | with_reducible exact HBh.out | with_reducible exact HBf.out | with_reducible exact HBe.out | with_reducible exact HBd.out | with_reducible exact HBc.out | with_reducible exact HBb.out | with_reducible exact HBa.out | with_reducible (apply bl_drew) | with_reducible (refine below_and ?_ (below_alloc _ _))))); clear hb)))
  all_goals go_wp2
  all_goals go_ret
  all_goals exact ⟨rfl, below_and HB6.out HBh.out⟩
end Go.Proofs.YtmgbailpmcggiaaGreat
