/- The walk of ClockScript (written by gencs.py). -/
import Derived.Test.YtmgcigohfccgeaaCsStep
namespace Go.Proofs.Ytmgcigohfccgeaa
open Go.RowKit

/-- both watches between two acts -/
structure Cs0 (w0 : World) (b G : Nat) (T : Int) (L S : List End) (v1 v2 : Value) (w : World) : Prop where
  wt : Wt w b T v1 L
  rwt : RWt w G T v2 S
  sh : Sh v2
  bel : Below w0.heap.size w0 w
  d1 : ∀ q, v1.ownBlock = some q → w0.heap.size ≤ q ∧ q ≠ G ∧ v2.ownBlock ≠ some q
  d2 : ∀ q, v2.ownBlock = some q → w0.heap.size ≤ q ∧ q ≠ b ∧ q < w.heap.size
  far : b ≠ G ∧ w0.heap.size ≤ b ∧ w0.heap.size ≤ G
theorem Cs.forget {w0 : World} {b G ga : Nat} {x : Ka} {T : Int} {L S : List End} {v1 v2 : Value} {w : World} (h : Cs w0 b G ga x T T L S v1 v2 w) : Cs0 w0 b G T L S v1 v2 w :=
  ⟨h.wt, h.rwt, h.sh, h.bel, fun q hq => ⟨(h.d1 q hq).1, (h.d1 q hq).2.1, (h.d1 q hq).2.2.2⟩, h.d2, h.far.1, h.far.2.2.2⟩
theorem Cs0.act {w0 : World} {b G : Nat} {T : Int} {L S : List End} {v1 v2 : Value} {w : World} (h : Cs0 w0 b G T L S v1 v2 w) (x : Ka) : Cs w0 b G w.heap.size x T T L S v1 v2 (w.alloc (.cells #[.int .i64 x.k, .string x.s, .int .i64 x.n] 82)) := by
  have hb := below_alloc w (.cells #[.int .i64 x.k, .string x.s, .int .i64 x.n] 82)
  have h1 := h.wt.blk.lt
  have h2 := h.rwt.blk.lt
  have h3 := hb.size
  refine ⟨h.wt.kept hb, h.rwt.kept hb, h.sh, Blk.made w [.int .i64 x.k, .string x.s, .int .i64 x.n] _, below_and h.bel hb, fun q hq => ⟨(h.d1 q hq).1, (h.d1 q hq).2.1, ?_, (h.d1 q hq).2.2⟩, fun q hq => ⟨(h.d2 q hq).1, (h.d2 q hq).2.1, Nat.lt_of_lt_of_le (h.d2 q hq).2.2 h3⟩, h.far.1, by omega, by omega, h.far.2⟩
  have := own_ltW h.wt hq
  omega
theorem Cs.drew {w0 : World} {b G ga : Nat} {x : Ka} {T1 T2 : Int} {L S : List End} {v1 v2 : Value} {w : World} (h : Cs w0 b G ga x T1 T2 L S v1 v2 w) : Cs w0 b G ga x T1 T2 L S v1 v2 w.drew := h.kept (Below.drewN' (Below.refl _ _) 1)
theorem Cs.g0 {w0 : World} {b G ga : Nat} {x : Ka} {T1 T2 : Int} {L S : List End} {v1 v2 : Value} {w : World} (h : Cs w0 b G ga x T1 T2 L S v1 v2 w) : w.cell? ⟨G, 0, none⟩ = some (.int .i64 T2) := h.cells.2.2.2
theorem Cs.a1 {w0 : World} {b G ga : Nat} {x : Ka} {T1 T2 : Int} {L S : List End} {v1 v2 : Value} {w : World} (h : Cs w0 b G ga x T1 T2 L S v1 v2 w) : w.cell? ⟨ga, 1, none⟩ = some (.string x.s) := h.cells.2.1
theorem Cs.a12 {w0 : World} {b G ga : Nat} {x : Ka} {T1 T2 : Int} {L S : List End} {v1 v2 : Value} {w : World} (h : Cs w0 b G ga x T1 T2 L S v1 v2 w) : w.cell? ⟨ga, 1, none⟩ = some (.string x.s) ∧ w.cell? ⟨ga, 2, none⟩ = some (.int .i64 x.n) := ⟨h.cells.2.1, h.cells.2.2.1⟩
theorem own_drew {w : World} {base : Nat} {e : TypeId} {size : Nat} {v : Value} {n : Nat} {xs : List Value} (h : w.ownsRow base e size v n xs) : w.drew.ownsRow base e size v n xs := own_kept h (Below.drewN' (Below.refl _ _) 1)

set_option maxRecDepth 100000 in
set_option maxHeartbeats 4000000 in
theorem clockScript_in (v : Value) (l : List Ka) (w : World) (h : Kas w v l) (hl : l.length ≤ 200) :
    Calls Try.prog 11 #[v] w fun e w' => e = .returned (.bool true) ∧ Below w.heap.size w w' := by
  obtain ⟨p, c, rfl, hlc, hcm⟩ := h.shape
  have hml : maxLen ≤ 9223372036854775807 := by decide
  have H := Lib.hid h
  have HL := Lib.hid hl
  clear h
  go_enter Try.func11, Try.ntmps11
  go_wp2_with (first
    | (go_at_call 21; refine (clives _).mono ?_; rintro e w1 ⟨rfl, hb⟩; have HB := Lib.hid hb; clear hb)
    | (go_at_call 27; refine (wnew_any _).mono ?_; rintro e w2 ⟨b, v, rfl, hb, hv, hw, hbl⟩; have HX := Lib.hid hb; have HV := Lib.hid hv; have HW2 := Lib.hid hw; have HB2 := Lib.hid (below_and HB.out hbl); clear hb hv hw hbl))
  have hR := rnew_made w2
  obtain ⟨G, hG⟩ : ∃ G, G = w2.heap.size := ⟨_, rfl⟩
  obtain ⟨w3, hw3⟩ : ∃ w3, w3 = w2.alloc (.cells #[.int .i64 0, .slice none 0 0] 80) := ⟨_, rfl⟩
  rw [← hw3, ← hG] at hR
  have C3 : Hid (Cs0 w b G 0 [] [] v (.slice none 0 0) w3) := Lib.hid ⟨by rw [hw3]; exact HW2.out.kept (below_alloc w2 _), hR.1, .inl rfl, by rw [hw3]; exact below_and HB2.out (below_alloc w2 _), fun x hx => (by rw [HV.out] at hx; cases hx), fun x hx => (by simp [Value.ownBlock] at hx), fun e => absurd HW2.out.blk.lt (by omega), Nat.le_trans HB.out.size HX.out, (by rw [hG]; exact HB2.out.size)⟩
  rw [← hw3, ← hG]
  clear hw3 hG hR
  go_loopw [5] (fun i wr => ∃ (k : Nat) (T : Int) (L S : List End) (v1 v2 : Value), k ≤ l.length ∧ i = .int .i64 (k : Int) ∧ 0 ≤ T ∧ T ≤ (k : Int) * 1048576 ∧ Hid (CsI k L S) ∧ Hid (Cs0 w b G T L S v1 v2 wr)) (fun i _ => l.length - (intOf i).toNat)
  case atStart => exact ⟨0, 0, [], [], v, .slice none 0 0, Nat.zero_le _, rfl, Int.le_refl _, Int.le_refl _, Lib.hid CsI.new, C3⟩
  case round =>
    obtain ⟨k, T, L, S, v1, v2, hik, rfl, hT, hT2, HI, H0⟩ := hrel
    by_cases hlt : k < l.length
    · obtain ⟨ab, o, rfl, hcs⟩ := (H.out.below H0.out.bel).at hlt
      obtain ⟨x, hx⟩ : ∃ x, x = l[k] := ⟨_, rfl⟩
      rw [← hx] at hcs
      have x0 : wr.cell? ⟨ab, o + k * 3, none⟩ = some (.int .i64 x.k) := hcs 0 _ (by omega) rfl
      have x1 : wr.cell? ⟨ab, o + k * 3 + 1, none⟩ = some (.string x.s) := hcs 1 _ (by omega) rfl
      have x2 : wr.cell? ⟨ab, o + k * 3 + 2, none⟩ = some (.int .i64 x.n) := hcs 2 _ (by omega) rfl
      have i2 : (k : Int) < (l.length : Int) := by omega
      have hk200 : k ≤ 200 := by omega
      have hk1 : k + 1 ≤ 201 := by omega
      have hTk : T ≤ ((k + 1 : Nat) : Int) * 1048576 := by omega
      clear hcs hx
      go_upto_region 10 with fail
      obtain ⟨wa, hwa⟩ : ∃ wa, wa = wr.alloc (.cells #[.int .i64 x.k, .string x.s, .int .i64 x.n] 82) := ⟨_, rfl⟩
      obtain ⟨ga, hga⟩ : ∃ ga, ga = wr.heap.size := ⟨_, rfl⟩
      have HC : Hid (Cs w b G ga x T T L S v1 v2 wa) := Lib.hid (by rw [hwa, hga]; exact H0.out.act x)
      rw [← hwa, ← hga]
      clear hwa hga x0 x1 x2 H0
      obtain ⟨a0, a1, a2, -⟩ := HC.out.cells
      have hm4 : x.k % 4 = 0 ∨ x.k % 4 = 1 ∨ x.k % 4 = 2 ∨ x.k % 4 = 3 := by omega
      have HPK : ∀ w, Calls Try.prog 17 #[.int .i64 x.k, .int .i64 4] w fun e w' => e = .returned (.int .i64 (x.k % 4)) ∧ w = w' := fun w => pickn_any x.k 4 w (by omega) (by omega)
      rcases hm4 with h4 | h4 | h4 | h4
      · have HPK := Lib.hid HPK
        rw [h4] at HPK
        obtain ⟨T', er, L', S', ns, hI, hT', hT2', ht1, ht2⟩ := cs_tick HI.out x.n hk200 hT hT2
        have HT1 := Lib.hid ht1
        have HT2 := Lib.hid ht2
        have HI' := Lib.hid hI
        clear ht1 ht2 hI h4 HI hT hT2 hTk
        go_upto_region 20 with (first
          | (go_at_call 17; refine (HPK.out _).mono ?_; rintro e w4 ⟨rfl, rfl⟩)
          | (go_at_call 29; refine (HT1.out _ _ _ HC.out.wt).mono ?_; rintro e w5 ⟨o1, u1, rfl, ho, hw, hs⟩; have HC5 := Lib.hid (HC.out.one hw hs); have HO5 := Lib.hid ho; obtain ⟨b0, b1, b2, -⟩ := HC5.out.cells; clear ho hw hs a0 a1 a2)
          | (go_at_call 51; refine (HT2.out _ _ _ HC5.out.rwt HC5.out.sh).mono ?_; rintro e w6 ⟨o2, u2, rfl, ho, hw, hs, hh⟩; have HC6 := Lib.hid (HC5.out.two hw hs hh); have HO6 := Lib.hid ho; have HP6 := Lib.hid (own_fr HO5.out hs.fr (fun g hg hm => by have h5 := own_base HO5.out hg; have h6 := HC.out.rwt.blk.lt; rw [List.mem_singleton.1 hm] at h5; omega)); clear ho hw hs hh)
          | (go_at_call 33; refine (same_own (ns.map (·.1)) (by rw [← names_str]; exact HP6.out) (by rw [← names_str]; exact HO6.out)).mono ?_; rintro e w7 ⟨rfl, hb⟩; have HC7 := Lib.hid (HC6.out.kept hb); clear hb))
        obtain ⟨d0, d1, d2, -⟩ := HC7.out.cells
        obtain ⟨z, pz, hz1, hz2⟩ := cs_left HI'.out x.s hT' hT2' hk1
        have HZ1 := Lib.hid hz1
        have HZ2 := Lib.hid hz2
        have HLN : Hid (L'.length ≤ 700000 ∧ S'.length ≤ 700000) := Lib.hid ⟨by have := HI'.out.len; omega, by have := HI'.out.lens; omega⟩
        clear hz1 hz2
        go_wp2_with (first
          | (go_at_call 32; refine (HZ1.out _ _ _ HC7.out.wt).mono ?_; rintro e wb ⟨rfl, hb⟩; have HD1 := Lib.hid (HC7.out.kept hb); obtain ⟨e0, e1, e2, -⟩ := HD1.out.cells; clear hb d0 d1 d2)
          | (go_at_call 54; refine (HZ2.out _ _ _ HD1.out.rwt).mono ?_; rintro e wc ⟨rfl, hb⟩; have HD2 := Lib.hid (HD1.out.kept hb); clear hb e0 e1 e2))
        have qz : (z != z) = false := by simp
        have qp : (pz != pz) = false := by simp
        go_region_held3 (fun w' => w'.cell? ⟨G, 0, none⟩ = some (.int .i64 T'))
          ((apply Cs.g0; (repeat (first | with_reducible exact HD5.out | with_reducible exact HD4.out | with_reducible exact HD3.out | with_reducible exact HD2.out | with_reducible exact HD1.out | with_reducible exact HC7.out | apply Cs.drew))))
          (first
            | (go_at_call 34; refine (wnow_made b _ _ _ _ (Cs.wt (w0 := w) (b := b) (G := G) (ga := ga) (x := x) (T1 := T') (T2 := T') (L := L') (S := S') (v1 := u1) (v2 := u2) (by (repeat (first | with_reducible exact HD2.out | with_reducible exact HD1.out | with_reducible exact HC7.out | apply Cs.drew))))).mono ?_; rintro e wd ⟨rfl, rfl⟩)
            | (go_at_call 55; refine (wnames_made b _ _ _ _ (Cs.wt (w0 := w) (b := b) (G := G) (ga := ga) (x := x) (T1 := T') (T2 := T') (L := L') (S := S') (v1 := u1) (v2 := u2) (by (repeat (first | with_reducible exact HD2.out | with_reducible exact HD1.out | with_reducible exact HC7.out | apply Cs.drew)))) HLN.out.1).mono ?_; rintro e we ⟨n1, rfl, ho, hb⟩; have HD3 : Hid (Cs w b G ga x T' T' L' S' u1 u2 we) := Lib.hid (Cs.kept (by (repeat (first | with_reducible exact HD2.out | with_reducible exact HD1.out | with_reducible exact HC7.out | apply Cs.drew))) hb); have HN1 := Lib.hid ho; clear ho hb)
            | (go_at_call 56; refine (rnames_any G _ _ _ _ (Cs.rwt (w0 := w) (b := b) (G := G) (ga := ga) (x := x) (T1 := T') (T2 := T') (L := L') (S := S') (v1 := u1) (v2 := u2) (by (repeat (first | with_reducible exact HD3.out | with_reducible exact HD2.out | with_reducible exact HD1.out | with_reducible exact HC7.out | apply Cs.drew)))) HLN.out.2).mono ?_; rintro e wf ⟨n2, rfl, ho, hb⟩; have HD4 : Hid (Cs w b G ga x T' T' L' S' u1 u2 wf) := Lib.hid (Cs.kept (by (repeat (first | with_reducible exact HD3.out | with_reducible exact HD2.out | with_reducible exact HD1.out | with_reducible exact HC7.out | apply Cs.drew))) hb); rw [HI'.out.names] at ho; have HN2 := Lib.hid ho; have HN3 := Lib.hid (own_kept (by (repeat (first | with_reducible exact HN1.out | apply own_drew))) hb); clear ho hb)
            | (go_at_call 33; refine (same_own (bsort (L'.map (·.1))) (by (repeat (first | with_reducible exact HN3.out | apply own_drew))) (by (repeat (first | with_reducible exact HN2.out | apply own_drew)))).mono ?_; rintro e wg ⟨rfl, hb⟩; have HD5 : Hid (Cs w b G ga x T' T' L' S' u1 u2 wg) := Lib.hid (Cs.kept (by (repeat (first | with_reducible exact HD4.out | with_reducible exact HD3.out | with_reducible exact HD2.out | with_reducible exact HD1.out | with_reducible exact HC7.out | apply Cs.drew))) hb); clear hb))
        go_wp2
        go_roundw
        case rel => exact ⟨k + 1, T', L', S', u1, u2, hlt, by go_num, hT', hT2', HI', Lib.hid (Cs.forget (ga := ga) (x := x) (by (repeat (first | with_reducible exact HD5.out | with_reducible exact HD4.out | with_reducible exact HD3.out | with_reducible exact HD2.out | with_reducible exact HD1.out | with_reducible exact HC7.out | apply Cs.drew))))⟩
        case measure => simp [intOf]; omega
      · have HPK := Lib.hid HPK
        rw [h4] at HPK
        obtain ⟨er, L', S', hI, ht1, ht2⟩ := cs_set HI.out x.s x.n hk200 hT hT2
        have HT1 := Lib.hid ht1
        have HT2 := Lib.hid ht2
        have HI' := Lib.hid hI
        clear ht1 ht2 hI h4 HI
        go_wp2_with (go_at_call 17; refine (HPK.out _).mono ?_; rintro e w4 ⟨rfl, rfl⟩)
        go_region_held3 (fun w' => w'.cell? ⟨ga, 1, none⟩ = some (.string x.s) ∧ w'.cell? ⟨ga, 2, none⟩ = some (.int .i64 x.n))
          ((apply Cs.a12; (repeat (first | with_reducible exact HC7.out | with_reducible exact HC5.out | with_reducible exact HC.out | apply Cs.drew))))
          (first
            | (go_at_call 28; refine (HT1.out _ _ _ (Cs.wt (w0 := w) (G := G) (ga := ga) (x := x) (T2 := T) (S := S) (v2 := v2) (by (repeat (first | with_reducible exact HC.out | apply Cs.drew))))).mono ?_; rintro e w5 ⟨u1, rfl, hw, hs⟩; have HC5 : Hid (Cs w b G ga x T T L' S u1 v2 w5) := Lib.hid (Cs.one (v1 := v1) (T1 := T) (L := L) (by (repeat (first | with_reducible exact HC.out | apply Cs.drew))) hw hs); clear hw hs)
            | (go_at_call 52; refine (HT2.out _ _ _ (Cs.rwt (w0 := w) (b := b) (ga := ga) (x := x) (T1 := T) (L := L') (v1 := u1) (v2 := v2) (by (repeat (first | with_reducible exact HC5.out | with_reducible exact HC.out | apply Cs.drew)))) HC.out.sh).mono ?_; rintro e w6 ⟨u2, rfl, hw, hs, hh⟩; have HC7 : Hid (Cs w b G ga x T T L' S' u1 u2 w6) := Lib.hid (Cs.two (v2 := v2) (T2 := T) (S := S) (by (repeat (first | with_reducible exact HC5.out | with_reducible exact HC.out | apply Cs.drew))) hw hs hh); clear hw hs hh))
        obtain ⟨d0, d1, d2, -⟩ := HC7.out.cells
        obtain ⟨z, pz, hz1, hz2⟩ := cs_left HI'.out x.s hT hTk hk1
        have HZ1 := Lib.hid hz1
        have HZ2 := Lib.hid hz2
        have HLN : Hid (L'.length ≤ 700000 ∧ S'.length ≤ 700000) := Lib.hid ⟨by have := HI'.out.len; omega, by have := HI'.out.lens; omega⟩
        clear hz1 hz2
        go_wp2_with (first
          | (go_at_call 32; refine (HZ1.out _ _ _ HC7.out.wt).mono ?_; rintro e wb ⟨rfl, hb⟩; have HD1 := Lib.hid (HC7.out.kept hb); obtain ⟨e0, e1, e2, -⟩ := HD1.out.cells; clear hb d0 d1 d2)
          | (go_at_call 54; refine (HZ2.out _ _ _ HD1.out.rwt).mono ?_; rintro e wc ⟨rfl, hb⟩; have HD2 := Lib.hid (HD1.out.kept hb); clear hb e0 e1 e2))
        have qz : (z != z) = false := by simp
        have qp : (pz != pz) = false := by simp
        go_region_held3 (fun w' => w'.cell? ⟨G, 0, none⟩ = some (.int .i64 T))
          ((apply Cs.g0; (repeat (first | with_reducible exact HD5.out | with_reducible exact HD4.out | with_reducible exact HD3.out | with_reducible exact HD2.out | with_reducible exact HD1.out | with_reducible exact HC7.out | apply Cs.drew))))
          (first
            | (go_at_call 34; refine (wnow_made b _ _ _ _ (Cs.wt (w0 := w) (b := b) (G := G) (ga := ga) (x := x) (T1 := T) (T2 := T) (L := L') (S := S') (v1 := u1) (v2 := u2) (by (repeat (first | with_reducible exact HD2.out | with_reducible exact HD1.out | with_reducible exact HC7.out | apply Cs.drew))))).mono ?_; rintro e wd ⟨rfl, rfl⟩)
            | (go_at_call 55; refine (wnames_made b _ _ _ _ (Cs.wt (w0 := w) (b := b) (G := G) (ga := ga) (x := x) (T1 := T) (T2 := T) (L := L') (S := S') (v1 := u1) (v2 := u2) (by (repeat (first | with_reducible exact HD2.out | with_reducible exact HD1.out | with_reducible exact HC7.out | apply Cs.drew)))) HLN.out.1).mono ?_; rintro e we ⟨n1, rfl, ho, hb⟩; have HD3 : Hid (Cs w b G ga x T T L' S' u1 u2 we) := Lib.hid (Cs.kept (by (repeat (first | with_reducible exact HD2.out | with_reducible exact HD1.out | with_reducible exact HC7.out | apply Cs.drew))) hb); have HN1 := Lib.hid ho; clear ho hb)
            | (go_at_call 56; refine (rnames_any G _ _ _ _ (Cs.rwt (w0 := w) (b := b) (G := G) (ga := ga) (x := x) (T1 := T) (T2 := T) (L := L') (S := S') (v1 := u1) (v2 := u2) (by (repeat (first | with_reducible exact HD3.out | with_reducible exact HD2.out | with_reducible exact HD1.out | with_reducible exact HC7.out | apply Cs.drew)))) HLN.out.2).mono ?_; rintro e wf ⟨n2, rfl, ho, hb⟩; have HD4 : Hid (Cs w b G ga x T T L' S' u1 u2 wf) := Lib.hid (Cs.kept (by (repeat (first | with_reducible exact HD3.out | with_reducible exact HD2.out | with_reducible exact HD1.out | with_reducible exact HC7.out | apply Cs.drew))) hb); rw [HI'.out.names] at ho; have HN2 := Lib.hid ho; have HN3 := Lib.hid (own_kept (by (repeat (first | with_reducible exact HN1.out | apply own_drew))) hb); clear ho hb)
            | (go_at_call 33; refine (same_own (bsort (L'.map (·.1))) (by (repeat (first | with_reducible exact HN3.out | apply own_drew))) (by (repeat (first | with_reducible exact HN2.out | apply own_drew)))).mono ?_; rintro e wg ⟨rfl, hb⟩; have HD5 : Hid (Cs w b G ga x T T L' S' u1 u2 wg) := Lib.hid (Cs.kept (by (repeat (first | with_reducible exact HD4.out | with_reducible exact HD3.out | with_reducible exact HD2.out | with_reducible exact HD1.out | with_reducible exact HC7.out | apply Cs.drew))) hb); clear hb))
        go_wp2
        go_roundw
        case rel => exact ⟨k + 1, T, L', S', u1, u2, hlt, by go_num, hT, hTk, HI', Lib.hid (Cs.forget (ga := ga) (x := x) (by (repeat (first | with_reducible exact HD5.out | with_reducible exact HD4.out | with_reducible exact HD3.out | with_reducible exact HD2.out | with_reducible exact HD1.out | with_reducible exact HC7.out | apply Cs.drew))))⟩
        case measure => simp [intOf]; omega
      · have HPK := Lib.hid HPK
        rw [h4] at HPK
        obtain ⟨er, L', S', hI, ht1, ht2⟩ := cs_drop (T := T) HI.out x.s hk200
        have HT1 := Lib.hid ht1
        have HT2 := Lib.hid ht2
        have HI' := Lib.hid hI
        clear ht1 ht2 hI h4 HI
        go_wp2_with (go_at_call 17; refine (HPK.out _).mono ?_; rintro e w4 ⟨rfl, rfl⟩)
        go_region_held3 (fun w' => w'.cell? ⟨ga, 1, none⟩ = some (.string x.s))
          ((apply Cs.a1; (repeat (first | with_reducible exact HC7.out | with_reducible exact HC5.out | with_reducible exact HC.out | apply Cs.drew))))
          (first
            | (go_at_call 35; refine (HT1.out _ _ _ (Cs.wt (w0 := w) (G := G) (ga := ga) (x := x) (T2 := T) (S := S) (v2 := v2) (by (repeat (first | with_reducible exact HC.out | apply Cs.drew))))).mono ?_; rintro e w5 ⟨u1, rfl, hw, hs⟩; have HC5 : Hid (Cs w b G ga x T T L' S u1 v2 w5) := Lib.hid (Cs.one (v1 := v1) (T1 := T) (L := L) (by (repeat (first | with_reducible exact HC.out | apply Cs.drew))) hw hs); clear hw hs)
            | (go_at_call 53; refine (HT2.out _ _ _ (Cs.rwt (w0 := w) (b := b) (ga := ga) (x := x) (T1 := T) (L := L') (v1 := u1) (v2 := v2) (by (repeat (first | with_reducible exact HC5.out | with_reducible exact HC.out | apply Cs.drew)))) HC.out.sh).mono ?_; rintro e w6 ⟨u2, rfl, hw, hs, hh⟩; have HC7 : Hid (Cs w b G ga x T T L' S' u1 u2 w6) := Lib.hid (Cs.two (v2 := v2) (T2 := T) (S := S) (by (repeat (first | with_reducible exact HC5.out | with_reducible exact HC.out | apply Cs.drew))) hw hs hh); clear hw hs hh))
        obtain ⟨d0, d1, d2, -⟩ := HC7.out.cells
        obtain ⟨z, pz, hz1, hz2⟩ := cs_left HI'.out x.s hT hTk hk1
        have HZ1 := Lib.hid hz1
        have HZ2 := Lib.hid hz2
        have HLN : Hid (L'.length ≤ 700000 ∧ S'.length ≤ 700000) := Lib.hid ⟨by have := HI'.out.len; omega, by have := HI'.out.lens; omega⟩
        clear hz1 hz2
        go_wp2_with (first
          | (go_at_call 32; refine (HZ1.out _ _ _ HC7.out.wt).mono ?_; rintro e wb ⟨rfl, hb⟩; have HD1 := Lib.hid (HC7.out.kept hb); obtain ⟨e0, e1, e2, -⟩ := HD1.out.cells; clear hb d0 d1 d2)
          | (go_at_call 54; refine (HZ2.out _ _ _ HD1.out.rwt).mono ?_; rintro e wc ⟨rfl, hb⟩; have HD2 := Lib.hid (HD1.out.kept hb); clear hb e0 e1 e2))
        have qz : (z != z) = false := by simp
        have qp : (pz != pz) = false := by simp
        go_region_held3 (fun w' => w'.cell? ⟨G, 0, none⟩ = some (.int .i64 T))
          ((apply Cs.g0; (repeat (first | with_reducible exact HD5.out | with_reducible exact HD4.out | with_reducible exact HD3.out | with_reducible exact HD2.out | with_reducible exact HD1.out | with_reducible exact HC7.out | apply Cs.drew))))
          (first
            | (go_at_call 34; refine (wnow_made b _ _ _ _ (Cs.wt (w0 := w) (b := b) (G := G) (ga := ga) (x := x) (T1 := T) (T2 := T) (L := L') (S := S') (v1 := u1) (v2 := u2) (by (repeat (first | with_reducible exact HD2.out | with_reducible exact HD1.out | with_reducible exact HC7.out | apply Cs.drew))))).mono ?_; rintro e wd ⟨rfl, rfl⟩)
            | (go_at_call 55; refine (wnames_made b _ _ _ _ (Cs.wt (w0 := w) (b := b) (G := G) (ga := ga) (x := x) (T1 := T) (T2 := T) (L := L') (S := S') (v1 := u1) (v2 := u2) (by (repeat (first | with_reducible exact HD2.out | with_reducible exact HD1.out | with_reducible exact HC7.out | apply Cs.drew)))) HLN.out.1).mono ?_; rintro e we ⟨n1, rfl, ho, hb⟩; have HD3 : Hid (Cs w b G ga x T T L' S' u1 u2 we) := Lib.hid (Cs.kept (by (repeat (first | with_reducible exact HD2.out | with_reducible exact HD1.out | with_reducible exact HC7.out | apply Cs.drew))) hb); have HN1 := Lib.hid ho; clear ho hb)
            | (go_at_call 56; refine (rnames_any G _ _ _ _ (Cs.rwt (w0 := w) (b := b) (G := G) (ga := ga) (x := x) (T1 := T) (T2 := T) (L := L') (S := S') (v1 := u1) (v2 := u2) (by (repeat (first | with_reducible exact HD3.out | with_reducible exact HD2.out | with_reducible exact HD1.out | with_reducible exact HC7.out | apply Cs.drew)))) HLN.out.2).mono ?_; rintro e wf ⟨n2, rfl, ho, hb⟩; have HD4 : Hid (Cs w b G ga x T T L' S' u1 u2 wf) := Lib.hid (Cs.kept (by (repeat (first | with_reducible exact HD3.out | with_reducible exact HD2.out | with_reducible exact HD1.out | with_reducible exact HC7.out | apply Cs.drew))) hb); rw [HI'.out.names] at ho; have HN2 := Lib.hid ho; have HN3 := Lib.hid (own_kept (by (repeat (first | with_reducible exact HN1.out | apply own_drew))) hb); clear ho hb)
            | (go_at_call 33; refine (same_own (bsort (L'.map (·.1))) (by (repeat (first | with_reducible exact HN3.out | apply own_drew))) (by (repeat (first | with_reducible exact HN2.out | apply own_drew)))).mono ?_; rintro e wg ⟨rfl, hb⟩; have HD5 : Hid (Cs w b G ga x T T L' S' u1 u2 wg) := Lib.hid (Cs.kept (by (repeat (first | with_reducible exact HD4.out | with_reducible exact HD3.out | with_reducible exact HD2.out | with_reducible exact HD1.out | with_reducible exact HC7.out | apply Cs.drew))) hb); clear hb))
        go_wp2
        go_roundw
        case rel => exact ⟨k + 1, T, L', S', u1, u2, hlt, by go_num, hT, hTk, HI', Lib.hid (Cs.forget (ga := ga) (x := x) (by (repeat (first | with_reducible exact HD5.out | with_reducible exact HD4.out | with_reducible exact HD3.out | with_reducible exact HD2.out | with_reducible exact HD1.out | with_reducible exact HC7.out | apply Cs.drew))))⟩
        case measure => simp [intOf]; omega
      · have HPK := Lib.hid HPK
        rw [h4] at HPK
        have HI' := Lib.hid HI.out.mono
        clear HI
        go_upto_region 20 with (go_at_call 17; refine (HPK.out _).mono ?_; rintro e w4 ⟨rfl, rfl⟩)
        obtain ⟨L', hL'⟩ : ∃ L', L' = L := ⟨_, rfl⟩
        obtain ⟨S', hS'⟩ : ∃ S', S' = S := ⟨_, rfl⟩
        rw [← hL', ← hS'] at HC
        rw [← hL', ← hS'] at HI'
        clear hL' hS' h4
        obtain ⟨d0, d1, d2, -⟩ := HC.out.cells
        obtain ⟨z, pz, hz1, hz2⟩ := cs_left HI'.out x.s hT hTk hk1
        have HZ1 := Lib.hid hz1
        have HZ2 := Lib.hid hz2
        have HLN : Hid (L'.length ≤ 700000 ∧ S'.length ≤ 700000) := Lib.hid ⟨by have := HI'.out.len; omega, by have := HI'.out.lens; omega⟩
        clear hz1 hz2
        go_wp2_with (first
          | (go_at_call 32; refine (HZ1.out _ _ _ HC.out.wt).mono ?_; rintro e wb ⟨rfl, hb⟩; have HD1 := Lib.hid (HC.out.kept hb); obtain ⟨e0, e1, e2, -⟩ := HD1.out.cells; clear hb d0 d1 d2)
          | (go_at_call 54; refine (HZ2.out _ _ _ HD1.out.rwt).mono ?_; rintro e wc ⟨rfl, hb⟩; have HD2 := Lib.hid (HD1.out.kept hb); clear hb e0 e1 e2))
        have qz : (z != z) = false := by simp
        have qp : (pz != pz) = false := by simp
        go_region_held3 (fun w' => w'.cell? ⟨G, 0, none⟩ = some (.int .i64 T))
          ((apply Cs.g0; (repeat (first | with_reducible exact HD5.out | with_reducible exact HD4.out | with_reducible exact HD3.out | with_reducible exact HD2.out | with_reducible exact HD1.out | with_reducible exact HC.out | apply Cs.drew))))
          (first
            | (go_at_call 34; refine (wnow_made b _ _ _ _ (Cs.wt (w0 := w) (b := b) (G := G) (ga := ga) (x := x) (T1 := T) (T2 := T) (L := L') (S := S') (v1 := v1) (v2 := v2) (by (repeat (first | with_reducible exact HD2.out | with_reducible exact HD1.out | with_reducible exact HC.out | apply Cs.drew))))).mono ?_; rintro e wd ⟨rfl, rfl⟩)
            | (go_at_call 55; refine (wnames_made b _ _ _ _ (Cs.wt (w0 := w) (b := b) (G := G) (ga := ga) (x := x) (T1 := T) (T2 := T) (L := L') (S := S') (v1 := v1) (v2 := v2) (by (repeat (first | with_reducible exact HD2.out | with_reducible exact HD1.out | with_reducible exact HC.out | apply Cs.drew)))) HLN.out.1).mono ?_; rintro e we ⟨n1, rfl, ho, hb⟩; have HD3 : Hid (Cs w b G ga x T T L' S' v1 v2 we) := Lib.hid (Cs.kept (by (repeat (first | with_reducible exact HD2.out | with_reducible exact HD1.out | with_reducible exact HC.out | apply Cs.drew))) hb); have HN1 := Lib.hid ho; clear ho hb)
            | (go_at_call 56; refine (rnames_any G _ _ _ _ (Cs.rwt (w0 := w) (b := b) (G := G) (ga := ga) (x := x) (T1 := T) (T2 := T) (L := L') (S := S') (v1 := v1) (v2 := v2) (by (repeat (first | with_reducible exact HD3.out | with_reducible exact HD2.out | with_reducible exact HD1.out | with_reducible exact HC.out | apply Cs.drew)))) HLN.out.2).mono ?_; rintro e wf ⟨n2, rfl, ho, hb⟩; have HD4 : Hid (Cs w b G ga x T T L' S' v1 v2 wf) := Lib.hid (Cs.kept (by (repeat (first | with_reducible exact HD3.out | with_reducible exact HD2.out | with_reducible exact HD1.out | with_reducible exact HC.out | apply Cs.drew))) hb); rw [HI'.out.names] at ho; have HN2 := Lib.hid ho; have HN3 := Lib.hid (own_kept (by (repeat (first | with_reducible exact HN1.out | apply own_drew))) hb); clear ho hb)
            | (go_at_call 33; refine (same_own (bsort (L'.map (·.1))) (by (repeat (first | with_reducible exact HN3.out | apply own_drew))) (by (repeat (first | with_reducible exact HN2.out | apply own_drew)))).mono ?_; rintro e wg ⟨rfl, hb⟩; have HD5 : Hid (Cs w b G ga x T T L' S' v1 v2 wg) := Lib.hid (Cs.kept (by (repeat (first | with_reducible exact HD4.out | with_reducible exact HD3.out | with_reducible exact HD2.out | with_reducible exact HD1.out | with_reducible exact HC.out | apply Cs.drew))) hb); clear hb))
        go_wp2
        go_roundw
        case rel => exact ⟨k + 1, T, L', S', v1, v2, hlt, by go_num, hT, hTk, HI', Lib.hid (Cs.forget (ga := ga) (x := x) (by (repeat (first | with_reducible exact HD5.out | with_reducible exact HD4.out | with_reducible exact HD3.out | with_reducible exact HD2.out | with_reducible exact HD1.out | with_reducible exact HC.out | apply Cs.drew))))⟩
        case measure => simp [intOf]; omega
    · obtain rfl : k = l.length := by omega
      go_wp2
      go_ret
      exact ⟨rfl, H0.out.bel⟩
end Go.Proofs.Ytmgcigohfccgeaa
