/- Texts of one proof, laid together: WLScript. No condition of ours. -/
import Derived.Test.YtighcnecajgkpaaLS9
namespace Go.Proofs.Ytighcnecajgkpaa
open Go.RowKit

theorem SMap.fr {P : Program} {k : TypeId} {S : List Nat} {w w' : World} {b : Nat} {m : SM} (h : SMap P k w b m) (hf : Fr S w w') (hb : b ∉ S) : SMap P k w' b m := by
  have hlt := h.lt
  obtain ⟨es, clock, h1, h2⟩ := h
  refine ⟨es, clock, ?_, h2⟩
  rw [hf.block b hlt hb]
  exact h1
theorem Led.fr {S : List Nat} {w w' : World} {b mb : Nat} {cap : Am} {L : List Ent} (h : Led w b mb cap L) (hf : Fr S w w') (hb : b ∉ S) (hm : mb ∉ S) : Led w' b mb cap L := ⟨h.blk.fr hf hb, h.map.fr hf hm, h.ne⟩
theorem fr_drewS {S : List Nat} {a w : World} (h : Fr S a w) : Fr S a w.drew := h.draw 1
def S15 (ab o k gp gq : Nat) (x : Ac) (z : Am) (w' : World) : Prop := w'.cell? ⟨ab, o + k * 7, none⟩ = some (.int .i64 x.k) ∧ w'.cell? ⟨ab, o + k * 7 + 1, none⟩ = some (.string x.s) ∧ w'.cell? ⟨ab, o + k * 7 + 2, none⟩ = some (.string x.t) ∧ w'.cell? ⟨ab, o + k * 7 + 3, none⟩ = some (.int .i64 x.a.c) ∧ w'.cell? ⟨ab, o + k * 7 + 4, none⟩ = some (.int .i64 x.a.r) ∧ w'.cell? ⟨ab, o + k * 7 + 5, none⟩ = some (.int .i64 x.a.d) ∧ w'.cell? ⟨ab, o + k * 7 + 6, none⟩ = some (.int .i64 x.a.p) ∧ w'.cell? ⟨gp, 0, none⟩ = some (.int .i64 z.c) ∧ w'.cell? ⟨gp, 1, none⟩ = some (.int .i64 z.r) ∧ w'.cell? ⟨gp, 2, none⟩ = some (.int .i64 z.d) ∧ w'.cell? ⟨gp, 3, none⟩ = some (.int .i64 z.p) ∧ w'.cell? ⟨gq, 0, none⟩ = some (.int .i64 z.c) ∧ w'.cell? ⟨gq, 1, none⟩ = some (.int .i64 z.r) ∧ w'.cell? ⟨gq, 2, none⟩ = some (.int .i64 z.d) ∧ w'.cell? ⟨gq, 3, none⟩ = some (.int .i64 z.p)
theorem S15.fr {ab o k gp gq : Nat} {x : Ac} {z : Am} {w w' : World} {S : List Nat} (h : S15 ab o k gp gq x z w) (hab : ab ∉ S) (hgp : gp ∉ S) (hgq : gq ∉ S) (hf : Fr S w w') : S15 ab o k gp gq x z w' :=
  ⟨cell_fr h.1 hf hab, cell_fr h.2.1 hf hab, cell_fr h.2.2.1 hf hab, cell_fr h.2.2.2.1 hf hab, cell_fr h.2.2.2.2.1 hf hab, cell_fr h.2.2.2.2.2.1 hf hab, cell_fr h.2.2.2.2.2.2.1 hf hab, cell_fr h.2.2.2.2.2.2.2.1 hf hgp, cell_fr h.2.2.2.2.2.2.2.2.1 hf hgp, cell_fr h.2.2.2.2.2.2.2.2.2.1 hf hgp, cell_fr h.2.2.2.2.2.2.2.2.2.2.1 hf hgp, cell_fr h.2.2.2.2.2.2.2.2.2.2.2.1 hf hgq, cell_fr h.2.2.2.2.2.2.2.2.2.2.2.2.1 hf hgq, cell_fr h.2.2.2.2.2.2.2.2.2.2.2.2.2.1 hf hgq, cell_fr h.2.2.2.2.2.2.2.2.2.2.2.2.2.2 hf hgq⟩
theorem left_all (b mb : Nat) (cap : Am) (L : List Ent) (hI : Inv cap L) (s : ByteArray) (hs : s.size ≤ maxLen) : ∃ (z : Am) (er : Int), (∀ w, Led w b mb cap L → Calls Try.prog 10 #[ptr b, .string s] w fun e w' => e = .returned (.tuple #[.agg #[.int .i64 z.c, .int .i64 z.r, .int .i64 z.d, .int .i64 z.p], .int .i64 er]) ∧ Below w.heap.size w w') ∧
    ∀ (base g : Nat) (v : Value) (w : World), L.length ≤ 100000 → RLed base w g v cap L → Calls Try.prog 15 #[ptr g, .string s] w fun e w' => e = .returned (.tuple #[.agg #[.int .i64 z.c, .int .i64 z.r, .int .i64 z.d, .int .i64 z.p], .int .i64 er]) ∧ Below w.heap.size w w' := by
  cases hp : plc L s with
  | none => exact ⟨⟨0, 0, 0, 0⟩, 6, fun w h => left_no b mb cap L s w h hs (plc_none hp), fun base g v w _ h => rleft_no base g v cap L s w h hp⟩
  | some k =>
    obtain ⟨hk, hn, hf⟩ := plc_some hp
    have hne : ¬ s.toList = [] := by rw [← hn]; exact size_list (hI.nm _ (List.getElem_mem hk)).1
    exact ⟨(subR L[k].a (sumA (inB s ⟨#[]⟩) L)).1, 0, fun w h => left_yes b mb cap L s L[k] w h hs hne hf hI.rise.apart hI.oks (hI.fit2 _ _) _ _ (sub_pair _ _), fun base g v w hl h => rleft_yes base g v cap L s w h hI.oks (hI.fit2 _ _) hl (empty_not hne) k hk hp _ _ (sub_pair _ _)⟩

set_option maxRecDepth 100000 in
set_option maxHeartbeats 8000000 in
theorem ledgerScript_go (cap : Am) (v : Value) (l : List Ac) (w : World) (h : Acts w v l) :
    Calls Try.prog 4 #[amV cap, v] w fun e w' => e = .returned (.bool true) ∧ Below w.heap.size w w' := by
  obtain ⟨p, c, rfl, hlc, hcm⟩ := h.shape
  have hml : maxLen ≤ 9223372036854775807 := by decide
  obtain ⟨w1, hw1⟩ : ∃ w1, w1 = w.alloc (.cells #[.int .i64 cap.c, .int .i64 cap.r, .int .i64 cap.d, .int .i64 cap.p] 28) := ⟨_, rfl⟩
  obtain ⟨B, hB⟩ : ∃ B, B = w.heap.size := ⟨_, rfl⟩
  have S0 : Hid (Blk w1 B (amC cap) 28) := Lib.hid (by rw [hw1, hB]; exact Blk.made w (amC cap) _)
  have HB1 : Hid (Below w.heap.size w w1) := Lib.hid (by rw [hw1]; exact below_alloc w _)
  have H := Lib.hid h
  have HABV : Hid (∀ b o, p = some ⟨b, o, none⟩ → 0 < l.length → b < w.heap.size) := Lib.hid (fun b o hp hl => by
    obtain ⟨b', o', hp', hc⟩ := h.at hl
    rw [hp] at hp'
    cases hp'
    exact World.block_lt_of_cell? w _ (hc 0 _ (by omega) rfl))
  clear h
  cases hc : cap.okB
  · have HC := Lib.hid hc
    clear hc
    go_enter Try.func4, Try.ntmps4
    go_upto_region 1 with fail
    rw [← hw1, ← hB]
    clear hw1 hB
    go_wp2_with (first
      | (go_at_call 7; refine (llives _).mono ?_; rintro e w2 ⟨rfl, hb⟩; have hbr := S0.out.kept hb; have S2 := Lib.hid hbr; have c0 := hbr.cell (j := 0) rfl; have c1 := hbr.cell (j := 1) rfl; have c2 := hbr.cell (j := 2) rfl; have c3 := hbr.cell (j := 3) rfl; have HB2 := Lib.hid (below_and HB1.out hb); clear hb hbr)
      | (go_at_call 8; refine (lnew_bad cap _ HC.out).mono ?_; rintro e w3 ⟨rfl, hb⟩; have hbr := S2.out.kept hb; have c0 := hbr.cell (j := 0) rfl; have c1 := hbr.cell (j := 1) rfl; have c2 := hbr.cell (j := 2) rfl; have c3 := hbr.cell (j := 3) rfl; have HB3 := Lib.hid (below_and HB2.out hb); clear hb hbr)
      | (go_at_call 14; refine (rnew_bad cap _ HC.out).mono ?_; rintro e w4 ⟨rfl, hb⟩; have HB4 := Lib.hid (below_and HB3.out hb); clear hb))
    go_ret
    exact ⟨rfl, HB4.out⟩
  have HC := Lib.hid hc
  clear hc
  by_cases hl : 200 < l.length
  · have i1 : (200 : Int) < (l.length : Int) := by omega
    go_enter Try.func4, Try.ntmps4
    go_upto_region 1 with fail
    rw [← hw1, ← hB]
    clear hw1 hB
    go_wp2_with (first
      | (go_at_call 7; refine (llives _).mono ?_; rintro e w2 ⟨rfl, hb⟩; have hbr := S0.out.kept hb; have S2 := Lib.hid hbr; have c0 := hbr.cell (j := 0) rfl; have c1 := hbr.cell (j := 1) rfl; have c2 := hbr.cell (j := 2) rfl; have c3 := hbr.cell (j := 3) rfl; have HB2 := Lib.hid (below_and HB1.out hb); clear hb hbr)
      | (go_at_call 8; refine (lnew_ok cap _ HC.out).mono ?_; rintro e w3 ⟨b, mb, rfl, -, -, -, hb⟩; have hbr := S2.out.kept hb; have c0 := hbr.cell (j := 0) rfl; have c1 := hbr.cell (j := 1) rfl; have c2 := hbr.cell (j := 2) rfl; have c3 := hbr.cell (j := 3) rfl; have HB3 := Lib.hid (below_and HB2.out hb); clear hb hbr)
      | (go_at_call 14; refine (rnew_ok 0 cap _ HC.out).mono ?_; rintro e w4 ⟨g, rfl, -, -, hb⟩; have HB4 := Lib.hid (below_and HB3.out hb); clear hb))
    go_ret
    exact ⟨rfl, HB4.out⟩
  have HL : Hid (l.length ≤ 200) := Lib.hid (by omega)
  have i1 : ¬ (200 : Int) < (l.length : Int) := by omega
  clear hl
  go_enter Try.func4, Try.ntmps4
  go_upto_region 1 with fail
  rw [← hw1, ← hB]
  clear hw1 hB
  go_upto_region 9 with (first
    | (go_at_call 7; refine (llives _).mono ?_; rintro e w2 ⟨rfl, hb⟩; have hbr := S0.out.kept hb; have S2 := Lib.hid hbr; have c0 := hbr.cell (j := 0) rfl; have c1 := hbr.cell (j := 1) rfl; have c2 := hbr.cell (j := 2) rfl; have c3 := hbr.cell (j := 3) rfl; have HB2 := Lib.hid (below_and HB1.out hb); clear hb hbr)
    | (go_at_call 8; refine (lnew_ok cap _ HC.out).mono ?_; rintro e w3 ⟨b, mb, rfl, hb0, hm0, hled, hb⟩; have hbr := S2.out.kept hb; have c0 := hbr.cell (j := 0) rfl; have c1 := hbr.cell (j := 1) rfl; have c2 := hbr.cell (j := 2) rfl; have c3 := hbr.cell (j := 3) rfl; have HM0 : Hid (w.heap.size ≤ mb ∧ w.heap.size ≤ b) := Lib.hid ⟨Nat.le_trans HB2.out.size hm0, Nat.le_trans HB2.out.size hb0⟩; have HB3 := Lib.hid (below_and HB2.out hb); have HLE := Lib.hid hled; clear hb hbr hb0 hm0 hled)
    | (go_at_call 14; refine (rnew_ok w3.heap.size cap _ HC.out).mono ?_; rintro e w4 ⟨g, rfl, hg0, hrl, hb⟩; have HB4 := Lib.hid (below_and HB3.out hb); have HLE4 := Lib.hid (HLE.out.kept hb); have HG0 := Lib.hid hg0; have HRL := Lib.hid hrl; clear hb hg0 hrl c0 c1 c2 c3))
  have HFAR : Hid (b < w3.heap.size ∧ mb < w3.heap.size ∧ w.heap.size ≤ w3.heap.size ∧ w3.heap.size ≤ g) := Lib.hid ⟨HLE.out.blk.lt, HLE.out.map.lt, HB3.out.size, HG0.out⟩
  have HGV : Hid (RLed (w3.heap.size + 0) w4 g (.slice none 0 0) cap []) := Lib.hid HRL.out
  go_wp2
  go_loopw [9] (fun i wr => ∃ (k : Nat) (L : List Ent) (v : Value), k ≤ l.length ∧ i = .int .i64 (k : Int) ∧ Hid (Led wr b mb cap L) ∧ Hid (RLed w3.heap.size wr g v cap L) ∧ Hid (Inv cap L) ∧ Hid (L.length ≤ k) ∧ Hid (Below w.heap.size w wr ∧ w3.heap.size ≤ wr.heap.size)) (fun i _ => l.length - (intOf i).toNat)
  case atStart => exact ⟨0, [], _, Nat.zero_le _, rfl, HLE4, HRL, Lib.hid (Inv.nil HC.out), Lib.hid (Nat.zero_le _), Lib.hid ⟨HB4.out, by have := HG0.out; have := HRL.out.blk.lt; omega⟩⟩
  case round =>
    obtain ⟨k, L, v, hk, rfl, HR, HV, HI, HLL, HB⟩ := hrel
    by_cases hlt : k < l.length
    · obtain ⟨ab, o, rfl, hcs⟩ := (H.out.below HB.out.1).at hlt
      obtain ⟨x, hx⟩ : ∃ x, x = l[k] := ⟨_, rfl⟩
      have hxm : x ∈ l := by rw [hx]; exact List.getElem_mem hlt
      have HXS := Lib.hid (H.out.2 x hxm)
      rw [← hx] at hcs
      have HCS := Lib.hid hcs
      have HAB : Hid (ab < w.heap.size) := Lib.hid (HABV.out ab o rfl (by omega))
      have HLN : Hid (L.length ≤ 100000) := Lib.hid (by have := HLL.out; have := HL.out; omega)
      have i2 : (k : Int) < (l.length : Int) := by omega
      have HI2 := Lib.hid (HI.out.step x.k x.s x.t x.a)
      have HL2 : Hid ((stepP cap L x.k x.s x.t x.a).2.length ≤ k + 1) := Lib.hid (by have := step_len cap L x.k x.s x.t x.a; have := HLL.out; omega)
      obtain ⟨z, er, hz1, hz2⟩ := left_all b mb cap L HI.out x.s HXS.out.1
      have HZ1 := Lib.hid hz1
      have HZ2 := Lib.hid (fun w => hz2 w3.heap.size g v w HLN.out)
      have HVB : Hid (∀ q, v.ownBlock = some q → w3.heap.size ≤ q) := Lib.hid (fun q hq => own_base HV.out.row hq)
      have x1 : wr.cell? ⟨ab, o + k * 7 + 1, none⟩ = some (.string x.s) := hcs 1 _ (by omega) rfl
      clear hcs hx hxm hz1 hz2
      go_upto_region 13 with (go_at_call 10; refine (HZ1.out _ HR.out).mono ?_; rintro e w5 ⟨rfl, hb⟩; have HB5 := Lib.hid hb; clear hb)
      obtain ⟨w6, hw6⟩ : ∃ w6, w6 = w5.alloc (.cells #[.int .i64 z.c, .int .i64 z.r, .int .i64 z.d, .int .i64 z.p] 28) := ⟨_, rfl⟩
      obtain ⟨gp, hgp⟩ : ∃ gp, gp = w5.heap.size := ⟨_, rfl⟩
      have hb6 : Below wr.heap.size wr w6 := by rw [hw6]; exact below_and HB5.out (below_alloc _ _)
      have HP6 : Hid (Blk w6 gp (amC z) 28) := Lib.hid (by rw [hw6, hgp]; exact Blk.made w5 (amC z) _)
      have HGP : Hid (wr.heap.size ≤ gp) := Lib.hid (by rw [hgp]; exact HB5.out.size)
      have HBW6 := Lib.hid hb6
      have HV6 := Lib.hid (HV.out.kept hb6)
      have x16 := cell_kept x1 hb6
      rw [← hw6, ← hgp]
      clear hw6 hgp hb6 x1
      go_upto_region 14 with (go_at_call 15; refine (HZ2.out _ HV6.out).mono ?_; rintro e w7 ⟨rfl, hb⟩; have HB7 := Lib.hid hb; clear hb)
      obtain ⟨w8, hw8⟩ : ∃ w8, w8 = w7.alloc (.cells #[.int .i64 z.c, .int .i64 z.r, .int .i64 z.d, .int .i64 z.p] 28) := ⟨_, rfl⟩
      obtain ⟨gq, hgq⟩ : ∃ gq, gq = w7.heap.size := ⟨_, rfl⟩
      have hb8 : Below w6.heap.size w6 w8 := by rw [hw8]; exact below_and HB7.out (below_alloc _ _)
      have hq8 : Blk w8 gq (amC z) 28 := by rw [hw8, hgq]; exact Blk.made w7 (amC z) _
      have hp8 := HP6.out.kept hb8
      have hbw8 := below_and HBW6.out hb8
      have HGQ : Hid (wr.heap.size ≤ gq) := Lib.hid (by rw [hgq]; have := HB7.out.size; have := HBW6.out.size; omega)
      have HR8 := Lib.hid (HR.out.kept hbw8)
      have HV8 := Lib.hid (HV.out.kept hbw8)
      have HB8 : Hid (Below w.heap.size w w8 ∧ w3.heap.size ≤ w8.heap.size) := Lib.hid ⟨below_and HB.out.1 hbw8, Nat.le_trans HB.out.2 hbw8.size⟩
      have hcs2 : ∀ j u, j < 7 → (x.c)[j]? = some u → w8.cell? ⟨ab, o + k * 7 + j, none⟩ = some u := fun j u hj hu => cell_kept (HCS.out j u hj hu) hbw8
      have HE : Hid (S15 ab o k gp gq x z w8) := Lib.hid ⟨hcs2 0 _ (by omega) rfl, hcs2 1 _ (by omega) rfl, hcs2 2 _ (by omega) rfl, hcs2 3 _ (by omega) rfl, hcs2 4 _ (by omega) rfl, hcs2 5 _ (by omega) rfl, hcs2 6 _ (by omega) rfl, hp8.cell (j := 0) rfl, hp8.cell (j := 1) rfl, hp8.cell (j := 2) rfl, hp8.cell (j := 3) rfl, hq8.cell (j := 0) rfl, hq8.cell (j := 1) rfl, hq8.cell (j := 2) rfl, hq8.cell (j := 3) rfl⟩
      have HGLT : Hid (g < wr.heap.size ∧ ∀ q, v.ownBlock = some q → q < wr.heap.size) := Lib.hid ⟨HV.out.blk.lt, fun q hq => own_lt HV.out.row hq⟩
      have HN1 : Hid (ab ∉ mb :: g :: v.ownBlock.toList ∧ gp ∉ mb :: g :: v.ownBlock.toList ∧ gq ∉ mb :: g :: v.ownBlock.toList) := Lib.hid (by
        have h1 := HFAR.out
        have h2 := HAB.out
        have h3 := HM0.out
        have h4 := HGP.out
        have h5 := HGQ.out
        have h6 := HGLT.out
        have h7 := HB.out.2
        have far : ∀ q : Nat, (q < w.heap.size ∨ wr.heap.size ≤ q) → q ∉ mb :: g :: v.ownBlock.toList := fun q hq hm => by
          rcases List.mem_cons.1 hm with h8 | hm
          · omega
          rcases List.mem_cons.1 hm with h8 | hm
          · omega
          have h9 := Option.mem_toList.1 hm
          have ha := HVB.out q h9
          have hb := h6.2 q h9
          omega
        exact ⟨far _ (.inl h2), far _ (.inr h4), far _ (.inr h5)⟩)
      have HN2 : Hid (g ∉ [mb] ∧ (∀ q, v.ownBlock = some q → q ∉ [mb]) ∧ b ∉ g :: v.ownBlock.toList ∧ mb ∉ g :: v.ownBlock.toList) := Lib.hid (by
        have h1 := HFAR.out
        have h6 := HVB.out
        refine ⟨by simp; omega, fun q hq => by have := h6 q hq; simp; omega, fun hm => ?_, fun hm => ?_⟩
        · rcases List.mem_cons.1 hm with h8 | hm
          · omega
          · have := h6 _ (Option.mem_toList.1 hm); omega
        · rcases List.mem_cons.1 hm with h8 | hm
          · omega
          · have := h6 _ (Option.mem_toList.1 hm); omega)
      rw [← hw8, ← hgq]
      clear hw8 hgq hb8 hq8 hp8 hbw8 hcs2 x16
      obtain ⟨rr, L2, hs⟩ : ∃ rr L2, stepP cap L x.k x.s x.t x.a = (rr, L2) := ⟨_, _, rfl⟩
      have hst : ∀ w', Led w' b mb cap L → Calls Try.prog 16 #[ptr b, .agg #[.int .i64 x.k, .string x.s, .string x.t, .int .i64 x.a.c, .int .i64 x.a.r, .int .i64 x.a.d, .int .i64 x.a.p]] w' fun e w2 => e = .returned (.int .i64 rr) ∧ Led w2 b mb cap L2 ∧ Fr [mb] w' w2 := fun w' h' => by
        have := step_all b mb cap L x.k x.s x.t x.a w' h' HI.out HXS.out.1 HXS.out.2 HLN.out
        rw [hs] at this
        exact this
      have hsh : ∀ w', w3.heap.size ≤ w'.heap.size → RLed w3.heap.size w' g v cap L → Calls Try.prog 17 #[ptr g, .agg #[.int .i64 x.k, .string x.s, .string x.t, .int .i64 x.a.c, .int .i64 x.a.r, .int .i64 x.a.d, .int .i64 x.a.p]] w' fun e w2 => e = .returned (.int .i64 rr) ∧ ∃ v', RLed w3.heap.size w2 g v' cap L2 ∧ RStep w' w2 g v v' := fun w' hsz h' => by
        have := should_all w3.heap.size g v cap L x.k x.s x.t x.a w' h' HI.out HLN.out hsz
        rw [hs] at this
        exact this
      have HST := Lib.hid hst
      have HSH := Lib.hid hsh
      have hI2 := HI2.out
      have hL2 := HL2.out
      rw [hs] at hI2 hL2
      have HI3 : Hid (Inv cap L2) := Lib.hid hI2
      have HL3 : Hid (L2.length ≤ k + 1) := Lib.hid hL2
      have HLN3 : Hid (L2.length ≤ 100000) := Lib.hid (by have h2 := HL3.out; have h3 := HL.out; omega)
      have HNM3 : Hid (∀ e ∈ L2, e.n.size ≤ maxLen) := Lib.hid HI3.out.size
      clear hst hsh hs hI2 hL2 HI2 HL2
      go_wp2
      go_region_held3 (fun w' => w'.cell? ⟨ab, o + k * 7, none⟩ = some (.int .i64 x.k) ∧ w'.cell? ⟨ab, o + k * 7 + 1, none⟩ = some (.string x.s) ∧ w'.cell? ⟨ab, o + k * 7 + 2, none⟩ = some (.string x.t) ∧ w'.cell? ⟨ab, o + k * 7 + 3, none⟩ = some (.int .i64 x.a.c) ∧ w'.cell? ⟨ab, o + k * 7 + 4, none⟩ = some (.int .i64 x.a.r) ∧ w'.cell? ⟨ab, o + k * 7 + 5, none⟩ = some (.int .i64 x.a.d) ∧ w'.cell? ⟨ab, o + k * 7 + 6, none⟩ = some (.int .i64 x.a.p) ∧ w'.cell? ⟨gp, 0, none⟩ = some (.int .i64 z.c) ∧ w'.cell? ⟨gp, 1, none⟩ = some (.int .i64 z.r) ∧ w'.cell? ⟨gp, 2, none⟩ = some (.int .i64 z.d) ∧ w'.cell? ⟨gp, 3, none⟩ = some (.int .i64 z.p) ∧ w'.cell? ⟨gq, 0, none⟩ = some (.int .i64 z.c) ∧ w'.cell? ⟨gq, 1, none⟩ = some (.int .i64 z.r) ∧ w'.cell? ⟨gq, 2, none⟩ = some (.int .i64 z.d) ∧ w'.cell? ⟨gq, 3, none⟩ = some (.int .i64 z.p))
        (refine HE.out.fr HN1.out.1 HN1.out.2.1 HN1.out.2.2 ?_ <;> (repeat (first | with_reducible exact Fr.refl _ _ | with_reducible exact Fa.out | with_reducible exact Fb.out | with_reducible exact Fc.out | with_reducible exact Fd.out | with_reducible exact Fe.out | with_reducible exact Ff.out | apply fr_drewS | with_reducible (refine Fr.alloc ?_ _))))
        (first
          | (go_at_call 16; refine (HST.out _ (by refine HR8.out.kept ?_; (repeat (first | with_reducible exact Below.refl _ _ | apply bl_drew | with_reducible (refine below_and ?_ (below_alloc _ _)))))).mono ?_; rintro e wa ⟨rfl, hla, hf⟩; have hfa : Fr [mb] w8 wa := Fr.then (by (repeat (first | with_reducible exact Fr.refl _ _ | apply fr_drewS | with_reducible (refine Fr.alloc ?_ _)))) hf; have Fa := Lib.hid (hfa.mono (T := mb :: g :: v.ownBlock.toList) (by intro q hq; rw [List.mem_singleton.1 hq]; simp)); have Ha := Lib.hid hla; have HVa := Lib.hid (HV8.out.fr hfa HN2.out.1 HN2.out.2.1); have HSa : Hid (w3.heap.size ≤ wa.heap.size) := Lib.hid (Nat.le_trans HB8.out.2 hfa.size); clear hla hf hfa)
          | (go_at_call 17; refine (HSH.out _ HSa.out HVa.out).mono ?_; rintro e wb ⟨rfl, v', hlb, hf⟩; have Fb : Hid (Fr (mb :: g :: v.ownBlock.toList) w8 wb) := Lib.hid (Fa.out.then (hf.fr.mono (T := mb :: g :: v.ownBlock.toList) (fun q hq => List.mem_cons_of_mem _ hq))); have Hb := Lib.hid (Ha.out.fr hf.fr HN2.out.2.2.1 HN2.out.2.2.2); have HVb := Lib.hid hlb; clear hlb hf)
          | (go_at_call 18; refine (same_made b mb w3.heap.size g v' cap L2 _ Hb.out HVb.out HI3.out HLN3.out).mono ?_; rintro e wc ⟨rfl, hb⟩; have Fc : Hid (Fr (mb :: g :: v.ownBlock.toList) w8 wc) := Lib.hid (Fb.out.then (Fr.of_below hb _)); have Hc := Lib.hid (Hb.out.kept hb); have HVc := Lib.hid (HVb.out.kept hb); clear hb)
          | (go_at_call 20; refine (in_made b mb cap L2 x.t _ Hc.out HI3.out.rise HNM3.out HLN3.out).mono ?_; rintro e wd ⟨vd, rfl, ho, hb⟩; have Fd : Hid (Fr (mb :: g :: v.ownBlock.toList) w8 wd) := Lib.hid (Fc.out.then (Fr.of_below hb _)); have Hd := Lib.hid (Hc.out.kept hb); have HVd := Lib.hid (HVc.out.kept hb); have HOd := Lib.hid ho; clear ho hb)
          | (go_at_call 21; refine (rin_any w3.heap.size g v' cap L2 x.t _ HVd.out HLN3.out).mono ?_; rintro e we ⟨ve, rfl, ho, hb⟩; have Fe : Hid (Fr (mb :: g :: v.ownBlock.toList) w8 we) := Lib.hid (Fd.out.then (Fr.of_below hb _)); have He := Lib.hid (Hd.out.kept hb); have HVe := Lib.hid (HVd.out.kept hb); have HOe := Lib.hid ho; have HOde := Lib.hid (own_fr HOd.out (Fr.of_below hb []) (fun _ _ => by simp)); clear ho hb)
          | (go_at_call 19; refine (sametexts_in HOde.out HOe.out).mono ?_; rintro e wf ⟨rfl, hb⟩; have Ff : Hid (Fr (mb :: g :: v.ownBlock.toList) w8 wf) := Lib.hid (Fe.out.then (Fr.of_below hb _)); have Hf := Lib.hid (He.out.kept hb); have HVf := Lib.hid (HVe.out.kept hb); clear hb))
      have x1f : wf.cell? ⟨ab, o + k * 7 + 1, none⟩ = some (.string x.s) := (HE.out.fr HN1.out.1 HN1.out.2.1 HN1.out.2.2 Ff.out).2.1
      have HBF : Hid (Below w.heap.size w wf ∧ w3.heap.size ≤ wf.heap.size) := Lib.hid ⟨HB8.out.1.trans (Ff.out.below (fun q hq => by
        have h1 := HFAR.out
        have h2 := HM0.out
        rcases List.mem_cons.1 hq with h8 | hq
        · omega
        rcases List.mem_cons.1 hq with h8 | hq
        · omega
        have := HVB.out q (Option.mem_toList.1 hq)
        omega) HB8.out.1.size), Nat.le_trans HB8.out.2 Ff.out.size⟩
      obtain ⟨y, hy⟩ : ∃ y, y = (fnd L2 x.s.data.toList).getD zE := ⟨_, rfl⟩
      obtain ⟨e2, he2⟩ : ∃ e2, e2 = (getP L2 x.s).1 := ⟨_, rfl⟩
      have HG1 : Hid (∀ w, Led w b mb cap L2 → Calls Try.prog 22 #[ptr b, .string x.s] w fun e w' => e = .returned (.tuple #[.agg #[.string y.n, .string y.i, .int .i64 y.a.c, .int .i64 y.a.r, .int .i64 y.a.d, .int .i64 y.a.p], .int .i64 e2]) ∧ Below w.heap.size w w') := Lib.hid (fun w h => by rw [hy, he2]; exact lget_all b mb cap L2 x.s w h HXS.out.1)
      have HG2 : Hid (∀ w, RLed w3.heap.size w g v' cap L2 → Calls Try.prog 23 #[ptr g, .string x.s] w fun e w' => e = .returned (.tuple #[.agg #[.string y.n, .string y.i, .int .i64 y.a.c, .int .i64 y.a.r, .int .i64 y.a.d, .int .i64 y.a.p], .int .i64 e2]) ∧ Below w.heap.size w w') := Lib.hid (fun w h => by rw [hy, he2]; exact rget_all w3.heap.size g v' cap L2 x.s w h)
      clear hy he2
      go_upto_region 17 with (go_at_call 22; refine (HG1.out _ Hf.out).mono ?_; rintro e wg ⟨rfl, hb⟩; have HBg := Lib.hid hb; clear hb)
      obtain ⟨wh, hwh⟩ : ∃ wh, wh = wg.alloc (.cells #[.string y.n, .string y.i, .int .i64 y.a.c, .int .i64 y.a.r, .int .i64 y.a.d, .int .i64 y.a.p] 48) := ⟨_, rfl⟩
      obtain ⟨gy, hgy⟩ : ∃ gy, gy = wg.heap.size := ⟨_, rfl⟩
      have hbh : Below wf.heap.size wf wh := by rw [hwh]; exact below_and HBg.out (below_alloc _ _)
      have HYh : Hid (Blk wh gy (entC y) 48) := Lib.hid (by rw [hwh, hgy]; exact Blk.made wg (entC y) _)
      have HBh := Lib.hid hbh
      have HVh := Lib.hid (HVf.out.kept hbh)
      have x1h := cell_kept x1f hbh
      rw [← hwh, ← hgy]
      clear hwh hgy hbh x1f
      go_upto_region 18 with (go_at_call 23; refine (HG2.out _ HVh.out).mono ?_; rintro e wi ⟨rfl, hb⟩; have HBi := Lib.hid hb; clear hb)
      obtain ⟨wj, hwj⟩ : ∃ wj, wj = wi.alloc (.cells #[.string y.n, .string y.i, .int .i64 y.a.c, .int .i64 y.a.r, .int .i64 y.a.d, .int .i64 y.a.p] 48) := ⟨_, rfl⟩
      obtain ⟨gz, hgz⟩ : ∃ gz, gz = wi.heap.size := ⟨_, rfl⟩
      have hbj : Below wh.heap.size wh wj := by rw [hwj]; exact below_and HBi.out (below_alloc _ _)
      have hzj : Blk wj gz (entC y) 48 := by rw [hwj, hgz]; exact Blk.made wi (entC y) _
      have hyj := HYh.out.kept hbj
      have hfj := below_and HBh.out hbj
      have HRJ := Lib.hid (Hf.out.kept hfj)
      have HVJ := Lib.hid (HVf.out.kept hfj)
      have HBJ : Hid (Below w.heap.size w wj ∧ w3.heap.size ≤ wj.heap.size) := Lib.hid ⟨below_and HBF.out.1 hfj, Nat.le_trans HBF.out.2 hfj.size⟩
      have y0 := hyj.cell (j := 0) rfl
      have y1 := hyj.cell (j := 1) rfl
      have y2 := hyj.cell (j := 2) rfl
      have y3 := hyj.cell (j := 3) rfl
      have y4 := hyj.cell (j := 4) rfl
      have y5 := hyj.cell (j := 5) rfl
      have z0 := hzj.cell (j := 0) rfl
      have z1 := hzj.cell (j := 1) rfl
      have z2 := hzj.cell (j := 2) rfl
      have z3 := hzj.cell (j := 3) rfl
      have z4 := hzj.cell (j := 4) rfl
      have z5 := hzj.cell (j := 5) rfl
      rw [← hwj, ← hgz]
      clear hwj hgz hbj hzj hyj hfj x1h
      go_wp2
      go_roundw
      case rel => exact ⟨k + 1, L2, v', hlt, by go_num, HRJ, HVJ, HI3, HL3, HBJ⟩
      case measure => simp [intOf]; omega
    · obtain rfl : k = l.length := by omega
      go_wp2
      go_ret
      exact ⟨rfl, HB.out.1⟩

theorem ledgerScript_walk (cs : List Value) (v : Value) (es : List (List Value)) (w : World) (h : Leaves Try.prog [2, 2, 2, 2] cs) (hr : Row w v 7 es.length es.flatten) (hf : ∀ x ∈ es, Leaves Try.prog [3, 9, 9, 2, 2, 2, 2] x) :
    Calls Try.prog 4 #[.agg cs.toArray, v] w fun e w' => e = .returned (.bool true) ∧ Below w.heap.size w w' := by
  obtain ⟨l, hl⟩ := acts_of hr hf
  match cs, h.1, h.2 with
  | [v0, v1, v2, v3], _, hc =>
    obtain ⟨c, rfl, -⟩ := fieldOk.int (v := v0) (hc 0 _ rfl) Try.underlying2
    obtain ⟨r, rfl, -⟩ := fieldOk.int (v := v1) (hc 1 _ rfl) Try.underlying2
    obtain ⟨d, rfl, -⟩ := fieldOk.int (v := v2) (hc 2 _ rfl) Try.underlying2
    obtain ⟨p, rfl, -⟩ := fieldOk.int (v := v3) (hc 3 _ rfl) Try.underlying2
    exact ledgerScript_go ⟨c, r, d, p⟩ v l w hl
end Go.Proofs.Ytighcnecajgkpaa
