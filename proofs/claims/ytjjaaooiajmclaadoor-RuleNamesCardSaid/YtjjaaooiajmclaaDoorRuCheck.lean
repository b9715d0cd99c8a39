/- Check, Text. -/
import Derived.Test.YtjjaaooiajmclaaDoorRuEqual
namespace Go.Proofs.YtjjaaooiajmclaaDoor.Ru
open Go.RowKit Go.Proofs.YtjjaaooiajmclaaDoor

/-- what a rule's nodes must be for a walk -/
theorem bs_data (l : List UInt8) : (bs l).data.toList = l := by simp [bs]

set_option maxRecDepth 100000 in
set_option maxHeartbeats 1000000 in
theorem check_any (v : Value) (L : List Nd) (w : World) (hv : Row w v 6 L.length (rwC ndC L)) (hc : ∀ n ∈ L, Fit1 n) (hE : ErrV w) (hT : Tab w) :
    Calls Tryd.prog 9 #[.agg #[v]] w fun r w' => r = .returned (.int .i64 (checkP L)) ∧ Below w.heap.size w w' := by
  obtain ⟨p, c, rfl, hcc, hm, -⟩ := id hv
  have HV := Lib.hid hv
  have HC := Lib.hid hc
  have HE := Lib.hid hE
  have HT := Lib.hid hT
  have hml : maxLen ≤ 9223372036854775807 := by decide
  obtain ⟨n, hn⟩ : ∃ n, n = L.length := ⟨_, rfl⟩
  have HN := Lib.hid hn
  rw [← hn] at hcc HV ⊢
  have hn63 : (n : Int) ≤ 9223372036854775807 := by omega
  clear hv hc hE hT hcc hm hml hn
  obtain ⟨w1, hw1⟩ : ∃ w1, w1 = w.alloc (.cells #[.slice p n c] 25) := ⟨_, rfl⟩
  have HB1 : Hid (Below w.heap.size w w1) := Lib.hid (by rw [hw1]; exact below_alloc _ _)
  have HX1 : Hid (Blk w1 w.heap.size [.slice p n c] 25) := Lib.hid (by rw [hw1]; exact Blk.made w [_] _)
  have HS : Hid (Calls Tryd.prog 17 #[.slice p n c] w1 fun r w' => r = .returned (.bool (shapedB L)) ∧ Below w1.heap.size w1 w') := Lib.hid (shaped_any _ L w1 (by have := HV.out.below HB1.out; rw [HN.out] at this ⊢; exact this))
  cases hsh : shapedB L with
  | false =>
    have HCK : Hid (checkP L = 2) := Lib.hid (by unfold checkP; rw [hsh]; rfl)
    rw [hsh] at HS
    have b0 := HX1.out.cell (j := 0) rfl
    clear hsh
    go_enter Tryd.func9, Tryd.ntmps9
    go_upto_region 1 with fail
    rw [← hw1]
    clear hw1
    go_wp2_with (go_at_call 17; refine HS.out.mono ?_; rintro r w2 ⟨rfl, hb⟩; have HB2 := Lib.hid (below_and HB1.out hb); clear hb)
    go_ret
    exact ⟨ret_int HCK.out.symm, HB2.out⟩
  | true =>
    obtain ⟨hf, h1, h2, h3⟩ := shaped_fine hsh
    rw [hsh] at HS
    obtain ⟨m, hm⟩ : ∃ m, n = m + 1 := ⟨n - 1, by have := HN.out; omega⟩
    have HM := Lib.hid hm
    have HTO := Lib.hid (told_any hf h1 h3 HC.out L.length m (by have := HN.out; omega) (by have := HN.out; omega))
    have HTA : Hid (toldA L = tl L m) := Lib.hid (by rw [toldA_tl hf h2]; congr 1; have := HN.out; omega)
    have HTL := Lib.hid (told_long hf h1 h3 HC.out (i := m) (by have := HN.out; omega))
    have HCK : Hid (checkP L = match parseP (toldA L) with | .ok M => if M = L then 0 else 2 | .error _ => 2) := Lib.hid (by unfold checkP; rw [if_pos hsh]; cases parseP (toldA L) <;> rfl)
    have u1 : IntKind.i64.wrap ((n : Int) - 1) = (m : Int) := by rw [IntKind.wrap_i64]; have := HN.out; omega
    obtain ⟨S, hS⟩ : ∃ S, S = bs (tl L m) := ⟨_, rfl⟩
    have HSD : Hid (parseP (toldA L) = parseP S.data.toList) := Lib.hid (by rw [hS, bs_data, HTA.out])
    have HSZ : Hid (S.size ≤ maxLen) := Lib.hid (by rw [hS, bs_size]; have := HTL.out; unfold maxLen; omega)
    have HTS : Hid (∀ w2, Below w1.heap.size w1 w2 → Calls Tryd.prog 16 #[.slice p n c, .int .i64 (m : Int)] w2 fun r w' => r = .returned (.string S) ∧ Below w2.heap.size w2 w') := Lib.hid (fun w2 hb => by
      rw [hS]
      exact HTO.out _ w2 (by have := HV.out.below (below_and HB1.out hb); rw [HN.out] at this ⊢; exact this) (HT.out.below (below_and HB1.out hb)))
    rw [HSD.out] at HCK
    clear hsh hf h1 h2 h3 hm hS HTO HTA HTL HSD
    have b0 := HX1.out.cell (j := 0) rfl
    go_enter Tryd.func9, Tryd.ntmps9
    go_upto_region 1 with fail
    rw [← hw1]
    obtain ⟨R, hR⟩ : ∃ R, R = w.heap.size := ⟨_, rfl⟩
    have HR := Lib.hid hR
    rw [← hR] at b0 HX1 ⊢
    clear hw1 hR
    go_upto_region 3 with (go_at_call 17; refine HS.out.mono ?_; rintro r w2 ⟨rfl, hb⟩; have HB2 := Lib.hid hb; have b2 := (HX1.out.kept hb).cell (j := 0) rfl; clear hb)
    cases hpp : parseP S.data.toList with
    | error e =>
      have HCK2 : Hid (checkP L = 2) := Lib.hid (by rw [HCK.out, hpp])
      have HPA : Hid (∀ w3, Below w1.heap.size w1 w3 → Calls Tryd.prog 7 #[.string S] w3 fun r w' => r = .returned (.tuple #[.agg #[.slice none 0 0], .agg #[.int .i64 e.1, .int .i64 e.2]]) ∧ Below w3.heap.size w3 w') := Lib.hid (fun w3 hb => by
        have := parse_any S w3 (HE.out.below (below_and HB1.out hb)) (HT.out.below (below_and HB1.out hb)) HSZ.out
        rw [hpp] at this
        exact this)
      have HE0 : Hid (e.1 ≠ 0) := Lib.hid (by have := parseP_fault hpp; omega)
      clear hpp
      obtain ⟨e1, e2⟩ := e
      simp only at HPA HE0
      have t1 : (e1 == 0) = false := by simpa using HE0.out
      go_wp2_with (first
        | (go_at_call 16; refine (HTS.out _ HB2.out).mono ?_; rintro r w3 ⟨rfl, hb⟩; have HB3 := Lib.hid (below_and HB2.out hb); clear hb)
        | (go_at_call 7; refine (HPA.out _ HB3.out).mono ?_; rintro r w4 ⟨rfl, hb⟩; have HB4 := Lib.hid (below_and HB3.out hb); clear hb))
      go_ret
      exact ⟨ret_int HCK2.out.symm, below_and HB1.out (below_and HB4.out (below_and (below_alloc _ _) (below_alloc _ _)))⟩
    | ok M =>
      have HPA : Hid (∀ w3, Below w1.heap.size w1 w3 → Calls Tryd.prog 7 #[.string S] w3 fun r w' => ∃ q d, r = .returned (.tuple #[.agg #[.slice q M.length d], .agg #[.int .i64 0, .int .i64 0]]) ∧ Row w' (.slice q M.length d) 6 M.length (rwC ndC M) ∧ Below w3.heap.size w3 w') := Lib.hid (fun w3 hb => by
        have := parse_any S w3 (HE.out.below (below_and HB1.out hb)) (HT.out.below (below_and HB1.out hb)) HSZ.out
        rw [hpp] at this
        refine this.mono fun r w' h => ?_
        obtain ⟨⟨v, h1, h2⟩, h3⟩ := h
        obtain ⟨q, d, rfl, -, -, h4⟩ := row_own h2 (rwC_one ndC_one M)
        exact ⟨q, d, h1, h4, h3⟩)
      have HCK2 : Hid (checkP L = if M = L then 0 else 2) := Lib.hid (by rw [HCK.out, hpp])
      clear hpp HCK
      have HEQ : Hid (∀ q d w3, Row w3 (.slice q M.length d) 6 M.length (rwC ndC M) → Below w1.heap.size w1 w3 → Calls Tryd.prog 18 #[.slice q M.length d, .slice p n c] w3 fun r w' => r = .returned (.bool (decide (M = L))) ∧ Below w3.heap.size w3 w') := Lib.hid (fun q d w3 h1 hb => by
        have := HV.out.below (below_and HB1.out hb)
        rw [HN.out] at this ⊢
        exact equal_any _ _ M L w3 h1 this)
      obtain ⟨ml, hml⟩ : ∃ ml, ml = M.length := ⟨_, rfl⟩
      rw [← hml] at HPA HEQ
      clear hml
      by_cases hML : M = L
      · skip
        rw [decide_eq_true hML] at HEQ
        rw [if_pos hML] at HCK2
        clear hML
        go_upto_region 4 with (first
          | (go_at_call 16; refine (HTS.out _ HB2.out).mono ?_; rintro r w3 ⟨rfl, hb⟩; have HB3 := Lib.hid (below_and HB2.out hb); clear hb)
          | (go_at_call 7; refine (HPA.out _ HB3.out).mono ?_; rintro r w4 ⟨q, d, rfl, hrow, hb⟩; have HB4 := Lib.hid (below_and HB3.out hb); have HR4 := Lib.hid hrow; clear hb hrow))
        obtain ⟨X, hX⟩ : ∃ X, X = w4.heap.size := ⟨_, rfl⟩
        refine at_hide (F := fun w' => Blk w' X [.slice q ml d] 25 ∧ Blk w' (X + 1) [.int .i64 0, .int .i64 0] 28 ∧ Below w4.heap.size w4 w') ⟨by
          rw [hX]; exact Blk.alloc (Blk.made w4 [.slice q ml d] _) _, by
          rw [hX]; have := Blk.made (w4.alloc (.cells [.slice q ml d].toArray 25)) [.int .i64 0, .int .i64 0] 28; rw [show (w4.alloc (.cells [.slice q ml d].toArray 25)).heap.size = w4.heap.size + 1 from by simp] at this; exact this, below_and (below_alloc _ _) (below_alloc _ _)⟩ ?_
        rw [← hX]
        intro w5 hF
        have hb5 : Below w4.heap.size w4 w5 := by have := hF.2.2; rw [hX] at this; exact this
        have HB5 : Hid (Below w1.heap.size w1 w5) := Lib.hid (below_and HB4.out hb5)
        have HR5 := Lib.hid (HR4.out.below hb5)
        have c0 := hF.1.cell (j := 0) rfl
        have c1 := hF.2.1.cell (j := 0) rfl
        have c2 := hF.2.1.cell (j := 1) rfl
        have c3 := (HX1.out.kept HB5.out).cell (j := 0) rfl
        clear hF hX b2 hb5
        go_wp2_with (go_at_call 18; refine (HEQ.out _ _ _ HR5.out HB5.out).mono ?_; rintro r w6 ⟨rfl, hb⟩; have HB6 := Lib.hid (below_and HB5.out hb); clear hb)
        go_ret
        exact ⟨ret_int HCK2.out.symm, below_and HB1.out HB6.out⟩
      · skip
        rw [decide_eq_false hML] at HEQ
        rw [if_neg hML] at HCK2
        clear hML
        go_upto_region 4 with (first
          | (go_at_call 16; refine (HTS.out _ HB2.out).mono ?_; rintro r w3 ⟨rfl, hb⟩; have HB3 := Lib.hid (below_and HB2.out hb); clear hb)
          | (go_at_call 7; refine (HPA.out _ HB3.out).mono ?_; rintro r w4 ⟨q, d, rfl, hrow, hb⟩; have HB4 := Lib.hid (below_and HB3.out hb); have HR4 := Lib.hid hrow; clear hb hrow))
        obtain ⟨X, hX⟩ : ∃ X, X = w4.heap.size := ⟨_, rfl⟩
        refine at_hide (F := fun w' => Blk w' X [.slice q ml d] 25 ∧ Blk w' (X + 1) [.int .i64 0, .int .i64 0] 28 ∧ Below w4.heap.size w4 w') ⟨by
          rw [hX]; exact Blk.alloc (Blk.made w4 [.slice q ml d] _) _, by
          rw [hX]; have := Blk.made (w4.alloc (.cells [.slice q ml d].toArray 25)) [.int .i64 0, .int .i64 0] 28; rw [show (w4.alloc (.cells [.slice q ml d].toArray 25)).heap.size = w4.heap.size + 1 from by simp] at this; exact this, below_and (below_alloc _ _) (below_alloc _ _)⟩ ?_
        rw [← hX]
        intro w5 hF
        have hb5 : Below w4.heap.size w4 w5 := by have := hF.2.2; rw [hX] at this; exact this
        have HB5 : Hid (Below w1.heap.size w1 w5) := Lib.hid (below_and HB4.out hb5)
        have HR5 := Lib.hid (HR4.out.below hb5)
        have c0 := hF.1.cell (j := 0) rfl
        have c1 := hF.2.1.cell (j := 0) rfl
        have c2 := hF.2.1.cell (j := 1) rfl
        have c3 := (HX1.out.kept HB5.out).cell (j := 0) rfl
        clear hF hX b2 hb5
        go_wp2_with (go_at_call 18; refine (HEQ.out _ _ _ HR5.out HB5.out).mono ?_; rintro r w6 ⟨rfl, hb⟩; have HB6 := Lib.hid (below_and HB5.out hb); clear hb)
        go_ret
        exact ⟨ret_int HCK2.out.symm, below_and HB1.out HB6.out⟩

end Go.Proofs.YtjjaaooiajmclaaDoor.Ru
