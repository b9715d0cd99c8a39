/- Text. -/
import Derived.Test.YtjjaaooiajmclaaDoorRuCheck
namespace Go.Proofs.YtjjaaooiajmclaaDoor.Ru
open Go.RowKit Go.Proofs.YtjjaaooiajmclaaDoor

/-- what Text answers -/
def TextS (w w' : World) (L : List Nd) (r : Ending) : Prop :=
  (if checkP L = 0 then r = .returned (.tuple #[.string (bs (toldA L)), .int .i64 0]) else r = .returned (.tuple #[.string ⟨#[]⟩, .int .i64 (checkP L)])) ∧ Below w.heap.size w w'
theorem check_yes {L : List Nd} (h : checkP L = 0) : shapedB L = true := by
  unfold checkP at h
  split at h
  · assumption
  · cases h
set_option maxRecDepth 100000 in
set_option maxHeartbeats 1000000 in
theorem text_any (v : Value) (L : List Nd) (w : World) (hv : Row w v 6 L.length (rwC ndC L)) (hc : ∀ n ∈ L, Fit1 n) (hE : ErrV w) (hT : Tab w) :
    Calls Tryd.prog 8 #[.agg #[v]] w fun r w' => TextS w w' L r := by
  obtain ⟨p, c, rfl, hcc, hm, -⟩ := id hv
  have HV := Lib.hid hv
  have hml : maxLen ≤ 9223372036854775807 := by decide
  obtain ⟨n, hn⟩ : ∃ n, n = L.length := ⟨_, rfl⟩
  have HN := Lib.hid hn
  obtain ⟨w1, hw1⟩ : ∃ w1, w1 = w.alloc (.cells #[.slice p n c] 25) := ⟨_, rfl⟩
  have HB1 : Hid (Below w.heap.size w w1) := Lib.hid (by rw [hw1]; exact below_alloc _ _)
  have HX1 : Hid (Blk w1 w.heap.size [.slice p n c] 25) := Lib.hid (by rw [hw1]; exact Blk.made w [_] _)
  have HK : Hid (Calls Tryd.prog 9 #[.agg #[.slice p n c]] w1 fun r w' => r = .returned (.int .i64 (checkP L)) ∧ Below w1.heap.size w1 w') := Lib.hid (by
    have := check_any (.slice p L.length c) L w1 (hv.below HB1.out) hc (hE.below HB1.out) (hT.below HB1.out)
    rw [← hn] at this
    exact this)
  have HC := Lib.hid hc
  have HT := Lib.hid hT
  rw [← hn] at hcc HV ⊢
  have hn63 : (n : Int) ≤ 9223372036854775807 := by omega
  have b0 := HX1.out.cell (j := 0) rfl
  obtain ⟨R, hR⟩ : ∃ R, R = w.heap.size := ⟨_, rfl⟩
  have HR := Lib.hid hR
  clear hv hc hE hT hcc hm hml hn
  by_cases hck : checkP L = 0
  · rw [hck] at HK
    obtain ⟨hf, h1, h2, h3⟩ := shaped_fine (check_yes hck)
    obtain ⟨m, hm⟩ : ∃ m, n = m + 1 := ⟨n - 1, by have := HN.out; omega⟩
    have HM := Lib.hid hm
    have HTO := Lib.hid (told_any hf h1 h3 HC.out L.length m (by have := HN.out; omega) (by have := HN.out; omega))
    have HTA : Hid (toldA L = tl L m) := Lib.hid (by rw [toldA_tl hf h2]; congr 1; have := HN.out; omega)
    have u1 : IntKind.i64.wrap ((n : Int) - 1) = (m : Int) := by rw [IntKind.wrap_i64]; have := HN.out; omega
    have HTS : Hid (∀ w2, Below w1.heap.size w1 w2 → Calls Tryd.prog 16 #[.slice p n c, .int .i64 (m : Int)] w2 fun r w' => r = .returned (.string (bs (tl L m))) ∧ Below w2.heap.size w2 w') := Lib.hid (fun w2 hb => by
      exact HTO.out _ w2 (by have := HV.out.below (below_and HB1.out hb); rw [HN.out] at this ⊢; exact this) (HT.out.below (below_and HB1.out hb)))
    obtain ⟨S, hS⟩ : ∃ S, S = bs (tl L m) := ⟨_, rfl⟩
    have HSS : Hid (bs (toldA L) = S) := Lib.hid (by rw [HTA.out, hS])
    rw [← hS] at HTS
    have HCK := Lib.hid hck
    clear hf h1 h2 h3 hm hS HTO hck
    go_enter Tryd.func8, Tryd.ntmps8
    go_upto_region 1 with fail
    rw [← hw1, ← hR]
    rw [← hR] at b0
    clear hw1 hR
    go_upto_if 9 with (go_at_call 9; refine HK.out.mono ?_; rintro r w2 ⟨rfl, hb⟩; have HB2 := Lib.hid hb; have b2 := (HX1.out.kept hb).cell (j := 0) rfl; rw [← HR.out] at b2; clear hb b0)
    go_wp2_with (go_at_call 16; refine (HTS.out _ HB2.out).mono ?_; rintro r w3 ⟨rfl, hb⟩; have HB3 := Lib.hid (below_and HB2.out hb); clear hb)
    go_ret2
    refine ⟨?_, below_and HB1.out HB3.out⟩
    rw [if_pos HCK.out, HSS.out]
    rfl
  · have HCK := Lib.hid hck
    obtain ⟨q, hq⟩ : ∃ q, q = checkP L := ⟨_, rfl⟩
    have HQ := Lib.hid hq
    rw [← hq] at hck HK
    have t1 : (q != 0) = true := by simpa using hck
    clear hq hck
    go_enter Tryd.func8, Tryd.ntmps8
    go_upto_region 1 with fail
    rw [← hw1, ← hR]
    rw [← hR] at b0
    clear hw1 hR
    go_wp2_with (go_at_call 9; refine HK.out.mono ?_; rintro r w2 ⟨rfl, hb⟩; have HB2 := Lib.hid hb; clear hb b0)
    go_ret2
    refine ⟨?_, below_and HB1.out HB2.out⟩
    rw [if_neg HCK.out, ← HQ.out]
    rfl
end Go.Proofs.YtjjaaooiajmclaaDoor.Ru
