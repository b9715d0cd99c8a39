/- SoPdq. -/
import Derived.Test.YtndjgbknhfficaaSoBreak
import Derived.Test.YtndjgbknhfficaaSoPick
import Derived.Test.YtndjgbknhfficaaSoPins
import Derived.Test.YtndjgbknhfficaaSoPart
import Derived.Deep.DeepCutAuto
namespace Go.Proofs.Ytndjgbknhfficaa.So
open Go.RowKit Go.Sort Go.Proofs.Ytndjgbknhfficaa

theorem swo : SWO ltInt := swo_ltInt
theorem below_perm {d d' : Array Int} {a b : Nat} (hb : b ≤ d.size) (h : Go.Sort.Below ltInt a b d) (p : PermIn a b d d') : Go.Sort.Below ltInt a b d' := h.permA permIn_all hb p
def Fin (a b a' b' : Nat) (d dk : Array Int) : Prop := ∀ R, PermIn a' b' dk R → SortedIn ltInt a' b' R → PermIn a b d R ∧ SortedIn ltInt a b R
theorem Fin.perm {a b a' b' : Nat} {d dk d1 : Array Int} (h : Fin a b a' b' d dk) (p : PermIn a' b' dk d1) : Fin a b a' b' d d1 := fun R h1 h2 => h R (permIn_trans _ _ _ a' b' p h1) h2
/-- the state of a round: what was made of the part by permuting it -/
def Rd (w0 : World) (g off N : Nat) (Y Z : List Value) (a' b' : Nat) (dk : Array Int) (w : World) : Prop := ∃ d1, PermIn a' b' dk d1 ∧ Ar w0 g off N Y Z w d1

set_option maxRecDepth 100000 in
set_option maxHeartbeats 8000000 in
theorem pdq_any : ∀ (n : Nat) {w0 : World} {g off N : Nat} {Y Z : List Value} {d : Array Int} {w : World} (cap a b limit : Nat) (h : Ar w0 g off N Y Z w (d)) (hab : a ≤ b) (hb : b ≤ N) (hN : N < 4611686018427387904) (hlim : limit < 4611686018427387904) (hB : Go.Sort.Below ltInt a b d) (hn : b - a = n),
    Calls Try.prog 48 #[.slice (some ⟨g, off, none⟩) N cap, .int .i64 a, .int .i64 b, .int .i64 limit] w fun e w' => e = .returned (.tuple #[]) ∧ ∃ R, PermIn a b d R ∧ SortedIn ltInt a b R ∧ Ar w0 g off N Y Z w' R := by
  intro n
  induction n using Nat.strongRecOn with
  | _ n ih =>
  intro w0 g off N Y Z d w cap a b limit h hab hb hN hlim hB hn
  have HIH := Lib.hid ih
  clear ih
  have HIN := Lib.hid (fun (x : World) (dx : Array Int) (i j : Nat) (hx : Ar w0 g off N Y Z x (dx)) (h1 : i ≤ j) (h2 : j ≤ N) => ins_any cap i j hx h1 h2 hN)
  have HHE := Lib.hid (fun (x : World) (dx : Array Int) (i j : Nat) (hx : Ar w0 g off N Y Z x (dx)) (h1 : i ≤ j) (h2 : j ≤ N) => heap_any cap i j hx h1 h2 hN)
  have HBR := Lib.hid (fun (x : World) (dx : Array Int) (i j : Nat) (hx : Ar w0 g off N Y Z x (dx)) (h1 : 12 < j - i) (h2 : j ≤ N) => break_any cap i j hx h1 h2 hN)
  have HCH := Lib.hid (fun (x : World) (dx : Array Int) (i j : Nat) (hx : Ar w0 g off N Y Z x (dx)) (h1 : 12 < j - i) (h2 : j ≤ N) => choose_any cap i j hx h1 h2 hN)
  have HRE := Lib.hid (fun (x : World) (dx : Array Int) (i j : Nat) (hx : Ar w0 g off N Y Z x (dx)) (h1 : i ≤ j) (h2 : j ≤ N) => rev_any cap i j hx h1 h2 hN)
  have HPI := Lib.hid (fun (x : World) (dx : Array Int) (i j : Nat) (hx : Ar w0 g off N Y Z x (dx)) (h1 : i < j) (h2 : j ≤ N) => pins_any cap i j hx h1 h2 hN)
  have HPE := Lib.hid (fun (x : World) (dx : Array Int) (i j : Nat) (p : Nat) (hx : Ar w0 g off N Y Z x (dx)) (h1 : i ≤ p) (h2 : p < j) (h3 : j ≤ N) => parte_any cap i j p hx h1 h2 h3 hN)
  have HPT := Lib.hid (fun (x : World) (dx : Array Int) (i j : Nat) (p : Nat) (hx : Ar w0 g off N Y Z x (dx)) (h1 : i ≤ p) (h2 : p < j) (h3 : j ≤ N) => part_any cap i j p hx h1 h2 h3 hN)
  have H0 := Lib.hid h
  have HB0 := Lib.hid hB
  clear h hB
  go_enter Try.func48, Try.ntmps48
  go_wp2_with fail
  go_loopw [1, 2, 3, 8, 9] (fun v1 v2 v3 v8 v9 wr => ∃ (i j l : Nat) (wb wp : Bool) (dk : Array Int), v1 = .int .i64 i ∧ v2 = .int .i64 j ∧ v3 = .int .i64 l ∧ v8 = .bool wb ∧ v9 = .bool wp ∧ i ≤ j ∧ j ≤ N ∧ j - i ≤ n ∧ l < 4611686018427387904 ∧ Hid (Ar w0 g off N Y Z wr (dk) ∧ Go.Sort.Below ltInt i j dk ∧ Fin a b i j d dk)) (fun v1 v2 _ _ _ _ => (intOf v2 - intOf v1).toNat)
  case atStart => exact ⟨a, b, limit, true, true, d, rfl, rfl, rfl, rfl, rfl, hab, hb, by omega, hlim, ⟨H0.out, HB0.out, fun R h1 h2 => ⟨h1, h2⟩⟩⟩
  case round =>
    obtain ⟨i, j, l, wb, wp, dk, rfl, rfl, rfl, rfl, rfl, hij, hjN, hjin, hlb, HR⟩ := hrel
    have HSZ : Hid (dk.size = N) := Lib.hid HR.out.1.sz
    by_cases h12 : j - i ≤ 12
    · have t1 : (j : Int) - (i : Int) ≤ 12 := by omega
      go_wp2_with (go_at_call 50; refine (HIN.out _ dk i j HR.out.1 hij hjN).mono ?_; rintro e w2 ⟨rfl, hw⟩; have HW := Lib.hid hw; clear hw)
      (try simp only [Exit.inBlock, Exit.then])
      refine bodyPost_ret (results_none rfl _ _ _) rfl ?_
      have hg := insertionSort_holds (lt := ltInt) swo dk i j hij (by rw [HSZ.out]; exact hjN)
      exact ⟨rfl, _, (HR.out.2.2 _ hg.1 hg.2).1, (HR.out.2.2 _ hg.1 hg.2).2, HW.out⟩
    have t1 : ¬ (j : Int) - (i : Int) ≤ 12 := by omega
    by_cases hl0 : l = 0
    · have t2 : ((l : Int) == 0) = true := by simp; omega
      go_wp2_with (go_at_call 51; refine (HHE.out _ dk i j HR.out.1 hij hjN).mono ?_; rintro e w2 ⟨rfl, hw⟩; have HW := Lib.hid hw; clear hw)
      (try simp only [Exit.inBlock, Exit.then])
      refine bodyPost_ret (results_none rfl _ _ _) rfl ?_
      have hg := heapSort_holds (lt := ltInt) swo dk i j hij (by rw [HSZ.out]; exact hjN)
      exact ⟨rfl, _, (HR.out.2.2 _ hg.1 hg.2).1, (HR.out.2.2 _ hg.1 hg.2).2, HW.out⟩
    have t2 : ((l : Int) == 0) = false := by simp; omega
    go_upto_if 35 with fail
    go_cut [3] (fun s3 wx => ∃ l' : Nat, s3 = .int .i64 l' ∧ l' < 4611686018427387904 ∧ Hid (Rd w0 g off N Y Z i j dk wx))
    case first =>
      cases wb with
      | true =>
        go_wp2
        go_meet
        exact ⟨l, rfl, hlb, ⟨dk, permIn_refl _ _ _, HR.out.1⟩⟩
      | false =>
        obtain ⟨m, rfl⟩ : ∃ m, l = m + 1 := ⟨l - 1, by omega⟩
        go_wp2_with (go_at_call 52; refine (HBR.out _ dk i j HR.out.1 (by omega) hjN).mono ?_; rintro e w2 ⟨rfl, hw⟩; have HW := Lib.hid hw; clear hw)
        go_meet
        exact ⟨m, by go_num, by omega, ⟨_, breakPatterns_holds dk i j hij (by rw [HSZ.out]; exact hjN), HW.out⟩⟩
    case rest =>
    obtain ⟨l', rfl, hl', hcc⟩ := hcut
    obtain ⟨d1, hp1, ha1⟩ := hcc.out
    have HP1 := Lib.hid hp1
    have HA1 := Lib.hid ha1
    obtain ⟨w1, hw1⟩ : ∃ w1, w1 = wc := ⟨_, rfl⟩
    rw [← hw1] at HA1 ⊢
    clear hw1 hcc hp1 ha1 t1 t2 hl0
    obtain ⟨P, hP⟩ : ∃ P, P = choosePivot ltInt d1 i j := ⟨_, rfl⟩
    have hPB : i ≤ P.1 ∧ P.1 < j := by rw [hP]; exact choosePivot_holds ltInt d1 i j (by omega)
    have HCC := Lib.hid (HCH.out _ d1 i j HA1.out (by omega) hjN)
    rw [← hP] at HCC
    clear hP
    obtain ⟨p, hh⟩ := P
    simp only at HCC hPB
    obtain ⟨z, hz⟩ : ∃ z, z = hintN hh := ⟨_, rfl⟩
    rw [← hz] at HCC
    have hz3 : z = 0 ∨ z = 1 ∨ z = 2 := by rw [hz]; cases hh <;> simp [hintN]
    clear hz
    obtain ⟨hp0, hpj⟩ := hPB
    go_upto_if 50 with (go_at_call 53; refine HCC.out.mono ?_; rintro e w2 ⟨rfl, hw⟩; have HW2 := Lib.hid hw; clear hw HCC)
    go_cut [11, 12] (fun s11 s12 wx => ∃ (p' : Nat) (z' : Int), s11 = .int .i64 p' ∧ s12 = .int .i64 z' ∧ i ≤ p' ∧ p' < j ∧ Hid (Rd w0 g off N Y Z i j dk wx))
    case first =>
      rcases hz3 with h | h | h
      · subst h
        go_wp2
        go_meet
        exact ⟨p, 0, rfl, rfl, hp0, hpj, ⟨d1, HP1.out, HW2.out⟩⟩
      · subst h
        go_wp2
        go_meet
        exact ⟨p, 1, rfl, rfl, hp0, hpj, ⟨d1, HP1.out, HW2.out⟩⟩
      · subst h
        have e9 : (j : Int) - 1 - ((p : Int) - (i : Int)) = ((j - 1 - (p - i) : Nat) : Int) := by omega
        go_wp2_with (go_at_call 54; refine (HRE.out _ d1 i j HW2.out hij hjN).mono ?_; rintro e w3 ⟨rfl, hw⟩; have HW := Lib.hid hw; clear hw)
        go_meet
        exact ⟨j - 1 - (p - i), 1, by first | rfl | exact congrArg (Value.int .i64) e9, rfl, by omega, by omega, ⟨_, permIn_trans _ _ _ i j HP1.out (reverseRange_holds d1 i j hij (by rw [HW2.out.sz]; exact hjN)), HW.out⟩⟩
    case rest =>
    clear hz3 hp0 hpj HW2
    obtain ⟨q, z', rfl, rfl, hq0, hqj, hcc⟩ := hcut
    obtain ⟨d2, hp1, ha1⟩ := hcc.out
    have HP2 := Lib.hid hp1
    have HA2 := Lib.hid ha1
    obtain ⟨x2, hw1⟩ : ∃ w1, w1 = wc := ⟨_, rfl⟩
    rw [← hw1] at HA2 ⊢
    clear hw1 hcc hp1 ha1
    go_upto_region 15 with fail
    go_cut [68] (fun s wx => ∃ c : Bool, s = .bool c ∧ Hid (Rd w0 g off N Y Z i j dk wx))
    case first =>
      by_cases hz1 : z' = 1
      · subst hz1
        cases wb <;> cases wp
        all_goals
          go_wp2
          go_meet
          exact ⟨_, rfl, ⟨d2, HP2.out, HA2.out⟩⟩
      · have z1 : (z' == 1) = false := by simpa using hz1
        cases wb <;> cases wp
        all_goals
          go_wp2
          go_meet
          exact ⟨_, rfl, ⟨d2, HP2.out, HA2.out⟩⟩
    case rest =>
    obtain ⟨c, rfl, hcc⟩ := hcut
    obtain ⟨d3, hp1, ha1⟩ := hcc.out
    have HP3 := Lib.hid hp1
    have HA3 := Lib.hid ha1
    obtain ⟨x3, hw1⟩ : ∃ w1, w1 = wc := ⟨_, rfl⟩
    rw [← hw1] at HA3 ⊢
    clear hw1 hcc hp1 ha1
    go_upto_if 68 with fail
    go_cut [] (fun wx => Hid (Rd w0 g off N Y Z i j dk wx))
    case first =>
      cases c with
      | false =>
        go_wp2
        go_meet
        exact ⟨d3, HP3.out, HA3.out⟩
      | true =>
        have hpb : Go.Sort.Below ltInt i j d3 := below_perm (by rw [HSZ.out]; exact hjN) HR.out.2.1 HP3.out
        have hpi := partialInsertionSort_holds (lt := ltInt) swo d3 i j (by omega) (by rw [HA3.out.sz]; exact hjN) hpb
        have HX := Lib.hid hpi
        have HCC := Lib.hid (HPI.out _ d3 i j HA3.out (by omega) hjN)
        clear hpi hpb
        obtain ⟨Q, hQ⟩ : ∃ Q, Q = partialInsertionSort ltInt d3 i j := ⟨_, rfl⟩
        rw [← hQ] at HX HCC
        clear hQ
        obtain ⟨dq, bq⟩ := Q
        simp only at HX HCC
        cases bq
        · go_wp2_with (go_at_call 55; refine HCC.out.mono ?_; rintro e w3 ⟨rfl, hw⟩; have HW := Lib.hid hw; clear hw HCC)
          go_meet
          exact ⟨dq, permIn_trans _ _ _ i j HP3.out HX.out.1, HW.out⟩
        · go_wp2_with (go_at_call 55; refine HCC.out.mono ?_; rintro e w3 ⟨rfl, hw⟩; have HW := Lib.hid hw; clear hw HCC)
          (try simp only [Exit.inBlock, Exit.then])
          refine bodyPost_ret (results_none rfl _ _ _) rfl ?_
          have hf := HR.out.2.2 dq (permIn_trans _ _ _ i j HP3.out HX.out.1) (HX.out.2 (by trivial))
          exact ⟨rfl, _, hf.1, hf.2, HW.out⟩
    case rest =>
    have hcc := hcut
    clear hcut
    obtain ⟨d4, hp1, ha1⟩ := hcc.out
    have HP4 := Lib.hid hp1
    have HA4 := Lib.hid ha1
    obtain ⟨x4, hw1⟩ : ∃ w1, w1 = wc := ⟨_, rfl⟩
    rw [← hw1] at HA4 ⊢
    clear hw1 hcc hp1 ha1
    have HB4 : Hid (Go.Sort.Below ltInt i j d4) := Lib.hid (below_perm (by rw [HSZ.out]; exact hjN) HR.out.2.1 HP4.out)
    have HF4 : Hid (Fin a b i j d d4) := Lib.hid (HR.out.2.2.perm HP4.out)
    have HN4 : Hid (j ≤ d4.size) := Lib.hid (by rw [HA4.out.sz]; exact hjN)
    have hl12 : 12 < j - i := by omega
    clear h12 HR HSZ HA1 HA2 HA3 HP1 HP2 HP3 HP4 HIN HHE HBR HCH HRE HPI
    by_cases hi0 : 0 < i
    rotate_left
    · have t4 : decide ((0 : Int) < (i : Int)) = false := by simp; omega
      go_wp2_with fail
      go_big_quiet (first | (go_at_call 56; refine Calls.quiet_of_same (less_any _ _ _)))
      clear hi0 t4
      go_wp2_with fail
      obtain ⟨x5, hw⟩ : ∃ xq, xq = x4.drewN nq := ⟨_, rfl⟩
      have HA5 := Lib.hid (HA4.out.draw nq)
      rw [← hw] at HA5 ⊢
      clear hw
      obtain ⟨Q, hQ⟩ : ∃ Q, Q = partition ltInt d4 i j q := ⟨_, rfl⟩
      have HCC := Lib.hid (HPT.out _ d4 i j q HA5.out hq0 hqj hjN)
      rw [← hQ] at HCC
      obtain ⟨m, ap, d5⟩ := Q
      obtain ⟨g1, g2, g3, gl, gr, gL, gR⟩ := round_part swo (partition_holds ltInt) hq0 hqj HN4.out HB4.out hQ.symm
      have HGL := Lib.hid gL
      have HGR := Lib.hid gR
      have HG1 := Lib.hid gl
      have HG2 := Lib.hid gr
      simp only at HCC
      clear hQ g3 gl gr gL gR
      refine HCC.out.mono ?_
      rintro e w3 ⟨rfl, hw⟩
      have HW := Lib.hid hw
      clear hw HCC
      by_cases hlr : m - i < j - m
      · have t5 : (m : Int) - (i : Int) < (j : Int) - (m : Int) := by omega
        have HC := Lib.hid (HIH.out (m - i) (by omega) cap i m l' HW.out g1 (by omega) hN hl' HG1.out rfl)
        go_wp2_with (go_at_call 48; refine HC.out.mono ?_; rintro e w5 ⟨rfl, R5, hr1, hr2, hw⟩; have HW5 := Lib.hid hw; have HR1 := Lib.hid hr1; have HR2 := Lib.hid hr2; clear hw hr1 hr2)
        go_roundw
        case rel => exact ⟨m + 1, j, l', _, _, R5, by go_num, rfl, rfl, rfl, rfl, by omega, hjN, by omega, hl', ⟨HW5.out, (HGL.out R5 HR1.out HR2.out).1, fun R h1 h2 => HF4.out R ((HGL.out R5 HR1.out HR2.out).2 R h1 h2).1 ((HGL.out R5 HR1.out HR2.out).2 R h1 h2).2⟩⟩
        case measure => first | (simp [intOf]; done) | (simp [intOf]; omega)
      · have t5 : ¬ (m : Int) - (i : Int) < (j : Int) - (m : Int) := by omega
        have hcall := HIH.out (j - (m + 1)) (by omega) cap (m + 1) j l' HW.out (by omega) hjN hN hl' HG2.out rfl
        rw [show ((m + 1 : Nat) : Int) = (m : Int) + 1 by omega] at hcall
        have HC := Lib.hid hcall
        clear hcall
        go_wp2_with (go_at_call 48; refine HC.out.mono ?_; rintro e w5 ⟨rfl, R5, hr1, hr2, hw⟩; have HW5 := Lib.hid hw; have HR1 := Lib.hid hr1; have HR2 := Lib.hid hr2; clear hw hr1 hr2)
        go_roundw
        case rel => exact ⟨i, m, l', _, _, R5, rfl, rfl, rfl, rfl, rfl, g1, by omega, by omega, hl', ⟨HW5.out, (HGR.out R5 HR1.out HR2.out).1, fun R h1 h2 => HF4.out R ((HGR.out R5 HR1.out HR2.out).2 R h1 h2).1 ((HGR.out R5 HR1.out HR2.out).2 R h1 h2).2⟩⟩
        case measure => first | (simp [intOf]; done) | (simp [intOf]; omega)
    obtain ⟨i1, hi1⟩ : ∃ i1, i = i1 + 1 := ⟨i - 1, by omega⟩
    have t4 : decide ((0 : Int) < (i : Int)) = true := by simp; omega
    have e1 : (i : Int) - 1 = (i1 : Int) := by omega
    have hiN : i1 < N := by omega
    have HI1 := Lib.hid hi1
    have HI0 := Lib.hid hi0
    clear hi1
    obtain ⟨G, hG⟩ : ∃ G : Nat → Int, ∀ t, G t = d4[t]! := ⟨fun t => d4[t]!, fun _ => rfl⟩
    have HG := Lib.hid hG
    clear hG
    have hc : ∀ t, t < N → x4.cell? ⟨g, off + t, none⟩ = some (.int .u64 (G t)) := fun t ht => by rw [HG.out]; exact HA4.out.cell ht
    have hf : ∀ t, t < N → x4.frozen? ⟨g, off + t, none⟩ = false := fun t _ => HA4.out.free t
    go_wp2_with fail
    go_big_quiet (first | (go_at_call 56; refine Calls.quiet_of_same (less_any _ _ _)))
    go_wp2_with fail
    · have hl0 : (!ltInt (G i1) (G q)) = true := by assumption
      have hl : ltInt (G i1) (G q) = false := by simpa using hl0
      have hnl : ltInt d4[i - 1]! d4[q]! = false := by
        rw [← HG.out, ← HG.out, show i - 1 = i1 by have := HI1.out; omega]
        exact hl
      clear hl hl0 hc hf
      obtain ⟨x5, hw⟩ : ∃ xq, xq = x4.drewN nq := ⟨_, rfl⟩
      have HA5 := Lib.hid (HA4.out.draw nq)
      rw [← hw] at HA5 ⊢
      clear hw
      obtain ⟨Q, hQ⟩ : ∃ Q, Q = partitionEqual ltInt d4 i j q := ⟨_, rfl⟩
      have HCC := Lib.hid (HPE.out _ d4 i j q HA5.out hq0 hqj hjN)
      rw [← hQ] at HCC
      obtain ⟨m, d5⟩ := Q
      obtain ⟨g1, g2, g3, gB, gF⟩ := round_eq swo (partitionEqual_holds ltInt) HI0.out hq0 hqj HN4.out HB4.out hnl hQ.symm
      have HGB := Lib.hid gB
      have HGF := Lib.hid gF
      simp only at HCC
      clear hQ g3 gB gF hnl
      refine HCC.out.mono ?_
      rintro e w3 ⟨rfl, hw⟩
      have HW := Lib.hid hw
      clear hw HCC
      go_wp2
      go_roundw
      case rel => exact ⟨m, j, l', wb, wp, d5, rfl, rfl, rfl, rfl, rfl, g2, hjN, by omega, hl', ⟨HW.out, HGB.out, fun R h1 h2 => HF4.out R (HGF.out R h1 h2).1 (HGF.out R h1 h2).2⟩⟩
      case measure => first | (simp [intOf]; done) | (simp [intOf]; omega)
    · clear hc hf
      obtain ⟨x5, hw⟩ : ∃ xq, xq = x4.drewN nq := ⟨_, rfl⟩
      have HA5 := Lib.hid (HA4.out.draw nq)
      rw [← hw] at HA5 ⊢
      clear hw
      obtain ⟨Q, hQ⟩ : ∃ Q, Q = partition ltInt d4 i j q := ⟨_, rfl⟩
      have HCC := Lib.hid (HPT.out _ d4 i j q HA5.out hq0 hqj hjN)
      rw [← hQ] at HCC
      obtain ⟨m, ap, d5⟩ := Q
      obtain ⟨g1, g2, g3, gl, gr, gL, gR⟩ := round_part swo (partition_holds ltInt) hq0 hqj HN4.out HB4.out hQ.symm
      have HGL := Lib.hid gL
      have HGR := Lib.hid gR
      have HG1 := Lib.hid gl
      have HG2 := Lib.hid gr
      simp only at HCC
      clear hQ g3 gl gr gL gR
      refine HCC.out.mono ?_
      rintro e w3 ⟨rfl, hw⟩
      have HW := Lib.hid hw
      clear hw HCC
      by_cases hlr : m - i < j - m
      · have t5 : (m : Int) - (i : Int) < (j : Int) - (m : Int) := by omega
        have HC := Lib.hid (HIH.out (m - i) (by omega) cap i m l' HW.out g1 (by omega) hN hl' HG1.out rfl)
        go_wp2_with (go_at_call 48; refine HC.out.mono ?_; rintro e w5 ⟨rfl, R5, hr1, hr2, hw⟩; have HW5 := Lib.hid hw; have HR1 := Lib.hid hr1; have HR2 := Lib.hid hr2; clear hw hr1 hr2)
        go_roundw
        case rel => exact ⟨m + 1, j, l', _, _, R5, by go_num, rfl, rfl, rfl, rfl, by omega, hjN, by omega, hl', ⟨HW5.out, (HGL.out R5 HR1.out HR2.out).1, fun R h1 h2 => HF4.out R ((HGL.out R5 HR1.out HR2.out).2 R h1 h2).1 ((HGL.out R5 HR1.out HR2.out).2 R h1 h2).2⟩⟩
        case measure => first | (simp [intOf]; done) | (simp [intOf]; omega)
      · have t5 : ¬ (m : Int) - (i : Int) < (j : Int) - (m : Int) := by omega
        have hcall := HIH.out (j - (m + 1)) (by omega) cap (m + 1) j l' HW.out (by omega) hjN hN hl' HG2.out rfl
        rw [show ((m + 1 : Nat) : Int) = (m : Int) + 1 by omega] at hcall
        have HC := Lib.hid hcall
        clear hcall
        go_wp2_with (go_at_call 48; refine HC.out.mono ?_; rintro e w5 ⟨rfl, R5, hr1, hr2, hw⟩; have HW5 := Lib.hid hw; have HR1 := Lib.hid hr1; have HR2 := Lib.hid hr2; clear hw hr1 hr2)
        go_roundw
        case rel => exact ⟨i, m, l', _, _, R5, rfl, rfl, rfl, rfl, rfl, g1, by omega, by omega, hl', ⟨HW5.out, (HGR.out R5 HR1.out HR2.out).1, fun R h1 h2 => HF4.out R ((HGR.out R5 HR1.out HR2.out).2 R h1 h2).1 ((HGR.out R5 HR1.out HR2.out).2 R h1 h2).2⟩⟩
        case measure => first | (simp [intOf]; done) | (simp [intOf]; omega)
end Go.Proofs.Ytndjgbknhfficaa.So
