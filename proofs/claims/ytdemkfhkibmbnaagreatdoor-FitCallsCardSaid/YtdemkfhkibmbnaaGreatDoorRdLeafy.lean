/- RdLeafy. -/
import Derived.Test.YtdemkfhkibmbnaaGreatDoorM26
set_option maxRecDepth 100000
set_option maxHeartbeats 8000000
namespace Go.Proofs.YtdemkfhkibmbnaaGreatDoor.Ru
open Go.RowKit Go.Proofs.YtdemkfhkibmbnaaGreatDoor
def lfG (k : Int) (no att wd n0 v0 x0 x1 x2 b1 : Bool) : Bool :=
 if k = 1 then no && n0 && v0 && x0
 else if k = 2 ∨ k = 3 then no && att && wd && x0
 else if k = 4 ∨ k = 5 then no && att && v0 && x1 && x2
 else if k = 6 then no && att && v0 && x0
 else if k = 7 then n0 && v0 && x0 && b1
 else if k = 8 ∨ k = 9 then n0 && v0 && x0
 else false
theorem lfG_eq (n : Nd) : leafyB n = lfG n.k (decide (n.a = -1 ∧ n.b = -1)) (attrN n.nm) (wrdB n.vl) (decide (n.nm = [])) (decide (n.vl = [])) (decide (n.x = 0)) (decide (0 ≤ n.x)) (decide (n.x ≤ 999999999999)) (decide (n.b = -1)) := rfl
theorem bs_nil0 (l : List UInt8) : ((bs l).toList == ([] : List UInt8)) = decide (l = []) := by
 rw [Lib.toList_data]; cases l <;> rfl
theorem bs_any0 (l : List UInt8) : ((bs l).toList == ([97, 110, 121] : List UInt8)) = (l == anyT) := by
 rw [Lib.toList_data]; rfl
theorem dleafy_any (x : Nd) (w : World) (h1 : x.nm.length ≤ 140737488351232) (h2 : x.vl.length ≤ 140737488351232) : Calls Tryz.prog 66 #[ndV x] w fun r w' => r = .returned (.bool (leafyB x)) ∧ Below w.heap.size w w' := by
 obtain ⟨w1, hw1⟩ : ∃ w1, w1 = w.alloc (.cells #[.int .i64 x.k, .string (bs x.nm), .string (bs x.vl), .int .i64 x.x, .int .i64 x.a, .int .i64 x.b] 69) := ⟨_, rfl⟩; obtain ⟨B, hB⟩ : ∃ B, B = w.heap.size := ⟨_, rfl⟩; have HB1 : Hid (Below w.heap.size w w1) := zz (by rw [hw1]; exact below_alloc w _); have X1 : Hid (Blk w1 B (ndC x) 69) := zz (by rw [hw1, hB]; exact Blk.made w (ndC x) _); have HLG := zz (lfG_eq x); obtain ⟨k, nm, vl, xx, na, nb⟩ := x; simp only at HLG X1 h1 h2 hw1; have HNM : Hid (∀ w, Calls Tryz.prog 58 #[.string (bs nm), .int .i64 24] w fun e w' => e = .returned (.bool (specM 24 nm)) ∧ w = w') := zz (fun w => by have := dname_any 24 (bs nm) w (by omega) (by rw [bs_size]; omega); simpa [bs] using this); have HWD : Hid (∀ w, Calls Tryz.prog 59 #[.string (bs vl)] w fun e w' => e = .returned (.bool (wrdB vl)) ∧ w = w') := zz (fun w => word_any' vl w (by omega)); obtain ⟨y0, y1, y2, y3, y4, y5⟩ := cl6 X1.o; have eA : ((bs nm).toList == ([97, 110, 121] : List UInt8)) = (nm == anyT) := bs_any0 nm; have eN : ((bs nm).toList == ([] : List UInt8)) = decide (nm = []) := bs_nil0 nm; have eV : ((bs vl).toList == ([] : List UInt8)) = decide (vl = []) := bs_nil0 vl
 have eX : (xx == 0) = decide (xx = 0) := rfl; have ea : (na == -1) = decide (na = -1) := rfl; have eb : (nb == -1) = decide (nb = -1) := rfl; have hat : attrN nm = (specM 24 nm && !(nm == anyT)) := rfl; have hno : decide (na = -1 ∧ nb = -1) = (decide (na = -1) && decide (nb = -1)) := by simp
 rw [hat, hno] at HLG; obtain ⟨S, hS⟩ : ∃ S, S = leafyB ⟨k, nm, vl, xx, na, nb⟩ := ⟨_, rfl⟩; rw [← hS] at HLG ⊢; clear hat hno hS h1 h2; obtain ⟨sp, hsp⟩ : ∃ q, q = specM 24 nm := ⟨_, rfl⟩; rw [← hsp] at HLG HNM; obtain ⟨an, han⟩ : ∃ q, q = (nm == anyT) := ⟨_, rfl⟩; rw [← han] at HLG eA; obtain ⟨n0, hn0⟩ : ∃ q, q = decide (nm = []) := ⟨_, rfl⟩; rw [← hn0] at HLG eN; obtain ⟨v0, hv0⟩ : ∃ q, q = decide (vl = []) := ⟨_, rfl⟩; rw [← hv0] at HLG eV; obtain ⟨wd, hwd⟩ : ∃ q, q = wrdB vl := ⟨_, rfl⟩; rw [← hwd] at HLG HWD; obtain ⟨x0, hx0⟩ : ∃ q, q = decide (xx = 0) := ⟨_, rfl⟩; rw [← hx0] at HLG eX; obtain ⟨a1, ha1⟩ : ∃ q, q = decide (na = -1) := ⟨_, rfl⟩; rw [← ha1] at HLG ea; obtain ⟨b1, hb1⟩ : ∃ q, q = decide (nb = -1) := ⟨_, rfl⟩; rw [← hb1] at HLG eb; obtain ⟨x1, e1⟩ : ∃ q, decide (0 ≤ xx) = q := ⟨_, rfl⟩; obtain ⟨x2, e2⟩ : ∃ q, decide (xx ≤ 999999999999) = q := ⟨_, rfl⟩; rw [e1, e2] at HLG; clear hsp han hn0 hv0 hwd hx0 ha1 hb1; go_enter Tryz.func66, Tryz.ntmps66; go_upto_region 1 with fail; rw [← hw1, ← hB]; clear hw1 hB
 go_cut [3] (fun s3 wx => s3 = .bool (sp && !an) ∧ w1 = wx)
 case first =>
  cases sp
  ·go_wp2_with (go_at_call 58; refine (HNM.o _).mono ?_; rintro e w2 ⟨rfl, rfl⟩)
   go_meet
   exact ⟨rfl, rfl⟩
  ·cases an
   ·go_wp2_with (go_at_call 58; refine (HNM.o _).mono ?_; rintro e w2 ⟨rfl, rfl⟩)
    go_meet
    exact ⟨rfl, rfl⟩
   ·go_wp2_with (go_at_call 58; refine (HNM.o _).mono ?_; rintro e w2 ⟨rfl, rfl⟩)
    go_meet
    exact ⟨rfl, rfl⟩
 case rest =>
 obtain ⟨rfl, rfl⟩ := hcut; obtain ⟨att, hatt⟩ : ∃ q, q = (sp && !an) := ⟨_, rfl⟩; rw [← hatt] at HLG ⊢; clear hatt HNM eA; go_upto_region 2 with fail
 go_cut [4] (fun s4 wx => s4 = .bool (a1 && b1) ∧ w1 = wx)
 case first =>
  cases a1
  ·go_wp2
   go_meet
   exact ⟨rfl, rfl⟩
  ·cases b1
   ·go_wp2
    go_meet
    exact ⟨rfl, rfl⟩
   ·go_wp2
    go_meet
    exact ⟨rfl, rfl⟩
 case rest =>
 obtain ⟨rfl, rfl⟩ := hcut; obtain ⟨no, hno⟩ : ∃ q, q = (a1 && b1) := ⟨_, rfl⟩; rw [← hno] at HLG ⊢; clear hno ea
 by_cases k1 : k = 1
 ·subst k1
  cases no
  ·go_wp2
   go_ret; exact ⟨(by rw [HLG.o]; rfl), HB1.o⟩
  ·
   cases n0
   ·go_wp2
    go_ret; exact ⟨(by rw [HLG.o]; rfl), HB1.o⟩
   ·
    cases v0
    ·go_wp2
     go_ret; exact ⟨(by rw [HLG.o]; rfl), HB1.o⟩
    ·
     cases x0
     ·go_wp2
      go_ret; exact ⟨(by rw [HLG.o]; rfl), HB1.o⟩
     ·
      go_wp2; go_ret; exact ⟨(by rw [HLG.o]; rfl), HB1.o⟩
 have t1 : (k == 1) = false := by simpa using k1
 by_cases k2 : k = 2
 ·subst k2
  cases no
  ·go_wp2_with (go_at_call 59; refine (HWD.o _).mono ?_; rintro e w2 ⟨rfl, rfl⟩)
   go_ret; exact ⟨(by rw [HLG.o]; rfl), HB1.o⟩
  ·
   cases att
   ·go_wp2_with (go_at_call 59; refine (HWD.o _).mono ?_; rintro e w2 ⟨rfl, rfl⟩)
    go_ret; exact ⟨(by rw [HLG.o]; rfl), HB1.o⟩
   ·
    cases wd
    ·go_wp2_with (go_at_call 59; refine (HWD.o _).mono ?_; rintro e w2 ⟨rfl, rfl⟩)
     go_ret; exact ⟨(by rw [HLG.o]; rfl), HB1.o⟩
    ·
     cases x0
     ·go_wp2_with (go_at_call 59; refine (HWD.o _).mono ?_; rintro e w2 ⟨rfl, rfl⟩)
      go_ret; exact ⟨(by rw [HLG.o]; rfl), HB1.o⟩
     ·
      go_wp2_with (go_at_call 59; refine (HWD.o _).mono ?_; rintro e w2 ⟨rfl, rfl⟩); go_ret; exact ⟨(by rw [HLG.o]; rfl), HB1.o⟩
 have t2 : (k == 2) = false := by simpa using k2
 by_cases k3 : k = 3
 ·subst k3
  cases no
  ·go_wp2_with (go_at_call 59; refine (HWD.o _).mono ?_; rintro e w2 ⟨rfl, rfl⟩)
   go_ret; exact ⟨(by rw [HLG.o]; rfl), HB1.o⟩
  ·
   cases att
   ·go_wp2_with (go_at_call 59; refine (HWD.o _).mono ?_; rintro e w2 ⟨rfl, rfl⟩)
    go_ret; exact ⟨(by rw [HLG.o]; rfl), HB1.o⟩
   ·
    cases wd
    ·go_wp2_with (go_at_call 59; refine (HWD.o _).mono ?_; rintro e w2 ⟨rfl, rfl⟩)
     go_ret; exact ⟨(by rw [HLG.o]; rfl), HB1.o⟩
    ·
     cases x0
     ·go_wp2_with (go_at_call 59; refine (HWD.o _).mono ?_; rintro e w2 ⟨rfl, rfl⟩)
      go_ret; exact ⟨(by rw [HLG.o]; rfl), HB1.o⟩
     ·
      go_wp2_with (go_at_call 59; refine (HWD.o _).mono ?_; rintro e w2 ⟨rfl, rfl⟩); go_ret; exact ⟨(by rw [HLG.o]; rfl), HB1.o⟩
 have t3 : (k == 3) = false := by simpa using k3
 by_cases k4 : k = 4
 ·subst k4
  cases no
  ·go_wp2
   go_ret; exact ⟨(by rw [HLG.o]; rfl), HB1.o⟩
  ·
   cases att
   ·go_wp2
    go_ret; exact ⟨(by rw [HLG.o]; rfl), HB1.o⟩
   ·
    cases v0
    ·go_wp2
     go_ret; exact ⟨(by rw [HLG.o]; rfl), HB1.o⟩
    ·
     cases x1
     ·go_wp2
      go_ret; exact ⟨(by rw [HLG.o]; rfl), HB1.o⟩
     ·
      cases x2
      ·go_wp2
       go_ret; exact ⟨(by rw [HLG.o]; rfl), HB1.o⟩
      ·
       go_wp2; go_ret; exact ⟨(by rw [HLG.o]; rfl), HB1.o⟩
 have t4 : (k == 4) = false := by simpa using k4
 by_cases k5 : k = 5
 ·subst k5
  cases no
  ·go_wp2
   go_ret; exact ⟨(by rw [HLG.o]; rfl), HB1.o⟩
  ·
   cases att
   ·go_wp2
    go_ret; exact ⟨(by rw [HLG.o]; rfl), HB1.o⟩
   ·
    cases v0
    ·go_wp2
     go_ret; exact ⟨(by rw [HLG.o]; rfl), HB1.o⟩
    ·
     cases x1
     ·go_wp2
      go_ret; exact ⟨(by rw [HLG.o]; rfl), HB1.o⟩
     ·
      cases x2
      ·go_wp2
       go_ret; exact ⟨(by rw [HLG.o]; rfl), HB1.o⟩
      ·
       go_wp2; go_ret; exact ⟨(by rw [HLG.o]; rfl), HB1.o⟩
 have t5 : (k == 5) = false := by simpa using k5
 by_cases k6 : k = 6
 ·subst k6
  cases no
  ·go_wp2
   go_ret; exact ⟨(by rw [HLG.o]; rfl), HB1.o⟩
  ·
   cases att
   ·go_wp2
    go_ret; exact ⟨(by rw [HLG.o]; rfl), HB1.o⟩
   ·
    cases v0
    ·go_wp2
     go_ret; exact ⟨(by rw [HLG.o]; rfl), HB1.o⟩
    ·
     cases x0
     ·go_wp2
      go_ret; exact ⟨(by rw [HLG.o]; rfl), HB1.o⟩
     ·
      go_wp2; go_ret; exact ⟨(by rw [HLG.o]; rfl), HB1.o⟩
 have t6 : (k == 6) = false := by simpa using k6
 by_cases k7 : k = 7
 ·subst k7
  cases n0
  ·go_wp2
   go_ret; exact ⟨(by rw [HLG.o]; rfl), HB1.o⟩
  ·
   cases v0
   ·go_wp2
    go_ret; exact ⟨(by rw [HLG.o]; rfl), HB1.o⟩
   ·
    cases x0
    ·go_wp2
     go_ret; exact ⟨(by rw [HLG.o]; rfl), HB1.o⟩
    ·
     cases b1
     ·go_wp2
      go_ret; exact ⟨(by rw [HLG.o]; rfl), HB1.o⟩
     ·
      go_wp2; go_ret; exact ⟨(by rw [HLG.o]; rfl), HB1.o⟩
 have t7 : (k == 7) = false := by simpa using k7
 by_cases k8 : k = 8
 ·subst k8
  cases n0
  ·go_wp2
   go_ret; exact ⟨(by rw [HLG.o]; rfl), HB1.o⟩
  ·
   cases v0
   ·go_wp2
    go_ret; exact ⟨(by rw [HLG.o]; rfl), HB1.o⟩
   ·
    cases x0
    ·go_wp2
     go_ret; exact ⟨(by rw [HLG.o]; rfl), HB1.o⟩
    ·
     go_wp2; go_ret; exact ⟨(by rw [HLG.o]; rfl), HB1.o⟩
 have t8 : (k == 8) = false := by simpa using k8
 by_cases k9 : k = 9
 ·subst k9
  cases n0
  ·go_wp2
   go_ret; exact ⟨(by rw [HLG.o]; rfl), HB1.o⟩
  ·
   cases v0
   ·go_wp2
    go_ret; exact ⟨(by rw [HLG.o]; rfl), HB1.o⟩
   ·
    cases x0
    ·go_wp2
     go_ret; exact ⟨(by rw [HLG.o]; rfl), HB1.o⟩
    ·
     go_wp2; go_ret; exact ⟨(by rw [HLG.o]; rfl), HB1.o⟩
 have t9 : (k == 9) = false := by simpa using k9
 have HF : Hid (S = false) := zz (by rw [HLG.o]; unfold lfG; simp [k1, k2, k3, k4, k5, k6, k7, k8, k9]); clear k1 k2 k3 k4 k5 k6 k7 k8 k9; go_wp2; go_ret; exact ⟨(by rw [HF.o]; rfl), HB1.o⟩
