/- the document's reader: a truth, a count, a text -/
import Derived.Test.YtchaigaechmbnaaRef
namespace Go.Proofs.Ytchaigaechmbnaa
open Go.RowKit

set_option maxRecDepth 100000 in
set_option maxHeartbeats 1000000 in
theorem rbool_any (b : Nat) (l : List UInt8) (at_ : Nat) (er : Int) (w : World) (h : RRdr w b l at_ er) :
    Calls Try.prog 35 #[ptr b] w (RRM w b l (.bool (Wire.bool l at_ er).1) (Wire.bool l at_ er).2) := by
  have HH := Lib.hid h
  obtain ⟨v, hb, hv, hown, hat⟩ := h
  obtain ⟨p, c, rfl, hc, hm, -⟩ := hv.parts
  unfold maxLen at hm
  have c0 := hb.cell (j := 0) rfl
  have c1 := hb.cell (j := 1) rfl
  have c2 := hb.cell (j := 2) rfl
  have f2 := hb.free 2
  have f1 := hb.free 1
  have HV := Lib.hid hv
  have HO := Lib.hid hown
  clear hb hv hown
  by_cases he : er = 0
  · subst he
    by_cases hlt : at_ < l.length
    · obtain ⟨bb, o, rfl, e1⟩ := HV.out.byte hlt
      have hne : bb ≠ b := by have := HO.out (by rintro rfl; simp at hlt) bb rfl; omega
      generalize hx : l[at_] = x at e1
      have hm1 := bool_at hlt hx
      have HX := Lib.hid hm1
      clear hm1 hx
      have t1 : decide (l.length ≤ at_) = false := by simp; omega
      by_cases hx1 : 1 < x.toNat
      · have t2 : decide (1 < (x.toNat : Int)) = true := by simp; omega
        go_enter Try.func35, Try.ntmps35
        go_wp2
        go_quiet (fail)
        go_wp2
        go_quiet (fail)
        go_wp2
        go_ret
        exact RRM.of (v := .bool false) (s := (at_, 5)) (by rw [HX.out, if_pos hx1]) (by rw [HX.out, if_pos hx1]) ⟨rfl, (HH.out.drewN _).setE 5, grown_set (grown_drewN (grown_refl _ _) _) 2 _⟩
      · have t2 : decide (1 < (x.toNat : Int)) = false := by simp; omega
        have e5 : ∀ (n : Nat) (u : Value), ((w.drewN n).setCell ⟨b, 1, none⟩ u).cell? ⟨bb, o + at_, none⟩ = some (.int .u8 (x.toNat : Int)) := by
          intro n u
          rw [World.cell?_of_block (w := w) (Below.heap_setCell (w.drewN n) ⟨b, 1, none⟩ u bb hne)]
          exact e1
        go_enter Try.func35, Try.ntmps35
        go_wp2
        go_quiet (fail)
        go_wp2
        go_quiet (fail)
        go_wp2
        have s1 : IntKind.i64.wrap ((at_ : Int) + 1 - 1) = (at_ : Int) := by rw [Int.add_sub_cancel]; exact IntWalk.i64_in _ (by omega)
        go_quiet (fail)
        go_wp2
        go_ret
        refine RRM.of (v := .bool ((x.toNat : Int) == 1)) (s := (at_ + 1, 0)) ?_ (by rw [HX.out, if_neg hx1]) ⟨rfl, ((HH.out.drewN _).setAt (at_ + 1) (by omega)).drewN _, grown_drewN (grown_set (grown_drewN (grown_refl _ _) _) 1 _) _⟩
        rw [HX.out, if_neg hx1]
        congr 1
        rw [Bool.eq_iff_iff]; simp; omega
    · have t1 : decide (l.length ≤ at_) = true := by simp; omega
      have hd : Wire.bool l at_ 0 = (false, at_, 4) := by
        unfold Wire.bool
        rw [List.drop_eq_nil_of_le (by omega)]; rfl
      have HX := Lib.hid hd
      clear hd
      go_enter Try.func35, Try.ntmps35
      go_wp2
      go_quiet (fail)
      go_wp2
      go_ret
      exact RRM.of (v := .bool false) (s := (at_, 4)) (by rw [HX.out]) (by rw [HX.out]) ⟨rfl, (HH.out.drewN _).setE 4, grown_set (grown_drewN (grown_refl _ _) _) 2 _⟩
  · have HE := Lib.hid he
    have t1 : (er != 0) = true := by simpa using he
    clear he
    go_enter Try.func35, Try.ntmps35
    go_wp2
    go_ret
    exact RRM.of (v := .bool false) (s := (at_, er)) (by simp [Wire.bool, HE.out]) (by simp [Wire.bool, HE.out]) ⟨rfl, HH.out, grown_refl _ _⟩

set_option maxRecDepth 100000 in
set_option maxHeartbeats 1000000 in
theorem rcount_stop (b : Nat) (l : List UInt8) (at_ : Nat) (m e : Int) (w : World) (h : RRdr w b l at_ e) (he : e ≠ 0) :
    Calls Try.prog 38 #[ptr b, .int .i64 m] w (RRM w b l (.int .i64 0) (at_, e)) := by
  have HH := Lib.hid h
  obtain ⟨v, hb, -, -, -⟩ := h
  have c2 := hb.cell (j := 2) rfl
  have t1 : (e != 0) = true := by simpa using he
  clear hb he
  go_enter Try.func38, Try.ntmps38
  go_wp2
  go_ret
  exact ⟨rfl, HH.out, grown_refl _ _⟩

set_option maxRecDepth 100000 in
set_option maxHeartbeats 1000000 in
theorem rcount_neg (b : Nat) (l : List UInt8) (at_ : Nat) (m : Int) (w : World) (h : RRdr w b l at_ 0) (hm : m < 0) :
    Calls Try.prog 38 #[ptr b, .int .i64 m] w (RRM w b l (.int .i64 0) (at_, 2)) := by
  have HH := Lib.hid h
  obtain ⟨v, hb, -, -, -⟩ := h
  have c2 := hb.cell (j := 2) rfl
  have f2 := hb.free 2
  clear hb
  go_enter Try.func38, Try.ntmps38
  go_wp2
  go_ret
  exact ⟨rfl, HH.out.setE 2, grown_set (grown_refl _ _) 2 _⟩

set_option maxRecDepth 100000 in
set_option maxHeartbeats 1000000 in
theorem rcount_err (b : Nat) (l : List UInt8) (at_ : Nat) (m x a2 : Nat) (e2 : Int) (w : World) (h : RRdr w b l at_ 0) (hl : l.length ≤ 9223372036854775807) (hu : Wire.uint l at_ 0 = (x, a2, e2)) (he : e2 ≠ 0) :
    Calls Try.prog 38 #[ptr b, .int .i64 (m : Int)] w (RRM w b l (.int .i64 0) (a2, e2)) := by
  have HH := Lib.hid h
  have HU := Lib.hid hu
  obtain ⟨v, hb, -, -, hat⟩ := h
  have c1 := hb.cell (j := 1) rfl
  have c2 := hb.cell (j := 2) rfl
  clear hb hu
  have t1 : (e2 == 0) = false := by simpa using he
  have t2 : (e2 != 0) = true := by simpa using he
  clear he
  go_enter Try.func38, Try.ntmps38
  go_wp2_with (go_at_call 33; refine (ruint_any b l at_ 0 _ HH.out hl).mono ?_; rw [HU.out]; rintro e w1 ⟨rfl, hr1, hg1⟩; simp only at hr1; have HR1 := Lib.hid hr1; have HG1 := Lib.hid hg1; obtain ⟨v1, hb1, -, -, -⟩ := hr1; have d1 := hb1.cell (j := 1) rfl; have d2 := hb1.cell (j := 2) rfl; have g1 := hb1.free 1; have g2 := hb1.free 2; have hlt := hg1.size; clear hb1 hg1 c1 c2 hlt)
  go_ret
  exact ⟨rfl, HR1.out, HG1.out⟩

set_option maxRecDepth 100000 in
set_option maxHeartbeats 1000000 in
theorem rcount_long (b : Nat) (l : List UInt8) (at_ : Nat) (m x a2 : Nat) (w : World) (h : RRdr w b l at_ 0) (hm : m ≤ 9223372036854775807) (hl : l.length ≤ 9223372036854775807) (hu : Wire.uint l at_ 0 = (x, a2, 0)) (hx : m < x) :
    Calls Try.prog 38 #[ptr b, .int .i64 (m : Int)] w (RRM w b l (.int .i64 0) (at_, 3)) := by
  have HH := Lib.hid h
  have HU := Lib.hid hu
  obtain ⟨v, hb, -, -, hat⟩ := h
  have c1 := hb.cell (j := 1) rfl
  have c2 := hb.cell (j := 2) rfl
  clear hb hu
  have t0 : IntKind.u64.wrap (m : Int) = (m : Int) := by rw [IntKind.wrap_u64]; omega
  go_enter Try.func38, Try.ntmps38
  go_wp2_with (go_at_call 33; refine (ruint_any b l at_ 0 _ HH.out hl).mono ?_; rw [HU.out]; rintro e w1 ⟨rfl, hr1, hg1⟩; simp only at hr1; have HR1 := Lib.hid hr1; have HG1 := Lib.hid hg1; obtain ⟨v1, hb1, -, -, -⟩ := hr1; have d1 := hb1.cell (j := 1) rfl; have d2 := hb1.cell (j := 2) rfl; have g1 := hb1.free 1; have g2 := hb1.free 2; have hlt := hg1.size; clear hb1 hg1 c1 c2 hlt)
  go_ret
  exact ⟨rfl, (HR1.out.setE 3).setAt at_ hat, grown_set (grown_set HG1.out 2 _) 1 _⟩

set_option maxRecDepth 100000 in
set_option maxHeartbeats 1000000 in
theorem rcount_ok (b : Nat) (l : List UInt8) (at_ : Nat) (m x a2 : Nat) (w : World) (h : RRdr w b l at_ 0) (hm : m ≤ 9223372036854775807) (hl : l.length ≤ 9223372036854775807) (hu : Wire.uint l at_ 0 = (x, a2, 0)) (hx : x ≤ m) :
    Calls Try.prog 38 #[ptr b, .int .i64 (m : Int)] w (RRM w b l (.int .i64 (x : Int)) (a2, 0)) := by
  have HH := Lib.hid h
  have HU := Lib.hid hu
  obtain ⟨v, hb, -, -, hat⟩ := h
  have c1 := hb.cell (j := 1) rfl
  have c2 := hb.cell (j := 2) rfl
  clear hb hu
  have t0 : IntKind.u64.wrap (m : Int) = (m : Int) := by rw [IntKind.wrap_u64]; omega
  have hx9 : x ≤ 9223372036854775807 := by omega
  go_enter Try.func38, Try.ntmps38
  go_wp2_with (go_at_call 33; refine (ruint_any b l at_ 0 _ HH.out hl).mono ?_; rw [HU.out]; rintro e w1 ⟨rfl, hr1, hg1⟩; simp only at hr1; have HR1 := Lib.hid hr1; have HG1 := Lib.hid hg1; obtain ⟨v1, hb1, -, -, -⟩ := hr1; have d1 := hb1.cell (j := 1) rfl; have d2 := hb1.cell (j := 2) rfl; have g1 := hb1.free 1; have g2 := hb1.free 2; have hlt := hg1.size; clear hb1 hg1 c1 c2 hlt)
  go_ret
  exact ⟨rfl, HR1.out, HG1.out⟩

theorem rcount_any (b : Nat) (l : List UInt8) (at_ : Nat) (m e : Int) (w : World) (h : RRdr w b l at_ e) (hl : l.length ≤ 9223372036854775807) (hm : m ≤ 9223372036854775807) :
    Calls Try.prog 38 #[ptr b, .int .i64 m] w (RRM w b l (.int .i64 (Wire.count l at_ e m).1) (Wire.count l at_ e m).2) := by
  by_cases he : e = 0
  · subst he
    by_cases hm0 : m < 0
    · exact (rcount_neg b l at_ m w h hm0).mono fun _ _ h => h.of (by simp [Wire.count, hm0]) (by simp [Wire.count, hm0])
    · obtain ⟨k, rfl⟩ := Int.eq_ofNat_of_zero_le (show 0 ≤ m by omega)
      by_cases hr : (Wire.read (l.drop at_)).2.2 = 0
      · by_cases hx : (Wire.read (l.drop at_)).1 ≤ k
        · exact (rcount_ok b l at_ k _ _ w h (by omega) hl (by simp only [Wire.uint, hr]; rfl) hx).mono fun _ _ h => h.of (by simp [Wire.count, hr, hm0, Nat.not_lt.2 hx]) (by simp [Wire.count, hr, hm0, Nat.not_lt.2 hx])
        · exact (rcount_long b l at_ k _ _ w h (by omega) hl (by simp only [Wire.uint, hr]; rfl) (by omega)).mono fun _ _ h => h.of (by simp [Wire.count, hr, hm0, Nat.lt_of_not_le hx]) (by simp [Wire.count, hr, hm0, Nat.lt_of_not_le hx])
      · exact (rcount_err b l at_ k 0 at_ ((Wire.read (l.drop at_)).2.2 : Int) w h hl (by simp [Wire.uint, hr]) (by omega)).mono fun _ _ h => h.of (by simp [Wire.count, hr, hm0]) (by simp [Wire.count, hr, hm0])
  · exact (rcount_stop b l at_ m e w h he).mono fun _ _ h => h.of (by simp [Wire.count, he]) (by simp [Wire.count, he])

set_option maxRecDepth 100000 in
set_option maxHeartbeats 1000000 in
theorem rtext_err (b : Nat) (l : List UInt8) (at_ : Nat) (x a2 : Nat) (e1 e2 : Int) (w : World) (h : RRdr w b l at_ e1) (hl : l.length ≤ 9223372036854775807) (hu : Wire.uint l at_ e1 = (x, a2, e2)) (he : e2 ≠ 0) :
    Calls Try.prog 36 #[ptr b] w (RRM w b l (.string ByteArray.empty) (a2, e2)) := by
  have HH := Lib.hid h
  have HU := Lib.hid hu
  obtain ⟨v, hb, -, -, hat⟩ := h
  have c1 := hb.cell (j := 1) rfl
  have c2 := hb.cell (j := 2) rfl
  clear hb hu
  have t2 : (e2 != 0) = true := by simpa using he
  clear he
  go_enter Try.func36, Try.ntmps36
  go_wp2_with (go_at_call 33; refine (ruint_any b l at_ e1 _ HH.out hl).mono ?_; rw [HU.out]; rintro e w1 ⟨rfl, hr1, hg1⟩; simp only at hr1; have HR1 := Lib.hid hr1; have HG1 := Lib.hid hg1; obtain ⟨v1, hb1, -, -, -⟩ := hr1; have d1 := hb1.cell (j := 1) rfl; have d2 := hb1.cell (j := 2) rfl; have g1 := hb1.free 1; have g2 := hb1.free 2; have hlt := hg1.size; clear hb1 hg1 c1 c2 hlt)
  go_ret
  exact ⟨rfl, HR1.out, HG1.out⟩

set_option maxRecDepth 100000 in
set_option maxHeartbeats 1000000 in
theorem rtext_long (b : Nat) (l : List UInt8) (at_ : Nat) (x a2 : Nat) (w : World) (h : RRdr w b l at_ 0) (hl : l.length ≤ 9223372036854775807) (hu : Wire.uint l at_ 0 = (x, a2, 0)) (hx : 65536 < x) :
    Calls Try.prog 36 #[ptr b] w (RRM w b l (.string ByteArray.empty) (at_, 3)) := by
  have HH := Lib.hid h
  have HU := Lib.hid hu
  obtain ⟨v, hb, -, -, hat⟩ := h
  have c1 := hb.cell (j := 1) rfl
  have c2 := hb.cell (j := 2) rfl
  clear hb hu
  go_enter Try.func36, Try.ntmps36
  go_wp2_with (go_at_call 33; refine (ruint_any b l at_ 0 _ HH.out hl).mono ?_; rw [HU.out]; rintro e w1 ⟨rfl, hr1, hg1⟩; simp only at hr1; have HR1 := Lib.hid hr1; have HG1 := Lib.hid hg1; obtain ⟨v1, hb1, -, -, -⟩ := hr1; have d1 := hb1.cell (j := 1) rfl; have d2 := hb1.cell (j := 2) rfl; have g1 := hb1.free 1; have g2 := hb1.free 2; have hlt := hg1.size; clear hb1 hg1 c1 c2 hlt)
  go_ret
  exact ⟨rfl, (HR1.out.setE 3).setAt at_ hat, grown_set (grown_set HG1.out 2 _) 1 _⟩

set_option maxRecDepth 100000 in
set_option maxHeartbeats 1000000 in
theorem rtext_short (b : Nat) (l : List UInt8) (at_ : Nat) (x a2 : Nat) (w : World) (h : RRdr w b l at_ 0) (hl : l.length ≤ 9223372036854775807) (hu : Wire.uint l at_ 0 = (x, a2, 0)) (ha : a2 ≤ l.length) (hx : x ≤ 65536) (hs : l.length - a2 < x) :
    Calls Try.prog 36 #[ptr b] w (RRM w b l (.string ByteArray.empty) (at_, 4)) := by
  have HH := Lib.hid h
  have HU := Lib.hid hu
  obtain ⟨v, hb, -, -, hat⟩ := h
  have c1 := hb.cell (j := 1) rfl
  have c2 := hb.cell (j := 2) rfl
  clear hb hu
  have s1 : IntKind.i64.wrap ((l.length : Int) - (a2 : Int)) = ((l.length - a2 : Nat) : Int) := by rw [show (l.length : Int) - (a2 : Int) = ((l.length - a2 : Nat) : Int) from by omega]; exact IntWalk.i64_in _ (by omega)
  have s3 : IntKind.u64.wrap ((l.length - a2 : Nat) : Int) = ((l.length - a2 : Nat) : Int) := by rw [IntKind.wrap_u64]; omega
  go_enter Try.func36, Try.ntmps36
  go_wp2_with (go_at_call 33; refine (ruint_any b l at_ 0 _ HH.out hl).mono ?_; rw [HU.out]; rintro e w1 ⟨rfl, hr1, hg1⟩; simp only at hr1; have HR1 := Lib.hid hr1; have HG1 := Lib.hid hg1; obtain ⟨v1, hb1, hv1, hown1, hat1⟩ := hr1; obtain ⟨p, c, rfl, hc, hm, -⟩ := hv1.parts; have HV := Lib.hid hv1; have HO := Lib.hid hown1; have HM := Lib.hid hm; have d0 := hb1.cell (j := 0) rfl; have d1 := hb1.cell (j := 1) rfl; have d2 := hb1.cell (j := 2) rfl; have g1 := hb1.free 1; have g2 := hb1.free 2; have hlt := hg1.size; clear hb1 hg1 c1 c2 hlt hv1 hown1 hm)
  go_quiet (fail)
  clear s1 s3
  go_wp2
  go_ret
  exact ⟨rfl, ((HR1.out.drewN _).setE 4).setAt at_ hat, grown_set (grown_set (grown_drewN HG1.out _) 2 _) 1 _⟩

set_option maxRecDepth 100000 in
set_option maxHeartbeats 1000000 in
theorem rtext_ok (b : Nat) (l : List UInt8) (at_ : Nat) (x a2 : Nat) (w : World) (h : RRdr w b l at_ 0) (hl : l.length ≤ 9223372036854775807) (hu : Wire.uint l at_ 0 = (x, a2, 0)) (ha : a2 ≤ l.length) (hx : x ≤ 65536) (hs : x ≤ l.length - a2) :
    Calls Try.prog 36 #[ptr b] w (RRM w b l (.string ⟨((l.drop a2).take x).toArray⟩) (a2 + x, 0)) := by
  have HH := Lib.hid h
  have HU := Lib.hid hu
  obtain ⟨v, hb, -, -, hat⟩ := h
  have c1 := hb.cell (j := 1) rfl
  have c2 := hb.cell (j := 2) rfl
  clear hb hu
  have s1 : IntKind.i64.wrap ((l.length : Int) - (a2 : Int)) = ((l.length - a2 : Nat) : Int) := by rw [show (l.length : Int) - (a2 : Int) = ((l.length - a2 : Nat) : Int) from by omega]; exact IntWalk.i64_in _ (by omega)
  have s3 : IntKind.u64.wrap ((l.length - a2 : Nat) : Int) = ((l.length - a2 : Nat) : Int) := by rw [IntKind.wrap_u64]; omega
  go_enter Try.func36, Try.ntmps36
  go_wp2_with (go_at_call 33; refine (ruint_any b l at_ 0 _ HH.out hl).mono ?_; rw [HU.out]; rintro e w1 ⟨rfl, hr1, hg1⟩; simp only at hr1; have HR1 := Lib.hid hr1; have HG1 := Lib.hid hg1; obtain ⟨v1, hb1, hv1, hown1, hat1⟩ := hr1; obtain ⟨p, c, rfl, hc, hm, -⟩ := hv1.parts; have HV := Lib.hid hv1; have HO := Lib.hid hown1; have HM := Lib.hid hm; have d0 := hb1.cell (j := 0) rfl; have d1 := hb1.cell (j := 1) rfl; have d2 := hb1.cell (j := 2) rfl; have g1 := hb1.free 1; have g2 := hb1.free 2; have hlt := hg1.size; clear hb1 hg1 c1 c2 hlt hv1 hown1 hm)
  go_quiet (fail)
  obtain ⟨q1, rfl⟩ : ∃ q1, q1 = nq := ⟨_, rfl⟩
  clear s1 s3
  go_wp2
  have b0 : IntKind.i64.wrap ((a2 : Int) + (x : Int) - (x : Int)) = (a2 : Int) := by rw [Int.add_sub_cancel]; exact IntWalk.i64_in _ (by omega)
  have b2 : (a2 : Int) ≤ (a2 : Int) + (x : Int) := by omega
  have b3 : (a2 : Int) + (x : Int) ≤ (c : Int) := by omega
  have b5 : ((a2 : Int) + (x : Int)).toNat = a2 + x := by omega
  have hcv : ∀ (a m : Nat) (u : Value), (convert 22 9 (.slice (if c = a2 then p else Option.map (fun x => x.add a2) p) x (c - a2))).run Try.prog (((w1.drewN m).setCell ⟨b, 1, none⟩ u).drewN a) =
      .ok (.string ⟨((l.drop a2).take x).toArray⟩) (((w1.drewN m).setCell ⟨b, 1, none⟩ u).drewN a) := fun a m u =>
    run_str (rd_piece (HV.out.grownA (grown_drewN (grown_set (grown_drewN (grown_refl w1 (some b)) m) 1 u) a) (apart_of1 HO.out)) (by omega)) Try.underlying22 Try.underlying5 9 Try.underlying9
  go_quiet (fail)
  clear b0 b2 b3 b5 hcv
  generalize (if c = a2 then p else Option.map (fun x => x.add a2) p) = pp
  go_wp2
  go_ret
  exact ⟨rfl, by have := ((HR1.out.drewN q1).setAt (a2 + x) (by omega)).drewN nq; simpa using this, grown_drewN (grown_set (grown_drewN HG1.out _) 1 _) _⟩

theorem rtext_any (b : Nat) (l : List UInt8) (at_ : Nat) (e : Int) (w : World) (h : RRdr w b l at_ e) (hl : l.length ≤ 9223372036854775807) :
    Calls Try.prog 36 #[ptr b] w (RRM w b l (.string ⟨(Wire.text l at_ e).1.toArray⟩) (Wire.text l at_ e).2) := by
  have hat := rrdr_le h
  by_cases he : e = 0
  · subst he
    by_cases hr : (Wire.read (l.drop at_)).2.2 = 0
    · have hn := (Wire.read_le hr).2
      simp only [List.length_drop] at hn
      by_cases hx : (Wire.read (l.drop at_)).1 ≤ 65536
      · by_cases hs : (Wire.read (l.drop at_)).1 ≤ l.length - at_ - (Wire.read (l.drop at_)).2.1
        · exact (rtext_ok b l at_ _ _ w h hl (by simp only [Wire.uint, hr]; rfl) (by omega) hx (by omega)).mono fun _ _ h => h.of (by simp [Wire.text, hr, Nat.not_lt.2 hx, Nat.not_lt.2 hs]) (by simp [Wire.text, hr, Nat.not_lt.2 hx, Nat.not_lt.2 hs])
        · exact (rtext_short b l at_ _ _ w h hl (by simp only [Wire.uint, hr]; rfl) (by omega) hx (by omega)).mono fun _ _ h => h.of (by simp [Wire.text, hr, Nat.not_lt.2 hx, Nat.lt_of_not_le hs]; rfl) (by simp [Wire.text, hr, Nat.not_lt.2 hx, Nat.lt_of_not_le hs])
      · exact (rtext_long b l at_ _ _ w h hl (by simp only [Wire.uint, hr]; rfl) (by omega)).mono fun _ _ h => h.of (by simp [Wire.text, hr, Nat.lt_of_not_le hx]; rfl) (by simp [Wire.text, hr, Nat.lt_of_not_le hx])
    · exact (rtext_err b l at_ 0 at_ 0 ((Wire.read (l.drop at_)).2.2 : Int) w h hl (by simp [Wire.uint, hr]) (by omega)).mono fun _ _ h => h.of (by simp [Wire.text, hr]; rfl) (by simp [Wire.text, hr])
  · exact (rtext_err b l at_ 0 at_ e e w h hl (by simp [Wire.uint, he]) he).mono fun _ _ h => h.of (by simp [Wire.text, he]; rfl) (by simp [Wire.text, he])

end Go.Proofs.Ytchaigaechmbnaa
