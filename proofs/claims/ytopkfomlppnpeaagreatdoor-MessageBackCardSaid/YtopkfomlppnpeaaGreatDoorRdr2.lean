/- Rdr2. -/
import Derived.Test.YtopkfomlppnpeaaGreatDoorRdr
namespace Go.Proofs.YtopkfomlppnpeaaGreatDoor
open Go.RowKit

set_option maxRecDepth 100000 in
set_option maxHeartbeats 1000000 in
theorem text_stop (b : Nat) (l : List UInt8) (at_ : Nat) (e : Int) (w : World) (h : Rdr w b l at_ e) (he : e ≠ 0) :
    Calls Tryz.prog 91 #[ptr b] w (RM w b l (.string ByteArray.empty) (at_, e)) := by
  have HH := Lib.hid h
  obtain ⟨v, hb, -, -, -⟩ := h
  have H := Lib.hid hb
  have HE := Lib.hid he
  clear hb he
  go_enter Tryz.func91, Tryz.ntmps91
  go_wp2_with (first
    | (go_at_call 113; refine (number_yes b _ _ _ _ H.out HE.out).mono ?_; rintro e w' ⟨rfl, rfl⟩)
    | (go_at_call 114; refine (stopped_yes b _ _ _ _ H.out HE.out).mono ?_; rintro e w' ⟨rfl, rfl⟩))
  go_ret
  exact ⟨rfl, HH.out, grown_refl _ _⟩

set_option maxRecDepth 100000 in
set_option maxHeartbeats 1000000 in
theorem text_err (b : Nat) (l : List UInt8) (at_ : Nat) (w : World) (h : Rdr w b l at_ 0) (hr : (Wire.read (l.drop at_)).2.2 ≠ 0) :
    Calls Tryz.prog 91 #[ptr b] w (RM w b l (.string ByteArray.empty) (at_, ((Wire.read (l.drop at_)).2.2 : Int))) := by
  have HH := Lib.hid h
  have HR := Lib.hid hr
  clear h hr
  go_enter Tryz.func91, Tryz.ntmps91
  go_wp2_with (first
    | (go_at_call 113; refine (number_err b l at_ _ HH.out HR.out).mono ?_; rintro e w1 ⟨rfl, hr1, hg1⟩; have HR1 := Lib.hid hr1; have HG1 := Lib.hid hg1; clear hr1 hg1)
    | (go_at_call 114; refine (stopped_yes b HR1.out.choose _ _ _ HR1.out.choose_spec.1 (by have := HR.out; omega)).mono ?_; rintro e w' ⟨rfl, rfl⟩))
  go_ret
  exact ⟨rfl, HR1.out, HG1.out⟩

set_option maxRecDepth 100000 in
set_option maxHeartbeats 1000000 in
theorem text_long (b : Nat) (l : List UInt8) (at_ : Nat) (w : World) (h : Rdr w b l at_ 0) (hr : (Wire.read (l.drop at_)).2.2 = 0) (hx : 65536 < (Wire.read (l.drop at_)).1) :
    Calls Tryz.prog 91 #[ptr b] w (RM w b l (.string ByteArray.empty) (at_, 3)) := by
  have HH := Lib.hid h
  have HR := Lib.hid hr
  obtain ⟨v, hb, -, -, -⟩ := h
  have c2 := hb.cell (j := 2) rfl
  have f2 := hb.free 2
  have H := Lib.hid hb
  clear hr hb
  go_enter Tryz.func91, Tryz.ntmps91
  go_wp2_with (first
    | (go_at_call 113; refine (number_ok b l at_ _ HH.out HR.out).mono ?_; rintro e w1 ⟨rfl, n, rfl⟩)
    | (go_at_call 114; refine (stopped_no b _ _ _ (by exact H.out)).mono ?_; rintro e w' ⟨rfl, hw'⟩; subst hw'))
  go_ret
  exact ⟨rfl, (HH.out.drewN n).setE 3, grown_set (grown_drewN (grown_refl _ _) n) 2 _⟩

set_option maxRecDepth 100000 in
set_option maxHeartbeats 1000000 in
theorem text_short (b : Nat) (l : List UInt8) (at_ : Nat) (w : World) (h : Rdr w b l at_ 0) (hl : l.length ≤ 9223372036854775807) (hr : (Wire.read (l.drop at_)).2.2 = 0) (hx : (Wire.read (l.drop at_)).1 ≤ 65536) (hs : l.length - at_ - (Wire.read (l.drop at_)).2.1 < (Wire.read (l.drop at_)).1) :
    Calls Tryz.prog 91 #[ptr b] w (RM w b l (.string ByteArray.empty) (at_, 4)) := by
  have HH := Lib.hid h
  have HR := Lib.hid hr
  have hn : at_ + (Wire.read (l.drop at_)).2.1 ≤ l.length := by
    have := Wire.read_le hr
    have := rdr_le h
    simp at *; omega
  obtain ⟨v, hb, hv, hown, hat⟩ := h
  obtain ⟨p, c, rfl, hc, hm, -⟩ := hv.parts
  have c0 := hb.cell (j := 0) rfl
  have c1 := hb.cell (j := 1) rfl
  have c2 := hb.cell (j := 2) rfl
  have f1 := hb.free 1
  have f2 := hb.free 2
  have H := Lib.hid hb
  have HV := Lib.hid hv
  have HO := Lib.hid hown
  have HM := Lib.hid hm
  have hsn : ((l.length : Int) - (at_ : Int) - ((Wire.read (l.drop at_)).2.1 : Int)) = ((l.length - at_ - (Wire.read (l.drop at_)).2.1 : Nat) : Int) := by omega
  have s1 : IntKind.i64.wrap ((l.length : Int) - (at_ : Int)) = (l.length : Int) - (at_ : Int) := IntWalk.i64_in _ (by omega)
  have s2 : IntKind.i64.wrap ((l.length : Int) - (at_ : Int) - ((Wire.read (l.drop at_)).2.1 : Int)) = ((l.length - at_ - (Wire.read (l.drop at_)).2.1 : Nat) : Int) := by rw [hsn]; exact IntWalk.i64_in _ (by omega)
  have s3 : IntKind.u64.wrap ((l.length - at_ - (Wire.read (l.drop at_)).2.1 : Nat) : Int) = ((l.length - at_ - (Wire.read (l.drop at_)).2.1 : Nat) : Int) := by rw [IntKind.wrap_u64]; omega
  clear hr hb hv hown hm hsn
  go_enter Tryz.func91, Tryz.ntmps91
  go_wp2_with (first
    | (go_at_call 113; refine (number_ok b l at_ _ HH.out HR.out).mono ?_; rintro e w1 ⟨rfl, n, rfl⟩)
    | (go_at_call 114; refine (stopped_no b _ _ _ (by exact H.out)).mono ?_; rintro e w' ⟨rfl, hw'⟩; subst hw'))
  go_quiet (fail)
  clear s1 s2 s3
  go_wp2
  go_ret
  exact ⟨rfl, (HH.out.drewN _).setE 4, grown_set (grown_drewN (grown_refl _ _) _) 2 _⟩

set_option maxRecDepth 100000 in
set_option maxHeartbeats 1000000 in
theorem text_ok (b : Nat) (l : List UInt8) (at_ : Nat) (w : World) (h : Rdr w b l at_ 0) (hl : l.length ≤ 9223372036854775807) (hr : (Wire.read (l.drop at_)).2.2 = 0) (hx : (Wire.read (l.drop at_)).1 ≤ 65536) (hs : (Wire.read (l.drop at_)).1 ≤ l.length - at_ - (Wire.read (l.drop at_)).2.1) :
    Calls Tryz.prog 91 #[ptr b] w (RM w b l (.string ⟨((l.drop (at_ + (Wire.read (l.drop at_)).2.1)).take (Wire.read (l.drop at_)).1).toArray⟩) (at_ + (Wire.read (l.drop at_)).2.1 + (Wire.read (l.drop at_)).1, 0)) := by
  have HH := Lib.hid h
  have HR := Lib.hid hr
  have hn : at_ + (Wire.read (l.drop at_)).2.1 ≤ l.length := by
    have := Wire.read_le hr
    have := rdr_le h
    simp at *; omega
  obtain ⟨v, hb, hv, hown, hat⟩ := h
  obtain ⟨p, c, rfl, hc, hm, -⟩ := hv.parts
  have c0 := hb.cell (j := 0) rfl
  have c1 := hb.cell (j := 1) rfl
  have c2 := hb.cell (j := 2) rfl
  have f1 := hb.free 1
  have f2 := hb.free 2
  have H := Lib.hid hb
  have HV := Lib.hid hv
  have HO := Lib.hid hown
  have HM := Lib.hid hm
  have hsn : ((l.length : Int) - (at_ : Int) - ((Wire.read (l.drop at_)).2.1 : Int)) = ((l.length - at_ - (Wire.read (l.drop at_)).2.1 : Nat) : Int) := by omega
  have s1 : IntKind.i64.wrap ((l.length : Int) - (at_ : Int)) = (l.length : Int) - (at_ : Int) := IntWalk.i64_in _ (by omega)
  have s2 : IntKind.i64.wrap ((l.length : Int) - (at_ : Int) - ((Wire.read (l.drop at_)).2.1 : Int)) = ((l.length - at_ - (Wire.read (l.drop at_)).2.1 : Nat) : Int) := by rw [hsn]; exact IntWalk.i64_in _ (by omega)
  have s3 : IntKind.u64.wrap ((l.length - at_ - (Wire.read (l.drop at_)).2.1 : Nat) : Int) = ((l.length - at_ - (Wire.read (l.drop at_)).2.1 : Nat) : Int) := by rw [IntKind.wrap_u64]; omega
  clear hr hb hv hown hm hsn
  go_enter Tryz.func91, Tryz.ntmps91
  go_wp2_with (first
    | (go_at_call 113; refine (number_ok b l at_ _ HH.out HR.out).mono ?_; rintro e w1 ⟨rfl, n, rfl⟩)
    | (go_at_call 114; refine (stopped_no b _ _ _ (by exact H.out)).mono ?_; rintro e w' ⟨rfl, hw'⟩; subst hw'))
  go_quiet (fail)
  obtain ⟨q1, rfl⟩ : ∃ q1, q1 = nq := ⟨_, rfl⟩
  clear s1 s2 s3
  go_wp2
  have b1 : (0 : Int) ≤ (at_ : Int) + ((Wire.read (l.drop at_)).2.1 : Int) := by omega
  have b2 : (at_ : Int) + ((Wire.read (l.drop at_)).2.1 : Int) ≤ (at_ : Int) + ((Wire.read (l.drop at_)).2.1 : Int) + ((Wire.read (l.drop at_)).1 : Int) := by omega
  have b3 : (at_ : Int) + ((Wire.read (l.drop at_)).2.1 : Int) + ((Wire.read (l.drop at_)).1 : Int) ≤ (c : Int) := by omega
  have b4 : ((at_ : Int) + ((Wire.read (l.drop at_)).2.1 : Int)).toNat = at_ + (Wire.read (l.drop at_)).2.1 := by omega
  have b5 : ((at_ : Int) + ((Wire.read (l.drop at_)).2.1 : Int) + ((Wire.read (l.drop at_)).1 : Int)).toNat = at_ + (Wire.read (l.drop at_)).2.1 + (Wire.read (l.drop at_)).1 := by omega
  have hcv : ∀ (a m : Nat) (u : Value), (convert 23 9 (.slice (if c = at_ + (Wire.read (l.drop at_)).2.1 then p else Option.map (fun x => x.add (at_ + (Wire.read (l.drop at_)).2.1)) p) (Wire.read (l.drop at_)).1 (c - (at_ + (Wire.read (l.drop at_)).2.1)))).run Tryz.prog (((w.drewN m).setCell ⟨b, 1, none⟩ u).drewN a) =
      .ok (.string ⟨((l.drop (at_ + (Wire.read (l.drop at_)).2.1)).take (Wire.read (l.drop at_)).1).toArray⟩) (((w.drewN m).setCell ⟨b, 1, none⟩ u).drewN a) := fun a m u =>
    run_str (rd_piece (HV.out.grownA (grown_drewN (grown_set (grown_drewN (grown_refl w (some b)) m) 1 u) a) (apart_of HO.out)) (by omega)) Tryz.underlying23 Tryz.underlying5 9 Tryz.underlying9
  go_quiet (fail)
  clear b1 b2 b3 b4 b5 hcv
  generalize (if c = at_ + (Wire.read (l.drop at_)).2.1 then p else Option.map (fun x => x.add (at_ + (Wire.read (l.drop at_)).2.1)) p) = pp
  go_wp2
  go_ret
  exact ⟨rfl, by have := ((HH.out.drewN (n + q1)).setAt (at_ + (Wire.read (l.drop at_)).2.1 + (Wire.read (l.drop at_)).1) (by omega)).drewN nq; simpa using this, grown_drewN (grown_set (grown_drewN (grown_refl _ _) _) 1 _) _⟩

theorem text_any (b : Nat) (l : List UInt8) (at_ : Nat) (e : Int) (w : World) (h : Rdr w b l at_ e) (hl : l.length ≤ 9223372036854775807) :
    Calls Tryz.prog 91 #[ptr b] w (RM w b l (.string ⟨(Wire.text l at_ e).1.toArray⟩) (Wire.text l at_ e).2) := by
  by_cases he : e = 0
  · subst he
    by_cases hr : (Wire.read (l.drop at_)).2.2 = 0
    · by_cases hx : (Wire.read (l.drop at_)).1 ≤ 65536
      · by_cases hs : (Wire.read (l.drop at_)).1 ≤ l.length - at_ - (Wire.read (l.drop at_)).2.1
        · exact (text_ok b l at_ w h hl hr hx hs).mono fun _ _ h => h.of (by simp [Wire.text, hr, Nat.not_lt.2 hx, Nat.not_lt.2 hs]) (by simp [Wire.text, hr, Nat.not_lt.2 hx, Nat.not_lt.2 hs])
        · exact (text_short b l at_ w h hl hr hx (by omega)).mono fun _ _ h => h.of (by simp [Wire.text, hr, Nat.not_lt.2 hx, Nat.lt_of_not_le hs]; rfl) (by simp [Wire.text, hr, Nat.not_lt.2 hx, Nat.lt_of_not_le hs])
      · exact (text_long b l at_ w h hr (by omega)).mono fun _ _ h => h.of (by simp [Wire.text, hr, Nat.lt_of_not_le hx]; rfl) (by simp [Wire.text, hr, Nat.lt_of_not_le hx])
    · exact (text_err b l at_ w h hr).mono fun _ _ h => h.of (by simp [Wire.text, hr]; rfl) (by simp [Wire.text, hr])
  · exact (text_stop b l at_ e w h he).mono fun _ _ h => h.of (by simp [Wire.text, he]; rfl) (by simp [Wire.text, he])
end Go.Proofs.YtopkfomlppnpeaaGreatDoor
