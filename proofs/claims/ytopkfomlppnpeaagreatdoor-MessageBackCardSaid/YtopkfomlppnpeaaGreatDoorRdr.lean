/- Rdr. -/
import Derived.Test.YtopkfomlppnpeaaGreatDoorRead
import Derived.Test.YtopkfomlppnpeaaGreatDoorLib2
namespace Go.Proofs.YtopkfomlppnpeaaGreatDoor
open Go.RowKit

/-- block b is a reader that was made -/
def Rdr (w : World) (b : Nat) (l : List UInt8) (at_ : Nat) (e : Int) : Prop :=
  ∃ v, Blk w b [v, .int .i64 (at_ : Int), .int .i64 e, .bool true] 162 ∧ Rd w v l ∧ (l ≠ [] → ∀ c, v.ownBlock = some c → c < b) ∧ at_ ≤ l.length

theorem apart_of {v : Value} {b : Nat} {l : List UInt8} (h : l ≠ [] → ∀ c, v.ownBlock = some c → c < b) : l ≠ [] → v.ownBlock ≠ some b := fun hl e => by have := h hl b e; omega

theorem Rd.grownA {w w' : World} {v : Value} {l : List UInt8} {b : Nat} (h : Rd w v l) (hg : w.grownBy w' (some b)) (hr : l ≠ [] → v.ownBlock ≠ some b) : Rd w' v l := by
  by_cases hl : l = []
  · subst hl
    obtain ⟨p, c, hv, h1, h2, h3, h4, h5, h6⟩ := h
    exact ⟨p, c, hv, h1, h2, h3, h4, h5, .inl rfl⟩
  · exact h.grown hg (.inr (hr hl))


set_option maxHeartbeats 400000 in
theorem none_made (b : Nat) (v x y : Value) (w : World) (h : Blk w b [v, x, y, .bool true] 162) :
    Calls Tryz.prog 143 #[ptr b] w fun e w' => e = .returned (.bool false) ∧ w' = w := by
  have c3 := h.cell (j := 3) rfl
  clear h
  go_enter Tryz.func143, Tryz.ntmps143
  go_wp2
  go_ret
  exact ⟨rfl, rfl⟩

set_option maxHeartbeats 400000 in
theorem stopped_no (b : Nat) (v x : Value) (w : World) (h : Blk w b [v, x, .int .i64 0, .bool true] 162) :
    Calls Tryz.prog 114 #[ptr b] w fun e w' => e = .returned (.bool false) ∧ w' = w := by
  have c2 := h.cell (j := 2) rfl
  have H := Lib.hid h
  clear h
  go_enter Tryz.func114, Tryz.ntmps114
  go_wp2_with (go_at_call 143; refine (none_made b _ _ _ _ H.out).mono ?_; rintro e w' ⟨rfl, rfl⟩)
  go_ret
  exact ⟨rfl, rfl⟩

set_option maxHeartbeats 400000 in
theorem stopped_yes (b : Nat) (v x : Value) (er : Int) (w : World) (h : Blk w b [v, x, .int .i64 er, .bool true] 162) (h0 : er ≠ 0) :
    Calls Tryz.prog 114 #[ptr b] w fun e w' => e = .returned (.bool true) ∧ w' = w := by
  have c2 := h.cell (j := 2) rfl
  have H := Lib.hid h
  have t1 : (er != 0) = true := by simpa using h0
  clear h h0
  go_enter Tryz.func114, Tryz.ntmps114
  go_wp2_with (go_at_call 143; refine (none_made b _ _ _ _ H.out).mono ?_; rintro e w' ⟨rfl, rfl⟩)
  go_ret
  exact ⟨rfl, rfl⟩

set_option maxRecDepth 100000 in
set_option maxHeartbeats 400000 in
theorem number_yes (b : Nat) (v x : Value) (er : Int) (w : World) (h : Blk w b [v, x, .int .i64 er, .bool true] 162) (h0 : er ≠ 0) :
    Calls Tryz.prog 113 #[ptr b] w fun e w' => e = .returned (.tuple #[.int .u64 0, .int .i64 0]) ∧ w' = w := by
  have H := Lib.hid h
  have H0 := Lib.hid h0
  clear h h0
  go_enter Tryz.func113, Tryz.ntmps113
  go_wp2_with (go_at_call 114; refine (stopped_yes b _ _ _ _ H.out H0.out).mono ?_; rintro e w' ⟨rfl, rfl⟩)
  go_ret2
  exact ⟨rfl, rfl⟩

set_option maxRecDepth 100000 in
set_option maxHeartbeats 400000 in
theorem number_ok (b : Nat) (l : List UInt8) (at_ : Nat) (w : World) (h : Rdr w b l at_ 0) (hr : (Wire.read (l.drop at_)).2.2 = 0) :
    Calls Tryz.prog 113 #[ptr b] w fun e w' => e = .returned (.tuple #[.int .u64 ((Wire.read (l.drop at_)).1 : Int), .int .i64 ((Wire.read (l.drop at_)).2.1 : Int)]) ∧ ∃ n, w' = w.drewN n := by
  obtain ⟨v, hb, hv, hown, hat⟩ := h
  obtain ⟨p, c, rfl, hc, hm, -⟩ := hv.parts
  have c0 := hb.cell (j := 0) rfl
  have c1 := hb.cell (j := 1) rfl
  have c2 := hb.cell (j := 2) rfl
  have H := Lib.hid hb
  have HV := Lib.hid hv
  have HR := Lib.hid hr
  have HM := Lib.hid hm
  clear hb hv hown hr hm
  go_enter Tryz.func113, Tryz.ntmps113
  go_wp2_with (go_at_call 114; refine (stopped_no b _ _ _ H.out).mono ?_; rintro e w' ⟨rfl, rfl⟩)
  have t1 : (((Wire.read (l.drop at_)).2.2 : Int) != 0) = false := by rw [HR.out]; rfl
  go_quiet ((go_at_call 142; exact Calls.quiet_of (read_any _ (l.drop at_) _ (rd_cut HV.out hat))))
  generalize (if c = at_ then p else Option.map (fun x => x.add at_) p) = pp
  go_wp2
  go_ret2
  exact ⟨rfl, nq, rfl⟩
theorem Rdr.setE {w : World} {b : Nat} {l : List UInt8} {at_ : Nat} {e : Int} (h : Rdr w b l at_ e) (e' : Int) : Rdr (w.setCell ⟨b, 2, none⟩ (.int .i64 e')) b l at_ e' := by
  obtain ⟨v, hb, hv, hown, hat⟩ := h
  refine ⟨v, hb.set 2 _, hv.grownA (grown_set (grown_refl w (some b)) 2 _) (apart_of hown), hown, hat⟩
theorem Rdr.setAt {w : World} {b : Nat} {l : List UInt8} {at_ : Nat} {e : Int} (h : Rdr w b l at_ e) (a' : Nat) (ha : a' ≤ l.length) : Rdr (w.setCell ⟨b, 1, none⟩ (.int .i64 (a' : Int))) b l a' e := by
  obtain ⟨v, hb, hv, hown, hat⟩ := h
  refine ⟨v, hb.set 1 _, hv.grownA (grown_set (grown_refl w (some b)) 1 _) (apart_of hown), hown, ha⟩
theorem Rdr.drewN {w : World} {b : Nat} {l : List UInt8} {at_ : Nat} {e : Int} (h : Rdr w b l at_ e) (n : Nat) : Rdr (w.drewN n) b l at_ e := by
  obtain ⟨v, hb, hv, hown, hat⟩ := h
  exact ⟨v, hb, hv.grown (grown_drewN (grown_refl w none) n) (by cases v.ownBlock <;> simp), hown, hat⟩
set_option maxRecDepth 100000 in
set_option maxHeartbeats 400000 in
theorem number_err (b : Nat) (l : List UInt8) (at_ : Nat) (w : World) (h : Rdr w b l at_ 0) (hr : (Wire.read (l.drop at_)).2.2 ≠ 0) :
    Calls Tryz.prog 113 #[ptr b] w fun e w' => e = .returned (.tuple #[.int .u64 0, .int .i64 0]) ∧ Rdr w' b l at_ ((Wire.read (l.drop at_)).2.2 : Int) ∧ w.grownBy w' (some b) := by
  have h' := h
  obtain ⟨v, hb, hv, hown, hat⟩ := h
  obtain ⟨p, c, rfl, hc, hm, -⟩ := hv.parts
  have c0 := hb.cell (j := 0) rfl
  have c1 := hb.cell (j := 1) rfl
  have c2 := hb.cell (j := 2) rfl
  have f2 := hb.free 2
  have H := Lib.hid hb
  have HV := Lib.hid hv
  have HR := Lib.hid hr
  have HM := Lib.hid hm
  have HH := Lib.hid h'
  clear hb hv hown hr hm h'
  go_enter Tryz.func113, Tryz.ntmps113
  go_wp2_with (go_at_call 114; refine (stopped_no b _ _ _ H.out).mono ?_; rintro e w' ⟨rfl, rfl⟩)
  have t1 : (((Wire.read (l.drop at_)).2.2 : Int) != 0) = true := by have := HR.out; simp; omega
  go_quiet ((go_at_call 142; exact Calls.quiet_of (read_any _ (l.drop at_) _ (rd_cut HV.out hat))))
  generalize (if c = at_ then p else Option.map (fun x => x.add at_) p) = pp
  go_wp2
  go_ret2
  refine ⟨?_, ?_, ?_⟩
  · have := Wire.read_err HR.out
    simp [this.1, this.2]
  · exact (HH.out.drewN nq).setE _
  · exact grown_set (grown_drewN (grown_refl _ _) nq) 2 _

/-- a method of the reader: what it answers; the state behind it; all else as it was -/
def RM (w : World) (b : Nat) (l : List UInt8) (v : Value) (s : Nat × Int) (e : Ending) (w' : World) : Prop := e = .returned v ∧ Rdr w' b l s.1 s.2 ∧ w.grownBy w' (some b)

set_option maxRecDepth 100000 in
set_option maxHeartbeats 400000 in
theorem uint_stop (b : Nat) (l : List UInt8) (at_ : Nat) (e : Int) (w : World) (h : Rdr w b l at_ e) (he : e ≠ 0) :
    Calls Tryz.prog 43 #[ptr b] w (RM w b l (.int .u64 0) (at_, e)) := by
  have HH := Lib.hid h
  obtain ⟨v, hb, -, -, -⟩ := h
  have H := Lib.hid hb
  have HE := Lib.hid he
  clear hb he
  go_enter Tryz.func43, Tryz.ntmps43
  go_wp2_with (first
    | (go_at_call 113; refine (number_yes b _ _ _ _ H.out HE.out).mono ?_; rintro e w' ⟨rfl, rfl⟩)
    | (go_at_call 114; refine (stopped_yes b _ _ _ _ H.out HE.out).mono ?_; rintro e w' ⟨rfl, rfl⟩))
  go_ret
  exact ⟨rfl, HH.out, grown_refl _ _⟩

set_option maxRecDepth 100000 in
set_option maxHeartbeats 400000 in
theorem uint_err (b : Nat) (l : List UInt8) (at_ : Nat) (w : World) (h : Rdr w b l at_ 0) (hr : (Wire.read (l.drop at_)).2.2 ≠ 0) :
    Calls Tryz.prog 43 #[ptr b] w (RM w b l (.int .u64 0) (at_, ((Wire.read (l.drop at_)).2.2 : Int))) := by
  have HH := Lib.hid h
  have HR := Lib.hid hr
  clear h hr
  go_enter Tryz.func43, Tryz.ntmps43
  go_wp2_with (first
    | (go_at_call 113; refine (number_err b l at_ _ HH.out HR.out).mono ?_; rintro e w1 ⟨rfl, hr1, hg1⟩; have HR1 := Lib.hid hr1; have HG1 := Lib.hid hg1; clear hr1 hg1)
    | (go_at_call 114; refine (stopped_yes b HR1.out.choose _ _ _ HR1.out.choose_spec.1 (by have := HR.out; omega)).mono ?_; rintro e w' ⟨rfl, rfl⟩))
  go_ret
  exact ⟨rfl, HR1.out, HG1.out⟩

set_option maxRecDepth 100000 in
set_option maxHeartbeats 400000 in
theorem uint_ok (b : Nat) (l : List UInt8) (at_ : Nat) (w : World) (h : Rdr w b l at_ 0) (hr : (Wire.read (l.drop at_)).2.2 = 0) (hl : l.length ≤ 9223372036854775807) :
    Calls Tryz.prog 43 #[ptr b] w (RM w b l (.int .u64 ((Wire.read (l.drop at_)).1 : Int)) (at_ + (Wire.read (l.drop at_)).2.1, 0)) := by
  have HH := Lib.hid h
  have HR := Lib.hid hr
  have hn : at_ + (Wire.read (l.drop at_)).2.1 ≤ l.length := by
    have := Wire.read_le hr
    obtain ⟨v, -, -, -, hat⟩ := h
    simp at this; omega
  have HN := Lib.hid hn
  obtain ⟨v, hb, -, -, -⟩ := h
  have c1 := hb.cell (j := 1) rfl
  have f1 := hb.free 1
  have H := Lib.hid hb
  clear hr hb
  go_enter Tryz.func43, Tryz.ntmps43
  go_wp2_with (first
    | (go_at_call 113; refine (number_ok b l at_ _ HH.out HR.out).mono ?_; rintro e w1 ⟨rfl, n, rfl⟩)
    | (go_at_call 114; refine (stopped_no b _ _ _ (by exact H.out)).mono ?_; rintro e w' ⟨rfl, hw'⟩; subst hw'))
  go_ret
  exact ⟨rfl, by have := (HH.out.drewN n).setAt _ HN.out; simpa using this, grown_set (grown_drewN (grown_refl _ _) n) 1 _⟩

theorem RM.of {w : World} {b : Nat} {l : List UInt8} {v v' : Value} {s s' : Nat × Int} (hv : v = v') (hs : s = s') {e : Ending} {w' : World} (h : RM w b l v s e w') : RM w b l v' s' e w' := by
  subst hv hs; exact h

theorem uint_any (b : Nat) (l : List UInt8) (at_ : Nat) (e : Int) (w : World) (h : Rdr w b l at_ e) (hl : l.length ≤ 9223372036854775807) :
    Calls Tryz.prog 43 #[ptr b] w (RM w b l (.int .u64 ((Wire.uint l at_ e).1 : Int)) (Wire.uint l at_ e).2) := by
  by_cases he : e = 0
  · subst he
    by_cases hr : (Wire.read (l.drop at_)).2.2 = 0
    · exact (uint_ok b l at_ w h hr hl).mono fun _ _ h => h.of (by simp [Wire.uint, hr]) (by simp [Wire.uint, hr])
    · exact (uint_err b l at_ w h hr).mono fun _ _ h => h.of (by simp [Wire.uint, hr]) (by simp [Wire.uint, hr])
  · exact (uint_stop b l at_ e w h he).mono fun _ _ h => h.of (by simp [Wire.uint, he]) (by simp [Wire.uint, he])

theorem uint_lt (l : List UInt8) (at_ : Nat) (e : Int) : (Wire.uint l at_ e).1 < 18446744073709551616 := by
  unfold Wire.uint
  split
  · simp
  · split
    · simp
    · exact Wire.read_lt _

set_option maxRecDepth 100000 in
set_option maxHeartbeats 400000 in
theorem int_any (b : Nat) (l : List UInt8) (at_ : Nat) (e : Int) (w : World) (h : Rdr w b l at_ e) (hl : l.length ≤ 9223372036854775807) :
    Calls Tryz.prog 44 #[ptr b] w (RM w b l (.int .i64 (Wire.int l at_ e).1) (Wire.int l at_ e).2) := by
  have HH := Lib.hid h
  have HX := Lib.hid (uint_lt l at_ e)
  clear h
  go_enter Tryz.func44, Tryz.ntmps44
  go_wp2_with (go_at_call 43; refine (uint_any b l at_ e _ HH.out hl).mono ?_; rintro e w1 ⟨rfl, hr1, hg1⟩; have HR1 := Lib.hid hr1; have HG1 := Lib.hid hg1; clear hr1 hg1)
  go_ret
  exact RM.of (congrArg (Value.int .i64) (Wire.unzig_wire HX.out)) rfl ⟨rfl, HR1.out, HG1.out⟩

set_option maxHeartbeats 400000 in
theorem err_any (b : Nat) (l : List UInt8) (at_ : Nat) (er : Int) (w : World) (h : Rdr w b l at_ er) :
    Calls Tryz.prog 116 #[ptr b] w fun e w' => e = .returned (.int .i64 er) ∧ w' = w := by
  obtain ⟨v, hb, -, -, -⟩ := h
  have c2 := hb.cell (j := 2) rfl
  have H := Lib.hid hb
  clear hb
  go_enter Tryz.func116, Tryz.ntmps116
  go_wp2_with (go_at_call 143; refine (none_made b _ _ _ _ H.out).mono ?_; rintro e w' ⟨rfl, rfl⟩)
  go_ret
  exact ⟨rfl, rfl⟩

set_option maxRecDepth 100000 in
set_option maxHeartbeats 400000 in
theorem done_any (b : Nat) (l : List UInt8) (at_ : Nat) (er : Int) (w : World) (h : Rdr w b l at_ er) :
    Calls Tryz.prog 53 #[ptr b] w (RM w b l (.int .i64 (Wire.done l at_ er)) (at_, Wire.done l at_ er)) := by
  have HH := Lib.hid h
  obtain ⟨v, hb, hv, -, hat⟩ := h
  obtain ⟨p, c, rfl, hc, hm, -⟩ := hv.parts
  clear hm hv
  have c0 := hb.cell (j := 0) rfl
  have c1 := hb.cell (j := 1) rfl
  have c2 := hb.cell (j := 2) rfl
  have f2 := hb.free 2
  have H := Lib.hid hb
  clear hb
  by_cases he : er = 0
  · subst he
    by_cases hlt : at_ < l.length
    · go_enter Tryz.func53, Tryz.ntmps53
      go_wp2_with fail
      go_quiet ((go_at_call 114; exact Calls.quiet_of_same (stopped_no b _ _ _ (by exact H.out))))
      go_wp2_with (go_at_call 116; refine (err_any b l at_ 5 _ ((HH.out.drewN nq).setE 5)).mono ?_; rintro e w1 ⟨rfl, hw1⟩; subst hw1)
      go_ret
      refine RM.of (v := .int .i64 5) (s := (at_, 5)) (by simp [Wire.done, hlt]) (by simp [Wire.done, hlt]) ⟨rfl, (HH.out.drewN nq).setE 5, grown_set (grown_drewN (grown_refl _ _) nq) 2 _⟩
    · go_enter Tryz.func53, Tryz.ntmps53
      go_wp2_with fail
      go_quiet ((go_at_call 114; exact Calls.quiet_of_same (stopped_no b _ _ _ (by exact H.out))))
      go_wp2_with (go_at_call 116; refine (err_any b l at_ 0 _ (HH.out.drewN nq)).mono ?_; rintro e w1 ⟨rfl, hw1⟩; subst hw1)
      go_ret
      refine RM.of (v := .int .i64 0) (s := (at_, 0)) (by simp [Wire.done, hlt]) (by simp [Wire.done, hlt]) ⟨rfl, (HH.out.drewN nq), (grown_drewN (grown_refl _ _) nq)⟩
  · have HE := Lib.hid he
    clear he
    go_enter Tryz.func53, Tryz.ntmps53
    go_wp2_with fail
    go_quiet ((go_at_call 114; exact Calls.quiet_of_same (stopped_yes b _ _ _ _ (by exact H.out) HE.out)))
    go_wp2_with (go_at_call 116; refine (err_any b l at_ er _ (HH.out.drewN nq)).mono ?_; rintro e w1 ⟨rfl, hw1⟩; subst hw1)
    go_ret
    refine RM.of (v := .int .i64 er) (s := (at_, er)) (by simp [Wire.done, HE.out]) (by simp [Wire.done, HE.out]) ⟨rfl, (HH.out.drewN nq), (grown_drewN (grown_refl _ _) nq)⟩
/-- where a byte of a slice lies -/
theorem Rd.byte {w : World} {p : Option Addr} {n c k : Nat} {l : List UInt8} (h : Rd w (.slice p n c) l) (hk : k < l.length) : ∃ b o, p = some ⟨b, o, none⟩ ∧ w.cell? ⟨b, o + k, none⟩ = some (.int .u8 ((l[k]).toNat : Int)) := by
  obtain ⟨p', c', hv, _, _, ha⟩ := h.parts
  simp only [Value.slice.injEq] at hv
  obtain ⟨rfl, -, rfl⟩ := hv
  obtain ⟨b, o, hp, ha⟩ := ha.resolve_left (by rintro rfl; simp at hk)
  exact ⟨b, o, hp, ha k hk⟩

theorem bool_at {l : List UInt8} {k : Nat} {x : UInt8} (h : k < l.length) (hx : l[k] = x) : Wire.bool l k 0 = if 1 < x.toNat then (false, k, 5) else (x.toNat == 1, k + 1, 0) := by
  unfold Wire.bool
  rw [List.drop_eq_getElem_cons h, hx]
  rfl

theorem rdr_le {w : World} {b : Nat} {l : List UInt8} {at_ : Nat} {e : Int} (h : Rdr w b l at_ e) : at_ ≤ l.length := by
  obtain ⟨_, _, _, _, hat⟩ := h; exact hat

set_option maxRecDepth 100000 in
set_option maxHeartbeats 1000000 in
theorem count_ok (b : Nat) (l : List UInt8) (at_ m : Nat) (w : World) (h : Rdr w b l at_ 0) (hm : m ≤ 9223372036854775807) (hl : l.length ≤ 9223372036854775807) (hr : (Wire.read (l.drop at_)).2.2 = 0) (hx : (Wire.read (l.drop at_)).1 ≤ m) :
    Calls Tryz.prog 115 #[ptr b, .int .i64 (m : Int)] w (RM w b l (.int .i64 ((Wire.read (l.drop at_)).1 : Int)) (at_ + (Wire.read (l.drop at_)).2.1, 0)) := by
  have HH := Lib.hid h
  have HR := Lib.hid hr
  have hn : at_ + (Wire.read (l.drop at_)).2.1 ≤ l.length := by
    have := Wire.read_le hr
    have := rdr_le h
    simp at *; omega
  have HN := Lib.hid hn
  obtain ⟨v, hb, -, -, -⟩ := h
  have c1 := hb.cell (j := 1) rfl
  have f1 := hb.free 1
  have H := Lib.hid hb
  have t0 : IntKind.u64.wrap (m : Int) = (m : Int) := by rw [IntKind.wrap_u64]; omega
  have hx9 : (Wire.read (l.drop at_)).1 ≤ 9223372036854775807 := by omega
  clear hr hb
  go_enter Tryz.func115, Tryz.ntmps115
  go_wp2_with (first
    | (go_at_call 113; refine (number_ok b l at_ _ HH.out HR.out).mono ?_; rintro e w1 ⟨rfl, n, rfl⟩)
    | (go_at_call 114; refine (stopped_no b _ _ _ (by exact H.out)).mono ?_; rintro e w' ⟨rfl, hw'⟩; subst hw'))
  go_ret
  exact ⟨rfl, by have := (HH.out.drewN n).setAt _ HN.out; simpa using this, grown_set (grown_drewN (grown_refl _ _) n) 1 _⟩

set_option maxRecDepth 100000 in
set_option maxHeartbeats 1000000 in
theorem count_long (b : Nat) (l : List UInt8) (at_ m : Nat) (w : World) (h : Rdr w b l at_ 0) (hm : m ≤ 9223372036854775807) (hr : (Wire.read (l.drop at_)).2.2 = 0) (hx : m < (Wire.read (l.drop at_)).1) :
    Calls Tryz.prog 115 #[ptr b, .int .i64 (m : Int)] w (RM w b l (.int .i64 0) (at_, 3)) := by
  have HH := Lib.hid h
  have HR := Lib.hid hr
  obtain ⟨v, hb, -, -, -⟩ := h
  have c1 := hb.cell (j := 2) rfl
  have f1 := hb.free 2
  have H := Lib.hid hb
  have t0 : IntKind.u64.wrap (m : Int) = (m : Int) := by rw [IntKind.wrap_u64]; omega
  clear hr hb
  go_enter Tryz.func115, Tryz.ntmps115
  go_wp2_with (first
    | (go_at_call 113; refine (number_ok b l at_ _ HH.out HR.out).mono ?_; rintro e w1 ⟨rfl, n, rfl⟩)
    | (go_at_call 114; refine (stopped_no b _ _ _ (by exact H.out)).mono ?_; rintro e w' ⟨rfl, hw'⟩; subst hw'))
  go_ret
  exact ⟨rfl, (HH.out.drewN n).setE 3, grown_set (grown_drewN (grown_refl _ _) n) 2 _⟩

set_option maxRecDepth 100000 in
set_option maxHeartbeats 1000000 in
theorem count_err (b : Nat) (l : List UInt8) (at_ m : Nat) (w : World) (h : Rdr w b l at_ 0) (hr : (Wire.read (l.drop at_)).2.2 ≠ 0) :
    Calls Tryz.prog 115 #[ptr b, .int .i64 (m : Int)] w (RM w b l (.int .i64 0) (at_, ((Wire.read (l.drop at_)).2.2 : Int))) := by
  have HH := Lib.hid h
  have HR := Lib.hid hr
  obtain ⟨v, hb, -, -, -⟩ := h
  have H := Lib.hid hb
  clear hr hb
  go_enter Tryz.func115, Tryz.ntmps115
  go_wp2_with (first
    | (go_at_call 113; refine (number_err b l at_ _ HH.out HR.out).mono ?_; rintro e w1 ⟨rfl, hr1, hg1⟩; have HR1 := Lib.hid hr1; have HG1 := Lib.hid hg1; clear hr1 hg1 H)
    | (go_at_call 114; refine (stopped_no b _ _ _ (by exact H.out)).mono ?_; rintro e w' ⟨rfl, hw'⟩; subst hw')
    | (go_at_call 114; refine (stopped_yes b HR1.out.choose _ _ _ HR1.out.choose_spec.1 (by have := HR.out; omega)).mono ?_; rintro e w' ⟨rfl, rfl⟩))
  go_ret
  exact ⟨rfl, HR1.out, HG1.out⟩

set_option maxRecDepth 100000 in
set_option maxHeartbeats 1000000 in
theorem count_neg (b : Nat) (l : List UInt8) (at_ : Nat) (m : Int) (w : World) (h : Rdr w b l at_ 0) (hm : m < 0) :
    Calls Tryz.prog 115 #[ptr b, .int .i64 m] w (RM w b l (.int .i64 0) (at_, 2)) := by
  have HH := Lib.hid h
  obtain ⟨v, hb, -, -, -⟩ := h
  have c2 := hb.cell (j := 2) rfl
  have f2 := hb.free 2
  have H := Lib.hid hb
  clear hb
  go_enter Tryz.func115, Tryz.ntmps115
  go_wp2_with (go_at_call 114; refine (stopped_no b _ _ _ (by exact H.out)).mono ?_; rintro e w' ⟨rfl, hw'⟩; subst hw')
  go_ret
  exact ⟨rfl, HH.out.setE 2, grown_set (grown_refl _ _) 2 _⟩

set_option maxRecDepth 100000 in
set_option maxHeartbeats 1000000 in
theorem count_stop (b : Nat) (l : List UInt8) (at_ : Nat) (m e : Int) (w : World) (h : Rdr w b l at_ e) (he : e ≠ 0) :
    Calls Tryz.prog 115 #[ptr b, .int .i64 m] w (RM w b l (.int .i64 0) (at_, e)) := by
  have HH := Lib.hid h
  obtain ⟨v, hb, -, -, -⟩ := h
  have H := Lib.hid hb
  have HE := Lib.hid he
  clear hb he
  go_enter Tryz.func115, Tryz.ntmps115
  go_wp2_with (go_at_call 114; refine (stopped_yes b _ _ _ _ H.out HE.out).mono ?_; rintro e w' ⟨rfl, rfl⟩)
  go_ret
  exact ⟨rfl, HH.out, grown_refl _ _⟩

theorem count_any (b : Nat) (l : List UInt8) (at_ : Nat) (m e : Int) (w : World) (h : Rdr w b l at_ e) (hl : l.length ≤ 9223372036854775807) (hm : m ≤ 9223372036854775807) :
    Calls Tryz.prog 115 #[ptr b, .int .i64 m] w (RM w b l (.int .i64 (Wire.count l at_ e m).1) (Wire.count l at_ e m).2) := by
  by_cases he : e = 0
  · subst he
    by_cases hm0 : m < 0
    · exact (count_neg b l at_ m w h hm0).mono fun _ _ h => h.of (by simp [Wire.count, hm0]) (by simp [Wire.count, hm0])
    · obtain ⟨k, rfl⟩ := Int.eq_ofNat_of_zero_le (show 0 ≤ m by omega)
      by_cases hr : (Wire.read (l.drop at_)).2.2 = 0
      · by_cases hx : (Wire.read (l.drop at_)).1 ≤ k
        · exact (count_ok b l at_ k w h (by omega) hl hr hx).mono fun _ _ h => h.of (by simp [Wire.count, hr, hm0, Nat.not_lt.2 hx]) (by simp [Wire.count, hr, hm0, Nat.not_lt.2 hx])
        · exact (count_long b l at_ k w h (by omega) hr (by omega)).mono fun _ _ h => h.of (by simp [Wire.count, hr, hm0, Nat.lt_of_not_le hx]) (by simp [Wire.count, hr, hm0, Nat.lt_of_not_le hx])
      · exact (count_err b l at_ k w h hr).mono fun _ _ h => h.of (by simp [Wire.count, hr, hm0]) (by simp [Wire.count, hr, hm0])
  · exact (count_stop b l at_ m e w h he).mono fun _ _ h => h.of (by simp [Wire.count, he]) (by simp [Wire.count, he])
end Go.Proofs.YtopkfomlppnpeaaGreatDoor
