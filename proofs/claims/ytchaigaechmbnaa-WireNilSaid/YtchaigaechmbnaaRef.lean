/- the document's reader, call by call -/
import Derived.Test.YtchaigaechmbnaaRdr2
import Derived.Test.YtchaigaechmbnaaRefRead
namespace Go.Proofs.Ytchaigaechmbnaa
open Go.RowKit

/-- block b is a reader of the document's -/
def RRdr (w : World) (b : Nat) (l : List UInt8) (at_ : Nat) (e : Int) : Prop :=
  ∃ v, Blk w b [v, .int .i64 (at_ : Int), .int .i64 e] 48 ∧ Rd w v l ∧ (l ≠ [] → ∀ c, v.ownBlock = some c → c + 1 < b) ∧ at_ ≤ l.length

theorem apart_of1 {v : Value} {b : Nat} {l : List UInt8} (h : l ≠ [] → ∀ c, v.ownBlock = some c → c + 1 < b) : l ≠ [] → v.ownBlock ≠ some b := fun hl e => by have := h hl b e; omega

theorem RRdr.setE {w : World} {b : Nat} {l : List UInt8} {at_ : Nat} {e : Int} (h : RRdr w b l at_ e) (e' : Int) : RRdr (w.setCell ⟨b, 2, none⟩ (.int .i64 e')) b l at_ e' := by
  obtain ⟨v, hb, hv, hown, hat⟩ := h
  refine ⟨v, hb.set 2 _, hv.grownA (grown_set (grown_refl w (some b)) 2 _) (apart_of1 hown), hown, hat⟩
theorem RRdr.setAt {w : World} {b : Nat} {l : List UInt8} {at_ : Nat} {e : Int} (h : RRdr w b l at_ e) (a' : Nat) (ha : a' ≤ l.length) : RRdr (w.setCell ⟨b, 1, none⟩ (.int .i64 (a' : Int))) b l a' e := by
  obtain ⟨v, hb, hv, hown, hat⟩ := h
  refine ⟨v, hb.set 1 _, hv.grownA (grown_set (grown_refl w (some b)) 1 _) (apart_of1 hown), hown, ha⟩
theorem RRdr.drewN {w : World} {b : Nat} {l : List UInt8} {at_ : Nat} {e : Int} (h : RRdr w b l at_ e) (n : Nat) : RRdr (w.drewN n) b l at_ e := by
  obtain ⟨v, hb, hv, hown, hat⟩ := h
  exact ⟨v, hb, hv.grown (grown_drewN (grown_refl w none) n) (by cases v.ownBlock <;> simp), hown, hat⟩
theorem rrdr_le {w : World} {b : Nat} {l : List UInt8} {at_ : Nat} {e : Int} (h : RRdr w b l at_ e) : at_ ≤ l.length := by
  obtain ⟨_, _, _, _, hat⟩ := h; exact hat

def RRM (w : World) (b : Nat) (l : List UInt8) (v : Value) (s : Nat × Int) (e : Ending) (w' : World) : Prop := e = .returned v ∧ RRdr w' b l s.1 s.2 ∧ w.grownBy w' (some b)
theorem RRM.of {w : World} {b : Nat} {l : List UInt8} {v v' : Value} {s s' : Nat × Int} (hv : v = v') (hs : s = s') {e : Ending} {w' : World} (h : RRM w b l v s e w') : RRM w b l v' s' e w' := by
  subst hv hs; exact h

set_option maxRecDepth 100000 in
set_option maxHeartbeats 1000000 in
theorem ruint_stop (b : Nat) (l : List UInt8) (at_ : Nat) (e : Int) (w : World) (h : RRdr w b l at_ e) (he : e ≠ 0) :
    Calls Try.prog 33 #[ptr b] w (RRM w b l (.int .u64 0) (at_, e)) := by
  have HH := Lib.hid h
  obtain ⟨v, hb, -, -, -⟩ := h
  have c2 := hb.cell (j := 2) rfl
  have t1 : (e != 0) = true := by simpa using he
  clear hb he
  go_enter Try.func33, Try.ntmps33
  go_wp2
  go_ret
  exact ⟨rfl, HH.out, grown_refl _ _⟩

set_option maxRecDepth 100000 in
set_option maxHeartbeats 1000000 in
theorem ruint_go (b : Nat) (l : List UInt8) (at_ : Nat) (w : World) (h : RRdr w b l at_ 0) (hl : l.length ≤ 9223372036854775807) (hn : at_ + (Wire.read (l.drop at_)).2.1 ≤ l.length) :
    Calls Try.prog 33 #[ptr b] w (RRM w b l (.int .u64 ((Wire.read (l.drop at_)).1 : Int)) (at_ + (Wire.read (l.drop at_)).2.1, ((Wire.read (l.drop at_)).2.2 : Int))) := by
  have HH := Lib.hid h
  obtain ⟨v, hb, hv, hown, hat⟩ := h
  obtain ⟨p, c, rfl, hc, hm, -⟩ := hv.parts
  have c0 := hb.cell (j := 0) rfl
  have c1 := hb.cell (j := 1) rfl
  have c2 := hb.cell (j := 2) rfl
  have f1 := hb.free 1
  have f2 := hb.free 2
  have HV := Lib.hid hv
  clear hb hv hown hm
  go_enter Try.func33, Try.ntmps33
  go_wp2
  go_quiet ((go_at_call 13; exact Calls.quiet_of (refRead_any _ (l.drop at_) _ (rd_cut HV.out hat))))
  generalize (if c = at_ then p else Option.map (fun x => x.add at_) p) = pp
  go_wp2
  go_ret
  exact ⟨rfl, by have := ((HH.out.drewN nq).setE ((Wire.read (l.drop at_)).2.2 : Int)).setAt _ hn; simpa using this, grown_set (grown_set (grown_drewN (grown_refl _ _) _) 2 _) 1 _⟩

theorem ruint_any (b : Nat) (l : List UInt8) (at_ : Nat) (e : Int) (w : World) (h : RRdr w b l at_ e) (hl : l.length ≤ 9223372036854775807) :
    Calls Try.prog 33 #[ptr b] w (RRM w b l (.int .u64 ((Wire.uint l at_ e).1 : Int)) (Wire.uint l at_ e).2) := by
  by_cases he : e = 0
  · subst he
    have hat := rrdr_le h
    by_cases hr : (Wire.read (l.drop at_)).2.2 = 0
    · exact (ruint_go b l at_ w h hl (by have := Wire.read_le hr; simp at this; omega)).mono fun _ _ h => h.of (by simp [Wire.uint, hr]) (by simp [Wire.uint, hr])
    · have h2 := Wire.read_err hr
      exact (ruint_go b l at_ w h hl (by omega)).mono fun _ _ h => h.of (by simp [Wire.uint, hr, h2.1]) (by simp [Wire.uint, hr, h2.2])
  · exact (ruint_stop b l at_ e w h he).mono fun _ _ h => h.of (by simp [Wire.uint, he]) (by simp [Wire.uint, he])

set_option maxRecDepth 100000 in
set_option maxHeartbeats 1000000 in
theorem rint_any (b : Nat) (l : List UInt8) (at_ : Nat) (e : Int) (w : World) (h : RRdr w b l at_ e) (hl : l.length ≤ 9223372036854775807) :
    Calls Try.prog 34 #[ptr b] w (RRM w b l (.int .i64 (Wire.int l at_ e).1) (Wire.int l at_ e).2) := by
  have HH := Lib.hid h
  have hx := uint_lt l at_ e
  have hz : Wire.int l at_ e = (Wire.unzig (Wire.uint l at_ e).1, (Wire.uint l at_ e).2) := rfl
  have HU := Lib.hid (ruint_any b l at_ e w h hl)
  clear h
  rw [hz]
  clear hz
  have hm : ∀ x : Nat, x % 2 = 0 → Wire.unzig x = ((x / 2 : Nat) : Int) := fun x h => by simp [Wire.unzig, h]
  have hn : ∀ x : Nat, ¬ x % 2 = 0 → Wire.unzig x = -((x / 2 : Nat) : Int) - 1 := fun x h => by simp [Wire.unzig, h]
  have HM := Lib.hid hm
  have HN := Lib.hid hn
  clear hm hn
  generalize Wire.uint l at_ e = r at *
  obtain ⟨x, s⟩ := r
  simp only at *
  have hx2 : x / 2 < 9223372036854775808 := by omega
  have s0 : IntKind.u64.wrap ((x : Int) / 2) = (x : Int) / 2 := by rw [IntKind.wrap_u64]; omega
  have s1 : wrap64 ((x : Int) / 2) = (x : Int) / 2 := by unfold wrap64; omega
  have s2 : wrap64 (-((x : Int) / 2)) = -((x : Int) / 2) := by unfold wrap64; omega
  have s3 : wrap64 (-((x : Int) / 2) - 1) = -((x : Int) / 2) - 1 := by unfold wrap64; omega
  have HX := Lib.hid hx
  clear hx hx2
  by_cases hp : x % 2 = 0
  · have t1 : ((x : Int) % 2 == 0) = true := by rw [beq_iff_eq]; omega
    have HP := Lib.hid hp
    clear hp
    go_enter Try.func34, Try.ntmps34
    go_wp2_with (go_at_call 33; refine HU.out.mono ?_; rintro e w1 ⟨rfl, hr1, hg1⟩; have HR1 := Lib.hid hr1; have HG1 := Lib.hid hg1; clear hr1 hg1)
    go_ret
    exact RRM.of (v := .int .i64 ((x : Int) / 2)) (by rw [HM.out x HP.out]; simp) rfl ⟨ret_int s1, HR1.out, HG1.out⟩
  · have t1 : ((x : Int) % 2 == 0) = false := by rw [beq_eq_false_iff_ne]; omega
    have HP := Lib.hid hp
    clear hp
    go_enter Try.func34, Try.ntmps34
    go_wp2_with (go_at_call 33; refine HU.out.mono ?_; rintro e w1 ⟨rfl, hr1, hg1⟩; have HR1 := Lib.hid hr1; have HG1 := Lib.hid hg1; clear hr1 hg1)
    go_ret
    exact RRM.of (v := .int .i64 (-((x : Int) / 2) - 1)) (by rw [HN.out x HP.out]; simp) rfl ⟨ret_int s3, HR1.out, HG1.out⟩

set_option maxRecDepth 100000 in
set_option maxHeartbeats 1000000 in
theorem rfail_any (b : Nat) (l : List UInt8) (at_ : Nat) (er k : Int) (w : World) (h : RRdr w b l at_ er) :
    Calls Try.prog 40 #[ptr b, .int .i64 k] w (RRM w b l (.tuple #[]) (at_, Wire.fail er k)) := by
  have HH := Lib.hid h
  obtain ⟨v, hb, -, -, -⟩ := h
  have c2 := hb.cell (j := 2) rfl
  have f2 := hb.free 2
  clear hb
  by_cases he : er = 0
  · subst he
    go_enter Try.func40, Try.ntmps40
    go_wp2
    go_end0
    exact ⟨rfl, HH.out.setE _, grown_set (grown_refl _ _) 2 _⟩
  · have HE := Lib.hid he
    have t1 : (er == 0) = false := by simpa using he
    clear he
    go_enter Try.func40, Try.ntmps40
    go_wp2
    go_end0
    exact RRM.of (s := (at_, er)) rfl (by simp [Wire.fail, HE.out]) ⟨rfl, HH.out, grown_refl _ _⟩

set_option maxRecDepth 100000 in
set_option maxHeartbeats 1000000 in
theorem rdone_any (b : Nat) (l : List UInt8) (at_ : Nat) (er : Int) (w : World) (h : RRdr w b l at_ er) :
    Calls Try.prog 41 #[ptr b] w (RRM w b l (.int .i64 (Wire.done l at_ er)) (at_, Wire.done l at_ er)) := by
  have HH := Lib.hid h
  obtain ⟨v, hb, hv, -, hat⟩ := h
  obtain ⟨p, c, rfl, hc, hm, -⟩ := hv.parts
  clear hm hv
  have c0 := hb.cell (j := 0) rfl
  have c1 := hb.cell (j := 1) rfl
  have c2 := hb.cell (j := 2) rfl
  clear hb
  by_cases hlt : at_ < l.length
  · go_enter Try.func41, Try.ntmps41
    go_wp2
    go_quiet (fail)
    go_wp2_with (go_at_call 40; refine (rfail_any b l at_ er 5 _ (HH.out.drewN nq)).mono ?_; rintro e w1 ⟨rfl, hr1, hg1⟩; have c3 : w1.cell? ⟨b, 2, none⟩ = some (.int .i64 (Wire.fail er 5)) := hr1.choose_spec.1.cell (j := 2) rfl; have HR1 := Lib.hid hr1; have HG1 := Lib.hid hg1; clear hr1 hg1)
    go_ret
    have e1 : Wire.fail er 5 = Wire.done l at_ er := by
      unfold Wire.fail Wire.done
      by_cases he : er = 0 <;> simp [he, hlt]
    refine RRM.of (v := .int .i64 (Wire.fail er 5)) (s := (at_, Wire.fail er 5)) (by rw [e1]) (by rw [e1]) ⟨rfl, HR1.out, grown_trans (grown_drewN (grown_refl _ _) nq) HG1.out⟩
  · go_enter Try.func41, Try.ntmps41
    go_wp2
    go_quiet (fail)
    go_wp2
    go_ret
    exact RRM.of (v := .int .i64 er) (s := (at_, er)) (by simp [Wire.done, hlt]) (by simp [Wire.done, hlt]) ⟨rfl, (HH.out.drewN nq), (grown_drewN (grown_refl _ _) nq)⟩

end Go.Proofs.Ytchaigaechmbnaa
