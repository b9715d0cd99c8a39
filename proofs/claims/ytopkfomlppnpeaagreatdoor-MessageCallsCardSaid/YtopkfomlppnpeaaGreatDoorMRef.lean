/- , laid together: RefRead, Ref, Ref2. -/
import Derived.Test.YtopkfomlppnpeaaGreatDoorMRdr
namespace Go.Proofs.YtopkfomlppnpeaaGreatDoor
open Go.RowKit

theorem or_step2 {z m k : Nat} (hm : m < 256) (hz : z < 2 ^ (7 * k)) (hk : k ≤ 9) (h9 : k = 9 → m = 1) :
    bits .or .u64 (z : Int) (IntKind.u64.wrap ((m : Int) % 128 * 2 ^ (7 * k))) = ((z + m % 128 * 2 ^ (7 * k) : Nat) : Int) := by
  rw [← Wire.or_step hm hz hk h9]
  have e1 : bits .and .u8 (m : Int) 127 = ((m % 128 : Nat) : Int) := by
    have := u8_and_nat m 127 hm (by omega)
    rw [nat_mask7] at this
    exact this
  rw [e1]
  have e3 : IntKind.u64.wrap ((m % 128 : Nat) : Int) = ((m % 128 : Nat) : Int) := by rw [IntKind.wrap_u64, Int.emod_eq_of_lt (by omega) (by omega)]
  rw [e3]
  simp

set_option maxRecDepth 100000 in
set_option maxHeartbeats 1000000 in
theorem refRead_any (v : Value) (l : List UInt8) (w : World) (h1 : Rd w v l) :
    Calls Tryz.prog 132 #[v] w fun e w' => e = .returned (.tuple #[.int .u64 ((Wire.read l).1 : Int), .int .i64 ((Wire.read l).2.1 : Int), .int .i64 ((Wire.read l).2.2 : Int)]) ∧ ∃ n, w' = w.drewN n := by
  obtain ⟨p1, c1, rfl, hc1, hm1, ha1⟩ := h1.parts
  unfold maxLen at hm1
  go_enter Tryz.func132, Tryz.ntmps132
  go_wp2
  go_loopw [5, 6] (fun x i w' => ∃ k q z : Nat, k ≤ l.length ∧ k ≤ 9 ∧ i = .int .i64 k ∧ x = .int .u64 z ∧ Hid (z < 2 ^ (7 * k)) ∧ w' = w.drewN q ∧ Hid (Wire.read l = Wire.dec (l.drop k) k z)) (fun _ i _ => l.length - (intOf i).toNat)
  case atStart => exact ⟨0, 0, 0, Nat.zero_le _, by omega, rfl, rfl, (by decide : 0 < 2 ^ (7 * 0)), rfl, rfl⟩
  case round =>
    obtain ⟨k, q, z, hk, hk9, rfl, rfl, hz, rfl, he⟩ := hrel
    by_cases hlt : k < l.length
    · obtain ⟨b1, o1, rfl, a1⟩ := ha1.resolve_left (by rintro rfl; simp at hlt)
      have e1 := a1 k hlt
      clear a1 ha1
      generalize hx : l[k] = x at e1
      have HX := Lib.hid hx
      have hm := x.toNat_lt
      generalize hxm : x.toNat = m at e1 hm
      have HM := Lib.hid hxm
      clear hx hxm
      by_cases c9 : k = 9
      · have t1 : ((k : Int) == 9) = true := by rw [beq_iff_eq]; omega
        by_cases cx : m = 1
        · have t2 : ((m : Int) != 1) = false := by rw [bne_eq_false_iff_eq]; omega
          have t3 : ((m : Int) < 128) := by omega
          have t4 : ((m : Int) == 0) = false := by rw [beq_eq_false_iff_ne]; omega
          have H1 := Lib.hid c9
          have H2 := Lib.hid cx
          clear c9 cx
          go_wp2
          go_ret3
          refine ⟨?_, q, rfl⟩
          rw [or_step2 hm hz.out hk9 (fun _ => H2.out)]
          have h3 := he.out.trans (Wire.dec_end hlt HX.out (by rw [HM.out, H2.out]; omega) (by rw [HM.out, H2.out]; omega) (by rw [HM.out, H2.out]; omega))
          rw [HM.out] at h3
          exact (read3 h3).symm
        · have t2 : ((m : Int) != 1) = true := by rw [bne_iff_ne]; omega
          have H1 := Lib.hid c9
          have H2 := Lib.hid cx
          clear c9 cx
          go_wp2
          go_ret3
          exact ⟨(read3 (he.out.trans (Wire.dec_bad hlt HX.out (.inl ⟨H1.out, by rw [HM.out]; exact H2.out⟩)))).symm, q, rfl⟩
      · have t1 : ((k : Int) == 9) = false := by rw [beq_eq_false_iff_ne]; omega
        have H1 := Lib.hid c9
        by_cases c1 : 128 ≤ m
        · have t3 : ¬ ((m : Int) < 128) := by omega
          have H3 := Lib.hid c1
          have hk8 : k ≤ 8 := by omega
          clear c9 c1
          go_wp2
          go_roundw
          case rel =>
            refine ⟨k + 1, q, z + m % 128 * 2 ^ (7 * k), by omega, by omega, by go_num, ?_, Wire.step_lt hz.out, rfl, ?_⟩
            · rw [or_step2 hm hz.out hk9 (fun h => absurd h H1.out)]
            · have h3 := he.out.trans (Wire.dec_more hlt HX.out H1.out (by rw [HM.out]; exact H3.out))
              rw [HM.out] at h3
              exact h3
          case measure => simp [intOf]; omega
        · have t3 : ((m : Int) < 128) := by omega
          have H3 := Lib.hid c1
          clear c9 c1
          by_cases c0 : m = 0
          · have t4 : ((m : Int) == 0) = true := by rw [beq_iff_eq]; omega
            by_cases ck : 0 < k
            · have t5 : decide (0 < (k : Int)) = true := by simp; omega
              have H4 := Lib.hid c0
              clear c0
              go_wp2
              go_ret3
              exact ⟨(read3 (he.out.trans (Wire.dec_bad hlt HX.out (.inr ⟨by rw [HM.out]; exact H4.out, ck⟩)))).symm, q, rfl⟩
            · have t5 : decide (0 < (k : Int)) = false := by simp; omega
              have H4 := Lib.hid c0
              have H5 := Lib.hid ck
              clear c0 ck
              go_wp2
              go_ret3
              refine ⟨?_, q, rfl⟩
              rw [or_step2 hm hz.out hk9 (fun h => absurd h H1.out)]
              have h3 := he.out.trans (Wire.dec_end hlt HX.out (fun h => H1.out h.1) (by rw [HM.out]; have := H3.out; omega) (fun h => H5.out h.2))
              rw [HM.out] at h3
              exact (read3 h3).symm
          · have t4 : ((m : Int) == 0) = false := by rw [beq_eq_false_iff_ne]; omega
            have H4 := Lib.hid c0
            clear c0
            go_wp2
            go_ret3
            refine ⟨?_, q, rfl⟩
            rw [or_step2 hm hz.out hk9 (fun h => absurd h H1.out)]
            have h3 := he.out.trans (Wire.dec_end hlt HX.out (fun h => H1.out h.1) (by rw [HM.out]; have := H3.out; omega) (fun h => H4.out (HM.out ▸ h.1)))
            rw [HM.out] at h3
            exact (read3 h3).symm
    · have he' : Wire.read l = (0, 0, 4) := by
        rw [he.out, List.drop_eq_nil_of_le (by omega)]; rfl
      have HE := Lib.hid he'
      clear he'
      go_wp2
      go_ret3
      exact ⟨(read3 HE.out).symm, q, rfl⟩
end Go.Proofs.YtopkfomlppnpeaaGreatDoor

namespace Go.Proofs.YtopkfomlppnpeaaGreatDoor
open Go.RowKit

/-- block b is a reader of the document's -/
def RRdr (w : World) (b : Nat) (l : List UInt8) (at_ : Nat) (e : Int) : Prop :=
  ∃ v, Blk w b [v, .int .i64 (at_ : Int), .int .i64 e] 146 ∧ Rd w v l ∧ (l ≠ [] → ∀ c, v.ownBlock = some c → c + 1 < b) ∧ at_ ≤ l.length

theorem apart_of1 {v : Value} {b : Nat} {l : List UInt8} (h : l ≠ [] → ∀ c, v.ownBlock = some c → c + 1 < b) : l ≠ [] → v.ownBlock ≠ some b := fun hl e => by have := h hl b e; omega

theorem RRdr.setE {w : World} {b : Nat} {l : List UInt8} {at_ : Nat} {e : Int} (h : RRdr w b l at_ e) (e' : Int) : RRdr (w.setCell ⟨b, 2, none⟩ (.int .i64 e')) b l at_ e' := by
  obtain ⟨v, hb, hv, hown, hat⟩ := h
  refine ⟨v, hb.set 2 _, hv.grownA (grown_set (grown_refl w (some b)) 2 _) (apart_of1 hown), hown, hat⟩
theorem RRdr.setAt {w : World} {b : Nat} {l : List UInt8} {at_ : Nat} {e : Int} (h : RRdr w b l at_ e) (a' : Nat) (ha : a' ≤ l.length) : RRdr (w.setCell ⟨b, 1, none⟩ (.int .i64 (a' : Int))) b l a' e := by
  obtain ⟨v, hb, hv, hown, hat⟩ := h
  refine ⟨v, hb.set 1 _, hv.grownA (grown_set (grown_refl w (some b)) 1 _) (apart_of1 hown), hown, ha⟩
theorem RRdr.drewN {w : World} {b : Nat} {l : List UInt8} {at_ : Nat} {e : Int} (h : RRdr w b l at_ e) (n : Nat) : RRdr (w.drewN n) b l at_ e := by
  obtain ⟨v, hb, hv, hown, hat⟩ := h
  exact ⟨v, hb, hv.grown (grown_drewN (grown_refl w none) n) (by cases v.ownBlock <;> simp), hown, hat⟩
theorem rrdr_le {w : World} {b : Nat} {l : List UInt8} {at_ : Nat} {e : Int} (h : RRdr w b l at_ e) : at_ ≤ l.length := by
  obtain ⟨_, _, _, _, hat⟩ := h; exact hat

def RRM (w : World) (b : Nat) (l : List UInt8) (v : Value) (s : Nat × Int) (e : Ending) (w' : World) : Prop := e = .returned v ∧ RRdr w' b l s.1 s.2 ∧ w.grownBy w' (some b)
theorem RRM.of {w : World} {b : Nat} {l : List UInt8} {v v' : Value} {s s' : Nat × Int} (hv : v = v') (hs : s = s') {e : Ending} {w' : World} (h : RRM w b l v s e w') : RRM w b l v' s' e w' := by
  subst hv hs; exact h

set_option maxRecDepth 100000 in
set_option maxHeartbeats 1000000 in
theorem ruint_stop (b : Nat) (l : List UInt8) (at_ : Nat) (e : Int) (w : World) (h : RRdr w b l at_ e) (he : e ≠ 0) :
    Calls Tryz.prog 98 #[ptr b] w (RRM w b l (.int .u64 0) (at_, e)) := by
  have HH := Lib.hid h
  obtain ⟨v, hb, -, -, -⟩ := h
  have c2 := hb.cell (j := 2) rfl
  have t1 : (e != 0) = true := by simpa using he
  clear hb he
  go_enter Tryz.func98, Tryz.ntmps98
  go_wp2
  go_ret
  exact ⟨rfl, HH.out, grown_refl _ _⟩

set_option maxRecDepth 100000 in
set_option maxHeartbeats 1000000 in
theorem ruint_go (b : Nat) (l : List UInt8) (at_ : Nat) (w : World) (h : RRdr w b l at_ 0) (hl : l.length ≤ 9223372036854775807) (hn : at_ + (Wire.read (l.drop at_)).2.1 ≤ l.length) :
    Calls Tryz.prog 98 #[ptr b] w (RRM w b l (.int .u64 ((Wire.read (l.drop at_)).1 : Int)) (at_ + (Wire.read (l.drop at_)).2.1, ((Wire.read (l.drop at_)).2.2 : Int))) := by
  have HH := Lib.hid h
  obtain ⟨v, hb, hv, hown, hat⟩ := h
  obtain ⟨p, c, rfl, hc, hm, -⟩ := hv.parts
  have c0 := hb.cell (j := 0) rfl
  have c1 := hb.cell (j := 1) rfl
  have c2 := hb.cell (j := 2) rfl
  have f1 := hb.free 1
  have f2 := hb.free 2
  have HV := Lib.hid hv
  clear hb hv hown hm
  go_enter Tryz.func98, Tryz.ntmps98
  go_wp2
  go_quiet ((go_at_call 132; exact Calls.quiet_of (refRead_any _ (l.drop at_) _ (rd_cut HV.out hat))))
  generalize (if c = at_ then p else Option.map (fun x => x.add at_) p) = pp
  go_wp2
  go_ret
  exact ⟨rfl, by have := ((HH.out.drewN nq).setE ((Wire.read (l.drop at_)).2.2 : Int)).setAt _ hn; simpa using this, grown_set (grown_set (grown_drewN (grown_refl _ _) _) 2 _) 1 _⟩

theorem ruint_any (b : Nat) (l : List UInt8) (at_ : Nat) (e : Int) (w : World) (h : RRdr w b l at_ e) (hl : l.length ≤ 9223372036854775807) :
    Calls Tryz.prog 98 #[ptr b] w (RRM w b l (.int .u64 ((Wire.uint l at_ e).1 : Int)) (Wire.uint l at_ e).2) := by
  by_cases he : e = 0
  · subst he
    have hat := rrdr_le h
    by_cases hr : (Wire.read (l.drop at_)).2.2 = 0
    · exact (ruint_go b l at_ w h hl (by have := Wire.read_le hr; simp at this; omega)).mono fun _ _ h => h.of (by simp [Wire.uint, hr]) (by simp [Wire.uint, hr])
    · have h2 := Wire.read_err hr
      exact (ruint_go b l at_ w h hl (by omega)).mono fun _ _ h => h.of (by simp [Wire.uint, hr, h2.1]) (by simp [Wire.uint, hr, h2.2])
  · exact (ruint_stop b l at_ e w h he).mono fun _ _ h => h.of (by simp [Wire.uint, he]) (by simp [Wire.uint, he])

set_option maxRecDepth 100000 in
set_option maxHeartbeats 1000000 in
theorem rint_any (b : Nat) (l : List UInt8) (at_ : Nat) (e : Int) (w : World) (h : RRdr w b l at_ e) (hl : l.length ≤ 9223372036854775807) :
    Calls Tryz.prog 99 #[ptr b] w (RRM w b l (.int .i64 (Wire.int l at_ e).1) (Wire.int l at_ e).2) := by
  have HH := Lib.hid h
  have hx := uint_lt l at_ e
  have hz : Wire.int l at_ e = (Wire.unzig (Wire.uint l at_ e).1, (Wire.uint l at_ e).2) := rfl
  have HU := Lib.hid (ruint_any b l at_ e w h hl)
  clear h
  rw [hz]
  clear hz
  have hm : ∀ x : Nat, x % 2 = 0 → Wire.unzig x = ((x / 2 : Nat) : Int) := fun x h => by simp [Wire.unzig, h]
  have hn : ∀ x : Nat, ¬ x % 2 = 0 → Wire.unzig x = -((x / 2 : Nat) : Int) - 1 := fun x h => by simp [Wire.unzig, h]
  have HM := Lib.hid hm
  have HN := Lib.hid hn
  clear hm hn
  generalize Wire.uint l at_ e = r at *
  obtain ⟨x, s⟩ := r
  simp only at *
  have hx2 : x / 2 < 9223372036854775808 := by omega
  have s0 : IntKind.u64.wrap ((x : Int) / 2) = (x : Int) / 2 := by rw [IntKind.wrap_u64]; omega
  have s1 : wrap64 ((x : Int) / 2) = (x : Int) / 2 := by unfold wrap64; omega
  have s2 : wrap64 (-((x : Int) / 2)) = -((x : Int) / 2) := by unfold wrap64; omega
  have s3 : wrap64 (-((x : Int) / 2) - 1) = -((x : Int) / 2) - 1 := by unfold wrap64; omega
  have HX := Lib.hid hx
  clear hx hx2
  by_cases hp : x % 2 = 0
  · have t1 : ((x : Int) % 2 == 0) = true := by rw [beq_iff_eq]; omega
    have HP := Lib.hid hp
    clear hp
    go_enter Tryz.func99, Tryz.ntmps99
    go_wp2_with (go_at_call 98; refine HU.out.mono ?_; rintro e w1 ⟨rfl, hr1, hg1⟩; have HR1 := Lib.hid hr1; have HG1 := Lib.hid hg1; clear hr1 hg1)
    go_ret
    exact RRM.of (v := .int .i64 ((x : Int) / 2)) (by rw [HM.out x HP.out]; simp) rfl ⟨ret_int s1, HR1.out, HG1.out⟩
  · have t1 : ((x : Int) % 2 == 0) = false := by rw [beq_eq_false_iff_ne]; omega
    have HP := Lib.hid hp
    clear hp
    go_enter Tryz.func99, Tryz.ntmps99
    go_wp2_with (go_at_call 98; refine HU.out.mono ?_; rintro e w1 ⟨rfl, hr1, hg1⟩; have HR1 := Lib.hid hr1; have HG1 := Lib.hid hg1; clear hr1 hg1)
    go_ret
    exact RRM.of (v := .int .i64 (-((x : Int) / 2) - 1)) (by rw [HN.out x HP.out]; simp) rfl ⟨ret_int s3, HR1.out, HG1.out⟩

set_option maxRecDepth 100000 in
set_option maxHeartbeats 1000000 in
theorem rfail_any (b : Nat) (l : List UInt8) (at_ : Nat) (er k : Int) (w : World) (h : RRdr w b l at_ er) :
    Calls Tryz.prog 133 #[ptr b, .int .i64 k] w (RRM w b l (.tuple #[]) (at_, Wire.fail er k)) := by
  have HH := Lib.hid h
  obtain ⟨v, hb, -, -, -⟩ := h
  have c2 := hb.cell (j := 2) rfl
  have f2 := hb.free 2
  clear hb
  by_cases he : er = 0
  · subst he
    go_enter Tryz.func133, Tryz.ntmps133
    go_wp2
    go_end0
    exact ⟨rfl, HH.out.setE _, grown_set (grown_refl _ _) 2 _⟩
  · have HE := Lib.hid he
    have t1 : (er == 0) = false := by simpa using he
    clear he
    go_enter Tryz.func133, Tryz.ntmps133
    go_wp2
    go_end0
    exact RRM.of (s := (at_, er)) rfl (by simp [Wire.fail, HE.out]) ⟨rfl, HH.out, grown_refl _ _⟩

set_option maxRecDepth 100000 in
set_option maxHeartbeats 1000000 in
theorem rdone_any (b : Nat) (l : List UInt8) (at_ : Nat) (er : Int) (w : World) (h : RRdr w b l at_ er) :
    Calls Tryz.prog 105 #[ptr b] w (RRM w b l (.int .i64 (Wire.done l at_ er)) (at_, Wire.done l at_ er)) := by
  have HH := Lib.hid h
  obtain ⟨v, hb, hv, -, hat⟩ := h
  obtain ⟨p, c, rfl, hc, hm, -⟩ := hv.parts
  clear hm hv
  have c0 := hb.cell (j := 0) rfl
  have c1 := hb.cell (j := 1) rfl
  have c2 := hb.cell (j := 2) rfl
  clear hb
  by_cases hlt : at_ < l.length
  · go_enter Tryz.func105, Tryz.ntmps105
    go_wp2
    go_quiet (fail)
    go_wp2_with (go_at_call 133; refine (rfail_any b l at_ er 5 _ (HH.out.drewN nq)).mono ?_; rintro e w1 ⟨rfl, hr1, hg1⟩; have c3 : w1.cell? ⟨b, 2, none⟩ = some (.int .i64 (Wire.fail er 5)) := hr1.choose_spec.1.cell (j := 2) rfl; have HR1 := Lib.hid hr1; have HG1 := Lib.hid hg1; clear hr1 hg1)
    go_ret
    have e1 : Wire.fail er 5 = Wire.done l at_ er := by
      unfold Wire.fail Wire.done
      by_cases he : er = 0 <;> simp [he, hlt]
    refine RRM.of (v := .int .i64 (Wire.fail er 5)) (s := (at_, Wire.fail er 5)) (by rw [e1]) (by rw [e1]) ⟨rfl, HR1.out, grown_trans (grown_drewN (grown_refl _ _) nq) HG1.out⟩
  · go_enter Tryz.func105, Tryz.ntmps105
    go_wp2
    go_quiet (fail)
    go_wp2
    go_ret
    exact RRM.of (v := .int .i64 er) (s := (at_, er)) (by simp [Wire.done, hlt]) (by simp [Wire.done, hlt]) ⟨rfl, (HH.out.drewN nq), (grown_drewN (grown_refl _ _) nq)⟩

end Go.Proofs.YtopkfomlppnpeaaGreatDoor

namespace Go.Proofs.YtopkfomlppnpeaaGreatDoor
open Go.RowKit

set_option maxRecDepth 100000 in
set_option maxHeartbeats 1000000 in
theorem rcount_stop (b : Nat) (l : List UInt8) (at_ : Nat) (m e : Int) (w : World) (h : RRdr w b l at_ e) (he : e ≠ 0) :
    Calls Tryz.prog 101 #[ptr b, .int .i64 m] w (RRM w b l (.int .i64 0) (at_, e)) := by
  have HH := Lib.hid h
  obtain ⟨v, hb, -, -, -⟩ := h
  have c2 := hb.cell (j := 2) rfl
  have t1 : (e != 0) = true := by simpa using he
  clear hb he
  go_enter Tryz.func101, Tryz.ntmps101
  go_wp2
  go_ret
  exact ⟨rfl, HH.out, grown_refl _ _⟩

set_option maxRecDepth 100000 in
set_option maxHeartbeats 1000000 in
theorem rcount_neg (b : Nat) (l : List UInt8) (at_ : Nat) (m : Int) (w : World) (h : RRdr w b l at_ 0) (hm : m < 0) :
    Calls Tryz.prog 101 #[ptr b, .int .i64 m] w (RRM w b l (.int .i64 0) (at_, 2)) := by
  have HH := Lib.hid h
  obtain ⟨v, hb, -, -, -⟩ := h
  have c2 := hb.cell (j := 2) rfl
  have f2 := hb.free 2
  clear hb
  go_enter Tryz.func101, Tryz.ntmps101
  go_wp2
  go_ret
  exact ⟨rfl, HH.out.setE 2, grown_set (grown_refl _ _) 2 _⟩

set_option maxRecDepth 100000 in
set_option maxHeartbeats 1000000 in
theorem rcount_err (b : Nat) (l : List UInt8) (at_ : Nat) (m x a2 : Nat) (e2 : Int) (w : World) (h : RRdr w b l at_ 0) (hl : l.length ≤ 9223372036854775807) (hu : Wire.uint l at_ 0 = (x, a2, e2)) (he : e2 ≠ 0) :
    Calls Tryz.prog 101 #[ptr b, .int .i64 (m : Int)] w (RRM w b l (.int .i64 0) (a2, e2)) := by
  have HH := Lib.hid h
  have HU := Lib.hid hu
  obtain ⟨v, hb, -, -, hat⟩ := h
  have c1 := hb.cell (j := 1) rfl
  have c2 := hb.cell (j := 2) rfl
  clear hb hu
  have t1 : (e2 == 0) = false := by simpa using he
  have t2 : (e2 != 0) = true := by simpa using he
  clear he
  go_enter Tryz.func101, Tryz.ntmps101
  go_wp2_with (go_at_call 98; refine (ruint_any b l at_ 0 _ HH.out hl).mono ?_; rw [HU.out]; rintro e w1 ⟨rfl, hr1, hg1⟩; simp only at hr1; have HR1 := Lib.hid hr1; have HG1 := Lib.hid hg1; obtain ⟨v1, hb1, -, -, -⟩ := hr1; have d1 := hb1.cell (j := 1) rfl; have d2 := hb1.cell (j := 2) rfl; have g1 := hb1.free 1; have g2 := hb1.free 2; have hlt := hg1.size; clear hb1 hg1 c1 c2 hlt)
  go_ret
  exact ⟨rfl, HR1.out, HG1.out⟩

set_option maxRecDepth 100000 in
set_option maxHeartbeats 1000000 in
theorem rcount_long (b : Nat) (l : List UInt8) (at_ : Nat) (m x a2 : Nat) (w : World) (h : RRdr w b l at_ 0) (hm : m ≤ 9223372036854775807) (hl : l.length ≤ 9223372036854775807) (hu : Wire.uint l at_ 0 = (x, a2, 0)) (hx : m < x) :
    Calls Tryz.prog 101 #[ptr b, .int .i64 (m : Int)] w (RRM w b l (.int .i64 0) (at_, 3)) := by
  have HH := Lib.hid h
  have HU := Lib.hid hu
  obtain ⟨v, hb, -, -, hat⟩ := h
  have c1 := hb.cell (j := 1) rfl
  have c2 := hb.cell (j := 2) rfl
  clear hb hu
  have t0 : IntKind.u64.wrap (m : Int) = (m : Int) := by rw [IntKind.wrap_u64]; omega
  go_enter Tryz.func101, Tryz.ntmps101
  go_wp2_with (go_at_call 98; refine (ruint_any b l at_ 0 _ HH.out hl).mono ?_; rw [HU.out]; rintro e w1 ⟨rfl, hr1, hg1⟩; simp only at hr1; have HR1 := Lib.hid hr1; have HG1 := Lib.hid hg1; obtain ⟨v1, hb1, -, -, -⟩ := hr1; have d1 := hb1.cell (j := 1) rfl; have d2 := hb1.cell (j := 2) rfl; have g1 := hb1.free 1; have g2 := hb1.free 2; have hlt := hg1.size; clear hb1 hg1 c1 c2 hlt)
  go_ret
  exact ⟨rfl, (HR1.out.setE 3).setAt at_ hat, grown_set (grown_set HG1.out 2 _) 1 _⟩

set_option maxRecDepth 100000 in
set_option maxHeartbeats 1000000 in
theorem rcount_ok (b : Nat) (l : List UInt8) (at_ : Nat) (m x a2 : Nat) (w : World) (h : RRdr w b l at_ 0) (hm : m ≤ 9223372036854775807) (hl : l.length ≤ 9223372036854775807) (hu : Wire.uint l at_ 0 = (x, a2, 0)) (hx : x ≤ m) :
    Calls Tryz.prog 101 #[ptr b, .int .i64 (m : Int)] w (RRM w b l (.int .i64 (x : Int)) (a2, 0)) := by
  have HH := Lib.hid h
  have HU := Lib.hid hu
  obtain ⟨v, hb, -, -, hat⟩ := h
  have c1 := hb.cell (j := 1) rfl
  have c2 := hb.cell (j := 2) rfl
  clear hb hu
  have t0 : IntKind.u64.wrap (m : Int) = (m : Int) := by rw [IntKind.wrap_u64]; omega
  have hx9 : x ≤ 9223372036854775807 := by omega
  go_enter Tryz.func101, Tryz.ntmps101
  go_wp2_with (go_at_call 98; refine (ruint_any b l at_ 0 _ HH.out hl).mono ?_; rw [HU.out]; rintro e w1 ⟨rfl, hr1, hg1⟩; simp only at hr1; have HR1 := Lib.hid hr1; have HG1 := Lib.hid hg1; obtain ⟨v1, hb1, -, -, -⟩ := hr1; have d1 := hb1.cell (j := 1) rfl; have d2 := hb1.cell (j := 2) rfl; have g1 := hb1.free 1; have g2 := hb1.free 2; have hlt := hg1.size; clear hb1 hg1 c1 c2 hlt)
  go_ret
  exact ⟨rfl, HR1.out, HG1.out⟩

theorem rcount_any (b : Nat) (l : List UInt8) (at_ : Nat) (m e : Int) (w : World) (h : RRdr w b l at_ e) (hl : l.length ≤ 9223372036854775807) (hm : m ≤ 9223372036854775807) :
    Calls Tryz.prog 101 #[ptr b, .int .i64 m] w (RRM w b l (.int .i64 (Wire.count l at_ e m).1) (Wire.count l at_ e m).2) := by
  by_cases he : e = 0
  · subst he
    by_cases hm0 : m < 0
    · exact (rcount_neg b l at_ m w h hm0).mono fun _ _ h => h.of (by simp [Wire.count, hm0]) (by simp [Wire.count, hm0])
    · obtain ⟨k, rfl⟩ := Int.eq_ofNat_of_zero_le (show 0 ≤ m by omega)
      by_cases hr : (Wire.read (l.drop at_)).2.2 = 0
      · by_cases hx : (Wire.read (l.drop at_)).1 ≤ k
        · exact (rcount_ok b l at_ k _ _ w h (by omega) hl (by simp only [Wire.uint, hr]; rfl) hx).mono fun _ _ h => h.of (by simp [Wire.count, hr, hm0, Nat.not_lt.2 hx]) (by simp [Wire.count, hr, hm0, Nat.not_lt.2 hx])
        · exact (rcount_long b l at_ k _ _ w h (by omega) hl (by simp only [Wire.uint, hr]; rfl) (by omega)).mono fun _ _ h => h.of (by simp [Wire.count, hr, hm0, Nat.lt_of_not_le hx]) (by simp [Wire.count, hr, hm0, Nat.lt_of_not_le hx])
      · exact (rcount_err b l at_ k 0 at_ ((Wire.read (l.drop at_)).2.2 : Int) w h hl (by simp [Wire.uint, hr]) (by omega)).mono fun _ _ h => h.of (by simp [Wire.count, hr, hm0]) (by simp [Wire.count, hr, hm0])
  · exact (rcount_stop b l at_ m e w h he).mono fun _ _ h => h.of (by simp [Wire.count, he]) (by simp [Wire.count, he])

set_option maxRecDepth 100000 in
set_option maxHeartbeats 1000000 in
theorem rtext_err (b : Nat) (l : List UInt8) (at_ : Nat) (x a2 : Nat) (e1 e2 : Int) (w : World) (h : RRdr w b l at_ e1) (hl : l.length ≤ 9223372036854775807) (hu : Wire.uint l at_ e1 = (x, a2, e2)) (he : e2 ≠ 0) :
    Calls Tryz.prog 102 #[ptr b] w (RRM w b l (.string ByteArray.empty) (a2, e2)) := by
  have HH := Lib.hid h
  have HU := Lib.hid hu
  obtain ⟨v, hb, -, -, hat⟩ := h
  have c1 := hb.cell (j := 1) rfl
  have c2 := hb.cell (j := 2) rfl
  clear hb hu
  have t2 : (e2 != 0) = true := by simpa using he
  clear he
  go_enter Tryz.func102, Tryz.ntmps102
  go_wp2_with (go_at_call 98; refine (ruint_any b l at_ e1 _ HH.out hl).mono ?_; rw [HU.out]; rintro e w1 ⟨rfl, hr1, hg1⟩; simp only at hr1; have HR1 := Lib.hid hr1; have HG1 := Lib.hid hg1; obtain ⟨v1, hb1, -, -, -⟩ := hr1; have d1 := hb1.cell (j := 1) rfl; have d2 := hb1.cell (j := 2) rfl; have g1 := hb1.free 1; have g2 := hb1.free 2; have hlt := hg1.size; clear hb1 hg1 c1 c2 hlt)
  go_ret
  exact ⟨rfl, HR1.out, HG1.out⟩

set_option maxRecDepth 100000 in
set_option maxHeartbeats 1000000 in
theorem rtext_long (b : Nat) (l : List UInt8) (at_ : Nat) (x a2 : Nat) (w : World) (h : RRdr w b l at_ 0) (hl : l.length ≤ 9223372036854775807) (hu : Wire.uint l at_ 0 = (x, a2, 0)) (hx : 65536 < x) :
    Calls Tryz.prog 102 #[ptr b] w (RRM w b l (.string ByteArray.empty) (at_, 3)) := by
  have HH := Lib.hid h
  have HU := Lib.hid hu
  obtain ⟨v, hb, -, -, hat⟩ := h
  have c1 := hb.cell (j := 1) rfl
  have c2 := hb.cell (j := 2) rfl
  clear hb hu
  go_enter Tryz.func102, Tryz.ntmps102
  go_wp2_with (go_at_call 98; refine (ruint_any b l at_ 0 _ HH.out hl).mono ?_; rw [HU.out]; rintro e w1 ⟨rfl, hr1, hg1⟩; simp only at hr1; have HR1 := Lib.hid hr1; have HG1 := Lib.hid hg1; obtain ⟨v1, hb1, -, -, -⟩ := hr1; have d1 := hb1.cell (j := 1) rfl; have d2 := hb1.cell (j := 2) rfl; have g1 := hb1.free 1; have g2 := hb1.free 2; have hlt := hg1.size; clear hb1 hg1 c1 c2 hlt)
  go_ret
  exact ⟨rfl, (HR1.out.setE 3).setAt at_ hat, grown_set (grown_set HG1.out 2 _) 1 _⟩

set_option maxRecDepth 100000 in
set_option maxHeartbeats 1000000 in
theorem rtext_short (b : Nat) (l : List UInt8) (at_ : Nat) (x a2 : Nat) (w : World) (h : RRdr w b l at_ 0) (hl : l.length ≤ 9223372036854775807) (hu : Wire.uint l at_ 0 = (x, a2, 0)) (ha : a2 ≤ l.length) (hx : x ≤ 65536) (hs : l.length - a2 < x) :
    Calls Tryz.prog 102 #[ptr b] w (RRM w b l (.string ByteArray.empty) (at_, 4)) := by
  have HH := Lib.hid h
  have HU := Lib.hid hu
  obtain ⟨v, hb, -, -, hat⟩ := h
  have c1 := hb.cell (j := 1) rfl
  have c2 := hb.cell (j := 2) rfl
  clear hb hu
  have s1 : IntKind.i64.wrap ((l.length : Int) - (a2 : Int)) = ((l.length - a2 : Nat) : Int) := by rw [show (l.length : Int) - (a2 : Int) = ((l.length - a2 : Nat) : Int) from by omega]; exact IntWalk.i64_in _ (by omega)
  have s3 : IntKind.u64.wrap ((l.length - a2 : Nat) : Int) = ((l.length - a2 : Nat) : Int) := by rw [IntKind.wrap_u64]; omega
  go_enter Tryz.func102, Tryz.ntmps102
  go_wp2_with (go_at_call 98; refine (ruint_any b l at_ 0 _ HH.out hl).mono ?_; rw [HU.out]; rintro e w1 ⟨rfl, hr1, hg1⟩; simp only at hr1; have HR1 := Lib.hid hr1; have HG1 := Lib.hid hg1; obtain ⟨v1, hb1, hv1, hown1, hat1⟩ := hr1; obtain ⟨p, c, rfl, hc, hm, -⟩ := hv1.parts; have HV := Lib.hid hv1; have HO := Lib.hid hown1; have HM := Lib.hid hm; have d0 := hb1.cell (j := 0) rfl; have d1 := hb1.cell (j := 1) rfl; have d2 := hb1.cell (j := 2) rfl; have g1 := hb1.free 1; have g2 := hb1.free 2; have hlt := hg1.size; clear hb1 hg1 c1 c2 hlt hv1 hown1 hm)
  go_quiet (fail)
  clear s1 s3
  go_wp2
  go_ret
  exact ⟨rfl, ((HR1.out.drewN _).setE 4).setAt at_ hat, grown_set (grown_set (grown_drewN HG1.out _) 2 _) 1 _⟩

set_option maxRecDepth 100000 in
set_option maxHeartbeats 1000000 in
theorem rtext_ok (b : Nat) (l : List UInt8) (at_ : Nat) (x a2 : Nat) (w : World) (h : RRdr w b l at_ 0) (hl : l.length ≤ 9223372036854775807) (hu : Wire.uint l at_ 0 = (x, a2, 0)) (ha : a2 ≤ l.length) (hx : x ≤ 65536) (hs : x ≤ l.length - a2) :
    Calls Tryz.prog 102 #[ptr b] w (RRM w b l (.string ⟨((l.drop a2).take x).toArray⟩) (a2 + x, 0)) := by
  have HH := Lib.hid h
  have HU := Lib.hid hu
  obtain ⟨v, hb, -, -, hat⟩ := h
  have c1 := hb.cell (j := 1) rfl
  have c2 := hb.cell (j := 2) rfl
  clear hb hu
  have s1 : IntKind.i64.wrap ((l.length : Int) - (a2 : Int)) = ((l.length - a2 : Nat) : Int) := by rw [show (l.length : Int) - (a2 : Int) = ((l.length - a2 : Nat) : Int) from by omega]; exact IntWalk.i64_in _ (by omega)
  have s3 : IntKind.u64.wrap ((l.length - a2 : Nat) : Int) = ((l.length - a2 : Nat) : Int) := by rw [IntKind.wrap_u64]; omega
  go_enter Tryz.func102, Tryz.ntmps102
  go_wp2_with (go_at_call 98; refine (ruint_any b l at_ 0 _ HH.out hl).mono ?_; rw [HU.out]; rintro e w1 ⟨rfl, hr1, hg1⟩; simp only at hr1; have HR1 := Lib.hid hr1; have HG1 := Lib.hid hg1; obtain ⟨v1, hb1, hv1, hown1, hat1⟩ := hr1; obtain ⟨p, c, rfl, hc, hm, -⟩ := hv1.parts; have HV := Lib.hid hv1; have HO := Lib.hid hown1; have HM := Lib.hid hm; have d0 := hb1.cell (j := 0) rfl; have d1 := hb1.cell (j := 1) rfl; have d2 := hb1.cell (j := 2) rfl; have g1 := hb1.free 1; have g2 := hb1.free 2; have hlt := hg1.size; clear hb1 hg1 c1 c2 hlt hv1 hown1 hm)
  go_quiet (fail)
  obtain ⟨q1, rfl⟩ : ∃ q1, q1 = nq := ⟨_, rfl⟩
  clear s1 s3
  go_wp2
  have b0 : IntKind.i64.wrap ((a2 : Int) + (x : Int) - (x : Int)) = (a2 : Int) := by rw [Int.add_sub_cancel]; exact IntWalk.i64_in _ (by omega)
  have b2 : (a2 : Int) ≤ (a2 : Int) + (x : Int) := by omega
  have b3 : (a2 : Int) + (x : Int) ≤ (c : Int) := by omega
  have b5 : ((a2 : Int) + (x : Int)).toNat = a2 + x := by omega
  have hcv : ∀ (a m : Nat) (u : Value), (convert 23 9 (.slice (if c = a2 then p else Option.map (fun x => x.add a2) p) x (c - a2))).run Tryz.prog (((w1.drewN m).setCell ⟨b, 1, none⟩ u).drewN a) =
      .ok (.string ⟨((l.drop a2).take x).toArray⟩) (((w1.drewN m).setCell ⟨b, 1, none⟩ u).drewN a) := fun a m u =>
    run_str (rd_piece (HV.out.grownA (grown_drewN (grown_set (grown_drewN (grown_refl w1 (some b)) m) 1 u) a) (apart_of1 HO.out)) (by omega)) Tryz.underlying23 Tryz.underlying5 9 Tryz.underlying9
  go_quiet (fail)
  clear b0 b2 b3 b5 hcv
  generalize (if c = a2 then p else Option.map (fun x => x.add a2) p) = pp
  go_wp2
  go_ret
  exact ⟨rfl, by have := ((HR1.out.drewN q1).setAt (a2 + x) (by omega)).drewN nq; simpa using this, grown_drewN (grown_set (grown_drewN HG1.out _) 1 _) _⟩

theorem rtext_any (b : Nat) (l : List UInt8) (at_ : Nat) (e : Int) (w : World) (h : RRdr w b l at_ e) (hl : l.length ≤ 9223372036854775807) :
    Calls Tryz.prog 102 #[ptr b] w (RRM w b l (.string ⟨(Wire.text l at_ e).1.toArray⟩) (Wire.text l at_ e).2) := by
  have hat := rrdr_le h
  by_cases he : e = 0
  · subst he
    by_cases hr : (Wire.read (l.drop at_)).2.2 = 0
    · have hn := (Wire.read_le hr).2
      simp only [List.length_drop] at hn
      by_cases hx : (Wire.read (l.drop at_)).1 ≤ 65536
      · by_cases hs : (Wire.read (l.drop at_)).1 ≤ l.length - at_ - (Wire.read (l.drop at_)).2.1
        · exact (rtext_ok b l at_ _ _ w h hl (by simp only [Wire.uint, hr]; rfl) (by omega) hx (by omega)).mono fun _ _ h => h.of (by simp [Wire.text, hr, Nat.not_lt.2 hx, Nat.not_lt.2 hs]) (by simp [Wire.text, hr, Nat.not_lt.2 hx, Nat.not_lt.2 hs])
        · exact (rtext_short b l at_ _ _ w h hl (by simp only [Wire.uint, hr]; rfl) (by omega) hx (by omega)).mono fun _ _ h => h.of (by simp [Wire.text, hr, Nat.not_lt.2 hx, Nat.lt_of_not_le hs]; rfl) (by simp [Wire.text, hr, Nat.not_lt.2 hx, Nat.lt_of_not_le hs])
      · exact (rtext_long b l at_ _ _ w h hl (by simp only [Wire.uint, hr]; rfl) (by omega)).mono fun _ _ h => h.of (by simp [Wire.text, hr, Nat.lt_of_not_le hx]; rfl) (by simp [Wire.text, hr, Nat.lt_of_not_le hx])
    · exact (rtext_err b l at_ 0 at_ 0 ((Wire.read (l.drop at_)).2.2 : Int) w h hl (by simp [Wire.uint, hr]) (by omega)).mono fun _ _ h => h.of (by simp [Wire.text, hr]; rfl) (by simp [Wire.text, hr])
  · exact (rtext_err b l at_ 0 at_ e e w h hl (by simp [Wire.uint, he]) he).mono fun _ _ h => h.of (by simp [Wire.text, he]; rfl) (by simp [Wire.text, he])

end Go.Proofs.YtopkfomlppnpeaaGreatDoor
