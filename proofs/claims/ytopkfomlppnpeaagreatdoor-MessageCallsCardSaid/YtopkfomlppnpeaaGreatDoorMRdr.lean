/- , laid together: Read, Rdr, Rdr2. -/
import Derived.Test.YtopkfomlppnpeaaGreatDoorLib
import Derived.Test.YtopkfomlppnpeaaGreatDoorMPl
import Derived.Test.YtopkfomlppnpeaaGreatDoorLib2
namespace Go.Proofs.YtopkfomlppnpeaaGreatDoor
open Go.RowKit

theorem read3 {a b : Nat × Nat × Nat} (h : a = b) : Ending.returned (.tuple #[.int .u64 (a.1 : Int), .int .i64 (a.2.1 : Int), .int .i64 (a.2.2 : Int)]) = Ending.returned (.tuple #[.int .u64 (b.1 : Int), .int .i64 (b.2.1 : Int), .int .i64 (b.2.2 : Int)]) := by rw [h]

set_option maxRecDepth 100000 in
set_option maxHeartbeats 1000000 in
theorem read_any (v : Value) (l : List UInt8) (w : World) (h1 : Rd w v l) :
    Calls Tryz.prog 142 #[v] w fun e w' => e = .returned (.tuple #[.int .u64 ((Wire.read l).1 : Int), .int .i64 ((Wire.read l).2.1 : Int), .int .i64 ((Wire.read l).2.2 : Int)]) ∧ ∃ n, w' = w.drewN n := by
  obtain ⟨p1, c1, rfl, hc1, hm1, ha1⟩ := h1.parts
  unfold maxLen at hm1
  go_enter Tryz.func142, Tryz.ntmps142
  go_wp2
  go_loopw [2, 3] (fun x i w' => ∃ k q z : Nat, k ≤ l.length ∧ k ≤ 9 ∧ i = .int .i64 k ∧ x = .int .u64 z ∧ Hid (z < 2 ^ (7 * k)) ∧ w' = w.drewN q ∧ Hid (Wire.read l = Wire.dec (l.drop k) k z)) (fun _ i _ => l.length - (intOf i).toNat)
  case atStart => exact ⟨0, 0, 0, Nat.zero_le _, by omega, rfl, rfl, (by decide : 0 < 2 ^ (7 * 0)), rfl, rfl⟩
  case round =>
    obtain ⟨k, q, z, hk, hk9, rfl, rfl, hz, rfl, he⟩ := hrel
    by_cases hlt : k < l.length
    · obtain ⟨b1, o1, rfl, a1⟩ := ha1.resolve_left (by rintro rfl; simp at hlt)
      have e1 := a1 k hlt
      clear a1 ha1
      generalize hx : l[k] = x at e1
      have HX := Lib.hid hx
      have hm := x.toNat_lt
      generalize hxm : x.toNat = m at e1 hm
      have HM := Lib.hid hxm
      clear hx hxm
      by_cases c9 : k = 9
      · have t1 : ((k : Int) + 1 == 10) = true := by rw [beq_iff_eq]; omega
        by_cases cx : m = 1
        · have t2 : ((m : Int) != 1) = false := by rw [bne_eq_false_iff_eq]; omega
          have t3 : ¬ (128 ≤ (m : Int)) := by omega
          have t4 : ((m : Int) == 0) = false := by rw [beq_eq_false_iff_ne]; omega
          have H1 := Lib.hid c9
          have H2 := Lib.hid cx
          clear c9 cx
          go_wp2
          go_ret3
          refine ⟨?_, q, rfl⟩
          rw [Wire.or_step hm hz.out hk9 (fun _ => H2.out)]
          have h3 := he.out.trans (Wire.dec_end hlt HX.out (by rw [HM.out, H2.out]; omega) (by rw [HM.out, H2.out]; omega) (by rw [HM.out, H2.out]; omega))
          rw [HM.out] at h3
          exact (read3 h3).symm
        · have t2 : ((m : Int) != 1) = true := by rw [bne_iff_ne]; omega
          have H1 := Lib.hid c9
          have H2 := Lib.hid cx
          clear c9 cx
          go_wp2
          go_ret3
          exact ⟨(read3 (he.out.trans (Wire.dec_bad hlt HX.out (.inl ⟨H1.out, by rw [HM.out]; exact H2.out⟩)))).symm, q, rfl⟩
      · have t1 : ((k : Int) + 1 == 10) = false := by rw [beq_eq_false_iff_ne]; omega
        have H1 := Lib.hid c9
        by_cases c1 : 128 ≤ m
        · have t3 : (128 ≤ (m : Int)) := by omega
          have H3 := Lib.hid c1
          have hk8 : k ≤ 8 := by omega
          clear c9 c1
          go_wp2
          go_roundw
          case rel =>
            refine ⟨k + 1, q, z + m % 128 * 2 ^ (7 * k), by omega, by omega, by go_num, ?_, Wire.step_lt hz.out, rfl, ?_⟩
            · rw [Wire.or_step hm hz.out hk9 (fun h => absurd h H1.out)]
            · have h3 := he.out.trans (Wire.dec_more hlt HX.out H1.out (by rw [HM.out]; exact H3.out))
              rw [HM.out] at h3
              exact h3
          case measure => simp [intOf]; omega
        · have t3 : ¬ (128 ≤ (m : Int)) := by omega
          have H3 := Lib.hid c1
          clear c9 c1
          by_cases c0 : m = 0
          · have t4 : ((m : Int) == 0) = true := by rw [beq_iff_eq]; omega
            by_cases ck : 0 < k
            · have t5 : decide (1 < (k : Int) + 1) = true := by simp; omega
              have H4 := Lib.hid c0
              clear c0
              go_wp2
              go_ret3
              exact ⟨(read3 (he.out.trans (Wire.dec_bad hlt HX.out (.inr ⟨by rw [HM.out]; exact H4.out, ck⟩)))).symm, q, rfl⟩
            · have t5 : decide (1 < (k : Int) + 1) = false := by simp; omega
              have H4 := Lib.hid c0
              have H5 := Lib.hid ck
              clear c0 ck
              go_wp2
              go_ret3
              refine ⟨?_, q, rfl⟩
              rw [Wire.or_step hm hz.out hk9 (fun h => absurd h H1.out)]
              have h3 := he.out.trans (Wire.dec_end hlt HX.out (fun h => H1.out h.1) (by rw [HM.out]; have := H3.out; omega) (fun h => H5.out h.2))
              rw [HM.out] at h3
              exact (read3 h3).symm
          · have t4 : ((m : Int) == 0) = false := by rw [beq_eq_false_iff_ne]; omega
            have H4 := Lib.hid c0
            clear c0
            go_wp2
            go_ret3
            refine ⟨?_, q, rfl⟩
            rw [Wire.or_step hm hz.out hk9 (fun h => absurd h H1.out)]
            have h3 := he.out.trans (Wire.dec_end hlt HX.out (fun h => H1.out h.1) (by rw [HM.out]; have := H3.out; omega) (fun h => H4.out (HM.out ▸ h.1)))
            rw [HM.out] at h3
            exact (read3 h3).symm
    · have he' : Wire.read l = (0, 0, 4) := by
        rw [he.out, List.drop_eq_nil_of_le (by omega)]; rfl
      have HE := Lib.hid he'
      clear he'
      go_wp2
      go_ret3
      exact ⟨(read3 HE.out).symm, q, rfl⟩
end Go.Proofs.YtopkfomlppnpeaaGreatDoor

namespace Go.Proofs.YtopkfomlppnpeaaGreatDoor
open Go.RowKit

/-- block b is a reader that was made -/
def Rdr (w : World) (b : Nat) (l : List UInt8) (at_ : Nat) (e : Int) : Prop :=
  ∃ v, Blk w b [v, .int .i64 (at_ : Int), .int .i64 e, .bool true] 162 ∧ Rd w v l ∧ (l ≠ [] → ∀ c, v.ownBlock = some c → c < b) ∧ at_ ≤ l.length

theorem apart_of {v : Value} {b : Nat} {l : List UInt8} (h : l ≠ [] → ∀ c, v.ownBlock = some c → c < b) : l ≠ [] → v.ownBlock ≠ some b := fun hl e => by have := h hl b e; omega

theorem Rd.grownA {w w' : World} {v : Value} {l : List UInt8} {b : Nat} (h : Rd w v l) (hg : w.grownBy w' (some b)) (hr : l ≠ [] → v.ownBlock ≠ some b) : Rd w' v l := by
  by_cases hl : l = []
  · subst hl
    obtain ⟨p, c, hv, h1, h2, h3, h4, h5, h6⟩ := h
    exact ⟨p, c, hv, h1, h2, h3, h4, h5, .inl rfl⟩
  · exact h.grown hg (.inr (hr hl))


set_option maxHeartbeats 400000 in
theorem none_made (b : Nat) (v x y : Value) (w : World) (h : Blk w b [v, x, y, .bool true] 162) :
    Calls Tryz.prog 143 #[ptr b] w fun e w' => e = .returned (.bool false) ∧ w' = w := by
  have c3 := h.cell (j := 3) rfl
  clear h
  go_enter Tryz.func143, Tryz.ntmps143
  go_wp2
  go_ret
  exact ⟨rfl, rfl⟩

set_option maxHeartbeats 400000 in
theorem stopped_no (b : Nat) (v x : Value) (w : World) (h : Blk w b [v, x, .int .i64 0, .bool true] 162) :
    Calls Tryz.prog 114 #[ptr b] w fun e w' => e = .returned (.bool false) ∧ w' = w := by
  have c2 := h.cell (j := 2) rfl
  have H := Lib.hid h
  clear h
  go_enter Tryz.func114, Tryz.ntmps114
  go_wp2_with (go_at_call 143; refine (none_made b _ _ _ _ H.out).mono ?_; rintro e w' ⟨rfl, rfl⟩)
  go_ret
  exact ⟨rfl, rfl⟩

set_option maxHeartbeats 400000 in
theorem stopped_yes (b : Nat) (v x : Value) (er : Int) (w : World) (h : Blk w b [v, x, .int .i64 er, .bool true] 162) (h0 : er ≠ 0) :
    Calls Tryz.prog 114 #[ptr b] w fun e w' => e = .returned (.bool true) ∧ w' = w := by
  have c2 := h.cell (j := 2) rfl
  have H := Lib.hid h
  have t1 : (er != 0) = true := by simpa using h0
  clear h h0
  go_enter Tryz.func114, Tryz.ntmps114
  go_wp2_with (go_at_call 143; refine (none_made b _ _ _ _ H.out).mono ?_; rintro e w' ⟨rfl, rfl⟩)
  go_ret
  exact ⟨rfl, rfl⟩

set_option maxRecDepth 100000 in
set_option maxHeartbeats 400000 in
theorem number_yes (b : Nat) (v x : Value) (er : Int) (w : World) (h : Blk w b [v, x, .int .i64 er, .bool true] 162) (h0 : er ≠ 0) :
    Calls Tryz.prog 113 #[ptr b] w fun e w' => e = .returned (.tuple #[.int .u64 0, .int .i64 0]) ∧ w' = w := by
  have H := Lib.hid h
  have H0 := Lib.hid h0
  clear h h0
  go_enter Tryz.func113, Tryz.ntmps113
  go_wp2_with (go_at_call 114; refine (stopped_yes b _ _ _ _ H.out H0.out).mono ?_; rintro e w' ⟨rfl, rfl⟩)
  go_ret2
  exact ⟨rfl, rfl⟩

set_option maxRecDepth 100000 in
set_option maxHeartbeats 400000 in
theorem number_ok (b : Nat) (l : List UInt8) (at_ : Nat) (w : World) (h : Rdr w b l at_ 0) (hr : (Wire.read (l.drop at_)).2.2 = 0) :
    Calls Tryz.prog 113 #[ptr b] w fun e w' => e = .returned (.tuple #[.int .u64 ((Wire.read (l.drop at_)).1 : Int), .int .i64 ((Wire.read (l.drop at_)).2.1 : Int)]) ∧ ∃ n, w' = w.drewN n := by
  obtain ⟨v, hb, hv, hown, hat⟩ := h
  obtain ⟨p, c, rfl, hc, hm, -⟩ := hv.parts
  have c0 := hb.cell (j := 0) rfl
  have c1 := hb.cell (j := 1) rfl
  have c2 := hb.cell (j := 2) rfl
  have H := Lib.hid hb
  have HV := Lib.hid hv
  have HR := Lib.hid hr
  have HM := Lib.hid hm
  clear hb hv hown hr hm
  go_enter Tryz.func113, Tryz.ntmps113
  go_wp2_with (go_at_call 114; refine (stopped_no b _ _ _ H.out).mono ?_; rintro e w' ⟨rfl, rfl⟩)
  have t1 : (((Wire.read (l.drop at_)).2.2 : Int) != 0) = false := by rw [HR.out]; rfl
  go_quiet ((go_at_call 142; exact Calls.quiet_of (read_any _ (l.drop at_) _ (rd_cut HV.out hat))))
  generalize (if c = at_ then p else Option.map (fun x => x.add at_) p) = pp
  go_wp2
  go_ret2
  exact ⟨rfl, nq, rfl⟩
theorem Rdr.setE {w : World} {b : Nat} {l : List UInt8} {at_ : Nat} {e : Int} (h : Rdr w b l at_ e) (e' : Int) : Rdr (w.setCell ⟨b, 2, none⟩ (.int .i64 e')) b l at_ e' := by
  obtain ⟨v, hb, hv, hown, hat⟩ := h
  refine ⟨v, hb.set 2 _, hv.grownA (grown_set (grown_refl w (some b)) 2 _) (apart_of hown), hown, hat⟩
theorem Rdr.setAt {w : World} {b : Nat} {l : List UInt8} {at_ : Nat} {e : Int} (h : Rdr w b l at_ e) (a' : Nat) (ha : a' ≤ l.length) : Rdr (w.setCell ⟨b, 1, none⟩ (.int .i64 (a' : Int))) b l a' e := by
  obtain ⟨v, hb, hv, hown, hat⟩ := h
  refine ⟨v, hb.set 1 _, hv.grownA (grown_set (grown_refl w (some b)) 1 _) (apart_of hown), hown, ha⟩
theorem Rdr.drewN {w : World} {b : Nat} {l : List UInt8} {at_ : Nat} {e : Int} (h : Rdr w b l at_ e) (n : Nat) : Rdr (w.drewN n) b l at_ e := by
  obtain ⟨v, hb, hv, hown, hat⟩ := h
  exact ⟨v, hb, hv.grown (grown_drewN (grown_refl w none) n) (by cases v.ownBlock <;> simp), hown, hat⟩
set_option maxRecDepth 100000 in
set_option maxHeartbeats 400000 in
theorem number_err (b : Nat) (l : List UInt8) (at_ : Nat) (w : World) (h : Rdr w b l at_ 0) (hr : (Wire.read (l.drop at_)).2.2 ≠ 0) :
    Calls Tryz.prog 113 #[ptr b] w fun e w' => e = .returned (.tuple #[.int .u64 0, .int .i64 0]) ∧ Rdr w' b l at_ ((Wire.read (l.drop at_)).2.2 : Int) ∧ w.grownBy w' (some b) := by
  have h' := h
  obtain ⟨v, hb, hv, hown, hat⟩ := h
  obtain ⟨p, c, rfl, hc, hm, -⟩ := hv.parts
  have c0 := hb.cell (j := 0) rfl
  have c1 := hb.cell (j := 1) rfl
  have c2 := hb.cell (j := 2) rfl
  have f2 := hb.free 2
  have H := Lib.hid hb
  have HV := Lib.hid hv
  have HR := Lib.hid hr
  have HM := Lib.hid hm
  have HH := Lib.hid h'
  clear hb hv hown hr hm h'
  go_enter Tryz.func113, Tryz.ntmps113
  go_wp2_with (go_at_call 114; refine (stopped_no b _ _ _ H.out).mono ?_; rintro e w' ⟨rfl, rfl⟩)
  have t1 : (((Wire.read (l.drop at_)).2.2 : Int) != 0) = true := by have := HR.out; simp; omega
  go_quiet ((go_at_call 142; exact Calls.quiet_of (read_any _ (l.drop at_) _ (rd_cut HV.out hat))))
  generalize (if c = at_ then p else Option.map (fun x => x.add at_) p) = pp
  go_wp2
  go_ret2
  refine ⟨?_, ?_, ?_⟩
  · have := Wire.read_err HR.out
    simp [this.1, this.2]
  · exact (HH.out.drewN nq).setE _
  · exact grown_set (grown_drewN (grown_refl _ _) nq) 2 _

/-- a method of the reader: what it answers; the state behind it; all else as it was -/
def RM (w : World) (b : Nat) (l : List UInt8) (v : Value) (s : Nat × Int) (e : Ending) (w' : World) : Prop := e = .returned v ∧ Rdr w' b l s.1 s.2 ∧ w.grownBy w' (some b)

set_option maxRecDepth 100000 in
set_option maxHeartbeats 400000 in
theorem uint_stop (b : Nat) (l : List UInt8) (at_ : Nat) (e : Int) (w : World) (h : Rdr w b l at_ e) (he : e ≠ 0) :
    Calls Tryz.prog 43 #[ptr b] w (RM w b l (.int .u64 0) (at_, e)) := by
  have HH := Lib.hid h
  obtain ⟨v, hb, -, -, -⟩ := h
  have H := Lib.hid hb
  have HE := Lib.hid he
  clear hb he
  go_enter Tryz.func43, Tryz.ntmps43
  go_wp2_with (first
    | (go_at_call 113; refine (number_yes b _ _ _ _ H.out HE.out).mono ?_; rintro e w' ⟨rfl, rfl⟩)
    | (go_at_call 114; refine (stopped_yes b _ _ _ _ H.out HE.out).mono ?_; rintro e w' ⟨rfl, rfl⟩))
  go_ret
  exact ⟨rfl, HH.out, grown_refl _ _⟩

set_option maxRecDepth 100000 in
set_option maxHeartbeats 400000 in
theorem uint_err (b : Nat) (l : List UInt8) (at_ : Nat) (w : World) (h : Rdr w b l at_ 0) (hr : (Wire.read (l.drop at_)).2.2 ≠ 0) :
    Calls Tryz.prog 43 #[ptr b] w (RM w b l (.int .u64 0) (at_, ((Wire.read (l.drop at_)).2.2 : Int))) := by
  have HH := Lib.hid h
  have HR := Lib.hid hr
  clear h hr
  go_enter Tryz.func43, Tryz.ntmps43
  go_wp2_with (first
    | (go_at_call 113; refine (number_err b l at_ _ HH.out HR.out).mono ?_; rintro e w1 ⟨rfl, hr1, hg1⟩; have HR1 := Lib.hid hr1; have HG1 := Lib.hid hg1; clear hr1 hg1)
    | (go_at_call 114; refine (stopped_yes b HR1.out.choose _ _ _ HR1.out.choose_spec.1 (by have := HR.out; omega)).mono ?_; rintro e w' ⟨rfl, rfl⟩))
  go_ret
  exact ⟨rfl, HR1.out, HG1.out⟩

set_option maxRecDepth 100000 in
set_option maxHeartbeats 400000 in
theorem uint_ok (b : Nat) (l : List UInt8) (at_ : Nat) (w : World) (h : Rdr w b l at_ 0) (hr : (Wire.read (l.drop at_)).2.2 = 0) (hl : l.length ≤ 9223372036854775807) :
    Calls Tryz.prog 43 #[ptr b] w (RM w b l (.int .u64 ((Wire.read (l.drop at_)).1 : Int)) (at_ + (Wire.read (l.drop at_)).2.1, 0)) := by
  have HH := Lib.hid h
  have HR := Lib.hid hr
  have hn : at_ + (Wire.read (l.drop at_)).2.1 ≤ l.length := by
    have := Wire.read_le hr
    obtain ⟨v, -, -, -, hat⟩ := h
    simp at this; omega
  have HN := Lib.hid hn
  obtain ⟨v, hb, -, -, -⟩ := h
  have c1 := hb.cell (j := 1) rfl
  have f1 := hb.free 1
  have H := Lib.hid hb
  clear hr hb
  go_enter Tryz.func43, Tryz.ntmps43
  go_wp2_with (first
    | (go_at_call 113; refine (number_ok b l at_ _ HH.out HR.out).mono ?_; rintro e w1 ⟨rfl, n, rfl⟩)
    | (go_at_call 114; refine (stopped_no b _ _ _ (by exact H.out)).mono ?_; rintro e w' ⟨rfl, hw'⟩; subst hw'))
  go_ret
  exact ⟨rfl, by have := (HH.out.drewN n).setAt _ HN.out; simpa using this, grown_set (grown_drewN (grown_refl _ _) n) 1 _⟩

theorem RM.of {w : World} {b : Nat} {l : List UInt8} {v v' : Value} {s s' : Nat × Int} (hv : v = v') (hs : s = s') {e : Ending} {w' : World} (h : RM w b l v s e w') : RM w b l v' s' e w' := by
  subst hv hs; exact h

theorem uint_any (b : Nat) (l : List UInt8) (at_ : Nat) (e : Int) (w : World) (h : Rdr w b l at_ e) (hl : l.length ≤ 9223372036854775807) :
    Calls Tryz.prog 43 #[ptr b] w (RM w b l (.int .u64 ((Wire.uint l at_ e).1 : Int)) (Wire.uint l at_ e).2) := by
  by_cases he : e = 0
  · subst he
    by_cases hr : (Wire.read (l.drop at_)).2.2 = 0
    · exact (uint_ok b l at_ w h hr hl).mono fun _ _ h => h.of (by simp [Wire.uint, hr]) (by simp [Wire.uint, hr])
    · exact (uint_err b l at_ w h hr).mono fun _ _ h => h.of (by simp [Wire.uint, hr]) (by simp [Wire.uint, hr])
  · exact (uint_stop b l at_ e w h he).mono fun _ _ h => h.of (by simp [Wire.uint, he]) (by simp [Wire.uint, he])

theorem uint_lt (l : List UInt8) (at_ : Nat) (e : Int) : (Wire.uint l at_ e).1 < 18446744073709551616 := by
  unfold Wire.uint
  split
  · simp
  · split
    · simp
    · exact Wire.read_lt _

set_option maxRecDepth 100000 in
set_option maxHeartbeats 400000 in
theorem int_any (b : Nat) (l : List UInt8) (at_ : Nat) (e : Int) (w : World) (h : Rdr w b l at_ e) (hl : l.length ≤ 9223372036854775807) :
    Calls Tryz.prog 44 #[ptr b] w (RM w b l (.int .i64 (Wire.int l at_ e).1) (Wire.int l at_ e).2) := by
  have HH := Lib.hid h
  have HX := Lib.hid (uint_lt l at_ e)
  clear h
  go_enter Tryz.func44, Tryz.ntmps44
  go_wp2_with (go_at_call 43; refine (uint_any b l at_ e _ HH.out hl).mono ?_; rintro e w1 ⟨rfl, hr1, hg1⟩; have HR1 := Lib.hid hr1; have HG1 := Lib.hid hg1; clear hr1 hg1)
  go_ret
  exact RM.of (congrArg (Value.int .i64) (Wire.unzig_wire HX.out)) rfl ⟨rfl, HR1.out, HG1.out⟩

set_option maxHeartbeats 400000 in
theorem err_any (b : Nat) (l : List UInt8) (at_ : Nat) (er : Int) (w : World) (h : Rdr w b l at_ er) :
    Calls Tryz.prog 116 #[ptr b] w fun e w' => e = .returned (.int .i64 er) ∧ w' = w := by
  obtain ⟨v, hb, -, -, -⟩ := h
  have c2 := hb.cell (j := 2) rfl
  have H := Lib.hid hb
  clear hb
  go_enter Tryz.func116, Tryz.ntmps116
  go_wp2_with (go_at_call 143; refine (none_made b _ _ _ _ H.out).mono ?_; rintro e w' ⟨rfl, rfl⟩)
  go_ret
  exact ⟨rfl, rfl⟩

set_option maxRecDepth 100000 in
set_option maxHeartbeats 400000 in
theorem done_any (b : Nat) (l : List UInt8) (at_ : Nat) (er : Int) (w : World) (h : Rdr w b l at_ er) :
    Calls Tryz.prog 53 #[ptr b] w (RM w b l (.int .i64 (Wire.done l at_ er)) (at_, Wire.done l at_ er)) := by
  have HH := Lib.hid h
  obtain ⟨v, hb, hv, -, hat⟩ := h
  obtain ⟨p, c, rfl, hc, hm, -⟩ := hv.parts
  clear hm hv
  have c0 := hb.cell (j := 0) rfl
  have c1 := hb.cell (j := 1) rfl
  have c2 := hb.cell (j := 2) rfl
  have f2 := hb.free 2
  have H := Lib.hid hb
  clear hb
  by_cases he : er = 0
  · subst he
    by_cases hlt : at_ < l.length
    · go_enter Tryz.func53, Tryz.ntmps53
      go_wp2_with fail
      go_quiet ((go_at_call 114; exact Calls.quiet_of_same (stopped_no b _ _ _ (by exact H.out))))
      go_wp2_with (go_at_call 116; refine (err_any b l at_ 5 _ ((HH.out.drewN nq).setE 5)).mono ?_; rintro e w1 ⟨rfl, hw1⟩; subst hw1)
      go_ret
      refine RM.of (v := .int .i64 5) (s := (at_, 5)) (by simp [Wire.done, hlt]) (by simp [Wire.done, hlt]) ⟨rfl, (HH.out.drewN nq).setE 5, grown_set (grown_drewN (grown_refl _ _) nq) 2 _⟩
    · go_enter Tryz.func53, Tryz.ntmps53
      go_wp2_with fail
      go_quiet ((go_at_call 114; exact Calls.quiet_of_same (stopped_no b _ _ _ (by exact H.out))))
      go_wp2_with (go_at_call 116; refine (err_any b l at_ 0 _ (HH.out.drewN nq)).mono ?_; rintro e w1 ⟨rfl, hw1⟩; subst hw1)
      go_ret
      refine RM.of (v := .int .i64 0) (s := (at_, 0)) (by simp [Wire.done, hlt]) (by simp [Wire.done, hlt]) ⟨rfl, (HH.out.drewN nq), (grown_drewN (grown_refl _ _) nq)⟩
  · have HE := Lib.hid he
    clear he
    go_enter Tryz.func53, Tryz.ntmps53
    go_wp2_with fail
    go_quiet ((go_at_call 114; exact Calls.quiet_of_same (stopped_yes b _ _ _ _ (by exact H.out) HE.out)))
    go_wp2_with (go_at_call 116; refine (err_any b l at_ er _ (HH.out.drewN nq)).mono ?_; rintro e w1 ⟨rfl, hw1⟩; subst hw1)
    go_ret
    refine RM.of (v := .int .i64 er) (s := (at_, er)) (by simp [Wire.done, HE.out]) (by simp [Wire.done, HE.out]) ⟨rfl, (HH.out.drewN nq), (grown_drewN (grown_refl _ _) nq)⟩
/-- where a byte of a slice lies -/
theorem Rd.byte {w : World} {p : Option Addr} {n c k : Nat} {l : List UInt8} (h : Rd w (.slice p n c) l) (hk : k < l.length) : ∃ b o, p = some ⟨b, o, none⟩ ∧ w.cell? ⟨b, o + k, none⟩ = some (.int .u8 ((l[k]).toNat : Int)) := by
  obtain ⟨p', c', hv, _, _, ha⟩ := h.parts
  simp only [Value.slice.injEq] at hv
  obtain ⟨rfl, -, rfl⟩ := hv
  obtain ⟨b, o, hp, ha⟩ := ha.resolve_left (by rintro rfl; simp at hk)
  exact ⟨b, o, hp, ha k hk⟩

theorem rdr_le {w : World} {b : Nat} {l : List UInt8} {at_ : Nat} {e : Int} (h : Rdr w b l at_ e) : at_ ≤ l.length := by
  obtain ⟨_, _, _, _, hat⟩ := h; exact hat

set_option maxRecDepth 100000 in
set_option maxHeartbeats 1000000 in
theorem count_ok (b : Nat) (l : List UInt8) (at_ m : Nat) (w : World) (h : Rdr w b l at_ 0) (hm : m ≤ 9223372036854775807) (hl : l.length ≤ 9223372036854775807) (hr : (Wire.read (l.drop at_)).2.2 = 0) (hx : (Wire.read (l.drop at_)).1 ≤ m) :
    Calls Tryz.prog 115 #[ptr b, .int .i64 (m : Int)] w (RM w b l (.int .i64 ((Wire.read (l.drop at_)).1 : Int)) (at_ + (Wire.read (l.drop at_)).2.1, 0)) := by
  have HH := Lib.hid h
  have HR := Lib.hid hr
  have hn : at_ + (Wire.read (l.drop at_)).2.1 ≤ l.length := by
    have := Wire.read_le hr
    have := rdr_le h
    simp at *; omega
  have HN := Lib.hid hn
  obtain ⟨v, hb, -, -, -⟩ := h
  have c1 := hb.cell (j := 1) rfl
  have f1 := hb.free 1
  have H := Lib.hid hb
  have t0 : IntKind.u64.wrap (m : Int) = (m : Int) := by rw [IntKind.wrap_u64]; omega
  have hx9 : (Wire.read (l.drop at_)).1 ≤ 9223372036854775807 := by omega
  clear hr hb
  go_enter Tryz.func115, Tryz.ntmps115
  go_wp2_with (first
    | (go_at_call 113; refine (number_ok b l at_ _ HH.out HR.out).mono ?_; rintro e w1 ⟨rfl, n, rfl⟩)
    | (go_at_call 114; refine (stopped_no b _ _ _ (by exact H.out)).mono ?_; rintro e w' ⟨rfl, hw'⟩; subst hw'))
  go_ret
  exact ⟨rfl, by have := (HH.out.drewN n).setAt _ HN.out; simpa using this, grown_set (grown_drewN (grown_refl _ _) n) 1 _⟩

set_option maxRecDepth 100000 in
set_option maxHeartbeats 1000000 in
theorem count_long (b : Nat) (l : List UInt8) (at_ m : Nat) (w : World) (h : Rdr w b l at_ 0) (hm : m ≤ 9223372036854775807) (hr : (Wire.read (l.drop at_)).2.2 = 0) (hx : m < (Wire.read (l.drop at_)).1) :
    Calls Tryz.prog 115 #[ptr b, .int .i64 (m : Int)] w (RM w b l (.int .i64 0) (at_, 3)) := by
  have HH := Lib.hid h
  have HR := Lib.hid hr
  obtain ⟨v, hb, -, -, -⟩ := h
  have c1 := hb.cell (j := 2) rfl
  have f1 := hb.free 2
  have H := Lib.hid hb
  have t0 : IntKind.u64.wrap (m : Int) = (m : Int) := by rw [IntKind.wrap_u64]; omega
  clear hr hb
  go_enter Tryz.func115, Tryz.ntmps115
  go_wp2_with (first
    | (go_at_call 113; refine (number_ok b l at_ _ HH.out HR.out).mono ?_; rintro e w1 ⟨rfl, n, rfl⟩)
    | (go_at_call 114; refine (stopped_no b _ _ _ (by exact H.out)).mono ?_; rintro e w' ⟨rfl, hw'⟩; subst hw'))
  go_ret
  exact ⟨rfl, (HH.out.drewN n).setE 3, grown_set (grown_drewN (grown_refl _ _) n) 2 _⟩

set_option maxRecDepth 100000 in
set_option maxHeartbeats 1000000 in
theorem count_err (b : Nat) (l : List UInt8) (at_ m : Nat) (w : World) (h : Rdr w b l at_ 0) (hr : (Wire.read (l.drop at_)).2.2 ≠ 0) :
    Calls Tryz.prog 115 #[ptr b, .int .i64 (m : Int)] w (RM w b l (.int .i64 0) (at_, ((Wire.read (l.drop at_)).2.2 : Int))) := by
  have HH := Lib.hid h
  have HR := Lib.hid hr
  obtain ⟨v, hb, -, -, -⟩ := h
  have H := Lib.hid hb
  clear hr hb
  go_enter Tryz.func115, Tryz.ntmps115
  go_wp2_with (first
    | (go_at_call 113; refine (number_err b l at_ _ HH.out HR.out).mono ?_; rintro e w1 ⟨rfl, hr1, hg1⟩; have HR1 := Lib.hid hr1; have HG1 := Lib.hid hg1; clear hr1 hg1 H)
    | (go_at_call 114; refine (stopped_no b _ _ _ (by exact H.out)).mono ?_; rintro e w' ⟨rfl, hw'⟩; subst hw')
    | (go_at_call 114; refine (stopped_yes b HR1.out.choose _ _ _ HR1.out.choose_spec.1 (by have := HR.out; omega)).mono ?_; rintro e w' ⟨rfl, rfl⟩))
  go_ret
  exact ⟨rfl, HR1.out, HG1.out⟩

set_option maxRecDepth 100000 in
set_option maxHeartbeats 1000000 in
theorem count_neg (b : Nat) (l : List UInt8) (at_ : Nat) (m : Int) (w : World) (h : Rdr w b l at_ 0) (hm : m < 0) :
    Calls Tryz.prog 115 #[ptr b, .int .i64 m] w (RM w b l (.int .i64 0) (at_, 2)) := by
  have HH := Lib.hid h
  obtain ⟨v, hb, -, -, -⟩ := h
  have c2 := hb.cell (j := 2) rfl
  have f2 := hb.free 2
  have H := Lib.hid hb
  clear hb
  go_enter Tryz.func115, Tryz.ntmps115
  go_wp2_with (go_at_call 114; refine (stopped_no b _ _ _ (by exact H.out)).mono ?_; rintro e w' ⟨rfl, hw'⟩; subst hw')
  go_ret
  exact ⟨rfl, HH.out.setE 2, grown_set (grown_refl _ _) 2 _⟩

set_option maxRecDepth 100000 in
set_option maxHeartbeats 1000000 in
theorem count_stop (b : Nat) (l : List UInt8) (at_ : Nat) (m e : Int) (w : World) (h : Rdr w b l at_ e) (he : e ≠ 0) :
    Calls Tryz.prog 115 #[ptr b, .int .i64 m] w (RM w b l (.int .i64 0) (at_, e)) := by
  have HH := Lib.hid h
  obtain ⟨v, hb, -, -, -⟩ := h
  have H := Lib.hid hb
  have HE := Lib.hid he
  clear hb he
  go_enter Tryz.func115, Tryz.ntmps115
  go_wp2_with (go_at_call 114; refine (stopped_yes b _ _ _ _ H.out HE.out).mono ?_; rintro e w' ⟨rfl, rfl⟩)
  go_ret
  exact ⟨rfl, HH.out, grown_refl _ _⟩

theorem count_any (b : Nat) (l : List UInt8) (at_ : Nat) (m e : Int) (w : World) (h : Rdr w b l at_ e) (hl : l.length ≤ 9223372036854775807) (hm : m ≤ 9223372036854775807) :
    Calls Tryz.prog 115 #[ptr b, .int .i64 m] w (RM w b l (.int .i64 (Wire.count l at_ e m).1) (Wire.count l at_ e m).2) := by
  by_cases he : e = 0
  · subst he
    by_cases hm0 : m < 0
    · exact (count_neg b l at_ m w h hm0).mono fun _ _ h => h.of (by simp [Wire.count, hm0]) (by simp [Wire.count, hm0])
    · obtain ⟨k, rfl⟩ := Int.eq_ofNat_of_zero_le (show 0 ≤ m by omega)
      by_cases hr : (Wire.read (l.drop at_)).2.2 = 0
      · by_cases hx : (Wire.read (l.drop at_)).1 ≤ k
        · exact (count_ok b l at_ k w h (by omega) hl hr hx).mono fun _ _ h => h.of (by simp [Wire.count, hr, hm0, Nat.not_lt.2 hx]) (by simp [Wire.count, hr, hm0, Nat.not_lt.2 hx])
        · exact (count_long b l at_ k w h (by omega) hr (by omega)).mono fun _ _ h => h.of (by simp [Wire.count, hr, hm0, Nat.lt_of_not_le hx]) (by simp [Wire.count, hr, hm0, Nat.lt_of_not_le hx])
      · exact (count_err b l at_ k w h hr).mono fun _ _ h => h.of (by simp [Wire.count, hr, hm0]) (by simp [Wire.count, hr, hm0])
  · exact (count_stop b l at_ m e w h he).mono fun _ _ h => h.of (by simp [Wire.count, he]) (by simp [Wire.count, he])
end Go.Proofs.YtopkfomlppnpeaaGreatDoor

namespace Go.Proofs.YtopkfomlppnpeaaGreatDoor
open Go.RowKit

set_option maxRecDepth 100000 in
set_option maxHeartbeats 1000000 in
theorem text_stop (b : Nat) (l : List UInt8) (at_ : Nat) (e : Int) (w : World) (h : Rdr w b l at_ e) (he : e ≠ 0) :
    Calls Tryz.prog 91 #[ptr b] w (RM w b l (.string ByteArray.empty) (at_, e)) := by
  have HH := Lib.hid h
  obtain ⟨v, hb, -, -, -⟩ := h
  have H := Lib.hid hb
  have HE := Lib.hid he
  clear hb he
  go_enter Tryz.func91, Tryz.ntmps91
  go_wp2_with (first
    | (go_at_call 113; refine (number_yes b _ _ _ _ H.out HE.out).mono ?_; rintro e w' ⟨rfl, rfl⟩)
    | (go_at_call 114; refine (stopped_yes b _ _ _ _ H.out HE.out).mono ?_; rintro e w' ⟨rfl, rfl⟩))
  go_ret
  exact ⟨rfl, HH.out, grown_refl _ _⟩

set_option maxRecDepth 100000 in
set_option maxHeartbeats 1000000 in
theorem text_err (b : Nat) (l : List UInt8) (at_ : Nat) (w : World) (h : Rdr w b l at_ 0) (hr : (Wire.read (l.drop at_)).2.2 ≠ 0) :
    Calls Tryz.prog 91 #[ptr b] w (RM w b l (.string ByteArray.empty) (at_, ((Wire.read (l.drop at_)).2.2 : Int))) := by
  have HH := Lib.hid h
  have HR := Lib.hid hr
  clear h hr
  go_enter Tryz.func91, Tryz.ntmps91
  go_wp2_with (first
    | (go_at_call 113; refine (number_err b l at_ _ HH.out HR.out).mono ?_; rintro e w1 ⟨rfl, hr1, hg1⟩; have HR1 := Lib.hid hr1; have HG1 := Lib.hid hg1; clear hr1 hg1)
    | (go_at_call 114; refine (stopped_yes b HR1.out.choose _ _ _ HR1.out.choose_spec.1 (by have := HR.out; omega)).mono ?_; rintro e w' ⟨rfl, rfl⟩))
  go_ret
  exact ⟨rfl, HR1.out, HG1.out⟩

set_option maxRecDepth 100000 in
set_option maxHeartbeats 1000000 in
theorem text_long (b : Nat) (l : List UInt8) (at_ : Nat) (w : World) (h : Rdr w b l at_ 0) (hr : (Wire.read (l.drop at_)).2.2 = 0) (hx : 65536 < (Wire.read (l.drop at_)).1) :
    Calls Tryz.prog 91 #[ptr b] w (RM w b l (.string ByteArray.empty) (at_, 3)) := by
  have HH := Lib.hid h
  have HR := Lib.hid hr
  obtain ⟨v, hb, -, -, -⟩ := h
  have c2 := hb.cell (j := 2) rfl
  have f2 := hb.free 2
  have H := Lib.hid hb
  clear hr hb
  go_enter Tryz.func91, Tryz.ntmps91
  go_wp2_with (first
    | (go_at_call 113; refine (number_ok b l at_ _ HH.out HR.out).mono ?_; rintro e w1 ⟨rfl, n, rfl⟩)
    | (go_at_call 114; refine (stopped_no b _ _ _ (by exact H.out)).mono ?_; rintro e w' ⟨rfl, hw'⟩; subst hw'))
  go_ret
  exact ⟨rfl, (HH.out.drewN n).setE 3, grown_set (grown_drewN (grown_refl _ _) n) 2 _⟩

set_option maxRecDepth 100000 in
set_option maxHeartbeats 1000000 in
theorem text_short (b : Nat) (l : List UInt8) (at_ : Nat) (w : World) (h : Rdr w b l at_ 0) (hl : l.length ≤ 9223372036854775807) (hr : (Wire.read (l.drop at_)).2.2 = 0) (hx : (Wire.read (l.drop at_)).1 ≤ 65536) (hs : l.length - at_ - (Wire.read (l.drop at_)).2.1 < (Wire.read (l.drop at_)).1) :
    Calls Tryz.prog 91 #[ptr b] w (RM w b l (.string ByteArray.empty) (at_, 4)) := by
  have HH := Lib.hid h
  have HR := Lib.hid hr
  have hn : at_ + (Wire.read (l.drop at_)).2.1 ≤ l.length := by
    have := Wire.read_le hr
    have := rdr_le h
    simp at *; omega
  obtain ⟨v, hb, hv, hown, hat⟩ := h
  obtain ⟨p, c, rfl, hc, hm, -⟩ := hv.parts
  have c0 := hb.cell (j := 0) rfl
  have c1 := hb.cell (j := 1) rfl
  have c2 := hb.cell (j := 2) rfl
  have f1 := hb.free 1
  have f2 := hb.free 2
  have H := Lib.hid hb
  have HV := Lib.hid hv
  have HO := Lib.hid hown
  have HM := Lib.hid hm
  have hsn : ((l.length : Int) - (at_ : Int) - ((Wire.read (l.drop at_)).2.1 : Int)) = ((l.length - at_ - (Wire.read (l.drop at_)).2.1 : Nat) : Int) := by omega
  have s1 : IntKind.i64.wrap ((l.length : Int) - (at_ : Int)) = (l.length : Int) - (at_ : Int) := IntWalk.i64_in _ (by omega)
  have s2 : IntKind.i64.wrap ((l.length : Int) - (at_ : Int) - ((Wire.read (l.drop at_)).2.1 : Int)) = ((l.length - at_ - (Wire.read (l.drop at_)).2.1 : Nat) : Int) := by rw [hsn]; exact IntWalk.i64_in _ (by omega)
  have s3 : IntKind.u64.wrap ((l.length - at_ - (Wire.read (l.drop at_)).2.1 : Nat) : Int) = ((l.length - at_ - (Wire.read (l.drop at_)).2.1 : Nat) : Int) := by rw [IntKind.wrap_u64]; omega
  clear hr hb hv hown hm hsn
  go_enter Tryz.func91, Tryz.ntmps91
  go_wp2_with (first
    | (go_at_call 113; refine (number_ok b l at_ _ HH.out HR.out).mono ?_; rintro e w1 ⟨rfl, n, rfl⟩)
    | (go_at_call 114; refine (stopped_no b _ _ _ (by exact H.out)).mono ?_; rintro e w' ⟨rfl, hw'⟩; subst hw'))
  go_quiet (fail)
  clear s1 s2 s3
  go_wp2
  go_ret
  exact ⟨rfl, (HH.out.drewN _).setE 4, grown_set (grown_drewN (grown_refl _ _) _) 2 _⟩

set_option maxRecDepth 100000 in
set_option maxHeartbeats 1000000 in
theorem text_ok (b : Nat) (l : List UInt8) (at_ : Nat) (w : World) (h : Rdr w b l at_ 0) (hl : l.length ≤ 9223372036854775807) (hr : (Wire.read (l.drop at_)).2.2 = 0) (hx : (Wire.read (l.drop at_)).1 ≤ 65536) (hs : (Wire.read (l.drop at_)).1 ≤ l.length - at_ - (Wire.read (l.drop at_)).2.1) :
    Calls Tryz.prog 91 #[ptr b] w (RM w b l (.string ⟨((l.drop (at_ + (Wire.read (l.drop at_)).2.1)).take (Wire.read (l.drop at_)).1).toArray⟩) (at_ + (Wire.read (l.drop at_)).2.1 + (Wire.read (l.drop at_)).1, 0)) := by
  have HH := Lib.hid h
  have HR := Lib.hid hr
  have hn : at_ + (Wire.read (l.drop at_)).2.1 ≤ l.length := by
    have := Wire.read_le hr
    have := rdr_le h
    simp at *; omega
  obtain ⟨v, hb, hv, hown, hat⟩ := h
  obtain ⟨p, c, rfl, hc, hm, -⟩ := hv.parts
  have c0 := hb.cell (j := 0) rfl
  have c1 := hb.cell (j := 1) rfl
  have c2 := hb.cell (j := 2) rfl
  have f1 := hb.free 1
  have f2 := hb.free 2
  have H := Lib.hid hb
  have HV := Lib.hid hv
  have HO := Lib.hid hown
  have HM := Lib.hid hm
  have hsn : ((l.length : Int) - (at_ : Int) - ((Wire.read (l.drop at_)).2.1 : Int)) = ((l.length - at_ - (Wire.read (l.drop at_)).2.1 : Nat) : Int) := by omega
  have s1 : IntKind.i64.wrap ((l.length : Int) - (at_ : Int)) = (l.length : Int) - (at_ : Int) := IntWalk.i64_in _ (by omega)
  have s2 : IntKind.i64.wrap ((l.length : Int) - (at_ : Int) - ((Wire.read (l.drop at_)).2.1 : Int)) = ((l.length - at_ - (Wire.read (l.drop at_)).2.1 : Nat) : Int) := by rw [hsn]; exact IntWalk.i64_in _ (by omega)
  have s3 : IntKind.u64.wrap ((l.length - at_ - (Wire.read (l.drop at_)).2.1 : Nat) : Int) = ((l.length - at_ - (Wire.read (l.drop at_)).2.1 : Nat) : Int) := by rw [IntKind.wrap_u64]; omega
  clear hr hb hv hown hm hsn
  go_enter Tryz.func91, Tryz.ntmps91
  go_wp2_with (first
    | (go_at_call 113; refine (number_ok b l at_ _ HH.out HR.out).mono ?_; rintro e w1 ⟨rfl, n, rfl⟩)
    | (go_at_call 114; refine (stopped_no b _ _ _ (by exact H.out)).mono ?_; rintro e w' ⟨rfl, hw'⟩; subst hw'))
  go_quiet (fail)
  obtain ⟨q1, rfl⟩ : ∃ q1, q1 = nq := ⟨_, rfl⟩
  clear s1 s2 s3
  go_wp2
  have b1 : (0 : Int) ≤ (at_ : Int) + ((Wire.read (l.drop at_)).2.1 : Int) := by omega
  have b2 : (at_ : Int) + ((Wire.read (l.drop at_)).2.1 : Int) ≤ (at_ : Int) + ((Wire.read (l.drop at_)).2.1 : Int) + ((Wire.read (l.drop at_)).1 : Int) := by omega
  have b3 : (at_ : Int) + ((Wire.read (l.drop at_)).2.1 : Int) + ((Wire.read (l.drop at_)).1 : Int) ≤ (c : Int) := by omega
  have b4 : ((at_ : Int) + ((Wire.read (l.drop at_)).2.1 : Int)).toNat = at_ + (Wire.read (l.drop at_)).2.1 := by omega
  have b5 : ((at_ : Int) + ((Wire.read (l.drop at_)).2.1 : Int) + ((Wire.read (l.drop at_)).1 : Int)).toNat = at_ + (Wire.read (l.drop at_)).2.1 + (Wire.read (l.drop at_)).1 := by omega
  have hcv : ∀ (a m : Nat) (u : Value), (convert 23 9 (.slice (if c = at_ + (Wire.read (l.drop at_)).2.1 then p else Option.map (fun x => x.add (at_ + (Wire.read (l.drop at_)).2.1)) p) (Wire.read (l.drop at_)).1 (c - (at_ + (Wire.read (l.drop at_)).2.1)))).run Tryz.prog (((w.drewN m).setCell ⟨b, 1, none⟩ u).drewN a) =
      .ok (.string ⟨((l.drop (at_ + (Wire.read (l.drop at_)).2.1)).take (Wire.read (l.drop at_)).1).toArray⟩) (((w.drewN m).setCell ⟨b, 1, none⟩ u).drewN a) := fun a m u =>
    run_str (rd_piece (HV.out.grownA (grown_drewN (grown_set (grown_drewN (grown_refl w (some b)) m) 1 u) a) (apart_of HO.out)) (by omega)) Tryz.underlying23 Tryz.underlying5 9 Tryz.underlying9
  go_quiet (fail)
  clear b1 b2 b3 b4 b5 hcv
  generalize (if c = at_ + (Wire.read (l.drop at_)).2.1 then p else Option.map (fun x => x.add (at_ + (Wire.read (l.drop at_)).2.1)) p) = pp
  go_wp2
  go_ret
  exact ⟨rfl, by have := ((HH.out.drewN (n + q1)).setAt (at_ + (Wire.read (l.drop at_)).2.1 + (Wire.read (l.drop at_)).1) (by omega)).drewN nq; simpa using this, grown_drewN (grown_set (grown_drewN (grown_refl _ _) _) 1 _) _⟩

theorem text_any (b : Nat) (l : List UInt8) (at_ : Nat) (e : Int) (w : World) (h : Rdr w b l at_ e) (hl : l.length ≤ 9223372036854775807) :
    Calls Tryz.prog 91 #[ptr b] w (RM w b l (.string ⟨(Wire.text l at_ e).1.toArray⟩) (Wire.text l at_ e).2) := by
  by_cases he : e = 0
  · subst he
    by_cases hr : (Wire.read (l.drop at_)).2.2 = 0
    · by_cases hx : (Wire.read (l.drop at_)).1 ≤ 65536
      · by_cases hs : (Wire.read (l.drop at_)).1 ≤ l.length - at_ - (Wire.read (l.drop at_)).2.1
        · exact (text_ok b l at_ w h hl hr hx hs).mono fun _ _ h => h.of (by simp [Wire.text, hr, Nat.not_lt.2 hx, Nat.not_lt.2 hs]) (by simp [Wire.text, hr, Nat.not_lt.2 hx, Nat.not_lt.2 hs])
        · exact (text_short b l at_ w h hl hr hx (by omega)).mono fun _ _ h => h.of (by simp [Wire.text, hr, Nat.not_lt.2 hx, Nat.lt_of_not_le hs]; rfl) (by simp [Wire.text, hr, Nat.not_lt.2 hx, Nat.lt_of_not_le hs])
      · exact (text_long b l at_ w h hr (by omega)).mono fun _ _ h => h.of (by simp [Wire.text, hr, Nat.lt_of_not_le hx]; rfl) (by simp [Wire.text, hr, Nat.lt_of_not_le hx])
    · exact (text_err b l at_ w h hr).mono fun _ _ h => h.of (by simp [Wire.text, hr]; rfl) (by simp [Wire.text, hr])
  · exact (text_stop b l at_ e w h he).mono fun _ _ h => h.of (by simp [Wire.text, he]; rfl) (by simp [Wire.text, he])
end Go.Proofs.YtopkfomlppnpeaaGreatDoor
