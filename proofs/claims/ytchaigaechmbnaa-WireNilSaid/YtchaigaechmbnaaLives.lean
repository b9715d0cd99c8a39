/- lives, the chapter's own examples, answers true. -/
import Derived.Test.YtchaigaechmbnaaRef2
import Derived.Test.YtchaigaechmbnaaApp2
import Derived.Test.YtchaigaechmbnaaOwn
import Derived.Test.YtchaigaechmbnaaSame
import Derived.Test.YtchaigaechmbnaaLib2
namespace Go.Proofs.Ytchaigaechmbnaa
open Go.RowKit

theorem rd_lit (w : World) (l : List UInt8) (hl : l.length ≤ maxLen) : Rd (w.alloc (.cells (l.map B).toArray 5)) (.slice (some ⟨w.heap.size, 0, none⟩) l.length l.length) l := by
  refine ⟨some ⟨w.heap.size, 0, none⟩, l.length, rfl, Nat.le_refl _, hl, by simp, bytes_one _, by simp, .inr ⟨w.heap.size, 0, rfl, fun j u hj => ?_⟩⟩
  rw [Nat.zero_add]
  exact (Blk.made w _ _).cell hj

theorem Rdr.kept {w w' : World} {b : Nat} {l : List UInt8} {at_ : Nat} {e : Int} (h : Rdr w b l at_ e) (hb : Below w.heap.size w w') : Rdr w' b l at_ e := by
  obtain ⟨v, h1, hv, hown, hat⟩ := h
  exact ⟨v, h1.kept hb, hv.below hb, hown, hat⟩
theorem Rdr.lt {w : World} {b : Nat} {l : List UInt8} {at_ : Nat} {e : Int} (h : Rdr w b l at_ e) : b < w.heap.size := by
  obtain ⟨v, h1, _⟩ := h
  exact h1.lt
theorem RRdr.kept {w w' : World} {b : Nat} {l : List UInt8} {at_ : Nat} {e : Int} (h : RRdr w b l at_ e) (hb : Below w.heap.size w w') : RRdr w' b l at_ e := by
  obtain ⟨v, h1, hv, hown, hat⟩ := h
  exact ⟨v, h1.kept hb, hv.below hb, hown, hat⟩

theorem own_lt {w : World} {v : Value} {l : List UInt8} (h : Rd w v l) : ∀ b, v.ownBlock = some b → l ≠ [] → b < w.heap.size := by
  obtain ⟨p, c, rfl, hc, hm, ha⟩ := h.parts
  intro b hb hl
  obtain ⟨b', o, rfl, hat⟩ := ha.resolve_left hl
  simp [Value.ownBlock] at hb
  subst hb
  have h0 : 0 < l.length := by cases l <;> simp_all
  exact World.block_lt_of_cell? w _ (hat 0 h0)

set_option maxHeartbeats 400000 in
theorem new_any (v : Value) (l : List UInt8) (w : World) (h : Rd w v l) (ho : l ≠ [] → ∀ b, v.ownBlock = some b → b < w.heap.size) :
    Calls Try.prog 19 #[v] w fun e w' => e = .returned (ptr w.heap.size) ∧ Rdr w' w.heap.size l 0 0 ∧ Below w.heap.size w w' ∧ w'.heap.size = w.heap.size + 1 := by
  obtain ⟨p, c, rfl, -⟩ := h.parts
  have H := Lib.hid h
  have HO := Lib.hid ho
  clear h ho
  go_enter Try.func19, Try.ntmps19
  go_wp2
  go_ret
  refine ⟨rfl, ⟨_, Blk.made w [_, .int .i64 0, .int .i64 0, .bool true] _, H.out.below ((Below.refl _ _).alloc (Nat.le_refl _) _), HO.out, Nat.zero_le _⟩, (Below.refl _ _).alloc (Nat.le_refl _) _, by simp⟩

theorem new_op (v : Value) (l : List UInt8) (w : World) (h : Rd w v l) (ho : l ≠ [] → ∀ b, v.ownBlock = some b → b < w.heap.size) :
    Calls Try.prog 19 #[v] w fun e w' => ∃ b, e = .returned (ptr b) ∧ w.heap.size ≤ b ∧ Rdr w' b l 0 0 ∧ Below w.heap.size w w' :=
  (new_any v l w h ho).mono fun _ _ ⟨he, hr, hb, _⟩ => ⟨_, he, Nat.le_refl _, hr, hb⟩

theorem RM.state {w w' : World} {b : Nat} {l : List UInt8} {v : Value} {s : Nat × Int} {e : Ending} (h : RM w b l v s e w') {at_ : Nat} {er : Int} {u : Value} (hs : s = (at_, er)) (hv : v = u) : e = .returned u ∧ Rdr w' b l at_ er ∧ w.grownBy w' (some b) := by
  subst hs hv; exact h

abbrev five : List UInt8 := [1, 2, 97, 98, 7]

set_option maxRecDepth 100000 in
set_option maxHeartbeats 400000 in
theorem lives_any (w : World) :
    Calls Try.prog 10 #[] w fun e w' => e = .returned (.bool true) ∧ Below w.heap.size w w' := by
  have L1 := Lib.hid (show ∀ w : World, Rd (w.alloc (.cells #[.int .u8 172, .int .u8 2, .int .u8 9] 5)) (.slice (some ⟨w.heap.size, 0, none⟩) 3 3) [172, 2, 9] from fun w => rd_lit w [172, 2, 9] (by decide))
  have L2 := Lib.hid (show ∀ w : World, Rd (w.alloc (.cells #[.int .u8 1, .int .u8 2, .int .u8 97, .int .u8 98, .int .u8 7] 5)) (.slice (some ⟨w.heap.size, 0, none⟩) 5 5) five from fun w => rd_lit w five (by decide))
  have L3 := Lib.hid (show ∀ w : World, Rd (w.alloc (.cells #[.int .u8 172, .int .u8 2] 5)) (.slice (some ⟨w.heap.size, 0, none⟩) 2 2) [172, 2] from fun w => rd_lit w [172, 2] (by decide))
  have E1 := Lib.hid (show Wire.read [172, 2, 9] = (300, 2, 0) by decide)
  go_enter Try.func10, Try.ntmps10
  go_wp2_with fail
  refine (opq (read_any _ [172, 2, 9] _ (L1.out _))).mono ?_
  rw [E1.out]
  rintro e w1 ⟨rfl, hb⟩
  have HB1 := Lib.hid (below_and (below_alloc _ _) hb)
  clear hb
  go_wp2_with fail
  refine (new_op _ five _ (L2.out _) (by intro _ b hb; simp [Value.ownBlock] at hb; subst hb; simp)).mono ?_
  rintro e w2 ⟨b, rfl, hbb, hr, hb⟩
  have HR2 := Lib.hid hr
  have HB2 := Lib.hid (below_and (below_and HB1.out (below_alloc _ _)) hb)
  have HN := Lib.hid (show w.heap.size ≤ b by have := HB1.out.size; simp at hbb; omega)
  clear hb hr hbb HB1 L1 L2 E1
  go_wp2_with fail
  refine (appendUint_any _ [] 300 _ (rd_nil _) (by unfold Room; decide) (by decide)).mono ?_
  rintro e w3 ⟨v3, rfl, hf, hb⟩
  have HF3 := Lib.hid hf.rd
  have HR3 := Lib.hid (HR2.out.kept hb)
  have HB3 := Lib.hid (below_and HB2.out hb)
  clear hf hb HR2 HB2
  go_wp2_with fail
  refine (opq (same_any _ _ _ _ _ (HF3.out.below (below_alloc _ _)) (L3.out _))).mono ?_
  rw [show ([] ++ Wire.enc 300 == [172, 2]) = true from by decide]
  rintro e w4 ⟨rfl, hb⟩
  have HB4 := Lib.hid (below_and (below_and HB3.out (below_alloc _ _)) hb)
  have HR4 := Lib.hid ((HR3.out.kept (below_alloc _ _)).kept hb)
  clear hb HR3 HB3 HF3 L3
  go_wp2_with fail
  refine (bool_any b five 0 0 _ HR4.out).mono ?_
  intro e w5 hrm
  obtain ⟨rfl, hr, hg⟩ := hrm.state (at_ := 1) (er := 0) (u := .bool true) (by decide) (by rfl)
  have HR5 := Lib.hid hr
  have HB5 := Lib.hid (below_andG HB4.out hg HN.out)
  clear hr hg HR4 HB4 hrm
  go_wp2_with fail
  refine (text_any b five 1 0 _ HR5.out (by decide)).mono ?_
  intro e w6 hrm
  obtain ⟨rfl, hr, hg⟩ := hrm.state (at_ := 4) (er := 0) (u := .string ⟨#[97, 98]⟩) (by decide) (by rfl)
  have HR6 := Lib.hid hr
  have HB6 := Lib.hid (below_andG HB5.out hg HN.out)
  clear hr hg HR5 HB5 hrm
  go_wp2_with fail
  refine (uint_any b five 4 0 _ HR6.out (by decide)).mono ?_
  intro e w7 hrm
  obtain ⟨rfl, hr, hg⟩ := hrm.state (at_ := 5) (er := 0) (u := .int .u64 7) (by decide) (by rfl)
  have HR7 := Lib.hid hr
  have HB7 := Lib.hid (below_andG HB6.out hg HN.out)
  clear hr hg HR6 HB6 hrm
  go_wp2_with fail
  refine (done_any b five 5 0 _ HR7.out).mono ?_
  intro e w8 hrm
  obtain ⟨rfl, hr, hg⟩ := hrm.state (at_ := 5) (er := 0) (u := .int .i64 0) (by decide) (by rfl)
  have HB8 := Lib.hid (below_andG HB7.out hg HN.out)
  clear hr hg HR7 HB7 hrm
  go_wp2_with fail
  go_ret
  exact ⟨rfl, HB8.out⟩
end Go.Proofs.Ytchaigaechmbnaa
