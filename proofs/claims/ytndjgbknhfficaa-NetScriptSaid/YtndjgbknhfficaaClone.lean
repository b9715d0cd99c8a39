/- Clone. -/
import Derived.Test.YtndjgbknhfficaaLib2
namespace Go.Proofs.Ytndjgbknhfficaa
open Go.RowKit

/-- the room that every append here asks for -/
def Room (n : Nat) : Prop := n ≤ 200000000000000
theorem Room.h63 {n m : Nat} (h : Room n) (hm : m ≤ 1000000) : n + m ≤ maxLen := by unfold Room at h; unfold maxLen; omega
theorem Room.bytes {n m : Nat} (h : Room n) (hm : m ≤ 1000000) : (n + m + (n + m) / 4 + 256) * 1 ≤ 281474976710656 := by unfold Room at h; omega
theorem Room.h630 {n : Nat} (h : Room n) : 0 + n ≤ maxLen := by unfold Room at h; unfold maxLen; omega
theorem Room.bytes0 {n : Nat} (h : Room n) : (0 + n + (0 + n) / 4 + 256) * 1 ≤ 281474976710656 := by unfold Room at h; omega

set_option maxHeartbeats 400000 in
theorem clone_any (v : Value) (l : List UInt8) (w : World) (h1 : Rd w v l) (hl : Room l.length) :
    Calls Try.prog 34 #[v] w fun e w' => ∃ v', e = .returned v' ∧ Fresh w.heap.size w' v' l ∧ Below w.heap.size w w' := by
  obtain ⟨p, c, rfl, hc, hm, hp⟩ : ∃ p c, v = .slice p l.length c ∧ l.length ≤ c ∧ c ≤ maxLen ∧ (p = none → l.length = 0 ∧ c = 0) := by
    obtain ⟨p, c, h⟩ := h1
    exact ⟨p, c, h.1, h.2.1, h.2.2.1, h.2.2.2.2.2.1⟩
  cases p with
  | none =>
    obtain ⟨h0, rfl⟩ := hp rfl
    have hl0 : l = [] := List.eq_nil_of_length_eq_zero h0
    subst hl0
    go_enter Try.func34, Try.ntmps34
    have hq : ∀ w : World, (binOp .eql 29 (.slice none 0 0) (.slice none 0 0)).run Try.prog w = .ok (.bool true) w := fun w => by kernel_rfl
    go_wp2
    go_ret
    exact ⟨_, rfl, World.ownsRow_nil _ _ _ _, Below.refl _ _⟩
  | some a =>
    obtain ⟨i0, hi, hz0, hz1, hz2⟩ := info_parts Try.uinfo
    have hq : ∀ w : World, (binOp .eql 29 (.slice (some a) l.length c) (.slice none 0 0)).run Try.prog w = .ok (.bool false) w := fun w => Lib.run_eql_slice_nil w _ _ (some a) l.length c 0 0 Try.underlying29
    go_enter Try.func34, Try.ntmps34
    have hsrc : Src Try.prog 1 29 (.slice (some a) l.length c) l.length (l.map B) (w.alloc (.cells #[] 5)) := (h1.below ((Below.refl _ _).alloc (Nat.le_refl _) _)).src Try.underlying29
    have hown : (w.alloc (.cells #[] 5)).ownsRow w.heap.size 5 1 (.slice (some ⟨w.heap.size, 0, none⟩) 0 0) 0 [] := World.ownsRow_lit w #[] 0 (Nat.le_refl _) (by simp [maxLen]) rfl
    have HS := Lib.hid hsrc
    have HO := Lib.hid hown
    clear hsrc hown h1
    go_wp2_with (at_builtin; refine wpList_app _ rfl _ _ 29 29 rfl w.heap.size 5 i0 (.int .u8 0) 1 1 Try.underlying29 hi hz0 hz1 hz2 rfl _ 0 [] rfl HO.out _ l.length (l.map B) rfl HS.out hl.h630 hl.bytes0 (by simp) ?_)
    intro v' w' hown' hgrow _
    have hb : Below w.heap.size w w' := below_grown ((Below.refl _ _).alloc (Nat.le_refl _) _) (by simp) HO.out hgrow
    have HB := Lib.hid hb
    have HN := Lib.hid hown'
    clear hb hown' hgrow
    go_wp2
    go_ret
    exact ⟨_, rfl, HN.out, HB.out⟩
theorem own_none (w : World) : (w.alloc (.cells #[] 5)).ownsRow w.heap.size 5 1 (.slice (some ⟨w.heap.size, 0, none⟩) 0 0) 0 [] := World.ownsRow_lit w #[] 0 (Nat.le_refl _) (by simp [maxLen]) rfl
theorem Rd.lit0 {w : World} {v : Value} {l : List UInt8} (h : Rd w v l) : Src Try.prog 1 29 v l.length (l.map B) (w.alloc (.cells #[] 5)) := (h.below ((Below.refl _ _).alloc (Nat.le_refl _) _)).src Try.underlying29
theorem fresh_zero {base : Nat} {w : World} {v : Value} {l : List UInt8} (h : w.ownsRow base 5 1 v (0 + l.length) ([] ++ l.map B)) : Fresh base w v l := by
  unfold Fresh; simpa using h

end Go.Proofs.Ytndjgbknhfficaa
