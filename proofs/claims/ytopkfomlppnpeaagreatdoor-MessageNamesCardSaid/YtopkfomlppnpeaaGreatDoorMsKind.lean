/- MsKind. -/
import Derived.Test.YtopkfomlppnpeaaGreatDoorMsOpen
namespace Go.Proofs.YtopkfomlppnpeaaGreatDoor.Ms
open Go.RowKit Go.Proofs.YtopkfomlppnpeaaGreatDoor

theorem opn_kind (b : List UInt8) : (opn b [3, 4]).2.2 ≠ 0 ∧ (opn b [3, 4]).1 = 0 ∨ (opn b [3, 4]).2.2 = 0 ∧ ((opn b [3, 4]).1 = 3 ∨ (opn b [3, 4]).1 = 4) := by
  unfold opn
  split
  · left; exact ⟨by assumption, rfl⟩
  · split
    · left; exact ⟨by decide, rfl⟩
    · right
      rename_i h
      refine ⟨rfl, ?_⟩
      simp only
      simp only [not_or, List.any_cons, List.any_nil, Bool.or_false] at h
      have h2 := h.2
      simp only [Bool.not_eq_false, Bool.or_eq_true, beq_iff_eq] at h2
      rcases h2 with h2 | h2
      · left; exact h2.symm
      · right; exact h2.symm
set_option maxRecDepth 100000 in
set_option maxHeartbeats 2000000 in
theorem kind_any (v : Value) (b : List UInt8) (w : World) (h : Rd w v b) (hl : b.length ≤ 1000000000) : Calls Tryz.prog 23 #[v] w fun e w' => e = .returned (.tuple #[.int .u8 ((opn b [3, 4]).1.toNat : Nat), .int .i64 ((opn b [3, 4]).2.2 : Nat)]) ∧ Below w.heap.size w w' := by
  have HOP : Hid (Calls Tryz.prog 41 #[v, .slice (some ⟨w.heap.size, 0, none⟩) 2 2] (w.alloc (.cells #[.int .u8 3, .int .u8 4] 5)) (OpF b [3, 4] (w.alloc (.cells #[.int .u8 3, .int .u8 4] 5)))) := Lib.hid (open_any _ _ b [3, 4] _ (h.below (below_alloc _ _)) (rd_blk (l := [3, 4]) (Blk.made w [.int .u8 3, .int .u8 4] _) (by simp)) hl (by simp))
  obtain ⟨kd, l, er, hop⟩ : ∃ kd l er, opn b [3, 4] = (kd, l, er) := ⟨_, _, _, rfl⟩
  have HOE := Lib.hid hop
  have hk := opn_kind b
  rw [hop] at hk ⊢
  simp only at hk ⊢
  clear hop h hl
  rcases hk with ⟨he, rfl⟩ | ⟨rfl, hk⟩
  · have HC2 := Lib.hid (HOP.out.mono (R' := fun e w' => e = .returned (.tuple #[.agg #[.int .u8 0, .slice none 0 0], .int .i64 er]) ∧ Below w.heap.size w w') fun e w' h9 => by unfold OpF at h9; rw [HOE.out] at h9; exact ⟨h9.2.1 he, below_and (below_alloc _ _) h9.1⟩)
    clear HOP HOE he
    go_enter Tryz.func23, Tryz.ntmps23
    go_upto_region 2 with (go_at_call 41; refine HC2.out.mono ?_; rintro e w2 ⟨rfl, hb⟩; have HB12 := Lib.hid hb; clear hb)
    obtain ⟨X, hX⟩ : ∃ X, X = w2.heap.size := ⟨_, rfl⟩
    obtain ⟨w3, hw3⟩ : ∃ w3, w3 = w2.alloc (.cells #[.int .u8 0, .slice none 0 0] 79) := ⟨_, rfl⟩
    have HX3 : Hid (Blk w3 X [.int .u8 0, .slice none 0 0] 79) := Lib.hid (by rw [hw3, hX]; exact Blk.made w2 [_, _] _)
    have HB3 : Hid (Below w.heap.size w w3) := Lib.hid (by rw [hw3]; exact below_and HB12.out (below_alloc _ _))
    rw [← hw3, ← hX]
    clear hw3 hX
    have x0 := HX3.out.cell (j := 0) rfl
    go_wp2
    go_ret2
    exact ⟨rfl, HB3.out⟩
  · obtain ⟨bn, hbn⟩ : ∃ bn, bn = l.length := ⟨_, rfl⟩
    have HC2 := Lib.hid (HOP.out.mono (R' := fun e w' => ∃ p2 c2, e = .returned (.tuple #[.agg #[.int .u8 (kd.toNat : Int), .slice p2 bn c2], .int .i64 0]) ∧ Below w.heap.size w w') fun e w' h9 => by
      unfold OpF at h9
      rw [HOE.out] at h9
      obtain ⟨h1, -, h3⟩ := h9
      obtain ⟨vb, h4, h5⟩ := h3 rfl
      obtain ⟨p2, c2, rfl⟩ := fresh_slice h5
      rw [← hbn] at h4
      exact ⟨p2, c2, h4, below_and (below_alloc _ _) h1⟩)
    clear HOP HOE hbn
    rcases hk with rfl | rfl
    · simp only [show ((3 : UInt8).toNat : Int) = 3 from rfl] at HC2 ⊢
      go_enter Tryz.func23, Tryz.ntmps23
      go_upto_region 2 with (go_at_call 41; refine HC2.out.mono ?_; rintro e w2 ⟨p2, c2, rfl, hb⟩; have HB12 := Lib.hid hb; clear hb)
      obtain ⟨X, hX⟩ : ∃ X, X = w2.heap.size := ⟨_, rfl⟩
      obtain ⟨w3, hw3⟩ : ∃ w3, w3 = w2.alloc (.cells #[.int .u8 3, .slice p2 bn c2] 79) := ⟨_, rfl⟩
      have HX3 : Hid (Blk w3 X [.int .u8 3, .slice p2 bn c2] 79) := Lib.hid (by rw [hw3, hX]; exact Blk.made w2 [_, _] _)
      have HB3 : Hid (Below w.heap.size w w3) := Lib.hid (by rw [hw3]; exact below_and HB12.out (below_alloc _ _))
      rw [← hw3, ← hX]
      clear hw3 hX
      have x0 := HX3.out.cell (j := 0) rfl
      go_wp2
      go_ret2
      exact ⟨rfl, HB3.out⟩
    · simp only [show ((4 : UInt8).toNat : Int) = 4 from rfl] at HC2 ⊢
      go_enter Tryz.func23, Tryz.ntmps23
      go_upto_region 2 with (go_at_call 41; refine HC2.out.mono ?_; rintro e w2 ⟨p2, c2, rfl, hb⟩; have HB12 := Lib.hid hb; clear hb)
      obtain ⟨X, hX⟩ : ∃ X, X = w2.heap.size := ⟨_, rfl⟩
      obtain ⟨w3, hw3⟩ : ∃ w3, w3 = w2.alloc (.cells #[.int .u8 4, .slice p2 bn c2] 79) := ⟨_, rfl⟩
      have HX3 : Hid (Blk w3 X [.int .u8 4, .slice p2 bn c2] 79) := Lib.hid (by rw [hw3, hX]; exact Blk.made w2 [_, _] _)
      have HB3 : Hid (Below w.heap.size w w3) := Lib.hid (by rw [hw3]; exact below_and HB12.out (below_alloc _ _))
      rw [← hw3, ← hX]
      clear hw3 hX
      have x0 := HX3.out.cell (j := 0) rfl
      go_wp2
      go_ret2
      exact ⟨rfl, HB3.out⟩
end Go.Proofs.YtopkfomlppnpeaaGreatDoor.Ms
