/- RuPart. -/
import Derived.Test.YtdnoceancoclmaaGreatDoorM23
import Derived.Test.YtdnoceancoclmaaGreatDoorRuTight
import Derived.Test.YtdnoceancoclmaaGreatDoorRuNum
import Derived.Test.YtdnoceancoclmaaGreatDoorRuTab
namespace Go.Proofs.YtdnoceancoclmaaGreatDoor.Ru
open Go.RowKit Go.Proofs.YtdnoceancoclmaaGreatDoor

theorem bs_app (a b : List UInt8) : bs a ++ bs b = bs (a ++ b) := by
  apply ByteArray.ext
  simp [bs, ByteArray.data_append]
theorem bs_size (l : List UInt8) : (bs l).size = l.length := by show l.toArray.size = _; simp
theorem add_bs (a b : List UInt8) (h : a.length + b.length ≤ 9223372036854775807) (w : World) : (Op.stringOp .add (bs a) (bs b)).run Tryz.prog w = .ok (.string (bs (a ++ b))) w := by
  have := run_string_add_sum (P := Tryz.prog) w (bs a) (bs b) (by rw [bs_size, bs_size]; omega)
  rw [bs_app] at this
  exact this
/-- the contract of told at a node -/
def ToldC (L : List Nd) (i : Nat) (W : World → Prop) : Prop :=
  ∀ (v : Value) (w : World), Row w v 6 L.length (rwC ndC L) → W w → Calls Tryz.prog 21 #[v, .int .i64 (i : Int)] w fun r w' => r = .returned (.string (bs (tl L i))) ∧ Below w.heap.size w w'

set_option maxRecDepth 100000 in
set_option maxHeartbeats 1000000 in
theorem part_any (L : List Nd) (i : Nat) (W : World → Prop) (h : ToldC L i W) (hi : i < L.length) (m : Int) (bx : Nat) (v : Value) (w : World) (hb : w.cell? ⟨bx, 0, none⟩ = some v) (hr : Row w v 6 L.length (rwC ndC L)) (hw : W w) (hlen : (tl L i).length ≤ 1000000000000000000) :
    Calls Tryz.prog 39 #[.int .i64 (i : Int), .int .i64 m, ptr bx] w fun r w' => r = .returned (.string (bs (par (decide (((tightK (kindAt L i) : Nat) : Int) < m)) (tl L i)))) ∧ Below w.heap.size w w' := by
  have HC := Lib.hid (h v w hr hw)
  have HR := Lib.hid hr
  have HL := Lib.hid hlen
  obtain ⟨p, c, rfl, h1, h2, h3, h4, h5, h6⟩ := hr
  have HLC : Hid (∃ b o, p = some ⟨b, o, none⟩ ∧ w.cell? ⟨b, o + i * 6, none⟩ = some (.int .i64 (kindAt L i))) := Lib.hid (by
    rcases h6 with h6 | ⟨b, o, hp, ha⟩
    · rw [h6] at h3; simp at h3; omega
    · refine ⟨b, o, hp, ha (i * 6) _ ?_⟩
      have := rwC_at (c := ndC) (k := 6) (fun _ => rfl) hi (j := 0) (by omega)
      rw [Nat.add_zero] at this
      rw [this]
      unfold kindAt
      rw [List.getElem?_eq_getElem hi]
      rfl)
  obtain ⟨b, o, rfl, hcell⟩ := HLC.out
  have HCELL := Lib.hid hcell
  have HBX := Lib.hid hb
  have i0 : (0 : Int) ≤ (i : Int) := by omega
  have i1 : (i : Int) < (L.length : Int) := by omega
  obtain ⟨tk, htk⟩ : ∃ tk : Int, tk = ((tightK (kindAt L i) : Nat) : Int) := ⟨_, rfl⟩
  have HTK : Hid (∀ wx, Calls Tryz.prog 40 #[.int .i64 (kindAt L i)] wx fun r w' => r = .returned (.int .i64 tk) ∧ w' = wx) := Lib.hid (fun wx => by rw [htk]; exact tight_any _ wx)
  rw [← htk]
  clear htk
  obtain ⟨t, ht⟩ : ∃ t, t = tl L i := ⟨_, rfl⟩
  rw [← ht]
  rw [← ht] at HL HC
  clear ht
  clear h hw hlen h1 h2 h3 h4 h5 h6 HLC hcell
  go_enter Tryz.func39, Tryz.ntmps39
  go_upto_region 2 with (go_at_call 21; refine HC.out.mono ?_; rintro r w2 ⟨rfl, hb2⟩; have HB2 := Lib.hid hb2; clear hb2)
  have c1 : w2.cell? ⟨bx, 0, none⟩ = some (.slice (some ⟨b, o, none⟩) L.length c) := by rw [HB2.out.cell (p := ⟨bx, 0, none⟩) (World.block_lt_of_cell? w _ HBX.out)]; exact HBX.out
  have c2 : w2.cell? ⟨b, o + i * 6, none⟩ = some (.int .i64 (kindAt L i)) := by rw [HB2.out.cell (p := ⟨b, o + i * 6, none⟩) (World.block_lt_of_cell? w _ HCELL.out)]; exact HCELL.out
  by_cases hlt : tk < m
  · have hadd1 : ∀ w, (Op.stringOp .add ⟨#[40]⟩ (bs t)).run Tryz.prog w = .ok (.string (bs (40 :: t))) w := fun w => add_bs [40] t (by have := HL.out; simp; omega) w
    have hadd2 : ∀ w, (Op.stringOp .add (bs (40 :: t)) ⟨#[41]⟩).run Tryz.prog w = .ok (.string (bs (40 :: (t ++ [41])))) w := fun w => add_bs (40 :: t) [41] (by have := HL.out; simp; omega) w
    have HPT : Hid (bs (par (decide (tk < m)) t) = bs (40 :: (t ++ [41]))) := Lib.hid (by rw [decide_eq_true hlt, par_true])
    have t1 : decide (tk < m) = true := decide_eq_true hlt
    go_wp2_with (go_at_call 40; refine (HTK.out _).mono ?_; rintro r w3 ⟨rfl, rfl⟩)
    go_ret
    exact ⟨by rw [HPT.out]; rfl, HB2.out⟩
  · have HPT : Hid (bs (par (decide (tk < m)) t) = bs t) := Lib.hid (by rw [decide_eq_false hlt, par_false])
    have t1 : decide (tk < m) = false := decide_eq_false hlt
    go_wp2_with (go_at_call 40; refine (HTK.out _).mono ?_; rintro r w3 ⟨rfl, rfl⟩)
    go_ret
    exact ⟨by rw [HPT.out]; rfl, HB2.out⟩
end Go.Proofs.YtdnoceancoclmaaGreatDoor.Ru
