/- Own. -/
import Derived.Test.YtndjgbknhfficaaClone
import Derived.Laws.CopyOwn
namespace Go.Proofs.Ytndjgbknhfficaa
open Go.RowKit

/-- own bytes, with five places behind them -/
def OwnAt (w : World) (v : Value) (l : List UInt8) : Prop := ∃ g, v = .slice (some ⟨g, 0, none⟩) l.length (l.length + 5) ∧ Blk w g (l.map B ++ List.replicate 5 (B 222)) 5

theorem OwnAt.rd {w : World} {v : Value} {l : List UInt8} (h : OwnAt w v l) (hl : Room l.length) : Rd w v l := by
  obtain ⟨g, rfl, hb⟩ := h
  unfold Room at hl
  refine ⟨some ⟨g, 0, none⟩, l.length + 5, rfl, by omega, by unfold maxLen; omega, by simp, bytes_one l, by simp, .inr ⟨g, 0, rfl, fun j u hj => ?_⟩⟩
  rw [Nat.zero_add]
  refine hb.cell ?_
  rw [List.getElem?_append_left (by simpa using (List.getElem?_eq_some_iff.1 hj).1)]
  exact hj

theorem OwnAt.below {w w' : World} {v : Value} {l : List UInt8} (h : OwnAt w v l) (hb : Below w.heap.size w w') : OwnAt w' v l := by
  obtain ⟨g, rfl, h⟩ := h
  exact ⟨g, rfl, h.kept hb⟩

theorem fill_step (l : List UInt8) (k : Nat) (h : k < 5) :
    (l.map B ++ (List.replicate k (B 222) ++ List.replicate (5 - k) (B 0))).set (l.length + k) (B 222) = l.map B ++ (List.replicate (k + 1) (B 222) ++ List.replicate (5 - (k + 1)) (B 0)) := by
  obtain rfl | rfl | rfl | rfl | rfl : k = 0 ∨ k = 1 ∨ k = 2 ∨ k = 3 ∨ k = 4 := by omega
  all_goals simp [List.set_append, List.replicate]

theorem fill_at (l : List UInt8) (k : Nat) (h : k < 5) : (l.map B ++ (List.replicate k (B 222) ++ List.replicate (5 - k) (B 0)))[l.length + k]? = some (B 0) := by
  obtain rfl | rfl | rfl | rfl | rfl : k = 0 ∨ k = 1 ∨ k = 2 ∨ k = 3 ∨ k = 4 := by omega
  all_goals simp [List.getElem?_append, List.replicate]

theorem own_start (l : List UInt8) : splice (List.replicate (l.length + 5) (B 0)) 0 (l.map B) = l.map B ++ (List.replicate 0 (B 222) ++ List.replicate (5 - 0) (B 0)) := by
  simp [splice]

theorem own_cells (n : Nat) : (madeCells (Value.cells (.int .u8 0)) (n * 1)).toList = List.replicate n (B 0) := by
  rw [Nat.mul_one]
  exact toList_madeCells_one _ _

theorem owns_blk {w : World} {base g n : Nat} {xs : List Value} {e : TypeId} (h : w.ownsRow base e 1 (.slice (some ⟨g, 0, none⟩) n n) n xs) : Blk w g xs e := by
  obtain ⟨h1, h2⟩ := h
  rcases h2 with ⟨h2, _⟩ | ⟨g', cap, cur, hv, _, hh, _, _, hs, ht⟩
  · simp at h2
  · simp only [Value.slice.injEq, Option.some.injEq, Addr.mk.injEq, and_true, true_and] at hv
    obtain ⟨rfl, rfl⟩ := hv
    unfold Blk
    rw [hh, ← ht]
    congr 2
    rw [List.take_of_length_le (by simp [hs])]

theorem rd_src {w w1 : World} {p : Option Addr} {n c : Nat} {l : List UInt8} (h : Rd w (.slice p n c) l) (hb : Below w.heap.size w w1) (hp : 0 < (l.map B).length) :
    ∃ ad, p = some ad ∧ ∀ j v, (l.map B)[j]? = some v → w1.cell? (ad.add j) = some v := by
  obtain ⟨p', c', hv, h1, h2, h3, h4, h5, h6⟩ := h.below hb
  simp only [Value.slice.injEq] at hv
  obtain ⟨rfl, rfl, rfl⟩ := hv
  rcases h6 with h6 | ⟨b, o, rfl, ha⟩
  · rw [h6] at hp; simp at hp
  · exact ⟨_, rfl, fun j v hj => by rw [add_off]; exact ha j v hj⟩

set_option maxRecDepth 100000 in
set_option maxHeartbeats 1000000 in
theorem own_any (v : Value) (l : List UInt8) (w : World) (h1 : Rd w v l) (hl : Room l.length) :
    Calls Try.prog 19 #[v] w fun e w' => ∃ v', e = .returned v' ∧ OwnAt w' v' l ∧ Below w.heap.size w w' := by
  obtain ⟨i0, hi, hz0, hz1, hz2⟩ := info_parts Try.uinfo
  have hone : (Try.prog.info? 5).map (·.size) = some 1 := by rw [hi]; simp [hz1]
  obtain ⟨p, c, rfl, hc, hm, ha⟩ := h1.parts
  have hlm : l.length ≤ 9223372036854775000 := by unfold Room at hl; omega
  have H1 := Lib.hid h1
  have HA := Lib.hid ha
  have HM := Lib.hid hm
  clear h1 ha hm
  go_enter Try.func19, Try.ntmps19
  go_wp2_with (first
    | (at_make; go_must (refine wpList_make_full _ rfl _ _ 29 rfl w.heap.size 5 i0 (.int .u8 0) 1 Try.underlying29 hi hz0 hz1 _ _ _ _ (l.length + 5) rfl rfl (by simp) (by simp) (by rw [hz2]; have := hl; unfold Room at this; omega) (by have := hl; unfold Room at this; unfold maxLen; omega) (Nat.le_refl _) ?_); intro w1 hown1 hgrow1; rw [own_cells] at hown1; have HG1 := Lib.hid (owns_blk hown1); have HB1 := Lib.hid (Below.grown (Below.refl w.heap.size w) hgrow1 (Nat.le_refl _) (by simp)); clear hown1 hgrow1)
    | (refine wpList_copy_splice (o := ⟨some 11, _, _, _, _, _⟩) rfl (.tmp 9) (.tmp 10) 29 29 rfl 5 Try.underlying29 hone _ _ _ _ _ _ rfl rfl w.heap.size 0 _ 5 HG1.out (l.map B) (by simp [Nat.min_def]) (fun hp => ⟨rfl, rd_src H1.out HB1.out hp⟩) (by simp) (bytes_one l) w.heap.size w HB1.out (Nat.le_refl _) ?_; intro w2 hg2 hb2; rw [own_start] at hg2; have HB2 := Lib.hid hb2; clear hb2))
  clear HG1 HB1
  have HL := Lib.hid hl
  clear hl
  go_loopw [4] (fun i wr => ∃ k : Nat, k ≤ 5 ∧ i = .int .i64 ((l.length + k : Nat) : Int) ∧ Hid (Blk wr w.heap.size (l.map B ++ (List.replicate k (B 222) ++ List.replicate (5 - k) (B 0))) 5) ∧ Hid (Below w.heap.size w wr)) (fun i _ => l.length + 5 - (intOf i).toNat)
  case atStart => exact ⟨0, by omega, rfl, hg2, HB2⟩
  case round =>
    obtain ⟨k, hk, rfl, hg, hb⟩ := hrel
    by_cases hlt : k < 5
    · have e1 := hg.out.cell (fill_at l k hlt)
      have e2 := hg.out.free (l.length + k)
      go_wp2
      go_roundw
      case rel =>
        refine ⟨k + 1, by omega, by go_num, ?_, hb.out.setCell (Nat.le_refl _) _⟩
        show Blk _ _ _ _
        rw [← fill_step l k hlt]
        exact hg.out.set _ _
      case measure => simp [intOf]; omega
    · obtain rfl : k = 5 := by omega
      go_wp2
      go_ret
      exact ⟨_, rfl, ⟨_, rfl, by simpa using hg.out⟩, hb.out⟩

set_option maxRecDepth 100000 in
set_option maxHeartbeats 1000000 in
theorem kept_any (v b : Value) (l : List UInt8) (w : World) (h1 : OwnAt w v l) (h2 : Rd w b l) (hl : Room l.length) :
    Calls Try.prog 21 #[v, b] w fun e w' => e = .returned (.bool true) ∧ ∃ n, w' = w.drewN n := by
  obtain ⟨g, rfl, hg⟩ := h1
  obtain ⟨p, c, rfl, hc, hm, ha⟩ := h2.parts
  have hlm : l.length ≤ 9223372036854775000 := by unfold Room at hl; omega
  have HA := Lib.hid ha
  have HG := Lib.hid hg
  clear hg ha h2 hm hl
  have t1 : ((l.length : Int) != (l.length : Int)) = false := by simp
  go_enter Try.func21, Try.ntmps21
  go_wp2
  clear t1
  go_loopw [6] (fun i w' => ∃ k q : Nat, k ≤ l.length ∧ i = .int .i64 k ∧ w' = w.drewN q) (fun i _ => l.length - (intOf i).toNat)
  case atStart => exact ⟨0, 0, Nat.zero_le _, rfl, rfl⟩
  case round =>
    obtain ⟨k, q, hk, rfl, rfl⟩ := hrel
    by_cases hlt : k < l.length
    · obtain ⟨b2, o2, rfl, a2⟩ := HA.out.resolve_left (by rintro rfl; simp at hlt)
      have e1 := HG.out.cell (j := k) (u := B l[k]) (by rw [List.getElem?_append_left (by simpa using hlt)]; simp [hlt])
      have e2 := a2 k hlt
      clear a2
      generalize hx : l[k] = x at e1 e2
      have HX := Lib.hid hx
      clear hx
      go_wp2
      go_quiet (fail)
      have t1 : ((x.toNat : Int) != (x.toNat : Int)) = false := by simp
      go_wp2
      go_roundw
      case rel => exact ⟨k + 1, q + nq, by omega, by go_num, by first | rfl | rw [World.drewN_drewN]⟩
      case measure => simp [intOf]; omega
    · go_wp2
      go_loopw [7] (fun i w' => ∃ k q : Nat, k ≤ 5 ∧ i = .int .i64 ((l.length + k : Nat) : Int) ∧ w' = w.drewN q) (fun i _ => l.length + 5 - (intOf i).toNat)
      case atStart => exact ⟨0, q, by omega, rfl, rfl⟩
      case round =>
        obtain ⟨k2, q2, hk2, rfl, rfl⟩ := hrel
        by_cases hlt2 : k2 < 5
        · have e1 := HG.out.cell (j := l.length + k2) (u := .int .u8 222) (by
            rw [List.getElem?_append_right (by simp), List.getElem?_replicate, if_pos (by simp; omega)]; rfl)
          go_wp2
          go_roundw
          case rel => exact ⟨k2 + 1, q2, by omega, by go_num, rfl⟩
          case measure => simp [intOf]; omega
        · go_wp2
          go_ret
          exact ⟨rfl, q2, rfl⟩
end Go.Proofs.Ytndjgbknhfficaa
