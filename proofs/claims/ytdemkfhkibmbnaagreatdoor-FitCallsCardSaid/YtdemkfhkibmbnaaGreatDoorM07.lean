/- RuMem, RuTab. -/
import Derived.Test.YtdemkfhkibmbnaaGreatDoorM00
import Derived.Test.YtdemkfhkibmbnaaGreatDoorLate
import Derived.Test.YtdemkfhkibmbnaaGreatDoorM06
import Derived.Outline
import Derived.Deep.DeepCutAuto
import Derived.Test.YtdemkfhkibmbnaaGreatDoorShelf
import Derived.Lib.ItoaLen
set_option maxRecDepth 100000
set_option maxHeartbeats 8000000
namespace Go.Proofs.YtdemkfhkibmbnaaGreatDoor.Ru
open Go.RowKit Go.Proofs.YtdemkfhkibmbnaaGreatDoor
def bs (l : List UInt8) : ByteArray := ⟨l.toArray⟩
abbrev ndC (x : Nd) : List Value := [.int .i64 x.k, .string (bs x.nm), .string (bs x.vl), .int .i64 x.x, .int .i64 x.a, .int .i64 x.b]
abbrev ndV (x : Nd) : Value := .agg #[.int .i64 x.k, .string (bs x.nm), .string (bs x.vl), .int .i64 x.x, .int .i64 x.a, .int .i64 x.b]
theorem ndC_len (x : Nd) : (ndC x).length = 6 := rfl
theorem ndC_one (x : Nd) : ∀ u ∈ ndC x, u.oneCell' = true := by
 intro u hu; simp only [ndC, List.mem_cons, List.not_mem_nil, or_false] at hu; rcases hu with rfl | rfl | rfl | rfl | rfl | rfl <;> rfl
def rest (s : ByteArray) (k : Nat) : List UInt8 := s.data.toList.drop k
theorem rest_len (s : ByteArray) (k : Nat) : (rest s k).length = s.size - k := by unfold rest; rw [List.length_drop]; simp
theorem rest_at {s : ByteArray} {k : Nat} (h : k < s.size) : rest s k = s.data.toList[k]'(by simpa using h) :: rest s (k + 1) := by
 unfold rest
 exact List.drop_eq_getElem_cons (by simpa using h)
theorem rest_end (s : ByteArray) : rest s s.size = [] := by unfold rest; simp
theorem rest_drop (s : ByteArray) (k j : Nat) : (rest s k).drop j = rest s (k + j) := by unfold rest; rw [List.drop_drop]
theorem pos_rest {s : ByteArray} {k : Nat} (h : k ≤ s.size) : pos s.size (rest s k) = (k : Int) := by unfold pos; rw [rest_len]; omega
structure Prs (base : Nat) (w : World) (b : Nat) (s : ByteArray) (k : Nat) (d n : Int) (v : Value) (L : List Nd) (e a : Int) : Prop where
 blk : Blk w b [.string s, .int .i64 (k : Int), .int .i64 d, .int .i64 n, v, .int .i64 e, .int .i64 a] 115
 own : w.ownsRow base 69 6 v L.length (rwC ndC L)
 hb : base ≤ b
 kb : k ≤ s.size
 sz : s.size ≤ 1024
section
variable {base : Nat} {w w' : World} {b : Nat} {s : ByteArray} {k : Nat} {d n : Int} {v : Value} {L : List Nd} {e a : Int}
theorem Prs.nb (h : Prs base w b s k d n v L e a) : v.ownBlock ≠ some b := own_ty h.own h.blk (by decide)
theorem Prs.kept (h : Prs base w b s k d n v L e a) (hb : Below w.heap.size w w') : Prs base w' b s k d n v L e a :=
 ⟨h.blk.kept hb, own_fr h.own (Fr.of_below hb []) (fun _ _ => by simp), h.hb, h.kb, h.sz⟩
theorem Prs.at (h : Prs base w b s k d n v L e a) {k' : Nat} (hk : k' ≤ s.size) : Prs base (w.setCell ⟨b, 1, none⟩ (.int .i64 (k' : Int))) b s k' d n v L e a :=
 ⟨h.blk.set 1 _, own_other h.own (p := ⟨b, 1, none⟩) h.nb _, h.hb, hk, h.sz⟩
theorem Prs.deep (h : Prs base w b s k d n v L e a) (d' : Int) : Prs base (w.setCell ⟨b, 2, none⟩ (.int .i64 d')) b s k d' n v L e a :=
 ⟨h.blk.set 2 _, own_other h.own (p := ⟨b, 2, none⟩) h.nb _, h.hb, h.kb, h.sz⟩
theorem Prs.num (h : Prs base w b s k d n v L e a) (n' : Int) : Prs base (w.setCell ⟨b, 3, none⟩ (.int .i64 n')) b s k d n' v L e a :=
 ⟨h.blk.set 3 _, own_other h.own (p := ⟨b, 3, none⟩) h.nb _, h.hb, h.kb, h.sz⟩
theorem Prs.fault (h : Prs base w b s k d n v L e a) (e' a' : Int) : Prs base ((w.setCell ⟨b, 5, none⟩ (.int .i64 e')).setCell ⟨b, 6, none⟩ (.int .i64 a')) b s k d n v L e' a' :=
 ⟨(h.blk.set 5 _).set 6 _, own_other (own_other h.own (p := ⟨b, 5, none⟩) h.nb _) (p := ⟨b, 6, none⟩) h.nb _, h.hb, h.kb, h.sz⟩
abbrev Onb (b : Nat) (w w' : World) : Prop := Frp (fun j => j = b) w w'
theorem Onb.set {b : Nat} {a w : World} (h : Onb b a w) (i : Nat) (u : Value) : Onb b a (w.setCell ⟨b, i, none⟩ u) := Frp.set h (p := ⟨b, i, none⟩) rfl u
end
def skip (s : ByteArray) (k : Nat) : Nat := s.size - (blk (rest s k)).length
theorem blk_rest (s : ByteArray) : ∀ (m k : Nat), s.size - k ≤ m → k ≤ s.size → ∃ j, k ≤ j ∧ j ≤ s.size ∧ blk (rest s k) = rest s j ∧ (∀ i (hi : i < s.size), k ≤ i → i < j → sp (s.data.toList[i]'(by simpa using hi)) = true) ∧ (∀ h : j < s.size, sp (s.data.toList[j]'(by simpa using h)) = false)
 | m, k, hm, hk => by
  by_cases hlt : k < s.size
  ·cases hq : sp (s.data.toList[k]'(by simpa using hlt))
   ·exact ⟨k, Nat.le_refl _, hk, by rw [rest_at hlt, blk_head hq], fun i _ h1 h2 => by omega, fun _ => hq⟩
   ·match m, hm with
    | 0, hm => omega
    | m + 1, hm =>
     obtain ⟨j, h1, h2, h3, h4, h5⟩ := blk_rest s m (k + 1) (by omega) hlt; refine ⟨j, by omega, h2, ?_, fun i hi h6 h7 => ?_, h5⟩
     ·rw [rest_at hlt]
      unfold blk at *
      rw [List.dropWhile_cons, hq, if_pos rfl]; exact h3
     ·by_cases e : i = k
      ·subst e; exact hq
      ·exact h4 i hi (by omega) h7
  ·obtain rfl : k = s.size := by omega
   exact ⟨s.size, Nat.le_refl _, Nat.le_refl _, by rw [rest_end]; rfl, fun i _ h1 h2 => by omega, fun h => by omega⟩
theorem skip_is {s : ByteArray} {k : Nat} (hk : k ≤ s.size) : k ≤ skip s k ∧ skip s k ≤ s.size ∧ blk (rest s k) = rest s (skip s k) ∧ (∀ i (hi : i < s.size), k ≤ i → i < skip s k → sp (s.data.toList[i]'(by simpa using hi)) = true) ∧ (∀ h : skip s k < s.size, sp (s.data.toList[skip s k]'(by simpa using h)) = false) := by
 obtain ⟨j, h1, h2, h3, h4, h5⟩ := blk_rest s _ k (Nat.le_refl _) hk
 have e : skip s k = j := by
  unfold skip
  rw [h3, rest_len]
  omega
 rw [e]; exact ⟨h1, h2, h3, h4, h5⟩
theorem skip_skip {s : ByteArray} {k : Nat} (hk : k ≤ s.size) : skip s (skip s k) = skip s k := by
 obtain ⟨h1, h2, h3, -, -⟩ := skip_is hk
 unfold skip at *
 rw [← h3, blk_blk]
theorem Prs.p0 {base : Nat} {w : World} {b : Nat} {s : ByteArray} {k : Nat} {d n : Int} {v : Value} {L : List Nd} {e a : Int} (h : Prs base w b s k d n v L e a) : ∀ t : Past w, t.val.cell? ⟨b, 0, none⟩ = some (.string s) := Past.blk h.blk (j := 0) rfl
theorem Prs.p1 {base : Nat} {w : World} {b : Nat} {s : ByteArray} {k : Nat} {d n : Int} {v : Value} {L : List Nd} {e a : Int} (h : Prs base w b s k d n v L e a) : ∀ t : Past w, t.val.cell? ⟨b, 1, none⟩ = some (.int .i64 (k : Int)) := Past.blk h.blk (j := 1) rfl
theorem blanks_any (base b : Nat) (s : ByteArray) (k : Nat) (d n : Int) (v : Value) (L : List Nd) (e a : Int) (w : World) (h : Prs base w b s k d n v L e a) :
  Calls Tryz.prog 87 #[ptr b] w fun r w' => r = .returned (.tuple #[]) ∧ Prs base w' b s (skip s k) d n v L e a ∧ Onb b w w' := by
 obtain ⟨hj1, hj2, -, hj4, hj5⟩ := skip_is h.kb; obtain ⟨j, hj⟩ : ∃ j, j = skip s k := ⟨_, rfl⟩; rw [← hj] at hj1 hj2 ⊢; have HSP : Hid (∀ i (hi : i < s.size), k ≤ i → i < j → sp s[i] = true) := zz (fun i hi h1 h2 => hj4 i hi h1 (by omega)); have HST : Hid (∀ h : j < s.size, sp s[j] = false) := zz (by subst hj; exact hj5); have H := zz h; have hsz := h.sz; clear h hj4 hj5 hj; go_enter Tryz.func87, Tryz.ntmps87; go_wp2
 go_loopw [] (fun wr => ∃ i : Nat, k ≤ i ∧ i ≤ j ∧ Hid (Prs base wr b s i d n v L e a) ∧ Hid (Onb b w wr)) (fun wr => j - (intOf ((wr.cell? ⟨b, 1, none⟩).getD undef)).toNat)
 case atStart => exact ⟨k, Nat.le_refl _, hj1, H, zz (Frp.refl _ _)⟩
 case round =>
  obtain ⟨i, h1, h2, HP, HF⟩ := hrel; have b0 := HP.o.p0; have b1 := HP.o.p1; have i0 : (0 : Int) ≤ (i : Int) := by omega
  by_cases hlt : i < j
  ·have i2 : i < s.size := by omega
   have i1 : (i : Int) < (s.size : Int) := by omega
   obtain ⟨c, hc⟩ : ∃ c, c = s[i] := ⟨_, rfl⟩; have hq := HSP.o i i2 h1 hlt; have hcc : s[i] = c := hc.symm; have t1 : ((c.toNat : Int) == 32) = true := by rw [hcc] at hq; unfold sp at hq; simp at hq ⊢; omega
   clear hc hq; go_wp2; refine wp_region_past (by kernel_rfl) (by kernel_rfl) ?_
   repeat (go_big_quiet_step (fail))
   refine wpQuiet_nil ?_; intro _ hw'; obtain ⟨s9, hw''⟩ := hw'; subst hw''; obtain ⟨w9, h9, e9⟩ : ∃ w9, Below wr.heap.size wr w9 ∧ w9 = s9.val := ⟨_, s9.h, rfl⟩; rw [← e9]; have HN := zz (HP.o.kept h9); have HF9 := zz (HF.o.next h9); clear h9 e9 b0 b1; have b1 := HN.o.blk.cell (j := 1) rfl; have f1 := HN.o.blk.free 1; go_wp2; go_roundw
   case rel => exact ⟨i + 1, by omega, hlt, zz (by have := HN.o.at (k' := i + 1) (by omega); simpa using this), zz (Onb.set HF9.o 1 _)⟩
   case measure =>
    have e1 := HP.o.blk.cell (j := 1) rfl; have e2 := (HN.o.blk.set 1 (.int .i64 ((i : Int) + 1))).cell (j := 1) rfl; rw [e1, e2]
    simp [intOf]; omega
  ·obtain rfl : i = j := by omega
   by_cases hin : i < s.size
   ·have i1 : (i : Int) < (s.size : Int) := by omega
    obtain ⟨c, hc⟩ : ∃ c, c = s[i] := ⟨_, rfl⟩; have hq := HST.o hin; have hcc : s[i] = c := hc.symm; have t1 : ((c.toNat : Int) == 32) = false := by rw [hcc] at hq; unfold sp at hq; simp at hq ⊢; omega
    clear hc hq; go_wp2; refine wp_region_past (by kernel_rfl) (by kernel_rfl) ?_
    repeat (go_big_quiet_step (fail))
    refine wpQuiet_nil ?_; intro _ hw'; obtain ⟨s9, hw''⟩ := hw'; subst hw''; obtain ⟨w9, h9, e9⟩ : ∃ w9, Below wr.heap.size wr w9 ∧ w9 = s9.val := ⟨_, s9.h, rfl⟩; rw [← e9]; have HN := zz (HP.o.kept h9); have HF9 := zz (HF.o.next h9); clear h9 e9 b0 b1; go_wp2; refine end0 rfl rfl ⟨rfl, HN.o, HF9.o⟩
   ·have i1 : ¬ (i : Int) < (s.size : Int) := by omega
    go_wp2; refine wp_region_past (by kernel_rfl) (by kernel_rfl) ?_
    repeat (go_big_quiet_step (fail))
    refine wpQuiet_nil ?_; intro _ hw'; obtain ⟨s9, hw''⟩ := hw'; subst hw''; obtain ⟨w9, h9, e9⟩ : ∃ w9, Below wr.heap.size wr w9 ∧ w9 = s9.val := ⟨_, s9.h, rfl⟩; rw [← e9]; have HN := zz (HP.o.kept h9); have HF9 := zz (HF.o.next h9); clear h9 e9 b0 b1; go_wp2; refine end0 rfl rfl ⟨rfl, HN.o, HF9.o⟩
open Go.Sort (grow)
def Tab (w : World) : Prop := Lib.TabIs Tryz.prog w "internal/strconv.uint64pow10" .u64 Lib.pow10Tab
theorem Tab.below {w w' : World} (h : Tab w) (hb : Below w.heap.size w w') : Tab w' := by
 unfold Tab Lib.TabIs World.var? at *
 obtain ⟨g, hgn⟩ : ∃ g, Tryz.prog.globalNamed "internal/strconv.uint64pow10" = some g := by
  cases hq : Tryz.prog.globalNamed "internal/strconv.uint64pow10" with
  | some g => exact ⟨g, rfl⟩
  | none => rw [hq] at h; cases h
 rw [hgn] at h ⊢; simp only [Option.bind_some] at h ⊢
 have hlt : g < w.heap.size := by
  rcases Nat.lt_or_ge g w.heap.size with h' | h'
  ·exact h'
  ·rw [Array.getElem?_eq_none h'] at h; cases h
 rw [hb.block g hlt]; exact h
theorem bl_grow (w : World) (k : Nat) (os : Array Obj) : Below w.heap.size w (grow (w.drewN k) os) :=
 ⟨rfl, rfl, rfl, by simp [grow], fun j hj => by
  show (w.heap ++ os)[j]? = _
  rw [Array.getElem?_append_left hj]⟩
theorem format_any (n : Int) (h0 : -9223372036854775808 ≤ n) (h1 : n ≤ 9223372036854775807) (w : World) (ht : Tab w) :
  Calls Tryz.prog 91 #[.int .i64 n, .int .i64 10] w fun e w' => e = .returned (.string (bs (Lib.itoa n))) ∧ Below w.heap.size w w' :=
 (Tryz.strconv_FormatInt_10 n h0 h1 w ht).mono fun _ _ ⟨he, k, os, hw⟩ => ⟨he, by rw [hw]; exact bl_grow w k os⟩
