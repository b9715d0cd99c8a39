/- The document's table of leases: Sure, Names, Over, Heard. -/
import Derived.Test.YtmgcigohfccgeaaLsRef
import Derived.Test.YtmgcigohfccgeaaLate
import Derived.Test.YtmgcigohfccgeaaMid
namespace Go.Proofs.Ytmgcigohfccgeaa
open Go.RowKit

set_option maxRecDepth 100000 in
set_option maxHeartbeats 2000000 in
theorem rtsure (base k0 g : Nat) (v : Value) (n : Int) (x : Ls) (s : ByteArray) (w : World) (h : RTab base w g v n x) (hI : LsI k0 x) (hk0 : k0 ≤ 100000) :
    Calls Try.prog 70 #[ptr g, .string s] w fun e w' => e = .returned (.tuple #[.bool (lsSure x s).1, .int .i64 (lsSure x s).2]) ∧ Below w.heap.size w w' := by
  have HL := Lib.hid (rtleft base k0 g v n x s w h hI hk0)
  have hlr : ∃ z e : Int, lsLeft x s = (z, e) ∧ lsSure x s = (e == 0 && z == 0, e) := by
    unfold lsLeft lsSure
    cases hfd x.R s.data.toList with
    | none => exact ⟨0, 6, rfl, rfl⟩
    | some y => exact ⟨_, 0, rfl, by simp⟩
  obtain ⟨z, er, h1, h2⟩ := hlr
  rw [h2]
  have H1 := Lib.hid h1
  clear h hI h1 h2
  cases hq : (er == 0)
  all_goals
    go_enter Try.func70, Try.ntmps70
    go_wp2_with (go_at_call 71; refine HL.out.mono ?_; rw [H1.out]; rintro e w1 ⟨rfl, hb⟩; have HB := Lib.hid hb; clear hb)
    go_ret2
    exact ⟨rfl, HB.out⟩

theorem info_str28 : (Try.prog.info? 9).map (fun i => (i.zero, i.size, i.bytes)) = some (some (.string ⟨#[]⟩), 1, 16) := by kernel_rfl
theorem strV_snoc (L : List ByteArray) (x : ByteArray) : strV (L ++ [x]) = strV L ++ [.string x] := by unfold strV; simp
theorem strV_len (L : List ByteArray) : (strV L).length = L.length := by unfold strV; simp

set_option maxRecDepth 100000 in
set_option maxHeartbeats 2000000 in
theorem rtnames (base g : Nat) (v : Value) (n : Int) (x : Ls) (w : World) (h : RTab base w g v n x) (hl : x.R.length ≤ 100000) :
    Calls Try.prog 46 #[ptr g] w fun e w' => ∃ v, e = .returned v ∧ w'.ownsRow w.heap.size 9 1 v x.R.length (strV (lsNames x)) ∧ Below w.heap.size w w' := by
  obtain ⟨i0, hi, hz0, hz1, hz2⟩ := info_parts info_str28
  obtain ⟨p, c, rfl, hc, hm⟩ := h.shape
  have hml : maxLen ≤ 9223372036854775807 := by decide
  have H := Lib.hid h
  have HL := Lib.hid hl
  clear h
  go_enter Try.func46, Try.ntmps46
  go_wp2_with (go_at_call 68; refine (rtnone base g _ _ _ _ H.out).mono ?_; rintro e w' ⟨rfl, rfl⟩)
  go_loopw [3, 4] (fun o i wr => ∃ k : Nat, k ≤ x.R.length ∧ i = .int .i64 (k : Int) ∧ Hid (wr.ownsRow w.heap.size 9 1 o k (strV ((x.R.take k).map (·.n)))) ∧ Hid (Below w.heap.size w wr)) (fun _ i _ => x.R.length - (intOf i).toNat)
  case atStart => exact ⟨0, Nat.zero_le _, rfl, Lib.hid (World.ownsRow_nil _ _ _ _), Lib.hid (Below.refl _ _)⟩
  case round =>
    obtain ⟨k, hk, rfl, HO, HB⟩ := hrel
    have HR := Lib.hid (H.out.kept HB.out)
    have c4 := HR.out.blk.cell (j := 4) rfl
    by_cases hlt : k < x.R.length
    · have i1 : (k : Int) < (x.R.length : Int) := by omega
      obtain ⟨q, rfl, hcs⟩ := HR.out.at hlt
      obtain ⟨y, hy⟩ : ∃ y, y = x.R[k] := ⟨_, rfl⟩
      rw [← hy] at hcs
      have e0 : wr.cell? ⟨q, k * 4, none⟩ = some (.string y.n) := hcs 0 _ (by omega) rfl
      have HY : Hid (strV ((x.R.take (k + 1)).map (·.n)) = strV ((x.R.take k).map (·.n)) ++ [.string y.n]) := Lib.hid (by rw [List.take_succ_eq_append_getElem hlt, ← hy, List.map_append, ← strV_snoc]; rfl)
      have HSZ := Lib.hid HB.out.size
      clear hcs hy
      go_wp2_with (at_builtin; go_loud (refine wpList_app5 rfl _ _ 44 44 rfl w.heap.size 9 i0 (.string ⟨#[]⟩) 1 16 Try.underlying44 hi hz0 hz1 hz2 rfl _ k _ rfl (own_fr HO.out (Fr.of_below (below_alloc wr (.cells #[.string y.n] 9)) []) (fun _ _ => by simp)) _ 1 _ rfl (src_block Try.underlying44 _ _ #[_] (heap_alloc_new wr _) rfl (by simp [Value.oneCell'])) (by have := HL.out; unfold maxLen; omega) (by have := HL.out; omega) (by have := HSZ.out; simp; omega) ?_; intro o4 w4 ho4 hg4 hn4; have HO4 := Lib.hid ho4; have HB4 : Hid (Below w.heap.size w w4) := Lib.hid ((below_and HB.out (below_alloc wr _)).trans ((Fr.of_grown hg4).below (by intro y hy; exact own_lo HO.out (Option.mem_toList.1 hy)) (by have := HSZ.out; simp; omega))); clear ho4 hg4 hn4))
      go_roundw
      case rel => exact ⟨k + 1, hlt, by go_num, Lib.hid (by rw [HY.out]; exact HO4.out), HB4⟩
      case measure => simp [intOf]; omega
    · obtain rfl : k = x.R.length := by omega
      have HE := HO.out
      rw [List.take_length] at HE
      have HEE := Lib.hid HE
      clear HE
      go_wp2
      go_ret
      exact ⟨_, rfl, HEE.out, HB.out⟩

def ovN (x : Ls) (L : List Hr) : List ByteArray := (L.filter fun h => lsLeftOf x h == 0).map (·.n)
theorem ovN_yes {x : Ls} {L : List Hr} {y : Hr} {k : Nat} (hlt : k < L.length) (hy : y = L[k]) (h : (lsLeftOf x y == 0) = true) : ovN x (L.take (k + 1)) = ovN x (L.take k) ++ [y.n] := by
  unfold ovN
  rw [List.take_succ_eq_append_getElem hlt, ← hy, List.filter_append, List.map_append]
  simp [List.filter_cons, h]
theorem ovN_no {x : Ls} {L : List Hr} {y : Hr} {k : Nat} (hlt : k < L.length) (hy : y = L[k]) (h : (lsLeftOf x y == 0) = false) : ovN x (L.take (k + 1)) = ovN x (L.take k) := by
  unfold ovN
  rw [List.take_succ_eq_append_getElem hlt, ← hy, List.filter_append]
  simp [List.filter_cons, h]
theorem ovN_len (x : Ls) (L : List Hr) : (ovN x L).length ≤ L.length := by
  unfold ovN
  rw [List.length_map]
  exact List.length_filter_le _ _

set_option maxRecDepth 100000 in
set_option maxHeartbeats 2000000 in
theorem rtover (base k0 g : Nat) (v : Value) (n : Int) (x : Ls) (w : World) (h : RTab base w g v n x) (hI : LsI k0 x) (hk0 : k0 ≤ 100000) :
    Calls Try.prog 47 #[ptr g] w fun e w' => ∃ v, e = .returned v ∧ w'.ownsRow w.heap.size 9 1 v (lsOver x).length (strV (lsOver x)) ∧ Below w.heap.size w w' := by
  obtain ⟨i0, hi, hz0, hz1, hz2⟩ := info_parts info_str28
  obtain ⟨p, c, rfl, hc, hm⟩ := h.shape
  have hml : maxLen ≤ 9223372036854775807 := by decide
  have H := Lib.hid h
  have HI := Lib.hid hI
  have HK0 := Lib.hid hk0
  have HL : Hid (x.R.length ≤ 100000) := Lib.hid (by have := hI.len; omega)
  clear h hI hk0
  go_enter Try.func47, Try.ntmps47
  go_wp2_with (go_at_call 68; refine (rtnone base g _ _ _ _ H.out).mono ?_; rintro e w' ⟨rfl, rfl⟩)
  go_loopw [3, 4] (fun o i wr => ∃ k : Nat, k ≤ x.R.length ∧ i = .int .i64 (k : Int) ∧ Hid (wr.ownsRow w.heap.size 9 1 o (ovN x (x.R.take k)).length (strV (ovN x (x.R.take k)))) ∧ Hid (Below w.heap.size w wr)) (fun _ i _ => x.R.length - (intOf i).toNat)
  case atStart => exact ⟨0, Nat.zero_le _, rfl, Lib.hid (World.ownsRow_nil _ _ _ _), Lib.hid (Below.refl _ _)⟩
  case round =>
    obtain ⟨k, hk, rfl, HO, HB⟩ := hrel
    have HR := Lib.hid (H.out.kept HB.out)
    have c4 := HR.out.blk.cell (j := 4) rfl
    by_cases hlt : k < x.R.length
    · have i1 : (k : Int) < (x.R.length : Int) := by omega
      obtain ⟨q, rfl, hcs⟩ := HR.out.at hlt
      obtain ⟨y, hy⟩ : ∃ y, y = x.R[k] := ⟨_, rfl⟩
      rw [← hy] at hcs
      have e0 : wr.cell? ⟨q, k * 4, none⟩ = some (.string y.n) := hcs 0 _ (by omega) rfl
      have HE0 := Lib.hid e0
      have HSU := Lib.hid (rtsure base k0 g _ n x y.n wr HR.out HI.out HK0.out)
      have hfy : hfd x.R y.n.data.toList = some y := hfd_of HI.out.rise.apart (by rw [hy]; exact List.getElem_mem hlt)
      cases hq : (lsLeftOf x y == 0)
      · have HS2 : Hid (lsSure x y.n = (false, 0)) := Lib.hid (by unfold lsSure; rw [hfy]; simp only [hq])
        have HY : Hid (ovN x (x.R.take (k + 1)) = ovN x (x.R.take k)) := Lib.hid (ovN_no hlt hy hq)
        clear hcs hy hq hfy
        go_wp2_with (go_at_call 70; refine HSU.out.mono ?_; rw [HS2.out]; rintro e w2 ⟨rfl, hb⟩; have HB2 := Lib.hid hb; clear hb)
        go_roundw
        case rel => exact ⟨k + 1, hlt, by go_num, Lib.hid (by rw [HY.out]; exact own_keep HO.out HB2.out), Lib.hid (below_and HB.out HB2.out)⟩
        case measure => simp [intOf]; omega
      · have HS2 : Hid (lsSure x y.n = (true, 0)) := Lib.hid (by unfold lsSure; rw [hfy]; simp only [hq])
        have HY : Hid (ovN x (x.R.take (k + 1)) = ovN x (x.R.take k) ++ [y.n]) := Lib.hid (ovN_yes hlt hy hq)
        have HLE : Hid ((ovN x (x.R.take k)).length ≤ k) := Lib.hid (Nat.le_trans (ovN_len _ _) (by simp; omega))
        clear hcs hy hq hfy
        go_wp2_with (first
          | (go_at_call 70; refine HSU.out.mono ?_; rw [HS2.out]; rintro e w2 ⟨rfl, hb⟩; have c42 := (HR.out.kept hb).blk.cell (j := 4) rfl; have e02 := cell_kept HE0.out hb; have HO2 := Lib.hid (own_keep HO.out hb); have HB2 := Lib.hid (below_and HB.out hb); have HSZ := Lib.hid HB2.out.size; clear hb)
          | (at_builtin; go_loud (refine wpList_app5 rfl _ _ 44 44 rfl w.heap.size 9 i0 (.string ⟨#[]⟩) 1 16 Try.underlying44 hi hz0 hz1 hz2 rfl _ (ovN x (x.R.take k)).length _ rfl (own_fr HO2.out (Fr.of_below (below_alloc w2 (.cells #[.string y.n] 9)) []) (fun _ _ => by simp)) _ 1 _ rfl (src_block Try.underlying44 _ _ #[_] (heap_alloc_new w2 _) rfl (by simp [Value.oneCell'])) (by have := HL.out; have := HLE.out; unfold maxLen; omega) (by have := HL.out; have := HLE.out; omega) (by have := HSZ.out; simp; omega) ?_; intro o4 w4 ho4 hg4 hn4; have HO4 := Lib.hid ho4; have HB4 : Hid (Below w.heap.size w w4) := Lib.hid ((below_and HB2.out (below_alloc w2 _)).trans ((Fr.of_grown hg4).below (by intro y hy; exact own_lo HO2.out (Option.mem_toList.1 hy)) (by have := HSZ.out; simp; omega))); clear ho4 hg4 hn4)))
        go_roundw
        case rel => exact ⟨k + 1, hlt, by go_num, Lib.hid (by rw [HY.out, List.length_append, strV_snoc]; exact HO4.out), HB4⟩
        case measure => simp [intOf]; omega
    · obtain rfl : k = x.R.length := by omega
      have HE := HO.out
      rw [List.take_length] at HE
      have HEE := Lib.hid HE
      clear HE
      go_wp2
      go_ret
      exact ⟨_, rfl, HEE.out, HB.out⟩
end Go.Proofs.Ytmgcigohfccgeaa
