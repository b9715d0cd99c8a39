/- NtRTo. -/
import Derived.Test.YtndjgbknhfficaaNtRDel
import Derived.Test.YtndjgbknhfficaaNtOn
namespace Go.Proofs.Ytndjgbknhfficaa.Nt
open Go.RowKit Go.Proofs.Ytndjgbknhfficaa Go.Proofs.Ytndjgbknhfficaa.So

set_option maxRecDepth 100000 in
set_option maxHeartbeats 4000000 in
theorem rto_any {w : World} {g : Nat} {v : Value} {last : Int} {L : List En} (x : Int) (h : RNet w g v last L) (hL : L.length ≤ 4000) :
    Calls Try.prog 28 #[ptr g, .int .i64 x] w fun e w' => ∃ v, e = .returned v ∧ w'.ownsRow w.heap.size 25 1 v (pick (fun e => e.l.rc == x) L).length ((pick (fun e => e.l.rc == x) L).map encU) ∧ Below w.heap.size w w' := by
  obtain ⟨i0, hi0, hz0, hz1, hz2⟩ := info_parts info_u64
  have H := Lib.hid h
  obtain ⟨p, c, rfl, hc, hmx⟩ := own_slice h.row
  unfold maxLen at hmx
  obtain ⟨m, hm⟩ : ∃ m, m = L.length := ⟨_, rfl⟩
  have HM := Lib.hid hm
  rw [← hm] at hL H hc
  clear h hm
  go_enter Try.func28, Try.ntmps28
  go_upto_region 3 with fail
  go_loopw [5, 6] (fun vo vi wr => ∃ (i : Nat) (po : Option Addr) (q co : Nat), vo = .slice po q co ∧ vi = .int .i64 i ∧ i ≤ m ∧ q ≤ i ∧ Hid (q = (pick (fun e => e.l.rc == x) (L.take i)).length ∧ wr.ownsRow w.heap.size 25 1 (.slice po q co) q ((pick (fun e => e.l.rc == x) (L.take i)).map encU) ∧ Below w.heap.size w wr)) (fun _ vi _ => m - (So.intOf vi).toNat)
  case atStart => exact ⟨0, none, 0, 0, rfl, by go_num, Nat.zero_le _, Nat.le_refl _, ⟨rfl, ⟨rfl, .inl ⟨rfl, rfl⟩⟩, Below.refl _ _⟩⟩
  case round =>
    obtain ⟨i, po, q, co, rfl, rfl, him, hqi, HR⟩ := hrel
    by_cases hlt : i < m
    rotate_left
    · have h9 : i = m := by omega
      subst h9
      have c0 := (H.out.kept HR.out.2.2).blk.cell (j := 0) rfl
      go_wp2
      go_ret
      obtain ⟨h1, h2, h3⟩ := HR.out
      have e9 : L.take i = L := by rw [HM.out, List.take_length]
      rw [e9] at h1 h2
      rw [h1] at h2 ⊢
      exact ⟨_, rfl, h2, h3⟩
    have HKE : Hid (i < L.length) := Lib.hid (by have := HM.out; omega)
    obtain ⟨e, he⟩ : ∃ e, e = L[i]'HKE.out := ⟨_, rfl⟩
    have Hr := Lib.hid (H.out.kept HR.out.2.2)
    have hrow : wr.ownsRow 0 32 5 (.slice p m c) m (rwC enC L) := by have h9 := Hr.out.row; rw [← HM.out] at h9; exact h9
    obtain ⟨gr, rfl⟩ := own_some hrow (by omega)
    obtain ⟨px, cx, hxv, -, -⟩ := own_slice (Hr.out.own e (by rw [he]; exact List.getElem_mem _))
    obtain ⟨lx, hlx⟩ : ∃ lx, lx = e.l.bd.length := ⟨_, rfl⟩
    have hc5 : ∀ j u, j < 5 → (enC e)[j]? = some u → wr.cell? ⟨gr, i * 5 + j, none⟩ = some u := fun j u hj hu => own_cell hrow (j := i * 5 + j) (by rw [rwC_at enC_len HKE.out hj, ← he]; exact hu)
    simp only [enC, ltC, hxv] at hc5
    rw [← hlx] at hc5
    have x0 := hc5 0 _ (by omega) rfl
    simp only [Nat.add_zero] at x0
    have x1 := hc5 1 _ (by omega) rfl
    have x2 := hc5 2 _ (by omega) rfl
    have x3 := hc5 3 _ (by omega) rfl
    have x4 := hc5 4 _ (by omega) rfl
    have c0 := Hr.out.blk.cell (j := 0) rfl
    have HPM : Hid (pick (fun e => e.l.rc == x) (L.take (i + 1)) = if (fun e => e.l.rc == x) e then (pick (fun e => e.l.rc == x) (L.take i)) ++ [e.l.no] else (pick (fun e => e.l.rc == x) (L.take i))) := Lib.hid (by rw [he]; exact pick_more (fun e => e.l.rc == x) L HKE.out)
    have HS4 := Lib.hid (src_block Try.underlying36 _ wr.heap.size #[.int .u64 e.l.no] (Blk.made wr [.int .u64 e.l.no] 25) rfl (by simp [Value.oneCell']))
    clear hrow hc5 hxv hlx he x1 x2 x4
    by_cases hrc : e.l.rc = x
    rotate_left
    · have t0 : (e.l.rc == x) = false := by simpa using hrc
      go_wp2
      go_roundw
      case rel => exact ⟨i + 1, po, q, co, rfl, by go_num, by omega, by omega, ⟨by rw [HPM.out, if_neg (by simp [hrc])]; exact HR.out.1, by rw [HPM.out, if_neg (by simp [hrc])]; exact HR.out.2.1, HR.out.2.2⟩⟩
      case measure => first | (simp [So.intOf]; done) | (simp [So.intOf]; omega)
    · have t0 : (e.l.rc == x) = true := by simpa using hrc
      go_wp2_with (at_builtin; refine wpList_app _ rfl _ _ 36 36 rfl w.heap.size 25 i0 (.int .u64 0) 1 8 Try.underlying36 hi0 hz0 hz1 hz2 rfl _ q _ rfl (own_fr HR.out.2.1 (Fr.of_below (below_alloc wr _) []) (fun _ _ => by simp)) _ 1 _ rfl HS4.out (by unfold maxLen; omega) (by omega) (by have := HR.out.2.2.size; simp; omega) ?_; intro v5 w5 ho5 hg5 _; obtain ⟨p5, c5, rfl, -, -⟩ := own_slice ho5; have HO5 := Lib.hid ho5; have HB5 : Hid (Below w.heap.size w w5) := Lib.hid ((HR.out.2.2.trans ((below_alloc wr _).mono HR.out.2.2.size)).trans ((Fr.of_grown hg5).below (by intro y hy; exact own_lo HR.out.2.1 (Option.mem_toList.1 hy)) (by have := HR.out.2.2.size; simp; omega))); clear ho5 hg5)
      go_roundw
      case rel => exact ⟨i + 1, p5, q + 1, c5, rfl, by go_num, by omega, by omega, ⟨by rw [HPM.out, if_pos (by simp [hrc]), List.length_append, ← HR.out.1]; rfl, by rw [HPM.out, if_pos (by simp [hrc]), List.map_append]; exact HO5.out, HB5.out⟩⟩
      case measure => first | (simp [So.intOf]; done) | (simp [So.intOf]; omega)
theorem filt_more (P : En → Bool) (E : List En) {i : Nat} (hi : i < E.length) : (E.take (i + 1)).filter P = if P (E[i]'hi) then (E.take i).filter P ++ [E[i]'hi] else (E.take i).filter P := by
  rw [List.take_succ_eq_append_getElem hi, List.filter_append]
  cases h : P (E[i]'hi) <;> simp [h]
set_option maxRecDepth 100000 in
set_option maxHeartbeats 4000000 in
theorem rclear_any {w : World} {g : Nat} {v : Value} {last : Int} {L : List En} (x : Int) (h : RNet w g v last L) (hL : L.length ≤ 4000) :
    Calls Try.prog 26 #[ptr g, .int .i64 x] w fun e w' => e = .returned (.tuple #[]) ∧ ∃ v', RTo w w' g v v' last (L.filter (fun e => !(e.l.rc == x))) := by
  obtain ⟨i0, hi0, hz0, hz1, hz2⟩ := info_parts info_let
  have H := Lib.hid h
  obtain ⟨p, c, rfl, hc, hmx⟩ := own_slice h.row
  unfold maxLen at hmx
  obtain ⟨m, hm⟩ : ∃ m, m = L.length := ⟨_, rfl⟩
  have HM := Lib.hid hm
  rw [← hm] at hL H hc ⊢
  clear h hm
  go_enter Try.func26, Try.ntmps26
  go_upto_region 2 with fail
  go_loopw [4, 5] (fun vo vi wr => ∃ (i : Nat) (po : Option Addr) (q co : Nat), vo = .slice po q co ∧ vi = .int .i64 i ∧ i ≤ m ∧ q ≤ i ∧ Hid (q = ((L.take i).filter (fun e => !(e.l.rc == x))).length ∧ wr.ownsRow w.heap.size 32 5 (.slice po q co) q (rwC enC ((L.take i).filter (fun e => !(e.l.rc == x)))) ∧ Below w.heap.size w wr)) (fun _ vi _ => m - (So.intOf vi).toNat)
  case atStart => exact ⟨0, none, 0, 0, rfl, by go_num, Nat.zero_le _, Nat.le_refl _, ⟨rfl, ⟨rfl, .inl ⟨rfl, rfl⟩⟩, Below.refl _ _⟩⟩
  case round =>
    obtain ⟨i, po, q, co, rfl, rfl, him, hqi, HR⟩ := hrel
    by_cases hlt : i < m
    rotate_left
    · have h9 : i = m := by omega
      subst h9
      have HB := Lib.hid (H.out.kept HR.out.2.2).blk
      have c0 := HB.out.cell (j := 0) rfl
      have f0 := HB.out.free 0
      go_wp2
      go_end0
      obtain ⟨h1, h2, h3⟩ := HR.out
      have e9 : L.take i = L := by rw [HM.out, List.take_length]
      rw [e9] at h1 h2
      rw [h1] at h2 ⊢
      exact ⟨rfl, _, RTo.store H.out h3 h2 (fun e he => (List.mem_filter.1 he).1)⟩
    have HKE : Hid (i < L.length) := Lib.hid (by have := HM.out; omega)
    obtain ⟨e, he⟩ : ∃ e, e = L[i]'HKE.out := ⟨_, rfl⟩
    have Hr := Lib.hid (H.out.kept HR.out.2.2)
    have hrow : wr.ownsRow 0 32 5 (.slice p m c) m (rwC enC L) := by have h9 := Hr.out.row; rw [← HM.out] at h9; exact h9
    obtain ⟨gr, rfl⟩ := own_some hrow (by omega)
    obtain ⟨px, cx, hxv, -, -⟩ := own_slice (Hr.out.own e (by rw [he]; exact List.getElem_mem _))
    obtain ⟨lx, hlx⟩ : ∃ lx, lx = e.l.bd.length := ⟨_, rfl⟩
    have hc5 : ∀ j u, j < 5 → (enC e)[j]? = some u → wr.cell? ⟨gr, i * 5 + j, none⟩ = some u := fun j u hj hu => own_cell hrow (j := i * 5 + j) (by rw [rwC_at enC_len HKE.out hj, ← he]; exact hu)
    simp only [enC, ltC, hxv] at hc5
    rw [← hlx] at hc5
    have x0 := hc5 0 _ (by omega) rfl
    simp only [Nat.add_zero] at x0
    have x1 := hc5 1 _ (by omega) rfl
    have x2 := hc5 2 _ (by omega) rfl
    have x3 := hc5 3 _ (by omega) rfl
    have x4 := hc5 4 _ (by omega) rfl
    have c0 := Hr.out.blk.cell (j := 0) rfl
    have HPM : Hid ((L.take (i + 1)).filter (fun e => !(e.l.rc == x)) = if !(e.l.rc == x) then (L.take i).filter (fun e => !(e.l.rc == x)) ++ [e] else (L.take i).filter (fun e => !(e.l.rc == x))) := Lib.hid (by rw [he]; exact filt_more (fun e => !(e.l.rc == x)) L HKE.out)
    have HEN : Hid (enC e = [.int .u64 e.l.no, .int .u64 e.l.fi, .int .i64 e.l.sd, .int .i64 e.l.rc, .slice px lx cx]) := Lib.hid (by simp only [enC, ltC, hxv, hlx])
    have HS4 := Lib.hid (src_block Try.underlying40 _ wr.heap.size #[.int .u64 e.l.no, .int .u64 e.l.fi, .int .i64 e.l.sd, .int .i64 e.l.rc, .slice px lx cx] (Blk.made wr [.int .u64 e.l.no, .int .u64 e.l.fi, .int .i64 e.l.sd, .int .i64 e.l.rc, .slice px lx cx] 32) rfl (by simp [Value.oneCell']))
    clear hrow hc5 hxv hlx he
    by_cases hrc : e.l.rc = x
    · have t0 : (e.l.rc != x) = false := by simp [hrc]
      go_wp2
      go_roundw
      case rel => exact ⟨i + 1, po, q, co, rfl, by go_num, by omega, by omega, ⟨by rw [HPM.out, if_neg (by simp [hrc])]; exact HR.out.1, by rw [HPM.out, if_neg (by simp [hrc])]; exact HR.out.2.1, HR.out.2.2⟩⟩
      case measure => first | (simp [So.intOf]; done) | (simp [So.intOf]; omega)
    · have t0 : (e.l.rc != x) = true := by simp [hrc]
      go_wp2_with (at_builtin; refine wpList_app _ rfl _ _ 40 40 rfl w.heap.size 32 i0 zeV 5 56 Try.underlying40 hi0 hz0 hz1 hz2 rfl _ q _ rfl (own_fr HR.out.2.1 (Fr.of_below (below_alloc wr _) []) (fun _ _ => by simp)) _ 1 _ rfl HS4.out (by unfold maxLen; omega) (by omega) (by have := HR.out.2.2.size; simp; omega) ?_; intro v5 w5 ho5 hg5 _; obtain ⟨p5, c5, rfl, -, -⟩ := own_slice ho5; have HO5 := Lib.hid ho5; have HB5 : Hid (Below w.heap.size w w5) := Lib.hid ((HR.out.2.2.trans ((below_alloc wr _).mono HR.out.2.2.size)).trans ((Fr.of_grown hg5).below (by intro y hy; exact own_lo HR.out.2.1 (Option.mem_toList.1 hy)) (by have := HR.out.2.2.size; simp; omega))); clear ho5 hg5)
      go_roundw
      case rel => exact ⟨i + 1, p5, q + 1, c5, rfl, by go_num, by omega, by omega, ⟨by rw [HPM.out, if_pos (by simp [hrc]), List.length_append, ← HR.out.1]; rfl, by rw [HPM.out, if_pos (by simp [hrc]), rwC_snoc, HEN.out]; exact HO5.out, HB5.out⟩⟩
      case measure => first | (simp [So.intOf]; done) | (simp [So.intOf]; omega)
end Go.Proofs.Ytndjgbknhfficaa.Nt
