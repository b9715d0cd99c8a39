/- MsGets. -/
import Derived.Test.YtopkfomlppnpeaaGreatDoorMsOne
import Derived.Test.YtopkfomlppnpeaaGreatDoorMEl
namespace Go.Proofs.YtopkfomlppnpeaaGreatDoor.Ms
open Go.RowKit Go.Proofs.YtopkfomlppnpeaaGreatDoor

theorem rC_le {l : List UInt8} {s s1 : S} {c : Int} (e : rC 256 l s = (c, s1)) : c.toNat ≤ 256 ∧ (c.toNat : Int) = c := by
  unfold rC Wire.count at e
  split at e
  · cases e; omega
  · split at e
    · cases e; omega
    · split at e
      · cases e; omega
      · split at e
        · cases e; omega
        · cases e; omega
theorem rdN_len (one : List UInt8 → S → El × S) (l : List UInt8) : ∀ n s, (rdN one l n s).1.length ≤ n
  | 0, _ => Nat.le_refl _
  | n + 1, s => by
    unfold rdN
    split
    · have := rdN_len one l n (one l s).2
      simp; omega
    · simp
theorem rL_len {one : List UInt8 → S → El × S} {l : List UInt8} {s s1 : S} {L : List El} (e : rL one l s = (L, s1)) : L.length ≤ 256 := by
  have h1 := rdN_len one l (rC 256 l s).1.toNat (rC 256 l s).2
  have h2 := (rC_le (l := l) (s := s) rfl).1
  unfold rL at e
  rw [e] at h1
  exact Nat.le_trans h1 h2
theorem rdN_go {one : List UInt8 → S → El × S} {l : List UInt8} {n : Nat} {s s1 : S} {x : El} (h : s.2 = 0) (e : one l s = (x, s1)) : rdN one l (n + 1) s = (x :: (rdN one l n s1).1, (rdN one l n s1).2) := by
  conv => lhs; unfold rdN
  rw [if_pos h, e]
theorem rdN_no {one : List UInt8 → S → El × S} {l : List UInt8} {n : Nat} {s : S} (h : s.2 ≠ 0) : rdN one l n s = ([], s) := by
  cases n with
  | zero => rfl
  | succ n => unfold rdN; rw [if_neg h]
set_option maxRecDepth 100000 in
set_option maxHeartbeats 4000000 in
theorem envS_any {w : World} {b : Nat} {l : List UInt8} {s s1 : S} {L : List El} (h : Rdr w b l s.1 s.2) (hl : l.length ≤ 9223372036854775807) (e : rL envRd l s = (L, s1)) : Calls Tryz.prog 89 #[ptr b, .func (.func 90) #[] #[]] w fun e w' => ∃ v, e = .returned v ∧ w'.ownsRow w.heap.size 66 5 v L.length (rwC envC L) ∧ Rdr w' b l s1.1 s1.2 ∧ Frp (fun k => k = b) w w' := by
  obtain ⟨ix, hi, hz0, hz1, hz2⟩ := info_parts (show (Tryz.prog.info? 66).map (fun i => (i.zero, i.size, i.bytes)) = some (some (.agg #[.string ⟨#[]⟩, .int .i64 0, .int .i64 0, .int .i64 0, .int .i64 0]), 5, 48) from by kernel_rfl)
  have HLT := Lib.hid (Rdr.lt h)
  have HL := Lib.hid hl
  obtain ⟨c, t, hc⟩ : ∃ c t, rC 256 l s = (c, t) := ⟨_, _, rfl⟩
  obtain ⟨hm, hcm⟩ := rC_le hc
  obtain ⟨m, hm0⟩ : ∃ m, m = c.toNat := ⟨_, rfl⟩
  rw [← hm0] at hm hcm
  subst hcm
  have HT : Hid (rdN envRd l m t = (L, s1)) := Lib.hid (by unfold rL at e; rw [hc] at e; rw [hm0]; exact e)
  have HC := Lib.hid (cC h hl (by omega) hc)
  have HM := Lib.hid hm
  clear h hl e hc hm hm0
  obtain ⟨ta, te⟩ := t
  go_enter Tryz.func89, Tryz.ntmps89
  go_upto_region 3 with (go_at_call 115; refine HC.out.mono ?_; rintro e w1 ⟨rfl, hr, hf⟩; have HR1 := Lib.hid hr; have HF1 := Lib.hid hf; clear hr hf)
  go_loopw [5, 6] (fun vo vn wr => ∃ (D : List El) (a : Nat) (er : Int) (q : Nat), vn = .int .i64 q ∧ Hid (D ++ (rdN envRd l q (a, er)).1 = L ∧ (rdN envRd l q (a, er)).2 = s1) ∧ Hid (D.length + q ≤ 256) ∧ Hid (wr.ownsRow w.heap.size 66 5 vo D.length (rwC envC D) ∧ Rdr wr b l a er ∧ Frp (fun k => k = b) w wr)) (fun _ vn _ => (intOf vn).toNat)
  case atStart => exact ⟨[], ta, te, m, rfl, Lib.hid ⟨by rw [HT.out]; rfl, by rw [HT.out]⟩, Lib.hid (by simpa using HM.out), Lib.hid ⟨World.ownsRow_nil _ _ _ _, HR1.out, HF1.out⟩⟩
  case round =>
    obtain ⟨D, a, er, q, rfl, HS, HQ, HR⟩ := hrel
    have END : ∀ (L' : List El) (t' : S), rdN envRd l q (a, er) = ([], (a, er)) → D = L ∧ (a, er) = s1 := fun _ _ h9 => by have h8 := HS.out; rw [h9, List.append_nil] at h8; exact h8
    have HEND := Lib.hid (END [] (0, 0))
    clear END
    rcases Nat.eq_zero_or_pos q with hq | hq
    · subst hq
      have h9 := HEND.out rfl
      have i1 : decide ((0 : Int) < ((0 : Nat) : Int)) = false := rfl
      go_wp2
      go_ret
      obtain ⟨rfl, rfl⟩ := h9
      exact ⟨_, rfl, HR.out⟩
    obtain ⟨r, rfl⟩ : ∃ r, q = r + 1 := ⟨q - 1, by omega⟩
    have i1 : decide ((0 : Int) < ((r + 1 : Nat) : Int)) = true := decide_eq_true (by omega)
    have i3 : r ≤ 256 := by have := HQ.out; omega
    have i2 : decide (0 < r + 1) = true := by simp
    by_cases he : er = 0
    rotate_left
    · have h9 := Lib.hid (HEND.out (rdN_no he))
      have t0 : (er == 0) = false := by simpa using he
      go_wp2_with (go_at_call 116; refine (err_any b l a er _ HR.out.2.1).mono ?_; rintro e w1 ⟨rfl, hw⟩; subst hw)
      go_ret
      obtain ⟨rfl, rfl⟩ := h9.out
      exact ⟨_, rfl, HR.out⟩
    subst he
    clear HEND
    obtain ⟨x, s', hx⟩ : ∃ x s', envRd l (a, 0) = (x, s') := ⟨_, _, rfl⟩
    have HE := Lib.hid hx
    have HN := Lib.hid (rdN_go (n := r) (s := (a, 0)) rfl hx)
    clear hx
    go_wp2_with (first | (at_builtin; refine wpList_app _ rfl _ _ 28 28 rfl w.heap.size 66 ix (.agg #[.string ⟨#[]⟩, .int .i64 0, .int .i64 0, .int .i64 0, .int .i64 0]) 5 48 Tryz.underlying28 hi hz0 hz1 hz2 rfl _ D.length (rwC envC D) rfl (HO2.out.alloc _) _ 1 (envC x) rfl (src_block Tryz.underlying28 _ _ (envC x).toArray (Blk.made w2 (envC x) _) rfl (by intro u hu; simp at hu; rcases hu with rfl | rfl | rfl | rfl | rfl <;> rfl)) (by have := HQ.out; unfold maxLen; omega) (by have := HQ.out; omega) (by have := HF2.out.size; simp; omega) ?_; intro v6 w6 ho hg hnil; have HO6 : Hid (w6.ownsRow w.heap.size 66 5 v6 (D ++ [x]).length (rwC envC (D ++ [x]))) := Lib.hid (by rw [rwC_snoc, List.length_append]; exact ho); have HF6 : Hid (Frp (fun k => k = b) w w6) := Lib.hid ((HF2.out.next (below_alloc w2 _)).grown hg (fun k hk => .inr (own_lo HO2.out hk))); have HR6 : Hid (Rdr w6 b l s'.1 s'.2) := Lib.hid (Rdr.frp (Rdr.kept HR2.out (below_alloc w2 _)) ((Frp.refl (fun k => w.heap.size ≤ k) _).grown hg (fun k hk => .inl (own_lo HO2.out hk))) (fun k hk h9 => by have := HLT.out; omega)); clear ho hg hnil) | (go_at_call 90; refine (envG_any (l := l) (s := (a, 0)) (s1 := s') (x := x) HR.out.2.1 HL.out HE.out).mono ?_; rintro e w2 ⟨rfl, hr, hf⟩; have HR2 := Lib.hid hr; have HF2 := Lib.hid (HR.out.2.2.then hf); have HO2 := Lib.hid (own_frp HR.out.1 hf (fun g hg h9 => by have h8 := own_lo HR.out.1 hg; have := HLT.out; omega)); clear hr hf) | (go_at_call 116; refine (err_any b l a 0 _ HR.out.2.1).mono ?_; rintro e w1 ⟨rfl, hw⟩; subst hw))
    go_roundw
    case rel => exact ⟨D ++ [x], s'.1, s'.2, r, by go_num, Lib.hid (by have h8 := HS.out; rw [HN.out] at h8; simpa using h8), Lib.hid (by have := HQ.out; simp; omega), Lib.hid ⟨HO6.out, HR6.out, HF6.out⟩⟩
    case measure => simp [intOf]
set_option maxRecDepth 100000 in
set_option maxHeartbeats 4000000 in
theorem staS_any {w : World} {b : Nat} {l : List UInt8} {s s1 : S} {L : List El} (h : Rdr w b l s.1 s.2) (hl : l.length ≤ 9223372036854775807) (e : rL staRd l s = (L, s1)) : Calls Tryz.prog 93 #[ptr b, .func (.func 94) #[] #[]] w fun e w' => ∃ v, e = .returned v ∧ w'.ownsRow w.heap.size 39 8 v L.length (rwC staC L) ∧ Rdr w' b l s1.1 s1.2 ∧ Frp (fun k => k = b) w w' := by
  obtain ⟨ix, hi, hz0, hz1, hz2⟩ := info_parts (show (Tryz.prog.info? 39).map (fun i => (i.zero, i.size, i.bytes)) = some (some (.agg #[.string ⟨#[]⟩, .int .i64 0, .int .u64 0, .int .i64 0, .int .i64 0, .int .i64 0, .int .i64 0, .string ⟨#[]⟩]), 8, 80) from by kernel_rfl)
  have HLT := Lib.hid (Rdr.lt h)
  have HL := Lib.hid hl
  obtain ⟨c, t, hc⟩ : ∃ c t, rC 256 l s = (c, t) := ⟨_, _, rfl⟩
  obtain ⟨hm, hcm⟩ := rC_le hc
  obtain ⟨m, hm0⟩ : ∃ m, m = c.toNat := ⟨_, rfl⟩
  rw [← hm0] at hm hcm
  subst hcm
  have HT : Hid (rdN staRd l m t = (L, s1)) := Lib.hid (by unfold rL at e; rw [hc] at e; rw [hm0]; exact e)
  have HC := Lib.hid (cC h hl (by omega) hc)
  have HM := Lib.hid hm
  clear h hl e hc hm hm0
  obtain ⟨ta, te⟩ := t
  go_enter Tryz.func93, Tryz.ntmps93
  go_upto_region 3 with (go_at_call 115; refine HC.out.mono ?_; rintro e w1 ⟨rfl, hr, hf⟩; have HR1 := Lib.hid hr; have HF1 := Lib.hid hf; clear hr hf)
  go_loopw [5, 6] (fun vo vn wr => ∃ (D : List El) (a : Nat) (er : Int) (q : Nat), vn = .int .i64 q ∧ Hid (D ++ (rdN staRd l q (a, er)).1 = L ∧ (rdN staRd l q (a, er)).2 = s1) ∧ Hid (D.length + q ≤ 256) ∧ Hid (wr.ownsRow w.heap.size 39 8 vo D.length (rwC staC D) ∧ Rdr wr b l a er ∧ Frp (fun k => k = b) w wr)) (fun _ vn _ => (intOf vn).toNat)
  case atStart => exact ⟨[], ta, te, m, rfl, Lib.hid ⟨by rw [HT.out]; rfl, by rw [HT.out]⟩, Lib.hid (by simpa using HM.out), Lib.hid ⟨World.ownsRow_nil _ _ _ _, HR1.out, HF1.out⟩⟩
  case round =>
    obtain ⟨D, a, er, q, rfl, HS, HQ, HR⟩ := hrel
    have END : ∀ (L' : List El) (t' : S), rdN staRd l q (a, er) = ([], (a, er)) → D = L ∧ (a, er) = s1 := fun _ _ h9 => by have h8 := HS.out; rw [h9, List.append_nil] at h8; exact h8
    have HEND := Lib.hid (END [] (0, 0))
    clear END
    rcases Nat.eq_zero_or_pos q with hq | hq
    · subst hq
      have h9 := HEND.out rfl
      have i1 : decide ((0 : Int) < ((0 : Nat) : Int)) = false := rfl
      go_wp2
      go_ret
      obtain ⟨rfl, rfl⟩ := h9
      exact ⟨_, rfl, HR.out⟩
    obtain ⟨r, rfl⟩ : ∃ r, q = r + 1 := ⟨q - 1, by omega⟩
    have i1 : decide ((0 : Int) < ((r + 1 : Nat) : Int)) = true := decide_eq_true (by omega)
    have i3 : r ≤ 256 := by have := HQ.out; omega
    have i2 : decide (0 < r + 1) = true := by simp
    by_cases he : er = 0
    rotate_left
    · have h9 := Lib.hid (HEND.out (rdN_no he))
      have t0 : (er == 0) = false := by simpa using he
      go_wp2_with (go_at_call 116; refine (err_any b l a er _ HR.out.2.1).mono ?_; rintro e w1 ⟨rfl, hw⟩; subst hw)
      go_ret
      obtain ⟨rfl, rfl⟩ := h9.out
      exact ⟨_, rfl, HR.out⟩
    subst he
    clear HEND
    obtain ⟨x, s', hx⟩ : ∃ x s', staRd l (a, 0) = (x, s') := ⟨_, _, rfl⟩
    have HE := Lib.hid hx
    have HN := Lib.hid (rdN_go (n := r) (s := (a, 0)) rfl hx)
    clear hx
    go_wp2_with (first | (at_builtin; refine wpList_app _ rfl _ _ 29 29 rfl w.heap.size 39 ix (.agg #[.string ⟨#[]⟩, .int .i64 0, .int .u64 0, .int .i64 0, .int .i64 0, .int .i64 0, .int .i64 0, .string ⟨#[]⟩]) 8 80 Tryz.underlying29 hi hz0 hz1 hz2 rfl _ D.length (rwC staC D) rfl (HO2.out.alloc _) _ 1 (staC x) rfl (src_block Tryz.underlying29 _ _ (staC x).toArray (Blk.made w2 (staC x) _) rfl (by intro u hu; simp at hu; rcases hu with rfl | rfl | rfl | rfl | rfl | rfl | rfl | rfl <;> rfl)) (by have := HQ.out; unfold maxLen; omega) (by have := HQ.out; omega) (by have := HF2.out.size; simp; omega) ?_; intro v6 w6 ho hg hnil; have HO6 : Hid (w6.ownsRow w.heap.size 39 8 v6 (D ++ [x]).length (rwC staC (D ++ [x]))) := Lib.hid (by rw [rwC_snoc, List.length_append]; exact ho); have HF6 : Hid (Frp (fun k => k = b) w w6) := Lib.hid ((HF2.out.next (below_alloc w2 _)).grown hg (fun k hk => .inr (own_lo HO2.out hk))); have HR6 : Hid (Rdr w6 b l s'.1 s'.2) := Lib.hid (Rdr.frp (Rdr.kept HR2.out (below_alloc w2 _)) ((Frp.refl (fun k => w.heap.size ≤ k) _).grown hg (fun k hk => .inl (own_lo HO2.out hk))) (fun k hk h9 => by have := HLT.out; omega)); clear ho hg hnil) | (go_at_call 94; refine (staG_any (l := l) (s := (a, 0)) (s1 := s') (x := x) HR.out.2.1 HL.out HE.out).mono ?_; rintro e w2 ⟨rfl, hr, hf⟩; have HR2 := Lib.hid hr; have HF2 := Lib.hid (HR.out.2.2.then hf); have HO2 := Lib.hid (own_frp HR.out.1 hf (fun g hg h9 => by have h8 := own_lo HR.out.1 hg; have := HLT.out; omega)); clear hr hf) | (go_at_call 116; refine (err_any b l a 0 _ HR.out.2.1).mono ?_; rintro e w1 ⟨rfl, hw⟩; subst hw))
    go_roundw
    case rel => exact ⟨D ++ [x], s'.1, s'.2, r, by go_num, Lib.hid (by have h8 := HS.out; rw [HN.out] at h8; simpa using h8), Lib.hid (by have := HQ.out; simp; omega), Lib.hid ⟨HO6.out, HR6.out, HF6.out⟩⟩
    case measure => simp [intOf]
set_option maxRecDepth 100000 in
set_option maxHeartbeats 4000000 in
theorem stoS_any {w : World} {b : Nat} {l : List UInt8} {s s1 : S} {L : List El} (h : Rdr w b l s.1 s.2) (hl : l.length ≤ 9223372036854775807) (e : rL stoRd l s = (L, s1)) : Calls Tryz.prog 95 #[ptr b, .func (.func 96) #[] #[]] w fun e w' => ∃ v, e = .returned v ∧ w'.ownsRow w.heap.size 75 3 v L.length (rwC stoC L) ∧ Rdr w' b l s1.1 s1.2 ∧ Frp (fun k => k = b) w w' := by
  obtain ⟨ix, hi, hz0, hz1, hz2⟩ := info_parts (show (Tryz.prog.info? 75).map (fun i => (i.zero, i.size, i.bytes)) = some (some (.agg #[.string ⟨#[]⟩, .int .i64 0, .int .u64 0]), 3, 32) from by kernel_rfl)
  have HLT := Lib.hid (Rdr.lt h)
  have HL := Lib.hid hl
  obtain ⟨c, t, hc⟩ : ∃ c t, rC 256 l s = (c, t) := ⟨_, _, rfl⟩
  obtain ⟨hm, hcm⟩ := rC_le hc
  obtain ⟨m, hm0⟩ : ∃ m, m = c.toNat := ⟨_, rfl⟩
  rw [← hm0] at hm hcm
  subst hcm
  have HT : Hid (rdN stoRd l m t = (L, s1)) := Lib.hid (by unfold rL at e; rw [hc] at e; rw [hm0]; exact e)
  have HC := Lib.hid (cC h hl (by omega) hc)
  have HM := Lib.hid hm
  clear h hl e hc hm hm0
  obtain ⟨ta, te⟩ := t
  go_enter Tryz.func95, Tryz.ntmps95
  go_upto_region 3 with (go_at_call 115; refine HC.out.mono ?_; rintro e w1 ⟨rfl, hr, hf⟩; have HR1 := Lib.hid hr; have HF1 := Lib.hid hf; clear hr hf)
  go_loopw [5, 6] (fun vo vn wr => ∃ (D : List El) (a : Nat) (er : Int) (q : Nat), vn = .int .i64 q ∧ Hid (D ++ (rdN stoRd l q (a, er)).1 = L ∧ (rdN stoRd l q (a, er)).2 = s1) ∧ Hid (D.length + q ≤ 256) ∧ Hid (wr.ownsRow w.heap.size 75 3 vo D.length (rwC stoC D) ∧ Rdr wr b l a er ∧ Frp (fun k => k = b) w wr)) (fun _ vn _ => (intOf vn).toNat)
  case atStart => exact ⟨[], ta, te, m, rfl, Lib.hid ⟨by rw [HT.out]; rfl, by rw [HT.out]⟩, Lib.hid (by simpa using HM.out), Lib.hid ⟨World.ownsRow_nil _ _ _ _, HR1.out, HF1.out⟩⟩
  case round =>
    obtain ⟨D, a, er, q, rfl, HS, HQ, HR⟩ := hrel
    have END : ∀ (L' : List El) (t' : S), rdN stoRd l q (a, er) = ([], (a, er)) → D = L ∧ (a, er) = s1 := fun _ _ h9 => by have h8 := HS.out; rw [h9, List.append_nil] at h8; exact h8
    have HEND := Lib.hid (END [] (0, 0))
    clear END
    rcases Nat.eq_zero_or_pos q with hq | hq
    · subst hq
      have h9 := HEND.out rfl
      have i1 : decide ((0 : Int) < ((0 : Nat) : Int)) = false := rfl
      go_wp2
      go_ret
      obtain ⟨rfl, rfl⟩ := h9
      exact ⟨_, rfl, HR.out⟩
    obtain ⟨r, rfl⟩ : ∃ r, q = r + 1 := ⟨q - 1, by omega⟩
    have i1 : decide ((0 : Int) < ((r + 1 : Nat) : Int)) = true := decide_eq_true (by omega)
    have i3 : r ≤ 256 := by have := HQ.out; omega
    have i2 : decide (0 < r + 1) = true := by simp
    by_cases he : er = 0
    rotate_left
    · have h9 := Lib.hid (HEND.out (rdN_no he))
      have t0 : (er == 0) = false := by simpa using he
      go_wp2_with (go_at_call 116; refine (err_any b l a er _ HR.out.2.1).mono ?_; rintro e w1 ⟨rfl, hw⟩; subst hw)
      go_ret
      obtain ⟨rfl, rfl⟩ := h9.out
      exact ⟨_, rfl, HR.out⟩
    subst he
    clear HEND
    obtain ⟨x, s', hx⟩ : ∃ x s', stoRd l (a, 0) = (x, s') := ⟨_, _, rfl⟩
    have HE := Lib.hid hx
    have HN := Lib.hid (rdN_go (n := r) (s := (a, 0)) rfl hx)
    clear hx
    go_wp2_with (first | (at_builtin; refine wpList_app _ rfl _ _ 30 30 rfl w.heap.size 75 ix (.agg #[.string ⟨#[]⟩, .int .i64 0, .int .u64 0]) 3 32 Tryz.underlying30 hi hz0 hz1 hz2 rfl _ D.length (rwC stoC D) rfl (HO2.out.alloc _) _ 1 (stoC x) rfl (src_block Tryz.underlying30 _ _ (stoC x).toArray (Blk.made w2 (stoC x) _) rfl (by intro u hu; simp at hu; rcases hu with rfl | rfl | rfl <;> rfl)) (by have := HQ.out; unfold maxLen; omega) (by have := HQ.out; omega) (by have := HF2.out.size; simp; omega) ?_; intro v6 w6 ho hg hnil; have HO6 : Hid (w6.ownsRow w.heap.size 75 3 v6 (D ++ [x]).length (rwC stoC (D ++ [x]))) := Lib.hid (by rw [rwC_snoc, List.length_append]; exact ho); have HF6 : Hid (Frp (fun k => k = b) w w6) := Lib.hid ((HF2.out.next (below_alloc w2 _)).grown hg (fun k hk => .inr (own_lo HO2.out hk))); have HR6 : Hid (Rdr w6 b l s'.1 s'.2) := Lib.hid (Rdr.frp (Rdr.kept HR2.out (below_alloc w2 _)) ((Frp.refl (fun k => w.heap.size ≤ k) _).grown hg (fun k hk => .inl (own_lo HO2.out hk))) (fun k hk h9 => by have := HLT.out; omega)); clear ho hg hnil) | (go_at_call 96; refine (stoG_any (l := l) (s := (a, 0)) (s1 := s') (x := x) HR.out.2.1 HL.out HE.out).mono ?_; rintro e w2 ⟨rfl, hr, hf⟩; have HR2 := Lib.hid hr; have HF2 := Lib.hid (HR.out.2.2.then hf); have HO2 := Lib.hid (own_frp HR.out.1 hf (fun g hg h9 => by have h8 := own_lo HR.out.1 hg; have := HLT.out; omega)); clear hr hf) | (go_at_call 116; refine (err_any b l a 0 _ HR.out.2.1).mono ?_; rintro e w1 ⟨rfl, hw⟩; subst hw))
    go_roundw
    case rel => exact ⟨D ++ [x], s'.1, s'.2, r, by go_num, Lib.hid (by have h8 := HS.out; rw [HN.out] at h8; simpa using h8), Lib.hid (by have := HQ.out; simp; omega), Lib.hid ⟨HO6.out, HR6.out, HF6.out⟩⟩
    case measure => simp [intOf]
set_option maxRecDepth 100000 in
set_option maxHeartbeats 4000000 in
theorem helS_any {w : World} {b : Nat} {l : List UInt8} {s s1 : S} {L : List El} (h : Rdr w b l s.1 s.2) (hl : l.length ≤ 9223372036854775807) (e : rL helRd l s = (L, s1)) : Calls Tryz.prog 45 #[ptr b, .func (.func 46) #[] #[]] w fun e w' => ∃ v, e = .returned v ∧ w'.ownsRow w.heap.size 88 4 v L.length (rwC helC L) ∧ Rdr w' b l s1.1 s1.2 ∧ Frp (fun k => k = b) w w' := by
  obtain ⟨ix, hi, hz0, hz1, hz2⟩ := info_parts (show (Tryz.prog.info? 88).map (fun i => (i.zero, i.size, i.bytes)) = some (some (.agg #[.string ⟨#[]⟩, .int .i64 0, .int .u64 0, .int .i64 0]), 4, 40) from by kernel_rfl)
  have HLT := Lib.hid (Rdr.lt h)
  have HL := Lib.hid hl
  obtain ⟨c, t, hc⟩ : ∃ c t, rC 256 l s = (c, t) := ⟨_, _, rfl⟩
  obtain ⟨hm, hcm⟩ := rC_le hc
  obtain ⟨m, hm0⟩ : ∃ m, m = c.toNat := ⟨_, rfl⟩
  rw [← hm0] at hm hcm
  subst hcm
  have HT : Hid (rdN helRd l m t = (L, s1)) := Lib.hid (by unfold rL at e; rw [hc] at e; rw [hm0]; exact e)
  have HC := Lib.hid (cC h hl (by omega) hc)
  have HM := Lib.hid hm
  clear h hl e hc hm hm0
  obtain ⟨ta, te⟩ := t
  go_enter Tryz.func45, Tryz.ntmps45
  go_upto_region 3 with (go_at_call 115; refine HC.out.mono ?_; rintro e w1 ⟨rfl, hr, hf⟩; have HR1 := Lib.hid hr; have HF1 := Lib.hid hf; clear hr hf)
  go_loopw [5, 6] (fun vo vn wr => ∃ (D : List El) (a : Nat) (er : Int) (q : Nat), vn = .int .i64 q ∧ Hid (D ++ (rdN helRd l q (a, er)).1 = L ∧ (rdN helRd l q (a, er)).2 = s1) ∧ Hid (D.length + q ≤ 256) ∧ Hid (wr.ownsRow w.heap.size 88 4 vo D.length (rwC helC D) ∧ Rdr wr b l a er ∧ Frp (fun k => k = b) w wr)) (fun _ vn _ => (intOf vn).toNat)
  case atStart => exact ⟨[], ta, te, m, rfl, Lib.hid ⟨by rw [HT.out]; rfl, by rw [HT.out]⟩, Lib.hid (by simpa using HM.out), Lib.hid ⟨World.ownsRow_nil _ _ _ _, HR1.out, HF1.out⟩⟩
  case round =>
    obtain ⟨D, a, er, q, rfl, HS, HQ, HR⟩ := hrel
    have END : ∀ (L' : List El) (t' : S), rdN helRd l q (a, er) = ([], (a, er)) → D = L ∧ (a, er) = s1 := fun _ _ h9 => by have h8 := HS.out; rw [h9, List.append_nil] at h8; exact h8
    have HEND := Lib.hid (END [] (0, 0))
    clear END
    rcases Nat.eq_zero_or_pos q with hq | hq
    · subst hq
      have h9 := HEND.out rfl
      have i1 : decide ((0 : Int) < ((0 : Nat) : Int)) = false := rfl
      go_wp2
      go_ret
      obtain ⟨rfl, rfl⟩ := h9
      exact ⟨_, rfl, HR.out⟩
    obtain ⟨r, rfl⟩ : ∃ r, q = r + 1 := ⟨q - 1, by omega⟩
    have i1 : decide ((0 : Int) < ((r + 1 : Nat) : Int)) = true := decide_eq_true (by omega)
    have i3 : r ≤ 256 := by have := HQ.out; omega
    have i2 : decide (0 < r + 1) = true := by simp
    by_cases he : er = 0
    rotate_left
    · have h9 := Lib.hid (HEND.out (rdN_no he))
      have t0 : (er == 0) = false := by simpa using he
      go_wp2_with (go_at_call 116; refine (err_any b l a er _ HR.out.2.1).mono ?_; rintro e w1 ⟨rfl, hw⟩; subst hw)
      go_ret
      obtain ⟨rfl, rfl⟩ := h9.out
      exact ⟨_, rfl, HR.out⟩
    subst he
    clear HEND
    obtain ⟨x, s', hx⟩ : ∃ x s', helRd l (a, 0) = (x, s') := ⟨_, _, rfl⟩
    have HE := Lib.hid hx
    have HN := Lib.hid (rdN_go (n := r) (s := (a, 0)) rfl hx)
    clear hx
    go_wp2_with (first | (at_builtin; refine wpList_app _ rfl _ _ 40 40 rfl w.heap.size 88 ix (.agg #[.string ⟨#[]⟩, .int .i64 0, .int .u64 0, .int .i64 0]) 4 40 Tryz.underlying40 hi hz0 hz1 hz2 rfl _ D.length (rwC helC D) rfl (HO2.out.alloc _) _ 1 (helC x) rfl (src_block Tryz.underlying40 _ _ (helC x).toArray (Blk.made w2 (helC x) _) rfl (by intro u hu; simp at hu; rcases hu with rfl | rfl | rfl | rfl <;> rfl)) (by have := HQ.out; unfold maxLen; omega) (by have := HQ.out; omega) (by have := HF2.out.size; simp; omega) ?_; intro v6 w6 ho hg hnil; have HO6 : Hid (w6.ownsRow w.heap.size 88 4 v6 (D ++ [x]).length (rwC helC (D ++ [x]))) := Lib.hid (by rw [rwC_snoc, List.length_append]; exact ho); have HF6 : Hid (Frp (fun k => k = b) w w6) := Lib.hid ((HF2.out.next (below_alloc w2 _)).grown hg (fun k hk => .inr (own_lo HO2.out hk))); have HR6 : Hid (Rdr w6 b l s'.1 s'.2) := Lib.hid (Rdr.frp (Rdr.kept HR2.out (below_alloc w2 _)) ((Frp.refl (fun k => w.heap.size ≤ k) _).grown hg (fun k hk => .inl (own_lo HO2.out hk))) (fun k hk h9 => by have := HLT.out; omega)); clear ho hg hnil) | (go_at_call 46; refine (helG_any (l := l) (s := (a, 0)) (s1 := s') (x := x) HR.out.2.1 HL.out HE.out).mono ?_; rintro e w2 ⟨rfl, hr, hf⟩; have HR2 := Lib.hid hr; have HF2 := Lib.hid (HR.out.2.2.then hf); have HO2 := Lib.hid (own_frp HR.out.1 hf (fun g hg h9 => by have h8 := own_lo HR.out.1 hg; have := HLT.out; omega)); clear hr hf) | (go_at_call 116; refine (err_any b l a 0 _ HR.out.2.1).mono ?_; rintro e w1 ⟨rfl, hw⟩; subst hw))
    go_roundw
    case rel => exact ⟨D ++ [x], s'.1, s'.2, r, by go_num, Lib.hid (by have h8 := HS.out; rw [HN.out] at h8; simpa using h8), Lib.hid (by have := HQ.out; simp; omega), Lib.hid ⟨HO6.out, HR6.out, HF6.out⟩⟩
    case measure => simp [intOf]
set_option maxRecDepth 100000 in
set_option maxHeartbeats 4000000 in
theorem finS_any {w : World} {b : Nat} {l : List UInt8} {s s1 : S} {L : List El} (h : Rdr w b l s.1 s.2) (hl : l.length ≤ 9223372036854775807) (e : rL finRd l s = (L, s1)) : Calls Tryz.prog 49 #[ptr b, .func (.func 50) #[] #[]] w fun e w' => ∃ v, e = .returned v ∧ w'.ownsRow w.heap.size 95 5 v L.length (rwC finC L) ∧ Rdr w' b l s1.1 s1.2 ∧ Frp (fun k => k = b) w w' := by
  obtain ⟨ix, hi, hz0, hz1, hz2⟩ := info_parts (show (Tryz.prog.info? 95).map (fun i => (i.zero, i.size, i.bytes)) = some (some (.agg #[.int .u64 0, .string ⟨#[]⟩, .int .i64 0, .int .u64 0, .int .i64 0]), 5, 48) from by kernel_rfl)
  have HLT := Lib.hid (Rdr.lt h)
  have HL := Lib.hid hl
  obtain ⟨c, t, hc⟩ : ∃ c t, rC 256 l s = (c, t) := ⟨_, _, rfl⟩
  obtain ⟨hm, hcm⟩ := rC_le hc
  obtain ⟨m, hm0⟩ : ∃ m, m = c.toNat := ⟨_, rfl⟩
  rw [← hm0] at hm hcm
  subst hcm
  have HT : Hid (rdN finRd l m t = (L, s1)) := Lib.hid (by unfold rL at e; rw [hc] at e; rw [hm0]; exact e)
  have HC := Lib.hid (cC h hl (by omega) hc)
  have HM := Lib.hid hm
  clear h hl e hc hm hm0
  obtain ⟨ta, te⟩ := t
  go_enter Tryz.func49, Tryz.ntmps49
  go_upto_region 3 with (go_at_call 115; refine HC.out.mono ?_; rintro e w1 ⟨rfl, hr, hf⟩; have HR1 := Lib.hid hr; have HF1 := Lib.hid hf; clear hr hf)
  go_loopw [5, 6] (fun vo vn wr => ∃ (D : List El) (a : Nat) (er : Int) (q : Nat), vn = .int .i64 q ∧ Hid (D ++ (rdN finRd l q (a, er)).1 = L ∧ (rdN finRd l q (a, er)).2 = s1) ∧ Hid (D.length + q ≤ 256) ∧ Hid (wr.ownsRow w.heap.size 95 5 vo D.length (rwC finC D) ∧ Rdr wr b l a er ∧ Frp (fun k => k = b) w wr)) (fun _ vn _ => (intOf vn).toNat)
  case atStart => exact ⟨[], ta, te, m, rfl, Lib.hid ⟨by rw [HT.out]; rfl, by rw [HT.out]⟩, Lib.hid (by simpa using HM.out), Lib.hid ⟨World.ownsRow_nil _ _ _ _, HR1.out, HF1.out⟩⟩
  case round =>
    obtain ⟨D, a, er, q, rfl, HS, HQ, HR⟩ := hrel
    have END : ∀ (L' : List El) (t' : S), rdN finRd l q (a, er) = ([], (a, er)) → D = L ∧ (a, er) = s1 := fun _ _ h9 => by have h8 := HS.out; rw [h9, List.append_nil] at h8; exact h8
    have HEND := Lib.hid (END [] (0, 0))
    clear END
    rcases Nat.eq_zero_or_pos q with hq | hq
    · subst hq
      have h9 := HEND.out rfl
      have i1 : decide ((0 : Int) < ((0 : Nat) : Int)) = false := rfl
      go_wp2
      go_ret
      obtain ⟨rfl, rfl⟩ := h9
      exact ⟨_, rfl, HR.out⟩
    obtain ⟨r, rfl⟩ : ∃ r, q = r + 1 := ⟨q - 1, by omega⟩
    have i1 : decide ((0 : Int) < ((r + 1 : Nat) : Int)) = true := decide_eq_true (by omega)
    have i3 : r ≤ 256 := by have := HQ.out; omega
    have i2 : decide (0 < r + 1) = true := by simp
    by_cases he : er = 0
    rotate_left
    · have h9 := Lib.hid (HEND.out (rdN_no he))
      have t0 : (er == 0) = false := by simpa using he
      go_wp2_with (go_at_call 116; refine (err_any b l a er _ HR.out.2.1).mono ?_; rintro e w1 ⟨rfl, hw⟩; subst hw)
      go_ret
      obtain ⟨rfl, rfl⟩ := h9.out
      exact ⟨_, rfl, HR.out⟩
    subst he
    clear HEND
    obtain ⟨x, s', hx⟩ : ∃ x s', finRd l (a, 0) = (x, s') := ⟨_, _, rfl⟩
    have HE := Lib.hid hx
    have HN := Lib.hid (rdN_go (n := r) (s := (a, 0)) rfl hx)
    clear hx
    go_wp2_with (first | (at_builtin; refine wpList_app _ rfl _ _ 41 41 rfl w.heap.size 95 ix (.agg #[.int .u64 0, .string ⟨#[]⟩, .int .i64 0, .int .u64 0, .int .i64 0]) 5 48 Tryz.underlying41 hi hz0 hz1 hz2 rfl _ D.length (rwC finC D) rfl (HO2.out.alloc _) _ 1 (finC x) rfl (src_block Tryz.underlying41 _ _ (finC x).toArray (Blk.made w2 (finC x) _) rfl (by intro u hu; simp at hu; rcases hu with rfl | rfl | rfl | rfl | rfl <;> rfl)) (by have := HQ.out; unfold maxLen; omega) (by have := HQ.out; omega) (by have := HF2.out.size; simp; omega) ?_; intro v6 w6 ho hg hnil; have HO6 : Hid (w6.ownsRow w.heap.size 95 5 v6 (D ++ [x]).length (rwC finC (D ++ [x]))) := Lib.hid (by rw [rwC_snoc, List.length_append]; exact ho); have HF6 : Hid (Frp (fun k => k = b) w w6) := Lib.hid ((HF2.out.next (below_alloc w2 _)).grown hg (fun k hk => .inr (own_lo HO2.out hk))); have HR6 : Hid (Rdr w6 b l s'.1 s'.2) := Lib.hid (Rdr.frp (Rdr.kept HR2.out (below_alloc w2 _)) ((Frp.refl (fun k => w.heap.size ≤ k) _).grown hg (fun k hk => .inl (own_lo HO2.out hk))) (fun k hk h9 => by have := HLT.out; omega)); clear ho hg hnil) | (go_at_call 50; refine (finG_any (l := l) (s := (a, 0)) (s1 := s') (x := x) HR.out.2.1 HL.out HE.out).mono ?_; rintro e w2 ⟨rfl, hr, hf⟩; have HR2 := Lib.hid hr; have HF2 := Lib.hid (HR.out.2.2.then hf); have HO2 := Lib.hid (own_frp HR.out.1 hf (fun g hg h9 => by have h8 := own_lo HR.out.1 hg; have := HLT.out; omega)); clear hr hf) | (go_at_call 116; refine (err_any b l a 0 _ HR.out.2.1).mono ?_; rintro e w1 ⟨rfl, hw⟩; subst hw))
    go_roundw
    case rel => exact ⟨D ++ [x], s'.1, s'.2, r, by go_num, Lib.hid (by have h8 := HS.out; rw [HN.out] at h8; simpa using h8), Lib.hid (by have := HQ.out; simp; omega), Lib.hid ⟨HO6.out, HR6.out, HF6.out⟩⟩
    case measure => simp [intOf]
set_option maxRecDepth 100000 in
set_option maxHeartbeats 4000000 in
theorem refS_any {w : World} {b : Nat} {l : List UInt8} {s s1 : S} {L : List El} (h : Rdr w b l s.1 s.2) (hl : l.length ≤ 9223372036854775807) (e : rL refRd l s = (L, s1)) : Calls Tryz.prog 51 #[ptr b, .func (.func 52) #[] #[]] w fun e w' => ∃ v, e = .returned v ∧ w'.ownsRow w.heap.size 99 4 v L.length (rwC refC L) ∧ Rdr w' b l s1.1 s1.2 ∧ Frp (fun k => k = b) w w' := by
  obtain ⟨ix, hi, hz0, hz1, hz2⟩ := info_parts (show (Tryz.prog.info? 99).map (fun i => (i.zero, i.size, i.bytes)) = some (some (.agg #[.string ⟨#[]⟩, .int .i64 0, .int .u64 0, .int .i64 0]), 4, 40) from by kernel_rfl)
  have HLT := Lib.hid (Rdr.lt h)
  have HL := Lib.hid hl
  obtain ⟨c, t, hc⟩ : ∃ c t, rC 256 l s = (c, t) := ⟨_, _, rfl⟩
  obtain ⟨hm, hcm⟩ := rC_le hc
  obtain ⟨m, hm0⟩ : ∃ m, m = c.toNat := ⟨_, rfl⟩
  rw [← hm0] at hm hcm
  subst hcm
  have HT : Hid (rdN refRd l m t = (L, s1)) := Lib.hid (by unfold rL at e; rw [hc] at e; rw [hm0]; exact e)
  have HC := Lib.hid (cC h hl (by omega) hc)
  have HM := Lib.hid hm
  clear h hl e hc hm hm0
  obtain ⟨ta, te⟩ := t
  go_enter Tryz.func51, Tryz.ntmps51
  go_upto_region 3 with (go_at_call 115; refine HC.out.mono ?_; rintro e w1 ⟨rfl, hr, hf⟩; have HR1 := Lib.hid hr; have HF1 := Lib.hid hf; clear hr hf)
  go_loopw [5, 6] (fun vo vn wr => ∃ (D : List El) (a : Nat) (er : Int) (q : Nat), vn = .int .i64 q ∧ Hid (D ++ (rdN refRd l q (a, er)).1 = L ∧ (rdN refRd l q (a, er)).2 = s1) ∧ Hid (D.length + q ≤ 256) ∧ Hid (wr.ownsRow w.heap.size 99 4 vo D.length (rwC refC D) ∧ Rdr wr b l a er ∧ Frp (fun k => k = b) w wr)) (fun _ vn _ => (intOf vn).toNat)
  case atStart => exact ⟨[], ta, te, m, rfl, Lib.hid ⟨by rw [HT.out]; rfl, by rw [HT.out]⟩, Lib.hid (by simpa using HM.out), Lib.hid ⟨World.ownsRow_nil _ _ _ _, HR1.out, HF1.out⟩⟩
  case round =>
    obtain ⟨D, a, er, q, rfl, HS, HQ, HR⟩ := hrel
    have END : ∀ (L' : List El) (t' : S), rdN refRd l q (a, er) = ([], (a, er)) → D = L ∧ (a, er) = s1 := fun _ _ h9 => by have h8 := HS.out; rw [h9, List.append_nil] at h8; exact h8
    have HEND := Lib.hid (END [] (0, 0))
    clear END
    rcases Nat.eq_zero_or_pos q with hq | hq
    · subst hq
      have h9 := HEND.out rfl
      have i1 : decide ((0 : Int) < ((0 : Nat) : Int)) = false := rfl
      go_wp2
      go_ret
      obtain ⟨rfl, rfl⟩ := h9
      exact ⟨_, rfl, HR.out⟩
    obtain ⟨r, rfl⟩ : ∃ r, q = r + 1 := ⟨q - 1, by omega⟩
    have i1 : decide ((0 : Int) < ((r + 1 : Nat) : Int)) = true := decide_eq_true (by omega)
    have i3 : r ≤ 256 := by have := HQ.out; omega
    have i2 : decide (0 < r + 1) = true := by simp
    by_cases he : er = 0
    rotate_left
    · have h9 := Lib.hid (HEND.out (rdN_no he))
      have t0 : (er == 0) = false := by simpa using he
      go_wp2_with (go_at_call 116; refine (err_any b l a er _ HR.out.2.1).mono ?_; rintro e w1 ⟨rfl, hw⟩; subst hw)
      go_ret
      obtain ⟨rfl, rfl⟩ := h9.out
      exact ⟨_, rfl, HR.out⟩
    subst he
    clear HEND
    obtain ⟨x, s', hx⟩ : ∃ x s', refRd l (a, 0) = (x, s') := ⟨_, _, rfl⟩
    have HE := Lib.hid hx
    have HN := Lib.hid (rdN_go (n := r) (s := (a, 0)) rfl hx)
    clear hx
    go_wp2_with (first | (at_builtin; refine wpList_app _ rfl _ _ 42 42 rfl w.heap.size 99 ix (.agg #[.string ⟨#[]⟩, .int .i64 0, .int .u64 0, .int .i64 0]) 4 40 Tryz.underlying42 hi hz0 hz1 hz2 rfl _ D.length (rwC refC D) rfl (HO2.out.alloc _) _ 1 (refC x) rfl (src_block Tryz.underlying42 _ _ (refC x).toArray (Blk.made w2 (refC x) _) rfl (by intro u hu; simp at hu; rcases hu with rfl | rfl | rfl | rfl <;> rfl)) (by have := HQ.out; unfold maxLen; omega) (by have := HQ.out; omega) (by have := HF2.out.size; simp; omega) ?_; intro v6 w6 ho hg hnil; have HO6 : Hid (w6.ownsRow w.heap.size 99 4 v6 (D ++ [x]).length (rwC refC (D ++ [x]))) := Lib.hid (by rw [rwC_snoc, List.length_append]; exact ho); have HF6 : Hid (Frp (fun k => k = b) w w6) := Lib.hid ((HF2.out.next (below_alloc w2 _)).grown hg (fun k hk => .inr (own_lo HO2.out hk))); have HR6 : Hid (Rdr w6 b l s'.1 s'.2) := Lib.hid (Rdr.frp (Rdr.kept HR2.out (below_alloc w2 _)) ((Frp.refl (fun k => w.heap.size ≤ k) _).grown hg (fun k hk => .inl (own_lo HO2.out hk))) (fun k hk h9 => by have := HLT.out; omega)); clear ho hg hnil) | (go_at_call 52; refine (refG_any (l := l) (s := (a, 0)) (s1 := s') (x := x) HR.out.2.1 HL.out HE.out).mono ?_; rintro e w2 ⟨rfl, hr, hf⟩; have HR2 := Lib.hid hr; have HF2 := Lib.hid (HR.out.2.2.then hf); have HO2 := Lib.hid (own_frp HR.out.1 hf (fun g hg h9 => by have h8 := own_lo HR.out.1 hg; have := HLT.out; omega)); clear hr hf) | (go_at_call 116; refine (err_any b l a 0 _ HR.out.2.1).mono ?_; rintro e w1 ⟨rfl, hw⟩; subst hw))
    go_roundw
    case rel => exact ⟨D ++ [x], s'.1, s'.2, r, by go_num, Lib.hid (by have h8 := HS.out; rw [HN.out] at h8; simpa using h8), Lib.hid (by have := HQ.out; simp; omega), Lib.hid ⟨HO6.out, HR6.out, HF6.out⟩⟩
    case measure => simp [intOf]
end Go.Proofs.YtopkfomlppnpeaaGreatDoor.Ms
