/- NtNum. -/
import Derived.Test.YtndjgbknhfficaaMNt
namespace Go.Proofs.Ytndjgbknhfficaa.Nt
open Go.RowKit Go.Proofs.Ytndjgbknhfficaa Go.Proofs.Ytndjgbknhfficaa.So

set_option maxRecDepth 100000 in
set_option maxHeartbeats 2000000 in
theorem pto_any (x : Int) (l : Lt) (p : Option Addr) (n c : Nat) (w : World) : Calls Try.prog 37 #[.int .i64 x, ltV l (.slice p n c)] w fun e w' => e = .returned (.bool (l.rc == x)) ∧ Below w.heap.size w w' := by
  have hx := (Blk.made w (ltC l (.slice p n c)) 32).cell (j := 3) rfl
  go_enter Try.func37, Try.ntmps37
  go_wp2
  go_ret
  exact ⟨rfl, below_alloc _ _⟩
set_option maxRecDepth 100000 in
set_option maxHeartbeats 2000000 in
theorem pall_any (l : Lt) (p : Option Addr) (n c : Nat) (w : World) : Calls Try.prog 41 #[ltV l (.slice p n c)] w fun e w' => e = .returned (.bool true) ∧ Below w.heap.size w w' := by
  go_enter Try.func41, Try.ntmps41
  go_wp2
  go_ret
  exact ⟨rfl, below_alloc _ _⟩
theorem own_some {w : World} {base : Nat} {e : TypeId} {size n c : Nat} {p : Option Addr} {xs : List Value} (h : w.ownsRow base e size (.slice p n c) n xs) (h0 : 0 < n) : ∃ g, p = some ⟨g, 0, none⟩ := by
  rcases h.2 with ⟨h1, h2⟩ | ⟨g, cap, cur, h1, -⟩
  · omega
  · cases h1
    exact ⟨g, rfl⟩
theorem eget_at {E : List En} (hr : Rise E) {i : Nat} (hi : i < E.length) : eget E (E[i]'hi).l.no = some (E[i]'hi) := by
  have hnd : E.Pairwise (fun a b => a.l.no < b.l.no) := by
    have := hr
    unfold Rise nos at this
    exact List.pairwise_map.1 this
  unfold eget
  induction E generalizing i with
  | nil => simp at hi
  | cons x r ih =>
    cases i with
    | zero => simp
    | succ i =>
      have hi' : i < r.length := by simpa using hi
      have hlt := (List.pairwise_cons.1 hnd).1 (r[i]'hi') (List.getElem_mem hi')
      simp only [List.getElem_cons_succ]
      rw [List.find?_cons_of_neg (by simp; omega)]
      exact ih (by have := List.Pairwise.of_cons hr; exact this) hi' (List.Pairwise.of_cons hnd)
def allP (_ : En) : Bool := true
def pick (P : En → Bool) (E : List En) : List Int := nos (E.filter P)
theorem pick_more (P : En → Bool) (E : List En) {i : Nat} (hi : i < E.length) : pick P (E.take (i + 1)) = if P (E[i]'hi) then pick P (E.take i) ++ [(E[i]'hi).l.no] else pick P (E.take i) := by
  unfold pick nos
  rw [List.take_succ_eq_append_getElem hi, List.filter_append, List.map_append]
  cases h : P (E[i]'hi) <;> simp [h]
theorem pick_len (P : En → Bool) (E : List En) : (pick P E).length ≤ E.length := by
  unfold pick nos
  rw [List.length_map]
  exact List.length_filter_le _ _

set_option maxRecDepth 100000 in
set_option maxHeartbeats 4000000 in
theorem numto_any {w : World} {b mb : Nat} {last : Int} {E : List En} {k : Nat} (x : Int) (h : PNet w b mb last E) (hi : NI last E k) (hk : k ≤ 4000) :
    Calls Try.prog 36 #[ptr b, .func (.func 37) #[.int .i64 x] #[]] w fun e w' => ∃ v, e = .returned v ∧ w'.ownsRow w.heap.size 25 1 v (pick (fun e => e.l.rc == x) E).length ((pick (fun e => e.l.rc == x) E).map encU) ∧ Below w.heap.size w w' := by
  obtain ⟨i0, hi0, hz0, hz1, hz2⟩ := info_parts info_u64
  have hel : E.length ≤ 4000 := by have := hi.len; omega
  have H := Lib.hid h
  have HI := Lib.hid hi
  have hso := sorted_any mb (nM E) (by rw [nM_keys]; exact hi.rise) (by rw [nM_len]; omega) w h.map
  rw [nM_len, nM_keys] at hso
  obtain ⟨n, hn⟩ : ∃ n, n = E.length := ⟨_, rfl⟩
  have HN := Lib.hid hn
  rw [← hn] at hso hel
  have HSO := Lib.hid hso
  have c0 := h.blk.cell (j := 0) rfl
  clear h hi hso hn
  go_enter Try.func36, Try.ntmps36
  go_upto_region 5 with (first | (go_at_call 31; refine (none_no H.out).mono ?_; rintro e w2 ⟨rfl, rfl⟩) | (go_at_call 43; refine (keys_any _ _).mono ?_; rintro e w2 ⟨rfl, rfl⟩) | (go_at_call 42; refine HSO.out.mono ?_; rintro e wk ⟨vk, rfl, ho, hb⟩; have HOK := Lib.hid ho; have HBK := Lib.hid hb; obtain ⟨pk, ck, rfl, -, -⟩ := own_slice ho; clear ho hb HSO))
  go_loopw [5, 17] (fun vo vi wr => ∃ (i : Nat) (p : Option Addr) (q c : Nat), vo = .slice p q c ∧ vi = .int .i64 i ∧ i ≤ n ∧ q ≤ i ∧ Hid (q = (pick (fun e => e.l.rc == x) (E.take i)).length ∧ wr.ownsRow wk.heap.size 25 1 (.slice p q c) q ((pick (fun e => e.l.rc == x) (E.take i)).map encU) ∧ Below wk.heap.size wk wr)) (fun _ vi _ => n - (So.intOf vi).toNat)
  case atStart => exact ⟨0, none, 0, 0, rfl, by go_num, Nat.zero_le _, Nat.le_refl _, ⟨rfl, ⟨rfl, .inl ⟨rfl, rfl⟩⟩, Below.refl _ _⟩⟩
  case round =>
    obtain ⟨i, p, q, c, rfl, rfl, hin, hqi, HR⟩ := hrel
    by_cases hlt : i < n
    rotate_left
    · have h9 : i = n := by omega
      subst h9
      go_wp2
      go_ret
      obtain ⟨h1, h2, h3⟩ := HR.out
      have e9 : E.take i = E := by rw [HN.out, List.take_length]
      rw [e9] at h1 h2
      rw [h1] at h2 ⊢
      exact ⟨_, rfl, So.row_low h2 HBK.out.size, below_and HBK.out (h3.mono (Nat.le_refl _))⟩
    have HKE : Hid (i < E.length) := Lib.hid (by have := HN.out; omega)
    obtain ⟨e, he⟩ : ∃ e, e = E[i]'HKE.out := ⟨_, rfl⟩
    have hme : e ∈ E := by rw [he]; exact List.getElem_mem _
    have HGE : Hid (eget E e.l.no = some e) := Lib.hid (by rw [he]; exact eget_at HI.out.rise HKE.out)
    have HPM : Hid (pick (fun e => e.l.rc == x) (E.take (i + 1)) = if (fun e => e.l.rc == x) e then pick (fun e => e.l.rc == x) (E.take i) ++ [e.l.no] else pick (fun e => e.l.rc == x) (E.take i)) := Lib.hid (by rw [he]; exact pick_more (fun e => e.l.rc == x) E HKE.out)
    have hbr : Below wk.heap.size wk wr := HR.out.2.2
    have hokr : wr.ownsRow w.heap.size 25 1 (.slice pk n ck) n ((nos E).map encU) := own_fr HOK.out (Fr.of_below hbr []) (fun _ _ => by simp)
    obtain ⟨g, rfl⟩ := own_some hokr (by omega)
    have ck1 : wr.cell? ⟨g, i, none⟩ = some (.int .u64 e.l.no) := own_cell hokr (j := i) (by rw [List.getElem?_map]; unfold nos; rw [List.getElem?_map, List.getElem?_eq_getElem HKE.out, ← he]; rfl)
    have Hr := Lib.hid ((H.out.kept HBK.out).kept hbr)
    obtain ⟨pe, ce, hve, -, -⟩ := own_slice (Hr.out.own e hme)
    have HWF := Lib.hid (HI.out.wf (by omega) hme)
    have HGT : Hid ((nM E).get e.l.no = some (ltV e.l (.slice pe e.l.bd.length ce))) := Lib.hid (by rw [nM_get, HGE.out, ← hve]; rfl)
    obtain ⟨le, hle⟩ : ∃ le, le = e.l.bd.length := ⟨_, rfl⟩
    rw [← hle] at HGT
    have c0 := Hr.out.blk.cell (j := 0) rfl
    obtain ⟨r, hr⟩ : ∃ r, r = (fun e => e.l.rc == x) e := ⟨_, rfl⟩
    have HPC : Hid (∀ w', Calls Try.prog 37 #[.int .i64 x, ltV e.l (.slice pe le ce)] w' fun e w'' => e = .returned (.bool r) ∧ Below w'.heap.size w' w'') := Lib.hid (fun w' => by rw [hr]; exact pto_any x e.l pe le ce w')
    have HRR := Lib.hid hr
    clear he hme hbr hokr hve hle hr
    cases r
    · go_wp2_with (first | (at_lookup; refine wpList_nlook _ rfl _ _ _ rfl 25 32 Try.underlying25 Try.underlying57 (lzero _) mb (nM E) rfl Hr.out.map e.l.no rfl HWF.out ?_; rw [HGT.out]; simp only [Option.getD_some]) | (go_at_call 37; refine (HPC.out _).mono ?_; rintro e4 w4 ⟨rfl, hb⟩; have HB4 := Lib.hid (below_and' HR.out.2.2 (hb.mono HR.out.2.2.size)); have HO4 := Lib.hid (own_fr HR.out.2.1 (Fr.of_below hb []) (fun _ _ => by simp)); have HS4 := Lib.hid (src_block Try.underlying36 _ w4.heap.size #[.int .u64 e.l.no] (Blk.made w4 [.int .u64 e.l.no] 25) rfl (by simp [Value.oneCell'])); clear hb))
      go_roundw
      case rel => exact ⟨i + 1, p, q, c, rfl, by go_num, by omega, by omega, ⟨by rw [HPM.out, if_neg (by rw [← HRR.out]; decide)]; exact HR.out.1, by rw [HPM.out, if_neg (by rw [← HRR.out]; decide)]; exact HO4.out, HB4.out⟩⟩
      case measure => first | (simp [So.intOf]; done) | (simp [So.intOf]; omega)
    · go_wp2_with (first | (at_lookup; refine wpList_nlook _ rfl _ _ _ rfl 25 32 Try.underlying25 Try.underlying57 (lzero _) mb (nM E) rfl Hr.out.map e.l.no rfl HWF.out ?_; rw [HGT.out]; simp only [Option.getD_some]) | (go_at_call 37; refine (HPC.out _).mono ?_; rintro e4 w4 ⟨rfl, hb⟩; have HB4 := Lib.hid (below_and' HR.out.2.2 (hb.mono HR.out.2.2.size)); have HO4 := Lib.hid (own_fr HR.out.2.1 (Fr.of_below hb []) (fun _ _ => by simp)); have HS4 := Lib.hid (src_block Try.underlying36 _ w4.heap.size #[.int .u64 e.l.no] (Blk.made w4 [.int .u64 e.l.no] 25) rfl (by simp [Value.oneCell'])); clear hb) | (at_builtin; refine wpList_app _ rfl _ _ 36 36 rfl wk.heap.size 25 i0 (.int .u64 0) 1 8 Try.underlying36 hi0 hz0 hz1 hz2 rfl _ q _ rfl (own_fr HO4.out (Fr.of_below (below_alloc w4 _) []) (fun _ _ => by simp)) _ 1 _ rfl HS4.out (by unfold maxLen; omega) (by omega) (by have := HB4.out.size; simp; omega) ?_; intro v5 w5 ho5 hg5 _; obtain ⟨p5, c5, rfl, -, -⟩ := own_slice ho5; have HO5 := Lib.hid ho5; have HB5 : Hid (Below wk.heap.size wk w5) := Lib.hid ((HB4.out.trans ((below_alloc w4 _).mono HB4.out.size)).trans ((Fr.of_grown hg5).below (by intro y hy; exact own_lo HO4.out (Option.mem_toList.1 hy)) (by have := HB4.out.size; simp; omega))); clear ho5 hg5))
      go_roundw
      case rel => exact ⟨i + 1, p5, q + 1, c5, rfl, by go_num, by omega, by omega, ⟨by rw [HPM.out, if_pos HRR.out.symm, List.length_append, ← HR.out.1]; rfl, by rw [HPM.out, if_pos HRR.out.symm, List.map_append]; exact HO5.out, HB5.out⟩⟩
      case measure => first | (simp [So.intOf]; done) | (simp [So.intOf]; omega)
set_option maxRecDepth 100000 in
set_option maxHeartbeats 4000000 in
theorem numall_any {w : World} {b mb : Nat} {last : Int} {E : List En} {k : Nat} (h : PNet w b mb last E) (hi : NI last E k) (hk : k ≤ 4000) :
    Calls Try.prog 36 #[ptr b, .func (.func 41) #[] #[]] w fun e w' => ∃ v, e = .returned v ∧ w'.ownsRow w.heap.size 25 1 v (pick allP E).length ((pick allP E).map encU) ∧ Below w.heap.size w w' := by
  obtain ⟨i0, hi0, hz0, hz1, hz2⟩ := info_parts info_u64
  have hel : E.length ≤ 4000 := by have := hi.len; omega
  have H := Lib.hid h
  have HI := Lib.hid hi
  have hso := sorted_any mb (nM E) (by rw [nM_keys]; exact hi.rise) (by rw [nM_len]; omega) w h.map
  rw [nM_len, nM_keys] at hso
  obtain ⟨n, hn⟩ : ∃ n, n = E.length := ⟨_, rfl⟩
  have HN := Lib.hid hn
  rw [← hn] at hso hel
  have HSO := Lib.hid hso
  have c0 := h.blk.cell (j := 0) rfl
  clear h hi hso hn
  go_enter Try.func36, Try.ntmps36
  go_upto_region 5 with (first | (go_at_call 31; refine (none_no H.out).mono ?_; rintro e w2 ⟨rfl, rfl⟩) | (go_at_call 43; refine (keys_any _ _).mono ?_; rintro e w2 ⟨rfl, rfl⟩) | (go_at_call 42; refine HSO.out.mono ?_; rintro e wk ⟨vk, rfl, ho, hb⟩; have HOK := Lib.hid ho; have HBK := Lib.hid hb; obtain ⟨pk, ck, rfl, -, -⟩ := own_slice ho; clear ho hb HSO))
  go_loopw [5, 17] (fun vo vi wr => ∃ (i : Nat) (p : Option Addr) (q c : Nat), vo = .slice p q c ∧ vi = .int .i64 i ∧ i ≤ n ∧ q ≤ i ∧ Hid (q = (pick allP (E.take i)).length ∧ wr.ownsRow wk.heap.size 25 1 (.slice p q c) q ((pick allP (E.take i)).map encU) ∧ Below wk.heap.size wk wr)) (fun _ vi _ => n - (So.intOf vi).toNat)
  case atStart => exact ⟨0, none, 0, 0, rfl, by go_num, Nat.zero_le _, Nat.le_refl _, ⟨rfl, ⟨rfl, .inl ⟨rfl, rfl⟩⟩, Below.refl _ _⟩⟩
  case round =>
    obtain ⟨i, p, q, c, rfl, rfl, hin, hqi, HR⟩ := hrel
    by_cases hlt : i < n
    rotate_left
    · have h9 : i = n := by omega
      subst h9
      go_wp2
      go_ret
      obtain ⟨h1, h2, h3⟩ := HR.out
      have e9 : E.take i = E := by rw [HN.out, List.take_length]
      rw [e9] at h1 h2
      rw [h1] at h2 ⊢
      exact ⟨_, rfl, So.row_low h2 HBK.out.size, below_and HBK.out (h3.mono (Nat.le_refl _))⟩
    have HKE : Hid (i < E.length) := Lib.hid (by have := HN.out; omega)
    obtain ⟨e, he⟩ : ∃ e, e = E[i]'HKE.out := ⟨_, rfl⟩
    have hme : e ∈ E := by rw [he]; exact List.getElem_mem _
    have HGE : Hid (eget E e.l.no = some e) := Lib.hid (by rw [he]; exact eget_at HI.out.rise HKE.out)
    have HPM : Hid (pick allP (E.take (i + 1)) = if allP e then pick allP (E.take i) ++ [e.l.no] else pick allP (E.take i)) := Lib.hid (by rw [he]; exact pick_more allP E HKE.out)
    have hbr : Below wk.heap.size wk wr := HR.out.2.2
    have hokr : wr.ownsRow w.heap.size 25 1 (.slice pk n ck) n ((nos E).map encU) := own_fr HOK.out (Fr.of_below hbr []) (fun _ _ => by simp)
    obtain ⟨g, rfl⟩ := own_some hokr (by omega)
    have ck1 : wr.cell? ⟨g, i, none⟩ = some (.int .u64 e.l.no) := own_cell hokr (j := i) (by rw [List.getElem?_map]; unfold nos; rw [List.getElem?_map, List.getElem?_eq_getElem HKE.out, ← he]; rfl)
    have Hr := Lib.hid ((H.out.kept HBK.out).kept hbr)
    obtain ⟨pe, ce, hve, -, -⟩ := own_slice (Hr.out.own e hme)
    have HWF := Lib.hid (HI.out.wf (by omega) hme)
    have HGT : Hid ((nM E).get e.l.no = some (ltV e.l (.slice pe e.l.bd.length ce))) := Lib.hid (by rw [nM_get, HGE.out, ← hve]; rfl)
    obtain ⟨le, hle⟩ : ∃ le, le = e.l.bd.length := ⟨_, rfl⟩
    rw [← hle] at HGT
    have c0 := Hr.out.blk.cell (j := 0) rfl
    obtain ⟨r, hr⟩ : ∃ r, r = allP e := ⟨_, rfl⟩
    have HPC : Hid (∀ w', Calls Try.prog 41 #[ltV e.l (.slice pe le ce)] w' fun e w'' => e = .returned (.bool r) ∧ Below w'.heap.size w' w'') := Lib.hid (fun w' => by rw [hr]; exact pall_any e.l pe le ce w')
    have HRR := Lib.hid hr
    clear he hme hbr hokr hve hle hr
    cases r
    · go_wp2_with (first | (at_lookup; refine wpList_nlook _ rfl _ _ _ rfl 25 32 Try.underlying25 Try.underlying57 (lzero _) mb (nM E) rfl Hr.out.map e.l.no rfl HWF.out ?_; rw [HGT.out]; simp only [Option.getD_some]) | (go_at_call 41; refine (HPC.out _).mono ?_; rintro e4 w4 ⟨rfl, hb⟩; have HB4 := Lib.hid (below_and' HR.out.2.2 (hb.mono HR.out.2.2.size)); have HO4 := Lib.hid (own_fr HR.out.2.1 (Fr.of_below hb []) (fun _ _ => by simp)); have HS4 := Lib.hid (src_block Try.underlying36 _ w4.heap.size #[.int .u64 e.l.no] (Blk.made w4 [.int .u64 e.l.no] 25) rfl (by simp [Value.oneCell'])); clear hb))
      go_roundw
      case rel => exact ⟨i + 1, p, q, c, rfl, by go_num, by omega, by omega, ⟨by rw [HPM.out, if_neg (by rw [← HRR.out]; decide)]; exact HR.out.1, by rw [HPM.out, if_neg (by rw [← HRR.out]; decide)]; exact HO4.out, HB4.out⟩⟩
      case measure => first | (simp [So.intOf]; done) | (simp [So.intOf]; omega)
    · go_wp2_with (first | (at_lookup; refine wpList_nlook _ rfl _ _ _ rfl 25 32 Try.underlying25 Try.underlying57 (lzero _) mb (nM E) rfl Hr.out.map e.l.no rfl HWF.out ?_; rw [HGT.out]; simp only [Option.getD_some]) | (go_at_call 41; refine (HPC.out _).mono ?_; rintro e4 w4 ⟨rfl, hb⟩; have HB4 := Lib.hid (below_and' HR.out.2.2 (hb.mono HR.out.2.2.size)); have HO4 := Lib.hid (own_fr HR.out.2.1 (Fr.of_below hb []) (fun _ _ => by simp)); have HS4 := Lib.hid (src_block Try.underlying36 _ w4.heap.size #[.int .u64 e.l.no] (Blk.made w4 [.int .u64 e.l.no] 25) rfl (by simp [Value.oneCell'])); clear hb) | (at_builtin; refine wpList_app _ rfl _ _ 36 36 rfl wk.heap.size 25 i0 (.int .u64 0) 1 8 Try.underlying36 hi0 hz0 hz1 hz2 rfl _ q _ rfl (own_fr HO4.out (Fr.of_below (below_alloc w4 _) []) (fun _ _ => by simp)) _ 1 _ rfl HS4.out (by unfold maxLen; omega) (by omega) (by have := HB4.out.size; simp; omega) ?_; intro v5 w5 ho5 hg5 _; obtain ⟨p5, c5, rfl, -, -⟩ := own_slice ho5; have HO5 := Lib.hid ho5; have HB5 : Hid (Below wk.heap.size wk w5) := Lib.hid ((HB4.out.trans ((below_alloc w4 _).mono HB4.out.size)).trans ((Fr.of_grown hg5).below (by intro y hy; exact own_lo HO4.out (Option.mem_toList.1 hy)) (by have := HB4.out.size; simp; omega))); clear ho5 hg5))
      go_roundw
      case rel => exact ⟨i + 1, p5, q + 1, c5, rfl, by go_num, by omega, by omega, ⟨by rw [HPM.out, if_pos HRR.out.symm, List.length_append, ← HR.out.1]; rfl, by rw [HPM.out, if_pos HRR.out.symm, List.map_append]; exact HO5.out, HB5.out⟩⟩
      case measure => first | (simp [So.intOf]; done) | (simp [So.intOf]; omega)
set_option maxRecDepth 100000 in
set_option maxHeartbeats 2000000 in
theorem to_any {w : World} {b mb : Nat} {last : Int} {E : List En} {k : Nat} (x : Int) (h : PNet w b mb last E) (hi : NI last E k) (hk : k ≤ 4000) :
    Calls Try.prog 13 #[ptr b, .int .i64 x] w fun e w' => ∃ v, e = .returned v ∧ w'.ownsRow w.heap.size 25 1 v (pick (fun e => e.l.rc == x) E).length ((pick (fun e => e.l.rc == x) E).map encU) ∧ Below w.heap.size w w' := by
  have HN := Lib.hid (numto_any x h hi hk)
  clear h hi
  go_enter Try.func13, Try.ntmps13
  go_wp2_with (go_at_call 36; refine HN.out.mono ?_; rintro e w2 ⟨v, rfl, ho, hb⟩; have HO := Lib.hid ho; have HB := Lib.hid hb; clear ho hb HN)
  go_ret
  exact ⟨v, rfl, HO.out, HB.out⟩
def edels (E : List En) (ns : List Int) : List En := E.filter (fun e => !(ns.contains e.l.no))
theorem edels_nil (E : List En) : edels E [] = E := by
  unfold edels
  rw [List.filter_eq_self]
  intro e _
  simp
theorem edels_more (E : List En) (ns : List Int) (n : Int) : edel (edels E ns) n = edels E (ns ++ [n]) := by
  unfold edel edels
  rw [List.filter_filter]
  congr 1
  funext e
  by_cases h : e.l.no = n <;> by_cases h2 : e.l.no ∈ ns <;> simp [h, h2]
theorem edels_pick (P : En → Bool) {E : List En} (hr : Rise E) : edels E (pick P E) = E.filter (fun e => !(P e)) := by
  unfold edels
  refine List.filter_congr fun e he => ?_
  congr 1
  rw [Bool.eq_iff_iff, List.contains_iff_mem]
  unfold pick nos
  rw [List.mem_map]
  constructor
  · rintro ⟨x, hx, hn⟩
    obtain ⟨hx1, hx2⟩ := List.mem_filter.1 hx
    obtain ⟨i, hi, rfl⟩ := List.mem_iff_getElem.1 hx1
    obtain ⟨j, hj, rfl⟩ := List.mem_iff_getElem.1 he
    have h1 := eget_at hr hi
    have h2 := eget_at hr hj
    rw [hn, h2] at h1
    rw [Option.some.inj h1]
    exact hx2
  · intro h
    exact ⟨e, List.mem_filter.2 ⟨he, h⟩, rfl⟩
theorem rise_filter {E : List En} (h : Rise E) (P : En → Bool) : Rise (E.filter P) := List.Pairwise.sublist (List.filter_sublist.map _) h
theorem NI.filter {last : Int} {E : List En} {k : Nat} (h : NI last E k) (P : En → Bool) : NI last (E.filter P) k := ⟨rise_filter h.rise P, fun e he => h.no e (List.mem_filter.1 he).1, fun e he => h.fi e (List.mem_filter.1 he).1, h.last, Nat.le_trans (List.length_filter_le _ _) h.len⟩
theorem pick_mem {P : En → Bool} {E : List En} {n : Int} (h : n ∈ pick P E) : ∃ e ∈ E, e.l.no = n := by
  unfold pick nos at h
  obtain ⟨x, hx, rfl⟩ := List.mem_map.1 h
  exact ⟨x, (List.mem_filter.1 hx).1, rfl⟩

set_option maxRecDepth 100000 in
set_option maxHeartbeats 4000000 in
theorem clear_any {w : World} {b mb : Nat} {last : Int} {E : List En} {k : Nat} (x : Int) (h : PNet w b mb last E) (hi : NI last E k) (hk : k ≤ 4000) :
    Calls Try.prog 18 #[ptr b, .int .i64 x] w fun e w' => e = .returned (.tuple #[]) ∧ PNet w' b mb last (E.filter (fun e => !(e.l.rc == x))) ∧ Frp (NP b mb) w w' := by
  have HTO := Lib.hid (to_any x h hi hk)
  obtain ⟨R, hR⟩ : ∃ R, R = pick (fun e => e.l.rc == x) E := ⟨_, rfl⟩
  rw [← hR] at HTO
  have hrl : R.length ≤ 4000 := by rw [hR]; have := pick_len (fun e => e.l.rc == x) E; have := hi.len; omega
  obtain ⟨q, hq⟩ : ∃ q, q = R.length := ⟨_, rfl⟩
  rw [← hq] at HTO hrl
  have HQ := Lib.hid hq
  have HWF : Hid (∀ n ∈ R, (Lit.int .u64 n).wf = true) := Lib.hid (fun n hn => by rw [hR] at hn; obtain ⟨e, he, rfl⟩ := pick_mem hn; exact hi.wf (by omega) he)
  have HEND : Hid (edels E R = E.filter (fun e => !(e.l.rc == x))) := Lib.hid (by rw [hR]; exact edels_pick (fun e => e.l.rc == x) hi.rise)
  have H := Lib.hid h
  clear h hi hq hR
  go_enter Try.func18, Try.ntmps18
  go_upto_region 1 with (go_at_call 13; refine HTO.out.mono ?_; rintro e wk ⟨vk, rfl, ho, hb⟩; have HOK := Lib.hid ho; have HK := Lib.hid (H.out.kept hb); have HBK := Lib.hid hb; obtain ⟨pk, ck, rfl, -, -⟩ := own_slice ho; clear ho hb HTO)
  go_loopw [10] (fun vi wr => ∃ i : Nat, vi = .int .i64 i ∧ i ≤ q ∧ Hid (PNet wr b mb last (edels E (R.take i)) ∧ Frp (NP b mb) wk wr)) (fun vi _ => q - (So.intOf vi).toNat)
  case atStart => exact ⟨0, by go_num, Nat.zero_le _, ⟨by rw [List.take_zero, edels_nil]; exact HK.out, Frp.refl _ _⟩⟩
  case round =>
    obtain ⟨i, rfl, hiq, HR⟩ := hrel
    by_cases hlt : i < q
    rotate_left
    · have h9 : i = q := by omega
      subst h9
      go_wp2
      go_end0
      obtain ⟨h1, h2⟩ := HR.out
      have e9 : R.take i = R := by rw [HQ.out, List.take_length]
      rw [e9, HEND.out] at h1
      exact ⟨rfl, h1, (Frp.of_below HBK.out (NP b mb)).then h2⟩
    have HKR : Hid (i < R.length) := Lib.hid (by have := HQ.out; omega)
    obtain ⟨n, hn⟩ : ∃ n, n = R[i]'HKR.out := ⟨_, rfl⟩
    have HMO : Hid (edel (edels E (R.take i)) n = edels E (R.take (i + 1))) := Lib.hid (by rw [edels_more, List.take_succ_eq_append_getElem HKR.out, hn])
    have HWN : Hid ((Lit.int .u64 n).wf = true) := Lib.hid (HWF.out n (by rw [hn]; exact List.getElem_mem _))
    have hok : wr.ownsRow w.heap.size 25 1 (.slice pk q ck) q (R.map encU) := own_frp HOK.out HR.out.2 (fun g hg hq => by
      rcases hq with rfl | rfl
      · exact own_ty HOK.out HK.out.blk (by decide) hg
      · exact own_nmap HOK.out HK.out.map hg)
    obtain ⟨g, rfl⟩ := own_some hok (by omega)
    have ck1 : wr.cell? ⟨g, i, none⟩ = some (.int .u64 n) := own_cell hok (j := i) (by rw [List.getElem?_map, List.getElem?_eq_getElem HKR.out, ← hn]; rfl)
    have c0 := HR.out.1.blk.cell (j := 0) rfl
    clear hok hn
    go_wp2_with (refine wpList_ndel _ rfl _ _ _ _ rfl 32 Try.underlying25 Try.underlying57 mb (nM (edels E (R.take i))) rfl HR.out.1.map n rfl HWN.out ?_; intro w8 hp8 hg8; have HP8 := Lib.hid (HR.out.1.del n hg8 hp8); clear hp8 hg8)
    go_roundw
    case rel => exact ⟨i + 1, by go_num, by omega, ⟨by rw [← HMO.out]; exact HP8.out.1, HR.out.2.then HP8.out.2⟩⟩
    case measure => first | (simp [So.intOf]; done) | (simp [So.intOf]; omega)
end Go.Proofs.Ytndjgbknhfficaa.Nt
