/- The queue in memory as rows: Take and Drop. -/
import Derived.Test.YtlemfbgmhjklaaaQMem
namespace Go.Proofs.Ytlemfbgmhjklaaa
open Go.RowKit

theorem down_first {lt : PRow → PRow → Bool} {r r0 : PRow} {R : List PRow} {n : Nat} (h : Hp.IsH lt (r :: R) n) : Hp.D lt (r0 :: R) n 0 := by
  refine ⟨fun k h0 hk hne => ?_, fun k h0 hk he hh => absurd hh (Nat.lt_irrefl 0)⟩
  have h1 := h k h0 hk
  have hk1 : (k - 1) / 2 ≠ 0 := hne
  unfold Hp.ltAt at h1 ⊢
  obtain ⟨a, rfl⟩ : ∃ a, k = a + 1 := ⟨k - 1, by omega⟩
  obtain ⟨c, hc⟩ : ∃ c, (a + 1 - 1) / 2 = c + 1 := ⟨(a + 1 - 1) / 2 - 1, by omega⟩
  rw [hc] at h1 ⊢
  simpa using h1

theorem qtake_any (b : Nat) (P : Nat → Prop) (N : Int) (M : List MRow) (w : World) (h : Qm w b P N M) (hN : N ≤ 4611686018427387904) (hl : (flatM M).length ≤ 800000) :
    Calls Try.prog 14 #[ptr b] w fun e w' => e = .returned (headV M) ∧ Qm w' b (fun k => P k ∨ w.heap.size ≤ k) (N + 1) (takeM M) ∧ Frp P w w' := by
  have hQ := h
  obtain ⟨T, v, R, h1, h2, h3, h4, h5, h6, h7, h8, h9⟩ := h
  obtain ⟨s1, s2⟩ := h6.small h7
  cases R with
  | nil =>
    have : M = [] := Md.none h6
    subst this
    refine (take_none b T v w h1).mono ?_
    rintro e w' ⟨rfl, hbl⟩
    exact ⟨rfl, ((hQ.kept hbl).mono (fun k hk _ => .inl hk)).grow (by omega), Frp.of_below hbl P⟩
  | cons r R =>
    obtain ⟨M', rfl, h6t⟩ := Md.first (r := r.a) (L := R.map PRow.a) h6 h5
    have hne := h7.ne _ List.mem_cons_self
    have hkeys := nodup_keys h6 h7
    cases hp : r.a.ps with
    | nil => exact absurd hp hne
    | cons p tl =>
      have e : headV (strip r.a :: M') = .tuple #[pval p, .bool true] := by unfold headV headM strip; rw [hp]; rfl
      have s3 : tl.length ≤ 800000 := by have := s2 r List.mem_cons_self; rw [hp] at this; simp only [List.length_cons] at this; omega
      have s4 : R.length ≤ 800000 := by simp only [List.length_cons] at s1; omega
      rw [e]
      refine (take_some b T v r R p tl w h1 h2 hp s4 h8 (by omega) (by omega)).mono ?_
      rintro e w' ⟨rfl, hf, v', v1, hv1, hv', hq⟩
      have hfr : Frp P w w' := ⟨_, hf, fun k hk => by
        rcases List.mem_append.1 hk with hk | hk
        · exact h3 k hk
        · exact h4 r List.mem_cons_self k hk⟩
      have hsub : ∀ (a : ARow), ∀ k ∈ fpR ⟨r.g, v1, a⟩, k ∈ fpR r ∨ w.heap.size ≤ k := fun a k hk => by
        rcases mem_fpR.1 hk with rfl | hk
        · exact .inl (mem_fpR.2 (.inl rfl))
        · exact .inl (mem_fpR.2 (.inr (hv1 k hk)))
      have hsep : ∀ a : ARow, SepR (⟨r.g, v1, a⟩ :: R) := fun a => by
        have := h2.set (i := 0) (r := r) (r' := ⟨r.g, v1, a⟩) (N := w.heap.size) rfl (hsub a) (fun s hs k hk => (h1.rows s hs).1.lt hk)
        exact this
      have hP4 : ∀ a : ARow, ∀ s ∈ (⟨r.g, v1, a⟩ : PRow) :: R, ∀ k ∈ fpR s, P k ∨ w.heap.size ≤ k := fun a s hs k hk => by
        rcases List.mem_cons.1 hs with rfl | hs
        · rcases hsub a k hk with h | h
          · exact .inl (h4 r List.mem_cons_self k h)
          · exact .inr h
        · exact .inl (h4 s (List.mem_cons_of_mem _ hs) k hk)
      have hP3 : ∀ k ∈ fpW b v', P k ∨ w.heap.size ≤ k := fun k hk => by
        rcases mem_fpW.1 hk with rfl | hk
        · exact .inl (h3 _ (mem_fpW.2 (.inl rfl)))
        · rcases hv' k hk with h | h
          · exact .inl (h3 _ (mem_fpW.2 (.inr h)))
          · exact .inr h
      have hheap := h5.heap
      have hturn := h5.turn
      have hturns := h5.turns
      rcases hq with ⟨rfl, hq⟩ | ⟨htl, hq⟩
      · have htake : takeM (strip r.a :: M') = M' := by
          show (if (strip r.a).2.tail = [] then _ else _) = _
          rw [if_pos (by unfold strip; rw [hp]; rfl)]
        have hperm := Hp.remove_perm rlt ((⟨r.g, v1, ⟨r.a.key, r.a.turn, []⟩⟩ : PRow) :: R) 0 _ rfl
        have hpa : (R.map PRow.a).Perm ((Hp.remove rlt ((⟨r.g, v1, ⟨r.a.key, r.a.turn, []⟩⟩ : PRow) :: R) 0).map PRow.a) := ((List.perm_cons _).1 hperm).map PRow.a
        have hh0 : Hp.IsH rlt ((⟨r.g, v1, ⟨r.a.key, r.a.turn, []⟩⟩ : PRow) :: R) (R.length + 1) := by
          rw [isH_rlt]
          have he : ((⟨r.g, v1, ⟨r.a.key, r.a.turn, []⟩⟩ : PRow) :: R).map PRow.a = ((r :: R).map PRow.a).map (upd r.a.key (fun _ => [])) := by
            have := set_upd (fun _ => []) (L := (r :: R).map PRow.a) (i := 0) (r := r.a) hkeys rfl
            rw [← this]
            rfl
          rw [he]
          have := (h5.upd r.a.key (fun _ => [])).heap
          simpa using this
        have hh : Hp.IsH alt ((Hp.remove rlt ((⟨r.g, v1, ⟨r.a.key, r.a.turn, []⟩⟩ : PRow) :: R) 0).map PRow.a) ((Hp.remove rlt ((⟨r.g, v1, ⟨r.a.key, r.a.turn, []⟩⟩ : PRow) :: R) 0).map PRow.a).length := by
          rw [List.length_map, ← isH_rlt]
          exact Hp.remove_heap rlt_ok (by simpa using hh0) (by simp)
        refine ⟨rfl, ⟨T, v', _, hq, (hsep ⟨r.a.key, r.a.turn, []⟩).rem hperm, hP3, fun s hs k hk => hP4 ⟨r.a.key, r.a.turn, []⟩ s (hperm.mem_iff.2 (List.mem_cons_of_mem _ hs)) k hk, ?_, ?_, h7.take, h8, by omega⟩, hfr⟩
        · exact h5.rem (x := r.a) ((List.perm_cons _).2 hpa) hh
        · rw [htake]
          obtain ⟨S, hS, hs, rfl⟩ := h6t
          exact ⟨S, hS.trans hpa, hs, rfl⟩
      · have htake : takeM (strip r.a :: M') = insM M' (r.a.key, tl) := by
          show (if (strip r.a).2.tail = [] then _ else _) = _
          have : (strip r.a).2.tail = tl := by unfold strip; rw [hp]; rfl
          rw [this, if_neg htl]
          rfl
        have hperm := Hp.down_perm rlt ((⟨r.g, v1, ⟨r.a.key, T + 1, tl⟩⟩ : PRow) :: R) (R.length + 1) 0
        have hpa := hperm.map PRow.a
        have hh : Hp.IsH alt ((Hp.down rlt ((⟨r.g, v1, ⟨r.a.key, T + 1, tl⟩⟩ : PRow) :: R) (R.length + 1) 0).1.map PRow.a) ((Hp.down rlt ((⟨r.g, v1, ⟨r.a.key, T + 1, tl⟩⟩ : PRow) :: R) (R.length + 1) 0).1.map PRow.a).length := by
          rw [List.length_map, ← isH_rlt, Hp.length_down]
          refine Hp.down_heap rlt_ok _ _ _ (by simp) (by simp) (down_first (r := r) ?_)
          rw [isH_rlt]
          simpa using hheap
        have ht' : ∀ s ∈ R.map PRow.a, s.turn ≤ T := fun s hs => hturn s (List.mem_cons_of_mem _ hs)
        have hts' : ((R.map PRow.a).map (·.turn)).Nodup := (List.nodup_cons.1 hturns).2
        refine ⟨rfl, ⟨T + 1, v', _, hq, (hsep ⟨r.a.key, T + 1, tl⟩).perm hperm.symm, hP3, fun s hs k hk => hP4 ⟨r.a.key, T + 1, tl⟩ s (hperm.mem_iff.1 hs) k hk, QI.ins ht' hts' rfl hpa hh, ?_, h7.take, by omega, by omega⟩, hfr⟩
        rw [htake]
        exact Md.ins h6t ht' rfl hpa

theorem qdrop_any (b : Nat) (P : Nat → Prop) (N : Int) (M : List MRow) (t : Tid) (w : World) (h : Qm w b P N M) (hl : (flatM M).length ≤ 800000) :
    Calls Try.prog 17 #[ptr b, tval t] w fun e w' => e = .returned (.int .i64 (if hasM M t = true then 0 else 6)) ∧ Qm w' b (fun k => P k ∨ w.heap.size ≤ k) N (dropM M t) ∧ Frp P w w' := by
  have hQ := h
  obtain ⟨T, v, R, h1, h2, h3, h4, h5, h6, h7, h8, h9⟩ := h
  obtain ⟨s1, s2⟩ := h6.small h7
  cases hf : findR R t with
  | none =>
    have hno : hasM M t = false := by rw [← findR_has h6, hf]; rfl
    have hdm : dropM M t = M := by
      unfold dropM
      have e : (M.map fun m => (m.1, m.2.filter fun p => decide (p.task ≠ t))) = M := by
        refine (List.map_congr_left (g := id) fun m hm => ?_).trans (List.map_id M)
        have : (m.2.filter fun p => decide (p.task ≠ t)) = m.2 := by
          rw [List.filter_eq_self]
          intro q hq
          simp only [ne_eq, decide_not, Bool.not_eq_true', decide_eq_false_iff_not]
          intro e
          have := hasM_iff.2 ⟨q, List.mem_flatMap.2 ⟨m, hm, hq⟩, e⟩
          rw [hno] at this
          cases this
        rw [this]
        rfl
      rw [e, List.filter_eq_self]
      intro m hm
      simpa using h7.ne m hm
    rw [hno, hdm, if_neg (by simp)]
    refine (drop_none b T v R t w h1 hf).mono ?_
    rintro e w' ⟨rfl, hbl⟩
    exact ⟨rfl, (hQ.kept hbl).mono (fun k hk _ => .inl hk), Frp.of_below hbl P⟩
  | some i =>
    have hyes : hasM M t = true := by rw [← findR_has h6, hf]; rfl
    have hf2 := hf
    unfold findR at hf2
    rw [List.findIdx?_eq_some_iff_getElem] at hf2
    obtain ⟨hil, hii, -⟩ := hf2
    obtain ⟨r, hr⟩ : ∃ r, R[i]? = some r := ⟨_, List.getElem?_eq_getElem hil⟩
    have hrR : R[i] = r := by rw [List.getElem?_eq_getElem hil] at hr; exact Option.some.inj hr
    rw [hrR] at hii
    obtain ⟨k, hk⟩ := Option.isSome_iff_exists.1 hii
    have hk2 := hk
    unfold idx at hk2
    rw [List.findIdx?_eq_some_iff_getElem] at hk2
    obtain ⟨hkl, hkt, -⟩ := hk2
    have hkt : r.a.ps[k].task = t := by simpa using hkt
    obtain ⟨m, hm⟩ : ∃ m, r.a.ps.length = k + m + 1 := ⟨r.a.ps.length - k - 1, by omega⟩
    have hrm := List.mem_of_getElem? hr
    have hstrip : strip r.a ∈ M := h6.mem (List.mem_map.2 ⟨r, hrm, rfl⟩)
    have hkeys := nodup_keys h6 h7
    rw [hyes, if_pos rfl]
    refine (drop_some b T v R t i k m r w h1 h2 hf hr hk hm (by omega) (by have := s2 r hrm; omega)).mono ?_
    rintro e w' ⟨rfl, hfw, v', v1, hv1, hv', hq⟩
    have hfr : Frp P w w' := ⟨_, hfw, fun k hk => by
      rcases List.mem_append.1 hk with hk | hk
      · exact h3 k hk
      · exact h4 r hrm k hk⟩
    have hsub : ∀ k' ∈ fpR ⟨r.g, v1, ⟨r.a.key, r.a.turn, r.a.ps.eraseIdx k⟩⟩, k' ∈ fpR r ∨ w.heap.size ≤ k' := fun k' hk => by
      rcases mem_fpR.1 hk with rfl | hk
      · exact .inl (mem_fpR.2 (.inl rfl))
      · exact .inl (mem_fpR.2 (.inr (hv1 k' hk)))
    have hsep : SepR (R.set i ⟨r.g, v1, ⟨r.a.key, r.a.turn, r.a.ps.eraseIdx k⟩⟩) := h2.set hr hsub (fun s hs k hk => (h1.rows s hs).1.lt hk)
    have hP4 : ∀ s ∈ R.set i ⟨r.g, v1, ⟨r.a.key, r.a.turn, r.a.ps.eraseIdx k⟩⟩, ∀ k ∈ fpR s, P k ∨ w.heap.size ≤ k := fun s hs k' hk => by
      rcases List.mem_or_eq_of_mem_set hs with hs | rfl
      · exact .inl (h4 s hs k' hk)
      · rcases hsub k' hk with h | h
        · exact .inl (h4 r hrm k' h)
        · exact .inr h
    have hP3 : ∀ k ∈ fpW b v', P k ∨ w.heap.size ≤ k := fun k hk => by
      rcases mem_fpW.1 hk with rfl | hk
      · exact .inl (h3 _ (mem_fpW.2 (.inl rfl)))
      · rcases hv' k hk with h | h
        · exact .inl (h3 _ (mem_fpW.2 (.inr h)))
        · exact .inr h
    have he : (R.set i ⟨r.g, v1, ⟨r.a.key, r.a.turn, r.a.ps.eraseIdx k⟩⟩).map PRow.a = (R.map PRow.a).map (upd r.a.key (·.eraseIdx k)) := by
      rw [map_set_a]
      exact set_upd (·.eraseIdx k) (L := R.map PRow.a) (i := i) (r := r.a) hkeys (by rw [List.getElem?_map, hr]; rfl)
    have hqi : QI T ((R.set i ⟨r.g, v1, ⟨r.a.key, r.a.turn, r.a.ps.eraseIdx k⟩⟩).map PRow.a) := by rw [he]; exact h5.upd _ _
    have hmd : Md ((R.set i ⟨r.g, v1, ⟨r.a.key, r.a.turn, r.a.ps.eraseIdx k⟩⟩).map PRow.a) (M.map (updM r.a.key (·.eraseIdx k))) := by rw [he]; exact h6.upd _ _
    have hlen : (r.a.ps.eraseIdx k).length = k + m := by rw [List.length_eraseIdx, if_pos hkl, hm]; omega
    rcases hq with ⟨hz, hq⟩ | ⟨hz, rfl, hq⟩
    · have hempty : (strip r.a).2.eraseIdx k = [] := List.eq_nil_of_length_eq_zero (by show (r.a.ps.eraseIdx k).length = 0; omega)
      have hd : dropM M t = M.filter (fun x => x.1 ≠ r.a.key) := by rw [← hkt]; exact h7.drop_one hstrip hkl hempty
      have hget : (R.set i ⟨r.g, v1, ⟨r.a.key, r.a.turn, r.a.ps.eraseIdx k⟩⟩)[i]? = some ⟨r.g, v1, ⟨r.a.key, r.a.turn, r.a.ps.eraseIdx k⟩⟩ := List.getElem?_set_self hil
      have hperm := Hp.remove_perm rlt _ i _ hget
      have hpa := hperm.map PRow.a
      rw [List.map_cons] at hpa
      have hh : Hp.IsH alt ((Hp.remove rlt (R.set i ⟨r.g, v1, ⟨r.a.key, r.a.turn, r.a.ps.eraseIdx k⟩⟩) i).map PRow.a) ((Hp.remove rlt (R.set i ⟨r.g, v1, ⟨r.a.key, r.a.turn, r.a.ps.eraseIdx k⟩⟩) i).map PRow.a).length := by
        rw [List.length_map, ← isH_rlt]
        refine Hp.remove_heap rlt_ok ?_ (by simpa using hil)
        rw [isH_rlt]
        have := hqi.heap
        rwa [List.length_map] at this
      have hkeys2 : (((R.set i ⟨r.g, v1, ⟨r.a.key, r.a.turn, r.a.ps.eraseIdx k⟩⟩).map PRow.a).map (·.key)).Nodup := by
        rw [he, List.map_map]
        have e : (fun x : ARow => x.key) ∘ upd r.a.key (·.eraseIdx k) = (·.key) := funext fun x => upd_key _ _ x
        rw [e]
        exact hkeys
      refine ⟨rfl, ⟨T, v', _, hq, hsep.rem hperm, hP3, fun s hs k' hk => hP4 s (hperm.mem_iff.2 (List.mem_cons_of_mem _ hs)) k' hk, hqi.rem hpa hh, ?_, h7.drop t, h8, h9⟩, hfr⟩
      rw [hd]
      have := hmd.rem hkeys2 hpa
      have e2 : (M.map (updM r.a.key (·.eraseIdx k))).filter (fun x => x.1 ≠ r.a.key) = M.filter (fun x => x.1 ≠ r.a.key) := by
        rw [List.filter_map]
        have e3 : (fun x : MRow => decide (x.1 ≠ r.a.key)) ∘ updM r.a.key (·.eraseIdx k) = fun x => decide (x.1 ≠ r.a.key) := funext fun x => by simp only [Function.comp, updM_key]
        rw [e3]
        refine (List.map_congr_left (g := id) fun x hx => ?_).trans (List.map_id _)
        have := (List.mem_filter.1 hx).2
        unfold updM
        rw [if_neg (by simpa using this)]
        rfl
      rw [e2] at this
      exact this
    · have hnz : (strip r.a).2.eraseIdx k ≠ [] := fun e => hz (by
        have h10 : ((strip r.a).2.eraseIdx k).length = 0 := by rw [e]; rfl
        rw [← hlen]
        exact h10)
      have hd : dropM M t = M.map (updM r.a.key (·.eraseIdx k)) := by rw [← hkt]; exact h7.drop_more hstrip hkl hnz
      exact ⟨rfl, ⟨T, v', _, hq, hsep, hP3, hP4, hqi, by rw [hd]; exact hmd, h7.drop t, h8, h9⟩, hfr⟩
end Go.Proofs.Ytlemfbgmhjklaaa
