/- The document's watch: Drop. -/
import Derived.Test.YtmgcigohfccgeaaRW
import Derived.Test.YtmgcigohfccgeaaCutH
namespace Go.Proofs.Ytmgcigohfccgeaa
open Go.RowKit

theorem ecells_one (L : List End) : ∀ u ∈ ecells L, u.oneCell' = true := by
  intro u hu
  unfold ecells at hu
  obtain ⟨x, -, hx⟩ := List.mem_flatMap.1 hu
  simp only [List.mem_cons, List.not_mem_nil, or_false] at hx
  rcases hx with rfl | rfl <;> rfl
theorem own_base {w : World} {base : Nat} {e : TypeId} {size : Nat} {v : Value} {n : Nat} {xs : List Value} (h : w.ownsRow base e size v n xs) {g : Nat} (hg : v.ownBlock = some g) : base ≤ g := by
  rcases h.2 with ⟨rfl, -⟩ | ⟨g', cap, cur, rfl, hb, -⟩
  · cases hg
  · cases hg
    exact hb
theorem info_rend : (Try.prog.info? 117).map (fun i => (i.zero, i.size, i.bytes)) = some (some (.agg #[.string ⟨#[]⟩, .int .i64 0]), 2, 24) := by kernel_rfl

/-- the first m of it -/
theorem row_first {w : World} {p : Option Addr} {n c : Nat} {S : List End} (h : Row w (.slice p n c) 2 S.length (ecells S)) {m : Nat} (hm : m ≤ S.length) : Row w (.slice p m c) 2 (S.take m).length (ecells (S.take m)) := by
  obtain ⟨p', c', hv, h1, h2, h3, h4, h5, h6⟩ := h
  simp only [Value.slice.injEq] at hv
  obtain ⟨rfl, rfl, rfl⟩ := hv
  have hl : (S.take m).length = m := by simp; omega
  have ht : ecells (S.take m) = (ecells S).take (m * 2) := (ecells_take S m).symm
  rw [hl]
  refine ⟨_, c, rfl, by omega, h2, by rw [ht]; simp [h3]; omega, fun u hu => h4 u (by rw [ht] at hu; exact List.mem_of_mem_take hu), fun e => by have := h5 e; omega, ?_⟩
  rcases h6 with h6 | ⟨b, o, hp, ha⟩
  · exact .inl (by rw [ht, h6]; simp)
  · refine .inr ⟨b, o, hp, fun j u hj => ha j u ?_⟩
    rw [ht, List.getElem?_take] at hj
    split at hj
    · exact hj
    · cases hj
/-- what is left of it behind m -/
theorem row_from {w : World} {g o n c : Nat} {S : List End} (h : Row w (.slice (some ⟨g, o, none⟩) n c) 2 S.length (ecells S)) {m : Nat} (hm : m ≤ S.length) :
    Row w (.slice (if c = m then some ⟨g, o, none⟩ else some ⟨g, o + m * 2, none⟩) (S.length - m) (c - m)) 2 (S.drop m).length (ecells (S.drop m)) := by
  obtain ⟨p', c', hv, h1, h2, h3, h4, h5, h6⟩ := h
  simp only [Value.slice.injEq] at hv
  obtain ⟨rfl, rfl, rfl⟩ := hv
  have hl : (S.drop m).length = S.length - m := by simp
  have ht : ecells (S.drop m) = (ecells S).drop (m * 2) := by
    conv => rhs; rw [← List.take_append_drop m S, ecells_append]
    rw [List.drop_left' (by rw [ecells_length]; simp; omega)]
  rw [hl]
  refine ⟨_, c - m, rfl, by omega, by omega, by rw [ht]; simp [h3]; omega, fun u hu => h4 u (by rw [ht] at hu; exact List.mem_of_mem_drop hu), (fun e => by split at e <;> cases e), ?_⟩
  by_cases hlt : m < S.length
  · rcases h6 with h6 | ⟨b, o', hp, ha⟩
    · have := congrArg List.length h6
      rw [ecells_length] at this; simp at this; omega
    · simp only [Option.some.injEq, Addr.mk.injEq, and_true] at hp
      obtain ⟨rfl, rfl⟩ := hp
      refine .inr ⟨g, o + m * 2, by rw [if_neg (by omega)], fun j u hj => ?_⟩
      rw [ht, List.getElem?_drop] at hj
      rw [Nat.add_assoc]
      exact ha _ u hj
  · exact .inl (by rw [List.drop_eq_nil_of_le (by omega)]; rfl)

theorem rs_mk {w : World} {b : Nat} {T : Int} {v : Value} {S : List End} (h : RWt w b T v S) : w.cell? ⟨b, 1, none⟩ = some v ∧ w.frozen? ⟨b, 1, none⟩ = false := ⟨h.blk.cell (j := 1) rfl, h.blk.free 1⟩

set_option maxRecDepth 100000 in
set_option maxHeartbeats 2000000 in
theorem rdrop_yes (b : Nat) (T : Int) (v : Value) (S : List End) (s : ByteArray) (w : World) (h : RWt w b T v S) (hl : S.length ≤ 800000) (i : Nat) (hp : pl S s.data.toList = some i) :
    Calls Try.prog 53 #[ptr b, .string s] w fun e w' => e = .returned (.int .i64 0) ∧ ∃ v', RWt w' b T v' (S.eraseIdx i) ∧ RStp w w' b v v' ∧ Sh v' := by
  obtain ⟨i0, hi0, hz0, hz1, hz2⟩ := info_parts info_rend
  have hp' := hp
  unfold pl at hp'
  rw [List.findIdx?_eq_some_iff_getElem] at hp'
  obtain ⟨hi, hie, hno⟩ := hp'
  have HN : Hid (∀ j (h : j < S.length), j < i → (S[j].1.data.toList == s.data.toList) = false) := Lib.hid fun j hj hji => by simpa using hno j hji
  have HE : Hid ((S[i].1.data.toList == s.data.toList) = true) := Lib.hid hie
  obtain ⟨g, o, c, rfl, hc1, hc2, e0, -⟩ := h.endAt hi
  have HGL : Hid (g < w.heap.size) := Lib.hid (World.block_lt_of_cell? w _ e0)
  have hml : maxLen ≤ 9223372036854775807 := by decide
  have H := Lib.hid h
  have c1 := h.blk.cell (j := 1) rfl
  have f1 := h.blk.free 1
  clear hp hno hie h e0
  go_enter Try.func53, Try.ntmps53
  go_wp2
  go_loop [5] (fun x => ∃ k : Nat, k ≤ i ∧ x = .int .i64 (k : Int)) (fun x => i - (intOf x).toNat)
  case atStart => exact ⟨0, Nat.zero_le _, rfl⟩
  case round =>
    obtain ⟨k, hk, rfl⟩ := hrel
    obtain ⟨g', o', c', e', -, -, e1, e2⟩ := H.out.endAt (i := k) (by omega)
    simp only [Value.slice.injEq, Option.some.injEq, Addr.mk.injEq, and_true, true_and] at e'
    obtain ⟨⟨rfl, rfl⟩, rfl⟩ := e'
    obtain ⟨nm, hnm⟩ : ∃ nm, nm = S[k].1 := ⟨_, rfl⟩
    rw [← hnm] at e1
    clear e2
    by_cases hlt : k < i
    · have t1 : (nm.toList == s.toList) = false := by rw [Lib.toList_data, Lib.toList_data, hnm]; exact HN.out k (by omega) hlt
      clear hnm
      go_wp2
      go_round
      case rel => exact ⟨k + 1, hlt, by go_num⟩
      case measure => simp [intOf]; omega
    · obtain rfl : k = i := by omega
      have t1 : (nm.toList == s.toList) = true := by rw [Lib.toList_data, Lib.toList_data, hnm]; exact HE.out
      have b1 : (0 : Int) ≤ (k : Int) := by omega
      have b2 : (k : Int) ≤ (S.length : Int) := by omega
      have b3 : (k : Int) ≤ (c : Int) := by omega
      have b4 : (0 : Int) ≤ (k : Int) + 1 := by omega
      have b5 : (k : Int) + 1 ≤ (S.length : Int) := by omega
      have b6 : (S.length : Int) ≤ (c : Int) := by omega
      have u1 : IntKind.i64.wrap ((k : Int) + 1) = (k : Int) + 1 := i64_in (by omega)
      have u2 : ((k : Int) + 1).toNat = k + 1 := by omega
      clear hnm
      go_wp2
      have HL1 : Hid ((S.take k).length = k) := Lib.hid (by simp; omega)
      have HL2 : Hid ((S.drop (k + 1)).length = S.length - (k + 1)) := Lib.hid (by simp)
      have HSL := Lib.hid hl
      refine wp_region_noPanic ?_
      refine wp_region_lastH (fun w' => w'.cell? ⟨b, 1, none⟩ = some (.slice (some ⟨g, o, none⟩) S.length c) ∧ Below w.heap.size w w') 19 rfl rfl (by kernel_rfl) (by kernel_rfl) ⟨c1, below_drewN 1⟩ (fun hHeld => ?_)
      refine wpAnyH_take (i := 0) (v := ?v0) rfl (by kernel_rfl) (by kernel_rfl) (by kernel_rfl) (fun _ _ _ h => h) (Or.inl ⟨by rfl, ?hy0⟩) (by assumption) ?rest0
      case hy0 => (intro w hSw; (try dsimp only at hSw); go_simp; (try with_reducible rfl))
      try simp only [Act.put, List.setIfInBounds_toArray, List.set_cons_zero, List.set_cons_succ]
      refine wpAnyH_take (i := 2) (v := ?v2) rfl (by kernel_rfl) (by kernel_rfl) (by kernel_rfl) (fun _ _ _ h => h) (Or.inl ⟨by rfl, ?hy2⟩) (by assumption) ?rest2
      case hy2 => (intro w hSw; (try dsimp only at hSw); go_simp; (try with_reducible rfl))
      try simp only [Act.put, List.setIfInBounds_toArray, List.set_cons_zero, List.set_cons_succ]
      refine wpAnyH_take (i := 3) (v := ?v3) rfl (by kernel_rfl) (by kernel_rfl) (by kernel_rfl) (fun _ _ _ h => h) (Or.inl ⟨by rfl, ?hy3⟩) (by assumption) ?rest3
      case hy3 => (intro w hSw; (try dsimp only at hSw); go_simp; (try with_reducible rfl))
      try simp only [Act.put, List.setIfInBounds_toArray, List.set_cons_zero, List.set_cons_succ]
      refine wpAnyH_take (i := 4) (v := ?v4) rfl (by kernel_rfl) (by kernel_rfl) (by kernel_rfl) (fun _ _ _ h => h) (Or.inl ⟨by rfl, ?hy4⟩) (by assumption) ?rest4
      case hy4 => (intro w hSw; (try dsimp only at hSw); go_simp; (try with_reducible rfl))
      try simp only [Act.put, List.setIfInBounds_toArray, List.set_cons_zero, List.set_cons_succ]
      refine wpAnyH_take (i := 5) (v := ?v5) rfl (by kernel_rfl) (by kernel_rfl) (by kernel_rfl) (fun _ _ _ h => h) (Or.inl ⟨by rfl, ?hy5⟩) (by assumption) ?rest5
      case hy5 => (intro w hSw; (try dsimp only at hSw); go_simp; (try with_reducible rfl))
      try simp only [Act.put, List.setIfInBounds_toArray, List.set_cons_zero, List.set_cons_succ]
      refine wpAnyH_take (i := 6) (v := ?v6) rfl (by kernel_rfl) (by kernel_rfl) (by kernel_rfl) (fun _ _ _ h => h) (Or.inl ⟨by rfl, ?hy6⟩) (by assumption) ?rest6
      case hy6 => (intro w hSw; (try dsimp only at hSw); go_simp; (try with_reducible rfl))
      try simp only [Act.put, List.setIfInBounds_toArray, List.set_cons_zero, List.set_cons_succ]
      refine wpAnyH_take (i := 7) (v := ?v7) rfl (by kernel_rfl) (by kernel_rfl) (by kernel_rfl) (fun _ _ _ h => h) (Or.inl ⟨by rfl, ?hy7⟩) (by assumption) ?rest7
      case hy7 => (intro w hSw; (try dsimp only at hSw); go_simp; (try with_reducible rfl))
      try simp only [Act.put, List.setIfInBounds_toArray, List.set_cons_zero, List.set_cons_succ]
      refine wpAnyH_take (i := 9) (v := ?v9) rfl (by kernel_rfl) (by kernel_rfl) (by kernel_rfl) (fun _ _ _ h => h) (Or.inl ⟨by rfl, ?hy9⟩) (by assumption) ?rest9
      case hy9 => (intro w hSw; (try dsimp only at hSw); go_simp; (try with_reducible rfl))
      try simp only [Act.put, List.setIfInBounds_toArray, List.set_cons_zero, List.set_cons_succ]
      refine wpAnyH_take (i := 10) (v := ?v10) rfl (by kernel_rfl) (by kernel_rfl) (by kernel_rfl) (fun _ _ _ h => h) (Or.inl ⟨by rfl, ?hy10⟩) (by assumption) ?rest10
      case hy10 => (intro w hSw; (try dsimp only at hSw); go_simp; (try with_reducible rfl))
      try simp only [Act.put, List.setIfInBounds_toArray, List.set_cons_zero, List.set_cons_succ]
      refine wpAnyH_take (i := 11) (v := ?v11) rfl (by kernel_rfl) (by kernel_rfl) (by kernel_rfl) (fun _ _ _ h => h) (Or.inl ⟨by rfl, ?hy11⟩) (by assumption) ?rest11
      case hy11 => (intro w hSw; (try dsimp only at hSw); go_simp; (try with_reducible rfl))
      try simp only [Act.put, List.setIfInBounds_toArray, List.set_cons_zero, List.set_cons_succ]
      refine wpAnyH_take (i := 12) (v := ?v12) rfl (by kernel_rfl) (by kernel_rfl) (by kernel_rfl) (fun _ _ _ h => h) (Or.inl ⟨by rfl, ?hy12⟩) (by assumption) ?rest12
      case hy12 => (intro w hSw; (try dsimp only at hSw); go_simp; (try with_reducible rfl))
      try simp only [Act.put, List.setIfInBounds_toArray, List.set_cons_zero, List.set_cons_succ]
      refine wpAnyH_take (i := 13) (v := ?v13) rfl (by kernel_rfl) (by kernel_rfl) (by kernel_rfl) (fun _ _ _ h => h) (Or.inl ⟨by rfl, ?hy13⟩) (by assumption) ?rest13
      case hy13 => (intro w hSw; (try dsimp only at hSw); go_simp; (try with_reducible rfl))
      try simp only [Act.put, List.setIfInBounds_toArray, List.set_cons_zero, List.set_cons_succ]
      refine wpAnyH_take (i := 14) (v := ?v14) rfl (by kernel_rfl) (by kernel_rfl) (by kernel_rfl) (fun _ _ _ h => h) (Or.inl ⟨by rfl, ?hy14⟩) (by assumption) ?rest14
      case hy14 => (intro w hSw; (try dsimp only at hSw); go_simp; (try with_reducible rfl))
      try simp only [Act.put, List.setIfInBounds_toArray, List.set_cons_zero, List.set_cons_succ]
      refine wpAnyH_take (i := 15) (v := ?v15) rfl (by kernel_rfl) (by kernel_rfl) (by kernel_rfl) (fun _ _ _ h => h) (Or.inl ⟨by rfl, ?hy15⟩) (by assumption) ?rest15
      case hy15 => (intro w hSw; (try dsimp only at hSw); go_simp; (try with_reducible rfl))
      try simp only [Act.put, List.setIfInBounds_toArray, List.set_cons_zero, List.set_cons_succ]
      refine wpAnyH_ready (rs := [1]) (by kernel_rfl) (by simp) ?_
      refine AllReadyH.cons rfl (fun K hK => ?_) AllReadyH.nil
      simp only [List.getElem_toArray, List.getElem_cons_succ, List.getElem_cons_zero]
      go_simp
      obtain ⟨w6, hw6⟩ : ∃ w6, w6 = (w.alloc (.cells #[] 117)).drew := ⟨_, rfl⟩
      obtain ⟨z, hz⟩ : ∃ z, z = w.heap.size := ⟨_, rfl⟩
      have hb6 : Below w.heap.size w w6 := by rw [hw6]; exact below_ad w _
      have HO6 : Hid (w6.ownsRow z 117 2 (.slice (some ⟨z, 0, none⟩) 0 0) 0 []) := Lib.hid (by rw [hw6, hz]; exact own_fr (World.ownsRow_made w #[] 0 (Nat.le_refl _) (by decide) rfl) (Fr.of_below (below_drewN 1) []) (fun _ _ => by simp))
      have HB6 := Lib.hid hb6
      have H6 := Lib.hid (H.out.kept hb6)
      have HZ := Lib.hid hz
      rw [← hw6, ← hz]
      refine hK.out _ _ ⟨H6.out.blk.cell (j := 1) rfl, hb6⟩ (fun hS1 => ?_)
      clear hw6 hz hb6 hK K
      try simp only [Act.put, List.setIfInBounds_toArray, List.set_cons_zero, List.set_cons_succ]
      refine wpAnyH_ready (rs := [8]) (by kernel_rfl) (by simp) ?_
      refine AllReadyH.cons rfl (fun K hK => ?_) AllReadyH.nil
      refine step_app rfl (.tmp 26) (.tmp 32) 78 78 rfl z 117 i0 (.agg #[.string ⟨#[]⟩, .int .i64 0]) 2 24 Try.underlying78 hi0 hz0 hz1 hz2 rfl (.slice (some ⟨z, 0, none⟩) 0 0) 0 [] (by rfl) HO6.out (.slice (some ⟨g, o, none⟩) k c) k (ecells (S.take k)) (by rfl) (by have := row_first H6.out.row (m := k) (by omega); rw [HL1.out] at this; exact Row.src Try.underlying78 this) (by have := HSL.out; unfold maxLen; omega) (by have := HSL.out; omega) (by rw [HZ.out]; exact HB6.out.size) ?_
      intro v7 w7 ho7 hg7 hn7 hk7
      have HO7 : Hid (w7.ownsRow z 117 2 v7 k (ecells (S.take k))) := Lib.hid (by simpa using ho7)
      have hf7 : Fr [z] w6 w7 := by simpa [Value.ownBlock] using Fr.of_grown hg7
      have hb7 : Below w.heap.size w w7 := HB6.out.trans (hf7.below (by intro y hy; rw [List.mem_singleton.1 hy, HZ.out]; exact Nat.le_refl _) HB6.out.size)
      have HB7 := Lib.hid hb7
      have H7 := Lib.hid (H.out.kept hb7)
      refine hK.out _ _ ⟨H7.out.blk.cell (j := 1) rfl, hb7⟩ (fun hS2 => ?_)
      clear hK K ho7 hg7 hn7 hk7 hf7 hb7 hS1
      try simp only [Act.put, List.setIfInBounds_toArray, List.set_cons_zero, List.set_cons_succ]
      refine wpAnyH_ready (rs := [16]) (by kernel_rfl) (by simp) ?_
      refine AllReadyH.cons rfl (fun K hK => ?_) AllReadyH.nil
      refine step_app rfl (.tmp 33) (.tmp 40) 78 78 rfl z 117 i0 (.agg #[.string ⟨#[]⟩, .int .i64 0]) 2 24 Try.underlying78 hi0 hz0 hz1 hz2 rfl v7 k (ecells (S.take k)) (by rfl) HO7.out (.slice (if c = k + 1 then some ⟨g, o, none⟩ else some ⟨g, o + (k + 1) * 2, none⟩) (S.length - (k + 1)) (c - (k + 1))) (S.length - (k + 1)) (ecells (S.drop (k + 1))) (by rfl) (by have := row_from H7.out.row (m := k + 1) (by omega); rw [HL2.out] at this; exact Row.src Try.underlying78 this) (by have := HSL.out; unfold maxLen; omega) (by have := HSL.out; omega) (by rw [HZ.out]; exact HB7.out.size) ?_
      intro v8 w8 ho8 hg8 hn8 hk8
      have HO8 : Hid (w8.ownsRow z 117 2 v8 (S.eraseIdx k).length (ecells (S.eraseIdx k))) := Lib.hid (by
        have e1 : ecells (S.take k) ++ ecells (S.drop (k + 1)) = ecells (S.eraseIdx k) := by rw [List.eraseIdx_eq_take_drop_succ, ecells_append]
        have e2 : k + (S.length - (k + 1)) = (S.eraseIdx k).length := by rw [List.length_eraseIdx_of_lt (by omega)]; omega
        rw [e1, e2] at ho8
        exact ho8)
      have hb8 : Below w.heap.size w w8 := HB7.out.trans ((Fr.of_grown hg8).below (by intro y hy; rw [← HZ.out]; exact own_base HO7.out (Option.mem_toList.1 hy)) HB7.out.size)
      have HB8 := Lib.hid hb8
      have H8 := Lib.hid (H.out.kept hb8)
      refine hK.out _ _ ⟨H8.out.blk.cell (j := 1) rfl, hb8⟩ (fun hS3 => ?_)
      clear hK K ho8 hg8 hn8 hk8 hb8 hS2
      try simp only [Act.put, List.setIfInBounds_toArray, List.set_cons_zero, List.set_cons_succ]
      refine wpAnyH_take (i := 17) (v := ?v17) rfl (by kernel_rfl) (by kernel_rfl) (by kernel_rfl) (fun _ _ _ h => h) (Or.inl ⟨by rfl, ?hy17⟩) (by assumption) ?rest17
      case hy17 => (intro w hSw; (try dsimp only at hSw); go_simp; (try with_reducible rfl))
      try simp only [Act.put, List.setIfInBounds_toArray, List.set_cons_zero, List.set_cons_succ]
      refine wpAnyH_take (i := 18) (v := ?v18) rfl (by kernel_rfl) (by kernel_rfl) (by kernel_rfl) (fun _ _ _ h => h) (Or.inl ⟨by rfl, ?hy18⟩) (by assumption) ?rest18
      case hy18 => (intro w hSw; (try dsimp only at hSw); go_simp; (try with_reducible rfl))
      try simp only [Act.put, List.setIfInBounds_toArray, List.set_cons_zero, List.set_cons_succ]
      refine wpAnyH_done (by kernel_rfl) ?_ _
      refine LastQ.start rfl ?_
      have d4 := H8.out.blk.cell (j := 1) rfl
      have f4 := H8.out.blk.free 1
      clear hS3 hHeld c1 f1
      obtain ⟨p8, c8, rfl, -, -⟩ := own_slice HO8.out
      generalize (if c = k + 1 then some (⟨g, o, none⟩ : Addr) else some ⟨g, o + (k + 1) * 2, none⟩) = pp
      go_wp2
      refine NoPanic.normal ?_
      go_wp2
      go_ret
      have hshv := own_sh HO8.out
      have hgz : b < z := by rw [HZ.out]; exact H.out.blk.lt
      refine ⟨rfl, _, ⟨H8.out.blk.set 1 _, row_of_owns (own_fr HO8.out ((Fr.refl [b] w8).set (p := ⟨b, 1, none⟩) (by simp) _) (fun y hy => by have := own_base HO8.out hy; simp; omega)) (ecells_one _), fun hq => ?_⟩, ⟨?_, fun y hy => ?_⟩, hshv⟩
      · have := own_base HO8.out hq; omega
      · exact (Fr.of_below HB8.out _).set (p := ⟨b, 1, none⟩) (by simp) _
      · have := own_base HO8.out hy; rw [HZ.out] at this; exact .inr ⟨this, by have := own_lt HO8.out hy; simpa [World.setCell] using this⟩
end Go.Proofs.Ytmgcigohfccgeaa
