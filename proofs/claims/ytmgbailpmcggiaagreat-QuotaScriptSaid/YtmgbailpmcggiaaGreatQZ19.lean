/- Texts of one proof, laid together: RQGrant. No condition of ours. -/
import Derived.Test.YtmgbailpmcggiaaGreatQZ18
namespace Go.Proofs.YtmgbailpmcggiaaGreat
open Go.RowKit

theorem info_gr6 : (Tryz.prog.info? 66).map (fun i => (i.zero, i.size, i.bytes)) = some (some (.agg #[.string ⟨#[]⟩, .int .i64 0, .int .i64 0, .int .i64 0, .int .i64 0, .int .i64 0]), 6, 56) := by kernel_rfl
/-- one of the grants has other amounts -/
theorem rwC_gmt {S : List Gr} {k : Nat} (hk : k < S.length) (x : Gr) (hx : x = S[k]) (a : Am) :
    ((((rwC grC S).set (k * 6 + 2) (.int .i64 a.c)).set (k * 6 + 2 + 1) (.int .i64 a.r)).set (k * 6 + 2 + 2) (.int .i64 a.d)).set (k * 6 + 2 + 3) (.int .i64 a.p) = rwC grC (S.set k ⟨x.u, x.b, a⟩) := by
  subst hx
  rw [rwC_set grC_len hk (j := 2) (x := ⟨S[k].u, S[k].b, ⟨a.c, S[k].a.r, S[k].a.d, S[k].a.p⟩⟩) (by omega) rfl]
  rw [show k * 6 + 2 + 1 = k * 6 + 3 from rfl, rwC_set grC_len (i := k) (j := 3) (x := ⟨S[k].u, S[k].b, ⟨a.c, a.r, S[k].a.d, S[k].a.p⟩⟩) (by simpa using hk) (by omega) (by simp), List.set_set]
  rw [show k * 6 + 2 + 2 = k * 6 + 4 from rfl, rwC_set grC_len (i := k) (j := 4) (x := ⟨S[k].u, S[k].b, ⟨a.c, a.r, a.d, S[k].a.p⟩⟩) (by simpa using hk) (by omega) (by simp), List.set_set]
  rw [show k * 6 + 2 + 3 = k * 6 + 5 from rfl, rwC_set grC_len (i := k) (j := 5) (x := ⟨S[k].u, S[k].b, ⟨a.c, a.r, a.d, a.p⟩⟩) (by simpa using hk) (by omega) (by simp), List.set_set]

set_option maxRecDepth 100000 in
set_option maxHeartbeats 6000000 in
theorem rgrant_any (base g : Nat) (vG vC : Value) (S : List Gr) (C : List Ch) (u : ByteArray) (d : Int) (a : Am) (w : World) (h : RBk base w g vG vC S C) (hl : S.length ≤ 100000) (hgo : ∀ e ∈ S, gok e) (hd1 : -9223372036854775808 ≤ d) (hd2 : d ≤ 9223372036854775807) (hbase : base ≤ w.heap.size) :
    Calls Tryz.prog 14 #[ptr g, .string u, .int .i64 d, amV a] w fun e w' => e = .returned (.int .i64 (if (askB u d && a.okB) = true then 0 else 2)) ∧ RqG base w w' g vG vC (if (askB u d && a.okB) = true then gins ⟨u, d, a⟩ S else S) C := by
  obtain ⟨w1, hw1⟩ : ∃ w1, w1 = w.alloc (.cells #[.int .i64 a.c, .int .i64 a.r, .int .i64 a.d, .int .i64 a.p] 34) := ⟨_, rfl⟩
  obtain ⟨B, hB⟩ : ∃ B, B = w.heap.size := ⟨_, rfl⟩
  have X1 : Hid (Blk w1 B (amC a) 34) := Lib.hid (by rw [hw1, hB]; exact Blk.made w (amC a) _)
  have HB1 : Hid (Below w.heap.size w w1) := Lib.hid (by rw [hw1]; exact below_alloc w _)
  have HBS := Lib.hid hbase
  have HGO := Lib.hid hgo
  obtain ⟨ix, hi, hz0, hz1, hz2⟩ := info_parts info_gr6
  obtain ⟨p, cg, rfl, hc, hm⟩ := own_slice h.gr
  have H1 := Lib.hid (h.kept HB1.out)
  have hml : maxLen ≤ 9223372036854775807 := by decide
  have HL := Lib.hid hl
  have HH := Lib.hid h
  have HD1 := Lib.hid hd1
  have HD2 := Lib.hid hd2
  clear h hl hbase hgo hd1 hd2
  obtain ⟨wr, hwr⟩ : ∃ wr, wr = (askB u d && a.okB) := ⟨_, rfl⟩
  have HWR : Hid (∀ w, Calls Tryz.prog 35 #[.string u, .int .i64 d, .agg #[.int .i64 a.c, .int .i64 a.r, .int .i64 a.d, .int .i64 a.p]] w fun e w' => e = .returned (.bool (!wr)) ∧ Below w.heap.size w w') := Lib.hid (fun w => by rw [hwr]; exact rwrong_any u d a w)
  have HASK : Hid (wr = true → u.size ≤ maxLen) := Lib.hid (fun e => by
    rw [e] at hwr
    have h1 := hwr.symm
    rw [Bool.and_eq_true] at h1
    have := (ask_parts h1.1).1
    unfold maxLen
    omega)
  rw [← hwr]
  clear hwr
  have c0 := X1.out.cell (j := 0) rfl
  have c1 := X1.out.cell (j := 1) rfl
  have c2 := X1.out.cell (j := 2) rfl
  have c3 := X1.out.cell (j := 3) rfl
  cases wr
  case false =>
    go_enter Tryz.func14, Tryz.ntmps14
    go_upto_region 1 with fail
    rw [← hw1, ← hB]
    clear hw1 hB
    go_wp2_with (go_at_call 35; refine (HWR.out _).mono ?_; rintro e w2 ⟨rfl, hb⟩; have X2 := Lib.hid (X1.out.kept hb); have H2 := Lib.hid (H1.out.kept hb); have HBP := Lib.hid (below_and HB1.out hb); clear hb c0 c1 c2 c3)
    go_ret
    exact ⟨rfl, RqG.mk (HH.out.kept HBP.out) (Frp.of_below HBP.out _)⟩
  case true =>
  obtain ⟨k, hk⟩ : ∃ k, k = gpos ⟨u, d, a⟩ S := ⟨_, rfl⟩
  have HXO : Hid (gok ⟨u, d, a⟩) := Lib.hid ⟨HASK.out rfl, wf64 HD1.out HD2.out⟩
  have HK : Hid (k ≤ S.length) := Lib.hid (by rw [hk]; exact gpos_le _ S)
  have HKL : Hid (∀ j (h : j < S.length), j < k → glt S[j] ⟨u, d, a⟩) := Lib.hid (fun j h hj => (cmpG_lt _ _).1 (gpos_lt _ S j h (by omega)))
  have HKA : Hid (∀ h : k < S.length, ¬ glt S[k] ⟨u, d, a⟩) := Lib.hid (by subst hk; exact fun h hg => gpos_at _ S h ((cmpG_lt _ _).2 hg))
  have HSET : Hid (∀ h : k < S.length, S[k].u = u → S[k].b = d → gins ⟨u, d, a⟩ S = S.set k ⟨u, d, a⟩) := Lib.hid (by subst hk; exact fun h h1 h2 => gins_set _ S h (by rw [h1, h2]))
  have HINS : Hid ((∀ h : k < S.length, ¬ (S[k].u = u ∧ S[k].b = d)) → gins ⟨u, d, a⟩ S = S.take k ++ ⟨u, d, a⟩ :: S.drop k) := Lib.hid (by
    subst hk
    intro hn
    refine gins_cut _ S (fun h he => hn h ?_)
    have hg := HGO.out _ (List.getElem_mem h)
    exact kT_inj hg.1 hg.2 HXO.out.1 HXO.out.2 he)
  clear hk
  go_enter Tryz.func14, Tryz.ntmps14
  go_upto_region 1 with fail
  rw [← hw1, ← hB]
  clear hw1 hB
  go_wp2_with (go_at_call 35; refine (HWR.out _).mono ?_; rintro e w2 ⟨rfl, hb⟩; have X2 := Lib.hid (X1.out.kept hb); have H2 := Lib.hid (H1.out.kept hb); have HBP := Lib.hid (below_and HB1.out hb); clear hb c0 c1 c2 c3)
  have b1 := H2.out.blk.cell (j := 0) rfl
  go_loop [9] (fun x => ∃ j : Nat, j ≤ k ∧ x = .int .i64 (j : Int)) (fun x => k - (intOf x).toNat)
  case atStart => exact ⟨0, Nat.zero_le _, rfl⟩
  case round =>
    obtain ⟨j, hj, rfl⟩ := hrel
    have i0 : (0 : Int) ≤ (j : Int) := by omega
    by_cases hlt : j < k
    · have hjl : j < S.length := by have := HK.out; omega
      obtain ⟨q, rfl, hcs⟩ := H2.out.grAt hjl
      have hg := HKL.out j hjl hlt
      obtain ⟨y, hy⟩ : ∃ y, y = S[j] := ⟨_, rfl⟩
      rw [← hy] at hcs hg
      have y0 : w2.cell? ⟨q, j * 6, none⟩ = some (.string y.u) := hcs 0 _ (by omega) rfl
      have y1 : w2.cell? ⟨q, j * 6 + 1, none⟩ = some (.int .i64 y.b) := hcs 1 _ (by omega) rfl
      have i3 : (j : Int) < (S.length : Int) := by omega
      clear hcs hy
      cases t1 : Op.bytesLess y.u.toList u.toList
      · obtain ⟨t2, t3⟩ : (y.u.toList == u.toList) = true ∧ y.b < d := by
          rw [less_lt', Lib.toList_data, Lib.toList_data] at t1
          have t1 : ¬ y.u.data.toList < u.data.toList := by simpa using t1
          rcases hg with hg | hg
          · exact absurd hg t1
          · refine ⟨?_, hg.2⟩
            rw [tl_eq]
            have : y.u.data.toList = u.data.toList := hg.1
            rw [this]; simp
        clear hg
        go_wp2
        go_round
        case rel => exact ⟨j + 1, hlt, by go_num⟩
        case measure => simp [intOf]; omega
      · clear hg
        go_wp2
        go_round
        case rel => exact ⟨j + 1, hlt, by go_num⟩
        case measure => simp [intOf]; omega
    · obtain rfl : j = k := by omega
      by_cases hin : j < S.length
      · obtain ⟨q, hpq, hcs⟩ := H2.out.grAt hin
        have hg := HKA.out hin
        obtain ⟨y, hy⟩ : ∃ y, y = S[j] := ⟨_, rfl⟩
        rw [← hy] at hcs hg
        have y0 : w2.cell? ⟨q, j * 6, none⟩ = some (.string y.u) := hcs 0 _ (by omega) rfl
        have y1 : w2.cell? ⟨q, j * 6 + 1, none⟩ = some (.int .i64 y.b) := hcs 1 _ (by omega) rfl
        have i3 : (j : Int) < (S.length : Int) := by omega
        clear hcs
        have t1 : Op.bytesLess y.u.toList u.toList = false := by
          rw [less_lt', Lib.toList_data, Lib.toList_data]
          exact decide_eq_false (fun h => hg (.inl h))
        cases t2 : (y.u.toList == u.toList)
        · have HCUT : Hid (gins ⟨u, d, a⟩ S = S.take j ++ ⟨u, d, a⟩ :: S.drop j) := Lib.hid (HINS.out (fun h ⟨h1, h2⟩ => by
            rw [← hy] at h1
            rw [h1] at t2
            simp at t2))
          clear hg hy
          rw [hpq] at b1
          go_upto_region 9 with fail
          clear b1 y0 y1 hpq
          have b2 : (j : Int) ≤ (S.length : Int) := by have := HK.out; omega
          have b6 : (S.length : Int) ≤ (cg : Int) := by omega
          have b3 : (j : Int) ≤ (cg : Int) := by omega
          have HSS : Hid (∀ w', Below w2.heap.size w2 w' → w'.cell? ⟨g, 0, none⟩ = some (.slice p S.length cg) ∧ w'.cell? ⟨B, 0, none⟩ = some (.int .i64 a.c) ∧ w'.cell? ⟨B, 1, none⟩ = some (.int .i64 a.r) ∧ w'.cell? ⟨B, 2, none⟩ = some (.int .i64 a.d) ∧ w'.cell? ⟨B, 3, none⟩ = some (.int .i64 a.p)) := Lib.hid (fun w' hb => ⟨(H2.out.kept hb).blk.cell (j := 0) rfl, (X2.out.kept hb).cell (j := 0) rfl, (X2.out.kept hb).cell (j := 1) rfl, (X2.out.kept hb).cell (j := 2) rfl, (X2.out.kept hb).cell (j := 3) rfl⟩)
          refine wp_region_noPanic ?_
          refine wp_region_lastH (fun w' => w'.cell? ⟨g, 0, none⟩ = some (.slice p S.length cg) ∧ w'.cell? ⟨B, 0, none⟩ = some (.int .i64 a.c) ∧ w'.cell? ⟨B, 1, none⟩ = some (.int .i64 a.r) ∧ w'.cell? ⟨B, 2, none⟩ = some (.int .i64 a.d) ∧ w'.cell? ⟨B, 3, none⟩ = some (.int .i64 a.p)) 24 rfl rfl (by kernel_rfl) (by kernel_rfl) (HSS.out _ (below_drewN 1)) (fun hHeld => ?_)
          have HB35 : Hid (Below w2.heap.size w2 w2.drew) := Lib.hid (below_drewN 1)
          have hS35 : True := trivial
          obtain ⟨wd35, hwd⟩ : ∃ xq, xq = w2.drew := ⟨_, rfl⟩
          rw [← hwd] at hHeld HB35 ⊢
          clear hwd
          refine wpAnyH_take (i := 0) (v := ?v57) rfl (by kernel_rfl) (by kernel_rfl) (by kernel_rfl) (fun _ _ _ h => h) (Or.inl ⟨by rfl, ?hy57⟩) (by assumption) ?rest57
          case hy57 => (intro _ hSw; (try dsimp only at hSw); go_simp; (try with_reducible rfl))
          (try simp only [Act.put]); (try simp only [List.setIfInBounds_toArray]); (try simp only [List.set_cons_succ]); (try simp only [List.set_cons_zero])
          refine wpAnyH_take (i := 2) (v := ?v58) rfl (by kernel_rfl) (by kernel_rfl) (by kernel_rfl) (fun _ _ _ h => h) (Or.inl ⟨by rfl, ?hy58⟩) (by assumption) ?rest58
          case hy58 => (intro _ hSw; (try dsimp only at hSw); go_simp; (try with_reducible rfl))
          (try simp only [Act.put]); (try simp only [List.setIfInBounds_toArray]); (try simp only [List.set_cons_succ]); (try simp only [List.set_cons_zero])
          refine wpAnyH_take (i := 3) (v := ?v59) rfl (by kernel_rfl) (by kernel_rfl) (by kernel_rfl) (fun _ _ _ h => h) (Or.inl ⟨by rfl, ?hy59⟩) (by assumption) ?rest59
          case hy59 => (intro _ hSw; (try dsimp only at hSw); go_simp; (try with_reducible rfl))
          (try simp only [Act.put]); (try simp only [List.setIfInBounds_toArray]); (try simp only [List.set_cons_succ]); (try simp only [List.set_cons_zero])
          refine wpAnyH_take (i := 4) (v := ?v60) rfl (by kernel_rfl) (by kernel_rfl) (by kernel_rfl) (fun _ _ _ h => h) (Or.inl ⟨by rfl, ?hy60⟩) (by assumption) ?rest60
          case hy60 => (intro _ hSw; (try dsimp only at hSw); go_simp; (try with_reducible rfl))
          (try simp only [Act.put]); (try simp only [List.setIfInBounds_toArray]); (try simp only [List.set_cons_succ]); (try simp only [List.set_cons_zero])
          refine wpAnyH_take (i := 5) (v := ?v61) rfl (by kernel_rfl) (by kernel_rfl) (by kernel_rfl) (fun _ _ _ h => h) (Or.inl ⟨by rfl, ?hy61⟩) (by assumption) ?rest61
          case hy61 => (intro _ hSw; (try dsimp only at hSw); go_simp; (try with_reducible rfl))
          (try simp only [Act.put]); (try simp only [List.setIfInBounds_toArray]); (try simp only [List.set_cons_succ]); (try simp only [List.set_cons_zero])
          refine wpAnyH_take (i := 6) (v := ?v62) rfl (by kernel_rfl) (by kernel_rfl) (by kernel_rfl) (fun _ _ _ h => h) (Or.inl ⟨by rfl, ?hy62⟩) (by assumption) ?rest62
          case hy62 => (intro _ hSw; (try dsimp only at hSw); go_simp; (try with_reducible rfl))
          (try simp only [Act.put]); (try simp only [List.setIfInBounds_toArray]); (try simp only [List.set_cons_succ]); (try simp only [List.set_cons_zero])
          refine wpAnyH_take (i := 7) (v := ?v63) rfl (by kernel_rfl) (by kernel_rfl) (by kernel_rfl) (fun _ _ _ h => h) (Or.inl ⟨by rfl, ?hy63⟩) (by assumption) ?rest63
          case hy63 => (intro _ hSw; (try dsimp only at hSw); go_simp; (try with_reducible rfl))
          (try simp only [Act.put]); (try simp only [List.setIfInBounds_toArray]); (try simp only [List.set_cons_succ]); (try simp only [List.set_cons_zero])
          refine wpAnyH_take (i := 9) (v := ?v64) rfl (by kernel_rfl) (by kernel_rfl) (by kernel_rfl) (fun _ _ _ h => h) (Or.inl ⟨by rfl, ?hy64⟩) (by assumption) ?rest64
          case hy64 => (intro _ hSw; (try dsimp only at hSw); go_simp; (try with_reducible rfl))
          (try simp only [Act.put]); (try simp only [List.setIfInBounds_toArray]); (try simp only [List.set_cons_succ]); (try simp only [List.set_cons_zero])
          refine wpAnyH_take (i := 10) (v := ?v65) rfl (by kernel_rfl) (by kernel_rfl) (by kernel_rfl) (fun _ _ _ h => h) (Or.inl ⟨by rfl, ?hy65⟩) (by assumption) ?rest65
          case hy65 => (intro _ hSw; (try dsimp only at hSw); go_simp; (try with_reducible rfl))
          (try simp only [Act.put]); (try simp only [List.setIfInBounds_toArray]); (try simp only [List.set_cons_succ]); (try simp only [List.set_cons_zero])
          refine wpAnyH_take (i := 11) (v := ?v66) rfl (by kernel_rfl) (by kernel_rfl) (by kernel_rfl) (fun _ _ _ h => h) (Or.inl ⟨by rfl, ?hy66⟩) (by assumption) ?rest66
          case hy66 => (intro _ hSw; (try dsimp only at hSw); go_simp; (try with_reducible rfl))
          (try simp only [Act.put]); (try simp only [List.setIfInBounds_toArray]); (try simp only [List.set_cons_succ]); (try simp only [List.set_cons_zero])
          refine wpAnyH_take (i := 12) (v := ?v67) rfl (by kernel_rfl) (by kernel_rfl) (by kernel_rfl) (fun _ _ _ h => h) (Or.inl ⟨by rfl, ?hy67⟩) (by assumption) ?rest67
          case hy67 => (intro _ hSw; (try dsimp only at hSw); go_simp; (try with_reducible rfl))
          (try simp only [Act.put]); (try simp only [List.setIfInBounds_toArray]); (try simp only [List.set_cons_succ]); (try simp only [List.set_cons_zero])
          refine wpAnyH_take (i := 15) (v := ?v68) rfl (by kernel_rfl) (by kernel_rfl) (by kernel_rfl) (fun _ _ _ h => h) (Or.inl ⟨by rfl, ?hy68⟩) (by assumption) ?rest68
          case hy68 => (intro _ hSw; (try dsimp only at hSw); go_simp; (try with_reducible rfl))
          (try simp only [Act.put]); (try simp only [List.setIfInBounds_toArray]); (try simp only [List.set_cons_succ]); (try simp only [List.set_cons_zero])
          refine wpAnyH_take (i := 16) (v := ?v69) rfl (by kernel_rfl) (by kernel_rfl) (by kernel_rfl) (fun _ _ _ h => h) (Or.inl ⟨by rfl, ?hy69⟩) (by assumption) ?rest69
          case hy69 => (intro _ hSw; (try dsimp only at hSw); go_simp; (try with_reducible rfl))
          (try simp only [Act.put]); (try simp only [List.setIfInBounds_toArray]); (try simp only [List.set_cons_succ]); (try simp only [List.set_cons_zero])
          refine wpAnyH_take (i := 17) (v := ?v70) rfl (by kernel_rfl) (by kernel_rfl) (by kernel_rfl) (fun _ _ _ h => h) (Or.inl ⟨by rfl, ?hy70⟩) (by assumption) ?rest70
          case hy70 => (intro _ hSw; (try dsimp only at hSw); go_simp; (try with_reducible rfl))
          (try simp only [Act.put]); (try simp only [List.setIfInBounds_toArray]); (try simp only [List.set_cons_succ]); (try simp only [List.set_cons_zero])
          refine wpAnyH_take (i := 18) (v := ?v71) rfl (by kernel_rfl) (by kernel_rfl) (by kernel_rfl) (fun _ _ _ h => h) (Or.inl ⟨by rfl, ?hy71⟩) (by assumption) ?rest71
          case hy71 => (intro _ hSw; (try dsimp only at hSw); go_simp; (try with_reducible rfl))
          (try simp only [Act.put]); (try simp only [List.setIfInBounds_toArray]); (try simp only [List.set_cons_succ]); (try simp only [List.set_cons_zero])
          refine wpAnyH_take (i := 19) (v := ?v72) rfl (by kernel_rfl) (by kernel_rfl) (by kernel_rfl) (fun _ _ _ h => h) (Or.inl ⟨by rfl, ?hy72⟩) (by assumption) ?rest72
          case hy72 => (intro _ hSw; (try dsimp only at hSw); go_simp; (try with_reducible rfl))
          (try simp only [Act.put]); (try simp only [List.setIfInBounds_toArray]); (try simp only [List.set_cons_succ]); (try simp only [List.set_cons_zero])
          refine wpAnyH_take (i := 20) (v := ?v73) rfl (by kernel_rfl) (by kernel_rfl) (by kernel_rfl) (fun _ _ _ h => h) (Or.inl ⟨by rfl, ?hy73⟩) (by assumption) ?rest73
          case hy73 => (intro _ hSw; (try dsimp only at hSw); go_simp; (try with_reducible rfl))
          (try simp only [Act.put]); (try simp only [List.setIfInBounds_toArray]); (try simp only [List.set_cons_succ]); (try simp only [List.set_cons_zero])
          (try simp only [List.getElem_toArray]); (try simp only [List.getElem_cons_succ]); (try simp only [List.getElem_cons_zero]); (try simp only [List.setIfInBounds_toArray]); (try simp only [List.set_cons_succ, List.set_cons_zero])
          refine wpAnyH_ready (rs := [1, 13]) (by kernel_rfl) (by simp) ?_
          refine (AllReadyH.cons rfl (fun K hK => ?_) (AllReadyH.cons rfl (fun K hK => ?_) AllReadyH.nil))
          · (try simp only [List.getElem_toArray]); (try simp only [List.getElem_cons_succ]); (try simp only [List.getElem_cons_zero])
            go_simp
            obtain ⟨w36x, hw36⟩ : ∃ xq, xq = wd35.alloc (.cells #[] 66) := ⟨_, rfl⟩
            obtain ⟨z36, hz36⟩ : ∃ xq, xq = wd35.heap.size := ⟨_, rfl⟩
            have hn36 : Below wd35.heap.size wd35 w36x := by rw [hw36]; exact below_alloc _ _
            have hb36 : Below w2.heap.size w2 w36x := below_and HB35.out hn36
            have HB36 := Lib.hid hb36
            have HO36 : Hid (w36x.ownsRow w2.heap.size 66 6 (.slice (some ⟨z36, 0, none⟩) 0 0) 0 []) := Lib.hid (by rw [hw36, hz36]; exact World.ownsRow_made wd35 #[] 0 HB35.out.size (by decide) rfl)
            rw [← hw36, ← hz36]
            refine hK.out _ _ (HSS.out _ hb36) (fun hS36 => ?_)
            clear hK K hb36 hw36 hz36 hn36 hS35
            (try simp only [Act.put]); (try simp only [List.setIfInBounds_toArray]); (try simp only [List.set_cons_succ]); (try simp only [List.set_cons_zero])
            refine wpAnyH_ready (rs := [8, 13]) (by kernel_rfl) (by simp) ?_
            refine (AllReadyH.cons rfl (fun K hK => ?_) (AllReadyH.cons rfl (fun K hK => ?_) AllReadyH.nil))
            · refine step_app rfl (.tmp 99) (.tmp 105) 27 27 rfl w2.heap.size 66 ix (.agg #[.string ⟨#[]⟩, .int .i64 0, .int .i64 0, .int .i64 0, .int .i64 0, .int .i64 0]) 6 56 Tryz.underlying27 hi hz0 hz1 hz2 rfl (.slice (some ⟨z36, 0, none⟩) 0 0) 0 [] (by rfl) HO36.out (.slice p j cg) j (rwC grC (S.take j)) (by rfl) (gr_first H2.out HB36.out HK.out) (by have := HL.out; have := HK.out; unfold maxLen; omega) (by have := HL.out; have := HK.out; omega) HB36.out.size ?_
              intro v37 w37x ho37 hg37 hn37 hk37
              have HO37 : Hid (w37x.ownsRow w2.heap.size 66 6 v37 j (rwC grC (S.take j))) := Lib.hid (by simpa using ho37)
              have hb37 : Below w2.heap.size w2 w37x := HB36.out.trans ((Fr.of_grown hg37).below (by intro y hy; exact own_lo HO36.out (Option.mem_toList.1 hy)) HB36.out.size)
              have HB37 := Lib.hid hb37
              refine hK.out _ _ (HSS.out _ hb37) (fun hS37 => ?_)
              clear hK K hb37 ho37 hg37 hn37 hk37 hS36
              (try simp only [Act.put]); (try simp only [List.setIfInBounds_toArray]); (try simp only [List.set_cons_succ]); (try simp only [List.set_cons_zero])
              refine wpAnyH_ready (rs := [13]) (by kernel_rfl) (by simp) ?_
              refine (AllReadyH.cons rfl (fun K hK => ?_) AllReadyH.nil)
              (try simp only [List.getElem_toArray]); (try simp only [List.getElem_cons_succ]); (try simp only [List.getElem_cons_zero])
              go_simp
              obtain ⟨w38x, hw38⟩ : ∃ xq, xq = w37x.alloc (.cells #[.string u, .int .i64 d, .int .i64 a.c, .int .i64 a.r, .int .i64 a.d, .int .i64 a.p] 66) := ⟨_, rfl⟩
              obtain ⟨z38, hz38⟩ : ∃ xq, xq = w37x.heap.size := ⟨_, rfl⟩
              have hn38 : Below w37x.heap.size w37x w38x := by rw [hw38]; exact below_alloc _ _
              have hb38 : Below w2.heap.size w2 w38x := below_and HB37.out hn38
              have HB38 := Lib.hid hb38
              have HY38_13 : Hid (Blk w38x z38 (grC ⟨u, d, a⟩) 66) := Lib.hid (by rw [hw38, hz38]; exact Blk.made w37x (grC ⟨u, d, a⟩) _)
              have HO38 := Lib.hid (own_fr HO37.out (Fr.of_below hn38 []) (fun _ _ => by simp))
              have HNE38_13 : Hid (∀ q, (v37 : Value).ownBlock = some q → q ≠ z38) := Lib.hid (fun q hq => by have := own_hi HO37.out hq; omega)
              rw [← hw38, ← hz38]
              refine hK.out _ _ (HSS.out _ hb38) (fun hS38 => ?_)
              clear hK K hb38 hw38 hz38 hn38 hS37
              (try simp only [Act.put]); (try simp only [List.setIfInBounds_toArray]); (try simp only [List.set_cons_succ]); (try simp only [List.set_cons_zero])
              refine wpAnyH_ready (rs := [14]) (by kernel_rfl) (by simp) ?_
              refine (AllReadyH.cons rfl (fun K hK => ?_) AllReadyH.nil)
              refine step_app rfl (.tmp 106) (.tmp 111) 27 27 rfl w2.heap.size 66 ix (.agg #[.string ⟨#[]⟩, .int .i64 0, .int .i64 0, .int .i64 0, .int .i64 0, .int .i64 0]) 6 56 Tryz.underlying27 hi hz0 hz1 hz2 rfl v37 j (rwC grC (S.take j)) (by rfl) HO38.out (.slice (some ⟨z38, 0, none⟩) 1 1) 1 (grC ⟨u, d, a⟩) (by rfl) (src_block Tryz.underlying27 _ z38 ((grC ⟨u, d, a⟩)).toArray HY38_13.out rfl (grC_one ⟨u, d, a⟩)) (by have := HL.out; have := HK.out; unfold maxLen; omega) (by have := HL.out; have := HK.out; omega) HB38.out.size ?_
              intro v39 w39x ho39 hg39 hn39 hk39
              have HO39 : Hid (w39x.ownsRow w2.heap.size 66 6 v39 (j + 1) (rwC grC (S.take j) ++ grC ⟨u, d, a⟩)) := Lib.hid (by exact ho39)
              have hb39 : Below w2.heap.size w2 w39x := HB38.out.trans ((Fr.of_grown hg39).below (by intro y hy; exact own_lo HO38.out (Option.mem_toList.1 hy)) HB38.out.size)
              have HB39 := Lib.hid hb39
              refine hK.out _ _ (HSS.out _ hb39) (fun hS39 => ?_)
              clear hK K hb39 ho39 hg39 hn39 hk39 hS38
              (try simp only [Act.put]); (try simp only [List.setIfInBounds_toArray]); (try simp only [List.set_cons_succ]); (try simp only [List.set_cons_zero])
              refine wpAnyH_ready (rs := [21]) (by kernel_rfl) (by simp) ?_
              refine (AllReadyH.cons rfl (fun K hK => ?_) AllReadyH.nil)
              refine step_app rfl (.tmp 112) (.tmp 118) 27 27 rfl w2.heap.size 66 ix (.agg #[.string ⟨#[]⟩, .int .i64 0, .int .i64 0, .int .i64 0, .int .i64 0, .int .i64 0]) 6 56 Tryz.underlying27 hi hz0 hz1 hz2 rfl v39 (j + 1) (rwC grC (S.take j) ++ grC ⟨u, d, a⟩) (by rfl) HO39.out (.slice (if cg = j then p else Option.map (fun x => x.add (j * 6)) p) (S.length - j) (cg - j)) (S.length - j) (rwC grC (S.drop j)) (by rfl) (gr_rest H2.out HB39.out HK.out) (by have := HL.out; have := HK.out; unfold maxLen; omega) (by have := HL.out; have := HK.out; omega) HB39.out.size ?_
              intro v40 w40x ho40 hg40 hn40 hk40
              have HO40 : Hid (w40x.ownsRow w2.heap.size 66 6 v40 (j + 1 + (S.length - j)) (rwC grC (S.take j) ++ grC ⟨u, d, a⟩ ++ rwC grC (S.drop j))) := Lib.hid (by exact ho40)
              have hb40 : Below w2.heap.size w2 w40x := HB39.out.trans ((Fr.of_grown hg40).below (by intro y hy; exact own_lo HO39.out (Option.mem_toList.1 hy)) HB39.out.size)
              have HB40 := Lib.hid hb40
              refine hK.out _ _ (HSS.out _ hb40) (fun hS40 => ?_)
              clear hK K hb40 ho40 hg40 hn40 hk40 hS39
              (try simp only [Act.put]); (try simp only [List.setIfInBounds_toArray]); (try simp only [List.set_cons_succ]); (try simp only [List.set_cons_zero])
              refine wpAnyH_take (i := 22) (v := ?v74) rfl (by kernel_rfl) (by kernel_rfl) (by kernel_rfl) (fun _ _ _ h => h) (Or.inl ⟨by rfl, ?hy74⟩) (by assumption) ?rest74
              case hy74 => (intro _ hSw; (try dsimp only at hSw); go_simp; (try with_reducible rfl))
              (try simp only [Act.put]); (try simp only [List.setIfInBounds_toArray]); (try simp only [List.set_cons_succ]); (try simp only [List.set_cons_zero])
              refine wpAnyH_take (i := 23) (v := ?v75) rfl (by kernel_rfl) (by kernel_rfl) (by kernel_rfl) (fun _ _ _ h => h) (Or.inl ⟨by rfl, ?hy75⟩) (by assumption) ?rest75
              case hy75 => (intro _ hSw; (try dsimp only at hSw); go_simp; (try with_reducible rfl))
              (try simp only [Act.put]); (try simp only [List.setIfInBounds_toArray]); (try simp only [List.set_cons_succ]); (try simp only [List.set_cons_zero])
              refine wpAnyH_done (by kernel_rfl) ?_ _
              refine LastQ.start rfl ?_
              clear hS40 hHeld
              have d1 := (HSS.out _ HB40.out).1
              have f1 := (H2.out.kept HB40.out).blk.free 0
              obtain ⟨p8, c8, hv8, -, -⟩ := own_slice HO40.out
              have HO8 := HO40
              subst hv8
              generalize (if cg = j then p else Option.map (fun x => x.add (j * 6)) p) = pp
              go_wp2
              refine NoPanic.normal ?_
              (try go_wp2)
              have hle : (S.take j ++ ⟨u, d, a⟩ :: S.drop j).length = j + 1 + (S.length - j) := by rw [List.length_append, List.length_cons, List.length_take, List.length_drop]; have := HK.out; omega
              have ho8 := HO8.out
              have hcat : rwC grC (S.take j) ++ grC ⟨u, d, a⟩ ++ rwC grC (S.drop j) = rwC grC (S.take j ++ ⟨u, d, a⟩ :: S.drop j) := by rw [rwC_append, rwC_cons, List.append_assoc]
              rw [hcat] at ho8
              have ho9 : World.ownsRow w40x w2.heap.size 66 6 (.slice p8 (j + 1 + (S.length - j)) c8) (S.take j ++ ⟨u, d, a⟩ :: S.drop j).length (rwC grC (S.take j ++ ⟨u, d, a⟩ :: S.drop j)) := by rw [hle]; exact ho8
              have hset := H2.out.setG HB40.out (Nat.le_trans HBS.out HBP.out.size) ho9
              rw [← HCUT.out] at hset
              go_ret
              exact ⟨rfl, RqG.mk hset ((Frp.of_below (below_and HBP.out HB40.out) _).set (p := ⟨g, 0, none⟩) (.inl rfl) _)⟩
            · (try simp only [List.getElem_toArray]); (try simp only [List.getElem_cons_succ]); (try simp only [List.getElem_cons_zero])
              go_simp
              obtain ⟨w41x, hw41⟩ : ∃ xq, xq = w36x.alloc (.cells #[.string u, .int .i64 d, .int .i64 a.c, .int .i64 a.r, .int .i64 a.d, .int .i64 a.p] 66) := ⟨_, rfl⟩
              obtain ⟨z41, hz41⟩ : ∃ xq, xq = w36x.heap.size := ⟨_, rfl⟩
              have hn41 : Below w36x.heap.size w36x w41x := by rw [hw41]; exact below_alloc _ _
              have hb41 : Below w2.heap.size w2 w41x := below_and HB36.out hn41
              have HB41 := Lib.hid hb41
              have HY41_13 : Hid (Blk w41x z41 (grC ⟨u, d, a⟩) 66) := Lib.hid (by rw [hw41, hz41]; exact Blk.made w36x (grC ⟨u, d, a⟩) _)
              have HO41 := Lib.hid (own_fr HO36.out (Fr.of_below hn41 []) (fun _ _ => by simp))
              have HNE41_13 : Hid (∀ q, ((.slice (some ⟨z36, 0, none⟩) 0 0) : Value).ownBlock = some q → q ≠ z41) := Lib.hid (fun q hq => by have := own_hi HO36.out hq; omega)
              rw [← hw41, ← hz41]
              refine hK.out _ _ (HSS.out _ hb41) (fun hS41 => ?_)
              clear hK K hb41 hw41 hz41 hn41 hS36
              (try simp only [Act.put]); (try simp only [List.setIfInBounds_toArray]); (try simp only [List.set_cons_succ]); (try simp only [List.set_cons_zero])
              refine wpAnyH_ready (rs := [8]) (by kernel_rfl) (by simp) ?_
              refine (AllReadyH.cons rfl (fun K hK => ?_) AllReadyH.nil)
              refine step_app rfl (.tmp 99) (.tmp 105) 27 27 rfl w2.heap.size 66 ix (.agg #[.string ⟨#[]⟩, .int .i64 0, .int .i64 0, .int .i64 0, .int .i64 0, .int .i64 0]) 6 56 Tryz.underlying27 hi hz0 hz1 hz2 rfl (.slice (some ⟨z36, 0, none⟩) 0 0) 0 [] (by rfl) HO41.out (.slice p j cg) j (rwC grC (S.take j)) (by rfl) (gr_first H2.out HB41.out HK.out) (by have := HL.out; have := HK.out; unfold maxLen; omega) (by have := HL.out; have := HK.out; omega) HB41.out.size ?_
              intro v42 w42x ho42 hg42 hn42 hk42
              have HO42 : Hid (w42x.ownsRow w2.heap.size 66 6 v42 j (rwC grC (S.take j))) := Lib.hid (by simpa using ho42)
              have hb42 : Below w2.heap.size w2 w42x := HB41.out.trans ((Fr.of_grown hg42).below (by intro y hy; exact own_lo HO41.out (Option.mem_toList.1 hy)) HB41.out.size)
              have HB42 := Lib.hid hb42
              have HY42_13 := Lib.hid (HY41_13.out.fr (Fr.of_grown hg42) (fun hm => HNE41_13.out _ (Option.mem_toList.1 hm) rfl))
              have HNE42_13 : Hid (∀ q, v42.ownBlock = some q → q ≠ z41) := Lib.hid (fun q hq => by rcases hk42 q hq with h1 | h1; exact HNE41_13.out q h1; have := HY41_13.out.lt; omega)
              refine hK.out _ _ (HSS.out _ hb42) (fun hS42 => ?_)
              clear hK K hb42 ho42 hg42 hn42 hk42 hS41
              (try simp only [Act.put]); (try simp only [List.setIfInBounds_toArray]); (try simp only [List.set_cons_succ]); (try simp only [List.set_cons_zero])
              refine wpAnyH_ready (rs := [14]) (by kernel_rfl) (by simp) ?_
              refine (AllReadyH.cons rfl (fun K hK => ?_) AllReadyH.nil)
              refine step_app rfl (.tmp 106) (.tmp 111) 27 27 rfl w2.heap.size 66 ix (.agg #[.string ⟨#[]⟩, .int .i64 0, .int .i64 0, .int .i64 0, .int .i64 0, .int .i64 0]) 6 56 Tryz.underlying27 hi hz0 hz1 hz2 rfl v42 j (rwC grC (S.take j)) (by rfl) HO42.out (.slice (some ⟨z41, 0, none⟩) 1 1) 1 (grC ⟨u, d, a⟩) (by rfl) (src_block Tryz.underlying27 _ z41 ((grC ⟨u, d, a⟩)).toArray HY42_13.out rfl (grC_one ⟨u, d, a⟩)) (by have := HL.out; have := HK.out; unfold maxLen; omega) (by have := HL.out; have := HK.out; omega) HB42.out.size ?_
              intro v43 w43x ho43 hg43 hn43 hk43
              have HO43 : Hid (w43x.ownsRow w2.heap.size 66 6 v43 (j + 1) (rwC grC (S.take j) ++ grC ⟨u, d, a⟩)) := Lib.hid (by exact ho43)
              have hb43 : Below w2.heap.size w2 w43x := HB42.out.trans ((Fr.of_grown hg43).below (by intro y hy; exact own_lo HO42.out (Option.mem_toList.1 hy)) HB42.out.size)
              have HB43 := Lib.hid hb43
              refine hK.out _ _ (HSS.out _ hb43) (fun hS43 => ?_)
              clear hK K hb43 ho43 hg43 hn43 hk43 hS42
              (try simp only [Act.put]); (try simp only [List.setIfInBounds_toArray]); (try simp only [List.set_cons_succ]); (try simp only [List.set_cons_zero])
              refine wpAnyH_ready (rs := [21]) (by kernel_rfl) (by simp) ?_
              refine (AllReadyH.cons rfl (fun K hK => ?_) AllReadyH.nil)
              refine step_app rfl (.tmp 112) (.tmp 118) 27 27 rfl w2.heap.size 66 ix (.agg #[.string ⟨#[]⟩, .int .i64 0, .int .i64 0, .int .i64 0, .int .i64 0, .int .i64 0]) 6 56 Tryz.underlying27 hi hz0 hz1 hz2 rfl v43 (j + 1) (rwC grC (S.take j) ++ grC ⟨u, d, a⟩) (by rfl) HO43.out (.slice (if cg = j then p else Option.map (fun x => x.add (j * 6)) p) (S.length - j) (cg - j)) (S.length - j) (rwC grC (S.drop j)) (by rfl) (gr_rest H2.out HB43.out HK.out) (by have := HL.out; have := HK.out; unfold maxLen; omega) (by have := HL.out; have := HK.out; omega) HB43.out.size ?_
              intro v44 w44x ho44 hg44 hn44 hk44
              have HO44 : Hid (w44x.ownsRow w2.heap.size 66 6 v44 (j + 1 + (S.length - j)) (rwC grC (S.take j) ++ grC ⟨u, d, a⟩ ++ rwC grC (S.drop j))) := Lib.hid (by exact ho44)
              have hb44 : Below w2.heap.size w2 w44x := HB43.out.trans ((Fr.of_grown hg44).below (by intro y hy; exact own_lo HO43.out (Option.mem_toList.1 hy)) HB43.out.size)
              have HB44 := Lib.hid hb44
              refine hK.out _ _ (HSS.out _ hb44) (fun hS44 => ?_)
              clear hK K hb44 ho44 hg44 hn44 hk44 hS43
              (try simp only [Act.put]); (try simp only [List.setIfInBounds_toArray]); (try simp only [List.set_cons_succ]); (try simp only [List.set_cons_zero])
              refine wpAnyH_take (i := 22) (v := ?v76) rfl (by kernel_rfl) (by kernel_rfl) (by kernel_rfl) (fun _ _ _ h => h) (Or.inl ⟨by rfl, ?hy76⟩) (by assumption) ?rest76
              case hy76 => (intro _ hSw; (try dsimp only at hSw); go_simp; (try with_reducible rfl))
              (try simp only [Act.put]); (try simp only [List.setIfInBounds_toArray]); (try simp only [List.set_cons_succ]); (try simp only [List.set_cons_zero])
              refine wpAnyH_take (i := 23) (v := ?v77) rfl (by kernel_rfl) (by kernel_rfl) (by kernel_rfl) (fun _ _ _ h => h) (Or.inl ⟨by rfl, ?hy77⟩) (by assumption) ?rest77
              case hy77 => (intro _ hSw; (try dsimp only at hSw); go_simp; (try with_reducible rfl))
              (try simp only [Act.put]); (try simp only [List.setIfInBounds_toArray]); (try simp only [List.set_cons_succ]); (try simp only [List.set_cons_zero])
              refine wpAnyH_done (by kernel_rfl) ?_ _
              refine LastQ.start rfl ?_
              clear hS44 hHeld
              have d1 := (HSS.out _ HB44.out).1
              have f1 := (H2.out.kept HB44.out).blk.free 0
              obtain ⟨p8, c8, hv8, -, -⟩ := own_slice HO44.out
              have HO8 := HO44
              subst hv8
              generalize (if cg = j then p else Option.map (fun x => x.add (j * 6)) p) = pp
              go_wp2
              refine NoPanic.normal ?_
              (try go_wp2)
              have hle : (S.take j ++ ⟨u, d, a⟩ :: S.drop j).length = j + 1 + (S.length - j) := by rw [List.length_append, List.length_cons, List.length_take, List.length_drop]; have := HK.out; omega
              have ho8 := HO8.out
              have hcat : rwC grC (S.take j) ++ grC ⟨u, d, a⟩ ++ rwC grC (S.drop j) = rwC grC (S.take j ++ ⟨u, d, a⟩ :: S.drop j) := by rw [rwC_append, rwC_cons, List.append_assoc]
              rw [hcat] at ho8
              have ho9 : World.ownsRow w44x w2.heap.size 66 6 (.slice p8 (j + 1 + (S.length - j)) c8) (S.take j ++ ⟨u, d, a⟩ :: S.drop j).length (rwC grC (S.take j ++ ⟨u, d, a⟩ :: S.drop j)) := by rw [hle]; exact ho8
              have hset := H2.out.setG HB44.out (Nat.le_trans HBS.out HBP.out.size) ho9
              rw [← HCUT.out] at hset
              go_ret
              exact ⟨rfl, RqG.mk hset ((Frp.of_below (below_and HBP.out HB44.out) _).set (p := ⟨g, 0, none⟩) (.inl rfl) _)⟩
          · (try simp only [List.getElem_toArray]); (try simp only [List.getElem_cons_succ]); (try simp only [List.getElem_cons_zero])
            go_simp
            obtain ⟨w45x, hw45⟩ : ∃ xq, xq = wd35.alloc (.cells #[.string u, .int .i64 d, .int .i64 a.c, .int .i64 a.r, .int .i64 a.d, .int .i64 a.p] 66) := ⟨_, rfl⟩
            obtain ⟨z45, hz45⟩ : ∃ xq, xq = wd35.heap.size := ⟨_, rfl⟩
            have hn45 : Below wd35.heap.size wd35 w45x := by rw [hw45]; exact below_alloc _ _
            have hb45 : Below w2.heap.size w2 w45x := below_and HB35.out hn45
            have HB45 := Lib.hid hb45
            have HY45_13 : Hid (Blk w45x z45 (grC ⟨u, d, a⟩) 66) := Lib.hid (by rw [hw45, hz45]; exact Blk.made wd35 (grC ⟨u, d, a⟩) _)
            rw [← hw45, ← hz45]
            refine hK.out _ _ (HSS.out _ hb45) (fun hS45 => ?_)
            clear hK K hb45 hw45 hz45 hn45 hS35
            (try simp only [Act.put]); (try simp only [List.setIfInBounds_toArray]); (try simp only [List.set_cons_succ]); (try simp only [List.set_cons_zero])
            refine wpAnyH_ready (rs := [1]) (by kernel_rfl) (by simp) ?_
            refine (AllReadyH.cons rfl (fun K hK => ?_) AllReadyH.nil)
            (try simp only [List.getElem_toArray]); (try simp only [List.getElem_cons_succ]); (try simp only [List.getElem_cons_zero])
            go_simp
            obtain ⟨w46x, hw46⟩ : ∃ xq, xq = w45x.alloc (.cells #[] 66) := ⟨_, rfl⟩
            obtain ⟨z46, hz46⟩ : ∃ xq, xq = w45x.heap.size := ⟨_, rfl⟩
            have hn46 : Below w45x.heap.size w45x w46x := by rw [hw46]; exact below_alloc _ _
            have hb46 : Below w2.heap.size w2 w46x := below_and HB45.out hn46
            have HB46 := Lib.hid hb46
            have HY46_13 := Lib.hid (HY45_13.out.kept hn46)
            have HNE46_13 : Hid (∀ q, (Value.slice (some ⟨z46, 0, none⟩) 0 0).ownBlock = some q → q ≠ z45) := Lib.hid (fun q hq => by simp [Value.ownBlock] at hq; have := HY45_13.out.lt; omega)
            have HO46 : Hid (w46x.ownsRow w2.heap.size 66 6 (.slice (some ⟨z46, 0, none⟩) 0 0) 0 []) := Lib.hid (by rw [hw46, hz46]; exact World.ownsRow_made w45x #[] 0 HB45.out.size (by decide) rfl)
            rw [← hw46, ← hz46]
            refine hK.out _ _ (HSS.out _ hb46) (fun hS46 => ?_)
            clear hK K hb46 hw46 hz46 hn46 hS45
            (try simp only [Act.put]); (try simp only [List.setIfInBounds_toArray]); (try simp only [List.set_cons_succ]); (try simp only [List.set_cons_zero])
            refine wpAnyH_ready (rs := [8]) (by kernel_rfl) (by simp) ?_
            refine (AllReadyH.cons rfl (fun K hK => ?_) AllReadyH.nil)
            refine step_app rfl (.tmp 99) (.tmp 105) 27 27 rfl w2.heap.size 66 ix (.agg #[.string ⟨#[]⟩, .int .i64 0, .int .i64 0, .int .i64 0, .int .i64 0, .int .i64 0]) 6 56 Tryz.underlying27 hi hz0 hz1 hz2 rfl (.slice (some ⟨z46, 0, none⟩) 0 0) 0 [] (by rfl) HO46.out (.slice p j cg) j (rwC grC (S.take j)) (by rfl) (gr_first H2.out HB46.out HK.out) (by have := HL.out; have := HK.out; unfold maxLen; omega) (by have := HL.out; have := HK.out; omega) HB46.out.size ?_
            intro v47 w47x ho47 hg47 hn47 hk47
            have HO47 : Hid (w47x.ownsRow w2.heap.size 66 6 v47 j (rwC grC (S.take j))) := Lib.hid (by simpa using ho47)
            have hb47 : Below w2.heap.size w2 w47x := HB46.out.trans ((Fr.of_grown hg47).below (by intro y hy; exact own_lo HO46.out (Option.mem_toList.1 hy)) HB46.out.size)
            have HB47 := Lib.hid hb47
            have HY47_13 := Lib.hid (HY46_13.out.fr (Fr.of_grown hg47) (fun hm => HNE46_13.out _ (Option.mem_toList.1 hm) rfl))
            have HNE47_13 : Hid (∀ q, v47.ownBlock = some q → q ≠ z45) := Lib.hid (fun q hq => by rcases hk47 q hq with h1 | h1; exact HNE46_13.out q h1; have := HY46_13.out.lt; omega)
            refine hK.out _ _ (HSS.out _ hb47) (fun hS47 => ?_)
            clear hK K hb47 ho47 hg47 hn47 hk47 hS46
            (try simp only [Act.put]); (try simp only [List.setIfInBounds_toArray]); (try simp only [List.set_cons_succ]); (try simp only [List.set_cons_zero])
            refine wpAnyH_ready (rs := [14]) (by kernel_rfl) (by simp) ?_
            refine (AllReadyH.cons rfl (fun K hK => ?_) AllReadyH.nil)
            refine step_app rfl (.tmp 106) (.tmp 111) 27 27 rfl w2.heap.size 66 ix (.agg #[.string ⟨#[]⟩, .int .i64 0, .int .i64 0, .int .i64 0, .int .i64 0, .int .i64 0]) 6 56 Tryz.underlying27 hi hz0 hz1 hz2 rfl v47 j (rwC grC (S.take j)) (by rfl) HO47.out (.slice (some ⟨z45, 0, none⟩) 1 1) 1 (grC ⟨u, d, a⟩) (by rfl) (src_block Tryz.underlying27 _ z45 ((grC ⟨u, d, a⟩)).toArray HY47_13.out rfl (grC_one ⟨u, d, a⟩)) (by have := HL.out; have := HK.out; unfold maxLen; omega) (by have := HL.out; have := HK.out; omega) HB47.out.size ?_
            intro v48 w48x ho48 hg48 hn48 hk48
            have HO48 : Hid (w48x.ownsRow w2.heap.size 66 6 v48 (j + 1) (rwC grC (S.take j) ++ grC ⟨u, d, a⟩)) := Lib.hid (by exact ho48)
            have hb48 : Below w2.heap.size w2 w48x := HB47.out.trans ((Fr.of_grown hg48).below (by intro y hy; exact own_lo HO47.out (Option.mem_toList.1 hy)) HB47.out.size)
            have HB48 := Lib.hid hb48
            refine hK.out _ _ (HSS.out _ hb48) (fun hS48 => ?_)
            clear hK K hb48 ho48 hg48 hn48 hk48 hS47
            (try simp only [Act.put]); (try simp only [List.setIfInBounds_toArray]); (try simp only [List.set_cons_succ]); (try simp only [List.set_cons_zero])
            refine wpAnyH_ready (rs := [21]) (by kernel_rfl) (by simp) ?_
            refine (AllReadyH.cons rfl (fun K hK => ?_) AllReadyH.nil)
            refine step_app rfl (.tmp 112) (.tmp 118) 27 27 rfl w2.heap.size 66 ix (.agg #[.string ⟨#[]⟩, .int .i64 0, .int .i64 0, .int .i64 0, .int .i64 0, .int .i64 0]) 6 56 Tryz.underlying27 hi hz0 hz1 hz2 rfl v48 (j + 1) (rwC grC (S.take j) ++ grC ⟨u, d, a⟩) (by rfl) HO48.out (.slice (if cg = j then p else Option.map (fun x => x.add (j * 6)) p) (S.length - j) (cg - j)) (S.length - j) (rwC grC (S.drop j)) (by rfl) (gr_rest H2.out HB48.out HK.out) (by have := HL.out; have := HK.out; unfold maxLen; omega) (by have := HL.out; have := HK.out; omega) HB48.out.size ?_
            intro v49 w49x ho49 hg49 hn49 hk49
            have HO49 : Hid (w49x.ownsRow w2.heap.size 66 6 v49 (j + 1 + (S.length - j)) (rwC grC (S.take j) ++ grC ⟨u, d, a⟩ ++ rwC grC (S.drop j))) := Lib.hid (by exact ho49)
            have hb49 : Below w2.heap.size w2 w49x := HB48.out.trans ((Fr.of_grown hg49).below (by intro y hy; exact own_lo HO48.out (Option.mem_toList.1 hy)) HB48.out.size)
            have HB49 := Lib.hid hb49
            refine hK.out _ _ (HSS.out _ hb49) (fun hS49 => ?_)
            clear hK K hb49 ho49 hg49 hn49 hk49 hS48
            (try simp only [Act.put]); (try simp only [List.setIfInBounds_toArray]); (try simp only [List.set_cons_succ]); (try simp only [List.set_cons_zero])
            refine wpAnyH_take (i := 22) (v := ?v78) rfl (by kernel_rfl) (by kernel_rfl) (by kernel_rfl) (fun _ _ _ h => h) (Or.inl ⟨by rfl, ?hy78⟩) (by assumption) ?rest78
            case hy78 => (intro _ hSw; (try dsimp only at hSw); go_simp; (try with_reducible rfl))
            (try simp only [Act.put]); (try simp only [List.setIfInBounds_toArray]); (try simp only [List.set_cons_succ]); (try simp only [List.set_cons_zero])
            refine wpAnyH_take (i := 23) (v := ?v79) rfl (by kernel_rfl) (by kernel_rfl) (by kernel_rfl) (fun _ _ _ h => h) (Or.inl ⟨by rfl, ?hy79⟩) (by assumption) ?rest79
            case hy79 => (intro _ hSw; (try dsimp only at hSw); go_simp; (try with_reducible rfl))
            (try simp only [Act.put]); (try simp only [List.setIfInBounds_toArray]); (try simp only [List.set_cons_succ]); (try simp only [List.set_cons_zero])
            refine wpAnyH_done (by kernel_rfl) ?_ _
            refine LastQ.start rfl ?_
            clear hS49 hHeld
            have d1 := (HSS.out _ HB49.out).1
            have f1 := (H2.out.kept HB49.out).blk.free 0
            obtain ⟨p8, c8, hv8, -, -⟩ := own_slice HO49.out
            have HO8 := HO49
            subst hv8
            generalize (if cg = j then p else Option.map (fun x => x.add (j * 6)) p) = pp
            go_wp2
            refine NoPanic.normal ?_
            (try go_wp2)
            have hle : (S.take j ++ ⟨u, d, a⟩ :: S.drop j).length = j + 1 + (S.length - j) := by rw [List.length_append, List.length_cons, List.length_take, List.length_drop]; have := HK.out; omega
            have ho8 := HO8.out
            have hcat : rwC grC (S.take j) ++ grC ⟨u, d, a⟩ ++ rwC grC (S.drop j) = rwC grC (S.take j ++ ⟨u, d, a⟩ :: S.drop j) := by rw [rwC_append, rwC_cons, List.append_assoc]
            rw [hcat] at ho8
            have ho9 : World.ownsRow w49x w2.heap.size 66 6 (.slice p8 (j + 1 + (S.length - j)) c8) (S.take j ++ ⟨u, d, a⟩ :: S.drop j).length (rwC grC (S.take j ++ ⟨u, d, a⟩ :: S.drop j)) := by rw [hle]; exact ho8
            have hset := H2.out.setG HB49.out (Nat.le_trans HBS.out HBP.out.size) ho9
            rw [← HCUT.out] at hset
            go_ret
            exact ⟨rfl, RqG.mk hset ((Frp.of_below (below_and HBP.out HB49.out) _).set (p := ⟨g, 0, none⟩) (.inl rfl) _)⟩
        · have hyu : y.u = u := by
            rw [tl_eq] at t2
            have : y.u.data.toList = u.data.toList := by simpa using t2
            exact ByteArray.ext (Array.toList_inj.1 this)
          have t3 : ¬ y.b < d := fun h => hg (.inr ⟨by rw [hyu], h⟩)
          cases t4 : (y.b == d)
          · have HCUT : Hid (gins ⟨u, d, a⟩ S = S.take j ++ ⟨u, d, a⟩ :: S.drop j) := Lib.hid (HINS.out (fun h ⟨h1, h2⟩ => by
              rw [← hy] at h2
              rw [h2] at t4
              simp at t4))
            clear hg hy hyu
            rw [hpq] at b1
            go_upto_region 9 with fail
            clear b1 y0 y1 hpq
            have b2 : (j : Int) ≤ (S.length : Int) := by have := HK.out; omega
            have b6 : (S.length : Int) ≤ (cg : Int) := by omega
            have b3 : (j : Int) ≤ (cg : Int) := by omega
            have HSS : Hid (∀ w', Below w2.heap.size w2 w' → w'.cell? ⟨g, 0, none⟩ = some (.slice p S.length cg) ∧ w'.cell? ⟨B, 0, none⟩ = some (.int .i64 a.c) ∧ w'.cell? ⟨B, 1, none⟩ = some (.int .i64 a.r) ∧ w'.cell? ⟨B, 2, none⟩ = some (.int .i64 a.d) ∧ w'.cell? ⟨B, 3, none⟩ = some (.int .i64 a.p)) := Lib.hid (fun w' hb => ⟨(H2.out.kept hb).blk.cell (j := 0) rfl, (X2.out.kept hb).cell (j := 0) rfl, (X2.out.kept hb).cell (j := 1) rfl, (X2.out.kept hb).cell (j := 2) rfl, (X2.out.kept hb).cell (j := 3) rfl⟩)
            refine wp_region_noPanic ?_
            refine wp_region_lastH (fun w' => w'.cell? ⟨g, 0, none⟩ = some (.slice p S.length cg) ∧ w'.cell? ⟨B, 0, none⟩ = some (.int .i64 a.c) ∧ w'.cell? ⟨B, 1, none⟩ = some (.int .i64 a.r) ∧ w'.cell? ⟨B, 2, none⟩ = some (.int .i64 a.d) ∧ w'.cell? ⟨B, 3, none⟩ = some (.int .i64 a.p)) 24 rfl rfl (by kernel_rfl) (by kernel_rfl) (HSS.out _ (below_drewN 1)) (fun hHeld => ?_)
            have HB50 : Hid (Below w2.heap.size w2 w2.drew) := Lib.hid (below_drewN 1)
            have hS50 : True := trivial
            obtain ⟨wd50, hwd⟩ : ∃ xq, xq = w2.drew := ⟨_, rfl⟩
            rw [← hwd] at hHeld HB50 ⊢
            clear hwd
            refine wpAnyH_take (i := 0) (v := ?v80) rfl (by kernel_rfl) (by kernel_rfl) (by kernel_rfl) (fun _ _ _ h => h) (Or.inl ⟨by rfl, ?hy80⟩) (by assumption) ?rest80
            case hy80 => (intro _ hSw; (try dsimp only at hSw); go_simp; (try with_reducible rfl))
            (try simp only [Act.put]); (try simp only [List.setIfInBounds_toArray]); (try simp only [List.set_cons_succ]); (try simp only [List.set_cons_zero])
            refine wpAnyH_take (i := 2) (v := ?v81) rfl (by kernel_rfl) (by kernel_rfl) (by kernel_rfl) (fun _ _ _ h => h) (Or.inl ⟨by rfl, ?hy81⟩) (by assumption) ?rest81
            case hy81 => (intro _ hSw; (try dsimp only at hSw); go_simp; (try with_reducible rfl))
            (try simp only [Act.put]); (try simp only [List.setIfInBounds_toArray]); (try simp only [List.set_cons_succ]); (try simp only [List.set_cons_zero])
            refine wpAnyH_take (i := 3) (v := ?v82) rfl (by kernel_rfl) (by kernel_rfl) (by kernel_rfl) (fun _ _ _ h => h) (Or.inl ⟨by rfl, ?hy82⟩) (by assumption) ?rest82
            case hy82 => (intro _ hSw; (try dsimp only at hSw); go_simp; (try with_reducible rfl))
            (try simp only [Act.put]); (try simp only [List.setIfInBounds_toArray]); (try simp only [List.set_cons_succ]); (try simp only [List.set_cons_zero])
            refine wpAnyH_take (i := 4) (v := ?v83) rfl (by kernel_rfl) (by kernel_rfl) (by kernel_rfl) (fun _ _ _ h => h) (Or.inl ⟨by rfl, ?hy83⟩) (by assumption) ?rest83
            case hy83 => (intro _ hSw; (try dsimp only at hSw); go_simp; (try with_reducible rfl))
            (try simp only [Act.put]); (try simp only [List.setIfInBounds_toArray]); (try simp only [List.set_cons_succ]); (try simp only [List.set_cons_zero])
            refine wpAnyH_take (i := 5) (v := ?v84) rfl (by kernel_rfl) (by kernel_rfl) (by kernel_rfl) (fun _ _ _ h => h) (Or.inl ⟨by rfl, ?hy84⟩) (by assumption) ?rest84
            case hy84 => (intro _ hSw; (try dsimp only at hSw); go_simp; (try with_reducible rfl))
            (try simp only [Act.put]); (try simp only [List.setIfInBounds_toArray]); (try simp only [List.set_cons_succ]); (try simp only [List.set_cons_zero])
            refine wpAnyH_take (i := 6) (v := ?v85) rfl (by kernel_rfl) (by kernel_rfl) (by kernel_rfl) (fun _ _ _ h => h) (Or.inl ⟨by rfl, ?hy85⟩) (by assumption) ?rest85
            case hy85 => (intro _ hSw; (try dsimp only at hSw); go_simp; (try with_reducible rfl))
            (try simp only [Act.put]); (try simp only [List.setIfInBounds_toArray]); (try simp only [List.set_cons_succ]); (try simp only [List.set_cons_zero])
            refine wpAnyH_take (i := 7) (v := ?v86) rfl (by kernel_rfl) (by kernel_rfl) (by kernel_rfl) (fun _ _ _ h => h) (Or.inl ⟨by rfl, ?hy86⟩) (by assumption) ?rest86
            case hy86 => (intro _ hSw; (try dsimp only at hSw); go_simp; (try with_reducible rfl))
            (try simp only [Act.put]); (try simp only [List.setIfInBounds_toArray]); (try simp only [List.set_cons_succ]); (try simp only [List.set_cons_zero])
            refine wpAnyH_take (i := 9) (v := ?v87) rfl (by kernel_rfl) (by kernel_rfl) (by kernel_rfl) (fun _ _ _ h => h) (Or.inl ⟨by rfl, ?hy87⟩) (by assumption) ?rest87
            case hy87 => (intro _ hSw; (try dsimp only at hSw); go_simp; (try with_reducible rfl))
            (try simp only [Act.put]); (try simp only [List.setIfInBounds_toArray]); (try simp only [List.set_cons_succ]); (try simp only [List.set_cons_zero])
            refine wpAnyH_take (i := 10) (v := ?v88) rfl (by kernel_rfl) (by kernel_rfl) (by kernel_rfl) (fun _ _ _ h => h) (Or.inl ⟨by rfl, ?hy88⟩) (by assumption) ?rest88
            case hy88 => (intro _ hSw; (try dsimp only at hSw); go_simp; (try with_reducible rfl))
            (try simp only [Act.put]); (try simp only [List.setIfInBounds_toArray]); (try simp only [List.set_cons_succ]); (try simp only [List.set_cons_zero])
            refine wpAnyH_take (i := 11) (v := ?v89) rfl (by kernel_rfl) (by kernel_rfl) (by kernel_rfl) (fun _ _ _ h => h) (Or.inl ⟨by rfl, ?hy89⟩) (by assumption) ?rest89
            case hy89 => (intro _ hSw; (try dsimp only at hSw); go_simp; (try with_reducible rfl))
            (try simp only [Act.put]); (try simp only [List.setIfInBounds_toArray]); (try simp only [List.set_cons_succ]); (try simp only [List.set_cons_zero])
            refine wpAnyH_take (i := 12) (v := ?v90) rfl (by kernel_rfl) (by kernel_rfl) (by kernel_rfl) (fun _ _ _ h => h) (Or.inl ⟨by rfl, ?hy90⟩) (by assumption) ?rest90
            case hy90 => (intro _ hSw; (try dsimp only at hSw); go_simp; (try with_reducible rfl))
            (try simp only [Act.put]); (try simp only [List.setIfInBounds_toArray]); (try simp only [List.set_cons_succ]); (try simp only [List.set_cons_zero])
            refine wpAnyH_take (i := 15) (v := ?v91) rfl (by kernel_rfl) (by kernel_rfl) (by kernel_rfl) (fun _ _ _ h => h) (Or.inl ⟨by rfl, ?hy91⟩) (by assumption) ?rest91
            case hy91 => (intro _ hSw; (try dsimp only at hSw); go_simp; (try with_reducible rfl))
            (try simp only [Act.put]); (try simp only [List.setIfInBounds_toArray]); (try simp only [List.set_cons_succ]); (try simp only [List.set_cons_zero])
            refine wpAnyH_take (i := 16) (v := ?v92) rfl (by kernel_rfl) (by kernel_rfl) (by kernel_rfl) (fun _ _ _ h => h) (Or.inl ⟨by rfl, ?hy92⟩) (by assumption) ?rest92
            case hy92 => (intro _ hSw; (try dsimp only at hSw); go_simp; (try with_reducible rfl))
            (try simp only [Act.put]); (try simp only [List.setIfInBounds_toArray]); (try simp only [List.set_cons_succ]); (try simp only [List.set_cons_zero])
            refine wpAnyH_take (i := 17) (v := ?v93) rfl (by kernel_rfl) (by kernel_rfl) (by kernel_rfl) (fun _ _ _ h => h) (Or.inl ⟨by rfl, ?hy93⟩) (by assumption) ?rest93
            case hy93 => (intro _ hSw; (try dsimp only at hSw); go_simp; (try with_reducible rfl))
            (try simp only [Act.put]); (try simp only [List.setIfInBounds_toArray]); (try simp only [List.set_cons_succ]); (try simp only [List.set_cons_zero])
            refine wpAnyH_take (i := 18) (v := ?v94) rfl (by kernel_rfl) (by kernel_rfl) (by kernel_rfl) (fun _ _ _ h => h) (Or.inl ⟨by rfl, ?hy94⟩) (by assumption) ?rest94
            case hy94 => (intro _ hSw; (try dsimp only at hSw); go_simp; (try with_reducible rfl))
            (try simp only [Act.put]); (try simp only [List.setIfInBounds_toArray]); (try simp only [List.set_cons_succ]); (try simp only [List.set_cons_zero])
            refine wpAnyH_take (i := 19) (v := ?v95) rfl (by kernel_rfl) (by kernel_rfl) (by kernel_rfl) (fun _ _ _ h => h) (Or.inl ⟨by rfl, ?hy95⟩) (by assumption) ?rest95
            case hy95 => (intro _ hSw; (try dsimp only at hSw); go_simp; (try with_reducible rfl))
            (try simp only [Act.put]); (try simp only [List.setIfInBounds_toArray]); (try simp only [List.set_cons_succ]); (try simp only [List.set_cons_zero])
            refine wpAnyH_take (i := 20) (v := ?v96) rfl (by kernel_rfl) (by kernel_rfl) (by kernel_rfl) (fun _ _ _ h => h) (Or.inl ⟨by rfl, ?hy96⟩) (by assumption) ?rest96
            case hy96 => (intro _ hSw; (try dsimp only at hSw); go_simp; (try with_reducible rfl))
            (try simp only [Act.put]); (try simp only [List.setIfInBounds_toArray]); (try simp only [List.set_cons_succ]); (try simp only [List.set_cons_zero])
            (try simp only [List.getElem_toArray]); (try simp only [List.getElem_cons_succ]); (try simp only [List.getElem_cons_zero]); (try simp only [List.setIfInBounds_toArray]); (try simp only [List.set_cons_succ, List.set_cons_zero])
            refine wpAnyH_ready (rs := [1, 13]) (by kernel_rfl) (by simp) ?_
            refine (AllReadyH.cons rfl (fun K hK => ?_) (AllReadyH.cons rfl (fun K hK => ?_) AllReadyH.nil))
            · (try simp only [List.getElem_toArray]); (try simp only [List.getElem_cons_succ]); (try simp only [List.getElem_cons_zero])
              go_simp
              obtain ⟨w51x, hw51⟩ : ∃ xq, xq = wd50.alloc (.cells #[] 66) := ⟨_, rfl⟩
              obtain ⟨z51, hz51⟩ : ∃ xq, xq = wd50.heap.size := ⟨_, rfl⟩
              have hn51 : Below wd50.heap.size wd50 w51x := by rw [hw51]; exact below_alloc _ _
              have hb51 : Below w2.heap.size w2 w51x := below_and HB50.out hn51
              have HB51 := Lib.hid hb51
              have HO51 : Hid (w51x.ownsRow w2.heap.size 66 6 (.slice (some ⟨z51, 0, none⟩) 0 0) 0 []) := Lib.hid (by rw [hw51, hz51]; exact World.ownsRow_made wd50 #[] 0 HB50.out.size (by decide) rfl)
              rw [← hw51, ← hz51]
              refine hK.out _ _ (HSS.out _ hb51) (fun hS51 => ?_)
              clear hK K hb51 hw51 hz51 hn51 hS50
              (try simp only [Act.put]); (try simp only [List.setIfInBounds_toArray]); (try simp only [List.set_cons_succ]); (try simp only [List.set_cons_zero])
              refine wpAnyH_ready (rs := [8, 13]) (by kernel_rfl) (by simp) ?_
              refine (AllReadyH.cons rfl (fun K hK => ?_) (AllReadyH.cons rfl (fun K hK => ?_) AllReadyH.nil))
              · refine step_app rfl (.tmp 99) (.tmp 105) 27 27 rfl w2.heap.size 66 ix (.agg #[.string ⟨#[]⟩, .int .i64 0, .int .i64 0, .int .i64 0, .int .i64 0, .int .i64 0]) 6 56 Tryz.underlying27 hi hz0 hz1 hz2 rfl (.slice (some ⟨z51, 0, none⟩) 0 0) 0 [] (by rfl) HO51.out (.slice p j cg) j (rwC grC (S.take j)) (by rfl) (gr_first H2.out HB51.out HK.out) (by have := HL.out; have := HK.out; unfold maxLen; omega) (by have := HL.out; have := HK.out; omega) HB51.out.size ?_
                intro v52 w52x ho52 hg52 hn52 hk52
                have HO52 : Hid (w52x.ownsRow w2.heap.size 66 6 v52 j (rwC grC (S.take j))) := Lib.hid (by simpa using ho52)
                have hb52 : Below w2.heap.size w2 w52x := HB51.out.trans ((Fr.of_grown hg52).below (by intro y hy; exact own_lo HO51.out (Option.mem_toList.1 hy)) HB51.out.size)
                have HB52 := Lib.hid hb52
                refine hK.out _ _ (HSS.out _ hb52) (fun hS52 => ?_)
                clear hK K hb52 ho52 hg52 hn52 hk52 hS51
                (try simp only [Act.put]); (try simp only [List.setIfInBounds_toArray]); (try simp only [List.set_cons_succ]); (try simp only [List.set_cons_zero])
                refine wpAnyH_ready (rs := [13]) (by kernel_rfl) (by simp) ?_
                refine (AllReadyH.cons rfl (fun K hK => ?_) AllReadyH.nil)
                (try simp only [List.getElem_toArray]); (try simp only [List.getElem_cons_succ]); (try simp only [List.getElem_cons_zero])
                go_simp
                obtain ⟨w53x, hw53⟩ : ∃ xq, xq = w52x.alloc (.cells #[.string u, .int .i64 d, .int .i64 a.c, .int .i64 a.r, .int .i64 a.d, .int .i64 a.p] 66) := ⟨_, rfl⟩
                obtain ⟨z53, hz53⟩ : ∃ xq, xq = w52x.heap.size := ⟨_, rfl⟩
                have hn53 : Below w52x.heap.size w52x w53x := by rw [hw53]; exact below_alloc _ _
                have hb53 : Below w2.heap.size w2 w53x := below_and HB52.out hn53
                have HB53 := Lib.hid hb53
                have HY53_13 : Hid (Blk w53x z53 (grC ⟨u, d, a⟩) 66) := Lib.hid (by rw [hw53, hz53]; exact Blk.made w52x (grC ⟨u, d, a⟩) _)
                have HO53 := Lib.hid (own_fr HO52.out (Fr.of_below hn53 []) (fun _ _ => by simp))
                have HNE53_13 : Hid (∀ q, (v52 : Value).ownBlock = some q → q ≠ z53) := Lib.hid (fun q hq => by have := own_hi HO52.out hq; omega)
                rw [← hw53, ← hz53]
                refine hK.out _ _ (HSS.out _ hb53) (fun hS53 => ?_)
                clear hK K hb53 hw53 hz53 hn53 hS52
                (try simp only [Act.put]); (try simp only [List.setIfInBounds_toArray]); (try simp only [List.set_cons_succ]); (try simp only [List.set_cons_zero])
                refine wpAnyH_ready (rs := [14]) (by kernel_rfl) (by simp) ?_
                refine (AllReadyH.cons rfl (fun K hK => ?_) AllReadyH.nil)
                refine step_app rfl (.tmp 106) (.tmp 111) 27 27 rfl w2.heap.size 66 ix (.agg #[.string ⟨#[]⟩, .int .i64 0, .int .i64 0, .int .i64 0, .int .i64 0, .int .i64 0]) 6 56 Tryz.underlying27 hi hz0 hz1 hz2 rfl v52 j (rwC grC (S.take j)) (by rfl) HO53.out (.slice (some ⟨z53, 0, none⟩) 1 1) 1 (grC ⟨u, d, a⟩) (by rfl) (src_block Tryz.underlying27 _ z53 ((grC ⟨u, d, a⟩)).toArray HY53_13.out rfl (grC_one ⟨u, d, a⟩)) (by have := HL.out; have := HK.out; unfold maxLen; omega) (by have := HL.out; have := HK.out; omega) HB53.out.size ?_
                intro v54 w54x ho54 hg54 hn54 hk54
                have HO54 : Hid (w54x.ownsRow w2.heap.size 66 6 v54 (j + 1) (rwC grC (S.take j) ++ grC ⟨u, d, a⟩)) := Lib.hid (by exact ho54)
                have hb54 : Below w2.heap.size w2 w54x := HB53.out.trans ((Fr.of_grown hg54).below (by intro y hy; exact own_lo HO53.out (Option.mem_toList.1 hy)) HB53.out.size)
                have HB54 := Lib.hid hb54
                refine hK.out _ _ (HSS.out _ hb54) (fun hS54 => ?_)
                clear hK K hb54 ho54 hg54 hn54 hk54 hS53
                (try simp only [Act.put]); (try simp only [List.setIfInBounds_toArray]); (try simp only [List.set_cons_succ]); (try simp only [List.set_cons_zero])
                refine wpAnyH_ready (rs := [21]) (by kernel_rfl) (by simp) ?_
                refine (AllReadyH.cons rfl (fun K hK => ?_) AllReadyH.nil)
                refine step_app rfl (.tmp 112) (.tmp 118) 27 27 rfl w2.heap.size 66 ix (.agg #[.string ⟨#[]⟩, .int .i64 0, .int .i64 0, .int .i64 0, .int .i64 0, .int .i64 0]) 6 56 Tryz.underlying27 hi hz0 hz1 hz2 rfl v54 (j + 1) (rwC grC (S.take j) ++ grC ⟨u, d, a⟩) (by rfl) HO54.out (.slice (if cg = j then p else Option.map (fun x => x.add (j * 6)) p) (S.length - j) (cg - j)) (S.length - j) (rwC grC (S.drop j)) (by rfl) (gr_rest H2.out HB54.out HK.out) (by have := HL.out; have := HK.out; unfold maxLen; omega) (by have := HL.out; have := HK.out; omega) HB54.out.size ?_
                intro v55 w55x ho55 hg55 hn55 hk55
                have HO55 : Hid (w55x.ownsRow w2.heap.size 66 6 v55 (j + 1 + (S.length - j)) (rwC grC (S.take j) ++ grC ⟨u, d, a⟩ ++ rwC grC (S.drop j))) := Lib.hid (by exact ho55)
                have hb55 : Below w2.heap.size w2 w55x := HB54.out.trans ((Fr.of_grown hg55).below (by intro y hy; exact own_lo HO54.out (Option.mem_toList.1 hy)) HB54.out.size)
                have HB55 := Lib.hid hb55
                refine hK.out _ _ (HSS.out _ hb55) (fun hS55 => ?_)
                clear hK K hb55 ho55 hg55 hn55 hk55 hS54
                (try simp only [Act.put]); (try simp only [List.setIfInBounds_toArray]); (try simp only [List.set_cons_succ]); (try simp only [List.set_cons_zero])
                refine wpAnyH_take (i := 22) (v := ?v97) rfl (by kernel_rfl) (by kernel_rfl) (by kernel_rfl) (fun _ _ _ h => h) (Or.inl ⟨by rfl, ?hy97⟩) (by assumption) ?rest97
                case hy97 => (intro _ hSw; (try dsimp only at hSw); go_simp; (try with_reducible rfl))
                (try simp only [Act.put]); (try simp only [List.setIfInBounds_toArray]); (try simp only [List.set_cons_succ]); (try simp only [List.set_cons_zero])
                refine wpAnyH_take (i := 23) (v := ?v98) rfl (by kernel_rfl) (by kernel_rfl) (by kernel_rfl) (fun _ _ _ h => h) (Or.inl ⟨by rfl, ?hy98⟩) (by assumption) ?rest98
                case hy98 => (intro _ hSw; (try dsimp only at hSw); go_simp; (try with_reducible rfl))
                (try simp only [Act.put]); (try simp only [List.setIfInBounds_toArray]); (try simp only [List.set_cons_succ]); (try simp only [List.set_cons_zero])
                refine wpAnyH_done (by kernel_rfl) ?_ _
                refine LastQ.start rfl ?_
                clear hS55 hHeld
                have d1 := (HSS.out _ HB55.out).1
                have f1 := (H2.out.kept HB55.out).blk.free 0
                obtain ⟨p8, c8, hv8, -, -⟩ := own_slice HO55.out
                have HO8 := HO55
                subst hv8
                generalize (if cg = j then p else Option.map (fun x => x.add (j * 6)) p) = pp
                go_wp2
                refine NoPanic.normal ?_
                (try go_wp2)
                have hle : (S.take j ++ ⟨u, d, a⟩ :: S.drop j).length = j + 1 + (S.length - j) := by rw [List.length_append, List.length_cons, List.length_take, List.length_drop]; have := HK.out; omega
                have ho8 := HO8.out
                have hcat : rwC grC (S.take j) ++ grC ⟨u, d, a⟩ ++ rwC grC (S.drop j) = rwC grC (S.take j ++ ⟨u, d, a⟩ :: S.drop j) := by rw [rwC_append, rwC_cons, List.append_assoc]
                rw [hcat] at ho8
                have ho9 : World.ownsRow w55x w2.heap.size 66 6 (.slice p8 (j + 1 + (S.length - j)) c8) (S.take j ++ ⟨u, d, a⟩ :: S.drop j).length (rwC grC (S.take j ++ ⟨u, d, a⟩ :: S.drop j)) := by rw [hle]; exact ho8
                have hset := H2.out.setG HB55.out (Nat.le_trans HBS.out HBP.out.size) ho9
                rw [← HCUT.out] at hset
                go_ret
                exact ⟨rfl, RqG.mk hset ((Frp.of_below (below_and HBP.out HB55.out) _).set (p := ⟨g, 0, none⟩) (.inl rfl) _)⟩
              · (try simp only [List.getElem_toArray]); (try simp only [List.getElem_cons_succ]); (try simp only [List.getElem_cons_zero])
                go_simp
                obtain ⟨w56x, hw56⟩ : ∃ xq, xq = w51x.alloc (.cells #[.string u, .int .i64 d, .int .i64 a.c, .int .i64 a.r, .int .i64 a.d, .int .i64 a.p] 66) := ⟨_, rfl⟩
                obtain ⟨z56, hz56⟩ : ∃ xq, xq = w51x.heap.size := ⟨_, rfl⟩
                have hn56 : Below w51x.heap.size w51x w56x := by rw [hw56]; exact below_alloc _ _
                have hb56 : Below w2.heap.size w2 w56x := below_and HB51.out hn56
                have HB56 := Lib.hid hb56
                have HY56_13 : Hid (Blk w56x z56 (grC ⟨u, d, a⟩) 66) := Lib.hid (by rw [hw56, hz56]; exact Blk.made w51x (grC ⟨u, d, a⟩) _)
                have HO56 := Lib.hid (own_fr HO51.out (Fr.of_below hn56 []) (fun _ _ => by simp))
                have HNE56_13 : Hid (∀ q, ((.slice (some ⟨z51, 0, none⟩) 0 0) : Value).ownBlock = some q → q ≠ z56) := Lib.hid (fun q hq => by have := own_hi HO51.out hq; omega)
                rw [← hw56, ← hz56]
                refine hK.out _ _ (HSS.out _ hb56) (fun hS56 => ?_)
                clear hK K hb56 hw56 hz56 hn56 hS51
                (try simp only [Act.put]); (try simp only [List.setIfInBounds_toArray]); (try simp only [List.set_cons_succ]); (try simp only [List.set_cons_zero])
                refine wpAnyH_ready (rs := [8]) (by kernel_rfl) (by simp) ?_
                refine (AllReadyH.cons rfl (fun K hK => ?_) AllReadyH.nil)
                refine step_app rfl (.tmp 99) (.tmp 105) 27 27 rfl w2.heap.size 66 ix (.agg #[.string ⟨#[]⟩, .int .i64 0, .int .i64 0, .int .i64 0, .int .i64 0, .int .i64 0]) 6 56 Tryz.underlying27 hi hz0 hz1 hz2 rfl (.slice (some ⟨z51, 0, none⟩) 0 0) 0 [] (by rfl) HO56.out (.slice p j cg) j (rwC grC (S.take j)) (by rfl) (gr_first H2.out HB56.out HK.out) (by have := HL.out; have := HK.out; unfold maxLen; omega) (by have := HL.out; have := HK.out; omega) HB56.out.size ?_
                intro v57 w57x ho57 hg57 hn57 hk57
                have HO57 : Hid (w57x.ownsRow w2.heap.size 66 6 v57 j (rwC grC (S.take j))) := Lib.hid (by simpa using ho57)
                have hb57 : Below w2.heap.size w2 w57x := HB56.out.trans ((Fr.of_grown hg57).below (by intro y hy; exact own_lo HO56.out (Option.mem_toList.1 hy)) HB56.out.size)
                have HB57 := Lib.hid hb57
                have HY57_13 := Lib.hid (HY56_13.out.fr (Fr.of_grown hg57) (fun hm => HNE56_13.out _ (Option.mem_toList.1 hm) rfl))
                have HNE57_13 : Hid (∀ q, v57.ownBlock = some q → q ≠ z56) := Lib.hid (fun q hq => by rcases hk57 q hq with h1 | h1; exact HNE56_13.out q h1; have := HY56_13.out.lt; omega)
                refine hK.out _ _ (HSS.out _ hb57) (fun hS57 => ?_)
                clear hK K hb57 ho57 hg57 hn57 hk57 hS56
                (try simp only [Act.put]); (try simp only [List.setIfInBounds_toArray]); (try simp only [List.set_cons_succ]); (try simp only [List.set_cons_zero])
                refine wpAnyH_ready (rs := [14]) (by kernel_rfl) (by simp) ?_
                refine (AllReadyH.cons rfl (fun K hK => ?_) AllReadyH.nil)
                refine step_app rfl (.tmp 106) (.tmp 111) 27 27 rfl w2.heap.size 66 ix (.agg #[.string ⟨#[]⟩, .int .i64 0, .int .i64 0, .int .i64 0, .int .i64 0, .int .i64 0]) 6 56 Tryz.underlying27 hi hz0 hz1 hz2 rfl v57 j (rwC grC (S.take j)) (by rfl) HO57.out (.slice (some ⟨z56, 0, none⟩) 1 1) 1 (grC ⟨u, d, a⟩) (by rfl) (src_block Tryz.underlying27 _ z56 ((grC ⟨u, d, a⟩)).toArray HY57_13.out rfl (grC_one ⟨u, d, a⟩)) (by have := HL.out; have := HK.out; unfold maxLen; omega) (by have := HL.out; have := HK.out; omega) HB57.out.size ?_
                intro v58 w58x ho58 hg58 hn58 hk58
                have HO58 : Hid (w58x.ownsRow w2.heap.size 66 6 v58 (j + 1) (rwC grC (S.take j) ++ grC ⟨u, d, a⟩)) := Lib.hid (by exact ho58)
                have hb58 : Below w2.heap.size w2 w58x := HB57.out.trans ((Fr.of_grown hg58).below (by intro y hy; exact own_lo HO57.out (Option.mem_toList.1 hy)) HB57.out.size)
                have HB58 := Lib.hid hb58
                refine hK.out _ _ (HSS.out _ hb58) (fun hS58 => ?_)
                clear hK K hb58 ho58 hg58 hn58 hk58 hS57
                (try simp only [Act.put]); (try simp only [List.setIfInBounds_toArray]); (try simp only [List.set_cons_succ]); (try simp only [List.set_cons_zero])
                refine wpAnyH_ready (rs := [21]) (by kernel_rfl) (by simp) ?_
                refine (AllReadyH.cons rfl (fun K hK => ?_) AllReadyH.nil)
                refine step_app rfl (.tmp 112) (.tmp 118) 27 27 rfl w2.heap.size 66 ix (.agg #[.string ⟨#[]⟩, .int .i64 0, .int .i64 0, .int .i64 0, .int .i64 0, .int .i64 0]) 6 56 Tryz.underlying27 hi hz0 hz1 hz2 rfl v58 (j + 1) (rwC grC (S.take j) ++ grC ⟨u, d, a⟩) (by rfl) HO58.out (.slice (if cg = j then p else Option.map (fun x => x.add (j * 6)) p) (S.length - j) (cg - j)) (S.length - j) (rwC grC (S.drop j)) (by rfl) (gr_rest H2.out HB58.out HK.out) (by have := HL.out; have := HK.out; unfold maxLen; omega) (by have := HL.out; have := HK.out; omega) HB58.out.size ?_
                intro v59 w59x ho59 hg59 hn59 hk59
                have HO59 : Hid (w59x.ownsRow w2.heap.size 66 6 v59 (j + 1 + (S.length - j)) (rwC grC (S.take j) ++ grC ⟨u, d, a⟩ ++ rwC grC (S.drop j))) := Lib.hid (by exact ho59)
                have hb59 : Below w2.heap.size w2 w59x := HB58.out.trans ((Fr.of_grown hg59).below (by intro y hy; exact own_lo HO58.out (Option.mem_toList.1 hy)) HB58.out.size)
                have HB59 := Lib.hid hb59
                refine hK.out _ _ (HSS.out _ hb59) (fun hS59 => ?_)
                clear hK K hb59 ho59 hg59 hn59 hk59 hS58
                (try simp only [Act.put]); (try simp only [List.setIfInBounds_toArray]); (try simp only [List.set_cons_succ]); (try simp only [List.set_cons_zero])
                refine wpAnyH_take (i := 22) (v := ?v99) rfl (by kernel_rfl) (by kernel_rfl) (by kernel_rfl) (fun _ _ _ h => h) (Or.inl ⟨by rfl, ?hy99⟩) (by assumption) ?rest99
                case hy99 => (intro _ hSw; (try dsimp only at hSw); go_simp; (try with_reducible rfl))
                (try simp only [Act.put]); (try simp only [List.setIfInBounds_toArray]); (try simp only [List.set_cons_succ]); (try simp only [List.set_cons_zero])
                refine wpAnyH_take (i := 23) (v := ?v100) rfl (by kernel_rfl) (by kernel_rfl) (by kernel_rfl) (fun _ _ _ h => h) (Or.inl ⟨by rfl, ?hy100⟩) (by assumption) ?rest100
                case hy100 => (intro _ hSw; (try dsimp only at hSw); go_simp; (try with_reducible rfl))
                (try simp only [Act.put]); (try simp only [List.setIfInBounds_toArray]); (try simp only [List.set_cons_succ]); (try simp only [List.set_cons_zero])
                refine wpAnyH_done (by kernel_rfl) ?_ _
                refine LastQ.start rfl ?_
                clear hS59 hHeld
                have d1 := (HSS.out _ HB59.out).1
                have f1 := (H2.out.kept HB59.out).blk.free 0
                obtain ⟨p8, c8, hv8, -, -⟩ := own_slice HO59.out
                have HO8 := HO59
                subst hv8
                generalize (if cg = j then p else Option.map (fun x => x.add (j * 6)) p) = pp
                go_wp2
                refine NoPanic.normal ?_
                (try go_wp2)
                have hle : (S.take j ++ ⟨u, d, a⟩ :: S.drop j).length = j + 1 + (S.length - j) := by rw [List.length_append, List.length_cons, List.length_take, List.length_drop]; have := HK.out; omega
                have ho8 := HO8.out
                have hcat : rwC grC (S.take j) ++ grC ⟨u, d, a⟩ ++ rwC grC (S.drop j) = rwC grC (S.take j ++ ⟨u, d, a⟩ :: S.drop j) := by rw [rwC_append, rwC_cons, List.append_assoc]
                rw [hcat] at ho8
                have ho9 : World.ownsRow w59x w2.heap.size 66 6 (.slice p8 (j + 1 + (S.length - j)) c8) (S.take j ++ ⟨u, d, a⟩ :: S.drop j).length (rwC grC (S.take j ++ ⟨u, d, a⟩ :: S.drop j)) := by rw [hle]; exact ho8
                have hset := H2.out.setG HB59.out (Nat.le_trans HBS.out HBP.out.size) ho9
                rw [← HCUT.out] at hset
                go_ret
                exact ⟨rfl, RqG.mk hset ((Frp.of_below (below_and HBP.out HB59.out) _).set (p := ⟨g, 0, none⟩) (.inl rfl) _)⟩
            · (try simp only [List.getElem_toArray]); (try simp only [List.getElem_cons_succ]); (try simp only [List.getElem_cons_zero])
              go_simp
              obtain ⟨w60x, hw60⟩ : ∃ xq, xq = wd50.alloc (.cells #[.string u, .int .i64 d, .int .i64 a.c, .int .i64 a.r, .int .i64 a.d, .int .i64 a.p] 66) := ⟨_, rfl⟩
              obtain ⟨z60, hz60⟩ : ∃ xq, xq = wd50.heap.size := ⟨_, rfl⟩
              have hn60 : Below wd50.heap.size wd50 w60x := by rw [hw60]; exact below_alloc _ _
              have hb60 : Below w2.heap.size w2 w60x := below_and HB50.out hn60
              have HB60 := Lib.hid hb60
              have HY60_13 : Hid (Blk w60x z60 (grC ⟨u, d, a⟩) 66) := Lib.hid (by rw [hw60, hz60]; exact Blk.made wd50 (grC ⟨u, d, a⟩) _)
              rw [← hw60, ← hz60]
              refine hK.out _ _ (HSS.out _ hb60) (fun hS60 => ?_)
              clear hK K hb60 hw60 hz60 hn60 hS50
              (try simp only [Act.put]); (try simp only [List.setIfInBounds_toArray]); (try simp only [List.set_cons_succ]); (try simp only [List.set_cons_zero])
              refine wpAnyH_ready (rs := [1]) (by kernel_rfl) (by simp) ?_
              refine (AllReadyH.cons rfl (fun K hK => ?_) AllReadyH.nil)
              (try simp only [List.getElem_toArray]); (try simp only [List.getElem_cons_succ]); (try simp only [List.getElem_cons_zero])
              go_simp
              obtain ⟨w61x, hw61⟩ : ∃ xq, xq = w60x.alloc (.cells #[] 66) := ⟨_, rfl⟩
              obtain ⟨z61, hz61⟩ : ∃ xq, xq = w60x.heap.size := ⟨_, rfl⟩
              have hn61 : Below w60x.heap.size w60x w61x := by rw [hw61]; exact below_alloc _ _
              have hb61 : Below w2.heap.size w2 w61x := below_and HB60.out hn61
              have HB61 := Lib.hid hb61
              have HY61_13 := Lib.hid (HY60_13.out.kept hn61)
              have HNE61_13 : Hid (∀ q, (Value.slice (some ⟨z61, 0, none⟩) 0 0).ownBlock = some q → q ≠ z60) := Lib.hid (fun q hq => by simp [Value.ownBlock] at hq; have := HY60_13.out.lt; omega)
              have HO61 : Hid (w61x.ownsRow w2.heap.size 66 6 (.slice (some ⟨z61, 0, none⟩) 0 0) 0 []) := Lib.hid (by rw [hw61, hz61]; exact World.ownsRow_made w60x #[] 0 HB60.out.size (by decide) rfl)
              rw [← hw61, ← hz61]
              refine hK.out _ _ (HSS.out _ hb61) (fun hS61 => ?_)
              clear hK K hb61 hw61 hz61 hn61 hS60
              (try simp only [Act.put]); (try simp only [List.setIfInBounds_toArray]); (try simp only [List.set_cons_succ]); (try simp only [List.set_cons_zero])
              refine wpAnyH_ready (rs := [8]) (by kernel_rfl) (by simp) ?_
              refine (AllReadyH.cons rfl (fun K hK => ?_) AllReadyH.nil)
              refine step_app rfl (.tmp 99) (.tmp 105) 27 27 rfl w2.heap.size 66 ix (.agg #[.string ⟨#[]⟩, .int .i64 0, .int .i64 0, .int .i64 0, .int .i64 0, .int .i64 0]) 6 56 Tryz.underlying27 hi hz0 hz1 hz2 rfl (.slice (some ⟨z61, 0, none⟩) 0 0) 0 [] (by rfl) HO61.out (.slice p j cg) j (rwC grC (S.take j)) (by rfl) (gr_first H2.out HB61.out HK.out) (by have := HL.out; have := HK.out; unfold maxLen; omega) (by have := HL.out; have := HK.out; omega) HB61.out.size ?_
              intro v62 w62x ho62 hg62 hn62 hk62
              have HO62 : Hid (w62x.ownsRow w2.heap.size 66 6 v62 j (rwC grC (S.take j))) := Lib.hid (by simpa using ho62)
              have hb62 : Below w2.heap.size w2 w62x := HB61.out.trans ((Fr.of_grown hg62).below (by intro y hy; exact own_lo HO61.out (Option.mem_toList.1 hy)) HB61.out.size)
              have HB62 := Lib.hid hb62
              have HY62_13 := Lib.hid (HY61_13.out.fr (Fr.of_grown hg62) (fun hm => HNE61_13.out _ (Option.mem_toList.1 hm) rfl))
              have HNE62_13 : Hid (∀ q, v62.ownBlock = some q → q ≠ z60) := Lib.hid (fun q hq => by rcases hk62 q hq with h1 | h1; exact HNE61_13.out q h1; have := HY61_13.out.lt; omega)
              refine hK.out _ _ (HSS.out _ hb62) (fun hS62 => ?_)
              clear hK K hb62 ho62 hg62 hn62 hk62 hS61
              (try simp only [Act.put]); (try simp only [List.setIfInBounds_toArray]); (try simp only [List.set_cons_succ]); (try simp only [List.set_cons_zero])
              refine wpAnyH_ready (rs := [14]) (by kernel_rfl) (by simp) ?_
              refine (AllReadyH.cons rfl (fun K hK => ?_) AllReadyH.nil)
              refine step_app rfl (.tmp 106) (.tmp 111) 27 27 rfl w2.heap.size 66 ix (.agg #[.string ⟨#[]⟩, .int .i64 0, .int .i64 0, .int .i64 0, .int .i64 0, .int .i64 0]) 6 56 Tryz.underlying27 hi hz0 hz1 hz2 rfl v62 j (rwC grC (S.take j)) (by rfl) HO62.out (.slice (some ⟨z60, 0, none⟩) 1 1) 1 (grC ⟨u, d, a⟩) (by rfl) (src_block Tryz.underlying27 _ z60 ((grC ⟨u, d, a⟩)).toArray HY62_13.out rfl (grC_one ⟨u, d, a⟩)) (by have := HL.out; have := HK.out; unfold maxLen; omega) (by have := HL.out; have := HK.out; omega) HB62.out.size ?_
              intro v63 w63x ho63 hg63 hn63 hk63
              have HO63 : Hid (w63x.ownsRow w2.heap.size 66 6 v63 (j + 1) (rwC grC (S.take j) ++ grC ⟨u, d, a⟩)) := Lib.hid (by exact ho63)
              have hb63 : Below w2.heap.size w2 w63x := HB62.out.trans ((Fr.of_grown hg63).below (by intro y hy; exact own_lo HO62.out (Option.mem_toList.1 hy)) HB62.out.size)
              have HB63 := Lib.hid hb63
              refine hK.out _ _ (HSS.out _ hb63) (fun hS63 => ?_)
              clear hK K hb63 ho63 hg63 hn63 hk63 hS62
              (try simp only [Act.put]); (try simp only [List.setIfInBounds_toArray]); (try simp only [List.set_cons_succ]); (try simp only [List.set_cons_zero])
              refine wpAnyH_ready (rs := [21]) (by kernel_rfl) (by simp) ?_
              refine (AllReadyH.cons rfl (fun K hK => ?_) AllReadyH.nil)
              refine step_app rfl (.tmp 112) (.tmp 118) 27 27 rfl w2.heap.size 66 ix (.agg #[.string ⟨#[]⟩, .int .i64 0, .int .i64 0, .int .i64 0, .int .i64 0, .int .i64 0]) 6 56 Tryz.underlying27 hi hz0 hz1 hz2 rfl v63 (j + 1) (rwC grC (S.take j) ++ grC ⟨u, d, a⟩) (by rfl) HO63.out (.slice (if cg = j then p else Option.map (fun x => x.add (j * 6)) p) (S.length - j) (cg - j)) (S.length - j) (rwC grC (S.drop j)) (by rfl) (gr_rest H2.out HB63.out HK.out) (by have := HL.out; have := HK.out; unfold maxLen; omega) (by have := HL.out; have := HK.out; omega) HB63.out.size ?_
              intro v64 w64x ho64 hg64 hn64 hk64
              have HO64 : Hid (w64x.ownsRow w2.heap.size 66 6 v64 (j + 1 + (S.length - j)) (rwC grC (S.take j) ++ grC ⟨u, d, a⟩ ++ rwC grC (S.drop j))) := Lib.hid (by exact ho64)
              have hb64 : Below w2.heap.size w2 w64x := HB63.out.trans ((Fr.of_grown hg64).below (by intro y hy; exact own_lo HO63.out (Option.mem_toList.1 hy)) HB63.out.size)
              have HB64 := Lib.hid hb64
              refine hK.out _ _ (HSS.out _ hb64) (fun hS64 => ?_)
              clear hK K hb64 ho64 hg64 hn64 hk64 hS63
              (try simp only [Act.put]); (try simp only [List.setIfInBounds_toArray]); (try simp only [List.set_cons_succ]); (try simp only [List.set_cons_zero])
              refine wpAnyH_take (i := 22) (v := ?v101) rfl (by kernel_rfl) (by kernel_rfl) (by kernel_rfl) (fun _ _ _ h => h) (Or.inl ⟨by rfl, ?hy101⟩) (by assumption) ?rest101
              case hy101 => (intro _ hSw; (try dsimp only at hSw); go_simp; (try with_reducible rfl))
              (try simp only [Act.put]); (try simp only [List.setIfInBounds_toArray]); (try simp only [List.set_cons_succ]); (try simp only [List.set_cons_zero])
              refine wpAnyH_take (i := 23) (v := ?v102) rfl (by kernel_rfl) (by kernel_rfl) (by kernel_rfl) (fun _ _ _ h => h) (Or.inl ⟨by rfl, ?hy102⟩) (by assumption) ?rest102
              case hy102 => (intro _ hSw; (try dsimp only at hSw); go_simp; (try with_reducible rfl))
              (try simp only [Act.put]); (try simp only [List.setIfInBounds_toArray]); (try simp only [List.set_cons_succ]); (try simp only [List.set_cons_zero])
              refine wpAnyH_done (by kernel_rfl) ?_ _
              refine LastQ.start rfl ?_
              clear hS64 hHeld
              have d1 := (HSS.out _ HB64.out).1
              have f1 := (H2.out.kept HB64.out).blk.free 0
              obtain ⟨p8, c8, hv8, -, -⟩ := own_slice HO64.out
              have HO8 := HO64
              subst hv8
              generalize (if cg = j then p else Option.map (fun x => x.add (j * 6)) p) = pp
              go_wp2
              refine NoPanic.normal ?_
              (try go_wp2)
              have hle : (S.take j ++ ⟨u, d, a⟩ :: S.drop j).length = j + 1 + (S.length - j) := by rw [List.length_append, List.length_cons, List.length_take, List.length_drop]; have := HK.out; omega
              have ho8 := HO8.out
              have hcat : rwC grC (S.take j) ++ grC ⟨u, d, a⟩ ++ rwC grC (S.drop j) = rwC grC (S.take j ++ ⟨u, d, a⟩ :: S.drop j) := by rw [rwC_append, rwC_cons, List.append_assoc]
              rw [hcat] at ho8
              have ho9 : World.ownsRow w64x w2.heap.size 66 6 (.slice p8 (j + 1 + (S.length - j)) c8) (S.take j ++ ⟨u, d, a⟩ :: S.drop j).length (rwC grC (S.take j ++ ⟨u, d, a⟩ :: S.drop j)) := by rw [hle]; exact ho8
              have hset := H2.out.setG HB64.out (Nat.le_trans HBS.out HBP.out.size) ho9
              rw [← HCUT.out] at hset
              go_ret
              exact ⟨rfl, RqG.mk hset ((Frp.of_below (below_and HBP.out HB64.out) _).set (p := ⟨g, 0, none⟩) (.inl rfl) _)⟩
          · have hyb : y.b = d := by simpa using t4
            have HSE : Hid (gins ⟨u, d, a⟩ S = S.set j ⟨y.u, y.b, a⟩) := Lib.hid (by rw [hyu, hyb]; exact HSET.out hin (by rw [← hy]; exact hyu) (by rw [← hy]; exact hyb))
            have HYY := Lib.hid hy
            rw [hyu] at y0 t1
            rw [hyb] at y1
            clear hg hyu hyb t2 t3 t4
            subst hpq
            go_upto_region 7 with fail
            have a0 := Past.blk X2.out (j := 0) rfl
            have a1 := Past.blk X2.out (j := 1) rfl
            have a2 := Past.blk X2.out (j := 2) rfl
            have a3 := Past.blk X2.out (j := 3) rfl
            have b1 := Past.blk H2.out.blk (j := 0) rfl
            clear y0 y1
            refine wp_region_past_one rfl (by kernel_rfl) (by kernel_rfl) (by kernel_rfl) ?_
            repeat (go_big_quiet_step (fail))
            refine wpQuiet_nil ?_
            intro _ hw'
            obtain ⟨s9, hw''⟩ := hw'
            subst hw''
            obtain ⟨w8, h9, e9⟩ : ∃ w8, Below w2.heap.size w2 w8 ∧ w8 = s9.val := ⟨_, s9.h, rfl⟩
            rw [← e9]
            have H8 := Lib.hid (H2.out.kept h9)
            have HB8 := Lib.hid (below_and HBP.out h9)
            clear h9 e9 a0 a1 a2 a3 b1
            have HTH : Hid (w8.there q (j * 6 + 2) 4) := Lib.hid (fun i hi => ⟨by rw [own_cell H8.out.gr (j := j * 6 + 2 + i) (List.getElem?_eq_getElem (by rw [rwC_len grC_len]; omega))]; rfl, own_free H8.out.gr _⟩)
            have HI4 : Hid ((Tryz.prog.info? 34).map (·.size) = some (#[.int .i64 a.c, .int .i64 a.r, .int .i64 a.d, .int .i64 a.p] : Array Value).size) := Lib.hid (by kernel_rfl)
            have HA1 : Hid ((#[.int .i64 a.c, .int .i64 a.r, .int .i64 a.d, .int .i64 a.p] : Array Value).all (·.oneCell') = true) := Lib.hid (one_all (amC_oneq a))
            have HN : Hid (∃ wS, wS = w8.setCells q (j * 6 + 2) (#[.int .i64 a.c, .int .i64 a.r, .int .i64 a.d, .int .i64 a.p] : Array Value).toList ∧ RqG base w wS g (.slice (some ⟨q, 0, none⟩) S.length cg) vC (gins ⟨u, d, a⟩ S) C) := Lib.hid ⟨_, rfl, by
              have hne : g ≠ q := fun e => H8.out.n1 (by rw [e]; rfl)
              have hqg : vC.ownBlock ≠ some q := by
                intro hv
                obtain ⟨q2, c2, e2, -, -, hh2⟩ := own_block H8.out.gr (by omega)
                simp only [Value.slice.injEq, Option.some.injEq, Addr.mk.injEq, and_true] at e2
                obtain ⟨rfl, -⟩ := e2
                exact own_own H8.out.ch H8.out.gr (by decide) hv rfl
              have h1 := own_cells4 H8.out.gr (j * 6 + 2) (by omega) (.int .i64 a.c) (.int .i64 a.r) (.int .i64 a.d) (.int .i64 a.p)
              rw [rwC_gmt hin y HYY.out a, ← HSE.out] at h1
              have hfr : Frp (fun i => (Value.slice (some ⟨q, 0, none⟩) S.length cg).ownBlock = some i) w8 (w8.setCells q (j * 6 + 2) (#[.int .i64 a.c, .int .i64 a.r, .int .i64 a.d, .int .i64 a.p] : Array Value).toList) := frp_cells (P := fun i => (Value.slice (some ⟨q, 0, none⟩) S.length cg).ownBlock = some i) (k := q) rfl _ _ _ (Frp.refl _ _)
              have hlc : (gins ⟨u, d, a⟩ S).length = S.length := by rw [HSE.out, List.length_set]
              refine RqG.mk (vG' := .slice (some ⟨q, 0, none⟩) S.length cg) ⟨Blk.cellsO hne _ _ _ H8.out.blk, by rw [hlc]; exact h1, own_frp H8.out.ch hfr (fun y hy e => ?_), H8.out.n1, H8.out.n2⟩ (frp_cells (P := fun i => i = g ∨ (Value.slice (some ⟨q, 0, none⟩) S.length cg).ownBlock = some i) (k := q) (.inr rfl) _ _ _ (Frp.of_below HB8.out _))
              simp only [Value.ownBlock, Option.some.injEq] at e
              exact hqg (by rw [e]; exact hy)⟩
            go_wp2_with (refine wpList_store_mid rfl 34 _ _ rfl q (j * 6 + 2) #[.int .i64 a.c, .int .i64 a.r, .int .i64 a.d, .int .i64 a.p] rfl rfl HTH.out HI4.out HA1.out ?_; obtain ⟨wS, hwS, hs1⟩ := HN.out; rw [← hwS]; have N1 := Lib.hid hs1; clear hwS hs1)
            go_ret
            exact ⟨rfl, N1.out⟩
      · have i3 : ¬ (j : Int) < (S.length : Int) := by omega
        have HCUT : Hid (gins ⟨u, d, a⟩ S = S.take j ++ ⟨u, d, a⟩ :: S.drop j) := Lib.hid (HINS.out (fun h => absurd h hin))
        go_upto_region 9 with fail
        clear b1
        have b2 : (j : Int) ≤ (S.length : Int) := by have := HK.out; omega
        have b6 : (S.length : Int) ≤ (cg : Int) := by omega
        have b3 : (j : Int) ≤ (cg : Int) := by omega
        have HSS : Hid (∀ w', Below w2.heap.size w2 w' → w'.cell? ⟨g, 0, none⟩ = some (.slice p S.length cg) ∧ w'.cell? ⟨B, 0, none⟩ = some (.int .i64 a.c) ∧ w'.cell? ⟨B, 1, none⟩ = some (.int .i64 a.r) ∧ w'.cell? ⟨B, 2, none⟩ = some (.int .i64 a.d) ∧ w'.cell? ⟨B, 3, none⟩ = some (.int .i64 a.p)) := Lib.hid (fun w' hb => ⟨(H2.out.kept hb).blk.cell (j := 0) rfl, (X2.out.kept hb).cell (j := 0) rfl, (X2.out.kept hb).cell (j := 1) rfl, (X2.out.kept hb).cell (j := 2) rfl, (X2.out.kept hb).cell (j := 3) rfl⟩)
        refine wp_region_noPanic ?_
        refine wp_region_lastH (fun w' => w'.cell? ⟨g, 0, none⟩ = some (.slice p S.length cg) ∧ w'.cell? ⟨B, 0, none⟩ = some (.int .i64 a.c) ∧ w'.cell? ⟨B, 1, none⟩ = some (.int .i64 a.r) ∧ w'.cell? ⟨B, 2, none⟩ = some (.int .i64 a.d) ∧ w'.cell? ⟨B, 3, none⟩ = some (.int .i64 a.p)) 24 rfl rfl (by kernel_rfl) (by kernel_rfl) (HSS.out _ (below_drewN 1)) (fun hHeld => ?_)
        have HB65 : Hid (Below w2.heap.size w2 w2.drew) := Lib.hid (below_drewN 1)
        have hS65 : True := trivial
        obtain ⟨wd65, hwd⟩ : ∃ xq, xq = w2.drew := ⟨_, rfl⟩
        rw [← hwd] at hHeld HB65 ⊢
        clear hwd
        refine wpAnyH_take (i := 0) (v := ?v103) rfl (by kernel_rfl) (by kernel_rfl) (by kernel_rfl) (fun _ _ _ h => h) (Or.inl ⟨by rfl, ?hy103⟩) (by assumption) ?rest103
        case hy103 => (intro _ hSw; (try dsimp only at hSw); go_simp; (try with_reducible rfl))
        (try simp only [Act.put]); (try simp only [List.setIfInBounds_toArray]); (try simp only [List.set_cons_succ]); (try simp only [List.set_cons_zero])
        refine wpAnyH_take (i := 2) (v := ?v104) rfl (by kernel_rfl) (by kernel_rfl) (by kernel_rfl) (fun _ _ _ h => h) (Or.inl ⟨by rfl, ?hy104⟩) (by assumption) ?rest104
        case hy104 => (intro _ hSw; (try dsimp only at hSw); go_simp; (try with_reducible rfl))
        (try simp only [Act.put]); (try simp only [List.setIfInBounds_toArray]); (try simp only [List.set_cons_succ]); (try simp only [List.set_cons_zero])
        refine wpAnyH_take (i := 3) (v := ?v105) rfl (by kernel_rfl) (by kernel_rfl) (by kernel_rfl) (fun _ _ _ h => h) (Or.inl ⟨by rfl, ?hy105⟩) (by assumption) ?rest105
        case hy105 => (intro _ hSw; (try dsimp only at hSw); go_simp; (try with_reducible rfl))
        (try simp only [Act.put]); (try simp only [List.setIfInBounds_toArray]); (try simp only [List.set_cons_succ]); (try simp only [List.set_cons_zero])
        refine wpAnyH_take (i := 4) (v := ?v106) rfl (by kernel_rfl) (by kernel_rfl) (by kernel_rfl) (fun _ _ _ h => h) (Or.inl ⟨by rfl, ?hy106⟩) (by assumption) ?rest106
        case hy106 => (intro _ hSw; (try dsimp only at hSw); go_simp; (try with_reducible rfl))
        (try simp only [Act.put]); (try simp only [List.setIfInBounds_toArray]); (try simp only [List.set_cons_succ]); (try simp only [List.set_cons_zero])
        refine wpAnyH_take (i := 5) (v := ?v107) rfl (by kernel_rfl) (by kernel_rfl) (by kernel_rfl) (fun _ _ _ h => h) (Or.inl ⟨by rfl, ?hy107⟩) (by assumption) ?rest107
        case hy107 => (intro _ hSw; (try dsimp only at hSw); go_simp; (try with_reducible rfl))
        (try simp only [Act.put]); (try simp only [List.setIfInBounds_toArray]); (try simp only [List.set_cons_succ]); (try simp only [List.set_cons_zero])
        refine wpAnyH_take (i := 6) (v := ?v108) rfl (by kernel_rfl) (by kernel_rfl) (by kernel_rfl) (fun _ _ _ h => h) (Or.inl ⟨by rfl, ?hy108⟩) (by assumption) ?rest108
        case hy108 => (intro _ hSw; (try dsimp only at hSw); go_simp; (try with_reducible rfl))
        (try simp only [Act.put]); (try simp only [List.setIfInBounds_toArray]); (try simp only [List.set_cons_succ]); (try simp only [List.set_cons_zero])
        refine wpAnyH_take (i := 7) (v := ?v109) rfl (by kernel_rfl) (by kernel_rfl) (by kernel_rfl) (fun _ _ _ h => h) (Or.inl ⟨by rfl, ?hy109⟩) (by assumption) ?rest109
        case hy109 => (intro _ hSw; (try dsimp only at hSw); go_simp; (try with_reducible rfl))
        (try simp only [Act.put]); (try simp only [List.setIfInBounds_toArray]); (try simp only [List.set_cons_succ]); (try simp only [List.set_cons_zero])
        refine wpAnyH_take (i := 9) (v := ?v110) rfl (by kernel_rfl) (by kernel_rfl) (by kernel_rfl) (fun _ _ _ h => h) (Or.inl ⟨by rfl, ?hy110⟩) (by assumption) ?rest110
        case hy110 => (intro _ hSw; (try dsimp only at hSw); go_simp; (try with_reducible rfl))
        (try simp only [Act.put]); (try simp only [List.setIfInBounds_toArray]); (try simp only [List.set_cons_succ]); (try simp only [List.set_cons_zero])
        refine wpAnyH_take (i := 10) (v := ?v111) rfl (by kernel_rfl) (by kernel_rfl) (by kernel_rfl) (fun _ _ _ h => h) (Or.inl ⟨by rfl, ?hy111⟩) (by assumption) ?rest111
        case hy111 => (intro _ hSw; (try dsimp only at hSw); go_simp; (try with_reducible rfl))
        (try simp only [Act.put]); (try simp only [List.setIfInBounds_toArray]); (try simp only [List.set_cons_succ]); (try simp only [List.set_cons_zero])
        refine wpAnyH_take (i := 11) (v := ?v112) rfl (by kernel_rfl) (by kernel_rfl) (by kernel_rfl) (fun _ _ _ h => h) (Or.inl ⟨by rfl, ?hy112⟩) (by assumption) ?rest112
        case hy112 => (intro _ hSw; (try dsimp only at hSw); go_simp; (try with_reducible rfl))
        (try simp only [Act.put]); (try simp only [List.setIfInBounds_toArray]); (try simp only [List.set_cons_succ]); (try simp only [List.set_cons_zero])
        refine wpAnyH_take (i := 12) (v := ?v113) rfl (by kernel_rfl) (by kernel_rfl) (by kernel_rfl) (fun _ _ _ h => h) (Or.inl ⟨by rfl, ?hy113⟩) (by assumption) ?rest113
        case hy113 => (intro _ hSw; (try dsimp only at hSw); go_simp; (try with_reducible rfl))
        (try simp only [Act.put]); (try simp only [List.setIfInBounds_toArray]); (try simp only [List.set_cons_succ]); (try simp only [List.set_cons_zero])
        refine wpAnyH_take (i := 15) (v := ?v114) rfl (by kernel_rfl) (by kernel_rfl) (by kernel_rfl) (fun _ _ _ h => h) (Or.inl ⟨by rfl, ?hy114⟩) (by assumption) ?rest114
        case hy114 => (intro _ hSw; (try dsimp only at hSw); go_simp; (try with_reducible rfl))
        (try simp only [Act.put]); (try simp only [List.setIfInBounds_toArray]); (try simp only [List.set_cons_succ]); (try simp only [List.set_cons_zero])
        refine wpAnyH_take (i := 16) (v := ?v115) rfl (by kernel_rfl) (by kernel_rfl) (by kernel_rfl) (fun _ _ _ h => h) (Or.inl ⟨by rfl, ?hy115⟩) (by assumption) ?rest115
        case hy115 => (intro _ hSw; (try dsimp only at hSw); go_simp; (try with_reducible rfl))
        (try simp only [Act.put]); (try simp only [List.setIfInBounds_toArray]); (try simp only [List.set_cons_succ]); (try simp only [List.set_cons_zero])
        refine wpAnyH_take (i := 17) (v := ?v116) rfl (by kernel_rfl) (by kernel_rfl) (by kernel_rfl) (fun _ _ _ h => h) (Or.inl ⟨by rfl, ?hy116⟩) (by assumption) ?rest116
        case hy116 => (intro _ hSw; (try dsimp only at hSw); go_simp; (try with_reducible rfl))
        (try simp only [Act.put]); (try simp only [List.setIfInBounds_toArray]); (try simp only [List.set_cons_succ]); (try simp only [List.set_cons_zero])
        refine wpAnyH_take (i := 18) (v := ?v117) rfl (by kernel_rfl) (by kernel_rfl) (by kernel_rfl) (fun _ _ _ h => h) (Or.inl ⟨by rfl, ?hy117⟩) (by assumption) ?rest117
        case hy117 => (intro _ hSw; (try dsimp only at hSw); go_simp; (try with_reducible rfl))
        (try simp only [Act.put]); (try simp only [List.setIfInBounds_toArray]); (try simp only [List.set_cons_succ]); (try simp only [List.set_cons_zero])
        refine wpAnyH_take (i := 19) (v := ?v118) rfl (by kernel_rfl) (by kernel_rfl) (by kernel_rfl) (fun _ _ _ h => h) (Or.inl ⟨by rfl, ?hy118⟩) (by assumption) ?rest118
        case hy118 => (intro _ hSw; (try dsimp only at hSw); go_simp; (try with_reducible rfl))
        (try simp only [Act.put]); (try simp only [List.setIfInBounds_toArray]); (try simp only [List.set_cons_succ]); (try simp only [List.set_cons_zero])
        refine wpAnyH_take (i := 20) (v := ?v119) rfl (by kernel_rfl) (by kernel_rfl) (by kernel_rfl) (fun _ _ _ h => h) (Or.inl ⟨by rfl, ?hy119⟩) (by assumption) ?rest119
        case hy119 => (intro _ hSw; (try dsimp only at hSw); go_simp; (try with_reducible rfl))
        (try simp only [Act.put]); (try simp only [List.setIfInBounds_toArray]); (try simp only [List.set_cons_succ]); (try simp only [List.set_cons_zero])
        (try simp only [List.getElem_toArray]); (try simp only [List.getElem_cons_succ]); (try simp only [List.getElem_cons_zero]); (try simp only [List.setIfInBounds_toArray]); (try simp only [List.set_cons_succ, List.set_cons_zero])
        refine wpAnyH_ready (rs := [1, 13]) (by kernel_rfl) (by simp) ?_
        refine (AllReadyH.cons rfl (fun K hK => ?_) (AllReadyH.cons rfl (fun K hK => ?_) AllReadyH.nil))
        · (try simp only [List.getElem_toArray]); (try simp only [List.getElem_cons_succ]); (try simp only [List.getElem_cons_zero])
          go_simp
          obtain ⟨w66x, hw66⟩ : ∃ xq, xq = wd65.alloc (.cells #[] 66) := ⟨_, rfl⟩
          obtain ⟨z66, hz66⟩ : ∃ xq, xq = wd65.heap.size := ⟨_, rfl⟩
          have hn66 : Below wd65.heap.size wd65 w66x := by rw [hw66]; exact below_alloc _ _
          have hb66 : Below w2.heap.size w2 w66x := below_and HB65.out hn66
          have HB66 := Lib.hid hb66
          have HO66 : Hid (w66x.ownsRow w2.heap.size 66 6 (.slice (some ⟨z66, 0, none⟩) 0 0) 0 []) := Lib.hid (by rw [hw66, hz66]; exact World.ownsRow_made wd65 #[] 0 HB65.out.size (by decide) rfl)
          rw [← hw66, ← hz66]
          refine hK.out _ _ (HSS.out _ hb66) (fun hS66 => ?_)
          clear hK K hb66 hw66 hz66 hn66 hS65
          (try simp only [Act.put]); (try simp only [List.setIfInBounds_toArray]); (try simp only [List.set_cons_succ]); (try simp only [List.set_cons_zero])
          refine wpAnyH_ready (rs := [8, 13]) (by kernel_rfl) (by simp) ?_
          refine (AllReadyH.cons rfl (fun K hK => ?_) (AllReadyH.cons rfl (fun K hK => ?_) AllReadyH.nil))
          · refine step_app rfl (.tmp 99) (.tmp 105) 27 27 rfl w2.heap.size 66 ix (.agg #[.string ⟨#[]⟩, .int .i64 0, .int .i64 0, .int .i64 0, .int .i64 0, .int .i64 0]) 6 56 Tryz.underlying27 hi hz0 hz1 hz2 rfl (.slice (some ⟨z66, 0, none⟩) 0 0) 0 [] (by rfl) HO66.out (.slice p j cg) j (rwC grC (S.take j)) (by rfl) (gr_first H2.out HB66.out HK.out) (by have := HL.out; have := HK.out; unfold maxLen; omega) (by have := HL.out; have := HK.out; omega) HB66.out.size ?_
            intro v67 w67x ho67 hg67 hn67 hk67
            have HO67 : Hid (w67x.ownsRow w2.heap.size 66 6 v67 j (rwC grC (S.take j))) := Lib.hid (by simpa using ho67)
            have hb67 : Below w2.heap.size w2 w67x := HB66.out.trans ((Fr.of_grown hg67).below (by intro y hy; exact own_lo HO66.out (Option.mem_toList.1 hy)) HB66.out.size)
            have HB67 := Lib.hid hb67
            refine hK.out _ _ (HSS.out _ hb67) (fun hS67 => ?_)
            clear hK K hb67 ho67 hg67 hn67 hk67 hS66
            (try simp only [Act.put]); (try simp only [List.setIfInBounds_toArray]); (try simp only [List.set_cons_succ]); (try simp only [List.set_cons_zero])
            refine wpAnyH_ready (rs := [13]) (by kernel_rfl) (by simp) ?_
            refine (AllReadyH.cons rfl (fun K hK => ?_) AllReadyH.nil)
            (try simp only [List.getElem_toArray]); (try simp only [List.getElem_cons_succ]); (try simp only [List.getElem_cons_zero])
            go_simp
            obtain ⟨w68x, hw68⟩ : ∃ xq, xq = w67x.alloc (.cells #[.string u, .int .i64 d, .int .i64 a.c, .int .i64 a.r, .int .i64 a.d, .int .i64 a.p] 66) := ⟨_, rfl⟩
            obtain ⟨z68, hz68⟩ : ∃ xq, xq = w67x.heap.size := ⟨_, rfl⟩
            have hn68 : Below w67x.heap.size w67x w68x := by rw [hw68]; exact below_alloc _ _
            have hb68 : Below w2.heap.size w2 w68x := below_and HB67.out hn68
            have HB68 := Lib.hid hb68
            have HY68_13 : Hid (Blk w68x z68 (grC ⟨u, d, a⟩) 66) := Lib.hid (by rw [hw68, hz68]; exact Blk.made w67x (grC ⟨u, d, a⟩) _)
            have HO68 := Lib.hid (own_fr HO67.out (Fr.of_below hn68 []) (fun _ _ => by simp))
            have HNE68_13 : Hid (∀ q, (v67 : Value).ownBlock = some q → q ≠ z68) := Lib.hid (fun q hq => by have := own_hi HO67.out hq; omega)
            rw [← hw68, ← hz68]
            refine hK.out _ _ (HSS.out _ hb68) (fun hS68 => ?_)
            clear hK K hb68 hw68 hz68 hn68 hS67
            (try simp only [Act.put]); (try simp only [List.setIfInBounds_toArray]); (try simp only [List.set_cons_succ]); (try simp only [List.set_cons_zero])
            refine wpAnyH_ready (rs := [14]) (by kernel_rfl) (by simp) ?_
            refine (AllReadyH.cons rfl (fun K hK => ?_) AllReadyH.nil)
            refine step_app rfl (.tmp 106) (.tmp 111) 27 27 rfl w2.heap.size 66 ix (.agg #[.string ⟨#[]⟩, .int .i64 0, .int .i64 0, .int .i64 0, .int .i64 0, .int .i64 0]) 6 56 Tryz.underlying27 hi hz0 hz1 hz2 rfl v67 j (rwC grC (S.take j)) (by rfl) HO68.out (.slice (some ⟨z68, 0, none⟩) 1 1) 1 (grC ⟨u, d, a⟩) (by rfl) (src_block Tryz.underlying27 _ z68 ((grC ⟨u, d, a⟩)).toArray HY68_13.out rfl (grC_one ⟨u, d, a⟩)) (by have := HL.out; have := HK.out; unfold maxLen; omega) (by have := HL.out; have := HK.out; omega) HB68.out.size ?_
            intro v69 w69x ho69 hg69 hn69 hk69
            have HO69 : Hid (w69x.ownsRow w2.heap.size 66 6 v69 (j + 1) (rwC grC (S.take j) ++ grC ⟨u, d, a⟩)) := Lib.hid (by exact ho69)
            have hb69 : Below w2.heap.size w2 w69x := HB68.out.trans ((Fr.of_grown hg69).below (by intro y hy; exact own_lo HO68.out (Option.mem_toList.1 hy)) HB68.out.size)
            have HB69 := Lib.hid hb69
            refine hK.out _ _ (HSS.out _ hb69) (fun hS69 => ?_)
            clear hK K hb69 ho69 hg69 hn69 hk69 hS68
            (try simp only [Act.put]); (try simp only [List.setIfInBounds_toArray]); (try simp only [List.set_cons_succ]); (try simp only [List.set_cons_zero])
            refine wpAnyH_ready (rs := [21]) (by kernel_rfl) (by simp) ?_
            refine (AllReadyH.cons rfl (fun K hK => ?_) AllReadyH.nil)
            refine step_app rfl (.tmp 112) (.tmp 118) 27 27 rfl w2.heap.size 66 ix (.agg #[.string ⟨#[]⟩, .int .i64 0, .int .i64 0, .int .i64 0, .int .i64 0, .int .i64 0]) 6 56 Tryz.underlying27 hi hz0 hz1 hz2 rfl v69 (j + 1) (rwC grC (S.take j) ++ grC ⟨u, d, a⟩) (by rfl) HO69.out (.slice (if cg = j then p else Option.map (fun x => x.add (j * 6)) p) (S.length - j) (cg - j)) (S.length - j) (rwC grC (S.drop j)) (by rfl) (gr_rest H2.out HB69.out HK.out) (by have := HL.out; have := HK.out; unfold maxLen; omega) (by have := HL.out; have := HK.out; omega) HB69.out.size ?_
            intro v70 w70x ho70 hg70 hn70 hk70
            have HO70 : Hid (w70x.ownsRow w2.heap.size 66 6 v70 (j + 1 + (S.length - j)) (rwC grC (S.take j) ++ grC ⟨u, d, a⟩ ++ rwC grC (S.drop j))) := Lib.hid (by exact ho70)
            have hb70 : Below w2.heap.size w2 w70x := HB69.out.trans ((Fr.of_grown hg70).below (by intro y hy; exact own_lo HO69.out (Option.mem_toList.1 hy)) HB69.out.size)
            have HB70 := Lib.hid hb70
            refine hK.out _ _ (HSS.out _ hb70) (fun hS70 => ?_)
            clear hK K hb70 ho70 hg70 hn70 hk70 hS69
            (try simp only [Act.put]); (try simp only [List.setIfInBounds_toArray]); (try simp only [List.set_cons_succ]); (try simp only [List.set_cons_zero])
            refine wpAnyH_take (i := 22) (v := ?v120) rfl (by kernel_rfl) (by kernel_rfl) (by kernel_rfl) (fun _ _ _ h => h) (Or.inl ⟨by rfl, ?hy120⟩) (by assumption) ?rest120
            case hy120 => (intro _ hSw; (try dsimp only at hSw); go_simp; (try with_reducible rfl))
            (try simp only [Act.put]); (try simp only [List.setIfInBounds_toArray]); (try simp only [List.set_cons_succ]); (try simp only [List.set_cons_zero])
            refine wpAnyH_take (i := 23) (v := ?v121) rfl (by kernel_rfl) (by kernel_rfl) (by kernel_rfl) (fun _ _ _ h => h) (Or.inl ⟨by rfl, ?hy121⟩) (by assumption) ?rest121
            case hy121 => (intro _ hSw; (try dsimp only at hSw); go_simp; (try with_reducible rfl))
            (try simp only [Act.put]); (try simp only [List.setIfInBounds_toArray]); (try simp only [List.set_cons_succ]); (try simp only [List.set_cons_zero])
            refine wpAnyH_done (by kernel_rfl) ?_ _
            refine LastQ.start rfl ?_
            clear hS70 hHeld
            have d1 := (HSS.out _ HB70.out).1
            have f1 := (H2.out.kept HB70.out).blk.free 0
            obtain ⟨p8, c8, hv8, -, -⟩ := own_slice HO70.out
            have HO8 := HO70
            subst hv8
            generalize (if cg = j then p else Option.map (fun x => x.add (j * 6)) p) = pp
            go_wp2
            refine NoPanic.normal ?_
            (try go_wp2)
            have hle : (S.take j ++ ⟨u, d, a⟩ :: S.drop j).length = j + 1 + (S.length - j) := by rw [List.length_append, List.length_cons, List.length_take, List.length_drop]; have := HK.out; omega
            have ho8 := HO8.out
            have hcat : rwC grC (S.take j) ++ grC ⟨u, d, a⟩ ++ rwC grC (S.drop j) = rwC grC (S.take j ++ ⟨u, d, a⟩ :: S.drop j) := by rw [rwC_append, rwC_cons, List.append_assoc]
            rw [hcat] at ho8
            have ho9 : World.ownsRow w70x w2.heap.size 66 6 (.slice p8 (j + 1 + (S.length - j)) c8) (S.take j ++ ⟨u, d, a⟩ :: S.drop j).length (rwC grC (S.take j ++ ⟨u, d, a⟩ :: S.drop j)) := by rw [hle]; exact ho8
            have hset := H2.out.setG HB70.out (Nat.le_trans HBS.out HBP.out.size) ho9
            rw [← HCUT.out] at hset
            go_ret
            exact ⟨rfl, RqG.mk hset ((Frp.of_below (below_and HBP.out HB70.out) _).set (p := ⟨g, 0, none⟩) (.inl rfl) _)⟩
          · (try simp only [List.getElem_toArray]); (try simp only [List.getElem_cons_succ]); (try simp only [List.getElem_cons_zero])
            go_simp
            obtain ⟨w71x, hw71⟩ : ∃ xq, xq = w66x.alloc (.cells #[.string u, .int .i64 d, .int .i64 a.c, .int .i64 a.r, .int .i64 a.d, .int .i64 a.p] 66) := ⟨_, rfl⟩
            obtain ⟨z71, hz71⟩ : ∃ xq, xq = w66x.heap.size := ⟨_, rfl⟩
            have hn71 : Below w66x.heap.size w66x w71x := by rw [hw71]; exact below_alloc _ _
            have hb71 : Below w2.heap.size w2 w71x := below_and HB66.out hn71
            have HB71 := Lib.hid hb71
            have HY71_13 : Hid (Blk w71x z71 (grC ⟨u, d, a⟩) 66) := Lib.hid (by rw [hw71, hz71]; exact Blk.made w66x (grC ⟨u, d, a⟩) _)
            have HO71 := Lib.hid (own_fr HO66.out (Fr.of_below hn71 []) (fun _ _ => by simp))
            have HNE71_13 : Hid (∀ q, ((.slice (some ⟨z66, 0, none⟩) 0 0) : Value).ownBlock = some q → q ≠ z71) := Lib.hid (fun q hq => by have := own_hi HO66.out hq; omega)
            rw [← hw71, ← hz71]
            refine hK.out _ _ (HSS.out _ hb71) (fun hS71 => ?_)
            clear hK K hb71 hw71 hz71 hn71 hS66
            (try simp only [Act.put]); (try simp only [List.setIfInBounds_toArray]); (try simp only [List.set_cons_succ]); (try simp only [List.set_cons_zero])
            refine wpAnyH_ready (rs := [8]) (by kernel_rfl) (by simp) ?_
            refine (AllReadyH.cons rfl (fun K hK => ?_) AllReadyH.nil)
            refine step_app rfl (.tmp 99) (.tmp 105) 27 27 rfl w2.heap.size 66 ix (.agg #[.string ⟨#[]⟩, .int .i64 0, .int .i64 0, .int .i64 0, .int .i64 0, .int .i64 0]) 6 56 Tryz.underlying27 hi hz0 hz1 hz2 rfl (.slice (some ⟨z66, 0, none⟩) 0 0) 0 [] (by rfl) HO71.out (.slice p j cg) j (rwC grC (S.take j)) (by rfl) (gr_first H2.out HB71.out HK.out) (by have := HL.out; have := HK.out; unfold maxLen; omega) (by have := HL.out; have := HK.out; omega) HB71.out.size ?_
            intro v72 w72x ho72 hg72 hn72 hk72
            have HO72 : Hid (w72x.ownsRow w2.heap.size 66 6 v72 j (rwC grC (S.take j))) := Lib.hid (by simpa using ho72)
            have hb72 : Below w2.heap.size w2 w72x := HB71.out.trans ((Fr.of_grown hg72).below (by intro y hy; exact own_lo HO71.out (Option.mem_toList.1 hy)) HB71.out.size)
            have HB72 := Lib.hid hb72
            have HY72_13 := Lib.hid (HY71_13.out.fr (Fr.of_grown hg72) (fun hm => HNE71_13.out _ (Option.mem_toList.1 hm) rfl))
            have HNE72_13 : Hid (∀ q, v72.ownBlock = some q → q ≠ z71) := Lib.hid (fun q hq => by rcases hk72 q hq with h1 | h1; exact HNE71_13.out q h1; have := HY71_13.out.lt; omega)
            refine hK.out _ _ (HSS.out _ hb72) (fun hS72 => ?_)
            clear hK K hb72 ho72 hg72 hn72 hk72 hS71
            (try simp only [Act.put]); (try simp only [List.setIfInBounds_toArray]); (try simp only [List.set_cons_succ]); (try simp only [List.set_cons_zero])
            refine wpAnyH_ready (rs := [14]) (by kernel_rfl) (by simp) ?_
            refine (AllReadyH.cons rfl (fun K hK => ?_) AllReadyH.nil)
            refine step_app rfl (.tmp 106) (.tmp 111) 27 27 rfl w2.heap.size 66 ix (.agg #[.string ⟨#[]⟩, .int .i64 0, .int .i64 0, .int .i64 0, .int .i64 0, .int .i64 0]) 6 56 Tryz.underlying27 hi hz0 hz1 hz2 rfl v72 j (rwC grC (S.take j)) (by rfl) HO72.out (.slice (some ⟨z71, 0, none⟩) 1 1) 1 (grC ⟨u, d, a⟩) (by rfl) (src_block Tryz.underlying27 _ z71 ((grC ⟨u, d, a⟩)).toArray HY72_13.out rfl (grC_one ⟨u, d, a⟩)) (by have := HL.out; have := HK.out; unfold maxLen; omega) (by have := HL.out; have := HK.out; omega) HB72.out.size ?_
            intro v73 w73x ho73 hg73 hn73 hk73
            have HO73 : Hid (w73x.ownsRow w2.heap.size 66 6 v73 (j + 1) (rwC grC (S.take j) ++ grC ⟨u, d, a⟩)) := Lib.hid (by exact ho73)
            have hb73 : Below w2.heap.size w2 w73x := HB72.out.trans ((Fr.of_grown hg73).below (by intro y hy; exact own_lo HO72.out (Option.mem_toList.1 hy)) HB72.out.size)
            have HB73 := Lib.hid hb73
            refine hK.out _ _ (HSS.out _ hb73) (fun hS73 => ?_)
            clear hK K hb73 ho73 hg73 hn73 hk73 hS72
            (try simp only [Act.put]); (try simp only [List.setIfInBounds_toArray]); (try simp only [List.set_cons_succ]); (try simp only [List.set_cons_zero])
            refine wpAnyH_ready (rs := [21]) (by kernel_rfl) (by simp) ?_
            refine (AllReadyH.cons rfl (fun K hK => ?_) AllReadyH.nil)
            refine step_app rfl (.tmp 112) (.tmp 118) 27 27 rfl w2.heap.size 66 ix (.agg #[.string ⟨#[]⟩, .int .i64 0, .int .i64 0, .int .i64 0, .int .i64 0, .int .i64 0]) 6 56 Tryz.underlying27 hi hz0 hz1 hz2 rfl v73 (j + 1) (rwC grC (S.take j) ++ grC ⟨u, d, a⟩) (by rfl) HO73.out (.slice (if cg = j then p else Option.map (fun x => x.add (j * 6)) p) (S.length - j) (cg - j)) (S.length - j) (rwC grC (S.drop j)) (by rfl) (gr_rest H2.out HB73.out HK.out) (by have := HL.out; have := HK.out; unfold maxLen; omega) (by have := HL.out; have := HK.out; omega) HB73.out.size ?_
            intro v74 w74x ho74 hg74 hn74 hk74
            have HO74 : Hid (w74x.ownsRow w2.heap.size 66 6 v74 (j + 1 + (S.length - j)) (rwC grC (S.take j) ++ grC ⟨u, d, a⟩ ++ rwC grC (S.drop j))) := Lib.hid (by exact ho74)
            have hb74 : Below w2.heap.size w2 w74x := HB73.out.trans ((Fr.of_grown hg74).below (by intro y hy; exact own_lo HO73.out (Option.mem_toList.1 hy)) HB73.out.size)
            have HB74 := Lib.hid hb74
            refine hK.out _ _ (HSS.out _ hb74) (fun hS74 => ?_)
            clear hK K hb74 ho74 hg74 hn74 hk74 hS73
            (try simp only [Act.put]); (try simp only [List.setIfInBounds_toArray]); (try simp only [List.set_cons_succ]); (try simp only [List.set_cons_zero])
            refine wpAnyH_take (i := 22) (v := ?v122) rfl (by kernel_rfl) (by kernel_rfl) (by kernel_rfl) (fun _ _ _ h => h) (Or.inl ⟨by rfl, ?hy122⟩) (by assumption) ?rest122
            case hy122 => (intro _ hSw; (try dsimp only at hSw); go_simp; (try with_reducible rfl))
            (try simp only [Act.put]); (try simp only [List.setIfInBounds_toArray]); (try simp only [List.set_cons_succ]); (try simp only [List.set_cons_zero])
            refine wpAnyH_take (i := 23) (v := ?v123) rfl (by kernel_rfl) (by kernel_rfl) (by kernel_rfl) (fun _ _ _ h => h) (Or.inl ⟨by rfl, ?hy123⟩) (by assumption) ?rest123
            case hy123 => (intro _ hSw; (try dsimp only at hSw); go_simp; (try with_reducible rfl))
            (try simp only [Act.put]); (try simp only [List.setIfInBounds_toArray]); (try simp only [List.set_cons_succ]); (try simp only [List.set_cons_zero])
            refine wpAnyH_done (by kernel_rfl) ?_ _
            refine LastQ.start rfl ?_
            clear hS74 hHeld
            have d1 := (HSS.out _ HB74.out).1
            have f1 := (H2.out.kept HB74.out).blk.free 0
            obtain ⟨p8, c8, hv8, -, -⟩ := own_slice HO74.out
            have HO8 := HO74
            subst hv8
            generalize (if cg = j then p else Option.map (fun x => x.add (j * 6)) p) = pp
            go_wp2
            refine NoPanic.normal ?_
            (try go_wp2)
            have hle : (S.take j ++ ⟨u, d, a⟩ :: S.drop j).length = j + 1 + (S.length - j) := by rw [List.length_append, List.length_cons, List.length_take, List.length_drop]; have := HK.out; omega
            have ho8 := HO8.out
            have hcat : rwC grC (S.take j) ++ grC ⟨u, d, a⟩ ++ rwC grC (S.drop j) = rwC grC (S.take j ++ ⟨u, d, a⟩ :: S.drop j) := by rw [rwC_append, rwC_cons, List.append_assoc]
            rw [hcat] at ho8
            have ho9 : World.ownsRow w74x w2.heap.size 66 6 (.slice p8 (j + 1 + (S.length - j)) c8) (S.take j ++ ⟨u, d, a⟩ :: S.drop j).length (rwC grC (S.take j ++ ⟨u, d, a⟩ :: S.drop j)) := by rw [hle]; exact ho8
            have hset := H2.out.setG HB74.out (Nat.le_trans HBS.out HBP.out.size) ho9
            rw [← HCUT.out] at hset
            go_ret
            exact ⟨rfl, RqG.mk hset ((Frp.of_below (below_and HBP.out HB74.out) _).set (p := ⟨g, 0, none⟩) (.inl rfl) _)⟩
        · (try simp only [List.getElem_toArray]); (try simp only [List.getElem_cons_succ]); (try simp only [List.getElem_cons_zero])
          go_simp
          obtain ⟨w75x, hw75⟩ : ∃ xq, xq = wd65.alloc (.cells #[.string u, .int .i64 d, .int .i64 a.c, .int .i64 a.r, .int .i64 a.d, .int .i64 a.p] 66) := ⟨_, rfl⟩
          obtain ⟨z75, hz75⟩ : ∃ xq, xq = wd65.heap.size := ⟨_, rfl⟩
          have hn75 : Below wd65.heap.size wd65 w75x := by rw [hw75]; exact below_alloc _ _
          have hb75 : Below w2.heap.size w2 w75x := below_and HB65.out hn75
          have HB75 := Lib.hid hb75
          have HY75_13 : Hid (Blk w75x z75 (grC ⟨u, d, a⟩) 66) := Lib.hid (by rw [hw75, hz75]; exact Blk.made wd65 (grC ⟨u, d, a⟩) _)
          rw [← hw75, ← hz75]
          refine hK.out _ _ (HSS.out _ hb75) (fun hS75 => ?_)
          clear hK K hb75 hw75 hz75 hn75 hS65
          (try simp only [Act.put]); (try simp only [List.setIfInBounds_toArray]); (try simp only [List.set_cons_succ]); (try simp only [List.set_cons_zero])
          refine wpAnyH_ready (rs := [1]) (by kernel_rfl) (by simp) ?_
          refine (AllReadyH.cons rfl (fun K hK => ?_) AllReadyH.nil)
          (try simp only [List.getElem_toArray]); (try simp only [List.getElem_cons_succ]); (try simp only [List.getElem_cons_zero])
          go_simp
          obtain ⟨w76x, hw76⟩ : ∃ xq, xq = w75x.alloc (.cells #[] 66) := ⟨_, rfl⟩
          obtain ⟨z76, hz76⟩ : ∃ xq, xq = w75x.heap.size := ⟨_, rfl⟩
          have hn76 : Below w75x.heap.size w75x w76x := by rw [hw76]; exact below_alloc _ _
          have hb76 : Below w2.heap.size w2 w76x := below_and HB75.out hn76
          have HB76 := Lib.hid hb76
          have HY76_13 := Lib.hid (HY75_13.out.kept hn76)
          have HNE76_13 : Hid (∀ q, (Value.slice (some ⟨z76, 0, none⟩) 0 0).ownBlock = some q → q ≠ z75) := Lib.hid (fun q hq => by simp [Value.ownBlock] at hq; have := HY75_13.out.lt; omega)
          have HO76 : Hid (w76x.ownsRow w2.heap.size 66 6 (.slice (some ⟨z76, 0, none⟩) 0 0) 0 []) := Lib.hid (by rw [hw76, hz76]; exact World.ownsRow_made w75x #[] 0 HB75.out.size (by decide) rfl)
          rw [← hw76, ← hz76]
          refine hK.out _ _ (HSS.out _ hb76) (fun hS76 => ?_)
          clear hK K hb76 hw76 hz76 hn76 hS75
          (try simp only [Act.put]); (try simp only [List.setIfInBounds_toArray]); (try simp only [List.set_cons_succ]); (try simp only [List.set_cons_zero])
          refine wpAnyH_ready (rs := [8]) (by kernel_rfl) (by simp) ?_
          refine (AllReadyH.cons rfl (fun K hK => ?_) AllReadyH.nil)
          refine step_app rfl (.tmp 99) (.tmp 105) 27 27 rfl w2.heap.size 66 ix (.agg #[.string ⟨#[]⟩, .int .i64 0, .int .i64 0, .int .i64 0, .int .i64 0, .int .i64 0]) 6 56 Tryz.underlying27 hi hz0 hz1 hz2 rfl (.slice (some ⟨z76, 0, none⟩) 0 0) 0 [] (by rfl) HO76.out (.slice p j cg) j (rwC grC (S.take j)) (by rfl) (gr_first H2.out HB76.out HK.out) (by have := HL.out; have := HK.out; unfold maxLen; omega) (by have := HL.out; have := HK.out; omega) HB76.out.size ?_
          intro v77 w77x ho77 hg77 hn77 hk77
          have HO77 : Hid (w77x.ownsRow w2.heap.size 66 6 v77 j (rwC grC (S.take j))) := Lib.hid (by simpa using ho77)
          have hb77 : Below w2.heap.size w2 w77x := HB76.out.trans ((Fr.of_grown hg77).below (by intro y hy; exact own_lo HO76.out (Option.mem_toList.1 hy)) HB76.out.size)
          have HB77 := Lib.hid hb77
          have HY77_13 := Lib.hid (HY76_13.out.fr (Fr.of_grown hg77) (fun hm => HNE76_13.out _ (Option.mem_toList.1 hm) rfl))
          have HNE77_13 : Hid (∀ q, v77.ownBlock = some q → q ≠ z75) := Lib.hid (fun q hq => by rcases hk77 q hq with h1 | h1; exact HNE76_13.out q h1; have := HY76_13.out.lt; omega)
          refine hK.out _ _ (HSS.out _ hb77) (fun hS77 => ?_)
          clear hK K hb77 ho77 hg77 hn77 hk77 hS76
          (try simp only [Act.put]); (try simp only [List.setIfInBounds_toArray]); (try simp only [List.set_cons_succ]); (try simp only [List.set_cons_zero])
          refine wpAnyH_ready (rs := [14]) (by kernel_rfl) (by simp) ?_
          refine (AllReadyH.cons rfl (fun K hK => ?_) AllReadyH.nil)
          refine step_app rfl (.tmp 106) (.tmp 111) 27 27 rfl w2.heap.size 66 ix (.agg #[.string ⟨#[]⟩, .int .i64 0, .int .i64 0, .int .i64 0, .int .i64 0, .int .i64 0]) 6 56 Tryz.underlying27 hi hz0 hz1 hz2 rfl v77 j (rwC grC (S.take j)) (by rfl) HO77.out (.slice (some ⟨z75, 0, none⟩) 1 1) 1 (grC ⟨u, d, a⟩) (by rfl) (src_block Tryz.underlying27 _ z75 ((grC ⟨u, d, a⟩)).toArray HY77_13.out rfl (grC_one ⟨u, d, a⟩)) (by have := HL.out; have := HK.out; unfold maxLen; omega) (by have := HL.out; have := HK.out; omega) HB77.out.size ?_
          intro v78 w78x ho78 hg78 hn78 hk78
          have HO78 : Hid (w78x.ownsRow w2.heap.size 66 6 v78 (j + 1) (rwC grC (S.take j) ++ grC ⟨u, d, a⟩)) := Lib.hid (by exact ho78)
          have hb78 : Below w2.heap.size w2 w78x := HB77.out.trans ((Fr.of_grown hg78).below (by intro y hy; exact own_lo HO77.out (Option.mem_toList.1 hy)) HB77.out.size)
          have HB78 := Lib.hid hb78
          refine hK.out _ _ (HSS.out _ hb78) (fun hS78 => ?_)
          clear hK K hb78 ho78 hg78 hn78 hk78 hS77
          (try simp only [Act.put]); (try simp only [List.setIfInBounds_toArray]); (try simp only [List.set_cons_succ]); (try simp only [List.set_cons_zero])
          refine wpAnyH_ready (rs := [21]) (by kernel_rfl) (by simp) ?_
          refine (AllReadyH.cons rfl (fun K hK => ?_) AllReadyH.nil)
          refine step_app rfl (.tmp 112) (.tmp 118) 27 27 rfl w2.heap.size 66 ix (.agg #[.string ⟨#[]⟩, .int .i64 0, .int .i64 0, .int .i64 0, .int .i64 0, .int .i64 0]) 6 56 Tryz.underlying27 hi hz0 hz1 hz2 rfl v78 (j + 1) (rwC grC (S.take j) ++ grC ⟨u, d, a⟩) (by rfl) HO78.out (.slice (if cg = j then p else Option.map (fun x => x.add (j * 6)) p) (S.length - j) (cg - j)) (S.length - j) (rwC grC (S.drop j)) (by rfl) (gr_rest H2.out HB78.out HK.out) (by have := HL.out; have := HK.out; unfold maxLen; omega) (by have := HL.out; have := HK.out; omega) HB78.out.size ?_
          intro v79 w79x ho79 hg79 hn79 hk79
          have HO79 : Hid (w79x.ownsRow w2.heap.size 66 6 v79 (j + 1 + (S.length - j)) (rwC grC (S.take j) ++ grC ⟨u, d, a⟩ ++ rwC grC (S.drop j))) := Lib.hid (by exact ho79)
          have hb79 : Below w2.heap.size w2 w79x := HB78.out.trans ((Fr.of_grown hg79).below (by intro y hy; exact own_lo HO78.out (Option.mem_toList.1 hy)) HB78.out.size)
          have HB79 := Lib.hid hb79
          refine hK.out _ _ (HSS.out _ hb79) (fun hS79 => ?_)
          clear hK K hb79 ho79 hg79 hn79 hk79 hS78
          (try simp only [Act.put]); (try simp only [List.setIfInBounds_toArray]); (try simp only [List.set_cons_succ]); (try simp only [List.set_cons_zero])
          refine wpAnyH_take (i := 22) (v := ?v124) rfl (by kernel_rfl) (by kernel_rfl) (by kernel_rfl) (fun _ _ _ h => h) (Or.inl ⟨by rfl, ?hy124⟩) (by assumption) ?rest124
          case hy124 => (intro _ hSw; (try dsimp only at hSw); go_simp; (try with_reducible rfl))
          (try simp only [Act.put]); (try simp only [List.setIfInBounds_toArray]); (try simp only [List.set_cons_succ]); (try simp only [List.set_cons_zero])
          refine wpAnyH_take (i := 23) (v := ?v125) rfl (by kernel_rfl) (by kernel_rfl) (by kernel_rfl) (fun _ _ _ h => h) (Or.inl ⟨by rfl, ?hy125⟩) (by assumption) ?rest125
          case hy125 => (intro _ hSw; (try dsimp only at hSw); go_simp; (try with_reducible rfl))
          (try simp only [Act.put]); (try simp only [List.setIfInBounds_toArray]); (try simp only [List.set_cons_succ]); (try simp only [List.set_cons_zero])
          refine wpAnyH_done (by kernel_rfl) ?_ _
          refine LastQ.start rfl ?_
          clear hS79 hHeld
          have d1 := (HSS.out _ HB79.out).1
          have f1 := (H2.out.kept HB79.out).blk.free 0
          obtain ⟨p8, c8, hv8, -, -⟩ := own_slice HO79.out
          have HO8 := HO79
          subst hv8
          generalize (if cg = j then p else Option.map (fun x => x.add (j * 6)) p) = pp
          go_wp2
          refine NoPanic.normal ?_
          (try go_wp2)
          have hle : (S.take j ++ ⟨u, d, a⟩ :: S.drop j).length = j + 1 + (S.length - j) := by rw [List.length_append, List.length_cons, List.length_take, List.length_drop]; have := HK.out; omega
          have ho8 := HO8.out
          have hcat : rwC grC (S.take j) ++ grC ⟨u, d, a⟩ ++ rwC grC (S.drop j) = rwC grC (S.take j ++ ⟨u, d, a⟩ :: S.drop j) := by rw [rwC_append, rwC_cons, List.append_assoc]
          rw [hcat] at ho8
          have ho9 : World.ownsRow w79x w2.heap.size 66 6 (.slice p8 (j + 1 + (S.length - j)) c8) (S.take j ++ ⟨u, d, a⟩ :: S.drop j).length (rwC grC (S.take j ++ ⟨u, d, a⟩ :: S.drop j)) := by rw [hle]; exact ho8
          have hset := H2.out.setG HB79.out (Nat.le_trans HBS.out HBP.out.size) ho9
          rw [← HCUT.out] at hset
          go_ret
          exact ⟨rfl, RqG.mk hset ((Frp.of_below (below_and HBP.out HB79.out) _).set (p := ⟨g, 0, none⟩) (.inl rfl) _)⟩
end Go.Proofs.YtmgbailpmcggiaaGreat
