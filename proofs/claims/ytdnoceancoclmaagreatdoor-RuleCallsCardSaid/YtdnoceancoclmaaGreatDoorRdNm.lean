/- RdNm. -/
import Derived.Test.YtdnoceancoclmaaGreatDoorM40
import Derived.Test.YtdnoceancoclmaaGreatDoorRdNames
import Derived.Test.YtdnoceancoclmaaGreatDoorRdHoldP
import Derived.Test.YtdnoceancoclmaaGreatDoorM07
import Derived.Test.YtdnoceancoclmaaGreatDoorM16
import Derived.Test.YtdnoceancoclmaaGreatDoorM05
import Derived.Test.YtdnoceancoclmaaGreatDoorM36
import Derived.Deep.RegionHeld3
namespace Go.Proofs.YtdnoceancoclmaaGreatDoor.Ru
open Go.RowKit Go.Proofs.YtdnoceancoclmaaGreatDoor

/-- a text's cell -/
def sV (s : List UInt8) : Value := .string (bs s)
theorem sV_one (l : List (List UInt8)) : ∀ u ∈ l.map sV, u.oneCell' = true := fun u hu => by obtain ⟨y, -, rfl⟩ := List.mem_map.1 hu; rfl
theorem info_str11 : (Tryz.prog.info? 9).map (fun i => (i.zero, i.size, i.bytes)) = some (some (.string ⟨#[]⟩), 1, 16) := by kernel_rfl
theorem row_partN {w : World} {base q n c : Nat} {e : TypeId} {xs : List Value} (h : w.ownsRow base e 1 (.slice (some ⟨q, 0, none⟩) n c) n xs) (h1 : ∀ u ∈ xs, u.oneCell' = true) {o m c' : Nat} (hm : o + m ≤ n) (hmc : m ≤ c') (hcc : c' ≤ maxLen) (p : Option Addr) (hp : p ≠ none) (hp2 : 0 < m → p = some ⟨q, o, none⟩) :
    Row w (.slice p m c') 1 m ((xs.drop o).take m) := by
  have hlen : xs.length = n * 1 := h.1
  refine ⟨p, c', rfl, hmc, hcc, by rw [List.length_take, List.length_drop]; omega, fun u hu => h1 u (List.mem_of_mem_drop (List.mem_of_mem_take hu)), fun e => absurd e hp, ?_⟩
  by_cases hm0 : 0 < m
  · refine .inr ⟨q, o, hp2 hm0, fun j u hj => own_cell h ?_⟩
    rw [List.getElem?_take] at hj
    split at hj
    · rw [List.getElem?_drop] at hj
      exact hj
    · cases hj
  · refine .inl ?_
    rw [show m = 0 from by omega, List.take_zero]
theorem addN_len (o : List (List UInt8)) (s : List UInt8) : (addN o s).length ≤ o.length + 1 := by
  unfold addN
  split
  · rw [List.length_append, List.length_append, List.length_take, List.length_drop, List.length_singleton]; omega
  · omega
theorem namesD_next {L : List Nd} {k : Nat} (hk : k < L.length) : namesD (L.take (k + 1)) = addN (namesD (L.take k)) L[k].nm := by
  unfold namesD
  rw [List.take_succ_eq_append_getElem hk, List.foldl_append]
  rfl
theorem namesD_len {L : List Nd} : ∀ k, k ≤ L.length → (namesD (L.take k)).length ≤ k
  | 0, _ => Nat.zero_le _
  | k + 1, h => by
    rw [namesD_next (by omega)]
    have := addN_len (namesD (L.take k)) L[k].nm
    have := namesD_len (L := L) k (by omega)
    omega
theorem less_lt {a b : List UInt8} (h : a < b) : Op.bytesLess a b = true := by rw [lt_less]; exact decide_eq_true h
theorem less_no {a b : List UInt8} (h : ¬ a < b) : Op.bytesLess a b = false := by rw [lt_less]; exact decide_eq_false h
/-- what Names answers -/
def NamesS (w w' : World) (L : List Nd) (r : Ending) : Prop :=
  (if checkP L = 0 then ∃ o, r = .returned (.tuple #[o, .int .i64 0]) ∧ Row w' o 1 (namesD L).length ((namesD L).map sV) else r = .returned (.tuple #[.slice none 0 0, .int .i64 2])) ∧ Below w.heap.size w w'
set_option maxRecDepth 100000 in
set_option maxHeartbeats 6000000 in
theorem dnames_any (v : Value) (L : List Nd) (w : World) (hv : Row w v 6 L.length (rwC ndC L)) (hc : ∀ n ∈ L, n.nm.length ≤ 140737488351232 ∧ n.vl.length ≤ 140737488351232) : Calls Tryz.prog 16 #[.agg #[v]] w fun r w' => NamesS w w' L r := by
  have HV := Lib.hid hv
  obtain ⟨p, c, rfl, hcp, hm, -⟩ := hv
  obtain ⟨w0, hw0⟩ : ∃ w0, w0 = w.alloc (.cells #[.slice p L.length c] 24) := ⟨_, rfl⟩
  obtain ⟨B, hB⟩ : ∃ B, B = w.heap.size := ⟨_, rfl⟩
  have HB0 : Hid (Below w.heap.size w w0) := Lib.hid (by rw [hw0]; exact below_alloc w _)
  have X0 : Hid (Blk w0 B [.slice p L.length c] 24) := Lib.hid (by rw [hw0, hB]; exact Blk.made w [.slice p L.length c] _)
  have x0 := X0.out.cell (j := 0) rfl
  have hml : maxLen ≤ 9223372036854775807 := by decide
  have hn63 : (L.length : Int) ≤ 9223372036854775807 := by omega
  have HCK : Hid (Calls Tryz.prog 8 #[.agg #[.slice p L.length c]] w0 fun r w' => r = .returned (.int .i64 (checkP L)) ∧ Below w0.heap.size w0 w') := Lib.hid (by have := dcheck_any _ L w0 (HV.out.below HB0.out) hc; rw [docChk_eq] at this; exact this)
  obtain ⟨i0, hi0, hz0, hz1, hz2⟩ := info_parts info_str11
  by_cases hck : checkP L = 0
  rotate_left
  ·
    have HK0 := Lib.hid hck
    have hc2 : checkP L = 2 := (chk_two L).resolve_left hck
    rw [hc2] at HCK
    clear hck hc2 hcp hm hml hc
    go_enter Tryz.func16, Tryz.ntmps16
    go_upto_region 1 with fail
    rw [← hw0, ← hB]
    clear hw0 hB
    go_wp2_with (go_at_call 8; refine HCK.out.mono ?_; rintro r w2 ⟨rfl, hb⟩; have HB2 := Lib.hid (below_and HB0.out hb); have HX2 := Lib.hid (X0.out.kept hb); clear hb x0)
    go_ret2
    refine ⟨?_, HB2.out⟩
    rw [if_neg HK0.out]
    rfl
  have HK0 := Lib.hid hck
  have HLN := Lib.hid (chk_parts hck).1
  rw [hck] at HCK
  clear hck hcp hm hml hc
  go_enter Tryz.func16, Tryz.ntmps16
  go_upto_region 1 with fail
  rw [← hw0, ← hB]
  clear hw0 hB
  go_upto_region 5 with (go_at_call 8; refine HCK.out.mono ?_; rintro r w2 ⟨rfl, hb⟩; have HB2 := Lib.hid (below_and HB0.out hb); have HX2 := Lib.hid (X0.out.kept hb); clear hb x0)
  go_loopw [4, 5] (fun u i wr => ∃ k : Nat, k ≤ L.length ∧ i = .int .i64 (k : Int) ∧ Hid (wr.ownsRow w.heap.size 9 1 u (namesD (L.take k)).length ((namesD (L.take k)).map sV)) ∧ Hid (Below w2.heap.size w2 wr)) (fun _ i _ => L.length - (intOf i).toNat)
  case atStart => exact ⟨0, Nat.zero_le _, rfl, Lib.hid (World.ownsRow_nil _ _ _ _), Lib.hid (Below.refl _ _)⟩
  case round =>
    obtain ⟨i, hik, rfl, HO, HB⟩ := hrel
    have HBr : Hid (Below w.heap.size w wr) := Lib.hid (below_and HB2.out HB.out)
    have x1 := (HX2.out.kept HB.out).cell (j := 0) rfl
    by_cases hlt : i < L.length
    rotate_left
    · obtain rfl : i = L.length := by omega
      rw [List.take_length] at HO
      go_wp2
      go_ret2
      refine ⟨?_, HBr.out⟩
      rw [if_pos HK0.out]
      obtain ⟨p9, c9, rfl, -, -, h9⟩ := row_own HO.out (sV_one _)
      exact ⟨_, rfl, h9⟩
    have HKL := Lib.hid hlt
    have i0' : (0 : Int) ≤ (i : Int) := by omega
    have i1 : (i : Int) < (L.length : Int) := by omega
    obtain ⟨x, hx⟩ : ∃ x, x = L[i]'HKL.out := ⟨_, rfl⟩
    have HLC := Lib.hid (node_at (HV.out.below HBr.out) HKL.out)
    rw [← hx] at HLC
    obtain ⟨b, of, rfl, hcell⟩ := HLC.out
    have q1 := hcell 1 _ rfl
    obtain ⟨s, hs⟩ : ∃ s, s = x.nm := ⟨_, rfl⟩
    rw [← hs] at q1
    obtain ⟨ns, hns⟩ : ∃ ns, ns = namesD (L.take i) := ⟨_, rfl⟩
    have HNX0 : Hid (namesD (L.take (i + 1)) = addN ns s) := Lib.hid (by rw [namesD_next hlt, ← hns, hs, hx])
    have HNL : Hid (ns.length ≤ 64) := Lib.hid (by have := namesD_len i (L := L) hik; rw [← hns] at this; have := HLN.out; omega)
    rw [← hns] at HO
    obtain ⟨p3, c3, rfl, hc3, hcm3⟩ := own_slice HO.out
    have HNR := Lib.hid (row_own HO.out (sV_one ns))
    clear hns hs hx hcell HLC
    have hnl63 : (ns.length : Int) ≤ 9223372036854775807 := by have := HNL.out; omega
    go_upto_region 9 with fail
    clear x1 q1
    go_loopw [7] (fun x wm => wm = wr ∧ ∃ j : Nat, j ≤ nmI ns s ∧ x = .int .i64 (j : Int)) (fun x _ => nmI ns s - (intOf x).toNat)
    case atStart => exact ⟨rfl, 0, Nat.zero_le _, rfl⟩
    case round =>
      obtain ⟨rfl, j, hj, rfl⟩ := hrel
      by_cases hlt2 : j < nmI ns s
      ·
        have HJL : Hid (j < ns.length) := Lib.hid (Nat.lt_of_lt_of_le hlt2 (nmI_le ns s))
        obtain ⟨q0, c4, e4, -, -, -⟩ := own_block HO.out (by have := HJL.out; omega)
        simp only [Value.slice.injEq] at e4
        obtain ⟨rfl, -, rfl⟩ := e4
        obtain ⟨y, hy⟩ : ∃ y, y = ns[j]'HJL.out := ⟨_, rfl⟩
        have t1 : Op.bytesLess (bs y).toList (bs s).toList = true := by
          rw [bs_less]
          obtain ⟨z, h1, h2⟩ := nmI_lt hlt2
          rw [List.getElem?_eq_getElem HJL.out] at h1
          rw [hy, Option.some.inj h1]
          exact less_lt h2
        have y0 : wr.cell? ⟨q0, j, none⟩ = some (.string (bs y)) := own_cell HO.out (by rw [hy]; simp [HJL.out, sV])
        have i2 : (j : Int) < (ns.length : Int) := by have := HJL.out; omega
        have i3 : (0 : Int) ≤ (j : Int) := by omega
        clear hy
        go_wp2
        go_roundw
        case rel => exact ⟨(by first | rfl | trivial), j + 1, hlt2, by go_num⟩
        case measure => simp [intOf]; omega
      ·
        have HKJ : Hid (j = nmI ns s) := Lib.hid (by omega)
        have HJ : Hid (j ≤ ns.length) := Lib.hid (by have := nmI_le ns s; omega)
        clear hj hlt2
        have hjn : j ≤ ns.length := HJ.out
        have hjc : j ≤ c3 := by omega
        have hem := bs_nil0 s
        obtain ⟨em, hem2⟩ : ∃ em, em = decide (s = []) := ⟨_, rfl⟩
        rw [← hem2] at hem
        have HEM := Lib.hid hem2
        clear hem2
        have hbs0 : ((bs s).toList == ([] : List UInt8)) = em := hem
        rcases Nat.lt_or_ge j ns.length with hjl | hjl
        ·
          have HJL := Lib.hid hjl
          obtain ⟨q0, c4, e4, -, -, -⟩ := own_block HO.out (by have := HJL.out; omega)
          simp only [Value.slice.injEq] at e4
          obtain ⟨rfl, -, rfl⟩ := e4
          obtain ⟨y, hy⟩ : ∃ y, y = ns[j]'HJL.out := ⟨_, rfl⟩
          have t1 : Op.bytesLess (bs y).toList (bs s).toList = false := by
            rw [bs_less]
            have h1 : ns[nmI ns s]? = some y := by rw [← HKJ.out, List.getElem?_eq_getElem HJL.out, hy]
            exact less_no (nmI_at h1)
          have hbe := bs_beq y s
          obtain ⟨q2, hq2⟩ : ∃ q2, q2 = (y == s) := ⟨_, rfl⟩
          rw [← hq2] at hbe
          have HNX : Hid (namesD (L.take (i + 1)) = if em = false ∧ q2 = false then ns.take j ++ [s] ++ ns.drop j else ns) := Lib.hid (by
            rw [HNX0.out]
            unfold addN
            rw [← HKJ.out, List.getElem?_eq_getElem HJL.out, ← hy]
            have e1 : (s ≠ []) ↔ em = false := by rw [HEM.out]; simp
            have e2 : (some y ≠ some s) ↔ q2 = false := by rw [hq2]; simp
            simp only [e1, e2])
          have y0 : wr.cell? ⟨q0, j, none⟩ = some (.string (bs y)) := own_cell HO.out (by rw [hy]; simp [HJL.out, sV])
          have i2 : (j : Int) < (ns.length : Int) := by have := HJL.out; omega
          have i3 : (0 : Int) ≤ (j : Int) := by omega
          have i4 : ((j : Int) == (ns.length : Int)) = false := by simp; omega
          clear hy hq2
          cases em
          rotate_left
          ·
            have HNE : Hid (namesD (L.take (i + 1)) = ns) := Lib.hid (by rw [HNX.out]; simp)
            go_wp2
            go_roundw
            case rel => exact ⟨i + 1, hlt, by go_num, by rw [HNE.out]; exact HO, HB⟩
            case measure => simp [intOf]; omega
          cases q2
          rotate_left
          ·
            have HNE : Hid (namesD (L.take (i + 1)) = ns) := Lib.hid (by rw [HNX.out]; simp)
            go_wp2
            go_roundw
            case rel => exact ⟨i + 1, hlt, by go_num, by rw [HNE.out]; exact HO, HB⟩
            case measure => simp [intOf]; omega
          clear hem
          go_upto_region 12 with fail
          have HSS : Hid (∀ w', Below wr.heap.size wr w' → Below wr.heap.size wr w') := Lib.hid (fun _ h => h)
          have HNX' := HNX
          clear HNX
          have HNX : Hid (namesD (L.take (i + 1)) = ns.take j ++ [s] ++ ns.drop j) := Lib.hid (by rw [HNX'.out]; simp)
          clear HNX' t1 hbe y0 hbs0 i4
          refine wp_region_noPanic ?_
          refine wp_region_held_drew (S := fun w' => Below wr.heap.size wr w') (by kernel_rfl) (HSS.out _ (below_drewN 1)) (fun hHeld => ?_)
          have HB1 : Hid (Below wr.heap.size wr wr.drew) := Lib.hid (below_drewN 1)
          have hS1 : True := trivial
          obtain ⟨wd1, hwd⟩ : ∃ xq, xq = wr.drew := ⟨_, rfl⟩
          rw [← hwd] at hHeld HB1 ⊢
          clear hwd
          refine wpAnyH_take (i := 1) (v := ?v1) rfl (by kernel_rfl) (by kernel_rfl) (by kernel_rfl) (fun _ _ _ h => h) (Or.inl ⟨by rfl, ?hy1⟩) (by assumption) ?rest1
          case hy1 => (intro _ hSw; (try dsimp only at hSw); go_simp; (try with_reducible rfl))
          (try simp only [Act.put]); (try simp only [List.setIfInBounds_toArray]); (try simp only [List.set_cons_succ]); (try simp only [List.set_cons_zero])
          refine wpAnyH_take (i := 2) (v := ?v2) rfl (by kernel_rfl) (by kernel_rfl) (by kernel_rfl) (fun _ _ _ h => h) (Or.inl ⟨by rfl, ?hy2⟩) (by assumption) ?rest2
          case hy2 => (intro _ hSw; (try dsimp only at hSw); go_simp; (try with_reducible rfl))
          (try simp only [Act.put]); (try simp only [List.setIfInBounds_toArray]); (try simp only [List.set_cons_succ]); (try simp only [List.set_cons_zero])
          refine wpAnyH_take (i := 3) (v := ?v3) rfl (by kernel_rfl) (by kernel_rfl) (by kernel_rfl) (fun _ _ _ h => h) (Or.inl ⟨by rfl, ?hy3⟩) (by assumption) ?rest3
          case hy3 => (intro _ hSw; (try dsimp only at hSw); go_simp; (try with_reducible rfl))
          (try simp only [Act.put]); (try simp only [List.setIfInBounds_toArray]); (try simp only [List.set_cons_succ]); (try simp only [List.set_cons_zero])
          refine wpAnyH_take (i := 5) (v := ?v4) rfl (by kernel_rfl) (by kernel_rfl) (by kernel_rfl) (fun _ _ _ h => h) (Or.inl ⟨by rfl, ?hy4⟩) (by assumption) ?rest4
          case hy4 => (intro _ hSw; (try dsimp only at hSw); go_simp; (try with_reducible rfl))
          (try simp only [Act.put]); (try simp only [List.setIfInBounds_toArray]); (try simp only [List.set_cons_succ]); (try simp only [List.set_cons_zero])
          refine wpAnyH_take (i := 8) (v := ?v5) rfl (by kernel_rfl) (by kernel_rfl) (by kernel_rfl) (fun _ _ _ h => h) (Or.inl ⟨by rfl, ?hy5⟩) (by assumption) ?rest5
          case hy5 => (intro _ hSw; (try dsimp only at hSw); go_simp; (try with_reducible rfl))
          (try simp only [Act.put]); (try simp only [List.setIfInBounds_toArray]); (try simp only [List.set_cons_succ]); (try simp only [List.set_cons_zero])
          refine wpAnyH_take (i := 9) (v := ?v6) rfl (by kernel_rfl) (by kernel_rfl) (by kernel_rfl) (fun _ _ _ h => h) (Or.inl ⟨by rfl, ?hy6⟩) (by assumption) ?rest6
          case hy6 => (intro _ hSw; (try dsimp only at hSw); go_simp; (try with_reducible rfl))
          (try simp only [Act.put]); (try simp only [List.setIfInBounds_toArray]); (try simp only [List.set_cons_succ]); (try simp only [List.set_cons_zero])
          refine wpAnyH_take (i := 10) (v := ?v7) rfl (by kernel_rfl) (by kernel_rfl) (by kernel_rfl) (fun _ _ _ h => h) (Or.inl ⟨by rfl, ?hy7⟩) (by assumption) ?rest7
          case hy7 => (intro _ hSw; (try dsimp only at hSw); go_simp; (try with_reducible rfl))
          (try simp only [Act.put]); (try simp only [List.setIfInBounds_toArray]); (try simp only [List.set_cons_succ]); (try simp only [List.set_cons_zero])
          (try simp only [List.getElem_toArray]); (try simp only [List.getElem_cons_succ]); (try simp only [List.getElem_cons_zero]); (try simp only [List.setIfInBounds_toArray]); (try simp only [List.set_cons_succ, List.set_cons_zero])
          refine wpAnyH_ready (rs := [0, 6]) (by kernel_rfl) (by simp) ?_
          refine (AllReadyH.cons rfl (fun K hK => ?_) (AllReadyH.cons rfl (fun K hK => ?_) AllReadyH.nil))
          · (try simp only [List.getElem_toArray]); (try simp only [List.getElem_cons_succ]); (try simp only [List.getElem_cons_zero])
            go_simp
            obtain ⟨w2x, hw2⟩ : ∃ xq, xq = wd1.alloc (.cells #[] 9) := ⟨_, rfl⟩
            obtain ⟨z2, hz2⟩ : ∃ xq, xq = wd1.heap.size := ⟨_, rfl⟩
            have hn2 : Below wd1.heap.size wd1 w2x := by rw [hw2]; exact below_alloc _ _
            have hb2 : Below wr.heap.size wr w2x := below_and HB1.out hn2
            have HB2 := Lib.hid hb2
            have HO2 : Hid (w2x.ownsRow wr.heap.size 9 1 (.slice (some ⟨z2, 0, none⟩) 0 0) 0 []) := Lib.hid (by rw [hw2, hz2]; exact World.ownsRow_made wd1 #[] 0 HB1.out.size (by decide) rfl)
            rw [← hw2, ← hz2]
            refine hK.out _ _ (HSS.out _ hb2) (fun hS2 => ?_)
            clear hK K hb2 hw2 hz2 hn2 hS1
            (try simp only [Act.put]); (try simp only [List.setIfInBounds_toArray]); (try simp only [List.set_cons_succ]); (try simp only [List.set_cons_zero])
            refine wpAnyH_ready (rs := [4, 6]) (by kernel_rfl) (by simp) ?_
            refine (AllReadyH.cons rfl (fun K hK => ?_) (AllReadyH.cons rfl (fun K hK => ?_) AllReadyH.nil))
            · refine step_app rfl (.tmp 54) (.tmp 57) 36 36 rfl wr.heap.size 9 i0 (.string ⟨#[]⟩) 1 16 Tryz.underlying36 hi0 hz0 hz1 hz2 rfl (.slice (some ⟨z2, 0, none⟩) 0 0) 0 [] (by rfl) HO2.out (.slice (some ⟨q0, 0, none⟩) j c3) j ((ns.take j).map sV) (by rfl) (Row.src Tryz.underlying36 (by have := row_partN (own_fr HO.out (Fr.of_below HB2.out []) (fun _ _ => by simp)) (sV_one ns) (o := 0) (m := j) (c' := c3) (by have := HJ.out; omega) (by have := HJ.out; omega) hcm3 (some ⟨q0, 0, none⟩) (by simp) (fun _ => by simp); simpa [List.map_take] using this)) (by have := HNL.out; have := HJ.out; unfold maxLen; omega) (by have := HNL.out; have := HJ.out; omega) HB2.out.size ?_
              intro v3 w3x ho3 hg3 hn3 hk3
              have HO3 : Hid (w3x.ownsRow wr.heap.size 9 1 v3 j ((ns.take j).map sV)) := Lib.hid (by simpa using ho3)
              have hb3 : Below wr.heap.size wr w3x := HB2.out.trans ((Fr.of_grown hg3).below (by intro y hy; exact own_lo HO2.out (Option.mem_toList.1 hy)) HB2.out.size)
              have HB3 := Lib.hid hb3
              refine hK.out _ _ (HSS.out _ hb3) (fun hS3 => ?_)
              clear hK K hb3 ho3 hg3 hn3 hk3 hS2
              (try simp only [Act.put]); (try simp only [List.setIfInBounds_toArray]); (try simp only [List.set_cons_succ]); (try simp only [List.set_cons_zero])
              refine wpAnyH_ready (rs := [6]) (by kernel_rfl) (by simp) ?_
              refine (AllReadyH.cons rfl (fun K hK => ?_) AllReadyH.nil)
              (try simp only [List.getElem_toArray]); (try simp only [List.getElem_cons_succ]); (try simp only [List.getElem_cons_zero])
              go_simp
              obtain ⟨w4x, hw4⟩ : ∃ xq, xq = w3x.alloc (.cells #[.string (bs s)] 9) := ⟨_, rfl⟩
              obtain ⟨z4, hz4⟩ : ∃ xq, xq = w3x.heap.size := ⟨_, rfl⟩
              have hn4 : Below w3x.heap.size w3x w4x := by rw [hw4]; exact below_alloc _ _
              have hb4 : Below wr.heap.size wr w4x := below_and HB3.out hn4
              have HB4 := Lib.hid hb4
              have HY4_6 : Hid (Blk w4x z4 ([.string (bs s)] : List Value) 9) := Lib.hid (by rw [hw4, hz4]; exact Blk.made w3x ([.string (bs s)] : List Value) _)
              have HO4 := Lib.hid (own_fr HO3.out (Fr.of_below hn4 []) (fun _ _ => by simp))
              have HNE4_6 : Hid (∀ q, (v3 : Value).ownBlock = some q → q ≠ z4) := Lib.hid (fun q hq => by have := own_hi HO3.out hq; omega)
              rw [← hw4, ← hz4]
              refine hK.out _ _ (HSS.out _ hb4) (fun hS4 => ?_)
              clear hK K hb4 hw4 hz4 hn4 hS3
              (try simp only [Act.put]); (try simp only [List.setIfInBounds_toArray]); (try simp only [List.set_cons_succ]); (try simp only [List.set_cons_zero])
              refine wpAnyH_ready (rs := [7]) (by kernel_rfl) (by simp) ?_
              refine (AllReadyH.cons rfl (fun K hK => ?_) AllReadyH.nil)
              refine step_app rfl (.tmp 58) (.tmp 60) 36 36 rfl wr.heap.size 9 i0 (.string ⟨#[]⟩) 1 16 Tryz.underlying36 hi0 hz0 hz1 hz2 rfl v3 j ((ns.take j).map sV) (by rfl) HO4.out (.slice (some ⟨z4, 0, none⟩) 1 1) 1 ([.string (bs s)] : List Value) (by rfl) (src_block Tryz.underlying36 _ z4 (([.string (bs s)] : List Value)).toArray HY4_6.out rfl (by simp [Value.oneCell'])) (by have := HNL.out; have := HJ.out; unfold maxLen; omega) (by have := HNL.out; have := HJ.out; omega) HB4.out.size ?_
              intro v5 w5x ho5 hg5 hn5 hk5
              have HO5 : Hid (w5x.ownsRow wr.heap.size 9 1 v5 (j + 1) (((ns.take j).map sV) ++ [.string (bs s)])) := Lib.hid (by exact ho5)
              have hb5 : Below wr.heap.size wr w5x := HB4.out.trans ((Fr.of_grown hg5).below (by intro y hy; exact own_lo HO4.out (Option.mem_toList.1 hy)) HB4.out.size)
              have HB5 := Lib.hid hb5
              refine hK.out _ _ (HSS.out _ hb5) (fun hS5 => ?_)
              clear hK K hb5 ho5 hg5 hn5 hk5 hS4
              (try simp only [Act.put]); (try simp only [List.setIfInBounds_toArray]); (try simp only [List.set_cons_succ]); (try simp only [List.set_cons_zero])
              refine wpAnyH_ready (rs := [11]) (by kernel_rfl) (by simp) ?_
              refine (AllReadyH.cons rfl (fun K hK => ?_) AllReadyH.nil)
              refine step_app rfl (.tmp 61) (.tmp 64) 36 36 rfl wr.heap.size 9 i0 (.string ⟨#[]⟩) 1 16 Tryz.underlying36 hi0 hz0 hz1 hz2 rfl v5 (j + 1) (((ns.take j).map sV) ++ [.string (bs s)]) (by rfl) HO5.out (.slice (if c3 = j then some ⟨q0, 0, none⟩ else some ⟨q0, j, none⟩) (ns.length - j) (c3 - j)) (ns.length - j) ((ns.drop j).map sV) (by rfl) (Row.src Tryz.underlying36 (by have := row_partN (own_fr HO.out (Fr.of_below HB5.out []) (fun _ _ => by simp)) (sV_one ns) (o := j) (m := ns.length - j) (c' := c3 - j) (by have := HJ.out; omega) (by omega) (by omega) (if c3 = j then some ⟨q0, 0, none⟩ else some ⟨q0, j, none⟩) (by split <;> simp) (fun _ => by rw [if_neg (by have := HJ.out; omega)]); rw [List.take_of_length_le (by simp)] at this; simpa [List.map_drop] using this)) (by have := HNL.out; have := HJ.out; unfold maxLen; omega) (by have := HNL.out; have := HJ.out; omega) HB5.out.size ?_
              intro v6 w6x ho6 hg6 hn6 hk6
              have HO6 : Hid (w6x.ownsRow wr.heap.size 9 1 v6 (j + 1 + (ns.length - j)) (((ns.take j).map sV) ++ [.string (bs s)] ++ ((ns.drop j).map sV))) := Lib.hid (by exact ho6)
              have hb6 : Below wr.heap.size wr w6x := HB5.out.trans ((Fr.of_grown hg6).below (by intro y hy; exact own_lo HO5.out (Option.mem_toList.1 hy)) HB5.out.size)
              have HB6 := Lib.hid hb6
              refine hK.out _ _ (HSS.out _ hb6) (fun hS6 => ?_)
              clear hK K hb6 ho6 hg6 hn6 hk6 hS5
              (try simp only [Act.put]); (try simp only [List.setIfInBounds_toArray]); (try simp only [List.set_cons_succ]); (try simp only [List.set_cons_zero])
              refine wpAnyH_take (i := 12) (v := ?v8) rfl (by kernel_rfl) (by kernel_rfl) (by kernel_rfl) (fun _ _ _ h => h) (Or.inl ⟨by rfl, ?hy8⟩) (by assumption) ?rest8
              case hy8 => (intro _ hSw; (try dsimp only at hSw); go_simp; (try with_reducible rfl))
              (try simp only [Act.put]); (try simp only [List.setIfInBounds_toArray]); (try simp only [List.set_cons_succ]); (try simp only [List.set_cons_zero])
              refine wpAnyH_done (by kernel_rfl) ?_ _
              refine NoPanic.normal ?_
              clear hS6 hHeld
              generalize (if c3 = j then some (⟨q0, 0, none⟩ : Addr) else some ⟨q0, j, none⟩) = pp
              have HWB : Hid (Below w2.heap.size w2 w6x) := Lib.hid (below_and HB.out HB6.out)
              have HNW : Hid (w6x.ownsRow w.heap.size 9 1 v6 (namesD (L.take (i + 1))).length ((namesD (L.take (i + 1))).map sV)) := Lib.hid (by
                have ho := own_mono HO6.out HBr.out.size
                rw [HNX.out]
                have e1 : (((ns.take j).map sV) ++ [.string (bs s)] ++ ((ns.drop j).map sV)) = ((ns.take j ++ [s] ++ ns.drop j).map sV) := by simp [sV]
                have e2 : (j + 1 + (ns.length - j)) = (ns.take j ++ [s] ++ ns.drop j).length := by have := HJ.out; simp <;> omega
                rw [e1, e2] at ho
                exact ho)
              go_wp2
              go_roundw
              case rel => exact ⟨i + 1, hlt, by go_num, HNW, HWB⟩
              case measure => simp [intOf]; omega
            · (try simp only [List.getElem_toArray]); (try simp only [List.getElem_cons_succ]); (try simp only [List.getElem_cons_zero])
              go_simp
              obtain ⟨w7x, hw7⟩ : ∃ xq, xq = w2x.alloc (.cells #[.string (bs s)] 9) := ⟨_, rfl⟩
              obtain ⟨z7, hz7⟩ : ∃ xq, xq = w2x.heap.size := ⟨_, rfl⟩
              have hn7 : Below w2x.heap.size w2x w7x := by rw [hw7]; exact below_alloc _ _
              have hb7 : Below wr.heap.size wr w7x := below_and HB2.out hn7
              have HB7 := Lib.hid hb7
              have HY7_6 : Hid (Blk w7x z7 ([.string (bs s)] : List Value) 9) := Lib.hid (by rw [hw7, hz7]; exact Blk.made w2x ([.string (bs s)] : List Value) _)
              have HO7 := Lib.hid (own_fr HO2.out (Fr.of_below hn7 []) (fun _ _ => by simp))
              have HNE7_6 : Hid (∀ q, ((.slice (some ⟨z2, 0, none⟩) 0 0) : Value).ownBlock = some q → q ≠ z7) := Lib.hid (fun q hq => by have := own_hi HO2.out hq; omega)
              rw [← hw7, ← hz7]
              refine hK.out _ _ (HSS.out _ hb7) (fun hS7 => ?_)
              clear hK K hb7 hw7 hz7 hn7 hS2
              (try simp only [Act.put]); (try simp only [List.setIfInBounds_toArray]); (try simp only [List.set_cons_succ]); (try simp only [List.set_cons_zero])
              refine wpAnyH_ready (rs := [4]) (by kernel_rfl) (by simp) ?_
              refine (AllReadyH.cons rfl (fun K hK => ?_) AllReadyH.nil)
              refine step_app rfl (.tmp 54) (.tmp 57) 36 36 rfl wr.heap.size 9 i0 (.string ⟨#[]⟩) 1 16 Tryz.underlying36 hi0 hz0 hz1 hz2 rfl (.slice (some ⟨z2, 0, none⟩) 0 0) 0 [] (by rfl) HO7.out (.slice (some ⟨q0, 0, none⟩) j c3) j ((ns.take j).map sV) (by rfl) (Row.src Tryz.underlying36 (by have := row_partN (own_fr HO.out (Fr.of_below HB7.out []) (fun _ _ => by simp)) (sV_one ns) (o := 0) (m := j) (c' := c3) (by have := HJ.out; omega) (by have := HJ.out; omega) hcm3 (some ⟨q0, 0, none⟩) (by simp) (fun _ => by simp); simpa [List.map_take] using this)) (by have := HNL.out; have := HJ.out; unfold maxLen; omega) (by have := HNL.out; have := HJ.out; omega) HB7.out.size ?_
              intro v8 w8x ho8 hg8 hn8 hk8
              have HO8 : Hid (w8x.ownsRow wr.heap.size 9 1 v8 j ((ns.take j).map sV)) := Lib.hid (by simpa using ho8)
              have hb8 : Below wr.heap.size wr w8x := HB7.out.trans ((Fr.of_grown hg8).below (by intro y hy; exact own_lo HO7.out (Option.mem_toList.1 hy)) HB7.out.size)
              have HB8 := Lib.hid hb8
              have HY8_6 := Lib.hid (HY7_6.out.fr (Fr.of_grown hg8) (fun hm => HNE7_6.out _ (Option.mem_toList.1 hm) rfl))
              have HNE8_6 : Hid (∀ q, v8.ownBlock = some q → q ≠ z7) := Lib.hid (fun q hq => by rcases hk8 q hq with h1 | h1; exact HNE7_6.out q h1; have := HY7_6.out.lt; omega)
              refine hK.out _ _ (HSS.out _ hb8) (fun hS8 => ?_)
              clear hK K hb8 ho8 hg8 hn8 hk8 hS7
              (try simp only [Act.put]); (try simp only [List.setIfInBounds_toArray]); (try simp only [List.set_cons_succ]); (try simp only [List.set_cons_zero])
              refine wpAnyH_ready (rs := [7]) (by kernel_rfl) (by simp) ?_
              refine (AllReadyH.cons rfl (fun K hK => ?_) AllReadyH.nil)
              refine step_app rfl (.tmp 58) (.tmp 60) 36 36 rfl wr.heap.size 9 i0 (.string ⟨#[]⟩) 1 16 Tryz.underlying36 hi0 hz0 hz1 hz2 rfl v8 j ((ns.take j).map sV) (by rfl) HO8.out (.slice (some ⟨z7, 0, none⟩) 1 1) 1 ([.string (bs s)] : List Value) (by rfl) (src_block Tryz.underlying36 _ z7 (([.string (bs s)] : List Value)).toArray HY8_6.out rfl (by simp [Value.oneCell'])) (by have := HNL.out; have := HJ.out; unfold maxLen; omega) (by have := HNL.out; have := HJ.out; omega) HB8.out.size ?_
              intro v9 w9x ho9 hg9 hn9 hk9
              have HO9 : Hid (w9x.ownsRow wr.heap.size 9 1 v9 (j + 1) (((ns.take j).map sV) ++ [.string (bs s)])) := Lib.hid (by exact ho9)
              have hb9 : Below wr.heap.size wr w9x := HB8.out.trans ((Fr.of_grown hg9).below (by intro y hy; exact own_lo HO8.out (Option.mem_toList.1 hy)) HB8.out.size)
              have HB9 := Lib.hid hb9
              refine hK.out _ _ (HSS.out _ hb9) (fun hS9 => ?_)
              clear hK K hb9 ho9 hg9 hn9 hk9 hS8
              (try simp only [Act.put]); (try simp only [List.setIfInBounds_toArray]); (try simp only [List.set_cons_succ]); (try simp only [List.set_cons_zero])
              refine wpAnyH_ready (rs := [11]) (by kernel_rfl) (by simp) ?_
              refine (AllReadyH.cons rfl (fun K hK => ?_) AllReadyH.nil)
              refine step_app rfl (.tmp 61) (.tmp 64) 36 36 rfl wr.heap.size 9 i0 (.string ⟨#[]⟩) 1 16 Tryz.underlying36 hi0 hz0 hz1 hz2 rfl v9 (j + 1) (((ns.take j).map sV) ++ [.string (bs s)]) (by rfl) HO9.out (.slice (if c3 = j then some ⟨q0, 0, none⟩ else some ⟨q0, j, none⟩) (ns.length - j) (c3 - j)) (ns.length - j) ((ns.drop j).map sV) (by rfl) (Row.src Tryz.underlying36 (by have := row_partN (own_fr HO.out (Fr.of_below HB9.out []) (fun _ _ => by simp)) (sV_one ns) (o := j) (m := ns.length - j) (c' := c3 - j) (by have := HJ.out; omega) (by omega) (by omega) (if c3 = j then some ⟨q0, 0, none⟩ else some ⟨q0, j, none⟩) (by split <;> simp) (fun _ => by rw [if_neg (by have := HJ.out; omega)]); rw [List.take_of_length_le (by simp)] at this; simpa [List.map_drop] using this)) (by have := HNL.out; have := HJ.out; unfold maxLen; omega) (by have := HNL.out; have := HJ.out; omega) HB9.out.size ?_
              intro v10 w10x ho10 hg10 hn10 hk10
              have HO10 : Hid (w10x.ownsRow wr.heap.size 9 1 v10 (j + 1 + (ns.length - j)) (((ns.take j).map sV) ++ [.string (bs s)] ++ ((ns.drop j).map sV))) := Lib.hid (by exact ho10)
              have hb10 : Below wr.heap.size wr w10x := HB9.out.trans ((Fr.of_grown hg10).below (by intro y hy; exact own_lo HO9.out (Option.mem_toList.1 hy)) HB9.out.size)
              have HB10 := Lib.hid hb10
              refine hK.out _ _ (HSS.out _ hb10) (fun hS10 => ?_)
              clear hK K hb10 ho10 hg10 hn10 hk10 hS9
              (try simp only [Act.put]); (try simp only [List.setIfInBounds_toArray]); (try simp only [List.set_cons_succ]); (try simp only [List.set_cons_zero])
              refine wpAnyH_take (i := 12) (v := ?v9) rfl (by kernel_rfl) (by kernel_rfl) (by kernel_rfl) (fun _ _ _ h => h) (Or.inl ⟨by rfl, ?hy9⟩) (by assumption) ?rest9
              case hy9 => (intro _ hSw; (try dsimp only at hSw); go_simp; (try with_reducible rfl))
              (try simp only [Act.put]); (try simp only [List.setIfInBounds_toArray]); (try simp only [List.set_cons_succ]); (try simp only [List.set_cons_zero])
              refine wpAnyH_done (by kernel_rfl) ?_ _
              refine NoPanic.normal ?_
              clear hS10 hHeld
              generalize (if c3 = j then some (⟨q0, 0, none⟩ : Addr) else some ⟨q0, j, none⟩) = pp
              have HWB : Hid (Below w2.heap.size w2 w10x) := Lib.hid (below_and HB.out HB10.out)
              have HNW : Hid (w10x.ownsRow w.heap.size 9 1 v10 (namesD (L.take (i + 1))).length ((namesD (L.take (i + 1))).map sV)) := Lib.hid (by
                have ho := own_mono HO10.out HBr.out.size
                rw [HNX.out]
                have e1 : (((ns.take j).map sV) ++ [.string (bs s)] ++ ((ns.drop j).map sV)) = ((ns.take j ++ [s] ++ ns.drop j).map sV) := by simp [sV]
                have e2 : (j + 1 + (ns.length - j)) = (ns.take j ++ [s] ++ ns.drop j).length := by have := HJ.out; simp <;> omega
                rw [e1, e2] at ho
                exact ho)
              go_wp2
              go_roundw
              case rel => exact ⟨i + 1, hlt, by go_num, HNW, HWB⟩
              case measure => simp [intOf]; omega
          · (try simp only [List.getElem_toArray]); (try simp only [List.getElem_cons_succ]); (try simp only [List.getElem_cons_zero])
            go_simp
            obtain ⟨w11x, hw11⟩ : ∃ xq, xq = wd1.alloc (.cells #[.string (bs s)] 9) := ⟨_, rfl⟩
            obtain ⟨z11, hz11⟩ : ∃ xq, xq = wd1.heap.size := ⟨_, rfl⟩
            have hn11 : Below wd1.heap.size wd1 w11x := by rw [hw11]; exact below_alloc _ _
            have hb11 : Below wr.heap.size wr w11x := below_and HB1.out hn11
            have HB11 := Lib.hid hb11
            have HY11_6 : Hid (Blk w11x z11 ([.string (bs s)] : List Value) 9) := Lib.hid (by rw [hw11, hz11]; exact Blk.made wd1 ([.string (bs s)] : List Value) _)
            rw [← hw11, ← hz11]
            refine hK.out _ _ (HSS.out _ hb11) (fun hS11 => ?_)
            clear hK K hb11 hw11 hz11 hn11 hS1
            (try simp only [Act.put]); (try simp only [List.setIfInBounds_toArray]); (try simp only [List.set_cons_succ]); (try simp only [List.set_cons_zero])
            refine wpAnyH_ready (rs := [0]) (by kernel_rfl) (by simp) ?_
            refine (AllReadyH.cons rfl (fun K hK => ?_) AllReadyH.nil)
            (try simp only [List.getElem_toArray]); (try simp only [List.getElem_cons_succ]); (try simp only [List.getElem_cons_zero])
            go_simp
            obtain ⟨w12x, hw12⟩ : ∃ xq, xq = w11x.alloc (.cells #[] 9) := ⟨_, rfl⟩
            obtain ⟨z12, hz12⟩ : ∃ xq, xq = w11x.heap.size := ⟨_, rfl⟩
            have hn12 : Below w11x.heap.size w11x w12x := by rw [hw12]; exact below_alloc _ _
            have hb12 : Below wr.heap.size wr w12x := below_and HB11.out hn12
            have HB12 := Lib.hid hb12
            have HY12_6 := Lib.hid (HY11_6.out.kept hn12)
            have HNE12_6 : Hid (∀ q, (Value.slice (some ⟨z12, 0, none⟩) 0 0).ownBlock = some q → q ≠ z11) := Lib.hid (fun q hq => by simp [Value.ownBlock] at hq; have := HY11_6.out.lt; omega)
            have HO12 : Hid (w12x.ownsRow wr.heap.size 9 1 (.slice (some ⟨z12, 0, none⟩) 0 0) 0 []) := Lib.hid (by rw [hw12, hz12]; exact World.ownsRow_made w11x #[] 0 HB11.out.size (by decide) rfl)
            rw [← hw12, ← hz12]
            refine hK.out _ _ (HSS.out _ hb12) (fun hS12 => ?_)
            clear hK K hb12 hw12 hz12 hn12 hS11
            (try simp only [Act.put]); (try simp only [List.setIfInBounds_toArray]); (try simp only [List.set_cons_succ]); (try simp only [List.set_cons_zero])
            refine wpAnyH_ready (rs := [4]) (by kernel_rfl) (by simp) ?_
            refine (AllReadyH.cons rfl (fun K hK => ?_) AllReadyH.nil)
            refine step_app rfl (.tmp 54) (.tmp 57) 36 36 rfl wr.heap.size 9 i0 (.string ⟨#[]⟩) 1 16 Tryz.underlying36 hi0 hz0 hz1 hz2 rfl (.slice (some ⟨z12, 0, none⟩) 0 0) 0 [] (by rfl) HO12.out (.slice (some ⟨q0, 0, none⟩) j c3) j ((ns.take j).map sV) (by rfl) (Row.src Tryz.underlying36 (by have := row_partN (own_fr HO.out (Fr.of_below HB12.out []) (fun _ _ => by simp)) (sV_one ns) (o := 0) (m := j) (c' := c3) (by have := HJ.out; omega) (by have := HJ.out; omega) hcm3 (some ⟨q0, 0, none⟩) (by simp) (fun _ => by simp); simpa [List.map_take] using this)) (by have := HNL.out; have := HJ.out; unfold maxLen; omega) (by have := HNL.out; have := HJ.out; omega) HB12.out.size ?_
            intro v13 w13x ho13 hg13 hn13 hk13
            have HO13 : Hid (w13x.ownsRow wr.heap.size 9 1 v13 j ((ns.take j).map sV)) := Lib.hid (by simpa using ho13)
            have hb13 : Below wr.heap.size wr w13x := HB12.out.trans ((Fr.of_grown hg13).below (by intro y hy; exact own_lo HO12.out (Option.mem_toList.1 hy)) HB12.out.size)
            have HB13 := Lib.hid hb13
            have HY13_6 := Lib.hid (HY12_6.out.fr (Fr.of_grown hg13) (fun hm => HNE12_6.out _ (Option.mem_toList.1 hm) rfl))
            have HNE13_6 : Hid (∀ q, v13.ownBlock = some q → q ≠ z11) := Lib.hid (fun q hq => by rcases hk13 q hq with h1 | h1; exact HNE12_6.out q h1; have := HY12_6.out.lt; omega)
            refine hK.out _ _ (HSS.out _ hb13) (fun hS13 => ?_)
            clear hK K hb13 ho13 hg13 hn13 hk13 hS12
            (try simp only [Act.put]); (try simp only [List.setIfInBounds_toArray]); (try simp only [List.set_cons_succ]); (try simp only [List.set_cons_zero])
            refine wpAnyH_ready (rs := [7]) (by kernel_rfl) (by simp) ?_
            refine (AllReadyH.cons rfl (fun K hK => ?_) AllReadyH.nil)
            refine step_app rfl (.tmp 58) (.tmp 60) 36 36 rfl wr.heap.size 9 i0 (.string ⟨#[]⟩) 1 16 Tryz.underlying36 hi0 hz0 hz1 hz2 rfl v13 j ((ns.take j).map sV) (by rfl) HO13.out (.slice (some ⟨z11, 0, none⟩) 1 1) 1 ([.string (bs s)] : List Value) (by rfl) (src_block Tryz.underlying36 _ z11 (([.string (bs s)] : List Value)).toArray HY13_6.out rfl (by simp [Value.oneCell'])) (by have := HNL.out; have := HJ.out; unfold maxLen; omega) (by have := HNL.out; have := HJ.out; omega) HB13.out.size ?_
            intro v14 w14x ho14 hg14 hn14 hk14
            have HO14 : Hid (w14x.ownsRow wr.heap.size 9 1 v14 (j + 1) (((ns.take j).map sV) ++ [.string (bs s)])) := Lib.hid (by exact ho14)
            have hb14 : Below wr.heap.size wr w14x := HB13.out.trans ((Fr.of_grown hg14).below (by intro y hy; exact own_lo HO13.out (Option.mem_toList.1 hy)) HB13.out.size)
            have HB14 := Lib.hid hb14
            refine hK.out _ _ (HSS.out _ hb14) (fun hS14 => ?_)
            clear hK K hb14 ho14 hg14 hn14 hk14 hS13
            (try simp only [Act.put]); (try simp only [List.setIfInBounds_toArray]); (try simp only [List.set_cons_succ]); (try simp only [List.set_cons_zero])
            refine wpAnyH_ready (rs := [11]) (by kernel_rfl) (by simp) ?_
            refine (AllReadyH.cons rfl (fun K hK => ?_) AllReadyH.nil)
            refine step_app rfl (.tmp 61) (.tmp 64) 36 36 rfl wr.heap.size 9 i0 (.string ⟨#[]⟩) 1 16 Tryz.underlying36 hi0 hz0 hz1 hz2 rfl v14 (j + 1) (((ns.take j).map sV) ++ [.string (bs s)]) (by rfl) HO14.out (.slice (if c3 = j then some ⟨q0, 0, none⟩ else some ⟨q0, j, none⟩) (ns.length - j) (c3 - j)) (ns.length - j) ((ns.drop j).map sV) (by rfl) (Row.src Tryz.underlying36 (by have := row_partN (own_fr HO.out (Fr.of_below HB14.out []) (fun _ _ => by simp)) (sV_one ns) (o := j) (m := ns.length - j) (c' := c3 - j) (by have := HJ.out; omega) (by omega) (by omega) (if c3 = j then some ⟨q0, 0, none⟩ else some ⟨q0, j, none⟩) (by split <;> simp) (fun _ => by rw [if_neg (by have := HJ.out; omega)]); rw [List.take_of_length_le (by simp)] at this; simpa [List.map_drop] using this)) (by have := HNL.out; have := HJ.out; unfold maxLen; omega) (by have := HNL.out; have := HJ.out; omega) HB14.out.size ?_
            intro v15 w15x ho15 hg15 hn15 hk15
            have HO15 : Hid (w15x.ownsRow wr.heap.size 9 1 v15 (j + 1 + (ns.length - j)) (((ns.take j).map sV) ++ [.string (bs s)] ++ ((ns.drop j).map sV))) := Lib.hid (by exact ho15)
            have hb15 : Below wr.heap.size wr w15x := HB14.out.trans ((Fr.of_grown hg15).below (by intro y hy; exact own_lo HO14.out (Option.mem_toList.1 hy)) HB14.out.size)
            have HB15 := Lib.hid hb15
            refine hK.out _ _ (HSS.out _ hb15) (fun hS15 => ?_)
            clear hK K hb15 ho15 hg15 hn15 hk15 hS14
            (try simp only [Act.put]); (try simp only [List.setIfInBounds_toArray]); (try simp only [List.set_cons_succ]); (try simp only [List.set_cons_zero])
            refine wpAnyH_take (i := 12) (v := ?v10) rfl (by kernel_rfl) (by kernel_rfl) (by kernel_rfl) (fun _ _ _ h => h) (Or.inl ⟨by rfl, ?hy10⟩) (by assumption) ?rest10
            case hy10 => (intro _ hSw; (try dsimp only at hSw); go_simp; (try with_reducible rfl))
            (try simp only [Act.put]); (try simp only [List.setIfInBounds_toArray]); (try simp only [List.set_cons_succ]); (try simp only [List.set_cons_zero])
            refine wpAnyH_done (by kernel_rfl) ?_ _
            refine NoPanic.normal ?_
            clear hS15 hHeld
            generalize (if c3 = j then some (⟨q0, 0, none⟩ : Addr) else some ⟨q0, j, none⟩) = pp
            have HWB : Hid (Below w2.heap.size w2 w15x) := Lib.hid (below_and HB.out HB15.out)
            have HNW : Hid (w15x.ownsRow w.heap.size 9 1 v15 (namesD (L.take (i + 1))).length ((namesD (L.take (i + 1))).map sV)) := Lib.hid (by
              have ho := own_mono HO15.out HBr.out.size
              rw [HNX.out]
              have e1 : (((ns.take j).map sV) ++ [.string (bs s)] ++ ((ns.drop j).map sV)) = ((ns.take j ++ [s] ++ ns.drop j).map sV) := by simp [sV]
              have e2 : (j + 1 + (ns.length - j)) = (ns.take j ++ [s] ++ ns.drop j).length := by have := HJ.out; simp <;> omega
              rw [e1, e2] at ho
              exact ho)
            go_wp2
            go_roundw
            case rel => exact ⟨i + 1, hlt, by go_num, HNW, HWB⟩
            case measure => simp [intOf]; omega
        ·
          have HJE : Hid (j = ns.length) := Lib.hid (by have := HJ.out; omega)
          have HNX : Hid (namesD (L.take (i + 1)) = if em = false then ns.take j ++ [s] ++ ns.drop j else ns) := Lib.hid (by
            rw [HNX0.out]
            unfold addN
            rw [← HKJ.out, List.getElem?_eq_none (by have := HJE.out; omega)]
            have e1 : (s ≠ []) ↔ em = false := by rw [HEM.out]; simp
            simp only [e1, ne_eq, reduceCtorEq, not_false_eq_true, and_true])
          rcases HO.out.2 with ⟨hv9, hn0⟩ | ⟨q0, c4, cur, hv9, -⟩
          ·
            obtain rfl : ns = [] := List.length_eq_zero_iff.1 hn0
            obtain rfl : j = 0 := by have := HJ.out; simpa using this
            simp only [Value.slice.injEq] at hv9
            obtain ⟨rfl, -, rfl⟩ := hv9
            clear hn0 hjl hjn hjc
            cases em
            rotate_left
            ·
              have HNE : Hid (namesD (L.take (i + 1)) = ([] : List (List UInt8))) := Lib.hid (by rw [HNX.out]; simp)
              go_wp2
              go_roundw
              case rel => exact ⟨i + 1, hlt, by go_num, by rw [HNE.out]; exact HO, HB⟩
              case measure => simp [intOf]; omega
            clear hem
            go_upto_region 12 with fail
            have HSS : Hid (∀ w', Below wr.heap.size wr w' → Below wr.heap.size wr w') := Lib.hid (fun _ h => h)
            have HNX' := HNX
            clear HNX
            have HNX : Hid (namesD (L.take (i + 1)) = [s]) := Lib.hid (by rw [HNX'.out]; simp)
            clear HNX' hbs0
            refine wp_region_noPanic ?_
            refine wp_region_held_drew (S := fun w' => Below wr.heap.size wr w') (by kernel_rfl) (HSS.out _ (below_drewN 1)) (fun hHeld => ?_)
            have HB16 : Hid (Below wr.heap.size wr wr.drew) := Lib.hid (below_drewN 1)
            have hS16 : True := trivial
            obtain ⟨wd16, hwd⟩ : ∃ xq, xq = wr.drew := ⟨_, rfl⟩
            rw [← hwd] at hHeld HB16 ⊢
            clear hwd
            refine wpAnyH_take (i := 1) (v := ?v11) rfl (by kernel_rfl) (by kernel_rfl) (by kernel_rfl) (fun _ _ _ h => h) (Or.inl ⟨by rfl, ?hy11⟩) (by assumption) ?rest11
            case hy11 => (intro _ hSw; (try dsimp only at hSw); go_simp; (try with_reducible rfl))
            (try simp only [Act.put]); (try simp only [List.setIfInBounds_toArray]); (try simp only [List.set_cons_succ]); (try simp only [List.set_cons_zero])
            refine wpAnyH_take (i := 2) (v := ?v12) rfl (by kernel_rfl) (by kernel_rfl) (by kernel_rfl) (fun _ _ _ h => h) (Or.inl ⟨by rfl, ?hy12⟩) (by assumption) ?rest12
            case hy12 => (intro _ hSw; (try dsimp only at hSw); go_simp; (try with_reducible rfl))
            (try simp only [Act.put]); (try simp only [List.setIfInBounds_toArray]); (try simp only [List.set_cons_succ]); (try simp only [List.set_cons_zero])
            refine wpAnyH_take (i := 3) (v := ?v13) rfl (by kernel_rfl) (by kernel_rfl) (by kernel_rfl) (fun _ _ _ h => h) (Or.inl ⟨by rfl, ?hy13⟩) (by assumption) ?rest13
            case hy13 => (intro _ hSw; (try dsimp only at hSw); go_simp; (try with_reducible rfl))
            (try simp only [Act.put]); (try simp only [List.setIfInBounds_toArray]); (try simp only [List.set_cons_succ]); (try simp only [List.set_cons_zero])
            refine wpAnyH_take (i := 5) (v := ?v14) rfl (by kernel_rfl) (by kernel_rfl) (by kernel_rfl) (fun _ _ _ h => h) (Or.inl ⟨by rfl, ?hy14⟩) (by assumption) ?rest14
            case hy14 => (intro _ hSw; (try dsimp only at hSw); go_simp; (try with_reducible rfl))
            (try simp only [Act.put]); (try simp only [List.setIfInBounds_toArray]); (try simp only [List.set_cons_succ]); (try simp only [List.set_cons_zero])
            refine wpAnyH_take (i := 8) (v := ?v15) rfl (by kernel_rfl) (by kernel_rfl) (by kernel_rfl) (fun _ _ _ h => h) (Or.inl ⟨by rfl, ?hy15⟩) (by assumption) ?rest15
            case hy15 => (intro _ hSw; (try dsimp only at hSw); go_simp; (try with_reducible rfl))
            (try simp only [Act.put]); (try simp only [List.setIfInBounds_toArray]); (try simp only [List.set_cons_succ]); (try simp only [List.set_cons_zero])
            refine wpAnyH_take (i := 9) (v := ?v16) rfl (by kernel_rfl) (by kernel_rfl) (by kernel_rfl) (fun _ _ _ h => h) (Or.inl ⟨by rfl, ?hy16⟩) (by assumption) ?rest16
            case hy16 => (intro _ hSw; (try dsimp only at hSw); go_simp; (try with_reducible rfl))
            (try simp only [Act.put]); (try simp only [List.setIfInBounds_toArray]); (try simp only [List.set_cons_succ]); (try simp only [List.set_cons_zero])
            refine wpAnyH_take (i := 10) (v := ?v17) rfl (by kernel_rfl) (by kernel_rfl) (by kernel_rfl) (fun _ _ _ h => h) (Or.inl ⟨by rfl, ?hy17⟩) (by assumption) ?rest17
            case hy17 => (intro _ hSw; (try dsimp only at hSw); go_simp; (try with_reducible rfl))
            (try simp only [Act.put]); (try simp only [List.setIfInBounds_toArray]); (try simp only [List.set_cons_succ]); (try simp only [List.set_cons_zero])
            (try simp only [List.getElem_toArray]); (try simp only [List.getElem_cons_succ]); (try simp only [List.getElem_cons_zero]); (try simp only [List.setIfInBounds_toArray]); (try simp only [List.set_cons_succ, List.set_cons_zero])
            refine wpAnyH_ready (rs := [0, 6]) (by kernel_rfl) (by simp) ?_
            refine (AllReadyH.cons rfl (fun K hK => ?_) (AllReadyH.cons rfl (fun K hK => ?_) AllReadyH.nil))
            · (try simp only [List.getElem_toArray]); (try simp only [List.getElem_cons_succ]); (try simp only [List.getElem_cons_zero])
              go_simp
              obtain ⟨w17x, hw17⟩ : ∃ xq, xq = wd16.alloc (.cells #[] 9) := ⟨_, rfl⟩
              obtain ⟨z17, hz17⟩ : ∃ xq, xq = wd16.heap.size := ⟨_, rfl⟩
              have hn17 : Below wd16.heap.size wd16 w17x := by rw [hw17]; exact below_alloc _ _
              have hb17 : Below wr.heap.size wr w17x := below_and HB16.out hn17
              have HB17 := Lib.hid hb17
              have HO17 : Hid (w17x.ownsRow wr.heap.size 9 1 (.slice (some ⟨z17, 0, none⟩) 0 0) 0 []) := Lib.hid (by rw [hw17, hz17]; exact World.ownsRow_made wd16 #[] 0 HB16.out.size (by decide) rfl)
              rw [← hw17, ← hz17]
              refine hK.out _ _ (HSS.out _ hb17) (fun hS17 => ?_)
              clear hK K hb17 hw17 hz17 hn17 hS16
              (try simp only [Act.put]); (try simp only [List.setIfInBounds_toArray]); (try simp only [List.set_cons_succ]); (try simp only [List.set_cons_zero])
              refine wpAnyH_ready (rs := [4, 6]) (by kernel_rfl) (by simp) ?_
              refine (AllReadyH.cons rfl (fun K hK => ?_) (AllReadyH.cons rfl (fun K hK => ?_) AllReadyH.nil))
              · refine step_app rfl (.tmp 54) (.tmp 57) 36 36 rfl wr.heap.size 9 i0 (.string ⟨#[]⟩) 1 16 Tryz.underlying36 hi0 hz0 hz1 hz2 rfl (.slice (some ⟨z17, 0, none⟩) 0 0) 0 [] (by rfl) HO17.out (.slice none 0 0) 0 [] (by rfl) (Row.src Tryz.underlying36 (row_nil _ 1)) (by have := HNL.out; have := HJ.out; unfold maxLen; omega) (by have := HNL.out; have := HJ.out; omega) HB17.out.size ?_
                intro v18 w18x ho18 hg18 hn18 hk18
                have HO18 : Hid (w18x.ownsRow wr.heap.size 9 1 v18 0 []) := Lib.hid (by simpa using ho18)
                have hb18 : Below wr.heap.size wr w18x := HB17.out.trans ((Fr.of_grown hg18).below (by intro y hy; exact own_lo HO17.out (Option.mem_toList.1 hy)) HB17.out.size)
                have HB18 := Lib.hid hb18
                refine hK.out _ _ (HSS.out _ hb18) (fun hS18 => ?_)
                clear hK K hb18 ho18 hg18 hn18 hk18 hS17
                (try simp only [Act.put]); (try simp only [List.setIfInBounds_toArray]); (try simp only [List.set_cons_succ]); (try simp only [List.set_cons_zero])
                refine wpAnyH_ready (rs := [6]) (by kernel_rfl) (by simp) ?_
                refine (AllReadyH.cons rfl (fun K hK => ?_) AllReadyH.nil)
                (try simp only [List.getElem_toArray]); (try simp only [List.getElem_cons_succ]); (try simp only [List.getElem_cons_zero])
                go_simp
                obtain ⟨w19x, hw19⟩ : ∃ xq, xq = w18x.alloc (.cells #[.string (bs s)] 9) := ⟨_, rfl⟩
                obtain ⟨z19, hz19⟩ : ∃ xq, xq = w18x.heap.size := ⟨_, rfl⟩
                have hn19 : Below w18x.heap.size w18x w19x := by rw [hw19]; exact below_alloc _ _
                have hb19 : Below wr.heap.size wr w19x := below_and HB18.out hn19
                have HB19 := Lib.hid hb19
                have HY19_6 : Hid (Blk w19x z19 ([.string (bs s)] : List Value) 9) := Lib.hid (by rw [hw19, hz19]; exact Blk.made w18x ([.string (bs s)] : List Value) _)
                have HO19 := Lib.hid (own_fr HO18.out (Fr.of_below hn19 []) (fun _ _ => by simp))
                have HNE19_6 : Hid (∀ q, (v18 : Value).ownBlock = some q → q ≠ z19) := Lib.hid (fun q hq => by have := own_hi HO18.out hq; omega)
                rw [← hw19, ← hz19]
                refine hK.out _ _ (HSS.out _ hb19) (fun hS19 => ?_)
                clear hK K hb19 hw19 hz19 hn19 hS18
                (try simp only [Act.put]); (try simp only [List.setIfInBounds_toArray]); (try simp only [List.set_cons_succ]); (try simp only [List.set_cons_zero])
                refine wpAnyH_ready (rs := [7]) (by kernel_rfl) (by simp) ?_
                refine (AllReadyH.cons rfl (fun K hK => ?_) AllReadyH.nil)
                refine step_app rfl (.tmp 58) (.tmp 60) 36 36 rfl wr.heap.size 9 i0 (.string ⟨#[]⟩) 1 16 Tryz.underlying36 hi0 hz0 hz1 hz2 rfl v18 0 [] (by rfl) HO19.out (.slice (some ⟨z19, 0, none⟩) 1 1) 1 ([.string (bs s)] : List Value) (by rfl) (src_block Tryz.underlying36 _ z19 (([.string (bs s)] : List Value)).toArray HY19_6.out rfl (by simp [Value.oneCell'])) (by have := HNL.out; have := HJ.out; unfold maxLen; omega) (by have := HNL.out; have := HJ.out; omega) HB19.out.size ?_
                intro v20 w20x ho20 hg20 hn20 hk20
                have HO20 : Hid (w20x.ownsRow wr.heap.size 9 1 v20 (0 + 1) ([] ++ [.string (bs s)])) := Lib.hid (by exact ho20)
                have hb20 : Below wr.heap.size wr w20x := HB19.out.trans ((Fr.of_grown hg20).below (by intro y hy; exact own_lo HO19.out (Option.mem_toList.1 hy)) HB19.out.size)
                have HB20 := Lib.hid hb20
                refine hK.out _ _ (HSS.out _ hb20) (fun hS20 => ?_)
                clear hK K hb20 ho20 hg20 hn20 hk20 hS19
                (try simp only [Act.put]); (try simp only [List.setIfInBounds_toArray]); (try simp only [List.set_cons_succ]); (try simp only [List.set_cons_zero])
                refine wpAnyH_ready (rs := [11]) (by kernel_rfl) (by simp) ?_
                refine (AllReadyH.cons rfl (fun K hK => ?_) AllReadyH.nil)
                refine step_app rfl (.tmp 61) (.tmp 64) 36 36 rfl wr.heap.size 9 i0 (.string ⟨#[]⟩) 1 16 Tryz.underlying36 hi0 hz0 hz1 hz2 rfl v20 (0 + 1) ([] ++ [.string (bs s)]) (by rfl) HO20.out (.slice none 0 0) 0 [] (by rfl) (Row.src Tryz.underlying36 (row_nil _ 1)) (by have := HNL.out; have := HJ.out; unfold maxLen; omega) (by have := HNL.out; have := HJ.out; omega) HB20.out.size ?_
                intro v21 w21x ho21 hg21 hn21 hk21
                have HO21 : Hid (w21x.ownsRow wr.heap.size 9 1 v21 (0 + 1 + 0) ([] ++ [.string (bs s)] ++ [])) := Lib.hid (by exact ho21)
                have hb21 : Below wr.heap.size wr w21x := HB20.out.trans ((Fr.of_grown hg21).below (by intro y hy; exact own_lo HO20.out (Option.mem_toList.1 hy)) HB20.out.size)
                have HB21 := Lib.hid hb21
                refine hK.out _ _ (HSS.out _ hb21) (fun hS21 => ?_)
                clear hK K hb21 ho21 hg21 hn21 hk21 hS20
                (try simp only [Act.put]); (try simp only [List.setIfInBounds_toArray]); (try simp only [List.set_cons_succ]); (try simp only [List.set_cons_zero])
                refine wpAnyH_take (i := 12) (v := ?v18) rfl (by kernel_rfl) (by kernel_rfl) (by kernel_rfl) (fun _ _ _ h => h) (Or.inl ⟨by rfl, ?hy18⟩) (by assumption) ?rest18
                case hy18 => (intro _ hSw; (try dsimp only at hSw); go_simp; (try with_reducible rfl))
                (try simp only [Act.put]); (try simp only [List.setIfInBounds_toArray]); (try simp only [List.set_cons_succ]); (try simp only [List.set_cons_zero])
                refine wpAnyH_done (by kernel_rfl) ?_ _
                refine NoPanic.normal ?_
                clear hS21 hHeld
                have HWB : Hid (Below w2.heap.size w2 w21x) := Lib.hid (below_and HB.out HB21.out)
                have HNW : Hid (w21x.ownsRow w.heap.size 9 1 v21 (namesD (L.take (i + 1))).length ((namesD (L.take (i + 1))).map sV)) := Lib.hid (by
                  have ho := own_mono HO21.out HBr.out.size
                  rw [HNX.out]
                  have e1 : ([] ++ [.string (bs s)] ++ []) = (([s]).map sV) := by simp [sV]
                  have e2 : (0 + 1 + 0) = ([s]).length := by have := HJ.out; simp <;> omega
                  rw [e1, e2] at ho
                  exact ho)
                go_wp2
                go_roundw
                case rel => exact ⟨i + 1, hlt, by go_num, HNW, HWB⟩
                case measure => simp [intOf]; omega
              · (try simp only [List.getElem_toArray]); (try simp only [List.getElem_cons_succ]); (try simp only [List.getElem_cons_zero])
                go_simp
                obtain ⟨w22x, hw22⟩ : ∃ xq, xq = w17x.alloc (.cells #[.string (bs s)] 9) := ⟨_, rfl⟩
                obtain ⟨z22, hz22⟩ : ∃ xq, xq = w17x.heap.size := ⟨_, rfl⟩
                have hn22 : Below w17x.heap.size w17x w22x := by rw [hw22]; exact below_alloc _ _
                have hb22 : Below wr.heap.size wr w22x := below_and HB17.out hn22
                have HB22 := Lib.hid hb22
                have HY22_6 : Hid (Blk w22x z22 ([.string (bs s)] : List Value) 9) := Lib.hid (by rw [hw22, hz22]; exact Blk.made w17x ([.string (bs s)] : List Value) _)
                have HO22 := Lib.hid (own_fr HO17.out (Fr.of_below hn22 []) (fun _ _ => by simp))
                have HNE22_6 : Hid (∀ q, ((.slice (some ⟨z17, 0, none⟩) 0 0) : Value).ownBlock = some q → q ≠ z22) := Lib.hid (fun q hq => by have := own_hi HO17.out hq; omega)
                rw [← hw22, ← hz22]
                refine hK.out _ _ (HSS.out _ hb22) (fun hS22 => ?_)
                clear hK K hb22 hw22 hz22 hn22 hS17
                (try simp only [Act.put]); (try simp only [List.setIfInBounds_toArray]); (try simp only [List.set_cons_succ]); (try simp only [List.set_cons_zero])
                refine wpAnyH_ready (rs := [4]) (by kernel_rfl) (by simp) ?_
                refine (AllReadyH.cons rfl (fun K hK => ?_) AllReadyH.nil)
                refine step_app rfl (.tmp 54) (.tmp 57) 36 36 rfl wr.heap.size 9 i0 (.string ⟨#[]⟩) 1 16 Tryz.underlying36 hi0 hz0 hz1 hz2 rfl (.slice (some ⟨z17, 0, none⟩) 0 0) 0 [] (by rfl) HO22.out (.slice none 0 0) 0 [] (by rfl) (Row.src Tryz.underlying36 (row_nil _ 1)) (by have := HNL.out; have := HJ.out; unfold maxLen; omega) (by have := HNL.out; have := HJ.out; omega) HB22.out.size ?_
                intro v23 w23x ho23 hg23 hn23 hk23
                have HO23 : Hid (w23x.ownsRow wr.heap.size 9 1 v23 0 []) := Lib.hid (by simpa using ho23)
                have hb23 : Below wr.heap.size wr w23x := HB22.out.trans ((Fr.of_grown hg23).below (by intro y hy; exact own_lo HO22.out (Option.mem_toList.1 hy)) HB22.out.size)
                have HB23 := Lib.hid hb23
                have HY23_6 := Lib.hid (HY22_6.out.fr (Fr.of_grown hg23) (fun hm => HNE22_6.out _ (Option.mem_toList.1 hm) rfl))
                have HNE23_6 : Hid (∀ q, v23.ownBlock = some q → q ≠ z22) := Lib.hid (fun q hq => by rcases hk23 q hq with h1 | h1; exact HNE22_6.out q h1; have := HY22_6.out.lt; omega)
                refine hK.out _ _ (HSS.out _ hb23) (fun hS23 => ?_)
                clear hK K hb23 ho23 hg23 hn23 hk23 hS22
                (try simp only [Act.put]); (try simp only [List.setIfInBounds_toArray]); (try simp only [List.set_cons_succ]); (try simp only [List.set_cons_zero])
                refine wpAnyH_ready (rs := [7]) (by kernel_rfl) (by simp) ?_
                refine (AllReadyH.cons rfl (fun K hK => ?_) AllReadyH.nil)
                refine step_app rfl (.tmp 58) (.tmp 60) 36 36 rfl wr.heap.size 9 i0 (.string ⟨#[]⟩) 1 16 Tryz.underlying36 hi0 hz0 hz1 hz2 rfl v23 0 [] (by rfl) HO23.out (.slice (some ⟨z22, 0, none⟩) 1 1) 1 ([.string (bs s)] : List Value) (by rfl) (src_block Tryz.underlying36 _ z22 (([.string (bs s)] : List Value)).toArray HY23_6.out rfl (by simp [Value.oneCell'])) (by have := HNL.out; have := HJ.out; unfold maxLen; omega) (by have := HNL.out; have := HJ.out; omega) HB23.out.size ?_
                intro v24 w24x ho24 hg24 hn24 hk24
                have HO24 : Hid (w24x.ownsRow wr.heap.size 9 1 v24 (0 + 1) ([] ++ [.string (bs s)])) := Lib.hid (by exact ho24)
                have hb24 : Below wr.heap.size wr w24x := HB23.out.trans ((Fr.of_grown hg24).below (by intro y hy; exact own_lo HO23.out (Option.mem_toList.1 hy)) HB23.out.size)
                have HB24 := Lib.hid hb24
                refine hK.out _ _ (HSS.out _ hb24) (fun hS24 => ?_)
                clear hK K hb24 ho24 hg24 hn24 hk24 hS23
                (try simp only [Act.put]); (try simp only [List.setIfInBounds_toArray]); (try simp only [List.set_cons_succ]); (try simp only [List.set_cons_zero])
                refine wpAnyH_ready (rs := [11]) (by kernel_rfl) (by simp) ?_
                refine (AllReadyH.cons rfl (fun K hK => ?_) AllReadyH.nil)
                refine step_app rfl (.tmp 61) (.tmp 64) 36 36 rfl wr.heap.size 9 i0 (.string ⟨#[]⟩) 1 16 Tryz.underlying36 hi0 hz0 hz1 hz2 rfl v24 (0 + 1) ([] ++ [.string (bs s)]) (by rfl) HO24.out (.slice none 0 0) 0 [] (by rfl) (Row.src Tryz.underlying36 (row_nil _ 1)) (by have := HNL.out; have := HJ.out; unfold maxLen; omega) (by have := HNL.out; have := HJ.out; omega) HB24.out.size ?_
                intro v25 w25x ho25 hg25 hn25 hk25
                have HO25 : Hid (w25x.ownsRow wr.heap.size 9 1 v25 (0 + 1 + 0) ([] ++ [.string (bs s)] ++ [])) := Lib.hid (by exact ho25)
                have hb25 : Below wr.heap.size wr w25x := HB24.out.trans ((Fr.of_grown hg25).below (by intro y hy; exact own_lo HO24.out (Option.mem_toList.1 hy)) HB24.out.size)
                have HB25 := Lib.hid hb25
                refine hK.out _ _ (HSS.out _ hb25) (fun hS25 => ?_)
                clear hK K hb25 ho25 hg25 hn25 hk25 hS24
                (try simp only [Act.put]); (try simp only [List.setIfInBounds_toArray]); (try simp only [List.set_cons_succ]); (try simp only [List.set_cons_zero])
                refine wpAnyH_take (i := 12) (v := ?v19) rfl (by kernel_rfl) (by kernel_rfl) (by kernel_rfl) (fun _ _ _ h => h) (Or.inl ⟨by rfl, ?hy19⟩) (by assumption) ?rest19
                case hy19 => (intro _ hSw; (try dsimp only at hSw); go_simp; (try with_reducible rfl))
                (try simp only [Act.put]); (try simp only [List.setIfInBounds_toArray]); (try simp only [List.set_cons_succ]); (try simp only [List.set_cons_zero])
                refine wpAnyH_done (by kernel_rfl) ?_ _
                refine NoPanic.normal ?_
                clear hS25 hHeld
                have HWB : Hid (Below w2.heap.size w2 w25x) := Lib.hid (below_and HB.out HB25.out)
                have HNW : Hid (w25x.ownsRow w.heap.size 9 1 v25 (namesD (L.take (i + 1))).length ((namesD (L.take (i + 1))).map sV)) := Lib.hid (by
                  have ho := own_mono HO25.out HBr.out.size
                  rw [HNX.out]
                  have e1 : ([] ++ [.string (bs s)] ++ []) = (([s]).map sV) := by simp [sV]
                  have e2 : (0 + 1 + 0) = ([s]).length := by have := HJ.out; simp <;> omega
                  rw [e1, e2] at ho
                  exact ho)
                go_wp2
                go_roundw
                case rel => exact ⟨i + 1, hlt, by go_num, HNW, HWB⟩
                case measure => simp [intOf]; omega
            · (try simp only [List.getElem_toArray]); (try simp only [List.getElem_cons_succ]); (try simp only [List.getElem_cons_zero])
              go_simp
              obtain ⟨w26x, hw26⟩ : ∃ xq, xq = wd16.alloc (.cells #[.string (bs s)] 9) := ⟨_, rfl⟩
              obtain ⟨z26, hz26⟩ : ∃ xq, xq = wd16.heap.size := ⟨_, rfl⟩
              have hn26 : Below wd16.heap.size wd16 w26x := by rw [hw26]; exact below_alloc _ _
              have hb26 : Below wr.heap.size wr w26x := below_and HB16.out hn26
              have HB26 := Lib.hid hb26
              have HY26_6 : Hid (Blk w26x z26 ([.string (bs s)] : List Value) 9) := Lib.hid (by rw [hw26, hz26]; exact Blk.made wd16 ([.string (bs s)] : List Value) _)
              rw [← hw26, ← hz26]
              refine hK.out _ _ (HSS.out _ hb26) (fun hS26 => ?_)
              clear hK K hb26 hw26 hz26 hn26 hS16
              (try simp only [Act.put]); (try simp only [List.setIfInBounds_toArray]); (try simp only [List.set_cons_succ]); (try simp only [List.set_cons_zero])
              refine wpAnyH_ready (rs := [0]) (by kernel_rfl) (by simp) ?_
              refine (AllReadyH.cons rfl (fun K hK => ?_) AllReadyH.nil)
              (try simp only [List.getElem_toArray]); (try simp only [List.getElem_cons_succ]); (try simp only [List.getElem_cons_zero])
              go_simp
              obtain ⟨w27x, hw27⟩ : ∃ xq, xq = w26x.alloc (.cells #[] 9) := ⟨_, rfl⟩
              obtain ⟨z27, hz27⟩ : ∃ xq, xq = w26x.heap.size := ⟨_, rfl⟩
              have hn27 : Below w26x.heap.size w26x w27x := by rw [hw27]; exact below_alloc _ _
              have hb27 : Below wr.heap.size wr w27x := below_and HB26.out hn27
              have HB27 := Lib.hid hb27
              have HY27_6 := Lib.hid (HY26_6.out.kept hn27)
              have HNE27_6 : Hid (∀ q, (Value.slice (some ⟨z27, 0, none⟩) 0 0).ownBlock = some q → q ≠ z26) := Lib.hid (fun q hq => by simp [Value.ownBlock] at hq; have := HY26_6.out.lt; omega)
              have HO27 : Hid (w27x.ownsRow wr.heap.size 9 1 (.slice (some ⟨z27, 0, none⟩) 0 0) 0 []) := Lib.hid (by rw [hw27, hz27]; exact World.ownsRow_made w26x #[] 0 HB26.out.size (by decide) rfl)
              rw [← hw27, ← hz27]
              refine hK.out _ _ (HSS.out _ hb27) (fun hS27 => ?_)
              clear hK K hb27 hw27 hz27 hn27 hS26
              (try simp only [Act.put]); (try simp only [List.setIfInBounds_toArray]); (try simp only [List.set_cons_succ]); (try simp only [List.set_cons_zero])
              refine wpAnyH_ready (rs := [4]) (by kernel_rfl) (by simp) ?_
              refine (AllReadyH.cons rfl (fun K hK => ?_) AllReadyH.nil)
              refine step_app rfl (.tmp 54) (.tmp 57) 36 36 rfl wr.heap.size 9 i0 (.string ⟨#[]⟩) 1 16 Tryz.underlying36 hi0 hz0 hz1 hz2 rfl (.slice (some ⟨z27, 0, none⟩) 0 0) 0 [] (by rfl) HO27.out (.slice none 0 0) 0 [] (by rfl) (Row.src Tryz.underlying36 (row_nil _ 1)) (by have := HNL.out; have := HJ.out; unfold maxLen; omega) (by have := HNL.out; have := HJ.out; omega) HB27.out.size ?_
              intro v28 w28x ho28 hg28 hn28 hk28
              have HO28 : Hid (w28x.ownsRow wr.heap.size 9 1 v28 0 []) := Lib.hid (by simpa using ho28)
              have hb28 : Below wr.heap.size wr w28x := HB27.out.trans ((Fr.of_grown hg28).below (by intro y hy; exact own_lo HO27.out (Option.mem_toList.1 hy)) HB27.out.size)
              have HB28 := Lib.hid hb28
              have HY28_6 := Lib.hid (HY27_6.out.fr (Fr.of_grown hg28) (fun hm => HNE27_6.out _ (Option.mem_toList.1 hm) rfl))
              have HNE28_6 : Hid (∀ q, v28.ownBlock = some q → q ≠ z26) := Lib.hid (fun q hq => by rcases hk28 q hq with h1 | h1; exact HNE27_6.out q h1; have := HY27_6.out.lt; omega)
              refine hK.out _ _ (HSS.out _ hb28) (fun hS28 => ?_)
              clear hK K hb28 ho28 hg28 hn28 hk28 hS27
              (try simp only [Act.put]); (try simp only [List.setIfInBounds_toArray]); (try simp only [List.set_cons_succ]); (try simp only [List.set_cons_zero])
              refine wpAnyH_ready (rs := [7]) (by kernel_rfl) (by simp) ?_
              refine (AllReadyH.cons rfl (fun K hK => ?_) AllReadyH.nil)
              refine step_app rfl (.tmp 58) (.tmp 60) 36 36 rfl wr.heap.size 9 i0 (.string ⟨#[]⟩) 1 16 Tryz.underlying36 hi0 hz0 hz1 hz2 rfl v28 0 [] (by rfl) HO28.out (.slice (some ⟨z26, 0, none⟩) 1 1) 1 ([.string (bs s)] : List Value) (by rfl) (src_block Tryz.underlying36 _ z26 (([.string (bs s)] : List Value)).toArray HY28_6.out rfl (by simp [Value.oneCell'])) (by have := HNL.out; have := HJ.out; unfold maxLen; omega) (by have := HNL.out; have := HJ.out; omega) HB28.out.size ?_
              intro v29 w29x ho29 hg29 hn29 hk29
              have HO29 : Hid (w29x.ownsRow wr.heap.size 9 1 v29 (0 + 1) ([] ++ [.string (bs s)])) := Lib.hid (by exact ho29)
              have hb29 : Below wr.heap.size wr w29x := HB28.out.trans ((Fr.of_grown hg29).below (by intro y hy; exact own_lo HO28.out (Option.mem_toList.1 hy)) HB28.out.size)
              have HB29 := Lib.hid hb29
              refine hK.out _ _ (HSS.out _ hb29) (fun hS29 => ?_)
              clear hK K hb29 ho29 hg29 hn29 hk29 hS28
              (try simp only [Act.put]); (try simp only [List.setIfInBounds_toArray]); (try simp only [List.set_cons_succ]); (try simp only [List.set_cons_zero])
              refine wpAnyH_ready (rs := [11]) (by kernel_rfl) (by simp) ?_
              refine (AllReadyH.cons rfl (fun K hK => ?_) AllReadyH.nil)
              refine step_app rfl (.tmp 61) (.tmp 64) 36 36 rfl wr.heap.size 9 i0 (.string ⟨#[]⟩) 1 16 Tryz.underlying36 hi0 hz0 hz1 hz2 rfl v29 (0 + 1) ([] ++ [.string (bs s)]) (by rfl) HO29.out (.slice none 0 0) 0 [] (by rfl) (Row.src Tryz.underlying36 (row_nil _ 1)) (by have := HNL.out; have := HJ.out; unfold maxLen; omega) (by have := HNL.out; have := HJ.out; omega) HB29.out.size ?_
              intro v30 w30x ho30 hg30 hn30 hk30
              have HO30 : Hid (w30x.ownsRow wr.heap.size 9 1 v30 (0 + 1 + 0) ([] ++ [.string (bs s)] ++ [])) := Lib.hid (by exact ho30)
              have hb30 : Below wr.heap.size wr w30x := HB29.out.trans ((Fr.of_grown hg30).below (by intro y hy; exact own_lo HO29.out (Option.mem_toList.1 hy)) HB29.out.size)
              have HB30 := Lib.hid hb30
              refine hK.out _ _ (HSS.out _ hb30) (fun hS30 => ?_)
              clear hK K hb30 ho30 hg30 hn30 hk30 hS29
              (try simp only [Act.put]); (try simp only [List.setIfInBounds_toArray]); (try simp only [List.set_cons_succ]); (try simp only [List.set_cons_zero])
              refine wpAnyH_take (i := 12) (v := ?v20) rfl (by kernel_rfl) (by kernel_rfl) (by kernel_rfl) (fun _ _ _ h => h) (Or.inl ⟨by rfl, ?hy20⟩) (by assumption) ?rest20
              case hy20 => (intro _ hSw; (try dsimp only at hSw); go_simp; (try with_reducible rfl))
              (try simp only [Act.put]); (try simp only [List.setIfInBounds_toArray]); (try simp only [List.set_cons_succ]); (try simp only [List.set_cons_zero])
              refine wpAnyH_done (by kernel_rfl) ?_ _
              refine NoPanic.normal ?_
              clear hS30 hHeld
              have HWB : Hid (Below w2.heap.size w2 w30x) := Lib.hid (below_and HB.out HB30.out)
              have HNW : Hid (w30x.ownsRow w.heap.size 9 1 v30 (namesD (L.take (i + 1))).length ((namesD (L.take (i + 1))).map sV)) := Lib.hid (by
                have ho := own_mono HO30.out HBr.out.size
                rw [HNX.out]
                have e1 : ([] ++ [.string (bs s)] ++ []) = (([s]).map sV) := by simp [sV]
                have e2 : (0 + 1 + 0) = ([s]).length := by have := HJ.out; simp <;> omega
                rw [e1, e2] at ho
                exact ho)
              go_wp2
              go_roundw
              case rel => exact ⟨i + 1, hlt, by go_num, HNW, HWB⟩
              case measure => simp [intOf]; omega
          ·
            simp only [Value.slice.injEq] at hv9
            obtain ⟨rfl, -, rfl⟩ := hv9
            have i4 : ((j : Int) == (ns.length : Int)) = true := by simp; have := HJE.out; omega
            have i5 : ¬ ((j : Int) < (ns.length : Int)) := by have := HJE.out; omega
            have i3 : (0 : Int) ≤ (j : Int) := by omega
            have i2 : (j : Int) ≤ (ns.length : Int) := by omega
            clear hjl
            cases em
            rotate_left
            ·
              have HNE : Hid (namesD (L.take (i + 1)) = ns) := Lib.hid (by rw [HNX.out]; simp)
              go_wp2
              go_roundw
              case rel => exact ⟨i + 1, hlt, by go_num, by rw [HNE.out]; exact HO, HB⟩
              case measure => simp [intOf]; omega
            clear hem
            go_upto_region 12 with fail
            have HSS : Hid (∀ w', Below wr.heap.size wr w' → Below wr.heap.size wr w') := Lib.hid (fun _ h => h)
            have HNX' := HNX
            clear HNX
            have HNX : Hid (namesD (L.take (i + 1)) = ns.take j ++ [s] ++ ns.drop j) := Lib.hid (by rw [HNX'.out]; simp)
            clear HNX' hbs0 i4 i5
            refine wp_region_noPanic ?_
            refine wp_region_held_drew (S := fun w' => Below wr.heap.size wr w') (by kernel_rfl) (HSS.out _ (below_drewN 1)) (fun hHeld => ?_)
            have HB31 : Hid (Below wr.heap.size wr wr.drew) := Lib.hid (below_drewN 1)
            have hS31 : True := trivial
            obtain ⟨wd31, hwd⟩ : ∃ xq, xq = wr.drew := ⟨_, rfl⟩
            rw [← hwd] at hHeld HB31 ⊢
            clear hwd
            refine wpAnyH_take (i := 1) (v := ?v21) rfl (by kernel_rfl) (by kernel_rfl) (by kernel_rfl) (fun _ _ _ h => h) (Or.inl ⟨by rfl, ?hy21⟩) (by assumption) ?rest21
            case hy21 => (intro _ hSw; (try dsimp only at hSw); go_simp; (try with_reducible rfl))
            (try simp only [Act.put]); (try simp only [List.setIfInBounds_toArray]); (try simp only [List.set_cons_succ]); (try simp only [List.set_cons_zero])
            refine wpAnyH_take (i := 2) (v := ?v22) rfl (by kernel_rfl) (by kernel_rfl) (by kernel_rfl) (fun _ _ _ h => h) (Or.inl ⟨by rfl, ?hy22⟩) (by assumption) ?rest22
            case hy22 => (intro _ hSw; (try dsimp only at hSw); go_simp; (try with_reducible rfl))
            (try simp only [Act.put]); (try simp only [List.setIfInBounds_toArray]); (try simp only [List.set_cons_succ]); (try simp only [List.set_cons_zero])
            refine wpAnyH_take (i := 3) (v := ?v23) rfl (by kernel_rfl) (by kernel_rfl) (by kernel_rfl) (fun _ _ _ h => h) (Or.inl ⟨by rfl, ?hy23⟩) (by assumption) ?rest23
            case hy23 => (intro _ hSw; (try dsimp only at hSw); go_simp; (try with_reducible rfl))
            (try simp only [Act.put]); (try simp only [List.setIfInBounds_toArray]); (try simp only [List.set_cons_succ]); (try simp only [List.set_cons_zero])
            refine wpAnyH_take (i := 5) (v := ?v24) rfl (by kernel_rfl) (by kernel_rfl) (by kernel_rfl) (fun _ _ _ h => h) (Or.inl ⟨by rfl, ?hy24⟩) (by assumption) ?rest24
            case hy24 => (intro _ hSw; (try dsimp only at hSw); go_simp; (try with_reducible rfl))
            (try simp only [Act.put]); (try simp only [List.setIfInBounds_toArray]); (try simp only [List.set_cons_succ]); (try simp only [List.set_cons_zero])
            refine wpAnyH_take (i := 8) (v := ?v25) rfl (by kernel_rfl) (by kernel_rfl) (by kernel_rfl) (fun _ _ _ h => h) (Or.inl ⟨by rfl, ?hy25⟩) (by assumption) ?rest25
            case hy25 => (intro _ hSw; (try dsimp only at hSw); go_simp; (try with_reducible rfl))
            (try simp only [Act.put]); (try simp only [List.setIfInBounds_toArray]); (try simp only [List.set_cons_succ]); (try simp only [List.set_cons_zero])
            refine wpAnyH_take (i := 9) (v := ?v26) rfl (by kernel_rfl) (by kernel_rfl) (by kernel_rfl) (fun _ _ _ h => h) (Or.inl ⟨by rfl, ?hy26⟩) (by assumption) ?rest26
            case hy26 => (intro _ hSw; (try dsimp only at hSw); go_simp; (try with_reducible rfl))
            (try simp only [Act.put]); (try simp only [List.setIfInBounds_toArray]); (try simp only [List.set_cons_succ]); (try simp only [List.set_cons_zero])
            refine wpAnyH_take (i := 10) (v := ?v27) rfl (by kernel_rfl) (by kernel_rfl) (by kernel_rfl) (fun _ _ _ h => h) (Or.inl ⟨by rfl, ?hy27⟩) (by assumption) ?rest27
            case hy27 => (intro _ hSw; (try dsimp only at hSw); go_simp; (try with_reducible rfl))
            (try simp only [Act.put]); (try simp only [List.setIfInBounds_toArray]); (try simp only [List.set_cons_succ]); (try simp only [List.set_cons_zero])
            (try simp only [List.getElem_toArray]); (try simp only [List.getElem_cons_succ]); (try simp only [List.getElem_cons_zero]); (try simp only [List.setIfInBounds_toArray]); (try simp only [List.set_cons_succ, List.set_cons_zero])
            refine wpAnyH_ready (rs := [0, 6]) (by kernel_rfl) (by simp) ?_
            refine (AllReadyH.cons rfl (fun K hK => ?_) (AllReadyH.cons rfl (fun K hK => ?_) AllReadyH.nil))
            · (try simp only [List.getElem_toArray]); (try simp only [List.getElem_cons_succ]); (try simp only [List.getElem_cons_zero])
              go_simp
              obtain ⟨w32x, hw32⟩ : ∃ xq, xq = wd31.alloc (.cells #[] 9) := ⟨_, rfl⟩
              obtain ⟨z32, hz32⟩ : ∃ xq, xq = wd31.heap.size := ⟨_, rfl⟩
              have hn32 : Below wd31.heap.size wd31 w32x := by rw [hw32]; exact below_alloc _ _
              have hb32 : Below wr.heap.size wr w32x := below_and HB31.out hn32
              have HB32 := Lib.hid hb32
              have HO32 : Hid (w32x.ownsRow wr.heap.size 9 1 (.slice (some ⟨z32, 0, none⟩) 0 0) 0 []) := Lib.hid (by rw [hw32, hz32]; exact World.ownsRow_made wd31 #[] 0 HB31.out.size (by decide) rfl)
              rw [← hw32, ← hz32]
              refine hK.out _ _ (HSS.out _ hb32) (fun hS32 => ?_)
              clear hK K hb32 hw32 hz32 hn32 hS31
              (try simp only [Act.put]); (try simp only [List.setIfInBounds_toArray]); (try simp only [List.set_cons_succ]); (try simp only [List.set_cons_zero])
              refine wpAnyH_ready (rs := [4, 6]) (by kernel_rfl) (by simp) ?_
              refine (AllReadyH.cons rfl (fun K hK => ?_) (AllReadyH.cons rfl (fun K hK => ?_) AllReadyH.nil))
              · refine step_app rfl (.tmp 54) (.tmp 57) 36 36 rfl wr.heap.size 9 i0 (.string ⟨#[]⟩) 1 16 Tryz.underlying36 hi0 hz0 hz1 hz2 rfl (.slice (some ⟨z32, 0, none⟩) 0 0) 0 [] (by rfl) HO32.out (.slice (some ⟨q0, 0, none⟩) j c3) j ((ns.take j).map sV) (by rfl) (Row.src Tryz.underlying36 (by have := row_partN (own_fr HO.out (Fr.of_below HB32.out []) (fun _ _ => by simp)) (sV_one ns) (o := 0) (m := j) (c' := c3) (by have := HJ.out; omega) (by have := HJ.out; omega) hcm3 (some ⟨q0, 0, none⟩) (by simp) (fun _ => by simp); simpa [List.map_take] using this)) (by have := HNL.out; have := HJ.out; unfold maxLen; omega) (by have := HNL.out; have := HJ.out; omega) HB32.out.size ?_
                intro v33 w33x ho33 hg33 hn33 hk33
                have HO33 : Hid (w33x.ownsRow wr.heap.size 9 1 v33 j ((ns.take j).map sV)) := Lib.hid (by simpa using ho33)
                have hb33 : Below wr.heap.size wr w33x := HB32.out.trans ((Fr.of_grown hg33).below (by intro y hy; exact own_lo HO32.out (Option.mem_toList.1 hy)) HB32.out.size)
                have HB33 := Lib.hid hb33
                refine hK.out _ _ (HSS.out _ hb33) (fun hS33 => ?_)
                clear hK K hb33 ho33 hg33 hn33 hk33 hS32
                (try simp only [Act.put]); (try simp only [List.setIfInBounds_toArray]); (try simp only [List.set_cons_succ]); (try simp only [List.set_cons_zero])
                refine wpAnyH_ready (rs := [6]) (by kernel_rfl) (by simp) ?_
                refine (AllReadyH.cons rfl (fun K hK => ?_) AllReadyH.nil)
                (try simp only [List.getElem_toArray]); (try simp only [List.getElem_cons_succ]); (try simp only [List.getElem_cons_zero])
                go_simp
                obtain ⟨w34x, hw34⟩ : ∃ xq, xq = w33x.alloc (.cells #[.string (bs s)] 9) := ⟨_, rfl⟩
                obtain ⟨z34, hz34⟩ : ∃ xq, xq = w33x.heap.size := ⟨_, rfl⟩
                have hn34 : Below w33x.heap.size w33x w34x := by rw [hw34]; exact below_alloc _ _
                have hb34 : Below wr.heap.size wr w34x := below_and HB33.out hn34
                have HB34 := Lib.hid hb34
                have HY34_6 : Hid (Blk w34x z34 ([.string (bs s)] : List Value) 9) := Lib.hid (by rw [hw34, hz34]; exact Blk.made w33x ([.string (bs s)] : List Value) _)
                have HO34 := Lib.hid (own_fr HO33.out (Fr.of_below hn34 []) (fun _ _ => by simp))
                have HNE34_6 : Hid (∀ q, (v33 : Value).ownBlock = some q → q ≠ z34) := Lib.hid (fun q hq => by have := own_hi HO33.out hq; omega)
                rw [← hw34, ← hz34]
                refine hK.out _ _ (HSS.out _ hb34) (fun hS34 => ?_)
                clear hK K hb34 hw34 hz34 hn34 hS33
                (try simp only [Act.put]); (try simp only [List.setIfInBounds_toArray]); (try simp only [List.set_cons_succ]); (try simp only [List.set_cons_zero])
                refine wpAnyH_ready (rs := [7]) (by kernel_rfl) (by simp) ?_
                refine (AllReadyH.cons rfl (fun K hK => ?_) AllReadyH.nil)
                refine step_app rfl (.tmp 58) (.tmp 60) 36 36 rfl wr.heap.size 9 i0 (.string ⟨#[]⟩) 1 16 Tryz.underlying36 hi0 hz0 hz1 hz2 rfl v33 j ((ns.take j).map sV) (by rfl) HO34.out (.slice (some ⟨z34, 0, none⟩) 1 1) 1 ([.string (bs s)] : List Value) (by rfl) (src_block Tryz.underlying36 _ z34 (([.string (bs s)] : List Value)).toArray HY34_6.out rfl (by simp [Value.oneCell'])) (by have := HNL.out; have := HJ.out; unfold maxLen; omega) (by have := HNL.out; have := HJ.out; omega) HB34.out.size ?_
                intro v35 w35x ho35 hg35 hn35 hk35
                have HO35 : Hid (w35x.ownsRow wr.heap.size 9 1 v35 (j + 1) (((ns.take j).map sV) ++ [.string (bs s)])) := Lib.hid (by exact ho35)
                have hb35 : Below wr.heap.size wr w35x := HB34.out.trans ((Fr.of_grown hg35).below (by intro y hy; exact own_lo HO34.out (Option.mem_toList.1 hy)) HB34.out.size)
                have HB35 := Lib.hid hb35
                refine hK.out _ _ (HSS.out _ hb35) (fun hS35 => ?_)
                clear hK K hb35 ho35 hg35 hn35 hk35 hS34
                (try simp only [Act.put]); (try simp only [List.setIfInBounds_toArray]); (try simp only [List.set_cons_succ]); (try simp only [List.set_cons_zero])
                refine wpAnyH_ready (rs := [11]) (by kernel_rfl) (by simp) ?_
                refine (AllReadyH.cons rfl (fun K hK => ?_) AllReadyH.nil)
                refine step_app rfl (.tmp 61) (.tmp 64) 36 36 rfl wr.heap.size 9 i0 (.string ⟨#[]⟩) 1 16 Tryz.underlying36 hi0 hz0 hz1 hz2 rfl v35 (j + 1) (((ns.take j).map sV) ++ [.string (bs s)]) (by rfl) HO35.out (.slice (if c3 = j then some ⟨q0, 0, none⟩ else some ⟨q0, j, none⟩) (ns.length - j) (c3 - j)) (ns.length - j) ((ns.drop j).map sV) (by rfl) (Row.src Tryz.underlying36 (by have := row_partN (own_fr HO.out (Fr.of_below HB35.out []) (fun _ _ => by simp)) (sV_one ns) (o := j) (m := ns.length - j) (c' := c3 - j) (by have := HJ.out; omega) (by omega) (by omega) (if c3 = j then some ⟨q0, 0, none⟩ else some ⟨q0, j, none⟩) (by split <;> simp) (fun _ => by rw [if_neg (by have := HJ.out; omega)]); rw [List.take_of_length_le (by simp)] at this; simpa [List.map_drop] using this)) (by have := HNL.out; have := HJ.out; unfold maxLen; omega) (by have := HNL.out; have := HJ.out; omega) HB35.out.size ?_
                intro v36 w36x ho36 hg36 hn36 hk36
                have HO36 : Hid (w36x.ownsRow wr.heap.size 9 1 v36 (j + 1 + (ns.length - j)) (((ns.take j).map sV) ++ [.string (bs s)] ++ ((ns.drop j).map sV))) := Lib.hid (by exact ho36)
                have hb36 : Below wr.heap.size wr w36x := HB35.out.trans ((Fr.of_grown hg36).below (by intro y hy; exact own_lo HO35.out (Option.mem_toList.1 hy)) HB35.out.size)
                have HB36 := Lib.hid hb36
                refine hK.out _ _ (HSS.out _ hb36) (fun hS36 => ?_)
                clear hK K hb36 ho36 hg36 hn36 hk36 hS35
                (try simp only [Act.put]); (try simp only [List.setIfInBounds_toArray]); (try simp only [List.set_cons_succ]); (try simp only [List.set_cons_zero])
                refine wpAnyH_take (i := 12) (v := ?v28) rfl (by kernel_rfl) (by kernel_rfl) (by kernel_rfl) (fun _ _ _ h => h) (Or.inl ⟨by rfl, ?hy28⟩) (by assumption) ?rest28
                case hy28 => (intro _ hSw; (try dsimp only at hSw); go_simp; (try with_reducible rfl))
                (try simp only [Act.put]); (try simp only [List.setIfInBounds_toArray]); (try simp only [List.set_cons_succ]); (try simp only [List.set_cons_zero])
                refine wpAnyH_done (by kernel_rfl) ?_ _
                refine NoPanic.normal ?_
                clear hS36 hHeld
                generalize (if c3 = j then some (⟨q0, 0, none⟩ : Addr) else some ⟨q0, j, none⟩) = pp
                have HWB : Hid (Below w2.heap.size w2 w36x) := Lib.hid (below_and HB.out HB36.out)
                have HNW : Hid (w36x.ownsRow w.heap.size 9 1 v36 (namesD (L.take (i + 1))).length ((namesD (L.take (i + 1))).map sV)) := Lib.hid (by
                  have ho := own_mono HO36.out HBr.out.size
                  rw [HNX.out]
                  have e1 : (((ns.take j).map sV) ++ [.string (bs s)] ++ ((ns.drop j).map sV)) = ((ns.take j ++ [s] ++ ns.drop j).map sV) := by simp [sV]
                  have e2 : (j + 1 + (ns.length - j)) = (ns.take j ++ [s] ++ ns.drop j).length := by have := HJ.out; simp <;> omega
                  rw [e1, e2] at ho
                  exact ho)
                go_wp2
                go_roundw
                case rel => exact ⟨i + 1, hlt, by go_num, HNW, HWB⟩
                case measure => simp [intOf]; omega
              · (try simp only [List.getElem_toArray]); (try simp only [List.getElem_cons_succ]); (try simp only [List.getElem_cons_zero])
                go_simp
                obtain ⟨w37x, hw37⟩ : ∃ xq, xq = w32x.alloc (.cells #[.string (bs s)] 9) := ⟨_, rfl⟩
                obtain ⟨z37, hz37⟩ : ∃ xq, xq = w32x.heap.size := ⟨_, rfl⟩
                have hn37 : Below w32x.heap.size w32x w37x := by rw [hw37]; exact below_alloc _ _
                have hb37 : Below wr.heap.size wr w37x := below_and HB32.out hn37
                have HB37 := Lib.hid hb37
                have HY37_6 : Hid (Blk w37x z37 ([.string (bs s)] : List Value) 9) := Lib.hid (by rw [hw37, hz37]; exact Blk.made w32x ([.string (bs s)] : List Value) _)
                have HO37 := Lib.hid (own_fr HO32.out (Fr.of_below hn37 []) (fun _ _ => by simp))
                have HNE37_6 : Hid (∀ q, ((.slice (some ⟨z32, 0, none⟩) 0 0) : Value).ownBlock = some q → q ≠ z37) := Lib.hid (fun q hq => by have := own_hi HO32.out hq; omega)
                rw [← hw37, ← hz37]
                refine hK.out _ _ (HSS.out _ hb37) (fun hS37 => ?_)
                clear hK K hb37 hw37 hz37 hn37 hS32
                (try simp only [Act.put]); (try simp only [List.setIfInBounds_toArray]); (try simp only [List.set_cons_succ]); (try simp only [List.set_cons_zero])
                refine wpAnyH_ready (rs := [4]) (by kernel_rfl) (by simp) ?_
                refine (AllReadyH.cons rfl (fun K hK => ?_) AllReadyH.nil)
                refine step_app rfl (.tmp 54) (.tmp 57) 36 36 rfl wr.heap.size 9 i0 (.string ⟨#[]⟩) 1 16 Tryz.underlying36 hi0 hz0 hz1 hz2 rfl (.slice (some ⟨z32, 0, none⟩) 0 0) 0 [] (by rfl) HO37.out (.slice (some ⟨q0, 0, none⟩) j c3) j ((ns.take j).map sV) (by rfl) (Row.src Tryz.underlying36 (by have := row_partN (own_fr HO.out (Fr.of_below HB37.out []) (fun _ _ => by simp)) (sV_one ns) (o := 0) (m := j) (c' := c3) (by have := HJ.out; omega) (by have := HJ.out; omega) hcm3 (some ⟨q0, 0, none⟩) (by simp) (fun _ => by simp); simpa [List.map_take] using this)) (by have := HNL.out; have := HJ.out; unfold maxLen; omega) (by have := HNL.out; have := HJ.out; omega) HB37.out.size ?_
                intro v38 w38x ho38 hg38 hn38 hk38
                have HO38 : Hid (w38x.ownsRow wr.heap.size 9 1 v38 j ((ns.take j).map sV)) := Lib.hid (by simpa using ho38)
                have hb38 : Below wr.heap.size wr w38x := HB37.out.trans ((Fr.of_grown hg38).below (by intro y hy; exact own_lo HO37.out (Option.mem_toList.1 hy)) HB37.out.size)
                have HB38 := Lib.hid hb38
                have HY38_6 := Lib.hid (HY37_6.out.fr (Fr.of_grown hg38) (fun hm => HNE37_6.out _ (Option.mem_toList.1 hm) rfl))
                have HNE38_6 : Hid (∀ q, v38.ownBlock = some q → q ≠ z37) := Lib.hid (fun q hq => by rcases hk38 q hq with h1 | h1; exact HNE37_6.out q h1; have := HY37_6.out.lt; omega)
                refine hK.out _ _ (HSS.out _ hb38) (fun hS38 => ?_)
                clear hK K hb38 ho38 hg38 hn38 hk38 hS37
                (try simp only [Act.put]); (try simp only [List.setIfInBounds_toArray]); (try simp only [List.set_cons_succ]); (try simp only [List.set_cons_zero])
                refine wpAnyH_ready (rs := [7]) (by kernel_rfl) (by simp) ?_
                refine (AllReadyH.cons rfl (fun K hK => ?_) AllReadyH.nil)
                refine step_app rfl (.tmp 58) (.tmp 60) 36 36 rfl wr.heap.size 9 i0 (.string ⟨#[]⟩) 1 16 Tryz.underlying36 hi0 hz0 hz1 hz2 rfl v38 j ((ns.take j).map sV) (by rfl) HO38.out (.slice (some ⟨z37, 0, none⟩) 1 1) 1 ([.string (bs s)] : List Value) (by rfl) (src_block Tryz.underlying36 _ z37 (([.string (bs s)] : List Value)).toArray HY38_6.out rfl (by simp [Value.oneCell'])) (by have := HNL.out; have := HJ.out; unfold maxLen; omega) (by have := HNL.out; have := HJ.out; omega) HB38.out.size ?_
                intro v39 w39x ho39 hg39 hn39 hk39
                have HO39 : Hid (w39x.ownsRow wr.heap.size 9 1 v39 (j + 1) (((ns.take j).map sV) ++ [.string (bs s)])) := Lib.hid (by exact ho39)
                have hb39 : Below wr.heap.size wr w39x := HB38.out.trans ((Fr.of_grown hg39).below (by intro y hy; exact own_lo HO38.out (Option.mem_toList.1 hy)) HB38.out.size)
                have HB39 := Lib.hid hb39
                refine hK.out _ _ (HSS.out _ hb39) (fun hS39 => ?_)
                clear hK K hb39 ho39 hg39 hn39 hk39 hS38
                (try simp only [Act.put]); (try simp only [List.setIfInBounds_toArray]); (try simp only [List.set_cons_succ]); (try simp only [List.set_cons_zero])
                refine wpAnyH_ready (rs := [11]) (by kernel_rfl) (by simp) ?_
                refine (AllReadyH.cons rfl (fun K hK => ?_) AllReadyH.nil)
                refine step_app rfl (.tmp 61) (.tmp 64) 36 36 rfl wr.heap.size 9 i0 (.string ⟨#[]⟩) 1 16 Tryz.underlying36 hi0 hz0 hz1 hz2 rfl v39 (j + 1) (((ns.take j).map sV) ++ [.string (bs s)]) (by rfl) HO39.out (.slice (if c3 = j then some ⟨q0, 0, none⟩ else some ⟨q0, j, none⟩) (ns.length - j) (c3 - j)) (ns.length - j) ((ns.drop j).map sV) (by rfl) (Row.src Tryz.underlying36 (by have := row_partN (own_fr HO.out (Fr.of_below HB39.out []) (fun _ _ => by simp)) (sV_one ns) (o := j) (m := ns.length - j) (c' := c3 - j) (by have := HJ.out; omega) (by omega) (by omega) (if c3 = j then some ⟨q0, 0, none⟩ else some ⟨q0, j, none⟩) (by split <;> simp) (fun _ => by rw [if_neg (by have := HJ.out; omega)]); rw [List.take_of_length_le (by simp)] at this; simpa [List.map_drop] using this)) (by have := HNL.out; have := HJ.out; unfold maxLen; omega) (by have := HNL.out; have := HJ.out; omega) HB39.out.size ?_
                intro v40 w40x ho40 hg40 hn40 hk40
                have HO40 : Hid (w40x.ownsRow wr.heap.size 9 1 v40 (j + 1 + (ns.length - j)) (((ns.take j).map sV) ++ [.string (bs s)] ++ ((ns.drop j).map sV))) := Lib.hid (by exact ho40)
                have hb40 : Below wr.heap.size wr w40x := HB39.out.trans ((Fr.of_grown hg40).below (by intro y hy; exact own_lo HO39.out (Option.mem_toList.1 hy)) HB39.out.size)
                have HB40 := Lib.hid hb40
                refine hK.out _ _ (HSS.out _ hb40) (fun hS40 => ?_)
                clear hK K hb40 ho40 hg40 hn40 hk40 hS39
                (try simp only [Act.put]); (try simp only [List.setIfInBounds_toArray]); (try simp only [List.set_cons_succ]); (try simp only [List.set_cons_zero])
                refine wpAnyH_take (i := 12) (v := ?v29) rfl (by kernel_rfl) (by kernel_rfl) (by kernel_rfl) (fun _ _ _ h => h) (Or.inl ⟨by rfl, ?hy29⟩) (by assumption) ?rest29
                case hy29 => (intro _ hSw; (try dsimp only at hSw); go_simp; (try with_reducible rfl))
                (try simp only [Act.put]); (try simp only [List.setIfInBounds_toArray]); (try simp only [List.set_cons_succ]); (try simp only [List.set_cons_zero])
                refine wpAnyH_done (by kernel_rfl) ?_ _
                refine NoPanic.normal ?_
                clear hS40 hHeld
                generalize (if c3 = j then some (⟨q0, 0, none⟩ : Addr) else some ⟨q0, j, none⟩) = pp
                have HWB : Hid (Below w2.heap.size w2 w40x) := Lib.hid (below_and HB.out HB40.out)
                have HNW : Hid (w40x.ownsRow w.heap.size 9 1 v40 (namesD (L.take (i + 1))).length ((namesD (L.take (i + 1))).map sV)) := Lib.hid (by
                  have ho := own_mono HO40.out HBr.out.size
                  rw [HNX.out]
                  have e1 : (((ns.take j).map sV) ++ [.string (bs s)] ++ ((ns.drop j).map sV)) = ((ns.take j ++ [s] ++ ns.drop j).map sV) := by simp [sV]
                  have e2 : (j + 1 + (ns.length - j)) = (ns.take j ++ [s] ++ ns.drop j).length := by have := HJ.out; simp <;> omega
                  rw [e1, e2] at ho
                  exact ho)
                go_wp2
                go_roundw
                case rel => exact ⟨i + 1, hlt, by go_num, HNW, HWB⟩
                case measure => simp [intOf]; omega
            · (try simp only [List.getElem_toArray]); (try simp only [List.getElem_cons_succ]); (try simp only [List.getElem_cons_zero])
              go_simp
              obtain ⟨w41x, hw41⟩ : ∃ xq, xq = wd31.alloc (.cells #[.string (bs s)] 9) := ⟨_, rfl⟩
              obtain ⟨z41, hz41⟩ : ∃ xq, xq = wd31.heap.size := ⟨_, rfl⟩
              have hn41 : Below wd31.heap.size wd31 w41x := by rw [hw41]; exact below_alloc _ _
              have hb41 : Below wr.heap.size wr w41x := below_and HB31.out hn41
              have HB41 := Lib.hid hb41
              have HY41_6 : Hid (Blk w41x z41 ([.string (bs s)] : List Value) 9) := Lib.hid (by rw [hw41, hz41]; exact Blk.made wd31 ([.string (bs s)] : List Value) _)
              rw [← hw41, ← hz41]
              refine hK.out _ _ (HSS.out _ hb41) (fun hS41 => ?_)
              clear hK K hb41 hw41 hz41 hn41 hS31
              (try simp only [Act.put]); (try simp only [List.setIfInBounds_toArray]); (try simp only [List.set_cons_succ]); (try simp only [List.set_cons_zero])
              refine wpAnyH_ready (rs := [0]) (by kernel_rfl) (by simp) ?_
              refine (AllReadyH.cons rfl (fun K hK => ?_) AllReadyH.nil)
              (try simp only [List.getElem_toArray]); (try simp only [List.getElem_cons_succ]); (try simp only [List.getElem_cons_zero])
              go_simp
              obtain ⟨w42x, hw42⟩ : ∃ xq, xq = w41x.alloc (.cells #[] 9) := ⟨_, rfl⟩
              obtain ⟨z42, hz42⟩ : ∃ xq, xq = w41x.heap.size := ⟨_, rfl⟩
              have hn42 : Below w41x.heap.size w41x w42x := by rw [hw42]; exact below_alloc _ _
              have hb42 : Below wr.heap.size wr w42x := below_and HB41.out hn42
              have HB42 := Lib.hid hb42
              have HY42_6 := Lib.hid (HY41_6.out.kept hn42)
              have HNE42_6 : Hid (∀ q, (Value.slice (some ⟨z42, 0, none⟩) 0 0).ownBlock = some q → q ≠ z41) := Lib.hid (fun q hq => by simp [Value.ownBlock] at hq; have := HY41_6.out.lt; omega)
              have HO42 : Hid (w42x.ownsRow wr.heap.size 9 1 (.slice (some ⟨z42, 0, none⟩) 0 0) 0 []) := Lib.hid (by rw [hw42, hz42]; exact World.ownsRow_made w41x #[] 0 HB41.out.size (by decide) rfl)
              rw [← hw42, ← hz42]
              refine hK.out _ _ (HSS.out _ hb42) (fun hS42 => ?_)
              clear hK K hb42 hw42 hz42 hn42 hS41
              (try simp only [Act.put]); (try simp only [List.setIfInBounds_toArray]); (try simp only [List.set_cons_succ]); (try simp only [List.set_cons_zero])
              refine wpAnyH_ready (rs := [4]) (by kernel_rfl) (by simp) ?_
              refine (AllReadyH.cons rfl (fun K hK => ?_) AllReadyH.nil)
              refine step_app rfl (.tmp 54) (.tmp 57) 36 36 rfl wr.heap.size 9 i0 (.string ⟨#[]⟩) 1 16 Tryz.underlying36 hi0 hz0 hz1 hz2 rfl (.slice (some ⟨z42, 0, none⟩) 0 0) 0 [] (by rfl) HO42.out (.slice (some ⟨q0, 0, none⟩) j c3) j ((ns.take j).map sV) (by rfl) (Row.src Tryz.underlying36 (by have := row_partN (own_fr HO.out (Fr.of_below HB42.out []) (fun _ _ => by simp)) (sV_one ns) (o := 0) (m := j) (c' := c3) (by have := HJ.out; omega) (by have := HJ.out; omega) hcm3 (some ⟨q0, 0, none⟩) (by simp) (fun _ => by simp); simpa [List.map_take] using this)) (by have := HNL.out; have := HJ.out; unfold maxLen; omega) (by have := HNL.out; have := HJ.out; omega) HB42.out.size ?_
              intro v43 w43x ho43 hg43 hn43 hk43
              have HO43 : Hid (w43x.ownsRow wr.heap.size 9 1 v43 j ((ns.take j).map sV)) := Lib.hid (by simpa using ho43)
              have hb43 : Below wr.heap.size wr w43x := HB42.out.trans ((Fr.of_grown hg43).below (by intro y hy; exact own_lo HO42.out (Option.mem_toList.1 hy)) HB42.out.size)
              have HB43 := Lib.hid hb43
              have HY43_6 := Lib.hid (HY42_6.out.fr (Fr.of_grown hg43) (fun hm => HNE42_6.out _ (Option.mem_toList.1 hm) rfl))
              have HNE43_6 : Hid (∀ q, v43.ownBlock = some q → q ≠ z41) := Lib.hid (fun q hq => by rcases hk43 q hq with h1 | h1; exact HNE42_6.out q h1; have := HY42_6.out.lt; omega)
              refine hK.out _ _ (HSS.out _ hb43) (fun hS43 => ?_)
              clear hK K hb43 ho43 hg43 hn43 hk43 hS42
              (try simp only [Act.put]); (try simp only [List.setIfInBounds_toArray]); (try simp only [List.set_cons_succ]); (try simp only [List.set_cons_zero])
              refine wpAnyH_ready (rs := [7]) (by kernel_rfl) (by simp) ?_
              refine (AllReadyH.cons rfl (fun K hK => ?_) AllReadyH.nil)
              refine step_app rfl (.tmp 58) (.tmp 60) 36 36 rfl wr.heap.size 9 i0 (.string ⟨#[]⟩) 1 16 Tryz.underlying36 hi0 hz0 hz1 hz2 rfl v43 j ((ns.take j).map sV) (by rfl) HO43.out (.slice (some ⟨z41, 0, none⟩) 1 1) 1 ([.string (bs s)] : List Value) (by rfl) (src_block Tryz.underlying36 _ z41 (([.string (bs s)] : List Value)).toArray HY43_6.out rfl (by simp [Value.oneCell'])) (by have := HNL.out; have := HJ.out; unfold maxLen; omega) (by have := HNL.out; have := HJ.out; omega) HB43.out.size ?_
              intro v44 w44x ho44 hg44 hn44 hk44
              have HO44 : Hid (w44x.ownsRow wr.heap.size 9 1 v44 (j + 1) (((ns.take j).map sV) ++ [.string (bs s)])) := Lib.hid (by exact ho44)
              have hb44 : Below wr.heap.size wr w44x := HB43.out.trans ((Fr.of_grown hg44).below (by intro y hy; exact own_lo HO43.out (Option.mem_toList.1 hy)) HB43.out.size)
              have HB44 := Lib.hid hb44
              refine hK.out _ _ (HSS.out _ hb44) (fun hS44 => ?_)
              clear hK K hb44 ho44 hg44 hn44 hk44 hS43
              (try simp only [Act.put]); (try simp only [List.setIfInBounds_toArray]); (try simp only [List.set_cons_succ]); (try simp only [List.set_cons_zero])
              refine wpAnyH_ready (rs := [11]) (by kernel_rfl) (by simp) ?_
              refine (AllReadyH.cons rfl (fun K hK => ?_) AllReadyH.nil)
              refine step_app rfl (.tmp 61) (.tmp 64) 36 36 rfl wr.heap.size 9 i0 (.string ⟨#[]⟩) 1 16 Tryz.underlying36 hi0 hz0 hz1 hz2 rfl v44 (j + 1) (((ns.take j).map sV) ++ [.string (bs s)]) (by rfl) HO44.out (.slice (if c3 = j then some ⟨q0, 0, none⟩ else some ⟨q0, j, none⟩) (ns.length - j) (c3 - j)) (ns.length - j) ((ns.drop j).map sV) (by rfl) (Row.src Tryz.underlying36 (by have := row_partN (own_fr HO.out (Fr.of_below HB44.out []) (fun _ _ => by simp)) (sV_one ns) (o := j) (m := ns.length - j) (c' := c3 - j) (by have := HJ.out; omega) (by omega) (by omega) (if c3 = j then some ⟨q0, 0, none⟩ else some ⟨q0, j, none⟩) (by split <;> simp) (fun _ => by rw [if_neg (by have := HJ.out; omega)]); rw [List.take_of_length_le (by simp)] at this; simpa [List.map_drop] using this)) (by have := HNL.out; have := HJ.out; unfold maxLen; omega) (by have := HNL.out; have := HJ.out; omega) HB44.out.size ?_
              intro v45 w45x ho45 hg45 hn45 hk45
              have HO45 : Hid (w45x.ownsRow wr.heap.size 9 1 v45 (j + 1 + (ns.length - j)) (((ns.take j).map sV) ++ [.string (bs s)] ++ ((ns.drop j).map sV))) := Lib.hid (by exact ho45)
              have hb45 : Below wr.heap.size wr w45x := HB44.out.trans ((Fr.of_grown hg45).below (by intro y hy; exact own_lo HO44.out (Option.mem_toList.1 hy)) HB44.out.size)
              have HB45 := Lib.hid hb45
              refine hK.out _ _ (HSS.out _ hb45) (fun hS45 => ?_)
              clear hK K hb45 ho45 hg45 hn45 hk45 hS44
              (try simp only [Act.put]); (try simp only [List.setIfInBounds_toArray]); (try simp only [List.set_cons_succ]); (try simp only [List.set_cons_zero])
              refine wpAnyH_take (i := 12) (v := ?v30) rfl (by kernel_rfl) (by kernel_rfl) (by kernel_rfl) (fun _ _ _ h => h) (Or.inl ⟨by rfl, ?hy30⟩) (by assumption) ?rest30
              case hy30 => (intro _ hSw; (try dsimp only at hSw); go_simp; (try with_reducible rfl))
              (try simp only [Act.put]); (try simp only [List.setIfInBounds_toArray]); (try simp only [List.set_cons_succ]); (try simp only [List.set_cons_zero])
              refine wpAnyH_done (by kernel_rfl) ?_ _
              refine NoPanic.normal ?_
              clear hS45 hHeld
              generalize (if c3 = j then some (⟨q0, 0, none⟩ : Addr) else some ⟨q0, j, none⟩) = pp
              have HWB : Hid (Below w2.heap.size w2 w45x) := Lib.hid (below_and HB.out HB45.out)
              have HNW : Hid (w45x.ownsRow w.heap.size 9 1 v45 (namesD (L.take (i + 1))).length ((namesD (L.take (i + 1))).map sV)) := Lib.hid (by
                have ho := own_mono HO45.out HBr.out.size
                rw [HNX.out]
                have e1 : (((ns.take j).map sV) ++ [.string (bs s)] ++ ((ns.drop j).map sV)) = ((ns.take j ++ [s] ++ ns.drop j).map sV) := by simp [sV]
                have e2 : (j + 1 + (ns.length - j)) = (ns.take j ++ [s] ++ ns.drop j).length := by have := HJ.out; simp <;> omega
                rw [e1, e2] at ho
                exact ho)
              go_wp2
              go_roundw
              case rel => exact ⟨i + 1, hlt, by go_num, HNW, HWB⟩
              case measure => simp [intOf]; omega
end Go.Proofs.YtdnoceancoclmaaGreatDoor.Ru
